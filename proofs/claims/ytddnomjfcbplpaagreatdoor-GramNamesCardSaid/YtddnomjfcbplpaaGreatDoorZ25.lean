import Derived.Deep.CutBlock
import Derived.Lib.ItoaLen
import Derived.Test.YtddnomjfcbplpaaGreatDoorZ24
namespace Go.Proofs.YtddnomjfcbplpaaGreatDoor
open Go.RowKit Go.Maps

namespace Sp
theorem altGo_sym (n k : Nat) (w : Part) (l : List Part) (p : Prod) (inner : Nat) (s : Mk) (h : w.code = []) :
  kH n k (w :: l) (p, inner, s) = kH n (k + 1) l ({ p with right := p.right ++ [zAL s w.sym], prec := if zAL s w.sym < 1000 then zAL s w.sym else p.prec }, inner, s) := by
 conv => lhs; unfold kH
 rw [if_pos h]
theorem altGo_last (n k : Nat) (w : Part) (l : List Part) (p : Prod) (inner : Nat) (s : Mk) (h : w.code ≠ []) (hk : k + 1 = n) :
  kH n k (w :: l) (p, inner, s) = kH n (k + 1) l ({ p with code := w.code, at_ := w.at_ }, inner, s) := by
 conv => lhs; unfold kH
 rw [if_neg h, if_pos hk]
theorem altGo_inner (n k : Nat) (w : Part) (l : List Part) (p : Prod) (inner : Nat) (s : Mk) (h : w.code ≠ []) (hk : k + 1 ≠ n) :
  kH n k (w :: l) (p, inner, s) = kH n (k + 1) l ({ p with right := p.right ++ [1000 + ((s.nons.length + 1 : Nat) : Int) - 1] }, inner + 1, { s with nons := s.nons ++ [⟨64 :: Lib.itoa ((inner + 1 : Nat) : Int), []⟩], prods := s.prods ++ [⟨((s.nons.length + 1 : Nat) : Int) - 1, [], -1, w.code, p.right, w.at_⟩] }) := by
 conv => lhs; unfold kH
 rw [if_neg h, if_neg hk]; simp only [List.length_append, List.length_cons, List.length_nil]
end Sp
def AltPost (B m : Nat) (x : Sp.zM) (v : MkV) (W : World) (r : Nat × Sp.Mk) (e : Ending) (w' : World) : Prop :=
 e = .returned (.int .i64 (r.1 : Int)) ∧ ∃ v', zS B w' m x r.2 v' 0 0 [] ∧ MkFr m v v' W w' ∧ v'.dv = v.dv ∧ v'.rv = v.rv
def qA (s : Sp.Mk) (inner T : Nat) : Prop := s.nons.length ≤ T ∧ s.prods.length ≤ T ∧ inner ≤ T
theorem qA.up {s : Sp.Mk} {i T : Nat} (h : qA s i T) : qA s i (T + 1) := by unfold qA at *; omega
structure AltK (s0 s : Sp.Mk) (inner T k : Nat) (p : Sp.Prod) (rv : Value) : Prop where
 bound : qA s inner (T + k)
 right : p.right.length ≤ k
 args : p.args = []
 toks : s.toks = s0.toks
 lefts : s.lefts = s0.lefts
 nil : p.right = [] → rv = .slice none 0 0
 pos : 0 < s.nons.length
theorem qW.belowB {B : Nat} {W : World} {m : Nat} {x : Sp.zM} {v0 : MkV} {ac : Array Value} {s s0 : Sp.Mk} {v : MkV} {p : Sp.Prod} {rv : Value} {w : World} (h : qW B W m x v0 ac s v p rv w) (h0 : zS B W m x s0 v0 0 0 []) : Below B W w := MkFr.belowB h0 h.fr
theorem info_prodE : (Tryz.prog.info? 68).map (fun i => (i.zero, i.size, i.bytes)) = some (some (.agg #[.int .i64 0, .slice none 0 0, .int .i64 0, .string ⟨#[]⟩, .slice none 0 0, .int .i64 0]), 6, 88) := by kernel_rfl
theorem zZ.pv {B : Nat} {w : World} {v : Value} {l : List Sp.Prod} {S : Nat → Prop} (h : zZ B w v l S) : zZ B w v l (fun c => S c ∧ v.ownBlock ≠ some c) := by
 obtain ⟨f, g, h1, h2⟩ := h
 have key : ∀ {b n : Nat} {u : Value} {xs : List Value}, w.ownsRow b 3 1 u n xs → ∀ c, u.ownBlock = some c → v.ownBlock ≠ some c := by
  intro b n u xs k c hc e; rcases h1.2 with ⟨e0, _⟩ | ⟨g, cap, cur, e0, _, hgg, _⟩
  ·rw [e0] at e; simp [Value.ownBlock] at e
  ·rw [e0] at e
   simp [Value.ownBlock] at e; subst e; exact qY k hgg (by decide) _ hc rfl
 refine ⟨f, g, h1, fun i p hp => ⟨(h2 i p hp).1, fun c hc => ⟨(h2 i p hp).2.1 c hc, ?_⟩, fun c hc => ⟨(h2 i p hp).2.2 c hc, ?_⟩⟩⟩
 ·obtain ⟨⟨b, k⟩, _⟩ := (h2 i p hp).1
  exact key k c hc
 ·obtain ⟨_, b, k⟩ := (h2 i p hp).1
  exact key k c hc
theorem qW.nrow {B : Nat} {W : World} {m : Nat} {x : Sp.zM} {v0 : MkV} {ac : Array Value} {s : Sp.Mk} {v : MkV} {p : Sp.Prod} {rv : Value} {w : World} {gn n cn : Nat} (h : qW B W m x v0 ac s v p rv w) (hv : v.nv = .slice (some ⟨gn, 0, none⟩) n cn) (hn : n = s.nons.length) : w.ownsRow B 89 2 (.slice (some ⟨gn, 0, none⟩) n cn) n (s.nons.map nonC).flatten := by
 have h1 := h.mkr.nons; rw [hv, ← hn] at h1; exact h1
set_option maxRecDepth 100000 in
set_option maxHeartbeats 12800000 in
theorem maker_alt {W0 W : World} {m : Nat} {x : Sp.zM} {s : Sp.Mk} {v : MkV} (left : Int) (a : Sp.Alt) (pav : Value) (inner T : Nat) (h : zS W0.heap.size W m x s v 0 0 []) (hw : Below W0.heap.size W0 W) (hps : SlAt W0 pav 6 (a.parts.map z6)) (hsm : zBD a) (hl62 : s.lefts.length ≤ 2 ^ 62) (hg : Gl W0) (hT : T ≤ 2 ^ 38) (hb : qA s inner T) (hpos : 0 < s.nons.length) :
  Calls Tryz.prog 68 #[.pointer (some ⟨m, 0, none⟩), .int .i64 left, .agg (altC pav a).toArray, .int .i64 (inner : Int)] W (AltPost W0.heap.size m x v W (Sp.altMk left a inner s)) := by
 obtain ⟨parts, ⟨qn, ql, qu, qa⟩, ap⟩ := a; obtain ⟨pa, pc, rfl⟩ := hps.form; simp only [List.length_map] at hps ⊢; obtain ⟨np, hnp⟩ : ∃ np, np = parts.length := ⟨_, rfl⟩
 have hnp4 : np ≤ 4000 := by have h := hsm.1; simp only at h; omega
 rw [← hnp] at hps ⊢; show Calls _ _ #[_, _, .agg #[.slice pa np pc, .string ⟨qn.toArray⟩, .bool ql, .int .i64 qu, .int .i64 qa, .int .i64 ap], _] _ _
 obtain ⟨RR, hRR⟩ : ∃ RR, RR = Sp.kH np 0 parts (⟨left, [], -1, [], [], ap⟩, inner, s) := ⟨_, rfl⟩
 have HR := zh hRR; have HH := zh h; have HW := zh hw; have HPS := zh hps; have HSM := zh hsm; have HL := zh hl62; have HGL := zh hg; have HT := zh hT; have HB := zh hb; have HNP := zh hnp; have HPOS := zh hpos; have hlm := zC h.block; clear hRR h hw hps hsm hl62 hg hT hb hnp hpos; go_enter Tryz.func68, Tryz.ntmps68
 go_upto_region 2 with fail
 obtain ⟨w1, hw1⟩ : ∃ w1, w1 = (W.alloc (.cells #[.slice pa np pc, .string ⟨qn.toArray⟩, .bool ql, .int .i64 qu, .int .i64 qa, .int .i64 ap] 60)).alloc (.cells #[.int .i64 left, .slice none 0 0, .int .i64 (-1), .string ⟨#[]⟩, .slice none 0 0, .int .i64 ap] 68) := ⟨_, rfl⟩
 have hst : qW W0.heap.size W m x v #[.slice pa np pc, .string ⟨qn.toArray⟩, .bool ql, .int .i64 qu, .int .i64 qa, .int .i64 ap] s v ⟨left, [], -1, [], [], ap⟩ (.slice none 0 0) w1 := by
  have hb1 : Below W.heap.size W w1 := by rw [hw1]; exact ((Below.refl _ W).alloc (Nat.le_refl _) _).alloc (by simp) _
  refine ⟨zU HH.out hb1, (zZ.of_own HH.out.prods (fun _ _ e => by simp [Value.ownBlock] at e)).below hb1, World.ownsRow_nil _ _ _ _, ?_, ?_, MkFr.below v hb1, fun hm => ?_, rfl, rfl⟩
  ·rw [hw1]; exact xJ W _ _
  ·rw [hw1]; exact (Below.heap_alloc _ _ _ (by simp)).trans (zE W _)
  ·have := HH.out.lt_own _ hm; omega
 rw [← hw1]; have a0 := zc 0 hst.abox; have hla := zC hst.abox; have HST := zh hst; clear hst hw1; go_wp2_with fail; clear a0 hla hlm; go_loopg [3, 20] np (fun q iv3 iv wr => ∃ (k inner1 : Nat) (s1 : Sp.Mk) (v1 : MkV) (p1 : Sp.Prod) (rv1 : Value), k ≤ np ∧ q = np - k ∧ iv3 = .int .i64 inner1 ∧ iv = .int .i64 k ∧ qW W0.heap.size W m x v #[.slice pa np pc, .string ⟨qn.toArray⟩, .bool ql, .int .i64 qu, .int .i64 qa, .int .i64 ap] s1 v1 p1 rv1 wr ∧ AltK s s1 inner1 T k p1 rv1 ∧ Sp.kH np k (parts.drop k) (p1, inner1, s1) = RR)
 case atStart => exact ⟨0, inner, s, v, _, _, Nat.zero_le _, rfl, rfl, rfl, HST.out, ⟨HB.out, Nat.le_refl _, rfl, rfl, rfl, fun _ => rfl, HPOS.out⟩, HR.out.symm⟩
 case round =>
  have HR0 := HR; clear HST HR HB; obtain ⟨k, inner1, s1, v1, p1, rv1, hk, rfl, rfl, rfl, hst, hak, hR⟩ := hrel; have HST := zh hst; have HAK := zh hak; have HRR := zh hR; have hk0 : (0 : Int) ≤ (k : Int) := Int.natCast_nonneg _; clear hst hak hR; by_cases hkn : k < np
  ·have hk1 : (k : Int) < (np : Int) := by omega
   go_upto_block 1 with fail
   go_cut [3] (fun c3 wx => ∃ (inner2 : Nat) (s2 : Sp.Mk) (v2 : MkV) (p2 : Sp.Prod) (rv2 : Value), c3 = .int .i64 inner2 ∧ qW W0.heap.size W m x v #[.slice pa np pc, .string ⟨qn.toArray⟩, .bool ql, .int .i64 qu, .int .i64 qa, .int .i64 ap] s2 v2 p2 rv2 wx ∧ AltK s s2 inner2 T (k + 1) p2 rv2 ∧ Sp.kH np (k + 1) (parts.drop (k + 1)) (p2, inner2, s2) = RR)
   case first =>
    have hkd : k < parts.length := by have := HNP.out; omega
    obtain ⟨⟨⟨nm, lt, nu, pp⟩, cd, cp⟩, hdk, hdr, hmem⟩ := qO hkd; have hsp := HSM.out.2.1 _ hmem; have hR := HRR.out; rw [hdr] at hR; obtain ⟨bd, od, rfl, hbd, hcd⟩ := HPS.out.at (k := k) (row := z6 ⟨⟨nm, lt, nu, pp⟩, cd, cp⟩) (by rw [List.getElem?_map, hdk]; rfl); have hbw : Below W0.heap.size W0 wr := HW.out.trans (HST.out.belowB HH.out); have hcells := hcd wr hbw; have r0 := hcells 0 _ rfl; have r1 := hcells 1 _ rfl; have r2 := hcells 2 _ rfl; have r3 := hcells 3 _ rfl; have r4 := hcells 4 _ rfl; have r5 := hcells 5 _ rfl; simp only [Nat.add_zero] at r0 r1 r2 r3 r4 r5; have hlb : bd < wr.heap.size := by have := hbw.size; omega
    have HBW := zh hbw; clear HRR; have HRR := zh hR; have hnml : nm.length ≤ maxLen := by have h := hsp.1; unfold maxLen; simp only at h; omega
    clear hcells hcd hdr hdk hmem hR hbw hsp; obtain ⟨gp, hgp⟩ : ∃ gp, gp = wr.heap.size := ⟨_, rfl⟩
    obtain ⟨w2, hw2⟩ : ∃ w2, w2 = wr.alloc (.cells #[.string ⟨nm.toArray⟩, .bool lt, .int .i64 nu, .int .i64 pp, .string ⟨cd.toArray⟩, .int .i64 cp] 47) := ⟨_, rfl⟩
    have hbx : w2.heap[gp]? = some (.cells #[.string ⟨nm.toArray⟩, .bool lt, .int .i64 nu, .int .i64 pp, .string ⟨cd.toArray⟩, .int .i64 cp] 47 (0, 0)) := by rw [hw2, hgp]; exact zE wr _
    have hb12 : Below wr.heap.size wr w2 := by rw [hw2]; exact (Below.refl _ wr).alloc (Nat.le_refl _) _
    have HST2 := zh (HST.out.below hb12); have HBW2 := zh (HBW.out.trans (hb12.mono HBW.out.size)); have HBX := zh hbx; go_upto_region 9 with fail
    rw [← hgp, ← hw2]; clear hgp hw2 hbx hb12 r0 r1 r2 r3 r4 r5
    cases cd with
    | nil =>
     have HR1 := HRR.out; rw [Sp.altGo_sym _ _ _ _ _ _ _ rfl] at HR1; have HSY := zh (fun (w' : World) (hb : Below w2.heap.size w2 w') => (show Calls Tryz.prog 86 #[.pointer (some ⟨m, 0, none⟩), .agg #[.string ⟨nm.toArray⟩, .bool lt, .int .i64 nu, .int .i64 pp]] w' (fun e w'' => e = .returned (.int .i64 (Sp.zAL s1 ⟨nm, lt, nu, pp⟩)) ∧ Below w'.heap.size w' w'') from maker_symbol ⟨nm, lt, nu, pp⟩ (zU HST2.out.mkr hb) (by rw [HAK.out.lefts]; exact HL.out) hnml)); generalize Sp.zAL s1 ⟨nm, lt, nu, pp⟩ = cc at *
     have HRC := zh HR1; clear HR1
     have HSK := zh (fun (w' : World) (hb : Below w2.heap.size w2 w') => (show (w'.cell? ⟨W.heap.size + 1, 1, none⟩ = some rv1 ∧ w'.frozen? ⟨W.heap.size + 1, 1, none⟩ = false ∧ w'.cell? ⟨gp, 0, none⟩ = some (.string ⟨nm.toArray⟩) ∧ w'.cell? ⟨gp, 1, none⟩ = some (.bool lt) ∧ w'.cell? ⟨gp, 2, none⟩ = some (.int .i64 nu) ∧ w'.cell? ⟨gp, 3, none⟩ = some (.int .i64 pp)) from by
      have h1 := (HST2.out.below hb).box; have h2 := (hb.block gp (zC HBX.out)).trans HBX.out
      exact ⟨zc 1 h1, zf 1 h1, zc 0 h2, zc 1 h2, zc 2 h2, zc 3 h2⟩))
     have HSK2 := zh (fun (w3 : World) (hb : Below w2.heap.size w2 w3) (w' : World) (kp : Kp (fun b => rv1.ownBlock ≠ some b) w3 w') => (show (w'.cell? ⟨W.heap.size + 1, 1, none⟩ = some rv1 ∧ w'.frozen? ⟨W.heap.size + 1, 1, none⟩ = false ∧ w'.cell? ⟨gp, 0, none⟩ = some (.string ⟨nm.toArray⟩) ∧ w'.cell? ⟨gp, 1, none⟩ = some (.bool lt) ∧ w'.cell? ⟨gp, 2, none⟩ = some (.int .i64 nu) ∧ w'.cell? ⟨gp, 3, none⟩ = some (.int .i64 pp)) from by
      have hs := HST2.out.below hb; have h1 := kp.at hs.box (hs.rv_ne hs.box (by decide)); have h3 := (hb.block gp (zC HBX.out)).trans HBX.out; have h2 := kp.at h3 (hs.rv_ne h3 (by decide))
      exact ⟨zc 1 h1, zf 1 h1, zc 0 h2, zc 1 h2, zc 2 h2, zc 3 h2⟩))
     obtain ⟨ii0, hii0, hiz0, hiz1, hiz2⟩ := info_parts zAC; have hpr : p1.right.length ≤ 4000 := by have := HAK.out.right; omega
     have c4 := zc 4 HBX.out; have hlgp := zC HBX.out; go_upto_region 10 with fail
     refine zF (fun w' : World => (w'.cell? ⟨W.heap.size + 1, 1, none⟩ = some rv1 ∧ w'.frozen? ⟨W.heap.size + 1, 1, none⟩ = false ∧ w'.cell? ⟨gp, 0, none⟩ = some (.string ⟨nm.toArray⟩) ∧ w'.cell? ⟨gp, 1, none⟩ = some (.bool lt) ∧ w'.cell? ⟨gp, 2, none⟩ = some (.int .i64 nu) ∧ w'.cell? ⟨gp, 3, none⟩ = some (.int .i64 pp))) [9] (.take 0 (.take 1 (.take 2 (.take 3 (.take 4 (.one 5 (.one 6 (.one 7 (.one 8 (.one 9 (.done))))))))))) (by kernel_rfl) (by kernel_rfl) (fun _ _ _ _ h => h) ?_; have hSw := HSK.out _ (below_drewN (Below.refl _ w2) 1); iterate 5 (refine zN (v := ?_) rfl hSw (by rfl) ?_ ?_; rotate_left 1; (focus (intro w hSx; (try dsimp only at hSx); go_simp; try rfl)); (try simp only [Act.put, zq0, zq1, zq2]))
     refine zB rfl (by rfl) (fun K' hK => ?_)
     (go_simp; go_at_call 86; refine (HSY.out _ (by first | exact Below.refl _ _ | exact below_drewN (Below.refl _ w2) 1)).mono ?_; rintro e w3 ⟨rfl, hb3'⟩; have hb3 : Below w2.heap.size w2 w3 := zI hb3'; have HST3 := zh (HST2.out.below hb3); have hsz3 := HST3.out.size; clear hb3')
     refine hK _ _ (.inr (HSK.out _ hb3)) ?_; clear hK K' hSw; (try simp only [Act.put, zq0, zq1, zq2]); refine zB rfl (by rfl) (fun K' hK => ?_); go_simp; refine hK _ _ (.inr (HSK.out _ (hb3.alloc hb3.size (.cells #[.int .i64 cc] 3)))) ?_; clear hK K'; (try simp only [Act.put, zq0, zq1, zq2]); refine zB rfl (by rfl) (fun K' hK => ?_)
     (refine wp_append_lies _ _ _ _ (by rfl) W.heap.size 3 ii0 _ 1 8 Tryz.underlying30 hii0 hiz0 hiz1 hiz2 rfl (by omega) _ _ _ (by rfl) (HST3.out.row.alloc _) ⟨w3.heap.size, 0, none⟩ 1 1 [.int .i64 cc] (by rfl) (by rfl) (World.news_of_block (cs := #[.int .i64 cc]) (t := 3) (fr := (0, 0)) (zE w3 _)) (by simp [Value.oneCell']) (by omega) (by unfold maxLen; omega) (by omega) (by show W.heap.size ≤ (w3.alloc (.cells #[.int .i64 cc] 3)).heap.size; simp only [World.size_alloc]; omega) _ rfl ?_; intro g1 c1 w5 hown1 hgrow1 hat1 hlt1; replace hgrow1 : (w3.alloc (.cells #[.int .i64 cc] 3)).grownBy w5 rv1.ownBlock := ⟨hgrow1.os, hgrow1.tape, hgrow1.output, hgrow1.size, hgrow1.block⟩; have hk5 : Kp (fun b => rv1.ownBlock ≠ some b) w3 w5 := ((Kp.refl _ w3).alloc (.cells #[.int .i64 cc] 3)).grown hgrow1 (fun k hk hs => hs hk); have hWle : w3.heap.size ≤ (w3.alloc (.cells #[.int .i64 cc] 3)).heap.size := (by simp only [World.size_alloc]; omega))
     refine hK _ _ (.inr (HSK2.out _ hb3 _ hk5)) ?_; clear hK K'; (try simp only [Act.put, zq0, zq1, zq2]); refine zB rfl (by rfl) (fun K' hK => ?_)
     (obtain ⟨z1, z2, _⟩ := HSK2.out _ hb3 _ hk5; have hlz : W.heap.size + 1 < w5.heap.size := Nat.lt_of_lt_of_le hsz3 hk5.size; go_simp)
     refine hK _ _ (.inr (HSK2.out _ hb3 _ hk5)) ?_; clear hK K'; (try simp only [Act.put, zq0, zq1, zq2]); refine zB rfl (by rfl) (fun K' hK => ?_)
     (obtain ⟨z1, z2, _⟩ := HSK2.out _ hb3 _ hk5; go_simp)
     refine hK _ _ (.inl rfl) ?_; clear hK K'; (try simp only [Act.put, zq0, zq1, zq2]); refine zH ?_; have hst6 := HST3.out.push rfl hown1 hk5 (hat1.imp id (fun e => by rw [e]; exact hWle)); have HST6 := zh hst6; obtain ⟨nr, hnr⟩ : ∃ nr, nr = p1.right.length := ⟨_, rfl⟩
     rw [← hnr] at hst6 hpr ⊢; obtain ⟨w6, hw6⟩ : ∃ w6, w6 = w5.setCell ⟨W.heap.size + 1, 1, none⟩ (.slice (some ⟨g1, 0, none⟩) (nr + 1) c1) := ⟨_, rfl⟩
     rw [← hw6] at hst6 ⊢; have q1 : w6.cell? ⟨W.heap.size + 1, 1, none⟩ = some (.slice (some ⟨g1, 0, none⟩) (nr + 1) c1) := zc 1 hst6.box
     have q2 : w6.cell? ⟨g1, nr, none⟩ = some (.int .i64 cc) := by
      have hrw := hst6.row; dsimp only at hrw; rw [show (p1.right ++ [cc]).length = nr + 1 by rw [List.length_append, ← hnr]; rfl] at hrw; rw [hrw.cellAt nr (by omega)]; unfold yJ; simp [hnr]
     have q3 : w6.frozen? ⟨W.heap.size + 1, 2, none⟩ = false := zf 2 hst6.box; have q4 : w6.cell? ⟨W.heap.size + 1, 2, none⟩ = some (.int .i64 p1.prec) := zc 2 hst6.box; have hl6 := hst6.size; have hlg1 : g1 < w6.heap.size := (hst6.row.lt g1 rfl).2; have HST7 := zh hst6; have HNR := zh hnr; clear hst6 hnr hw6 hown1 hk5 hat1 hgrow1 hlt1 hWle; have hnr0 : (0 : Int) ≤ (nr : Int) := Int.natCast_nonneg _; by_cases hc : cc < 1000
     ·have HRE : Hid (Sp.kH np (k + 1) (parts.drop (k + 1)) ({ p1 with right := p1.right ++ [cc], prec := cc }, inner1, s1) = RR) := zh (by have h := HRC.out; simp only [if_pos hc] at h; exact h)
      go_wp2_with fail; go_meet; exact ⟨inner1, s1, v1, { p1 with right := p1.right ++ [cc], prec := cc }, _, rfl, HST7.out.cell (i := 2) rfl rfl, ⟨HAK.out.bound.up, by simp only [List.length_append, List.length_cons, List.length_nil]; have := HAK.out.right; omega, HAK.out.args, HAK.out.toks, HAK.out.lefts, fun e => by simp at e, HAK.out.pos⟩, HRE.out⟩
     ·have HRE : Hid (Sp.kH np (k + 1) (parts.drop (k + 1)) ({ p1 with right := p1.right ++ [cc] }, inner1, s1) = RR) := zh (by have h := HRC.out; simp only [if_neg hc] at h; exact h)
      go_wp2_with fail; go_meet; exact ⟨inner1, s1, v1, { p1 with right := p1.right ++ [cc] }, _, rfl, HST7.out, ⟨HAK.out.bound.up, by simp only [List.length_append, List.length_cons, List.length_nil]; have := HAK.out.right; omega, HAK.out.args, HAK.out.toks, HAK.out.lefts, fun e => by simp at e, HAK.out.pos⟩, HRE.out⟩
    | cons c0 A0 =>
     have hlgp := zC HBX.out; have e4 := zc 4 HBX.out; have hab := HST2.out.abox; have a0 := zc 0 hab; have hla := zC hab
     have hgpx : gp ≠ W.heap.size + 1 := by
      intro e; have h1 := HBX.out; rw [e, HST2.out.box] at h1; simp only [Option.some.injEq, Obj.cells.injEq] at h1; exact absurd h1.2.1 (by decide)
     have hl2 := HST2.out.size; by_cases hkl : k + 1 = np
     ·have HR1 := HRR.out
      rw [Sp.altGo_last _ _ _ _ _ _ _ (by simp) hkl] at HR1; have HRE := zh HR1
      have HSK := zh (fun (w' : World) (kp : Kp (fun b => b ≠ W.heap.size + 1) w2 w') => (show (w'.cell? ⟨gp, 4, none⟩ = some (.string ⟨(c0 :: A0).toArray⟩) ∧ w'.cell? ⟨gp, 5, none⟩ = some (.int .i64 cp)) from by
       have h2 := kp.at HBX.out hgpx
       exact ⟨zc 4 h2, zc 5 h2⟩))
      have hkb : ((k : Int) == (np : Int) - 1) = true := by rw [beq_iff_eq]; omega
      have HGX := zh hgpx; have x3 : w2.cell? ⟨W.heap.size + 1, 3, none⟩ = some (.string ⟨p1.code.toArray⟩) := zc 3 HST2.out.box; have x5 : w2.cell? ⟨W.heap.size + 1, 5, none⟩ = some (.int .i64 p1.at_) := zc 5 HST2.out.box; have y3 : w2.frozen? ⟨W.heap.size + 1, 3, none⟩ = false := zf 3 HST2.out.box; have y5 : w2.frozen? ⟨W.heap.size + 1, 5, none⟩ = false := zf 5 HST2.out.box; clear HR1 hab hgpx; go_upto_region 15 with fail
      refine zF (fun w' : World => (w'.cell? ⟨gp, 4, none⟩ = some (.string ⟨(c0 :: A0).toArray⟩) ∧ w'.cell? ⟨gp, 5, none⟩ = some (.int .i64 cp))) [] (.take 0 (.take 1 (.take 2 (.take 3 (.take 4 (.one 5 (.take 6 (.one 7 (.done))))))))) (by kernel_rfl) (by kernel_rfl) (fun _ _ _ _ h => h) ?_; have hSw := HSK.out _ ((Kp.refl _ w2).drew); iterate 5 (refine zN (v := ?_) rfl hSw (by rfl) ?_ ?_; rotate_left 1; (focus (intro w hSx; (try dsimp only at hSx); go_simp; try rfl)); (try simp only [Act.put, zq0, zq1, zq2]))
      refine zB rfl (by rfl) (fun K' hK => ?_); go_simp; refine hK _ _ (.inr (HSK.out _ (((Kp.refl _ w2).drew).setCell (p := ⟨W.heap.size + 1, 3, none⟩) (by simp) (.string ⟨(c0 :: A0).toArray⟩)))) ?_; clear hK K' hSw; have hSw := HSK.out _ (((Kp.refl _ w2).drew).setCell (p := ⟨W.heap.size + 1, 3, none⟩) (by simp) (.string ⟨(c0 :: A0).toArray⟩)); (try simp only [Act.put, zq0, zq1, zq2])
      (refine zN (v := ?_) rfl hSw (by rfl) ?_ ?_; rotate_left 1; (focus (intro w hSx; (try dsimp only at hSx); go_simp; try rfl)); (try simp only [Act.put, zq0, zq1, zq2]))
      refine zB rfl (by rfl) (fun K' hK => ?_); go_simp; refine hK _ _ (.inr (HSK.out _ ((((Kp.refl _ w2).drew).setCell (p := ⟨W.heap.size + 1, 3, none⟩) (by simp) (.string ⟨(c0 :: A0).toArray⟩)).setCell (p := ⟨W.heap.size + 1, 5, none⟩) (by simp) (.int .i64 cp)))) ?_; clear hK K' hSw; (try simp only [Act.put, zq0, zq1, zq2]); refine zH ?_; go_wp2_with fail; go_meet; have h1 := (HST2.out.below (below_drewN (Below.refl _ w2) 1)).cell (i := 3) (u := .string ⟨(c0 :: A0).toArray⟩) (p' := { p1 with code := c0 :: A0 }) rfl rfl; exact ⟨inner1, s1, v1, { p1 with code := c0 :: A0, at_ := cp }, _, rfl, h1.cell (i := 5) rfl rfl, ⟨HAK.out.bound.up, by have := HAK.out.right; simp only; omega, HAK.out.args, HAK.out.toks, HAK.out.lefts, HAK.out.nil, HAK.out.pos⟩, HRE.out⟩
     ·have HR1 := HRR.out
      rw [Sp.altGo_inner _ _ _ _ _ _ _ (by simp) hkl] at HR1; have HRC := zh HR1; have hkb : ((k : Int) == (np : Int) - 1) = false := by rw [beq_eq_false_iff_ne]; omega
      have HGX := zh hgpx; clear HR1 hab hgpx; obtain ⟨ra, rc, rfl⟩ := zJ HST.out.row; have hib : inner1 ≤ 2 ^ 39 := by have := HAK.out.bound.2.2; have := HT.out; omega
      obtain ⟨L, hL⟩ : ∃ L, L = Lib.itoa ((inner1 : Int) + 1) := ⟨_, rfl⟩
      have HIT := zh (fun (w' : World) (hb : Below w2.heap.size w2 w') => (show Calls Tryz.prog 87 #[.int .i64 ((inner1 : Int) + 1)] w' (fun e w'' => e = .returned (.string ⟨L.toArray⟩) ∧ Below w'.heap.size w' w'') from by
       rw [hL]
       exact strconv_Itoa_gl ((inner1 : Int) + 1) (by omega) (by omega) w' (HGL.out.below (HBW2.out.trans (hb.mono HBW2.out.size)))))
      have hLn : L.length ≤ 21 := by rw [hL]; exact Lib.itoa_length_le _ (by omega) (by omega)
      have hszL : ¬ 9223372036854775807 < 1 + L.length := by omega
      have hcat : (⟨#[64]⟩ : ByteArray) ++ (⟨L.toArray⟩ : ByteArray) = ⟨(64 :: L).toArray⟩ := by
       apply ByteArray.ext
       rw [ByteArray.data_append]; simp
      have HLI := zh hL; have hno := HST2.out.mkr.nons; obtain ⟨gn, cn, hnv⟩ := yB hno HAK.out.pos; obtain ⟨nn, hnn⟩ : ∃ nn, nn = s1.nons.length := ⟨_, rfl⟩
      rw [← hnn] at hnv; have HNL : Hid (nn ≤ 2 ^ 39) := zh (by have := HAK.out.bound.1; have := HT.out; omega); have HNV := zh hnv; have HNN := zh hnn
      have HSK := zh (fun (w' : World) (hb : Below w2.heap.size w2 w') => (show (w'.cell? ⟨m, 5, none⟩ = some (.slice (some ⟨gn, 0, none⟩) nn cn) ∧ w'.frozen? ⟨m, 5, none⟩ = false) from by
       have h1 := (HST2.out.below hb).mkr.block; unfold zX at h1; rw [HNV.out] at h1
       exact ⟨zc 5 h1, zf 5 h1⟩))
      have HSK2 := zh (fun (w3 : World) (hb : Below w2.heap.size w2 w3) (w' : World) (kp : Kp (fun b => b ≠ gn) w3 w') => (show (w'.cell? ⟨m, 5, none⟩ = some (.slice (some ⟨gn, 0, none⟩) nn cn) ∧ w'.frozen? ⟨m, 5, none⟩ = false) from by
       have hs := HST2.out.below hb; obtain ⟨cu, hcu⟩ := yW (hs.nrow HNV.out HNN.out)
       have h1 := kp.at hs.mkr.block (fun e => by
        have h2 := hs.mkr.block; rw [e, hcu] at h2; simp only [Option.some.injEq, Obj.cells.injEq] at h2
        exact absurd h2.2.1 (by decide))
       unfold zX at h1; rw [HNV.out] at h1
       exact ⟨zc 5 h1, zf 5 h1⟩))
      obtain ⟨in0, hin0, hnz0, hnz1, hnz2⟩ := info_parts info_nonE; have hlm2 : m < w2.heap.size := zC HST2.out.mkr.block; have hwi : IntKind.i64.wrap ((inner1 : Int) + 1) = (inner1 : Int) + 1 := IntWalk.i64_in _ ⟨by omega, by omega⟩; clear hL hno hnv hnn hib hLn; go_upto_region 6 with fail
      refine zF (fun w' : World => (w'.cell? ⟨m, 5, none⟩ = some (.slice (some ⟨gn, 0, none⟩) nn cn) ∧ w'.frozen? ⟨m, 5, none⟩ = false)) [15] (.take 0 (.take 1 (.take 2 (.take 3 (.take 4 (.take 5 (.take 6 (.one 7 (.take 8 (.take 9 (.one 10 (.one 11 (.one 12 (.one 13 (.one 14 (.one 15 (.done))))))))))))))))) (by kernel_rfl) (by kernel_rfl) (fun _ _ _ _ h => h) ?_; have hSw := HSK.out _ (below_drewN (Below.refl _ w2) 1); iterate 7 (refine zN (v := ?_) rfl hSw (by rfl) ?_ ?_; rotate_left 1; (focus (intro w hSx; (try dsimp only at hSx); go_simp; try rfl)); (try simp only [Act.put, zq0, zq1, zq2]))
      refine zB rfl (by rfl) (fun K' hK => ?_)
      (go_simp; go_at_call 87; refine (HIT.out _ (by first | exact Below.refl _ _ | exact below_drewN (Below.refl _ w2) 1)).mono ?_; rintro e w3 ⟨rfl, hb3'⟩; have hb3 : Below w2.heap.size w2 w3 := zI hb3'; have HST3 := zh (HST2.out.below hb3); have hB3 : W0.heap.size ≤ w3.heap.size := Nat.le_trans HBW2.out.size hb3.size; clear hb3')
      refine hK _ _ (.inr (HSK.out _ hb3)) ?_; clear hK K' hSw; have hSw := HSK.out _ hb3; (try simp only [Act.put, zq0, zq1, zq2]); iterate 2 (refine zN (v := ?_) rfl hSw (by rfl) ?_ ?_; rotate_left 1; (focus (intro w hSx; (try dsimp only at hSx); go_simp; try rfl)); (try simp only [Act.put, zq0, zq1, zq2]))
      refine zB rfl (by rfl) (fun K' hK => ?_); go_simp; refine hK _ _ (.inr (HSK.out _ (hb3.alloc hb3.size (.cells #[.string ⟨(64 :: L).toArray⟩, .string ⟨#[]⟩] 89)))) ?_; clear hK K' hSw; (try simp only [Act.put, zq0, zq1, zq2]); refine zB rfl (by rfl) (fun K' hK => ?_)
      (refine wp_append_lies _ _ _ _ (by rfl) W0.heap.size 89 in0 _ 2 32 Tryz.underlying36 hin0 hnz0 hnz1 hnz2 rfl (by omega) _ _ _ (by rfl) ((HST3.out.nrow HNV.out HNN.out).alloc _) ⟨w3.heap.size, 0, none⟩ 1 1 (nonC ⟨64 :: L, []⟩) (by rfl) (by rfl) (World.news_of_block (cs := #[.string ⟨(64 :: L).toArray⟩, .string ⟨#[]⟩]) (t := 89) (fr := (0, 0)) (zE w3 _)) (by simp [Value.oneCell', nonC]) (by omega) (by have := HNL.out; unfold maxLen; omega) (by have := HNL.out; omega) (by show W0.heap.size ≤ (w3.alloc (.cells #[.string ⟨(64 :: L).toArray⟩, .string ⟨#[]⟩] 89)).heap.size; simp only [World.size_alloc]; omega) _ rfl ?_; intro g1 c1 w5 hown1 hgrow1 hat1 hlt1; replace hgrow1 : (w3.alloc (.cells #[.string ⟨(64 :: L).toArray⟩, .string ⟨#[]⟩] 89)).grownBy w5 (Value.slice (some ⟨gn, 0, none⟩) nn cn).ownBlock := ⟨hgrow1.os, hgrow1.tape, hgrow1.output, hgrow1.size, hgrow1.block⟩; have hk5 : Kp (fun b => b ≠ gn) w3 w5 := ((Kp.refl _ w3).alloc (.cells #[.string ⟨(64 :: L).toArray⟩, .string ⟨#[]⟩] 89)).grown hgrow1 (fun k hk hs => hs (Option.some.inj hk).symm); have hWle : w3.heap.size ≤ (w3.alloc (.cells #[.string ⟨(64 :: L).toArray⟩, .string ⟨#[]⟩] 89)).heap.size := (by simp only [World.size_alloc]; omega))
      refine hK _ _ (.inr (HSK2.out _ hb3 _ hk5)) ?_; clear hK K'; (try simp only [Act.put, zq0, zq1, zq2]); iterate 2 (refine zB rfl (by rfl) (fun K' hK => ?_); go_simp; refine hK _ _ (.inr (HSK2.out _ hb3 _ hk5)) ?_; clear hK K'; (try simp only [Act.put, zq0, zq1, zq2]))
      refine zB rfl (by rfl) (fun K' hK => ?_)
      (obtain ⟨z1, z2⟩ := HSK2.out _ hb3 _ hk5; have hlz : m < w5.heap.size := Nat.lt_of_lt_of_le (zC HST3.out.mkr.block) hk5.size; go_simp)
      refine hK _ _ (.inr (HSK2.out _ hb3 _ hk5)) ?_; clear hK K'; (try simp only [Act.put, zq0, zq1, zq2]); refine zB rfl (by rfl) (fun K' hK => ?_); go_simp; refine hK _ _ (.inl rfl) ?_; clear hK K'; (try simp only [Act.put, zq0, zq1, zq2]); refine zH ?_; have hst6 := HST3.out.nons (lf := 64 :: L) (tg := []) HNV.out HNN.out hk5 hown1 (hat1.imp (fun e => (Option.some.inj e).symm) (fun e => by rw [e]; exact hWle)); obtain ⟨w6, hw6⟩ : ∃ w6, w6 = w5.setCell ⟨m, 5, none⟩ (.slice (some ⟨g1, 0, none⟩) (nn + 1) c1) := ⟨_, rfl⟩
      have hbx3 := (hb3.block gp (zC HBX.out)).trans HBX.out
      have hbx6 : w6.heap[gp]? = some (.cells #[.string ⟨nm.toArray⟩, .bool lt, .int .i64 nu, .int .i64 pp, .string ⟨(c0 :: A0).toArray⟩, .int .i64 cp] 47 (0, 0)) := by
       obtain ⟨cu, hcu⟩ := yW (HST3.out.nrow HNV.out HNN.out)
       have h5 := hk5.at hbx3 (fun e => by
        rw [e, hcu] at hbx3; simp only [Option.some.injEq, Obj.cells.injEq] at hbx3
        exact absurd hbx3.2.1 (by decide))
       have hmk := HST3.out.mkr.block
       rw [hw6, Below.heap_setCell _ _ _ _ (fun e => by
        have e' : gp = m := by simpa using e
        rw [e', hmk] at hbx3; simp only [Option.some.injEq, Obj.cells.injEq] at hbx3
        exact absurd hbx3.2.1 (by decide))]
       exact h5
      rw [← hw6] at hst6 ⊢; obtain ⟨fo, go, hpo, hpc⟩ := hst6.off.pv; obtain ⟨qa0, qc0, hpv⟩ := zJ hpo; simp only at hpo hpc hpv; obtain ⟨nq, hnq⟩ : ∃ nq, nq = s1.prods.length := ⟨_, rfl⟩
      rw [← hnq] at hpv; rw [hpv, ← hnq] at hpo; have HST6 := zh hst6; have HPO := zh hpo; have HPC := zh hpc; have HPV := zh hpv; have HBX6 := zh hbx6; have HNQE := zh hnq; have HNQ : Hid (nq ≤ 2 ^ 39) := zh (by have := HAK.out.bound.2.1; have := HT.out; omega); have hlm6 : m < w6.heap.size := zC hst6.mkr.block; have hlg6 : gp < w6.heap.size := zC hbx6; have hl96 := hst6.size; have hB6 : W0.heap.size ≤ w6.heap.size := (HW.out.trans (hst6.belowB HH.out)).size
      have HNIL := zh (show p1.right = [] → ra = none ∧ rc = 0 from fun e => by
       have h := HAK.out.nil e; simp only [Value.slice.injEq] at h
       exact ⟨h.1, h.2.2⟩)
      have hpr : p1.right.length ≤ 4000 := by have := HAK.out.right; omega
      have HSK7 := zh (fun (w' : World) (kp : Kp (fun b => (Value.slice qa0 nq qc0).ownBlock ≠ some b) w6 w') => (show ((w'.cell? ⟨m, 6, none⟩ = some (.slice qa0 nq qc0) ∧ w'.frozen? ⟨m, 6, none⟩ = false) ∧ w'.cell? ⟨m, 5, none⟩ = some (.slice (some ⟨g1, 0, none⟩) (nn + 1) c1) ∧ w'.cell? ⟨gp, 4, none⟩ = some (.string ⟨(c0 :: A0).toArray⟩) ∧ w'.cell? ⟨gp, 5, none⟩ = some (.int .i64 cp) ∧ w'.cell? ⟨W.heap.size + 1, 1, none⟩ = some (.slice ra p1.right.length rc)) from by
       have hmk := HST6.out.mkr.block; obtain ⟨f1, g3, hp1, _⟩ := HST6.out.mkr.prods; rw [show ({ v1 with nv := .slice (some ⟨g1, 0, none⟩) (nn + 1) c1 } : MkV).pv = _ from HPV.out] at hp1; have h1 := kp.at hmk (fun e => zG hp1 hmk (by decide) _ e rfl); unfold zX at h1; simp only [HPV.out] at h1; have h2 := kp.at HBX6.out (fun e => zG hp1 HBX6.out (by decide) _ e rfl); have h3 := kp.at HST6.out.box (fun e => HST6.out.nbox (.inr (.inr (.inr (.inl (by show v1.pv.ownBlock = _; rw [HPV.out]; exact e))))))
       exact ⟨⟨zc 6 h1, zf 6 h1⟩, zc 5 h1, zc 4 h2, zc 5 h2, zc 1 h3⟩))
      obtain ⟨ip0, hip0, hpz0, hpz1, hpz2⟩ := info_parts info_prodE; have hsub : IntKind.i64.wrap (((nn + 1 : Nat) : Int) - 1) = (nn : Int) := by rw [show ((nn + 1 : Nat) : Int) - 1 = (nn : Int) by omega]; exact IntWalk.i64_in _ ⟨by omega, by have := HNL.out; omega⟩
      have hsub2 : IntKind.i64.wrap (nn : Int) = (nn : Int) := IntWalk.i64_in _ ⟨by clear hsub; omega, by clear hsub; have := HNL.out; omega⟩; clear hst6 hw6 hbx3 hbx6 hpo hpc hpv hnq hk5 hown1 hgrow1 hat1 hlt1 hWle hb3 hB3 hwi; go_upto_region 7 with fail
      refine zF (fun w' : World => ((w'.cell? ⟨m, 6, none⟩ = some (.slice qa0 nq qc0) ∧ w'.frozen? ⟨m, 6, none⟩ = false) ∧ w'.cell? ⟨m, 5, none⟩ = some (.slice (some ⟨g1, 0, none⟩) (nn + 1) c1) ∧ w'.cell? ⟨gp, 4, none⟩ = some (.string ⟨(c0 :: A0).toArray⟩) ∧ w'.cell? ⟨gp, 5, none⟩ = some (.int .i64 cp) ∧ w'.cell? ⟨W.heap.size + 1, 1, none⟩ = some (.slice ra p1.right.length rc))) [26] (.take 0 (.take 1 (.take 2 (.take 3 (.take 4 (.take 5 (.take 6 (.take 7 (.take 8 (.take 9 (.take 10 (.take 11 (.take 12 (.take 13 (.take 14 (.take 15 (.take 16 (.take 18 (.take 19 (.one 17 (.take 20 (.one 21 (.one 22 (.one 23 (.one 24 (.one 25 (.one 26 (.done)))))))))))))))))))))))))))) (by kernel_rfl) (by kernel_rfl) (fun _ _ _ _ h => h) ?_; have hSw := HSK7.out _ ((Kp.refl _ w6).drew); iterate 19 (refine zO (v := ?_) rfl rfl hSw (by rfl) ?_ ?_; rotate_left 1; (focus (intro w hSx; (try dsimp only at hSx); go_simp; try rfl)); (try simp only [Act.put, zq0, zq1, zq2]))
      refine zB rfl (by rfl) (fun K' hK => ?_)
      (refine wp_copy_ints _ (by rfl) (B := W.heap.size) (right := p1.right) (ra := ra) (rc := rc) (by rfl) HST6.out.row HNIL.out (by clear hsub hsub2; omega) ?_; intro ad cap w7 hav hb7' hnew; have hb7 : Below w6.heap.size w6 w7 := zI hb7'; have hnew7 : ∀ c, (Value.slice ad p1.right.length cap).ownBlock = some c → w6.heap.size ≤ c := hnew; clear hb7' hnew)
      refine hK _ _ (.inr (HSK7.out _ (Kp.of_below hb7 (fun _ h _ => h)))) ?_; clear hK K' hSw; have hSw := HSK7.out _ (Kp.of_below hb7 (fun _ h _ => h)); (try simp only [Act.put, zq0, zq1, zq2])
      (refine zO (v := ?_) rfl rfl hSw (by rfl) ?_ ?_; rotate_left 1; (focus (intro w hSx; (try dsimp only at hSx); go_simp; try rfl)); (try simp only [Act.put, zq0, zq1, zq2]))
      refine zB rfl (by rfl) (fun K' hK => ?_); go_simp; refine hK _ _ (.inr (HSK7.out _ ((Kp.of_below hb7 (fun _ h _ => h)).alloc (.cells #[.int .i64 (nn : Int), .slice none 0 0, .int .i64 (-1), .string ⟨(c0 :: A0).toArray⟩, .slice ad p1.right.length cap, .int .i64 cp] 68)))) ?_; clear hK K' hSw; (try simp only [Act.put, zq0, zq1, zq2]); refine zB rfl (by rfl) (fun K' hK => ?_)
      (refine wp_append_lies _ _ _ _ (by rfl) W0.heap.size 68 ip0 _ 6 88 Tryz.underlying37 hip0 hpz0 hpz1 hpz2 rfl (by decide) _ _ _ (by rfl) ((zL HPO.out hb7).alloc _) ⟨w7.heap.size, 0, none⟩ 1 1 (xF (.slice none 0 0) (.slice ad p1.right.length cap) ⟨(nn : Int), [], -1, c0 :: A0, p1.right, cp⟩) (by rfl) (by rfl) (World.news_of_block (cs := #[.int .i64 (nn : Int), .slice none 0 0, .int .i64 (-1), .string ⟨(c0 :: A0).toArray⟩, .slice ad p1.right.length cap, .int .i64 cp]) (t := 68) (fr := (0, 0)) (zE w7 _)) (by simp [Value.oneCell', xF]) (by decide) (by clear hsub hsub2; have := HNQ.out; unfold maxLen; omega) (by clear hsub hsub2; have := HNQ.out; omega) (by show W0.heap.size ≤ (w7.alloc (.cells #[.int .i64 (nn : Int), .slice none 0 0, .int .i64 (-1), .string ⟨(c0 :: A0).toArray⟩, .slice ad p1.right.length cap, .int .i64 cp] 68)).heap.size; clear hsub hsub2; have := hb7.size; simp only [World.size_alloc]; omega) _ rfl ?_; intro g2 c2 w8 hown2 hgrow2 hat2 hlt2; replace hgrow2 : (w7.alloc (.cells #[.int .i64 (nn : Int), .slice none 0 0, .int .i64 (-1), .string ⟨(c0 :: A0).toArray⟩, .slice ad p1.right.length cap, .int .i64 cp] 68)).grownBy w8 (Value.slice qa0 nq qc0).ownBlock := ⟨hgrow2.os, hgrow2.tape, hgrow2.output, hgrow2.size, hgrow2.block⟩; have hk78 : Kp (fun b => (Value.slice qa0 nq qc0).ownBlock ≠ some b) w7 w8 := ((Kp.refl _ w7).alloc (.cells #[.int .i64 (nn : Int), .slice none 0 0, .int .i64 (-1), .string ⟨(c0 :: A0).toArray⟩, .slice ad p1.right.length cap, .int .i64 cp] 68)).grown hgrow2 (fun k hk hs => hs hk); have hk8 : Kp (fun b => (Value.slice qa0 nq qc0).ownBlock ≠ some b) w6 w8 := (Kp.of_below hb7 (fun _ h _ => h)).trans hk78; have hWle2 : w6.heap.size ≤ (w7.alloc (.cells #[.int .i64 (nn : Int), .slice none 0 0, .int .i64 (-1), .string ⟨(c0 :: A0).toArray⟩, .slice ad p1.right.length cap, .int .i64 cp] 68)).heap.size := (by clear hsub hsub2; have := hb7.size; simp only [World.size_alloc]; omega))
      refine hK _ _ (.inr (HSK7.out _ hk8)) ?_; clear hK K'; (try simp only [Act.put, zq0, zq1, zq2]); iterate 2 (refine zB rfl (by rfl) (fun K' hK => ?_); go_simp; refine hK _ _ (.inr (HSK7.out _ hk8)) ?_; clear hK K'; (try simp only [Act.put, zq0, zq1, zq2]))
      refine zB rfl (by rfl) (fun K' hK => ?_)
      (obtain ⟨⟨z1, z2⟩, _⟩ := HSK7.out _ hk8; have hlz : m < w8.heap.size := Nat.lt_of_lt_of_le hlm6 hk8.size; go_simp)
      refine hK _ _ (.inr (HSK7.out _ hk8)) ?_; clear hK K'; (try simp only [Act.put, zq0, zq1, zq2]); refine zB rfl (by rfl) (fun K' hK => ?_); go_simp; refine hK _ _ (.inl rfl) ?_; clear hK K'; (try simp only [Act.put, zq0, zq1, zq2]); refine zH ?_; have hk8' : Kp (fun b => v1.pv.ownBlock ≠ some b) w6 w8 := by rw [HPV.out]; exact hk8
      have hlt6 : ∀ c, (Value.slice qa0 nq qc0).ownBlock = some c → c < w6.heap.size := fun c hc => (HPO.out.lt c hc).2
      have hrv6 : ∀ c, (Value.slice ra p1.right.length rc).ownBlock = some c → c < w6.heap.size := fun c hc => (HST6.out.row.lt c hc).2
      have hav8 : ∃ b, w8.ownsRow b 3 1 (.slice ad p1.right.length cap) p1.right.length (yJ p1.right) := by
       obtain ⟨b, hv⟩ := hav; exact ⟨b, zP hv hk78 (fun c hc e => by have h1 := hnew7 c hc; have h2 := hlt6 c e; clear hsub hsub2; omega)⟩
      have hp9 : zZ W0.heap.size w8 (.slice (some ⟨g2, 0, none⟩) (nq + 1) c2) (s1.prods ++ [⟨(nn : Int), [], -1, c0 :: A0, p1.right, cp⟩]) (fun c => (Value.slice ra p1.right.length rc).ownBlock ≠ some c) :=
       (zBV (T := fun b => v1.pv.ownBlock ≠ some b) HPC.out hk8' (fun c hc => hc.2) (by rw [← HNQE.out]; exact hown2) ⟨0, World.ownsRow_nil _ _ _ _⟩ hav8 (fun c hc => by simp [Value.ownBlock] at hc) (fun c hc => ⟨fun e => by have h1 := hnew7 c hc; have h2 := hrv6 c e; clear hsub hsub2; omega, fun e => by
        have h1 := hnew7 c hc; have e' : (Value.slice qa0 nq qc0).ownBlock = some c := by rw [← HPV.out]; exact e
        have h2 := hlt6 c e'; clear hsub hsub2
        omega⟩)).mono (fun c _ hc => hc.1)
      have hst9 := HST6.out.prods (pv' := .slice (some ⟨g2, 0, none⟩) (nq + 1) c2) (g1 := g2) hk8' hp9 rfl (hat2.imp (fun e => by show v1.pv.ownBlock = _; rw [HPV.out]; exact e) (fun e => by rw [e]; exact hWle2)); have HK8 := zh hp9; obtain ⟨w9, hw9⟩ : ∃ w9, w9 = w8.setCell ⟨m, 6, none⟩ (.slice (some ⟨g2, 0, none⟩) (nq + 1) c2) := ⟨_, rfl⟩
      rw [← hw9] at hst9 ⊢; have HST9 := zh hst9
      have HSK8 := zh (fun (w' : World) (kp : Kp (fun b => (Value.slice ra p1.right.length rc).ownBlock ≠ some b) w9 w') => (show (w'.cell? ⟨W.heap.size + 1, 1, none⟩ = some (.slice ra p1.right.length rc) ∧ w'.frozen? ⟨W.heap.size + 1, 1, none⟩ = false ∧ w'.cell? ⟨m, 5, none⟩ = some (.slice (some ⟨g1, 0, none⟩) (nn + 1) c1)) from by
       have h1 := kp.at HST9.out.mkr.block (HST9.out.rv_mk _ (.inl rfl)); unfold zX at h1; have h3 := kp.at HST9.out.box (HST9.out.rv_ne HST9.out.box (by decide))
       exact ⟨zc 1 h3, zf 1 h3, zc 5 h1⟩))
      have hl99 := hst9.size; have hlm9 : m < w9.heap.size := zC hst9.mkr.block; have HP1 : Hid (p1.right.length + 1 ≤ maxLen) := zh (by clear hsub hsub2; unfold maxLen; omega); have HP2 : Hid ((p1.right.length + 1) * 8 ≤ 140737488355328) := zh (by clear hsub hsub2; omega); have HP3 : Hid (W.heap.size ≤ (w9.alloc (.cells #[.int .i64 (1000 + (nn : Int))] 3)).heap.size) := zh (by clear hsub hsub2; simp only [World.size_alloc]; omega); have HWL9 : Hid (w9.heap.size ≤ (w9.alloc (.cells #[.int .i64 (1000 + (nn : Int))] 3)).heap.size) := zh (by clear hsub hsub2; simp only [World.size_alloc]; omega); obtain ⟨ii0, hii0, hiz0, hiz1, hiz2⟩ := info_parts zAC
      have HABN : Hid (qA { s1 with nons := s1.nons ++ [⟨64 :: L, []⟩], prods := s1.prods ++ [⟨(nn : Int), [], -1, c0 :: A0, p1.right, cp⟩] } (inner1 + 1) (T + (k + 1))) := zh (by
       have h := HAK.out.bound; clear hsub hsub2; unfold qA at h ⊢; simp only [List.length_append, List.length_cons, List.length_nil]
       omega)
      have HRE : Hid (Sp.kH np (k + 1) (parts.drop (k + 1)) ({ p1 with right := p1.right ++ [1000 + (nn : Int)] }, inner1 + 1, { s1 with nons := s1.nons ++ [⟨64 :: L, []⟩], prods := s1.prods ++ [⟨(nn : Int), [], -1, c0 :: A0, p1.right, cp⟩] }) = RR) := zh (by
       have h := HRC.out; simp only at h; clear hsub hsub2; rw [← HNN.out] at h; have e1 : ((nn + 1 : Nat) : Int) - 1 = (nn : Int) := by omega
       have e2 : 1000 + ((nn + 1 : Nat) : Int) - 1 = 1000 + (nn : Int) := by omega
       have e3 : ((inner1 + 1 : Nat) : Int) = (inner1 : Int) + 1 := by omega
       rw [e1, e2, e3, ← HLI.out] at h
       exact h)
      have HRL : Hid ((p1.right ++ [1000 + (nn : Int)]).length ≤ k + 1) := zh (by have := HAK.out.right; clear hsub hsub2; simp only [List.length_append, List.length_cons, List.length_nil]; omega); clear hsub hsub2; have e1 : IntKind.i64.wrap (1000 + ((nn : Int) + 1)) = 1000 + ((nn : Int) + 1) := IntWalk.i64_in _ ⟨by omega, by have := HNL.out; omega⟩; have e2 : IntKind.i64.wrap (1000 + (nn : Int)) = 1000 + (nn : Int) := IntWalk.i64_in _ ⟨by clear e1; omega, by clear e1; have := HNL.out; omega⟩; have e3 : 1000 + ((nn : Int) + 1) - 1 = 1000 + (nn : Int) := by clear e1 e2; omega
      have e4 : IntKind.i64.wrap (1000 + ((nn + 1 : Nat) : Int)) = 1000 + ((nn : Int) + 1) := e1; clear hst9 hw9 hp9 hav8 hav hlt6 hrv6 hk8' hk8 hk78 hown2 hgrow2 hat2 hlt2 hWle2 hnew7 hb7; go_upto_region 8 with fail
      refine zF (fun w' : World => (w'.cell? ⟨W.heap.size + 1, 1, none⟩ = some (.slice ra p1.right.length rc) ∧ w'.frozen? ⟨W.heap.size + 1, 1, none⟩ = false ∧ w'.cell? ⟨m, 5, none⟩ = some (.slice (some ⟨g1, 0, none⟩) (nn + 1) c1))) [13] (.take 0 (.take 1 (.take 2 (.take 3 (.take 4 (.take 5 (.take 6 (.take 7 (.take 8 (.take 9 (.one 10 (.one 11 (.one 12 (.one 13 (.done))))))))))))))) (by kernel_rfl) (by kernel_rfl) (fun _ _ _ _ h => h) ?_; have hSw := HSK8.out _ ((Kp.refl _ w9).drew); iterate 10 (refine zO (v := ?_) rfl rfl hSw (by rfl) ?_ ?_; rotate_left 1; (focus (intro w hSx; (try dsimp only at hSx); go_simp; try rfl)); (try simp only [Act.put, zq0, zq1, zq2]))
      refine zB rfl (by rfl) (fun K' hK => ?_); go_simp; refine hK _ _ (.inr (HSK8.out _ (((Kp.refl _ w9).drew).alloc (.cells #[.int .i64 (1000 + (nn : Int))] 3)))) ?_; clear hK K' hSw; (try simp only [Act.put, zq0, zq1, zq2]); refine zB rfl (by rfl) (fun K' hK => ?_)
      (refine wp_append_lies _ _ _ _ (by rfl) W.heap.size 3 ii0 _ 1 8 Tryz.underlying30 hii0 hiz0 hiz1 hiz2 rfl (by decide) _ _ _ (by rfl) (HST9.out.row.alloc _) ⟨w9.heap.size, 0, none⟩ 1 1 [.int .i64 (1000 + (nn : Int))] (by rfl) (by rfl) (World.news_of_block (cs := #[.int .i64 (1000 + (nn : Int))]) (t := 3) (fr := (0, 0)) (zE w9 _)) (by simp [Value.oneCell']) (by decide) HP1.out HP2.out (by show W.heap.size ≤ (w9.alloc (.cells #[.int .i64 (1000 + (nn : Int))] 3)).heap.size; exact HP3.out) _ rfl ?_; intro g3 c3 w10 hown3 hgrow3 hat3 hlt3; replace hgrow3 : (w9.alloc (.cells #[.int .i64 (1000 + (nn : Int))] 3)).grownBy w10 (Value.slice ra p1.right.length rc).ownBlock := ⟨hgrow3.os, hgrow3.tape, hgrow3.output, hgrow3.size, hgrow3.block⟩; have hk10 : Kp (fun b => (Value.slice ra p1.right.length rc).ownBlock ≠ some b) w9 w10 := ((Kp.refl _ w9).alloc (.cells #[.int .i64 (1000 + (nn : Int))] 3)).grown hgrow3 (fun k hk hs => hs hk))
      refine hK _ _ (.inr (HSK8.out _ hk10)) ?_; clear hK K'; (try simp only [Act.put, zq0, zq1, zq2]); refine zB rfl (by rfl) (fun K' hK => ?_)
      (obtain ⟨z1, z2, _⟩ := HSK8.out _ hk10; have hlz : W.heap.size + 1 < w10.heap.size := Nat.lt_of_lt_of_le hl99 hk10.size; go_simp)
      refine hK _ _ (.inr (HSK8.out _ hk10)) ?_; clear hK K'; (try simp only [Act.put, zq0, zq1, zq2]); refine zB rfl (by rfl) (fun K' hK => ?_)
      (obtain ⟨z1, z2, _⟩ := HSK8.out _ hk10; go_simp)
      refine hK _ _ (.inl rfl) ?_; clear hK K'; (try simp only [Act.put, zq0, zq1, zq2]); refine zH ?_; go_wp2_with fail; go_meet; have hst11 := HST9.out.push rfl hown3 hk10 (hat3.imp id (fun e => by rw [e]; exact HWL9.out)); exact ⟨inner1 + 1, _, _, { p1 with right := p1.right ++ [1000 + (nn : Int)] }, _, by go_num, hst11, ⟨HABN.out, HRL.out, HAK.out.args, HAK.out.toks, HAK.out.lefts, fun e => by simp at e, by simp⟩, HRE.out⟩
   case rest =>
    obtain ⟨inner2, s2, v2, p2, rv2, rfl, hst2, hak2, hR2⟩ := hcut; have HST3 := zh hst2; have HAK2 := zh hak2; have HRR2 := zh hR2; clear hst2 hak2 hR2; go_wp2_with fail; go_roundg (np - (k + 1))
    case measure => omega
    case rel => exact ⟨k + 1, inner2, s2, v2, p2, rv2, by omega, rfl, rfl, by go_num, HST3.out, HAK2.out, HRR2.out⟩
  ·obtain rfl : np = k := by omega
   have hR := HRR.out; rw [List.drop_eq_nil_of_le (by rw [← HNP.out]; exact Nat.le_refl _)] at hR; have HRR2 : Hid (RR = (p1, inner1, s1)) := zh (by rw [← hR]; rfl); clear hR HRR; obtain ⟨ra, rc, rfl⟩ := zJ HST.out.row; obtain ⟨c2, hc2⟩ : ∃ c2, c2 = if qn = [] then p1.prec else Sp.zAL s1 ⟨qn, ql, qu, qa⟩ := ⟨_, rfl⟩
   have HALT : Hid (Sp.altMk left ⟨parts, ⟨qn, ql, qu, qa⟩, ap⟩ inner s = (inner1, { s1 with prods := s1.prods ++ [{ p1 with prec := c2, args := p1.right }] })) := zh (by
    have h := HR0.out; rw [HRR2.out, HNP.out] at h; unfold Sp.altMk; simp only; rw [← h]; simp only; rw [hc2]; by_cases hq : qn = []
    ·rw [if_pos hq, if_pos hq]
    ·rw [if_neg hq, if_neg hq])
   have HC2 := zh hc2; have hpr : p1.right.length ≤ 4000 := by have := HAK.out.right; omega
   have hqnl : qn.length ≤ maxLen := by have h := HSM.out.2.2; unfold maxLen; simp only at h; omega
   have hab := HST.out.abox; have a1 := zc 1 hab; have a2 := zc 2 hab; have a3 := zc 3 hab; have a4 := zc 4 hab; have hla := zC hab; clear hc2 hab; go_upto_if 123 with fail
   go_cut [] (fun wx => qW W0.heap.size W m x v #[.slice pa np pc, .string ⟨qn.toArray⟩, .bool ql, .int .i64 qu, .int .i64 qa, .int .i64 ap] s1 v1 { p1 with prec := c2 } (.slice ra p1.right.length rc) wx)
   case first =>
    cases qn with
    | nil =>
     have E : Hid (c2 = p1.prec) := zh (by rw [HC2.out]; simp); go_wp2_with fail; go_meet; rw [E.out]; exact HST.out
    | cons c0 A0 =>
     have E : Hid (c2 = Sp.zAL s1 ⟨c0 :: A0, ql, qu, qa⟩) := zh (by rw [HC2.out]; simp)
     have HSY := zh (show Calls Tryz.prog 86 #[.pointer (some ⟨m, 0, none⟩), .agg #[.string ⟨(c0 :: A0).toArray⟩, .bool ql, .int .i64 qu, .int .i64 qa]] wr (fun e w'' => e = .returned (.int .i64 c2) ∧ Below wr.heap.size wr w'') from by
      rw [E.out]
      exact maker_symbol ⟨c0 :: A0, ql, qu, qa⟩ HST.out.mkr (by rw [HAK.out.lefts]; exact HL.out) hqnl)
     clear E; go_wp2_with fail; refine (HSY.out).mono ?_; rintro e w3 ⟨rfl, hb3⟩; have hst3 := HST.out.below hb3; have b2 : w3.cell? ⟨W.heap.size + 1, 2, none⟩ = some (.int .i64 p1.prec) := zc 2 hst3.box; have f2 : w3.frozen? ⟨W.heap.size + 1, 2, none⟩ = false := zf 2 hst3.box; have hl3 := hst3.size; have HST3 := zh hst3; clear hst3 hb3; go_wp2_with fail; go_meet; exact HST3.out.cell (i := 2) rfl rfl
   case rest =>
    obtain ⟨w3, hw3⟩ : ∃ w3 : World, w3 = wc := ⟨_, rfl⟩
    subst hw3; have HST3 := zh hcut; have b1 : w3.cell? ⟨W.heap.size + 1, 1, none⟩ = some (.slice ra p1.right.length rc) := zc 1 hcut.box; have hl3 := hcut.size
    have HNIL := zh (show p1.right = [] → ra = none ∧ rc = 0 from fun e => by
     have h := HAK.out.nil e; simp only [Value.slice.injEq] at h
     exact ⟨h.1, h.2.2⟩)
    have HPR : Hid (p1.right.length ≤ 100000) := zh (by omega); clear hcut a1 a2 a3 a4 hla; go_upto_region 19 with fail
    go_wp2_with (at_builtin; refine wpList_plain rfl fun K' hK' => wp_copy_ints _ rfl (B := W.heap.size) (right := p1.right) (ra := ra) (rc := rc) rfl HST3.out.row HNIL.out HPR.out ?hcp)
    case hcp =>
     intro ad cap w4 bv hav hb4 hnew; refine hK' _ _ ?_; have hst4 := HST3.out.below hb4; have x4 : w4.cell? ⟨W.heap.size + 1, 4, none⟩ = some (.slice none 0 0) := zc 4 hst4.box; have y4 : w4.frozen? ⟨W.heap.size + 1, 4, none⟩ = false := zf 4 hst4.box; have hl4 := hst4.size; obtain ⟨w5, hw5⟩ : ∃ w5, w5 = w4.setCell ⟨W.heap.size + 1, 4, none⟩ (.slice ad p1.right.length cap) := ⟨_, rfl⟩
     have hbx5 : w5.heap[W.heap.size + 1]? = some (.cells (xF (.slice ra p1.right.length rc) (.slice ad p1.right.length cap) { p1 with prec := c2, args := p1.right }).toArray 68 (0, 0)) := by rw [hw5]; exact zA hst4.box
     have k45 : Kp (fun b => b ≠ W.heap.size + 1) w4 w5 := by rw [hw5]; exact (Kp.refl _ w4).setCell (by simp) _
     obtain ⟨hmk5, hof5⟩ := zAN hst4.mkr k45 (fun b hb e => hst4.nbox (e ▸ hb)) (hst4.off.ne hst4.box (by decide)) (fun c hc => hc.2); have hrow5 : w5.ownsRow W.heap.size 3 1 (.slice ra p1.right.length rc) p1.right.length (yJ p1.right) := by rw [hw5]; exact zR hst4.row hst4.box (by decide) _
     have hav5 : w5.ownsRow bv 3 1 (.slice ad p1.right.length cap) p1.right.length (yJ p1.right) := by rw [hw5]; exact zR hav hst4.box (by decide) _
     have hfr5 : MkFr m v v1 W w5 := hst4.fr.aside k45 (fun b hb => by omega); obtain ⟨fo, go, hpo, hpc⟩ := hof5.pv; obtain ⟨qa0, qc0, hpv⟩ := zJ hpo; obtain ⟨nq, hnq⟩ : ∃ nq, nq = s1.prods.length := ⟨_, rfl⟩
     rw [← hnq] at hpv; rw [hpv, ← hnq] at hpo; have HMK5 := zh hmk5; have HPO := zh hpo; have HPC := zh hpc; have HPV := zh hpv; have HBX5 := zh hbx5; have HNQE := zh hnq; have HROW5 := zh hrow5; have HAV5 := zh hav5; have HFR5 := zh hfr5; have HNB5 := zh hst4.nbox; have HSAME := zh hst4.same; have hnq9 : nq ≤ 2 ^ 39 := by have := HAK.out.bound.2.1; have := HT.out; omega
     have HP1 : Hid (nq + 1 ≤ maxLen) := zh (by unfold maxLen; omega); have HP2 : Hid ((nq + 1) * 88 ≤ 140737488355328) := zh (by omega); have hlm5 : m < w5.heap.size := zC hmk5.block; have hl95 : W.heap.size + 1 < w5.heap.size := zC hbx5; have hB5 : W0.heap.size ≤ w5.heap.size := by have := HW.out.size; omega
     have HP3 : Hid (W0.heap.size ≤ (w5.alloc (.cells #[.int .i64 p1.left, .slice ra p1.right.length rc, .int .i64 c2, .string ⟨p1.code.toArray⟩, .slice ad p1.right.length cap, .int .i64 p1.at_] 68)).heap.size) := zh (by simp only [World.size_alloc]; omega); have HWL : Hid (w5.heap.size ≤ (w5.alloc (.cells #[.int .i64 p1.left, .slice ra p1.right.length rc, .int .i64 c2, .string ⟨p1.code.toArray⟩, .slice ad p1.right.length cap, .int .i64 p1.at_] 68)).heap.size) := zh (by simp only [World.size_alloc]; omega)
     have HSK20 := zh (fun (w' : World) (kp : Kp (fun b => (Value.slice qa0 nq qc0).ownBlock ≠ some b) w5 w') => (show ((w'.cell? ⟨m, 6, none⟩ = some (.slice qa0 nq qc0) ∧ w'.frozen? ⟨m, 6, none⟩ = false) ∧ w'.cell? ⟨W.heap.size + 1, 0, none⟩ = some (.int .i64 p1.left) ∧ w'.cell? ⟨W.heap.size + 1, 1, none⟩ = some (.slice ra p1.right.length rc) ∧ w'.cell? ⟨W.heap.size + 1, 2, none⟩ = some (.int .i64 c2) ∧ w'.cell? ⟨W.heap.size + 1, 3, none⟩ = some (.string ⟨p1.code.toArray⟩) ∧ w'.cell? ⟨W.heap.size + 1, 4, none⟩ = some (.slice ad p1.right.length cap) ∧ w'.cell? ⟨W.heap.size + 1, 5, none⟩ = some (.int .i64 p1.at_)) from by
      have hmk := HMK5.out.block; have h1 := kp.at hmk (fun e => zG HPO.out hmk (by decide) _ e rfl); unfold zX at h1; simp only [HPV.out] at h1; have h3 := kp.at HBX5.out (fun e => HNB5.out (.inr (.inr (.inr (.inl (by rw [HPV.out]; exact e))))))
      exact ⟨⟨zc 6 h1, zf 6 h1⟩, zc 0 h3, zc 1 h3, zc 2 h3, zc 3 h3, zc 4 h3, zc 5 h3⟩))
     obtain ⟨ip0, hip0, hpz0, hpz1, hpz2⟩ := info_parts info_prodE; have HW5 := zh hw5; clear hw5 hst4 k45 hmk5 hof5 hrow5 hav5 hfr5 hpo hpc hpv hnq hbx5 hb4 hnew hav hnq9; go_upto_region 20 with fail
     rw [← HW5.out]; refine zF (fun w' : World => ((w'.cell? ⟨m, 6, none⟩ = some (.slice qa0 nq qc0) ∧ w'.frozen? ⟨m, 6, none⟩ = false) ∧ w'.cell? ⟨W.heap.size + 1, 0, none⟩ = some (.int .i64 p1.left) ∧ w'.cell? ⟨W.heap.size + 1, 1, none⟩ = some (.slice ra p1.right.length rc) ∧ w'.cell? ⟨W.heap.size + 1, 2, none⟩ = some (.int .i64 c2) ∧ w'.cell? ⟨W.heap.size + 1, 3, none⟩ = some (.string ⟨p1.code.toArray⟩) ∧ w'.cell? ⟨W.heap.size + 1, 4, none⟩ = some (.slice ad p1.right.length cap) ∧ w'.cell? ⟨W.heap.size + 1, 5, none⟩ = some (.int .i64 p1.at_))) [12] (.take 0 (.take 1 (.take 2 (.take 3 (.take 4 (.take 5 (.take 6 (.one 7 (.one 8 (.one 9 (.one 10 (.one 11 (.one 12 (.done)))))))))))))) (by kernel_rfl) (by kernel_rfl) (fun _ _ _ _ h => h) ?_; have hSw := HSK20.out _ ((Kp.refl _ w5).drew); iterate 7 (refine zO (v := ?_) rfl rfl hSw (by rfl) ?_ ?_; rotate_left 1; (focus (intro w hSx; (try dsimp only at hSx); go_simp; try rfl)); (try simp only [Act.put, zq0, zq1, zq2]))
     refine zB rfl (by rfl) (fun K' hK => ?_); go_simp; refine hK _ _ (.inr (HSK20.out _ (((Kp.refl _ w5).drew).alloc (.cells #[.int .i64 p1.left, .slice ra p1.right.length rc, .int .i64 c2, .string ⟨p1.code.toArray⟩, .slice ad p1.right.length cap, .int .i64 p1.at_] 68)))) ?_; clear hK K' hSw; (try simp only [Act.put, zq0, zq1, zq2]); refine zB rfl (by rfl) (fun K' hK => ?_)
     (refine wp_append_lies _ _ _ _ (by rfl) W0.heap.size 68 ip0 _ 6 88 Tryz.underlying37 hip0 hpz0 hpz1 hpz2 rfl (by decide) _ _ _ (by rfl) (HPO.out.alloc _) ⟨w5.heap.size, 0, none⟩ 1 1 (xF (.slice ra p1.right.length rc) (.slice ad p1.right.length cap) { p1 with prec := c2, args := p1.right }) (by rfl) (by rfl) (World.news_of_block (cs := #[.int .i64 p1.left, .slice ra p1.right.length rc, .int .i64 c2, .string ⟨p1.code.toArray⟩, .slice ad p1.right.length cap, .int .i64 p1.at_]) (t := 68) (fr := (0, 0)) (zE w5 _)) (by simp [Value.oneCell', xF]) (by decide) HP1.out HP2.out (by show W0.heap.size ≤ (w5.alloc (.cells #[.int .i64 p1.left, .slice ra p1.right.length rc, .int .i64 c2, .string ⟨p1.code.toArray⟩, .slice ad p1.right.length cap, .int .i64 p1.at_] 68)).heap.size; exact HP3.out) _ rfl ?_; intro g2 c3 w8 hown2 hgrow2 hat2 hlt2; replace hgrow2 : (w5.alloc (.cells #[.int .i64 p1.left, .slice ra p1.right.length rc, .int .i64 c2, .string ⟨p1.code.toArray⟩, .slice ad p1.right.length cap, .int .i64 p1.at_] 68)).grownBy w8 (Value.slice qa0 nq qc0).ownBlock := ⟨hgrow2.os, hgrow2.tape, hgrow2.output, hgrow2.size, hgrow2.block⟩; have hk8 : Kp (fun b => (Value.slice qa0 nq qc0).ownBlock ≠ some b) w5 w8 := ((Kp.refl _ w5).alloc (.cells #[.int .i64 p1.left, .slice ra p1.right.length rc, .int .i64 c2, .string ⟨p1.code.toArray⟩, .slice ad p1.right.length cap, .int .i64 p1.at_] 68)).grown hgrow2 (fun k hk hs => hs hk))
     refine hK _ _ (.inr (HSK20.out _ hk8)) ?_; clear hK K'; (try simp only [Act.put, zq0, zq1, zq2]); iterate 2 (refine zB rfl (by rfl) (fun K' hK => ?_); go_simp; refine hK _ _ (.inr (HSK20.out _ hk8)) ?_; clear hK K'; (try simp only [Act.put, zq0, zq1, zq2]))
     refine zB rfl (by rfl) (fun K' hK => ?_)
     (obtain ⟨⟨z1, z2⟩, _⟩ := HSK20.out _ hk8; have hlz : m < w8.heap.size := Nat.lt_of_lt_of_le hlm5 hk8.size; go_simp)
     refine hK _ _ (.inr (HSK20.out _ hk8)) ?_; clear hK K'; (try simp only [Act.put, zq0, zq1, zq2]); refine zB rfl (by rfl) (fun K' hK => ?_); go_simp; refine hK _ _ (.inl rfl) ?_; clear hK K'; (try simp only [Act.put, zq0, zq1, zq2]); refine zH ?_; have hk8' : Kp (fun b => v1.pv.ownBlock ≠ some b) w5 w8 := by rw [HPV.out]; exact hk8
     have hki : ∀ {b n : Nat} {u : Value} {xs : List Value}, w5.ownsRow b 3 1 u n xs → ∀ c, u.ownBlock = some c → v1.pv.ownBlock ≠ some c := by
      intro b n u xs k c hc e; rw [HPV.out] at e; rcases HPO.out.2 with ⟨e0, _⟩ | ⟨g, cp, cur, e0, _, hgg, _⟩
      ·rw [e0] at e; simp [Value.ownBlock] at e
      ·rw [e0] at e
       simp [Value.ownBlock] at e; subst e; exact qY k hgg (by decide) _ hc rfl
     have hp9 := zBV (S := fun c => v1.pv.ownBlock ≠ some c) (T := fun b => v1.pv.ownBlock ≠ some b) (p := { p1 with prec := c2, args := p1.right }) (fun i p hp => ⟨(HPC.out i p hp).1, fun c hc => ((HPC.out i p hp).2.1 c hc).2, fun c hc => ((HPC.out i p hp).2.2 c hc).2⟩) hk8' (fun c hc => hc) (by rw [← HNQE.out]; exact hown2) ⟨_, zP HROW5.out hk8' (hki HROW5.out)⟩ ⟨_, zP HAV5.out hk8' (hki HAV5.out)⟩ (hki HROW5.out) (hki HAV5.out); have hbm5 := hk8'.at HMK5.out.block (fun e => zG HPO.out HMK5.out.block (by decide) _ (by rw [← HPV.out]; exact e) rfl); have hbm6 := hbm5; unfold zX at hbm6; have k9 : Kp (fun b => b ≠ m) w8 (w8.setCell ⟨m, 6, none⟩ (.slice (some ⟨g2, 0, none⟩) (nq + 1) c3)) := (Kp.refl _ w8).setCell (by simp) _; obtain ⟨f', g', hpo', _⟩ := hp9.own; have hp10 := (hp9.ne hbm5 (by decide)).kp k9 (fun b hb => zG hpo' hbm5 (by decide) b hb) (fun c hc => hc.2); have hfin := maker_prod HMK5.out ((hk8'.mono (fun b _ h => h.1)).setCell (p := ⟨m, 6, none⟩) (fun hn => hn.2 rfl) (.slice (some ⟨g2, 0, none⟩) (nq + 1) c3)) hp10.own (zA hbm6) (g1 := g2) rfl (hat2.imp (fun e => by rw [HPV.out]; exact e) (fun e => by rw [e]; exact HWL.out)); have HFIN := zh hfin; clear hfin hp10 hp9 hpo' k9 hbm6 hbm5 hki hk8' hk8 hown2 hgrow2 hat2 hlt2; go_wp2_with fail; go_ret; rw [HALT.out]; exact ⟨rfl, _, HFIN.out.1, HFR5.out.trans HFIN.out.2, HSAME.out.1, HSAME.out.2⟩
end Go.Proofs.YtddnomjfcbplpaaGreatDoor
