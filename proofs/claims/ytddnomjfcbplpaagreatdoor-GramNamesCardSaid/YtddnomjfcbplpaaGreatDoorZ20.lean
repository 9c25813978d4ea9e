import Derived.Deep.RegionHeld
import Derived.Test.YtddnomjfcbplpaaGreatDoorZ19
namespace Go.Proofs.YtddnomjfcbplpaaGreatDoor
open Go.RowKit Go.Maps

def gA (B m : Nat) (x : Sp.zM) (v : MkV) (W : World) (nm : List UInt8) (at_ : Int) (r : Option Sp.Mk) (e : Ending) (w' : World) : Prop :=
 match r with
 | none => e = .returned (.bool true) ∧ ∃ s, w'.heap[m]? = some (.cells (zX x s v 3 at_ nm).toArray 99 (0, 0)) ∧ Kp (fun b => b ≠ m) W w'
 | some s' => e = .returned (.bool false) ∧ ∃ v', zS B w' m x s' v' 0 0 [] ∧ MkFr m v v' W w' ∧ v'.dv = v.dv ∧ v'.rv = v.rv
theorem kK {B m : Nat} {x : Sp.zM} {v : MkV} {W w' : World} {nm : List UInt8} {at_ : Int} {s : Sp.Mk} {e : Ending} (he : e = .returned (.bool true)) (h : w'.heap[m]? = some (.cells (zX x s v 3 at_ nm).toArray 99 (0, 0))) (k : Kp (fun b => b ≠ m) W w') :
  gA B m x v W nm at_ none e w' := ⟨he, s, h, k⟩
theorem gO {B m : Nat} {x : Sp.zM} {v v' : MkV} {W w' : World} {nm : List UInt8} {at_ : Int} {s' : Sp.Mk} {e : Ending} (he : e = .returned (.bool false)) (h : zS B w' m x s' v' 0 0 []) (k : MkFr m v v' W w') (h1 : v'.dv = v.dv) (h2 : v'.rv = v.rv) :
  gA B m x v W nm at_ (some s') e w' := ⟨he, v', h, k, h1, h2⟩
theorem three_c {W w' : World} {c1 c2 c3 : Array Value} {t1 t2 t3 : TypeId} (h : Below (W.heap.size + 3) (((W.alloc (.cells c1 t1)).alloc (.cells c2 t2)).alloc (.cells c3 t3)) w') : w'.heap[W.heap.size]? = some (.cells c1 t1 (0, 0)) ∧ w'.heap[W.heap.size + 1]? = some (.cells c2 t2 (0, 0)) ∧ w'.heap[W.heap.size + 1 + 1]? = some (.cells c3 t3 (0, 0)) := by
 refine ⟨(h.block W.heap.size (by omega)).trans ((Below.heap_alloc _ _ _ (by simp; omega)).trans ((Below.heap_alloc _ _ _ (by simp)).trans (zE W _))), (h.block (W.heap.size + 1) (by omega)).trans ((Below.heap_alloc _ _ _ (by simp)).trans (xJ W _ _)), (h.block (W.heap.size + 2) (by omega)).trans ?_⟩; have e := zE ((W.alloc (.cells c1 t1)).alloc (.cells c2 t2)) (.cells c3 t3); have e2 : ((W.alloc (.cells c1 t1)).alloc (.cells c2 t2)).heap.size = W.heap.size + 2 := by simp
 rw [e2] at e; exact e
theorem j6 (W : World) (o1 o2 o3 : Obj) : Below W.heap.size W (((W.alloc o1).alloc o2).alloc o3) := (((Below.refl _ W).alloc (Nat.le_refl _) _).alloc (by simp) _).alloc (by simp; omega) _
theorem maker_givenset {B : Nat} {w : World} {m : Nat} {x : Sp.zM} {s : Sp.Mk} {v : MkV} {e at_ : Int} {nm0 : List UInt8} {gg n cg k : Nat} (b : Bool) (h : zS B w m x s v e at_ nm0) (hv : v.gv = .slice (some ⟨gg, 0, none⟩) n cg) :
  zS B (w.setCell ⟨gg, k, none⟩ (.bool b)) m x { s with given := s.given.set k b } v e at_ nm0 ∧ MkFr m v v w (w.setCell ⟨gg, k, none⟩ (.bool b)) := by
 have hgo := h.given; rw [hv] at hgo
 have hn : n = s.given.length := by
  rcases hgo.2 with ⟨e0, _⟩ | ⟨_, _, _, e0, _⟩
  ·simp at e0
  ·simp only [Value.slice.injEq] at e0; exact e0.2.1.symm ▸ rfl
 subst hn; obtain ⟨cu, hgb⟩ := yW hgo; have hst := (hgo.stored k (.bool b)).1; have k0 : Kp (fun c => c ≠ gg) w (w.setCell ⟨gg, k, none⟩ (.bool b)) := (Kp.refl _ w).setCell (by simp) _; have hset : (s.given.map Value.bool).set k (.bool b) = (s.given.set k b).map Value.bool := by rw [List.map_set]
 have hmm : ∀ c, (∃ es cc, w.heap[c]? = some (.map es cc)) → c ≠ gg := by
  rintro c ⟨es, cc, hy⟩ rfl; rw [hgb] at hy; cases hy
 obtain ⟨g1, g2, g3, g4, ⟨f, g, p1, p2⟩, g6, g7, g8, g9, ga, gs, g3'⟩ := h; refine ⟨⟨(k0.block m (zC g1) (fun e0 => ?_)).trans g1, zP g2 k0 (zG g2 hgb (by decide)), ?_, zP g4 k0 (zG g4 hgb (by decide)), ⟨f, g, zP p1 k0 (zG p1 hgb (by decide)), fun i p hp => ?_⟩, g6.block (k0.block _ g6.lt (hmm _ g6.isMap)), g7.block (k0.block _ g7.lt (hmm _ g7.isMap)), g8.block (k0.block _ g8.lt (hmm _ g8.isMap)), g9, ga, by rw [List.length_set]; exact gs, g3'⟩, ⟨k0.mono (fun c _ hn e0 => hn (.inr (.inr (.inr (.inr (.inl (by rw [hv, e0]; rfl))))))), fun _ h => .inl h⟩⟩
 ·rw [← e0, g1] at hgb
  simp at hgb
 ·show World.ownsRow _ _ _ _ _ _ _
  rw [List.length_set, ← hset, hv]; exact hst
 ·obtain ⟨⟨c, k1⟩, c', k2⟩ := p2 i p hp
  exact ⟨⟨c, zP k1 k0 (zG k1 hgb (by decide))⟩, c', zP k2 k0 (zG k2 hgb (by decide))⟩
theorem zS.lt_own {B : Nat} {W : World} {m : Nat} {x : Sp.zM} {s : Sp.Mk} {v : MkV} {e at_ : Int} {nm : List UInt8} (h : zS B W m x s v e at_ nm) (b : Nat) (hb : yZ m v b) : b < W.heap.size := by
 rcases hb with rfl | h1 | h1 | h1 | h1 | rfl | rfl | rfl
 ·exact zC h.block
 ·exact (h.toks.lt b h1).2
 ·exact (h.nons.lt b h1).2
 ·obtain ⟨f, g, h2, _⟩ := h.prods; exact (h2.lt b h1).2
 ·exact (h.given.lt b h1).2
 ·exact h.tmap.lt
 ·exact h.nmap.lt
 ·exact h.ymap.lt
def Sp.tokEnd1 (d : Sp.Decl) (x : Sp.Sym) (level : Int) (r : Sp.Mk × Nat) : Sp.Mk := if 0 < x.num then { Sp.jJ r.1 r.2 (fun t => { t with num := x.num }) with given := r.1.given.set r.2 true } else r.1
def Sp.tokEnd2 (d : Sp.Decl) (k : Nat) (s : Sp.Mk) : Sp.Mk := if d.tag ≠ [] then Sp.jJ s k (fun t => { t with tag := d.tag }) else s
def Sp.tokEnd3 (d : Sp.Decl) (level : Int) (k : Nat) (s : Sp.Mk) : Sp.Mk := if d.kind ≠ 1 then Sp.jJ s k (fun t => { t with level := level, assoc := d.kind - 2 + 1 }) else s
def Sp.tokEnd (d : Sp.Decl) (x : Sp.Sym) (level : Int) (r : Sp.Mk × Nat) : Sp.Mk := Sp.tokEnd3 d level r.2 (Sp.tokEnd2 d r.2 (Sp.tokEnd1 d x level r))
theorem Sp.tokStep_end {s : Sp.Mk} {d : Sp.Decl} {x : Sp.Sym} {level : Int} (h : Sp.tokBad s d x = false) : Sp.kJ s d x level = some (Sp.tokEnd d x level (Sp.addTok s x)) := by
 unfold Sp.kJ; rw [if_neg (by rw [h]; simp)]; rfl
theorem Sp.addTok_lt {s : Sp.Mk} (x : Sp.Sym) (h3 : 3 ≤ s.toks.length) : (Sp.addTok s x).2 < (Sp.addTok s x).1.toks.length := by
 unfold Sp.addTok
 cases ho : Sp.yD s.toks x.name x.lit with
 | some t => exact (Sp.tokIx_lt h3 ho).1
 | none => simp
theorem Sp.addTok_len (x : Sp.Sym) (s : Sp.Mk) : (Sp.addTok s x).1.toks.length ≤ s.toks.length + 1 := by
 unfold Sp.addTok; split <;> simp
set_option maxRecDepth 100000 in
set_option maxHeartbeats 12800000 in
theorem maker_token {B : Nat} {W : World} {m : Nat} {x : Sp.zM} {s : Sp.Mk} {v : MkV} (d : Sp.Decl) (dsv : Value) (y : Sp.Sym) (level : Int) (h : zS B W m x s v 0 0 []) (hn40 : s.toks.length ≤ 2 ^ 40) (hy : y.name.length ≤ maxLen) (hy1 : y.lit = true → ∃ c, y.name = [c]) (hk : 1 ≤ d.kind ∧ d.kind ≤ 4) :
  Calls Tryz.prog 65 #[.pointer (some ⟨m, 0, none⟩), .agg (xP dsv d).toArray, symV y, .int .i64 level] W (gA B m x v W y.name y.at_ (Sp.kJ s d y level)) := by
 obtain ⟨nm, lt, nu, pa⟩ := y; obtain ⟨dk, dt, dsy, dp⟩ := d; simp only at hy hy1 hk ⊢; have hb := h.block; unfold zX at hb; have hl := zC hb; have htm := h.tmap; generalize hbt : v.bt = bt at *
 obtain ⟨kl, hkl⟩ := zBO (b := lt) hy; have HH := zh h
 have hHS1 : ∀ (ov : Int) (ob : Bool), (match Sp.yD s.toks nm lt with
   | some k => ((k : Int), true)
   | none => ((0 : Int), false)) = (ov, ob) → ∀ w', Below (W.heap.size + 3) (((W.alloc (.cells #[.int .i64 dk, .string ⟨dt.toArray⟩, dsv, .int .i64 dp] 57)).alloc (.cells #[.string ⟨nm.toArray⟩, .bool lt, .int .i64 nu, .int .i64 pa] 45)).alloc (.cells #[.string ⟨#[]⟩, .bool false, .int .i64 0, .int .i64 0, .int .i64 0, .string ⟨#[]⟩] 65)) w' → (w'.cell? ⟨m, 9, none⟩ = some (.map (some bt)) ∧ w'.cell? ⟨W.heap.size + 1, 0, none⟩ = some (.string ⟨nm.toArray⟩) ∧ w'.cell? ⟨W.heap.size + 1, 1, none⟩ = some (.bool lt) ∧ w'.cell? ⟨W.heap.size + 1, 2, none⟩ = some (.int .i64 nu) ∧ w'.cell? ⟨W.heap.size + 1, 3, none⟩ = some (.int .i64 pa) ∧ (Instr.lookup 95 (.map (some bt)) (.agg #[.string ⟨nm.toArray⟩, .bool lt]) true).run Tryz.prog w' = .ok (.tuple #[.int .i64 ov, .bool ob]) w') := by
  intro ov ob hob w' hw'; obtain ⟨hbd, hbs, hbt9⟩ := three_c hw'; have hW3 : ∀ b, b < W.heap.size → w'.heap[b]? = W.heap[b]? := fun b hb => (hw'.block b (by omega)).trans ((j6 W _ _ _).block b hb)
  have hbm := (hW3 m hl).trans hb; have hk := (htm.block (hW3 bt htm.lt)).look true zAP Tryz.underlying95 (kQ w') hkl; refine ⟨zc 9 hbm, zc 0 hbs, zc 1 hbs, zc 2 hbs, zc 3 hbs, ?_⟩; rw [hk]; have e : tokL s.toks (.agg #[.string ⟨nm.toArray⟩, .bool lt]) = (Sp.yD s.toks nm lt).map fun (k : Nat) => Value.int .i64 (k : Int) := rfl
  rw [e]
  cases ho : Sp.yD s.toks nm lt with
  | some k => rw [ho] at hob; simp only [Prod.mk.injEq] at hob; obtain ⟨rfl, rfl⟩ := hob; rfl
  | none => rw [ho] at hob; simp only [Prod.mk.injEq] at hob; obtain ⟨rfl, rfl⟩ := hob; rfl
 have HKY := zh (fun w => (show Calls Tryz.prog 82 #[.agg #[.string ⟨nm.toArray⟩, .bool lt, .int .i64 nu, .int .i64 pa]] w (fun e w' => e = .returned (.agg #[.string ⟨nm.toArray⟩, .bool lt]) ∧ Below w.heap.size w w') from zAE ⟨nm, lt, nu, pa⟩ w))
 obtain ⟨kk, ov, ok, t, gk, hkk⟩ : ∃ (kk ov : Int) (ok : Bool) (t : Sp.Tok) (gk : Bool), (Sp.yD s.toks nm lt = none ∧ kk = -1 ∧ ov = 0 ∧ ok = false ∧ t = Sp.gF ∧ gk = false) ∨ (∃ k : Nat, Sp.yD s.toks nm lt = some k ∧ kk = k ∧ ov = k ∧ ok = true ∧ s.toks[k]? = some t ∧ s.given[k]? = some gk) := by
  cases ho : Sp.yD s.toks nm lt with
  | none => exact ⟨_, _, _, _, _, .inl ⟨rfl, rfl, rfl, rfl, rfl, rfl⟩⟩
  | some k =>
   have hk := (Sp.tokIx_lt h.three ho).1; exact ⟨_, _, _, _, _, .inr ⟨k, rfl, rfl, rfl, rfl, List.getElem?_eq_getElem hk, List.getElem?_eq_getElem (by rw [h.same]; exact hk)⟩⟩
 show Calls _ _ #[_, .agg #[.int .i64 dk, .string ⟨dt.toArray⟩, dsv, .int .i64 dp], .agg #[.string ⟨nm.toArray⟩, .bool lt, .int .i64 nu, .int .i64 pa], _] _ _
 have HS1 := zh (hHS1 ov ok (by
  rcases hkk with ⟨h1, _, rfl, rfl, _⟩ | ⟨k, h1, _, rfl, rfl, _⟩ <;> rw [h1]))
 have HKK := zh hkk; clear hb h hHS1 hkk htm; go_enter Tryz.func65, Tryz.ntmps65
 go_wp2_with fail; refine zF (fun w' : World => (w'.cell? ⟨m, 9, none⟩ = some (.map (some bt)) ∧ w'.cell? ⟨W.heap.size + 1, 0, none⟩ = some (.string ⟨nm.toArray⟩) ∧ w'.cell? ⟨W.heap.size + 1, 1, none⟩ = some (.bool lt) ∧ w'.cell? ⟨W.heap.size + 1, 2, none⟩ = some (.int .i64 nu) ∧ w'.cell? ⟨W.heap.size + 1, 3, none⟩ = some (.int .i64 pa) ∧ (Instr.lookup 95 (.map (some bt)) (.agg #[.string ⟨nm.toArray⟩, .bool lt]) true).run Tryz.prog w' = .ok (.tuple #[.int .i64 ov, .bool ok]) w')) [] (.take 0 (.take 1 (.take 2 (.take 3 (.take 4 (.one 5 (.take 6 (.take 7 (.take 8 (.take 9 (.one 10 (.one 11 (.done))))))))))))) (by kernel_rfl) (by kernel_rfl) (fun _ _ _ _ h => h) ?_; have hSw := HS1.out _ (below_drewN (Below.refl _ _) 1); iterate 5 (refine zN (v := ?_) rfl hSw (by rfl) ?_ ?_; rotate_left 1; (focus (intro w hSx; (try dsimp only at hSx); go_simp; try rfl)); (try simp only [Act.put, zq0, zq1, zq2]))
 refine zB rfl (by rfl) (fun K' hK => ?_)
 (go_simp; go_at_call 82; refine (HKY.out _).mono ?_; rintro e w1 ⟨rfl, hb1⟩; have HB1 := zh (show Below (W.heap.size + 3) (((W.alloc (.cells #[.int .i64 dk, .string ⟨dt.toArray⟩, dsv, .int .i64 dp] 57)).alloc (.cells #[.string ⟨nm.toArray⟩, .bool lt, .int .i64 nu, .int .i64 pa] 45)).alloc (.cells #[.string ⟨#[]⟩, .bool false, .int .i64 0, .int .i64 0, .int .i64 0, .string ⟨#[]⟩] 65)) w1 from (zI hb1).mono (by show _ ≤ (((W.alloc (.cells #[.int .i64 dk, .string ⟨dt.toArray⟩, dsv, .int .i64 dp] 57)).alloc (.cells #[.string ⟨nm.toArray⟩, .bool lt, .int .i64 nu, .int .i64 pa] 45)).alloc (.cells #[.string ⟨#[]⟩, .bool false, .int .i64 0, .int .i64 0, .int .i64 0, .string ⟨#[]⟩] 65)).heap.size; simp)); clear hb1)
 refine hK _ _ (.inr (HS1.out _ HB1.out)) ?_; clear hK K' hSw; have hSw := HS1.out _ HB1.out; (try simp only [Act.put, zq0, zq1, zq2]); iterate 4 (refine zN (v := ?_) rfl hSw (by rfl) ?_ ?_; rotate_left 1; (focus (intro w hSx; (try dsimp only at hSx); go_simp; try rfl)); (try simp only [Act.put, zq0, zq1, zq2]))
 refine zB rfl (by rfl) (fun K' hK => ?_); go_simp; refine hK _ _ (.inr (HS1.out _ HB1.out)) ?_; clear hK K' hSw; (try simp only [Act.put, zq0, zq1, zq2]); refine zB rfl (by rfl) (fun K' hK => ?_); go_simp; refine hK _ _ (.inr (HS1.out _ HB1.out)) ?_; clear hK K'; (try simp only [Act.put, zq0, zq1, zq2]); refine zH ?_; have HD1 := zh (three_c HB1.out); have hbW : Below W.heap.size W w1 := (j6 W _ _ _).trans (HB1.out.mono (by omega)); have HMK1 := zh (zU HH.out hbW); have HBW := zh hbW; clear hbW; have hl1 : m < w1.heap.size := zC HMK1.out.block; go_upto_if 23 with fail
 go_cut [10] (fun c10 wx => c10 = .int .i64 kk ∧ wx.heap[W.heap.size + 1 + 1]? = some (.cells (tokC t).toArray 65 (0, 0)) ∧ Below (W.heap.size + 2) w1 wx)
 case first =>
  have hkk := HKK.out; obtain ⟨hd1, hs1, ht1⟩ := HD1.out; rcases hkk with ⟨h1, rfl, rfl, rfl, rfl, rfl⟩ | ⟨k, h1, rfl, rfl, rfl, ht, hg⟩
  ·have HT1 := zh ht1
   clear h1 hd1 hs1 ht1; go_wp2_with fail; go_meet; exact ⟨rfl, HT1.out, Below.refl _ _⟩
  ·obtain ⟨gt, ct, htv⟩ := yB HMK1.out.toks (by have := HMK1.out.three; omega)
   have hkt : k < s.toks.length := (List.getElem?_eq_some_iff.1 ht).1; have hb := HMK1.out.block; have hto := HMK1.out.toks; unfold zX at hb; rw [htv] at hb hto; have c4 := zc 4 hb; have hr : ∀ (j : Nat) (u : Value), (tokC t)[j]? = some u → w1.cell? ⟨gt, k * 6 + j, none⟩ = some u := fun j u hj => yY hto (fun _ => rfl) ht hkt hj
   have r0 := hr 0 _ rfl; have r1 := hr 1 _ rfl; have r2 := hr 2 _ rfl; have r3 := hr 3 _ rfl; have r4 := hr 4 _ rfl; have r5 := hr 5 _ rfl; simp only [Nat.add_zero] at r0; have hlt : gt < w1.heap.size := (hto.lt gt rfl).2; have hl9 := zC ht1; have g0 := zc 0 ht1; have g1 := zc 1 ht1; have g2 := zc 2 ht1; have g3 := zc 3 ht1; have g4 := zc 4 ht1; have g5 := zc 5 ht1; have f0 := zf 0 ht1; have f1 := zf 1 ht1; have f2 := zf 2 ht1; have f3 := zf 3 ht1; have f4 := zf 4 ht1; have f5 := zf 5 ht1; have HT1 := zh ht1; obtain ⟨tn, tl, tu, te, ta, tg⟩ := t; simp only [tokC] at r0 r1 r2 r3 r4 r5 HT1 ⊢; have hk0 : (0 : Int) ≤ (k : Int) := Int.natCast_nonneg _; clear h1 hd1 hs1 ht1 hb hto hr ht hg; go_wp2_with fail; go_meet; exact ⟨rfl, zA (zA (zA (zA (zA (zA HT1.out))))), ((((((Below.refl _ w1).setCell (by simp) _).setCell (by simp) _).setCell (by simp) _).setCell (by simp) _).setCell (by simp) _).setCell (by simp) _⟩
 case rest =>
  obtain ⟨rfl, hT, hb1⟩ := hcut; obtain ⟨w2, hw2⟩ : ∃ w2 : World, w2 = wc := ⟨_, rfl⟩
  subst hw2; obtain ⟨hd1, hs1, _⟩ := HD1.out; have hlW : W.heap.size + 2 < w1.heap.size := zC HD1.out.2.2; have HX2 := zh (And.intro ((hb1.block W.heap.size (by omega)).trans hd1) (And.intro ((hb1.block (W.heap.size + 1) (by omega)).trans hs1) hT)); have hbW2 : Below W.heap.size W w2 := HBW.out.trans (hb1.mono (by omega)); have HBW2 := zh hbW2; have HMK2 := zh (zU HH.out hbW2); clear hT hb1 hd1 hs1 hbW2; obtain ⟨b1, hb1⟩ : ∃ b, b = (decide (dk ≠ 1) && decide (0 < t.level)) := ⟨_, rfl⟩
  obtain ⟨b2, hb2⟩ : ∃ b, b = (decide (0 < nu) && ((decide (kk = 1) || gk) || Sp.taken s nu kk)) := ⟨_, rfl⟩
  obtain ⟨b3, hb3⟩ : ∃ b, b = Sp.clash s ⟨nm, lt, nu, pa⟩ := ⟨_, rfl⟩
  obtain ⟨b4, hb4⟩ : ∃ b, b = ((decide (dt ≠ []) && decide (t.tag ≠ [])) && decide (t.tag ≠ dt)) := ⟨_, rfl⟩
  have HBAD : Hid (Sp.tokBad s ⟨dk, dt, dsy, dp⟩ ⟨nm, lt, nu, pa⟩ = (((b1 || b2) || b3) || b4)) := zh (by
   rw [hb1, hb2, hb3, hb4]; unfold Sp.tokBad; simp only; rcases HKK.out with ⟨h1, rfl, _, _, rfl, rfl⟩ | ⟨k, h1, rfl, _, _, ht, hg⟩
   ·rw [h1]
   ·rw [h1]
    have e1 : s.toks.getD k Sp.gF = t := by rw [List.getD_eq_getElem?_getD, ht]; rfl
    have e2 : s.given.getD k false = gk := by rw [List.getD_eq_getElem?_getD, hg]; rfl
    simp only [e1, e2])
  have HNS : Hid ((((b1 || b2) || b3) || b4) = true → Sp.kJ s ⟨dk, dt, dsy, dp⟩ ⟨nm, lt, nu, pa⟩ level = none) := zh (fun h => by
   unfold Sp.kJ
   rw [HBAD.out, if_pos h])
  have HB1 := zh hb1; have HB2 := zh hb2; have HB3 := zh hb3; have HB4 := zh hb4; clear hb1 hb2 hb3 hb4; have hl2 : m < w2.heap.size := zC HMK2.out.block; go_upto_region 6 with fail
  go_cut [32] (fun c wx => c = .bool b1 ∧ w2 = wx)
  case first =>
   obtain ⟨hd, hs, _⟩ := HX2.out; have d0 := zc 0 hd; have d1 := zc 1 hd; have d2 := zc 2 hd; have d3 := zc 3 hd; have s0 := zc 0 hs; have s1 := zc 1 hs; have s2 := zc 2 hs; have s3 := zc 3 hs; have hld := zC hd; have hls := zC hs; clear hd hs; have ht9 := HX2.out.2.2; have t3 : w2.cell? ⟨W.heap.size + 1 + 1, 3, none⟩ = some (.int .i64 t.level) := zc 3 ht9; have hl9 := zC ht9; clear ht9; by_cases h1 : dk = 1
   ·have e1 := HB1.out
    subst h1; have E : Hid (false = b1) := zh (by rw [e1]; rfl); clear e1; go_wp2_with fail; go_meet; exact ⟨by rw [← E.out], rfl⟩
   ·have h1b : (dk == 1) = false := by rw [beq_eq_false_iff_ne]; exact h1
    have h1n : (dk != 1) = true := by rw [bne_iff_ne]; exact h1
    have E : Hid (decide (0 < t.level) = b1) := zh (by rw [HB1.out]; simp [h1]); go_wp2_with fail; go_meet; exact ⟨by rw [← E.out], rfl⟩
  case rest =>
   obtain ⟨rfl, rfl⟩ := hcut
   cases b1 with
   | true =>
    have hns := HNS.out rfl; obtain ⟨hd, hs, _⟩ := HX2.out; have d0 := zc 0 hd; have d1 := zc 1 hd; have d2 := zc 2 hd; have d3 := zc 3 hd; have s0 := zc 0 hs; have s1 := zc 1 hs; have s2 := zc 2 hs; have s3 := zc 3 hs; have hld := zC hd; have hls := zC hs; clear hd hs; go_wp2_with fail; refine (qG nm pa HMK2.out).mono ?_; rintro e w9 ⟨rfl, hm9, hk9⟩; have HM9 := zh hm9; have HK9 := zh hk9; clear hm9 hk9; go_wp2_with fail; go_ret; rw [hns]; exact kK (zK rfl) HM9.out (jK HBW2.out HK9.out)
   | false =>
    go_upto_region 7 with fail
    go_cut [32] (fun c wx => c = .bool b2 ∧ w2 = wx)
    case first =>
     obtain ⟨hd, hs, ht9⟩ := HX2.out; have d0 := zc 0 hd; have d1 := zc 1 hd; have d2 := zc 2 hd; have d3 := zc 3 hd; have s0 := zc 0 hs; have s1 := zc 1 hs; have s2 := zc 2 hs; have s3 := zc 3 hs; have hld := zC hd; have hls := zC hs; clear hd hs; clear ht9; have hb := HMK2.out.block; have hg := HMK2.out.given; obtain ⟨gg, cg, hgv⟩ := yB hg (by have := HMK2.out.three; have := HMK2.out.same; omega); unfold zX at hb; rw [hgv] at hb hg; have c10 := zc 10 hb; have hlg : gg < w2.heap.size := (hg.lt gg rfl).2; by_cases hn : 0 < nu
     ·by_cases hk1 : kk = 1
      ·have E : Hid (true = b2) := zh (by rw [HB2.out]; simp [hn, hk1])
       subst hk1; clear hb hg hgv; go_wp2_with fail; go_meet; exact ⟨by rw [← E.out], rfl⟩
      ·have hk1d : (kk == 1) = false := by rw [beq_eq_false_iff_ne]; exact hk1
       have hkk := HKK.out; rcases hkk with ⟨h1, h2, h4, h3, ht, h5⟩ | ⟨k, h1, h2, h4, h3, ht, hgk⟩
       ·have HTK := zh (zDB nu kk HMK2.out (by omega))
        have E : Hid (Sp.taken s nu kk = b2) := zh (by rw [HB2.out, h5]; simp [hn, hk1]); subst h3; generalize Sp.taken s nu kk = tk at *
        clear hb hg hgv h1 h2 h4 h5 ht; go_wp2_with fail; refine (HTK.out).mono ?_; rintro e w9 ⟨rfl, rfl⟩; go_wp2_with fail; go_meet; exact ⟨by rw [← E.out], rfl⟩
       ·have hkg : k < s.given.length := (List.getElem?_eq_some_iff.1 hgk).1
        have cg2 := jP hg hgk hkg; have hk0 : (0 : Int) ≤ (k : Int) := Int.natCast_nonneg _; subst h2 h3; clear h1 h4 ht
        cases gk with
        | true =>
         have E : Hid (true = b2) := zh (by rw [HB2.out]; simp [hn]); clear hb hg hgv hgk; go_wp2_with fail; go_meet; exact ⟨by rw [← E.out], rfl⟩
        | false =>
         have HTK := zh (zDB nu (k : Int) HMK2.out (by omega)); have E : Hid (Sp.taken s nu (k : Int) = b2) := zh (by rw [HB2.out]; simp [hn, hk1]); generalize Sp.taken s nu (k : Int) = tk at *
         clear hb hg hgv hgk; go_wp2_with fail; refine (HTK.out).mono ?_; rintro e w9 ⟨rfl, rfl⟩; go_wp2_with fail; go_meet; exact ⟨by rw [← E.out], rfl⟩
     ·have hnd : decide (0 < nu) = false := decide_eq_false hn
      have E : Hid (false = b2) := zh (by rw [HB2.out, hnd]; rfl); clear hb hg hgv; go_wp2_with fail; go_meet; exact ⟨by rw [← E.out], rfl⟩
    case rest =>
     obtain ⟨rfl, rfl⟩ := hcut
     cases b2 with
     | true =>
      have hns := HNS.out rfl; obtain ⟨hd, hs, ht9⟩ := HX2.out; have d0 := zc 0 hd; have d1 := zc 1 hd; have d2 := zc 2 hd; have d3 := zc 3 hd; have s0 := zc 0 hs; have s1 := zc 1 hs; have s2 := zc 2 hs; have s3 := zc 3 hs; have hld := zC hd; have hls := zC hs; clear hd hs; clear ht9; go_wp2_with fail; refine (qG nm pa HMK2.out).mono ?_; rintro e w9 ⟨rfl, hm9, hk9⟩; have HM9 := zh hm9; have HK9 := zh hk9; clear hm9 hk9; go_wp2_with fail; go_ret; rw [hns]; exact kK (zK rfl) HM9.out (jK HBW2.out HK9.out)
     | false =>
      have HCL := zh (show Calls Tryz.prog 84 #[.pointer (some ⟨m, 0, none⟩), .agg #[.string ⟨nm.toArray⟩, .bool lt, .int .i64 nu, .int .i64 pa]] w2 (fun e w' => e = .returned (.bool b3) ∧ Below w2.heap.size w2 w') from by
       rw [HB3.out]
       exact maker_clash ⟨nm, lt, nu, pa⟩ HMK2.out (by omega) hy hy1)
      obtain ⟨hd, hs, ht9⟩ := HX2.out; have d0 := zc 0 hd; have d1 := zc 1 hd; have d2 := zc 2 hd; have d3 := zc 3 hd; have s0 := zc 0 hs; have s1 := zc 1 hs; have s2 := zc 2 hs; have s3 := zc 3 hs; have hld := zC hd; have hls := zC hs; clear hd hs; clear ht9; go_wp2_with fail; refine (HCL.out).mono ?_; rintro e w3 ⟨rfl, hb3⟩; have hbW3 : Below W.heap.size W w3 := HBW2.out.trans (hb3.mono (HBW2.out.size)); have hX := HX2.out; have HX3 := zh (And.intro ((hb3.block _ (zC hX.1)).trans hX.1) (And.intro ((hb3.block _ (zC hX.2.1)).trans hX.2.1) ((hb3.block _ (zC hX.2.2)).trans hX.2.2))); have HMK3 := zh (zU HMK2.out hb3); have HBW3 := zh hbW3; have hl3 : m < w3.heap.size := zC HMK3.out.block; clear hb3 hbW3 hX d0 d1 d2 d3 s0 s1 s2 s3 hld hls
      cases b3 with
      | true =>
       have hns := HNS.out rfl; obtain ⟨hd, hs, ht9⟩ := HX3.out; have d0 := zc 0 hd; have d1 := zc 1 hd; have d2 := zc 2 hd; have d3 := zc 3 hd; have s0 := zc 0 hs; have s1 := zc 1 hs; have s2 := zc 2 hs; have s3 := zc 3 hs; have hld := zC hd; have hls := zC hs; clear hd hs; clear ht9; go_wp2_with fail; refine (qG nm pa HMK3.out).mono ?_; rintro e w9 ⟨rfl, hm9, hk9⟩; have HM9 := zh hm9; have HK9 := zh hk9; clear hm9 hk9; go_wp2_with fail; go_ret; rw [hns]; exact kK (zK rfl) HM9.out (jK HBW3.out HK9.out)
      | false =>
       go_upto_region 9 with fail
       go_cut [32] (fun c wx => c = .bool b4 ∧ w3 = wx)
       case first =>
        obtain ⟨hd, hs, ht9⟩ := HX3.out; have d0 := zc 0 hd; have d1 := zc 1 hd; have d2 := zc 2 hd; have d3 := zc 3 hd; have s0 := zc 0 hs; have s1 := zc 1 hs; have s2 := zc 2 hs; have s3 := zc 3 hs; have hld := zC hd; have hls := zC hs; clear hd hs; have t5 : w3.cell? ⟨W.heap.size + 1 + 1, 5, none⟩ = some (.string ⟨t.tag.toArray⟩) := zc 5 ht9; have hl9 := zC ht9; have hB4 := HB4.out; clear ht9; generalize t.tag = tg at *
        cases dt with
        | nil =>
         have E : Hid (false = b4) := zh (by rw [hB4]; rfl); clear hB4; go_wp2_with fail; go_meet; exact ⟨by rw [← E.out], rfl⟩
        | cons c u =>
         cases tg with
         | nil =>
          have E : Hid (false = b4) := zh (by rw [hB4]; simp); clear hB4; go_wp2_with fail; go_meet; exact ⟨by rw [← E.out], rfl⟩
         | cons c2 A2 =>
          generalize hdt : c :: u = dt at *
          have hdt0 : dt ≠ [] := by rw [← hdt]; simp
          by_cases htd : c2 :: A2 = dt
          ·have E : Hid (false = b4) := zh (by rw [hB4, htd]; simp)
           rw [← htd] at d1; clear hB4 hdt hdt0 htd; go_wp2_with fail; go_meet; exact ⟨by rw [← E.out], rfl⟩
          ·have E : Hid (true = b4) := zh (by rw [hB4]; simp [htd, hdt0])
           have hnb : (c2 :: A2 == dt) = false := by rw [beq_eq_false_iff_ne]; exact htd
           have hnd : decide (c2 :: A2 = dt) = false := decide_eq_false htd; subst hdt; clear hB4 hdt0 htd; go_wp2_with fail; go_meet; exact ⟨by rw [← E.out], rfl⟩
       case rest =>
        obtain ⟨rfl, rfl⟩ := hcut
        cases b4 with
        | true =>
         have hns := HNS.out rfl; obtain ⟨hd, hs, ht9⟩ := HX3.out; have d0 := zc 0 hd; have d1 := zc 1 hd; have d2 := zc 2 hd; have d3 := zc 3 hd; have s0 := zc 0 hs; have s1 := zc 1 hs; have s2 := zc 2 hs; have s3 := zc 3 hs; have hld := zC hd; have hls := zC hs; clear hd hs; clear ht9; go_wp2_with fail; refine (qG nm pa HMK3.out).mono ?_; rintro e w9 ⟨rfl, hm9, hk9⟩; have HM9 := zh hm9; have HK9 := zh hk9; clear hm9 hk9; go_wp2_with fail; go_ret; rw [hns]; exact kK (zK rfl) HM9.out (jK HBW3.out HK9.out)
        | false =>
         have hbad : Sp.tokBad s ⟨dk, dt, dsy, dp⟩ ⟨nm, lt, nu, pa⟩ = false := HBAD.out; have HADD := zh (maker_add ⟨nm, lt, nu, pa⟩ HMK3.out hn40 hy hy1); have HSTEP : Hid (Sp.kJ s ⟨dk, dt, dsy, dp⟩ ⟨nm, lt, nu, pa⟩ level = some (Sp.tokEnd ⟨dk, dt, dsy, dp⟩ ⟨nm, lt, nu, pa⟩ level (Sp.addTok s ⟨nm, lt, nu, pa⟩))) := zh (Sp.tokStep_end hbad); have HKL := zh (Sp.addTok_lt ⟨nm, lt, nu, pa⟩ HMK3.out.three); have HLN := zh (Sp.addTok_len ⟨nm, lt, nu, pa⟩ s); clear hbad; generalize Sp.addTok s ⟨nm, lt, nu, pa⟩ = r at *
         obtain ⟨s1, k⟩ := r; simp only at HKL HLN; obtain ⟨hd, hs, ht9⟩ := HX3.out; have d0 := zc 0 hd; have d1 := zc 1 hd; have d2 := zc 2 hd; have d3 := zc 3 hd; have s0 := zc 0 hs; have s1 := zc 1 hs; have s2 := zc 2 hs; have s3 := zc 3 hs; have hld := zC hd; have hls := zC hs; clear hd hs; clear ht9; go_wp2_with fail; refine (HADD.out).mono ?_; rintro e w4 hadd; unfold AddPost at hadd; dsimp only at hadd; obtain ⟨rfl, v1, hmk4, hfr4, hdv, hrv⟩ := hadd; have hX := HX3.out; have hnb : ∀ b, W.heap.size ≤ b → b < w3.heap.size → ¬ yZ m v b := fun b h1 _ h2 => by have := HH.out.lt_own b h2; omega
         have HX4 := zh (And.intro ((hfr4.kp.block _ (zC hX.1) (hnb _ (by omega) (zC hX.1))).trans hX.1) ((hfr4.kp.block _ (zC hX.2.1) (hnb _ (by omega) (zC hX.2.1))).trans hX.2.1))
         have HNB1 := zh (fun (b : Nat) (h1 : W.heap.size ≤ b) (h2 : b < w3.heap.size) (h3 : yZ m v1 b) => (show False from by
          rcases hfr4.new b h3 with h4 | h4
          ·exact hnb b h1 h2 h4
          ·omega))
         have HFR4 := zh ((MkFr.below v HBW3.out).trans hfr4); have HMK4 := zh hmk4; have HDR := zh (And.intro hdv hrv); have HLX := zh (And.intro (zC hX.1) (zC hX.2.1)); clear hmk4 hfr4 hdv hrv hX hnb d0 d1 d2 d3 s0 s1 s2 s3 hld hls; obtain ⟨gt, ct, htv⟩ := yB HMK4.out.toks (by have := HMK4.out.three; omega); obtain ⟨gg, cg, hgv⟩ := yB HMK4.out.given (by have := HMK4.out.three; have := HMK4.out.same; omega); obtain ⟨n, hn⟩ : ∃ n, n = s1.toks.length := ⟨_, rfl⟩
         have hkn : k < n := by have := HKL.out; omega
         have hn41 : n ≤ 2 ^ 40 + 1 := by have := HLN.out; omega
         rw [← hn] at htv; rw [HMK4.out.same, ← hn] at hgv; have HN := zh hn; clear hn; have HTV := zh htv; have HGV := zh hgv
         have hap : m ≠ gt ∧ m ≠ gg ∧ gt ≠ gg := by
          have h1 := HMK4.out.toks; have h2 := HMK4.out.given; have h3 := HMK4.out.block; rw [htv] at h1; rw [hgv, HMK4.out.same, ← HN.out] at h2; refine ⟨fun e => zG h1 h3 (by decide) gt rfl e.symm, fun e => zG h2 h3 (by decide) gg rfl e.symm, fun e => ?_⟩; obtain ⟨cu, hcu⟩ := yW h2; exact zG h1 hcu (by decide) gt rfl e
         have HAP := zh hap; have HBG := zh (show ∀ b, W.heap.size ≤ b → b < w3.heap.size → b ≠ gt ∧ b ≠ gg ∧ b ≠ m from fun b h1 h2 => ⟨fun e => HNB1.out b h1 h2 (.inr (.inl (by rw [htv, e]; rfl))), fun e => HNB1.out b h1 h2 (.inr (.inr (.inr (.inr (.inl (by rw [hgv, e]; rfl)))))), fun e => HNB1.out b h1 h2 (.inl e)⟩); clear htv hgv hap; obtain ⟨sa, hsa⟩ : ∃ sa, sa = Sp.tokEnd1 ⟨dk, dt, dsy, dp⟩ ⟨nm, lt, nu, pa⟩ level (s1, k) := ⟨_, rfl⟩
         have HSA := zh hsa; clear hsa; obtain ⟨hd, hs⟩ := HX4.out; have d0 := zc 0 hd; have d1 := zc 1 hd; have d2 := zc 2 hd; have d3 := zc 3 hd; have s0 := zc 0 hs; have z1 := zc 1 hs; have s2 := zc 2 hs; have s3 := zc 3 hs; have hld := zC hd; have hls := zC hs; clear hd hs; go_upto_if 96 with fail
         go_cut [] (fun wx => zS B wx m x sa v1 0 0 [] ∧ MkFr m v1 v1 w4 wx)
         case first =>

          have HSK := zh (fun (w' : World) (kp : Kp (fun b => b ≠ gt ∧ b ≠ gg) w4 w') => (show (w'.cell? ⟨m, 4, none⟩ = some (.slice (some ⟨gt, 0, none⟩) n ct) ∧ w'.cell? ⟨m, 10, none⟩ = some (.slice (some ⟨gg, 0, none⟩) n cg) ∧ w'.cell? ⟨W.heap.size + 1, 2, none⟩ = some (.int .i64 nu) ∧ w'.cell? ⟨W.heap.size, 0, none⟩ = some (.int .i64 dk) ∧ w'.cell? ⟨W.heap.size, 1, none⟩ = some (.string ⟨dt.toArray⟩)) from by
           have hb := HMK4.out.block; unfold zX at hb; rw [HTV.out, HGV.out] at hb; have k1 := (kp.block m (zC hb) ⟨HAP.out.1, HAP.out.2.1⟩).trans hb; obtain ⟨hd, hs⟩ := HX4.out; have b1 := HBG.out W.heap.size (by omega) HLX.out.1; have b2 := HBG.out (W.heap.size + 1) (by omega) HLX.out.2; have k2 := (kp.block _ (zC hd) ⟨b1.1, b1.2.1⟩).trans hd; have k3 := (kp.block _ (zC hs) ⟨b2.1, b2.2.1⟩).trans hs
           exact ⟨zc 4 k1, zc 10 k1, zc 2 k3, zc 0 k2, zc 1 k2⟩))
          have hln : n = s1.toks.length := by exact HN.out
          have hkt : k < s1.toks.length := by omega
          obtain ⟨t1, ht1⟩ : ∃ t1, s1.toks[k]? = some t1 := ⟨_, List.getElem?_eq_getElem hkt⟩
          have htd : s1.toks.getD k Sp.gF = t1 := by rw [List.getD_eq_getElem?_getD, ht1]; rfl
          have hto := HMK4.out.toks; have hgo := HMK4.out.given; rw [HTV.out, ← hln] at hto; rw [HGV.out, HMK4.out.same, ← hln] at hgo; have hlt : gt < w4.heap.size := (hto.lt gt rfl).2; have hlg : gg < w4.heap.size := (hgo.lt gg rfl).2; have hmw : m < w4.heap.size := zC HMK4.out.block; have hk0 : (0 : Int) ≤ (k : Int) := Int.natCast_nonneg _; have hk1 : (k : Int) < (n : Int) := by omega
          have hgtg : gt ≠ gg := HAP.out.2.2; have HT1 := zh ht1; have HTD := zh htd; have HLN2 := zh hln; by_cases hn0 : 0 < nu
          ·have hsa : sa = { Sp.jJ s1 k (fun t => { t with num := nu }) with given := s1.given.set k true } := by rw [HSA.out]; unfold Sp.tokEnd1; simp only [if_pos hn0]
           obtain ⟨g0, hg0⟩ : ∃ g0, s1.given[k]? = some g0 := ⟨_, List.getElem?_eq_getElem (by rw [HMK4.out.same]; omega)⟩
           have r2 := yY hto (fun _ => rfl) ht1 hkn (j := 2) (u := .int .i64 t1.num) rfl; have f2 := hto.frozenAt (k * 6 + 2); have gcl := jP hgo hg0 hkn; have gf := hgo.frozenAt k; have gcl2 : (w4.drew.setCell ⟨gt, k * 6 + 2, none⟩ (.int .i64 nu)).cell? ⟨gg, k, none⟩ = some (.bool g0) := (World.cell?_setCell_far _ _ _ _ hgtg).trans gcl; have HSA2 := zh hsa; clear hsa hto hgo ht1 htd hln hg0; go_upto_region 13 with fail
           refine zF (fun w' : World => (w'.cell? ⟨m, 4, none⟩ = some (.slice (some ⟨gt, 0, none⟩) n ct) ∧ w'.cell? ⟨m, 10, none⟩ = some (.slice (some ⟨gg, 0, none⟩) n cg) ∧ w'.cell? ⟨W.heap.size + 1, 2, none⟩ = some (.int .i64 nu) ∧ w'.cell? ⟨W.heap.size, 0, none⟩ = some (.int .i64 dk) ∧ w'.cell? ⟨W.heap.size, 1, none⟩ = some (.string ⟨dt.toArray⟩))) [] (.take 0 (.take 1 (.take 2 (.take 3 (.take 4 (.take 5 (.take 6 (.take 7 (.take 8 (.take 9 (.take 10 (.take 11 (.take 12 (.take 13 (.take 14 (.one 15 (.take 16 (.one 17 (.done))))))))))))))))))) (by kernel_rfl) (by kernel_rfl) (fun _ _ _ _ h => h) ?_; have hSw := HSK.out _ ((Kp.refl _ w4).drew); iterate 15 (refine zN (v := ?_) rfl hSw (by rfl) ?_ ?_; rotate_left 1; (focus (intro w hSx; (try dsimp only at hSx); go_simp; try rfl)); (try simp only [Act.put, zq0, zq1, zq2]))
           refine zB rfl (by rfl) (fun K' hK => ?_); go_simp; refine hK _ _ (.inr (HSK.out _ (((Kp.refl _ w4).drew).setCell (p := ⟨gt, k * 6 + 2, none⟩) (by simp) (.int .i64 nu)))) ?_; clear hK K' hSw; have hSw := HSK.out _ (((Kp.refl _ w4).drew).setCell (p := ⟨gt, k * 6 + 2, none⟩) (by simp) (.int .i64 nu)); (try simp only [Act.put, zq0, zq1, zq2])
           (refine zN (v := ?_) rfl hSw (by rfl) ?_ ?_; rotate_left 1; (focus (intro w hSx; (try dsimp only at hSx); go_simp; try rfl)); (try simp only [Act.put, zq0, zq1, zq2]))
           refine zB rfl (by rfl) (fun K' hK => ?_); go_simp; refine hK _ _ (.inr (HSK.out _ ((((Kp.refl _ w4).drew).setCell (p := ⟨gt, k * 6 + 2, none⟩) (by simp) (.int .i64 nu)).setCell (p := ⟨gg, k, none⟩) (by simp) (.bool true)))) ?_; clear hK K' hSw; (try simp only [Act.put, zq0, zq1, zq2]); refine zH ?_; go_wp2_with fail; go_meet; rw [HSA2.out]; unfold Sp.jJ; rw [HTD.out]; have hmd := zU HMK4.out (below_drewN (Below.refl w4.heap.size w4) 1); have h1 := vH (k := k) (off := 2) (t := t1) (t' := { t1 with num := nu }) (u := .int .i64 nu) hmd HTV.out HT1.out (by decide) rfl rfl rfl; have h2 := maker_givenset (k := k) true h1.1 HGV.out; exact ⟨h2.1, (MkFr.below v1 (below_drewN (Below.refl w4.heap.size w4) 1)).trans (h1.2.trans h2.2)⟩
          ·have hsa : sa = s1 := by rw [HSA.out]; unfold Sp.tokEnd1; simp only [if_neg hn0]
           have hnd : decide (0 < nu) = false := decide_eq_false hn0; have HSA2 := zh hsa; clear hsa hto hgo ht1 htd hln; go_wp2_with fail; go_meet; rw [HSA2.out]; exact ⟨HMK4.out, MkFr.below v1 (Below.refl _ _)⟩
         case rest =>
          clear d0 d1 d2 d3 s0 z1 s2 s3 hld hls; obtain ⟨hmk5, hfr5⟩ := hcut; obtain ⟨w5, hw5⟩ : ∃ w5 : World, w5 = wc := ⟨_, rfl⟩
          subst hw5; have HX5 := zh (And.intro ((hfr5.kp.block _ (zC HX4.out.1) (HNB1.out _ (by omega) HLX.out.1)).trans HX4.out.1) ((hfr5.kp.block _ (zC HX4.out.2) (HNB1.out _ (by omega) HLX.out.2)).trans HX4.out.2)); have HMK5 := zh hmk5; have HFR5 := zh hfr5; clear hmk5 hfr5; obtain ⟨sb, hsb⟩ : ∃ sb, sb = Sp.tokEnd2 ⟨dk, dt, dsy, dp⟩ k sa := ⟨_, rfl⟩
          have HSB := zh hsb; clear hsb; obtain ⟨hd, hs⟩ := HX5.out; have d0 := zc 0 hd; have d1 := zc 1 hd; have d2 := zc 2 hd; have d3 := zc 3 hd; have s0 := zc 0 hs; have z1 := zc 1 hs; have s2 := zc 2 hs; have s3 := zc 3 hs; have hld := zC hd; have hls := zC hs; clear hd hs; go_upto_if 115 with fail
          go_cut [] (fun wx => zS B wx m x sb v1 0 0 [] ∧ MkFr m v1 v1 w5 wx)
          case first =>
           have HSK := zh (fun (w' : World) (kp : Kp (fun b => b ≠ gt ∧ b ≠ gg) w5 w') => (show (w'.cell? ⟨m, 4, none⟩ = some (.slice (some ⟨gt, 0, none⟩) n ct) ∧ w'.cell? ⟨m, 10, none⟩ = some (.slice (some ⟨gg, 0, none⟩) n cg) ∧ w'.cell? ⟨W.heap.size + 1, 2, none⟩ = some (.int .i64 nu) ∧ w'.cell? ⟨W.heap.size, 0, none⟩ = some (.int .i64 dk) ∧ w'.cell? ⟨W.heap.size, 1, none⟩ = some (.string ⟨dt.toArray⟩)) from by
            have hb := HMK5.out.block; unfold zX at hb; rw [HTV.out, HGV.out] at hb; have k1 := (kp.block m (zC hb) ⟨HAP.out.1, HAP.out.2.1⟩).trans hb; obtain ⟨hd, hs⟩ := HX5.out; have b1 := HBG.out W.heap.size (by omega) HLX.out.1; have b2 := HBG.out (W.heap.size + 1) (by omega) HLX.out.2; have k2 := (kp.block _ (zC hd) ⟨b1.1, b1.2.1⟩).trans hd; have k3 := (kp.block _ (zC hs) ⟨b2.1, b2.2.1⟩).trans hs
            exact ⟨zc 4 k1, zc 10 k1, zc 2 k3, zc 0 k2, zc 1 k2⟩))
           have hln : n = sa.toks.length := by rw [HSA.out]; unfold Sp.tokEnd1 Sp.jJ; simp only; split <;> simp [HN.out]
           have hkt : k < sa.toks.length := by omega
           obtain ⟨t1, ht1⟩ : ∃ t1, sa.toks[k]? = some t1 := ⟨_, List.getElem?_eq_getElem hkt⟩
           have htd : sa.toks.getD k Sp.gF = t1 := by rw [List.getD_eq_getElem?_getD, ht1]; rfl
           have hto := HMK5.out.toks; have hgo := HMK5.out.given; rw [HTV.out, ← hln] at hto; rw [HGV.out, HMK5.out.same, ← hln] at hgo; have hlt : gt < w5.heap.size := (hto.lt gt rfl).2; have hlg : gg < w5.heap.size := (hgo.lt gg rfl).2; have hmw : m < w5.heap.size := zC HMK5.out.block; have hk0 : (0 : Int) ≤ (k : Int) := Int.natCast_nonneg _; have hk1 : (k : Int) < (n : Int) := by omega
           have hgtg : gt ≠ gg := HAP.out.2.2; have HT1 := zh ht1; have HTD := zh htd; have HLN2 := zh hln; by_cases hn0 : dt = []
           ·have hsa : sb = sa := by rw [HSB.out]; unfold Sp.tokEnd2; simp only [hn0, ne_eq, not_true_eq_false, if_false]
            have HSA2 := zh hsa; clear hsa hto hgo ht1 htd hln; subst hn0; go_wp2_with fail; go_meet; rw [HSA2.out]; exact ⟨HMK5.out, MkFr.below v1 (Below.refl _ _)⟩
           ·have hsa : sb = Sp.jJ sa k (fun t => { t with tag := dt }) := by rw [HSB.out]; unfold Sp.tokEnd2; simp only [hn0, ne_eq, not_false_eq_true, if_true]
            have r2 := yY hto (fun _ => rfl) ht1 hkn (j := 5) (u := .string ⟨t1.tag.toArray⟩) rfl; have f2 := hto.frozenAt (k * 6 + 5); have HSA2 := zh hsa; obtain ⟨c0, A0, hdt⟩ : ∃ c u, dt = c :: u := by cases dt with | nil => exact absurd rfl hn0 | cons c u => exact ⟨c, u, rfl⟩
            subst hdt; clear hsa hto hgo ht1 htd hln hn0; go_upto_region 15 with fail
            refine zF (fun w' : World => (w'.cell? ⟨m, 4, none⟩ = some (.slice (some ⟨gt, 0, none⟩) n ct) ∧ w'.cell? ⟨m, 10, none⟩ = some (.slice (some ⟨gg, 0, none⟩) n cg) ∧ w'.cell? ⟨W.heap.size + 1, 2, none⟩ = some (.int .i64 nu) ∧ w'.cell? ⟨W.heap.size, 0, none⟩ = some (.int .i64 dk) ∧ w'.cell? ⟨W.heap.size, 1, none⟩ = some (.string ⟨(c0 :: A0).toArray⟩))) [] (.take 0 (.take 1 (.take 2 (.take 3 (.take 4 (.take 5 (.take 6 (.take 7 (.take 8 (.take 9 (.one 10 (.done)))))))))))) (by kernel_rfl) (by kernel_rfl) (fun _ _ _ _ h => h) ?_; have hSw := HSK.out _ ((Kp.refl _ w5).drew); iterate 10 (refine zN (v := ?_) rfl hSw (by rfl) ?_ ?_; rotate_left 1; (focus (intro w hSx; (try dsimp only at hSx); go_simp; try rfl)); (try simp only [Act.put, zq0, zq1, zq2]))
            refine zB rfl (by rfl) (fun K' hK => ?_); go_simp; refine hK _ _ (.inr (HSK.out _ (((Kp.refl _ w5).drew).setCell (p := ⟨gt, k * 6 + 5, none⟩) (by simp) (.string ⟨(c0 :: A0).toArray⟩)))) ?_; clear hK K' hSw; (try simp only [Act.put, zq0, zq1, zq2]); refine zH ?_; go_wp2_with fail; go_meet; rw [HSA2.out]; unfold Sp.jJ; rw [HTD.out]; have hmd := zU HMK5.out (below_drewN (Below.refl w5.heap.size w5) 1); have h1 := vH (k := k) (off := 5) (t := t1) (t' := { t1 with tag := c0 :: A0 }) (u := .string ⟨(c0 :: A0).toArray⟩) hmd HTV.out HT1.out (by decide) rfl rfl rfl; exact ⟨h1.1, (MkFr.below v1 (below_drewN (Below.refl w5.heap.size w5) 1)).trans h1.2⟩
          case rest =>
           clear d0 d1 d2 d3 s0 z1 s2 s3 hld hls; obtain ⟨hmk6, hfr6⟩ := hcut; obtain ⟨w6, hw6⟩ : ∃ w6 : World, w6 = wc := ⟨_, rfl⟩
           subst hw6; have HX6 := zh (And.intro ((hfr6.kp.block _ (zC HX5.out.1) (HNB1.out _ (by omega) HLX.out.1)).trans HX5.out.1) ((hfr6.kp.block _ (zC HX5.out.2) (HNB1.out _ (by omega) HLX.out.2)).trans HX5.out.2)); have HMK6 := zh hmk6; have HFR6 := zh hfr6; clear hmk6 hfr6; obtain ⟨sc, hsc⟩ : ∃ sc, sc = Sp.tokEnd3 ⟨dk, dt, dsy, dp⟩ level k sb := ⟨_, rfl⟩
           have HSC := zh hsc; clear hsc; obtain ⟨hd, hs⟩ := HX6.out; have d0 := zc 0 hd; have d1 := zc 1 hd; have d2 := zc 2 hd; have d3 := zc 3 hd; have s0 := zc 0 hs; have z1 := zc 1 hs; have s2 := zc 2 hs; have s3 := zc 3 hs; have hld := zC hd; have hls := zC hs; clear hd hs; go_upto_if 128 with fail
           go_cut [] (fun wx => zS B wx m x sc v1 0 0 [] ∧ MkFr m v1 v1 w6 wx)
           case first =>
            have HSK := zh (fun (w' : World) (kp : Kp (fun b => b ≠ gt ∧ b ≠ gg) w6 w') => (show (w'.cell? ⟨m, 4, none⟩ = some (.slice (some ⟨gt, 0, none⟩) n ct) ∧ w'.cell? ⟨m, 10, none⟩ = some (.slice (some ⟨gg, 0, none⟩) n cg) ∧ w'.cell? ⟨W.heap.size + 1, 2, none⟩ = some (.int .i64 nu) ∧ w'.cell? ⟨W.heap.size, 0, none⟩ = some (.int .i64 dk) ∧ w'.cell? ⟨W.heap.size, 1, none⟩ = some (.string ⟨dt.toArray⟩)) from by
             have hb := HMK6.out.block; unfold zX at hb; rw [HTV.out, HGV.out] at hb; have k1 := (kp.block m (zC hb) ⟨HAP.out.1, HAP.out.2.1⟩).trans hb; obtain ⟨hd, hs⟩ := HX6.out; have b1 := HBG.out W.heap.size (by omega) HLX.out.1; have b2 := HBG.out (W.heap.size + 1) (by omega) HLX.out.2; have k2 := (kp.block _ (zC hd) ⟨b1.1, b1.2.1⟩).trans hd; have k3 := (kp.block _ (zC hs) ⟨b2.1, b2.2.1⟩).trans hs
             exact ⟨zc 4 k1, zc 10 k1, zc 2 k3, zc 0 k2, zc 1 k2⟩))
            have hln : n = sb.toks.length := by rw [HSB.out, HSA.out]; unfold Sp.tokEnd2 Sp.tokEnd1 Sp.jJ; simp only; split <;> simp <;> split <;> simp [HN.out]
            have hkt : k < sb.toks.length := by omega
            obtain ⟨t1, ht1⟩ : ∃ t1, sb.toks[k]? = some t1 := ⟨_, List.getElem?_eq_getElem hkt⟩
            have htd : sb.toks.getD k Sp.gF = t1 := by rw [List.getD_eq_getElem?_getD, ht1]; rfl
            have hto := HMK6.out.toks; have hgo := HMK6.out.given; rw [HTV.out, ← hln] at hto; rw [HGV.out, HMK6.out.same, ← hln] at hgo; have hlt : gt < w6.heap.size := (hto.lt gt rfl).2; have hlg : gg < w6.heap.size := (hgo.lt gg rfl).2; have hmw : m < w6.heap.size := zC HMK6.out.block; have hk0 : (0 : Int) ≤ (k : Int) := Int.natCast_nonneg _; have hk1 : (k : Int) < (n : Int) := by omega
            have hgtg : gt ≠ gg := HAP.out.2.2; have HT1 := zh ht1; have HTD := zh htd; have HLN2 := zh hln; have hwa : IntKind.i64.wrap (dk - 2) = dk - 2 := IntWalk.i64_in _ ⟨by omega, by omega⟩; have hwb : IntKind.i64.wrap (dk - 2 + 1) = dk - 2 + 1 := IntWalk.i64_in _ ⟨by omega, by omega⟩; by_cases hn0 : dk = 1
            ·have hsa : sc = sb := by rw [HSC.out]; unfold Sp.tokEnd3; simp only [hn0, ne_eq, not_true_eq_false, if_false]
             have HSA2 := zh hsa; clear hsa hto hgo ht1 htd hln hwa hwb; subst hn0; go_wp2_with fail; go_meet; rw [HSA2.out]; exact ⟨HMK6.out, MkFr.below v1 (Below.refl _ _)⟩
            ·have hsa : sc = Sp.jJ sb k (fun t => { t with level := level, assoc := dk - 2 + 1 }) := by rw [HSC.out]; unfold Sp.tokEnd3; simp only [hn0, ne_eq, not_false_eq_true, if_true]
             have hn1 : (dk == 1) = false := by rw [beq_eq_false_iff_ne]; exact hn0
             have hn2 : (dk != 1) = true := by rw [bne_iff_ne]; exact hn0
             have r2 := yY hto (fun _ => rfl) ht1 hkn (j := 3) (u := .int .i64 t1.level) rfl; have f2 := hto.frozenAt (k * 6 + 3); have r3 := yY hto (fun _ => rfl) ht1 hkn (j := 4) (u := .int .i64 t1.assoc) rfl; have f3 := hto.frozenAt (k * 6 + 4); have HSA2 := zh hsa; clear hsa hto hgo ht1 htd hln hn0; go_upto_region 17 with fail
             refine zF (fun w' : World => (w'.cell? ⟨m, 4, none⟩ = some (.slice (some ⟨gt, 0, none⟩) n ct) ∧ w'.cell? ⟨m, 10, none⟩ = some (.slice (some ⟨gg, 0, none⟩) n cg) ∧ w'.cell? ⟨W.heap.size + 1, 2, none⟩ = some (.int .i64 nu) ∧ w'.cell? ⟨W.heap.size, 0, none⟩ = some (.int .i64 dk) ∧ w'.cell? ⟨W.heap.size, 1, none⟩ = some (.string ⟨dt.toArray⟩))) [] (.take 0 (.take 1 (.take 2 (.take 3 (.take 4 (.take 5 (.take 6 (.take 7 (.take 8 (.take 9 (.take 10 (.take 11 (.take 12 (.take 13 (.take 14 (.take 15 (.take 16 (.take 17 (.take 18 (.one 19 (.take 20 (.take 21 (.one 22 (.done)))))))))))))))))))))))) (by kernel_rfl) (by kernel_rfl) (fun _ _ _ _ h => h) ?_; have hSw := HSK.out _ ((Kp.refl _ w6).drew); iterate 19 (refine zN (v := ?_) rfl hSw (by rfl) ?_ ?_; rotate_left 1; (focus (intro w hSx; (try dsimp only at hSx); go_simp; try rfl)); (try simp only [Act.put, zq0, zq1, zq2]))
             refine zB rfl (by rfl) (fun K' hK => ?_); go_simp; refine hK _ _ (.inr (HSK.out _ (((Kp.refl _ w6).drew).setCell (p := ⟨gt, k * 6 + 3, none⟩) (by simp) (.int .i64 level)))) ?_; clear hK K' hSw; have hSw := HSK.out _ (((Kp.refl _ w6).drew).setCell (p := ⟨gt, k * 6 + 3, none⟩) (by simp) (.int .i64 level)); (try simp only [Act.put, zq0, zq1, zq2]); iterate 2 (refine zN (v := ?_) rfl hSw (by rfl) ?_ ?_; rotate_left 1; (focus (intro w hSx; (try dsimp only at hSx); go_simp; try rfl)); (try simp only [Act.put, zq0, zq1, zq2]))
             refine zB rfl (by rfl) (fun K' hK => ?_); go_simp; refine hK _ _ (.inr (HSK.out _ ((((Kp.refl _ w6).drew).setCell (p := ⟨gt, k * 6 + 3, none⟩) (by simp) (.int .i64 level)).setCell (p := ⟨gt, k * 6 + 4, none⟩) (by simp) (.int .i64 (dk - 2 + 1))))) ?_; clear hK K' hSw; (try simp only [Act.put, zq0, zq1, zq2]); refine zH ?_; go_wp2_with fail; go_meet; rw [HSA2.out]; unfold Sp.jJ; rw [HTD.out]; have hmd := zU HMK6.out (below_drewN (Below.refl w6.heap.size w6) 1); have h1 := vH (k := k) (off := 3) (t := t1) (t' := { t1 with level := level }) (u := .int .i64 level) hmd HTV.out HT1.out (by decide) rfl rfl rfl; have hkl : k < sb.toks.length := (List.getElem?_eq_some_iff.1 HT1.out).1; have h2 := vH (k := k) (off := 4) (t := { t1 with level := level }) (t' := { t1 with level := level, assoc := dk - 2 + 1 }) (u := .int .i64 (dk - 2 + 1)) h1.1 HTV.out (List.getElem?_set_self hkl) (by decide) rfl rfl rfl; rw [List.set_set] at h2; exact ⟨h2.1, (MkFr.below v1 (below_drewN (Below.refl w6.heap.size w6) 1)).trans (h1.2.trans h2.2)⟩
           case rest =>
            clear d0 d1 d2 d3 s0 z1 s2 s3 hld hls; obtain ⟨hmk7, hfr7⟩ := hcut; have HMK7 := zh hmk7; have HFR7 := zh hfr7; clear hmk7 hfr7; go_wp2_with fail; go_ret; rw [HSTEP.out]; have e : Sp.tokEnd ⟨dk, dt, dsy, dp⟩ ⟨nm, lt, nu, pa⟩ level (s1, k) = sc := by rw [HSC.out, HSB.out, HSA.out]; rfl
            rw [e]; exact gO (zK rfl) HMK7.out (((HFR4.out.trans HFR5.out).trans HFR6.out).trans HFR7.out) HDR.out.1 HDR.out.2
end Go.Proofs.YtddnomjfcbplpaaGreatDoor
