/- The document's maker: alt. -/
import Derived.Deep.CutBlock
import Derived.Test.YtphdfbmmjkccgaaDoorZ14
namespace Go.Proofs.YtphdfbmmjkccgaaDoor
open Go.RowKit Go.Maps

theorem leftNo_ixI (lefts : List (List UInt8)) (nm : List UInt8) : Sp.leftNo lefts nm = ixI (Sp.rleft lefts nm) := by unfold Sp.leftNo; cases Sp.rleft lefts nm <;> rfl
namespace Sp
theorem raltGo_sym (n k : Nat) (w : Part) (l : List Part) (p : Prod) (r : Rk) (h : w.code = []) :
    raltGo n k (w :: l) (r, p) = raltGo n (k + 1) l ((rsymbol r w.sym).1, { p with right := p.right ++ [(rsymbol r w.sym).2] }) := by
  conv => lhs; unfold raltGo
  rw [if_pos h]
theorem raltGo_last (n k : Nat) (w : Part) (l : List Part) (p : Prod) (r : Rk) (h : w.code ≠ []) (hk : k + 1 = n) :
    raltGo n k (w :: l) (r, p) = raltGo n (k + 1) l (r, { p with code := w.code, at_ := w.at_ }) := by
  conv => lhs; unfold raltGo
  rw [if_neg h, if_pos hk]
theorem raltGo_inner (n k : Nat) (w : Part) (l : List Part) (p : Prod) (r : Rk) (h : w.code ≠ []) (hk : k + 1 ≠ n) :
    raltGo n k (w :: l) (r, p) = raltGo n (k + 1) l ({ r with inner := r.inner + 1, prods := r.prods ++ [⟨(r.lefts.length : Int) + ((r.inner + 1 : Nat) : Int), [], -1, w.code, p.right, w.at_⟩] }, { p with right := p.right ++ [1000 + ((r.lefts.length : Int) + ((r.inner + 1 : Nat) : Int))] }) := by
  conv => lhs; unfold raltGo
  rw [if_neg h, if_neg hk]
end Sp
theorem info_prodR : (Tryd.prog.info? 84).map (fun i => (i.zero, i.size, i.bytes)) = some (some (.agg #[.int .i64 0, .slice none 0 0, .int .i64 0, .string ⟨#[]⟩, .slice none 0 0, .int .i64 0]), 6, 88) := by kernel_rfl
theorem Below.of2 {B : Nat} {W0 W w : World} (h1 : Below B W0 W) (h2 : Below B W0 w) (hs : W.heap.size ≤ w.heap.size) : Below B W w :=
  ⟨h2.os.trans h1.os.symm, h2.tape.trans h1.tape.symm, h2.output.trans h1.output.symm, hs, fun k hk => (h2.block k hk).trans (h1.block k hk).symm⟩
/-- How an alternative's productions leave the maker. -/
def RAltPost (B m : Nat) (W : World) (r' : Sp.Rk) (e : Ending) (w' : World) : Prop := e = .returned (.tuple #[]) ∧ ∃ v', RefAt (fun _ => True) B w' m r' v' ∧ Below B W w' ∧ KpT RTA W w'
/-- What is known of the plain state while an alternative is made. -/
structure AltI (N k : Nat) (rr : Sp.Rk) (pp : Sp.Prod) (prv : Value) : Prop where
  rb : Sp.RB (N + k) rr
  right : pp.right.length ≤ k
  args : pp.args = []
  nil : pp.right = [] → prv = .slice none 0 0
theorem RefAt.mono {S S' : Nat → Prop} {B m : Nat} {w : World} {r : Sp.Rk} {v : RkV} (h : RefAt S B w m r v) (hm : ∀ c, c < w.heap.size → S c → S' c) : RefAt S' B w m r v :=
  h.ints (fun _ _ _ _ h _ => h) (Kp.refl _ _) hm
set_option maxRecDepth 100000 in
set_option maxHeartbeats 12800000 in
theorem ref_alt {W0 W : World} {m N : Nat} {r : Sp.Rk} {v : RkV} (left : List UInt8) (a : Sp.Alt) (pav : Value) (h : RefAt (fun _ => True) W0.heap.size W m r v) (hw : Below W0.heap.size W0 W) (hps : SlAt W0 pav 6 (a.parts.map partC)) (hpn : a.parts.length ≤ 4000) (hr : Sp.RB N r) (hN : N ≤ 2 ^ 38)
    (hlx : ∀ w ∈ a.parts, w.code = [] → w.sym.lit = true → ∃ c, w.sym.name = [c]) (hlp : a.prec.lit = true → ∃ c, a.prec.name = [c]) :
    Calls Tryd.prog 42 #[.pointer (some ⟨m, 0, none⟩), .string ⟨left.toArray⟩, .agg (altC pav a).toArray] W (RAltPost W0.heap.size m W (Sp.ralt r left a)) := by
  obtain ⟨parts, ⟨qn, ql, qu, qa⟩, ap⟩ := a
  obtain ⟨pa, pc, rfl⟩ := hps.form
  simp only [List.length_map] at hps hpn hlx hlp ⊢
  obtain ⟨np, hnp⟩ : ∃ np, np = parts.length := ⟨_, rfl⟩
  rw [← hnp] at hps hpn ⊢
  show Calls _ _ #[_, _, .agg #[.slice pa np pc, .string ⟨qn.toArray⟩, .bool ql, .int .i64 qu, .int .i64 qa, .int .i64 ap]] _ _
  obtain ⟨lno, hlno⟩ : ∃ lno, lno = Sp.leftNo r.lefts left := ⟨_, rfl⟩
  obtain ⟨RR, hRR⟩ : ∃ RR, RR = Sp.raltGo np 0 parts (r, ⟨1 + lno, [], -1, [], [], ap⟩) := ⟨_, rfl⟩
  have hfin : Sp.ralt r left ⟨parts, ⟨qn, ql, qu, qa⟩, ap⟩ = { (Sp.raltPrec RR.1 ⟨parts, ⟨qn, ql, qu, qa⟩, ap⟩ (Sp.rprecGo RR.2.right RR.2.prec)).1 with prods := (Sp.raltPrec RR.1 ⟨parts, ⟨qn, ql, qu, qa⟩, ap⟩ (Sp.rprecGo RR.2.right RR.2.prec)).1.prods ++ [{ RR.2 with prec := (Sp.raltPrec RR.1 ⟨parts, ⟨qn, ql, qu, qa⟩, ap⟩ (Sp.rprecGo RR.2.right RR.2.prec)).2, args := RR.2.right }] } := by
    rw [hRR, hlno, hnp]
    rfl
  have hlb : -1 ≤ lno ∧ lno ≤ 2 ^ 39 := by
    rw [hlno, leftNo_ixI]
    cases hl : Sp.rleft r.lefts left with
    | none => simp [ixI]
    | some k => have := Sp.rleft_lt hl; have := hr.lefts; simp only [ixI]; omega
  obtain ⟨w1, hw1⟩ : ∃ w1 : World, w1 = W.alloc (.cells #[.slice pa np pc, .string ⟨qn.toArray⟩, .bool ql, .int .i64 qu, .int .i64 qa, .int .i64 ap] 42) := ⟨_, rfl⟩
  have hb1 : Below W.heap.size W w1 := by rw [hw1]; exact (Below.refl _ W).alloc (Nat.le_refl _) _
  have hs1 : w1.heap.size = W.heap.size + 1 := by rw [hw1]; simp
  have ha1 : w1.heap[W.heap.size]? = some (.cells #[.slice pa np pc, .string ⟨qn.toArray⟩, .bool ql, .int .i64 qu, .int .i64 qa, .int .i64 ap] 42 (0, 0)) := by rw [hw1]; exact heap_last W _
  have a5 := cell_at (i := 5) ha1
  have la := lt_at ha1
  have HFIN := Lib.hid hfin; have HR := Lib.hid hRR; have HH := Lib.hid h; have HH1 := Lib.hid (h.below hb1); have HW := Lib.hid hw; have HPS := Lib.hid hps; have HRB := Lib.hid hr; have HNP := Lib.hid hnp; have HLX := Lib.hid hlx; have HLP := Lib.hid hlp; have HLN := Lib.hid hlno; have HLB := Lib.hid hlb; have HB1 := Lib.hid hb1; have HA1 := Lib.hid ha1
  have hlm := lt_at h.block
  have hwl : IntKind.i64.wrap (1 + lno) = 1 + lno := IntWalk.i64_in _ ⟨by omega, by omega⟩
  clear hfin hRR h hw hps hr hnp hlx hlp hlno hlb hb1 ha1
  go_enter Tryd.func42, Tryd.ntmps42
  go_upto_region 1 with fail
  rw [← hw1]
  clear hw1
  go_cut [6] (fun c6 wx => c6 = .pointer (some ⟨W.heap.size + 1, 0, none⟩) ∧ AltS W0 W m W.heap.size (W.heap.size + 1) #[.slice pa np pc, .string ⟨qn.toArray⟩, .bool ql, .int .i64 qu, .int .i64 qa, .int .i64 ap] r ⟨1 + lno, [], -1, [], [], ap⟩ (.slice none 0 0) v wx)
  case first =>
    have HQ := Lib.hid (fun (w' : World) (hb : Below w1.heap.size w1 w') => (show Calls Tryd.prog 41 #[.pointer (some ⟨m, 0, none⟩), .string ⟨left.toArray⟩] w' (fun e w'' => e = .returned (.int .i64 lno) ∧ w' = w'') from by
      rw [HLN.out, leftNo_ixI]
      exact ref_left left (HH1.out.below hb) HRB.out (by omega)))
    have HST1 : Hid (AltS W0 W m W.heap.size (W.heap.size + 1) #[.slice pa np pc, .string ⟨qn.toArray⟩, .bool ql, .int .i64 qu, .int .i64 qa, .int .i64 ap] r ⟨1 + lno, [], -1, [], [], ap⟩ (.slice none 0 0) v (w1.alloc (.cells #[.int .i64 (1 + lno), .slice none 0 0, .int .i64 (-1), .string ⟨#[]⟩, .slice none 0 0, .int .i64 ap] 84)).drew) := Lib.hid (by
      have hb2 : Below w1.heap.size w1 (w1.alloc (.cells #[.int .i64 (1 + lno), .slice none 0 0, .int .i64 (-1), .string ⟨#[]⟩, .slice none 0 0, .int .i64 ap] 84)).drew := below_drewN ((Below.refl _ w1).alloc (Nat.le_refl _) _) 1
      have hb02 := HB1.out.trans (hb2.mono (by omega))
      have hp2 : (w1.alloc (.cells #[.int .i64 (1 + lno), .slice none 0 0, .int .i64 (-1), .string ⟨#[]⟩, .slice none 0 0, .int .i64 ap] 84)).drew.heap[W.heap.size + 1]? = some (.cells #[.int .i64 (1 + lno), .slice none 0 0, .int .i64 (-1), .string ⟨#[]⟩, .slice none 0 0, .int .i64 ap] 84 (0, 0)) := by rw [← hs1]; exact heap_last w1 _
      refine ⟨(HH1.out.below hb2).mono (fun c _ _ e => by simp [Value.ownBlock] at e), (hb2.block _ la).trans HA1.out, hp2, World.ownsRow_nil _ _ _ _, fun e => ?_, KpT.below hb02, HW.out.trans (hb02.mono HH.out.size), hb02.size, by omega, Nat.le_refl _, HH.out.size⟩
      obtain ⟨f, g, h1, _⟩ := HH.out.prods
      have := (h1.lt _ e).2
      omega)
    go_region_with (go_at_call 41; refine (HQ.out _ (by first | exact below_drewN (Below.refl _ _) 1 | exact below_drewN ((Below.refl _ w1).alloc (Nat.le_refl _) _) 1 | exact (Below.refl _ w1).alloc (Nat.le_refl _) _)).mono ?_; rintro e w' ⟨rfl, rfl⟩)
    all_goals
      go_wp2_with fail
      go_meet
      exact ⟨rfl, HST1.out⟩
  case rest =>
    obtain ⟨w2, hw2⟩ : ∃ w2 : World, w2 = wc := ⟨_, rfl⟩
    subst hw2
    obtain ⟨rfl, hst⟩ := hcut
    have HST := Lib.hid hst
    clear hst la a5 hs1 HA1 HB1 HLN
    go_upto_block 0 with fail
    go_cut [] (fun wx => ∃ (v1 : RkV) (prv : Value), AltS W0 W m W.heap.size (W.heap.size + 1) #[.slice pa np pc, .string ⟨qn.toArray⟩, .bool ql, .int .i64 qu, .int .i64 qa, .int .i64 ap] RR.1 RR.2 prv v1 wx ∧ AltI N np RR.1 RR.2 prv)
    case first =>
      go_wp2_with fail
      go_loopg [7] np (fun q iv wr => ∃ (k : Nat) (rr : Sp.Rk) (pp : Sp.Prod) (prv : Value) (v1 : RkV), k ≤ np ∧ q = np - k ∧ iv = .int .i64 k ∧ AltS W0 W m W.heap.size (W.heap.size + 1) #[.slice pa np pc, .string ⟨qn.toArray⟩, .bool ql, .int .i64 qu, .int .i64 qa, .int .i64 ap] rr pp prv v1 wr ∧ AltI N k rr pp prv ∧ Sp.raltGo np k (parts.drop k) (rr, pp) = RR)
      case atStart => exact ⟨0, r, _, _, v, Nat.zero_le _, rfl, rfl, HST.out, ⟨HRB.out, Nat.le_refl _, rfl, fun _ => rfl⟩, HR.out.symm⟩
      case round =>
        clear HST HR
        obtain ⟨k, rr, pp, prv, v1, hk, rfl, rfl, hst, hai, hR⟩ := hrel
        have HST := Lib.hid hst; have HAI := Lib.hid hai; have HRR := Lib.hid hR
        have hk0 : (0 : Int) ≤ (k : Int) := Int.natCast_nonneg _
        have a0 := cell_at (i := 0) hst.abox
        have la := lt_at hst.abox
        clear hst hai hR
        by_cases hkn : k < np
        · have hk1 : (k : Int) < (np : Int) := by omega
          go_upto_block 1 with fail
          go_cut [] (fun wx => ∃ (rr2 : Sp.Rk) (pp2 : Sp.Prod) (prv2 : Value) (v2 : RkV), AltS W0 W m W.heap.size (W.heap.size + 1) #[.slice pa np pc, .string ⟨qn.toArray⟩, .bool ql, .int .i64 qu, .int .i64 qa, .int .i64 ap] rr2 pp2 prv2 v2 wx ∧ AltI N (k + 1) rr2 pp2 prv2 ∧ Sp.raltGo np (k + 1) (parts.drop (k + 1)) (rr2, pp2) = RR)
          case first =>
            have hkd : k < parts.length := by have := HNP.out; omega
            obtain ⟨⟨⟨nm, lt, nu, pa1⟩, cd, cp⟩, hdk, hdr, hmem⟩ := at_drop hkd
            have hR := HRR.out
            rw [hdr] at hR
            have hlx := HLX.out _ hmem
            obtain ⟨bd, od, rfl, hbd, hcd⟩ := HPS.out.at (k := k) (row := partC ⟨⟨nm, lt, nu, pa1⟩, cd, cp⟩) (by rw [List.getElem?_map, hdk]; rfl)
            have hcells := hcd wr HST.out.bel
            have r0 := hcells 0 _ rfl; have r1 := hcells 1 _ rfl; have r2 := hcells 2 _ rfl; have r3 := hcells 3 _ rfl; have r4 := hcells 4 _ rfl; have r5 := hcells 5 _ rfl
            simp only [Nat.add_zero] at r0 r1 r2 r3 r4 r5 hlx
            have hlb : bd < wr.heap.size := by have := HST.out.bel.size; omega
            clear HRR
            have HRR := Lib.hid hR; have HLX1 := Lib.hid hlx
            clear hcells hcd hdr hdk hmem hR hlx
            obtain ⟨gp, hgp⟩ : ∃ gp, gp = wr.heap.size := ⟨_, rfl⟩
            obtain ⟨w2, hw2⟩ : ∃ w2, w2 = wr.alloc (.cells #[.string ⟨nm.toArray⟩, .bool lt, .int .i64 nu, .int .i64 pa1, .string ⟨cd.toArray⟩, .int .i64 cp] 44) := ⟨_, rfl⟩
            have hbx : w2.heap[gp]? = some (.cells #[.string ⟨nm.toArray⟩, .bool lt, .int .i64 nu, .int .i64 pa1, .string ⟨cd.toArray⟩, .int .i64 cp] 44 (0, 0)) := by rw [hw2, hgp]; exact heap_last wr _
            have hb12 : Below wr.heap.size wr w2 := by rw [hw2]; exact (Below.refl _ wr).alloc (Nat.le_refl _) _
            have HST2 := Lib.hid (HST.out.below hb12)
            have HBX := Lib.hid hbx
            have hgpp : ¬ gp = W.heap.size + 1 := by
              have := lt_at HST.out.pbox
              omega
            have HGP := Lib.hid hgpp
            go_upto_region 9 with fail
            rw [← hgp, ← hw2]
            clear hgp hw2 hbx hb12 r0 r1 r2 r3 r4 r5 a0 la hgpp
            obtain ⟨ra, rc, rfl⟩ := ownsRowS_some HST2.out.right
            obtain ⟨ii0, hii0, hiz0, hiz1, hiz2⟩ := info_parts info_intE2
            have hpr : pp.right.length ≤ 4000 := by have := HAI.out.right; omega
            have c4 := cell_at (i := 4) HBX.out
            have hlgp := lt_at HBX.out
            cases cd with
            | nil =>
              have HR1 := HRR.out
              rw [Sp.raltGo_sym _ _ _ _ _ _ rfl] at HR1
              have HSY := Lib.hid (fun (w' : World) (hb : Below w2.heap.size w2 w') => (show Calls Tryd.prog 73 #[.pointer (some ⟨m, 0, none⟩), .agg #[.string ⟨nm.toArray⟩, .bool lt, .int .i64 nu, .int .i64 pa1]] w' (fun e w'' => e = .returned (.int .i64 (Sp.rsymbol rr ⟨nm, lt, nu, pa1⟩).2) ∧ RefPost _ W0.heap.size m v1.pv w' (Sp.rsymbol rr ⟨nm, lt, nu, pa1⟩).1 w'') from ref_symbol ⟨nm, lt, nu, pa1⟩ (HST2.out.mkr.below hb) HAI.out.rb (by omega) (HLX1.out rfl)))
              have hrb3 := Sp.rsymbol_RB ⟨nm, lt, nu, pa1⟩ HAI.out.rb
              obtain ⟨rr3, hrr3⟩ : ∃ rr3, rr3 = (Sp.rsymbol rr ⟨nm, lt, nu, pa1⟩).1 := ⟨_, rfl⟩
              obtain ⟨cc, hcc⟩ : ∃ cc, cc = (Sp.rsymbol rr ⟨nm, lt, nu, pa1⟩).2 := ⟨_, rfl⟩
              rw [← hrr3] at hrb3
              rw [← hrr3, ← hcc] at HR1 HSY
              have HRC := Lib.hid HR1; have HRB3 := Lib.hid hrb3
              clear HR1 hrb3 hrr3 hcc
              have HSK := Lib.hid (fun (w' : World) (kk : KpT (fun t => t = 84 ∨ t = 44) w2 w') => (show ((w'.cell? ⟨W.heap.size + 1, 1, none⟩ = some (.slice ra pp.right.length rc) ∧ w'.frozen? ⟨W.heap.size + 1, 1, none⟩ = false) ∧ w'.cell? ⟨gp, 0, none⟩ = some (.string ⟨nm.toArray⟩) ∧ w'.cell? ⟨gp, 1, none⟩ = some (.bool lt) ∧ w'.cell? ⟨gp, 2, none⟩ = some (.int .i64 nu) ∧ w'.cell? ⟨gp, 3, none⟩ = some (.int .i64 pa1) ∧ W.heap.size + 1 < w'.heap.size ∧ gp < w'.heap.size) from by
                have h1 := kk _ _ _ _ HST2.out.pbox (.inl rfl)
                have h2 := kk _ _ _ _ HBX.out (.inr rfl)
                exact ⟨⟨cell_at (i := 1) h1, frozen_at (i := 1) h1⟩, cell_at (i := 0) h2, cell_at (i := 1) h2, cell_at (i := 2) h2, cell_at (i := 3) h2, lt_at h1, lt_at h2⟩))
              go_upto_region 10 with fail
              refine wp_region_plan (fun w' : World => ((w'.cell? ⟨W.heap.size + 1, 1, none⟩ = some (.slice ra pp.right.length rc) ∧ w'.frozen? ⟨W.heap.size + 1, 1, none⟩ = false) ∧ w'.cell? ⟨gp, 0, none⟩ = some (.string ⟨nm.toArray⟩) ∧ w'.cell? ⟨gp, 1, none⟩ = some (.bool lt) ∧ w'.cell? ⟨gp, 2, none⟩ = some (.int .i64 nu) ∧ w'.cell? ⟨gp, 3, none⟩ = some (.int .i64 pa1) ∧ W.heap.size + 1 < w'.heap.size ∧ gp < w'.heap.size)) [9] (.take 0 (.take 1 (.take 2 (.take 3 (.take 4 (.one 5 (.one 6 (.one 7 (.one 8 (.one 9 (.done))))))))))) (by kernel_rfl) (by kernel_rfl) (fun _ _ _ _ h => h) ?_
              have hSw := HSK.out _ (show KpT (fun t => t = 84 ∨ t = 44) w2 (w2.drew) from fun _ _ _ _ h _ => h)
              refine wpPlan_takeD (v := ?va1) rfl rfl hSw (by rfl) ?ya1 ?_
              case ya1 => (intro w hSx; (try dsimp only at hSx); go_simp; first | done | with_reducible rfl | rfl)
              (try simp only [Act.put, List.setIfInBounds_toArray, List.set_cons_zero, List.set_cons_succ])
              refine wpPlan_takeD (v := ?va2) rfl rfl hSw (by rfl) ?ya2 ?_
              case ya2 => (intro w hSx; (try dsimp only at hSx); go_simp; first | done | with_reducible rfl | rfl)
              (try simp only [Act.put, List.setIfInBounds_toArray, List.set_cons_zero, List.set_cons_succ])
              refine wpPlan_takeD (v := ?va3) rfl rfl hSw (by rfl) ?ya3 ?_
              case ya3 => (intro w hSx; (try dsimp only at hSx); go_simp; first | done | with_reducible rfl | rfl)
              (try simp only [Act.put, List.setIfInBounds_toArray, List.set_cons_zero, List.set_cons_succ])
              refine wpPlan_takeD (v := ?va4) rfl rfl hSw (by rfl) ?ya4 ?_
              case ya4 => (intro w hSx; (try dsimp only at hSx); go_simp; first | done | with_reducible rfl | rfl)
              (try simp only [Act.put, List.setIfInBounds_toArray, List.set_cons_zero, List.set_cons_succ])
              refine wpPlan_takeD (v := ?va5) rfl rfl hSw (by rfl) ?ya5 ?_
              case ya5 => (intro w hSx; (try dsimp only at hSx); go_simp; first | done | with_reducible rfl | rfl)
              (try simp only [Act.put, List.setIfInBounds_toArray, List.set_cons_zero, List.set_cons_succ])
              refine wpPlan_run rfl (by rfl) (fun K' hK => ?_)
              (go_simp; go_at_call 73; refine (HSY.out _ (below_drewN (Below.refl _ w2) 1)).mono ?_; rintro e w3 ⟨rfl, v3, h3, hf3', hpv3⟩; have hf3 : RFr W0.heap.size w2 w3 := ⟨below_undrew hf3'.1, hf3'.2⟩; have HST3 := Lib.hid (HST2.out.rfr h3 hpv3 hf3); have hk3 : KpT (fun t => t = 84 ∨ t = 44) w2 w3 := hf3.2.mono (fun t ht => by unfold RT; rcases ht with rfl | rfl <;> decide); have hsz3 := HST3.out.size; clear hf3' h3 hpv3 hf3)
              refine hK _ _ (.inr ?_) ?_
              · exact HSK.out _ hk3
              clear hK K' hSw
              (try simp only [Act.put, List.setIfInBounds_toArray, List.set_cons_zero, List.set_cons_succ])
              refine wpPlan_run rfl (by rfl) (fun K' hK => ?_)
              go_simp
              refine hK _ _ (.inr ?_) ?_
              · exact HSK.out _ (hk3.alloc (.cells #[.int .i64 cc] 3))
              clear hK K'
              (try simp only [Act.put, List.setIfInBounds_toArray, List.set_cons_zero, List.set_cons_succ])
              refine wpPlan_run rfl (by rfl) (fun K' hK => ?_)
              (refine wp_append_lies _ _ _ _ (by rfl) W.heap.size 3 ii0 _ 1 8 Tryd.underlying46 hii0 hiz0 hiz1 hiz2 rfl (by omega) _ _ _ (by rfl) (HST3.out.right.alloc _) ⟨w3.heap.size, 0, none⟩ 1 1 [.int .i64 cc] (by rfl) (by rfl) (World.news_of_block (cs := #[.int .i64 cc]) (t := 3) (fr := (0, 0)) (heap_last w3 _)) (by simp [Value.oneCell']) (by omega) (by unfold maxLen; omega) (by omega) (by show W.heap.size ≤ (w3.alloc (.cells #[.int .i64 cc] 3)).heap.size; simp only [World.size_alloc]; omega) _ rfl ?_; intro g1 c1 w5 hown1 hgrow1 hat1 hlt1; replace hgrow1 : (w3.alloc (.cells #[.int .i64 cc] 3)).grownBy w5 (Value.slice ra pp.right.length rc).ownBlock := ⟨hgrow1.os, hgrow1.tape, hgrow1.output, hgrow1.size, hgrow1.block⟩; have hk5 : Kp (fun b => (Value.slice ra pp.right.length rc).ownBlock ≠ some b) w3 w5 := ((Kp.refl _ w3).alloc (.cells #[.int .i64 cc] 3)).grown hgrow1 (fun k hk hs => hs hk); have kt5 : KpT (fun t => t ≠ 3) w3 w5 := (KpT.below ((Below.refl _ w3).alloc (Nat.le_refl _) (.cells #[.int .i64 cc] 3))).trans (KpT.grown (HST3.out.right.alloc _) hgrow1); have hWle : w3.heap.size ≤ (w3.alloc (.cells #[.int .i64 cc] 3)).heap.size := (by simp only [World.size_alloc]; omega))
              refine hK _ _ (.inr ?_) ?_
              · exact HSK.out _ (hk3.trans (kt5.mono (fun t ht => by rcases ht with rfl | rfl <;> decide)))
              clear hK K'
              (try simp only [Act.put, List.setIfInBounds_toArray, List.set_cons_zero, List.set_cons_succ])
              refine wpPlan_run rfl (by rfl) (fun K' hK => ?_)
              go_simp
              refine hK _ _ (.inr ?_) ?_
              · exact HSK.out _ (hk3.trans (kt5.mono (fun t ht => by rcases ht with rfl | rfl <;> decide)))
              clear hK K'
              (try simp only [Act.put, List.setIfInBounds_toArray, List.set_cons_zero, List.set_cons_succ])
              refine wpPlan_run rfl (by rfl) (fun K' hK => ?_)
              (obtain ⟨⟨z1, z2⟩, _, _, _, _, hlz, _⟩ := HSK.out _ (hk3.trans (kt5.mono (fun t ht => by rcases ht with rfl | rfl <;> decide))); go_simp)
              refine hK _ _ (.inl rfl) ?_
              clear hK K'
              (try simp only [Act.put, List.setIfInBounds_toArray, List.set_cons_zero, List.set_cons_succ])
              refine wpPlan_done ?_
              have hst6 := HST3.out.push (x := cc) hk5 kt5 hown1 (hat1.imp id (fun e => by rw [e]; exact hWle))
              have HST6 := Lib.hid hst6
              clear hst6 hown1 hk5 kt5 hat1 hgrow1 hlt1 hWle z1 z2 hlz hk3
              go_wp2_with fail
              go_meet
              exact ⟨rr3, _, _, v3, HST6.out, ⟨HRB3.out.mono (by omega), by simp only [List.length_append, List.length_cons, List.length_nil]; have := HAI.out.right; omega, HAI.out.args, fun e => by simp at e⟩, HRC.out⟩
            | cons c0 u0 =>
              by_cases hkl : k + 1 = np -- KEEP
              · have HR1 := HRR.out
                rw [Sp.raltGo_last _ _ _ _ _ _ (by simp) hkl] at HR1
                have HRE := Lib.hid HR1
                have HSK := Lib.hid (fun (w' : World) (kp : Kp (fun b => b ≠ W.heap.size + 1) w2 w') => (show (w'.cell? ⟨gp, 4, none⟩ = some (.string ⟨(c0 :: u0).toArray⟩) ∧ w'.cell? ⟨gp, 5, none⟩ = some (.int .i64 cp) ∧ gp < w'.heap.size) from by
                  have h2 := kp.at HBX.out HGP.out
                  exact ⟨cell_at (i := 4) h2, cell_at (i := 5) h2, lt_at h2⟩))
                have hkb : ((k : Int) == (np : Int) - 1) = true := by rw [beq_iff_eq]; omega
                have hkb2 : ((k : Int) + 1 == (np : Int)) = true := by rw [beq_iff_eq]; omega
                have hki : (k : Int) + 1 = (np : Int) := by omega
                have hpb := HST2.out.pbox
                have x3 : w2.cell? ⟨W.heap.size + 1, 3, none⟩ = some (.string ⟨pp.code.toArray⟩) := cell_at (i := 3) hpb
                have x5 : w2.cell? ⟨W.heap.size + 1, 5, none⟩ = some (.int .i64 pp.at_) := cell_at (i := 5) hpb
                have y3 : w2.frozen? ⟨W.heap.size + 1, 3, none⟩ = false := frozen_at (i := 3) hpb
                have y5 : w2.frozen? ⟨W.heap.size + 1, 5, none⟩ = false := frozen_at (i := 5) hpb
                have hlp := lt_at hpb
                have e0 := cell_at (i := 0) HST2.out.abox
                have hla2 := lt_at HST2.out.abox
                clear HR1 hpb
                go_upto_region 12 with fail
                refine wp_region_plan (fun w' : World => (w'.cell? ⟨gp, 4, none⟩ = some (.string ⟨(c0 :: u0).toArray⟩) ∧ w'.cell? ⟨gp, 5, none⟩ = some (.int .i64 cp) ∧ gp < w'.heap.size)) [] (.take 0 (.take 1 (.take 2 (.take 3 (.take 4 (.one 5 (.one 6 (.one 7 (.done))))))))) (by kernel_rfl) (by kernel_rfl) (fun _ _ _ _ h => h) ?_
                have hSw := HSK.out _ ((Kp.refl _ w2).drew)
                refine wpPlan_takeD (v := ?vb6) rfl rfl hSw (by rfl) ?yb6 ?_
                case yb6 => (intro w hSx; (try dsimp only at hSx); go_simp; first | done | with_reducible rfl | rfl)
                (try simp only [Act.put, List.setIfInBounds_toArray, List.set_cons_zero, List.set_cons_succ])
                refine wpPlan_takeD (v := ?vb7) rfl rfl hSw (by rfl) ?yb7 ?_
                case yb7 => (intro w hSx; (try dsimp only at hSx); go_simp; first | done | with_reducible rfl | rfl)
                (try simp only [Act.put, List.setIfInBounds_toArray, List.set_cons_zero, List.set_cons_succ])
                refine wpPlan_takeD (v := ?vb8) rfl rfl hSw (by rfl) ?yb8 ?_
                case yb8 => (intro w hSx; (try dsimp only at hSx); go_simp; first | done | with_reducible rfl | rfl)
                (try simp only [Act.put, List.setIfInBounds_toArray, List.set_cons_zero, List.set_cons_succ])
                refine wpPlan_takeD (v := ?vb9) rfl rfl hSw (by rfl) ?yb9 ?_
                case yb9 => (intro w hSx; (try dsimp only at hSx); go_simp; first | done | with_reducible rfl | rfl)
                (try simp only [Act.put, List.setIfInBounds_toArray, List.set_cons_zero, List.set_cons_succ])
                refine wpPlan_takeD (v := ?vb10) rfl rfl hSw (by rfl) ?yb10 ?_
                case yb10 => (intro w hSx; (try dsimp only at hSx); go_simp; first | done | with_reducible rfl | rfl)
                (try simp only [Act.put, List.setIfInBounds_toArray, List.set_cons_zero, List.set_cons_succ])
                refine wpPlan_run rfl (by rfl) (fun K' hK => ?_)
                go_simp
                refine hK _ _ (.inr ?_) ?_
                · exact HSK.out _ (((Kp.refl _ w2).drew).setCell (p := ⟨W.heap.size + 1, 3, none⟩) (by simp) (.string ⟨(c0 :: u0).toArray⟩))
                clear hK K' hSw
                (try simp only [Act.put, List.setIfInBounds_toArray, List.set_cons_zero, List.set_cons_succ])
                refine wpPlan_run rfl (by rfl) (fun K' hK => ?_)
                go_simp
                refine hK _ _ (.inr ?_) ?_
                · exact HSK.out _ (((Kp.refl _ w2).drew).setCell (p := ⟨W.heap.size + 1, 3, none⟩) (by simp) (.string ⟨(c0 :: u0).toArray⟩))
                clear hK K'
                (try simp only [Act.put, List.setIfInBounds_toArray, List.set_cons_zero, List.set_cons_succ])
                refine wpPlan_run rfl (by rfl) (fun K' hK => ?_)
                go_simp
                refine hK _ _ (.inr ?_) ?_
                · exact HSK.out _ ((((Kp.refl _ w2).drew).setCell (p := ⟨W.heap.size + 1, 3, none⟩) (by simp) (.string ⟨(c0 :: u0).toArray⟩)).setCell (p := ⟨W.heap.size + 1, 5, none⟩) (by simp) (.int .i64 cp))
                clear hK K'
                (try simp only [Act.put, List.setIfInBounds_toArray, List.set_cons_zero, List.set_cons_succ])
                refine wpPlan_done ?_
                have h1 := HST2.out.setp 3 (.string ⟨(c0 :: u0).toArray⟩) (pp' := { pp with code := c0 :: u0 }) rfl rfl
                have h2 := h1.setp 5 (.int .i64 cp) (pp' := { pp with code := c0 :: u0, at_ := cp }) rfl rfl
                have H2 := Lib.hid h2
                clear h1 h2 x3 x5 y3 y5
                go_wp2_with fail
                go_meet
                exact ⟨rr, _, _, v1, H2.out.below (below_drewN (Below.refl _ _) 1), ⟨HAI.out.rb.mono (by omega), by have := HAI.out.right; simp only; omega, HAI.out.args, HAI.out.nil⟩, HRE.out⟩
              · have HR1 := HRR.out
                rw [Sp.raltGo_inner _ _ _ _ _ _ (by simp) hkl] at HR1
                obtain ⟨nl, hnl⟩ : ∃ nl, nl = rr.lefts.length := ⟨_, rfl⟩
                obtain ⟨i1, hi1⟩ : ∃ i1, i1 = rr.inner + 1 := ⟨_, rfl⟩
                rw [← hnl, ← hi1] at HR1
                have hkb : ((k : Int) == (np : Int) - 1) = false := by rw [beq_eq_false_iff_ne]; omega
                have hkb2 : ((k : Int) + 1 == (np : Int)) = false := by rw [beq_eq_false_iff_ne]; omega
                have hki : ¬ (k : Int) + 1 = (np : Int) := by omega
                have hnlb : nl ≤ 2 ^ 39 := by have := HAI.out.rb.lefts; omega
                have hi1b : i1 ≤ 2 ^ 39 := by have := HAI.out.rb.inner; omega
                have hwi : IntKind.i64.wrap ((rr.inner : Int) + 1) = (i1 : Int) := by rw [hi1]; rw [IntWalk.i64_in _ ⟨by omega, by omega⟩]; omega
                have hwa : IntKind.i64.wrap ((nl : Int) + (i1 : Int)) = (nl : Int) + (i1 : Int) := IntWalk.i64_in _ ⟨by omega, by omega⟩
                have hwb : IntKind.i64.wrap (1000 + (nl : Int)) = 1000 + (nl : Int) := IntWalk.i64_in _ ⟨by omega, by omega⟩
                have hwc : IntKind.i64.wrap (1000 + (nl : Int) + (i1 : Int)) = 1000 + (nl : Int) + (i1 : Int) := IntWalk.i64_in _ ⟨by omega, by omega⟩
                have HRC := Lib.hid HR1; have HNL := Lib.hid hnl; have HI1 := Lib.hid hi1
                have e0 := cell_at (i := 0) HST2.out.abox
                have hla2 := lt_at HST2.out.abox
                have hmb := HST2.out.mkr.block
                unfold rkCells at hmb
                have e12 := cell_at (i := 12) hmb
                have g12 := frozen_at (i := 12) hmb
                have hlm2 := lt_at hmb
                clear HR1 hnl hi1 hmb
                go_upto_region 6 with fail
                clear hkb hkb2 hki e0
                go_upto_region 7 with fail
                obtain ⟨w3, hw3⟩ : ∃ w3 : World, w3 = w2.setCell ⟨m, 12, none⟩ (.int .i64 (i1 : Int)) := ⟨_, rfl⟩
                rw [← hw3]
                have hm3 : RefAt (fun c => (Value.slice ra pp.right.length rc).ownBlock ≠ some c) W0.heap.size w3 m { rr with inner := i1 } v1 := by
                  rw [hw3]
                  exact HST2.out.mkr.box (RefAt.box1 HST2.out.mkr.block HST2.out.mkr.behind 12 _).1 (heap_setCell_at HST2.out.mkr.block) rfl rfl rfl rfl rfl
                have hf3 : RFr W0.heap.size w2 w3 := by rw [hw3]; exact (RefAt.box1 HST2.out.mkr.block HST2.out.mkr.behind 12 _).2
                have hst3 := HST2.out.rfr hm3 rfl hf3
                have hbx3 := hf3.at HBX.out (by unfold RT; decide)
                obtain ⟨fo, go, hpo, hpc⟩ := hst3.mkr.prods
                obtain ⟨qa0, qc0, hpv⟩ := ownsRowS_some hpo
                obtain ⟨ly, lc, hlv⟩ := ownsRowS_some hst3.mkr.lefts
                simp only at hpo hpc hpv hlv
                obtain ⟨nq, hnq⟩ : ∃ nq, nq = rr.prods.length := ⟨_, rfl⟩
                rw [← hnq] at hpv
                rw [hpv, ← hnq] at hpo
                rw [← HNL.out] at hlv
                have hap := hst3.apart
                rw [hpv] at hap
                have HST3 := Lib.hid hst3; have HPO := Lib.hid hpo; have HPC := Lib.hid hpc; have HPV := Lib.hid hpv; have HLV := Lib.hid hlv; have HBX3 := Lib.hid hbx3; have HNQE := Lib.hid hnq; have HAP := Lib.hid hap
                have HNQ : Hid (nq ≤ 2 ^ 39) := Lib.hid (by have := HAI.out.rb.prods; omega)
                have HNIL := Lib.hid (show pp.right = [] → ra = none ∧ rc = 0 from fun e => by
                  have h := HAI.out.nil e
                  simp only [Value.slice.injEq] at h
                  exact ⟨h.1, h.2.2⟩)
                have hB3 : W0.heap.size ≤ w3.heap.size := Nat.le_trans hst3.w0 hst3.size
                have HSK7 := Lib.hid (fun (w' : World) (kp : Kp (fun b => (Value.slice qa0 nq qc0).ownBlock ≠ some b) w3 w') => (show ((w'.cell? ⟨m, 2, none⟩ = some (.slice qa0 nq qc0) ∧ w'.frozen? ⟨m, 2, none⟩ = false) ∧ w'.cell? ⟨m, 7, none⟩ = some (.slice ly nl lc) ∧ w'.cell? ⟨m, 12, none⟩ = some (.int .i64 (i1 : Int)) ∧ w'.cell? ⟨gp, 4, none⟩ = some (.string ⟨(c0 :: u0).toArray⟩) ∧ w'.cell? ⟨gp, 5, none⟩ = some (.int .i64 cp) ∧ w'.cell? ⟨W.heap.size + 1, 1, none⟩ = some (.slice ra pp.right.length rc) ∧ m < w'.heap.size ∧ gp < w'.heap.size ∧ W.heap.size + 1 < w'.heap.size) from by
                  have hmk := HST3.out.mkr.block
                  have h1 := kp.at hmk (fun e => row_ne_cells HPO.out hmk (by decide) _ e rfl)
                  unfold rkCells at h1
                  simp only at h1
                  rw [HPV.out, HLV.out] at h1
                  have h2 := kp.at HBX3.out (fun e => row_ne_cells HPO.out HBX3.out (by decide) _ e rfl)
                  have h3 := kp.at HST3.out.pbox HAP.out
                  exact ⟨⟨cell_at (i := 2) h1, frozen_at (i := 2) h1⟩, cell_at (i := 7) h1, cell_at (i := 12) h1, cell_at (i := 4) h2, cell_at (i := 5) h2, cell_at (i := 1) h3, lt_at h1, lt_at h2, lt_at h3⟩))
                obtain ⟨ip0, hip0, hpz0, hpz1, hpz2⟩ := info_parts info_prodR
                clear hw3 hm3 hf3 hst3 hbx3 hpo hpc hpv hlv hnq hap e12 g12 hlm2 hla2 c4 hlgp hwi
                refine wp_region_plan (fun w' : World => ((w'.cell? ⟨m, 2, none⟩ = some (.slice qa0 nq qc0) ∧ w'.frozen? ⟨m, 2, none⟩ = false) ∧ w'.cell? ⟨m, 7, none⟩ = some (.slice ly nl lc) ∧ w'.cell? ⟨m, 12, none⟩ = some (.int .i64 (i1 : Int)) ∧ w'.cell? ⟨gp, 4, none⟩ = some (.string ⟨(c0 :: u0).toArray⟩) ∧ w'.cell? ⟨gp, 5, none⟩ = some (.int .i64 cp) ∧ w'.cell? ⟨W.heap.size + 1, 1, none⟩ = some (.slice ra pp.right.length rc) ∧ m < w'.heap.size ∧ gp < w'.heap.size ∧ W.heap.size + 1 < w'.heap.size)) [30] (.take 0 (.take 1 (.take 2 (.take 3 (.take 4 (.take 5 (.take 6 (.take 7 (.take 8 (.take 9 (.take 10 (.take 11 (.take 12 (.take 13 (.take 14 (.take 15 (.take 16 (.take 17 (.take 19 (.take 20 (.take 22 (.take 23 (.one 18 (.one 21 (.one 24 (.one 25 (.one 26 (.one 27 (.one 28 (.one 29 (.one 30 (.done)))))))))))))))))))))))))))))))) (by kernel_rfl) (by kernel_rfl) (fun _ _ _ _ h => h) ?_
                have hSw := HSK7.out _ ((Kp.refl _ w3).drew)
                refine wpPlan_takeD (v := ?vd11) rfl rfl hSw (by rfl) ?yd11 ?_
                case yd11 => (intro w hSx; (try dsimp only at hSx); go_simp; first | done | with_reducible rfl | rfl)
                (try simp only [Act.put, List.setIfInBounds_toArray, List.set_cons_zero, List.set_cons_succ])
                refine wpPlan_takeD (v := ?vd12) rfl rfl hSw (by rfl) ?yd12 ?_
                case yd12 => (intro w hSx; (try dsimp only at hSx); go_simp; first | done | with_reducible rfl | rfl)
                (try simp only [Act.put, List.setIfInBounds_toArray, List.set_cons_zero, List.set_cons_succ])
                refine wpPlan_takeD (v := ?vd13) rfl rfl hSw (by rfl) ?yd13 ?_
                case yd13 => (intro w hSx; (try dsimp only at hSx); go_simp; first | done | with_reducible rfl | rfl)
                (try simp only [Act.put, List.setIfInBounds_toArray, List.set_cons_zero, List.set_cons_succ])
                refine wpPlan_takeD (v := ?vd14) rfl rfl hSw (by rfl) ?yd14 ?_
                case yd14 => (intro w hSx; (try dsimp only at hSx); go_simp; first | done | with_reducible rfl | rfl)
                (try simp only [Act.put, List.setIfInBounds_toArray, List.set_cons_zero, List.set_cons_succ])
                refine wpPlan_takeD (v := ?vd15) rfl rfl hSw (by rfl) ?yd15 ?_
                case yd15 => (intro w hSx; (try dsimp only at hSx); go_simp; first | done | with_reducible rfl | rfl)
                (try simp only [Act.put, List.setIfInBounds_toArray, List.set_cons_zero, List.set_cons_succ])
                refine wpPlan_takeD (v := ?vd16) rfl rfl hSw (by rfl) ?yd16 ?_
                case yd16 => (intro w hSx; (try dsimp only at hSx); go_simp; first | done | with_reducible rfl | rfl)
                (try simp only [Act.put, List.setIfInBounds_toArray, List.set_cons_zero, List.set_cons_succ])
                refine wpPlan_takeD (v := ?vd17) rfl rfl hSw (by rfl) ?yd17 ?_
                case yd17 => (intro w hSx; (try dsimp only at hSx); go_simp; first | done | with_reducible rfl | rfl)
                (try simp only [Act.put, List.setIfInBounds_toArray, List.set_cons_zero, List.set_cons_succ])
                refine wpPlan_takeD (v := ?vd18) rfl rfl hSw (by rfl) ?yd18 ?_
                case yd18 => (intro w hSx; (try dsimp only at hSx); go_simp; first | done | with_reducible rfl | rfl)
                (try simp only [Act.put, List.setIfInBounds_toArray, List.set_cons_zero, List.set_cons_succ])
                refine wpPlan_takeD (v := ?vd19) rfl rfl hSw (by rfl) ?yd19 ?_
                case yd19 => (intro w hSx; (try dsimp only at hSx); go_simp; first | done | with_reducible rfl | rfl)
                (try simp only [Act.put, List.setIfInBounds_toArray, List.set_cons_zero, List.set_cons_succ])
                refine wpPlan_takeD (v := ?vd20) rfl rfl hSw (by rfl) ?yd20 ?_
                case yd20 => (intro w hSx; (try dsimp only at hSx); go_simp; first | done | with_reducible rfl | rfl)
                (try simp only [Act.put, List.setIfInBounds_toArray, List.set_cons_zero, List.set_cons_succ])
                refine wpPlan_takeD (v := ?vd21) rfl rfl hSw (by rfl) ?yd21 ?_
                case yd21 => (intro w hSx; (try dsimp only at hSx); go_simp; first | done | with_reducible rfl | rfl)
                (try simp only [Act.put, List.setIfInBounds_toArray, List.set_cons_zero, List.set_cons_succ])
                refine wpPlan_takeD (v := ?vd22) rfl rfl hSw (by rfl) ?yd22 ?_
                case yd22 => (intro w hSx; (try dsimp only at hSx); go_simp; first | done | with_reducible rfl | rfl)
                (try simp only [Act.put, List.setIfInBounds_toArray, List.set_cons_zero, List.set_cons_succ])
                refine wpPlan_takeD (v := ?vd23) rfl rfl hSw (by rfl) ?yd23 ?_
                case yd23 => (intro w hSx; (try dsimp only at hSx); go_simp; first | done | with_reducible rfl | rfl)
                (try simp only [Act.put, List.setIfInBounds_toArray, List.set_cons_zero, List.set_cons_succ])
                refine wpPlan_takeD (v := ?vd24) rfl rfl hSw (by rfl) ?yd24 ?_
                case yd24 => (intro w hSx; (try dsimp only at hSx); go_simp; first | done | with_reducible rfl | rfl)
                (try simp only [Act.put, List.setIfInBounds_toArray, List.set_cons_zero, List.set_cons_succ])
                refine wpPlan_takeD (v := ?vd25) rfl rfl hSw (by rfl) ?yd25 ?_
                case yd25 => (intro w hSx; (try dsimp only at hSx); go_simp; first | done | with_reducible rfl | rfl)
                (try simp only [Act.put, List.setIfInBounds_toArray, List.set_cons_zero, List.set_cons_succ])
                refine wpPlan_takeD (v := ?vd26) rfl rfl hSw (by rfl) ?yd26 ?_
                case yd26 => (intro w hSx; (try dsimp only at hSx); go_simp; first | done | with_reducible rfl | rfl)
                (try simp only [Act.put, List.setIfInBounds_toArray, List.set_cons_zero, List.set_cons_succ])
                refine wpPlan_takeD (v := ?vd27) rfl rfl hSw (by rfl) ?yd27 ?_
                case yd27 => (intro w hSx; (try dsimp only at hSx); go_simp; first | done | with_reducible rfl | rfl)
                (try simp only [Act.put, List.setIfInBounds_toArray, List.set_cons_zero, List.set_cons_succ])
                refine wpPlan_takeD (v := ?vd28) rfl rfl hSw (by rfl) ?yd28 ?_
                case yd28 => (intro w hSx; (try dsimp only at hSx); go_simp; first | done | with_reducible rfl | rfl)
                (try simp only [Act.put, List.setIfInBounds_toArray, List.set_cons_zero, List.set_cons_succ])
                refine wpPlan_takeD (v := ?vd29) rfl rfl hSw (by rfl) ?yd29 ?_
                case yd29 => (intro w hSx; (try dsimp only at hSx); go_simp; first | done | with_reducible rfl | rfl)
                (try simp only [Act.put, List.setIfInBounds_toArray, List.set_cons_zero, List.set_cons_succ])
                refine wpPlan_takeD (v := ?vd30) rfl rfl hSw (by rfl) ?yd30 ?_
                case yd30 => (intro w hSx; (try dsimp only at hSx); go_simp; first | done | with_reducible rfl | rfl)
                (try simp only [Act.put, List.setIfInBounds_toArray, List.set_cons_zero, List.set_cons_succ])
                refine wpPlan_takeD (v := ?vd31) rfl rfl hSw (by rfl) ?yd31 ?_
                case yd31 => (intro w hSx; (try dsimp only at hSx); go_simp; first | done | with_reducible rfl | rfl)
                (try simp only [Act.put, List.setIfInBounds_toArray, List.set_cons_zero, List.set_cons_succ])
                refine wpPlan_takeD (v := ?vd32) rfl rfl hSw (by rfl) ?yd32 ?_
                case yd32 => (intro w hSx; (try dsimp only at hSx); go_simp; first | done | with_reducible rfl | rfl)
                (try simp only [Act.put, List.setIfInBounds_toArray, List.set_cons_zero, List.set_cons_succ])
                refine wpPlan_run rfl (by rfl) (fun K' hK => ?_)
                go_simp
                refine hK _ _ (.inr ?_) ?_
                · exact HSK7.out _ (((Kp.refl _ w3).drew).alloc (.cells #[] 3))
                clear hK K' hSw
                (try simp only [Act.put, List.setIfInBounds_toArray, List.set_cons_zero, List.set_cons_succ])
                refine wpPlan_run rfl (by rfl) (fun K' hK => ?_)
                (refine wp_copy_intsE _ _ (by rfl) (g0 := w3.heap.size) (B := W.heap.size) (right := pp.right) (ra := ra) (rc := rc) (by rfl) (heap_last w3 (.cells #[] 3)) (by rfl) (ownsRow_below HST3.out.right (below_drewN ((Below.refl _ w3).alloc (Nat.le_refl _) (.cells #[] 3)) 1)) HNIL.out (by omega) ?_; intro gg cap w7 hav hk7' hnew; have hb7 : Below w3.heap.size w3 w7 := Kp.below (S := fun b => b < w3.heap.size) (((Kp.refl _ w3).alloc (.cells #[] 3)).trans ((show Kp (fun b => b ≠ w3.heap.size) (w3.alloc (.cells #[] 3)) w7 from ⟨hk7'.os, hk7'.tape, hk7'.output, hk7'.size, hk7'.block⟩).mono (fun k _ h => Nat.ne_of_lt h))) (Nat.le_refl _) (fun b hb => hb); have hnew7 : ∀ c, (Value.slice (some ⟨gg, 0, none⟩) pp.right.length cap).ownBlock = some c → w3.heap.size ≤ c := (fun c hc => by cases hc; rcases hnew with e | e; exact Nat.le_of_eq e.symm; exact Nat.le_trans (by show w3.heap.size ≤ (w3.alloc (.cells #[] 3)).heap.size; simp only [World.size_alloc]; omega) e); clear hk7' hnew)
                refine hK _ _ (.inr ?_) ?_
                · exact HSK7.out _ (Kp.of_below hb7 (fun _ h _ => h))
                clear hK K'
                (try simp only [Act.put, List.setIfInBounds_toArray, List.set_cons_zero, List.set_cons_succ])
                refine wpPlan_run rfl (by rfl) (fun K' hK => ?_)
                go_simp
                refine hK _ _ (.inr ?_) ?_
                · exact HSK7.out _ (Kp.of_below hb7 (fun _ h _ => h))
                clear hK K'
                (try simp only [Act.put, List.setIfInBounds_toArray, List.set_cons_zero, List.set_cons_succ])
                refine wpPlan_run rfl (by rfl) (fun K' hK => ?_)
                go_simp
                refine hK _ _ (.inr ?_) ?_
                · exact HSK7.out _ ((Kp.of_below hb7 (fun _ h _ => h)).alloc (.cells #[.int .i64 ((nl : Int) + (i1 : Int)), .slice none 0 0, .int .i64 (-1), .string ⟨(c0 :: u0).toArray⟩, .slice (some ⟨gg, 0, none⟩) pp.right.length cap, .int .i64 cp] 84))
                clear hK K'
                (try simp only [Act.put, List.setIfInBounds_toArray, List.set_cons_zero, List.set_cons_succ])
                refine wpPlan_run rfl (by rfl) (fun K' hK => ?_)
                (refine wp_append_lies _ _ _ _ (by rfl) W0.heap.size 84 ip0 _ 6 88 Tryd.underlying56 hip0 hpz0 hpz1 hpz2 rfl (by decide) _ _ _ (by rfl) ((ownsRow_below HPO.out hb7).alloc _) ⟨w7.heap.size, 0, none⟩ 1 1 (prodC (.slice none 0 0) (.slice (some ⟨gg, 0, none⟩) pp.right.length cap) ⟨(nl : Int) + (i1 : Int), [], -1, c0 :: u0, pp.right, cp⟩) (by rfl) (by rfl) (World.news_of_block (cs := #[.int .i64 ((nl : Int) + (i1 : Int)), .slice none 0 0, .int .i64 (-1), .string ⟨(c0 :: u0).toArray⟩, .slice (some ⟨gg, 0, none⟩) pp.right.length cap, .int .i64 cp]) (t := 84) (fr := (0, 0)) (heap_last w7 _)) (by simp [Value.oneCell', prodC]) (by decide) (by have := HNQ.out; unfold maxLen; omega) (by have := HNQ.out; omega) (by show W0.heap.size ≤ (w7.alloc (.cells #[.int .i64 ((nl : Int) + (i1 : Int)), .slice none 0 0, .int .i64 (-1), .string ⟨(c0 :: u0).toArray⟩, .slice (some ⟨gg, 0, none⟩) pp.right.length cap, .int .i64 cp] 84)).heap.size; have := hb7.size; simp only [World.size_alloc]; omega) _ rfl ?_; intro g2 c2 w8 hown2 hgrow2 hat2 hlt2; replace hgrow2 : (w7.alloc (.cells #[.int .i64 ((nl : Int) + (i1 : Int)), .slice none 0 0, .int .i64 (-1), .string ⟨(c0 :: u0).toArray⟩, .slice (some ⟨gg, 0, none⟩) pp.right.length cap, .int .i64 cp] 84)).grownBy w8 (Value.slice qa0 nq qc0).ownBlock := ⟨hgrow2.os, hgrow2.tape, hgrow2.output, hgrow2.size, hgrow2.block⟩; have hk78 : Kp (fun b => (Value.slice qa0 nq qc0).ownBlock ≠ some b) w7 w8 := ((Kp.refl _ w7).alloc (.cells #[.int .i64 ((nl : Int) + (i1 : Int)), .slice none 0 0, .int .i64 (-1), .string ⟨(c0 :: u0).toArray⟩, .slice (some ⟨gg, 0, none⟩) pp.right.length cap, .int .i64 cp] 84)).grown hgrow2 (fun k hk hs => hs hk); have hk8 : Kp (fun b => (Value.slice qa0 nq qc0).ownBlock ≠ some b) w3 w8 := (Kp.of_below hb7 (fun _ h _ => h) : Kp (fun b => (Value.slice qa0 nq qc0).ownBlock ≠ some b) w3 w7).trans hk78; have kt78 : KpT (fun t => t ≠ 84) w7 w8 := (KpT.below ((Below.refl _ w7).alloc (Nat.le_refl _) (.cells #[.int .i64 ((nl : Int) + (i1 : Int)), .slice none 0 0, .int .i64 (-1), .string ⟨(c0 :: u0).toArray⟩, .slice (some ⟨gg, 0, none⟩) pp.right.length cap, .int .i64 cp] 84))).trans (KpT.grown ((ownsRow_below HPO.out hb7).alloc _) hgrow2); have hWle2 : w3.heap.size ≤ (w7.alloc (.cells #[.int .i64 ((nl : Int) + (i1 : Int)), .slice none 0 0, .int .i64 (-1), .string ⟨(c0 :: u0).toArray⟩, .slice (some ⟨gg, 0, none⟩) pp.right.length cap, .int .i64 cp] 84)).heap.size := (by have := hb7.size; simp only [World.size_alloc]; omega))
                refine hK _ _ (.inr ?_) ?_
                · exact HSK7.out _ hk8
                clear hK K'
                (try simp only [Act.put, List.setIfInBounds_toArray, List.set_cons_zero, List.set_cons_succ])
                refine wpPlan_run rfl (by rfl) (fun K' hK => ?_)
                go_simp
                refine hK _ _ (.inr ?_) ?_
                · exact HSK7.out _ hk8
                clear hK K'
                (try simp only [Act.put, List.setIfInBounds_toArray, List.set_cons_zero, List.set_cons_succ])
                refine wpPlan_run rfl (by rfl) (fun K' hK => ?_)
                go_simp
                refine hK _ _ (.inr ?_) ?_
                · exact HSK7.out _ hk8
                clear hK K'
                (try simp only [Act.put, List.setIfInBounds_toArray, List.set_cons_zero, List.set_cons_succ])
                refine wpPlan_run rfl (by rfl) (fun K' hK => ?_)
                go_simp
                refine hK _ _ (.inr ?_) ?_
                · exact HSK7.out _ hk8
                clear hK K'
                (try simp only [Act.put, List.setIfInBounds_toArray, List.set_cons_zero, List.set_cons_succ])
                refine wpPlan_run rfl (by rfl) (fun K' hK => ?_)
                (obtain ⟨⟨z1, z2⟩, _, _, _, _, _, hlz, _⟩ := HSK7.out _ hk8; go_simp)
                refine hK _ _ (.inl rfl) ?_
                clear hK K'
                (try simp only [Act.put, List.setIfInBounds_toArray, List.set_cons_zero, List.set_cons_succ])
                refine wpPlan_done ?_
                have hav8 : ∃ b, w8.ownsRow b 3 1 (.slice (some ⟨gg, 0, none⟩) pp.right.length cap) pp.right.length (intsC pp.right) := by
                  obtain ⟨b, hv⟩ := hav
                  exact ⟨b, ownsRow_kpT hv kt78 (by decide)⟩
                have hst9 := HST3.out.inner (q := ⟨(nl : Int) + (i1 : Int), [], -1, c0 :: u0, pp.right, cp⟩) HPC.out (by simp only; rw [← HNQE.out]; exact hown2) ((KpT.below hb7).trans kt78) (by rw [HPV.out]; exact hk8) rfl hav8 hnew7 (by rw [HPV.out]; exact hat2.imp id (fun e => by rw [e]; exact hWle2))
                obtain ⟨w9, hw9⟩ : ∃ w9 : World, w9 = w8.setCell ⟨m, 2, none⟩ (.slice (some ⟨g2, 0, none⟩) (nq + 1) c2) := ⟨_, rfl⟩
                rw [← hw9] at hst9 ⊢
                have HST9 := Lib.hid hst9
                have hs9 := hst9.size
                have HSK8 := Lib.hid (fun (w' : World) (kp : Kp (fun b => (Value.slice ra pp.right.length rc).ownBlock ≠ some b) w9 w') => (show ((w'.cell? ⟨W.heap.size + 1, 1, none⟩ = some (.slice ra pp.right.length rc) ∧ w'.frozen? ⟨W.heap.size + 1, 1, none⟩ = false) ∧ w'.cell? ⟨m, 7, none⟩ = some (.slice ly nl lc) ∧ w'.cell? ⟨m, 12, none⟩ = some (.int .i64 (i1 : Int)) ∧ m < w'.heap.size ∧ W.heap.size + 1 < w'.heap.size) from by
                  have hmk := HST9.out.mkr.block
                  have h1 := kp.at hmk (fun e => row_ne_cells HST9.out.right hmk (by decide) _ e rfl)
                  unfold rkCells at h1
                  simp only at h1
                  rw [HLV.out] at h1
                  have h3 := kp.at HST9.out.pbox (fun e => row_ne_cells HST9.out.right HST9.out.pbox (by decide) _ e rfl)
                  exact ⟨⟨cell_at (i := 1) h3, frozen_at (i := 1) h3⟩, cell_at (i := 7) h1, cell_at (i := 12) h1, lt_at h1, lt_at h3⟩))
                clear hw9 hst9 hav hav8 hown2 hgrow2 hat2 hlt2 hk78 hk8 kt78 hWle2 hb7 hnew7 z1 z2 hlz HSK7
                go_upto_region 8 with fail
                refine wp_region_plan (fun w' : World => ((w'.cell? ⟨W.heap.size + 1, 1, none⟩ = some (.slice ra pp.right.length rc) ∧ w'.frozen? ⟨W.heap.size + 1, 1, none⟩ = false) ∧ w'.cell? ⟨m, 7, none⟩ = some (.slice ly nl lc) ∧ w'.cell? ⟨m, 12, none⟩ = some (.int .i64 (i1 : Int)) ∧ m < w'.heap.size ∧ W.heap.size + 1 < w'.heap.size)) [16] (.take 0 (.take 1 (.take 2 (.take 3 (.take 4 (.take 5 (.take 6 (.take 7 (.take 8 (.take 9 (.take 10 (.take 11 (.take 12 (.one 13 (.one 14 (.one 15 (.one 16 (.done)))))))))))))))))) (by kernel_rfl) (by kernel_rfl) (fun _ _ _ _ h => h) ?_
                have hSw := HSK8.out _ ((Kp.refl _ w9).drew)
                refine wpPlan_takeD (v := ?vf33) rfl rfl hSw (by rfl) ?yf33 ?_
                case yf33 => (intro w hSx; (try dsimp only at hSx); go_simp; first | done | with_reducible rfl | rfl)
                (try simp only [Act.put, List.setIfInBounds_toArray, List.set_cons_zero, List.set_cons_succ])
                refine wpPlan_takeD (v := ?vf34) rfl rfl hSw (by rfl) ?yf34 ?_
                case yf34 => (intro w hSx; (try dsimp only at hSx); go_simp; first | done | with_reducible rfl | rfl)
                (try simp only [Act.put, List.setIfInBounds_toArray, List.set_cons_zero, List.set_cons_succ])
                refine wpPlan_takeD (v := ?vf35) rfl rfl hSw (by rfl) ?yf35 ?_
                case yf35 => (intro w hSx; (try dsimp only at hSx); go_simp; first | done | with_reducible rfl | rfl)
                (try simp only [Act.put, List.setIfInBounds_toArray, List.set_cons_zero, List.set_cons_succ])
                refine wpPlan_takeD (v := ?vf36) rfl rfl hSw (by rfl) ?yf36 ?_
                case yf36 => (intro w hSx; (try dsimp only at hSx); go_simp; first | done | with_reducible rfl | rfl)
                (try simp only [Act.put, List.setIfInBounds_toArray, List.set_cons_zero, List.set_cons_succ])
                refine wpPlan_takeD (v := ?vf37) rfl rfl hSw (by rfl) ?yf37 ?_
                case yf37 => (intro w hSx; (try dsimp only at hSx); go_simp; first | done | with_reducible rfl | rfl)
                (try simp only [Act.put, List.setIfInBounds_toArray, List.set_cons_zero, List.set_cons_succ])
                refine wpPlan_takeD (v := ?vf38) rfl rfl hSw (by rfl) ?yf38 ?_
                case yf38 => (intro w hSx; (try dsimp only at hSx); go_simp; first | done | with_reducible rfl | rfl)
                (try simp only [Act.put, List.setIfInBounds_toArray, List.set_cons_zero, List.set_cons_succ])
                refine wpPlan_takeD (v := ?vf39) rfl rfl hSw (by rfl) ?yf39 ?_
                case yf39 => (intro w hSx; (try dsimp only at hSx); go_simp; first | done | with_reducible rfl | rfl)
                (try simp only [Act.put, List.setIfInBounds_toArray, List.set_cons_zero, List.set_cons_succ])
                refine wpPlan_takeD (v := ?vf40) rfl rfl hSw (by rfl) ?yf40 ?_
                case yf40 => (intro w hSx; (try dsimp only at hSx); go_simp; first | done | with_reducible rfl | rfl)
                (try simp only [Act.put, List.setIfInBounds_toArray, List.set_cons_zero, List.set_cons_succ])
                refine wpPlan_takeD (v := ?vf41) rfl rfl hSw (by rfl) ?yf41 ?_
                case yf41 => (intro w hSx; (try dsimp only at hSx); go_simp; first | done | with_reducible rfl | rfl)
                (try simp only [Act.put, List.setIfInBounds_toArray, List.set_cons_zero, List.set_cons_succ])
                refine wpPlan_takeD (v := ?vf42) rfl rfl hSw (by rfl) ?yf42 ?_
                case yf42 => (intro w hSx; (try dsimp only at hSx); go_simp; first | done | with_reducible rfl | rfl)
                (try simp only [Act.put, List.setIfInBounds_toArray, List.set_cons_zero, List.set_cons_succ])
                refine wpPlan_takeD (v := ?vf43) rfl rfl hSw (by rfl) ?yf43 ?_
                case yf43 => (intro w hSx; (try dsimp only at hSx); go_simp; first | done | with_reducible rfl | rfl)
                (try simp only [Act.put, List.setIfInBounds_toArray, List.set_cons_zero, List.set_cons_succ])
                refine wpPlan_takeD (v := ?vf44) rfl rfl hSw (by rfl) ?yf44 ?_
                case yf44 => (intro w hSx; (try dsimp only at hSx); go_simp; first | done | with_reducible rfl | rfl)
                (try simp only [Act.put, List.setIfInBounds_toArray, List.set_cons_zero, List.set_cons_succ])
                refine wpPlan_takeD (v := ?vf45) rfl rfl hSw (by rfl) ?yf45 ?_
                case yf45 => (intro w hSx; (try dsimp only at hSx); go_simp; first | done | with_reducible rfl | rfl)
                (try simp only [Act.put, List.setIfInBounds_toArray, List.set_cons_zero, List.set_cons_succ])
                refine wpPlan_run rfl (by rfl) (fun K' hK => ?_)
                go_simp
                refine hK _ _ (.inr ?_) ?_
                · exact HSK8.out _ (((Kp.refl _ w9).drew).alloc (.cells #[.int .i64 (1000 + (nl : Int) + (i1 : Int))] 3))
                clear hK K' hSw
                (try simp only [Act.put, List.setIfInBounds_toArray, List.set_cons_zero, List.set_cons_succ])
                refine wpPlan_run rfl (by rfl) (fun K' hK => ?_)
                (refine wp_append_lies _ _ _ _ (by rfl) W.heap.size 3 ii0 _ 1 8 Tryd.underlying46 hii0 hiz0 hiz1 hiz2 rfl (by omega) _ _ _ (by rfl) (HST9.out.right.alloc _) ⟨w9.heap.size, 0, none⟩ 1 1 [.int .i64 (1000 + (nl : Int) + (i1 : Int))] (by rfl) (by rfl) (World.news_of_block (cs := #[.int .i64 (1000 + (nl : Int) + (i1 : Int))]) (t := 3) (fr := (0, 0)) (heap_last w9 _)) (by simp [Value.oneCell']) (by omega) (by unfold maxLen; omega) (by omega) (by show W.heap.size ≤ (w9.alloc (.cells #[.int .i64 (1000 + (nl : Int) + (i1 : Int))] 3)).heap.size; simp only [World.size_alloc]; omega) _ rfl ?_; intro g1 c1 w5 hown1 hgrow1 hat1 hlt1; replace hgrow1 : (w9.alloc (.cells #[.int .i64 (1000 + (nl : Int) + (i1 : Int))] 3)).grownBy w5 (Value.slice ra pp.right.length rc).ownBlock := ⟨hgrow1.os, hgrow1.tape, hgrow1.output, hgrow1.size, hgrow1.block⟩; have hk5 : Kp (fun b => (Value.slice ra pp.right.length rc).ownBlock ≠ some b) w9 w5 := ((Kp.refl _ w9).alloc (.cells #[.int .i64 (1000 + (nl : Int) + (i1 : Int))] 3)).grown hgrow1 (fun k hk hs => hs hk); have kt5 : KpT (fun t => t ≠ 3) w9 w5 := (KpT.below ((Below.refl _ w9).alloc (Nat.le_refl _) (.cells #[.int .i64 (1000 + (nl : Int) + (i1 : Int))] 3))).trans (KpT.grown (HST9.out.right.alloc _) hgrow1); have hWle : w9.heap.size ≤ (w9.alloc (.cells #[.int .i64 (1000 + (nl : Int) + (i1 : Int))] 3)).heap.size := (by simp only [World.size_alloc]; omega))
                refine hK _ _ (.inr ?_) ?_
                · exact HSK8.out _ hk5
                clear hK K'
                (try simp only [Act.put, List.setIfInBounds_toArray, List.set_cons_zero, List.set_cons_succ])
                refine wpPlan_run rfl (by rfl) (fun K' hK => ?_)
                go_simp
                refine hK _ _ (.inr ?_) ?_
                · exact HSK8.out _ hk5
                clear hK K'
                (try simp only [Act.put, List.setIfInBounds_toArray, List.set_cons_zero, List.set_cons_succ])
                refine wpPlan_run rfl (by rfl) (fun K' hK => ?_)
                (obtain ⟨⟨z1, z2⟩, _, _, _, hlz⟩ := HSK8.out _ hk5; go_simp)
                refine hK _ _ (.inl rfl) ?_
                clear hK K'
                (try simp only [Act.put, List.setIfInBounds_toArray, List.set_cons_zero, List.set_cons_succ])
                refine wpPlan_done ?_
                have hst11 := HST9.out.push (x := 1000 + (nl : Int) + (i1 : Int)) hk5 kt5 hown1 (hat1.imp id (fun e => by rw [e]; exact hWle))
                have HST11 := Lib.hid hst11
                clear hst11 hown1 hk5 kt5 hat1 hgrow1 hlt1 hWle z1 z2 hlz
                go_wp2_with fail
                go_meet
                have hRE := HRC.out
                (try simp only at hRE)
                rw [show (1000 : Int) + ((nl : Int) + (i1 : Int)) = 1000 + (nl : Int) + (i1 : Int) by omega] at hRE
                refine ⟨_, _, _, _, HST11.out, ⟨?_, by simp only [List.length_append, List.length_cons, List.length_nil]; have := HAI.out.right; omega, HAI.out.args, fun e => by simp at e⟩, hRE⟩
                obtain ⟨p0, p1, p2, p3, p4, p5, p6⟩ := HAI.out.rb
                have := HI1.out
                exact ⟨p0, by simp only; omega, by simp only; omega, by simp only; omega, by simp only [List.length_append, List.length_singleton]; omega, by simp only; omega, p6.1, by simp only; have := p6.2; omega⟩
          case rest =>
            obtain ⟨rr2, pp2, prv2, v2, hst2, hai2, hR2⟩ := hcut
            have HST2 := Lib.hid hst2; have HAI2 := Lib.hid hai2; have HR2 := Lib.hid hR2
            clear hst2 hai2 hR2
            go_wp2_with fail
            go_roundg (np - (k + 1))
            case measure => omega
            case rel => exact ⟨k + 1, rr2, pp2, prv2, v2, by omega, rfl, by go_num, HST2.out, HAI2.out, HR2.out⟩
        · obtain rfl : k = np := by omega
          have hRe : (rr, pp) = RR := by
            have h := HRR.out
            rw [List.drop_eq_nil_of_le (by rw [HNP.out]; exact Nat.le_refl _)] at h
            unfold Sp.raltGo at h
            exact h
          have HRE := Lib.hid hRe
          clear hRe HRR
          go_wp2_with fail
          go_meet
          rw [← HRE.out]
          exact ⟨v1, prv, HST.out, HAI.out⟩
    case rest =>
      obtain ⟨w3, hw3⟩ : ∃ w3 : World, w3 = wc := ⟨_, rfl⟩
      subst hw3
      obtain ⟨v1, prv, hst, hai⟩ := hcut
      obtain ⟨rr, pp⟩ := RR
      simp only at hst hai
      have HST := Lib.hid hst; have HAI := Lib.hid hai
      obtain ⟨ra, rc, rfl⟩ := ownsRowS_some hst.right
      obtain ⟨nr, hnr⟩ : ∃ nr, nr = pp.right.length := ⟨_, rfl⟩
      have hnr4 : nr ≤ 4000 := by have := hai.right; omega
      obtain ⟨C2, hC2⟩ : ∃ C2, C2 = Sp.rprecGo pp.right pp.prec := ⟨_, rfl⟩
      have HNR := Lib.hid hnr; have HC2 := Lib.hid hC2
      clear hst hai hnr hC2
      go_upto_block 3 with fail
      go_cut [] (fun wx => AltS W0 W m W.heap.size (W.heap.size + 1) #[.slice pa np pc, .string ⟨qn.toArray⟩, .bool ql, .int .i64 qu, .int .i64 qa, .int .i64 ap] rr { pp with prec := C2 } (.slice ra pp.right.length rc) v1 wx)
      case first =>
        go_wp2_with fail
        go_loopg [9] nr (fun q iv wr => ∃ (k : Nat) (c : Int), k ≤ nr ∧ q = nr - k ∧ iv = .int .i64 k ∧ AltS W0 W m W.heap.size (W.heap.size + 1) #[.slice pa np pc, .string ⟨qn.toArray⟩, .bool ql, .int .i64 qu, .int .i64 qa, .int .i64 ap] rr { pp with prec := c } (.slice ra pp.right.length rc) v1 wr ∧ Sp.rprecGo (pp.right.drop k) c = C2)
        case atStart => exact ⟨0, pp.prec, Nat.zero_le _, rfl, rfl, HST.out, HC2.out.symm⟩
        case round =>
          obtain ⟨k, c, hk, rfl, rfl, hst, hR⟩ := hrel
          have hpb := hst.pbox
          have hrw := hst.right
          simp only at hrw
          rw [← HNR.out] at hpb hrw
          have HST3 := Lib.hid hst; have HRR := Lib.hid hR
          have b1 : wr.cell? ⟨W.heap.size + 1, 1, none⟩ = some (.slice ra nr rc) := cell_at (i := 1) hpb
          have b2 : wr.cell? ⟨W.heap.size + 1, 2, none⟩ = some (.int .i64 c) := cell_at (i := 2) hpb
          have f2 : wr.frozen? ⟨W.heap.size + 1, 2, none⟩ = false := frozen_at (i := 2) hpb
          have lp := lt_at hpb
          have hk0 : (0 : Int) ≤ (k : Int) := Int.natCast_nonneg _
          clear hst hR hpb
          by_cases hkn : k < nr
          · have hk1 : (k : Int) < (nr : Int) := by omega
            obtain ⟨g, cap, hv⟩ := own_form hrw (by omega)
            simp only [Value.slice.injEq] at hv
            obtain ⟨rfl, _, rfl⟩ := hv
            have hkt : k < pp.right.length := by have := HNR.out; omega
            obtain ⟨x, hx⟩ : ∃ x, pp.right[k]? = some x := ⟨_, List.getElem?_eq_getElem hkt⟩
            have d1 : pp.right.drop k = x :: pp.right.drop (k + 1) := by
              have h := List.drop_eq_getElem_cons hkt
              rw [List.getElem?_eq_getElem hkt] at hx
              rw [h, Option.some.inj hx]
            have bx : wr.cell? ⟨g, k, none⟩ = some (.int .i64 x) := by
              rw [hrw.cellAt k (by omega)]
              unfold intsC
              rw [List.getElem?_map, hx]
              rfl
            have lg := (hrw.lt g rfl).2
            have hR := HRR.out
            rw [d1] at hR
            unfold Sp.rprecGo at hR
            clear hrw hx d1 hkt HRR
            by_cases hx1 : x < 1000
            · rw [if_pos hx1] at hR
              have HR2 := Lib.hid hR
              have hst4 := HST3.out.setp 2 (.int .i64 x) (pp' := { pp with prec := x }) rfl rfl
              have HST4 := Lib.hid hst4
              clear hR hst4
              go_wp2_with fail
              go_roundg (nr - (k + 1))
              case measure => omega
              case rel => exact ⟨k + 1, x, by omega, rfl, by go_num, HST4.out, HR2.out⟩
            · rw [if_neg hx1] at hR
              have HR2 := Lib.hid hR
              have hxd : decide (x < 1000) = false := decide_eq_false hx1
              clear hR
              go_wp2_with fail
              go_roundg (nr - (k + 1))
              case measure => omega
              case rel => exact ⟨k + 1, c, by omega, rfl, by go_num, HST3.out, HR2.out⟩
          · obtain rfl : k = nr := by omega
            have hce : c = C2 := by
              have h := HRR.out
              rw [List.drop_eq_nil_of_le (by rw [HNR.out]; exact Nat.le_refl _)] at h
              unfold Sp.rprecGo at h
              exact h
            subst hce
            clear hrw HRR
            go_wp2_with fail
            go_meet
            exact HST3.out
      case rest =>
        obtain ⟨w4, hw4⟩ : ∃ w4 : World, w4 = wc := ⟨_, rfl⟩
        subst hw4
        have HST4 := Lib.hid hcut
        have hab := hcut.abox; have hpb := hcut.pbox
        have a1 := cell_at (i := 1) hab; have a2 := cell_at (i := 2) hab; have a3 := cell_at (i := 3) hab; have a4 := cell_at (i := 4) hab
        have la := lt_at hab
        have b2 : w4.cell? ⟨W.heap.size + 1, 2, none⟩ = some (.int .i64 C2) := cell_at (i := 2) hpb
        have f2 : w4.frozen? ⟨W.heap.size + 1, 2, none⟩ = false := frozen_at (i := 2) hpb
        have lp := lt_at hpb
        obtain ⟨Q, hQ⟩ : ∃ Q, Q = Sp.raltPrec rr ⟨parts, ⟨qn, ql, qu, qa⟩, ap⟩ C2 := ⟨_, rfl⟩
        have HQ := Lib.hid hQ
        have hqb : Sp.RB (N + np + 1) Q.1 := by rw [hQ]; exact Sp.raltPrec_RB _ _ HAI.out.rb
        have HQB := Lib.hid hqb
        clear hcut hab hpb hQ hqb HST
        go_upto_if 130 with fail
        go_cut [] (fun wx => ∃ v2, AltS W0 W m W.heap.size (W.heap.size + 1) #[.slice pa np pc, .string ⟨qn.toArray⟩, .bool ql, .int .i64 qu, .int .i64 qa, .int .i64 ap] Q.1 { pp with prec := Q.2 } (.slice ra pp.right.length rc) v2 wx)
        case first =>
          by_cases hqn : qn = []
          · have e : Q = (rr, C2) := by rw [HQ.out]; unfold Sp.raltPrec; rw [if_pos hqn]
            subst hqn
            go_wp2_with fail
            go_meet
            rw [e]
            exact ⟨v1, HST4.out⟩
          · have hqe : qn.isEmpty = false := by cases qn with
              | nil => exact absurd rfl hqn
              | cons a l => rfl
            have hqe2 : (!qn.isEmpty) = true := by rw [hqe]; rfl
            have hst5 := HST4.out.setp 2 (.int .i64 (-1)) (pp' := { pp with prec := -1 }) rfl rfl
            obtain ⟨bb, hbb⟩ : ∃ bb : Bool, bb = decide (ql = true ∨ (Sp.rleft rr.lefts qn).isNone = true) := ⟨_, rfl⟩
            have hq2 : Q = if bb = true then Sp.rsymbol rr ⟨qn, ql, qu, qa⟩ else (Sp.rfail rr qa qn, -1) := by
              rw [HQ.out, hbb]
              unfold Sp.raltPrec
              rw [if_neg hqn]
              simp only [decide_eq_true_eq]
            have HBB := Lib.hid hbb; have HQ2 := Lib.hid hq2
            clear hbb hq2
            obtain ⟨w5, hw5⟩ : ∃ w5 : World, w5 = w4.setCell ⟨W.heap.size + 1, 2, none⟩ (.int .i64 (-1)) := ⟨_, rfl⟩
            rw [← hw5] at hst5
            have HST5 := Lib.hid hst5
            rw [show (!qn.isEmpty) = true from hqe2]
            go_upto_region 20 with fail
            rw [← hw5]
            clear hw5 a1 a2 a3 a4 la b2 f2 lp
            have hab := hst5.abox; have hpb := hst5.pbox
            have a1 := cell_at (i := 1) hab; have a2 := cell_at (i := 2) hab; have a3 := cell_at (i := 3) hab; have a4 := cell_at (i := 4) hab
            have la := lt_at hab
            clear hst5 hab hpb
            go_cut [142] (fun c wx => c = .bool bb ∧ w5 = wx)
            case first =>
              cases ql with
              | true =>
                have e : bb = true := by rw [HBB.out]; simp
                subst e
                go_wp2_with fail
                go_meet
                exact ⟨rfl, rfl⟩
              | false =>
                have e : bb = (Sp.rleft rr.lefts qn).isNone := by
                  rw [HBB.out]
                  cases Sp.rleft rr.lefts qn <;> simp
                go_wp2_with fail
                refine (ref_left qn HST5.out.mkr HAI.out.rb (by omega)).mono ?_
                rintro e' w' ⟨rfl, rfl⟩
                cases ho : Sp.rleft rr.lefts qn with
                | some k =>
                  have hk0 : (0 : Int) ≤ (k : Int) := Int.natCast_nonneg _
                  rw [ho] at e
                  subst e
                  clear ho
                  dsimp only [ixI]
                  go_wp2_with fail
                  go_meet
                  exact ⟨rfl, rfl⟩
                | none =>
                  rw [ho] at e
                  subst e
                  clear ho
                  dsimp only [ixI]
                  go_wp2_with fail
                  go_meet
                  exact ⟨rfl, rfl⟩
            case rest =>
              obtain ⟨rfl, rfl⟩ := hcut
              cases bb with
              | true =>
                have e : Q = Sp.rsymbol rr ⟨qn, ql, qu, qa⟩ := by rw [HQ2.out]; rfl
                have HSY := Lib.hid (show Calls Tryd.prog 73 #[.pointer (some ⟨m, 0, none⟩), .agg #[.string ⟨qn.toArray⟩, .bool ql, .int .i64 qu, .int .i64 qa]] w5 (fun e w'' => e = .returned (.int .i64 Q.2) ∧ RefPost _ W0.heap.size m v1.pv w5 Q.1 w'') from by
                  rw [e]
                  exact ref_symbol ⟨qn, ql, qu, qa⟩ HST5.out.mkr HAI.out.rb (by omega) HLP.out)
                clear e
                go_wp2_with fail
                refine HSY.out.mono ?_
                rintro e w6 ⟨rfl, v6, h6, hf6, hpv6⟩
                have hst6 := HST5.out.rfr h6 hpv6 hf6
                have hst7 := hst6.setp 2 (.int .i64 Q.2) (pp' := { pp with prec := Q.2 }) rfl rfl
                have hpb6 := hst6.pbox
                have b2 : w6.cell? ⟨W.heap.size + 1, 2, none⟩ = some (.int .i64 (-1)) := cell_at (i := 2) hpb6
                have f2 : w6.frozen? ⟨W.heap.size + 1, 2, none⟩ = false := frozen_at (i := 2) hpb6
                have lp := lt_at hpb6
                have HST7 := Lib.hid hst7
                clear h6 hf6 hpv6 hst6 hst7 hpb6
                go_wp2_with fail
                go_meet
                exact ⟨v6, HST7.out⟩
              | false =>
                have e : Q = (Sp.rfail rr qa qn, -1) := by rw [HQ2.out]; rfl
                go_wp2_with fail
                refine (ref_fail qa qn HST5.out.mkr).mono ?_
                rintro e' w6 ⟨rfl, h6, hf6, _⟩
                have hst6 := HST5.out.rfr h6 rfl hf6
                have HST6 := Lib.hid hst6
                clear h6 hf6 hst6
                go_wp2_with fail
                go_meet
                rw [e]
                exact ⟨v1, HST6.out⟩
        case rest =>
          obtain ⟨w5, hw5⟩ : ∃ w5 : World, w5 = wc := ⟨_, rfl⟩
          subst hw5
          obtain ⟨v2, hst5⟩ := hcut
          obtain ⟨q1, c2⟩ := Q
          simp only at hst5
          have HST5 := Lib.hid hst5
          have hpb := hst5.pbox
          have b1 : w5.cell? ⟨W.heap.size + 1, 1, none⟩ = some (.slice ra pp.right.length rc) := cell_at (i := 1) hpb
          have b4 : w5.cell? ⟨W.heap.size + 1, 4, none⟩ = some (.slice none 0 0) := cell_at (i := 4) hpb
          have f4 : w5.frozen? ⟨W.heap.size + 1, 4, none⟩ = false := frozen_at (i := 4) hpb
          have lp := lt_at hpb
          have HNIL := Lib.hid (show pp.right = [] → ra = none ∧ rc = 0 from fun e => by
            have h := HAI.out.nil e
            simp only [Value.slice.injEq] at h
            exact ⟨h.1, h.2.2⟩)
          have hprl : pp.right.length ≤ 4000 := by have := HNR.out; omega
          clear hst5 hpb HST4 a1 a2 a3 a4 la b2 f2
          go_upto_region 24 with (at_builtin; refine wpList_copy_intsE rfl _ _ rfl (g0 := w5.heap.size) (B := W.heap.size) (right := pp.right) (ra := ra) (rc := rc) rfl (heap_last w5 (.cells #[] 3)) rfl (ownsRow_below HST5.out.right ((Below.refl _ w5).alloc (Nat.le_refl _) (.cells #[] 3))) HNIL.out (by omega) ?_; intro gg cap w6' hav hk6' hnew; have hb6 : Below w5.heap.size w5 w6' := Kp.below (S := fun b => b < w5.heap.size) (((Kp.refl _ w5).alloc (.cells #[] 3)).trans (hk6'.mono (fun k _ h => Nat.ne_of_lt h))) (Nat.le_refl _) (fun b hb => hb); have hp6 := (hb6.block _ (lt_at HST5.out.pbox)).trans HST5.out.pbox; have z4 : w6'.cell? ⟨W.heap.size + 1, 4, none⟩ = some (.slice none 0 0) := cell_at (i := 4) hp6; have g4 : w6'.frozen? ⟨W.heap.size + 1, 4, none⟩ = false := frozen_at (i := 4) hp6; have lp6 := lt_at hp6)
          have hst6 := HST5.out.below hb6
          obtain ⟨w6, hw6⟩ : ∃ w6 : World, w6 = w6'.setCell ⟨W.heap.size + 1, 4, none⟩ (.slice (some ⟨gg, 0, none⟩) pp.right.length cap) := ⟨_, rfl⟩
          rw [← hw6]
          have kP : KpT (fun t => t ≠ 84) w6' w6 := by rw [hw6]; exact KpT.setCell (fun _ _ _ _ h _ => h) hst6.pbox (by simp) _
          have kb : Kp (fun b => b ≠ W.heap.size + 1) w6' w6 := by rw [hw6]; exact (Kp.refl _ w6').setCell (by simp) _
          have hmk : RefAt (fun _ => True) W0.heap.size w6 m q1 v2 := by
            rw [hw6]
            exact (hst6.mkr.pbox hst6.pbox hst6.apart 4 _).mono (fun _ _ _ => trivial)
          have hpx : w6.heap[W.heap.size + 1]? = some (.cells #[.int .i64 pp.left, .slice ra pp.right.length rc, .int .i64 c2, .string ⟨pp.code.toArray⟩, .slice (some ⟨gg, 0, none⟩) pp.right.length cap, .int .i64 pp.at_] 84 (0, 0)) := by rw [hw6]; exact heap_setCell_at hst6.pbox
          have hrr : w6.ownsRow W.heap.size 3 1 (.slice ra pp.right.length rc) pp.right.length (intsC pp.right) := ownsRow_kpT hst6.right kP (by decide)
          have hav6 : ∃ b, w6.ownsRow b 3 1 (.slice (some ⟨gg, 0, none⟩) pp.right.length cap) pp.right.length (intsC pp.right) := by
            obtain ⟨b, hv⟩ := hav
            exact ⟨b, ownsRow_kpT hv kP (by decide)⟩
          have hold6 : KpT RTA W w6 := hst6.old.stepKp kb (fun b hb => by omega)
          have hbel6 : Below W0.heap.size W0 w6 := hst6.bel.trans (Kp.below kb (Nat.le_trans hst6.w0 hst6.size) (fun b hb => by have := hst6.w0; omega))
          have hsz6 : W.heap.size ≤ w6.heap.size := Nat.le_trans hst6.size kb.size
          have hap := hst6.apart
          have hw0 := hst6.w0
          obtain ⟨fo, go, hpo, hpc⟩ := hmk.prods
          obtain ⟨qa0, qc0, hpv⟩ := ownsRowS_some hpo
          obtain ⟨nq, hnq⟩ : ∃ nq, nq = q1.prods.length := ⟨_, rfl⟩
          rw [← hnq] at hpv
          rw [hpv, ← hnq] at hpo
          rw [hpv] at hap
          have HNQ : Hid (nq ≤ 2 ^ 39) := Lib.hid (by have := HQB.out.prods; simp only at this; omega)
          have HMK := Lib.hid hmk; have HPX := Lib.hid hpx; have HRR := Lib.hid hrr; have HAV := Lib.hid hav6; have HOLD := Lib.hid hold6; have HBEL := Lib.hid hbel6; have HPO := Lib.hid hpo; have HPC := Lib.hid hpc; have HPV := Lib.hid hpv; have HNQE := Lib.hid hnq; have HAP := Lib.hid hap
          have HSK24 := Lib.hid (fun (w' : World) (kp : Kp (fun b => (Value.slice qa0 nq qc0).ownBlock ≠ some b) w6 w') => (show ((w'.cell? ⟨m, 2, none⟩ = some (.slice qa0 nq qc0) ∧ w'.frozen? ⟨m, 2, none⟩ = false) ∧ (w'.cell? ⟨W.heap.size + 1, 0, none⟩ = some (.int .i64 pp.left) ∧ w'.cell? ⟨W.heap.size + 1, 1, none⟩ = some (.slice ra pp.right.length rc) ∧ w'.cell? ⟨W.heap.size + 1, 2, none⟩ = some (.int .i64 c2) ∧ w'.cell? ⟨W.heap.size + 1, 3, none⟩ = some (.string ⟨pp.code.toArray⟩) ∧ w'.cell? ⟨W.heap.size + 1, 4, none⟩ = some (.slice (some ⟨gg, 0, none⟩) pp.right.length cap) ∧ w'.cell? ⟨W.heap.size + 1, 5, none⟩ = some (.int .i64 pp.at_)) ∧ m < w'.heap.size ∧ W.heap.size + 1 < w'.heap.size) from by
            have hmb := HMK.out.block
            have h1 := kp.at hmb (fun e => row_ne_cells HPO.out hmb (by decide) _ e rfl)
            unfold rkCells at h1
            rw [HPV.out] at h1
            have h3 := kp.at HPX.out HAP.out
            exact ⟨⟨cell_at (i := 2) h1, frozen_at (i := 2) h1⟩, ⟨cell_at (i := 0) h3, cell_at (i := 1) h3, cell_at (i := 2) h3, cell_at (i := 3) h3, cell_at (i := 4) h3, cell_at (i := 5) h3⟩, lt_at h1, lt_at h3⟩))
          obtain ⟨ip0, hip0, hpz0, hpz1, hpz2⟩ := info_parts info_prodR
          have hB6 : W0.heap.size ≤ w6.heap.size := Nat.le_trans hw0 hsz6
          clear hst6 hw6 kP kb hmk hpx hrr hav6 hold6 hbel6 hap hpo hpc hpv hnq hav hk6' hnew hb6 hp6 z4 g4 lp6 b1 b4 f4 lp
          refine wp_region_plan (fun w' : World => ((w'.cell? ⟨m, 2, none⟩ = some (.slice qa0 nq qc0) ∧ w'.frozen? ⟨m, 2, none⟩ = false) ∧ (w'.cell? ⟨W.heap.size + 1, 0, none⟩ = some (.int .i64 pp.left) ∧ w'.cell? ⟨W.heap.size + 1, 1, none⟩ = some (.slice ra pp.right.length rc) ∧ w'.cell? ⟨W.heap.size + 1, 2, none⟩ = some (.int .i64 c2) ∧ w'.cell? ⟨W.heap.size + 1, 3, none⟩ = some (.string ⟨pp.code.toArray⟩) ∧ w'.cell? ⟨W.heap.size + 1, 4, none⟩ = some (.slice (some ⟨gg, 0, none⟩) pp.right.length cap) ∧ w'.cell? ⟨W.heap.size + 1, 5, none⟩ = some (.int .i64 pp.at_)) ∧ m < w'.heap.size ∧ W.heap.size + 1 < w'.heap.size)) [12] (.take 0 (.take 1 (.take 2 (.take 3 (.take 4 (.take 5 (.take 6 (.one 7 (.one 8 (.one 9 (.one 10 (.one 11 (.one 12 (.done)))))))))))))) (by kernel_rfl) (by kernel_rfl) (fun _ _ _ _ h => h) ?_
          have hSw := HSK24.out _ ((Kp.refl _ w6).drew)
          refine wpPlan_takeD (v := ?vg46) rfl rfl hSw (by rfl) ?yg46 ?_
          case yg46 => (intro w hSx; (try dsimp only at hSx); go_simp; first | done | with_reducible rfl | rfl)
          (try simp only [Act.put, List.setIfInBounds_toArray, List.set_cons_zero, List.set_cons_succ])
          refine wpPlan_takeD (v := ?vg47) rfl rfl hSw (by rfl) ?yg47 ?_
          case yg47 => (intro w hSx; (try dsimp only at hSx); go_simp; first | done | with_reducible rfl | rfl)
          (try simp only [Act.put, List.setIfInBounds_toArray, List.set_cons_zero, List.set_cons_succ])
          refine wpPlan_takeD (v := ?vg48) rfl rfl hSw (by rfl) ?yg48 ?_
          case yg48 => (intro w hSx; (try dsimp only at hSx); go_simp; first | done | with_reducible rfl | rfl)
          (try simp only [Act.put, List.setIfInBounds_toArray, List.set_cons_zero, List.set_cons_succ])
          refine wpPlan_takeD (v := ?vg49) rfl rfl hSw (by rfl) ?yg49 ?_
          case yg49 => (intro w hSx; (try dsimp only at hSx); go_simp; first | done | with_reducible rfl | rfl)
          (try simp only [Act.put, List.setIfInBounds_toArray, List.set_cons_zero, List.set_cons_succ])
          refine wpPlan_takeD (v := ?vg50) rfl rfl hSw (by rfl) ?yg50 ?_
          case yg50 => (intro w hSx; (try dsimp only at hSx); go_simp; first | done | with_reducible rfl | rfl)
          (try simp only [Act.put, List.setIfInBounds_toArray, List.set_cons_zero, List.set_cons_succ])
          refine wpPlan_takeD (v := ?vg51) rfl rfl hSw (by rfl) ?yg51 ?_
          case yg51 => (intro w hSx; (try dsimp only at hSx); go_simp; first | done | with_reducible rfl | rfl)
          (try simp only [Act.put, List.setIfInBounds_toArray, List.set_cons_zero, List.set_cons_succ])
          refine wpPlan_takeD (v := ?vg52) rfl rfl hSw (by rfl) ?yg52 ?_
          case yg52 => (intro w hSx; (try dsimp only at hSx); go_simp; first | done | with_reducible rfl | rfl)
          (try simp only [Act.put, List.setIfInBounds_toArray, List.set_cons_zero, List.set_cons_succ])
          refine wpPlan_run rfl (by rfl) (fun K' hK => ?_)
          go_simp
          refine hK _ _ (.inr ?_) ?_
          · exact HSK24.out _ (((Kp.refl _ w6).drew).alloc (.cells #[.int .i64 pp.left, .slice ra pp.right.length rc, .int .i64 c2, .string ⟨pp.code.toArray⟩, .slice (some ⟨gg, 0, none⟩) pp.right.length cap, .int .i64 pp.at_] 84))
          clear hK K' hSw
          (try simp only [Act.put, List.setIfInBounds_toArray, List.set_cons_zero, List.set_cons_succ])
          refine wpPlan_run rfl (by rfl) (fun K' hK => ?_)
          (refine wp_append_lies _ _ _ _ (by rfl) W0.heap.size 84 ip0 _ 6 88 Tryd.underlying56 hip0 hpz0 hpz1 hpz2 rfl (by decide) _ _ _ (by rfl) (HPO.out.alloc _) ⟨w6.heap.size, 0, none⟩ 1 1 (prodC (.slice ra pp.right.length rc) (.slice (some ⟨gg, 0, none⟩) pp.right.length cap) { pp with prec := c2, args := pp.right }) (by rfl) (by rfl) (World.news_of_block (cs := #[.int .i64 pp.left, .slice ra pp.right.length rc, .int .i64 c2, .string ⟨pp.code.toArray⟩, .slice (some ⟨gg, 0, none⟩) pp.right.length cap, .int .i64 pp.at_]) (t := 84) (fr := (0, 0)) (heap_last w6 _)) (by simp [Value.oneCell', prodC]) (by decide) (by have := HNQ.out; unfold maxLen; omega) (by have := HNQ.out; omega) (by show W0.heap.size ≤ (w6.alloc (.cells #[.int .i64 pp.left, .slice ra pp.right.length rc, .int .i64 c2, .string ⟨pp.code.toArray⟩, .slice (some ⟨gg, 0, none⟩) pp.right.length cap, .int .i64 pp.at_] 84)).heap.size; simp only [World.size_alloc]; omega) _ rfl ?_; intro g2 c3 w8 hown2 hgrow2 hat2 hlt2; replace hgrow2 : (w6.alloc (.cells #[.int .i64 pp.left, .slice ra pp.right.length rc, .int .i64 c2, .string ⟨pp.code.toArray⟩, .slice (some ⟨gg, 0, none⟩) pp.right.length cap, .int .i64 pp.at_] 84)).grownBy w8 (Value.slice qa0 nq qc0).ownBlock := ⟨hgrow2.os, hgrow2.tape, hgrow2.output, hgrow2.size, hgrow2.block⟩; have hk8 : Kp (fun b => (Value.slice qa0 nq qc0).ownBlock ≠ some b) w6 w8 := ((Kp.refl _ w6).alloc (.cells #[.int .i64 pp.left, .slice ra pp.right.length rc, .int .i64 c2, .string ⟨pp.code.toArray⟩, .slice (some ⟨gg, 0, none⟩) pp.right.length cap, .int .i64 pp.at_] 84)).grown hgrow2 (fun k hk hs => hs hk); have kt8 : KpT (fun t => t ≠ 84) w6 w8 := (KpT.below ((Below.refl _ w6).alloc (Nat.le_refl _) (.cells #[.int .i64 pp.left, .slice ra pp.right.length rc, .int .i64 c2, .string ⟨pp.code.toArray⟩, .slice (some ⟨gg, 0, none⟩) pp.right.length cap, .int .i64 pp.at_] 84))).trans (KpT.grown (HPO.out.alloc _) hgrow2))
          refine hK _ _ (.inr ?_) ?_
          · exact HSK24.out _ hk8
          clear hK K'
          (try simp only [Act.put, List.setIfInBounds_toArray, List.set_cons_zero, List.set_cons_succ])
          refine wpPlan_run rfl (by rfl) (fun K' hK => ?_)
          go_simp
          refine hK _ _ (.inr ?_) ?_
          · exact HSK24.out _ hk8
          clear hK K'
          (try simp only [Act.put, List.setIfInBounds_toArray, List.set_cons_zero, List.set_cons_succ])
          refine wpPlan_run rfl (by rfl) (fun K' hK => ?_)
          go_simp
          refine hK _ _ (.inr ?_) ?_
          · exact HSK24.out _ hk8
          clear hK K'
          (try simp only [Act.put, List.setIfInBounds_toArray, List.set_cons_zero, List.set_cons_succ])
          refine wpPlan_run rfl (by rfl) (fun K' hK => ?_)
          go_simp
          refine hK _ _ (.inr ?_) ?_
          · exact HSK24.out _ hk8
          clear hK K'
          (try simp only [Act.put, List.setIfInBounds_toArray, List.set_cons_zero, List.set_cons_succ])
          refine wpPlan_run rfl (by rfl) (fun K' hK => ?_)
          (obtain ⟨⟨z1, z2⟩, _, hlz, _⟩ := HSK24.out _ hk8; go_simp)
          refine hK _ _ (.inl rfl) ?_
          clear hK K'
          (try simp only [Act.put, List.setIfInBounds_toArray, List.set_cons_zero, List.set_cons_succ])
          refine wpPlan_done ?_
          have hb8 : Below W0.heap.size w6 w8 := Kp.below hk8 hB6 (fun b hb e => by have := (HPO.out.lt b e).1; omega)
          have hu8 : ∃ b, w8.ownsRow b 3 1 (.slice ra pp.right.length rc) pp.right.length (intsC pp.right) := ⟨_, ownsRow_kpT HRR.out kt8 (by decide)⟩
          have ha8 : ∃ b, w8.ownsRow b 3 1 (.slice (some ⟨gg, 0, none⟩) pp.right.length cap) pp.right.length (intsC pp.right) := by
            obtain ⟨b, hv⟩ := HAV.out
            exact ⟨b, ownsRow_kpT hv kt8 (by decide)⟩
          obtain ⟨h9, hb9, hk9⟩ := HMK.out.addProd (p := { pp with prec := c2, args := pp.right }) HPC.out (by rw [← HNQE.out]; exact hown2) kt8 hb8 hu8 ha8 (fun _ _ => trivial) (fun _ _ => trivial)
          have H9 := Lib.hid h9; have HB9 := Lib.hid hb9; have HK9 := Lib.hid hk9
          clear h9 hb9 hk9 hb8 hu8 ha8 hown2 hgrow2 hat2 hlt2 hk8 kt8 z1 z2 hlz
          go_wp2_with fail
          refine bodyPost_end (results_none rfl _ _ _) rfl ?_
          rw [HFIN.out, ← HC2.out, ← HQ.out]
          unfold RAltPost
          exact ⟨rfl, _, H9.out, Below.of2 HW.out (HBEL.out.trans HB9.out) (Nat.le_trans hsz6 HB9.out.size), HOLD.out.trans HK9.out⟩
end Go.Proofs.YtphdfbmmjkccgaaDoor
