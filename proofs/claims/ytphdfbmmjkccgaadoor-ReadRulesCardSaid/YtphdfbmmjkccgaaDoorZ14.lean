/- read.reader: decls. -/
import Derived.Test.YtphdfbmmjkccgaaDoorZ13
import Derived.Test.YtphdfbmmjkccgaaDoorZ07
namespace Go.Proofs.YtphdfbmmjkccgaaDoor
open Go.RowKit Go.Maps

namespace Sp
theorem kindGo_nonneg (key : List UInt8) : ∀ (l : List (List UInt8)) (i : Nat), 0 ≤ kindGo key l i
  | [], _ => by simp [kindGo]
  | t :: l, i => by
    unfold kindGo
    split
    · omega
    · exact kindGo_nonneg key l (i + 1)
theorem rdKind_nonneg (key : List UInt8) : 0 ≤ rdKind key := kindGo_nonneg _ _ _
theorem readDecls_cons (f : Nat) (w : Word) (l : List Word) (pro : Option (List UInt8)) (ds : List Decl) : readDecls (f + 1) (w :: l) pro ds =
    if w.kind = 7 then .ok (pro, ds) l
    else if w.kind = 9 ∧ pro = none then readDecls f l (some w.text) ds
    else if w.kind = 5 ∧ rdKind w.text ≠ 0 then (match readDecl (rdKind w.text) w.at_ l with
      | .ok d r => readDecls f r pro (ds ++ [d])
      | .bad r => .bad r)
    else .bad (w :: l) := rfl
/-- The prologue that a reader has seen. -/
def RdS.seen (s : RdS) : Option (List UInt8) := if s.set = true then some s.pro else none
end Sp
theorem RdFr.below {B : Nat} {W w' : World} (h : Below W.heap.size W w') (hB : B ≤ W.heap.size) : RdFr B W w' := (BoxFr.below h hB).rd
/-- How the declarations leave the reader. -/
def RdDeclsPost (B : Nat) (W : World) (m : Nat) (ws : List Sp.Word) (s : Sp.RdS) (v : RdV) (R : Sp.Rd (Option (List UInt8) × List Sp.Decl)) (e : Ending) (w' : World) : Prop :=
  ∃ (s' : Sp.RdS) (dv : Value), e = .returned (.tuple #[]) ∧ s'.ws = R.rest ∧ s'.bad = R.bd ∧ s'.rules = s.rules ∧ s.i ≤ s'.i ∧ (match R with | .ok (p, ds) _ => s'.decls = ds ∧ s'.pro = p.getD [] | .bad _ => True) ∧ ReaderAt B w' m ws s' { v with dv := dv } ∧ RdFr B W w'
set_option maxRecDepth 100000 in
set_option maxHeartbeats 25600000 in
theorem reader_decls {B F : Nat} {W : World} {m : Nat} {ws : List Sp.Word} {s : Sp.RdS} {v : RdV} (h : ReaderAt B W m ws s v) (hbad : s.bad = false) (hset : s.set = false) (hpro : s.pro = []) (hds : s.decls = []) (hgood : ∀ w ∈ ws, Sp.GoodW w) (hF : s.ws.length < F) :
    Calls Tryd.prog 18 #[.pointer (some ⟨m, 0, none⟩)] W (RdDeclsPost B W m ws s v (Sp.readDecls F s.ws none [])) := by
  generalize hRR : Sp.readDecls F s.ws none [] = RR
  have HR := Lib.hid hRR; have HH := Lib.hid h; have HBAD := Lib.hid hbad; have HSET := Lib.hid hset; have HPRO := Lib.hid hpro; have HDS := Lib.hid hds; have HGOOD := Lib.hid hgood; have HF := Lib.hid hF
  clear hRR h hbad hset hpro hds hgood hF
  go_enter Tryd.func18, Tryd.ntmps18
  go_wp2_with fail
  go_loopg [] s.ws.length (fun q wr => ∃ (s2 : Sp.RdS) (dv : Value), ReaderAt B wr m ws s2 { v with dv := dv } ∧ RdFr B W wr ∧ s2.rules = s.rules ∧ s.i ≤ s2.i ∧ s2.decls.length ≤ s2.i ∧ (s2.set = false → s2.pro = []) ∧
    ((s2.bad = true ∧ q = 0 ∧ RR = .bad s2.ws) ∨ (s2.bad = false ∧ q = s2.ws.length ∧ ∃ f, s2.ws.length < f ∧ Sp.readDecls f s2.ws s2.seen s2.decls = RR)))
  case atStart => exact ⟨s, v.dv, HH.out, ⟨Below.refl _ _, fun _ _ _ _ h _ => h⟩, rfl, Nat.le_refl _, by rw [HDS.out]; simp, fun _ => HPRO.out, .inr ⟨HBAD.out, rfl, F, HF.out, by unfold Sp.RdS.seen; rw [HSET.out, HDS.out]; exact HR.out⟩⟩
  case round =>
    obtain ⟨s2, dv, hr, hf, hru, hil, hdl, hsp, hor⟩ := hrel
    have HRD := Lib.hid hr; have HFR := Lib.hid hf; have HRU := Lib.hid hru; have HIL := Lib.hid hil; have HDL := Lib.hid hdl; have HSP := Lib.hid hsp
    have hmb := hr.block
    unfold rdCells at hmb
    have b2 : wr.cell? ⟨m, 2, none⟩ = some (.bool s2.bad) := cell_at (i := 2) hmb
    have b7 : wr.cell? ⟨m, 7, none⟩ = some (.bool s2.set) := cell_at (i := 7) hmb
    have lm := lt_at hmb
    clear hf hru hil hdl hsp HR HH HF
    rcases hor with ⟨hb, rfl, hR⟩ | ⟨hb, rfl, f, hf, hR⟩
    · rw [hb] at b2
      have HB := Lib.hid hb; have HR2 := Lib.hid hR
      clear hr hb hR hmb
      go_wp2_with fail
      refine bodyPost_end (results_none rfl _ _ _) rfl ?_
      exact ⟨s2, dv, rfl, by rw [HR2.out]; rfl, by rw [HR2.out]; exact HB.out, HRU.out, HIL.out, by rw [HR2.out]; trivial, HRD.out, HFR.out⟩
    · rw [hb] at b2
      obtain ⟨f, rfl⟩ : ∃ f', f = f' + 1 := ⟨f - 1, by omega⟩
      obtain ⟨x, l, hx⟩ := hr.ends.cons
      have hR' := hR
      rw [hx, Sp.readDecls_cons] at hR'
      have HB := Lib.hid hb; have HR2 := Lib.hid hR'; have HX := Lib.hid hx; have HFL := Lib.hid (show l.length < f from by rw [hx] at hf; simp only [List.length_cons] at hf; omega)
      have HP7 := Lib.hid (reader_is 7 [] hr)
      have HP9 := Lib.hid (fun n => reader_is 9 [] (hr.below (below_drewN (Below.refl _ wr) n)))
      have HBL := Lib.hid (fun n => hr.below (below_drewN (Below.refl _ wr) n))
      have hbk1 : wr.cell? ⟨m, 1, none⟩ = some (.int .i64 (s2.i : Int)) := cell_at (i := 1) hmb
      have hbf1 : wr.frozen? ⟨m, 1, none⟩ = false := frozen_at (i := 1) hmb
      have hlt := hr.lt
      have hsm := hr.small
      have hw : IntKind.i64.wrap ((s2.i : Int) + 1) = (s2.i : Int) + 1 := IntWalk.i64_in _ ⟨by omega, by omega⟩
      have hBw := hr.size
      clear hR hR' hb hf hmb hr
      cases h7 : Sp.isW 7 [] s2.ws with
      | true =>
        have hk7 : x.kind = 7 := by rw [hx] at h7; exact Sp.isW_kind h7
        have hR := HR2.out
        rw [if_pos hk7] at hR
        have HR3 := Lib.hid hR; have HK := Lib.hid (show x.kind ≠ 10 by omega)
        rw [h7] at HP7
        clear hR HR2 h7 hx hk7
        go_wp2_with fail
        refine HP7.out.mono ?_
        rintro e w' ⟨rfl, n1, rfl⟩
        obtain ⟨w3, hw3⟩ : ∃ w3 : World, w3 = wr.drewN n1 := ⟨_, rfl⟩
        have h3 := HBL.out n1
        have hfr3 : RdFr B wr w3 := by rw [hw3]; exact RdFr.below (below_drewN (Below.refl _ wr) n1) hBw
        rw [← hw3] at h3 ⊢
        have hmb := h3.block
        unfold rdCells at hmb
        rw [HB.out] at hmb
        have e1 : w3.cell? ⟨m, 1, none⟩ = some (.int .i64 (s2.i : Int)) := cell_at (i := 1) hmb
        have e2 : w3.cell? ⟨m, 2, none⟩ = some (.bool false) := cell_at (i := 2) hmb
        have g1 : w3.frozen? ⟨m, 1, none⟩ = false := frozen_at (i := 1) hmb
        have lm3 := lt_at hmb
        obtain ⟨k1, k2⟩ := h3.step HX.out HK.out
        have HK1 := Lib.hid k1; have HK2 := Lib.hid ((HFR.out.trans hfr3).trans k2.rd)
        clear hw3 h3 hfr3 hmb k1 k2 b2 b7 lm hbk1 hbf1
        go_wp2_with fail
        refine bodyPost_end (results_none rfl _ _ _) rfl ?_
        refine ⟨s2.next, dv, rfl, ?_, ?_, HRU.out, ?_, ?_, HK1.out, HK2.out⟩
        · rw [← HR3.out]; unfold Sp.RdS.next; simp only; rw [HX.out]; rfl
        · rw [← HR3.out]; exact HB.out
        · have := HIL.out; unfold Sp.RdS.next; simp only; omega
        · rw [← HR3.out]
          refine ⟨rfl, ?_⟩
          show s2.pro = s2.seen.getD []
          unfold Sp.RdS.seen
          cases hs : s2.set with
          | false => rw [if_neg (by decide)]; exact HSP.out hs
          | true => rw [if_pos rfl]; rfl
      | false =>
        have hk7 : x.kind ≠ 7 := by rw [hx, Sp.isW_any, beq_eq_false_iff_ne] at h7; exact h7
        have hR := HR2.out
        rw [if_neg hk7] at hR
        have HR3 := Lib.hid hR
        rw [h7] at HP7
        obtain ⟨C, hC⟩ : ∃ C : Bool, C = (Sp.isW 9 [] s2.ws && !s2.set) := ⟨_, rfl⟩
        have HC := Lib.hid hC
        clear hR HR2 h7 hx hk7 hC
        go_wp2_with fail
        refine HP7.out.mono ?_
        rintro e w' ⟨rfl, n1, rfl⟩
        go_upto_region 1 with fail
        go_cut [20] from 2 to 66 (fun c wx => c = .bool C ∧ ReaderAt B wx m ws s2 { v with dv := dv } ∧ BoxFr B wr wx)
        case first =>
          have HFB := Lib.hid (fun n => (show BoxFr B wr (wr.drewN n) from BoxFr.below (below_drewN (Below.refl _ wr) n) hBw))
          generalize Sp.isW 9 [] s2.ws = b9 at *
          generalize s2.set = st at *
          go_wp2_with fail
          refine (HP9.out _).mono ?_
          rintro e w' ⟨rfl, n2, rfl⟩
          cases b9
          · go_wp2_with fail
            go_meet
            exact ⟨by rw [HC.out]; rfl, HBL.out _, HFB.out _⟩
          · cases st
            all_goals
              go_wp2_with fail
              go_meet
              exact ⟨by rw [HC.out]; rfl, HBL.out _, HFB.out _⟩
        case rest =>
          obtain ⟨w9, hw9⟩ : ∃ w9 : World, w9 = wc := ⟨_, rfl⟩
          subst hw9
          obtain ⟨rfl, hr9, hf9⟩ := hcut
          have HRD9 := Lib.hid hr9; have HFR9 := Lib.hid (HFR.out.trans hf9.rd)
          obtain ⟨gw, cap, hv, hg, hi, a0, a1, a2⟩ := hr9.words.cells (hr9.head HX.out)
          have hmb := hr9.block
          unfold rdCells at hmb
          simp only at hv
          rw [HB.out] at hmb
          simp only at hmb
          rw [hv] at hmb
          have c1 : w9.cell? ⟨m, 1, none⟩ = some (.int .i64 (s2.i : Int)) := cell_at (i := 1) hmb
          have c3 : w9.cell? ⟨m, 3, none⟩ = some (.string ⟨s2.pro.toArray⟩) := cell_at (i := 3) hmb
          have c7 : w9.cell? ⟨m, 7, none⟩ = some (.bool s2.set) := cell_at (i := 7) hmb
          have g1 : w9.frozen? ⟨m, 1, none⟩ = false := frozen_at (i := 1) hmb
          have g3 : w9.frozen? ⟨m, 3, none⟩ = false := frozen_at (i := 3) hmb
          have g7 : w9.frozen? ⟨m, 7, none⟩ = false := frozen_at (i := 7) hmb
          have lm9 := lt_at hmb
          have HMB := Lib.hid hmb; have HA1 := Lib.hid a1; have HG := Lib.hid hg
          have hBw9 := hr9.size
          have HSK := Lib.hid (fun (w' : World) (hb : Below w9.heap.size w9 w') => (show ((w'.cell? ⟨m, 0, none⟩ = some (.slice (some ⟨gw, 0, none⟩) ws.length cap) ∧ w'.cell? ⟨m, 1, none⟩ = some (.int .i64 (s2.i : Int)) ∧ w'.cell? ⟨gw, s2.i * 3 + 1, none⟩ = some (.string ⟨x.text.toArray⟩)) ∧ m < w'.heap.size ∧ gw < w'.heap.size) from by
            have h2 := (hb.block _ (lt_at HMB.out)).trans HMB.out
            exact ⟨⟨cell_at (i := 0) h2, cell_at (i := 1) h2, (hb.cell (p := ⟨gw, s2.i * 3 + 1, none⟩) HG.out).trans HA1.out⟩, lt_at h2, Nat.lt_of_lt_of_le HG.out hb.size⟩))
          clear hr9 hf9 hv hg hi a0 a1 a2 hmb HRD HFR HP7 HP9 HBL b2 b7 lm hbk1 hbf1
          cases C with
          | true =>
            have hc := HC.out.symm
            rw [Bool.and_eq_true, Bool.not_eq_true'] at hc
            obtain ⟨h9, hst⟩ := hc
            have hk9 : x.kind = 9 := by rw [HX.out] at h9; exact Sp.isW_kind h9
            have hR := HR3.out
            rw [if_pos ⟨hk9, by unfold Sp.RdS.seen; rw [hst]; rfl⟩] at hR
            have HR4 := Lib.hid hR; have HK := Lib.hid (show x.kind ≠ 10 by omega)
            clear hR HR3 h9 hst hk9
            go_upto_region 2 with fail
            refine wp_region_planU (fun w' : World => ((w'.cell? ⟨m, 0, none⟩ = some (.slice (some ⟨gw, 0, none⟩) ws.length cap) ∧ w'.cell? ⟨m, 1, none⟩ = some (.int .i64 (s2.i : Int)) ∧ w'.cell? ⟨gw, s2.i * 3 + 1, none⟩ = some (.string ⟨x.text.toArray⟩)) ∧ m < w'.heap.size ∧ gw < w'.heap.size)) [16, 17, 18, 19] (.take 0 (.free 1 (.take 2 (.take 3 (.take 4 (.take 5 (.take 6 (.take 7 (.take 8 (.take 9 (.take 10 (.take 11 (.take 12 (.take 13 (.take 14 (.take 15 (.one 16 (.one 17 (.one 18 (.one 19 (.done))))))))))))))))))))) (by kernel_rfl) (by kernel_rfl) (fun _ _ _ _ h => h) ?_
            have hSw := HSK.out _ (below_drewN (Below.refl _ w9) 1)
            refine wpPlanU_takeD (v := ?va1) rfl rfl hSw (by rfl) ?ya1 ?_
            case ya1 => (intro w hSx; (try dsimp only at hSx); go_simp; first | done | with_reducible rfl | rfl)
            (try simp only [Act.put, List.setIfInBounds_toArray, List.set_cons_zero, List.set_cons_succ])
            refine wpPlanU_free (v := ?va2) rfl (by rfl) ?ya2 ?_
            case ya2 => (intro w _; go_simp; first | done | with_reducible rfl | rfl)
            (try simp only [Act.put, List.setIfInBounds_toArray, List.set_cons_zero, List.set_cons_succ])
            refine wpPlanU_takeD (v := ?va3) rfl rfl hSw (by rfl) ?ya3 ?_
            case ya3 => (intro w hSx; (try dsimp only at hSx); go_simp; first | done | with_reducible rfl | rfl)
            (try simp only [Act.put, List.setIfInBounds_toArray, List.set_cons_zero, List.set_cons_succ])
            refine wpPlanU_takeD (v := ?va4) rfl rfl hSw (by rfl) ?ya4 ?_
            case ya4 => (intro w hSx; (try dsimp only at hSx); go_simp; first | done | with_reducible rfl | rfl)
            (try simp only [Act.put, List.setIfInBounds_toArray, List.set_cons_zero, List.set_cons_succ])
            refine wpPlanU_takeD (v := ?va5) rfl rfl hSw (by rfl) ?ya5 ?_
            case ya5 => (intro w hSx; (try dsimp only at hSx); go_simp; first | done | with_reducible rfl | rfl)
            (try simp only [Act.put, List.setIfInBounds_toArray, List.set_cons_zero, List.set_cons_succ])
            refine wpPlanU_takeD (v := ?va6) rfl rfl hSw (by rfl) ?ya6 ?_
            case ya6 => (intro w hSx; (try dsimp only at hSx); go_simp; first | done | with_reducible rfl | rfl)
            (try simp only [Act.put, List.setIfInBounds_toArray, List.set_cons_zero, List.set_cons_succ])
            refine wpPlanU_takeD (v := ?va7) rfl rfl hSw (by rfl) ?ya7 ?_
            case ya7 => (intro w hSx; (try dsimp only at hSx); go_simp; first | done | with_reducible rfl | rfl)
            (try simp only [Act.put, List.setIfInBounds_toArray, List.set_cons_zero, List.set_cons_succ])
            refine wpPlanU_takeD (v := ?va8) rfl rfl hSw (by rfl) ?ya8 ?_
            case ya8 => (intro w hSx; (try dsimp only at hSx); go_simp; first | done | with_reducible rfl | rfl)
            (try simp only [Act.put, List.setIfInBounds_toArray, List.set_cons_zero, List.set_cons_succ])
            refine wpPlanU_takeD (v := ?va9) rfl rfl hSw (by rfl) ?ya9 ?_
            case ya9 => (intro w hSx; (try dsimp only at hSx); go_simp; first | done | with_reducible rfl | rfl)
            (try simp only [Act.put, List.setIfInBounds_toArray, List.set_cons_zero, List.set_cons_succ])
            refine wpPlanU_takeD (v := ?va10) rfl rfl hSw (by rfl) ?ya10 ?_
            case ya10 => (intro w hSx; (try dsimp only at hSx); go_simp; first | done | with_reducible rfl | rfl)
            (try simp only [Act.put, List.setIfInBounds_toArray, List.set_cons_zero, List.set_cons_succ])
            refine wpPlanU_takeD (v := ?va11) rfl rfl hSw (by rfl) ?ya11 ?_
            case ya11 => (intro w hSx; (try dsimp only at hSx); go_simp; first | done | with_reducible rfl | rfl)
            (try simp only [Act.put, List.setIfInBounds_toArray, List.set_cons_zero, List.set_cons_succ])
            refine wpPlanU_takeD (v := ?va12) rfl rfl hSw (by rfl) ?ya12 ?_
            case ya12 => (intro w hSx; (try dsimp only at hSx); go_simp; first | done | with_reducible rfl | rfl)
            (try simp only [Act.put, List.setIfInBounds_toArray, List.set_cons_zero, List.set_cons_succ])
            refine wpPlanU_takeD (v := ?va13) rfl rfl hSw (by rfl) ?ya13 ?_
            case ya13 => (intro w hSx; (try dsimp only at hSx); go_simp; first | done | with_reducible rfl | rfl)
            (try simp only [Act.put, List.setIfInBounds_toArray, List.set_cons_zero, List.set_cons_succ])
            refine wpPlanU_takeD (v := ?va14) rfl rfl hSw (by rfl) ?ya14 ?_
            case ya14 => (intro w hSx; (try dsimp only at hSx); go_simp; first | done | with_reducible rfl | rfl)
            (try simp only [Act.put, List.setIfInBounds_toArray, List.set_cons_zero, List.set_cons_succ])
            refine wpPlanU_takeD (v := ?va15) rfl rfl hSw (by rfl) ?ya15 ?_
            case ya15 => (intro w hSx; (try dsimp only at hSx); go_simp; first | done | with_reducible rfl | rfl)
            (try simp only [Act.put, List.setIfInBounds_toArray, List.set_cons_zero, List.set_cons_succ])
            refine wpPlanU_takeD (v := ?va16) rfl rfl hSw (by rfl) ?ya16 ?_
            case ya16 => (intro w hSx; (try dsimp only at hSx); go_simp; first | done | with_reducible rfl | rfl)
            (try simp only [Act.put, List.setIfInBounds_toArray, List.set_cons_zero, List.set_cons_succ])
            refine wpPlanU_run rfl (by rfl) (fun K' hK => ?_)
            go_simp
            refine hK _ _ (.inl rfl) ?_
            clear hK K' hSw
            (try simp only [Act.put, List.setIfInBounds_toArray, List.set_cons_zero, List.set_cons_succ])
            refine wpPlanU_run rfl (by rfl) (fun K' hK => ?_)
            go_simp
            refine hK _ _ (.inl rfl) ?_
            clear hK K'
            (try simp only [Act.put, List.setIfInBounds_toArray, List.set_cons_zero, List.set_cons_succ])
            refine wpPlanU_run rfl (by rfl) (fun K' hK => ?_)
            go_simp
            refine hK _ _ (.inl rfl) ?_
            clear hK K'
            (try simp only [Act.put, List.setIfInBounds_toArray, List.set_cons_zero, List.set_cons_succ])
            refine wpPlanU_run rfl (by rfl) (fun K' hK => ?_)
            go_simp
            refine hK _ _ (.inl rfl) ?_
            clear hK K'
            (try simp only [Act.put, List.setIfInBounds_toArray, List.set_cons_zero, List.set_cons_succ])
            refine wpPlanU_done ?_
            have hbx := heap_setCell_at (i := 7) (v := .bool true) (heap_setCell_at (i := 3) (v := .string ⟨x.text.toArray⟩) HRD9.out.block)
            have k1 := (ReaderAt.box1 HRD9.out.block HRD9.out.behind 3 (.string ⟨x.text.toArray⟩)).trans (ReaderAt.box1 (heap_setCell_at HRD9.out.block) HRD9.out.behind 7 (.bool true))
            have h10 : ReaderAt B ((w9.setCell ⟨m, 3, none⟩ (.string ⟨x.text.toArray⟩)).setCell ⟨m, 7, none⟩ (.bool true)) m ws { s2 with pro := x.text, set := true } { v with dv := dv } :=
              HRD9.out.box k1.2 (by rw [hbx]; rfl) rfl rfl HRD9.out.left HRD9.out.ends
            have H10 := Lib.hid (h10.below (below_drewN (Below.refl _ _) 1))
            have HF10 := Lib.hid (HFR9.out.trans (k1.rd.trans (RdFr.below (below_drewN (Below.refl _ _) 1) h10.size)))
            clear hbx k1 h10
            obtain ⟨w10, hw10⟩ : ∃ w10 : World, w10 = ((w9.setCell ⟨m, 3, none⟩ (.string ⟨x.text.toArray⟩)).setCell ⟨m, 7, none⟩ (.bool true)).drew := ⟨_, rfl⟩
            replace H10 : Hid (ReaderAt B w10 m ws { s2 with pro := x.text, set := true } { v with dv := dv }) := by rw [hw10]; exact H10
            replace HF10 : Hid (RdFr B W w10) := by rw [hw10]; exact HF10
            rw [← hw10]
            clear hw10 c1 c3 c7 g1 g3 g7 lm9 HSK
            have hmb := H10.out.block
            unfold rdCells at hmb
            have c1 : w10.cell? ⟨m, 1, none⟩ = some (.int .i64 (s2.i : Int)) := cell_at (i := 1) hmb
            have g1 : w10.frozen? ⟨m, 1, none⟩ = false := frozen_at (i := 1) hmb
            have lm10 := lt_at hmb
            obtain ⟨k1, k2⟩ := H10.out.step HX.out HK.out
            have HK1 := Lib.hid k1; have HK2 := Lib.hid (HF10.out.trans k2.rd)
            clear hmb k1 k2
            go_wp2_with fail
            go_roundg l.length
            case measure => rw [HX.out]; simp
            case rel =>
              refine ⟨_, dv, HK1.out, HK2.out, HRU.out, ?_, ?_, ?_, .inr ⟨HB.out, ?_, f, ?_, ?_⟩⟩
              · have := HIL.out; unfold Sp.RdS.next; simp only; omega
              · have := HDL.out; unfold Sp.RdS.next; simp only; omega
              · intro h; exact absurd (show true = false from h) (by decide)
              · unfold Sp.RdS.next; simp only; rw [HX.out]; rfl
              · unfold Sp.RdS.next; simp only; rw [HX.out]; exact HFL.out
              · unfold Sp.RdS.next Sp.RdS.seen; simp only; rw [HX.out]; exact HR4.out
          | false =>
            have hc := HC.out
            have hn9 : ¬ (x.kind = 9 ∧ s2.seen = none) := by
              rintro ⟨h1, h2⟩
              have h3 : Sp.isW 9 [] s2.ws = true := by rw [HX.out, Sp.isW_any, beq_iff_eq]; exact h1
              rw [h3] at hc
              unfold Sp.RdS.seen at h2
              cases hs : s2.set with
              | true => rw [hs, if_pos rfl] at h2; cases h2
              | false => rw [hs] at hc; exact absurd hc (by decide)
            have hR := HR3.out
            rw [if_neg hn9] at hR
            have HR4 := Lib.hid hR
            have HP5 := Lib.hid (fun (w' : World) (hb : Below w9.heap.size w9 w') => reader_is 5 [] (HRD9.out.below hb))
            have HMU := Lib.hid (fun (b : Bool) (w' : World) (hb : Below w9.heap.size w9 w') => reader_must b (HRD9.out.below hb) HB.out)
            clear hc hn9 hR HR3
            cases h5 : Sp.isW 5 [] s2.ws with
            | false =>
              have hR := HR4.out
              rw [if_neg (by rintro ⟨h1, _⟩; rw [HX.out, Sp.isW_any, beq_eq_false_iff_ne] at h5; exact h5 h1), ← HX.out] at hR
              have HR5 := Lib.hid hR
              simp only [h5] at HP5
              clear hR HR4 h5
              go_upto_region 4 with fail
              refine wp_region_plan (fun w' : World => ((w'.cell? ⟨m, 0, none⟩ = some (.slice (some ⟨gw, 0, none⟩) ws.length cap) ∧ w'.cell? ⟨m, 1, none⟩ = some (.int .i64 (s2.i : Int)) ∧ w'.cell? ⟨gw, s2.i * 3 + 1, none⟩ = some (.string ⟨x.text.toArray⟩)) ∧ m < w'.heap.size ∧ gw < w'.heap.size)) [18] (.take 0 (.take 1 (.one 2 (.take 3 (.take 4 (.take 5 (.take 6 (.take 7 (.take 8 (.take 9 (.take 10 (.take 11 (.take 12 (.take 13 (.take 14 (.take 15 (.take 16 (.take 17 (.one 18 (.done)))))))))))))))))))) (by kernel_rfl) (by kernel_rfl) (fun _ _ _ _ h => h) ?_
              have hSw := HSK.out _ (below_drewN (Below.refl _ w9) 1)
              refine wpPlan_takeD (v := ?vb17) rfl rfl hSw (by rfl) ?yb17 ?_
              case yb17 => (intro w hSx; (try dsimp only at hSx); go_simp; first | done | with_reducible rfl | rfl)
              (try simp only [Act.put, List.setIfInBounds_toArray, List.set_cons_zero, List.set_cons_succ])
              refine wpPlan_takeD (v := ?vb18) rfl rfl hSw (by rfl) ?yb18 ?_
              case yb18 => (intro w hSx; (try dsimp only at hSx); go_simp; first | done | with_reducible rfl | rfl)
              (try simp only [Act.put, List.setIfInBounds_toArray, List.set_cons_zero, List.set_cons_succ])
              refine wpPlan_run rfl (by rfl) (fun K' hK => ?_)
              (go_simp; go_at_call 19; refine (HP5.out _ (below_drewN (Below.refl _ w9) 1)).mono ?_; rintro e w4 ⟨rfl, n4, rfl⟩)
              refine hK _ _ (.inr ?_) ?_
              · exact HSK.out _ (below_drewN (below_drewN (Below.refl _ w9) 1) n4)
              clear hK K' hSw
              have hSw := HSK.out _ (below_drewN (below_drewN (Below.refl _ w9) 1) n4)
              (try simp only [Act.put, List.setIfInBounds_toArray, List.set_cons_zero, List.set_cons_succ])
              refine wpPlan_takeD (v := ?vb19) rfl rfl hSw (by rfl) ?yb19 ?_
              case yb19 => (intro w hSx; (try dsimp only at hSx); go_simp; first | done | with_reducible rfl | rfl)
              (try simp only [Act.put, List.setIfInBounds_toArray, List.set_cons_zero, List.set_cons_succ])
              refine wpPlan_noneD rfl rfl hSw (by rfl) ?_
              (try simp only [Act.put, List.setIfInBounds_toArray, List.set_cons_zero, List.set_cons_succ])
              refine wpPlan_noneD rfl rfl hSw (by rfl) ?_
              (try simp only [Act.put, List.setIfInBounds_toArray, List.set_cons_zero, List.set_cons_succ])
              refine wpPlan_noneD rfl rfl hSw (by rfl) ?_
              (try simp only [Act.put, List.setIfInBounds_toArray, List.set_cons_zero, List.set_cons_succ])
              refine wpPlan_noneD rfl rfl hSw (by rfl) ?_
              (try simp only [Act.put, List.setIfInBounds_toArray, List.set_cons_zero, List.set_cons_succ])
              refine wpPlan_noneD rfl rfl hSw (by rfl) ?_
              (try simp only [Act.put, List.setIfInBounds_toArray, List.set_cons_zero, List.set_cons_succ])
              refine wpPlan_noneD rfl rfl hSw (by rfl) ?_
              (try simp only [Act.put, List.setIfInBounds_toArray, List.set_cons_zero, List.set_cons_succ])
              refine wpPlan_noneD rfl rfl hSw (by rfl) ?_
              (try simp only [Act.put, List.setIfInBounds_toArray, List.set_cons_zero, List.set_cons_succ])
              refine wpPlan_noneD rfl rfl hSw (by rfl) ?_
              (try simp only [Act.put, List.setIfInBounds_toArray, List.set_cons_zero, List.set_cons_succ])
              refine wpPlan_noneD rfl rfl hSw (by rfl) ?_
              (try simp only [Act.put, List.setIfInBounds_toArray, List.set_cons_zero, List.set_cons_succ])
              refine wpPlan_noneD rfl rfl hSw (by rfl) ?_
              (try simp only [Act.put, List.setIfInBounds_toArray, List.set_cons_zero, List.set_cons_succ])
              refine wpPlan_noneD rfl rfl hSw (by rfl) ?_
              (try simp only [Act.put, List.setIfInBounds_toArray, List.set_cons_zero, List.set_cons_succ])
              refine wpPlan_noneD rfl rfl hSw (by rfl) ?_
              (try simp only [Act.put, List.setIfInBounds_toArray, List.set_cons_zero, List.set_cons_succ])
              refine wpPlan_noneD rfl rfl hSw (by rfl) ?_
              (try simp only [Act.put, List.setIfInBounds_toArray, List.set_cons_zero, List.set_cons_succ])
              refine wpPlan_takeD (v := ?vb20) rfl rfl hSw (by rfl) ?yb20 ?_
              case yb20 => (intro w hSx; (try dsimp only at hSx); go_simp; first | done | with_reducible rfl | rfl)
              (try simp only [Act.put, List.setIfInBounds_toArray, List.set_cons_zero, List.set_cons_succ])
              refine wpPlan_run rfl (by rfl) (fun K' hK => ?_)
              (go_simp; go_at_call 33; refine (HMU.out false _ (below_drewN (Below.refl _ w9) (1 + n4))).mono ?_; rintro e w5 ⟨rfl, h5, hf5⟩; have H5 := Lib.hid h5; have HF5 := Lib.hid ((BoxFr.below (below_drewN (Below.refl _ w9) (1 + n4)) hBw9).trans hf5); clear h5 hf5)
              refine hK _ _ (.inl rfl) ?_
              clear hK K' hSw
              (try simp only [Act.put, List.setIfInBounds_toArray, List.set_cons_zero, List.set_cons_succ])
              refine wpPlan_done ?_
              clear HSK HP5 HMU
              go_wp2_with fail
              go_roundg 0
              case measure => rw [HX.out]; simp
              case rel => exact ⟨_, dv, H5.out, HFR9.out.trans HF5.out.rd, HRU.out, HIL.out, HDL.out, HSP.out, .inl ⟨rfl, rfl, HR5.out.symm⟩⟩
            | true =>
              have hk5 : x.kind = 5 := by rw [HX.out] at h5; exact Sp.isW_kind h5
              have HK := Lib.hid (show x.kind ≠ 10 by omega)
              simp only [h5] at HP5
              have hnn := Sp.rdKind_nonneg x.text
              obtain ⟨K0, hK0⟩ : ∃ K0, K0 = Sp.rdKind x.text := ⟨_, rfl⟩
              have HKD := Lib.hid (fun (w : World) => reader_kind x.text w)
              have hR := HR4.out
              rw [← hK0] at hnn hR HKD
              have HK0 := Lib.hid hK0
              clear hK0
              by_cases hk0 : K0 = 0
              · rw [if_neg (by rintro ⟨_, h2⟩; exact h2 hk0), ← HX.out] at hR
                have HR5 := Lib.hid hR
                subst hk0
                clear hR HR4 h5 hnn
                go_upto_region 4 with fail
                refine wp_region_plan (fun w' : World => ((w'.cell? ⟨m, 0, none⟩ = some (.slice (some ⟨gw, 0, none⟩) ws.length cap) ∧ w'.cell? ⟨m, 1, none⟩ = some (.int .i64 (s2.i : Int)) ∧ w'.cell? ⟨gw, s2.i * 3 + 1, none⟩ = some (.string ⟨x.text.toArray⟩)) ∧ m < w'.heap.size ∧ gw < w'.heap.size)) [18] (.take 0 (.take 1 (.one 2 (.take 3 (.take 4 (.take 5 (.take 6 (.take 7 (.take 8 (.take 9 (.take 10 (.take 11 (.take 12 (.take 13 (.take 14 (.one 15 (.take 16 (.take 17 (.one 18 (.done)))))))))))))))))))) (by kernel_rfl) (by kernel_rfl) (fun _ _ _ _ h => h) ?_
                have hSw := HSK.out _ (below_drewN (Below.refl _ w9) 1)
                refine wpPlan_takeD (v := ?vc21) rfl rfl hSw (by rfl) ?yc21 ?_
                case yc21 => (intro w hSx; (try dsimp only at hSx); go_simp; first | done | with_reducible rfl | rfl)
                (try simp only [Act.put, List.setIfInBounds_toArray, List.set_cons_zero, List.set_cons_succ])
                refine wpPlan_takeD (v := ?vc22) rfl rfl hSw (by rfl) ?yc22 ?_
                case yc22 => (intro w hSx; (try dsimp only at hSx); go_simp; first | done | with_reducible rfl | rfl)
                (try simp only [Act.put, List.setIfInBounds_toArray, List.set_cons_zero, List.set_cons_succ])
                refine wpPlan_run rfl (by rfl) (fun K' hK => ?_)
                (go_simp; go_at_call 19; refine (HP5.out _ (below_drewN (Below.refl _ w9) 1)).mono ?_; rintro e w4 ⟨rfl, n4, rfl⟩)
                refine hK _ _ (.inr ?_) ?_
                · exact HSK.out _ (below_drewN (below_drewN (Below.refl _ w9) 1) n4)
                clear hK K' hSw
                have hSw := HSK.out _ (below_drewN (below_drewN (Below.refl _ w9) 1) n4)
                (try simp only [Act.put, List.setIfInBounds_toArray, List.set_cons_zero, List.set_cons_succ])
                refine wpPlan_takeD (v := ?vc23) rfl rfl hSw (by rfl) ?yc23 ?_
                case yc23 => (intro w hSx; (try dsimp only at hSx); go_simp; first | done | with_reducible rfl | rfl)
                (try simp only [Act.put, List.setIfInBounds_toArray, List.set_cons_zero, List.set_cons_succ])
                refine wpPlan_takeD (v := ?vc24) rfl rfl hSw (by rfl) ?yc24 ?_
                case yc24 => (intro w hSx; (try dsimp only at hSx); go_simp; first | done | with_reducible rfl | rfl)
                (try simp only [Act.put, List.setIfInBounds_toArray, List.set_cons_zero, List.set_cons_succ])
                refine wpPlan_takeD (v := ?vc25) rfl rfl hSw (by rfl) ?yc25 ?_
                case yc25 => (intro w hSx; (try dsimp only at hSx); go_simp; first | done | with_reducible rfl | rfl)
                (try simp only [Act.put, List.setIfInBounds_toArray, List.set_cons_zero, List.set_cons_succ])
                refine wpPlan_takeD (v := ?vc26) rfl rfl hSw (by rfl) ?yc26 ?_
                case yc26 => (intro w hSx; (try dsimp only at hSx); go_simp; first | done | with_reducible rfl | rfl)
                (try simp only [Act.put, List.setIfInBounds_toArray, List.set_cons_zero, List.set_cons_succ])
                refine wpPlan_takeD (v := ?vc27) rfl rfl hSw (by rfl) ?yc27 ?_
                case yc27 => (intro w hSx; (try dsimp only at hSx); go_simp; first | done | with_reducible rfl | rfl)
                (try simp only [Act.put, List.setIfInBounds_toArray, List.set_cons_zero, List.set_cons_succ])
                refine wpPlan_takeD (v := ?vc28) rfl rfl hSw (by rfl) ?yc28 ?_
                case yc28 => (intro w hSx; (try dsimp only at hSx); go_simp; first | done | with_reducible rfl | rfl)
                (try simp only [Act.put, List.setIfInBounds_toArray, List.set_cons_zero, List.set_cons_succ])
                refine wpPlan_takeD (v := ?vc29) rfl rfl hSw (by rfl) ?yc29 ?_
                case yc29 => (intro w hSx; (try dsimp only at hSx); go_simp; first | done | with_reducible rfl | rfl)
                (try simp only [Act.put, List.setIfInBounds_toArray, List.set_cons_zero, List.set_cons_succ])
                refine wpPlan_takeD (v := ?vc30) rfl rfl hSw (by rfl) ?yc30 ?_
                case yc30 => (intro w hSx; (try dsimp only at hSx); go_simp; first | done | with_reducible rfl | rfl)
                (try simp only [Act.put, List.setIfInBounds_toArray, List.set_cons_zero, List.set_cons_succ])
                refine wpPlan_takeD (v := ?vc31) rfl rfl hSw (by rfl) ?yc31 ?_
                case yc31 => (intro w hSx; (try dsimp only at hSx); go_simp; first | done | with_reducible rfl | rfl)
                (try simp only [Act.put, List.setIfInBounds_toArray, List.set_cons_zero, List.set_cons_succ])
                refine wpPlan_takeD (v := ?vc32) rfl rfl hSw (by rfl) ?yc32 ?_
                case yc32 => (intro w hSx; (try dsimp only at hSx); go_simp; first | done | with_reducible rfl | rfl)
                (try simp only [Act.put, List.setIfInBounds_toArray, List.set_cons_zero, List.set_cons_succ])
                refine wpPlan_takeD (v := ?vc33) rfl rfl hSw (by rfl) ?yc33 ?_
                case yc33 => (intro w hSx; (try dsimp only at hSx); go_simp; first | done | with_reducible rfl | rfl)
                (try simp only [Act.put, List.setIfInBounds_toArray, List.set_cons_zero, List.set_cons_succ])
                refine wpPlan_takeD (v := ?vc34) rfl rfl hSw (by rfl) ?yc34 ?_
                case yc34 => (intro w hSx; (try dsimp only at hSx); go_simp; first | done | with_reducible rfl | rfl)
                (try simp only [Act.put, List.setIfInBounds_toArray, List.set_cons_zero, List.set_cons_succ])
                refine wpPlan_run rfl (by rfl) (fun K' hK => ?_)
                (go_simp; go_at_call 34; refine (HKD.out _).mono ?_; rintro e w6 ⟨rfl, hb6'⟩; have hb6 : Below w9.heap.size w9 w6 := (below_drewN (Below.refl _ w9) (1 + n4)).trans (hb6'.mono (Nat.le_refl _)); clear hb6')
                refine hK _ _ (.inr ?_) ?_
                · exact HSK.out _ hb6
                clear hK K' hSw
                have hSw := HSK.out _ hb6
                (try simp only [Act.put, List.setIfInBounds_toArray, List.set_cons_zero, List.set_cons_succ])
                refine wpPlan_takeD (v := ?vc35) rfl rfl hSw (by rfl) ?yc35 ?_
                case yc35 => (intro w hSx; (try dsimp only at hSx); go_simp; first | done | with_reducible rfl | rfl)
                (try simp only [Act.put, List.setIfInBounds_toArray, List.set_cons_zero, List.set_cons_succ])
                refine wpPlan_takeD (v := ?vc36) rfl rfl hSw (by rfl) ?yc36 ?_
                case yc36 => (intro w hSx; (try dsimp only at hSx); go_simp; first | done | with_reducible rfl | rfl)
                (try simp only [Act.put, List.setIfInBounds_toArray, List.set_cons_zero, List.set_cons_succ])
                refine wpPlan_run rfl (by rfl) (fun K' hK => ?_)
                (go_simp; go_at_call 33; refine (HMU.out false _ hb6).mono ?_; rintro e w5 ⟨rfl, h5, hf5⟩; have H5 := Lib.hid h5; have HF5 := Lib.hid ((BoxFr.below hb6 hBw9).trans hf5); clear h5 hf5)
                refine hK _ _ (.inl rfl) ?_
                clear hK K' hSw
                (try simp only [Act.put, List.setIfInBounds_toArray, List.set_cons_zero, List.set_cons_succ])
                refine wpPlan_done ?_
                clear HSK HP5 HMU
                go_wp2_with fail
                go_roundg 0
                case measure => rw [HX.out]; simp
                case rel => exact ⟨_, dv, H5.out, HFR9.out.trans HF5.out.rd, HRU.out, HIL.out, HDL.out, HSP.out, .inl ⟨rfl, rfl, HR5.out.symm⟩⟩
              · rw [if_pos ⟨hk5, hk0⟩] at hR
                have HR5 := Lib.hid hR
                have hpos : 0 < K0 := by omega
                clear hR HR4 h5 hnn hk0
                go_upto_region 4 with fail
                refine wp_region_plan (fun w' : World => ((w'.cell? ⟨m, 0, none⟩ = some (.slice (some ⟨gw, 0, none⟩) ws.length cap) ∧ w'.cell? ⟨m, 1, none⟩ = some (.int .i64 (s2.i : Int)) ∧ w'.cell? ⟨gw, s2.i * 3 + 1, none⟩ = some (.string ⟨x.text.toArray⟩)) ∧ m < w'.heap.size ∧ gw < w'.heap.size)) [18] (.take 0 (.take 1 (.one 2 (.take 3 (.take 4 (.take 5 (.take 6 (.take 7 (.take 8 (.take 9 (.take 10 (.take 11 (.take 12 (.take 13 (.take 14 (.one 15 (.take 16 (.take 17 (.one 18 (.done)))))))))))))))))))) (by kernel_rfl) (by kernel_rfl) (fun _ _ _ _ h => h) ?_
                have hSw := HSK.out _ (below_drewN (Below.refl _ w9) 1)
                refine wpPlan_takeD (v := ?vd37) rfl rfl hSw (by rfl) ?yd37 ?_
                case yd37 => (intro w hSx; (try dsimp only at hSx); go_simp; first | done | with_reducible rfl | rfl)
                (try simp only [Act.put, List.setIfInBounds_toArray, List.set_cons_zero, List.set_cons_succ])
                refine wpPlan_takeD (v := ?vd38) rfl rfl hSw (by rfl) ?yd38 ?_
                case yd38 => (intro w hSx; (try dsimp only at hSx); go_simp; first | done | with_reducible rfl | rfl)
                (try simp only [Act.put, List.setIfInBounds_toArray, List.set_cons_zero, List.set_cons_succ])
                refine wpPlan_run rfl (by rfl) (fun K' hK => ?_)
                (go_simp; go_at_call 19; refine (HP5.out _ (below_drewN (Below.refl _ w9) 1)).mono ?_; rintro e w4 ⟨rfl, n4, rfl⟩)
                refine hK _ _ (.inr ?_) ?_
                · exact HSK.out _ (below_drewN (below_drewN (Below.refl _ w9) 1) n4)
                clear hK K' hSw
                have hSw := HSK.out _ (below_drewN (below_drewN (Below.refl _ w9) 1) n4)
                (try simp only [Act.put, List.setIfInBounds_toArray, List.set_cons_zero, List.set_cons_succ])
                refine wpPlan_takeD (v := ?vd39) rfl rfl hSw (by rfl) ?yd39 ?_
                case yd39 => (intro w hSx; (try dsimp only at hSx); go_simp; first | done | with_reducible rfl | rfl)
                (try simp only [Act.put, List.setIfInBounds_toArray, List.set_cons_zero, List.set_cons_succ])
                refine wpPlan_takeD (v := ?vd40) rfl rfl hSw (by rfl) ?yd40 ?_
                case yd40 => (intro w hSx; (try dsimp only at hSx); go_simp; first | done | with_reducible rfl | rfl)
                (try simp only [Act.put, List.setIfInBounds_toArray, List.set_cons_zero, List.set_cons_succ])
                refine wpPlan_takeD (v := ?vd41) rfl rfl hSw (by rfl) ?yd41 ?_
                case yd41 => (intro w hSx; (try dsimp only at hSx); go_simp; first | done | with_reducible rfl | rfl)
                (try simp only [Act.put, List.setIfInBounds_toArray, List.set_cons_zero, List.set_cons_succ])
                refine wpPlan_takeD (v := ?vd42) rfl rfl hSw (by rfl) ?yd42 ?_
                case yd42 => (intro w hSx; (try dsimp only at hSx); go_simp; first | done | with_reducible rfl | rfl)
                (try simp only [Act.put, List.setIfInBounds_toArray, List.set_cons_zero, List.set_cons_succ])
                refine wpPlan_takeD (v := ?vd43) rfl rfl hSw (by rfl) ?yd43 ?_
                case yd43 => (intro w hSx; (try dsimp only at hSx); go_simp; first | done | with_reducible rfl | rfl)
                (try simp only [Act.put, List.setIfInBounds_toArray, List.set_cons_zero, List.set_cons_succ])
                refine wpPlan_takeD (v := ?vd44) rfl rfl hSw (by rfl) ?yd44 ?_
                case yd44 => (intro w hSx; (try dsimp only at hSx); go_simp; first | done | with_reducible rfl | rfl)
                (try simp only [Act.put, List.setIfInBounds_toArray, List.set_cons_zero, List.set_cons_succ])
                refine wpPlan_takeD (v := ?vd45) rfl rfl hSw (by rfl) ?yd45 ?_
                case yd45 => (intro w hSx; (try dsimp only at hSx); go_simp; first | done | with_reducible rfl | rfl)
                (try simp only [Act.put, List.setIfInBounds_toArray, List.set_cons_zero, List.set_cons_succ])
                refine wpPlan_takeD (v := ?vd46) rfl rfl hSw (by rfl) ?yd46 ?_
                case yd46 => (intro w hSx; (try dsimp only at hSx); go_simp; first | done | with_reducible rfl | rfl)
                (try simp only [Act.put, List.setIfInBounds_toArray, List.set_cons_zero, List.set_cons_succ])
                refine wpPlan_takeD (v := ?vd47) rfl rfl hSw (by rfl) ?yd47 ?_
                case yd47 => (intro w hSx; (try dsimp only at hSx); go_simp; first | done | with_reducible rfl | rfl)
                (try simp only [Act.put, List.setIfInBounds_toArray, List.set_cons_zero, List.set_cons_succ])
                refine wpPlan_takeD (v := ?vd48) rfl rfl hSw (by rfl) ?yd48 ?_
                case yd48 => (intro w hSx; (try dsimp only at hSx); go_simp; first | done | with_reducible rfl | rfl)
                (try simp only [Act.put, List.setIfInBounds_toArray, List.set_cons_zero, List.set_cons_succ])
                refine wpPlan_takeD (v := ?vd49) rfl rfl hSw (by rfl) ?yd49 ?_
                case yd49 => (intro w hSx; (try dsimp only at hSx); go_simp; first | done | with_reducible rfl | rfl)
                (try simp only [Act.put, List.setIfInBounds_toArray, List.set_cons_zero, List.set_cons_succ])
                refine wpPlan_takeD (v := ?vd50) rfl rfl hSw (by rfl) ?yd50 ?_
                case yd50 => (intro w hSx; (try dsimp only at hSx); go_simp; first | done | with_reducible rfl | rfl)
                (try simp only [Act.put, List.setIfInBounds_toArray, List.set_cons_zero, List.set_cons_succ])
                refine wpPlan_run rfl (by rfl) (fun K' hK => ?_)
                (go_simp; go_at_call 34; refine (HKD.out _).mono ?_; rintro e w6 ⟨rfl, hb6'⟩; have hb6 : Below w9.heap.size w9 w6 := (below_drewN (Below.refl _ w9) (1 + n4)).trans (hb6'.mono (Nat.le_refl _)); clear hb6')
                refine hK _ _ (.inr ?_) ?_
                · exact HSK.out _ hb6
                clear hK K' hSw
                have hSw := HSK.out _ hb6
                (try simp only [Act.put, List.setIfInBounds_toArray, List.set_cons_zero, List.set_cons_succ])
                refine wpPlan_takeD (v := ?vd51) rfl rfl hSw (by rfl) ?yd51 ?_
                case yd51 => (intro w hSx; (try dsimp only at hSx); go_simp; first | done | with_reducible rfl | rfl)
                (try simp only [Act.put, List.setIfInBounds_toArray, List.set_cons_zero, List.set_cons_succ])
                refine wpPlan_takeD (v := ?vd52) rfl rfl hSw (by rfl) ?yd52 ?_
                case yd52 => (intro w hSx; (try dsimp only at hSx); go_simp; first | done | with_reducible rfl | rfl)
                (try simp only [Act.put, List.setIfInBounds_toArray, List.set_cons_zero, List.set_cons_succ])
                refine wpPlan_run rfl (by rfl) (fun K' hK => ?_)
                (go_simp; go_at_call 33; refine (HMU.out true _ hb6).mono ?_; rintro e w5 ⟨rfl, h5, hf5⟩; have H5 := Lib.hid h5; have HF5 := Lib.hid ((BoxFr.below hb6 hBw9).trans hf5); clear h5 hf5)
                refine hK _ _ (.inl rfl) ?_
                clear hK K' hSw
                (try simp only [Act.put, List.setIfInBounds_toArray, List.set_cons_zero, List.set_cons_succ])
                refine wpPlan_done ?_
                have HDC := Lib.hid (reader_decl H5.out rfl HDL.out HGOOD.out HX.out HK.out)
                clear HSK HP5 HMU
                go_wp2_with fail
                refine HDC.out.mono ?_
                rintro e w7 ⟨j, ds, dv7, rfl, hij, hlj, hm7, hr7, hf7⟩
                rw [← HK0.out] at hm7 hr7
                have HJ := Lib.hid hij; have HLJ := Lib.hid hlj; have HM7 := Lib.hid hm7; have HR7 := Lib.hid hr7; have HF7 := Lib.hid ((HFR9.out.trans HF5.out.rd).trans hf7)
                clear hij hlj hm7 hr7 hf7 HDC
                obtain ⟨RD, hRD⟩ : ∃ RD, RD = Sp.readDecl K0 x.at_ l := ⟨_, rfl⟩
                rw [← hRD] at HM7 HR7 HR5
                cases RD with
                | bad r =>
                  have HR6 := Lib.hid (show RR = .bad r from HR5.out.symm)
                  clear hRD HR5
                  go_wp2_with fail
                  go_roundg 0
                  case measure => rw [HX.out]; simp
                  case rel => exact ⟨_, dv7, HR7.out, HF7.out, HRU.out, by have := HIL.out; have := HJ.out; simp only at *; omega, HLJ.out, HSP.out, .inl ⟨rfl, rfl, HR6.out⟩⟩
                | ok d r =>
                  have hle := (Sp.readDecl_le hRD.symm).1
                  have HR6 := Lib.hid (show Sp.readDecls f r s2.seen (s2.decls ++ [d]) = RR from HR5.out)
                  have HD7 := Lib.hid (show ds = s2.decls ++ [d] from HM7.out)
                  clear hRD HR5
                  go_wp2_with fail
                  go_roundg r.length
                  case measure => rw [HX.out]; simp; omega
                  case rel => exact ⟨_, dv7, HR7.out, HF7.out, HRU.out, by have := HIL.out; have := HJ.out; simp only at *; omega, HLJ.out, HSP.out, .inr ⟨rfl, rfl, f, by have := HFL.out; show r.length < f; omega, by show Sp.readDecls f r s2.seen ds = RR; rw [HD7.out]; exact HR6.out⟩⟩
end Go.Proofs.YtphdfbmmjkccgaaDoor
