/- Layer 8, the reference: an alternative. -/
import Derived.Test.YtphdfbmmjkccgaaDoorZ05
namespace Go.Proofs.YtphdfbmmjkccgaaDoor
open Go.RowKit

/-! ### An alternative -/
set_option maxRecDepth 100000 in
set_option maxHeartbeats 25600000 in
theorem ref7_mayAlt (a : Sp.Alt) (v : Value) (W : World) (hsl : SlAt W v 6 (a.parts.map partC)) (hs : smallAlt a) :
    Calls Tryd.prog 70 #[.agg (altC v a).toArray] W fun e w' => e = .returned (.bool (Sp.mayAlt a)) ∧ Below W.heap.size W w' := by
  obtain ⟨hs1, hs2, hs3⟩ := hs
  rw [Sp.mayAlt_ref]
  obtain ⟨ps, ⟨nm, lt, nu, pa⟩, pb⟩ := a
  simp only at hs1 hs2 hs3 hsl
  have HNO := Lib.hid (fun w => ref7_none ⟨nm, lt, nu, pa⟩ w)
  have HPR := Lib.hid (fun w => ref7_symbol ⟨nm, lt, nu, pa⟩ false true w hs3)
  generalize Sp.isNone ⟨nm, lt, nu, pa⟩ = qn at HNO
  generalize Sp.refSym ⟨nm, lt, nu, pa⟩ false true = qp at HPR
  generalize hR : ps.all Sp.mayPart = R
  obtain ⟨av, cap, rfl⟩ := hsl.form
  have HSL := Lib.hid hsl
  rw [List.length_map] at *
  generalize hnl : ps.length = n at *
  have HNL := Lib.hid hnl
  have HR := Lib.hid hR
  have HS2 := Lib.hid hs2
  clear hsl hs2 hs3 hnl hR
  show Calls _ _ #[.agg #[.slice av n cap, .string ⟨nm.toArray⟩, .bool lt, .int .i64 nu, .int .i64 pa, .int .i64 pb]] _ _
  go_enter Tryd.func70, Tryd.ntmps70
  go_wp2_with fail
  go_loopg [3] n (fun g iv wr => ∃ k : Nat, k ≤ n ∧ g = n - k ∧ iv = .int .i64 k ∧ (ps.drop k).all Sp.mayPart = R ∧ Below (W.heap.size + 1) (W.alloc (.cells #[.slice av n cap, .string ⟨nm.toArray⟩, .bool lt, .int .i64 nu, .int .i64 pa, .int .i64 pb] 42)) wr)
  case atStart => exact ⟨0, Nat.zero_le _, rfl, rfl, HR.out, Below.refl _ _⟩
  case round =>
    obtain ⟨k, hk, rfl, rfl, hi, hbel⟩ := hrel
    have HI := Lib.hid hi
    have hF := (hbel.block W.heap.size (by omega)).trans (heap_last W _)
    have c0 := cell_at (i := 0) hF; have c1 := cell_at (i := 1) hF; have c2 := cell_at (i := 2) hF; have c3 := cell_at (i := 3) hF; have c4 := cell_at (i := 4) hF
    have hl1 := lt_at hF
    have HF := Lib.hid hF
    have HB := Lib.hid hbel
    have hk0 : (0 : Int) ≤ (k : Int) := Int.natCast_nonneg _
    have hsz : W.heap.size + 1 ≤ wr.heap.size := by have := HB.out.size; simp at this; omega
    clear hi hF hbel
    by_cases hkn : k < n
    · have hkl : k < ps.length := by have := HNL.out; omega
      have hp : ps[k]? = some ps[k] := List.getElem?_eq_getElem hkl
      have hmem : ps[k] ∈ ps := List.getElem_mem hkl
      have hdr : ps.drop k = ps[k] :: ps.drop (k + 1) := List.drop_eq_getElem_cons hkl
      generalize ps[k] = p at *
      have hsm := HS2.out p hmem
      have hi := HI.out
      rw [hdr, List.all_cons, Sp.mayPart_ref] at hi
      obtain ⟨b, off, rfl, hbl, hc⟩ := HSL.out.at (k := k) (row := partC p) (by rw [List.getElem?_map, hp]; rfl)
      have hcc := hc _ (below_box HB.out)
      obtain ⟨⟨snm, slt, snu, spa⟩, cd, pc⟩ := p
      have a0 := hcc 0 _ rfl; have a1 := hcc 1 _ rfl; have a2 := hcc 2 _ rfl; have a3 := hcc 3 _ rfl; have a4 := hcc 4 _ rfl; have a5 := hcc 5 _ rfl
      simp only [Nat.add_zero] at a0
      have hk1 : (k : Int) < (n : Int) := by omega
      have hlb : b < wr.heap.size := by omega
      clear hc hcc hp hmem hdr HI hkl
      have HFIN : Hid (∀ w2, Below (wr.heap.size + 1) (wr.alloc (.cells #[.string ⟨snm.toArray⟩, .bool slt, .int .i64 snu, .int .i64 spa, .string ⟨cd.toArray⟩, .int .i64 pc] 44)) w2 → Below (W.heap.size + 1) (W.alloc (.cells #[.slice (some ⟨b, off, none⟩) n cap, .string ⟨nm.toArray⟩, .bool lt, .int .i64 nu, .int .i64 pa, .int .i64 pb] 42)) w2) := Lib.hid (fun w2 h => (HB.out.alloc hsz _).trans (h.mono (by omega)))
      have hcs : ∀ w2, Below (wr.heap.size + 1) (wr.alloc (.cells #[.string ⟨snm.toArray⟩, .bool slt, .int .i64 snu, .int .i64 spa, .string ⟨cd.toArray⟩, .int .i64 pc] 44)) w2 → w2.cell? ⟨wr.heap.size, 0, none⟩ = some (.string ⟨snm.toArray⟩) ∧ w2.cell? ⟨wr.heap.size, 1, none⟩ = some (.bool slt) ∧ w2.cell? ⟨wr.heap.size, 2, none⟩ = some (.int .i64 snu) ∧ w2.cell? ⟨wr.heap.size, 3, none⟩ = some (.int .i64 spa) ∧ w2.cell? ⟨wr.heap.size, 4, none⟩ = some (.string ⟨cd.toArray⟩) ∧ Below (wr.heap.size + 1) (wr.alloc (.cells #[.string ⟨snm.toArray⟩, .bool slt, .int .i64 snu, .int .i64 spa, .string ⟨cd.toArray⟩, .int .i64 pc] 44)) w2 := fun w2 h => by
        have hF := (h.block wr.heap.size (by omega)).trans (heap_last wr _)
        exact ⟨cell_at (i := 0) hF, cell_at (i := 1) hF, cell_at (i := 2) hF, cell_at (i := 3) hF, cell_at (i := 4) hF, h⟩
      have HSY := Lib.hid (fun W' (hW' : Below (wr.heap.size + 1) (wr.alloc (.cells #[.string ⟨snm.toArray⟩, .bool slt, .int .i64 snu, .int .i64 spa, .string ⟨cd.toArray⟩, .int .i64 pc] 44)) W') => (ref7_symbol ⟨snm, slt, snu, spa⟩ false true W' hsm.1).mono fun e w'' (h : e = .returned (.bool (Sp.refSym ⟨snm, slt, snu, spa⟩ false true)) ∧ Below W'.heap.size W' w'') => And.intro h.1 (hcs w'' (hW'.trans (h.2.mono (by have := hW'.size; simp at this; omega)))))
      have HEM := Lib.hid (fun W' (hW' : Below (wr.heap.size + 1) (wr.alloc (.cells #[.string ⟨snm.toArray⟩, .bool slt, .int .i64 snu, .int .i64 spa, .string ⟨cd.toArray⟩, .int .i64 pc] 44)) W') => (ref7_none ⟨snm, slt, snu, spa⟩ W').mono fun e w'' (h : e = .returned (.bool (Sp.isNone ⟨snm, slt, snu, spa⟩)) ∧ Below W'.heap.size W' w'') => And.intro h.1 (hcs w'' (hW'.trans (h.2.mono (by have := hW'.size; simp at this; omega)))))
      have HEN := Lib.hid (fun W' (hW' : Below (wr.heap.size + 1) (wr.alloc (.cells #[.string ⟨snm.toArray⟩, .bool slt, .int .i64 snu, .int .i64 spa, .string ⟨cd.toArray⟩, .int .i64 pc] 44)) W') => (ref_End ⟨cd.toArray⟩ 0 W' (by rw [Lib.size_eq]; show cd.length < _; have := hsm.2; simp only at this; omega)).mono fun e w'' (h : e = .returned (.int .i64 (Sp.endAt cd 0)) ∧ ∃ n, w'' = W'.drewN n) => And.intro h.1 (hcs w'' (by obtain ⟨n, hn⟩ := h.2; rw [hn]; exact below_drewN hW' n)))
      have hcl : (⟨cd.toArray⟩ : ByteArray).size = cd.length := by rw [Lib.size_eq]
      generalize Sp.endAt cd 0 = E at HEN hi
      generalize Sp.isNone ⟨snm, slt, snu, spa⟩ = q1 at HEM hi
      generalize Sp.refSym ⟨snm, slt, snu, spa⟩ false true = q at HSY hi
      have hself := hcs _ (Below.refl _ _)
      have hselfd := hcs _ (below_drewN (Below.refl _ _) 1)
      have HS1 := Lib.hid hself; have HSD := Lib.hid hselfd
      clear hcs hself hselfd hsm
      cases cd with
      | nil =>
        have e : (!((decide (([] : List UInt8) = []) && !q) || (decide (([] : List UInt8) ≠ []) && (!q1 || decide (E ≠ (([] : List UInt8).length : Int)))))) = q := by cases q <;> rfl
        have hi2 : (q && (ps.drop (k + 1)).all Sp.mayPart) = R := by rw [← e]; exact hi
        have HI2 := Lib.hid hi2
        clear hi2
        clear hi e hcl HEM HEN
        cases q with
        | false =>
          go_wp2_with fail
          refine wp_region_plan (fun w' : World => w'.cell? ⟨wr.heap.size, 0, none⟩ = some (.string ⟨snm.toArray⟩) ∧ w'.cell? ⟨wr.heap.size, 1, none⟩ = some (.bool slt) ∧ w'.cell? ⟨wr.heap.size, 2, none⟩ = some (.int .i64 snu) ∧ w'.cell? ⟨wr.heap.size, 3, none⟩ = some (.int .i64 spa) ∧ w'.cell? ⟨wr.heap.size, 4, none⟩ = some (.string ⟨#[]⟩) ∧ Below (wr.heap.size + 1) (wr.alloc (.cells #[.string ⟨snm.toArray⟩, .bool slt, .int .i64 snu, .int .i64 spa, .string ⟨#[]⟩, .int .i64 pc] 44)) w') [] (.take 0 (.take 1 (.take 2 (.take 3 (.take 4 (.take 5 (.one 6 (.take 7 (.take 8 (.take 9 (.take 10 (.take 11 (.take 12 (.take 13 (.take 14 (.take 15 (.one 16 (.take 17 (.take 18 (.take 19 (.take 20 (.take 22 (.take 23 (.take 24 (.one 21 (.take 25 (.take 26 (.take 27 (.take 28 (.done)))))))))))))))))))))))))))))) (by kernel_rfl) (by kernel_rfl) (fun _ _ _ _ h => h) ?_
          have hSw := HSD.out
          refine wpPlan_takeD (v := ?ve0_1) rfl rfl hSw (by rfl) ?ye0_1 ?_
          case ye0_1 => (intro w hSx; (try dsimp only at hSx); go_simp; first | done | with_reducible rfl | rfl)
          (try simp only [Act.put, List.setIfInBounds_toArray, List.set_cons_zero, List.set_cons_succ])
          refine wpPlan_takeD (v := ?ve0_2) rfl rfl hSw (by rfl) ?ye0_2 ?_
          case ye0_2 => (intro w hSx; (try dsimp only at hSx); go_simp; first | done | with_reducible rfl | rfl)
          (try simp only [Act.put, List.setIfInBounds_toArray, List.set_cons_zero, List.set_cons_succ])
          refine wpPlan_takeD (v := ?ve0_3) rfl rfl hSw (by rfl) ?ye0_3 ?_
          case ye0_3 => (intro w hSx; (try dsimp only at hSx); go_simp; first | done | with_reducible rfl | rfl)
          (try simp only [Act.put, List.setIfInBounds_toArray, List.set_cons_zero, List.set_cons_succ])
          refine wpPlan_takeD (v := ?ve0_4) rfl rfl hSw (by rfl) ?ye0_4 ?_
          case ye0_4 => (intro w hSx; (try dsimp only at hSx); go_simp; first | done | with_reducible rfl | rfl)
          (try simp only [Act.put, List.setIfInBounds_toArray, List.set_cons_zero, List.set_cons_succ])
          refine wpPlan_takeD (v := ?ve0_5) rfl rfl hSw (by rfl) ?ye0_5 ?_
          case ye0_5 => (intro w hSx; (try dsimp only at hSx); go_simp; first | done | with_reducible rfl | rfl)
          (try simp only [Act.put, List.setIfInBounds_toArray, List.set_cons_zero, List.set_cons_succ])
          refine wpPlan_takeD (v := ?ve0_6) rfl rfl hSw (by rfl) ?ye0_6 ?_
          case ye0_6 => (intro w hSx; (try dsimp only at hSx); go_simp; first | done | with_reducible rfl | rfl)
          (try simp only [Act.put, List.setIfInBounds_toArray, List.set_cons_zero, List.set_cons_succ])
          refine wpPlan_run rfl (by rfl) (fun K' hK => ?_)
          (go_simp; go_at_call 87; refine (HSY.out _ HSD.out.2.2.2.2.2).mono ?_; rintro e w' ⟨rfl, d1, d2, d3, d4, d5, d6⟩)
          refine hK _ _ (.inr ?_) ?_
          · exact (And.intro d1 (And.intro d2 (And.intro d3 (And.intro d4 (And.intro d5 d6)))))
          clear hK K' hSw
          have hSw := (And.intro d1 (And.intro d2 (And.intro d3 (And.intro d4 (And.intro d5 d6)))))
          (try simp only [Act.put, List.setIfInBounds_toArray, List.set_cons_zero, List.set_cons_succ])
          refine wpPlan_takeD (v := ?ve0_7) rfl rfl hSw (by rfl) ?ye0_7 ?_
          case ye0_7 => (intro w hSx; (try dsimp only at hSx); go_simp; first | done | with_reducible rfl | rfl)
          (try simp only [Act.put, List.setIfInBounds_toArray, List.set_cons_zero, List.set_cons_succ])
          refine wpPlan_takeD (v := ?ve0_8) rfl rfl hSw (by rfl) ?ye0_8 ?_
          case ye0_8 => (intro w hSx; (try dsimp only at hSx); go_simp; first | done | with_reducible rfl | rfl)
          (try simp only [Act.put, List.setIfInBounds_toArray, List.set_cons_zero, List.set_cons_succ])
          refine wpPlan_takeD (v := ?ve0_9) rfl rfl hSw (by rfl) ?ye0_9 ?_
          case ye0_9 => (intro w hSx; (try dsimp only at hSx); go_simp; first | done | with_reducible rfl | rfl)
          (try simp only [Act.put, List.setIfInBounds_toArray, List.set_cons_zero, List.set_cons_succ])
          refine wpPlan_noneD rfl rfl hSw (by rfl) ?_
          (try simp only [Act.put, List.setIfInBounds_toArray, List.set_cons_zero, List.set_cons_succ])
          refine wpPlan_noneD rfl rfl hSw (by rfl) ?_
          (try simp only [Act.put, List.setIfInBounds_toArray, List.set_cons_zero, List.set_cons_succ])
          refine wpPlan_noneD rfl rfl hSw (by rfl) ?_
          (try simp only [Act.put, List.setIfInBounds_toArray, List.set_cons_zero, List.set_cons_succ])
          refine wpPlan_noneD rfl rfl hSw (by rfl) ?_
          (try simp only [Act.put, List.setIfInBounds_toArray, List.set_cons_zero, List.set_cons_succ])
          refine wpPlan_noneD rfl rfl hSw (by rfl) ?_
          (try simp only [Act.put, List.setIfInBounds_toArray, List.set_cons_zero, List.set_cons_succ])
          refine wpPlan_noneD rfl rfl hSw (by rfl) ?_
          (try simp only [Act.put, List.setIfInBounds_toArray, List.set_cons_zero, List.set_cons_succ])
          refine wpPlan_passD rfl rfl (by rfl) hSw ?_
          (try simp only [Act.put, List.setIfInBounds_toArray, List.set_cons_zero, List.set_cons_succ])
          refine wpPlan_noneD rfl rfl hSw (by rfl) ?_
          (try simp only [Act.put, List.setIfInBounds_toArray, List.set_cons_zero, List.set_cons_succ])
          refine wpPlan_noneD rfl rfl hSw (by rfl) ?_
          (try simp only [Act.put, List.setIfInBounds_toArray, List.set_cons_zero, List.set_cons_succ])
          refine wpPlan_noneD rfl rfl hSw (by rfl) ?_
          (try simp only [Act.put, List.setIfInBounds_toArray, List.set_cons_zero, List.set_cons_succ])
          refine wpPlan_noneD rfl rfl hSw (by rfl) ?_
          (try simp only [Act.put, List.setIfInBounds_toArray, List.set_cons_zero, List.set_cons_succ])
          refine wpPlan_noneD rfl rfl hSw (by rfl) ?_
          (try simp only [Act.put, List.setIfInBounds_toArray, List.set_cons_zero, List.set_cons_succ])
          refine wpPlan_noneD rfl rfl hSw (by rfl) ?_
          (try simp only [Act.put, List.setIfInBounds_toArray, List.set_cons_zero, List.set_cons_succ])
          refine wpPlan_noneD rfl rfl hSw (by rfl) ?_
          (try simp only [Act.put, List.setIfInBounds_toArray, List.set_cons_zero, List.set_cons_succ])
          refine wpPlan_passD rfl rfl (by rfl) hSw ?_
          (try simp only [Act.put, List.setIfInBounds_toArray, List.set_cons_zero, List.set_cons_succ])
          refine wpPlan_noneD rfl rfl hSw (by rfl) ?_
          (try simp only [Act.put, List.setIfInBounds_toArray, List.set_cons_zero, List.set_cons_succ])
          refine wpPlan_noneD rfl rfl hSw (by rfl) ?_
          (try simp only [Act.put, List.setIfInBounds_toArray, List.set_cons_zero, List.set_cons_succ])
          refine wpPlan_noneD rfl rfl hSw (by rfl) ?_
          (try simp only [Act.put, List.setIfInBounds_toArray, List.set_cons_zero, List.set_cons_succ])
          refine wpPlan_takeD (v := ?ve0_10) rfl rfl hSw (by rfl) ?ye0_10 ?_
          case ye0_10 => (intro w hSx; (try dsimp only at hSx); go_simp; first | done | with_reducible rfl | rfl)
          (try simp only [Act.put, List.setIfInBounds_toArray, List.set_cons_zero, List.set_cons_succ])
          refine wpPlan_done ?_
          all_goals (go_wp2_with fail; go_ret; exact ⟨ret_bool (by rw [← HI2.out]; rfl), below_box (HFIN.out _ d6)⟩)
        | true =>
          go_wp2_with fail
          refine wp_region_plan (fun w' : World => w'.cell? ⟨wr.heap.size, 0, none⟩ = some (.string ⟨snm.toArray⟩) ∧ w'.cell? ⟨wr.heap.size, 1, none⟩ = some (.bool slt) ∧ w'.cell? ⟨wr.heap.size, 2, none⟩ = some (.int .i64 snu) ∧ w'.cell? ⟨wr.heap.size, 3, none⟩ = some (.int .i64 spa) ∧ w'.cell? ⟨wr.heap.size, 4, none⟩ = some (.string ⟨#[]⟩) ∧ Below (wr.heap.size + 1) (wr.alloc (.cells #[.string ⟨snm.toArray⟩, .bool slt, .int .i64 snu, .int .i64 spa, .string ⟨#[]⟩, .int .i64 pc] 44)) w') [] (.take 0 (.take 1 (.take 2 (.take 3 (.take 4 (.take 5 (.one 6 (.take 7 (.take 8 (.take 9 (.take 10 (.take 11 (.take 12 (.take 13 (.take 14 (.take 15 (.one 16 (.take 17 (.take 18 (.take 19 (.take 20 (.take 22 (.take 23 (.take 24 (.one 21 (.take 25 (.take 26 (.take 27 (.take 28 (.done)))))))))))))))))))))))))))))) (by kernel_rfl) (by kernel_rfl) (fun _ _ _ _ h => h) ?_
          have hSw := HSD.out
          refine wpPlan_takeD (v := ?ve1_1) rfl rfl hSw (by rfl) ?ye1_1 ?_
          case ye1_1 => (intro w hSx; (try dsimp only at hSx); go_simp; first | done | with_reducible rfl | rfl)
          (try simp only [Act.put, List.setIfInBounds_toArray, List.set_cons_zero, List.set_cons_succ])
          refine wpPlan_takeD (v := ?ve1_2) rfl rfl hSw (by rfl) ?ye1_2 ?_
          case ye1_2 => (intro w hSx; (try dsimp only at hSx); go_simp; first | done | with_reducible rfl | rfl)
          (try simp only [Act.put, List.setIfInBounds_toArray, List.set_cons_zero, List.set_cons_succ])
          refine wpPlan_takeD (v := ?ve1_3) rfl rfl hSw (by rfl) ?ye1_3 ?_
          case ye1_3 => (intro w hSx; (try dsimp only at hSx); go_simp; first | done | with_reducible rfl | rfl)
          (try simp only [Act.put, List.setIfInBounds_toArray, List.set_cons_zero, List.set_cons_succ])
          refine wpPlan_takeD (v := ?ve1_4) rfl rfl hSw (by rfl) ?ye1_4 ?_
          case ye1_4 => (intro w hSx; (try dsimp only at hSx); go_simp; first | done | with_reducible rfl | rfl)
          (try simp only [Act.put, List.setIfInBounds_toArray, List.set_cons_zero, List.set_cons_succ])
          refine wpPlan_takeD (v := ?ve1_5) rfl rfl hSw (by rfl) ?ye1_5 ?_
          case ye1_5 => (intro w hSx; (try dsimp only at hSx); go_simp; first | done | with_reducible rfl | rfl)
          (try simp only [Act.put, List.setIfInBounds_toArray, List.set_cons_zero, List.set_cons_succ])
          refine wpPlan_takeD (v := ?ve1_6) rfl rfl hSw (by rfl) ?ye1_6 ?_
          case ye1_6 => (intro w hSx; (try dsimp only at hSx); go_simp; first | done | with_reducible rfl | rfl)
          (try simp only [Act.put, List.setIfInBounds_toArray, List.set_cons_zero, List.set_cons_succ])
          refine wpPlan_run rfl (by rfl) (fun K' hK => ?_)
          (go_simp; go_at_call 87; refine (HSY.out _ HSD.out.2.2.2.2.2).mono ?_; rintro e w' ⟨rfl, d1, d2, d3, d4, d5, d6⟩)
          refine hK _ _ (.inr ?_) ?_
          · exact (And.intro d1 (And.intro d2 (And.intro d3 (And.intro d4 (And.intro d5 d6)))))
          clear hK K' hSw
          have hSw := (And.intro d1 (And.intro d2 (And.intro d3 (And.intro d4 (And.intro d5 d6)))))
          (try simp only [Act.put, List.setIfInBounds_toArray, List.set_cons_zero, List.set_cons_succ])
          refine wpPlan_takeD (v := ?ve1_7) rfl rfl hSw (by rfl) ?ye1_7 ?_
          case ye1_7 => (intro w hSx; (try dsimp only at hSx); go_simp; first | done | with_reducible rfl | rfl)
          (try simp only [Act.put, List.setIfInBounds_toArray, List.set_cons_zero, List.set_cons_succ])
          refine wpPlan_takeD (v := ?ve1_8) rfl rfl hSw (by rfl) ?ye1_8 ?_
          case ye1_8 => (intro w hSx; (try dsimp only at hSx); go_simp; first | done | with_reducible rfl | rfl)
          (try simp only [Act.put, List.setIfInBounds_toArray, List.set_cons_zero, List.set_cons_succ])
          refine wpPlan_takeD (v := ?ve1_9) rfl rfl hSw (by rfl) ?ye1_9 ?_
          case ye1_9 => (intro w hSx; (try dsimp only at hSx); go_simp; first | done | with_reducible rfl | rfl)
          (try simp only [Act.put, List.setIfInBounds_toArray, List.set_cons_zero, List.set_cons_succ])
          refine wpPlan_takeD (v := ?ve1_10) rfl rfl hSw (by rfl) ?ye1_10 ?_
          case ye1_10 => (intro w hSx; (try dsimp only at hSx); go_simp; first | done | with_reducible rfl | rfl)
          (try simp only [Act.put, List.setIfInBounds_toArray, List.set_cons_zero, List.set_cons_succ])
          refine wpPlan_takeD (v := ?ve1_11) rfl rfl hSw (by rfl) ?ye1_11 ?_
          case ye1_11 => (intro w hSx; (try dsimp only at hSx); go_simp; first | done | with_reducible rfl | rfl)
          (try simp only [Act.put, List.setIfInBounds_toArray, List.set_cons_zero, List.set_cons_succ])
          refine wpPlan_takeD (v := ?ve1_12) rfl rfl hSw (by rfl) ?ye1_12 ?_
          case ye1_12 => (intro w hSx; (try dsimp only at hSx); go_simp; first | done | with_reducible rfl | rfl)
          (try simp only [Act.put, List.setIfInBounds_toArray, List.set_cons_zero, List.set_cons_succ])
          refine wpPlan_takeD (v := ?ve1_13) rfl rfl hSw (by rfl) ?ye1_13 ?_
          case ye1_13 => (intro w hSx; (try dsimp only at hSx); go_simp; first | done | with_reducible rfl | rfl)
          (try simp only [Act.put, List.setIfInBounds_toArray, List.set_cons_zero, List.set_cons_succ])
          refine wpPlan_noneD rfl rfl hSw (by rfl) ?_
          (try simp only [Act.put, List.setIfInBounds_toArray, List.set_cons_zero, List.set_cons_succ])
          refine wpPlan_noneD rfl rfl hSw (by rfl) ?_
          (try simp only [Act.put, List.setIfInBounds_toArray, List.set_cons_zero, List.set_cons_succ])
          refine wpPlan_passD rfl rfl (by rfl) hSw ?_
          (try simp only [Act.put, List.setIfInBounds_toArray, List.set_cons_zero, List.set_cons_succ])
          refine wpPlan_noneD rfl rfl hSw (by rfl) ?_
          (try simp only [Act.put, List.setIfInBounds_toArray, List.set_cons_zero, List.set_cons_succ])
          refine wpPlan_noneD rfl rfl hSw (by rfl) ?_
          (try simp only [Act.put, List.setIfInBounds_toArray, List.set_cons_zero, List.set_cons_succ])
          refine wpPlan_noneD rfl rfl hSw (by rfl) ?_
          (try simp only [Act.put, List.setIfInBounds_toArray, List.set_cons_zero, List.set_cons_succ])
          refine wpPlan_noneD rfl rfl hSw (by rfl) ?_
          (try simp only [Act.put, List.setIfInBounds_toArray, List.set_cons_zero, List.set_cons_succ])
          refine wpPlan_noneD rfl rfl hSw (by rfl) ?_
          (try simp only [Act.put, List.setIfInBounds_toArray, List.set_cons_zero, List.set_cons_succ])
          refine wpPlan_noneD rfl rfl hSw (by rfl) ?_
          (try simp only [Act.put, List.setIfInBounds_toArray, List.set_cons_zero, List.set_cons_succ])
          refine wpPlan_noneD rfl rfl hSw (by rfl) ?_
          (try simp only [Act.put, List.setIfInBounds_toArray, List.set_cons_zero, List.set_cons_succ])
          refine wpPlan_passD rfl rfl (by rfl) hSw ?_
          (try simp only [Act.put, List.setIfInBounds_toArray, List.set_cons_zero, List.set_cons_succ])
          refine wpPlan_noneD rfl rfl hSw (by rfl) ?_
          (try simp only [Act.put, List.setIfInBounds_toArray, List.set_cons_zero, List.set_cons_succ])
          refine wpPlan_noneD rfl rfl hSw (by rfl) ?_
          (try simp only [Act.put, List.setIfInBounds_toArray, List.set_cons_zero, List.set_cons_succ])
          refine wpPlan_takeD (v := ?ve1_14) rfl rfl hSw (by rfl) ?ye1_14 ?_
          case ye1_14 => (intro w hSx; (try dsimp only at hSx); go_simp; first | done | with_reducible rfl | rfl)
          (try simp only [Act.put, List.setIfInBounds_toArray, List.set_cons_zero, List.set_cons_succ])
          refine wpPlan_takeD (v := ?ve1_15) rfl rfl hSw (by rfl) ?ye1_15 ?_
          case ye1_15 => (intro w hSx; (try dsimp only at hSx); go_simp; first | done | with_reducible rfl | rfl)
          (try simp only [Act.put, List.setIfInBounds_toArray, List.set_cons_zero, List.set_cons_succ])
          refine wpPlan_done ?_
          all_goals
            go_wp2_with fail
            go_roundg (n - (k + 1))
            case measure => omega
            case rel => exact ⟨k + 1, by omega, rfl, by go_num, by rw [← HI2.out]; rfl, HFIN.out _ d6⟩
      | cons c u =>
        have hne : (c :: u).isEmpty = false := rfl
        have e : (!((decide ((c :: u) = []) && !q) || (decide ((c :: u) ≠ []) && (!q1 || decide (E ≠ ((c :: u).length : Int)))))) = (q1 && (E == ((u.length + 1 : Nat) : Int))) := by
          cases q1 <;> simp
          rw [Bool.eq_iff_iff]; simp
        have hi2 : ((q1 && (E == ((u.length + 1 : Nat) : Int))) && (ps.drop (k + 1)).all Sp.mayPart) = R := by rw [← e]; exact hi
        have HI2 := Lib.hid hi2
        clear hi2
        have hsz1 : (⟨(c :: u).toArray⟩ : ByteArray).size = u.length + 1 := hcl
        clear hi e hcl HSY
        cases q1 with
        | false =>
          go_wp2_with fail
          refine wp_region_plan (fun w' : World => w'.cell? ⟨wr.heap.size, 0, none⟩ = some (.string ⟨snm.toArray⟩) ∧ w'.cell? ⟨wr.heap.size, 1, none⟩ = some (.bool slt) ∧ w'.cell? ⟨wr.heap.size, 2, none⟩ = some (.int .i64 snu) ∧ w'.cell? ⟨wr.heap.size, 3, none⟩ = some (.int .i64 spa) ∧ w'.cell? ⟨wr.heap.size, 4, none⟩ = some (.string ⟨(c :: u).toArray⟩) ∧ Below (wr.heap.size + 1) (wr.alloc (.cells #[.string ⟨snm.toArray⟩, .bool slt, .int .i64 snu, .int .i64 spa, .string ⟨(c :: u).toArray⟩, .int .i64 pc] 44)) w') [] (.take 0 (.take 1 (.take 2 (.take 3 (.take 4 (.take 5 (.one 6 (.take 7 (.take 8 (.take 9 (.take 10 (.take 11 (.take 12 (.take 13 (.take 14 (.take 15 (.one 16 (.take 17 (.take 18 (.take 19 (.take 20 (.take 22 (.take 23 (.take 24 (.one 21 (.take 25 (.take 26 (.take 27 (.take 28 (.done)))))))))))))))))))))))))))))) (by kernel_rfl) (by kernel_rfl) (fun _ _ _ _ h => h) ?_
          have hSw := HSD.out
          refine wpPlan_takeD (v := ?ve2_1) rfl rfl hSw (by rfl) ?ye2_1 ?_
          case ye2_1 => (intro w hSx; (try dsimp only at hSx); go_simp; first | done | with_reducible rfl | rfl)
          (try simp only [Act.put, List.setIfInBounds_toArray, List.set_cons_zero, List.set_cons_succ])
          refine wpPlan_takeD (v := ?ve2_2) rfl rfl hSw (by rfl) ?ye2_2 ?_
          case ye2_2 => (intro w hSx; (try dsimp only at hSx); go_simp; first | done | with_reducible rfl | rfl)
          (try simp only [Act.put, List.setIfInBounds_toArray, List.set_cons_zero, List.set_cons_succ])
          refine wpPlan_takeD (v := ?ve2_3) rfl rfl hSw (by rfl) ?ye2_3 ?_
          case ye2_3 => (intro w hSx; (try dsimp only at hSx); go_simp; first | done | with_reducible rfl | rfl)
          (try simp only [Act.put, List.setIfInBounds_toArray, List.set_cons_zero, List.set_cons_succ])
          refine wpPlan_takeD (v := ?ve2_4) rfl rfl hSw (by rfl) ?ye2_4 ?_
          case ye2_4 => (intro w hSx; (try dsimp only at hSx); go_simp; first | done | with_reducible rfl | rfl)
          (try simp only [Act.put, List.setIfInBounds_toArray, List.set_cons_zero, List.set_cons_succ])
          refine wpPlan_noneD rfl rfl hSw (by rfl) ?_
          (try simp only [Act.put, List.setIfInBounds_toArray, List.set_cons_zero, List.set_cons_succ])
          refine wpPlan_noneD rfl rfl hSw (by rfl) ?_
          (try simp only [Act.put, List.setIfInBounds_toArray, List.set_cons_zero, List.set_cons_succ])
          refine wpPlan_passD rfl rfl (by rfl) hSw ?_
          (try simp only [Act.put, List.setIfInBounds_toArray, List.set_cons_zero, List.set_cons_succ])
          refine wpPlan_noneD rfl rfl hSw (by rfl) ?_
          (try simp only [Act.put, List.setIfInBounds_toArray, List.set_cons_zero, List.set_cons_succ])
          refine wpPlan_takeD (v := ?ve2_5) rfl rfl hSw (by rfl) ?ye2_5 ?_
          case ye2_5 => (intro w hSx; (try dsimp only at hSx); go_simp; first | done | with_reducible rfl | rfl)
          (try simp only [Act.put, List.setIfInBounds_toArray, List.set_cons_zero, List.set_cons_succ])
          refine wpPlan_takeD (v := ?ve2_6) rfl rfl hSw (by rfl) ?ye2_6 ?_
          case ye2_6 => (intro w hSx; (try dsimp only at hSx); go_simp; first | done | with_reducible rfl | rfl)
          (try simp only [Act.put, List.setIfInBounds_toArray, List.set_cons_zero, List.set_cons_succ])
          refine wpPlan_takeD (v := ?ve2_7) rfl rfl hSw (by rfl) ?ye2_7 ?_
          case ye2_7 => (intro w hSx; (try dsimp only at hSx); go_simp; first | done | with_reducible rfl | rfl)
          (try simp only [Act.put, List.setIfInBounds_toArray, List.set_cons_zero, List.set_cons_succ])
          refine wpPlan_takeD (v := ?ve2_8) rfl rfl hSw (by rfl) ?ye2_8 ?_
          case ye2_8 => (intro w hSx; (try dsimp only at hSx); go_simp; first | done | with_reducible rfl | rfl)
          (try simp only [Act.put, List.setIfInBounds_toArray, List.set_cons_zero, List.set_cons_succ])
          refine wpPlan_takeD (v := ?ve2_9) rfl rfl hSw (by rfl) ?ye2_9 ?_
          case ye2_9 => (intro w hSx; (try dsimp only at hSx); go_simp; first | done | with_reducible rfl | rfl)
          (try simp only [Act.put, List.setIfInBounds_toArray, List.set_cons_zero, List.set_cons_succ])
          refine wpPlan_takeD (v := ?ve2_10) rfl rfl hSw (by rfl) ?ye2_10 ?_
          case ye2_10 => (intro w hSx; (try dsimp only at hSx); go_simp; first | done | with_reducible rfl | rfl)
          (try simp only [Act.put, List.setIfInBounds_toArray, List.set_cons_zero, List.set_cons_succ])
          refine wpPlan_takeD (v := ?ve2_11) rfl rfl hSw (by rfl) ?ye2_11 ?_
          case ye2_11 => (intro w hSx; (try dsimp only at hSx); go_simp; first | done | with_reducible rfl | rfl)
          (try simp only [Act.put, List.setIfInBounds_toArray, List.set_cons_zero, List.set_cons_succ])
          refine wpPlan_takeD (v := ?ve2_12) rfl rfl hSw (by rfl) ?ye2_12 ?_
          case ye2_12 => (intro w hSx; (try dsimp only at hSx); go_simp; first | done | with_reducible rfl | rfl)
          (try simp only [Act.put, List.setIfInBounds_toArray, List.set_cons_zero, List.set_cons_succ])
          refine wpPlan_run rfl (by rfl) (fun K' hK => ?_)
          (go_simp; go_at_call 89; refine (HEM.out _ HSD.out.2.2.2.2.2).mono ?_; rintro e w' ⟨rfl, d1, d2, d3, d4, d5, d6⟩)
          refine hK _ _ (.inr ?_) ?_
          · exact (And.intro d1 (And.intro d2 (And.intro d3 (And.intro d4 (And.intro d5 d6)))))
          clear hK K' hSw
          have hSw := (And.intro d1 (And.intro d2 (And.intro d3 (And.intro d4 (And.intro d5 d6)))))
          (try simp only [Act.put, List.setIfInBounds_toArray, List.set_cons_zero, List.set_cons_succ])
          refine wpPlan_takeD (v := ?ve2_13) rfl rfl hSw (by rfl) ?ye2_13 ?_
          case ye2_13 => (intro w hSx; (try dsimp only at hSx); go_simp; first | done | with_reducible rfl | rfl)
          (try simp only [Act.put, List.setIfInBounds_toArray, List.set_cons_zero, List.set_cons_succ])
          refine wpPlan_takeD (v := ?ve2_14) rfl rfl hSw (by rfl) ?ye2_14 ?_
          case ye2_14 => (intro w hSx; (try dsimp only at hSx); go_simp; first | done | with_reducible rfl | rfl)
          (try simp only [Act.put, List.setIfInBounds_toArray, List.set_cons_zero, List.set_cons_succ])
          refine wpPlan_noneD rfl rfl hSw (by rfl) ?_
          (try simp only [Act.put, List.setIfInBounds_toArray, List.set_cons_zero, List.set_cons_succ])
          refine wpPlan_noneD rfl rfl hSw (by rfl) ?_
          (try simp only [Act.put, List.setIfInBounds_toArray, List.set_cons_zero, List.set_cons_succ])
          refine wpPlan_noneD rfl rfl hSw (by rfl) ?_
          (try simp only [Act.put, List.setIfInBounds_toArray, List.set_cons_zero, List.set_cons_succ])
          refine wpPlan_noneD rfl rfl hSw (by rfl) ?_
          (try simp only [Act.put, List.setIfInBounds_toArray, List.set_cons_zero, List.set_cons_succ])
          refine wpPlan_noneD rfl rfl hSw (by rfl) ?_
          (try simp only [Act.put, List.setIfInBounds_toArray, List.set_cons_zero, List.set_cons_succ])
          refine wpPlan_passD rfl rfl (by rfl) hSw ?_
          (try simp only [Act.put, List.setIfInBounds_toArray, List.set_cons_zero, List.set_cons_succ])
          refine wpPlan_noneD rfl rfl hSw (by rfl) ?_
          (try simp only [Act.put, List.setIfInBounds_toArray, List.set_cons_zero, List.set_cons_succ])
          refine wpPlan_takeD (v := ?ve2_15) rfl rfl hSw (by rfl) ?ye2_15 ?_
          case ye2_15 => (intro w hSx; (try dsimp only at hSx); go_simp; first | done | with_reducible rfl | rfl)
          (try simp only [Act.put, List.setIfInBounds_toArray, List.set_cons_zero, List.set_cons_succ])
          refine wpPlan_takeD (v := ?ve2_16) rfl rfl hSw (by rfl) ?ye2_16 ?_
          case ye2_16 => (intro w hSx; (try dsimp only at hSx); go_simp; first | done | with_reducible rfl | rfl)
          (try simp only [Act.put, List.setIfInBounds_toArray, List.set_cons_zero, List.set_cons_succ])
          refine wpPlan_takeD (v := ?ve2_17) rfl rfl hSw (by rfl) ?ye2_17 ?_
          case ye2_17 => (intro w hSx; (try dsimp only at hSx); go_simp; first | done | with_reducible rfl | rfl)
          (try simp only [Act.put, List.setIfInBounds_toArray, List.set_cons_zero, List.set_cons_succ])
          refine wpPlan_done ?_
          all_goals (go_wp2_with fail; go_ret; exact ⟨ret_bool (by rw [← HI2.out]; rfl), below_box (HFIN.out _ d6)⟩)
        | true =>
          by_cases hE : E = ((u.length + 1 : Nat) : Int)
          · subst hE
            have HI3 : Hid ((ps.drop (k + 1)).all Sp.mayPart = R) := Lib.hid (by rw [← HI2.out]; simp)
            clear HI2
            go_wp2_with fail
            refine wp_region_plan (fun w' : World => w'.cell? ⟨wr.heap.size, 0, none⟩ = some (.string ⟨snm.toArray⟩) ∧ w'.cell? ⟨wr.heap.size, 1, none⟩ = some (.bool slt) ∧ w'.cell? ⟨wr.heap.size, 2, none⟩ = some (.int .i64 snu) ∧ w'.cell? ⟨wr.heap.size, 3, none⟩ = some (.int .i64 spa) ∧ w'.cell? ⟨wr.heap.size, 4, none⟩ = some (.string ⟨(c :: u).toArray⟩) ∧ Below (wr.heap.size + 1) (wr.alloc (.cells #[.string ⟨snm.toArray⟩, .bool slt, .int .i64 snu, .int .i64 spa, .string ⟨(c :: u).toArray⟩, .int .i64 pc] 44)) w') [] (.take 0 (.take 1 (.take 2 (.take 3 (.take 4 (.take 5 (.one 6 (.take 7 (.take 8 (.take 9 (.take 10 (.take 11 (.take 12 (.take 13 (.take 14 (.take 15 (.one 16 (.take 17 (.take 18 (.take 19 (.take 20 (.take 22 (.take 23 (.take 24 (.one 21 (.take 25 (.take 26 (.take 27 (.take 28 (.done)))))))))))))))))))))))))))))) (by kernel_rfl) (by kernel_rfl) (fun _ _ _ _ h => h) ?_
            have hSw := HSD.out
            refine wpPlan_takeD (v := ?ve3_1) rfl rfl hSw (by rfl) ?ye3_1 ?_
            case ye3_1 => (intro w hSx; (try dsimp only at hSx); go_simp; first | done | with_reducible rfl | rfl)
            (try simp only [Act.put, List.setIfInBounds_toArray, List.set_cons_zero, List.set_cons_succ])
            refine wpPlan_takeD (v := ?ve3_2) rfl rfl hSw (by rfl) ?ye3_2 ?_
            case ye3_2 => (intro w hSx; (try dsimp only at hSx); go_simp; first | done | with_reducible rfl | rfl)
            (try simp only [Act.put, List.setIfInBounds_toArray, List.set_cons_zero, List.set_cons_succ])
            refine wpPlan_takeD (v := ?ve3_3) rfl rfl hSw (by rfl) ?ye3_3 ?_
            case ye3_3 => (intro w hSx; (try dsimp only at hSx); go_simp; first | done | with_reducible rfl | rfl)
            (try simp only [Act.put, List.setIfInBounds_toArray, List.set_cons_zero, List.set_cons_succ])
            refine wpPlan_takeD (v := ?ve3_4) rfl rfl hSw (by rfl) ?ye3_4 ?_
            case ye3_4 => (intro w hSx; (try dsimp only at hSx); go_simp; first | done | with_reducible rfl | rfl)
            (try simp only [Act.put, List.setIfInBounds_toArray, List.set_cons_zero, List.set_cons_succ])
            refine wpPlan_noneD rfl rfl hSw (by rfl) ?_
            (try simp only [Act.put, List.setIfInBounds_toArray, List.set_cons_zero, List.set_cons_succ])
            refine wpPlan_noneD rfl rfl hSw (by rfl) ?_
            (try simp only [Act.put, List.setIfInBounds_toArray, List.set_cons_zero, List.set_cons_succ])
            refine wpPlan_passD rfl rfl (by rfl) hSw ?_
            (try simp only [Act.put, List.setIfInBounds_toArray, List.set_cons_zero, List.set_cons_succ])
            refine wpPlan_noneD rfl rfl hSw (by rfl) ?_
            (try simp only [Act.put, List.setIfInBounds_toArray, List.set_cons_zero, List.set_cons_succ])
            refine wpPlan_takeD (v := ?ve3_5) rfl rfl hSw (by rfl) ?ye3_5 ?_
            case ye3_5 => (intro w hSx; (try dsimp only at hSx); go_simp; first | done | with_reducible rfl | rfl)
            (try simp only [Act.put, List.setIfInBounds_toArray, List.set_cons_zero, List.set_cons_succ])
            refine wpPlan_takeD (v := ?ve3_6) rfl rfl hSw (by rfl) ?ye3_6 ?_
            case ye3_6 => (intro w hSx; (try dsimp only at hSx); go_simp; first | done | with_reducible rfl | rfl)
            (try simp only [Act.put, List.setIfInBounds_toArray, List.set_cons_zero, List.set_cons_succ])
            refine wpPlan_takeD (v := ?ve3_7) rfl rfl hSw (by rfl) ?ye3_7 ?_
            case ye3_7 => (intro w hSx; (try dsimp only at hSx); go_simp; first | done | with_reducible rfl | rfl)
            (try simp only [Act.put, List.setIfInBounds_toArray, List.set_cons_zero, List.set_cons_succ])
            refine wpPlan_takeD (v := ?ve3_8) rfl rfl hSw (by rfl) ?ye3_8 ?_
            case ye3_8 => (intro w hSx; (try dsimp only at hSx); go_simp; first | done | with_reducible rfl | rfl)
            (try simp only [Act.put, List.setIfInBounds_toArray, List.set_cons_zero, List.set_cons_succ])
            refine wpPlan_takeD (v := ?ve3_9) rfl rfl hSw (by rfl) ?ye3_9 ?_
            case ye3_9 => (intro w hSx; (try dsimp only at hSx); go_simp; first | done | with_reducible rfl | rfl)
            (try simp only [Act.put, List.setIfInBounds_toArray, List.set_cons_zero, List.set_cons_succ])
            refine wpPlan_takeD (v := ?ve3_10) rfl rfl hSw (by rfl) ?ye3_10 ?_
            case ye3_10 => (intro w hSx; (try dsimp only at hSx); go_simp; first | done | with_reducible rfl | rfl)
            (try simp only [Act.put, List.setIfInBounds_toArray, List.set_cons_zero, List.set_cons_succ])
            refine wpPlan_takeD (v := ?ve3_11) rfl rfl hSw (by rfl) ?ye3_11 ?_
            case ye3_11 => (intro w hSx; (try dsimp only at hSx); go_simp; first | done | with_reducible rfl | rfl)
            (try simp only [Act.put, List.setIfInBounds_toArray, List.set_cons_zero, List.set_cons_succ])
            refine wpPlan_takeD (v := ?ve3_12) rfl rfl hSw (by rfl) ?ye3_12 ?_
            case ye3_12 => (intro w hSx; (try dsimp only at hSx); go_simp; first | done | with_reducible rfl | rfl)
            (try simp only [Act.put, List.setIfInBounds_toArray, List.set_cons_zero, List.set_cons_succ])
            refine wpPlan_run rfl (by rfl) (fun K' hK => ?_)
            (go_simp; go_at_call 89; refine (HEM.out _ HSD.out.2.2.2.2.2).mono ?_; rintro e w' ⟨rfl, d1, d2, d3, d4, d5, d6⟩)
            refine hK _ _ (.inr ?_) ?_
            · exact (And.intro d1 (And.intro d2 (And.intro d3 (And.intro d4 (And.intro d5 d6)))))
            clear hK K' hSw
            have hSw := (And.intro d1 (And.intro d2 (And.intro d3 (And.intro d4 (And.intro d5 d6)))))
            (try simp only [Act.put, List.setIfInBounds_toArray, List.set_cons_zero, List.set_cons_succ])
            refine wpPlan_takeD (v := ?ve3_13) rfl rfl hSw (by rfl) ?ye3_13 ?_
            case ye3_13 => (intro w hSx; (try dsimp only at hSx); go_simp; first | done | with_reducible rfl | rfl)
            (try simp only [Act.put, List.setIfInBounds_toArray, List.set_cons_zero, List.set_cons_succ])
            refine wpPlan_takeD (v := ?ve3_14) rfl rfl hSw (by rfl) ?ye3_14 ?_
            case ye3_14 => (intro w hSx; (try dsimp only at hSx); go_simp; first | done | with_reducible rfl | rfl)
            (try simp only [Act.put, List.setIfInBounds_toArray, List.set_cons_zero, List.set_cons_succ])
            refine wpPlan_takeD (v := ?ve3_15) rfl rfl hSw (by rfl) ?ye3_15 ?_
            case ye3_15 => (intro w hSx; (try dsimp only at hSx); go_simp; first | done | with_reducible rfl | rfl)
            (try simp only [Act.put, List.setIfInBounds_toArray, List.set_cons_zero, List.set_cons_succ])
            refine wpPlan_takeD (v := ?ve3_16) rfl rfl hSw (by rfl) ?ye3_16 ?_
            case ye3_16 => (intro w hSx; (try dsimp only at hSx); go_simp; first | done | with_reducible rfl | rfl)
            (try simp only [Act.put, List.setIfInBounds_toArray, List.set_cons_zero, List.set_cons_succ])
            refine wpPlan_takeD (v := ?ve3_17) rfl rfl hSw (by rfl) ?ye3_17 ?_
            case ye3_17 => (intro w hSx; (try dsimp only at hSx); go_simp; first | done | with_reducible rfl | rfl)
            (try simp only [Act.put, List.setIfInBounds_toArray, List.set_cons_zero, List.set_cons_succ])
            refine wpPlan_takeD (v := ?ve3_18) rfl rfl hSw (by rfl) ?ye3_18 ?_
            case ye3_18 => (intro w hSx; (try dsimp only at hSx); go_simp; first | done | with_reducible rfl | rfl)
            (try simp only [Act.put, List.setIfInBounds_toArray, List.set_cons_zero, List.set_cons_succ])
            refine wpPlan_takeD (v := ?ve3_19) rfl rfl hSw (by rfl) ?ye3_19 ?_
            case ye3_19 => (intro w hSx; (try dsimp only at hSx); go_simp; first | done | with_reducible rfl | rfl)
            (try simp only [Act.put, List.setIfInBounds_toArray, List.set_cons_zero, List.set_cons_succ])
            refine wpPlan_run rfl (by rfl) (fun K' hK => ?_)
            (go_simp; go_at_call 90; refine (HEN.out _ d6).mono ?_; rintro e w' ⟨rfl, d1, d2, d3, d4, d5, d6⟩)
            refine hK _ _ (.inr ?_) ?_
            · exact (And.intro d1 (And.intro d2 (And.intro d3 (And.intro d4 (And.intro d5 d6)))))
            clear hK K' hSw
            have hSw := (And.intro d1 (And.intro d2 (And.intro d3 (And.intro d4 (And.intro d5 d6)))))
            (try simp only [Act.put, List.setIfInBounds_toArray, List.set_cons_zero, List.set_cons_succ])
            refine wpPlan_takeD (v := ?ve3_20) rfl rfl hSw (by rfl) ?ye3_20 ?_
            case ye3_20 => (intro w hSx; (try dsimp only at hSx); go_simp; first | done | with_reducible rfl | rfl)
            (try simp only [Act.put, List.setIfInBounds_toArray, List.set_cons_zero, List.set_cons_succ])
            refine wpPlan_takeD (v := ?ve3_21) rfl rfl hSw (by rfl) ?ye3_21 ?_
            case ye3_21 => (intro w hSx; (try dsimp only at hSx); go_simp; first | done | with_reducible rfl | rfl)
            (try simp only [Act.put, List.setIfInBounds_toArray, List.set_cons_zero, List.set_cons_succ])
            refine wpPlan_takeD (v := ?ve3_22) rfl rfl hSw (by rfl) ?ye3_22 ?_
            case ye3_22 => (intro w hSx; (try dsimp only at hSx); go_simp; first | done | with_reducible rfl | rfl)
            (try simp only [Act.put, List.setIfInBounds_toArray, List.set_cons_zero, List.set_cons_succ])
            refine wpPlan_takeD (v := ?ve3_23) rfl rfl hSw (by rfl) ?ye3_23 ?_
            case ye3_23 => (intro w hSx; (try dsimp only at hSx); go_simp; first | done | with_reducible rfl | rfl)
            (try simp only [Act.put, List.setIfInBounds_toArray, List.set_cons_zero, List.set_cons_succ])
            refine wpPlan_done ?_
            all_goals
              go_wp2_with fail
              go_roundg (n - (k + 1))
              case measure => omega
              case rel => exact ⟨k + 1, by omega, rfl, by go_num, HI3.out, HFIN.out _ d6⟩
          · have hEn : (E != ((u.length + 1 : Nat) : Int)) = true := by rw [bne_iff_ne]; exact hE
            have HI3 : Hid (false = R) := Lib.hid (by rw [← HI2.out]; simp; intro h; exact absurd h (by omega))
            clear HI2 hE
            go_wp2_with fail
            refine wp_region_plan (fun w' : World => w'.cell? ⟨wr.heap.size, 0, none⟩ = some (.string ⟨snm.toArray⟩) ∧ w'.cell? ⟨wr.heap.size, 1, none⟩ = some (.bool slt) ∧ w'.cell? ⟨wr.heap.size, 2, none⟩ = some (.int .i64 snu) ∧ w'.cell? ⟨wr.heap.size, 3, none⟩ = some (.int .i64 spa) ∧ w'.cell? ⟨wr.heap.size, 4, none⟩ = some (.string ⟨(c :: u).toArray⟩) ∧ Below (wr.heap.size + 1) (wr.alloc (.cells #[.string ⟨snm.toArray⟩, .bool slt, .int .i64 snu, .int .i64 spa, .string ⟨(c :: u).toArray⟩, .int .i64 pc] 44)) w') [] (.take 0 (.take 1 (.take 2 (.take 3 (.take 4 (.take 5 (.one 6 (.take 7 (.take 8 (.take 9 (.take 10 (.take 11 (.take 12 (.take 13 (.take 14 (.take 15 (.one 16 (.take 17 (.take 18 (.take 19 (.take 20 (.take 22 (.take 23 (.take 24 (.one 21 (.take 25 (.take 26 (.take 27 (.take 28 (.done)))))))))))))))))))))))))))))) (by kernel_rfl) (by kernel_rfl) (fun _ _ _ _ h => h) ?_
            have hSw := HSD.out
            refine wpPlan_takeD (v := ?ve4_1) rfl rfl hSw (by rfl) ?ye4_1 ?_
            case ye4_1 => (intro w hSx; (try dsimp only at hSx); go_simp; first | done | with_reducible rfl | rfl)
            (try simp only [Act.put, List.setIfInBounds_toArray, List.set_cons_zero, List.set_cons_succ])
            refine wpPlan_takeD (v := ?ve4_2) rfl rfl hSw (by rfl) ?ye4_2 ?_
            case ye4_2 => (intro w hSx; (try dsimp only at hSx); go_simp; first | done | with_reducible rfl | rfl)
            (try simp only [Act.put, List.setIfInBounds_toArray, List.set_cons_zero, List.set_cons_succ])
            refine wpPlan_takeD (v := ?ve4_3) rfl rfl hSw (by rfl) ?ye4_3 ?_
            case ye4_3 => (intro w hSx; (try dsimp only at hSx); go_simp; first | done | with_reducible rfl | rfl)
            (try simp only [Act.put, List.setIfInBounds_toArray, List.set_cons_zero, List.set_cons_succ])
            refine wpPlan_takeD (v := ?ve4_4) rfl rfl hSw (by rfl) ?ye4_4 ?_
            case ye4_4 => (intro w hSx; (try dsimp only at hSx); go_simp; first | done | with_reducible rfl | rfl)
            (try simp only [Act.put, List.setIfInBounds_toArray, List.set_cons_zero, List.set_cons_succ])
            refine wpPlan_noneD rfl rfl hSw (by rfl) ?_
            (try simp only [Act.put, List.setIfInBounds_toArray, List.set_cons_zero, List.set_cons_succ])
            refine wpPlan_noneD rfl rfl hSw (by rfl) ?_
            (try simp only [Act.put, List.setIfInBounds_toArray, List.set_cons_zero, List.set_cons_succ])
            refine wpPlan_passD rfl rfl (by rfl) hSw ?_
            (try simp only [Act.put, List.setIfInBounds_toArray, List.set_cons_zero, List.set_cons_succ])
            refine wpPlan_noneD rfl rfl hSw (by rfl) ?_
            (try simp only [Act.put, List.setIfInBounds_toArray, List.set_cons_zero, List.set_cons_succ])
            refine wpPlan_takeD (v := ?ve4_5) rfl rfl hSw (by rfl) ?ye4_5 ?_
            case ye4_5 => (intro w hSx; (try dsimp only at hSx); go_simp; first | done | with_reducible rfl | rfl)
            (try simp only [Act.put, List.setIfInBounds_toArray, List.set_cons_zero, List.set_cons_succ])
            refine wpPlan_takeD (v := ?ve4_6) rfl rfl hSw (by rfl) ?ye4_6 ?_
            case ye4_6 => (intro w hSx; (try dsimp only at hSx); go_simp; first | done | with_reducible rfl | rfl)
            (try simp only [Act.put, List.setIfInBounds_toArray, List.set_cons_zero, List.set_cons_succ])
            refine wpPlan_takeD (v := ?ve4_7) rfl rfl hSw (by rfl) ?ye4_7 ?_
            case ye4_7 => (intro w hSx; (try dsimp only at hSx); go_simp; first | done | with_reducible rfl | rfl)
            (try simp only [Act.put, List.setIfInBounds_toArray, List.set_cons_zero, List.set_cons_succ])
            refine wpPlan_takeD (v := ?ve4_8) rfl rfl hSw (by rfl) ?ye4_8 ?_
            case ye4_8 => (intro w hSx; (try dsimp only at hSx); go_simp; first | done | with_reducible rfl | rfl)
            (try simp only [Act.put, List.setIfInBounds_toArray, List.set_cons_zero, List.set_cons_succ])
            refine wpPlan_takeD (v := ?ve4_9) rfl rfl hSw (by rfl) ?ye4_9 ?_
            case ye4_9 => (intro w hSx; (try dsimp only at hSx); go_simp; first | done | with_reducible rfl | rfl)
            (try simp only [Act.put, List.setIfInBounds_toArray, List.set_cons_zero, List.set_cons_succ])
            refine wpPlan_takeD (v := ?ve4_10) rfl rfl hSw (by rfl) ?ye4_10 ?_
            case ye4_10 => (intro w hSx; (try dsimp only at hSx); go_simp; first | done | with_reducible rfl | rfl)
            (try simp only [Act.put, List.setIfInBounds_toArray, List.set_cons_zero, List.set_cons_succ])
            refine wpPlan_takeD (v := ?ve4_11) rfl rfl hSw (by rfl) ?ye4_11 ?_
            case ye4_11 => (intro w hSx; (try dsimp only at hSx); go_simp; first | done | with_reducible rfl | rfl)
            (try simp only [Act.put, List.setIfInBounds_toArray, List.set_cons_zero, List.set_cons_succ])
            refine wpPlan_takeD (v := ?ve4_12) rfl rfl hSw (by rfl) ?ye4_12 ?_
            case ye4_12 => (intro w hSx; (try dsimp only at hSx); go_simp; first | done | with_reducible rfl | rfl)
            (try simp only [Act.put, List.setIfInBounds_toArray, List.set_cons_zero, List.set_cons_succ])
            refine wpPlan_run rfl (by rfl) (fun K' hK => ?_)
            (go_simp; go_at_call 89; refine (HEM.out _ HSD.out.2.2.2.2.2).mono ?_; rintro e w' ⟨rfl, d1, d2, d3, d4, d5, d6⟩)
            refine hK _ _ (.inr ?_) ?_
            · exact (And.intro d1 (And.intro d2 (And.intro d3 (And.intro d4 (And.intro d5 d6)))))
            clear hK K' hSw
            have hSw := (And.intro d1 (And.intro d2 (And.intro d3 (And.intro d4 (And.intro d5 d6)))))
            (try simp only [Act.put, List.setIfInBounds_toArray, List.set_cons_zero, List.set_cons_succ])
            refine wpPlan_takeD (v := ?ve4_13) rfl rfl hSw (by rfl) ?ye4_13 ?_
            case ye4_13 => (intro w hSx; (try dsimp only at hSx); go_simp; first | done | with_reducible rfl | rfl)
            (try simp only [Act.put, List.setIfInBounds_toArray, List.set_cons_zero, List.set_cons_succ])
            refine wpPlan_takeD (v := ?ve4_14) rfl rfl hSw (by rfl) ?ye4_14 ?_
            case ye4_14 => (intro w hSx; (try dsimp only at hSx); go_simp; first | done | with_reducible rfl | rfl)
            (try simp only [Act.put, List.setIfInBounds_toArray, List.set_cons_zero, List.set_cons_succ])
            refine wpPlan_takeD (v := ?ve4_15) rfl rfl hSw (by rfl) ?ye4_15 ?_
            case ye4_15 => (intro w hSx; (try dsimp only at hSx); go_simp; first | done | with_reducible rfl | rfl)
            (try simp only [Act.put, List.setIfInBounds_toArray, List.set_cons_zero, List.set_cons_succ])
            refine wpPlan_takeD (v := ?ve4_16) rfl rfl hSw (by rfl) ?ye4_16 ?_
            case ye4_16 => (intro w hSx; (try dsimp only at hSx); go_simp; first | done | with_reducible rfl | rfl)
            (try simp only [Act.put, List.setIfInBounds_toArray, List.set_cons_zero, List.set_cons_succ])
            refine wpPlan_takeD (v := ?ve4_17) rfl rfl hSw (by rfl) ?ye4_17 ?_
            case ye4_17 => (intro w hSx; (try dsimp only at hSx); go_simp; first | done | with_reducible rfl | rfl)
            (try simp only [Act.put, List.setIfInBounds_toArray, List.set_cons_zero, List.set_cons_succ])
            refine wpPlan_takeD (v := ?ve4_18) rfl rfl hSw (by rfl) ?ye4_18 ?_
            case ye4_18 => (intro w hSx; (try dsimp only at hSx); go_simp; first | done | with_reducible rfl | rfl)
            (try simp only [Act.put, List.setIfInBounds_toArray, List.set_cons_zero, List.set_cons_succ])
            refine wpPlan_takeD (v := ?ve4_19) rfl rfl hSw (by rfl) ?ye4_19 ?_
            case ye4_19 => (intro w hSx; (try dsimp only at hSx); go_simp; first | done | with_reducible rfl | rfl)
            (try simp only [Act.put, List.setIfInBounds_toArray, List.set_cons_zero, List.set_cons_succ])
            refine wpPlan_run rfl (by rfl) (fun K' hK => ?_)
            (go_simp; go_at_call 90; refine (HEN.out _ d6).mono ?_; rintro e w' ⟨rfl, d1, d2, d3, d4, d5, d6⟩)
            refine hK _ _ (.inr ?_) ?_
            · exact (And.intro d1 (And.intro d2 (And.intro d3 (And.intro d4 (And.intro d5 d6)))))
            clear hK K' hSw
            have hSw := (And.intro d1 (And.intro d2 (And.intro d3 (And.intro d4 (And.intro d5 d6)))))
            (try simp only [Act.put, List.setIfInBounds_toArray, List.set_cons_zero, List.set_cons_succ])
            refine wpPlan_takeD (v := ?ve4_20) rfl rfl hSw (by rfl) ?ye4_20 ?_
            case ye4_20 => (intro w hSx; (try dsimp only at hSx); go_simp; first | done | with_reducible rfl | rfl)
            (try simp only [Act.put, List.setIfInBounds_toArray, List.set_cons_zero, List.set_cons_succ])
            refine wpPlan_takeD (v := ?ve4_21) rfl rfl hSw (by rfl) ?ye4_21 ?_
            case ye4_21 => (intro w hSx; (try dsimp only at hSx); go_simp; first | done | with_reducible rfl | rfl)
            (try simp only [Act.put, List.setIfInBounds_toArray, List.set_cons_zero, List.set_cons_succ])
            refine wpPlan_takeD (v := ?ve4_22) rfl rfl hSw (by rfl) ?ye4_22 ?_
            case ye4_22 => (intro w hSx; (try dsimp only at hSx); go_simp; first | done | with_reducible rfl | rfl)
            (try simp only [Act.put, List.setIfInBounds_toArray, List.set_cons_zero, List.set_cons_succ])
            refine wpPlan_takeD (v := ?ve4_23) rfl rfl hSw (by rfl) ?ye4_23 ?_
            case ye4_23 => (intro w hSx; (try dsimp only at hSx); go_simp; first | done | with_reducible rfl | rfl)
            (try simp only [Act.put, List.setIfInBounds_toArray, List.set_cons_zero, List.set_cons_succ])
            refine wpPlan_done ?_
            all_goals (go_wp2_with fail; go_ret; exact ⟨ret_bool (by rw [← HI3.out]; rfl), below_box (HFIN.out _ d6)⟩)
    · obtain rfl : k = n := by omega
      have hdn : ps.drop k = [] := List.drop_of_length_le (by have := HNL.out; omega)
      have hi := HI.out
      rw [hdn] at hi
      have HI2 := Lib.hid (show true = R from hi)
      clear hi HI hdn
      go_wp2_with fail
      refine (HNO.out _).mono ?_
      rintro e w' ⟨rfl, hb'⟩
      have HB' := Lib.hid (HB.out.trans (hb'.mono hsz))
      have hF := (hb'.block W.heap.size hl1).trans HF.out
      have d1 := cell_at (i := 1) hF; have d2 := cell_at (i := 2) hF; have d3 := cell_at (i := 3) hF; have d4 := cell_at (i := 4) hF
      have hl2 := lt_at hF
      clear hb' hF
      cases qn with
      | true =>
        go_wp2_with fail
        go_ret
        exact ⟨ret_bool (by rw [← HI2.out]; rfl), below_box HB'.out⟩
      | false =>
        go_wp2_with fail
        refine (HPR.out _).mono ?_
        rintro e w2 ⟨rfl, hb2⟩
        have HB2 := Lib.hid (HB'.out.trans (hb2.mono (by have := HB'.out.size; simp at this; omega)))
        clear hb2
        go_wp2_with fail
        go_ret
        exact ⟨ret_bool (by rw [← HI2.out]; simp), below_box HB2.out⟩
end Go.Proofs.YtphdfbmmjkccgaaDoor
