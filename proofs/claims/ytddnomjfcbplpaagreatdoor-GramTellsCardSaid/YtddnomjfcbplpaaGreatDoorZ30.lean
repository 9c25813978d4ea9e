import Derived.Test.YtddnomjfcbplpaaGreatDoorZ08
import Derived.Test.YtddnomjfcbplpaaGreatDoorZ07
namespace Go.Proofs.YtddnomjfcbplpaaGreatDoor
open Go.RowKit

set_option maxRecDepth 100000 in
set_option maxHeartbeats 25600000 in
theorem ref7_mayAlt (a : Sp.Alt) (v : Value) (W : World) (hsl : SlAt W v 6 (a.parts.map partC)) (hs : smallAlt a) :
  Calls Tryz.prog 50 #[.agg (altC v a).toArray] W fun e w' => e = .returned (.bool (Sp.mayAlt a)) ∧ Below W.heap.size W w' := by
 obtain ⟨hs1, hs2, hs3⟩ := hs
 rw [Sp.mayAlt_ref]
 obtain ⟨ps, ⟨nm, lt, nu, pa⟩, pb⟩ := a
 simp only at hs1 hs2 hs3 hsl
 have HNO := zh (fun w => ref7_none ⟨nm, lt, nu, pa⟩ w)
 have HPR := zh (fun w => ref7_symbol ⟨nm, lt, nu, pa⟩ false true w hs3)
 generalize Sp.isNone ⟨nm, lt, nu, pa⟩ = qn at HNO
 generalize Sp.refSym ⟨nm, lt, nu, pa⟩ false true = qp at HPR
 generalize hR : ps.all Sp.mayPart = R
 obtain ⟨av, cap, rfl⟩ := hsl.form
 have HSL := zh hsl
 rw [List.length_map] at *
 generalize hnl : ps.length = n at *
 have HNL := zh hnl
 have HR := zh hR
 have HS2 := zh hs2
 clear hsl hs2 hs3 hnl hR
 show Calls _ _ #[.agg #[.slice av n cap, .string ⟨nm.toArray⟩, .bool lt, .int .i64 nu, .int .i64 pa, .int .i64 pb]] _ _
 go_enter Tryz.func50, Tryz.ntmps50
 go_wp2_with fail
 go_loopg [3] n (fun g iv wr => ∃ k : Nat, k ≤ n ∧ g = n - k ∧ iv = .int .i64 k ∧ (ps.drop k).all Sp.mayPart = R ∧ Below (W.heap.size + 1) (W.alloc (.cells #[.slice av n cap, .string ⟨nm.toArray⟩, .bool lt, .int .i64 nu, .int .i64 pa, .int .i64 pb] 60)) wr)
 case atStart => exact ⟨0, Nat.zero_le _, rfl, rfl, HR.out, Below.refl _ _⟩
 case round =>
  obtain ⟨k, hk, rfl, rfl, hi, hbel⟩ := hrel
  have HI := zh hi
  have hF := (hbel.block W.heap.size (by omega)).trans (heap_last W _)
  have c0 := cell_at (i := 0) hF; have c1 := cell_at (i := 1) hF; have c2 := cell_at (i := 2) hF; have c3 := cell_at (i := 3) hF; have c4 := cell_at (i := 4) hF
  have hl1 := lt_at hF
  have HF := zh hF
  have HB := zh hbel
  have hk0 : (0 : Int) ≤ (k : Int) := Int.natCast_nonneg _
  have hsz : W.heap.size + 1 ≤ wr.heap.size := by have := HB.out.size; simp at this; omega
  clear hi hF hbel
  by_cases hkn : k < n
  ·have hkl : k < ps.length := by have := HNL.out; omega
   have hp : ps[k]? = some ps[k] := List.getElem?_eq_getElem hkl
   have hmem : ps[k] ∈ ps := List.getElem_mem hkl
   have hdr : ps.drop k = ps[k] :: ps.drop (k + 1) := List.drop_eq_getElem_cons hkl
   generalize ps[k] = p at *
   have hsm := HS2.out p hmem
   have hi := HI.out
   rw [hdr, List.all_cons, Sp.mayPart_ref] at hi
   obtain ⟨b, off, rfl, hbl, hc⟩ := HSL.out.at (k := k) (row := partC p) (by rw [List.getElem?_map, hp]; rfl)
   have hcc := hc _ (below_box HB.out)
   obtain ⟨⟨snm, slt, snu, spa⟩, cd, pc⟩ := p
   have a0 := hcc 0 _ rfl; have a1 := hcc 1 _ rfl; have a2 := hcc 2 _ rfl; have a3 := hcc 3 _ rfl; have a4 := hcc 4 _ rfl; have a5 := hcc 5 _ rfl
   simp only [Nat.add_zero] at a0
   have hk1 : (k : Int) < (n : Int) := by omega
   have hlb : b < wr.heap.size := by omega
   clear hc hcc hp hmem hdr HI hkl
   have HFIN : Hid (∀ w2, Below (wr.heap.size + 1) (wr.alloc (.cells #[.string ⟨snm.toArray⟩, .bool slt, .int .i64 snu, .int .i64 spa, .string ⟨cd.toArray⟩, .int .i64 pc] 47)) w2 → Below (W.heap.size + 1) (W.alloc (.cells #[.slice (some ⟨b, off, none⟩) n cap, .string ⟨nm.toArray⟩, .bool lt, .int .i64 nu, .int .i64 pa, .int .i64 pb] 60)) w2) := zh (fun w2 h => (HB.out.alloc hsz _).trans (h.mono (by omega)))
   have hcs : ∀ w2, Below (wr.heap.size + 1) (wr.alloc (.cells #[.string ⟨snm.toArray⟩, .bool slt, .int .i64 snu, .int .i64 spa, .string ⟨cd.toArray⟩, .int .i64 pc] 47)) w2 → w2.cell? ⟨wr.heap.size, 0, none⟩ = some (.string ⟨snm.toArray⟩) ∧ w2.cell? ⟨wr.heap.size, 1, none⟩ = some (.bool slt) ∧ w2.cell? ⟨wr.heap.size, 2, none⟩ = some (.int .i64 snu) ∧ w2.cell? ⟨wr.heap.size, 3, none⟩ = some (.int .i64 spa) ∧ w2.cell? ⟨wr.heap.size, 4, none⟩ = some (.string ⟨cd.toArray⟩) ∧ Below (wr.heap.size + 1) (wr.alloc (.cells #[.string ⟨snm.toArray⟩, .bool slt, .int .i64 snu, .int .i64 spa, .string ⟨cd.toArray⟩, .int .i64 pc] 47)) w2 := fun w2 h => by
    have hF := (h.block wr.heap.size (by omega)).trans (heap_last wr _)
    exact ⟨cell_at (i := 0) hF, cell_at (i := 1) hF, cell_at (i := 2) hF, cell_at (i := 3) hF, cell_at (i := 4) hF, h⟩
   have HSY := zh (fun W' (hW' : Below (wr.heap.size + 1) (wr.alloc (.cells #[.string ⟨snm.toArray⟩, .bool slt, .int .i64 snu, .int .i64 spa, .string ⟨cd.toArray⟩, .int .i64 pc] 47)) W') => (ref7_symbol ⟨snm, slt, snu, spa⟩ false true W' hsm.1).mono fun e w'' (h : e = .returned (.bool (Sp.refSym ⟨snm, slt, snu, spa⟩ false true)) ∧ Below W'.heap.size W' w'') => And.intro h.1 (hcs w'' (hW'.trans (h.2.mono (by have := hW'.size; simp at this; omega)))))
   have HEM := zh (fun W' (hW' : Below (wr.heap.size + 1) (wr.alloc (.cells #[.string ⟨snm.toArray⟩, .bool slt, .int .i64 snu, .int .i64 spa, .string ⟨cd.toArray⟩, .int .i64 pc] 47)) W') => (ref7_none ⟨snm, slt, snu, spa⟩ W').mono fun e w'' (h : e = .returned (.bool (Sp.isNone ⟨snm, slt, snu, spa⟩)) ∧ Below W'.heap.size W' w'') => And.intro h.1 (hcs w'' (hW'.trans (h.2.mono (by have := hW'.size; simp at this; omega)))))
   have HEN := zh (fun W' (hW' : Below (wr.heap.size + 1) (wr.alloc (.cells #[.string ⟨snm.toArray⟩, .bool slt, .int .i64 snu, .int .i64 spa, .string ⟨cd.toArray⟩, .int .i64 pc] 47)) W') => (ref_End ⟨cd.toArray⟩ 0 W' (by rw [Lib.size_eq]; show cd.length < _; have := hsm.2; simp only at this; omega)).mono fun e w'' (h : e = .returned (.int .i64 (Sp.endAt cd 0)) ∧ ∃ n, w'' = W'.drewN n) => And.intro h.1 (hcs w'' (by obtain ⟨n, hn⟩ := h.2; rw [hn]; exact below_drewN hW' n)))
   have hcl : (⟨cd.toArray⟩ : ByteArray).size = cd.length := by rw [Lib.size_eq]
   generalize Sp.endAt cd 0 = E at HEN hi
   generalize Sp.isNone ⟨snm, slt, snu, spa⟩ = q1 at HEM hi
   generalize Sp.refSym ⟨snm, slt, snu, spa⟩ false true = q at HSY hi
   have hself := hcs _ (Below.refl _ _)
   have hselfd := hcs _ (below_drewN (Below.refl _ _) 1)
   have HS1 := zh hself; have HSD := zh hselfd
   clear hcs hself hselfd hsm
   cases cd with
   | nil =>
    have e : (!((decide (([] : List UInt8) = []) && !q) || (decide (([] : List UInt8) ≠ []) && (!q1 || decide (E ≠ (([] : List UInt8).length : Int)))))) = q := by cases q <;> rfl
    have hi2 : (q && (ps.drop (k + 1)).all Sp.mayPart) = R := by rw [← e]; exact hi
    have HI2 := zh hi2
    clear hi2
    clear hi e hcl HEM HEN
    cases q with
    | false =>
     go_wp2_with fail
     refine wp_region_plan (fun w' : World => w'.cell? ⟨wr.heap.size, 0, none⟩ = some (.string ⟨snm.toArray⟩) ∧ w'.cell? ⟨wr.heap.size, 1, none⟩ = some (.bool slt) ∧ w'.cell? ⟨wr.heap.size, 2, none⟩ = some (.int .i64 snu) ∧ w'.cell? ⟨wr.heap.size, 3, none⟩ = some (.int .i64 spa) ∧ w'.cell? ⟨wr.heap.size, 4, none⟩ = some (.string ⟨#[]⟩) ∧ Below (wr.heap.size + 1) (wr.alloc (.cells #[.string ⟨snm.toArray⟩, .bool slt, .int .i64 snu, .int .i64 spa, .string ⟨#[]⟩, .int .i64 pc] 47)) w') [] (.take 0 (.take 1 (.take 2 (.take 3 (.take 4 (.take 5 (.one 6 (.take 7 (.take 8 (.take 9 (.take 10 (.take 11 (.take 12 (.take 13 (.take 14 (.take 15 (.one 16 (.take 17 (.take 18 (.take 19 (.take 20 (.take 22 (.take 23 (.take 24 (.one 21 (.take 25 (.take 26 (.take 27 (.take 28 (.done)))))))))))))))))))))))))))))) (by kernel_rfl) (by kernel_rfl) (fun _ _ _ _ h => h) ?_
     have hSw := HSD.out
     iterate 6 (refine wpPlan_takeD (v := ?_) rfl rfl hSw (by rfl) ?_ ?_; rotate_left 1; (focus (intro w hSx; (try dsimp only at hSx); go_simp; first | done | with_reducible rfl | rfl)); (try simp only [Act.put, zq0, zq1, zq2]))
     refine wpPlan_run rfl (by rfl) (fun K' hK => ?_)
     (go_simp; go_at_call 69; refine (HSY.out _ HSD.out.2.2.2.2.2).mono ?_; rintro e w' ⟨rfl, d1, d2, d3, d4, d5, d6⟩)
     refine hK _ _ (.inr ?_) ?_
     ·exact (And.intro d1 (And.intro d2 (And.intro d3 (And.intro d4 (And.intro d5 d6)))))
     clear hK K' hSw
     have hSw := (And.intro d1 (And.intro d2 (And.intro d3 (And.intro d4 (And.intro d5 d6)))))
     (try simp only [Act.put, zq0, zq1, zq2])
     iterate 3 (refine wpPlan_takeD (v := ?_) rfl rfl hSw (by rfl) ?_ ?_; rotate_left 1; (focus (intro w hSx; (try dsimp only at hSx); go_simp; first | done | with_reducible rfl | rfl)); (try simp only [Act.put, zq0, zq1, zq2]))
     refine wpPlan_noneD rfl rfl hSw (by rfl) ?_
     (try simp only [Act.put, zq0, zq1, zq2])
     refine wpPlan_noneD rfl rfl hSw (by rfl) ?_
     (try simp only [Act.put, zq0, zq1, zq2])
     refine wpPlan_noneD rfl rfl hSw (by rfl) ?_
     (try simp only [Act.put, zq0, zq1, zq2])
     refine wpPlan_noneD rfl rfl hSw (by rfl) ?_
     (try simp only [Act.put, zq0, zq1, zq2])
     refine wpPlan_noneD rfl rfl hSw (by rfl) ?_
     (try simp only [Act.put, zq0, zq1, zq2])
     refine wpPlan_noneD rfl rfl hSw (by rfl) ?_
     (try simp only [Act.put, zq0, zq1, zq2])
     refine wpPlan_passD rfl rfl (by rfl) hSw ?_
     (try simp only [Act.put, zq0, zq1, zq2])
     refine wpPlan_noneD rfl rfl hSw (by rfl) ?_
     (try simp only [Act.put, zq0, zq1, zq2])
     refine wpPlan_noneD rfl rfl hSw (by rfl) ?_
     (try simp only [Act.put, zq0, zq1, zq2])
     refine wpPlan_noneD rfl rfl hSw (by rfl) ?_
     (try simp only [Act.put, zq0, zq1, zq2])
     refine wpPlan_noneD rfl rfl hSw (by rfl) ?_
     (try simp only [Act.put, zq0, zq1, zq2])
     refine wpPlan_noneD rfl rfl hSw (by rfl) ?_
     (try simp only [Act.put, zq0, zq1, zq2])
     refine wpPlan_noneD rfl rfl hSw (by rfl) ?_
     (try simp only [Act.put, zq0, zq1, zq2])
     refine wpPlan_noneD rfl rfl hSw (by rfl) ?_
     (try simp only [Act.put, zq0, zq1, zq2])
     refine wpPlan_passD rfl rfl (by rfl) hSw ?_
     (try simp only [Act.put, zq0, zq1, zq2])
     refine wpPlan_noneD rfl rfl hSw (by rfl) ?_
     (try simp only [Act.put, zq0, zq1, zq2])
     refine wpPlan_noneD rfl rfl hSw (by rfl) ?_
     (try simp only [Act.put, zq0, zq1, zq2])
     refine wpPlan_noneD rfl rfl hSw (by rfl) ?_
     (try simp only [Act.put, zq0, zq1, zq2])
     iterate 1 (refine wpPlan_takeD (v := ?_) rfl rfl hSw (by rfl) ?_ ?_; rotate_left 1; (focus (intro w hSx; (try dsimp only at hSx); go_simp; first | done | with_reducible rfl | rfl)); (try simp only [Act.put, zq0, zq1, zq2]))
     refine wpPlan_done ?_
     all_goals (go_wp2_with fail; go_ret; exact ⟨ret_bool (by rw [← HI2.out]; rfl), below_box (HFIN.out _ d6)⟩)
    | true =>
     go_wp2_with fail
     refine wp_region_plan (fun w' : World => w'.cell? ⟨wr.heap.size, 0, none⟩ = some (.string ⟨snm.toArray⟩) ∧ w'.cell? ⟨wr.heap.size, 1, none⟩ = some (.bool slt) ∧ w'.cell? ⟨wr.heap.size, 2, none⟩ = some (.int .i64 snu) ∧ w'.cell? ⟨wr.heap.size, 3, none⟩ = some (.int .i64 spa) ∧ w'.cell? ⟨wr.heap.size, 4, none⟩ = some (.string ⟨#[]⟩) ∧ Below (wr.heap.size + 1) (wr.alloc (.cells #[.string ⟨snm.toArray⟩, .bool slt, .int .i64 snu, .int .i64 spa, .string ⟨#[]⟩, .int .i64 pc] 47)) w') [] (.take 0 (.take 1 (.take 2 (.take 3 (.take 4 (.take 5 (.one 6 (.take 7 (.take 8 (.take 9 (.take 10 (.take 11 (.take 12 (.take 13 (.take 14 (.take 15 (.one 16 (.take 17 (.take 18 (.take 19 (.take 20 (.take 22 (.take 23 (.take 24 (.one 21 (.take 25 (.take 26 (.take 27 (.take 28 (.done)))))))))))))))))))))))))))))) (by kernel_rfl) (by kernel_rfl) (fun _ _ _ _ h => h) ?_
     have hSw := HSD.out
     iterate 6 (refine wpPlan_takeD (v := ?_) rfl rfl hSw (by rfl) ?_ ?_; rotate_left 1; (focus (intro w hSx; (try dsimp only at hSx); go_simp; first | done | with_reducible rfl | rfl)); (try simp only [Act.put, zq0, zq1, zq2]))
     refine wpPlan_run rfl (by rfl) (fun K' hK => ?_)
     (go_simp; go_at_call 69; refine (HSY.out _ HSD.out.2.2.2.2.2).mono ?_; rintro e w' ⟨rfl, d1, d2, d3, d4, d5, d6⟩)
     refine hK _ _ (.inr ?_) ?_
     ·exact (And.intro d1 (And.intro d2 (And.intro d3 (And.intro d4 (And.intro d5 d6)))))
     clear hK K' hSw
     have hSw := (And.intro d1 (And.intro d2 (And.intro d3 (And.intro d4 (And.intro d5 d6)))))
     (try simp only [Act.put, zq0, zq1, zq2])
     iterate 7 (refine wpPlan_takeD (v := ?_) rfl rfl hSw (by rfl) ?_ ?_; rotate_left 1; (focus (intro w hSx; (try dsimp only at hSx); go_simp; first | done | with_reducible rfl | rfl)); (try simp only [Act.put, zq0, zq1, zq2]))
     refine wpPlan_noneD rfl rfl hSw (by rfl) ?_
     (try simp only [Act.put, zq0, zq1, zq2])
     refine wpPlan_noneD rfl rfl hSw (by rfl) ?_
     (try simp only [Act.put, zq0, zq1, zq2])
     refine wpPlan_passD rfl rfl (by rfl) hSw ?_
     (try simp only [Act.put, zq0, zq1, zq2])
     refine wpPlan_noneD rfl rfl hSw (by rfl) ?_
     (try simp only [Act.put, zq0, zq1, zq2])
     refine wpPlan_noneD rfl rfl hSw (by rfl) ?_
     (try simp only [Act.put, zq0, zq1, zq2])
     refine wpPlan_noneD rfl rfl hSw (by rfl) ?_
     (try simp only [Act.put, zq0, zq1, zq2])
     refine wpPlan_noneD rfl rfl hSw (by rfl) ?_
     (try simp only [Act.put, zq0, zq1, zq2])
     refine wpPlan_noneD rfl rfl hSw (by rfl) ?_
     (try simp only [Act.put, zq0, zq1, zq2])
     refine wpPlan_noneD rfl rfl hSw (by rfl) ?_
     (try simp only [Act.put, zq0, zq1, zq2])
     refine wpPlan_noneD rfl rfl hSw (by rfl) ?_
     (try simp only [Act.put, zq0, zq1, zq2])
     refine wpPlan_passD rfl rfl (by rfl) hSw ?_
     (try simp only [Act.put, zq0, zq1, zq2])
     refine wpPlan_noneD rfl rfl hSw (by rfl) ?_
     (try simp only [Act.put, zq0, zq1, zq2])
     refine wpPlan_noneD rfl rfl hSw (by rfl) ?_
     (try simp only [Act.put, zq0, zq1, zq2])
     iterate 2 (refine wpPlan_takeD (v := ?_) rfl rfl hSw (by rfl) ?_ ?_; rotate_left 1; (focus (intro w hSx; (try dsimp only at hSx); go_simp; first | done | with_reducible rfl | rfl)); (try simp only [Act.put, zq0, zq1, zq2]))
     refine wpPlan_done ?_
     all_goals
      go_wp2_with fail
      go_roundg (n - (k + 1))
      case measure => omega
      case rel => exact ⟨k + 1, by omega, rfl, by go_num, by rw [← HI2.out]; rfl, HFIN.out _ d6⟩
   | cons c u =>
    have hne : (c :: u).isEmpty = false := rfl
    have e : (!((decide ((c :: u) = []) && !q) || (decide ((c :: u) ≠ []) && (!q1 || decide (E ≠ ((c :: u).length : Int)))))) = (q1 && (E == ((u.length + 1 : Nat) : Int))) := by
     cases q1 <;> simp
     rw [Bool.eq_iff_iff]; simp
    have hi2 : ((q1 && (E == ((u.length + 1 : Nat) : Int))) && (ps.drop (k + 1)).all Sp.mayPart) = R := by rw [← e]; exact hi
    have HI2 := zh hi2
    clear hi2
    have hsz1 : (⟨(c :: u).toArray⟩ : ByteArray).size = u.length + 1 := hcl
    clear hi e hcl HSY
    cases q1 with
    | false =>
     go_wp2_with fail
     refine wp_region_plan (fun w' : World => w'.cell? ⟨wr.heap.size, 0, none⟩ = some (.string ⟨snm.toArray⟩) ∧ w'.cell? ⟨wr.heap.size, 1, none⟩ = some (.bool slt) ∧ w'.cell? ⟨wr.heap.size, 2, none⟩ = some (.int .i64 snu) ∧ w'.cell? ⟨wr.heap.size, 3, none⟩ = some (.int .i64 spa) ∧ w'.cell? ⟨wr.heap.size, 4, none⟩ = some (.string ⟨(c :: u).toArray⟩) ∧ Below (wr.heap.size + 1) (wr.alloc (.cells #[.string ⟨snm.toArray⟩, .bool slt, .int .i64 snu, .int .i64 spa, .string ⟨(c :: u).toArray⟩, .int .i64 pc] 47)) w') [] (.take 0 (.take 1 (.take 2 (.take 3 (.take 4 (.take 5 (.one 6 (.take 7 (.take 8 (.take 9 (.take 10 (.take 11 (.take 12 (.take 13 (.take 14 (.take 15 (.one 16 (.take 17 (.take 18 (.take 19 (.take 20 (.take 22 (.take 23 (.take 24 (.one 21 (.take 25 (.take 26 (.take 27 (.take 28 (.done)))))))))))))))))))))))))))))) (by kernel_rfl) (by kernel_rfl) (fun _ _ _ _ h => h) ?_
     have hSw := HSD.out
     iterate 4 (refine wpPlan_takeD (v := ?_) rfl rfl hSw (by rfl) ?_ ?_; rotate_left 1; (focus (intro w hSx; (try dsimp only at hSx); go_simp; first | done | with_reducible rfl | rfl)); (try simp only [Act.put, zq0, zq1, zq2]))
     refine wpPlan_noneD rfl rfl hSw (by rfl) ?_
     (try simp only [Act.put, zq0, zq1, zq2])
     refine wpPlan_noneD rfl rfl hSw (by rfl) ?_
     (try simp only [Act.put, zq0, zq1, zq2])
     refine wpPlan_passD rfl rfl (by rfl) hSw ?_
     (try simp only [Act.put, zq0, zq1, zq2])
     refine wpPlan_noneD rfl rfl hSw (by rfl) ?_
     (try simp only [Act.put, zq0, zq1, zq2])
     iterate 8 (refine wpPlan_takeD (v := ?_) rfl rfl hSw (by rfl) ?_ ?_; rotate_left 1; (focus (intro w hSx; (try dsimp only at hSx); go_simp; first | done | with_reducible rfl | rfl)); (try simp only [Act.put, zq0, zq1, zq2]))
     refine wpPlan_run rfl (by rfl) (fun K' hK => ?_)
     (go_simp; go_at_call 71; refine (HEM.out _ HSD.out.2.2.2.2.2).mono ?_; rintro e w' ⟨rfl, d1, d2, d3, d4, d5, d6⟩)
     refine hK _ _ (.inr ?_) ?_
     ·exact (And.intro d1 (And.intro d2 (And.intro d3 (And.intro d4 (And.intro d5 d6)))))
     clear hK K' hSw
     have hSw := (And.intro d1 (And.intro d2 (And.intro d3 (And.intro d4 (And.intro d5 d6)))))
     (try simp only [Act.put, zq0, zq1, zq2])
     iterate 2 (refine wpPlan_takeD (v := ?_) rfl rfl hSw (by rfl) ?_ ?_; rotate_left 1; (focus (intro w hSx; (try dsimp only at hSx); go_simp; first | done | with_reducible rfl | rfl)); (try simp only [Act.put, zq0, zq1, zq2]))
     refine wpPlan_noneD rfl rfl hSw (by rfl) ?_
     (try simp only [Act.put, zq0, zq1, zq2])
     refine wpPlan_noneD rfl rfl hSw (by rfl) ?_
     (try simp only [Act.put, zq0, zq1, zq2])
     refine wpPlan_noneD rfl rfl hSw (by rfl) ?_
     (try simp only [Act.put, zq0, zq1, zq2])
     refine wpPlan_noneD rfl rfl hSw (by rfl) ?_
     (try simp only [Act.put, zq0, zq1, zq2])
     refine wpPlan_noneD rfl rfl hSw (by rfl) ?_
     (try simp only [Act.put, zq0, zq1, zq2])
     refine wpPlan_passD rfl rfl (by rfl) hSw ?_
     (try simp only [Act.put, zq0, zq1, zq2])
     refine wpPlan_noneD rfl rfl hSw (by rfl) ?_
     (try simp only [Act.put, zq0, zq1, zq2])
     iterate 3 (refine wpPlan_takeD (v := ?_) rfl rfl hSw (by rfl) ?_ ?_; rotate_left 1; (focus (intro w hSx; (try dsimp only at hSx); go_simp; first | done | with_reducible rfl | rfl)); (try simp only [Act.put, zq0, zq1, zq2]))
     refine wpPlan_done ?_
     all_goals (go_wp2_with fail; go_ret; exact ⟨ret_bool (by rw [← HI2.out]; rfl), below_box (HFIN.out _ d6)⟩)
    | true =>
     by_cases hE : E = ((u.length + 1 : Nat) : Int)
     ·subst hE
      have HI3 : Hid ((ps.drop (k + 1)).all Sp.mayPart = R) := zh (by rw [← HI2.out]; simp)
      clear HI2
      go_wp2_with fail
      refine wp_region_plan (fun w' : World => w'.cell? ⟨wr.heap.size, 0, none⟩ = some (.string ⟨snm.toArray⟩) ∧ w'.cell? ⟨wr.heap.size, 1, none⟩ = some (.bool slt) ∧ w'.cell? ⟨wr.heap.size, 2, none⟩ = some (.int .i64 snu) ∧ w'.cell? ⟨wr.heap.size, 3, none⟩ = some (.int .i64 spa) ∧ w'.cell? ⟨wr.heap.size, 4, none⟩ = some (.string ⟨(c :: u).toArray⟩) ∧ Below (wr.heap.size + 1) (wr.alloc (.cells #[.string ⟨snm.toArray⟩, .bool slt, .int .i64 snu, .int .i64 spa, .string ⟨(c :: u).toArray⟩, .int .i64 pc] 47)) w') [] (.take 0 (.take 1 (.take 2 (.take 3 (.take 4 (.take 5 (.one 6 (.take 7 (.take 8 (.take 9 (.take 10 (.take 11 (.take 12 (.take 13 (.take 14 (.take 15 (.one 16 (.take 17 (.take 18 (.take 19 (.take 20 (.take 22 (.take 23 (.take 24 (.one 21 (.take 25 (.take 26 (.take 27 (.take 28 (.done)))))))))))))))))))))))))))))) (by kernel_rfl) (by kernel_rfl) (fun _ _ _ _ h => h) ?_
      have hSw := HSD.out
      iterate 4 (refine wpPlan_takeD (v := ?_) rfl rfl hSw (by rfl) ?_ ?_; rotate_left 1; (focus (intro w hSx; (try dsimp only at hSx); go_simp; first | done | with_reducible rfl | rfl)); (try simp only [Act.put, zq0, zq1, zq2]))
      refine wpPlan_noneD rfl rfl hSw (by rfl) ?_
      (try simp only [Act.put, zq0, zq1, zq2])
      refine wpPlan_noneD rfl rfl hSw (by rfl) ?_
      (try simp only [Act.put, zq0, zq1, zq2])
      refine wpPlan_passD rfl rfl (by rfl) hSw ?_
      (try simp only [Act.put, zq0, zq1, zq2])
      refine wpPlan_noneD rfl rfl hSw (by rfl) ?_
      (try simp only [Act.put, zq0, zq1, zq2])
      iterate 8 (refine wpPlan_takeD (v := ?_) rfl rfl hSw (by rfl) ?_ ?_; rotate_left 1; (focus (intro w hSx; (try dsimp only at hSx); go_simp; first | done | with_reducible rfl | rfl)); (try simp only [Act.put, zq0, zq1, zq2]))
      refine wpPlan_run rfl (by rfl) (fun K' hK => ?_)
      (go_simp; go_at_call 71; refine (HEM.out _ HSD.out.2.2.2.2.2).mono ?_; rintro e w' ⟨rfl, d1, d2, d3, d4, d5, d6⟩)
      refine hK _ _ (.inr ?_) ?_
      ·exact (And.intro d1 (And.intro d2 (And.intro d3 (And.intro d4 (And.intro d5 d6)))))
      clear hK K' hSw
      have hSw := (And.intro d1 (And.intro d2 (And.intro d3 (And.intro d4 (And.intro d5 d6)))))
      (try simp only [Act.put, zq0, zq1, zq2])
      iterate 7 (refine wpPlan_takeD (v := ?_) rfl rfl hSw (by rfl) ?_ ?_; rotate_left 1; (focus (intro w hSx; (try dsimp only at hSx); go_simp; first | done | with_reducible rfl | rfl)); (try simp only [Act.put, zq0, zq1, zq2]))
      refine wpPlan_run rfl (by rfl) (fun K' hK => ?_)
      (go_simp; go_at_call 72; refine (HEN.out _ d6).mono ?_; rintro e w' ⟨rfl, d1, d2, d3, d4, d5, d6⟩)
      refine hK _ _ (.inr ?_) ?_
      ·exact (And.intro d1 (And.intro d2 (And.intro d3 (And.intro d4 (And.intro d5 d6)))))
      clear hK K' hSw
      have hSw := (And.intro d1 (And.intro d2 (And.intro d3 (And.intro d4 (And.intro d5 d6)))))
      (try simp only [Act.put, zq0, zq1, zq2])
      iterate 4 (refine wpPlan_takeD (v := ?_) rfl rfl hSw (by rfl) ?_ ?_; rotate_left 1; (focus (intro w hSx; (try dsimp only at hSx); go_simp; first | done | with_reducible rfl | rfl)); (try simp only [Act.put, zq0, zq1, zq2]))
      refine wpPlan_done ?_
      all_goals
       go_wp2_with fail
       go_roundg (n - (k + 1))
       case measure => omega
       case rel => exact ⟨k + 1, by omega, rfl, by go_num, HI3.out, HFIN.out _ d6⟩
     ·have hEn : (E != ((u.length + 1 : Nat) : Int)) = true := by rw [bne_iff_ne]; exact hE
      have HI3 : Hid (false = R) := zh (by rw [← HI2.out]; simp; intro h; exact absurd h (by omega))
      clear HI2 hE
      go_wp2_with fail
      refine wp_region_plan (fun w' : World => w'.cell? ⟨wr.heap.size, 0, none⟩ = some (.string ⟨snm.toArray⟩) ∧ w'.cell? ⟨wr.heap.size, 1, none⟩ = some (.bool slt) ∧ w'.cell? ⟨wr.heap.size, 2, none⟩ = some (.int .i64 snu) ∧ w'.cell? ⟨wr.heap.size, 3, none⟩ = some (.int .i64 spa) ∧ w'.cell? ⟨wr.heap.size, 4, none⟩ = some (.string ⟨(c :: u).toArray⟩) ∧ Below (wr.heap.size + 1) (wr.alloc (.cells #[.string ⟨snm.toArray⟩, .bool slt, .int .i64 snu, .int .i64 spa, .string ⟨(c :: u).toArray⟩, .int .i64 pc] 47)) w') [] (.take 0 (.take 1 (.take 2 (.take 3 (.take 4 (.take 5 (.one 6 (.take 7 (.take 8 (.take 9 (.take 10 (.take 11 (.take 12 (.take 13 (.take 14 (.take 15 (.one 16 (.take 17 (.take 18 (.take 19 (.take 20 (.take 22 (.take 23 (.take 24 (.one 21 (.take 25 (.take 26 (.take 27 (.take 28 (.done)))))))))))))))))))))))))))))) (by kernel_rfl) (by kernel_rfl) (fun _ _ _ _ h => h) ?_
      have hSw := HSD.out
      iterate 4 (refine wpPlan_takeD (v := ?_) rfl rfl hSw (by rfl) ?_ ?_; rotate_left 1; (focus (intro w hSx; (try dsimp only at hSx); go_simp; first | done | with_reducible rfl | rfl)); (try simp only [Act.put, zq0, zq1, zq2]))
      refine wpPlan_noneD rfl rfl hSw (by rfl) ?_
      (try simp only [Act.put, zq0, zq1, zq2])
      refine wpPlan_noneD rfl rfl hSw (by rfl) ?_
      (try simp only [Act.put, zq0, zq1, zq2])
      refine wpPlan_passD rfl rfl (by rfl) hSw ?_
      (try simp only [Act.put, zq0, zq1, zq2])
      refine wpPlan_noneD rfl rfl hSw (by rfl) ?_
      (try simp only [Act.put, zq0, zq1, zq2])
      iterate 8 (refine wpPlan_takeD (v := ?_) rfl rfl hSw (by rfl) ?_ ?_; rotate_left 1; (focus (intro w hSx; (try dsimp only at hSx); go_simp; first | done | with_reducible rfl | rfl)); (try simp only [Act.put, zq0, zq1, zq2]))
      refine wpPlan_run rfl (by rfl) (fun K' hK => ?_)
      (go_simp; go_at_call 71; refine (HEM.out _ HSD.out.2.2.2.2.2).mono ?_; rintro e w' ⟨rfl, d1, d2, d3, d4, d5, d6⟩)
      refine hK _ _ (.inr ?_) ?_
      ·exact (And.intro d1 (And.intro d2 (And.intro d3 (And.intro d4 (And.intro d5 d6)))))
      clear hK K' hSw
      have hSw := (And.intro d1 (And.intro d2 (And.intro d3 (And.intro d4 (And.intro d5 d6)))))
      (try simp only [Act.put, zq0, zq1, zq2])
      iterate 7 (refine wpPlan_takeD (v := ?_) rfl rfl hSw (by rfl) ?_ ?_; rotate_left 1; (focus (intro w hSx; (try dsimp only at hSx); go_simp; first | done | with_reducible rfl | rfl)); (try simp only [Act.put, zq0, zq1, zq2]))
      refine wpPlan_run rfl (by rfl) (fun K' hK => ?_)
      (go_simp; go_at_call 72; refine (HEN.out _ d6).mono ?_; rintro e w' ⟨rfl, d1, d2, d3, d4, d5, d6⟩)
      refine hK _ _ (.inr ?_) ?_
      ·exact (And.intro d1 (And.intro d2 (And.intro d3 (And.intro d4 (And.intro d5 d6)))))
      clear hK K' hSw
      have hSw := (And.intro d1 (And.intro d2 (And.intro d3 (And.intro d4 (And.intro d5 d6)))))
      (try simp only [Act.put, zq0, zq1, zq2])
      iterate 4 (refine wpPlan_takeD (v := ?_) rfl rfl hSw (by rfl) ?_ ?_; rotate_left 1; (focus (intro w hSx; (try dsimp only at hSx); go_simp; first | done | with_reducible rfl | rfl)); (try simp only [Act.put, zq0, zq1, zq2]))
      refine wpPlan_done ?_
      all_goals (go_wp2_with fail; go_ret; exact ⟨ret_bool (by rw [← HI3.out]; rfl), below_box (HFIN.out _ d6)⟩)
  ·obtain rfl : k = n := by omega
   have hdn : ps.drop k = [] := List.drop_of_length_le (by have := HNL.out; omega)
   have hi := HI.out
   rw [hdn] at hi
   have HI2 := zh (show true = R from hi)
   clear hi HI hdn
   go_wp2_with fail
   refine (HNO.out _).mono ?_
   rintro e w' ⟨rfl, hb'⟩
   have HB' := zh (HB.out.trans (hb'.mono hsz))
   have hF := (hb'.block W.heap.size hl1).trans HF.out
   have d1 := cell_at (i := 1) hF; have d2 := cell_at (i := 2) hF; have d3 := cell_at (i := 3) hF; have d4 := cell_at (i := 4) hF
   have hl2 := lt_at hF
   clear hb' hF
   cases qn with
   | true =>
    go_wp2_with fail
    go_ret
    exact ⟨ret_bool (by rw [← HI2.out]; rfl), below_box HB'.out⟩
   | false =>
    go_wp2_with fail
    refine (HPR.out _).mono ?_
    rintro e w2 ⟨rfl, hb2⟩
    have HB2 := zh (HB'.out.trans (hb2.mono (by have := HB'.out.size; simp at this; omega)))
    clear hb2
    go_wp2_with fail
    go_ret
    exact ⟨ret_bool (by rw [← HI2.out]; simp), below_box HB2.out⟩
end Go.Proofs.YtddnomjfcbplpaaGreatDoor
