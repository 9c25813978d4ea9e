/- The walks of what makes a source of a grammar by numbers: symbols. -/
import Derived.Test.YthmimcegiihcnaaDoorEk
import Derived.Test.YthmimcegiihcnaaDoorKs
namespace Go.Proofs.YthmimcegiihcnaaDoor
open Go.RowKit

theorem made_Within (i : Int) (n : Nat) (w : World) (hn : 0 < n) (hb : n ≤ 60000) (hi : (Lit.int .i64 i).wf = true) :
    Calls Tryd.prog 23 #[.int .i64 i, .int .i64 n] w fun e w' => e = .returned (.int .i64 (i % (n : Int))) ∧ w = w' := by
  have h1 := Int.tmod_lt_of_pos i (b := (n : Int)) (by omega)
  have h2 : -(n : Int) < i.tmod n := by
    by_cases hi : 0 ≤ i
    · have := Int.tmod_nonneg (n : Int) hi; omega
    · have := Int.tmod_lt_of_pos (-i) (b := (n : Int)) (by omega)
      rw [Int.neg_tmod] at this; omega
  have h3 : i % (n : Int) = if i.tmod n < 0 then i.tmod n + n else i.tmod n := by
    have e1 := Int.mul_tdiv_add_tmod i n
    split
    · refine Int.emod_eq_of_lt (a := i.tmod n + n) (b := (n : Int)) (by omega) (by omega) ▸ ?_
      conv => lhs; rw [← e1]
      rw [Int.mul_add_emod_self_left, Int.add_emod_right]
    · refine Int.emod_eq_of_lt (a := i.tmod n) (b := (n : Int)) (by omega) (by omega) ▸ ?_
      conv => lhs; rw [← e1]
      rw [Int.mul_add_emod_self_left]
  generalize i % (n : Int) = N at *
  have HN := Lib.hid h3
  clear h3
  go_enter Tryd.func23, Tryd.ntmps23
  go_wp2
  all_goals (go_ret; have h3 := HN.out; refine ⟨ret_int ?_, rfl⟩)
  · rw [if_pos (by omega)] at h3
    rw [h3]
  · rw [if_neg (by omega)] at h3
    rw [h3]

theorem made_non (k : Int) (w : World) (h0 : 0 ≤ k) (h : k < 5) :
    Calls Tryd.prog 36 #[.int .i64 k] w fun e w' => e = .returned (.string ⟨(Sp.nonN k).toArray⟩) ∧ Below w.heap.size w w' := by
  have : k = 0 ∨ k = 1 ∨ k = 2 ∨ k = 3 ∨ k = 4 := by omega
  rcases this with rfl | rfl | rfl | rfl | rfl
  · have hcv := convert_one w 97
    simp only [show ((97 : UInt8).toNat : Int) = 97 from rfl] at hcv
    go_enter Tryd.func36, Tryd.ntmps36
    go_wp2_with fail
    go_ret
    exact ⟨rfl, (Below.refl _ w).alloc (Nat.le_refl _) _⟩
  · have hcv := convert_one w 98
    simp only [show ((98 : UInt8).toNat : Int) = 98 from rfl] at hcv
    go_enter Tryd.func36, Tryd.ntmps36
    go_wp2_with fail
    go_ret
    exact ⟨rfl, (Below.refl _ w).alloc (Nat.le_refl _) _⟩
  · have hcv := convert_one w 99
    simp only [show ((99 : UInt8).toNat : Int) = 99 from rfl] at hcv
    go_enter Tryd.func36, Tryd.ntmps36
    go_wp2_with fail
    go_ret
    exact ⟨rfl, (Below.refl _ w).alloc (Nat.le_refl _) _⟩
  · have hcv := convert_one w 100
    simp only [show ((100 : UInt8).toNat : Int) = 100 from rfl] at hcv
    go_enter Tryd.func36, Tryd.ntmps36
    go_wp2_with fail
    go_ret
    exact ⟨rfl, (Below.refl _ w).alloc (Nat.le_refl _) _⟩
  · have hcv := convert_one w 101
    simp only [show ((101 : UInt8).toNat : Int) = 101 from rfl] at hcv
    go_enter Tryd.func36, Tryd.ntmps36
    go_wp2_with fail
    go_ret
    exact ⟨rfl, (Below.refl _ w).alloc (Nat.le_refl _) _⟩
theorem made_Letters (w : World) : Calls Tryd.prog 71 #[] w fun e w' => e = .returned (.string ⟨#[112, 113, 114, 115]⟩) ∧ w = w' := by
  go_enter Tryd.func71, Tryd.ntmps71
  go_wp2_with fail
  go_ret
  exact ⟨rfl, rfl⟩
set_option maxHeartbeats 1600000 in
theorem made_lit (k : Int) (w : World) (h0 : 0 ≤ k) (h : k < 9) :
    Calls Tryd.prog 38 #[.int .i64 k] w fun e w' => e = .returned (symV (Sp.litS k)) ∧ Below w.heap.size w w' := by
  have : k = 0 ∨ k = 1 ∨ k = 2 ∨ k = 3 ∨ k = 4 ∨ k = 5 ∨ k = 6 ∨ k = 7 ∨ k = 8 := by omega
  rcases this with rfl | rfl | rfl | rfl | rfl | rfl | rfl | rfl | rfl
  all_goals
    have HL := Lib.hid (fun w => made_Letters w)
    go_enter Tryd.func38, Tryd.ntmps38
    go_wp2_with (go_at_call 71; refine (HL.out _).mono ?_; rintro e w' ⟨rfl, rfl⟩)
    exact ret_cell (g := w.heap.size) (t := 40) (fr := (0, 0)) rfl rfl (heap_last w _) rfl Tryd.underlying40 (by kernel_rfl) rfl ⟨by first | rfl | decide | kernel_rfl, (Below.refl _ w).alloc (Nat.le_refl _) _⟩
set_option maxHeartbeats 1600000 in
theorem made_sym (x : Int) (n : Nat) (w : World) (hn : 1 ≤ n) (hn4 : n ≤ 4) (hx : (Lit.int .i64 x).wf = true) :
    Calls Tryd.prog 37 #[.int .i64 x, .int .i64 n] w fun e w' => e = .returned (symV (Sp.symOf x n)) ∧ Below w.heap.size w w' := by
  have HW := Lib.hid (fun w => (show Calls Tryd.prog 23 #[.int .i64 x, .int .i64 14] w (fun e w' => e = .returned (.int .i64 (Sp.within x 14)) ∧ w = w') from made_Within x 14 w (by decide) (by decide) hx))
  have HQ := Lib.hid (show symV (Sp.symOf x n) = symV (if Sp.within x 14 < 5 then ⟨Sp.nonN (Sp.within x 14 % n), false, 0, 0⟩ else if Sp.within x 14 = 13 then ⟨[101, 114, 114, 111, 114], false, 0, 0⟩ else Sp.litS (Sp.within x 14 - 5)) from rfl)
  obtain ⟨k0, k14⟩ := Sp.within_range x 14 (by decide)
  generalize Sp.within x 14 = k at *
  generalize symV (Sp.symOf x n) = V at *
  by_cases hk : k < 5
  · have c1 : k % (n : Int) < n := Int.emod_lt_of_pos k (by omega)
    have c2 : 0 ≤ k % (n : Int) := Int.emod_nonneg _ (by omega)
    have HN := Lib.hid (fun w => made_non (k % (n : Int)) w c2 (by omega))
    have HV : Hid (V = symV ⟨Sp.nonN (k % (n : Int)), false, 0, 0⟩) := Lib.hid (by rw [HQ.out, if_pos hk])
    clear HQ c1 c2
    go_enter Tryd.func37, Tryd.ntmps37
    go_wp2_with (first | (go_at_call 23; refine (HW.out _).mono ?_; rintro e w' ⟨rfl, rfl⟩))
    refine (HN.out _).mono ?_
    rintro e w' ⟨rfl, hb⟩
    have hF := (hb.block w.heap.size (by simp)).trans (heap_last w _)
    have f0 := cell_at (i := 0) hF; have f1 := cell_at (i := 1) hF; have f2 := cell_at (i := 2) hF; have f3 := cell_at (i := 3) hF
    have z0 := frozen_at (i := 0) hF; have z1 := frozen_at (i := 1) hF; have z2 := frozen_at (i := 2) hF; have z3 := frozen_at (i := 3) hF
    have hl := lt_at hF
    have HF := Lib.hid hF; have HB := Lib.hid hb
    clear hF hb
    go_wp2_with fail
    refine ret_cell (g := w.heap.size) (cs := (symC ⟨Sp.nonN (k % (n : Int)), false, 0, 0⟩).toArray) (t := 40) (fr := (0, 0)) rfl rfl (heap_setCell_at (heap_setCell_at (heap_setCell_at (heap_setCell_at HF.out)))) rfl Tryd.underlying40 (by kernel_rfl) rfl ⟨by rw [HV.out]; rfl, ?_⟩
    exact (((((((Below.refl _ w).alloc (Nat.le_refl _) _).trans (HB.out.mono (by simp))).setCell (p := ⟨w.heap.size, 0, none⟩) (Nat.le_refl _) _).setCell (p := ⟨w.heap.size, 1, none⟩) (Nat.le_refl _) _).setCell (p := ⟨w.heap.size, 2, none⟩) (Nat.le_refl _) _).setCell (p := ⟨w.heap.size, 3, none⟩) (Nat.le_refl _) _)
  · by_cases h13 : k = 13
    · subst h13
      have HV : Hid (V = symV ⟨[101, 114, 114, 111, 114], false, 0, 0⟩) := Lib.hid (by rw [HQ.out, if_neg (by decide), if_pos rfl])
      clear HQ hk k0 k14
      go_enter Tryd.func37, Tryd.ntmps37
      go_wp2_with (first | (go_at_call 23; refine (HW.out _).mono ?_; rintro e w' ⟨rfl, rfl⟩))
      refine ret_cell (g := w.heap.size) (t := 40) (fr := (0, 0)) rfl rfl (heap_last w _) rfl Tryd.underlying40 (by kernel_rfl) rfl ⟨by rw [HV.out]; rfl, (Below.refl _ w).alloc (Nat.le_refl _) _⟩
    · have HN := Lib.hid (fun w => made_lit (k - 5) w (by omega) (by omega))
      have HV : Hid (V = symV (Sp.litS (k - 5))) := Lib.hid (by rw [HQ.out, if_neg hk, if_neg h13])
      have hd : (k == 13) = false := by rw [beq_eq_false_iff_ne]; exact h13
      clear HQ h13
      generalize Sp.litS (k - 5) = L at *
      obtain ⟨ln, ll, lu, la⟩ := L
      go_enter Tryd.func37, Tryd.ntmps37
      go_wp2_with (first | (go_at_call 23; refine (HW.out _).mono ?_; rintro e w' ⟨rfl, rfl⟩))
      refine (HN.out _).mono ?_
      rintro e w' ⟨rfl, hb⟩
      have hF := (hb.block w.heap.size (by simp)).trans (heap_last w _)
      have f0 := cell_at (i := 0) hF; have f1 := cell_at (i := 1) hF; have f2 := cell_at (i := 2) hF; have f3 := cell_at (i := 3) hF
      have z0 := frozen_at (i := 0) hF; have z1 := frozen_at (i := 1) hF; have z2 := frozen_at (i := 2) hF; have z3 := frozen_at (i := 3) hF
      have hl := lt_at hF
      have HF := Lib.hid hF; have HB := Lib.hid hb
      clear hF hb
      simp only [symV, symC]
      go_wp2_with fail
      refine ret_cell (g := w.heap.size) (cs := (symC ⟨ln, ll, lu, la⟩).toArray) (t := 40) (fr := (0, 0)) rfl rfl (heap_setCell_at (heap_setCell_at (heap_setCell_at (heap_setCell_at HF.out)))) rfl Tryd.underlying40 (by kernel_rfl) rfl ⟨by rw [HV.out]; rfl, ?_⟩
      exact (((((((Below.refl _ w).alloc (Nat.le_refl _) _).trans (HB.out.mono (by simp))).setCell (p := ⟨w.heap.size, 0, none⟩) (Nat.le_refl _) _).setCell (p := ⟨w.heap.size, 1, none⟩) (Nat.le_refl _) _).setCell (p := ⟨w.heap.size, 2, none⟩) (Nat.le_refl _) _).setCell (p := ⟨w.heap.size, 3, none⟩) (Nat.le_refl _) _)
end Go.Proofs.YthmimcegiihcnaaDoor
