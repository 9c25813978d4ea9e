/- The walk of dollar. -/
import Derived.Test.YticdgfljaphhgaaDoorW0
import Derived.Test.YticdgfljaphhgaaDoorSpB
import Derived.Test.YticdgfljaphhgaaDoorBc
namespace Go.Proofs.YticdgfljaphhgaaDoor
open Go.RowKit

def pieceV (p : Sp.Piece) : Value := .agg #[.int .i64 p.kind, .string ⟨p.text.toArray⟩, .int .i64 p.n, .string ⟨p.tag.toArray⟩]
theorem toArr (s : ByteArray) : (⟨s.data.toList.toArray⟩ : ByteArray) = s := Lib.mk_data s
theorem ext_toArr (s : ByteArray) (a b : Nat) : (⟨((s.data.toList.drop a).take (b - a)).toArray⟩ : ByteArray) = s.extract a b := (Lib.extract_eq s a b).symm
theorem digits_cons (c : UInt8) (t : List UInt8) : Sp.digits (c :: t) = if Sp.digit c = true then Sp.digits t + 1 else 0 := rfl

set_option maxRecDepth 100000 in
set_option maxHeartbeats 1600000 in
theorem body_dollar_plain (s : ByteArray) (at_ : Nat) (w : World) (hs : s.size < 4294967281) (hat : at_ < s.size)
    (hp : Lib.hasPrefix (s.data.toList.drop (at_ + 1)) [60] = false) :
    Calls Tryd.prog 43 #[.string s, .int .i64 at_] w fun e w' =>
      e = .returned (.tuple #[pieceV (Sp.dollar2 [] (1) (s.data.toList.drop (at_ + 1))).1, .int .i64 (at_ + (Sp.dollar2 [] (1) (s.data.toList.drop (at_ + 1))).2.1 : Nat), .int .i64 (Sp.dollar2 [] (1) (s.data.toList.drop (at_ + 1))).2.2]) ∧ Below w.heap.size w w' := by
  generalize hN : (Sp.dollar2 [] (1) (s.data.toList.drop (at_ + 1))) = N
  unfold Sp.dollar2 at hN
  have HN := Lib.hid hN; clear hN
  cases h36 : Lib.hasPrefix (s.data.toList.drop (at_ + 1)) [36] with
  | true =>
    go_enter Tryd.func43, Tryd.ntmps43
    go_wp2_with (first | (go_at_call 64; refine (strings_HasPrefix_gl _ _ _).mono ?_; rintro e w' ⟨rfl, rfl⟩; rw [ext_end]))
    have hN := HN.out
    rw [if_pos h36] at hN
    subst hN
    refine ret_cell_tmp_tmp (g := w.heap.size) rfl rfl (heap_last _ _) rfl Tryd.underlying28 (by kernel_rfl) rfl ⟨by simp [pieceV]; try omega, ?_⟩
    exact (Below.refl _ _).alloc (Nat.le_refl _) _
  | false =>
    generalize hD : Sp.digits (s.data.toList.drop (at_ + 1)) = D at HN
    have HD := Lib.hid hD; clear hD
    have hDle : (at_ + 1) + D ≤ s.size := by
      have := Sp.digits_le (s.data.toList.drop (at_ + 1))
      have hl : (s.data.toList.drop (at_ + 1)).length = s.size - (at_ + 1) := by simp
      have := HD.out; omega
    go_enter Tryd.func43, Tryd.ntmps43
    go_wp2_with (first | (go_at_call 64; refine (strings_HasPrefix_gl _ _ _).mono ?_; rintro e w' ⟨rfl, rfl⟩; rw [ext_end]))
    go_loop [9] (fun n => ∃ j : Nat, j ≤ D ∧ n = .int .i64 j ∧ j + Sp.digits (s.data.toList.drop ((at_ + 1) + j)) = D) (fun n => D - (intOf n).toNat)
    case atStart => exact ⟨0, by omega, rfl, by simp [HD.out]⟩
    case round =>
      obtain ⟨j, hj, rfl, hi⟩ := hrel
      have HI := Lib.hid hi; clear hi
      by_cases hjd : j < D
      · have hlt : (at_ + 1) + j < s.size := by omega
        have hd : Sp.digit s[(at_ + 1) + j] = true := by
          have := HI.out
          rw [drop_at s _ hlt, digits_cons] at this
          split at this
          · assumption
          · omega
        go_wp2_with (go_at_call 70; refine (body_digit _ _).mono ?_; rintro e w' ⟨rfl, rfl⟩)
        have hi := HI.out
        clear HN HD HI
        go_round
        case rel => go_light; exact ⟨j + 1, by omega, by go_num, by rw [drop_at s _ hlt, digits_cons, if_pos hd] at hi; rw [← Nat.add_assoc]; omega⟩
        case measure => go_light; simp [intOf]; omega
      · obtain rfl : j = D := by omega
        have hcase : ((at_ + 1) + j < s.size ∧ ∃ b, b = false ∧ (∀ h : (at_ + 1) + j < s.size, Sp.digit s[(at_ + 1) + j] = b)) ∨ ¬ (at_ + 1) + j < s.size := by
          by_cases h : (at_ + 1) + j < s.size
          · left
            refine ⟨h, false, rfl, fun h => ?_⟩
            have := HI.out
            rw [drop_at s _ h, digits_cons] at this
            split at this
            · omega
            · rename_i hx; simpa using hx
          · exact .inr h
        clear HI hDle
        have hK : (at_ + 1) + j ≤ s.size := by
          have := Sp.digits_le (s.data.toList.drop (at_ + 1))
          have hl : (s.data.toList.drop (at_ + 1)).length = s.size - (at_ + 1) := by simp
          have := HD.out; omega
        have hnum : j ≠ 0 → Lib.atoi (s.extract (at_ + 1) ((at_ + 1) + j)).data.toList = some (Sp.num ((s.data.toList.drop (at_ + 1)).take j)) := by
          intro h0
          rw [ext_any, Nat.add_sub_cancel_left]
          have := Sp.atoi_digits (s.data.toList.drop (at_ + 1)) (by rw [HD.out]; exact h0)
          rwa [HD.out] at this
        have hN := HN.out; clear HN HD
        rw [if_neg (by rw [h36]; simp)] at hN
        have hsz : (s.extract (at_ + 1) ((at_ + 1) + j)).size = j := by simp; omega
        by_cases hj0 : j = 0
        · subst hj0
          rw [if_pos rfl] at hN; subst hN
          clear hnum hsz
          rcases hcase with ⟨hlt, b, rfl, hd⟩ | hlt
          · have hd := hd hlt
            go_wp2_with (go_at_call 70; refine (body_digit _ _).mono ?_; rintro e w' ⟨rfl, rfl⟩)
            refine ret_cell_tmp_tmp (g := w.heap.size) rfl rfl (heap_last _ _) rfl Tryd.underlying28 (by kernel_rfl) rfl ⟨by simp [pieceV, Sp.nil], ?_⟩
            exact (Below.refl _ _).alloc (Nat.le_refl _) _
          · go_wp2
            refine ret_cell_tmp_tmp (g := w.heap.size) rfl rfl (heap_last _ _) rfl Tryd.underlying28 (by kernel_rfl) rfl ⟨by simp [pieceV, Sp.nil], ?_⟩
            exact (Below.refl _ _).alloc (Nat.le_refl _) _
        · rw [if_neg hj0] at hN
          have hjb : ((j : Int) == 0) = false := by simpa using hj0
          by_cases hj3 : 3 < j
          · rw [if_pos hj3] at hN; subst hN
            clear hnum hsz
            rcases hcase with ⟨hlt, b, rfl, hd⟩ | hlt
            · have hd := hd hlt
              go_wp2_with (go_at_call 70; refine (body_digit _ _).mono ?_; rintro e w' ⟨rfl, rfl⟩)
              refine ret_cell_tmp_tmp (g := w.heap.size) rfl rfl (heap_last _ _) rfl Tryd.underlying28 (by kernel_rfl) rfl ⟨by simp [pieceV, Sp.nil], ?_⟩
              exact (Below.refl _ _).alloc (Nat.le_refl _) _
            · go_wp2
              refine ret_cell_tmp_tmp (g := w.heap.size) rfl rfl (heap_last _ _) rfl Tryd.underlying28 (by kernel_rfl) rfl ⟨by simp [pieceV, Sp.nil], ?_⟩
              exact (Below.refl _ _).alloc (Nat.le_refl _) _
          · rw [if_neg hj3] at hN
            have hnum := hnum hj0
            generalize Sp.num ((s.data.toList.drop (at_ + 1)).take j) = v at hN hnum
            subst hN
            have hnum := Lib.hid hnum
            have hsz := Lib.hid hsz
            rcases hcase with ⟨hlt, b, rfl, hd⟩ | hlt
            · have hd := hd hlt
              go_wp2_with (first
                | (go_at_call 70; refine (body_digit _ _).mono ?_; rintro e w' ⟨rfl, rfl⟩)
                | (go_at_call 71; refine (strconv_Atoi_gl _ v (by rw [hsz.out]; omega) hnum.out _).mono ?_; rintro e w1 ⟨rfl, hb⟩; have hB := (hb.block w.heap.size (by simp)).trans (heap_last _ _); have c0 := cell_at (i := 0) hB; have c1 := cell_at (i := 1) hB; have c2 := cell_at (i := 2) hB; have c3 := cell_at (i := 3) hB; have f0 := frozen_at (i := 0) hB; have f1 := frozen_at (i := 1) hB; have f2 := frozen_at (i := 2) hB; have f3 := frozen_at (i := 3) hB; have hz := lt_at hB))
              refine ret_cell_tmp_tmp (g := w.heap.size) rfl rfl (by exact heap_setCell_at (heap_setCell_at (heap_setCell_at (heap_setCell_at (heap_setCell_at hB))))) rfl Tryd.underlying28 (by kernel_rfl) rfl ⟨by simp [pieceV]; try omega, ?_⟩
              exact (((((((Below.refl _ _).alloc (Nat.le_refl _) _).trans (hb.mono (by simp))).setCell (by simp) _).setCell (by simp) _).setCell (by simp) _).setCell (by simp) _).setCell (by simp) _
            · go_wp2_with (go_at_call 71; refine (strconv_Atoi_gl _ v (by rw [hsz.out]; omega) hnum.out _).mono ?_; rintro e w1 ⟨rfl, hb⟩; have hB := (hb.block w.heap.size (by simp)).trans (heap_last _ _); have c0 := cell_at (i := 0) hB; have c1 := cell_at (i := 1) hB; have c2 := cell_at (i := 2) hB; have c3 := cell_at (i := 3) hB; have f0 := frozen_at (i := 0) hB; have f1 := frozen_at (i := 1) hB; have f2 := frozen_at (i := 2) hB; have f3 := frozen_at (i := 3) hB; have hz := lt_at hB)
              refine ret_cell_tmp_tmp (g := w.heap.size) rfl rfl (by exact heap_setCell_at (heap_setCell_at (heap_setCell_at (heap_setCell_at (heap_setCell_at hB))))) rfl Tryd.underlying28 (by kernel_rfl) rfl ⟨by simp [pieceV]; try omega, ?_⟩
              exact (((((((Below.refl _ _).alloc (Nat.le_refl _) _).trans (hb.mono (by simp))).setCell (by simp) _).setCell (by simp) _).setCell (by simp) _).setCell (by simp) _).setCell (by simp) _
end Go.Proofs.YticdgfljaphhgaaDoor
