/- The walk of dollar behind a tag; dollar whole. -/
import Derived.Test.YticdgfljaphhgaaDoorW0
import Derived.Test.YticdgfljaphhgaaDoorBg
import Derived.Test.YticdgfljaphhgaaDoorBc
namespace Go.Proofs.YticdgfljaphhgaaDoor
open Go.RowKit


set_option maxRecDepth 100000 in
set_option maxHeartbeats 6400000 in
theorem body_dollar_tag (s : ByteArray) (at_ : Nat) (w : World) (hs : s.size < 4294967281) (hat : at_ < s.size)
    (m : Nat) (T : List UInt8) (hp : Lib.hasPrefix (s.data.toList.drop (at_ + 1)) [60] = true) (hm : Sp.nameLen true (s.data.toList.drop (at_ + 1 + 1)) = m)
    (hT : (s.data.toList.drop (at_ + 1 + 1)).take m = T) (hn : Sp.isName T = true) (hgt : Lib.hasPrefix (s.data.toList.drop (at_ + 1 + 1 + m)) [62] = true) :
    Calls Tryd.prog 43 #[.string s, .int .i64 at_] w fun e w' =>
      e = .returned (.tuple #[pieceV (Sp.dollar2 T (m + 3) (s.data.toList.drop (at_ + 1 + m + 2))).1, .int .i64 (at_ + (Sp.dollar2 T (m + 3) (s.data.toList.drop (at_ + 1 + m + 2))).2.1 : Nat), .int .i64 (Sp.dollar2 T (m + 3) (s.data.toList.drop (at_ + 1 + m + 2))).2.2]) ∧ Below w.heap.size w w' := by
  have hmle : at_ + 1 + 1 + m < s.size := by
    rcases Nat.lt_or_ge (at_ + 1 + 1 + m) s.size with h | h
    · exact h
    · rw [drop_end s _ (by omega)] at hgt
      simp [Lib.hasPrefix] at hgt
  have HT := Lib.hid (show (⟨T.toArray⟩ : ByteArray) = s.extract (at_ + 1 + 1) (at_ + 1 + 1 + m) by rw [Lib.extract_eq, ← hT, Nat.add_sub_cancel_left])
  have HNm := Lib.hid (show Sp.isName (s.extract (at_ + 1 + 1) (at_ + 1 + 1 + m)).data.toList = true by rw [ext_any, Nat.add_sub_cancel_left, hT]; exact hn)
  have HM := Lib.hid hm
  have hS1 : (s.extract (at_ + 1 + 1) s.size).size < 4294967281 := by simp; omega
  have hS2 : (s.extract (at_ + 1 + 1) (at_ + 1 + 1 + m)).size < 4294967281 := by simp; omega
  clear hm hT hn
  generalize hN : (Sp.dollar2 T (m + 3) (s.data.toList.drop (at_ + 1 + m + 2))) = N
  unfold Sp.dollar2 at hN
  have HN := Lib.hid hN; clear hN
  cases h36 : Lib.hasPrefix (s.data.toList.drop (at_ + 1 + m + 2)) [36] with
  | true =>
    go_enter Tryd.func43, Tryd.ntmps43
    go_wp2_with (first 
    | (go_at_call 64; refine (strings_HasPrefix_gl _ _ _).mono ?_; rintro e w' ⟨rfl, rfl⟩; rw [ext_end])
    | (go_at_call 67; refine (body_Run _ _ hS1).mono ?_; rintro e w' ⟨rfl, rfl⟩; rw [ext_end, HM.out])
    | (go_at_call 38; refine (body_Name _ _ hS2).mono ?_; rintro e w' ⟨rfl, rfl⟩; rw [HNm.out]))
    have hN := HN.out
    rw [if_pos h36] at hN
    subst hN
    refine ret_cell_tmp_tmp (g := w.heap.size) rfl rfl (heap_last _ _) rfl Tryd.underlying28 (by kernel_rfl) rfl ⟨by simp [pieceV, HT.out]; try omega, ?_⟩
    exact (Below.refl _ _).alloc (Nat.le_refl _) _
  | false =>
    generalize hD : Sp.digits (s.data.toList.drop (at_ + 1 + m + 2)) = D at HN
    have HD := Lib.hid hD; clear hD
    have hDle : (at_ + 1 + m + 2) + D ≤ s.size := by
      have := Sp.digits_le (s.data.toList.drop (at_ + 1 + m + 2))
      have hl : (s.data.toList.drop (at_ + 1 + m + 2)).length = s.size - (at_ + 1 + m + 2) := by simp
      have := HD.out; omega
    go_enter Tryd.func43, Tryd.ntmps43
    go_wp2_with (first 
    | (go_at_call 64; refine (strings_HasPrefix_gl _ _ _).mono ?_; rintro e w' ⟨rfl, rfl⟩; rw [ext_end])
    | (go_at_call 67; refine (body_Run _ _ hS1).mono ?_; rintro e w' ⟨rfl, rfl⟩; rw [ext_end, HM.out])
    | (go_at_call 38; refine (body_Name _ _ hS2).mono ?_; rintro e w' ⟨rfl, rfl⟩; rw [HNm.out]))
    clear hp hgt HM HNm hS1 hS2
    go_loop [9] (fun n => ∃ j : Nat, j ≤ D ∧ n = .int .i64 j ∧ j + Sp.digits (s.data.toList.drop ((at_ + 1 + m + 2) + j)) = D) (fun n => D - (intOf n).toNat)
    case atStart => exact ⟨0, by omega, rfl, by simp [HD.out]⟩
    case round =>
      obtain ⟨j, hj, rfl, hi⟩ := hrel
      have HI := Lib.hid hi; clear hi
      by_cases hjd : j < D
      · have hlt : (at_ + 1 + m + 2) + j < s.size := by omega
        have hd : Sp.digit s[(at_ + 1 + m + 2) + j] = true := by
          have := HI.out
          rw [drop_at s _ hlt, digits_cons] at this
          split at this
          · assumption
          · omega
        go_wp2_with (go_at_call 70; refine (body_digit _ _).mono ?_; rintro e w' ⟨rfl, rfl⟩)
        have hi := HI.out
        clear HN HD HI
        go_round
        case rel => go_light; exact ⟨j + 1, by omega, by go_num, by rw [drop_at s _ hlt, digits_cons, if_pos hd] at hi; rw [← Nat.add_assoc]; omega⟩
        case measure => go_light; simp [intOf]; omega
      · obtain rfl : j = D := by omega
        have hcase : ((at_ + 1 + m + 2) + j < s.size ∧ ∃ b, b = false ∧ (∀ h : (at_ + 1 + m + 2) + j < s.size, Sp.digit s[(at_ + 1 + m + 2) + j] = b)) ∨ ¬ (at_ + 1 + m + 2) + j < s.size := by
          by_cases h : (at_ + 1 + m + 2) + j < s.size
          · left
            refine ⟨h, false, rfl, fun h => ?_⟩
            have := HI.out
            rw [drop_at s _ h, digits_cons] at this
            split at this
            · omega
            · rename_i hx; simpa using hx
          · exact .inr h
        clear HI hDle
        have hK : (at_ + 1 + m + 2) + j ≤ s.size := by
          have := Sp.digits_le (s.data.toList.drop (at_ + 1 + m + 2))
          have hl : (s.data.toList.drop (at_ + 1 + m + 2)).length = s.size - (at_ + 1 + m + 2) := by simp
          have := HD.out; omega
        have hnum : j ≠ 0 → Lib.atoi (s.extract (at_ + 1 + m + 2) ((at_ + 1 + m + 2) + j)).data.toList = some (Sp.num ((s.data.toList.drop (at_ + 1 + m + 2)).take j)) := by
          intro h0
          rw [ext_any, Nat.add_sub_cancel_left]
          have := Sp.atoi_digits (s.data.toList.drop (at_ + 1 + m + 2)) (by rw [HD.out]; exact h0)
          rwa [HD.out] at this
        have hN := HN.out; clear HN HD
        rw [if_neg (by rw [h36]; simp)] at hN
        have hsz : (s.extract (at_ + 1 + m + 2) ((at_ + 1 + m + 2) + j)).size = j := by simp; omega
        by_cases hj0 : j = 0
        · subst hj0
          rw [if_pos rfl] at hN; subst hN
          clear hnum hsz
          rcases hcase with ⟨hlt, b, rfl, hd⟩ | hlt
          · have hd := hd hlt
            go_wp2_with (go_at_call 70; refine (body_digit _ _).mono ?_; rintro e w' ⟨rfl, rfl⟩)
            refine ret_cell_tmp_tmp (g := w.heap.size) rfl rfl (heap_last _ _) rfl Tryd.underlying28 (by kernel_rfl) rfl ⟨by simp [pieceV, Sp.nil], ?_⟩
            exact (Below.refl _ _).alloc (Nat.le_refl _) _
          · go_wp2
            refine ret_cell_tmp_tmp (g := w.heap.size) rfl rfl (heap_last _ _) rfl Tryd.underlying28 (by kernel_rfl) rfl ⟨by simp [pieceV, Sp.nil], ?_⟩
            exact (Below.refl _ _).alloc (Nat.le_refl _) _
        · rw [if_neg hj0] at hN
          have hjb : ((j : Int) == 0) = false := by simpa using hj0
          by_cases hj3 : 3 < j
          · rw [if_pos hj3] at hN; subst hN
            clear hnum hsz
            rcases hcase with ⟨hlt, b, rfl, hd⟩ | hlt
            · have hd := hd hlt
              go_wp2_with (go_at_call 70; refine (body_digit _ _).mono ?_; rintro e w' ⟨rfl, rfl⟩)
              refine ret_cell_tmp_tmp (g := w.heap.size) rfl rfl (heap_last _ _) rfl Tryd.underlying28 (by kernel_rfl) rfl ⟨by simp [pieceV, Sp.nil], ?_⟩
              exact (Below.refl _ _).alloc (Nat.le_refl _) _
            · go_wp2
              refine ret_cell_tmp_tmp (g := w.heap.size) rfl rfl (heap_last _ _) rfl Tryd.underlying28 (by kernel_rfl) rfl ⟨by simp [pieceV, Sp.nil], ?_⟩
              exact (Below.refl _ _).alloc (Nat.le_refl _) _
          · rw [if_neg hj3] at hN
            have hnum := hnum hj0
            generalize Sp.num ((s.data.toList.drop (at_ + 1 + m + 2)).take j) = v at hN hnum
            subst hN
            have hnum := Lib.hid hnum
            have hsz := Lib.hid hsz
            rcases hcase with ⟨hlt, b, rfl, hd⟩ | hlt
            · have hd := hd hlt
              go_wp2_with (first
                | (go_at_call 70; refine (body_digit _ _).mono ?_; rintro e w' ⟨rfl, rfl⟩)
                | (go_at_call 71; refine (strconv_Atoi_gl _ v (by rw [hsz.out]; omega) hnum.out _).mono ?_; rintro e w1 ⟨rfl, hb⟩; have hB := (hb.block w.heap.size (by simp)).trans (heap_last _ _); have c0 := cell_at (i := 0) hB; have c1 := cell_at (i := 1) hB; have c2 := cell_at (i := 2) hB; have c3 := cell_at (i := 3) hB; have f0 := frozen_at (i := 0) hB; have f1 := frozen_at (i := 1) hB; have f2 := frozen_at (i := 2) hB; have f3 := frozen_at (i := 3) hB; have hz := lt_at hB))
              refine ret_cell_tmp_tmp (g := w.heap.size) rfl rfl (by exact heap_setCell_at (heap_setCell_at (heap_setCell_at (heap_setCell_at (heap_setCell_at hB))))) rfl Tryd.underlying28 (by kernel_rfl) rfl ⟨by simp [pieceV, HT.out]; try omega, ?_⟩
              exact (((((((Below.refl _ _).alloc (Nat.le_refl _) _).trans (hb.mono (by simp))).setCell (by simp) _).setCell (by simp) _).setCell (by simp) _).setCell (by simp) _).setCell (by simp) _
            · go_wp2_with (go_at_call 71; refine (strconv_Atoi_gl _ v (by rw [hsz.out]; omega) hnum.out _).mono ?_; rintro e w1 ⟨rfl, hb⟩; have hB := (hb.block w.heap.size (by simp)).trans (heap_last _ _); have c0 := cell_at (i := 0) hB; have c1 := cell_at (i := 1) hB; have c2 := cell_at (i := 2) hB; have c3 := cell_at (i := 3) hB; have f0 := frozen_at (i := 0) hB; have f1 := frozen_at (i := 1) hB; have f2 := frozen_at (i := 2) hB; have f3 := frozen_at (i := 3) hB; have hz := lt_at hB)
              refine ret_cell_tmp_tmp (g := w.heap.size) rfl rfl (by exact heap_setCell_at (heap_setCell_at (heap_setCell_at (heap_setCell_at (heap_setCell_at hB))))) rfl Tryd.underlying28 (by kernel_rfl) rfl ⟨by simp [pieceV, HT.out]; try omega, ?_⟩
              exact (((((((Below.refl _ _).alloc (Nat.le_refl _) _).trans (hb.mono (by simp))).setCell (by simp) _).setCell (by simp) _).setCell (by simp) _).setCell (by simp) _).setCell (by simp) _

set_option maxRecDepth 100000 in
set_option maxHeartbeats 1600000 in
theorem body_dollar_bad (s : ByteArray) (at_ : Nat) (w : World) (hs : s.size < 4294967281) (hat : at_ + 1 < s.size)
    (m : Nat) (hp : Lib.hasPrefix (s.data.toList.drop (at_ + 1)) [60] = true) (hm : Sp.nameLen true (s.data.toList.drop (at_ + 1 + 1)) = m)
    (hn : Sp.isName ((s.data.toList.drop (at_ + 1 + 1)).take m) = false ∨ (Sp.isName ((s.data.toList.drop (at_ + 1 + 1)).take m) = true ∧ Lib.hasPrefix (s.data.toList.drop (at_ + 1 + 1 + m)) [62] = false)) :
    Calls Tryd.prog 43 #[.string s, .int .i64 at_] w fun e w' =>
      e = .returned (.tuple #[pieceV Sp.nil, .int .i64 (at_ + 0 : Nat), .int .i64 0]) ∧ Below w.heap.size w w' := by
  have hmle : at_ + 1 + 1 + m ≤ s.size := by
    have := Sp.nameLen_le true (s.data.toList.drop (at_ + 1 + 1))
    have hl : (s.data.toList.drop (at_ + 1 + 1)).length = s.size - (at_ + 1 + 1) := by simp
    omega
  have HM := Lib.hid hm
  have hS1 : (s.extract (at_ + 1 + 1) s.size).size < 4294967281 := by simp; omega
  have hS2 : (s.extract (at_ + 1 + 1) (at_ + 1 + 1 + m)).size < 4294967281 := by simp; omega
  have hX : ((s.data.toList.drop (at_ + 1 + 1)).take m) = (s.extract (at_ + 1 + 1) (at_ + 1 + 1 + m)).data.toList := by rw [ext_any, Nat.add_sub_cancel_left]
  rw [hX] at hn
  clear hm hX
  rcases hn with hn | ⟨hn, hgt⟩
  all_goals
    have HNm := Lib.hid hn; clear hn
    go_enter Tryd.func43, Tryd.ntmps43
    go_wp2_with (first 
    | (go_at_call 64; refine (strings_HasPrefix_gl _ _ _).mono ?_; rintro e w' ⟨rfl, rfl⟩; rw [ext_end])
    | (go_at_call 67; refine (body_Run _ _ hS1).mono ?_; rintro e w' ⟨rfl, rfl⟩; rw [ext_end, HM.out])
    | (go_at_call 38; refine (body_Name _ _ hS2).mono ?_; rintro e w' ⟨rfl, rfl⟩; rw [HNm.out]))
    refine ret_cell_tmp_tmp (g := w.heap.size) rfl rfl (heap_last _ _) rfl Tryd.underlying28 (by kernel_rfl) rfl ⟨by simp [pieceV, Sp.nil], ?_⟩
    exact (Below.refl _ _).alloc (Nat.le_refl _) _

theorem body_dollar (s : ByteArray) (at_ : Nat) (w : World) (hs : s.size < 4294967281) (hat : at_ < s.size) :
    Calls Tryd.prog 43 #[.string s, .int .i64 at_] w fun e w' =>
      e = .returned (.tuple #[pieceV (Sp.dollar (s.data.toList.drop (at_ + 1))).1, .int .i64 (at_ + (Sp.dollar (s.data.toList.drop (at_ + 1))).2.1 : Nat), .int .i64 (Sp.dollar (s.data.toList.drop (at_ + 1))).2.2]) ∧ Below w.heap.size w w' := by
  cases hp : Lib.hasPrefix (s.data.toList.drop (at_ + 1)) [60] with
  | false =>
    have e : Sp.dollar (s.data.toList.drop (at_ + 1)) = Sp.dollar2 [] 1 (s.data.toList.drop (at_ + 1)) := by rw [Sp.dollar, if_neg (by rw [hp]; simp)]
    rw [e]
    exact body_dollar_plain s at_ w hs hat hp
  | true =>
    have hat2 : at_ + 1 < s.size := by
      rcases Nat.lt_or_ge (at_ + 1) s.size with h | h
      · exact h
      · rw [drop_end s (at_ + 1) (by omega)] at hp
        simp [Lib.hasPrefix] at hp
    obtain ⟨m, hm⟩ : ∃ m, Sp.nameLen true (s.data.toList.drop (at_ + 1 + 1)) = m := ⟨_, rfl⟩
    by_cases hb : Sp.isName ((s.data.toList.drop (at_ + 1 + 1)).take m) = true ∧ Lib.hasPrefix (s.data.toList.drop (at_ + 1 + 1 + m)) [62] = true
    · have e : Sp.dollar (s.data.toList.drop (at_ + 1)) = Sp.dollar2 ((s.data.toList.drop (at_ + 1 + 1)).take m) (m + 3) (s.data.toList.drop (at_ + 1 + m + 2)) := by
        rw [Sp.dollar, if_pos hp, List.drop_drop, hm, List.drop_drop, List.drop_drop, ← Nat.add_assoc, if_pos hb, ← Nat.add_assoc]
      rw [e]
      exact body_dollar_tag s at_ w hs hat m _ hp hm rfl hb.1 hb.2
    · have e : Sp.dollar (s.data.toList.drop (at_ + 1)) = (Sp.nil, 0, 0) := by
        rw [Sp.dollar, if_pos hp, List.drop_drop, hm, List.drop_drop, ← Nat.add_assoc, if_neg hb]
      rw [e]
      refine body_dollar_bad s at_ w hs hat2 m hp hm ?_
      by_cases h1 : Sp.isName ((s.data.toList.drop (at_ + 1 + 1)).take m) = true
      · right; exact ⟨h1, by simpa using fun h => hb ⟨h1, h⟩⟩
      · left; simpa using h1
end Go.Proofs.YticdgfljaphhgaaDoor
