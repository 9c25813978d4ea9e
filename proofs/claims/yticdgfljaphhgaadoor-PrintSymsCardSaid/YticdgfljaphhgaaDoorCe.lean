/- The walk of lex.word: an action's text; the word whole. -/
import Derived.Test.YticdgfljaphhgaaDoorCd
namespace Go.Proofs.YticdgfljaphhgaaDoor
open Go.RowKit
section
variable (s : ByteArray) (at_ : Nat) (w : World)
set_option maxRecDepth 100000 in
set_option maxHeartbeats 1600000 in
theorem lex_word_code (hat : at_ < s.size) (hs : s.size < 4294967281) (hg : Gl w) (hl : Sp.letter s[at_] = false) (hdg : Sp.digit s[at_] = false) (h39 : ((s[at_].toNat : Int) == 39) = false) (h60 : ((s[at_].toNat : Int) == 60) = false) (h37 : ((s[at_].toNat : Int) == 37) = false)
    (h58 : ((s[at_].toNat : Int) == 58) = false) (h59 : ((s[at_].toNat : Int) == 59) = false) (h124 : ((s[at_].toNat : Int) == 124) = false) :
    Calls Tryd.prog 48 #[.string s, .int .i64 at_] w (WordPost (Sp.word (s.data.toList.drop at_)) w) := by
  have hd := drop_at s at_ hat
  have hN : Sp.word (s.data.toList.drop at_) = if ((s[at_].toNat : Int) == 123) = true then (match Sp.endLen (s.data.toList.drop at_) with | none => Sp.noWord | some n => (8, (s.data.toList.drop at_).take n, n)) else Sp.noWord := by
    rw [hd, Sp.word_cons, if_neg (by rw [hl]; decide), if_neg (by rw [hdg]; decide), if_neg (by rw [h39]; decide), if_neg (by rw [h60]; decide), if_neg (by rw [h37]; decide), if_neg (by rw [h58, h59, h124]; simp)]
    rfl
  generalize Sp.word (s.data.toList.drop at_) = N at hN
  have HL := Lib.hid (fun W => lex_letter s[at_] W)
  have HDg := Lib.hid (fun W => lex_digit s[at_] W)
  rw [hdg] at HDg
  obtain ⟨hal, h95⟩ := not_letter hl
  rw [hal] at HL
  have H0 : (0 : Int) ≤ (at_ : Int) := Int.natCast_nonneg _
  cases h123 : ((s[at_].toNat : Int) == 123) with
  | false =>
    rw [if_neg (by rw [h123]; decide)] at hN
    subst hN
    clear hd hl hal hdg
    go_enter Tryd.func48, Tryd.ntmps48
    go_wp2_with (first
      | (go_at_call 77; refine (HL.out _).mono ?_; rintro e w' ⟨rfl, rfl⟩)
      | (go_at_call 78; refine (HDg.out _).mono ?_; rintro e w' ⟨rfl, rfl⟩))
    refine ret_cell_tmp (g := w.heap.size) rfl rfl (heap_last _ _) rfl Tryd.underlying53 (by kernel_rfl) rfl ⟨by simp [wordV, Sp.noWord], (Below.refl _ _).alloc (Nat.le_refl _) _⟩
  | true =>
    rw [if_pos h123] at hN
    have HE := Lib.hid (fun W hW => body_End_in s at_ W hs hat hW)
    have hpos : ∀ n, Sp.endLen (s.data.toList.drop at_) = some n → 1 ≤ n ∧ n ≤ s.size - at_ := by
      intro n hn
      rw [hd] at hn
      unfold Sp.endLen at hn
      simp only at hn
      rw [if_pos h123] at hn
      have h1 := Sp.endGo_pos _ _ _ _ hn
      have h2 := Sp.endGo_le _ _ _ _ hn
      have hll : (s.data.toList.drop at_).length = s.size - at_ := by simp
      rw [← hd, hll] at h2
      exact ⟨h1, h2⟩
    generalize Sp.endLen (s.data.toList.drop at_) = o at hN HE hpos
    have HG := Lib.hid (fun o : Obj => hg.alloc o)
    clear hl hal hdg
    cases o with
    | none =>
      simp only at hN
      subst hN
      simp only [Sp.place] at HE
      clear hpos hd
      go_enter Tryd.func48, Tryd.ntmps48
      go_wp2_with (first
        | (go_at_call 77; refine (HL.out _).mono ?_; rintro e w' ⟨rfl, rfl⟩)
        | (go_at_call 78; refine (HDg.out _).mono ?_; rintro e w' ⟨rfl, rfl⟩)
        | (go_at_call 17; refine (HE.out _ (HG.out _)).mono ?_; rintro e w' ⟨rfl, n1, rfl⟩))
      refine ret_cell_tmp (g := w.heap.size) rfl rfl (by exact heap_setCell_at (heap_setCell_at (heap_setCell_at (heap_last_drewN _ _ _)))) rfl Tryd.underlying53 (by kernel_rfl) rfl ⟨by simp [wordV, Sp.noWord], (((below_drewN ((Below.refl _ _).alloc (Nat.le_refl _) _) _).setCell (by simp) _).setCell (by simp) _).setCell (by simp) _⟩
    | some n =>
      simp only at hN
      subst hN
      simp only [Sp.place] at HE
      obtain ⟨hp1, hp2⟩ := hpos n rfl
      have HX := Lib.hid (ext_take s at_ n)
      clear hpos hd
      go_enter Tryd.func48, Tryd.ntmps48
      go_wp2_with (first
        | (go_at_call 77; refine (HL.out _).mono ?_; rintro e w' ⟨rfl, rfl⟩)
        | (go_at_call 78; refine (HDg.out _).mono ?_; rintro e w' ⟨rfl, rfl⟩)
        | (go_at_call 17; refine (HE.out _ (HG.out _)).mono ?_; rintro e w' ⟨rfl, n1, rfl⟩))
      refine ret_cell_tmp (g := w.heap.size) rfl rfl (by exact heap_setCell_at (heap_setCell_at (heap_setCell_at (heap_last_drewN _ _ _)))) rfl Tryd.underlying53 (by kernel_rfl) rfl ⟨?_, (((below_drewN ((Below.refl _ _).alloc (Nat.le_refl _) _) _).setCell (by simp) _).setCell (by simp) _).setCell (by simp) _⟩
      simp [wordV, HX.out]
      try omega

theorem lex_word (hat : at_ < s.size) (hs : s.size < 4294967281) (hg : Gl w) :
    Calls Tryd.prog 48 #[.string s, .int .i64 at_] w (WordPost (Sp.word (s.data.toList.drop at_)) w) := by
  cases hl : Sp.letter s[at_] with
  | true => exact lex_word_name s at_ w hs hat hl
  | false =>
  cases hdg : Sp.digit s[at_] with
  | true => exact lex_word_num s at_ w hs hat hl hdg
  | false =>
  cases h39 : ((s[at_].toNat : Int) == 39) with
  | true => exact lex_word_lit s at_ w hs hat hl hdg h39
  | false =>
  cases h60 : ((s[at_].toNat : Int) == 60) with
  | true => exact lex_word_tag s at_ w hs hat hl hdg h39 h60
  | false =>
  cases h37 : ((s[at_].toNat : Int) == 37) with
  | true => exact lex_word_pct s at_ w hs hat hg hl hdg h39 h60 h37
  | false =>
  cases h58 : ((s[at_].toNat : Int) == 58) with
  | true => exact lex_word_sign s at_ w hat hs hl hdg h39 h60 h37 (.inl h58)
  | false =>
  cases h59 : ((s[at_].toNat : Int) == 59) with
  | true => exact lex_word_sign s at_ w hat hs hl hdg h39 h60 h37 (.inr (.inl h59))
  | false =>
  cases h124 : ((s[at_].toNat : Int) == 124) with
  | true => exact lex_word_sign s at_ w hat hs hl hdg h39 h60 h37 (.inr (.inr h124))
  | false => exact lex_word_code s at_ w hat hs hg hl hdg h39 h60 h37 h58 h59 h124
end
end Go.Proofs.YticdgfljaphhgaaDoor
