/- The walk of lex.word. The walk of lex.word: an action's text; the word whole. The walk of Cut's closure. -/
import Derived.Test.YtphdfbmmjkccgaaDoorZ04
import Derived.Test.YtphdfbmmjkccgaaDoorZ02
import Derived.Test.YtphdfbmmjkccgaaDoorZ00
import Derived.Test.YtphdfbmmjkccgaaDoorZ01
namespace Go.Proofs.YtphdfbmmjkccgaaDoor
open Go.RowKit

/-- What lex.word leaves. -/
def WordPost (p : Int × List UInt8 × Nat) (w : World) (e : Ending) (w' : World) : Prop := e = .returned (.tuple #[wordV p, .int .i64 p.2.2]) ∧ Below w.heap.size w w'

theorem heap_last_drewN (w : World) (o : Obj) (n : Nat) : ((w.alloc o).drewN n).heap[w.heap.size]? = some o := heap_last w o
section
variable (s : ByteArray) (at_ : Nat) (w : World)
theorem ext_get (a : Nat) (h : a < s.size) : (s.extract a s.size)[0]'(by simp; omega) = s[a] := by
  have h1 := ext_end s a
  rw [drop_at s a h] at h1
  have h2 := drop_at (s.extract a s.size) 0 (by simp; omega)
  rw [List.drop_zero, h1] at h2
  exact (List.cons.inj h2).1.symm
theorem ext_take (a n : Nat) : (⟨((s.data.toList.drop a).take n).toArray⟩ : ByteArray) = s.extract a (a + n) := by rw [Lib.extract_eq, Nat.add_sub_cancel_left]
theorem ext_ext2 (a i j : Nat) (h : a + j ≤ s.size) : (s.extract a s.size).extract i j = s.extract (a + i) (a + j) := by
  apply ByteArray.ext
  apply Array.ext'
  rw [Lib.extract_data, ext_end, Lib.extract_data, List.drop_drop]
  congr 1
  omega

set_option maxRecDepth 100000 in
set_option maxHeartbeats 1600000 in
theorem lex_word_name (hs : s.size < 4294967281) (hat : at_ < s.size) (hl : Sp.letter s[at_] = true) :
    Calls Tryd.prog 32 #[.string s, .int .i64 at_] w (WordPost (Sp.word (s.data.toList.drop at_)) w) := by
  have hd := drop_at s at_ hat
  have hN : Sp.word (s.data.toList.drop at_) = if Sp.nameLen true (s.data.toList.drop at_) ≤ 20 then (1, (s.data.toList.drop at_).take (Sp.nameLen true (s.data.toList.drop at_)), Sp.nameLen true (s.data.toList.drop at_)) else Sp.noWord := by
    rw [hd, Sp.word_cons, if_pos hl]
  generalize Sp.word (s.data.toList.drop at_) = N at hN
  have HL := Lib.hid (fun W => lex_letter s[at_] W)
  rw [Sp.letter_alpha] at hl
  have HR := Lib.hid (fun W => body_Run (s.extract at_ s.size) W (by simp; omega))
  rw [ext_end] at HR
  have hle := Sp.nameLen_le true (s.data.toList.drop at_)
  have hll : (s.data.toList.drop at_).length = s.size - at_ := by simp
  rw [hll] at hle
  generalize Sp.alpha s[at_] = al at HL hl
  generalize Sp.nameLen true (s.data.toList.drop at_) = m at HR hN hle
  have HX := Lib.hid (ext_take s at_ m)
  have HY := Lib.hid (show at_ + m ≤ s.size → (s.extract at_ s.size).extract 0 m = s.extract at_ (at_ + m) from fun h => by have := ext_ext2 s at_ 0 m h; simpa using this)
  have H0 : (0 : Int) ≤ (at_ : Int) := Int.natCast_nonneg _
  clear hd hll
  cases h95 : ((s[at_].toNat : Int) == 95) <;> cases al
  · rw [h95] at hl; simp at hl
  all_goals
    clear hl
    by_cases h20 : m ≤ 20
    · rw [if_pos h20] at hN
      subst hN
      go_enter Tryd.func32, Tryd.ntmps32
      go_wp2_with (first
        | (go_at_call 55; refine (HL.out _).mono ?_; rintro e w' ⟨rfl, rfl⟩)
        | (go_at_call 56; refine (HR.out _).mono ?_; rintro e w' ⟨rfl, rfl⟩))
      refine ret_cell_tmp (g := w.heap.size) rfl rfl (heap_last _ _) rfl Tryd.underlying77 (by kernel_rfl) rfl ⟨?_, (Below.refl _ _).alloc (Nat.le_refl _) _⟩
      simp [wordV, HX.out]
      try (exact HY.out (by omega))
    · rw [if_neg h20] at hN
      subst hN
      go_enter Tryd.func32, Tryd.ntmps32
      go_wp2_with (first
        | (go_at_call 55; refine (HL.out _).mono ?_; rintro e w' ⟨rfl, rfl⟩)
        | (go_at_call 56; refine (HR.out _).mono ?_; rintro e w' ⟨rfl, rfl⟩))
      refine ret_cell_tmp (g := w.heap.size) rfl rfl (heap_last _ _) rfl Tryd.underlying77 (by kernel_rfl) rfl ⟨by simp [wordV, Sp.noWord], (Below.refl _ _).alloc (Nat.le_refl _) _⟩

set_option maxRecDepth 100000 in
set_option maxHeartbeats 1600000 in
theorem lex_word_num (hs : s.size < 4294967281) (hat : at_ < s.size) (hl : Sp.letter s[at_] = false) (hdg : Sp.digit s[at_] = true) :
    Calls Tryd.prog 32 #[.string s, .int .i64 at_] w (WordPost (Sp.word (s.data.toList.drop at_)) w) := by
  have hd := drop_at s at_ hat
  have hN : Sp.word (s.data.toList.drop at_) = if 0 < Sp.number (s.data.toList.drop at_) then (3, (s.data.toList.drop at_).take (Sp.number (s.data.toList.drop at_)), Sp.number (s.data.toList.drop at_)) else Sp.noWord := by
    rw [hd, Sp.word_cons, if_neg (by rw [hl]; decide), if_pos hdg]
  generalize Sp.word (s.data.toList.drop at_) = N at hN
  have HL := Lib.hid (fun W => lex_letter s[at_] W)
  have HDg := Lib.hid (fun W => lex_digit s[at_] W)
  rw [hdg] at HDg
  rw [Sp.letter_alpha] at hl
  have HR := Lib.hid (fun W => lex_number (s.extract at_ s.size) W (by simp; omega) (by simp; omega) (by rw [ext_get s at_ hat]; exact hdg))
  rw [ext_end] at HR
  have hle : Sp.number (s.data.toList.drop at_) ≤ s.size - at_ := by
    have h1 := Sp.digits_le (s.data.toList.drop at_)
    have hll : (s.data.toList.drop at_).length = s.size - at_ := by simp
    unfold Sp.number
    split
    · omega
    · split <;> omega
  have hal : Sp.alpha s[at_] = false := by cases h : Sp.alpha s[at_] <;> simp_all
  have h95 : ((s[at_].toNat : Int) == 95) = false := by cases h : ((s[at_].toNat : Int) == 95) <;> simp_all
  rw [hal] at HL
  generalize Sp.number (s.data.toList.drop at_) = m at HR hN hle
  have HX := Lib.hid (ext_take s at_ m)
  have HY := Lib.hid (show at_ + m ≤ s.size → (s.extract at_ s.size).extract 0 m = s.extract at_ (at_ + m) from fun h => by have := ext_ext2 s at_ 0 m h; simpa using this)
  have H0 : (0 : Int) ≤ (at_ : Int) := Int.natCast_nonneg _
  clear hd hl hal hdg
  by_cases h20 : 0 < m
  · rw [if_pos h20] at hN
    subst hN
    go_enter Tryd.func32, Tryd.ntmps32
    go_wp2_with (first
      | (go_at_call 55; refine (HL.out _).mono ?_; rintro e w' ⟨rfl, rfl⟩)
      | (go_at_call 57; refine (HDg.out _).mono ?_; rintro e w' ⟨rfl, rfl⟩)
      | (go_at_call 58; refine (HR.out _).mono ?_; rintro e w1 ⟨rfl, hb⟩; have hB := (hb.block w.heap.size (by simp)).trans (heap_last _ _); have c0 := cell_at (i := 0) hB; have c1 := cell_at (i := 1) hB; have c2 := cell_at (i := 2) hB; have f0 := frozen_at (i := 0) hB; have f1 := frozen_at (i := 1) hB; have f2 := frozen_at (i := 2) hB; have hz := lt_at hB))
    refine ret_cell_tmp (g := w.heap.size) rfl rfl (by exact heap_setCell_at (heap_setCell_at (heap_setCell_at hB))) rfl Tryd.underlying77 (by kernel_rfl) rfl ⟨?_, ?_⟩
    · simp [wordV, HX.out]
      try (exact HY.out (by omega))
    · exact (((((Below.refl _ _).alloc (Nat.le_refl _) _).trans (hb.mono (by simp))).setCell (by simp) _).setCell (by simp) _).setCell (by simp) _
  · rw [if_neg h20] at hN
    subst hN
    go_enter Tryd.func32, Tryd.ntmps32
    go_wp2_with (first
      | (go_at_call 55; refine (HL.out _).mono ?_; rintro e w' ⟨rfl, rfl⟩)
      | (go_at_call 57; refine (HDg.out _).mono ?_; rintro e w' ⟨rfl, rfl⟩)
      | (go_at_call 58; refine (HR.out _).mono ?_; rintro e w1 ⟨rfl, hb⟩; have hB := (hb.block w.heap.size (by simp)).trans (heap_last _ _); have c0 := cell_at (i := 0) hB; have c1 := cell_at (i := 1) hB; have c2 := cell_at (i := 2) hB; have f0 := frozen_at (i := 0) hB; have f1 := frozen_at (i := 1) hB; have f2 := frozen_at (i := 2) hB; have hz := lt_at hB))
    refine ret_cell_tmp (g := w.heap.size) rfl rfl (by exact heap_setCell_at (heap_setCell_at (heap_setCell_at hB))) rfl Tryd.underlying77 (by kernel_rfl) rfl ⟨?_, ?_⟩
    · simp [wordV, Sp.noWord]
    · exact (((((Below.refl _ _).alloc (Nat.le_refl _) _).trans (hb.mono (by simp))).setCell (by simp) _).setCell (by simp) _).setCell (by simp) _

/-- A byte that begins no name and no number. -/
theorem not_letter {c : UInt8} (hl : Sp.letter c = false) : Sp.alpha c = false ∧ ((c.toNat : Int) == 95) = false := by
  rw [Sp.letter_alpha] at hl
  constructor
  · cases h : Sp.alpha c <;> simp_all
  · cases h : ((c.toNat : Int) == 95) <;> simp_all

set_option maxRecDepth 100000 in
set_option maxHeartbeats 1600000 in
theorem lex_word_lit (hs : s.size < 4294967281) (hat : at_ < s.size) (hl : Sp.letter s[at_] = false) (hdg : Sp.digit s[at_] = false) (hq : ((s[at_].toNat : Int) == 39) = true) :
    Calls Tryd.prog 32 #[.string s, .int .i64 at_] w (WordPost (Sp.word (s.data.toList.drop at_)) w) := by
  have hd := drop_at s at_ hat
  have hN : Sp.word (s.data.toList.drop at_) = match Sp.charTake (s.data.toList.drop at_) with | none => Sp.noWord | some (b, n) => (2, [b], n) := by
    rw [hd, Sp.word_cons, if_neg (by rw [hl]; decide), if_neg (by rw [hdg]; decide), if_pos hq]
    rfl
  generalize Sp.word (s.data.toList.drop at_) = N at hN
  have HL := Lib.hid (fun W => lex_letter s[at_] W)
  have HDg := Lib.hid (fun W => lex_digit s[at_] W)
  rw [hdg] at HDg
  have HT := Lib.hid (fun W => char_Take s at_ W hs hat hq)
  obtain ⟨hal, h95⟩ := not_letter hl
  rw [hal] at HL
  have H0 : (0 : Int) ≤ (at_ : Int) := Int.natCast_nonneg _
  have hct := Sp.charTake_le (s.data.toList.drop at_)
  have hll : (s.data.toList.drop at_).length = s.size - at_ := by simp
  rw [hll] at hct
  generalize Sp.charTake (s.data.toList.drop at_) = o at hN HT hct
  clear hd hl hal hdg hll
  cases o with
  | none =>
    simp only at hN
    subst hN
    simp only [Sp.takeRes] at HT
    clear hct
    go_enter Tryd.func32, Tryd.ntmps32
    go_wp2_with (first
      | (go_at_call 55; refine (HL.out _).mono ?_; rintro e w' ⟨rfl, rfl⟩)
      | (go_at_call 57; refine (HDg.out _).mono ?_; rintro e w' ⟨rfl, rfl⟩)
      | (go_at_call 59; refine (HT.out _).mono ?_; rintro e w' ⟨rfl, rfl⟩))
    refine ret_cell_tmp (g := w.heap.size) rfl rfl (heap_last _ _) rfl Tryd.underlying77 (by kernel_rfl) rfl ⟨by simp [wordV, Sp.noWord], (Below.refl _ _).alloc (Nat.le_refl _) _⟩
  | some p =>
    obtain ⟨b, n⟩ := p
    obtain ⟨hn1, hn2⟩ := hct b n rfl
    simp only at hN
    simp only [Sp.takeRes] at HT
    subst hN
    have hcv := Lib.hid (fun W : World => convert_one W b)
    clear hct
    go_enter Tryd.func32, Tryd.ntmps32
    have hcv2 := hcv.out (w.alloc (.cells #[.int .i64 0, .string ⟨#[]⟩, .int .i64 0] 77))
    simp only [World.size_alloc] at hcv2
    go_wp2_with (first
      | (go_at_call 55; refine (HL.out _).mono ?_; rintro e w' ⟨rfl, rfl⟩)
      | (go_at_call 57; refine (HDg.out _).mono ?_; rintro e w' ⟨rfl, rfl⟩)
      | (go_at_call 59; refine (HT.out _).mono ?_; rintro e w' ⟨rfl, rfl⟩))
    refine ret_cell_tmp (g := w.heap.size) rfl rfl (heap_alloc_of2 (heap_last _ _) _) rfl Tryd.underlying77 (by kernel_rfl) rfl ⟨?_, ?_⟩
    · simp [wordV]
      try omega
    · exact ((Below.refl _ _).alloc (Nat.le_refl _) _).alloc (by simp) _

set_option maxRecDepth 100000 in
set_option maxHeartbeats 1600000 in
theorem lex_word_tag (hs : s.size < 4294967281) (hat : at_ < s.size) (hl : Sp.letter s[at_] = false) (hdg : Sp.digit s[at_] = false) (h39 : ((s[at_].toNat : Int) == 39) = false) (h60 : ((s[at_].toNat : Int) == 60) = true) :
    Calls Tryd.prog 32 #[.string s, .int .i64 at_] w (WordPost (Sp.word (s.data.toList.drop at_)) w) := by
  have hd := drop_at s at_ hat
  have hN : Sp.word (s.data.toList.drop at_) = if Sp.isName ((s.data.toList.drop (at_ + 1)).take (Sp.nameLen true (s.data.toList.drop (at_ + 1)))) = true ∧ Lib.hasPrefix (s.data.toList.drop (at_ + 1 + Sp.nameLen true (s.data.toList.drop (at_ + 1)))) [62] = true then (4, (s.data.toList.drop (at_ + 1)).take (Sp.nameLen true (s.data.toList.drop (at_ + 1))), Sp.nameLen true (s.data.toList.drop (at_ + 1)) + 2) else Sp.noWord := by
    rw [hd, Sp.word_cons, if_neg (by rw [hl]; decide), if_neg (by rw [hdg]; decide), if_neg (by rw [h39]; decide), if_pos h60, List.drop_drop]
  generalize Sp.word (s.data.toList.drop at_) = N at hN
  have HL := Lib.hid (fun W => lex_letter s[at_] W)
  have HDg := Lib.hid (fun W => lex_digit s[at_] W)
  rw [hdg] at HDg
  obtain ⟨hal, h95⟩ := not_letter hl
  rw [hal] at HL
  have H0 : (0 : Int) ≤ (at_ : Int) := Int.natCast_nonneg _
  have h1s : (1 : Int) ≤ (s.size : Int) - (at_ : Int) := by omega
  have HR := Lib.hid (fun W => body_Run ((s.extract at_ s.size).extract 1 (s.size - at_)) W (by simp; omega))
  rw [ext_ext] at HR
  have hle := Sp.nameLen_le true (s.data.toList.drop (at_ + 1))
  have hll : (s.data.toList.drop (at_ + 1)).length = s.size - (at_ + 1) := by simp
  rw [hll] at hle
  generalize Sp.nameLen true (s.data.toList.drop (at_ + 1)) = m at HR hN hle
  have hxd : ((s.extract at_ s.size).extract 1 (1 + m)).data.toList = (s.data.toList.drop (at_ + 1)).take m := by
    rw [ext_any, ext_end, List.drop_drop, Nat.add_sub_cancel_left]
  have HNm := Lib.hid (fun W => body_Name ((s.extract at_ s.size).extract 1 (1 + m)) W (by simp; omega))
  rw [hxd] at HNm
  have HX := Lib.hid (show (⟨((s.data.toList.drop (at_ + 1)).take m).toArray⟩ : ByteArray) = (s.extract at_ s.size).extract 1 (1 + m) by rw [← hxd])
  have HP := Lib.hid (fun W => strings_HasPrefix_gl ((s.extract at_ s.size).extract (1 + m) (s.size - at_)) ⟨#[62]⟩ W)
  rw [ext_ext, show at_ + (1 + m) = at_ + 1 + m by omega, show (⟨#[62]⟩ : ByteArray).data.toList = [62] from rfl] at HP
  generalize Sp.isName ((s.data.toList.drop (at_ + 1)).take m) = B1 at hN HNm
  generalize Lib.hasPrefix (s.data.toList.drop (at_ + 1 + m)) [62] = B2 at hN HP
  clear hd hl hal hdg hll hxd
  cases B1 <;> cases B2
  case true.true =>
    rw [if_pos ⟨rfl, rfl⟩] at hN
    subst hN
    go_enter Tryd.func32, Tryd.ntmps32
    go_wp2_with (first
      | (go_at_call 55; refine (HL.out _).mono ?_; rintro e w' ⟨rfl, rfl⟩)
      | (go_at_call 57; refine (HDg.out _).mono ?_; rintro e w' ⟨rfl, rfl⟩)
      | (go_at_call 56; refine (HR.out _).mono ?_; rintro e w' ⟨rfl, rfl⟩)
      | (go_at_call 60; refine (HNm.out _).mono ?_; rintro e w' ⟨rfl, rfl⟩)
      | (go_at_call 51; refine (HP.out _).mono ?_; rintro e w' ⟨rfl, rfl⟩))
    refine ret_cell_tmp (g := w.heap.size) rfl rfl (heap_last _ _) rfl Tryd.underlying77 (by kernel_rfl) rfl ⟨?_, (Below.refl _ _).alloc (Nat.le_refl _) _⟩
    simp [wordV, HX.out]
  all_goals
    rw [if_neg (by simp)] at hN
    subst hN
    go_enter Tryd.func32, Tryd.ntmps32
    go_wp2_with (first
      | (go_at_call 55; refine (HL.out _).mono ?_; rintro e w' ⟨rfl, rfl⟩)
      | (go_at_call 57; refine (HDg.out _).mono ?_; rintro e w' ⟨rfl, rfl⟩)
      | (go_at_call 56; refine (HR.out _).mono ?_; rintro e w' ⟨rfl, rfl⟩)
      | (go_at_call 60; refine (HNm.out _).mono ?_; rintro e w' ⟨rfl, rfl⟩)
      | (go_at_call 51; refine (HP.out _).mono ?_; rintro e w' ⟨rfl, rfl⟩))
    refine ret_cell_tmp (g := w.heap.size) rfl rfl (heap_last _ _) rfl Tryd.underlying77 (by kernel_rfl) rfl ⟨by simp [wordV, Sp.noWord], (Below.refl _ _).alloc (Nat.le_refl _) _⟩

set_option maxRecDepth 100000 in
set_option maxHeartbeats 1600000 in
theorem lex_word_pct (hs : s.size < 4294967281) (hat : at_ < s.size) (hg : Gl w) (hl : Sp.letter s[at_] = false) (hdg : Sp.digit s[at_] = false) (h39 : ((s[at_].toNat : Int) == 39) = false) (h60 : ((s[at_].toNat : Int) == 60) = false) (h37 : ((s[at_].toNat : Int) == 37) = true) :
    Calls Tryd.prog 32 #[.string s, .int .i64 at_] w (WordPost (Sp.word (s.data.toList.drop at_)) w) := by
  have hd := drop_at s at_ hat
  have hN : Sp.word (s.data.toList.drop at_) = Sp.percent (s.data.toList.drop at_) := by
    rw [hd, Sp.word_cons, if_neg (by rw [hl]; decide), if_neg (by rw [hdg]; decide), if_neg (by rw [h39]; decide), if_neg (by rw [h60]; decide), if_pos h37]
  have HP := Lib.hid (fun W hW => lex_percent (s.extract at_ s.size) W (by simp; omega) (by simp; omega) hW)
  rw [ext_end, ← hN] at HP
  generalize Sp.word (s.data.toList.drop at_) = N at HP
  obtain ⟨kd, tx, n⟩ := N
  simp only [wordV] at HP
  have HL := Lib.hid (fun W => lex_letter s[at_] W)
  have HDg := Lib.hid (fun W => lex_digit s[at_] W)
  rw [hdg] at HDg
  obtain ⟨hal, h95⟩ := not_letter hl
  rw [hal] at HL
  have H0 : (0 : Int) ≤ (at_ : Int) := Int.natCast_nonneg _
  have HG := Lib.hid (fun o : Obj => hg.alloc o)
  clear hd hl hal hdg hN
  go_enter Tryd.func32, Tryd.ntmps32
  go_wp2_with (first
    | (go_at_call 55; refine (HL.out _).mono ?_; rintro e w' ⟨rfl, rfl⟩)
    | (go_at_call 57; refine (HDg.out _).mono ?_; rintro e w' ⟨rfl, rfl⟩)
    | (go_at_call 61; refine (HP.out _ (HG.out _)).mono ?_; rintro e w1 ⟨rfl, hb⟩; have hB := (hb.block w.heap.size (by simp)).trans (heap_last _ _); have c0 := cell_at (i := 0) hB; have c1 := cell_at (i := 1) hB; have c2 := cell_at (i := 2) hB; have f0 := frozen_at (i := 0) hB; have f1 := frozen_at (i := 1) hB; have f2 := frozen_at (i := 2) hB; have hz := lt_at hB))
  refine ret_cell_tmp (g := w.heap.size) rfl rfl (by exact heap_setCell_at (heap_setCell_at (heap_setCell_at hB))) rfl Tryd.underlying77 (by kernel_rfl) rfl ⟨?_, ?_⟩
  · simp [wordV]
  · exact (((((Below.refl _ _).alloc (Nat.le_refl _) _).trans (hb.mono (by simp))).setCell (by simp) _).setCell (by simp) _).setCell (by simp) _

set_option maxRecDepth 100000 in
set_option maxHeartbeats 1600000 in
theorem lex_word_sign (hat : at_ < s.size) (hs : s.size < 4294967281) (hl : Sp.letter s[at_] = false) (hdg : Sp.digit s[at_] = false) (h39 : ((s[at_].toNat : Int) == 39) = false) (h60 : ((s[at_].toNat : Int) == 60) = false) (h37 : ((s[at_].toNat : Int) == 37) = false)
    (hsg : ((s[at_].toNat : Int) == 58) = true ∨ ((s[at_].toNat : Int) == 59) = true ∨ ((s[at_].toNat : Int) == 124) = true) :
    Calls Tryd.prog 32 #[.string s, .int .i64 at_] w (WordPost (Sp.word (s.data.toList.drop at_)) w) := by
  have hd := drop_at s at_ hat
  have hN : Sp.word (s.data.toList.drop at_) = (6, [s[at_]], 1) := by
    rw [hd, Sp.word_cons, if_neg (by rw [hl]; decide), if_neg (by rw [hdg]; decide), if_neg (by rw [h39]; decide), if_neg (by rw [h60]; decide), if_neg (by rw [h37]; decide), if_pos hsg]
  generalize Sp.word (s.data.toList.drop at_) = N at hN
  have HL := Lib.hid (fun W => lex_letter s[at_] W)
  have HDg := Lib.hid (fun W => lex_digit s[at_] W)
  rw [hdg] at HDg
  obtain ⟨hal, h95⟩ := not_letter hl
  rw [hal] at HL
  have H0 : (0 : Int) ≤ (at_ : Int) := Int.natCast_nonneg _
  have h1s : (1 : Int) ≤ (s.size : Int) - (at_ : Int) := by omega
  have hx : ((s.extract at_ s.size).extract 0 1).data.toList = [s[at_]] := by
    rw [ext_any, ext_end, hd]; rfl
  have HX := Lib.hid (show (⟨#[s[at_]]⟩ : ByteArray) = (s.extract at_ s.size).extract 0 1 by rw [← Lib.mk_data ((s.extract at_ s.size).extract 0 1), hx])
  subst hN
  generalize hb58 : ((s[at_].toNat : Int) == 58) = b1 at hsg
  generalize hb59 : ((s[at_].toNat : Int) == 59) = b2 at hsg
  generalize hb124 : ((s[at_].toNat : Int) == 124) = b3 at hsg
  clear hd hl hal hdg hx
  cases b1 <;> cases b2 <;> cases b3
  · simp at hsg
  all_goals
    clear hsg
    go_enter Tryd.func32, Tryd.ntmps32
    go_wp2_with (first
      | (go_at_call 55; refine (HL.out _).mono ?_; rintro e w' ⟨rfl, rfl⟩)
      | (go_at_call 57; refine (HDg.out _).mono ?_; rintro e w' ⟨rfl, rfl⟩))
    refine ret_cell_tmp (g := w.heap.size) rfl rfl (heap_last _ _) rfl Tryd.underlying77 (by kernel_rfl) rfl ⟨?_, (Below.refl _ _).alloc (Nat.le_refl _) _⟩
    simp [wordV, HX.out]

end
end Go.Proofs.YtphdfbmmjkccgaaDoor

namespace Go.Proofs.YtphdfbmmjkccgaaDoor
open Go.RowKit
section
variable (s : ByteArray) (at_ : Nat) (w : World)
set_option maxRecDepth 100000 in
set_option maxHeartbeats 1600000 in
theorem lex_word_code (hat : at_ < s.size) (hs : s.size < 4294967281) (hg : Gl w) (hl : Sp.letter s[at_] = false) (hdg : Sp.digit s[at_] = false) (h39 : ((s[at_].toNat : Int) == 39) = false) (h60 : ((s[at_].toNat : Int) == 60) = false) (h37 : ((s[at_].toNat : Int) == 37) = false)
    (h58 : ((s[at_].toNat : Int) == 58) = false) (h59 : ((s[at_].toNat : Int) == 59) = false) (h124 : ((s[at_].toNat : Int) == 124) = false) :
    Calls Tryd.prog 32 #[.string s, .int .i64 at_] w (WordPost (Sp.word (s.data.toList.drop at_)) w) := by
  have hd := drop_at s at_ hat
  have hN : Sp.word (s.data.toList.drop at_) = if ((s[at_].toNat : Int) == 123) = true then (match Sp.endLen (s.data.toList.drop at_) with | none => Sp.noWord | some n => (8, (s.data.toList.drop at_).take n, n)) else Sp.noWord := by
    rw [hd, Sp.word_cons, if_neg (by rw [hl]; decide), if_neg (by rw [hdg]; decide), if_neg (by rw [h39]; decide), if_neg (by rw [h60]; decide), if_neg (by rw [h37]; decide), if_neg (by rw [h58, h59, h124]; simp)]
    rfl
  generalize Sp.word (s.data.toList.drop at_) = N at hN
  have HL := Lib.hid (fun W => lex_letter s[at_] W)
  have HDg := Lib.hid (fun W => lex_digit s[at_] W)
  rw [hdg] at HDg
  obtain ⟨hal, h95⟩ := not_letter hl
  rw [hal] at HL
  have H0 : (0 : Int) ≤ (at_ : Int) := Int.natCast_nonneg _
  cases h123 : ((s[at_].toNat : Int) == 123) with
  | false =>
    rw [if_neg (by rw [h123]; decide)] at hN
    subst hN
    clear hd hl hal hdg
    go_enter Tryd.func32, Tryd.ntmps32
    go_wp2_with (first
      | (go_at_call 55; refine (HL.out _).mono ?_; rintro e w' ⟨rfl, rfl⟩)
      | (go_at_call 57; refine (HDg.out _).mono ?_; rintro e w' ⟨rfl, rfl⟩))
    refine ret_cell_tmp (g := w.heap.size) rfl rfl (heap_last _ _) rfl Tryd.underlying77 (by kernel_rfl) rfl ⟨by simp [wordV, Sp.noWord], (Below.refl _ _).alloc (Nat.le_refl _) _⟩
  | true =>
    rw [if_pos h123] at hN
    have HE := Lib.hid (fun W hW => body_End_in s at_ W hs hat hW)
    have hpos : ∀ n, Sp.endLen (s.data.toList.drop at_) = some n → 1 ≤ n ∧ n ≤ s.size - at_ := by
      intro n hn
      rw [hd] at hn
      unfold Sp.endLen at hn
      simp only at hn
      rw [if_pos h123] at hn
      have h1 := Sp.endGo_pos _ _ _ _ hn
      have h2 := Sp.endGo_le _ _ _ _ hn
      have hll : (s.data.toList.drop at_).length = s.size - at_ := by simp
      rw [← hd, hll] at h2
      exact ⟨h1, h2⟩
    generalize Sp.endLen (s.data.toList.drop at_) = o at hN HE hpos
    have HG := Lib.hid (fun o : Obj => hg.alloc o)
    clear hl hal hdg
    cases o with
    | none =>
      simp only at hN
      subst hN
      simp only [Sp.place] at HE
      clear hpos hd
      go_enter Tryd.func32, Tryd.ntmps32
      go_wp2_with (first
        | (go_at_call 55; refine (HL.out _).mono ?_; rintro e w' ⟨rfl, rfl⟩)
        | (go_at_call 57; refine (HDg.out _).mono ?_; rintro e w' ⟨rfl, rfl⟩)
        | (go_at_call 44; refine (HE.out _ (HG.out _)).mono ?_; rintro e w' ⟨rfl, n1, rfl⟩))
      refine ret_cell_tmp (g := w.heap.size) rfl rfl (by exact heap_setCell_at (heap_setCell_at (heap_setCell_at (heap_last_drewN _ _ _)))) rfl Tryd.underlying77 (by kernel_rfl) rfl ⟨by simp [wordV, Sp.noWord], (((below_drewN ((Below.refl _ _).alloc (Nat.le_refl _) _) _).setCell (by simp) _).setCell (by simp) _).setCell (by simp) _⟩
    | some n =>
      simp only at hN
      subst hN
      simp only [Sp.place] at HE
      obtain ⟨hp1, hp2⟩ := hpos n rfl
      have HX := Lib.hid (ext_take s at_ n)
      clear hpos hd
      go_enter Tryd.func32, Tryd.ntmps32
      go_wp2_with (first
        | (go_at_call 55; refine (HL.out _).mono ?_; rintro e w' ⟨rfl, rfl⟩)
        | (go_at_call 57; refine (HDg.out _).mono ?_; rintro e w' ⟨rfl, rfl⟩)
        | (go_at_call 44; refine (HE.out _ (HG.out _)).mono ?_; rintro e w' ⟨rfl, n1, rfl⟩))
      refine ret_cell_tmp (g := w.heap.size) rfl rfl (by exact heap_setCell_at (heap_setCell_at (heap_setCell_at (heap_last_drewN _ _ _)))) rfl Tryd.underlying77 (by kernel_rfl) rfl ⟨?_, (((below_drewN ((Below.refl _ _).alloc (Nat.le_refl _) _) _).setCell (by simp) _).setCell (by simp) _).setCell (by simp) _⟩
      simp [wordV, HX.out]
      try omega

theorem lex_word (hat : at_ < s.size) (hs : s.size < 4294967281) (hg : Gl w) :
    Calls Tryd.prog 32 #[.string s, .int .i64 at_] w (WordPost (Sp.word (s.data.toList.drop at_)) w) := by
  cases hl : Sp.letter s[at_] with
  | true => exact lex_word_name s at_ w hs hat hl
  | false =>
  cases hdg : Sp.digit s[at_] with
  | true => exact lex_word_num s at_ w hs hat hl hdg
  | false =>
  cases h39 : ((s[at_].toNat : Int) == 39) with
  | true => exact lex_word_lit s at_ w hs hat hl hdg h39
  | false =>
  cases h60 : ((s[at_].toNat : Int) == 60) with
  | true => exact lex_word_tag s at_ w hs hat hl hdg h39 h60
  | false =>
  cases h37 : ((s[at_].toNat : Int) == 37) with
  | true => exact lex_word_pct s at_ w hs hat hg hl hdg h39 h60 h37
  | false =>
  cases h58 : ((s[at_].toNat : Int) == 58) with
  | true => exact lex_word_sign s at_ w hat hs hl hdg h39 h60 h37 (.inl h58)
  | false =>
  cases h59 : ((s[at_].toNat : Int) == 59) with
  | true => exact lex_word_sign s at_ w hat hs hl hdg h39 h60 h37 (.inr (.inl h59))
  | false =>
  cases h124 : ((s[at_].toNat : Int) == 124) with
  | true => exact lex_word_sign s at_ w hat hs hl hdg h39 h60 h37 (.inr (.inr h124))
  | false => exact lex_word_code s at_ w hat hs hg hl hdg h39 h60 h37 h58 h59 h124
end
end Go.Proofs.YtphdfbmmjkccgaaDoor

namespace Go.Proofs.YtphdfbmmjkccgaaDoor
open Go.RowKit

theorem ownsRow_some {w : World} {base : Nat} {e : TypeId} {size : Nat} {v : Value} {n : Nat} {xs : List Value} (h : w.ownsRow base e size v n xs) : ∃ a cap, v = .slice a n cap := by
  rcases h.2 with ⟨rfl, rfl⟩ | ⟨g, cap, cur, rfl, _⟩
  · exact ⟨_, _, rfl⟩
  · exact ⟨_, _, rfl⟩

end Go.Proofs.YtphdfbmmjkccgaaDoor
