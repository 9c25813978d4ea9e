/- The walk of the reference's word: names, bytes in quotes, tags, signs, actions. -/
import Derived.Test.YticdgfljaphhgaaDoorCh
namespace Go.Proofs.YticdgfljaphhgaaDoor
open Go.RowKit

/-- A word as a value at its place. -/
def wordAt (p : Int × List UInt8 × Nat) (at_ : Nat) : Value := .agg #[.int .i64 p.1, .string ⟨p.2.1.toArray⟩, .int .i64 (at_ : Int)]
/-- What the reference's word leaves. -/
def RWordPost (p : Int × List UInt8 × Nat) (at_ : Nat) (w : World) (e : Ending) (w' : World) : Prop := e = .returned (.tuple #[wordAt p at_, .int .i64 p.2.2]) ∧ Below w.heap.size w w'

theorem heap2_drew (w : World) (A B : Obj) : (((w.alloc A).alloc B).drew).heap[w.heap.size]? = some A := heap_alloc_of2 (heap_last w A) B
theorem ref_isName (l : List UInt8) (m : Nat) (h : Sp.nameLen true l = m) : Sp.isName (l.take m) = (decide (1 ≤ m) && decide (m ≤ 20)) := by
  have hl := Sp.nameLen_le true l
  rw [h] at hl
  have hlen : (l.take m).length = m := by rw [List.length_take]; omega
  have hn : Sp.nameLen true (l.take m) = m := by
    have key : ∀ (b : Bool) (l : List UInt8), Sp.nameLen b (l.take (Sp.nameLen b l)) = Sp.nameLen b l := by
      intro b l
      induction l generalizing b with
      | nil => simp [Sp.nameLen]
      | cons c t ih =>
        by_cases hc : (Sp.letter c || (!b && (Sp.digit c || (c.toNat : Int) == 46))) = true
        · have e : Sp.nameLen b (c :: t) = Sp.nameLen false t + 1 := by rw [Sp.nameLen, if_pos hc]
          rw [e, List.take_succ_cons, Sp.nameLen, if_pos hc, ih false]
        · have e : Sp.nameLen b (c :: t) = 0 := by rw [Sp.nameLen, if_neg hc]
          rw [e]; rfl
    have := key true l
    rw [h] at this; exact this
  unfold Sp.isName
  rw [hlen, hn]
  cases m with
  | zero => simp
  | succ m =>
    cases l with
    | nil => simp at hl
    | cons c t => simp
section
variable (s : ByteArray) (at_ : Nat) (w : World)

set_option maxRecDepth 100000 in
set_option maxHeartbeats 3200000 in
theorem ref_word_name (hs : s.size < 4294967281) (hat : at_ < s.size) (hl : Sp.letter s[at_] = true) :
    Calls Tryd.prog 73 #[.string s, .int .i64 at_] w (RWordPost (Sp.word (s.data.toList.drop at_)) at_ w) := by
  have hd := drop_at s at_ hat
  have hN : Sp.word (s.data.toList.drop at_) = if Sp.nameLen true (s.data.toList.drop at_) ≤ 20 then (1, (s.data.toList.drop at_).take (Sp.nameLen true (s.data.toList.drop at_)), Sp.nameLen true (s.data.toList.drop at_)) else Sp.noWord := by
    rw [hd, Sp.word_cons, if_pos hl]
  generalize Sp.word (s.data.toList.drop at_) = N at hN
  have HL := Lib.hid (fun W => ref_letter s[at_] W)
  rw [hl] at HL
  have HR := Lib.hid (fun W => ref_NameAt s at_ W hs (by omega))
  have hle := Sp.nameLen_le true (s.data.toList.drop at_)
  have hll : (s.data.toList.drop at_).length = s.size - at_ := by simp
  rw [hll] at hle
  generalize Sp.nameLen true (s.data.toList.drop at_) = m at HR hN hle
  have HX := Lib.hid (ext_take s at_ m)
  have H0 : (0 : Int) ≤ (at_ : Int) := Int.natCast_nonneg _
  have H1 : (0 : Int) ≤ (m : Int) := Int.natCast_nonneg _
  have H2 : (at_ : Int) + (m : Int) ≤ (s.size : Int) := by omega
  clear hd hll
  by_cases h20 : m ≤ 20
  · rw [if_pos h20] at hN
    subst hN
    go_enter Tryd.func73, Tryd.ntmps73
    go_wp2_with (first
      | (go_at_call 90; refine (HL.out _).mono ?_; rintro e w' ⟨rfl, rfl⟩)
      | (go_at_call 51; refine (HR.out _).mono ?_; rintro e w' ⟨rfl, rfl⟩))
    go_region
    go_wp2
    refine ret_cell_tmp (g := w.heap.size) rfl rfl (heap2_drew _ _ _) rfl Tryd.underlying53 (by kernel_rfl) rfl ⟨by simp [wordAt, HX.out], below_drewN (((Below.refl _ _).alloc (Nat.le_refl _) _).alloc (by simp) _) 1⟩
  · rw [if_neg h20] at hN
    subst hN
    go_enter Tryd.func73, Tryd.ntmps73
    go_wp2_with (first
      | (go_at_call 90; refine (HL.out _).mono ?_; rintro e w' ⟨rfl, rfl⟩)
      | (go_at_call 51; refine (HR.out _).mono ?_; rintro e w' ⟨rfl, rfl⟩))
    refine ret_cell_tmp (g := w.heap.size) rfl rfl (heap_alloc_of2 (heap_last _ _) _) rfl Tryd.underlying53 (by kernel_rfl) rfl ⟨by simp [wordAt, Sp.noWord], ((Below.refl _ _).alloc (Nat.le_refl _) _).alloc (by simp) _⟩

set_option maxRecDepth 100000 in
set_option maxHeartbeats 3200000 in
theorem ref_word_tag (hs : s.size < 4294967281) (hat : at_ < s.size) (hl : Sp.letter s[at_] = false) (hdg : Sp.digit s[at_] = false) (h39 : ((s[at_].toNat : Int) == 39) = false) (h60 : ((s[at_].toNat : Int) == 60) = true) :
    Calls Tryd.prog 73 #[.string s, .int .i64 at_] w (RWordPost (Sp.word (s.data.toList.drop at_)) at_ w) := by
  have hd := drop_at s at_ hat
  have hN : Sp.word (s.data.toList.drop at_) = if Sp.isName ((s.data.toList.drop (at_ + 1)).take (Sp.nameLen true (s.data.toList.drop (at_ + 1)))) = true ∧ Lib.hasPrefix (s.data.toList.drop (at_ + 1 + Sp.nameLen true (s.data.toList.drop (at_ + 1)))) [62] = true then (4, (s.data.toList.drop (at_ + 1)).take (Sp.nameLen true (s.data.toList.drop (at_ + 1))), Sp.nameLen true (s.data.toList.drop (at_ + 1)) + 2) else Sp.noWord := by
    rw [hd, Sp.word_cons, if_neg (by rw [hl]; decide), if_neg (by rw [hdg]; decide), if_neg (by rw [h39]; decide), if_pos h60, List.drop_drop]
  generalize Sp.word (s.data.toList.drop at_) = N at hN
  have HL := Lib.hid (fun W => ref_letter s[at_] W)
  have HDg := Lib.hid (fun W => ref_digit s[at_] W)
  rw [hl] at HL
  rw [hdg] at HDg
  have H0 : (0 : Int) ≤ (at_ : Int) := Int.natCast_nonneg _
  have HR := Lib.hid (fun W => ref_NameAt s (at_ + 1) W hs (by omega))
  have hle := Sp.nameLen_le true (s.data.toList.drop (at_ + 1))
  have hll : (s.data.toList.drop (at_ + 1)).length = s.size - (at_ + 1) := by simp
  rw [hll] at hle
  have hnm := ref_isName (s.data.toList.drop (at_ + 1)) _ rfl
  rw [hnm] at hN
  generalize Sp.nameLen true (s.data.toList.drop (at_ + 1)) = m at HR hN hle
  have HX := Lib.hid (ext_take s (at_ + 1) m)
  clear hnm hd hl hdg hll
  have fin : (m < 1 ∨ 20 < m ∨ s.size ≤ at_ + 1 + m) ∨ ((1 ≤ m ∧ m ≤ 20) ∧ at_ + 1 + m < s.size) := by omega
  rcases fin with hf | ⟨⟨hm1, hm2⟩, hlt⟩
  · have hN2 : N = Sp.noWord := by
      rw [hN, if_neg]
      intro h
      obtain ⟨h1, h2⟩ := h
      have h3 : at_ + 1 + m < s.size := by
        rcases Nat.lt_or_ge (at_ + 1 + m) s.size with h | h
        · exact h
        · rw [drop_end s _ (by omega)] at h2; simp [Lib.hasPrefix, List.isPrefixOf] at h2
      simp at h1
      omega
    subst hN2
    clear hN
    by_cases hm1 : m < 1
    · go_enter Tryd.func73, Tryd.ntmps73
      go_wp2_with (first
        | (go_at_call 90; refine (HL.out _).mono ?_; rintro e w' ⟨rfl, rfl⟩)
        | (go_at_call 91; refine (HDg.out _).mono ?_; rintro e w' ⟨rfl, rfl⟩)
        | (go_at_call 51; refine (HR.out _).mono ?_; rintro e w' ⟨rfl, rfl⟩))
      refine ret_cell_tmp (g := w.heap.size) rfl rfl (heap_alloc_of2 (heap_last _ _) _) rfl Tryd.underlying53 (by kernel_rfl) rfl ⟨by simp [wordAt, Sp.noWord], ((Below.refl _ _).alloc (Nat.le_refl _) _).alloc (by simp) _⟩
    by_cases hm2 : 20 < m
    · go_enter Tryd.func73, Tryd.ntmps73
      go_wp2_with (first
        | (go_at_call 90; refine (HL.out _).mono ?_; rintro e w' ⟨rfl, rfl⟩)
        | (go_at_call 91; refine (HDg.out _).mono ?_; rintro e w' ⟨rfl, rfl⟩)
        | (go_at_call 51; refine (HR.out _).mono ?_; rintro e w' ⟨rfl, rfl⟩))
      refine ret_cell_tmp (g := w.heap.size) rfl rfl (heap_alloc_of2 (heap_last _ _) _) rfl Tryd.underlying53 (by kernel_rfl) rfl ⟨by simp [wordAt, Sp.noWord], ((Below.refl _ _).alloc (Nat.le_refl _) _).alloc (by simp) _⟩
    have hm3 : s.size ≤ at_ + 1 + m := by omega
    have hm3' : (s.size : Int) ≤ (at_ : Int) + 1 + (m : Int) := by omega
    clear hf
    go_enter Tryd.func73, Tryd.ntmps73
    go_wp2_with (first
      | (go_at_call 90; refine (HL.out _).mono ?_; rintro e w' ⟨rfl, rfl⟩)
      | (go_at_call 91; refine (HDg.out _).mono ?_; rintro e w' ⟨rfl, rfl⟩)
      | (go_at_call 51; refine (HR.out _).mono ?_; rintro e w' ⟨rfl, rfl⟩))
    refine ret_cell_tmp (g := w.heap.size) rfl rfl (heap_alloc_of2 (heap_last _ _) _) rfl Tryd.underlying53 (by kernel_rfl) rfl ⟨by simp [wordAt, Sp.noWord], ((Below.refl _ _).alloc (Nat.le_refl _) _).alloc (by simp) _⟩
  · have h62 : Lib.hasPrefix (s.data.toList.drop (at_ + 1 + m)) [62] = ((s[at_ + 1 + m].toNat : Int) == 62) := by
      rw [drop_at s (at_ + 1 + m) hlt, Sp.hasPrefix_one]; rfl
    rw [h62] at hN
    have hI : (at_ : Int) + 1 + (m : Int) < (s.size : Int) := by omega
    cases hb : ((s[at_ + 1 + m].toNat : Int) == 62) with
    | true =>
      have hb' : ((s[at_ + 1 + m].toNat : Int) != 62) = false := by rw [bne, hb]; rfl
      rw [hb, if_pos ⟨by simp; omega, rfl⟩] at hN
      subst hN
      clear h62 hb
      go_enter Tryd.func73, Tryd.ntmps73
      go_wp2_with (first
        | (go_at_call 90; refine (HL.out _).mono ?_; rintro e w' ⟨rfl, rfl⟩)
        | (go_at_call 91; refine (HDg.out _).mono ?_; rintro e w' ⟨rfl, rfl⟩)
        | (go_at_call 51; refine (HR.out _).mono ?_; rintro e w' ⟨rfl, rfl⟩))
      go_region
      go_wp2
      refine ret_cell_tmp (g := w.heap.size) rfl rfl (heap2_drew _ _ _) rfl Tryd.underlying53 (by kernel_rfl) rfl ⟨by simp [wordAt, HX.out], below_drewN (((Below.refl _ _).alloc (Nat.le_refl _) _).alloc (by simp) _) 1⟩
    | false =>
      have hb' : ((s[at_ + 1 + m].toNat : Int) != 62) = true := by rw [bne, hb]; rfl
      rw [hb, if_neg (by simp)] at hN
      subst hN
      clear h62 hb
      go_enter Tryd.func73, Tryd.ntmps73
      go_wp2_with (first
        | (go_at_call 90; refine (HL.out _).mono ?_; rintro e w' ⟨rfl, rfl⟩)
        | (go_at_call 91; refine (HDg.out _).mono ?_; rintro e w' ⟨rfl, rfl⟩)
        | (go_at_call 51; refine (HR.out _).mono ?_; rintro e w' ⟨rfl, rfl⟩))
      refine ret_cell_tmp (g := w.heap.size) rfl rfl (heap_alloc_of2 (heap_last _ _) _) rfl Tryd.underlying53 (by kernel_rfl) rfl ⟨by simp [wordAt, Sp.noWord], ((Below.refl _ _).alloc (Nat.le_refl _) _).alloc (by simp) _⟩

set_option maxRecDepth 100000 in
set_option maxHeartbeats 3200000 in
theorem ref_word_sign (hat : at_ < s.size) (hs : s.size < 4294967281) (hl : Sp.letter s[at_] = false) (hdg : Sp.digit s[at_] = false) (h39 : ((s[at_].toNat : Int) == 39) = false) (h60 : ((s[at_].toNat : Int) == 60) = false) (h37 : ((s[at_].toNat : Int) == 37) = false)
    (hsg : ((s[at_].toNat : Int) == 58) = true ∨ ((s[at_].toNat : Int) == 59) = true ∨ ((s[at_].toNat : Int) == 124) = true) :
    Calls Tryd.prog 73 #[.string s, .int .i64 at_] w (RWordPost (Sp.word (s.data.toList.drop at_)) at_ w) := by
  have hd := drop_at s at_ hat
  have hN : Sp.word (s.data.toList.drop at_) = (6, [s[at_]], 1) := by
    rw [hd, Sp.word_cons, if_neg (by rw [hl]; decide), if_neg (by rw [hdg]; decide), if_neg (by rw [h39]; decide), if_neg (by rw [h60]; decide), if_neg (by rw [h37]; decide), if_pos hsg]
  generalize Sp.word (s.data.toList.drop at_) = N at hN
  have HL := Lib.hid (fun W => ref_letter s[at_] W)
  have HDg := Lib.hid (fun W => ref_digit s[at_] W)
  rw [hl] at HL
  rw [hdg] at HDg
  have H0 : (0 : Int) ≤ (at_ : Int) := Int.natCast_nonneg _
  have HX := Lib.hid (show (⟨#[s[at_]]⟩ : ByteArray) = s.extract at_ (at_ + 1) by rw [← ext_take s at_ 1, hd]; rfl)
  subst hN
  generalize hb58 : ((s[at_].toNat : Int) == 58) = b1 at hsg
  generalize hb59 : ((s[at_].toNat : Int) == 59) = b2 at hsg
  generalize hb124 : ((s[at_].toNat : Int) == 124) = b3 at hsg
  clear hd hl hdg
  cases b1 <;> cases b2 <;> cases b3
  · simp at hsg
  all_goals
    clear hsg
    go_enter Tryd.func73, Tryd.ntmps73
    go_wp2_with (first
      | (go_at_call 90; refine (HL.out _).mono ?_; rintro e w' ⟨rfl, rfl⟩)
      | (go_at_call 91; refine (HDg.out _).mono ?_; rintro e w' ⟨rfl, rfl⟩))
    go_region
    go_wp2
    refine ret_cell_tmp (g := w.heap.size) rfl rfl (heap2_drew _ _ _) rfl Tryd.underlying53 (by kernel_rfl) rfl ⟨by simp [wordAt, HX.out], below_drewN (((Below.refl _ _).alloc (Nat.le_refl _) _).alloc (by simp) _) 1⟩
end
end Go.Proofs.YticdgfljaphhgaaDoor
