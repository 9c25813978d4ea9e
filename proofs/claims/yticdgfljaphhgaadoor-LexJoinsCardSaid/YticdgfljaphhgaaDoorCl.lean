/- The walk of the reference's word: what begins with a percent sign. -/
import Derived.Test.YticdgfljaphhgaaDoorCj
namespace Go.Proofs.YticdgfljaphhgaaDoor
open Go.RowKit

def keysW (w : World) : World := w.alloc (.cells #[.string ⟨#[37, 116, 111, 107, 101, 110]⟩, .string ⟨#[37, 108, 101, 102, 116]⟩, .string ⟨#[37, 114, 105, 103, 104, 116]⟩, .string ⟨#[37, 110, 111, 110, 97, 115, 115, 111, 99]⟩, .string ⟨#[37, 116, 121, 112, 101]⟩, .string ⟨#[37, 115, 116, 97, 114, 116]⟩, .string ⟨#[37, 112, 114, 101, 99]⟩] 9)
set_option maxHeartbeats 400000 in
theorem ref_Keys (w : World) :
    Calls Tryd.prog 30 #[] w fun e w' => e = .returned (.slice (some ⟨w.heap.size, 0, none⟩) 7 7) ∧ w' = keysW w := by
  go_enter Tryd.func30, Tryd.ntmps30
  go_wp2
  go_ret
  exact ⟨rfl, rfl⟩
theorem keysW_cells (w : World) : ∀ j q, keysB[j]? = some q → (keysW w).cell? ⟨w.heap.size, j, none⟩ = some (.string q) := by
  intro j q h
  have hj : j < keysB.length := (List.getElem?_eq_some_iff.1 h).1
  have h1 := keys_cells w w.heap.size rfl j hj
  rw [Nat.zero_add] at h1
  have h2 : keysB.getD j ByteArray.empty = q := by rw [List.getD_eq_getElem?_getD, h]; rfl
  rw [← h2]; exact h1
theorem keysW_below (w : World) : Below w.heap.size w (keysW w) := (Below.refl _ _).alloc (Nat.le_refl _) _

section
variable (s : ByteArray) (at_ : Nat) (w : World)

set_option maxRecDepth 100000 in
set_option maxHeartbeats 6400000 in
theorem ref_word_mark (hat : at_ < s.size) (hs : s.size < 4294967281) (hl : Sp.letter s[at_] = false) (hdg : Sp.digit s[at_] = false) (h39 : ((s[at_].toNat : Int) == 39) = false) (h60 : ((s[at_].toNat : Int) == 60) = false)
    (h58 : ((s[at_].toNat : Int) == 58) = false) (h59 : ((s[at_].toNat : Int) == 59) = false) (h124 : ((s[at_].toNat : Int) == 124) = false) (h37 : ((s[at_].toNat : Int) == 37) = true) (h123 : ((s[at_].toNat : Int) == 123) = false)
    (hpp : Lib.hasPrefix (s.data.toList.drop at_) [37, 37] = true) :
    Calls Tryd.prog 73 #[.string s, .int .i64 at_] w (RWordPost (Sp.percent (s.data.toList.drop at_)) at_ w) := by
  have hN := percent_eq (s.data.toList.drop at_)
  rw [if_pos hpp] at hN
  rw [hN]
  have HL := Lib.hid (fun W => ref_letter s[at_] W)
  have HDg := Lib.hid (fun W => ref_digit s[at_] W)
  rw [hl] at HL
  rw [hdg] at HDg
  have HB1 := Lib.hid (fun W => ref_begins s ⟨#[37, 37]⟩ at_ W hs (by decide) (by omega))
  have e1 : (⟨#[37, 37]⟩ : ByteArray).data.toList = [37, 37] := rfl
  rw [e1, hpp] at HB1
  have H0 : (0 : Int) ≤ (at_ : Int) := Int.natCast_nonneg _
  clear hN hl hdg e1 hpp
  go_enter Tryd.func73, Tryd.ntmps73
  go_wp2_with (first
    | (go_at_call 90; refine (HL.out _).mono ?_; rintro e w' ⟨rfl, rfl⟩)
    | (go_at_call 91; refine (HDg.out _).mono ?_; rintro e w' ⟨rfl, rfl⟩)
    | (go_at_call 66; refine (HB1.out _).mono ?_; rintro e w' ⟨rfl, rfl⟩))
  refine ret_cell_tmp (g := w.heap.size) rfl rfl (heap_alloc_of2 (heap_last _ _) _) rfl Tryd.underlying53 (by kernel_rfl) rfl ⟨by simp [wordAt], ((Below.refl _ _).alloc (Nat.le_refl _) _).alloc (by simp) _⟩

set_option maxRecDepth 100000 in
set_option maxHeartbeats 6400000 in
theorem ref_word_pro (hat : at_ < s.size) (hs : s.size < 4294967281) (hl : Sp.letter s[at_] = false) (hdg : Sp.digit s[at_] = false) (h39 : ((s[at_].toNat : Int) == 39) = false) (h60 : ((s[at_].toNat : Int) == 60) = false)
    (h58 : ((s[at_].toNat : Int) == 58) = false) (h59 : ((s[at_].toNat : Int) == 59) = false) (h124 : ((s[at_].toNat : Int) == 124) = false) (h37 : ((s[at_].toNat : Int) == 37) = true) (h123 : ((s[at_].toNat : Int) == 123) = false)
    (hpp : Lib.hasPrefix (s.data.toList.drop at_) [37, 37] = false) (hpb : Lib.hasPrefix (s.data.toList.drop at_) [37, 123] = true) :
    Calls Tryd.prog 73 #[.string s, .int .i64 at_] w (RWordPost (Sp.percent (s.data.toList.drop at_)) at_ w) := by
  obtain ⟨N, hN⟩ : ∃ N, N = Sp.percent (s.data.toList.drop at_) := ⟨_, rfl⟩
  rw [← hN]
  unfold Sp.percent at hN
  rw [if_neg (by rw [hpp]; decide), if_pos hpb, List.drop_drop] at hN
  have h2 : at_ + 2 ≤ s.size := by
    have := List.IsPrefix.length_le (List.isPrefixOf_iff_prefix.1 hpb)
    simp at this
    omega
  have HN := Lib.hid hN
  have HL := Lib.hid (fun W => ref_letter s[at_] W)
  have HDg := Lib.hid (fun W => ref_digit s[at_] W)
  rw [hl] at HL
  rw [hdg] at HDg
  have HB1 := Lib.hid (fun W => ref_begins s ⟨#[37, 37]⟩ at_ W hs (by decide) (by omega))
  have HB2 := Lib.hid (fun W => ref_begins s ⟨#[37, 123]⟩ at_ W hs (by decide) (by omega))
  have e1 : (⟨#[37, 37]⟩ : ByteArray).data.toList = [37, 37] := rfl
  have e2 : (⟨#[37, 123]⟩ : ByteArray).data.toList = [37, 123] := rfl
  rw [e1, hpp] at HB1
  rw [e2, hpb] at HB2
  have H0 : (0 : Int) ≤ (at_ : Int) := Int.natCast_nonneg _
  clear hN hl hdg e1 e2 hpp hpb
  go_enter Tryd.func73, Tryd.ntmps73
  go_wp2_with (first
    | (go_at_call 90; refine (HL.out _).mono ?_; rintro e w' ⟨rfl, rfl⟩)
    | (go_at_call 91; refine (HDg.out _).mono ?_; rintro e w' ⟨rfl, rfl⟩)
    | (go_at_call_of 66 (Value.string ⟨#[37, 37]⟩); refine (HB1.out _).mono ?_; rintro e w' ⟨rfl, rfl⟩)
    | (go_at_call_of 66 (Value.string ⟨#[37, 123]⟩); refine (HB2.out _).mono ?_; rintro e w' ⟨rfl, rfl⟩))
  go_loop [16] (fun i => ∃ k : Nat, at_ + 2 ≤ k ∧ k ≤ s.size ∧ i = .int .i64 k ∧ Hid (∀ n, (Sp.upto (s.data.toList.drop (at_ + 2)) [37, 125] = some n ↔ ∃ m, Sp.upto (s.data.toList.drop k) [37, 125] = some m ∧ at_ + 2 + n = k + m))) (fun i => s.size - (intOf i).toNat)
  case atStart => exact ⟨at_ + 2, by omega, by omega, by go_num, Lib.hid (fun n => ⟨fun h => ⟨n, h, rfl⟩, fun ⟨m, h, e⟩ => by rw [h]; congr 1; omega⟩)⟩
  case round =>
    obtain ⟨k, hk0, hk, rfl, HI⟩ := hrel
    by_cases hlt : k < s.size
    · have hu := fun n => HI.out n
      rw [drop_at s k hlt, Sp.upto_cons, ← drop_at s k hlt] at hu
      have HB3 := Lib.hid (fun W => ref_begins s ⟨#[37, 125]⟩ k W hs (by decide) (by omega))
      have e3 : (⟨#[37, 125]⟩ : ByteArray).data.toList = [37, 125] := rfl
      rw [e3] at HB3
      clear e3
      cases hb : Lib.hasPrefix (s.data.toList.drop k) [37, 125] with
      | true =>
        rw [hb] at HB3
        have hnn := (hu (k - at_)).2 ⟨2, by rw [if_pos hb]; rfl, by omega⟩
        have hkl : k + 2 ≤ s.size := by
          have := List.IsPrefix.length_le (List.isPrefixOf_iff_prefix.1 hb)
          simp at this
          omega
        have hNN := HN.out
        rw [hnn] at hNN
        simp only at hNN
        subst hNN
        have HX := Lib.hid (show (⟨((s.data.toList.drop (at_ + 2)).take (k - at_ - 2)).toArray⟩ : ByteArray) = s.extract (at_ + 2) k by
          have := ext_take s (at_ + 2) (k - at_ - 2)
          rw [this]; congr 1; omega)
        clear hu HI hnn hb HN
        have hi1 : (at_ : Int) + 2 ≤ (k : Int) := by omega
        go_wp2_with (go_at_call 66; refine (HB3.out _).mono ?_; rintro e w' ⟨rfl, rfl⟩)
        go_region
        go_wp2
        refine ret_cell_tmp (g := w.heap.size) rfl rfl (heap2_drew _ _ _) rfl Tryd.underlying53 (by kernel_rfl) rfl ⟨?_, below_drewN (((Below.refl _ _).alloc (Nat.le_refl _) _).alloc (by simp) _) 1⟩
        simp [wordAt, HX.out]
        omega
      | false =>
        rw [hb] at HB3
        have HI2 := Lib.hid (show ∀ n, (Sp.upto (s.data.toList.drop (at_ + 2)) [37, 125] = some n ↔ ∃ m, Sp.upto (s.data.toList.drop (k + 1)) [37, 125] = some m ∧ at_ + 2 + n = k + 1 + m) from fun n => by
          have h := hu n
          rw [if_neg (by rw [hb]; decide)] at h
          rw [h]
          constructor
          · rintro ⟨m, hm, e⟩
            obtain ⟨m', hm', rfl⟩ := Option.map_eq_some_iff.1 hm
            exact ⟨m', hm', by omega⟩
          · rintro ⟨m, hm, e⟩
            exact ⟨m + 1, by rw [hm]; rfl, by omega⟩)
        clear hu HI hb
        go_wp2_with (go_at_call 66; refine (HB3.out _).mono ?_; rintro e w' ⟨rfl, rfl⟩)
        go_round
        case rel => go_light; exact ⟨k + 1, by omega, by omega, by go_num, HI2⟩
        case measure => go_light; simp [intOf]; omega
    · have hnone : Sp.upto (s.data.toList.drop (at_ + 2)) [37, 125] = none := by
        cases hu : Sp.upto (s.data.toList.drop (at_ + 2)) [37, 125] with
        | none => rfl
        | some n =>
          obtain ⟨m, hm, _⟩ := (HI.out n).1 hu
          rw [drop_end s k hlt, Sp.upto_nil] at hm; cases hm
      have hNN := HN.out
      rw [hnone] at hNN
      simp only at hNN
      subst hNN
      clear HI hnone HN
      go_wp2
      refine ret_cell_tmp (g := w.heap.size) rfl rfl (heap_alloc_of2 (heap_last _ _) _) rfl Tryd.underlying53 (by kernel_rfl) rfl ⟨by simp [wordAt, Sp.noWord], ((Below.refl _ _).alloc (Nat.le_refl _) _).alloc (by simp) _⟩
end
end Go.Proofs.YticdgfljaphhgaaDoor
