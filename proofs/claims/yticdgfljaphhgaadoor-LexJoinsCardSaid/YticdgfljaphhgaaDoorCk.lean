/- The walk of the reference's word: numbers. -/
import Derived.Test.YticdgfljaphhgaaDoorCi
namespace Go.Proofs.YticdgfljaphhgaaDoor
open Go.RowKit
section
variable (s : ByteArray) (at_ : Nat) (w : World)

theorem digits_get (l : List UInt8) (j : Nat) (h : j < Sp.digits l) : ∃ c, l[j]? = some c ∧ Sp.digit c = true := by
  have hl := Sp.digits_le l
  have hj : j < l.length := by omega
  refine ⟨l[j], List.getElem?_eq_getElem hj, ?_⟩
  have hm : l[j] ∈ l.take (Sp.digits l) := by
    rw [List.mem_take_iff_getElem]
    exact ⟨j, by omega, rfl⟩
  exact Sp.digits_take l _ hm
/-- What the first digits, six at most, come to. -/
def numTo (l : List UInt8) (j : Nat) (m : Nat) : Prop := Lib.decFrom 0 (l.take (min j 6)) = some m ∧ m ≤ 999999 ∧ (j < 6 → m * 10 + 9 ≤ 999999)
theorem numTo.start (l : List UInt8) : numTo l 0 0 := ⟨rfl, by omega, by omega⟩
theorem dec_bound : ∀ (l : List UInt8) (a m : Nat), (∀ c ∈ l, Sp.digit c = true) → Lib.decFrom a l = some m → m + 1 ≤ (a + 1) * 10 ^ l.length
  | [], a, m, _, h => by simp [Lib.decFrom] at h; subst h; simp
  | c :: t, a, m, hd, h => by
    obtain ⟨v, hv, hdv, _⟩ := Sp.decFrom_digit c (hd c (by simp))
    simp only [Lib.decFrom, hdv] at h
    have ih := dec_bound t (a * 10 + v) m (fun x hx => hd x (by simp [hx])) h
    have h1 : (a * 10 + v + 1) ≤ (a + 1) * 10 := by omega
    have h2 := Nat.mul_le_mul_right (10 ^ t.length) h1
    rw [List.length_cons, Nat.pow_succ, Nat.mul_comm (10 ^ t.length) 10, ← Nat.mul_assoc]
    omega
theorem numTo.of {l : List UInt8} {j m : Nat} (hj : j ≤ Sp.digits l) (h : Lib.decFrom 0 (l.take (min j 6)) = some m) : numTo l j m := by
  have hdl := Sp.digits_le l
  have hd : ∀ c ∈ l.take (min j 6), Sp.digit c = true := by
    intro c hc
    have : c ∈ l.take (Sp.digits l) := List.mem_of_mem_take (l := l.take (Sp.digits l)) (i := min j 6) (by rw [List.take_take, show min (min j 6) (Sp.digits l) = min j 6 by omega]; exact hc)
    exact Sp.digits_take l c this
  have hb := dec_bound _ 0 m hd h
  have hlen : (l.take (min j 6)).length = min j 6 := by rw [List.length_take]; omega
  rw [hlen] at hb
  have key : ∀ i, i ≤ 6 → 10 ^ i ≤ 1000000 := fun i hi => Nat.pow_le_pow_right (by decide) hi
  have key5 : ∀ i, i ≤ 5 → 10 ^ i ≤ 100000 := fun i hi => Nat.pow_le_pow_right (by decide) hi
  refine ⟨h, by have := key (min j 6) (by omega); omega, fun h6 => ?_⟩
  have := key5 (min j 6) (by omega)
  omega
theorem numTo.step {l : List UInt8} {j m : Nat} (h : numTo l j m) (hj : j < Sp.digits l) (c : UInt8) (hc : l[j]? = some c) (h6 : j < 6) : numTo l (j + 1) (10 * m + (c.toNat - 48)) := by
  refine numTo.of (by omega) ?_
  obtain ⟨c', hc', hd⟩ := digits_get l j hj
  obtain rfl : c' = c := Option.some.inj (hc'.symm.trans hc)
  have h1 := h.1
  rw [show min j 6 = j by omega] at h1
  rw [show min (j + 1) 6 = j + 1 by omega, List.take_add_one, hc, Sp.decFrom_app, h1]
  have hd' := hd
  unfold Sp.digit at hd'
  simp at hd'
  simp [Lib.decFrom, Lib.digitVal, hd']
  omega
theorem numTo.more {l : List UInt8} {j m : Nat} (h : numTo l j m) (h6 : ¬ j < 6) : numTo l (j + 1) m := by
  refine ⟨?_, h.2.1, fun h => by omega⟩
  have h1 := h.1
  rw [show min j 6 = 6 by omega] at h1
  rw [show min (j + 1) 6 = 6 by omega]; exact h1
theorem numTo.num {l : List UInt8} {m : Nat} (h : numTo l (Sp.digits l) m) (h5 : Sp.digits l ≤ 5) (h0 : Sp.digits l ≠ 0) : Sp.num (l.take (Sp.digits l)) = m := by
  have h1 := h.1
  rw [show min (Sp.digits l) 6 = Sp.digits l by omega] at h1
  refine Sp.num_of_dec _ m (fun e => ?_) (Sp.digits_take l) h1
  have h2 := congrArg List.length e
  have hl := Sp.digits_le l
  rw [List.length_take, List.length_nil] at h2
  omega

set_option maxRecDepth 100000 in
set_option maxHeartbeats 6400000 in
theorem ref_word_num (hat : at_ < s.size) (hs : s.size < 4294967281) (hl : Sp.letter s[at_] = false) (hdg : Sp.digit s[at_] = true) (h39 : ((s[at_].toNat : Int) == 39) = false) :
    Calls Tryd.prog 73 #[.string s, .int .i64 at_] w (RWordPost (Sp.word (s.data.toList.drop at_)) at_ w) := by
  have hd := drop_at s at_ hat
  have hN : Sp.word (s.data.toList.drop at_) = if 0 < Sp.number (s.data.toList.drop at_) then (3, (s.data.toList.drop at_).take (Sp.number (s.data.toList.drop at_)), Sp.number (s.data.toList.drop at_)) else Sp.noWord := by
    rw [hd, Sp.word_cons, if_neg (by rw [hl]; decide), if_pos hdg]
  generalize Sp.word (s.data.toList.drop at_) = N at hN
  have hD1 : 1 ≤ Sp.digits (s.data.toList.drop at_) := by
    rw [hd]
    show 1 ≤ (if Sp.digit s[at_] = true then _ + 1 else 0)
    rw [if_pos hdg]; omega
  have hhead : (s.data.toList.drop at_).head? = some s[at_] := by rw [hd]; rfl
  unfold Sp.number at hN
  rw [hhead] at hN
  have HL := Lib.hid (fun W => ref_letter s[at_] W)
  have HDg := Lib.hid (fun W => ref_digit s[at_] W)
  rw [hl] at HL
  rw [hdg] at HDg
  have hDle := Sp.digits_le (s.data.toList.drop at_)
  have hll : (s.data.toList.drop at_).length = s.size - at_ := by simp
  rw [hll] at hDle
  have hget := digits_get (s.data.toList.drop at_)
  have hstep : ∀ j m, numTo (s.data.toList.drop at_) j m → j < Sp.digits (s.data.toList.drop at_) → ∀ c, (s.data.toList.drop at_)[j]? = some c → j < 6 → numTo (s.data.toList.drop at_) (j + 1) (10 * m + (c.toNat - 48)) := fun j m h => h.step
  have hnum : ∀ m, numTo (s.data.toList.drop at_) (Sp.digits (s.data.toList.drop at_)) m → Sp.digits (s.data.toList.drop at_) ≤ 5 → Sp.digits (s.data.toList.drop at_) ≠ 0 → Sp.num ((s.data.toList.drop at_).take (Sp.digits (s.data.toList.drop at_))) = m := fun m h => h.num
  have hdr0 := Sp.digits_drop (s.data.toList.drop at_)
  rw [List.drop_drop] at hN hdr0
  generalize Sp.digits (s.data.toList.drop at_) = D at *
  have HN := Lib.hid hN
  have HG := Lib.hid hget; have HST := Lib.hid hstep; have HNU := Lib.hid hnum; have HS0 := Lib.hid (numTo.start (s.data.toList.drop at_))
  have H0 : (0 : Int) ≤ (at_ : Int) := Int.natCast_nonneg _
  clear hN hget hstep hnum hd hl hdg hhead hll
  go_enter Tryd.func73, Tryd.ntmps73
  go_wp2_with (first
    | (go_at_call 90; refine (HL.out _).mono ?_; rintro e w' ⟨rfl, rfl⟩)
    | (go_at_call 91; refine (HDg.out _).mono ?_; rintro e w' ⟨rfl, rfl⟩))
  go_loop [12, 13] (fun nv vv => ∃ j m : Nat, j ≤ D ∧ nv = .int .i64 j ∧ vv = .int .i64 m ∧ m ≤ 999999 ∧ Hid (numTo (s.data.toList.drop at_) j m)) (fun nv _ => D - (intOf nv).toNat)
  case atStart => exact ⟨0, 0, by omega, rfl, rfl, by omega, HS0⟩
  case round =>
    obtain ⟨j, m, hj, rfl, rfl, hm, HI⟩ := hrel
    by_cases hjd : j < D
    · have hlt : at_ + j < s.size := by omega
      obtain ⟨c, hc1, hc2⟩ := HG.out j hjd
      have hcs : s[at_ + j] = c := by
        rw [List.getElem?_drop] at hc1
        have : s.data.toList[at_ + j]? = some s[at_ + j] := by rw [List.getElem?_eq_getElem (by simpa using hlt)]; rfl
        rw [this] at hc1; exact Option.some.inj hc1
      subst hcs
      have hrange : (48 : Int) ≤ (s[at_ + j].toNat : Int) ∧ (s[at_ + j].toNat : Int) ≤ 57 := by
        unfold Sp.digit at hc2; simp at hc2; omega
      obtain ⟨hr1, hr2⟩ := hrange
      by_cases h6 : j < 6
      · have hnext := HST.out j m HI.out hjd _ hc1 h6
        have HNX := Lib.hid hnext
        have hm2 := hnext.2.1
        have hmm : 10 * (m : Int) + ((s[at_ + j].toNat : Int) - 48) = ((10 * m + (s[at_ + j].toNat - 48) : Nat) : Int) := by omega
        have HMM := Lib.hid hmm
        clear hnext hc1 hmm
        go_wp2_with (go_at_call 91; refine (ref_digit _ _).mono ?_; rintro e w' ⟨rfl, rfl⟩)
        go_round
        case rel => go_light; exact ⟨j + 1, 10 * m + (s[at_ + j].toNat - 48), by omega, by go_num, by rw [← HMM.out], by omega, HNX⟩
        case measure => go_light; simp [intOf]; omega
      · have HNX := Lib.hid (HI.out.more h6)
        clear hc1
        go_wp2_with (go_at_call 91; refine (ref_digit _ _).mono ?_; rintro e w' ⟨rfl, rfl⟩)
        go_round
        case rel => go_light; exact ⟨j + 1, m, by omega, by go_num, rfl, by omega, HNX⟩
        case measure => go_light; simp [intOf]; omega
    · obtain rfl : j = D := by omega
      clear HG HST
      have HX := Lib.hid (ext_take s at_ j)
      have HL1 := HL
      have HD1 := HDg
      by_cases hlt : at_ + j < s.size
      · have hd2 := drop_at s (at_ + j) hlt
        have hstk : Sp.stuck (s.data.toList.drop (at_ + j)) = Sp.letter s[at_ + j] := by rw [hd2]; rfl
        have hdf : Sp.digit s[at_ + j] = false := by
          cases h : Sp.digit s[at_ + j] with
          | false => rfl
          | true =>
            rw [hd2, Sp.digits, if_pos h] at hdr0; omega
        clear HD1 HL1
        have HD1 := Lib.hid (fun W => ref_digit s[at_ + j] W)
        rw [hdf] at HD1
        have HL1 := HL
        clear hd2 hdf hdr0
        cases h48 : ((s[at_].toNat : Int) == 48) with
        | true =>
          have hNN : N = Sp.noWord := by rw [HN.out, if_neg]; rw [if_pos (.inr (.inl (by rw [(Sp.byte_eq s[at_] 48).2 h48])))]; simp
          subst hNN
          clear HN
          go_wp2_with (first
            | (go_at_call 91; refine (HD1.out _).mono ?_; rintro e w' ⟨rfl, rfl⟩)
            | (go_at_call 90; refine (HL1.out _).mono ?_; rintro e w' ⟨rfl, rfl⟩))
          refine ret_cell_tmp (g := w.heap.size) rfl rfl (heap_alloc_of2 (heap_last _ _) _) rfl Tryd.underlying53 (by kernel_rfl) rfl ⟨by simp [wordAt, Sp.noWord], ((Below.refl _ _).alloc (Nat.le_refl _) _).alloc (by simp) _⟩
        | false =>
          have h48n : ¬ some s[at_] = some (48 : UInt8) := fun h => by rw [Option.some.inj h] at h48; exact absurd h48 (by decide)
          by_cases h5 : 5 < j
          · have hNN : N = Sp.noWord := by rw [HN.out, if_neg]; rw [if_pos (.inl h5)]; simp
            subst hNN
            clear HN h48n
            go_wp2_with (first
              | (go_at_call 91; refine (HD1.out _).mono ?_; rintro e w' ⟨rfl, rfl⟩)
              | (go_at_call 90; refine (HL1.out _).mono ?_; rintro e w' ⟨rfl, rfl⟩))
            refine ret_cell_tmp (g := w.heap.size) rfl rfl (heap_alloc_of2 (heap_last _ _) _) rfl Tryd.underlying53 (by kernel_rfl) rfl ⟨by simp [wordAt, Sp.noWord], ((Below.refl _ _).alloc (Nat.le_refl _) _).alloc (by simp) _⟩
          · have hnm := HNU.out m HI.out (by omega) (by omega)
            have hN := HN.out
            rw [hnm] at hN
            clear hnm HN
            by_cases h50 : 50000 < m
            · have hNN : N = Sp.noWord := by
                rw [hN, if_neg]
                split
                · simp
                · rw [if_pos (by omega)]; simp
              subst hNN
              have h50' : (50000 : Int) < (m : Int) := by omega
              clear hN h48n
              go_wp2_with (first
                | (go_at_call 91; refine (HD1.out _).mono ?_; rintro e w' ⟨rfl, rfl⟩)
                | (go_at_call 90; refine (HL1.out _).mono ?_; rintro e w' ⟨rfl, rfl⟩))
              refine ret_cell_tmp (g := w.heap.size) rfl rfl (heap_alloc_of2 (heap_last _ _) _) rfl Tryd.underlying53 (by kernel_rfl) rfl ⟨by simp [wordAt, Sp.noWord], ((Below.refl _ _).alloc (Nat.le_refl _) _).alloc (by simp) _⟩
            · have h50n : ¬ (50000 : Int) < (m : Int) := by omega
              rw [if_neg h50n] at hN
              have h50' : (m : Int) ≤ 50000 := by omega
              cases hlb : Sp.letter s[at_ + j] with
              | true =>
                rw [hstk, hlb] at hN
                have hNN : N = Sp.noWord := by rw [hN, if_neg]; rw [if_pos (.inr (.inr rfl))]; simp
                subst hNN
                have HL1 := Lib.hid (fun W => ref_letter s[at_ + j] W)
                rw [hlb] at HL1
                clear hN h48n hstk hlb
                go_wp2_with (first
                  | (go_at_call 91; refine (HD1.out _).mono ?_; rintro e w' ⟨rfl, rfl⟩)
                  | (go_at_call 90; refine (HL1.out _).mono ?_; rintro e w' ⟨rfl, rfl⟩))
                refine ret_cell_tmp (g := w.heap.size) rfl rfl (heap_alloc_of2 (heap_last _ _) _) rfl Tryd.underlying53 (by kernel_rfl) rfl ⟨by simp [wordAt, Sp.noWord], ((Below.refl _ _).alloc (Nat.le_refl _) _).alloc (by simp) _⟩
              | false =>
                rw [hstk, hlb] at hN
                have hz : ¬ (5 < j ∨ some s[at_] = some (48 : UInt8) ∨ false = true) := by rintro (h | h | h); exact h5 h; exact h48n h; cases h
                rw [if_neg hz, if_pos (by omega)] at hN
                clear hz
                subst hN
                have HL1 := Lib.hid (fun W => ref_letter s[at_ + j] W)
                rw [hlb] at HL1
                clear h48n hstk hlb
                go_wp2_with (first
                  | (go_at_call 91; refine (HD1.out _).mono ?_; rintro e w' ⟨rfl, rfl⟩)
                  | (go_at_call 90; refine (HL1.out _).mono ?_; rintro e w' ⟨rfl, rfl⟩))
                go_region
                go_wp2
                refine ret_cell_tmp (g := w.heap.size) rfl rfl (heap2_drew _ _ _) rfl Tryd.underlying53 (by kernel_rfl) rfl ⟨by simp [wordAt, HX.out], below_drewN (((Below.refl _ _).alloc (Nat.le_refl _) _).alloc (by simp) _) 1⟩
      · have hd2 := drop_end s (at_ + j) hlt
        have hstk : Sp.stuck (s.data.toList.drop (at_ + j)) = false := by rw [hd2]; rfl
        clear hd2 hdr0
        cases h48 : ((s[at_].toNat : Int) == 48) with
        | true =>
          have hNN : N = Sp.noWord := by rw [HN.out, if_neg]; rw [if_pos (.inr (.inl (by rw [(Sp.byte_eq s[at_] 48).2 h48])))]; simp
          subst hNN
          clear HN
          go_wp2_with (first
            | (go_at_call 91; refine (HD1.out _).mono ?_; rintro e w' ⟨rfl, rfl⟩)
            | (go_at_call 90; refine (HL1.out _).mono ?_; rintro e w' ⟨rfl, rfl⟩))
          refine ret_cell_tmp (g := w.heap.size) rfl rfl (heap_alloc_of2 (heap_last _ _) _) rfl Tryd.underlying53 (by kernel_rfl) rfl ⟨by simp [wordAt, Sp.noWord], ((Below.refl _ _).alloc (Nat.le_refl _) _).alloc (by simp) _⟩
        | false =>
          have h48n : ¬ some s[at_] = some (48 : UInt8) := fun h => by rw [Option.some.inj h] at h48; exact absurd h48 (by decide)
          by_cases h5 : 5 < j
          · have hNN : N = Sp.noWord := by rw [HN.out, if_neg]; rw [if_pos (.inl h5)]; simp
            subst hNN
            clear HN h48n
            go_wp2_with (first
              | (go_at_call 91; refine (HD1.out _).mono ?_; rintro e w' ⟨rfl, rfl⟩)
              | (go_at_call 90; refine (HL1.out _).mono ?_; rintro e w' ⟨rfl, rfl⟩))
            refine ret_cell_tmp (g := w.heap.size) rfl rfl (heap_alloc_of2 (heap_last _ _) _) rfl Tryd.underlying53 (by kernel_rfl) rfl ⟨by simp [wordAt, Sp.noWord], ((Below.refl _ _).alloc (Nat.le_refl _) _).alloc (by simp) _⟩
          · have hnm := HNU.out m HI.out (by omega) (by omega)
            have hN := HN.out
            rw [hnm] at hN
            clear hnm HN
            by_cases h50 : 50000 < m
            · have hNN : N = Sp.noWord := by
                rw [hN, if_neg]
                split
                · simp
                · rw [if_pos (by omega)]; simp
              subst hNN
              have h50' : (50000 : Int) < (m : Int) := by omega
              clear hN h48n
              go_wp2_with (first
                | (go_at_call 91; refine (HD1.out _).mono ?_; rintro e w' ⟨rfl, rfl⟩)
                | (go_at_call 90; refine (HL1.out _).mono ?_; rintro e w' ⟨rfl, rfl⟩))
              refine ret_cell_tmp (g := w.heap.size) rfl rfl (heap_alloc_of2 (heap_last _ _) _) rfl Tryd.underlying53 (by kernel_rfl) rfl ⟨by simp [wordAt, Sp.noWord], ((Below.refl _ _).alloc (Nat.le_refl _) _).alloc (by simp) _⟩
            · have h50n : ¬ (50000 : Int) < (m : Int) := by omega
              rw [if_neg h50n] at hN
              have h50' : (m : Int) ≤ 50000 := by omega
              rw [hstk] at hN
              have hz : ¬ (5 < j ∨ some s[at_] = some (48 : UInt8) ∨ false = true) := by rintro (h | h | h); exact h5 h; exact h48n h; cases h
              rw [if_neg hz, if_pos (by omega)] at hN
              clear hz
              subst hN
              clear h48n hstk
              go_wp2_with (first
                | (go_at_call 91; refine (HD1.out _).mono ?_; rintro e w' ⟨rfl, rfl⟩)
                | (go_at_call 90; refine (HL1.out _).mono ?_; rintro e w' ⟨rfl, rfl⟩))
              go_region
              go_wp2
              refine ret_cell_tmp (g := w.heap.size) rfl rfl (heap2_drew _ _ _) rfl Tryd.underlying53 (by kernel_rfl) rfl ⟨by simp [wordAt, HX.out], below_drewN (((Below.refl _ _).alloc (Nat.le_refl _) _).alloc (by simp) _) 1⟩
end
end Go.Proofs.YticdgfljaphhgaaDoor
