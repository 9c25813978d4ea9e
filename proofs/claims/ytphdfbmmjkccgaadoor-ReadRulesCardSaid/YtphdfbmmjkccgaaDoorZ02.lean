/- The walks of char.plain, char.Take and of the small functions of layer 6. Appending to slices that the call itself made; worlds that keep all but some blocks. The walks of the small functions of layer 5. The walks of Name, NameAt, begins, and of the small functions of the reference. The walk of the reference's Digits and Join. The walk of body.quoted. The walks of upto, pass, End of layer 5, and of the reference's End. The walks of End, of layer 5 and of the reference. -/
import Derived.Test.YtphdfbmmjkccgaaDoorZ00
import Derived.Test.YtphdfbmmjkccgaaDoorZ01
import Derived.Deep.RegionLaw
import Derived.OwnWalk
import Derived.Lib.IndexMore
namespace Go.Proofs.YtphdfbmmjkccgaaDoor
open Go.RowKit

set_option maxHeartbeats 400000 in
theorem char_plain (c : UInt8) (w : World) :
    Calls Tryd.prog 83 #[.int .u8 (c.toNat : Int)] w fun e w' => e = .returned (.bool (Sp.plainq c)) ∧ w = w' := by
  go_enter Tryd.func83, Tryd.ntmps83
  go_wp2
  all_goals go_ret
  all_goals exact ⟨ret_bool (by unfold Sp.plainq; first | (simp_all; done) | (simp_all; omega) | (rw [Bool.eq_iff_iff]; simp_all; omega)), rfl⟩

set_option maxHeartbeats 400000 in
theorem lex_digit (c : UInt8) (w : World) :
    Calls Tryd.prog 57 #[.int .u8 (c.toNat : Int)] w fun e w' => e = .returned (.bool (Sp.digit c)) ∧ w = w' := by
  go_enter Tryd.func57, Tryd.ntmps57
  go_wp2
  all_goals go_ret
  all_goals exact ⟨ret_bool (Bool.eq_iff_iff.2 (by simp [Sp.digit]; omega)), rfl⟩

set_option maxHeartbeats 400000 in
theorem lex_letter (c : UInt8) (w : World) :
    Calls Tryd.prog 55 #[.int .u8 (c.toNat : Int)] w fun e w' => e = .returned (.bool (Sp.alpha c)) ∧ w = w' := by
  go_enter Tryd.func55, Tryd.ntmps55
  go_wp2
  all_goals go_ret
  all_goals exact ⟨ret_bool (Bool.eq_iff_iff.2 (by simp [Sp.alpha]; omega)), rfl⟩

set_option maxHeartbeats 400000 in
theorem lex_noline (c : UInt8) (w : World) :
    Calls Tryd.prog 53 #[.int .u8 (c.toNat : Int)] w fun e w' => e = .returned (.bool ((c.toNat : Int) != 10)) ∧ w = w' := by
  go_enter Tryd.func53, Tryd.ntmps53
  go_wp2
  go_ret
  exact ⟨rfl, rfl⟩

theorem span_cons (p : UInt8 → Bool) (c : UInt8) (t : List UInt8) : Sp.span p (c :: t) = if p c = true then Sp.span p t + 1 else 0 := rfl
set_option maxRecDepth 100000 in
set_option maxHeartbeats 800000 in
theorem lex_span_digit (s : ByteArray) (w : World) (hs : s.size < 4294967281) :
    Calls Tryd.prog 52 #[.string s, .func (.func 57) #[] #[]] w fun e w' => e = .returned (.int .i64 (Sp.span Sp.digit s.data.toList : Nat)) ∧ w = w' := by
  generalize hN : Sp.span Sp.digit s.data.toList = N
  have HN := Lib.hid hN; clear hN
  obtain ⟨p, hp⟩ : ∃ p : UInt8 → Bool, p = Sp.digit := ⟨_, rfl⟩
  have HF := Lib.hid (fun (c : UInt8) W => lex_digit c W)
  rw [← hp] at HN
  have hpp : Hid (∀ c, p c = Sp.digit c) := Lib.hid (fun c => by rw [hp])
  clear hp
  go_enter Tryd.func52, Tryd.ntmps52
  go_wp2
  go_loop [5] (fun i => ∃ k : Nat, k ≤ s.size ∧ i = .int .i64 k ∧ k + Sp.span p (s.data.toList.drop k) = N) (fun i => s.size - (intOf i).toNat)
  case atStart => exact ⟨0, Nat.zero_le _, rfl, by simp [HN.out]⟩
  case round =>
    obtain ⟨k, hk, rfl, hi⟩ := hrel
    have HI := Lib.hid hi; clear hi
    by_cases hlt : k < s.size
    · have HD := Lib.hid (drop_at s k hlt)
      go_wp2_with fail
      refine (HF.out _ _).mono ?_
      rintro e w' ⟨rfl, rfl⟩
      generalize hp : Sp.digit s[k] = b
      have hpk := hpp.out s[k]
      rw [hp] at hpk
      clear hp
      have hp := hpk
      clear hpk
      have HP := Lib.hid hp; clear hp
      cases b with
      | true =>
        go_wp2
        have hi := HI.out
        rw [HD.out, span_cons, if_pos HP.out] at hi
        clear HN HD HI
        go_round
        case rel => go_light; exact ⟨k + 1, by omega, by go_num, by omega⟩
        case measure => go_light; simp [intOf]; omega
      | false =>
        go_wp2
        have hi := HI.out
        rw [HD.out, span_cons, if_neg (by rw [HP.out]; decide)] at hi
        clear HN HD HI
        go_ret
        exact ⟨ret_int (by omega), rfl⟩
    · have hi := HI.out
      rw [drop_end s k hlt] at hi
      clear HN HI
      have HI := Lib.hid hi; clear hi
      go_wp2
      go_ret
      have hi := HI.out
      exact ⟨ret_int (by simp [Sp.span] at hi; omega), rfl⟩

set_option maxRecDepth 100000 in
set_option maxHeartbeats 800000 in
theorem lex_span_alpha (s : ByteArray) (w : World) (hs : s.size < 4294967281) :
    Calls Tryd.prog 52 #[.string s, .func (.func 55) #[] #[]] w fun e w' => e = .returned (.int .i64 (Sp.span Sp.alpha s.data.toList : Nat)) ∧ w = w' := by
  generalize hN : Sp.span Sp.alpha s.data.toList = N
  have HN := Lib.hid hN; clear hN
  obtain ⟨p, hp⟩ : ∃ p : UInt8 → Bool, p = Sp.alpha := ⟨_, rfl⟩
  have HF := Lib.hid (fun (c : UInt8) W => lex_letter c W)
  rw [← hp] at HN
  have hpp : Hid (∀ c, p c = Sp.alpha c) := Lib.hid (fun c => by rw [hp])
  clear hp
  go_enter Tryd.func52, Tryd.ntmps52
  go_wp2
  go_loop [5] (fun i => ∃ k : Nat, k ≤ s.size ∧ i = .int .i64 k ∧ k + Sp.span p (s.data.toList.drop k) = N) (fun i => s.size - (intOf i).toNat)
  case atStart => exact ⟨0, Nat.zero_le _, rfl, by simp [HN.out]⟩
  case round =>
    obtain ⟨k, hk, rfl, hi⟩ := hrel
    have HI := Lib.hid hi; clear hi
    by_cases hlt : k < s.size
    · have HD := Lib.hid (drop_at s k hlt)
      go_wp2_with fail
      refine (HF.out _ _).mono ?_
      rintro e w' ⟨rfl, rfl⟩
      generalize hp : Sp.alpha s[k] = b
      have hpk := hpp.out s[k]
      rw [hp] at hpk
      clear hp
      have hp := hpk
      clear hpk
      have HP := Lib.hid hp; clear hp
      cases b with
      | true =>
        go_wp2
        have hi := HI.out
        rw [HD.out, span_cons, if_pos HP.out] at hi
        clear HN HD HI
        go_round
        case rel => go_light; exact ⟨k + 1, by omega, by go_num, by omega⟩
        case measure => go_light; simp [intOf]; omega
      | false =>
        go_wp2
        have hi := HI.out
        rw [HD.out, span_cons, if_neg (by rw [HP.out]; decide)] at hi
        clear HN HD HI
        go_ret
        exact ⟨ret_int (by omega), rfl⟩
    · have hi := HI.out
      rw [drop_end s k hlt] at hi
      clear HN HI
      have HI := Lib.hid hi; clear hi
      go_wp2
      go_ret
      have hi := HI.out
      exact ⟨ret_int (by simp [Sp.span] at hi; omega), rfl⟩

set_option maxRecDepth 100000 in
set_option maxHeartbeats 800000 in
theorem lex_span_noline (s : ByteArray) (w : World) (hs : s.size < 4294967281) :
    Calls Tryd.prog 52 #[.string s, .func (.func 53) #[] #[]] w fun e w' => e = .returned (.int .i64 (Sp.span (fun c => (c.toNat : Int) != 10) s.data.toList : Nat)) ∧ w = w' := by
  generalize hN : Sp.span (fun c => (c.toNat : Int) != 10) s.data.toList = N
  have HN := Lib.hid hN; clear hN
  obtain ⟨p, hp⟩ : ∃ p : UInt8 → Bool, p = (fun c => (c.toNat : Int) != 10) := ⟨_, rfl⟩
  have HF := Lib.hid (fun (c : UInt8) W => lex_noline c W)
  rw [← hp] at HN
  have hpp : Hid (∀ c, p c = (fun c => (c.toNat : Int) != 10) c) := Lib.hid (fun c => by rw [hp])
  clear hp
  go_enter Tryd.func52, Tryd.ntmps52
  go_wp2
  go_loop [5] (fun i => ∃ k : Nat, k ≤ s.size ∧ i = .int .i64 k ∧ k + Sp.span p (s.data.toList.drop k) = N) (fun i => s.size - (intOf i).toNat)
  case atStart => exact ⟨0, Nat.zero_le _, rfl, by simp [HN.out]⟩
  case round =>
    obtain ⟨k, hk, rfl, hi⟩ := hrel
    have HI := Lib.hid hi; clear hi
    by_cases hlt : k < s.size
    · have HD := Lib.hid (drop_at s k hlt)
      go_wp2_with fail
      refine (HF.out _ _).mono ?_
      rintro e w' ⟨rfl, rfl⟩
      generalize hp : ((s[k].toNat : Int) != 10) = b
      have hpk := hpp.out s[k]
      rw [hp] at hpk
      clear hp
      have hp := hpk
      clear hpk
      have HP := Lib.hid hp; clear hp
      cases b with
      | true =>
        go_wp2
        have hi := HI.out
        rw [HD.out, span_cons, if_pos HP.out] at hi
        clear HN HD HI
        go_round
        case rel => go_light; exact ⟨k + 1, by omega, by go_num, by omega⟩
        case measure => go_light; simp [intOf]; omega
      | false =>
        go_wp2
        have hi := HI.out
        rw [HD.out, span_cons, if_neg (by rw [HP.out]; decide)] at hi
        clear HN HD HI
        go_ret
        exact ⟨ret_int (by omega), rfl⟩
    · have hi := HI.out
      rw [drop_end s k hlt] at hi
      clear HN HI
      have HI := Lib.hid hi; clear hi
      go_wp2
      go_ret
      have hi := HI.out
      exact ⟨ret_int (by simp [Sp.span] at hi; omega), rfl⟩

set_option maxHeartbeats 1600000 in
theorem char_Take (s : ByteArray) (at_ : Nat) (w : World) (hs : s.size < 4294967281) (hat : at_ < s.size) (hq : ((s[at_].toNat : Int) == 39) = true) :
    Calls Tryd.prog 59 #[.string s, .int .i64 at_] w fun e w' => e = .returned (.tuple #[.int .u8 (Sp.takeRes at_ (Sp.charTake (s.data.toList.drop at_))).1, .int .i64 (Sp.takeRes at_ (Sp.charTake (s.data.toList.drop at_))).2.1, .bool (Sp.takeRes at_ (Sp.charTake (s.data.toList.drop at_))).2.2]) ∧ w = w' := by
  have hq39 : s[at_] = 39 := by
    have : (s[at_].toNat : Int) = 39 := by simpa using hq
    exact UInt8.toNat_inj.1 (by show s[at_].toNat = 39; omega)
  have hd0 := drop_at s at_ hat
  rw [hq39] at hd0
  by_cases h3 : at_ + 2 < s.size
  · have hd1 := drop_at s (at_ + 1) (by omega)
    have hd2 := drop_at s (at_ + 2) h3
    rw [hd1, hd2] at hd0
    rw [hd0, Sp.charTake_b]
    have hqn : ((s[at_].toNat : Int) != 39) = false := by rw [bne, hq]; rfl
    clear hd0 hd1 hd2 hq39 hq
    have hd0 : (0 : Int) ≤ (at_ : Int) := Int.natCast_nonneg _
    have HPl := Lib.hid (fun W => char_plain s[at_ + 1] W)
    have H92 : Sp.plainq s[at_ + 1] = true → ((s[at_ + 1].toNat : Int) != 92) = true := by
      intro h; unfold Sp.plainq at h; simp at h; simp; omega
    have hlet := Sp.letters_at s[at_ + 2]
    have hh3 : ∀ h : at_ + 3 < s.size, (s.data.toList.drop (at_ + 2 + 1)).head? = some s[at_ + 3] := fun h => by rw [drop_at s (at_ + 3) h]; rfl
    have hh3' : ¬ at_ + 3 < s.size → (s.data.toList.drop (at_ + 2 + 1)).head? = none := fun h => by rw [drop_end s (at_ + 3) h]; rfl
    generalize Sp.plainq s[at_ + 1] = pv at HPl H92 ⊢
    generalize (s.data.toList.drop (at_ + 2 + 1)).head? = hd at hh3 hh3' ⊢
    obtain ⟨N, hN⟩ : ∃ N, N = Sp.takeRes at_ (if pv = true ∧ ((s[at_ + 2].toNat : Int) == 39) = true then some (s[at_ + 1], 3) else if ((s[at_ + 1].toNat : Int) != 92) = false ∧ hd = some 39 then (Sp.standOf s[at_ + 2]).map (·, 4) else none) := ⟨_, rfl⟩
    rw [← hN]
    cases pv with
    | true =>
      have h92 := H92 rfl
      cases h39 : ((s[at_ + 2].toNat : Int) == 39) with
      | true =>
        rw [if_pos ⟨rfl, h39⟩] at hN
        have HN := Lib.hid hN
        clear hN H92 hlet hh3 hh3'
        go_enter Tryd.func59, Tryd.ntmps59
        go_wp2_with (go_at_call 83; refine (HPl.out _).mono ?_; rintro e w' ⟨rfl, rfl⟩)
        go_ret3
        refine ⟨?_, rfl⟩
        rw [HN.out]; simp [Sp.takeRes]
      | false =>
        rw [if_neg (by rw [h39]; simp), if_neg (by rw [h92]; simp)] at hN
        have HN := Lib.hid hN
        clear hN H92 hlet hh3 hh3'
        go_enter Tryd.func59, Tryd.ntmps59
        go_wp2_with (go_at_call 83; refine (HPl.out _).mono ?_; rintro e w' ⟨rfl, rfl⟩)
        go_ret3
        refine ⟨?_, rfl⟩
        rw [HN.out]; rfl
    | false =>
      rw [if_neg (by simp)] at hN
      clear H92
      cases h92 : ((s[at_ + 1].toNat : Int) != 92) with
      | true =>
        rw [if_neg (by rw [h92]; simp)] at hN
        have HN := Lib.hid hN
        clear hN hlet hh3 hh3'
        go_enter Tryd.func59, Tryd.ntmps59
        go_wp2_with (go_at_call 83; refine (HPl.out _).mono ?_; rintro e w' ⟨rfl, rfl⟩)
        go_ret3
        refine ⟨?_, rfl⟩
        rw [HN.out]; rfl
      | false =>
        by_cases h4 : at_ + 3 < s.size
        · have hh := hh3 h4
          clear hh3 hh3'
          subst hh
          cases h39 : ((s[at_ + 3].toNat : Int) != 39) with
          | true =>
            rw [if_neg (by intro h; have := Option.some.inj h.2; rw [this] at h39; exact absurd h39 (by decide))] at hN
            have HN := Lib.hid hN
            clear hN hlet
            go_enter Tryd.func59, Tryd.ntmps59
            go_wp2_with (go_at_call 83; refine (HPl.out _).mono ?_; rintro e w' ⟨rfl, rfl⟩)
            go_ret3
            refine ⟨?_, rfl⟩
            rw [HN.out]; rfl
          | false =>
            have h39' : s[at_ + 3] = 39 := by
              have : (s[at_ + 3].toNat : Int) = 39 := by simpa using h39
              exact UInt8.toNat_inj.1 (by show s[at_ + 3].toNat = 39; omega)
            rw [if_pos ⟨h92, by rw [h39']⟩] at hN
            clear h39'
            have hI : ∀ W, Calls Tryd.prog 50 #[.string ⟨#[110, 116, 114, 92, 39]⟩, .int .u8 (s[at_ + 2].toNat : Int)] W fun e w' => e = .returned (.int .i64 (Lib.indexByte Sp.letters s[at_ + 2])) ∧ W = w' := by
              intro W
              have := strings_IndexByte_gl ⟨#[110, 116, 114, 92, 39]⟩ (s[at_ + 2].toNat : Int) W
              have e : ((s[at_ + 2].toNat : Int)).toNat.toUInt8 = s[at_ + 2] := by simp
              rw [e] at this
              exact this
            have HI := Lib.hid hI
            clear hI
            rcases hlet with ⟨hs1, hs2⟩ | ⟨k, hk, hs2, hs1⟩
            · rw [hs1] at hN
              rw [hs2] at HI
              have HN := Lib.hid hN
              clear hN hs1 hs2
              go_enter Tryd.func59, Tryd.ntmps59
              go_wp2_with (first
                | (go_at_call 83; refine (HPl.out _).mono ?_; rintro e w' ⟨rfl, rfl⟩)
                | (go_at_call 50; refine (HI.out _).mono ?_; rintro e w' ⟨rfl, rfl⟩))
              go_ret3
              refine ⟨?_, rfl⟩
              rw [HN.out]; rfl
            · rw [hs1] at hN
              rw [hs2] at HI
              have HN := Lib.hid hN
              clear hN hs1 hs2
              obtain rfl | rfl | rfl | rfl | rfl : k = 0 ∨ k = 1 ∨ k = 2 ∨ k = 3 ∨ k = 4 := by omega
              all_goals
                clear hk
                go_enter Tryd.func59, Tryd.ntmps59
                go_wp2_with (first
                  | (go_at_call 83; refine (HPl.out _).mono ?_; rintro e w' ⟨rfl, rfl⟩)
                  | (go_at_call 50; refine (HI.out _).mono ?_; rintro e w' ⟨rfl, rfl⟩))
                go_ret3
                refine ⟨?_, rfl⟩
                rw [HN.out]
                simp [Sp.stands, Sp.takeRes]
                rfl
        · have hh := hh3' h4
          clear hh3 hh3'
          subst hh
          rw [if_neg (by simp)] at hN
          have HN := Lib.hid hN
          clear hN hlet
          go_enter Tryd.func59, Tryd.ntmps59
          go_wp2_with (go_at_call 83; refine (HPl.out _).mono ?_; rintro e w' ⟨rfl, rfl⟩)
          go_ret3
          refine ⟨?_, rfl⟩
          rw [HN.out]; rfl
  · have hn : Sp.charTake (s.data.toList.drop at_) = none := Sp.charTake_short _ (by simp; omega)
    rw [hn]
    clear hn hd0 hq39
    go_enter Tryd.func59, Tryd.ntmps59
    go_wp2
    go_ret3
    exact ⟨rfl, rfl⟩
end Go.Proofs.YtphdfbmmjkccgaaDoor

namespace Go.Proofs.YtphdfbmmjkccgaaDoor
open Go.RowKit

/-- All blocks of the old world that S names read as before. -/
structure Kp (S : Nat → Prop) (w w' : World) : Prop where
  os : w'.os = w.os
  tape : w'.tape = w.tape
  output : w'.output = w.output
  size : w.heap.size ≤ w'.heap.size
  block : ∀ k, k < w.heap.size → S k → w'.heap[k]? = w.heap[k]?
theorem Kp.refl (S : Nat → Prop) (w : World) : Kp S w w := ⟨rfl, rfl, rfl, Nat.le_refl _, fun _ _ _ => rfl⟩
theorem Kp.trans {S : Nat → Prop} {a b c : World} (h : Kp S a b) (k : Kp S b c) : Kp S a c :=
  ⟨k.os.trans h.os, k.tape.trans h.tape, k.output.trans h.output, Nat.le_trans h.size k.size, fun i hi hs => (k.block i (Nat.lt_of_lt_of_le hi h.size) hs).trans (h.block i hi hs)⟩
theorem Kp.mono {S T : Nat → Prop} {w w' : World} (h : Kp S w w') (hs : ∀ k, k < w.heap.size → T k → S k) : Kp T w w' := ⟨h.os, h.tape, h.output, h.size, fun k hk ht => h.block k hk (hs k hk ht)⟩
theorem Kp.of_below {S : Nat → Prop} {B : Nat} {w w' : World} (h : Below B w w') (hs : ∀ k, k < w.heap.size → S k → k < B) : Kp S w w' := ⟨h.os, h.tape, h.output, h.size, fun k hk ht => h.block k (hs k hk ht)⟩
theorem Kp.alloc {S : Nat → Prop} {a w : World} (h : Kp S a w) (o : Obj) : Kp S a (w.alloc o) :=
  h.trans ⟨rfl, rfl, rfl, by simp, fun k hk _ => Below.heap_alloc _ _ _ hk⟩
theorem Kp.drew {S : Nat → Prop} {a w : World} (h : Kp S a w) : Kp S a w.drew := ⟨h.os, h.tape, h.output, h.size, h.block⟩
theorem Kp.drewN {S : Nat → Prop} {a w : World} (h : Kp S a w) (n : Nat) : Kp S a (w.drewN n) := ⟨h.os, h.tape, h.output, h.size, h.block⟩
theorem Kp.setCell {S : Nat → Prop} {a w : World} (h : Kp S a w) {p : Addr} (hp : ¬ S p.block) (u : Value) : Kp S a (w.setCell p u) :=
  h.trans ⟨rfl, rfl, rfl, by simp [World.setCell], fun k _ hs => Below.heap_setCell _ _ _ _ (fun e => hp (e ▸ hs))⟩
theorem Kp.grown {S : Nat → Prop} {a w w' : World} {row : Option Nat} (h : Kp S a w) (hg : w.grownBy w' row) (hr : ∀ k, row = some k → ¬ S k) : Kp S a w' :=
  h.trans ⟨hg.os, hg.tape, hg.output, hg.size, fun k hk hs => hg.block k hk (fun e => hr k e.symm hs)⟩
theorem Kp.below {S : Nat → Prop} {B : Nat} {w w' : World} (h : Kp S w w') (hB : B ≤ w.heap.size) (hs : ∀ k, k < B → S k) : Below B w w' := ⟨h.os, h.tape, h.output, h.size, fun k hk => h.block k (by omega) (hs k hk)⟩
theorem Kp.at {S : Nat → Prop} {w w' : World} (h : Kp S w w') {b : Nat} {o : Obj} (hb : w.heap[b]? = some o) (hs : S b) : w'.heap[b]? = some o := (h.block b (lt_at hb) hs).trans hb

theorem ownsRow_kp {S : Nat → Prop} {w w' : World} {base : Nat} {e : TypeId} {size : Nat} {v : Value} {n : Nat} {xs : List Value} (h : w.ownsRow base e size v n xs) (k : Kp S w w') (hs : ∀ b, v.ownBlock = some b → S b) : w'.ownsRow base e size v n xs := by
  refine ⟨h.1, ?_⟩
  rcases h.2 with hn | ⟨g, cap, cur, rfl, hb, hgg, rest⟩
  · exact .inl hn
  · exact .inr ⟨g, cap, cur, rfl, hb, k.at hgg (hs g rfl), rest⟩
theorem ownsRow_below {w w' : World} {base : Nat} {e : TypeId} {size : Nat} {v : Value} {n : Nat} {xs : List Value} (h : w.ownsRow base e size v n xs) (k : Below w.heap.size w w') : w'.ownsRow base e size v n xs :=
  ownsRow_kp (S := fun _ => True) h (Kp.of_below k fun _ h _ => h) (fun _ _ => trivial)
theorem ownsRow_mono {w : World} {base base' : Nat} {e : TypeId} {size : Nat} {v : Value} {n : Nat} {xs : List Value} (h : w.ownsRow base e size v n xs) (hb : base' ≤ base) : w.ownsRow base' e size v n xs := by
  refine ⟨h.1, ?_⟩
  rcases h.2 with hn | ⟨g, cap, cur, rfl, hbg, rest⟩
  · exact .inl hn
  · exact .inr ⟨g, cap, cur, rfl, by omega, rest⟩
/-- The row's own block is none of another element type. -/
theorem ownsRow_ne {w : World} {base : Nat} {e : TypeId} {size : Nat} {v : Value} {n : Nat} {xs : List Value} (h : w.ownsRow base e size v n xs) {b : Nat} {c : Array Value} {t : TypeId} {fr : Nat × Nat} (hb : w.heap[b]? = some (.cells c t fr)) (ht : t ≠ e) : ∀ k, v.ownBlock = some k → k ≠ b := by
  rintro k hk rfl
  rcases h.2 with ⟨rfl, _⟩ | ⟨g, cap, cur, rfl, _, hgg, _⟩
  · simp [Value.ownBlock] at hk
  · simp [Value.ownBlock] at hk
    subst hk
    rw [hgg] at hb
    simp at hb
    exact ht hb.2.1.symm
theorem new_cells (w : World) (cs : List Value) (t : TypeId) : ∀ j u, cs[j]? = some u → (w.alloc (.cells cs.toArray t)).cell? ((⟨w.heap.size, 0, none⟩ : Addr).add j) = some u := by
  intro j u h
  have : (⟨w.heap.size, 0, none⟩ : Addr).add j = ⟨w.heap.size, j, none⟩ := by unfold Addr.add; split <;> simp_all
  rw [this, cell_at (heap_last w _)]
  simpa using h
theorem own_form {w : World} {base size n : Nat} {e : TypeId} {v : Value} {xs : List Value} (h : w.ownsRow base e size v n xs) (hn : 0 < n) : ∃ g cap, v = .slice (some ⟨g, 0, none⟩) n cap := by
  rcases h.2 with ⟨_, h0⟩ | ⟨g, cap, _, hv, _⟩
  · omega
  · exact ⟨g, cap, hv⟩
end Go.Proofs.YtphdfbmmjkccgaaDoor

namespace Go.Proofs.YtphdfbmmjkccgaaDoor
open Go.RowKit

set_option maxHeartbeats 400000 in
theorem body_digit (c : UInt8) (w : World) :
    Calls Tryd.prog 76 #[.int .u8 (c.toNat : Int)] w fun e w' => e = .returned (.bool (Sp.digit c)) ∧ w = w' := by
  go_enter Tryd.func76, Tryd.ntmps76
  go_wp2
  all_goals go_ret
  all_goals exact ⟨ret_bool (Bool.eq_iff_iff.2 (by simp [Sp.digit]; omega)), rfl⟩

set_option maxHeartbeats 400000 in
theorem body_letter (c : UInt8) (w : World) :
    Calls Tryd.prog 82 #[.int .u8 (c.toNat : Int)] w fun e w' => e = .returned (.bool (Sp.letter c)) ∧ w = w' := by
  go_enter Tryd.func82, Tryd.ntmps82
  go_wp2
  all_goals go_ret
  all_goals exact ⟨ret_bool (Bool.eq_iff_iff.2 (by simp [Sp.letter]; omega)), rfl⟩

set_option maxHeartbeats 400000 in
theorem body_Run (s : ByteArray) (w : World) (hs : s.size < 4294967281) :
    Calls Tryd.prog 56 #[.string s] w fun e w' => e = .returned (.int .i64 (Sp.nameLen true s.data.toList : Nat)) ∧ w = w' := by

  generalize hN : Sp.nameLen true s.data.toList = N
  have HN := Lib.hid hN; clear hN
  go_enter Tryd.func56, Tryd.ntmps56
  go_wp2
  go_loop [3] (fun i => ∃ k : Nat, k ≤ s.size ∧ i = .int .i64 k ∧ k + Sp.nameLen (k == 0) (s.data.toList.drop k) = N) (fun i => s.size - (intOf i).toNat)
  case atStart => exact ⟨0, Nat.zero_le _, rfl, by simp [HN.out]⟩
  case round =>
    obtain ⟨k, hk, rfl, hi⟩ := hrel
    have HI := Lib.hid hi; clear hi
    by_cases hlt : k < s.size
    · have HD := Lib.hid (drop_at s k hlt)
      go_wp2_with (first
        | (go_at_call 82; refine (body_letter _ _).mono ?_; rintro e w' ⟨rfl, rfl⟩)
        | (go_at_call 76; refine (body_digit _ _).mono ?_; rintro e w' ⟨rfl, rfl⟩))
      all_goals (have hi := HI.out; rw [HD.out] at hi; clear HI HD HN; unfold Sp.nameLen at hi)
      all_goals first
        | (go_round
           case rel => go_light; exact ⟨k + 1, by omega, by go_num, by first | (simp_all; done) | (simp_all; omega) | (simp_all; split at hi <;> omega)⟩
           case measure => go_light; simp [intOf]; omega)
        | (go_ret; go_light; exact ⟨ret_int (by first | (simp_all; done) | (simp_all; omega) | (simp_all; split at hi <;> omega)), rfl⟩)
    · have HD := Lib.hid (drop_end s k hlt)
      go_wp2
      have hi := HI.out; rw [HD.out] at hi; clear HI HD HN; unfold Sp.nameLen at hi
      go_ret
      go_light
      exact ⟨ret_int (by first | (simp_all; done) | (simp_all; omega) | (simp_all; split at hi <;> omega)), rfl⟩
end Go.Proofs.YtphdfbmmjkccgaaDoor

namespace Go.Proofs.YtphdfbmmjkccgaaDoor
open Go.RowKit

set_option maxHeartbeats 400000 in
theorem body_Name (s : ByteArray) (w : World) (hs : s.size < 4294967281) :
    Calls Tryd.prog 60 #[.string s] w fun e w' => e = .returned (.bool (Sp.isName s.data.toList)) ∧ w = w' := by
  have hl : s.data.toList.length = s.size := by simp
  generalize hN : Sp.isName s.data.toList = N
  unfold Sp.isName at hN
  rw [hl] at hN
  have HN := Lib.hid hN; clear hN hl
  have HR := Lib.hid (body_Run s w hs)
  generalize Sp.nameLen true s.data.toList = r at *
  go_enter Tryd.func60, Tryd.ntmps60
  go_wp2_with (go_at_call 56; refine (HR.out).mono ?_; rintro e w' ⟨rfl, rfl⟩)
  all_goals (go_ret; have hN := HN.out; clear HN HR)
  all_goals exact ⟨ret_bool (by rw [← hN, ← Lib.toList_data, Bool.eq_iff_iff]; simp_all; try omega), rfl⟩

end Go.Proofs.YtphdfbmmjkccgaaDoor

namespace Go.Proofs.YtphdfbmmjkccgaaDoor
open Go.RowKit

def emptyN : Value → Nat | .string s => if s.size = 0 then 1 else 0 | _ => 0
/-- What a round of Digits finds: the digits of u ahead of those that stand there are those of n. -/
def DigI (n u : Nat) (S : List UInt8) : Prop := ((0 < u ∨ S = []) ∧ Lib.decDigits u ++ S = Lib.decDigits n) ∨ (u = 0 ∧ S ≠ [] ∧ S = Lib.decDigits n)
theorem DigI.step {n u : Nat} {S : List UInt8} (h : DigI n u S) (hc : 0 < u ∨ S = []) : DigI n (u / 10) (UInt8.ofNat (48 + u % 10) :: S) := by
  rcases h with ⟨_, h⟩ | ⟨h0, hS, _⟩
  · by_cases hu : u < 10
    · right
      refine ⟨by omega, by simp, ?_⟩
      rw [← h, Lib.decDigits, dif_pos hu, Nat.mod_eq_of_lt hu]; rfl
    · left
      refine ⟨.inl (by omega), ?_⟩
      rw [← h]
      conv => rhs; rw [Lib.decDigits, dif_neg hu]
      simp
  · rcases hc with h | h
    · omega
    · exact absurd h hS
theorem DigI.out {n u : Nat} {S : List UInt8} (h : DigI n u S) (hc : ¬ (0 < u ∨ S = [])) : S = Lib.decDigits n := by
  rcases h with ⟨h, _⟩ | ⟨_, _, h⟩
  · exact absurd h hc
  · exact h

theorem mk_append (a b : List UInt8) : ((⟨a.toArray⟩ : ByteArray) ++ (⟨b.toArray⟩ : ByteArray)) = ⟨(a ++ b).toArray⟩ := by
  apply ByteArray.ext
  simp
theorem ret_str {a b : List UInt8} (h : a = b) : Ending.returned (.string ⟨a.toArray⟩) = .returned (.string ⟨b.toArray⟩) := by rw [h]
theorem emptyN_cons (c : UInt8) (S : List UInt8) : emptyN (.string ⟨(c :: S).toArray⟩) = 0 := by
  show (if (⟨(c :: S).toArray⟩ : ByteArray).size = 0 then 1 else 0) = 0
  rw [if_neg]
  rw [Lib.size_eq]; simp
theorem convert_one (W : World) (c : UInt8) : (convert 68 9 (.slice (some ⟨W.heap.size, 0, none⟩) 1 1)).run Tryd.prog (W.alloc (.cells #[.int .u8 (c.toNat : Int)] 5)) = .ok (.string ⟨#[c]⟩) (W.alloc (.cells #[.int .u8 (c.toNat : Int)] 5)) := by
  refine run_convert_bytes_back (P := Tryd.prog) _ 68 9 5 ⟨W.heap.size, 0, none⟩ 1 [c] Tryd.underlying68 Tryd.underlying5 Tryd.underlying9 ?_
  intro j hj
  obtain rfl : j = 0 := by simpa using hj
  exact new_cells W [.int .u8 (c.toNat : Int)] _ 0 _ rfl

set_option maxRecDepth 100000 in
set_option maxHeartbeats 1600000 in
theorem ref_Digits (n : Int) (w : World) (h0 : 0 ≤ n) (h1 : n < 60001) :
    Calls Tryd.prog 8 #[.int .i64 n] w fun e w' => e = .returned (.string ⟨(Lib.itoa n).toArray⟩) ∧ Below w.heap.size w w' := by
  obtain ⟨m, rfl⟩ := Int.eq_ofNat_of_zero_le h0
  have hit : Lib.itoa (m : Int) = Lib.decDigits m := by unfold Lib.itoa; rw [if_neg (by omega)]; rfl
  rw [hit]
  clear hit
  generalize hD : Lib.decDigits m = D
  have HD := Lib.hid hD
  have hwr : IntKind.u64.wrap (m : Int) = m := IntWalk.u64_in _ ⟨by omega, by omega⟩
  have H1 := Lib.hid (show m < 60001 by omega)
  clear hD h1
  go_enter Tryd.func8, Tryd.ntmps8
  go_wp2
  go_loopw [4, 3] (fun sv uv wr => ∃ (u : Nat) (S : List UInt8), u < 60001 ∧ S.length + u ≤ m + 10 ∧ uv = .int .u64 u ∧ sv = .string ⟨S.toArray⟩ ∧ DigI m u S ∧ Below w.heap.size w wr) (fun sv uv _ => 2 * (intOf uv).toNat + emptyN sv)
  case atStart => exact ⟨m, [], by have := H1.out; omega, by simp, rfl, rfl, .inl ⟨.inr rfl, by simp⟩, Below.refl _ _⟩
  case round =>
    obtain ⟨u, S, hu, hSl, rfl, rfl, hi, hb⟩ := hrel
    have HI := Lib.hid hi; have HB := Lib.hid hb
    have HU := Lib.hid hu
    clear hi hb hu hwr
    have hc8 : ((UInt8.ofNat (48 + u % 10)).toNat : Int) = 48 + (u : Int) % 10 := by
      rw [UInt8.toNat_ofNat_of_lt' (by have : UInt8.size = 256 := rfl; omega)]; omega
    have hcv := convert_one wr (UInt8.ofNat (48 + u % 10))
    rw [hc8] at hcv
    clear hc8
    have hS2 : 1 + S.length ≤ 9223372036854775807 := by have := HU.out; have := H1.out; omega
    have hof : (48 + UInt8.ofNat (u % 10) : UInt8) = UInt8.ofNat (48 + u % 10) := by simp
    have HOF := Lib.hid hof
    clear hof
    by_cases hu0 : 0 < u
    · go_wp2
      go_roundw
      case rel =>
        go_light
        exact ⟨u / 10, UInt8.ofNat (48 + u % 10) :: S, by have := HU.out; omega, by simp; omega, by rw [IntWalk.u64_in _ (by have := HU.out; omega)]; simp, by rw [HOF.out, mk_append [UInt8.ofNat (48 + u % 10)] S]; rfl, HI.out.step (.inl hu0), HB.out.alloc HB.out.size _⟩
      case measure =>
        go_light
        rw [IntWalk.u64_in _ (by have := HU.out; omega), HOF.out, mk_append [UInt8.ofNat (48 + u % 10)] S, List.singleton_append, emptyN_cons]
        simp only [intOf]
        omega
    · obtain rfl : u = 0 := by omega
      by_cases hS : S = []
      · subst hS
        clear hcv HOF
        have hcv := convert_one wr 48
        simp only [show ((48 : UInt8).toNat : Int) = 48 from rfl] at hcv
        go_wp2
        go_roundw
        case rel =>
          go_light
          exact ⟨0, [UInt8.ofNat 48], by omega, by simp, by first | rfl | simp, by first | rfl | simp, HI.out.step (.inr rfl), HB.out.alloc HB.out.size _⟩
        case measure =>
          go_light
          show _ + emptyN (.string ⟨[48].toArray⟩) < _ + 1
          rw [emptyN_cons]
          simp only [intOf]
          omega
      · have hS1 : S.isEmpty = false := by simpa using hS
        clear hcv
        go_wp2
        go_ret
        have hd := HI.out.out (by simp [hS])
        subst hd
        exact ⟨ret_str HD.out, HB.out⟩
end Go.Proofs.YtphdfbmmjkccgaaDoor

namespace Go.Proofs.YtphdfbmmjkccgaaDoor
open Go.RowKit

set_option maxHeartbeats 800000 in
theorem body_quoted (s : ByteArray) (at_ : Nat) (w : World) (hs : s.size < 4294967281) (hat : at_ < s.size) :
    Calls Tryd.prog 74 #[.string s, .int .i64 at_] w fun e w' => e = .returned (.int .i64 (Sp.place (at_ + 1) (Sp.quoteEnd s[at_] (s.data.toList.drop (at_ + 1))))) ∧ ∃ n, w' = w.drewN n := by

  generalize hN : Sp.place (at_ + 1) (Sp.quoteEnd s[at_] (s.data.toList.drop (at_ + 1))) = N
  have HN := Lib.hid hN; clear hN
  go_enter Tryd.func74, Tryd.ntmps74
  go_wp2
  go_loopw [5] (fun i wr => ∃ k : Nat, at_ + 1 ≤ k ∧ k ≤ s.size ∧ i = .int .i64 k ∧ Sp.place k (Sp.quoteEnd s[at_] (s.data.toList.drop k)) = N ∧ ∃ n, wr = w.drewN n) (fun i _ => s.size - (intOf i).toNat)
  case atStart => exact ⟨at_ + 1, by omega, by omega, by go_num, HN.out, 0, rfl⟩
  case round =>
    obtain ⟨k, hk0, hk, rfl, hi, n, rfl⟩ := hrel
    have HI := Lib.hid hi; clear hi
    by_cases hlt : k < s.size
    · by_cases hlt2 : k + 1 < s.size
      · have hd2 := drop_at s (k + 1) hlt2
        have hi := HI.out
        rw [drop_at s k hlt, hd2] at hi
        unfold Sp.quoteEnd at hi
        have HD := Lib.hid hd2; clear hd2
        clear HI
        have HI := Lib.hid hi; clear hi
        go_wp2
        all_goals try (go_quiet (fail); go_wp2)
        all_goals (have hi := HI.out; clear HI HN; have hd2 := HD.out; clear HD)
        all_goals first
          | (go_round
             case rel => go_light; exact ⟨k + 1, by omega, by omega, by go_num, by simp_all [Sp.place_map], _, rfl⟩
             case measure => go_light; simp [intOf]; omega)
          | (go_round
             case rel => go_light; exact ⟨k + 2, by omega, by omega, by go_num, by simp_all [Sp.place_map], _, rfl⟩
             case measure => go_light; simp [intOf]; omega)
          | (go_ret; go_light; exact ⟨ret_int (by first | (simp_all [Sp.place]; done) | (simp_all [Sp.place]; omega)), _, rfl⟩)
      · have hd2 := drop_end s (k + 1) hlt2
        have hi := HI.out
        rw [drop_at s k hlt, hd2] at hi
        unfold Sp.quoteEnd at hi
        have HD := Lib.hid hd2; clear hd2
        clear HI
        have HI := Lib.hid hi; clear hi
        go_wp2
        all_goals try (go_quiet (fail); go_wp2)
        all_goals (have hi := HI.out; clear HI HN; have hd2 := HD.out; clear HD)
        all_goals first
          | (go_round
             case rel => go_light; exact ⟨k + 1, by omega, by omega, by go_num, by rw [hd2]; clear hd2; simp_all [Sp.place_map], _, rfl⟩
             case measure => go_light; simp [intOf]; omega)
          | (go_ret; go_light; exact ⟨ret_int (by first | (simp_all [Sp.place]; done) | (simp_all [Sp.place]; omega)), _, rfl⟩)
    · have hi := HI.out
      rw [drop_end s k hlt] at hi
      unfold Sp.quoteEnd at hi
      clear HI
      have HI := Lib.hid hi; clear hi
      go_wp2
      have hi := HI.out
      go_ret; go_light; exact ⟨ret_int (by simpa [Sp.place] using hi), _, rfl⟩
end Go.Proofs.YtphdfbmmjkccgaaDoor

namespace Go.Proofs.YtphdfbmmjkccgaaDoor
open Go.RowKit

set_option maxHeartbeats 400000 in
theorem body_upto (s : ByteArray) (from_ : Nat) (p : ByteArray) (w : World) (hs : s.size < 4294967281) (hp : p.size < 4294967281) (hat : from_ ≤ s.size) (hg : Gl w) :
    Calls Tryd.prog 75 #[.string s, .int .i64 from_, .string p] w fun e w' => e = .returned (.int .i64 (Sp.place from_ (Sp.upto (s.data.toList.drop from_) p.data.toList))) ∧ w = w' := by
  generalize hN : Sp.place from_ (Sp.upto (s.data.toList.drop from_) p.data.toList) = N
  unfold Sp.upto at hN
  have hlt := Lib.index_room (s.data.toList.drop from_) p.data.toList
  have hge := Lib.index_ge (s.data.toList.drop from_) p.data.toList
  have hlen : (s.data.toList.drop from_).length = s.size - from_ := by simp
  have hlen2 : p.data.toList.length = p.size := by simp
  rw [hlen, hlen2] at hlt
  rw [hlen2] at hN
  clear hlen hlen2
  rw [← ext_end] at hN hlt hge
  generalize hi : Lib.index (s.extract from_ s.size).data.toList p.data.toList = i at *
  have HI := Lib.hid hi; clear hi
  have HN := Lib.hid hN; clear hN
  go_enter Tryd.func75, Tryd.ntmps75
  go_wp2_with (go_at_call 54; refine (strings_Index_gl _ _ _ (by simp; omega) hg).mono ?_; rintro e w' ⟨rfl, rfl⟩; rw [HI.out])
  all_goals (go_ret; have hN := HN.out; clear HN HI)
  all_goals exact ⟨ret_int (by rw [← hN]; first | (rw [if_pos (by omega)]; simp [Sp.place]; omega) | (rw [if_neg (by omega)]; rfl)), rfl⟩

set_option maxHeartbeats 1600000 in
theorem body_pass (s : ByteArray) (at_ : Nat) (w : World) (hs : s.size < 4294967281) (hat : at_ < s.size) (hg : Gl w) :
    Calls Tryd.prog 46 #[.string s, .int .i64 at_] w fun e w' => e = .returned (.int .i64 (Sp.place at_ (Sp.passLen (s.data.toList.drop at_)))) ∧ ∃ n, w' = w.drewN n := by
  have hd := Lib.hid (drop_at s at_ hat)
  cases h34 : ((s[at_].toNat : Int) == 34) with
  | true =>
    go_enter Tryd.func46, Tryd.ntmps46
    go_wp2_with (go_at_call 74; refine (body_quoted s at_ _ hs hat).mono ?_; rintro e w' ⟨rfl, n, rfl⟩)
    go_ret
    exact ⟨ret_int (by rw [hd.out, Sp.passLen_cons, if_pos (.inl h34), Sp.place_map]), _, rfl⟩
  | false =>
  cases h39 : ((s[at_].toNat : Int) == 39) with
  | true =>
    go_enter Tryd.func46, Tryd.ntmps46
    go_wp2_with (go_at_call 74; refine (body_quoted s at_ _ hs hat).mono ?_; rintro e w' ⟨rfl, n, rfl⟩)
    go_ret
    exact ⟨ret_int (by rw [hd.out, Sp.passLen_cons, if_pos (.inr h39), Sp.place_map]), _, rfl⟩
  | false =>
  have hn := Lib.hid (show ¬ (((s[at_].toNat : Int) == 34) = true ∨ ((s[at_].toNat : Int) == 39) = true) by rw [h34, h39]; simp)
  cases h96 : ((s[at_].toNat : Int) == 96) with
  | true =>
    go_enter Tryd.func46, Tryd.ntmps46
    go_wp2_with (go_at_call 75; refine (body_upto s (at_ + 1) _ _ hs (by decide) (by omega) hg).mono ?_; rintro e w' ⟨rfl, rfl⟩)
    go_ret
    exact ⟨ret_int (by rw [hd.out, Sp.passLen_cons, if_neg hn.out, if_pos h96, Sp.place_map]), 0, rfl⟩
  | false =>
  have h96n := Lib.hid (show ¬ ((s[at_].toNat : Int) == 96) = true by simp [h96])
  cases hp2 : Lib.hasPrefix (s.data.toList.drop at_) [47, 42] with
  | true =>
    have hat2 : at_ + 1 < s.size := by
      rcases Nat.lt_or_ge (at_ + 1) s.size with h | h
      · exact h
      · rw [hd.out, drop_end s (at_ + 1) (by omega)] at hp2
        simp [Lib.hasPrefix] at hp2
    have HP := Lib.hid hp2
    go_enter Tryd.func46, Tryd.ntmps46
    go_wp2_with (first
      | (go_at_call 51; refine (strings_HasPrefix_gl _ _ _).mono ?_; rintro e w' ⟨rfl, rfl⟩; rw [ext_end])
      | (go_at_call 75; refine (body_upto s (at_ + 2) _ _ hs (by decide) (by omega) hg).mono ?_; rintro e w' ⟨rfl, rfl⟩))
    go_ret
    have hp := HP.out
    refine ⟨ret_int ?_, 0, rfl⟩
    rw [hd.out] at hp ⊢
    rw [Sp.passLen_cons, if_neg hn.out, if_neg h96n.out, if_pos hp, Sp.place_map, List.drop_drop]
  | false =>
  cases hp1 : Lib.hasPrefix (s.data.toList.drop at_) [47, 47] with
  | true =>
    have HP2 := Lib.hid hp2; have HP1 := Lib.hid hp1
    have hge := Lib.indexByte_ge (s.data.toList.drop at_) 10
    have hle := Sp.indexByte_le (s.data.toList.drop at_) 10
    have hlen : (s.data.toList.drop at_).length = s.size - at_ := by simp
    rw [hlen] at hle
    rw [← ext_end] at hle hge
    have HL := Lib.hid hlen; clear hlen
    generalize hi : Lib.indexByte (s.extract at_ s.size).data.toList 10 = i at *
    have HI := Lib.hid hi; clear hi
    go_enter Tryd.func46, Tryd.ntmps46
    go_wp2_with (first
      | (go_at_call 51; refine (strings_HasPrefix_gl _ _ _).mono ?_; rintro e w' ⟨rfl, rfl⟩; rw [ext_end])
      | (go_at_call 50; refine (strings_IndexByte_gl _ _ _).mono ?_; rintro e w' ⟨rfl, rfl⟩; rw [show ((10 : Int).toNat.toUInt8) = 10 from rfl, HI.out]))
    all_goals go_ret
    all_goals
      refine ⟨ret_int ?_, 0, rfl⟩
      have hp2 := HP2.out; have hp1 := HP1.out
      have hi := HI.out; have hl := HL.out; clear HI HL
      rw [ext_end] at hi
      rw [hd.out] at hp2 hp1 hi hl ⊢
      rw [Sp.passLen_cons, if_neg hn.out, if_neg h96n.out, if_neg (by simp [hp2]), if_pos hp1]
      simp only [Sp.place, Sp.line, hi, hl]
      first | (rw [if_pos (by omega)]; omega) | (rw [if_neg (by omega)]; omega)
  | false =>
    have HP2 := Lib.hid hp2; have HP1 := Lib.hid hp1
    go_enter Tryd.func46, Tryd.ntmps46
    go_wp2_with (go_at_call 51; refine (strings_HasPrefix_gl _ _ _).mono ?_; rintro e w' ⟨rfl, rfl⟩; rw [ext_end])
    go_ret
    have hp2 := HP2.out; have hp1 := HP1.out
    refine ⟨ret_int ?_, 0, rfl⟩
    rw [hd.out] at hp1 hp2 ⊢
    rw [Sp.passLen_cons, if_neg hn.out, if_neg h96n.out, if_neg (by simp [hp2]), if_neg (by simp [hp1])]; rfl
end Go.Proofs.YtphdfbmmjkccgaaDoor

namespace Go.Proofs.YtphdfbmmjkccgaaDoor
open Go.RowKit

theorem endGo_cons {f : Nat} {d : Int} {c : UInt8} {t : List UInt8} : Sp.endGo (f + 1) d (c :: t) =
    match Sp.passLen (c :: t) with
    | none => none
    | some (n + 1) => (Sp.endGo f d ((c :: t).drop (n + 1))).map (· + (n + 1))
    | some 0 =>
      if ((if ((c.toNat : Int) == 123) = true then d + 1 else if ((c.toNat : Int) == 125) = true then d - 1 else d) == 0) = true then some 1
      else (Sp.endGo f (if ((c.toNat : Int) == 123) = true then d + 1 else if ((c.toNat : Int) == 125) = true then d - 1 else d) t).map (· + 1) := rfl

set_option maxRecDepth 100000 in
set_option maxHeartbeats 1600000 in
theorem body_End_in (s : ByteArray) (at_ : Nat) (w : World) (hs : s.size < 4294967281) (hat : at_ < s.size) (hg : Gl w) :
    Calls Tryd.prog 44 #[.string s, .int .i64 at_] w fun e w' => e = .returned (.int .i64 (Sp.place at_ (Sp.endLen (s.data.toList.drop at_)))) ∧ ∃ n, w' = w.drewN n := by
  generalize hN : Sp.place at_ (Sp.endLen (s.data.toList.drop at_)) = N
  have hN' := hN
  rw [drop_at s at_ hat] at hN'
  unfold Sp.endLen at hN'
  simp only [List.length_cons] at hN'
  rw [← drop_at s at_ hat] at hN'
  cases hb : ((s[at_].toNat : Int) == 123) with
  | false =>
    rw [hb, if_neg (by simp)] at hN'
    have hbn : ((s[at_].toNat : Int) != 123) = true := by simp [bne, hb]
    have HN := Lib.hid hN'; clear hN' hN
    go_enter Tryd.func44, Tryd.ntmps44
    go_wp2
    go_ret
    exact ⟨ret_int HN.out, 0, rfl⟩
  | true =>
    rw [hb, if_pos rfl] at hN'
    have hbn : ((s[at_].toNat : Int) != 123) = false := by simp [bne, hb]
    have hl : (s.data.toList.drop (at_ + 1)).length = s.size - (at_ + 1) := by simp
    have HN := Lib.hid hN'; clear hN' hN
    have HB := Lib.hid hb; clear hb
    have HL := Lib.hid hl; clear hl
    go_enter Tryd.func44, Tryd.ntmps44
    go_wp2
    go_loopw [5, 6] (fun dv iv wr => ∃ (p f : Nat) (d : Int), at_ ≤ p ∧ p ≤ s.size ∧ iv = .int .i64 p ∧ dv = .int .i64 d ∧ -(p : Int) ≤ d ∧ d ≤ p ∧ s.size - p < f ∧ Sp.place p (Sp.endGo f d (s.data.toList.drop p)) = N ∧ ∃ n, wr = w.drewN n) (fun _ iv _ => s.size - (intOf iv).toNat)
    case atStart => exact ⟨at_, (s.data.toList.drop (at_ + 1)).length + 1 + 1, 0, by omega, by omega, rfl, rfl, by omega, by omega, by rw [HL.out]; omega, HN.out, 0, rfl⟩
    case round =>
      obtain ⟨p, f, d, hp0, hp, rfl, rfl, hd0, hd1, hf, hi, n, rfl⟩ := hrel
      clear HB HL hbn
      by_cases hlt : p < s.size
      · obtain ⟨f, rfl⟩ : ∃ g, f = g + 1 := ⟨f - 1, by omega⟩
        rw [drop_at s p hlt, endGo_cons, ← drop_at s p hlt] at hi
        have hpl := Sp.passLen_le (s.data.toList.drop p)
        have hlen : (s.data.toList.drop p).length = s.size - p := by simp
        rw [hlen] at hpl
        clear hlen
        cases hps : Sp.passLen (s.data.toList.drop p) with
        | none =>
          rw [hps] at hi
          have HI := Lib.hid hi; clear hi
          have HP := Lib.hid hps; clear hps hpl HN
          go_wp2_with (go_at_call 46; refine (body_pass s p _ hs hlt (hg.drewN n)).mono ?_; rintro e w' ⟨rfl, n2, rfl⟩; rw [HP.out]; simp only [Sp.place])
          go_ret
          exact ⟨ret_int (by have := HI.out; simpa [Sp.place] using this), _, rfl⟩
        | some m =>
          have hm := hpl m hps
          clear hpl
          cases m with
          | zero =>
            rw [hps] at hi
            simp only at hi
            have HI := Lib.hid hi; clear hi
            have HP := Lib.hid hps; clear hps HN
            go_wp2_with (go_at_call 46; refine (body_pass s p _ hs hlt (hg.drewN n)).mono ?_; rintro e w' ⟨rfl, n2, rfl⟩; rw [HP.out]; simp only [Sp.place, Nat.add_zero])
            all_goals (have hi := HI.out; clear HI)
            all_goals first
              | (go_round
                 case rel => go_light; exact ⟨p + 1, f, _, by omega, by omega, by go_num, rfl, by omega, by omega, by omega, by simp_all [Sp.place_map], _, rfl⟩
                 case measure => go_light; simp [intOf]; omega)
              | (go_ret; go_light; exact ⟨ret_int (by simp_all [Sp.place]), _, rfl⟩)
          | succ m =>
            rw [hps] at hi
            simp only [Sp.place_map, List.drop_drop] at hi
            have HI := Lib.hid hi; clear hi
            have HP := Lib.hid hps; clear hps HN
            go_wp2_with (go_at_call 46; refine (body_pass s p _ hs hlt (hg.drewN n)).mono ?_; rintro e w' ⟨rfl, n2, rfl⟩; rw [HP.out]; simp only [Sp.place])
            have hi := HI.out; clear HI
            go_round
            case rel => go_light; exact ⟨p + (m + 1), f, _, by omega, by omega, by go_num, rfl, by omega, by omega, by omega, hi, _, rfl⟩
            case measure => go_light; simp [intOf]; omega
      · have hi' : N = -1 := by
          rw [drop_end s p hlt] at hi
          cases f with
          | zero => omega
          | succ f => simpa [Sp.endGo, Sp.place] using hi.symm
        clear hi HN
        have HI := Lib.hid hi'; clear hi'
        go_wp2
        go_ret; go_light; exact ⟨ret_int HI.out.symm, _, rfl⟩
end Go.Proofs.YtphdfbmmjkccgaaDoor
