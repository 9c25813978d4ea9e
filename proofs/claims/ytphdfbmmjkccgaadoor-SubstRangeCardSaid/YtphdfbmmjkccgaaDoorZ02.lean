/- The walks of Name, NameAt, begins, and of the small functions of the reference. The walk of the reference's Digits and Join. The walk of body.quoted. The walk of the reference's Over: what is passed over. The walks of upto, pass, End of layer 5, and of the reference's End. The walks of End, of layer 5 and of the reference. -/
import Derived.Test.YtphdfbmmjkccgaaDoorZ00
import Derived.Test.YtphdfbmmjkccgaaDoorZ01
import Derived.Lib.IndexMore
namespace Go.Proofs.YtphdfbmmjkccgaaDoor
open Go.RowKit

set_option maxHeartbeats 400000 in
theorem ref_digit (c : UInt8) (w : World) :
    Calls Tryd.prog 107 #[.int .u8 (c.toNat : Int)] w fun e w' => e = .returned (.bool (Sp.digit c)) ∧ w = w' := by
  go_enter Tryd.func107, Tryd.ntmps107
  go_wp2
  all_goals go_ret
  all_goals exact ⟨ret_bool (Bool.eq_iff_iff.2 (by simp [Sp.digit]; omega)), rfl⟩

set_option maxHeartbeats 400000 in
theorem ref_letter (c : UInt8) (w : World) :
    Calls Tryd.prog 106 #[.int .u8 (c.toNat : Int)] w fun e w' => e = .returned (.bool (Sp.letter c)) ∧ w = w' := by
  go_enter Tryd.func106, Tryd.ntmps106
  go_wp2
  all_goals go_ret
  all_goals exact ⟨ret_bool (Bool.eq_iff_iff.2 (by simp [Sp.letter]; omega)), rfl⟩

set_option maxHeartbeats 800000 in
theorem ref_NameAt (s : ByteArray) (at_ : Nat) (w : World) (hs : s.size < 4294967281) (hat : at_ ≤ s.size) :
    Calls Tryd.prog 88 #[.string s, .int .i64 at_] w fun e w' => e = .returned (.int .i64 (Sp.nameLen true (s.data.toList.drop at_) : Nat)) ∧ w = w' := by

  generalize hN : Sp.nameLen true (s.data.toList.drop at_) = N
  have HN := Lib.hid hN; clear hN
  go_enter Tryd.func88, Tryd.ntmps88
  go_wp2
  go_loop [5] (fun i => ∃ k : Nat, at_ + k ≤ s.size ∧ i = .int .i64 k ∧ k + Sp.nameLen (k == 0) (s.data.toList.drop (at_ + k)) = N) (fun i => s.size - (intOf i).toNat)
  case atStart => exact ⟨0, by omega, rfl, by simp [HN.out]⟩
  case round =>
    obtain ⟨k, hk, rfl, hi⟩ := hrel
    have HI := Lib.hid hi; clear hi
    by_cases hlt : at_ + k < s.size
    · have HD := Lib.hid (drop_at s (at_ + k) hlt)
      go_wp2_with (first
        | (go_at_call 106; refine (ref_letter _ _).mono ?_; rintro e w' ⟨rfl, rfl⟩)
        | (go_at_call 107; refine (ref_digit _ _).mono ?_; rintro e w' ⟨rfl, rfl⟩))
      all_goals (have hi := HI.out; rw [HD.out] at hi; clear HI HD HN; unfold Sp.nameLen at hi)
      all_goals first
        | (go_round
           case rel => go_light; exact ⟨k + 1, by omega, by go_num, by first | (simp_all [Nat.add_assoc]; done) | (simp_all [Nat.add_assoc]; omega) | (simp_all [Nat.add_assoc]; split at hi <;> omega)⟩
           case measure => go_light; simp [intOf]; omega)
        | (go_ret; go_light; exact ⟨ret_int (by first | (simp_all; done) | (simp_all; omega) | (simp_all; split at hi <;> omega)), rfl⟩)
    · have HD := Lib.hid (drop_end s (at_ + k) hlt)
      go_wp2
      have hi := HI.out; rw [HD.out] at hi; clear HI HD HN; unfold Sp.nameLen at hi
      go_ret
      go_light
      exact ⟨ret_int (by first | (simp_all; done) | (simp_all; omega)), rfl⟩

set_option maxHeartbeats 400000 in
theorem body_Name (s : ByteArray) (w : World) (hs : s.size < 4294967281) :
    Calls Tryd.prog 60 #[.string s] w fun e w' => e = .returned (.bool (Sp.isName s.data.toList)) ∧ w = w' := by
  have hl : s.data.toList.length = s.size := by simp
  generalize hN : Sp.isName s.data.toList = N
  unfold Sp.isName at hN
  rw [hl] at hN
  have HN := Lib.hid hN; clear hN hl
  have HR := Lib.hid (body_Run s w hs)
  generalize Sp.nameLen true s.data.toList = r at *
  go_enter Tryd.func60, Tryd.ntmps60
  go_wp2_with (go_at_call 56; refine (HR.out).mono ?_; rintro e w' ⟨rfl, rfl⟩)
  all_goals (go_ret; have hN := HN.out; clear HN HR)
  all_goals exact ⟨ret_bool (by rw [← hN, ← Lib.toList_data, Bool.eq_iff_iff]; simp_all; try omega), rfl⟩

set_option maxHeartbeats 400000 in
theorem ref_begins (s p : ByteArray) (at_ : Nat) (w : World) (hs : s.size < 4294967281) (hp : p.size < 4294967281) (hat : at_ ≤ s.size) :
    Calls Tryd.prog 118 #[.string s, .int .i64 at_, .string p] w fun e w' => e = .returned (.bool (Lib.hasPrefix (s.data.toList.drop at_) p.data.toList)) ∧ w = w' := by

  go_enter Tryd.func118, Tryd.ntmps118
  go_wp2
  all_goals go_ret
  · exact ⟨ret_bool (by
      rw [Lib.extract_toList, Lib.toList_data, ← Lib.hasPrefix_of_take, Nat.add_sub_cancel_left, ← Lib.size_eq p]
      rw [show decide (p.size ≤ (s.data.toList.drop at_).length) = true by simp; omega]
      rfl), rfl⟩
  · exact ⟨ret_bool (by
      rw [← Lib.hasPrefix_of_take, ← Lib.size_eq p]
      rw [show decide (p.size ≤ (s.data.toList.drop at_).length) = false by simp; omega]
      rfl), rfl⟩
end Go.Proofs.YtphdfbmmjkccgaaDoor

namespace Go.Proofs.YtphdfbmmjkccgaaDoor
open Go.RowKit

def emptyN : Value → Nat | .string s => if s.size = 0 then 1 else 0 | _ => 0
/-- What a round of Digits finds: the digits of u ahead of those that stand there are those of n. -/
def DigI (n u : Nat) (S : List UInt8) : Prop := ((0 < u ∨ S = []) ∧ Lib.decDigits u ++ S = Lib.decDigits n) ∨ (u = 0 ∧ S ≠ [] ∧ S = Lib.decDigits n)
theorem DigI.step {n u : Nat} {S : List UInt8} (h : DigI n u S) (hc : 0 < u ∨ S = []) : DigI n (u / 10) (UInt8.ofNat (48 + u % 10) :: S) := by
  rcases h with ⟨_, h⟩ | ⟨h0, hS, _⟩
  · by_cases hu : u < 10
    · right
      refine ⟨by omega, by simp, ?_⟩
      rw [← h, Lib.decDigits, dif_pos hu, Nat.mod_eq_of_lt hu]; rfl
    · left
      refine ⟨.inl (by omega), ?_⟩
      rw [← h]
      conv => rhs; rw [Lib.decDigits, dif_neg hu]
      simp
  · rcases hc with h | h
    · omega
    · exact absurd h hS
theorem DigI.out {n u : Nat} {S : List UInt8} (h : DigI n u S) (hc : ¬ (0 < u ∨ S = [])) : S = Lib.decDigits n := by
  rcases h with ⟨h, _⟩ | ⟨_, _, h⟩
  · exact absurd h hc
  · exact h

theorem mk_append (a b : List UInt8) : ((⟨a.toArray⟩ : ByteArray) ++ (⟨b.toArray⟩ : ByteArray)) = ⟨(a ++ b).toArray⟩ := by
  apply ByteArray.ext
  simp
theorem ret_str {a b : List UInt8} (h : a = b) : Ending.returned (.string ⟨a.toArray⟩) = .returned (.string ⟨b.toArray⟩) := by rw [h]
theorem emptyN_cons (c : UInt8) (S : List UInt8) : emptyN (.string ⟨(c :: S).toArray⟩) = 0 := by
  show (if (⟨(c :: S).toArray⟩ : ByteArray).size = 0 then 1 else 0) = 0
  rw [if_neg]
  rw [Lib.size_eq]; simp
theorem convert_one (W : World) (c : UInt8) : (convert 68 9 (.slice (some ⟨W.heap.size, 0, none⟩) 1 1)).run Tryd.prog (W.alloc (.cells #[.int .u8 (c.toNat : Int)] 5)) = .ok (.string ⟨#[c]⟩) (W.alloc (.cells #[.int .u8 (c.toNat : Int)] 5)) := by
  refine run_convert_bytes_back (P := Tryd.prog) _ 68 9 5 ⟨W.heap.size, 0, none⟩ 1 [c] Tryd.underlying68 Tryd.underlying5 Tryd.underlying9 ?_
  intro j hj
  obtain rfl : j = 0 := by simpa using hj
  exact new_cells W [.int .u8 (c.toNat : Int)] _ 0 _ rfl

set_option maxRecDepth 100000 in
set_option maxHeartbeats 1600000 in
theorem ref_Digits (n : Int) (w : World) (h0 : 0 ≤ n) (h1 : n < 60001) :
    Calls Tryd.prog 8 #[.int .i64 n] w fun e w' => e = .returned (.string ⟨(Lib.itoa n).toArray⟩) ∧ Below w.heap.size w w' := by
  obtain ⟨m, rfl⟩ := Int.eq_ofNat_of_zero_le h0
  have hit : Lib.itoa (m : Int) = Lib.decDigits m := by unfold Lib.itoa; rw [if_neg (by omega)]; rfl
  rw [hit]
  clear hit
  generalize hD : Lib.decDigits m = D
  have HD := Lib.hid hD
  have hwr : IntKind.u64.wrap (m : Int) = m := IntWalk.u64_in _ ⟨by omega, by omega⟩
  have H1 := Lib.hid (show m < 60001 by omega)
  clear hD h1
  go_enter Tryd.func8, Tryd.ntmps8
  go_wp2
  go_loopw [4, 3] (fun sv uv wr => ∃ (u : Nat) (S : List UInt8), u < 60001 ∧ S.length + u ≤ m + 10 ∧ uv = .int .u64 u ∧ sv = .string ⟨S.toArray⟩ ∧ DigI m u S ∧ Below w.heap.size w wr) (fun sv uv _ => 2 * (intOf uv).toNat + emptyN sv)
  case atStart => exact ⟨m, [], by have := H1.out; omega, by simp, rfl, rfl, .inl ⟨.inr rfl, by simp⟩, Below.refl _ _⟩
  case round =>
    obtain ⟨u, S, hu, hSl, rfl, rfl, hi, hb⟩ := hrel
    have HI := Lib.hid hi; have HB := Lib.hid hb
    have HU := Lib.hid hu
    clear hi hb hu hwr
    have hc8 : ((UInt8.ofNat (48 + u % 10)).toNat : Int) = 48 + (u : Int) % 10 := by
      rw [UInt8.toNat_ofNat_of_lt' (by have : UInt8.size = 256 := rfl; omega)]; omega
    have hcv := convert_one wr (UInt8.ofNat (48 + u % 10))
    rw [hc8] at hcv
    clear hc8
    have hS2 : 1 + S.length ≤ 9223372036854775807 := by have := HU.out; have := H1.out; omega
    have hof : (48 + UInt8.ofNat (u % 10) : UInt8) = UInt8.ofNat (48 + u % 10) := by simp
    have HOF := Lib.hid hof
    clear hof
    by_cases hu0 : 0 < u
    · go_wp2
      go_roundw
      case rel =>
        go_light
        exact ⟨u / 10, UInt8.ofNat (48 + u % 10) :: S, by have := HU.out; omega, by simp; omega, by rw [IntWalk.u64_in _ (by have := HU.out; omega)]; simp, by rw [HOF.out, mk_append [UInt8.ofNat (48 + u % 10)] S]; rfl, HI.out.step (.inl hu0), HB.out.alloc HB.out.size _⟩
      case measure =>
        go_light
        rw [IntWalk.u64_in _ (by have := HU.out; omega), HOF.out, mk_append [UInt8.ofNat (48 + u % 10)] S, List.singleton_append, emptyN_cons]
        simp only [intOf]
        omega
    · obtain rfl : u = 0 := by omega
      by_cases hS : S = []
      · subst hS
        clear hcv HOF
        have hcv := convert_one wr 48
        simp only [show ((48 : UInt8).toNat : Int) = 48 from rfl] at hcv
        go_wp2
        go_roundw
        case rel =>
          go_light
          exact ⟨0, [UInt8.ofNat 48], by omega, by simp, by first | rfl | simp, by first | rfl | simp, HI.out.step (.inr rfl), HB.out.alloc HB.out.size _⟩
        case measure =>
          go_light
          show _ + emptyN (.string ⟨[48].toArray⟩) < _ + 1
          rw [emptyN_cons]
          simp only [intOf]
          omega
      · have hS1 : S.isEmpty = false := by simpa using hS
        clear hcv
        go_wp2
        go_ret
        have hd := HI.out.out (by simp [hS])
        subst hd
        exact ⟨ret_str HD.out, HB.out⟩
end Go.Proofs.YtphdfbmmjkccgaaDoor

namespace Go.Proofs.YtphdfbmmjkccgaaDoor
open Go.RowKit

set_option maxHeartbeats 800000 in
theorem body_quoted (s : ByteArray) (at_ : Nat) (w : World) (hs : s.size < 4294967281) (hat : at_ < s.size) :
    Calls Tryd.prog 74 #[.string s, .int .i64 at_] w fun e w' => e = .returned (.int .i64 (Sp.place (at_ + 1) (Sp.quoteEnd s[at_] (s.data.toList.drop (at_ + 1))))) ∧ ∃ n, w' = w.drewN n := by

  generalize hN : Sp.place (at_ + 1) (Sp.quoteEnd s[at_] (s.data.toList.drop (at_ + 1))) = N
  have HN := Lib.hid hN; clear hN
  go_enter Tryd.func74, Tryd.ntmps74
  go_wp2
  go_loopw [5] (fun i wr => ∃ k : Nat, at_ + 1 ≤ k ∧ k ≤ s.size ∧ i = .int .i64 k ∧ Sp.place k (Sp.quoteEnd s[at_] (s.data.toList.drop k)) = N ∧ ∃ n, wr = w.drewN n) (fun i _ => s.size - (intOf i).toNat)
  case atStart => exact ⟨at_ + 1, by omega, by omega, by go_num, HN.out, 0, rfl⟩
  case round =>
    obtain ⟨k, hk0, hk, rfl, hi, n, rfl⟩ := hrel
    have HI := Lib.hid hi; clear hi
    by_cases hlt : k < s.size
    · by_cases hlt2 : k + 1 < s.size
      · have hd2 := drop_at s (k + 1) hlt2
        have hi := HI.out
        rw [drop_at s k hlt, hd2] at hi
        unfold Sp.quoteEnd at hi
        have HD := Lib.hid hd2; clear hd2
        clear HI
        have HI := Lib.hid hi; clear hi
        go_wp2
        all_goals try (go_quiet (fail); go_wp2)
        all_goals (have hi := HI.out; clear HI HN; have hd2 := HD.out; clear HD)
        all_goals first
          | (go_round
             case rel => go_light; exact ⟨k + 1, by omega, by omega, by go_num, by simp_all [Sp.place_map], _, rfl⟩
             case measure => go_light; simp [intOf]; omega)
          | (go_round
             case rel => go_light; exact ⟨k + 2, by omega, by omega, by go_num, by simp_all [Sp.place_map], _, rfl⟩
             case measure => go_light; simp [intOf]; omega)
          | (go_ret; go_light; exact ⟨ret_int (by first | (simp_all [Sp.place]; done) | (simp_all [Sp.place]; omega)), _, rfl⟩)
      · have hd2 := drop_end s (k + 1) hlt2
        have hi := HI.out
        rw [drop_at s k hlt, hd2] at hi
        unfold Sp.quoteEnd at hi
        have HD := Lib.hid hd2; clear hd2
        clear HI
        have HI := Lib.hid hi; clear hi
        go_wp2
        all_goals try (go_quiet (fail); go_wp2)
        all_goals (have hi := HI.out; clear HI HN; have hd2 := HD.out; clear HD)
        all_goals first
          | (go_round
             case rel => go_light; exact ⟨k + 1, by omega, by omega, by go_num, by rw [hd2]; clear hd2; simp_all [Sp.place_map], _, rfl⟩
             case measure => go_light; simp [intOf]; omega)
          | (go_ret; go_light; exact ⟨ret_int (by first | (simp_all [Sp.place]; done) | (simp_all [Sp.place]; omega)), _, rfl⟩)
    · have hi := HI.out
      rw [drop_end s k hlt] at hi
      unfold Sp.quoteEnd at hi
      clear HI
      have HI := Lib.hid hi; clear hi
      go_wp2
      have hi := HI.out
      go_ret; go_light; exact ⟨ret_int (by simpa [Sp.place] using hi), _, rfl⟩
end Go.Proofs.YtphdfbmmjkccgaaDoor

namespace Go.Proofs.YtphdfbmmjkccgaaDoor
open Go.RowKit

set_option maxRecDepth 100000 in
set_option maxHeartbeats 1600000 in
theorem ref_Over_quote (s : ByteArray) (at_ : Nat) (w : World) (hs : s.size < 4294967281) (hat : at_ < s.size)
    (hq : ((s[at_].toNat : Int) == 34) = true ∨ (((s[at_].toNat : Int) == 34) = false ∧ ((s[at_].toNat : Int) == 39) = true)) :
    Calls Tryd.prog 108 #[.string s, .int .i64 at_] w fun e w' => e = .returned (.int .i64 (Sp.place (at_ + 1) (Sp.quoteEnd s[at_] (s.data.toList.drop (at_ + 1))))) ∧ ∃ n, w' = w.drewN n := by
  have hq92 : ((s[at_].toNat : Int) == 92) = false := by
    rcases hq with h | ⟨_, h⟩ <;> (rw [beq_iff_eq] at h; rw [beq_eq_false_iff_ne]; omega)
  have hq10 : ((s[at_].toNat : Int) == 10) = false := by
    rcases hq with h | ⟨_, h⟩ <;> (rw [beq_iff_eq] at h; rw [beq_eq_false_iff_ne]; omega)
  obtain ⟨q, hqd⟩ : ∃ q, s[at_] = q := ⟨_, rfl⟩
  generalize hN : Sp.place (at_ + 1) (Sp.quoteEnd s[at_] (s.data.toList.drop (at_ + 1))) = N
  rw [hqd] at hN hq hq92 hq10
  have HN := Lib.hid hN; clear hN
  rcases hq with h34 | ⟨h34, h39⟩
  all_goals
    go_enter Tryd.func108, Tryd.ntmps108
    go_wp2
    go_loopw [5] (fun i wr => ∃ k : Nat, at_ + 1 ≤ k ∧ k ≤ s.size + 1 ∧ i = .int .i64 k ∧ Sp.place k (Sp.quoteEnd q (s.data.toList.drop k)) = N ∧ ∃ n, wr = w.drewN n) (fun i _ => s.size - (intOf i).toNat)
    case atStart => exact ⟨at_ + 1, by omega, by omega, by go_num, HN.out, 0, rfl⟩
    case round =>
      obtain ⟨k, hk0, hk, rfl, hi, n, rfl⟩ := hrel
      have HI := Lib.hid hi; clear hi
      by_cases hlt : k < s.size
      · by_cases hlt2 : k + 1 < s.size
        · have hd2 := drop_at s (k + 1) hlt2
          have hi := HI.out
          rw [drop_at s k hlt, hd2] at hi
          unfold Sp.quoteEnd at hi
          have HD := Lib.hid hd2; clear hd2
          clear HI
          have HI := Lib.hid hi; clear hi
          go_wp2
          all_goals try (go_quiet (fail); go_wp2)
          all_goals (have hi := HI.out; clear HI HN; have hd2 := HD.out; clear HD)
          all_goals first
            | (go_round
               case rel => go_light; exact ⟨k + 1, by omega, by omega, by go_num, by simp_all [Sp.place_map], _, rfl⟩
               case measure => go_light; simp [intOf]; omega)
            | (go_round
               case rel => go_light; exact ⟨k + 2, by omega, by omega, by go_num, by simp_all [Sp.place_map], _, rfl⟩
               case measure => go_light; simp [intOf]; omega)
            | (go_ret; go_light; exact ⟨ret_int (by first | (simp_all [Sp.place]; done) | (simp_all [Sp.place]; omega)), _, rfl⟩)
        · have hd2 := drop_end s (k + 1) hlt2
          have hi := HI.out
          rw [drop_at s k hlt, hd2] at hi
          unfold Sp.quoteEnd at hi
          have HD := Lib.hid hd2; clear hd2
          clear HI
          have HI := Lib.hid hi; clear hi
          go_wp2
          all_goals try (go_quiet (fail); go_wp2)
          all_goals (have hi := HI.out; clear HI HN; have hd2 := HD.out; clear HD)
          all_goals first
            | (go_round
               case rel => go_light; exact ⟨k + 1, by omega, by omega, by go_num, by rw [hd2]; clear hd2; simp_all [Sp.place_map], _, rfl⟩
               case measure => go_light; simp [intOf]; omega)
            | (go_ret; go_light; exact ⟨ret_int (by first | (simp_all [Sp.place]; done) | (simp_all [Sp.place]; omega)), _, rfl⟩)
            | (go_round
               case rel => go_light; exact ⟨k + 2, by omega, by omega, by go_num, by rw [drop_end s (k + 2) (by omega)]; clear hd2; simp_all [Sp.place, Sp.quoteEnd], _, rfl⟩
               case measure => go_light; simp [intOf]; omega)
      · have hi := HI.out
        rw [drop_end s k hlt] at hi
        unfold Sp.quoteEnd at hi
        clear HI
        have HI := Lib.hid hi; clear hi
        go_wp2
        have hi := HI.out
        go_ret; go_light; exact ⟨ret_int (by simpa [Sp.place] using hi), _, rfl⟩

set_option maxRecDepth 100000 in
set_option maxHeartbeats 1600000 in
theorem ref_Over_tick (s : ByteArray) (at_ : Nat) (w : World) (hs : s.size < 4294967281) (hat : at_ < s.size)
    (h34 : ((s[at_].toNat : Int) == 34) = false) (h39 : ((s[at_].toNat : Int) == 39) = false) (h96 : ((s[at_].toNat : Int) == 96) = true) :
    Calls Tryd.prog 108 #[.string s, .int .i64 at_] w fun e w' => e = .returned (.int .i64 (Sp.place (at_ + 1) (Sp.upto (s.data.toList.drop (at_ + 1)) [96]))) ∧ w = w' := by
  generalize hN : Sp.place (at_ + 1) (Sp.upto (s.data.toList.drop (at_ + 1)) [96]) = N
  have HN := Lib.hid hN; clear hN
  go_enter Tryd.func108, Tryd.ntmps108
  go_wp2
  go_loop [6] (fun i => ∃ k : Nat, at_ + 1 ≤ k ∧ k ≤ s.size ∧ i = .int .i64 k ∧ Sp.place k (Sp.upto (s.data.toList.drop k) [96]) = N) (fun i => s.size - (intOf i).toNat)
  case atStart => exact ⟨at_ + 1, by omega, by omega, by go_num, HN.out⟩
  case round =>
    obtain ⟨k, hk0, hk, rfl, hi⟩ := hrel
    have HI := Lib.hid hi; clear hi
    by_cases hlt : k < s.size
    · have hi := HI.out
      rw [drop_at s k hlt, Sp.upto_cons, Sp.hasPrefix_one] at hi
      clear HI
      have HI := Lib.hid hi; clear hi
      go_wp2
      all_goals (have hi := HI.out; clear HI HN)
      all_goals first
        | (go_round
           case rel => go_light; exact ⟨k + 1, by omega, by omega, by go_num, by simp_all [Sp.place_map]⟩
           case measure => go_light; simp [intOf]; omega)
        | (go_ret; go_light; exact ⟨ret_int (by first | (simp_all [Sp.place]; done) | (simp_all [Sp.place]; omega)), rfl⟩)
    · have hi := HI.out
      rw [drop_end s k hlt, Sp.upto_nil] at hi
      clear HI
      have HI := Lib.hid hi; clear hi
      go_wp2
      have hi := HI.out
      go_ret; go_light; exact ⟨ret_int (by simpa [Sp.place] using hi), rfl⟩

set_option maxRecDepth 100000 in
set_option maxHeartbeats 1600000 in
theorem ref_Over_rem (s : ByteArray) (at_ : Nat) (w : World) (hs : s.size < 4294967281) (hat : at_ + 1 < s.size)
    (h34 : ((s[at_].toNat : Int) == 34) = false) (h39 : ((s[at_].toNat : Int) == 39) = false) (h96 : ((s[at_].toNat : Int) == 96) = false)
    (hp1 : Lib.hasPrefix (s.data.toList.drop at_) [47, 47] = false) (hp2 : Lib.hasPrefix (s.data.toList.drop at_) [47, 42] = true) :
    Calls Tryd.prog 108 #[.string s, .int .i64 at_] w fun e w' => e = .returned (.int .i64 (Sp.place (at_ + 2) (Sp.upto (s.data.toList.drop (at_ + 2)) [42, 47]))) ∧ w = w' := by
  generalize hN : Sp.place (at_ + 2) (Sp.upto (s.data.toList.drop (at_ + 2)) [42, 47]) = N
  have HN := Lib.hid hN; clear hN
  go_enter Tryd.func108, Tryd.ntmps108
  go_wp2_with (go_at_call 118; refine (ref_begins _ _ _ _ hs (by decide) (by omega)).mono ?_; rintro e w' ⟨rfl, rfl⟩)
  go_loop [8] (fun i => ∃ k : Nat, at_ + 2 ≤ k ∧ k ≤ s.size ∧ i = .int .i64 k ∧ Sp.place k (Sp.upto (s.data.toList.drop k) [42, 47]) = N) (fun i => s.size - (intOf i).toNat)
  case atStart => exact ⟨at_ + 2, by omega, by omega, by go_num, HN.out⟩
  case round =>
    obtain ⟨k, hk0, hk, rfl, hi⟩ := hrel
    have HI := Lib.hid hi; clear hi
    by_cases hlt : k < s.size
    · have hi := HI.out
      rw [drop_at s k hlt, Sp.upto_cons, ← drop_at s k hlt] at hi
      clear HI
      have HI := Lib.hid hi; clear hi
      go_wp2_with (go_at_call 118; refine (ref_begins _ _ _ _ hs (by decide) (by omega)).mono ?_; rintro e w' ⟨rfl, rfl⟩)
      all_goals (have hi := HI.out; clear HI HN)
      all_goals first
        | (go_round
           case rel => go_light; exact ⟨k + 1, by omega, by omega, by go_num, by simp_all [Sp.place_map]⟩
           case measure => go_light; simp [intOf]; omega)
        | (go_ret; go_light; exact ⟨ret_int (by first | (simp_all [Sp.place]; done) | (simp_all [Sp.place]; omega)), rfl⟩)
    · have hi := HI.out
      rw [drop_end s k hlt, Sp.upto_nil] at hi
      clear HI
      have HI := Lib.hid hi; clear hi
      go_wp2
      have hi := HI.out
      go_ret; go_light; exact ⟨ret_int (by simpa [Sp.place] using hi), rfl⟩

set_option maxRecDepth 100000 in
set_option maxHeartbeats 1600000 in
theorem ref_Over_line (s : ByteArray) (at_ : Nat) (w : World) (hs : s.size < 4294967281) (hat : at_ < s.size)
    (h34 : ((s[at_].toNat : Int) == 34) = false) (h39 : ((s[at_].toNat : Int) == 39) = false) (h96 : ((s[at_].toNat : Int) == 96) = false)
    (hp1 : Lib.hasPrefix (s.data.toList.drop at_) [47, 47] = true) :
    Calls Tryd.prog 108 #[.string s, .int .i64 at_] w fun e w' => e = .returned (.int .i64 ((at_ + Sp.line (s.data.toList.drop at_) : Nat) : Int)) ∧ w = w' := by
  generalize hN : at_ + Sp.line (s.data.toList.drop at_) = N
  have HN := Lib.hid hN; clear hN
  go_enter Tryd.func108, Tryd.ntmps108
  go_wp2_with (go_at_call 118; refine (ref_begins _ _ _ _ hs (by decide) (by omega)).mono ?_; rintro e w' ⟨rfl, rfl⟩)
  go_loop [7] (fun i => ∃ k : Nat, at_ ≤ k ∧ k ≤ s.size ∧ i = .int .i64 k ∧ k + Sp.line (s.data.toList.drop k) = N) (fun i => s.size - (intOf i).toNat)
  case atStart => exact ⟨at_, by omega, by omega, by go_num, HN.out⟩
  case round =>
    obtain ⟨k, hk0, hk, rfl, hi⟩ := hrel
    have HI := Lib.hid hi; clear hi
    by_cases hlt : k < s.size
    · have hi := HI.out
      rw [drop_at s k hlt, Sp.line_cons] at hi
      clear HI
      have HI := Lib.hid hi; clear hi
      go_wp2
      all_goals (have hi := HI.out; clear HI HN)
      all_goals first
        | (go_round
           case rel => go_light; exact ⟨k + 1, by omega, by omega, by go_num, by simp_all; omega⟩
           case measure => go_light; simp [intOf]; omega)
        | (go_ret; go_light; exact ⟨ret_int (by first | (simp_all; done) | (simp_all; omega)), rfl⟩)
    · have hi := HI.out
      rw [drop_end s k hlt, Sp.line_nil] at hi
      clear HI
      have HI := Lib.hid hi; clear hi
      go_wp2
      have hi := HI.out
      go_ret; go_light; exact ⟨ret_int (by omega), rfl⟩

set_option maxRecDepth 100000 in
set_option maxHeartbeats 1600000 in
theorem ref_Over_none (s : ByteArray) (at_ : Nat) (w : World) (hs : s.size < 4294967281) (hat : at_ < s.size)
    (h34 : ((s[at_].toNat : Int) == 34) = false) (h39 : ((s[at_].toNat : Int) == 39) = false) (h96 : ((s[at_].toNat : Int) == 96) = false)
    (hp1 : Lib.hasPrefix (s.data.toList.drop at_) [47, 47] = false) (hp2 : Lib.hasPrefix (s.data.toList.drop at_) [47, 42] = false) :
    Calls Tryd.prog 108 #[.string s, .int .i64 at_] w fun e w' => e = .returned (.int .i64 (at_ : Nat)) ∧ w = w' := by
  go_enter Tryd.func108, Tryd.ntmps108
  go_wp2_with (go_at_call 118; refine (ref_begins _ _ _ _ hs (by decide) (by omega)).mono ?_; rintro e w' ⟨rfl, rfl⟩)
  go_ret
  exact ⟨rfl, rfl⟩

theorem ref_Over (s : ByteArray) (at_ : Nat) (w : World) (hs : s.size < 4294967281) (hat : at_ < s.size) :
    Calls Tryd.prog 108 #[.string s, .int .i64 at_] w fun e w' => e = .returned (.int .i64 (Sp.place at_ (Sp.passLen (s.data.toList.drop at_)))) ∧ ∃ n, w' = w.drewN n := by
  have hd := drop_at s at_ hat
  cases h34 : ((s[at_].toNat : Int) == 34) with
  | true =>
    refine (ref_Over_quote s at_ w hs hat (.inl h34)).mono ?_
    rintro e w' ⟨rfl, h⟩
    exact ⟨ret_int (by rw [hd, Sp.passLen_cons, if_pos (.inl h34), Sp.place_map]), h⟩
  | false =>
  cases h39 : ((s[at_].toNat : Int) == 39) with
  | true =>
    refine (ref_Over_quote s at_ w hs hat (.inr ⟨h34, h39⟩)).mono ?_
    rintro e w' ⟨rfl, h⟩
    exact ⟨ret_int (by rw [hd, Sp.passLen_cons, if_pos (.inr h39), Sp.place_map]), h⟩
  | false =>
  have hn : ¬ (((s[at_].toNat : Int) == 34) = true ∨ ((s[at_].toNat : Int) == 39) = true) := by rw [h34, h39]; simp
  cases h96 : ((s[at_].toNat : Int) == 96) with
  | true =>
    refine (ref_Over_tick s at_ w hs hat h34 h39 h96).mono ?_
    rintro e w' ⟨rfl, rfl⟩
    exact ⟨ret_int (by rw [hd, Sp.passLen_cons, if_neg hn, if_pos h96, Sp.place_map]), 0, rfl⟩
  | false =>
  have h96n : ¬ ((s[at_].toNat : Int) == 96) = true := by simp [h96]
  cases hp1 : Lib.hasPrefix (s.data.toList.drop at_) [47, 47] with
  | true =>
    refine (ref_Over_line s at_ w hs hat h34 h39 h96 hp1).mono ?_
    rintro e w' ⟨rfl, rfl⟩
    refine ⟨ret_int ?_, 0, rfl⟩
    rw [hd] at hp1 ⊢
    rw [Sp.passLen_cons, if_neg hn, if_neg h96n, if_neg (Sp.slash_not_star hp1), if_pos hp1]; rfl
  | false =>
  cases hp2 : Lib.hasPrefix (s.data.toList.drop at_) [47, 42] with
  | true =>
    have hat2 : at_ + 1 < s.size := by
      rcases Nat.lt_or_ge (at_ + 1) s.size with h | h
      · exact h
      · rw [hd, drop_end s (at_ + 1) (by omega)] at hp2
        simp [Lib.hasPrefix] at hp2
    refine (ref_Over_rem s at_ w hs hat2 h34 h39 h96 hp1 hp2).mono ?_
    rintro e w' ⟨rfl, rfl⟩
    refine ⟨ret_int ?_, 0, rfl⟩
    rw [hd] at hp2 ⊢
    rw [Sp.passLen_cons, if_neg hn, if_neg h96n, if_pos hp2, Sp.place_map, List.drop_drop]
  | false =>
    refine (ref_Over_none s at_ w hs hat h34 h39 h96 hp1 hp2).mono ?_
    rintro e w' ⟨rfl, rfl⟩
    refine ⟨ret_int ?_, 0, rfl⟩
    rw [hd] at hp1 hp2 ⊢
    rw [Sp.passLen_cons, if_neg hn, if_neg h96n, if_neg (by simp [hp2]), if_neg (by simp [hp1])]; rfl
end Go.Proofs.YtphdfbmmjkccgaaDoor

namespace Go.Proofs.YtphdfbmmjkccgaaDoor
open Go.RowKit

set_option maxHeartbeats 400000 in
theorem body_upto (s : ByteArray) (from_ : Nat) (p : ByteArray) (w : World) (hs : s.size < 4294967281) (hp : p.size < 4294967281) (hat : from_ ≤ s.size) (hg : Gl w) :
    Calls Tryd.prog 75 #[.string s, .int .i64 from_, .string p] w fun e w' => e = .returned (.int .i64 (Sp.place from_ (Sp.upto (s.data.toList.drop from_) p.data.toList))) ∧ w = w' := by
  generalize hN : Sp.place from_ (Sp.upto (s.data.toList.drop from_) p.data.toList) = N
  unfold Sp.upto at hN
  have hlt := Lib.index_room (s.data.toList.drop from_) p.data.toList
  have hge := Lib.index_ge (s.data.toList.drop from_) p.data.toList
  have hlen : (s.data.toList.drop from_).length = s.size - from_ := by simp
  have hlen2 : p.data.toList.length = p.size := by simp
  rw [hlen, hlen2] at hlt
  rw [hlen2] at hN
  clear hlen hlen2
  rw [← ext_end] at hN hlt hge
  generalize hi : Lib.index (s.extract from_ s.size).data.toList p.data.toList = i at *
  have HI := Lib.hid hi; clear hi
  have HN := Lib.hid hN; clear hN
  go_enter Tryd.func75, Tryd.ntmps75
  go_wp2_with (go_at_call 54; refine (strings_Index_gl _ _ _ (by simp; omega) hg).mono ?_; rintro e w' ⟨rfl, rfl⟩; rw [HI.out])
  all_goals (go_ret; have hN := HN.out; clear HN HI)
  all_goals exact ⟨ret_int (by rw [← hN]; first | (rw [if_pos (by omega)]; simp [Sp.place]; omega) | (rw [if_neg (by omega)]; rfl)), rfl⟩

set_option maxHeartbeats 1600000 in
theorem body_pass (s : ByteArray) (at_ : Nat) (w : World) (hs : s.size < 4294967281) (hat : at_ < s.size) (hg : Gl w) :
    Calls Tryd.prog 46 #[.string s, .int .i64 at_] w fun e w' => e = .returned (.int .i64 (Sp.place at_ (Sp.passLen (s.data.toList.drop at_)))) ∧ ∃ n, w' = w.drewN n := by
  have hd := Lib.hid (drop_at s at_ hat)
  cases h34 : ((s[at_].toNat : Int) == 34) with
  | true =>
    go_enter Tryd.func46, Tryd.ntmps46
    go_wp2_with (go_at_call 74; refine (body_quoted s at_ _ hs hat).mono ?_; rintro e w' ⟨rfl, n, rfl⟩)
    go_ret
    exact ⟨ret_int (by rw [hd.out, Sp.passLen_cons, if_pos (.inl h34), Sp.place_map]), _, rfl⟩
  | false =>
  cases h39 : ((s[at_].toNat : Int) == 39) with
  | true =>
    go_enter Tryd.func46, Tryd.ntmps46
    go_wp2_with (go_at_call 74; refine (body_quoted s at_ _ hs hat).mono ?_; rintro e w' ⟨rfl, n, rfl⟩)
    go_ret
    exact ⟨ret_int (by rw [hd.out, Sp.passLen_cons, if_pos (.inr h39), Sp.place_map]), _, rfl⟩
  | false =>
  have hn := Lib.hid (show ¬ (((s[at_].toNat : Int) == 34) = true ∨ ((s[at_].toNat : Int) == 39) = true) by rw [h34, h39]; simp)
  cases h96 : ((s[at_].toNat : Int) == 96) with
  | true =>
    go_enter Tryd.func46, Tryd.ntmps46
    go_wp2_with (go_at_call 75; refine (body_upto s (at_ + 1) _ _ hs (by decide) (by omega) hg).mono ?_; rintro e w' ⟨rfl, rfl⟩)
    go_ret
    exact ⟨ret_int (by rw [hd.out, Sp.passLen_cons, if_neg hn.out, if_pos h96, Sp.place_map]), 0, rfl⟩
  | false =>
  have h96n := Lib.hid (show ¬ ((s[at_].toNat : Int) == 96) = true by simp [h96])
  cases hp2 : Lib.hasPrefix (s.data.toList.drop at_) [47, 42] with
  | true =>
    have hat2 : at_ + 1 < s.size := by
      rcases Nat.lt_or_ge (at_ + 1) s.size with h | h
      · exact h
      · rw [hd.out, drop_end s (at_ + 1) (by omega)] at hp2
        simp [Lib.hasPrefix] at hp2
    have HP := Lib.hid hp2
    go_enter Tryd.func46, Tryd.ntmps46
    go_wp2_with (first
      | (go_at_call 51; refine (strings_HasPrefix_gl _ _ _).mono ?_; rintro e w' ⟨rfl, rfl⟩; rw [ext_end])
      | (go_at_call 75; refine (body_upto s (at_ + 2) _ _ hs (by decide) (by omega) hg).mono ?_; rintro e w' ⟨rfl, rfl⟩))
    go_ret
    have hp := HP.out
    refine ⟨ret_int ?_, 0, rfl⟩
    rw [hd.out] at hp ⊢
    rw [Sp.passLen_cons, if_neg hn.out, if_neg h96n.out, if_pos hp, Sp.place_map, List.drop_drop]
  | false =>
  cases hp1 : Lib.hasPrefix (s.data.toList.drop at_) [47, 47] with
  | true =>
    have HP2 := Lib.hid hp2; have HP1 := Lib.hid hp1
    have hge := Lib.indexByte_ge (s.data.toList.drop at_) 10
    have hle := Sp.indexByte_le (s.data.toList.drop at_) 10
    have hlen : (s.data.toList.drop at_).length = s.size - at_ := by simp
    rw [hlen] at hle
    rw [← ext_end] at hle hge
    have HL := Lib.hid hlen; clear hlen
    generalize hi : Lib.indexByte (s.extract at_ s.size).data.toList 10 = i at *
    have HI := Lib.hid hi; clear hi
    go_enter Tryd.func46, Tryd.ntmps46
    go_wp2_with (first
      | (go_at_call 51; refine (strings_HasPrefix_gl _ _ _).mono ?_; rintro e w' ⟨rfl, rfl⟩; rw [ext_end])
      | (go_at_call 50; refine (strings_IndexByte_gl _ _ _).mono ?_; rintro e w' ⟨rfl, rfl⟩; rw [show ((10 : Int).toNat.toUInt8) = 10 from rfl, HI.out]))
    all_goals go_ret
    all_goals
      refine ⟨ret_int ?_, 0, rfl⟩
      have hp2 := HP2.out; have hp1 := HP1.out
      have hi := HI.out; have hl := HL.out; clear HI HL
      rw [ext_end] at hi
      rw [hd.out] at hp2 hp1 hi hl ⊢
      rw [Sp.passLen_cons, if_neg hn.out, if_neg h96n.out, if_neg (by simp [hp2]), if_pos hp1]
      simp only [Sp.place, Sp.line, hi, hl]
      first | (rw [if_pos (by omega)]; omega) | (rw [if_neg (by omega)]; omega)
  | false =>
    have HP2 := Lib.hid hp2; have HP1 := Lib.hid hp1
    go_enter Tryd.func46, Tryd.ntmps46
    go_wp2_with (go_at_call 51; refine (strings_HasPrefix_gl _ _ _).mono ?_; rintro e w' ⟨rfl, rfl⟩; rw [ext_end])
    go_ret
    have hp2 := HP2.out; have hp1 := HP1.out
    refine ⟨ret_int ?_, 0, rfl⟩
    rw [hd.out] at hp1 hp2 ⊢
    rw [Sp.passLen_cons, if_neg hn.out, if_neg h96n.out, if_neg (by simp [hp2]), if_neg (by simp [hp1])]; rfl
end Go.Proofs.YtphdfbmmjkccgaaDoor

namespace Go.Proofs.YtphdfbmmjkccgaaDoor
open Go.RowKit

theorem endGo_cons {f : Nat} {d : Int} {c : UInt8} {t : List UInt8} : Sp.endGo (f + 1) d (c :: t) =
    match Sp.passLen (c :: t) with
    | none => none
    | some (n + 1) => (Sp.endGo f d ((c :: t).drop (n + 1))).map (· + (n + 1))
    | some 0 =>
      if ((if ((c.toNat : Int) == 123) = true then d + 1 else if ((c.toNat : Int) == 125) = true then d - 1 else d) == 0) = true then some 1
      else (Sp.endGo f (if ((c.toNat : Int) == 123) = true then d + 1 else if ((c.toNat : Int) == 125) = true then d - 1 else d) t).map (· + 1) := rfl

set_option maxRecDepth 100000 in
set_option maxHeartbeats 1600000 in
theorem body_End_in (s : ByteArray) (at_ : Nat) (w : World) (hs : s.size < 4294967281) (hat : at_ < s.size) (hg : Gl w) :
    Calls Tryd.prog 44 #[.string s, .int .i64 at_] w fun e w' => e = .returned (.int .i64 (Sp.place at_ (Sp.endLen (s.data.toList.drop at_)))) ∧ ∃ n, w' = w.drewN n := by
  generalize hN : Sp.place at_ (Sp.endLen (s.data.toList.drop at_)) = N
  have hN' := hN
  rw [drop_at s at_ hat] at hN'
  unfold Sp.endLen at hN'
  simp only [List.length_cons] at hN'
  rw [← drop_at s at_ hat] at hN'
  cases hb : ((s[at_].toNat : Int) == 123) with
  | false =>
    rw [hb, if_neg (by simp)] at hN'
    have hbn : ((s[at_].toNat : Int) != 123) = true := by simp [bne, hb]
    have HN := Lib.hid hN'; clear hN' hN
    go_enter Tryd.func44, Tryd.ntmps44
    go_wp2
    go_ret
    exact ⟨ret_int HN.out, 0, rfl⟩
  | true =>
    rw [hb, if_pos rfl] at hN'
    have hbn : ((s[at_].toNat : Int) != 123) = false := by simp [bne, hb]
    have hl : (s.data.toList.drop (at_ + 1)).length = s.size - (at_ + 1) := by simp
    have HN := Lib.hid hN'; clear hN' hN
    have HB := Lib.hid hb; clear hb
    have HL := Lib.hid hl; clear hl
    go_enter Tryd.func44, Tryd.ntmps44
    go_wp2
    go_loopw [5, 6] (fun dv iv wr => ∃ (p f : Nat) (d : Int), at_ ≤ p ∧ p ≤ s.size ∧ iv = .int .i64 p ∧ dv = .int .i64 d ∧ -(p : Int) ≤ d ∧ d ≤ p ∧ s.size - p < f ∧ Sp.place p (Sp.endGo f d (s.data.toList.drop p)) = N ∧ ∃ n, wr = w.drewN n) (fun _ iv _ => s.size - (intOf iv).toNat)
    case atStart => exact ⟨at_, (s.data.toList.drop (at_ + 1)).length + 1 + 1, 0, by omega, by omega, rfl, rfl, by omega, by omega, by rw [HL.out]; omega, HN.out, 0, rfl⟩
    case round =>
      obtain ⟨p, f, d, hp0, hp, rfl, rfl, hd0, hd1, hf, hi, n, rfl⟩ := hrel
      clear HB HL hbn
      by_cases hlt : p < s.size
      · obtain ⟨f, rfl⟩ : ∃ g, f = g + 1 := ⟨f - 1, by omega⟩
        rw [drop_at s p hlt, endGo_cons, ← drop_at s p hlt] at hi
        have hpl := Sp.passLen_le (s.data.toList.drop p)
        have hlen : (s.data.toList.drop p).length = s.size - p := by simp
        rw [hlen] at hpl
        clear hlen
        cases hps : Sp.passLen (s.data.toList.drop p) with
        | none =>
          rw [hps] at hi
          have HI := Lib.hid hi; clear hi
          have HP := Lib.hid hps; clear hps hpl HN
          go_wp2_with (go_at_call 46; refine (body_pass s p _ hs hlt (hg.drewN n)).mono ?_; rintro e w' ⟨rfl, n2, rfl⟩; rw [HP.out]; simp only [Sp.place])
          go_ret
          exact ⟨ret_int (by have := HI.out; simpa [Sp.place] using this), _, rfl⟩
        | some m =>
          have hm := hpl m hps
          clear hpl
          cases m with
          | zero =>
            rw [hps] at hi
            simp only at hi
            have HI := Lib.hid hi; clear hi
            have HP := Lib.hid hps; clear hps HN
            go_wp2_with (go_at_call 46; refine (body_pass s p _ hs hlt (hg.drewN n)).mono ?_; rintro e w' ⟨rfl, n2, rfl⟩; rw [HP.out]; simp only [Sp.place, Nat.add_zero])
            all_goals (have hi := HI.out; clear HI)
            all_goals first
              | (go_round
                 case rel => go_light; exact ⟨p + 1, f, _, by omega, by omega, by go_num, rfl, by omega, by omega, by omega, by simp_all [Sp.place_map], _, rfl⟩
                 case measure => go_light; simp [intOf]; omega)
              | (go_ret; go_light; exact ⟨ret_int (by simp_all [Sp.place]), _, rfl⟩)
          | succ m =>
            rw [hps] at hi
            simp only [Sp.place_map, List.drop_drop] at hi
            have HI := Lib.hid hi; clear hi
            have HP := Lib.hid hps; clear hps HN
            go_wp2_with (go_at_call 46; refine (body_pass s p _ hs hlt (hg.drewN n)).mono ?_; rintro e w' ⟨rfl, n2, rfl⟩; rw [HP.out]; simp only [Sp.place])
            have hi := HI.out; clear HI
            go_round
            case rel => go_light; exact ⟨p + (m + 1), f, _, by omega, by omega, by go_num, rfl, by omega, by omega, by omega, hi, _, rfl⟩
            case measure => go_light; simp [intOf]; omega
      · have hi' : N = -1 := by
          rw [drop_end s p hlt] at hi
          cases f with
          | zero => omega
          | succ f => simpa [Sp.endGo, Sp.place] using hi.symm
        clear hi HN
        have HI := Lib.hid hi'; clear hi'
        go_wp2
        go_ret; go_light; exact ⟨ret_int HI.out.symm, _, rfl⟩
set_option maxRecDepth 100000 in
set_option maxHeartbeats 1600000 in
theorem ref_End_in (s : ByteArray) (at_ : Nat) (w : World) (hs : s.size < 4294967281) (hat : at_ < s.size) :
    Calls Tryd.prog 90 #[.string s, .int .i64 at_] w fun e w' => e = .returned (.int .i64 (Sp.place at_ (Sp.endLen (s.data.toList.drop at_)))) ∧ ∃ n, w' = w.drewN n := by
  generalize hN : Sp.place at_ (Sp.endLen (s.data.toList.drop at_)) = N
  have hN' := hN
  rw [drop_at s at_ hat] at hN'
  unfold Sp.endLen at hN'
  simp only [List.length_cons] at hN'
  rw [← drop_at s at_ hat] at hN'
  cases hb : ((s[at_].toNat : Int) == 123) with
  | false =>
    rw [hb, if_neg (by simp)] at hN'
    have hbn : ((s[at_].toNat : Int) != 123) = true := by simp [bne, hb]
    have HN := Lib.hid hN'; clear hN' hN
    go_enter Tryd.func90, Tryd.ntmps90
    go_wp2
    go_ret
    exact ⟨ret_int HN.out, 0, rfl⟩
  | true =>
    rw [hb, if_pos rfl] at hN'
    have hbn : ((s[at_].toNat : Int) != 123) = false := by simp [bne, hb]
    have hl : (s.data.toList.drop (at_ + 1)).length = s.size - (at_ + 1) := by simp
    have HN := Lib.hid hN'; clear hN' hN
    have HB := Lib.hid hb; clear hb
    have HL := Lib.hid hl; clear hl
    go_enter Tryd.func90, Tryd.ntmps90
    go_wp2
    go_loopw [5, 6] (fun dv iv wr => ∃ (p f : Nat) (d : Int), at_ ≤ p ∧ p ≤ s.size ∧ iv = .int .i64 p ∧ dv = .int .i64 d ∧ -(p : Int) ≤ d ∧ d ≤ p ∧ s.size - p < f ∧ Sp.place p (Sp.endGo f d (s.data.toList.drop p)) = N ∧ ∃ n, wr = w.drewN n) (fun _ iv _ => s.size - (intOf iv).toNat)
    case atStart => exact ⟨at_, (s.data.toList.drop (at_ + 1)).length + 1 + 1, 0, by omega, by omega, rfl, rfl, by omega, by omega, by rw [HL.out]; omega, HN.out, 0, rfl⟩
    case round =>
      obtain ⟨p, f, d, hp0, hp, rfl, rfl, hd0, hd1, hf, hi, n, rfl⟩ := hrel
      clear HB HL hbn
      by_cases hlt : p < s.size
      · obtain ⟨f, rfl⟩ : ∃ g, f = g + 1 := ⟨f - 1, by omega⟩
        rw [drop_at s p hlt, endGo_cons, ← drop_at s p hlt] at hi
        have hpl := Sp.passLen_le (s.data.toList.drop p)
        have hlen : (s.data.toList.drop p).length = s.size - p := by simp
        rw [hlen] at hpl
        clear hlen
        cases hps : Sp.passLen (s.data.toList.drop p) with
        | none =>
          rw [hps] at hi
          have HI := Lib.hid hi; clear hi
          have HP := Lib.hid hps; clear hps hpl HN
          go_wp2_with (go_at_call 108; refine (ref_Over s p _ hs hlt).mono ?_; rintro e w' ⟨rfl, n2, rfl⟩; rw [HP.out]; simp only [Sp.place])
          go_ret
          exact ⟨ret_int (by have := HI.out; simpa [Sp.place] using this), _, rfl⟩
        | some m =>
          have hm := hpl m hps
          clear hpl
          cases m with
          | zero =>
            rw [hps] at hi
            simp only at hi
            have HI := Lib.hid hi; clear hi
            have HP := Lib.hid hps; clear hps HN
            go_wp2_with (go_at_call 108; refine (ref_Over s p _ hs hlt).mono ?_; rintro e w' ⟨rfl, n2, rfl⟩; rw [HP.out]; simp only [Sp.place, Nat.add_zero])
            all_goals (have hi := HI.out; clear HI)
            all_goals first
              | (go_round
                 case rel => go_light; exact ⟨p + 1, f, _, by omega, by omega, by go_num, rfl, by omega, by omega, by omega, by simp_all [Sp.place_map], _, rfl⟩
                 case measure => go_light; simp [intOf]; omega)
              | (go_ret; go_light; exact ⟨ret_int (by simp_all [Sp.place]), _, rfl⟩)
          | succ m =>
            rw [hps] at hi
            simp only [Sp.place_map, List.drop_drop] at hi
            have HI := Lib.hid hi; clear hi
            have HP := Lib.hid hps; clear hps HN
            go_wp2_with (go_at_call 108; refine (ref_Over s p _ hs hlt).mono ?_; rintro e w' ⟨rfl, n2, rfl⟩; rw [HP.out]; simp only [Sp.place])
            have hi := HI.out; clear HI
            go_round
            case rel => go_light; exact ⟨p + (m + 1), f, _, by omega, by omega, by go_num, rfl, by omega, by omega, by omega, hi, _, rfl⟩
            case measure => go_light; simp [intOf]; omega
      · have hi' : N = -1 := by
          rw [drop_end s p hlt] at hi
          cases f with
          | zero => omega
          | succ f => simpa [Sp.endGo, Sp.place] using hi.symm
        clear hi HN
        have HI := Lib.hid hi'; clear hi'
        go_wp2
        go_ret; go_light; exact ⟨ret_int HI.out.symm, _, rfl⟩

set_option maxHeartbeats 800000 in
theorem body_End (s : ByteArray) (a : Int) (w : World) (hs : s.size < 4294967281) (hg : Gl w) :
    Calls Tryd.prog 44 #[.string s, .int .i64 a] w fun e w' => e = .returned (.int .i64 (Sp.endAt s.data.toList a)) ∧ ∃ n, w' = w.drewN n := by
  have hl : s.data.toList.length = s.size := by simp
  unfold Sp.endAt
  rw [hl]
  by_cases h0 : 0 ≤ a
  · by_cases h1 : a < s.size
    · obtain ⟨k, rfl⟩ := Int.eq_ofNat_of_zero_le h0
      rw [if_pos ⟨h0, h1⟩]
      exact body_End_in s k w hs (by omega) hg
    · rw [if_neg (by omega)]
      clear hl
      go_enter Tryd.func44, Tryd.ntmps44
      go_wp2
      go_ret
      exact ⟨rfl, 0, rfl⟩
  · rw [if_neg (by omega)]
    clear hl
    go_enter Tryd.func44, Tryd.ntmps44
    go_wp2
    go_ret
    exact ⟨rfl, 0, rfl⟩

set_option maxHeartbeats 800000 in
theorem ref_End (s : ByteArray) (a : Int) (w : World) (hs : s.size < 4294967281) :
    Calls Tryd.prog 90 #[.string s, .int .i64 a] w fun e w' => e = .returned (.int .i64 (Sp.endAt s.data.toList a)) ∧ ∃ n, w' = w.drewN n := by
  have hl : s.data.toList.length = s.size := by simp
  unfold Sp.endAt
  rw [hl]
  by_cases h0 : 0 ≤ a
  · by_cases h1 : a < s.size
    · obtain ⟨k, rfl⟩ := Int.eq_ofNat_of_zero_le h0
      rw [if_pos ⟨h0, h1⟩]
      exact ref_End_in s k w hs (by omega)
    · rw [if_neg (by omega)]
      clear hl
      go_enter Tryd.func90, Tryd.ntmps90
      go_wp2
      go_ret
      exact ⟨rfl, 0, rfl⟩
  · rw [if_neg (by omega)]
    clear hl
    go_enter Tryd.func90, Tryd.ntmps90
    go_wp2
    go_ret
    exact ⟨rfl, 0, rfl⟩
end Go.Proofs.YtphdfbmmjkccgaaDoor
