/- The walk of the reference's Digits and Join. -/
import Derived.Test.YticdgfljaphhgaaDoorW1
import Derived.Test.YticdgfljaphhgaaDoorSpD
import Derived.Test.YticdgfljaphhgaaDoorBi
import Derived.Test.YticdgfljaphhgaaDoorBc
namespace Go.Proofs.YticdgfljaphhgaaDoor
open Go.RowKit

def emptyN : Value → Nat | .string s => if s.size = 0 then 1 else 0 | _ => 0
/-- What a round of Digits finds: the digits of u ahead of those that stand there are those of n. -/
def DigI (n u : Nat) (S : List UInt8) : Prop := ((0 < u ∨ S = []) ∧ Lib.decDigits u ++ S = Lib.decDigits n) ∨ (u = 0 ∧ S ≠ [] ∧ S = Lib.decDigits n)
theorem DigI.step {n u : Nat} {S : List UInt8} (h : DigI n u S) (hc : 0 < u ∨ S = []) : DigI n (u / 10) (UInt8.ofNat (48 + u % 10) :: S) := by
  rcases h with ⟨_, h⟩ | ⟨h0, hS, _⟩
  · by_cases hu : u < 10
    · right
      refine ⟨by omega, by simp, ?_⟩
      rw [← h, Lib.decDigits, dif_pos hu, Nat.mod_eq_of_lt hu]; rfl
    · left
      refine ⟨.inl (by omega), ?_⟩
      rw [← h]
      conv => rhs; rw [Lib.decDigits, dif_neg hu]
      simp
  · rcases hc with h | h
    · omega
    · exact absurd h hS
theorem DigI.out {n u : Nat} {S : List UInt8} (h : DigI n u S) (hc : ¬ (0 < u ∨ S = [])) : S = Lib.decDigits n := by
  rcases h with ⟨h, _⟩ | ⟨_, _, h⟩
  · exact absurd h hc
  · exact h

theorem mk_append (a b : List UInt8) : ((⟨a.toArray⟩ : ByteArray) ++ (⟨b.toArray⟩ : ByteArray)) = ⟨(a ++ b).toArray⟩ := by
  apply ByteArray.ext
  simp
theorem ret_str {a b : List UInt8} (h : a = b) : Ending.returned (.string ⟨a.toArray⟩) = .returned (.string ⟨b.toArray⟩) := by rw [h]
theorem emptyN_cons (c : UInt8) (S : List UInt8) : emptyN (.string ⟨(c :: S).toArray⟩) = 0 := by
  show (if (⟨(c :: S).toArray⟩ : ByteArray).size = 0 then 1 else 0) = 0
  rw [if_neg]
  rw [Lib.size_eq]; simp
theorem emptyN_nil : emptyN (.string ⟨([] : List UInt8).toArray⟩) = 1 := rfl
theorem convert_one (W : World) (c : UInt8) : (convert 45 9 (.slice (some ⟨W.heap.size, 0, none⟩) 1 1)).run Tryd.prog (W.alloc (.cells #[.int .u8 (c.toNat : Int)] 5)) = .ok (.string ⟨#[c]⟩) (W.alloc (.cells #[.int .u8 (c.toNat : Int)] 5)) := by
  refine run_convert_bytes_back (P := Tryd.prog) _ 45 9 5 ⟨W.heap.size, 0, none⟩ 1 [c] Tryd.underlying45 Tryd.underlying5 Tryd.underlying9 ?_
  intro j hj
  obtain rfl : j = 0 := by simpa using hj
  exact new_cells W [.int .u8 (c.toNat : Int)] _ 0 _ rfl

set_option maxRecDepth 100000 in
set_option maxHeartbeats 1600000 in
theorem ref_Digits (n : Int) (w : World) (h0 : 0 ≤ n) (h1 : n < 60001) :
    Calls Tryd.prog 25 #[.int .i64 n] w fun e w' => e = .returned (.string ⟨(Lib.itoa n).toArray⟩) ∧ Below w.heap.size w w' := by
  obtain ⟨m, rfl⟩ := Int.eq_ofNat_of_zero_le h0
  have hit : Lib.itoa (m : Int) = Lib.decDigits m := by unfold Lib.itoa; rw [if_neg (by omega)]; rfl
  rw [hit]
  clear hit
  generalize hD : Lib.decDigits m = D
  have HD := Lib.hid hD
  have hwr : IntKind.u64.wrap (m : Int) = m := IntWalk.u64_in _ ⟨by omega, by omega⟩
  have H1 := Lib.hid (show m < 60001 by omega)
  clear hD h1
  go_enter Tryd.func25, Tryd.ntmps25
  go_wp2
  go_loopw [4, 3] (fun sv uv wr => ∃ (u : Nat) (S : List UInt8), u < 60001 ∧ S.length + u ≤ m + 10 ∧ uv = .int .u64 u ∧ sv = .string ⟨S.toArray⟩ ∧ DigI m u S ∧ Below w.heap.size w wr) (fun sv uv _ => 2 * (intOf uv).toNat + emptyN sv)
  case atStart => exact ⟨m, [], by have := H1.out; omega, by simp, rfl, rfl, .inl ⟨.inr rfl, by simp⟩, Below.refl _ _⟩
  case round =>
    obtain ⟨u, S, hu, hSl, rfl, rfl, hi, hb⟩ := hrel
    have HI := Lib.hid hi; have HB := Lib.hid hb
    have HU := Lib.hid hu
    clear hi hb hu hwr
    have hc8 : ((UInt8.ofNat (48 + u % 10)).toNat : Int) = 48 + (u : Int) % 10 := by
      rw [UInt8.toNat_ofNat_of_lt' (by have : UInt8.size = 256 := rfl; omega)]; omega
    have hcv := convert_one wr (UInt8.ofNat (48 + u % 10))
    rw [hc8] at hcv
    clear hc8
    have hS2 : 1 + S.length ≤ 9223372036854775807 := by have := HU.out; have := H1.out; omega
    have hof : (48 + UInt8.ofNat (u % 10) : UInt8) = UInt8.ofNat (48 + u % 10) := by simp
    have HOF := Lib.hid hof
    clear hof
    by_cases hu0 : 0 < u
    · go_wp2
      go_roundw
      case rel =>
        go_light
        exact ⟨u / 10, UInt8.ofNat (48 + u % 10) :: S, by have := HU.out; omega, by simp; omega, by rw [IntWalk.u64_in _ (by have := HU.out; omega)]; simp, by rw [HOF.out, mk_append [UInt8.ofNat (48 + u % 10)] S]; rfl, HI.out.step (.inl hu0), HB.out.alloc HB.out.size _⟩
      case measure =>
        go_light
        rw [IntWalk.u64_in _ (by have := HU.out; omega), HOF.out, mk_append [UInt8.ofNat (48 + u % 10)] S, List.singleton_append, emptyN_cons]
        simp only [intOf]
        omega
    · obtain rfl : u = 0 := by omega
      by_cases hS : S = []
      · subst hS
        clear hcv HOF
        have hcv := convert_one wr 48
        simp only [show ((48 : UInt8).toNat : Int) = 48 from rfl] at hcv
        go_wp2
        go_roundw
        case rel =>
          go_light
          exact ⟨0, [UInt8.ofNat 48], by omega, by simp, by first | rfl | simp, by first | rfl | simp, HI.out.step (.inr rfl), HB.out.alloc HB.out.size _⟩
        case measure =>
          go_light
          show _ + emptyN (.string ⟨[48].toArray⟩) < _ + 1
          rw [emptyN_cons]
          simp only [intOf]
          omega
      · have hS1 : S.isEmpty = false := by simpa using hS
        clear hcv
        go_wp2
        go_ret
        have hd := HI.out.out (by simp [hS])
        subst hd
        exact ⟨ret_str HD.out, HB.out⟩
end Go.Proofs.YticdgfljaphhgaaDoor
