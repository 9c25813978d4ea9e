/- The walks of the reference's between, Quoted, Quote, Take. -/
import Derived.Test.YthmimcegiihcnaaGreatDoorCf
import Derived.Test.YthmimcegiihcnaaGreatDoorBZ
namespace Go.Proofs.YthmimcegiihcnaaGreatDoor
open Go.RowKit

/-- May a byte stand in quotes; its sign behind a backslash. -/
def quotedR (c : UInt8) : UInt8 × Bool := if c = 10 then (110, true) else if c = 9 then (116, true) else if c = 13 then (114, true) else if c = 92 then (92, true) else if c = 39 then (39, true) else (0, decide (32 ≤ c.toNat) && decide (c.toNat ≤ 126))
theorem byte_ne {c x : UInt8} (h : ¬ c = x) : ((c.toNat : Int) == (x.toNat : Int)) = false := by
  rw [← Bool.not_eq_true]; exact fun e => h ((Sp.byte_eq c x).2 e)
theorem ret_ub {a a' : Int} {x x' : Bool} (h1 : a = a') (h2 : x = x') : Ending.returned (.tuple #[.int .u8 a, .bool x]) = .returned (.tuple #[.int .u8 a', .bool x']) := by rw [h1, h2]
set_option maxHeartbeats 800000 in
theorem ref_Quoted (c : UInt8) (w : World) :
    Calls Tryz.prog 107 #[.int .u8 (c.toNat : Int)] w fun e w' => e = .returned (.tuple #[.int .u8 ((quotedR c).1.toNat : Int), .bool (quotedR c).2]) ∧ w = w' := by
  by_cases h1 : c = 10
  · subst h1
    go_enter Tryz.func107, Tryz.ntmps107
    go_wp2
    go_ret2
    exact ⟨rfl, rfl⟩
  by_cases h2 : c = 9
  · subst h2
    go_enter Tryz.func107, Tryz.ntmps107
    go_wp2
    go_ret2
    exact ⟨rfl, rfl⟩
  by_cases h3 : c = 13
  · subst h3
    go_enter Tryz.func107, Tryz.ntmps107
    go_wp2
    go_ret2
    exact ⟨rfl, rfl⟩
  by_cases h4 : c = 92
  · subst h4
    go_enter Tryz.func107, Tryz.ntmps107
    go_wp2
    go_ret2
    exact ⟨rfl, rfl⟩
  by_cases h5 : c = 39
  · subst h5
    go_enter Tryz.func107, Tryz.ntmps107
    go_wp2
    go_ret2
    exact ⟨rfl, rfl⟩
  have hq : quotedR c = (0, decide (32 ≤ c.toNat) && decide (c.toNat ≤ 126)) := by
    unfold quotedR
    rw [if_neg h1, if_neg h2, if_neg h3, if_neg h4, if_neg h5]
  rw [hq]
  have e1 : ((c.toNat : Int) == 10) = false := byte_ne (x := 10) h1
  have e2 : ((c.toNat : Int) == 9) = false := byte_ne (x := 9) h2
  have e3 : ((c.toNat : Int) == 13) = false := byte_ne (x := 13) h3
  have e4 : ((c.toNat : Int) == 92) = false := byte_ne (x := 92) h4
  have e5 : ((c.toNat : Int) == 39) = false := byte_ne (x := 39) h5
  clear hq h1 h2 h3 h4 h5
  go_enter Tryz.func107, Tryz.ntmps107
  go_wp2
  all_goals
    go_ret2
    exact ⟨ret_ub rfl (Bool.eq_iff_iff.2 (by simp; omega)), rfl⟩

theorem quoteText_quoted (c : UInt8) : Sp.quoteText c = if (quotedR c).2 = false then [] else if ((quotedR c).1.toNat : Int) != 0 then [39, 92, (quotedR c).1, 39] else [39, c, 39] := by
  by_cases h1 : c = 10
  · subst h1; rfl
  by_cases h2 : c = 9
  · subst h2; rfl
  by_cases h3 : c = 13
  · subst h3; rfl
  by_cases h4 : c = 92
  · subst h4; rfl
  by_cases h5 : c = 39
  · subst h5; rfl
  have hq : quotedR c = (0, decide (32 ≤ c.toNat) && decide (c.toNat ≤ 126)) := by
    unfold quotedR
    rw [if_neg h1, if_neg h2, if_neg h3, if_neg h4, if_neg h5]
  have e4 : ((c.toNat : Int) == 92) = false := byte_ne (x := 92) h4
  have e5 : ((c.toNat : Int) == 39) = false := byte_ne (x := 39) h5
  have hp : Sp.plainq c = (decide (32 ≤ c.toNat) && decide (c.toNat ≤ 126)) := by
    unfold Sp.plainq
    rw [e4, e5]; simp
  unfold Sp.quoteText
  rw [if_neg h1, if_neg h2, if_neg h3, if_neg h4, if_neg h5, hq, hp]
  cases decide (32 ≤ c.toNat) && decide (c.toNat ≤ 126) <;> rfl

set_option maxHeartbeats 800000 in
theorem ref_Quote (c : UInt8) (w : World) :
    Calls Tryz.prog 73 #[.int .u8 (c.toNat : Int)] w fun e w' => e = .returned (.string ⟨(Sp.quoteText c).toArray⟩) ∧ Below w.heap.size w w' := by
  have hN := quoteText_quoted c
  have HQ := Lib.hid (fun W => ref_Quoted c W)
  generalize Sp.quoteText c = N at hN
  generalize quotedR c = q at hN HQ
  obtain ⟨d, b⟩ := q
  simp only at hN HQ
  cases b with
  | false =>
    rw [if_pos rfl] at hN
    subst hN
    go_enter Tryz.func73, Tryz.ntmps73
    go_wp2_with (go_at_call 107; refine (HQ.out _).mono ?_; rintro e w' ⟨rfl, rfl⟩)
    go_ret
    exact ⟨rfl, Below.refl _ _⟩
  | true =>
    rw [if_neg (by decide)] at hN
    cases hd : ((d.toNat : Int) != 0) with
    | true =>
      rw [hd, if_pos rfl] at hN
      have HN := Lib.hid hN
      have hcv := convert_one w d
      clear hN
      go_enter Tryz.func73, Tryz.ntmps73
      go_wp2_with (go_at_call 107; refine (HQ.out _).mono ?_; rintro e w' ⟨rfl, rfl⟩)
      go_ret
      exact ⟨by rw [HN.out]; rfl, (Below.refl _ _).alloc (Nat.le_refl _) _⟩
    | false =>
      rw [hd, if_neg (by decide)] at hN
      have HN := Lib.hid hN
      have hcv := convert_one w c
      clear hN
      go_enter Tryz.func73, Tryz.ntmps73
      go_wp2_with (go_at_call 107; refine (HQ.out _).mono ?_; rintro e w' ⟨rfl, rfl⟩)
      go_ret
      exact ⟨by rw [HN.out]; rfl, (Below.refl _ _).alloc (Nat.le_refl _) _⟩
theorem ref_Quote_nat (k : Nat) (hk : k < 256) (w : World) :
    Calls Tryz.prog 73 #[.int .u8 (k : Int)] w fun e w' => e = .returned (.string ⟨(Sp.quoteText (UInt8.ofNat k)).toArray⟩) ∧ Below w.heap.size w w' := by
  have h := ref_Quote (UInt8.ofNat k) w
  rw [UInt8.toNat_ofNat_of_lt' (by have : UInt8.size = 256 := rfl; omega)] at h
  exact h

/-- No byte in quotes below a number stands there. -/
def noneBelow (r : List UInt8) (k : Nat) : Prop := ∀ c : UInt8, c.toNat < k → ¬ (Sp.quoteText c ≠ [] ∧ Lib.hasPrefix r (Sp.quoteText c) = true)
theorem noneBelow.start (r : List UInt8) : noneBelow r 9 := by
  intro c hc h
  have := Sp.quoteText_range c h.1
  omega
theorem noneBelow.step {r : List UInt8} {k : Nat} (h : noneBelow r k) (hk : k < 256) (h' : ¬ (Sp.quoteText (UInt8.ofNat k) ≠ [] ∧ Lib.hasPrefix r (Sp.quoteText (UInt8.ofNat k)) = true)) : noneBelow r (k + 1) := by
  intro c hc
  rcases Nat.lt_or_ge c.toNat k with h1 | h1
  · exact h c h1
  · have : c = UInt8.ofNat k := by
      apply UInt8.toNat_inj.1
      rw [UInt8.toNat_ofNat_of_lt' (by have : UInt8.size = 256 := rfl; omega)]
      omega
    rw [this]; exact h'
theorem noneBelow.out {r : List UInt8} {k : Nat} (h : noneBelow r k) (hk : 127 ≤ k) : Sp.charTake r = none := by
  cases hc : Sp.charTake r with
  | none => rfl
  | some p =>
    obtain ⟨c, n⟩ := p
    obtain ⟨h1, h2, _⟩ := Sp.charTake_some r c n hc
    have := Sp.quoteText_range c h1
    exact absurd ⟨h1, h2⟩ (h c (by omega))
end Go.Proofs.YthmimcegiihcnaaGreatDoor
