/- The walk of BodyParts. -/
import Derived.Test.YticdgfljaphhgaaDoorBp
import Derived.Test.YticdgfljaphhgaaDoorSpE
import Derived.Test.YticdgfljaphhgaaDoorFb
import Derived.Lib.ItoaLen
import Derived.Lib.ItoaMem
namespace Go.Proofs.YticdgfljaphhgaaDoor
open Go.RowKit

set_option maxHeartbeats 400000 in
theorem ref_Within (i : Int) (n : Nat) (w : World) (hn : 0 < n) (hb : n ≤ 60000) (hi : (Lit.int .i64 i).wf = true) :
    Calls Tryd.prog 24 #[.int .i64 i, .int .i64 n] w fun e w' => e = .returned (.int .i64 (i % (n : Int))) ∧ w = w' := by
  have h1 := Int.tmod_lt_of_pos i (b := (n : Int)) (by omega)
  have h2 : -(n : Int) < i.tmod n := by
    by_cases hi : 0 ≤ i
    · have := Int.tmod_nonneg (n : Int) hi; omega
    · have := Int.tmod_lt_of_pos (-i) (b := (n : Int)) (by omega)
      rw [Int.neg_tmod] at this; omega
  have h3 : i % (n : Int) = if i.tmod n < 0 then i.tmod n + n else i.tmod n := by
    have e1 := Int.mul_tdiv_add_tmod i n
    split
    · refine Int.emod_eq_of_lt (a := i.tmod n + n) (b := (n : Int)) (by omega) (by omega) ▸ ?_
      conv => lhs; rw [← e1]
      rw [Int.mul_add_emod_self_left, Int.add_emod_right]
    · refine Int.emod_eq_of_lt (a := i.tmod n) (b := (n : Int)) (by omega) (by omega) ▸ ?_
      conv => lhs; rw [← e1]
      rw [Int.mul_add_emod_self_left]
  generalize i % (n : Int) = N at *
  have HN := Lib.hid h3
  clear h3
  go_enter Tryd.func24, Tryd.ntmps24
  go_wp2
  all_goals (go_ret; have h3 := HN.out; refine ⟨ret_int ?_, rfl⟩)
  · rw [if_pos (by omega)] at h3
    rw [h3]
  · rw [if_neg (by omega)] at h3
    rw [h3]

theorem str_parts (D : ByteArray) (d : List UInt8) (h : D.data.toList = d) : (⟨#[123, 36]⟩ ++ ⟨#[]⟩ ++ D ++ ⟨#[32, 125]⟩ : ByteArray).data.toList = Sp.parts false d ∧ (⟨#[123, 36]⟩ ++ ⟨#[60, 118, 62]⟩ ++ D ++ ⟨#[32, 125]⟩ : ByteArray).data.toList = Sp.parts true d := by
  subst h
  constructor <;> simp [Sp.parts, Sp.nm]

theorem nought_list {D : ByteArray} {k m : Nat} (h : D.data.toList = List.replicate k 48 ++ Lib.decDigits m) : (⟨#[48]⟩ ++ D : ByteArray).data.toList = List.replicate (k + 1) 48 ++ Lib.decDigits m := by
  rw [List.replicate_succ, List.cons_append, ← h]; simp
theorem dec_size (m : Nat) (h : m < 20000) : (Lib.decDigits m).length ≤ 21 := by
  have := Lib.itoa_length_le (m : Int) (by omega) (by omega)
  rwa [Lib.itoa_nonneg] at this

set_option maxRecDepth 100000 in
set_option maxHeartbeats 3200000 in
theorem law_BodyParts (n : Int) (tag : Bool) (z : Int) (w : World) (h1 : (Lit.int .i64 n).wf = true) (h2 : (Lit.int .i64 z).wf = true) (hg : Gl w) :
    Calls Tryd.prog 7 #[.int .i64 n, .bool tag, .int .i64 z] w fun e w' => e = .returned (.bool true) ∧ Below w.heap.size w w' := by
  have HW := Lib.hid (fun W => ref_Within n 20000 W (by decide) (by decide) h1)
  have HZ := Lib.hid (fun W => ref_Within z 3 W (by decide) (by decide) h2)
  obtain ⟨m, hm, hm2⟩ : ∃ m : Nat, n % ((20000 : Nat) : Int) = (m : Int) ∧ m < 20000 := ⟨(n % ((20000 : Nat) : Int)).toNat, by omega, by omega⟩
  obtain ⟨K, hK, hK2⟩ : ∃ K : Nat, z % ((3 : Nat) : Int) = (K : Int) ∧ K ≤ 2 := ⟨(z % ((3 : Nat) : Int)).toNat, by omega, by omega⟩
  rw [hm] at HW
  rw [hK] at HZ
  clear hm hK
  have HD := Lib.hid (fun W => ref_Digits (m : Int) W (by omega) (by omega))
  rw [Lib.itoa_nonneg] at HD
  have hds := dec_size m hm2
  obtain ⟨D0, hD0, hD0'⟩ : ∃ D0 : ByteArray, D0 = ⟨(Lib.decDigits m).toArray⟩ ∧ D0.data.toList = Lib.decDigits m := ⟨_, rfl, by simp⟩
  rw [← hD0] at HD
  clear hD0
  have hs0 := size_list hD0'
  have HM := Lib.hid hm2
  have HD0 := Lib.hid hD0'
  clear hm2 hD0' h1 h2
  have hs0' : D0.size ≤ 21 := by omega
  clear hs0 hds
  go_enter Tryd.func7, Tryd.ntmps7
  go_wp2_with fail
  refine (wakes5 w hg).mono ?_
  rintro e w1 ⟨rfl, hb1⟩
  have hg1 := hg.below hb1
  go_wp2_with fail
  refine (HW.out _).mono ?_
  rintro e w' ⟨rfl, rfl⟩
  go_wp2_with fail
  refine (HD.out _).mono ?_
  rintro e w2 ⟨rfl, hb2⟩
  have hg2 := hg1.below hb2
  have hb12 := hb1.trans (hb2.mono hb1.size)
  clear hb1 hb2 hg1
  go_wp2_with fail
  go_loopw [7, 8] (fun dv iv wr => ∃ (k : Nat) (D : ByteArray), k ≤ K ∧ iv = .int .i64 k ∧ dv = .string D ∧ D.size ≤ 21 + k ∧ Hid (D.data.toList = List.replicate k 48 ++ Lib.decDigits m) ∧ ∃ j, wr = w2.drewN j) (fun _ iv _ => 3 - (intOf iv).toNat)
  case atStart => exact ⟨0, D0, Nat.zero_le _, rfl, rfl, by omega, Lib.hid HD0.out, 0, rfl⟩
  case round =>
    obtain ⟨k, D, hk, rfl, rfl, hD, HL, j, rfl⟩ := hrel
    by_cases hlt : k < K
    · go_wp2_with (go_at_call 24; refine (HZ.out _).mono ?_; rintro e w' ⟨rfl, rfl⟩)
      refine ⟨⟨k + 1, ⟨#[48]⟩ ++ D, by omega, by go_num, rfl, ?_, Lib.hid (nought_list HL.out), _, rfl⟩, by simp only [intOf]; omega⟩
      rw [ByteArray.size_append]
      show 1 + D.size ≤ _
      omega
    · obtain rfl : k = K := by omega
      obtain ⟨d, hd⟩ : ∃ d, D.data.toList = d := ⟨_, rfl⟩
      have hdl := size_list hd
      have hdd : ∀ c ∈ d, Sp.digit c = true := by
        intro c hc
        rw [← hd, HL.out, List.mem_append, List.mem_replicate] at hc
        rcases hc with ⟨_, rfl⟩ | hc
        · decide
        · exact Sp.decDigits_digit m c hc
      have hdn : d ≠ [] := by rw [← hd, HL.out]; simp [Sp.decDigits_ne]
      have hnum : Sp.num d = m := by rw [← hd, HL.out]; exact Sp.num_noughts _ m
      have hcut := Sp.cut_parts tag d hdd hdn
      rw [hnum] at hcut
      have hcd : Hid (∀ W, Gl W → Calls Tryd.prog 22 #[.string (⟨#[123, 36]⟩ ++ (if tag = true then ⟨#[60, 118, 62]⟩ else ⟨#[]⟩) ++ D ++ ⟨#[32, 125]⟩)] W (CutPost (if 3 < D.size then ([], 6) else ([⟨1, [123], 0, []⟩, ⟨3, [], m, Sp.tg tag⟩, ⟨1, [32, 125], 0, []⟩], 0)) W)) := by
        show ∀ W, _ → _
        intro W hW
        rw [hdl, ← hcut]
        cases tag
        · have h := body_Cut (⟨#[123, 36]⟩ ++ ⟨#[]⟩ ++ D ++ ⟨#[32, 125]⟩) W (by simp only [ByteArray.size_append]; show 2 + 0 + D.size + 2 < _; omega) hW
          rw [(str_parts D d hd).1] at h
          exact h
        · have h := body_Cut (⟨#[123, 36]⟩ ++ ⟨#[60, 118, 62]⟩ ++ D ++ ⟨#[32, 125]⟩) W (by simp only [ByteArray.size_append]; show 2 + 3 + D.size + 2 < _; omega) hW
          rw [(str_parts D d hd).2] at h
          exact h
      clear hcut hnum hdn hdd hdl hd HL
      by_cases h3 : 3 < D.size
      · rw [if_pos h3] at hcd
        cases tag
        all_goals
          simp only [if_true, Bool.false_eq_true, if_false] at hcd
          go_wp2_with (first
            | (go_at_call 24; refine (HZ.out _).mono ?_; rintro e w' ⟨rfl, rfl⟩)
            | (go_at_call 22; refine (hcd.out _ (hg2.drewN _)).mono ?_; rintro e w3 ⟨v3, rfl, ho3, hb3⟩; obtain ⟨a3, cap3, rfl⟩ := ownsRow_some (n := 0) ho3; clear ho3))
          go_ret
          exact ⟨rfl, (below_drewN hb12 j).trans (hb3.mono (by simpa using hb12.size))⟩
      · rw [if_neg h3] at hcd
        cases tag
        · simp only [if_true, Bool.false_eq_true, if_false] at hcd
          go_wp2_with (first
            | (go_at_call 24; refine (HZ.out _).mono ?_; rintro e w' ⟨rfl, rfl⟩)
            | (go_at_call 22; refine (hcd.out _ (hg2.drewN _)).mono ?_; rintro e w3 ⟨v3, rfl, ho3, hb3⟩; obtain ⟨g, cp, rfl⟩ := own_form (n := 3) ho3 (by decide)
               have c4 : w3.cell? ⟨g, 4, none⟩ = some (.int .i64 3) := by simpa [Addr.add] using ho3.cells (g := g) rfl 4 (.int .i64 3) rfl
               have c6 : w3.cell? ⟨g, 6, none⟩ = some (.int .i64 m) := by simpa [Addr.add] using ho3.cells (g := g) rfl 6 (.int .i64 m) rfl
               have c7 : w3.cell? ⟨g, 7, none⟩ = some (.string ⟨#[]⟩) := by simpa [Addr.add] using ho3.cells (g := g) rfl 7 (.string ⟨#[]⟩) rfl
               clear ho3))
          go_ret
          exact ⟨rfl, (below_drewN hb12 j).trans (hb3.mono (by simpa using hb12.size))⟩
        · simp only [if_true, Bool.false_eq_true, if_false] at hcd
          go_wp2_with (first
            | (go_at_call 24; refine (HZ.out _).mono ?_; rintro e w' ⟨rfl, rfl⟩)
            | (go_at_call 22; refine (hcd.out _ (hg2.drewN _)).mono ?_; rintro e w3 ⟨v3, rfl, ho3, hb3⟩; obtain ⟨g, cp, rfl⟩ := own_form (n := 3) ho3 (by decide)
               have c4 : w3.cell? ⟨g, 4, none⟩ = some (.int .i64 3) := by simpa [Addr.add] using ho3.cells (g := g) rfl 4 (.int .i64 3) rfl
               have c6 : w3.cell? ⟨g, 6, none⟩ = some (.int .i64 m) := by simpa [Addr.add] using ho3.cells (g := g) rfl 6 (.int .i64 m) rfl
               have c7 : w3.cell? ⟨g, 7, none⟩ = some (.string ⟨#[118]⟩) := by simpa [Addr.add] using ho3.cells (g := g) rfl 7 (.string ⟨#[118]⟩) rfl
               clear ho3))
          go_ret
          exact ⟨rfl, (below_drewN hb12 j).trans (hb3.mono (by simpa using hb12.size))⟩
end Go.Proofs.YticdgfljaphhgaaDoor
