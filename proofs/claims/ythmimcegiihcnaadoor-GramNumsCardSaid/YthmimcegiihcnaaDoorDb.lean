/- Layer 8: slices.IndexFunc, slices.ContainsFunc at a declaration's, a rule's, an alternative's, a part's type. -/
import Derived.Test.YthmimcegiihcnaaDoorDa
import Derived.Test.YthmimcegiihcnaaDoorBY
namespace Go.Proofs.YthmimcegiihcnaaDoor
open Go.RowKit

set_option maxRecDepth 100000 in
set_option maxHeartbeats 1600000 in
theorem index_Decl (v : Value) (rows : List (List Value)) (g : Nat → Bool) (w : World) (hsl : SlAt w v 4 rows) (hlen : ∀ row ∈ rows, row.length = 4) (hn : rows.length < 4294967281)
    (hf : ∀ i row, rows[i]? = some row → ∀ W, Below w.heap.size w W → Calls Tryd.prog 42 #[.agg row.toArray] W fun e w' => e = .returned (.bool (g i)) ∧ Below W.heap.size W w') :
    Calls Tryd.prog 73 #[v, .func (.func 42) #[] #[]] w fun e w' => (∃ r : Int, e = .returned (.int .i64 r) ∧ decide (0 ≤ r) = (List.range rows.length).any g) ∧ Below w.heap.size w w' := by
  have HS := Lib.hid hsl
  have HL := Lib.hid hlen
  have HF := Lib.hid hf
  obtain ⟨a, cap, rfl⟩ := hsl.form
  generalize hnn : rows.length = n at *
  have HNN := Lib.hid hnn
  clear hsl hlen hf hnn
  go_enter Tryd.func73, Tryd.ntmps73
  go_wp2_with fail
  go_loopw [8] (fun iv wr => ∃ k : Nat, k ≤ n ∧ iv = .int .i64 k ∧ Hid (∀ j, j < k → g j = false) ∧ Hid (Below w.heap.size w wr)) (fun iv _ => n - (intOf iv).toNat)
  case atStart => exact ⟨0, Nat.zero_le _, rfl, Lib.hid (fun j hj => absurd hj (Nat.not_lt_zero _)), Lib.hid (Below.refl _ _)⟩
  case round =>
    obtain ⟨k, hk, rfl, HG, HB⟩ := hrel
    have hk0 : (0 : Int) ≤ (k : Int) := Int.natCast_nonneg _
    by_cases hkn : k < n
    · have hkl : k < rows.length := by have := HNN.out; omega
      have hrow : rows[k]? = some rows[k] := List.getElem?_eq_getElem hkl
      have hrl := HL.out _ (List.mem_of_getElem? hrow)
      generalize rows[k] = row at hrow hrl
      obtain ⟨b, off, cap', hv, hb, hc⟩ := HS.out.some (by intro h; rw [h] at hkl; simp at hkl)
      obtain ⟨rfl, hcap⟩ : a = some ⟨b, off, none⟩ ∧ cap = cap' := by have := HNN.out; simpa [this] using hv
      have hcc := fun j u (h : row[j]? = some u) => (HB.out.cell (p := ⟨b, _, none⟩) hb).trans (hc k row hrow j u h)
      have HC := HF.out k row hrow _ HB.out
      rcases row with _ | ⟨r0, _ | ⟨r1, _ | ⟨r2, _ | ⟨r3, _ | ⟨x, u⟩⟩⟩⟩⟩
      · simp at hrl
      · simp at hrl
      · simp at hrl
      · simp at hrl
      rotate_left
      · simp at hrl
      have a0 := hcc 0 _ rfl
      have a1 := hcc 1 _ rfl
      have a2 := hcc 2 _ rfl
      have a3 := hcc 3 _ rfl
      simp only [Nat.add_zero] at a0
      have HC' := Lib.hid HC
      generalize hgk : g k = q at HC'
      have HGK := Lib.hid hgk
      have hsz := HB.out.size
      have hk1 : (k : Int) < (n : Int) := by omega
      clear hv hcap hcc hc hrow hrl HC hgk
      go_wp2_with fail
      refine HC'.out.mono ?_
      rintro e w' ⟨rfl, hb'⟩
      have HB' := Lib.hid (HB.out.trans (hb'.mono hsz))
      clear hb'
      cases q with
      | true =>
        go_wp2_with fail
        go_ret
        refine ⟨⟨_, rfl, ?_⟩, HB'.out⟩
        have h1 : (List.range n).any g = true := List.any_eq_true.2 ⟨k, List.mem_range.2 hkn, HGK.out⟩
        rw [h1]
        simp
      | false =>
        go_wp2_with fail
        first
          | (go_roundw
             case rel =>
               go_light
               refine ⟨k + 1, by omega, by go_num, Lib.hid (fun j hj => ?_), HB'⟩
               rcases Nat.lt_succ_iff_lt_or_eq.1 hj with h | rfl
               · exact HG.out j h
               · exact HGK.out
             case measure => go_light; simp [intOf]; omega)
          | (refine ⟨⟨k + 1, by omega, by go_num, Lib.hid (fun j hj => ?_), HB'⟩, by simp [intOf]; omega⟩
             rcases Nat.lt_succ_iff_lt_or_eq.1 hj with h | rfl
             · exact HG.out j h
             · exact HGK.out)
    · obtain rfl : k = n := by omega
      go_wp2_with fail
      go_ret
      refine ⟨⟨_, rfl, ?_⟩, HB.out⟩
      have h1 : (List.range k).any g = false := by
        rw [List.any_eq_false]
        intro j hj
        rw [HG.out j (List.mem_range.1 hj)]
        simp
      rw [h1]
      simp

set_option maxHeartbeats 400000 in
theorem contains_Decl (v : Value) (rows : List (List Value)) (g : Nat → Bool) (w : World) (hsl : SlAt w v 4 rows) (hlen : ∀ row ∈ rows, row.length = 4) (hn : rows.length < 4294967281)
    (hf : ∀ i row, rows[i]? = some row → ∀ W, Below w.heap.size w W → Calls Tryd.prog 42 #[.agg row.toArray] W fun e w' => e = .returned (.bool (g i)) ∧ Below W.heap.size W w') :
    Calls Tryd.prog 41 #[v, .func (.func 42) #[] #[]] w fun e w' => e = .returned (.bool ((List.range rows.length).any g)) ∧ Below w.heap.size w w' := by
  have HI := Lib.hid (index_Decl v rows g w hsl hlen hn hf)
  generalize (List.range rows.length).any g = B at HI
  clear hsl hlen hn hf
  go_enter Tryd.func41, Tryd.ntmps41
  go_wp2_with fail
  refine HI.out.mono ?_
  rintro e w' ⟨⟨r, rfl, hr⟩, hb⟩
  have HR := Lib.hid hr
  have HB := Lib.hid hb
  clear hr hb
  go_wp2_with fail
  go_ret
  exact ⟨ret_bool HR.out, HB.out⟩


set_option maxRecDepth 100000 in
set_option maxHeartbeats 1600000 in
theorem index_Rule (v : Value) (rows : List (List Value)) (g : Nat → Bool) (w : World) (hsl : SlAt w v 3 rows) (hlen : ∀ row ∈ rows, row.length = 3) (hn : rows.length < 4294967281)
    (hf : ∀ i row, rows[i]? = some row → ∀ W, Below w.heap.size w W → Calls Tryd.prog 45 #[.agg row.toArray] W fun e w' => e = .returned (.bool (g i)) ∧ Below W.heap.size W w') :
    Calls Tryd.prog 76 #[v, .func (.func 45) #[] #[]] w fun e w' => (∃ r : Int, e = .returned (.int .i64 r) ∧ decide (0 ≤ r) = (List.range rows.length).any g) ∧ Below w.heap.size w w' := by
  have HS := Lib.hid hsl
  have HL := Lib.hid hlen
  have HF := Lib.hid hf
  obtain ⟨a, cap, rfl⟩ := hsl.form
  generalize hnn : rows.length = n at *
  have HNN := Lib.hid hnn
  clear hsl hlen hf hnn
  go_enter Tryd.func76, Tryd.ntmps76
  go_wp2_with fail
  go_loopw [8] (fun iv wr => ∃ k : Nat, k ≤ n ∧ iv = .int .i64 k ∧ Hid (∀ j, j < k → g j = false) ∧ Hid (Below w.heap.size w wr)) (fun iv _ => n - (intOf iv).toNat)
  case atStart => exact ⟨0, Nat.zero_le _, rfl, Lib.hid (fun j hj => absurd hj (Nat.not_lt_zero _)), Lib.hid (Below.refl _ _)⟩
  case round =>
    obtain ⟨k, hk, rfl, HG, HB⟩ := hrel
    have hk0 : (0 : Int) ≤ (k : Int) := Int.natCast_nonneg _
    by_cases hkn : k < n
    · have hkl : k < rows.length := by have := HNN.out; omega
      have hrow : rows[k]? = some rows[k] := List.getElem?_eq_getElem hkl
      have hrl := HL.out _ (List.mem_of_getElem? hrow)
      generalize rows[k] = row at hrow hrl
      obtain ⟨b, off, cap', hv, hb, hc⟩ := HS.out.some (by intro h; rw [h] at hkl; simp at hkl)
      obtain ⟨rfl, hcap⟩ : a = some ⟨b, off, none⟩ ∧ cap = cap' := by have := HNN.out; simpa [this] using hv
      have hcc := fun j u (h : row[j]? = some u) => (HB.out.cell (p := ⟨b, _, none⟩) hb).trans (hc k row hrow j u h)
      have HC := HF.out k row hrow _ HB.out
      rcases row with _ | ⟨r0, _ | ⟨r1, _ | ⟨r2, _ | ⟨x, u⟩⟩⟩⟩
      · simp at hrl
      · simp at hrl
      · simp at hrl
      rotate_left
      · simp at hrl
      have a0 := hcc 0 _ rfl
      have a1 := hcc 1 _ rfl
      have a2 := hcc 2 _ rfl
      simp only [Nat.add_zero] at a0
      have HC' := Lib.hid HC
      generalize hgk : g k = q at HC'
      have HGK := Lib.hid hgk
      have hsz := HB.out.size
      have hk1 : (k : Int) < (n : Int) := by omega
      clear hv hcap hcc hc hrow hrl HC hgk
      go_wp2_with fail
      refine HC'.out.mono ?_
      rintro e w' ⟨rfl, hb'⟩
      have HB' := Lib.hid (HB.out.trans (hb'.mono hsz))
      clear hb'
      cases q with
      | true =>
        go_wp2_with fail
        go_ret
        refine ⟨⟨_, rfl, ?_⟩, HB'.out⟩
        have h1 : (List.range n).any g = true := List.any_eq_true.2 ⟨k, List.mem_range.2 hkn, HGK.out⟩
        rw [h1]
        simp
      | false =>
        go_wp2_with fail
        first
          | (go_roundw
             case rel =>
               go_light
               refine ⟨k + 1, by omega, by go_num, Lib.hid (fun j hj => ?_), HB'⟩
               rcases Nat.lt_succ_iff_lt_or_eq.1 hj with h | rfl
               · exact HG.out j h
               · exact HGK.out
             case measure => go_light; simp [intOf]; omega)
          | (refine ⟨⟨k + 1, by omega, by go_num, Lib.hid (fun j hj => ?_), HB'⟩, by simp [intOf]; omega⟩
             rcases Nat.lt_succ_iff_lt_or_eq.1 hj with h | rfl
             · exact HG.out j h
             · exact HGK.out)
    · obtain rfl : k = n := by omega
      go_wp2_with fail
      go_ret
      refine ⟨⟨_, rfl, ?_⟩, HB.out⟩
      have h1 : (List.range k).any g = false := by
        rw [List.any_eq_false]
        intro j hj
        rw [HG.out j (List.mem_range.1 hj)]
        simp
      rw [h1]
      simp

set_option maxHeartbeats 400000 in
theorem contains_Rule (v : Value) (rows : List (List Value)) (g : Nat → Bool) (w : World) (hsl : SlAt w v 3 rows) (hlen : ∀ row ∈ rows, row.length = 3) (hn : rows.length < 4294967281)
    (hf : ∀ i row, rows[i]? = some row → ∀ W, Below w.heap.size w W → Calls Tryd.prog 45 #[.agg row.toArray] W fun e w' => e = .returned (.bool (g i)) ∧ Below W.heap.size W w') :
    Calls Tryd.prog 44 #[v, .func (.func 45) #[] #[]] w fun e w' => e = .returned (.bool ((List.range rows.length).any g)) ∧ Below w.heap.size w w' := by
  have HI := Lib.hid (index_Rule v rows g w hsl hlen hn hf)
  generalize (List.range rows.length).any g = B at HI
  clear hsl hlen hn hf
  go_enter Tryd.func44, Tryd.ntmps44
  go_wp2_with fail
  refine HI.out.mono ?_
  rintro e w' ⟨⟨r, rfl, hr⟩, hb⟩
  have HR := Lib.hid hr
  have HB := Lib.hid hb
  clear hr hb
  go_wp2_with fail
  go_ret
  exact ⟨ret_bool HR.out, HB.out⟩


set_option maxRecDepth 100000 in
set_option maxHeartbeats 1600000 in
theorem index_Alt (v : Value) (rows : List (List Value)) (g : Nat → Bool) (w : World) (hsl : SlAt w v 6 rows) (hlen : ∀ row ∈ rows, row.length = 6) (hn : rows.length < 4294967281)
    (hf : ∀ i row, rows[i]? = some row → ∀ W, Below w.heap.size w W → Calls Tryd.prog 78 #[.agg row.toArray] W fun e w' => e = .returned (.bool (g i)) ∧ Below W.heap.size W w') :
    Calls Tryd.prog 96 #[v, .func (.func 78) #[] #[]] w fun e w' => (∃ r : Int, e = .returned (.int .i64 r) ∧ decide (0 ≤ r) = (List.range rows.length).any g) ∧ Below w.heap.size w w' := by
  have HS := Lib.hid hsl
  have HL := Lib.hid hlen
  have HF := Lib.hid hf
  obtain ⟨a, cap, rfl⟩ := hsl.form
  generalize hnn : rows.length = n at *
  have HNN := Lib.hid hnn
  clear hsl hlen hf hnn
  go_enter Tryd.func96, Tryd.ntmps96
  go_wp2_with fail
  go_loopw [8] (fun iv wr => ∃ k : Nat, k ≤ n ∧ iv = .int .i64 k ∧ Hid (∀ j, j < k → g j = false) ∧ Hid (Below w.heap.size w wr)) (fun iv _ => n - (intOf iv).toNat)
  case atStart => exact ⟨0, Nat.zero_le _, rfl, Lib.hid (fun j hj => absurd hj (Nat.not_lt_zero _)), Lib.hid (Below.refl _ _)⟩
  case round =>
    obtain ⟨k, hk, rfl, HG, HB⟩ := hrel
    have hk0 : (0 : Int) ≤ (k : Int) := Int.natCast_nonneg _
    by_cases hkn : k < n
    · have hkl : k < rows.length := by have := HNN.out; omega
      have hrow : rows[k]? = some rows[k] := List.getElem?_eq_getElem hkl
      have hrl := HL.out _ (List.mem_of_getElem? hrow)
      generalize rows[k] = row at hrow hrl
      obtain ⟨b, off, cap', hv, hb, hc⟩ := HS.out.some (by intro h; rw [h] at hkl; simp at hkl)
      obtain ⟨rfl, hcap⟩ : a = some ⟨b, off, none⟩ ∧ cap = cap' := by have := HNN.out; simpa [this] using hv
      have hcc := fun j u (h : row[j]? = some u) => (HB.out.cell (p := ⟨b, _, none⟩) hb).trans (hc k row hrow j u h)
      have HC := HF.out k row hrow _ HB.out
      rcases row with _ | ⟨r0, _ | ⟨r1, _ | ⟨r2, _ | ⟨r3, _ | ⟨r4, _ | ⟨r5, _ | ⟨x, u⟩⟩⟩⟩⟩⟩⟩
      · simp at hrl
      · simp at hrl
      · simp at hrl
      · simp at hrl
      · simp at hrl
      · simp at hrl
      rotate_left
      · simp at hrl
      have a0 := hcc 0 _ rfl
      have a1 := hcc 1 _ rfl
      have a2 := hcc 2 _ rfl
      have a3 := hcc 3 _ rfl
      have a4 := hcc 4 _ rfl
      have a5 := hcc 5 _ rfl
      simp only [Nat.add_zero] at a0
      have HC' := Lib.hid HC
      generalize hgk : g k = q at HC'
      have HGK := Lib.hid hgk
      have hsz := HB.out.size
      have hk1 : (k : Int) < (n : Int) := by omega
      clear hv hcap hcc hc hrow hrl HC hgk
      go_wp2_with fail
      refine HC'.out.mono ?_
      rintro e w' ⟨rfl, hb'⟩
      have HB' := Lib.hid (HB.out.trans (hb'.mono hsz))
      clear hb'
      cases q with
      | true =>
        go_wp2_with fail
        go_ret
        refine ⟨⟨_, rfl, ?_⟩, HB'.out⟩
        have h1 : (List.range n).any g = true := List.any_eq_true.2 ⟨k, List.mem_range.2 hkn, HGK.out⟩
        rw [h1]
        simp
      | false =>
        go_wp2_with fail
        first
          | (go_roundw
             case rel =>
               go_light
               refine ⟨k + 1, by omega, by go_num, Lib.hid (fun j hj => ?_), HB'⟩
               rcases Nat.lt_succ_iff_lt_or_eq.1 hj with h | rfl
               · exact HG.out j h
               · exact HGK.out
             case measure => go_light; simp [intOf]; omega)
          | (refine ⟨⟨k + 1, by omega, by go_num, Lib.hid (fun j hj => ?_), HB'⟩, by simp [intOf]; omega⟩
             rcases Nat.lt_succ_iff_lt_or_eq.1 hj with h | rfl
             · exact HG.out j h
             · exact HGK.out)
    · obtain rfl : k = n := by omega
      go_wp2_with fail
      go_ret
      refine ⟨⟨_, rfl, ?_⟩, HB.out⟩
      have h1 : (List.range k).any g = false := by
        rw [List.any_eq_false]
        intro j hj
        rw [HG.out j (List.mem_range.1 hj)]
        simp
      rw [h1]
      simp

set_option maxHeartbeats 400000 in
theorem contains_Alt (v : Value) (rows : List (List Value)) (g : Nat → Bool) (w : World) (hsl : SlAt w v 6 rows) (hlen : ∀ row ∈ rows, row.length = 6) (hn : rows.length < 4294967281)
    (hf : ∀ i row, rows[i]? = some row → ∀ W, Below w.heap.size w W → Calls Tryd.prog 78 #[.agg row.toArray] W fun e w' => e = .returned (.bool (g i)) ∧ Below W.heap.size W w') :
    Calls Tryd.prog 77 #[v, .func (.func 78) #[] #[]] w fun e w' => e = .returned (.bool ((List.range rows.length).any g)) ∧ Below w.heap.size w w' := by
  have HI := Lib.hid (index_Alt v rows g w hsl hlen hn hf)
  generalize (List.range rows.length).any g = B at HI
  clear hsl hlen hn hf
  go_enter Tryd.func77, Tryd.ntmps77
  go_wp2_with fail
  refine HI.out.mono ?_
  rintro e w' ⟨⟨r, rfl, hr⟩, hb⟩
  have HR := Lib.hid hr
  have HB := Lib.hid hb
  clear hr hb
  go_wp2_with fail
  go_ret
  exact ⟨ret_bool HR.out, HB.out⟩


set_option maxRecDepth 100000 in
set_option maxHeartbeats 1600000 in
theorem index_Part (v : Value) (rows : List (List Value)) (g : Nat → Bool) (w : World) (hsl : SlAt w v 6 rows) (hlen : ∀ row ∈ rows, row.length = 6) (hn : rows.length < 4294967281)
    (hf : ∀ i row, rows[i]? = some row → ∀ W, Below w.heap.size w W → Calls Tryd.prog 99 #[.agg row.toArray] W fun e w' => e = .returned (.bool (g i)) ∧ Below W.heap.size W w') :
    Calls Tryd.prog 117 #[v, .func (.func 99) #[] #[]] w fun e w' => (∃ r : Int, e = .returned (.int .i64 r) ∧ decide (0 ≤ r) = (List.range rows.length).any g) ∧ Below w.heap.size w w' := by
  have HS := Lib.hid hsl
  have HL := Lib.hid hlen
  have HF := Lib.hid hf
  obtain ⟨a, cap, rfl⟩ := hsl.form
  generalize hnn : rows.length = n at *
  have HNN := Lib.hid hnn
  clear hsl hlen hf hnn
  go_enter Tryd.func117, Tryd.ntmps117
  go_wp2_with fail
  go_loopw [8] (fun iv wr => ∃ k : Nat, k ≤ n ∧ iv = .int .i64 k ∧ Hid (∀ j, j < k → g j = false) ∧ Hid (Below w.heap.size w wr)) (fun iv _ => n - (intOf iv).toNat)
  case atStart => exact ⟨0, Nat.zero_le _, rfl, Lib.hid (fun j hj => absurd hj (Nat.not_lt_zero _)), Lib.hid (Below.refl _ _)⟩
  case round =>
    obtain ⟨k, hk, rfl, HG, HB⟩ := hrel
    have hk0 : (0 : Int) ≤ (k : Int) := Int.natCast_nonneg _
    by_cases hkn : k < n
    · have hkl : k < rows.length := by have := HNN.out; omega
      have hrow : rows[k]? = some rows[k] := List.getElem?_eq_getElem hkl
      have hrl := HL.out _ (List.mem_of_getElem? hrow)
      generalize rows[k] = row at hrow hrl
      obtain ⟨b, off, cap', hv, hb, hc⟩ := HS.out.some (by intro h; rw [h] at hkl; simp at hkl)
      obtain ⟨rfl, hcap⟩ : a = some ⟨b, off, none⟩ ∧ cap = cap' := by have := HNN.out; simpa [this] using hv
      have hcc := fun j u (h : row[j]? = some u) => (HB.out.cell (p := ⟨b, _, none⟩) hb).trans (hc k row hrow j u h)
      have HC := HF.out k row hrow _ HB.out
      rcases row with _ | ⟨r0, _ | ⟨r1, _ | ⟨r2, _ | ⟨r3, _ | ⟨r4, _ | ⟨r5, _ | ⟨x, u⟩⟩⟩⟩⟩⟩⟩
      · simp at hrl
      · simp at hrl
      · simp at hrl
      · simp at hrl
      · simp at hrl
      · simp at hrl
      rotate_left
      · simp at hrl
      have a0 := hcc 0 _ rfl
      have a1 := hcc 1 _ rfl
      have a2 := hcc 2 _ rfl
      have a3 := hcc 3 _ rfl
      have a4 := hcc 4 _ rfl
      have a5 := hcc 5 _ rfl
      simp only [Nat.add_zero] at a0
      have HC' := Lib.hid HC
      generalize hgk : g k = q at HC'
      have HGK := Lib.hid hgk
      have hsz := HB.out.size
      have hk1 : (k : Int) < (n : Int) := by omega
      clear hv hcap hcc hc hrow hrl HC hgk
      go_wp2_with fail
      refine HC'.out.mono ?_
      rintro e w' ⟨rfl, hb'⟩
      have HB' := Lib.hid (HB.out.trans (hb'.mono hsz))
      clear hb'
      cases q with
      | true =>
        go_wp2_with fail
        go_ret
        refine ⟨⟨_, rfl, ?_⟩, HB'.out⟩
        have h1 : (List.range n).any g = true := List.any_eq_true.2 ⟨k, List.mem_range.2 hkn, HGK.out⟩
        rw [h1]
        simp
      | false =>
        go_wp2_with fail
        first
          | (go_roundw
             case rel =>
               go_light
               refine ⟨k + 1, by omega, by go_num, Lib.hid (fun j hj => ?_), HB'⟩
               rcases Nat.lt_succ_iff_lt_or_eq.1 hj with h | rfl
               · exact HG.out j h
               · exact HGK.out
             case measure => go_light; simp [intOf]; omega)
          | (refine ⟨⟨k + 1, by omega, by go_num, Lib.hid (fun j hj => ?_), HB'⟩, by simp [intOf]; omega⟩
             rcases Nat.lt_succ_iff_lt_or_eq.1 hj with h | rfl
             · exact HG.out j h
             · exact HGK.out)
    · obtain rfl : k = n := by omega
      go_wp2_with fail
      go_ret
      refine ⟨⟨_, rfl, ?_⟩, HB.out⟩
      have h1 : (List.range k).any g = false := by
        rw [List.any_eq_false]
        intro j hj
        rw [HG.out j (List.mem_range.1 hj)]
        simp
      rw [h1]
      simp

set_option maxHeartbeats 400000 in
theorem contains_Part (v : Value) (rows : List (List Value)) (g : Nat → Bool) (w : World) (hsl : SlAt w v 6 rows) (hlen : ∀ row ∈ rows, row.length = 6) (hn : rows.length < 4294967281)
    (hf : ∀ i row, rows[i]? = some row → ∀ W, Below w.heap.size w W → Calls Tryd.prog 99 #[.agg row.toArray] W fun e w' => e = .returned (.bool (g i)) ∧ Below W.heap.size W w') :
    Calls Tryd.prog 98 #[v, .func (.func 99) #[] #[]] w fun e w' => e = .returned (.bool ((List.range rows.length).any g)) ∧ Below w.heap.size w w' := by
  have HI := Lib.hid (index_Part v rows g w hsl hlen hn hf)
  generalize (List.range rows.length).any g = B at HI
  clear hsl hlen hn hf
  go_enter Tryd.func98, Tryd.ntmps98
  go_wp2_with fail
  refine HI.out.mono ?_
  rintro e w' ⟨⟨r, rfl, hr⟩, hb⟩
  have HR := Lib.hid hr
  have HB := Lib.hid hb
  clear hr hb
  go_wp2_with fail
  go_ret
  exact ⟨ret_bool HR.out, HB.out⟩

end Go.Proofs.YthmimcegiihcnaaDoor
