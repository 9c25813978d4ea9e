import Derived.Lib.ItoaLen
import Derived.Deep.DeepMust
import Derived.Test.YtddnomjfcbplpaaGreatDoorZ02
namespace Go.Proofs.YtddnomjfcbplpaaGreatDoor
open Go.RowKit

theorem SlAt.form {w : World} {v : Value} {size : Nat} {xs : List (List Value)} (h : SlAt w v size xs) : ∃ a cap, v = .slice a xs.length cap := by
 rcases h with ⟨rfl, a, cap, rfl⟩ | ⟨b, off, cap, rfl, _, _⟩
 ·exact ⟨a, cap, rfl⟩
 ·exact ⟨_, _, rfl⟩
theorem SlAt.some {w : World} {v : Value} {size : Nat} {xs : List (List Value)} (h : SlAt w v size xs) (hne : xs ≠ []) : ∃ b off cap, v = .slice (some ⟨b, off, none⟩) xs.length cap ∧ b < w.heap.size ∧ ∀ i r, xs[i]? = some r → ∀ j u, r[j]? = some u → w.cell? ⟨b, off + i * size + j, none⟩ = some u := by
 rcases h with ⟨h, _⟩ | h
 ·exact absurd h hne
 ·exact h

set_option maxRecDepth 100000 in
set_option maxHeartbeats 1600000 in
theorem index_Decl (v : Value) (rows : List (List Value)) (g : Nat → Bool) (w : World) (hsl : SlAt w v 4 rows) (hlen : ∀ row ∈ rows, row.length = 4) (hn : rows.length < 4294967281)
  (hf : ∀ i row, rows[i]? = some row → ∀ W, Below w.heap.size w W → Calls Tryz.prog 59 #[.agg row.toArray] W fun e w' => e = .returned (.bool (g i)) ∧ Below W.heap.size W w') :
  Calls Tryz.prog 75 #[v, .func (.func 59) #[] #[]] w fun e w' => (∃ r : Int, e = .returned (.int .i64 r) ∧ decide (0 ≤ r) = (List.range rows.length).any g) ∧ Below w.heap.size w w' := by
 have HS := zh hsl; have HL := zh hlen; have HF := zh hf; obtain ⟨a, cap, rfl⟩ := hsl.form; generalize hnn : rows.length = n at *
 have HNN := zh hnn; clear hsl hlen hf hnn; go_enter Tryz.func75, Tryz.ntmps75
 go_wp2_with fail; go_loopw [8] (fun iv wr => ∃ k : Nat, k ≤ n ∧ iv = .int .i64 k ∧ Hid (∀ j, j < k → g j = false) ∧ Hid (Below w.heap.size w wr)) (fun iv _ => n - (intOf iv).toNat)
 case atStart => exact ⟨0, Nat.zero_le _, rfl, zh (fun j hj => absurd hj (Nat.not_lt_zero _)), zh (Below.refl _ _)⟩
 case round =>
  obtain ⟨k, hk, rfl, HG, HB⟩ := hrel; have hk0 : (0 : Int) ≤ (k : Int) := Int.natCast_nonneg _; by_cases hkn : k < n
  ·have hkl : k < rows.length := by have := HNN.out; omega
   have hrow : rows[k]? = some rows[k] := List.getElem?_eq_getElem hkl; have hrl := HL.out _ (List.mem_of_getElem? hrow); generalize rows[k] = row at hrow hrl; obtain ⟨b, off, cap', hv, hb, hc⟩ := HS.out.some (by intro h; rw [h] at hkl; simp at hkl); obtain ⟨rfl, hcap⟩ : a = some ⟨b, off, none⟩ ∧ cap = cap' := by have := HNN.out; simpa [this] using hv
   have hcc := fun j u (h : row[j]? = some u) => (HB.out.cell (p := ⟨b, _, none⟩) hb).trans (hc k row hrow j u h)
   have HC := HF.out k row hrow _ HB.out; rcases row with _ | ⟨r0, _ | ⟨r1, _ | ⟨r2, _ | ⟨r3, _ | ⟨x, u⟩⟩⟩⟩⟩
   ·simp at hrl
   ·simp at hrl
   ·simp at hrl
   ·simp at hrl
   rotate_left
   ·simp at hrl
   have a0 := hcc 0 _ rfl; have a1 := hcc 1 _ rfl; have a2 := hcc 2 _ rfl; have a3 := hcc 3 _ rfl; simp only [Nat.add_zero] at a0; have HC' := zh HC; generalize hgk : g k = q at HC'; have HGK := zh hgk; have hsz := HB.out.size; have hk1 : (k : Int) < (n : Int) := by omega
   clear hv hcap hcc hc hrow hrl HC hgk; go_wp2_with fail; refine HC'.out.mono ?_; rintro e w' ⟨rfl, hb'⟩; have HB' := zh (HB.out.trans (hb'.mono hsz)); clear hb'
   cases q with
   | true =>
    go_wp2_with fail; go_ret; refine ⟨⟨_, rfl, ?_⟩, HB'.out⟩; have h1 : (List.range n).any g = true := List.any_eq_true.2 ⟨k, List.mem_range.2 hkn, HGK.out⟩; rw [h1]; simp
   | false =>
    go_wp2_with fail
    first
     | (go_roundw
        case rel =>
         go_light
         refine ⟨k + 1, by omega, by go_num, zh (fun j hj => ?_), HB'⟩; rcases Nat.lt_succ_iff_lt_or_eq.1 hj with h | rfl
         ·exact HG.out j h
         ·exact HGK.out
        case measure => go_light; simp [intOf]; omega)
     | (refine ⟨⟨k + 1, by omega, by go_num, zh (fun j hj => ?_), HB'⟩, by simp [intOf]; omega⟩
        rcases Nat.lt_succ_iff_lt_or_eq.1 hj with h | rfl
        ·exact HG.out j h
        ·exact HGK.out)
  ·obtain rfl : k = n := by omega
   go_wp2_with fail; go_ret; refine ⟨⟨_, rfl, ?_⟩, HB.out⟩
   have h1 : (List.range k).any g = false := by
    rw [List.any_eq_false]; intro j hj; rw [HG.out j (List.mem_range.1 hj)]; simp
   rw [h1]; simp

set_option maxHeartbeats 400000 in
theorem contains_Decl (v : Value) (rows : List (List Value)) (g : Nat → Bool) (w : World) (hsl : SlAt w v 4 rows) (hlen : ∀ row ∈ rows, row.length = 4) (hn : rows.length < 4294967281)
  (hf : ∀ i row, rows[i]? = some row → ∀ W, Below w.heap.size w W → Calls Tryz.prog 59 #[.agg row.toArray] W fun e w' => e = .returned (.bool (g i)) ∧ Below W.heap.size W w') :
  Calls Tryz.prog 58 #[v, .func (.func 59) #[] #[]] w fun e w' => e = .returned (.bool ((List.range rows.length).any g)) ∧ Below w.heap.size w w' := by
 have HI := zh (index_Decl v rows g w hsl hlen hn hf); generalize (List.range rows.length).any g = B at HI; clear hsl hlen hn hf; go_enter Tryz.func58, Tryz.ntmps58
 go_wp2_with fail; refine HI.out.mono ?_; rintro e w' ⟨⟨r, rfl, hr⟩, hb⟩; have HR := zh hr; have HB := zh hb; clear hr hb; go_wp2_with fail; go_ret; exact ⟨zK HR.out, HB.out⟩


set_option maxRecDepth 100000 in
set_option maxHeartbeats 1600000 in
theorem index_Rule (v : Value) (rows : List (List Value)) (g : Nat → Bool) (w : World) (hsl : SlAt w v 3 rows) (hlen : ∀ row ∈ rows, row.length = 3) (hn : rows.length < 4294967281)
  (hf : ∀ i row, rows[i]? = some row → ∀ W, Below w.heap.size w W → Calls Tryz.prog 62 #[.agg row.toArray] W fun e w' => e = .returned (.bool (g i)) ∧ Below W.heap.size W w') :
  Calls Tryz.prog 78 #[v, .func (.func 62) #[] #[]] w fun e w' => (∃ r : Int, e = .returned (.int .i64 r) ∧ decide (0 ≤ r) = (List.range rows.length).any g) ∧ Below w.heap.size w w' := by
 have HS := zh hsl; have HL := zh hlen; have HF := zh hf; obtain ⟨a, cap, rfl⟩ := hsl.form; generalize hnn : rows.length = n at *
 have HNN := zh hnn; clear hsl hlen hf hnn; go_enter Tryz.func78, Tryz.ntmps78
 go_wp2_with fail; go_loopw [8] (fun iv wr => ∃ k : Nat, k ≤ n ∧ iv = .int .i64 k ∧ Hid (∀ j, j < k → g j = false) ∧ Hid (Below w.heap.size w wr)) (fun iv _ => n - (intOf iv).toNat)
 case atStart => exact ⟨0, Nat.zero_le _, rfl, zh (fun j hj => absurd hj (Nat.not_lt_zero _)), zh (Below.refl _ _)⟩
 case round =>
  obtain ⟨k, hk, rfl, HG, HB⟩ := hrel; have hk0 : (0 : Int) ≤ (k : Int) := Int.natCast_nonneg _; by_cases hkn : k < n
  ·have hkl : k < rows.length := by have := HNN.out; omega
   have hrow : rows[k]? = some rows[k] := List.getElem?_eq_getElem hkl; have hrl := HL.out _ (List.mem_of_getElem? hrow); generalize rows[k] = row at hrow hrl; obtain ⟨b, off, cap', hv, hb, hc⟩ := HS.out.some (by intro h; rw [h] at hkl; simp at hkl); obtain ⟨rfl, hcap⟩ : a = some ⟨b, off, none⟩ ∧ cap = cap' := by have := HNN.out; simpa [this] using hv
   have hcc := fun j u (h : row[j]? = some u) => (HB.out.cell (p := ⟨b, _, none⟩) hb).trans (hc k row hrow j u h)
   have HC := HF.out k row hrow _ HB.out; rcases row with _ | ⟨r0, _ | ⟨r1, _ | ⟨r2, _ | ⟨x, u⟩⟩⟩⟩
   ·simp at hrl
   ·simp at hrl
   ·simp at hrl
   rotate_left
   ·simp at hrl
   have a0 := hcc 0 _ rfl; have a1 := hcc 1 _ rfl; have a2 := hcc 2 _ rfl; simp only [Nat.add_zero] at a0; have HC' := zh HC; generalize hgk : g k = q at HC'; have HGK := zh hgk; have hsz := HB.out.size; have hk1 : (k : Int) < (n : Int) := by omega
   clear hv hcap hcc hc hrow hrl HC hgk; go_wp2_with fail; refine HC'.out.mono ?_; rintro e w' ⟨rfl, hb'⟩; have HB' := zh (HB.out.trans (hb'.mono hsz)); clear hb'
   cases q with
   | true =>
    go_wp2_with fail; go_ret; refine ⟨⟨_, rfl, ?_⟩, HB'.out⟩; have h1 : (List.range n).any g = true := List.any_eq_true.2 ⟨k, List.mem_range.2 hkn, HGK.out⟩; rw [h1]; simp
   | false =>
    go_wp2_with fail
    first
     | (go_roundw
        case rel =>
         go_light
         refine ⟨k + 1, by omega, by go_num, zh (fun j hj => ?_), HB'⟩; rcases Nat.lt_succ_iff_lt_or_eq.1 hj with h | rfl
         ·exact HG.out j h
         ·exact HGK.out
        case measure => go_light; simp [intOf]; omega)
     | (refine ⟨⟨k + 1, by omega, by go_num, zh (fun j hj => ?_), HB'⟩, by simp [intOf]; omega⟩
        rcases Nat.lt_succ_iff_lt_or_eq.1 hj with h | rfl
        ·exact HG.out j h
        ·exact HGK.out)
  ·obtain rfl : k = n := by omega
   go_wp2_with fail; go_ret; refine ⟨⟨_, rfl, ?_⟩, HB.out⟩
   have h1 : (List.range k).any g = false := by
    rw [List.any_eq_false]; intro j hj; rw [HG.out j (List.mem_range.1 hj)]; simp
   rw [h1]; simp

set_option maxHeartbeats 400000 in
theorem contains_Rule (v : Value) (rows : List (List Value)) (g : Nat → Bool) (w : World) (hsl : SlAt w v 3 rows) (hlen : ∀ row ∈ rows, row.length = 3) (hn : rows.length < 4294967281)
  (hf : ∀ i row, rows[i]? = some row → ∀ W, Below w.heap.size w W → Calls Tryz.prog 62 #[.agg row.toArray] W fun e w' => e = .returned (.bool (g i)) ∧ Below W.heap.size W w') :
  Calls Tryz.prog 61 #[v, .func (.func 62) #[] #[]] w fun e w' => e = .returned (.bool ((List.range rows.length).any g)) ∧ Below w.heap.size w w' := by
 have HI := zh (index_Rule v rows g w hsl hlen hn hf); generalize (List.range rows.length).any g = B at HI; clear hsl hlen hn hf; go_enter Tryz.func61, Tryz.ntmps61
 go_wp2_with fail; refine HI.out.mono ?_; rintro e w' ⟨⟨r, rfl, hr⟩, hb⟩; have HR := zh hr; have HB := zh hb; clear hr hb; go_wp2_with fail; go_ret; exact ⟨zK HR.out, HB.out⟩


set_option maxRecDepth 100000 in
set_option maxHeartbeats 1600000 in
theorem index_Alt (v : Value) (rows : List (List Value)) (g : Nat → Bool) (w : World) (hsl : SlAt w v 6 rows) (hlen : ∀ row ∈ rows, row.length = 6) (hn : rows.length < 4294967281)
  (hf : ∀ i row, rows[i]? = some row → ∀ W, Below w.heap.size w W → Calls Tryz.prog 80 #[.agg row.toArray] W fun e w' => e = .returned (.bool (g i)) ∧ Below W.heap.size W w') :
  Calls Tryz.prog 94 #[v, .func (.func 80) #[] #[]] w fun e w' => (∃ r : Int, e = .returned (.int .i64 r) ∧ decide (0 ≤ r) = (List.range rows.length).any g) ∧ Below w.heap.size w w' := by
 have HS := zh hsl; have HL := zh hlen; have HF := zh hf; obtain ⟨a, cap, rfl⟩ := hsl.form; generalize hnn : rows.length = n at *
 have HNN := zh hnn; clear hsl hlen hf hnn; go_enter Tryz.func94, Tryz.ntmps94
 go_wp2_with fail; go_loopw [8] (fun iv wr => ∃ k : Nat, k ≤ n ∧ iv = .int .i64 k ∧ Hid (∀ j, j < k → g j = false) ∧ Hid (Below w.heap.size w wr)) (fun iv _ => n - (intOf iv).toNat)
 case atStart => exact ⟨0, Nat.zero_le _, rfl, zh (fun j hj => absurd hj (Nat.not_lt_zero _)), zh (Below.refl _ _)⟩
 case round =>
  obtain ⟨k, hk, rfl, HG, HB⟩ := hrel; have hk0 : (0 : Int) ≤ (k : Int) := Int.natCast_nonneg _; by_cases hkn : k < n
  ·have hkl : k < rows.length := by have := HNN.out; omega
   have hrow : rows[k]? = some rows[k] := List.getElem?_eq_getElem hkl; have hrl := HL.out _ (List.mem_of_getElem? hrow); generalize rows[k] = row at hrow hrl; obtain ⟨b, off, cap', hv, hb, hc⟩ := HS.out.some (by intro h; rw [h] at hkl; simp at hkl); obtain ⟨rfl, hcap⟩ : a = some ⟨b, off, none⟩ ∧ cap = cap' := by have := HNN.out; simpa [this] using hv
   have hcc := fun j u (h : row[j]? = some u) => (HB.out.cell (p := ⟨b, _, none⟩) hb).trans (hc k row hrow j u h)
   have HC := HF.out k row hrow _ HB.out; rcases row with _ | ⟨r0, _ | ⟨r1, _ | ⟨r2, _ | ⟨r3, _ | ⟨r4, _ | ⟨r5, _ | ⟨x, u⟩⟩⟩⟩⟩⟩⟩
   ·simp at hrl
   ·simp at hrl
   ·simp at hrl
   ·simp at hrl
   ·simp at hrl
   ·simp at hrl
   rotate_left
   ·simp at hrl
   have a0 := hcc 0 _ rfl; have a1 := hcc 1 _ rfl; have a2 := hcc 2 _ rfl; have a3 := hcc 3 _ rfl; have a4 := hcc 4 _ rfl; have a5 := hcc 5 _ rfl; simp only [Nat.add_zero] at a0; have HC' := zh HC; generalize hgk : g k = q at HC'; have HGK := zh hgk; have hsz := HB.out.size; have hk1 : (k : Int) < (n : Int) := by omega
   clear hv hcap hcc hc hrow hrl HC hgk; go_wp2_with fail; refine HC'.out.mono ?_; rintro e w' ⟨rfl, hb'⟩; have HB' := zh (HB.out.trans (hb'.mono hsz)); clear hb'
   cases q with
   | true =>
    go_wp2_with fail; go_ret; refine ⟨⟨_, rfl, ?_⟩, HB'.out⟩; have h1 : (List.range n).any g = true := List.any_eq_true.2 ⟨k, List.mem_range.2 hkn, HGK.out⟩; rw [h1]; simp
   | false =>
    go_wp2_with fail
    first
     | (go_roundw
        case rel =>
         go_light
         refine ⟨k + 1, by omega, by go_num, zh (fun j hj => ?_), HB'⟩; rcases Nat.lt_succ_iff_lt_or_eq.1 hj with h | rfl
         ·exact HG.out j h
         ·exact HGK.out
        case measure => go_light; simp [intOf]; omega)
     | (refine ⟨⟨k + 1, by omega, by go_num, zh (fun j hj => ?_), HB'⟩, by simp [intOf]; omega⟩
        rcases Nat.lt_succ_iff_lt_or_eq.1 hj with h | rfl
        ·exact HG.out j h
        ·exact HGK.out)
  ·obtain rfl : k = n := by omega
   go_wp2_with fail; go_ret; refine ⟨⟨_, rfl, ?_⟩, HB.out⟩
   have h1 : (List.range k).any g = false := by
    rw [List.any_eq_false]; intro j hj; rw [HG.out j (List.mem_range.1 hj)]; simp
   rw [h1]; simp

set_option maxHeartbeats 400000 in
theorem contains_Alt (v : Value) (rows : List (List Value)) (g : Nat → Bool) (w : World) (hsl : SlAt w v 6 rows) (hlen : ∀ row ∈ rows, row.length = 6) (hn : rows.length < 4294967281)
  (hf : ∀ i row, rows[i]? = some row → ∀ W, Below w.heap.size w W → Calls Tryz.prog 80 #[.agg row.toArray] W fun e w' => e = .returned (.bool (g i)) ∧ Below W.heap.size W w') :
  Calls Tryz.prog 79 #[v, .func (.func 80) #[] #[]] w fun e w' => e = .returned (.bool ((List.range rows.length).any g)) ∧ Below w.heap.size w w' := by
 have HI := zh (index_Alt v rows g w hsl hlen hn hf); generalize (List.range rows.length).any g = B at HI; clear hsl hlen hn hf; go_enter Tryz.func79, Tryz.ntmps79
 go_wp2_with fail; refine HI.out.mono ?_; rintro e w' ⟨⟨r, rfl, hr⟩, hb⟩; have HR := zh hr; have HB := zh hb; clear hr hb; go_wp2_with fail; go_ret; exact ⟨zK HR.out, HB.out⟩


set_option maxRecDepth 100000 in
set_option maxHeartbeats 1600000 in
theorem index_Part (v : Value) (rows : List (List Value)) (g : Nat → Bool) (w : World) (hsl : SlAt w v 6 rows) (hlen : ∀ row ∈ rows, row.length = 6) (hn : rows.length < 4294967281)
  (hf : ∀ i row, rows[i]? = some row → ∀ W, Below w.heap.size w W → Calls Tryz.prog 98 #[.agg row.toArray] W fun e w' => e = .returned (.bool (g i)) ∧ Below W.heap.size W w') :
  Calls Tryz.prog 107 #[v, .func (.func 98) #[] #[]] w fun e w' => (∃ r : Int, e = .returned (.int .i64 r) ∧ decide (0 ≤ r) = (List.range rows.length).any g) ∧ Below w.heap.size w w' := by
 have HS := zh hsl; have HL := zh hlen; have HF := zh hf; obtain ⟨a, cap, rfl⟩ := hsl.form; generalize hnn : rows.length = n at *
 have HNN := zh hnn; clear hsl hlen hf hnn; go_enter Tryz.func107, Tryz.ntmps107
 go_wp2_with fail; go_loopw [8] (fun iv wr => ∃ k : Nat, k ≤ n ∧ iv = .int .i64 k ∧ Hid (∀ j, j < k → g j = false) ∧ Hid (Below w.heap.size w wr)) (fun iv _ => n - (intOf iv).toNat)
 case atStart => exact ⟨0, Nat.zero_le _, rfl, zh (fun j hj => absurd hj (Nat.not_lt_zero _)), zh (Below.refl _ _)⟩
 case round =>
  obtain ⟨k, hk, rfl, HG, HB⟩ := hrel; have hk0 : (0 : Int) ≤ (k : Int) := Int.natCast_nonneg _; by_cases hkn : k < n
  ·have hkl : k < rows.length := by have := HNN.out; omega
   have hrow : rows[k]? = some rows[k] := List.getElem?_eq_getElem hkl; have hrl := HL.out _ (List.mem_of_getElem? hrow); generalize rows[k] = row at hrow hrl; obtain ⟨b, off, cap', hv, hb, hc⟩ := HS.out.some (by intro h; rw [h] at hkl; simp at hkl); obtain ⟨rfl, hcap⟩ : a = some ⟨b, off, none⟩ ∧ cap = cap' := by have := HNN.out; simpa [this] using hv
   have hcc := fun j u (h : row[j]? = some u) => (HB.out.cell (p := ⟨b, _, none⟩) hb).trans (hc k row hrow j u h)
   have HC := HF.out k row hrow _ HB.out; rcases row with _ | ⟨r0, _ | ⟨r1, _ | ⟨r2, _ | ⟨r3, _ | ⟨r4, _ | ⟨r5, _ | ⟨x, u⟩⟩⟩⟩⟩⟩⟩
   ·simp at hrl
   ·simp at hrl
   ·simp at hrl
   ·simp at hrl
   ·simp at hrl
   ·simp at hrl
   rotate_left
   ·simp at hrl
   have a0 := hcc 0 _ rfl; have a1 := hcc 1 _ rfl; have a2 := hcc 2 _ rfl; have a3 := hcc 3 _ rfl; have a4 := hcc 4 _ rfl; have a5 := hcc 5 _ rfl; simp only [Nat.add_zero] at a0; have HC' := zh HC; generalize hgk : g k = q at HC'; have HGK := zh hgk; have hsz := HB.out.size; have hk1 : (k : Int) < (n : Int) := by omega
   clear hv hcap hcc hc hrow hrl HC hgk; go_wp2_with fail; refine HC'.out.mono ?_; rintro e w' ⟨rfl, hb'⟩; have HB' := zh (HB.out.trans (hb'.mono hsz)); clear hb'
   cases q with
   | true =>
    go_wp2_with fail; go_ret; refine ⟨⟨_, rfl, ?_⟩, HB'.out⟩; have h1 : (List.range n).any g = true := List.any_eq_true.2 ⟨k, List.mem_range.2 hkn, HGK.out⟩; rw [h1]; simp
   | false =>
    go_wp2_with fail
    first
     | (go_roundw
        case rel =>
         go_light
         refine ⟨k + 1, by omega, by go_num, zh (fun j hj => ?_), HB'⟩; rcases Nat.lt_succ_iff_lt_or_eq.1 hj with h | rfl
         ·exact HG.out j h
         ·exact HGK.out
        case measure => go_light; simp [intOf]; omega)
     | (refine ⟨⟨k + 1, by omega, by go_num, zh (fun j hj => ?_), HB'⟩, by simp [intOf]; omega⟩
        rcases Nat.lt_succ_iff_lt_or_eq.1 hj with h | rfl
        ·exact HG.out j h
        ·exact HGK.out)
  ·obtain rfl : k = n := by omega
   go_wp2_with fail; go_ret; refine ⟨⟨_, rfl, ?_⟩, HB.out⟩
   have h1 : (List.range k).any g = false := by
    rw [List.any_eq_false]; intro j hj; rw [HG.out j (List.mem_range.1 hj)]; simp
   rw [h1]; simp

set_option maxHeartbeats 400000 in
theorem contains_Part (v : Value) (rows : List (List Value)) (g : Nat → Bool) (w : World) (hsl : SlAt w v 6 rows) (hlen : ∀ row ∈ rows, row.length = 6) (hn : rows.length < 4294967281)
  (hf : ∀ i row, rows[i]? = some row → ∀ W, Below w.heap.size w W → Calls Tryz.prog 98 #[.agg row.toArray] W fun e w' => e = .returned (.bool (g i)) ∧ Below W.heap.size W w') :
  Calls Tryz.prog 97 #[v, .func (.func 98) #[] #[]] w fun e w' => e = .returned (.bool ((List.range rows.length).any g)) ∧ Below w.heap.size w w' := by
 have HI := zh (index_Part v rows g w hsl hlen hn hf); generalize (List.range rows.length).any g = B at HI; clear hsl hlen hn hf; go_enter Tryz.func97, Tryz.ntmps97
 go_wp2_with fail; refine HI.out.mono ?_; rintro e w' ⟨⟨r, rfl, hr⟩, hb⟩; have HR := zh hr; have HB := zh hb; clear hr hb; go_wp2_with fail; go_ret; exact ⟨zK HR.out, HB.out⟩
end Go.Proofs.YtddnomjfcbplpaaGreatDoor
