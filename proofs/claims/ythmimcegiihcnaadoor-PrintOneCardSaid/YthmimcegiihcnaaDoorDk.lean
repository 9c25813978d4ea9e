/- Layer 8: the walk of print.Same. -/
import Derived.Test.YthmimcegiihcnaaDoorDe
import Derived.Test.YthmimcegiihcnaaDoorDa
import Derived.Test.YthmimcegiihcnaaDoorBY
namespace Go.Proofs.YthmimcegiihcnaaDoor
open Go.RowKit

/-- How an element's cells look. -/
def Shape_Sym (row : List Value) : Prop := ∃ (r0 : ByteArray) (r1 : Bool) (r2 : Int) (r3 : Int), row = [.string r0, .bool r1, .int .i64 r2, .int .i64 r3]
set_option maxRecDepth 100000 in
set_option maxHeartbeats 3200000 in
theorem equal_Sym (v1 v2 : Value) (rows1 rows2 : List (List Value)) (g : Nat → Bool) (w : World) (h1 : SlAt w v1 4 rows1) (h2 : SlAt w v2 4 rows2) (hl1 : ∀ row ∈ rows1, Shape_Sym row) (hl2 : ∀ row ∈ rows2, Shape_Sym row) (hn1 : rows1.length < 4294967281) (hn2 : rows2.length < 4294967281)
    (hf : ∀ i row1 row2, rows1[i]? = some row1 → rows2[i]? = some row2 → ∀ W, Below w.heap.size w W → Calls Tryd.prog 65 #[.agg row1.toArray, .agg row2.toArray] W fun e w' => e = .returned (.bool (g i)) ∧ Below W.heap.size W w') :
    Calls Tryd.prog 64 #[v1, v2, .func (.func 65) #[] #[]] w fun e w' => e = .returned (.bool (decide (rows1.length = rows2.length) && (List.range rows1.length).all g)) ∧ Below w.heap.size w w' := by
  have HS1 := Lib.hid h1; have HS2 := Lib.hid h2
  have HL1 := Lib.hid hl1; have HL2 := Lib.hid hl2
  have HF := Lib.hid hf
  obtain ⟨av1, cap1, rfl⟩ := h1.form
  obtain ⟨av2, cap2, rfl⟩ := h2.form
  generalize hnn : rows1.length = n at *
  generalize hmm : rows2.length = m at *
  have HNN := Lib.hid hnn; have HMM := Lib.hid hmm
  clear h1 h2 hl1 hl2 hf hnn hmm
  by_cases hnm : n = m
  · subst hnm
    have hd : (decide (n = n) && (List.range n).all g) = (List.range n).all g := by simp
    rw [hd]
    clear hd
    go_enter Tryd.func64, Tryd.ntmps64
    go_wp2_with fail
    go_loopw [17] (fun iv wr => ∃ k : Nat, k ≤ n ∧ iv = .int .i64 k ∧ Hid (∀ j, j < k → g j = true) ∧ Hid (Below w.heap.size w wr)) (fun iv _ => n - (intOf iv).toNat)
    case atStart => exact ⟨0, Nat.zero_le _, rfl, Lib.hid (fun j hj => absurd hj (Nat.not_lt_zero _)), Lib.hid (Below.refl _ _)⟩
    case round =>
      obtain ⟨k, hk, rfl, HG, HB⟩ := hrel
      have hk0 : (0 : Int) ≤ (k : Int) := Int.natCast_nonneg _
      by_cases hkn : k < n
      · have hkl1 : k < rows1.length := by have := HNN.out; omega
        have hkl2 : k < rows2.length := by have := HMM.out; omega
        have hrow1 : rows1[k]? = some rows1[k] := List.getElem?_eq_getElem hkl1
        have hrow2 : rows2[k]? = some rows2[k] := List.getElem?_eq_getElem hkl2
        have hrl1 := HL1.out _ (List.mem_of_getElem? hrow1)
        have hrl2 := HL2.out _ (List.mem_of_getElem? hrow2)
        generalize rows1[k] = row1 at hrow1 hrl1
        generalize rows2[k] = row2 at hrow2 hrl2
        obtain ⟨b1, off1, cap1', hv1, hb1, hc1⟩ := HS1.out.some (by intro h; rw [h] at hkl1; simp at hkl1)
        obtain ⟨b2, off2, cap2', hv2, hb2, hc2⟩ := HS2.out.some (by intro h; rw [h] at hkl2; simp at hkl2)
        obtain ⟨rfl, hcap1⟩ : av1 = some ⟨b1, off1, none⟩ ∧ cap1 = cap1' := by have := HNN.out; simpa [this] using hv1
        obtain ⟨rfl, hcap2⟩ : av2 = some ⟨b2, off2, none⟩ ∧ cap2 = cap2' := by have := HMM.out; simpa [this] using hv2
        have hcc1 := fun j u (h : row1[j]? = some u) => (HB.out.cell (p := ⟨b1, _, none⟩) hb1).trans (hc1 k row1 hrow1 j u h)
        have hcc2 := fun j u (h : row2[j]? = some u) => (HB.out.cell (p := ⟨b2, _, none⟩) hb2).trans (hc2 k row2 hrow2 j u h)
        have hsz := HB.out.size
        have HC := fun W (hW : Below wr.heap.size wr W) => HF.out k row1 row2 hrow1 hrow2 W (HB.out.trans (hW.mono hsz))
        generalize hgk : g k = q at HC
        have HGK := Lib.hid hgk
        have HC' := Lib.hid HC
        obtain ⟨r0, r1, r2, r3, rfl⟩ := hrl1
        obtain ⟨s0, s1, s2, s3, rfl⟩ := hrl2
        have x0 := hcc1 0 _ rfl
        have y0 := hcc2 0 _ rfl
        have x1 := hcc1 1 _ rfl
        have y1 := hcc2 1 _ rfl
        have x2 := hcc1 2 _ rfl
        have y2 := hcc2 2 _ rfl
        have x3 := hcc1 3 _ rfl
        have y3 := hcc2 3 _ rfl
        simp only [Nat.add_zero] at x0 y0
        have hk1 : (k : Int) < (n : Int) := by omega
        have hlb1 : b1 < wr.heap.size := by omega
        have hlb2 : b2 < wr.heap.size := by omega
        clear hv1 hv2 hcap1 hcap2 hcc1 hcc2 hc1 hc2 hrow1 hrow2 HC hgk
        go_wp2_with fail
        refine (HC'.out _ (((Below.refl _ wr).alloc (Nat.le_refl _) _).alloc (by simp) _)).mono ?_
        rintro e w' ⟨rfl, hb'⟩
        have HB' := Lib.hid (HB.out.trans (((((Below.refl _ wr).alloc (Nat.le_refl _) _).alloc (by simp) _).trans (hb'.mono (by simp; omega))).mono hsz))
        clear hb'
        cases q with
        | false =>
          go_wp2_with fail
          go_ret
          refine ⟨ret_bool ?_, HB'.out⟩
          symm
          rw [List.all_eq_false]
          exact ⟨k, List.mem_range.2 hkn, by rw [HGK.out]; simp⟩
        | true =>
          go_wp2_with fail
          refine ⟨⟨k + 1, by omega, by go_num, Lib.hid (fun j hj => ?_), HB'⟩, by simp [intOf]; omega⟩
          rcases Nat.lt_succ_iff_lt_or_eq.1 hj with h | rfl
          · exact HG.out j h
          · exact HGK.out
      · obtain rfl : k = n := by omega
        go_wp2_with fail
        go_ret
        refine ⟨ret_bool ?_, HB.out⟩
        symm
        rw [List.all_eq_true]
        intro j hj
        exact HG.out j (List.mem_range.1 hj)
  · have hne : ((n : Int) != (m : Int)) = true := by rw [bne_iff_ne]; omega
    have hd : (decide (n = m) && (List.range n).all g) = false := by simp [hnm]
    rw [hd]
    clear hd hnm
    go_enter Tryd.func64, Tryd.ntmps64
    go_wp2_with fail
    go_ret
    exact ⟨rfl, Below.refl _ _⟩


/-- How an element's cells look. -/
def Shape_Part (row : List Value) : Prop := ∃ (r0 : ByteArray) (r1 : Bool) (r2 : Int) (r3 : Int) (r4 : ByteArray) (r5 : Int), row = [.string r0, .bool r1, .int .i64 r2, .int .i64 r3, .string r4, .int .i64 r5]
set_option maxRecDepth 100000 in
set_option maxHeartbeats 3200000 in
theorem equal_Part (v1 v2 : Value) (rows1 rows2 : List (List Value)) (g : Nat → Bool) (w : World) (h1 : SlAt w v1 6 rows1) (h2 : SlAt w v2 6 rows2) (hl1 : ∀ row ∈ rows1, Shape_Part row) (hl2 : ∀ row ∈ rows2, Shape_Part row) (hn1 : rows1.length < 4294967281) (hn2 : rows2.length < 4294967281)
    (hf : ∀ i row1 row2, rows1[i]? = some row1 → rows2[i]? = some row2 → ∀ W, Below w.heap.size w W → Calls Tryd.prog 93 #[.agg row1.toArray, .agg row2.toArray] W fun e w' => e = .returned (.bool (g i)) ∧ Below W.heap.size W w') :
    Calls Tryd.prog 92 #[v1, v2, .func (.func 93) #[] #[]] w fun e w' => e = .returned (.bool (decide (rows1.length = rows2.length) && (List.range rows1.length).all g)) ∧ Below w.heap.size w w' := by
  have HS1 := Lib.hid h1; have HS2 := Lib.hid h2
  have HL1 := Lib.hid hl1; have HL2 := Lib.hid hl2
  have HF := Lib.hid hf
  obtain ⟨av1, cap1, rfl⟩ := h1.form
  obtain ⟨av2, cap2, rfl⟩ := h2.form
  generalize hnn : rows1.length = n at *
  generalize hmm : rows2.length = m at *
  have HNN := Lib.hid hnn; have HMM := Lib.hid hmm
  clear h1 h2 hl1 hl2 hf hnn hmm
  by_cases hnm : n = m
  · subst hnm
    have hd : (decide (n = n) && (List.range n).all g) = (List.range n).all g := by simp
    rw [hd]
    clear hd
    go_enter Tryd.func92, Tryd.ntmps92
    go_wp2_with fail
    go_loopw [17] (fun iv wr => ∃ k : Nat, k ≤ n ∧ iv = .int .i64 k ∧ Hid (∀ j, j < k → g j = true) ∧ Hid (Below w.heap.size w wr)) (fun iv _ => n - (intOf iv).toNat)
    case atStart => exact ⟨0, Nat.zero_le _, rfl, Lib.hid (fun j hj => absurd hj (Nat.not_lt_zero _)), Lib.hid (Below.refl _ _)⟩
    case round =>
      obtain ⟨k, hk, rfl, HG, HB⟩ := hrel
      have hk0 : (0 : Int) ≤ (k : Int) := Int.natCast_nonneg _
      by_cases hkn : k < n
      · have hkl1 : k < rows1.length := by have := HNN.out; omega
        have hkl2 : k < rows2.length := by have := HMM.out; omega
        have hrow1 : rows1[k]? = some rows1[k] := List.getElem?_eq_getElem hkl1
        have hrow2 : rows2[k]? = some rows2[k] := List.getElem?_eq_getElem hkl2
        have hrl1 := HL1.out _ (List.mem_of_getElem? hrow1)
        have hrl2 := HL2.out _ (List.mem_of_getElem? hrow2)
        generalize rows1[k] = row1 at hrow1 hrl1
        generalize rows2[k] = row2 at hrow2 hrl2
        obtain ⟨b1, off1, cap1', hv1, hb1, hc1⟩ := HS1.out.some (by intro h; rw [h] at hkl1; simp at hkl1)
        obtain ⟨b2, off2, cap2', hv2, hb2, hc2⟩ := HS2.out.some (by intro h; rw [h] at hkl2; simp at hkl2)
        obtain ⟨rfl, hcap1⟩ : av1 = some ⟨b1, off1, none⟩ ∧ cap1 = cap1' := by have := HNN.out; simpa [this] using hv1
        obtain ⟨rfl, hcap2⟩ : av2 = some ⟨b2, off2, none⟩ ∧ cap2 = cap2' := by have := HMM.out; simpa [this] using hv2
        have hcc1 := fun j u (h : row1[j]? = some u) => (HB.out.cell (p := ⟨b1, _, none⟩) hb1).trans (hc1 k row1 hrow1 j u h)
        have hcc2 := fun j u (h : row2[j]? = some u) => (HB.out.cell (p := ⟨b2, _, none⟩) hb2).trans (hc2 k row2 hrow2 j u h)
        have hsz := HB.out.size
        have HC := fun W (hW : Below wr.heap.size wr W) => HF.out k row1 row2 hrow1 hrow2 W (HB.out.trans (hW.mono hsz))
        generalize hgk : g k = q at HC
        have HGK := Lib.hid hgk
        have HC' := Lib.hid HC
        obtain ⟨r0, r1, r2, r3, r4, r5, rfl⟩ := hrl1
        obtain ⟨s0, s1, s2, s3, s4, s5, rfl⟩ := hrl2
        have x0 := hcc1 0 _ rfl
        have y0 := hcc2 0 _ rfl
        have x1 := hcc1 1 _ rfl
        have y1 := hcc2 1 _ rfl
        have x2 := hcc1 2 _ rfl
        have y2 := hcc2 2 _ rfl
        have x3 := hcc1 3 _ rfl
        have y3 := hcc2 3 _ rfl
        have x4 := hcc1 4 _ rfl
        have y4 := hcc2 4 _ rfl
        have x5 := hcc1 5 _ rfl
        have y5 := hcc2 5 _ rfl
        simp only [Nat.add_zero] at x0 y0
        have hk1 : (k : Int) < (n : Int) := by omega
        have hlb1 : b1 < wr.heap.size := by omega
        have hlb2 : b2 < wr.heap.size := by omega
        clear hv1 hv2 hcap1 hcap2 hcc1 hcc2 hc1 hc2 hrow1 hrow2 HC hgk
        go_wp2_with fail
        refine (HC'.out _ (((Below.refl _ wr).alloc (Nat.le_refl _) _).alloc (by simp) _)).mono ?_
        rintro e w' ⟨rfl, hb'⟩
        have HB' := Lib.hid (HB.out.trans (((((Below.refl _ wr).alloc (Nat.le_refl _) _).alloc (by simp) _).trans (hb'.mono (by simp; omega))).mono hsz))
        clear hb'
        cases q with
        | false =>
          go_wp2_with fail
          go_ret
          refine ⟨ret_bool ?_, HB'.out⟩
          symm
          rw [List.all_eq_false]
          exact ⟨k, List.mem_range.2 hkn, by rw [HGK.out]; simp⟩
        | true =>
          go_wp2_with fail
          refine ⟨⟨k + 1, by omega, by go_num, Lib.hid (fun j hj => ?_), HB'⟩, by simp [intOf]; omega⟩
          rcases Nat.lt_succ_iff_lt_or_eq.1 hj with h | rfl
          · exact HG.out j h
          · exact HGK.out
      · obtain rfl : k = n := by omega
        go_wp2_with fail
        go_ret
        refine ⟨ret_bool ?_, HB.out⟩
        symm
        rw [List.all_eq_true]
        intro j hj
        exact HG.out j (List.mem_range.1 hj)
  · have hne : ((n : Int) != (m : Int)) = true := by rw [bne_iff_ne]; omega
    have hd : (decide (n = m) && (List.range n).all g) = false := by simp [hnm]
    rw [hd]
    clear hd hnm
    go_enter Tryd.func92, Tryd.ntmps92
    go_wp2_with fail
    go_ret
    exact ⟨rfl, Below.refl _ _⟩


/-- How an element's cells look. -/
def Shape_Alt (row : List Value) : Prop := ∃ (r0p : Option Addr) (r0n r0c : Nat) (r1 : ByteArray) (r2 : Bool) (r3 : Int) (r4 : Int) (r5 : Int), row = [.slice r0p r0n r0c, .string r1, .bool r2, .int .i64 r3, .int .i64 r4, .int .i64 r5]
set_option maxRecDepth 100000 in
set_option maxHeartbeats 3200000 in
theorem equal_Alt (v1 v2 : Value) (rows1 rows2 : List (List Value)) (g : Nat → Bool) (w : World) (h1 : SlAt w v1 6 rows1) (h2 : SlAt w v2 6 rows2) (hl1 : ∀ row ∈ rows1, Shape_Alt row) (hl2 : ∀ row ∈ rows2, Shape_Alt row) (hn1 : rows1.length < 4294967281) (hn2 : rows2.length < 4294967281)
    (hf : ∀ i row1 row2, rows1[i]? = some row1 → rows2[i]? = some row2 → ∀ W, Below w.heap.size w W → Calls Tryd.prog 68 #[.agg row1.toArray, .agg row2.toArray] W fun e w' => e = .returned (.bool (g i)) ∧ Below W.heap.size W w') :
    Calls Tryd.prog 67 #[v1, v2, .func (.func 68) #[] #[]] w fun e w' => e = .returned (.bool (decide (rows1.length = rows2.length) && (List.range rows1.length).all g)) ∧ Below w.heap.size w w' := by
  have HS1 := Lib.hid h1; have HS2 := Lib.hid h2
  have HL1 := Lib.hid hl1; have HL2 := Lib.hid hl2
  have HF := Lib.hid hf
  obtain ⟨av1, cap1, rfl⟩ := h1.form
  obtain ⟨av2, cap2, rfl⟩ := h2.form
  generalize hnn : rows1.length = n at *
  generalize hmm : rows2.length = m at *
  have HNN := Lib.hid hnn; have HMM := Lib.hid hmm
  clear h1 h2 hl1 hl2 hf hnn hmm
  by_cases hnm : n = m
  · subst hnm
    have hd : (decide (n = n) && (List.range n).all g) = (List.range n).all g := by simp
    rw [hd]
    clear hd
    go_enter Tryd.func67, Tryd.ntmps67
    go_wp2_with fail
    go_loopw [17] (fun iv wr => ∃ k : Nat, k ≤ n ∧ iv = .int .i64 k ∧ Hid (∀ j, j < k → g j = true) ∧ Hid (Below w.heap.size w wr)) (fun iv _ => n - (intOf iv).toNat)
    case atStart => exact ⟨0, Nat.zero_le _, rfl, Lib.hid (fun j hj => absurd hj (Nat.not_lt_zero _)), Lib.hid (Below.refl _ _)⟩
    case round =>
      obtain ⟨k, hk, rfl, HG, HB⟩ := hrel
      have hk0 : (0 : Int) ≤ (k : Int) := Int.natCast_nonneg _
      by_cases hkn : k < n
      · have hkl1 : k < rows1.length := by have := HNN.out; omega
        have hkl2 : k < rows2.length := by have := HMM.out; omega
        have hrow1 : rows1[k]? = some rows1[k] := List.getElem?_eq_getElem hkl1
        have hrow2 : rows2[k]? = some rows2[k] := List.getElem?_eq_getElem hkl2
        have hrl1 := HL1.out _ (List.mem_of_getElem? hrow1)
        have hrl2 := HL2.out _ (List.mem_of_getElem? hrow2)
        generalize rows1[k] = row1 at hrow1 hrl1
        generalize rows2[k] = row2 at hrow2 hrl2
        obtain ⟨b1, off1, cap1', hv1, hb1, hc1⟩ := HS1.out.some (by intro h; rw [h] at hkl1; simp at hkl1)
        obtain ⟨b2, off2, cap2', hv2, hb2, hc2⟩ := HS2.out.some (by intro h; rw [h] at hkl2; simp at hkl2)
        obtain ⟨rfl, hcap1⟩ : av1 = some ⟨b1, off1, none⟩ ∧ cap1 = cap1' := by have := HNN.out; simpa [this] using hv1
        obtain ⟨rfl, hcap2⟩ : av2 = some ⟨b2, off2, none⟩ ∧ cap2 = cap2' := by have := HMM.out; simpa [this] using hv2
        have hcc1 := fun j u (h : row1[j]? = some u) => (HB.out.cell (p := ⟨b1, _, none⟩) hb1).trans (hc1 k row1 hrow1 j u h)
        have hcc2 := fun j u (h : row2[j]? = some u) => (HB.out.cell (p := ⟨b2, _, none⟩) hb2).trans (hc2 k row2 hrow2 j u h)
        have hsz := HB.out.size
        have HC := fun W (hW : Below wr.heap.size wr W) => HF.out k row1 row2 hrow1 hrow2 W (HB.out.trans (hW.mono hsz))
        generalize hgk : g k = q at HC
        have HGK := Lib.hid hgk
        have HC' := Lib.hid HC
        obtain ⟨r0p, r0n, r0c, r1, r2, r3, r4, r5, rfl⟩ := hrl1
        obtain ⟨s0p, s0n, s0c, s1, s2, s3, s4, s5, rfl⟩ := hrl2
        have x0 := hcc1 0 _ rfl
        have y0 := hcc2 0 _ rfl
        have x1 := hcc1 1 _ rfl
        have y1 := hcc2 1 _ rfl
        have x2 := hcc1 2 _ rfl
        have y2 := hcc2 2 _ rfl
        have x3 := hcc1 3 _ rfl
        have y3 := hcc2 3 _ rfl
        have x4 := hcc1 4 _ rfl
        have y4 := hcc2 4 _ rfl
        have x5 := hcc1 5 _ rfl
        have y5 := hcc2 5 _ rfl
        simp only [Nat.add_zero] at x0 y0
        have hk1 : (k : Int) < (n : Int) := by omega
        have hlb1 : b1 < wr.heap.size := by omega
        have hlb2 : b2 < wr.heap.size := by omega
        clear hv1 hv2 hcap1 hcap2 hcc1 hcc2 hc1 hc2 hrow1 hrow2 HC hgk
        go_wp2_with fail
        refine (HC'.out _ (((Below.refl _ wr).alloc (Nat.le_refl _) _).alloc (by simp) _)).mono ?_
        rintro e w' ⟨rfl, hb'⟩
        have HB' := Lib.hid (HB.out.trans (((((Below.refl _ wr).alloc (Nat.le_refl _) _).alloc (by simp) _).trans (hb'.mono (by simp; omega))).mono hsz))
        clear hb'
        cases q with
        | false =>
          go_wp2_with fail
          go_ret
          refine ⟨ret_bool ?_, HB'.out⟩
          symm
          rw [List.all_eq_false]
          exact ⟨k, List.mem_range.2 hkn, by rw [HGK.out]; simp⟩
        | true =>
          go_wp2_with fail
          refine ⟨⟨k + 1, by omega, by go_num, Lib.hid (fun j hj => ?_), HB'⟩, by simp [intOf]; omega⟩
          rcases Nat.lt_succ_iff_lt_or_eq.1 hj with h | rfl
          · exact HG.out j h
          · exact HGK.out
      · obtain rfl : k = n := by omega
        go_wp2_with fail
        go_ret
        refine ⟨ret_bool ?_, HB.out⟩
        symm
        rw [List.all_eq_true]
        intro j hj
        exact HG.out j (List.mem_range.1 hj)
  · have hne : ((n : Int) != (m : Int)) = true := by rw [bne_iff_ne]; omega
    have hd : (decide (n = m) && (List.range n).all g) = false := by simp [hnm]
    rw [hd]
    clear hd hnm
    go_enter Tryd.func67, Tryd.ntmps67
    go_wp2_with fail
    go_ret
    exact ⟨rfl, Below.refl _ _⟩


/-- How an element's cells look. -/
def Shape_Decl (row : List Value) : Prop := ∃ (r0 : Int) (r1 : ByteArray) (r2p : Option Addr) (r2n r2c : Nat) (r3 : Int), row = [.int .i64 r0, .string r1, .slice r2p r2n r2c, .int .i64 r3]
set_option maxRecDepth 100000 in
set_option maxHeartbeats 3200000 in
theorem equal_Decl (v1 v2 : Value) (rows1 rows2 : List (List Value)) (g : Nat → Bool) (w : World) (h1 : SlAt w v1 4 rows1) (h2 : SlAt w v2 4 rows2) (hl1 : ∀ row ∈ rows1, Shape_Decl row) (hl2 : ∀ row ∈ rows2, Shape_Decl row) (hn1 : rows1.length < 4294967281) (hn2 : rows2.length < 4294967281)
    (hf : ∀ i row1 row2, rows1[i]? = some row1 → rows2[i]? = some row2 → ∀ W, Below w.heap.size w W → Calls Tryd.prog 63 #[.agg row1.toArray, .agg row2.toArray] W fun e w' => e = .returned (.bool (g i)) ∧ Below W.heap.size W w') :
    Calls Tryd.prog 69 #[v1, v2, .func (.func 63) #[] #[]] w fun e w' => e = .returned (.bool (decide (rows1.length = rows2.length) && (List.range rows1.length).all g)) ∧ Below w.heap.size w w' := by
  have HS1 := Lib.hid h1; have HS2 := Lib.hid h2
  have HL1 := Lib.hid hl1; have HL2 := Lib.hid hl2
  have HF := Lib.hid hf
  obtain ⟨av1, cap1, rfl⟩ := h1.form
  obtain ⟨av2, cap2, rfl⟩ := h2.form
  generalize hnn : rows1.length = n at *
  generalize hmm : rows2.length = m at *
  have HNN := Lib.hid hnn; have HMM := Lib.hid hmm
  clear h1 h2 hl1 hl2 hf hnn hmm
  by_cases hnm : n = m
  · subst hnm
    have hd : (decide (n = n) && (List.range n).all g) = (List.range n).all g := by simp
    rw [hd]
    clear hd
    go_enter Tryd.func69, Tryd.ntmps69
    go_wp2_with fail
    go_loopw [17] (fun iv wr => ∃ k : Nat, k ≤ n ∧ iv = .int .i64 k ∧ Hid (∀ j, j < k → g j = true) ∧ Hid (Below w.heap.size w wr)) (fun iv _ => n - (intOf iv).toNat)
    case atStart => exact ⟨0, Nat.zero_le _, rfl, Lib.hid (fun j hj => absurd hj (Nat.not_lt_zero _)), Lib.hid (Below.refl _ _)⟩
    case round =>
      obtain ⟨k, hk, rfl, HG, HB⟩ := hrel
      have hk0 : (0 : Int) ≤ (k : Int) := Int.natCast_nonneg _
      by_cases hkn : k < n
      · have hkl1 : k < rows1.length := by have := HNN.out; omega
        have hkl2 : k < rows2.length := by have := HMM.out; omega
        have hrow1 : rows1[k]? = some rows1[k] := List.getElem?_eq_getElem hkl1
        have hrow2 : rows2[k]? = some rows2[k] := List.getElem?_eq_getElem hkl2
        have hrl1 := HL1.out _ (List.mem_of_getElem? hrow1)
        have hrl2 := HL2.out _ (List.mem_of_getElem? hrow2)
        generalize rows1[k] = row1 at hrow1 hrl1
        generalize rows2[k] = row2 at hrow2 hrl2
        obtain ⟨b1, off1, cap1', hv1, hb1, hc1⟩ := HS1.out.some (by intro h; rw [h] at hkl1; simp at hkl1)
        obtain ⟨b2, off2, cap2', hv2, hb2, hc2⟩ := HS2.out.some (by intro h; rw [h] at hkl2; simp at hkl2)
        obtain ⟨rfl, hcap1⟩ : av1 = some ⟨b1, off1, none⟩ ∧ cap1 = cap1' := by have := HNN.out; simpa [this] using hv1
        obtain ⟨rfl, hcap2⟩ : av2 = some ⟨b2, off2, none⟩ ∧ cap2 = cap2' := by have := HMM.out; simpa [this] using hv2
        have hcc1 := fun j u (h : row1[j]? = some u) => (HB.out.cell (p := ⟨b1, _, none⟩) hb1).trans (hc1 k row1 hrow1 j u h)
        have hcc2 := fun j u (h : row2[j]? = some u) => (HB.out.cell (p := ⟨b2, _, none⟩) hb2).trans (hc2 k row2 hrow2 j u h)
        have hsz := HB.out.size
        have HC := fun W (hW : Below wr.heap.size wr W) => HF.out k row1 row2 hrow1 hrow2 W (HB.out.trans (hW.mono hsz))
        generalize hgk : g k = q at HC
        have HGK := Lib.hid hgk
        have HC' := Lib.hid HC
        obtain ⟨r0, r1, r2p, r2n, r2c, r3, rfl⟩ := hrl1
        obtain ⟨s0, s1, s2p, s2n, s2c, s3, rfl⟩ := hrl2
        have x0 := hcc1 0 _ rfl
        have y0 := hcc2 0 _ rfl
        have x1 := hcc1 1 _ rfl
        have y1 := hcc2 1 _ rfl
        have x2 := hcc1 2 _ rfl
        have y2 := hcc2 2 _ rfl
        have x3 := hcc1 3 _ rfl
        have y3 := hcc2 3 _ rfl
        simp only [Nat.add_zero] at x0 y0
        have hk1 : (k : Int) < (n : Int) := by omega
        have hlb1 : b1 < wr.heap.size := by omega
        have hlb2 : b2 < wr.heap.size := by omega
        clear hv1 hv2 hcap1 hcap2 hcc1 hcc2 hc1 hc2 hrow1 hrow2 HC hgk
        go_wp2_with fail
        refine (HC'.out _ (((Below.refl _ wr).alloc (Nat.le_refl _) _).alloc (by simp) _)).mono ?_
        rintro e w' ⟨rfl, hb'⟩
        have HB' := Lib.hid (HB.out.trans (((((Below.refl _ wr).alloc (Nat.le_refl _) _).alloc (by simp) _).trans (hb'.mono (by simp; omega))).mono hsz))
        clear hb'
        cases q with
        | false =>
          go_wp2_with fail
          go_ret
          refine ⟨ret_bool ?_, HB'.out⟩
          symm
          rw [List.all_eq_false]
          exact ⟨k, List.mem_range.2 hkn, by rw [HGK.out]; simp⟩
        | true =>
          go_wp2_with fail
          refine ⟨⟨k + 1, by omega, by go_num, Lib.hid (fun j hj => ?_), HB'⟩, by simp [intOf]; omega⟩
          rcases Nat.lt_succ_iff_lt_or_eq.1 hj with h | rfl
          · exact HG.out j h
          · exact HGK.out
      · obtain rfl : k = n := by omega
        go_wp2_with fail
        go_ret
        refine ⟨ret_bool ?_, HB.out⟩
        symm
        rw [List.all_eq_true]
        intro j hj
        exact HG.out j (List.mem_range.1 hj)
  · have hne : ((n : Int) != (m : Int)) = true := by rw [bne_iff_ne]; omega
    have hd : (decide (n = m) && (List.range n).all g) = false := by simp [hnm]
    rw [hd]
    clear hd hnm
    go_enter Tryd.func69, Tryd.ntmps69
    go_wp2_with fail
    go_ret
    exact ⟨rfl, Below.refl _ _⟩


/-- How an element's cells look. -/
def Shape_Rule (row : List Value) : Prop := ∃ (r0 : ByteArray) (r1p : Option Addr) (r1n r1c : Nat) (r2 : Int), row = [.string r0, .slice r1p r1n r1c, .int .i64 r2]
set_option maxRecDepth 100000 in
set_option maxHeartbeats 3200000 in
theorem equal_Rule (v1 v2 : Value) (rows1 rows2 : List (List Value)) (g : Nat → Bool) (w : World) (h1 : SlAt w v1 3 rows1) (h2 : SlAt w v2 3 rows2) (hl1 : ∀ row ∈ rows1, Shape_Rule row) (hl2 : ∀ row ∈ rows2, Shape_Rule row) (hn1 : rows1.length < 4294967281) (hn2 : rows2.length < 4294967281)
    (hf : ∀ i row1 row2, rows1[i]? = some row1 → rows2[i]? = some row2 → ∀ W, Below w.heap.size w W → Calls Tryd.prog 66 #[.agg row1.toArray, .agg row2.toArray] W fun e w' => e = .returned (.bool (g i)) ∧ Below W.heap.size W w') :
    Calls Tryd.prog 70 #[v1, v2, .func (.func 66) #[] #[]] w fun e w' => e = .returned (.bool (decide (rows1.length = rows2.length) && (List.range rows1.length).all g)) ∧ Below w.heap.size w w' := by
  have HS1 := Lib.hid h1; have HS2 := Lib.hid h2
  have HL1 := Lib.hid hl1; have HL2 := Lib.hid hl2
  have HF := Lib.hid hf
  obtain ⟨av1, cap1, rfl⟩ := h1.form
  obtain ⟨av2, cap2, rfl⟩ := h2.form
  generalize hnn : rows1.length = n at *
  generalize hmm : rows2.length = m at *
  have HNN := Lib.hid hnn; have HMM := Lib.hid hmm
  clear h1 h2 hl1 hl2 hf hnn hmm
  by_cases hnm : n = m
  · subst hnm
    have hd : (decide (n = n) && (List.range n).all g) = (List.range n).all g := by simp
    rw [hd]
    clear hd
    go_enter Tryd.func70, Tryd.ntmps70
    go_wp2_with fail
    go_loopw [17] (fun iv wr => ∃ k : Nat, k ≤ n ∧ iv = .int .i64 k ∧ Hid (∀ j, j < k → g j = true) ∧ Hid (Below w.heap.size w wr)) (fun iv _ => n - (intOf iv).toNat)
    case atStart => exact ⟨0, Nat.zero_le _, rfl, Lib.hid (fun j hj => absurd hj (Nat.not_lt_zero _)), Lib.hid (Below.refl _ _)⟩
    case round =>
      obtain ⟨k, hk, rfl, HG, HB⟩ := hrel
      have hk0 : (0 : Int) ≤ (k : Int) := Int.natCast_nonneg _
      by_cases hkn : k < n
      · have hkl1 : k < rows1.length := by have := HNN.out; omega
        have hkl2 : k < rows2.length := by have := HMM.out; omega
        have hrow1 : rows1[k]? = some rows1[k] := List.getElem?_eq_getElem hkl1
        have hrow2 : rows2[k]? = some rows2[k] := List.getElem?_eq_getElem hkl2
        have hrl1 := HL1.out _ (List.mem_of_getElem? hrow1)
        have hrl2 := HL2.out _ (List.mem_of_getElem? hrow2)
        generalize rows1[k] = row1 at hrow1 hrl1
        generalize rows2[k] = row2 at hrow2 hrl2
        obtain ⟨b1, off1, cap1', hv1, hb1, hc1⟩ := HS1.out.some (by intro h; rw [h] at hkl1; simp at hkl1)
        obtain ⟨b2, off2, cap2', hv2, hb2, hc2⟩ := HS2.out.some (by intro h; rw [h] at hkl2; simp at hkl2)
        obtain ⟨rfl, hcap1⟩ : av1 = some ⟨b1, off1, none⟩ ∧ cap1 = cap1' := by have := HNN.out; simpa [this] using hv1
        obtain ⟨rfl, hcap2⟩ : av2 = some ⟨b2, off2, none⟩ ∧ cap2 = cap2' := by have := HMM.out; simpa [this] using hv2
        have hcc1 := fun j u (h : row1[j]? = some u) => (HB.out.cell (p := ⟨b1, _, none⟩) hb1).trans (hc1 k row1 hrow1 j u h)
        have hcc2 := fun j u (h : row2[j]? = some u) => (HB.out.cell (p := ⟨b2, _, none⟩) hb2).trans (hc2 k row2 hrow2 j u h)
        have hsz := HB.out.size
        have HC := fun W (hW : Below wr.heap.size wr W) => HF.out k row1 row2 hrow1 hrow2 W (HB.out.trans (hW.mono hsz))
        generalize hgk : g k = q at HC
        have HGK := Lib.hid hgk
        have HC' := Lib.hid HC
        obtain ⟨r0, r1p, r1n, r1c, r2, rfl⟩ := hrl1
        obtain ⟨s0, s1p, s1n, s1c, s2, rfl⟩ := hrl2
        have x0 := hcc1 0 _ rfl
        have y0 := hcc2 0 _ rfl
        have x1 := hcc1 1 _ rfl
        have y1 := hcc2 1 _ rfl
        have x2 := hcc1 2 _ rfl
        have y2 := hcc2 2 _ rfl
        simp only [Nat.add_zero] at x0 y0
        have hk1 : (k : Int) < (n : Int) := by omega
        have hlb1 : b1 < wr.heap.size := by omega
        have hlb2 : b2 < wr.heap.size := by omega
        clear hv1 hv2 hcap1 hcap2 hcc1 hcc2 hc1 hc2 hrow1 hrow2 HC hgk
        go_wp2_with fail
        refine (HC'.out _ (((Below.refl _ wr).alloc (Nat.le_refl _) _).alloc (by simp) _)).mono ?_
        rintro e w' ⟨rfl, hb'⟩
        have HB' := Lib.hid (HB.out.trans (((((Below.refl _ wr).alloc (Nat.le_refl _) _).alloc (by simp) _).trans (hb'.mono (by simp; omega))).mono hsz))
        clear hb'
        cases q with
        | false =>
          go_wp2_with fail
          go_ret
          refine ⟨ret_bool ?_, HB'.out⟩
          symm
          rw [List.all_eq_false]
          exact ⟨k, List.mem_range.2 hkn, by rw [HGK.out]; simp⟩
        | true =>
          go_wp2_with fail
          refine ⟨⟨k + 1, by omega, by go_num, Lib.hid (fun j hj => ?_), HB'⟩, by simp [intOf]; omega⟩
          rcases Nat.lt_succ_iff_lt_or_eq.1 hj with h | rfl
          · exact HG.out j h
          · exact HGK.out
      · obtain rfl : k = n := by omega
        go_wp2_with fail
        go_ret
        refine ⟨ret_bool ?_, HB.out⟩
        symm
        rw [List.all_eq_true]
        intro j hj
        exact HG.out j (List.mem_range.1 hj)
  · have hne : ((n : Int) != (m : Int)) = true := by rw [bne_iff_ne]; omega
    have hd : (decide (n = m) && (List.range n).all g) = false := by simp [hnm]
    rw [hd]
    clear hd hnm
    go_enter Tryd.func70, Tryd.ntmps70
    go_wp2_with fail
    go_ret
    exact ⟨rfl, Below.refl _ _⟩

open Go.RowKit

theorem all_range2 {α : Type} (f : α → α → Bool) (g : Nat → Bool) (l m : List α) (hg : ∀ (i : Nat) (x y : α), l[i]? = some x → m[i]? = some y → g i = f x y) : (decide (l.length = m.length) && (List.range l.length).all g) = Sp.all2 f l m := by
  rw [Bool.eq_iff_iff, Sp.all2_take, Bool.and_eq_true, decide_eq_true_iff, List.all_eq_true]
  constructor
  · rintro ⟨h1, h2⟩
    exact ⟨h1, fun i a b ha hb => by rw [← hg i a b ha hb]; exact h2 i (List.mem_range.2 (List.getElem?_eq_some_iff.1 ha).1)⟩
  · rintro ⟨h1, h2⟩
    refine ⟨h1, fun i hi => ?_⟩
    have hi' := List.mem_range.1 hi
    rw [hg i l[i] (m[i]'(by omega)) (List.getElem?_eq_getElem hi') (List.getElem?_eq_getElem (by omega))]
    exact h2 i _ _ (List.getElem?_eq_getElem hi') (List.getElem?_eq_getElem (by omega))

theorem shape_sym (s : Sp.Sym) : Shape_Sym (symC s) := ⟨_, _, _, _, rfl⟩
theorem syms_same (ss ts : List Sp.Sym) (v1 v2 : Value) (w : World) (h1 : SlAt w v1 4 (ss.map symC)) (h2 : SlAt w v2 4 (ts.map symC)) (hn1 : ss.length ≤ 4000) (hn2 : ts.length ≤ 4000) :
    Calls Tryd.prog 64 #[v1, v2, .func (.func 65) #[] #[]] w fun e w' => e = .returned (.bool (Sp.all2 Sp.sameSym ss ts)) ∧ Below w.heap.size w w' := by
  have h := equal_Sym v1 v2 _ _ (fun i => match ss[i]?, ts[i]? with | some a, some b => Sp.sameSym a b | _, _ => true) w h1 h2
    (by intro row hr; simp only [List.mem_map] at hr; obtain ⟨p, _, rfl⟩ := hr; exact shape_sym p)
    (by intro row hr; simp only [List.mem_map] at hr; obtain ⟨p, _, rfl⟩ := hr; exact shape_sym p)
    (by rw [List.length_map]; omega) (by rw [List.length_map]; omega) (fun i row1 row2 hr1 hr2 W hW => by
      rw [List.getElem?_map] at hr1 hr2
      obtain ⟨a, ha, rfl⟩ := Option.map_eq_some_iff.1 hr1
      obtain ⟨b, hb, rfl⟩ := Option.map_eq_some_iff.1 hr2
      simp only [ha, hb]
      exact print_sameSym a b W)
  rw [List.length_map, List.length_map, all_range2 Sp.sameSym _ ss ts (fun i x y hx hy => by simp [hx, hy])] at h
  exact h

set_option maxHeartbeats 1600000 in
theorem print_samePart (s t : Sp.Part) (W : World) :
    Calls Tryd.prog 93 #[partV s, partV t] W fun e w' => e = .returned (.bool (Sp.samePart s t)) ∧ Below W.heap.size W w' := by
  have HS := Lib.hid (fun w => print_sameSym s.sym t.sym w)
  have hq : Sp.samePart s t = (Sp.sameSym s.sym t.sym && (s.code == t.code)) := rfl
  rw [hq]
  generalize Sp.sameSym s.sym t.sym = q at HS
  obtain ⟨⟨nm, lt, nu, pa⟩, cd, pb⟩ := s
  obtain ⟨⟨nm2, lt2, nu2, pa2⟩, cd2, pb2⟩ := t
  clear hq
  show Calls _ _ #[.agg #[.string ⟨nm.toArray⟩, .bool lt, .int .i64 nu, .int .i64 pa, .string ⟨cd.toArray⟩, .int .i64 pb], .agg #[.string ⟨nm2.toArray⟩, .bool lt2, .int .i64 nu2, .int .i64 pa2, .string ⟨cd2.toArray⟩, .int .i64 pb2]] _ _
  go_enter Tryd.func93, Tryd.ntmps93
  go_wp2_with fail
  refine (HS.out _).mono ?_
  rintro e w1 ⟨rfl, hb1⟩
  have hF1 := (hb1.block W.heap.size (by simp; omega)).trans (heap_old (heap_last W _) _)
  have h2 := heap_last (W.alloc (.cells #[.string ⟨nm.toArray⟩, .bool lt, .int .i64 nu, .int .i64 pa, .string ⟨cd.toArray⟩, .int .i64 pb] 46)) (.cells #[.string ⟨nm2.toArray⟩, .bool lt2, .int .i64 nu2, .int .i64 pa2, .string ⟨cd2.toArray⟩, .int .i64 pb2] 46)
  simp only [World.size_alloc] at h2
  have hF2 := (hb1.block (W.heap.size + 1) (by simp)).trans h2
  have x4 := cell_at (i := 4) hF1
  have y4 := cell_at (i := 4) hF2
  have hl1 := lt_at hF1; have hl2 := lt_at hF2
  have HB1 := Lib.hid ((((Below.refl _ W).alloc (Nat.le_refl _) _).alloc (by simp) _).trans (hb1.mono (by simp; omega)))
  clear hb1 hF1 hF2 h2
  cases q with
  | false =>
    go_wp2_with fail
    go_ret
    exact ⟨rfl, HB1.out⟩
  | true =>
    go_wp2_with fail
    go_ret
    exact ⟨ret_bool (by simp), HB1.out⟩

theorem parts_same (ss ts : List Sp.Part) (v1 v2 : Value) (w : World) (h1 : SlAt w v1 6 (ss.map partC)) (h2 : SlAt w v2 6 (ts.map partC)) (hn1 : ss.length ≤ 4000) (hn2 : ts.length ≤ 4000) :
    Calls Tryd.prog 92 #[v1, v2, .func (.func 93) #[] #[]] w fun e w' => e = .returned (.bool (Sp.all2 Sp.samePart ss ts)) ∧ Below w.heap.size w w' := by
  have h := equal_Part v1 v2 _ _ (fun i => match ss[i]?, ts[i]? with | some a, some b => Sp.samePart a b | _, _ => true) w h1 h2
    (by intro row hr; simp only [List.mem_map] at hr; obtain ⟨p, _, rfl⟩ := hr; exact ⟨_, _, _, _, _, _, rfl⟩)
    (by intro row hr; simp only [List.mem_map] at hr; obtain ⟨p, _, rfl⟩ := hr; exact ⟨_, _, _, _, _, _, rfl⟩)
    (by rw [List.length_map]; omega) (by rw [List.length_map]; omega) (fun i row1 row2 hr1 hr2 W hW => by
      rw [List.getElem?_map] at hr1 hr2
      obtain ⟨a, ha, rfl⟩ := Option.map_eq_some_iff.1 hr1
      obtain ⟨b, hb, rfl⟩ := Option.map_eq_some_iff.1 hr2
      simp only [ha, hb]
      exact print_samePart a b W)
  rw [List.length_map, List.length_map, all_range2 Sp.samePart _ ss ts (fun i x y hx hy => by simp [hx, hy])] at h
  exact h

/-- The second box, behind the first. -/
theorem heap_two (w : World) (o1 o2 : Obj) : ((w.alloc o1).alloc o2).heap[w.heap.size + 1]? = some o2 := by
  have h := heap_last (w.alloc o1) o2
  simp only [World.size_alloc] at h
  exact h
set_option maxHeartbeats 1600000 in
theorem print_sameAlt (s t : Sp.Alt) (v1 v2 : Value) (W : World) (h1 : SlAt W v1 6 (s.parts.map partC)) (h2 : SlAt W v2 6 (t.parts.map partC)) (hn1 : s.parts.length ≤ 4000) (hn2 : t.parts.length ≤ 4000) :
    Calls Tryd.prog 68 #[.agg (altC v1 s).toArray, .agg (altC v2 t).toArray] W fun e w' => e = .returned (.bool (Sp.sameAlt s t)) ∧ Below W.heap.size W w' := by
  have HS := Lib.hid (fun w => print_sameSym s.prec t.prec w)
  have HP := Lib.hid (fun w' (hb : Below W.heap.size W w') => parts_same s.parts t.parts v1 v2 w' (h1.below hb) (h2.below hb) hn1 hn2)
  have hq : Sp.sameAlt s t = (Sp.sameSym s.prec t.prec && Sp.all2 Sp.samePart s.parts t.parts) := rfl
  rw [hq]
  generalize Sp.sameSym s.prec t.prec = q at HS
  generalize Sp.all2 Sp.samePart s.parts t.parts = q2 at HP
  obtain ⟨a1, c1, rfl⟩ := h1.form
  obtain ⟨a2, c2, rfl⟩ := h2.form
  obtain ⟨ps, ⟨nm, lt, nu, pa⟩, pb⟩ := s
  obtain ⟨qs, ⟨nm2, lt2, nu2, pa2⟩, pb2⟩ := t
  clear hq h1 h2 hn1 hn2
  generalize (ps.map partC).length = n1 at *
  generalize (qs.map partC).length = n2 at *
  show Calls _ _ #[.agg #[.slice a1 n1 c1, .string ⟨nm.toArray⟩, .bool lt, .int .i64 nu, .int .i64 pa, .int .i64 pb], .agg #[.slice a2 n2 c2, .string ⟨nm2.toArray⟩, .bool lt2, .int .i64 nu2, .int .i64 pa2, .int .i64 pb2]] _ _
  go_enter Tryd.func68, Tryd.ntmps68
  go_wp2_with fail
  refine (HS.out _).mono ?_
  rintro e w1 ⟨rfl, hb1⟩
  have hF1 := (hb1.block W.heap.size (by simp; omega)).trans (heap_old (heap_last W _) _)
  have hF2 := (hb1.block (W.heap.size + 1) (by simp)).trans (heap_two W _ _)
  have x0 := cell_at (i := 0) hF1
  have y0 := cell_at (i := 0) hF2
  have hl1 := lt_at hF1; have hl2 := lt_at hF2
  have HB1 := Lib.hid ((((Below.refl _ W).alloc (Nat.le_refl _) _).alloc (by simp) _).trans (hb1.mono (by simp; omega)))
  clear hb1 hF1 hF2
  cases q with
  | false =>
    go_wp2_with fail
    go_ret
    exact ⟨rfl, HB1.out⟩
  | true =>
    go_wp2_with fail
    refine (HP.out _ HB1.out).mono ?_
    rintro e w2 ⟨rfl, hb2⟩
    have HB2 := Lib.hid (HB1.out.trans (hb2.mono HB1.out.size))
    clear hb2
    go_wp2_with fail
    go_ret
    exact ⟨ret_bool (by simp), HB2.out⟩
theorem alts_same (ss ts : List Sp.Alt) (v1 v2 : Value) (w : World) (h1 : AltsAt w v1 ss) (h2 : AltsAt w v2 ts) (hn1 : ss.length ≤ 4000) (hn2 : ts.length ≤ 4000) (hm1 : ∀ a ∈ ss, a.parts.length ≤ 4000) (hm2 : ∀ a ∈ ts, a.parts.length ≤ 4000) :
    Calls Tryd.prog 67 #[v1, v2, .func (.func 68) #[] #[]] w fun e w' => e = .returned (.bool (Sp.all2 Sp.sameAlt ss ts)) ∧ Below w.heap.size w w' := by
  obtain ⟨f1, h1, h1'⟩ := h1
  obtain ⟨f2, h2, h2'⟩ := h2
  have h := equal_Alt v1 v2 _ _ (fun i => match ss[i]?, ts[i]? with | some a, some b => Sp.sameAlt a b | _, _ => true) w h1 h2
    (by intro row hr; rw [List.mem_iff_getElem?] at hr; obtain ⟨i, hi⟩ := hr; rw [List.getElem?_mapIdx] at hi; obtain ⟨a, ha, rfl⟩ := Option.map_eq_some_iff.1 hi; obtain ⟨x, c, hx⟩ := (h1' i a ha).form; rw [hx]; exact ⟨_, _, _, _, _, _, _, _, rfl⟩)
    (by intro row hr; rw [List.mem_iff_getElem?] at hr; obtain ⟨i, hi⟩ := hr; rw [List.getElem?_mapIdx] at hi; obtain ⟨a, ha, rfl⟩ := Option.map_eq_some_iff.1 hi; obtain ⟨x, c, hx⟩ := (h2' i a ha).form; rw [hx]; exact ⟨_, _, _, _, _, _, _, _, rfl⟩)
    (by rw [List.length_mapIdx]; omega) (by rw [List.length_mapIdx]; omega) (fun i row1 row2 hr1 hr2 W hW => by
      rw [List.getElem?_mapIdx] at hr1 hr2
      obtain ⟨a, ha, rfl⟩ := Option.map_eq_some_iff.1 hr1
      obtain ⟨b, hb, rfl⟩ := Option.map_eq_some_iff.1 hr2
      simp only [ha, hb]
      exact print_sameAlt a b _ _ W ((h1' i a ha).below hW) ((h2' i b hb).below hW) (hm1 a (List.mem_of_getElem? ha)) (hm2 b (List.mem_of_getElem? hb)))
  rw [List.length_mapIdx, List.length_mapIdx, all_range2 Sp.sameAlt _ ss ts (fun i x y hx hy => by simp [hx, hy])] at h
  exact h

def smallR (r : Sp.Rule) : Prop := r.alts.length ≤ 4000 ∧ ∀ a ∈ r.alts, a.parts.length ≤ 4000
set_option maxHeartbeats 1600000 in
theorem print_Same2 (s t : Sp.Rule) (v1 v2 : Value) (W : World) (h1 : AltsAt W v1 s.alts) (h2 : AltsAt W v2 t.alts) (hn1 : smallR s) (hn2 : smallR t) :
    Calls Tryd.prog 66 #[.agg (ruleC v1 s).toArray, .agg (ruleC v2 t).toArray] W fun e w' => e = .returned (.bool (Sp.sameRule s t)) ∧ Below W.heap.size W w' := by
  have HP := Lib.hid (fun w' (hb : Below W.heap.size W w') => alts_same s.alts t.alts v1 v2 w' (h1.below hb) (h2.below hb) hn1.1 hn2.1 hn1.2 hn2.2)
  have hq : Sp.sameRule s t = ((s.left == t.left) && Sp.all2 Sp.sameAlt s.alts t.alts) := rfl
  rw [hq]
  generalize Sp.all2 Sp.sameAlt s.alts t.alts = q2 at HP
  obtain ⟨a1, c1, rfl⟩ := h1.form
  obtain ⟨a2, c2, rfl⟩ := h2.form
  obtain ⟨lf, al, pb⟩ := s
  obtain ⟨lf2, al2, pb2⟩ := t
  clear hq h1 h2 hn1 hn2
  generalize al.length = n1 at *
  generalize al2.length = n2 at *
  have HB2 := Lib.hid (fun o1 o2 : Obj => ((Below.refl _ W).alloc (Nat.le_refl _) o1).alloc (by simp) o2)
  show Calls _ _ #[.agg #[.string ⟨lf.toArray⟩, .slice a1 n1 c1, .int .i64 pb], .agg #[.string ⟨lf2.toArray⟩, .slice a2 n2 c2, .int .i64 pb2]] _ _
  cases hl : (lf == lf2) with
  | false =>
    go_enter Tryd.func66, Tryd.ntmps66
    go_wp2_with fail
    go_ret
    exact ⟨rfl, HB2.out _ _⟩
  | true =>
    go_enter Tryd.func66, Tryd.ntmps66
    go_wp2_with fail
    refine (HP.out _ (HB2.out _ _)).mono ?_
    rintro e w2 ⟨rfl, hb2⟩
    have HB3 := Lib.hid ((HB2.out _ _).trans (hb2.mono (by simp; omega)))
    clear hb2
    go_wp2_with fail
    go_ret
    exact ⟨ret_bool (by simp), HB3.out⟩
def smallD (d : Sp.Decl) : Prop := d.syms.length ≤ 4000
set_option maxHeartbeats 1600000 in
theorem print_Same1 (s t : Sp.Decl) (v1 v2 : Value) (W : World) (h1 : SlAt W v1 4 (s.syms.map symC)) (h2 : SlAt W v2 4 (t.syms.map symC)) (hn1 : smallD s) (hn2 : smallD t) :
    Calls Tryd.prog 63 #[.agg (declC v1 s).toArray, .agg (declC v2 t).toArray] W fun e w' => e = .returned (.bool (Sp.sameDecl s t)) ∧ Below W.heap.size W w' := by
  have HP := Lib.hid (fun w' (hb : Below W.heap.size W w') => syms_same s.syms t.syms v1 v2 w' (h1.below hb) (h2.below hb) hn1 hn2)
  have hq : Sp.sameDecl s t = ((s.kind == t.kind) && (s.tag == t.tag) && Sp.all2 Sp.sameSym s.syms t.syms) := rfl
  rw [hq]
  generalize Sp.all2 Sp.sameSym s.syms t.syms = q2 at HP
  obtain ⟨a1, c1, rfl⟩ := h1.form
  obtain ⟨a2, c2, rfl⟩ := h2.form
  obtain ⟨kd, tg, sy, pb⟩ := s
  obtain ⟨kd2, tg2, sy2, pb2⟩ := t
  clear hq h1 h2 hn1 hn2
  generalize (sy.map symC).length = n1 at *
  generalize (sy2.map symC).length = n2 at *
  have HB2 := Lib.hid (fun o1 o2 : Obj => ((Below.refl _ W).alloc (Nat.le_refl _) o1).alloc (by simp) o2)
  show Calls _ _ #[.agg #[.int .i64 kd, .string ⟨tg.toArray⟩, .slice a1 n1 c1, .int .i64 pb], .agg #[.int .i64 kd2, .string ⟨tg2.toArray⟩, .slice a2 n2 c2, .int .i64 pb2]] _ _
  cases hk : (kd == kd2) with
  | false =>
    go_enter Tryd.func63, Tryd.ntmps63
    go_wp2_with fail
    go_ret
    exact ⟨rfl, HB2.out _ _⟩
  | true =>
    cases hl : (tg == tg2) with
    | false =>
      go_enter Tryd.func63, Tryd.ntmps63
      go_wp2_with fail
      go_ret
      exact ⟨rfl, HB2.out _ _⟩
    | true =>
      go_enter Tryd.func63, Tryd.ntmps63
      go_wp2_with fail
      refine (HP.out _ (HB2.out _ _)).mono ?_
      rintro e w2 ⟨rfl, hb2⟩
      have HB3 := Lib.hid ((HB2.out _ _).trans (hb2.mono (by simp; omega)))
      clear hb2
      go_wp2_with fail
      go_ret
      exact ⟨ret_bool (by simp), HB3.out⟩
theorem rules_same (ss ts : List Sp.Rule) (v1 v2 : Value) (w : World) (h1 : RulesAt w v1 ss) (h2 : RulesAt w v2 ts) (hn1 : ss.length ≤ 4000) (hn2 : ts.length ≤ 4000) (hm1 : ∀ a ∈ ss, smallR a) (hm2 : ∀ a ∈ ts, smallR a) :
    Calls Tryd.prog 70 #[v1, v2, .func (.func 66) #[] #[]] w fun e w' => e = .returned (.bool (Sp.all2 Sp.sameRule ss ts)) ∧ Below w.heap.size w w' := by
  obtain ⟨f1, h1, h1'⟩ := h1
  obtain ⟨f2, h2, h2'⟩ := h2
  have h := equal_Rule v1 v2 _ _ (fun i => match ss[i]?, ts[i]? with | some a, some b => Sp.sameRule a b | _, _ => true) w h1 h2
    (by intro row hr; rw [List.mem_iff_getElem?] at hr; obtain ⟨i, hi⟩ := hr; rw [List.getElem?_mapIdx] at hi; obtain ⟨a, ha, rfl⟩ := Option.map_eq_some_iff.1 hi; obtain ⟨x, c, hx⟩ := (h1' i a ha).form; rw [hx]; exact ⟨_, _, _, _, _, rfl⟩)
    (by intro row hr; rw [List.mem_iff_getElem?] at hr; obtain ⟨i, hi⟩ := hr; rw [List.getElem?_mapIdx] at hi; obtain ⟨a, ha, rfl⟩ := Option.map_eq_some_iff.1 hi; obtain ⟨x, c, hx⟩ := (h2' i a ha).form; rw [hx]; exact ⟨_, _, _, _, _, rfl⟩)
    (by rw [List.length_mapIdx]; omega) (by rw [List.length_mapIdx]; omega) (fun i row1 row2 hr1 hr2 W hW => by
      rw [List.getElem?_mapIdx] at hr1 hr2
      obtain ⟨a, ha, rfl⟩ := Option.map_eq_some_iff.1 hr1
      obtain ⟨b, hb, rfl⟩ := Option.map_eq_some_iff.1 hr2
      simp only [ha, hb]
      exact print_Same2 a b _ _ W ((h1' i a ha).below hW) ((h2' i b hb).below hW) (hm1 a (List.mem_of_getElem? ha)) (hm2 b (List.mem_of_getElem? hb)))
  rw [List.length_mapIdx, List.length_mapIdx, all_range2 Sp.sameRule _ ss ts (fun i x y hx hy => by simp [hx, hy])] at h
  exact h
theorem decls_same (ss ts : List Sp.Decl) (v1 v2 : Value) (w : World) (h1 : DeclsAt w v1 ss) (h2 : DeclsAt w v2 ts) (hn1 : ss.length ≤ 4000) (hn2 : ts.length ≤ 4000) (hm1 : ∀ a ∈ ss, smallD a) (hm2 : ∀ a ∈ ts, smallD a) :
    Calls Tryd.prog 69 #[v1, v2, .func (.func 63) #[] #[]] w fun e w' => e = .returned (.bool (Sp.all2 Sp.sameDecl ss ts)) ∧ Below w.heap.size w w' := by
  obtain ⟨f1, h1, h1'⟩ := h1
  obtain ⟨f2, h2, h2'⟩ := h2
  have h := equal_Decl v1 v2 _ _ (fun i => match ss[i]?, ts[i]? with | some a, some b => Sp.sameDecl a b | _, _ => true) w h1 h2
    (by intro row hr; rw [List.mem_iff_getElem?] at hr; obtain ⟨i, hi⟩ := hr; rw [List.getElem?_mapIdx] at hi; obtain ⟨a, ha, rfl⟩ := Option.map_eq_some_iff.1 hi; obtain ⟨x, c, hx⟩ := (h1' i a ha).form; rw [hx]; exact ⟨_, _, _, _, _, _, rfl⟩)
    (by intro row hr; rw [List.mem_iff_getElem?] at hr; obtain ⟨i, hi⟩ := hr; rw [List.getElem?_mapIdx] at hi; obtain ⟨a, ha, rfl⟩ := Option.map_eq_some_iff.1 hi; obtain ⟨x, c, hx⟩ := (h2' i a ha).form; rw [hx]; exact ⟨_, _, _, _, _, _, rfl⟩)
    (by rw [List.length_mapIdx]; omega) (by rw [List.length_mapIdx]; omega) (fun i row1 row2 hr1 hr2 W hW => by
      rw [List.getElem?_mapIdx] at hr1 hr2
      obtain ⟨a, ha, rfl⟩ := Option.map_eq_some_iff.1 hr1
      obtain ⟨b, hb, rfl⟩ := Option.map_eq_some_iff.1 hr2
      simp only [ha, hb]
      exact print_Same1 a b _ _ W ((h1' i a ha).below hW) ((h2' i b hb).below hW) (hm1 a (List.mem_of_getElem? ha)) (hm2 b (List.mem_of_getElem? hb)))
  rw [List.length_mapIdx, List.length_mapIdx, all_range2 Sp.sameDecl _ ss ts (fun i x y hx hy => by simp [hx, hy])] at h
  exact h

def smallSame (x : Sp.Source) : Prop := x.decls.length ≤ 4000 ∧ x.rules.length ≤ 4000 ∧ (∀ d ∈ x.decls, smallD d) ∧ ∀ r ∈ x.rules, smallR r
set_option maxHeartbeats 3200000 in
theorem print_Same (s t : Sp.Source) (d1 r1 d2 r2 : Value) (W : World) (hd1 : DeclsAt W d1 s.decls) (hr1 : RulesAt W r1 s.rules) (hd2 : DeclsAt W d2 t.decls) (hr2 : RulesAt W r2 t.rules) (hn1 : smallSame s) (hn2 : smallSame t) :
    Calls Tryd.prog 34 #[.agg (srcC d1 r1 s).toArray, .agg (srcC d2 r2 t).toArray] W fun e w' => e = .returned (.bool (Sp.same s t)) ∧ Below W.heap.size W w' := by
  have HD := Lib.hid (fun w' (hb : Below W.heap.size W w') => decls_same s.decls t.decls d1 d2 w' (hd1.below hb) (hd2.below hb) hn1.1 hn2.1 hn1.2.2.1 hn2.2.2.1)
  have HR := Lib.hid (fun w' (hb : Below W.heap.size W w') => rules_same s.rules t.rules r1 r2 w' (hr1.below hb) (hr2.below hb) hn1.2.1 hn2.2.1 hn1.2.2.2 hn2.2.2.2)
  have hq : Sp.same s t = ((s.pro == t.pro) && (s.tail == t.tail) && Sp.all2 Sp.sameDecl s.decls t.decls && Sp.all2 Sp.sameRule s.rules t.rules) := rfl
  rw [hq]
  generalize Sp.all2 Sp.sameDecl s.decls t.decls = q3 at HD
  generalize Sp.all2 Sp.sameRule s.rules t.rules = q4 at HR
  obtain ⟨a1, c1, rfl⟩ := hd1.form
  obtain ⟨a2, c2, rfl⟩ := hd2.form
  obtain ⟨a3, c3, rfl⟩ := hr1.form
  obtain ⟨a4, c4, rfl⟩ := hr2.form
  obtain ⟨pr, ds, rs, tl⟩ := s
  obtain ⟨pr2, ds2, rs2, tl2⟩ := t
  clear hq hd1 hr1 hd2 hr2 hn1 hn2
  generalize ds.length = n1 at *
  generalize ds2.length = n2 at *
  generalize rs.length = n3 at *
  generalize rs2.length = n4 at *
  have HB2 := Lib.hid (fun o1 o2 : Obj => ((Below.refl _ W).alloc (Nat.le_refl _) o1).alloc (by simp) o2)
  show Calls _ _ #[.agg #[.string ⟨pr.toArray⟩, .slice a1 n1 c1, .slice a3 n3 c3, .string ⟨tl.toArray⟩], .agg #[.string ⟨pr2.toArray⟩, .slice a2 n2 c2, .slice a4 n4 c4, .string ⟨tl2.toArray⟩]] _ _
  cases hp : (pr == pr2) with
  | false =>
    go_enter Tryd.func34, Tryd.ntmps34
    go_wp2_with fail
    go_ret
    exact ⟨rfl, HB2.out _ _⟩
  | true =>
    cases ht : (tl == tl2) with
    | false =>
      go_enter Tryd.func34, Tryd.ntmps34
      go_wp2_with fail
      go_ret
      exact ⟨rfl, HB2.out _ _⟩
    | true =>
      go_enter Tryd.func34, Tryd.ntmps34
      go_wp2_with fail
      refine (HD.out _ (HB2.out _ _)).mono ?_
      rintro e w2 ⟨rfl, hb2⟩
      have hF1 := (hb2.block W.heap.size (by simp; omega)).trans (heap_old (heap_last W _) _)
      have hF2 := (hb2.block (W.heap.size + 1) (by simp)).trans (heap_two W _ _)
      have x2 := cell_at (i := 2) hF1
      have y2 := cell_at (i := 2) hF2
      have hl1 := lt_at hF1; have hl2 := lt_at hF2
      have HB3 := Lib.hid ((HB2.out _ _).trans (hb2.mono (by simp; omega)))
      clear hb2 hF1 hF2
      cases q3 with
      | false =>
        go_wp2_with fail
        go_ret
        exact ⟨rfl, HB3.out⟩
      | true =>
        go_wp2_with fail
        refine (HR.out _ HB3.out).mono ?_
        rintro e w3 ⟨rfl, hb3⟩
        have HB4 := Lib.hid (HB3.out.trans (hb3.mono HB3.out.size))
        clear hb3
        go_wp2_with fail
        go_ret
        exact ⟨ret_bool (by simp), HB4.out⟩
end Go.Proofs.YthmimcegiihcnaaDoor
