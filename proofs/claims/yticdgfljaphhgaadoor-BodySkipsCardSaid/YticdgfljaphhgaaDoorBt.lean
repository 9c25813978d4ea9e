/- The walk of BodySkips. -/
import Derived.Test.YticdgfljaphhgaaDoorBr
import Derived.Test.YticdgfljaphhgaaDoorSpF
namespace Go.Proofs.YticdgfljaphhgaaDoor
open Go.RowKit

def skipX : List UInt8 := [123, 125, 125, 36, 49, 32, 36, 36]
theorem skipX_tame : ∀ c ∈ skipX, Sp.tame c = true := by decide
/-- What the law's code is cut into. -/
theorem skips_code (j : Nat) (S : ByteArray) (t : List UInt8) (ht : ∀ c ∈ t, Sp.tame c = true) (hS : S.data.toList = 123 :: (Sp.ahead j ++ ((t ++ skipX) ++ (Sp.behind j ++ [36, 50, 125])))) :
    Sp.endAt S.data.toList 0 = (S.size : Nat) ∧ ∃ X, Sp.cut S.data.toList = ([⟨1, X, 0, []⟩, ⟨3, [], 2, []⟩, ⟨1, [125], 0, []⟩], 0) := by
  have hy : ∀ c ∈ t ++ skipX, Sp.tame c = true := by
    intro c hc
    rw [List.mem_append] at hc
    exact hc.elim (ht c) (skipX_tame c)
  obtain ⟨P, R, h1, h2, h3, h4⟩ := Sp.passLen_tame j (t ++ skipX) [36, 50, 125] hy
  rw [h1] at hS
  rw [size_list hS, hS]
  exact Sp.cut_skip P R h3 h4 h2
theorem ext_one (s : ByteArray) (i : Nat) (h : i < s.size) : (s.extract i (i + 1)).data.toList = [s[i]] := by
  have hd := drop_at s i h
  rw [Lib.extract_eq]
  simp only [hd, show i + 1 - i = 1 by omega]
  simp

theorem skips_calls (j : Nat) (a b T : ByteArray) (ha : a.data.toList = Sp.ahead j) (hb : b.data.toList = Sp.behind j) (hT : T.size ≤ 40) (ht : ∀ c ∈ T.data.toList, Sp.tame c = true) (ha2 : a.size ≤ 2) (hb2 : b.size ≤ 2) :
    ∃ X, Hid (∀ W, Gl W → Calls Tryd.prog 22 #[.string (⟨#[123]⟩ ++ a ++ T ++ ⟨#[123, 125, 125, 36, 49, 32, 36, 36]⟩ ++ b ++ ⟨#[36, 50, 125]⟩)] W (CutPost ([⟨1, X, 0, []⟩, ⟨3, [], 2, []⟩, ⟨1, [125], 0, []⟩], 0) W)) ∧
      Hid (∀ W, Gl W → Calls Tryd.prog 17 #[.string (⟨#[123]⟩ ++ a ++ T ++ ⟨#[123, 125, 125, 36, 49, 32, 36, 36]⟩ ++ b ++ ⟨#[36, 50, 125]⟩), .int .i64 0] W fun e w' => e = .returned (.int .i64 ((⟨#[123]⟩ ++ a ++ T ++ ⟨#[123, 125, 125, 36, 49, 32, 36, 36]⟩ ++ b ++ ⟨#[36, 50, 125]⟩ : ByteArray).size : Nat)) ∧ ∃ n, w' = W.drewN n) := by
  have hs : (⟨#[123]⟩ ++ a ++ T ++ ⟨#[123, 125, 125, 36, 49, 32, 36, 36]⟩ ++ b ++ ⟨#[36, 50, 125]⟩ : ByteArray).size < 4294967281 := by
    simp only [ByteArray.size_append]
    show 1 + a.size + T.size + 8 + b.size + 3 < _
    omega
  have hl : (⟨#[123]⟩ ++ a ++ T ++ ⟨#[123, 125, 125, 36, 49, 32, 36, 36]⟩ ++ b ++ ⟨#[36, 50, 125]⟩ : ByteArray).data.toList = 123 :: (Sp.ahead j ++ ((T.data.toList ++ skipX) ++ (Sp.behind j ++ [36, 50, 125]))) := by
    rw [← ha, ← hb]
    simp [skipX]
  generalize (⟨#[123]⟩ ++ a ++ T ++ ⟨#[123, 125, 125, 36, 49, 32, 36, 36]⟩ ++ b ++ ⟨#[36, 50, 125]⟩ : ByteArray) = S at *
  obtain ⟨h1, X, h2⟩ := skips_code j S T.data.toList ht hl
  refine ⟨X, Lib.hid fun W hW => ?_, Lib.hid fun W hW => ?_⟩
  · have h := body_Cut S W hs hW
    rw [h2] at h
    exact h
  · have h := body_End S 0 W hs hW
    rw [h1] at h
    exact h

/-- The law's table: five rows of two texts, and the row of rows. -/
def chainW (w1 : World) : World :=
  ((((((w1.alloc (.cells #[.string ⟨#[34]⟩, .string ⟨#[34]⟩] 9)).alloc (.cells #[.string ⟨#[39]⟩, .string ⟨#[39]⟩] 9)).alloc (.cells #[.string ⟨#[96]⟩, .string ⟨#[96]⟩] 9)).alloc
    (.cells #[.string ⟨#[47, 47]⟩, .string ⟨#[10]⟩] 9)).alloc (.cells #[.string ⟨#[47, 42]⟩, .string ⟨#[42, 47]⟩] 9)).alloc
    (.cells #[.slice (some ⟨w1.heap.size, 0, none⟩) 2 2, .slice (some ⟨w1.heap.size + 1, 0, none⟩) 2 2, .slice (some ⟨w1.heap.size + 1 + 1, 0, none⟩) 2 2, .slice (some ⟨w1.heap.size + 1 + 1 + 1, 0, none⟩) 2 2, .slice (some ⟨w1.heap.size + 1 + 1 + 1 + 1, 0, none⟩) 2 2] 40))
theorem chainW_below (w1 : World) : Below w1.heap.size w1 (chainW w1) := by
  unfold chainW
  refine ((((((Below.refl _ _).alloc ?_ _).alloc ?_ _).alloc ?_ _).alloc ?_ _).alloc ?_ _).alloc ?_ _
  all_goals first | (simp; done) | (simp; omega)
theorem heap_alloc_push (w : World) (o : Obj) : (w.alloc o).heap = w.heap.push o := rfl
theorem chainW_cells (w1 : World) :
    ((chainW w1).cell? ⟨w1.heap.size + 1 + 1 + 1 + 1 + 1, 0, none⟩ = some (.slice (some ⟨w1.heap.size, 0, none⟩) 2 2) ∧ (chainW w1).cell? ⟨w1.heap.size, 0, none⟩ = some (.string ⟨#[34]⟩) ∧ (chainW w1).cell? ⟨w1.heap.size, 1, none⟩ = some (.string ⟨#[34]⟩)) ∧
    ((chainW w1).cell? ⟨w1.heap.size + 1 + 1 + 1 + 1 + 1, 1, none⟩ = some (.slice (some ⟨w1.heap.size + 1, 0, none⟩) 2 2) ∧ (chainW w1).cell? ⟨w1.heap.size + 1, 0, none⟩ = some (.string ⟨#[39]⟩) ∧ (chainW w1).cell? ⟨w1.heap.size + 1, 1, none⟩ = some (.string ⟨#[39]⟩)) ∧
    ((chainW w1).cell? ⟨w1.heap.size + 1 + 1 + 1 + 1 + 1, 2, none⟩ = some (.slice (some ⟨w1.heap.size + 1 + 1, 0, none⟩) 2 2) ∧ (chainW w1).cell? ⟨w1.heap.size + 1 + 1, 0, none⟩ = some (.string ⟨#[96]⟩) ∧ (chainW w1).cell? ⟨w1.heap.size + 1 + 1, 1, none⟩ = some (.string ⟨#[96]⟩)) ∧
    ((chainW w1).cell? ⟨w1.heap.size + 1 + 1 + 1 + 1 + 1, 3, none⟩ = some (.slice (some ⟨w1.heap.size + 1 + 1 + 1, 0, none⟩) 2 2) ∧ (chainW w1).cell? ⟨w1.heap.size + 1 + 1 + 1, 0, none⟩ = some (.string ⟨#[47, 47]⟩) ∧ (chainW w1).cell? ⟨w1.heap.size + 1 + 1 + 1, 1, none⟩ = some (.string ⟨#[10]⟩)) ∧
    ((chainW w1).cell? ⟨w1.heap.size + 1 + 1 + 1 + 1 + 1, 4, none⟩ = some (.slice (some ⟨w1.heap.size + 1 + 1 + 1 + 1, 0, none⟩) 2 2) ∧ (chainW w1).cell? ⟨w1.heap.size + 1 + 1 + 1 + 1, 0, none⟩ = some (.string ⟨#[47, 42]⟩) ∧ (chainW w1).cell? ⟨w1.heap.size + 1 + 1 + 1 + 1, 1, none⟩ = some (.string ⟨#[42, 47]⟩)) := by
  unfold chainW
  refine ⟨⟨?_, ?_, ?_⟩, ⟨?_, ?_, ?_⟩, ⟨?_, ?_, ?_⟩, ⟨?_, ?_, ?_⟩, ?_, ?_, ?_⟩
  all_goals
    simp only [World.cell?, heap_alloc_push, Array.getElem?_push, Array.size_push]
    repeat first | rw [if_pos rfl] | rw [if_neg (by omega)]
    rfl

set_option maxRecDepth 100000 in
set_option maxHeartbeats 12800000 in
theorem law_BodySkips (s : ByteArray) (k : Int) (w : World) (_h0 : s.size ≤ maxLen) (hk : (Lit.int .i64 k).wf = true) (hg : Gl w) :
    Calls Tryd.prog 6 #[.string s, .int .i64 k] w fun e w' => e = .returned (.bool true) ∧ Below w.heap.size w w' := by
  have hN := cutTo_size s 40
  generalize hNN : cutTo s 40 = N at hN
  have HN := Lib.hid hNN
  clear hNN
  have HK := Lib.hid (fun W => ref_Within k 5 W (by decide) (by decide) hk)
  obtain ⟨j, hj, hj2⟩ : ∃ j : Nat, k % ((5 : Nat) : Int) = (j : Int) ∧ j < 5 := ⟨(k % ((5 : Nat) : Int)).toNat, by omega, by omega⟩
  rw [hj] at HK
  have HJ := Lib.hid hj2
  clear hj hj2
  go_enter Tryd.func6, Tryd.ntmps6
  go_wp2_with fail
  refine (wakes5 w hg).mono ?_
  rintro e w1 ⟨rfl, hb1⟩
  have hg1 := hg.below hb1
  go_wp2_with fail
  refine (law_Text s 40 w1).mono ?_
  rintro e w' ⟨rfl, rfl⟩
  rw [HN.out]
  go_wp2_with fail
  go_loop [5, 6] (fun tv iv => ∃ (i : Nat) (T : ByteArray), i ≤ N.size ∧ iv = .int .i64 i ∧ tv = .string T ∧ T.size ≤ i ∧ Hid (∀ c ∈ T.data.toList, Sp.tame c = true)) (fun _ iv => N.size - (intOf iv).toNat)
  case atStart => exact ⟨0, ⟨#[]⟩, Nat.zero_le _, rfl, rfl, Nat.zero_le _, Lib.hid (fun c hc => by simp at hc)⟩
  case round =>
    obtain ⟨i, T, hi, rfl, rfl, hT, HT⟩ := hrel
    by_cases hlt : i < N.size
    · go_wp2_with fail
      all_goals first
        | exact ⟨⟨i + 1, T, by omega, by go_num, rfl, by omega, HT⟩, by simp only [intOf]; omega⟩
        | (rename_i h7
           have he := ext_one N i hlt
           refine ⟨⟨i + 1, T ++ N.extract i (i + 1), by omega, by go_num, rfl, ?_, Lib.hid (fun c hc => ?_)⟩, by simp only [intOf]; omega⟩
           · rw [ByteArray.size_append, size_list he]
             simp
             omega
           · have hc' : c ∈ T.data.toList ∨ c ∈ (N.extract i (i + 1)).data.toList := by simpa using hc
             rcases hc' with hc' | hc'
             · exact HT.out c hc'
             · rw [he] at hc'
               obtain rfl : c = N[i] := by simpa using hc'
               simp only [Sp.tame, Bool.and_eq_true]
               exact h7)
    · obtain rfl | rfl | rfl | rfl | rfl : j = 0 ∨ j = 1 ∨ j = 2 ∨ j = 3 ∨ j = 4 := by have := HJ.out; omega
      · obtain ⟨X, HC, HE⟩ := skips_calls 0 ⟨#[34]⟩ ⟨#[34]⟩ T rfl rfl (by omega) HT.out (by decide) (by decide)
        obtain ⟨k0, k1, k2⟩ := (chainW_cells w1).1
        have hbW := chainW_below w1
        have hgW := hg1.below hbW
        have hsW := hbW.size
        go_wp2_with (go_at_call 24; refine (HK.out _).mono ?_; rintro e w' ⟨rfl, rfl⟩
                     obtain ⟨W, hW⟩ : ∃ W, W = chainW w1 := ⟨_, rfl⟩
                     rw [← hW] at k0 k1 k2 hbW hgW hsW
                     simp only [chainW] at hW
                     rw [← hW]
                     clear hW)
        go_region
        go_wp2_with fail
        refine (HC.out W.drew (show Gl W.drew from hgW)).mono ?_
        rintro e w3 ⟨v3, rfl, ho3, hb3⟩
        obtain ⟨g, cp, rfl⟩ := own_form (n := 3) ho3 (by decide)
        have hg3 := (show Gl W.drew from hgW).below hb3
        have c4 : w3.cell? ⟨g, 4, none⟩ = some (.int .i64 3) := by simpa [Addr.add] using ho3.cells (g := g) rfl 4 (.int .i64 3) rfl
        have c6 : w3.cell? ⟨g, 6, none⟩ = some (.int .i64 2) := by simpa [Addr.add] using ho3.cells (g := g) rfl 6 (.int .i64 2) rfl
        clear ho3
        go_wp2_with fail
        refine (HE.out _ hg3).mono ?_
        rintro e w' ⟨rfl, n5, rfl⟩
        go_wp2_with fail
        go_ret
        have hbd : Below w.heap.size w W.drew := below_drewN (hb1.trans (hbW.mono hb1.size)) 1
        exact ⟨rfl, below_drewN (hbd.trans (hb3.mono (Nat.le_trans hb1.size hsW))) _⟩
      · obtain ⟨X, HC, HE⟩ := skips_calls 1 ⟨#[39]⟩ ⟨#[39]⟩ T rfl rfl (by omega) HT.out (by decide) (by decide)
        obtain ⟨k0, k1, k2⟩ := (chainW_cells w1).2.1
        have hbW := chainW_below w1
        have hgW := hg1.below hbW
        have hsW := hbW.size
        go_wp2_with (go_at_call 24; refine (HK.out _).mono ?_; rintro e w' ⟨rfl, rfl⟩
                     obtain ⟨W, hW⟩ : ∃ W, W = chainW w1 := ⟨_, rfl⟩
                     rw [← hW] at k0 k1 k2 hbW hgW hsW
                     simp only [chainW] at hW
                     rw [← hW]
                     clear hW)
        go_region
        go_wp2_with fail
        refine (HC.out W.drew (show Gl W.drew from hgW)).mono ?_
        rintro e w3 ⟨v3, rfl, ho3, hb3⟩
        obtain ⟨g, cp, rfl⟩ := own_form (n := 3) ho3 (by decide)
        have hg3 := (show Gl W.drew from hgW).below hb3
        have c4 : w3.cell? ⟨g, 4, none⟩ = some (.int .i64 3) := by simpa [Addr.add] using ho3.cells (g := g) rfl 4 (.int .i64 3) rfl
        have c6 : w3.cell? ⟨g, 6, none⟩ = some (.int .i64 2) := by simpa [Addr.add] using ho3.cells (g := g) rfl 6 (.int .i64 2) rfl
        clear ho3
        go_wp2_with fail
        refine (HE.out _ hg3).mono ?_
        rintro e w' ⟨rfl, n5, rfl⟩
        go_wp2_with fail
        go_ret
        have hbd : Below w.heap.size w W.drew := below_drewN (hb1.trans (hbW.mono hb1.size)) 1
        exact ⟨rfl, below_drewN (hbd.trans (hb3.mono (Nat.le_trans hb1.size hsW))) _⟩
      · obtain ⟨X, HC, HE⟩ := skips_calls 2 ⟨#[96]⟩ ⟨#[96]⟩ T rfl rfl (by omega) HT.out (by decide) (by decide)
        obtain ⟨k0, k1, k2⟩ := (chainW_cells w1).2.2.1
        have hbW := chainW_below w1
        have hgW := hg1.below hbW
        have hsW := hbW.size
        go_wp2_with (go_at_call 24; refine (HK.out _).mono ?_; rintro e w' ⟨rfl, rfl⟩
                     obtain ⟨W, hW⟩ : ∃ W, W = chainW w1 := ⟨_, rfl⟩
                     rw [← hW] at k0 k1 k2 hbW hgW hsW
                     simp only [chainW] at hW
                     rw [← hW]
                     clear hW)
        go_region
        go_wp2_with fail
        refine (HC.out W.drew (show Gl W.drew from hgW)).mono ?_
        rintro e w3 ⟨v3, rfl, ho3, hb3⟩
        obtain ⟨g, cp, rfl⟩ := own_form (n := 3) ho3 (by decide)
        have hg3 := (show Gl W.drew from hgW).below hb3
        have c4 : w3.cell? ⟨g, 4, none⟩ = some (.int .i64 3) := by simpa [Addr.add] using ho3.cells (g := g) rfl 4 (.int .i64 3) rfl
        have c6 : w3.cell? ⟨g, 6, none⟩ = some (.int .i64 2) := by simpa [Addr.add] using ho3.cells (g := g) rfl 6 (.int .i64 2) rfl
        clear ho3
        go_wp2_with fail
        refine (HE.out _ hg3).mono ?_
        rintro e w' ⟨rfl, n5, rfl⟩
        go_wp2_with fail
        go_ret
        have hbd : Below w.heap.size w W.drew := below_drewN (hb1.trans (hbW.mono hb1.size)) 1
        exact ⟨rfl, below_drewN (hbd.trans (hb3.mono (Nat.le_trans hb1.size hsW))) _⟩
      · obtain ⟨X, HC, HE⟩ := skips_calls 3 ⟨#[47, 47]⟩ ⟨#[10]⟩ T rfl rfl (by omega) HT.out (by decide) (by decide)
        obtain ⟨k0, k1, k2⟩ := (chainW_cells w1).2.2.2.1
        have hbW := chainW_below w1
        have hgW := hg1.below hbW
        have hsW := hbW.size
        go_wp2_with (go_at_call 24; refine (HK.out _).mono ?_; rintro e w' ⟨rfl, rfl⟩
                     obtain ⟨W, hW⟩ : ∃ W, W = chainW w1 := ⟨_, rfl⟩
                     rw [← hW] at k0 k1 k2 hbW hgW hsW
                     simp only [chainW] at hW
                     rw [← hW]
                     clear hW)
        go_region
        go_wp2_with fail
        refine (HC.out W.drew (show Gl W.drew from hgW)).mono ?_
        rintro e w3 ⟨v3, rfl, ho3, hb3⟩
        obtain ⟨g, cp, rfl⟩ := own_form (n := 3) ho3 (by decide)
        have hg3 := (show Gl W.drew from hgW).below hb3
        have c4 : w3.cell? ⟨g, 4, none⟩ = some (.int .i64 3) := by simpa [Addr.add] using ho3.cells (g := g) rfl 4 (.int .i64 3) rfl
        have c6 : w3.cell? ⟨g, 6, none⟩ = some (.int .i64 2) := by simpa [Addr.add] using ho3.cells (g := g) rfl 6 (.int .i64 2) rfl
        clear ho3
        go_wp2_with fail
        refine (HE.out _ hg3).mono ?_
        rintro e w' ⟨rfl, n5, rfl⟩
        go_wp2_with fail
        go_ret
        have hbd : Below w.heap.size w W.drew := below_drewN (hb1.trans (hbW.mono hb1.size)) 1
        exact ⟨rfl, below_drewN (hbd.trans (hb3.mono (Nat.le_trans hb1.size hsW))) _⟩
      · obtain ⟨X, HC, HE⟩ := skips_calls 4 ⟨#[47, 42]⟩ ⟨#[42, 47]⟩ T rfl rfl (by omega) HT.out (by decide) (by decide)
        obtain ⟨k0, k1, k2⟩ := (chainW_cells w1).2.2.2.2
        have hbW := chainW_below w1
        have hgW := hg1.below hbW
        have hsW := hbW.size
        go_wp2_with (go_at_call 24; refine (HK.out _).mono ?_; rintro e w' ⟨rfl, rfl⟩
                     obtain ⟨W, hW⟩ : ∃ W, W = chainW w1 := ⟨_, rfl⟩
                     rw [← hW] at k0 k1 k2 hbW hgW hsW
                     simp only [chainW] at hW
                     rw [← hW]
                     clear hW)
        go_region
        go_wp2_with fail
        refine (HC.out W.drew (show Gl W.drew from hgW)).mono ?_
        rintro e w3 ⟨v3, rfl, ho3, hb3⟩
        obtain ⟨g, cp, rfl⟩ := own_form (n := 3) ho3 (by decide)
        have hg3 := (show Gl W.drew from hgW).below hb3
        have c4 : w3.cell? ⟨g, 4, none⟩ = some (.int .i64 3) := by simpa [Addr.add] using ho3.cells (g := g) rfl 4 (.int .i64 3) rfl
        have c6 : w3.cell? ⟨g, 6, none⟩ = some (.int .i64 2) := by simpa [Addr.add] using ho3.cells (g := g) rfl 6 (.int .i64 2) rfl
        clear ho3
        go_wp2_with fail
        refine (HE.out _ hg3).mono ?_
        rintro e w' ⟨rfl, n5, rfl⟩
        go_wp2_with fail
        go_ret
        have hbd : Below w.heap.size w W.drew := below_drewN (hb1.trans (hbW.mono hb1.size)) 1
        exact ⟨rfl, below_drewN (hbd.trans (hb3.mono (Nat.le_trans hb1.size hsW))) _⟩
end Go.Proofs.YticdgfljaphhgaaDoor
