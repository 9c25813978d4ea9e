/- Layer 6's wakes; the walks of LexWords and LexBytes. -/
import Derived.Test.YticdgfljaphhgaaDoorCo
namespace Go.Proofs.YticdgfljaphhgaaDoor
open Go.RowKit

def wake6 : List Sp.Word := [⟨5, [37, 116, 111, 107, 101, 110], 0⟩, ⟨1, [65], 7⟩, ⟨2, [43], 9⟩, ⟨7, [37, 37], 13⟩, ⟨10, [], 15⟩]
theorem wake6_words : Sp.words [37, 116, 111, 107, 101, 110, 32, 65, 32, 39, 43, 39, 10, 37, 37] = (wake6, 0, 0) := by kernel_rfl
theorem wake6_bad : Sp.words [97, 32, 36] = ([], 2, 2) := by kernel_rfl
theorem lay_words (W : World) (hW : Gl W) : Calls Tryd.prog 28 #[.string ⟨#[37, 116, 111, 107, 101, 110, 32, 65, 32, 39, 43, 39, 10, 37, 37]⟩] W (WordsPost (wake6, 0, 0) W) := by
  have h := lex_Words ⟨#[37, 116, 111, 107, 101, 110, 32, 65, 32, 39, 43, 39, 10, 37, 37]⟩ W (by decide) hW
  exact wake6_words ▸ h
theorem lay_bad (W : World) (hW : Gl W) : Calls Tryd.prog 28 #[.string ⟨#[97, 32, 36]⟩] W (WordsPost ([], 2, 2) W) := by
  have h := lex_Words ⟨#[97, 32, 36]⟩ W (by decide) hW
  exact wake6_bad ▸ h

set_option maxRecDepth 100000 in
set_option maxHeartbeats 3200000 in
theorem wakes6 (w : World) (hg : Gl w) :
    Calls Tryd.prog 26 #[] w fun e w' => e = .returned (.bool true) ∧ Below w.heap.size w w' := by
  go_enter Tryd.func26, Tryd.ntmps26
  go_wp2_with fail
  refine (lay_words w hg).mono ?_
  rintro e w1 ⟨v1, rfl, ho1, hb1⟩
  obtain ⟨g, cp, rfl⟩ := own_form (n := 5) ho1 (by decide)
  have hg1 := hg.below hb1
  have hsz1 := hb1.size
  have k0 := ho1.cells (g := g) rfl 0 (.int .i64 5) rfl
  have k4 := ho1.cells (g := g) rfl 4 (.string ⟨#[65]⟩) rfl
  have k7 := ho1.cells (g := g) rfl 7 (.string ⟨#[43]⟩) rfl
  have k9 := ho1.cells (g := g) rfl 9 (.int .i64 7) rfl
  have k12 := ho1.cells (g := g) rfl 12 (.int .i64 10) rfl
  have k14 := ho1.cells (g := g) rfl 14 (.int .i64 15) rfl
  have hlt1 := (ho1.lt g rfl).2
  have hg1a := fun o => hg1.alloc o
  have HGA := Lib.hid hg1a
  clear ho1 hg1a
  go_wp2_with fail
  refine (lay_bad _ (HGA.out _)).mono ?_
  rintro e w2 ⟨v2, rfl, ho2, hb2⟩
  obtain ⟨a2, cap2, rfl⟩ := ownsRow_some ho2
  have hF := (hb2.block w1.heap.size (by simp)).trans (heap_last w1 _)
  have hold : ∀ i v, w1.cell? ⟨g, i, none⟩ = some v → w2.cell? ⟨g, i, none⟩ = some v := by
    intro i v hv
    rw [hb2.cell (p := ⟨g, i, none⟩) (by show g < _; simp; omega)]
    rw [((Below.refl _ w1).alloc (Nat.le_refl _) _).cell (p := ⟨g, i, none⟩) hlt1]
    exact hv
  have c0 := hold 0 _ (by simpa [Addr.add] using k0)
  have c4 := hold 4 _ (by simpa [Addr.add] using k4)
  have c7 := hold 7 _ (by simpa [Addr.add] using k7)
  have c9 := hold 9 _ (by simpa [Addr.add] using k9)
  have c12 := hold 12 _ (by simpa [Addr.add] using k12)
  have c14 := hold 14 _ (by simpa [Addr.add] using k14)
  have f0 := cell_at (i := 0) hF; have f1 := cell_at (i := 1) hF; have f2 := cell_at (i := 2) hF
  have hsz2 := hb2.size
  simp only [World.size_alloc] at hsz2
  have hbel : Below w.heap.size w w2 := (hb1.trans (((Below.refl _ w1).alloc (Nat.le_refl _) (.cells #[.int .i64 0, .int .i64 ((0 : Nat) : Int), .string ⟨#[]⟩] 49)).mono hsz1)).trans (hb2.mono (by simp; omega))
  have hg2 : g < w2.heap.size := by omega
  have hlt2 : w1.heap.size < w2.heap.size := by omega
  have HB := Lib.hid hbel
  clear hold k0 k4 k7 k9 k12 k14 hF ho2 hb1 hb2 hbel
  go_wp2_with fail
  go_ret
  exact ⟨rfl, HB.out.alloc (by omega) _⟩

set_option maxRecDepth 100000 in
set_option maxHeartbeats 1600000 in
theorem law_LexWords (s : ByteArray) (w : World) (_h0 : s.size ≤ maxLen) (hg : Gl w) :
    Calls Tryd.prog 8 #[.string s] w fun e w' => e = .returned (.bool true) ∧ Below w.heap.size w w' := by
  have hN := cutTo_size s 500
  generalize hNN : cutTo s 500 = N at hN
  have HN := Lib.hid hNN
  clear hNN
  go_enter Tryd.func8, Tryd.ntmps8
  go_wp2_with fail
  refine (wakes6 w hg).mono ?_
  rintro e w1 ⟨rfl, hb1⟩
  have hg1 := hg.below hb1
  go_wp2_with fail
  refine (law_Text s 500 w1).mono ?_
  rintro e w' ⟨rfl, rfl⟩
  rw [HN.out]
  go_wp2_with fail
  refine (law_same N w1 (by omega) hg1).mono ?_
  rintro e w2 ⟨rfl, hb2⟩
  go_wp2_with fail
  go_ret
  exact ⟨rfl, hb1.trans (hb2.mono hb1.size)⟩
end Go.Proofs.YticdgfljaphhgaaDoor
