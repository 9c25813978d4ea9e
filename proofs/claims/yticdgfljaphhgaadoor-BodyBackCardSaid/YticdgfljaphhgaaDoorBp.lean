/- Layer 5's wakes: the closed pieces, and the walk. -/
import Derived.Test.YticdgfljaphhgaaDoorBo
namespace Go.Proofs.YticdgfljaphhgaaDoor
open Go.RowKit

def wakeText : List UInt8 := [123, 36, 36, 61, 36, 49, 125]
def wakePieces : List Sp.Piece := [⟨1, [123], 0, []⟩, ⟨2, [], 0, []⟩, ⟨1, [61], 0, []⟩, ⟨3, [], 1, []⟩, ⟨1, [125], 0, []⟩]
theorem wake_cut : Sp.cut wakeText = (wakePieces, 0) := by kernel_rfl
theorem wake_join : Sp.joinRes (Sp.join wakePieces) = (wakeText, 0) := by kernel_rfl
theorem wake_x : Sp.cut [120] = ([], 1) := by kernel_rfl
theorem wake_e1 : Sp.endAt [97, 123, 98, 125] 1 = 4 := by kernel_rfl
theorem wake_e2 : Sp.endAt [123] 0 = -1 := by kernel_rfl


theorem lay_cut (W : World) (hW : Gl W) : Calls Tryd.prog 22 #[.string ⟨#[123, 36, 36, 61, 36, 49, 125]⟩] W (CutPost (wakePieces, 0) W) := by
  have h := body_Cut ⟨#[123, 36, 36, 61, 36, 49, 125]⟩ W (by decide) hW
  exact wake_cut ▸ h
theorem lay_cutx (W : World) (hW : Gl W) : Calls Tryd.prog 22 #[.string ⟨#[120]⟩] W (CutPost ([], 1) W) := by
  have h := body_Cut ⟨#[120]⟩ W (by decide) hW
  exact wake_x ▸ h
theorem lay_e1 (W : World) (hW : Gl W) : Calls Tryd.prog 17 #[.string ⟨#[97, 123, 98, 125]⟩, .int .i64 1] W (fun e w' => e = .returned (.int .i64 4) ∧ ∃ n, w' = W.drewN n) := by
  have h := body_End ⟨#[97, 123, 98, 125]⟩ 1 W (by decide) hW
  exact wake_e1 ▸ h
theorem lay_e2 (W : World) (hW : Gl W) : Calls Tryd.prog 17 #[.string ⟨#[123]⟩, .int .i64 0] W (fun e w' => e = .returned (.int .i64 (-1)) ∧ ∃ n, w' = W.drewN n) := by
  have h := body_End ⟨#[123]⟩ 0 W (by decide) hW
  exact wake_e2 ▸ h

theorem lay_join (W : World) (v : Value) (hv : SlAt W v 4 (wakePieces.map pieceC)) (hW : Gl W) : Calls Tryd.prog 19 #[v] W (fun e w' => e = .returned (.tuple #[.string ⟨#[123, 36, 36, 61, 36, 49, 125]⟩, .int .i64 0]) ∧ Below W.heap.size W w') := by
  have h := body_Join v wakePieces W hv (by decide) (by decide) hW
  rw [wake_join] at h
  exact h

set_option maxRecDepth 100000 in
set_option maxHeartbeats 1600000 in
theorem wakes5 (w : World) (hg : Gl w) :
    Calls Tryd.prog 15 #[] w fun e w' => e = .returned (.bool true) ∧ Below w.heap.size w w' := by
  go_enter Tryd.func15, Tryd.ntmps15
  go_wp2_with fail
  refine (lay_cut w hg).mono ?_
  rintro e w1 ⟨v1, rfl, ho1, hb1⟩
  obtain ⟨g, cp, rfl⟩ := own_form ho1 (by decide)
  have hg1 := hg.below hb1
  have hs1 := pieces_slAt wakePieces ho1
  have hsz1 := hb1.size
  have k1 := ho1.cells (g := g) rfl 4 (.int .i64 2) rfl
  have k3 := ho1.cells (g := g) rfl 14 (.int .i64 1) rfl
  have hlt1 := (ho1.lt g rfl).2
  clear ho1
  go_wp2_with fail
  refine (lay_join w1 _ hs1 hg1).mono ?_
  rintro e w2 ⟨rfl, hb2⟩
  have hg2 := hg1.below hb2
  have hsz2 := hb2.size
  clear hs1
  go_wp2_with fail
  refine (lay_cutx w2 hg2).mono ?_
  rintro e w3 ⟨v3, rfl, ho3, hb3⟩
  have hb123 := Lib.hid ((hb1.trans (hb2.mono hsz1)).trans (hb3.mono (by omega)))
  have c1 := ((hb3.cell (p := ⟨g, 4, none⟩) (by show g < _; omega)).trans (hb2.cell (p := ⟨g, 4, none⟩) hlt1)).trans (by simpa [Addr.add] using k1)
  have c3 := ((hb3.cell (p := ⟨g, 14, none⟩) (by show g < _; omega)).trans (hb2.cell (p := ⟨g, 14, none⟩) hlt1)).trans (by simpa [Addr.add] using k3)
  have hg3 := hg2.below hb3
  clear ho3 hb1 hb2 hb3 k1 k3
  go_wp2_with fail
  refine (lay_e1 _ hg3).mono ?_
  rintro e w' ⟨rfl, n4, rfl⟩
  go_wp2_with fail
  refine (lay_e2 _ (hg3.drewN _)).mono ?_
  rintro e w' ⟨rfl, n5, rfl⟩
  go_wp2_with fail
  go_ret
  exact ⟨rfl, below_drewN hb123.out _⟩
end Go.Proofs.YticdgfljaphhgaaDoor
