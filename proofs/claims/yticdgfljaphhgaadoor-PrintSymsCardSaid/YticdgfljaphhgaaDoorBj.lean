/- The walk of Cut's closure. -/
import Derived.Test.YticdgfljaphhgaaDoorW1
import Derived.Test.YticdgfljaphhgaaDoorSpC
import Derived.Test.YticdgfljaphhgaaDoorBi
namespace Go.Proofs.YticdgfljaphhgaaDoor
open Go.RowKit

theorem info_piece : (Tryd.prog.info? 28).map (fun i => (i.zero, i.size, i.bytes)) = some (some (.agg #[.int .i64 0, .string ⟨#[]⟩, .int .i64 0, .string ⟨#[]⟩]), 4, 48) := by kernel_rfl
theorem ownsRow_some {w : World} {base : Nat} {e : TypeId} {size : Nat} {v : Value} {n : Nat} {xs : List Value} (h : w.ownsRow base e size v n xs) : ∃ a cap, v = .slice a n cap := by
  rcases h.2 with ⟨rfl, rfl⟩ | ⟨g, cap, cur, rfl, _⟩
  · exact ⟨_, _, rfl⟩
  · exact ⟨_, _, rfl⟩

/-- What Cut's closure leaves: the list with what stood since the last piece. -/
def TextPost (bl B n : Nat) (v : Value) (xs : List Value) (ps : List Sp.Piece) (w : World) (e : Ending) (w' : World) : Prop :=
  e = .returned (.tuple #[]) ∧ ∃ v', w'.heap[bl]? = some (.cells #[v'] 26 (0, 0)) ∧ w'.ownsRow B 28 4 v' (n + ps.length) (xs ++ ps.flatMap pieceC) ∧ Kp (fun k => k ≠ bl ∧ ∀ g, v.ownBlock = some g → k ≠ g) w w'

set_option maxRecDepth 100000 in
set_option maxHeartbeats 1600000 in
theorem cut_text (s : ByteArray) (from_ to : Nat) (bf bl bc B n : Nat) (v : Value) (xs : List Value) (w : World) (hto : to ≤ s.size)
    (hf : w.heap[bf]? = some (.cells #[.int .i64 from_] 3 (0, 0))) (hl : w.heap[bl]? = some (.cells #[v] 26 (0, 0))) (hc : w.heap[bc]? = some (.cells #[.string s] 9 (0, 0)))
    (hown : w.ownsRow B 28 4 v n xs) (hn : n < 17179869184) (hB : B ≤ w.heap.size) :
    Calls Tryd.prog 42 #[.int .i64 to, .pointer (some ⟨bf, 0, none⟩), .pointer (some ⟨bl, 0, none⟩), .pointer (some ⟨bc, 0, none⟩)] w
      (TextPost bl B n v xs (Sp.flush ((s.data.toList.drop from_).take (to - from_))) w) := by
  have c0 := cell_at (i := 0) hf; have c1 := cell_at (i := 0) hl; have c2 := cell_at (i := 0) hc
  have f1 := frozen_at (i := 0) hl
  have l0 := lt_at hf; have l1 := lt_at hl; have l2 := lt_at hc
  have HL := Lib.hid hl
  clear hf hl hc
  by_cases hft : from_ < to
  · have HF : Hid (Sp.flush ((s.data.toList.drop from_).take (to - from_)) = [⟨1, (s.data.toList.drop from_).take (to - from_), 0, []⟩]) := by
      show _ = _
      unfold Sp.flush
      rw [if_neg]
      intro h
      have := congrArg List.length h
      simp at this
      omega
    obtain ⟨i0, hi, hz0, hz1, hz2⟩ := info_parts info_piece
    obtain ⟨a, cap, rfl⟩ := ownsRow_some hown
    have HO := Lib.hid hown; clear hown
    have hft2 : from_ ≤ to := by omega
    go_enter Tryd.func42, Tryd.ntmps42
    go_wp2
    have hne := ownsRow_ne HO.out HL.out (by decide)
    have HNE := Lib.hid hne; clear hne
    go_region_law ((refine step_append_own rfl (.tmp 8) (.tmp 14) 26 rfl B 28 i0 _ 4 48 Tryd.underlying26 hi hz0 hz1 hz2 rfl (by decide) _ _ _ rfl (HO.out.alloc _) ⟨w.heap.size, 0, none⟩ 1 1 [.int .i64 1, .string (s.extract from_ to), .int .i64 0, .string ⟨#[]⟩] rfl rfl (new_cells _ _ _) (by simp [Value.oneCell']) (by unfold maxLen; omega) (by omega) (by simp; omega) ?_); intro v' w1 ho hgr; obtain ⟨g, cp, rfl⟩ := own_form ho (by omega); have hB1 := (hgr.block bl (by simp; omega) (fun h => HNE.out bl h.symm rfl)).trans ((Below.heap_alloc _ _ _ l1).trans HL.out); have cB := cell_at (i := 0) hB1; have fB := frozen_at (i := 0) hB1; have HO1 := Lib.hid ho; have HG1 := Lib.hid hgr; have HB1 := Lib.hid hB1; clear ho hgr hB1)
    all_goals (go_end0; have hF := HF.out)
    all_goals refine ⟨rfl, _, heap_setCell_at HB1.out, ?_, ?_⟩
    all_goals first
      | exact ((((Kp.refl _ _).alloc _).drew).grown HG1.out (fun k hk hS => hS.2 k hk rfl)).setCell (fun h => h.1 rfl) _
      | (rw [hF, show ([⟨1, (s.data.toList.drop from_).take (to - from_), 0, []⟩] : List Sp.Piece).flatMap pieceC = [.int .i64 1, .string (s.extract from_ to), .int .i64 0, .string ⟨#[]⟩] by rw [Lib.extract_eq]; rfl]; exact ownsRow_setCell_ne (i := 0) HO1.out HB1.out (by decide) (.slice (some ⟨g, 0, none⟩) (n + 1) cp))
  · have HF : Hid (Sp.flush ((s.data.toList.drop from_).take (to - from_)) = []) := by
      show _ = _
      rw [show to - from_ = 0 by omega]; rfl
    go_enter Tryd.func42, Tryd.ntmps42
    go_wp2
    go_end0
    refine ⟨rfl, v, HL.out, ?_, Kp.refl _ _⟩
    rw [HF.out]
    simpa using hown
end Go.Proofs.YticdgfljaphhgaaDoor
