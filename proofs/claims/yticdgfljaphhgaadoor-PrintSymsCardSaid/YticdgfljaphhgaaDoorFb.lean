/- An argument that is a slice of pieces, opened to the cells that the walks read. -/
import Derived.Test.YticdgfljaphhgaaDoorBi
import Derived.Deep.Slices
import Derived.Deep.Fields
import Derived.ChangeSame
namespace Go.Proofs.YticdgfljaphhgaaDoor
open Go.ChangeShapes Go.WideShapes Go.Deep Go.RowKit

theorem piece_one : Tryd.prog.cellsOf 28 = 4 := by kernel_rfl
theorem piece_one3 : Tryd.prog.cellsOf 3 = 1 := by kernel_rfl
theorem piece_one9 : Tryd.prog.cellsOf 9 = 1 := by kernel_rfl
theorem four {α : Type} (l : List α) (h : l.length = 4) : ∃ a b c d, l = [a, b, c, d] := by
  rcases l with _ | ⟨a, _ | ⟨b, _ | ⟨c, _ | ⟨d, _ | ⟨e, l⟩⟩⟩⟩⟩ <;> simp at h
  exact ⟨a, b, c, d, rfl⟩
theorem lt_at_cell {w : World} {a : Addr} {v : Value} (h : w.cell? a = some v) : a.block < w.heap.size := by
  rcases Nat.lt_or_ge a.block w.heap.size with h' | h'
  · exact h'
  · unfold World.cell? at h
    simp [Array.getElem?_eq_none h'] at h
theorem str_eta (s : ByteArray) : (⟨s.data.toList.toArray⟩ : ByteArray) = s := by cases s; simp

theorem size_list {D : ByteArray} {d : List UInt8} (h : D.data.toList = d) : D.size = d.length := by
  subst h; rw [Lib.size_eq]
set_option maxRecDepth 100000 in
theorem open_pieces {H : Type} {enc : TypeId × Value → H} {w : World} {base : Nat} {spare : Nat → Bool} {held : Bool} {fuel : Nat} {cs : List Value} {x : DataW H × List MemPlace}
    (h : DataW.trod enc Tryd.prog w base spare held fuel 26 cs = some x) :
    ∃ (v : Value) (ps : List Sp.Piece), cs = [v] ∧ SlAt w v 4 (ps.map pieceC) ∧ ps.length ≤ maxLen ∧ ∀ p ∈ ps, p.text.length ≤ maxLen ∧ p.tag.length ≤ maxLen := by
  rcases open_slice Tryd.underlying26 h with ⟨h0, _⟩ | ⟨a, len, cap, m, n, D, Pl, hcs, hb, hl, hm, hmm, hx, hi⟩
  · exact ⟨_, [], h0, .inl ⟨rfl, none, 0, rfl⟩, by simp, by simp⟩
  · have hlm : len ≤ m := by rw [hmm]; split <;> omega
    have key : ∀ i, ∃ p : Sp.Piece, i < len → (∀ j u, (pieceC p)[j]? = some u → w.cell? (a.add (i * 4 + j)) = some u) ∧ p.text.length ≤ maxLen ∧ p.tag.length ≤ maxLen := by
      intro i
      by_cases hil : i < len
      · obtain ⟨cs', hc, ht'⟩ := hi i (by omega)
        rw [piece_one] at hc
        obtain ⟨ys, n', hn', hy, hlen, hyl, hf⟩ := DataW.trod_struct Tryd.underlying28 ht'
        obtain ⟨_, hcl, hat⟩ := World.cells?_some hc
        obtain ⟨c0, c1, c2, c3, rfl⟩ := four cs' hcl
        have g0 := hf 0 _ rfl
        have g1 := hf 1 _ rfl
        have g2 := hf 2 _ rfl
        have g3 := hf 3 _ rfl
        have q0 := g0
        change DataW.trod enc Tryd.prog w base spare held n' 3 (([c0, c1, c2, c3].drop 0).take (Tryd.prog.cellsOf 3)) = ys[0]? at g0
        change DataW.trod enc Tryd.prog w base spare held n' 9 (([c0, c1, c2, c3].drop 1).take (Tryd.prog.cellsOf 9)) = ys[1]? at g1
        change DataW.trod enc Tryd.prog w base spare held n' 3 (([c0, c1, c2, c3].drop 2).take (Tryd.prog.cellsOf 3)) = ys[2]? at g2
        change DataW.trod enc Tryd.prog w base spare held n' 9 (([c0, c1, c2, c3].drop 3).take (Tryd.prog.cellsOf 9)) = ys[3]? at g3
        rw [piece_one3] at g0 g2
        rw [piece_one9] at g1 g3
        obtain ⟨y0, y1, y2, y3, rfl⟩ := four ys (by simpa using hyl)
        obtain ⟨z0, e0, _, _⟩ := DataW.trod_int Tryd.underlying3 g0
        obtain ⟨s1, e1, _, l1⟩ := DataW.trod_string Tryd.underlying9 g1
        obtain ⟨z2, e2, _, _⟩ := DataW.trod_int Tryd.underlying3 g2
        obtain ⟨s3, e3, _, l3⟩ := DataW.trod_string Tryd.underlying9 g3
        obtain rfl : c0 = _ := by simpa using e0
        obtain rfl : c1 = _ := by simpa using e1
        obtain rfl : c2 = _ := by simpa using e2
        obtain rfl : c3 = _ := by simpa using e3
        refine ⟨⟨z0, s1.data.toList, z2, s3.data.toList⟩, fun _ => ⟨fun j u hu => ?_, by rw [← size_list rfl]; exact l1, by rw [← size_list rfl]; exact l3⟩⟩
        unfold pieceC at hu
        rw [str_eta, str_eta] at hu
        have hj : j < 4 := (List.getElem?_eq_some_iff.1 hu).1
        rw [← Go.Deep.add_add, hat j hj, hu]
      · exact ⟨Sp.nil, fun h => absurd h hil⟩
    obtain ⟨f, hf⟩ := Classical.axiomOfChoice key
    refine ⟨_, (List.range len).map f, hcs, ?_, by simp; omega, ?_⟩
    · by_cases hz : len = 0
      · subst hz
        exact .inl ⟨rfl, _, _, rfl⟩
      · obtain ⟨b, off, spot⟩ := a
        have h0 := (hf 0 (by omega)).1 0 _ rfl
        have hsp : spot = none := by simpa [Addr.add] using World.cell?_spot h0
        subst hsp
        refine .inr ⟨b, off, cap, by simp, ?_, fun i r hr j u hu => ?_⟩
        · have := lt_at_cell h0
          simpa [Addr.add] using this
        · simp only [List.map_map, List.getElem?_map, Option.map_eq_some_iff] at hr
          obtain ⟨i', hi', rfl⟩ := hr
          obtain ⟨hil, rfl⟩ := List.getElem?_eq_some_iff.1 hi'
          simp only [List.length_range] at hil
          simp only [List.getElem_range, Function.comp] at hu
          have := (hf i hil).1 j u hu
          rw [show (⟨b, off, none⟩ : Addr).add (i * 4 + j) = ⟨b, off + i * 4 + j, none⟩ by unfold Addr.add; split <;> simp_all [Nat.add_assoc]] at this
          exact this
    · intro p hp
      simp only [List.mem_map, List.mem_range] at hp
      obtain ⟨i, hi, rfl⟩ := hp
      exact (hf i hi).2
end Go.Proofs.YticdgfljaphhgaaDoor
