/- An argument that is a grammar by numbers (a struct with lists of lists of numbers), opened to the cells that the walks read. -/
import Derived.Test.YthmimcegiihcnaaDoorEo
import Derived.Test.YthmimcegiihcnaaDoorEz
namespace Go.Proofs.YthmimcegiihcnaaDoor
open Go.ChangeShapes Go.WideShapes Go.Deep Go.RowKit

section
variable {H : Type} {enc : TypeId × Value → H} {w : World} {base : Nat} {spare : Nat → Bool} {held : Bool}
theorem one_ints : Tryd.prog.cellsOf 23 = 1 := by kernel_rfl
theorem one_rows : Tryd.prog.cellsOf 22 = 1 := by kernel_rfl
theorem cells_gr : Tryd.prog.cellsOf 25 = 5 := by kernel_rfl
theorem five {α : Type} (l : List α) (h : l.length = 5) : ∃ a b c d e, l = [a, b, c, d, e] := by
  rcases l with _ | ⟨a, _ | ⟨b, _ | ⟨c, _ | ⟨d, _ | ⟨e, _ | ⟨f, l⟩⟩⟩⟩⟩⟩ <;> simp at h
  exact ⟨a, b, c, d, e, rfl⟩
theorem open_ints {fuel : Nat} {cs : List Value} {x : DataW H × List MemPlace} (h : DataW.trod enc Tryd.prog w base spare held fuel 23 cs = some x) :
    ∃ (v : Value) (ts : List Int), cs = [v] ∧ IntsAt w v ts ∧ ts.length ≤ maxLen ∧ ∀ t ∈ ts, (Lit.int .i64 t).wf = true :=
  open_list 1 Tryd.underlying23 one_int (fun x : Int => [Value.int .i64 x]) (fun x => (Lit.int .i64 x).wf = true) (fun _ => rfl) (by decide)
    (fun n cs y h => by
      obtain ⟨z, e, _, hw⟩ := DataW.trod_int Tryd.underlying3 h
      exact ⟨z, by simpa using e, hw⟩) h
instance : Inhabited (List Int × Value) := ⟨([], .bool false)⟩
theorem open_rows {fuel : Nat} {cs : List Value} {x : DataW H × List MemPlace} (h : DataW.trod enc Tryd.prog w base spare held fuel 22 cs = some x) :
    ∃ (v : Value) (rows : List (List Int)), cs = [v] ∧ rows.length ≤ maxLen ∧ ∃ f : Nat → Value, SlAt w v 1 (rows.mapIdx fun i _ => [f i]) ∧ ∀ (i : Nat) (row : List Int), rows[i]? = some row → IntsAt w (f i) row ∧ row.length ≤ 2 ^ 63 - 1 ∧ ∀ m ∈ row, (Lit.int .i64 m).wf = true := by
  obtain ⟨v, ts, e, hs, hl, hg⟩ := open_list 1 Tryd.underlying22 one_ints (fun t : List Int × Value => [t.2]) (fun t => IntsAt w t.2 t.1 ∧ t.1.length ≤ 2 ^ 63 - 1 ∧ ∀ m ∈ t.1, (Lit.int .i64 m).wf = true) (fun _ => rfl) (by decide)
    (fun n cs y h => by
      obtain ⟨v, ts, e, hi, hl, hw⟩ := open_ints h
      exact ⟨(ts, v), e, hi, by unfold maxLen at hl; omega, hw⟩) h
  refine ⟨v, ts.map (·.1), e, by rw [List.length_map]; exact hl, fun i => (ts[i]?.map (·.2)).getD (.bool false), ?_, fun i row hr => ?_⟩
  · have k := pairs_idx (fun (v : Value) (_ : List Int) => [v]) ts
    rw [← k]
    exact hs
  · rw [List.getElem?_map] at hr
    obtain ⟨t, ht, rfl⟩ := Option.map_eq_some_iff.1 hr
    have := hg t (List.mem_of_getElem? ht)
    simp only [ht, Option.map_some, Option.getD_some]
    exact this
/-- A grammar by numbers. -/
theorem open_gr {n : Nat} {cs : List Value} {y : DataW H × List MemPlace} (h : DataW.trod enc Tryd.prog w base spare held n 25 cs = some y) : ∃ x : Sp.Gr, GrAt w (.agg cs.toArray) x := by
  obtain ⟨ys, n', _, _, hlen, hyl, hf⟩ := DataW.trod_struct Tryd.underlying25 h
  rw [cells_gr] at hlen
  obtain ⟨c0, c1, c2, c3, c4, rfl⟩ := five cs hlen
  obtain ⟨y0, y1, y2, y3, y4, rfl⟩ := five ys (by simpa using hyl)
  have g0 := hf 0 _ rfl
  have g1 := hf 1 _ rfl
  have g2 := hf 2 _ rfl
  have g3 := hf 3 _ rfl
  have g4 := hf 4 _ rfl
  change DataW.trod enc Tryd.prog w base spare held n' 3 (([c0, c1, c2, c3, c4].drop 0).take (Tryd.prog.cellsOf 3)) = _ at g0
  change DataW.trod enc Tryd.prog w base spare held n' 22 (([c0, c1, c2, c3, c4].drop 1).take (Tryd.prog.cellsOf 22)) = _ at g1
  change DataW.trod enc Tryd.prog w base spare held n' 23 (([c0, c1, c2, c3, c4].drop 2).take (Tryd.prog.cellsOf 23)) = _ at g2
  change DataW.trod enc Tryd.prog w base spare held n' 23 (([c0, c1, c2, c3, c4].drop 3).take (Tryd.prog.cellsOf 23)) = _ at g3
  change DataW.trod enc Tryd.prog w base spare held n' 4 (([c0, c1, c2, c3, c4].drop 4).take (Tryd.prog.cellsOf 4)) = _ at g4
  rw [one_int] at g0
  rw [one_rows] at g1
  rw [one_ints] at g2 g3
  rw [one_bool] at g4
  obtain ⟨z0, e0, _, w0⟩ := DataW.trod_int Tryd.underlying3 g0
  obtain ⟨v1, rows, e1, l1, r1⟩ := open_rows g1
  obtain ⟨v2, lv, e2, i2, l2, w2⟩ := open_ints g2
  obtain ⟨v3, iv, e3, i3, l3, w3⟩ := open_ints g3
  obtain ⟨b4, e4, _⟩ := DataW.trod_bool Tryd.underlying4 g4
  obtain rfl : c0 = _ := by simpa using e0
  obtain rfl : c1 = _ := by simpa using e1
  obtain rfl : c2 = _ := by simpa using e2
  obtain rfl : c3 = _ := by simpa using e3
  obtain rfl : c4 = _ := by simpa using e4
  unfold maxLen at l1 l2 l3
  exact ⟨⟨z0, rows, lv, iv, b4⟩, c1, c2, c3, rfl, w0, r1, i2, i3, w2, w3, by omega, by omega, by omega⟩
end
end Go.Proofs.YthmimcegiihcnaaDoor
