/- Arguments that are lists of numbers or of truth values, opened to the cells that the walks read. -/
import Derived.Test.YthmimcegiihcnaaDoorGs
import Derived.Test.YthmimcegiihcnaaDoorFb
namespace Go.Proofs.YthmimcegiihcnaaDoor
open Go.ChangeShapes Go.WideShapes Go.Deep Go.RowKit

section
variable {H : Type} {enc : TypeId × Value → H} {w : World} {base : Nat} {spare : Nat → Bool} {held : Bool}
theorem open_row1 {S E : TypeId} (hS : Tryd.prog.underlying S = some (.slice E)) (hE : Tryd.prog.cellsOf E = 1) {T : Type} [Inhabited T] (valOf : T → Value) (good : T → Prop)
    (helem : ∀ (n : Nat) (cs : List Value) (y : DataW H × List MemPlace), DataW.trod enc Tryd.prog w base spare held n E cs = some y → ∃ t, cs = [valOf t] ∧ good t)
    {fuel : Nat} {cs : List Value} {x : DataW H × List MemPlace} (h : DataW.trod enc Tryd.prog w base spare held fuel S cs = some x) :
    ∃ (v : Value) (ts : List T), cs = [v] ∧ SlAt w v 1 (ts.map fun t => [valOf t]) ∧ ts.length ≤ maxLen ∧ ∀ t ∈ ts, good t := by
  rcases open_slice hS h with ⟨h0, _⟩ | ⟨a, len, cap, m, n, D, Pl, hcs, hb, hl, hm, hmm, hx, hi⟩
  · exact ⟨_, [], h0, .inl ⟨rfl, none, 0, rfl⟩, by simp, by simp⟩
  · have hlm : len ≤ m := by rw [hmm]; split <;> omega
    have key : ∀ i, ∃ t : T, i < len → w.cell? (a.add i) = some (valOf t) ∧ good t := by
      intro i
      by_cases hil : i < len
      · obtain ⟨cs', hc, ht'⟩ := hi i (by omega)
        rw [hE] at hc
        obtain ⟨t, rfl, hg⟩ := helem _ _ _ ht'
        obtain ⟨_, hcl, hat⟩ := World.cells?_some hc
        refine ⟨t, fun _ => ⟨?_, hg⟩⟩
        have h1 := hat 0 (by decide)
        rw [Nat.mul_one, Go.Deep.add_add, Nat.add_zero] at h1
        exact h1
      · exact ⟨default, fun h => absurd h hil⟩
    obtain ⟨f, hf⟩ := Classical.axiomOfChoice key
    refine ⟨_, (List.range len).map f, hcs, ?_, by simp; omega, ?_⟩
    · by_cases hz : len = 0
      · subst hz
        exact .inl ⟨rfl, _, _, rfl⟩
      · obtain ⟨b, off, spot⟩ := a
        have h0 := (hf 0 (by omega)).1
        have hsp : spot = none := by simpa [Addr.add] using World.cell?_spot h0
        subst hsp
        refine .inr ⟨b, off, cap, by simp, ?_, fun i r hr j u hu => ?_⟩
        · have := lt_at_cell h0
          simpa [Addr.add] using this
        · simp only [List.map_map, List.getElem?_map, Option.map_eq_some_iff] at hr
          obtain ⟨i', hi', rfl⟩ := hr
          obtain ⟨hil, rfl⟩ := List.getElem?_eq_some_iff.1 hi'
          simp only [List.length_range] at hil
          simp only [List.getElem_range, Function.comp] at hu
          obtain ⟨rfl, rfl⟩ : j = 0 ∧ valOf (f i) = u := by
            cases j with
            | zero => exact ⟨rfl, by simpa using hu⟩
            | succ j => simp at hu
          have := (hf i hil).1
          rw [show (⟨b, off, none⟩ : Addr).add i = ⟨b, off + i * 1 + 0, none⟩ by unfold Addr.add; split <;> simp_all [Nat.add_assoc]] at this
          exact this
    · intro p hp
      simp only [List.mem_map, List.mem_range] at hp
      obtain ⟨i, hi, rfl⟩ := hp
      exact (hf i hi).2
theorem one_intA : Tryd.prog.cellsOf 3 = 1 := by kernel_rfl
theorem one_boolA : Tryd.prog.cellsOf 4 = 1 := by kernel_rfl
theorem open_intsA {fuel : Nat} {cs : List Value} {x : DataW H × List MemPlace} (h : DataW.trod enc Tryd.prog w base spare held fuel 23 cs = some x) :
    ∃ (v : Value) (ts : List Int), cs = [v] ∧ IntsAt w v ts ∧ ts.length ≤ maxLen ∧ ∀ t ∈ ts, (Lit.int .i64 t).wf = true :=
  open_row1 Tryd.underlying23 one_intA (fun x : Int => Value.int .i64 x) (fun x => (Lit.int .i64 x).wf = true)
    (fun n cs y h => by
      obtain ⟨z, e, _, hw⟩ := DataW.trod_int Tryd.underlying3 h
      exact ⟨z, by simpa using e, hw⟩) h
def BoolsAt (w : World) (v : Value) (xs : List Bool) : Prop := SlAt w v 1 (xs.map fun x => [Value.bool x])
theorem open_boolsA {fuel : Nat} {cs : List Value} {x : DataW H × List MemPlace} (h : DataW.trod enc Tryd.prog w base spare held fuel 75 cs = some x) :
    ∃ (v : Value) (ts : List Bool), cs = [v] ∧ BoolsAt w v ts ∧ ts.length ≤ maxLen := by
  obtain ⟨v, ts, e, h1, h2, _⟩ := open_row1 Tryd.underlying75 one_boolA (fun x : Bool => Value.bool x) (fun _ => True)
    (fun n cs y h => by
      obtain ⟨z, e, _⟩ := DataW.trod_bool Tryd.underlying4 h
      exact ⟨z, by simpa using e, trivial⟩) h
  exact ⟨v, ts, e, h1, h2⟩
end
end Go.Proofs.YthmimcegiihcnaaDoor
