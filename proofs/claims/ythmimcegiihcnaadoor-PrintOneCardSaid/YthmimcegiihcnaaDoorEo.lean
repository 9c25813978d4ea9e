/- An argument that is a source (slices of structs, one within another), opened to the cells that the walks read. -/
import Derived.Test.YthmimcegiihcnaaDoorDe
import Derived.Test.YthmimcegiihcnaaDoorFb
namespace Go.Proofs.YthmimcegiihcnaaDoor
open Go.ChangeShapes Go.WideShapes Go.Deep Go.RowKit

section
variable {H : Type} {enc : TypeId × Value → H} {w : World} {base : Nat} {spare : Nat → Bool} {held : Bool}
/-- A slice whose elements all open to rows of a kind. -/
theorem open_list {S E : TypeId} (size : Nat) (hS : Tryd.prog.underlying S = some (.slice E)) (hE : Tryd.prog.cellsOf E = size) {T : Type} [Inhabited T] (rowOf : T → List Value) (good : T → Prop)
    (hrow : ∀ t, (rowOf t).length = size) (hpos : 0 < size)
    (helem : ∀ (n : Nat) (cs : List Value) (y : DataW H × List MemPlace), DataW.trod enc Tryd.prog w base spare held n E cs = some y → ∃ t, cs = rowOf t ∧ good t)
    {fuel : Nat} {cs : List Value} {x : DataW H × List MemPlace} (h : DataW.trod enc Tryd.prog w base spare held fuel S cs = some x) :
    ∃ (v : Value) (ts : List T), cs = [v] ∧ SlAt w v size (ts.map rowOf) ∧ ts.length ≤ maxLen ∧ ∀ t ∈ ts, good t := by
  rcases open_slice hS h with ⟨h0, _⟩ | ⟨a, len, cap, m, n, D, Pl, hcs, hb, hl, hm, hmm, hx, hi⟩
  · exact ⟨_, [], h0, .inl ⟨rfl, none, 0, rfl⟩, by simp, by simp⟩
  · have hlm : len ≤ m := by rw [hmm]; split <;> omega
    have key : ∀ i, ∃ t : T, i < len → (∀ j u, (rowOf t)[j]? = some u → w.cell? (a.add (i * size + j)) = some u) ∧ good t := by
      intro i
      by_cases hil : i < len
      · obtain ⟨cs', hc, ht'⟩ := hi i (by omega)
        rw [hE] at hc
        obtain ⟨t, rfl, hg⟩ := helem _ _ _ ht'
        obtain ⟨_, hcl, hat⟩ := World.cells?_some hc
        refine ⟨t, fun _ => ⟨fun j u hu => ?_, hg⟩⟩
        have hj : j < size := by rw [← hrow t]; exact (List.getElem?_eq_some_iff.1 hu).1
        rw [← Go.Deep.add_add, hat j hj, hu]
      · exact ⟨default, fun h => absurd h hil⟩
    obtain ⟨f, hf⟩ := Classical.axiomOfChoice key
    refine ⟨_, (List.range len).map f, hcs, ?_, by simp; omega, ?_⟩
    · by_cases hz : len = 0
      · subst hz
        exact .inl ⟨rfl, _, _, rfl⟩
      · obtain ⟨b, off, spot⟩ := a
        obtain ⟨u0, hu0⟩ : ∃ u, (rowOf (f 0))[0]? = some u := ⟨_, List.getElem?_eq_getElem (by rw [hrow]; exact hpos)⟩
        have h0 := (hf 0 (by omega)).1 0 _ hu0
        have hsp : spot = none := by simpa [Addr.add] using World.cell?_spot h0
        subst hsp
        refine .inr ⟨b, off, cap, by simp, ?_, fun i r hr j u hu => ?_⟩
        · have := lt_at_cell h0
          simpa [Addr.add] using this
        · simp only [List.map_map, List.getElem?_map, Option.map_eq_some_iff] at hr
          obtain ⟨i', hi', rfl⟩ := hr
          obtain ⟨hil, rfl⟩ := List.getElem?_eq_some_iff.1 hi'
          simp only [List.length_range] at hil
          simp only [List.getElem_range, Function.comp] at hu
          have := (hf i hil).1 j u hu
          rw [show (⟨b, off, none⟩ : Addr).add (i * size + j) = ⟨b, off + i * size + j, none⟩ by unfold Addr.add; split <;> simp_all [Nat.add_assoc]] at this
          exact this
    · intro p hp
      simp only [List.mem_map, List.mem_range] at hp
      obtain ⟨i, hi, rfl⟩ := hp
      exact (hf i hi).2

theorem one_int : Tryd.prog.cellsOf 3 = 1 := by kernel_rfl
theorem one_str : Tryd.prog.cellsOf 9 = 1 := by kernel_rfl
theorem one_bool : Tryd.prog.cellsOf 4 = 1 := by kernel_rfl
theorem cells_sym : Tryd.prog.cellsOf 40 = 4 := by kernel_rfl
theorem cells_part : Tryd.prog.cellsOf 46 = 6 := by kernel_rfl
theorem cells_alt : Tryd.prog.cellsOf 49 = 6 := by kernel_rfl
theorem cells_rule : Tryd.prog.cellsOf 52 = 3 := by kernel_rfl
theorem cells_decl : Tryd.prog.cellsOf 43 = 4 := by kernel_rfl
theorem cells_source : Tryd.prog.cellsOf 29 = 4 := by kernel_rfl
theorem one_syms : Tryd.prog.cellsOf 41 = 1 := by kernel_rfl
theorem one_parts : Tryd.prog.cellsOf 47 = 1 := by kernel_rfl
theorem one_alts : Tryd.prog.cellsOf 50 = 1 := by kernel_rfl
theorem one_rules : Tryd.prog.cellsOf 27 = 1 := by kernel_rfl
theorem one_decls : Tryd.prog.cellsOf 26 = 1 := by kernel_rfl

theorem six {α : Type} (l : List α) (h : l.length = 6) : ∃ a b c d e f, l = [a, b, c, d, e, f] := by
  rcases l with _ | ⟨a, _ | ⟨b, _ | ⟨c, _ | ⟨d, _ | ⟨e, _ | ⟨f, _ | ⟨g, l⟩⟩⟩⟩⟩⟩⟩ <;> simp at h
  exact ⟨a, b, c, d, e, f, rfl⟩
theorem three {α : Type} (l : List α) (h : l.length = 3) : ∃ a b c, l = [a, b, c] := by
  rcases l with _ | ⟨a, _ | ⟨b, _ | ⟨c, _ | ⟨d, l⟩⟩⟩⟩ <;> simp at h
  exact ⟨a, b, c, rfl⟩

def i64ok (n : Int) : Prop := -9223372036854775808 ≤ n ∧ n ≤ 9223372036854775807
theorem i64ok_of {n : Int} (h : (Lit.int .i64 n).wf = true) : i64ok n := by
  simpa [i64ok, Lit.wf, IntKind.min, IntKind.max, IntKind.signed, IntKind.bits] using h
def bigSym (s : Sp.Sym) : Prop := s.name.length ≤ maxLen ∧ i64ok s.num ∧ i64ok s.at_
theorem open_sym {n : Nat} {cs : List Value} {y : DataW H × List MemPlace} (h : DataW.trod enc Tryd.prog w base spare held n 40 cs = some y) : ∃ t, cs = symC t ∧ bigSym t := by
  obtain ⟨ys, n', _, _, hlen, hyl, hf⟩ := DataW.trod_struct Tryd.underlying40 h
  rw [cells_sym] at hlen
  obtain ⟨c0, c1, c2, c3, rfl⟩ := four cs hlen
  obtain ⟨y0, y1, y2, y3, rfl⟩ := four ys (by simpa using hyl)
  have g0 := hf 0 _ rfl
  have g1 := hf 1 _ rfl
  have g2 := hf 2 _ rfl
  have g3 := hf 3 _ rfl
  change DataW.trod enc Tryd.prog w base spare held n' 9 (([c0, c1, c2, c3].drop 0).take (Tryd.prog.cellsOf 9)) = _ at g0
  change DataW.trod enc Tryd.prog w base spare held n' 4 (([c0, c1, c2, c3].drop 1).take (Tryd.prog.cellsOf 4)) = _ at g1
  change DataW.trod enc Tryd.prog w base spare held n' 3 (([c0, c1, c2, c3].drop 2).take (Tryd.prog.cellsOf 3)) = _ at g2
  change DataW.trod enc Tryd.prog w base spare held n' 3 (([c0, c1, c2, c3].drop 3).take (Tryd.prog.cellsOf 3)) = _ at g3
  rw [one_str] at g0
  rw [one_bool] at g1
  rw [one_int] at g2 g3
  obtain ⟨s0, e0, _, l0⟩ := DataW.trod_string Tryd.underlying9 g0
  obtain ⟨b1, e1, _⟩ := DataW.trod_bool Tryd.underlying4 g1
  obtain ⟨z2, e2, _, w2⟩ := DataW.trod_int Tryd.underlying3 g2
  obtain ⟨z3, e3, _, w3⟩ := DataW.trod_int Tryd.underlying3 g3
  obtain rfl : c0 = _ := by simpa using e0
  obtain rfl : c1 = _ := by simpa using e1
  obtain rfl : c2 = _ := by simpa using e2
  obtain rfl : c3 = _ := by simpa using e3
  exact ⟨⟨s0.data.toList, b1, z2, z3⟩, by unfold symC; rw [str_eta], by rw [← size_list rfl]; exact l0, i64ok_of w2, i64ok_of w3⟩
def bigPart (p : Sp.Part) : Prop := bigSym p.sym ∧ p.code.length ≤ maxLen ∧ i64ok p.at_
theorem open_part {n : Nat} {cs : List Value} {y : DataW H × List MemPlace} (h : DataW.trod enc Tryd.prog w base spare held n 46 cs = some y) : ∃ t, cs = partC t ∧ bigPart t := by
  obtain ⟨ys, n', _, _, hlen, hyl, hf⟩ := DataW.trod_struct Tryd.underlying46 h
  rw [cells_part] at hlen
  obtain ⟨c0, c1, c2, c3, c4, c5, rfl⟩ := six cs hlen
  obtain ⟨y0, y1, y2, rfl⟩ := three ys (by simpa using hyl)
  have g0 := hf 0 _ rfl
  have g1 := hf 1 _ rfl
  have g2 := hf 2 _ rfl
  change DataW.trod enc Tryd.prog w base spare held n' 40 (([c0, c1, c2, c3, c4, c5].drop 0).take (Tryd.prog.cellsOf 40)) = _ at g0
  change DataW.trod enc Tryd.prog w base spare held n' 9 (([c0, c1, c2, c3, c4, c5].drop 4).take (Tryd.prog.cellsOf 9)) = _ at g1
  change DataW.trod enc Tryd.prog w base spare held n' 3 (([c0, c1, c2, c3, c4, c5].drop 5).take (Tryd.prog.cellsOf 3)) = _ at g2
  rw [cells_sym] at g0
  rw [one_str] at g1
  rw [one_int] at g2
  obtain ⟨s0, e0, l0⟩ := open_sym g0
  obtain ⟨s1, e1, _, l1⟩ := DataW.trod_string Tryd.underlying9 g1
  obtain ⟨z2, e2, _, w2⟩ := DataW.trod_int Tryd.underlying3 g2
  obtain rfl : c4 = _ := by simpa using e1
  obtain rfl : c5 = _ := by simpa using e2
  have e0' : [c0, c1, c2, c3] = symC s0 := e0
  unfold symC at e0'
  simp only [List.cons.injEq, and_true] at e0'
  obtain ⟨rfl, rfl, rfl, rfl⟩ := e0'
  exact ⟨⟨s0, s1.data.toList, z2⟩, by unfold partC symC; rw [str_eta]; rfl, l0, by rw [← size_list rfl]; exact l1, i64ok_of w2⟩

/-! ### Alternatives, rules, declarations: a datum beside the value of its slice -/
instance : Inhabited Sp.Sym := ⟨⟨[], false, 0, 0⟩⟩
instance : Inhabited Sp.Part := ⟨⟨default, [], 0⟩⟩
instance : Inhabited Sp.Alt := ⟨⟨[], default, 0⟩⟩
instance : Inhabited Sp.Rule := ⟨⟨[], [], 0⟩⟩
instance : Inhabited Sp.Decl := ⟨⟨0, [], [], 0⟩⟩
instance : Inhabited (Sp.Alt × Value) := ⟨(default, .bool false)⟩
instance : Inhabited (Sp.Rule × Value) := ⟨(default, .bool false)⟩
instance : Inhabited (Sp.Decl × Value) := ⟨(default, .bool false)⟩
def bigAlt (a : Sp.Alt) : Prop := a.parts.length ≤ maxLen ∧ (∀ p ∈ a.parts, bigPart p) ∧ bigSym a.prec ∧ i64ok a.at_
def bigRule (r : Sp.Rule) : Prop := r.left.length ≤ maxLen ∧ r.alts.length ≤ maxLen ∧ (∀ a ∈ r.alts, bigAlt a) ∧ i64ok r.at_
def bigDecl (d : Sp.Decl) : Prop := i64ok d.kind ∧ d.tag.length ≤ maxLen ∧ d.syms.length ≤ maxLen ∧ (∀ s ∈ d.syms, bigSym s) ∧ i64ok d.at_
def bigSrc (x : Sp.Source) : Prop := x.pro.length ≤ maxLen ∧ x.decls.length ≤ maxLen ∧ (∀ d ∈ x.decls, bigDecl d) ∧ x.rules.length ≤ maxLen ∧ (∀ r ∈ x.rules, bigRule r) ∧ x.tail.length ≤ maxLen
/-- A list of pairs is a list beside a function of places. -/
theorem pairs_idx {α : Type} (row : Value → α → List Value) (ts : List (α × Value)) : ts.map (fun t => row t.2 t.1) = (ts.map (·.1)).mapIdx (fun i a => row ((ts[i]?.map (·.2)).getD (.bool false)) a) := by
  apply List.ext_getElem?
  intro i
  rw [List.getElem?_mapIdx, List.getElem?_map, List.getElem?_map]
  cases h : ts[i]? <;> simp
theorem open_alt {n : Nat} {cs : List Value} {y : DataW H × List MemPlace} (h : DataW.trod enc Tryd.prog w base spare held n 49 cs = some y) : ∃ t : Sp.Alt × Value, cs = altC t.2 t.1 ∧ (SlAt w t.2 6 (t.1.parts.map partC) ∧ bigAlt t.1) := by
  obtain ⟨ys, n', _, _, hlen, hyl, hf⟩ := DataW.trod_struct Tryd.underlying49 h
  rw [cells_alt] at hlen
  obtain ⟨c0, c1, c2, c3, c4, c5, rfl⟩ := six cs hlen
  obtain ⟨y0, y1, y2, rfl⟩ := three ys (by simpa using hyl)
  have g0 := hf 0 _ rfl
  have g1 := hf 1 _ rfl
  have g2 := hf 2 _ rfl
  change DataW.trod enc Tryd.prog w base spare held n' 47 (([c0, c1, c2, c3, c4, c5].drop 0).take (Tryd.prog.cellsOf 47)) = _ at g0
  change DataW.trod enc Tryd.prog w base spare held n' 40 (([c0, c1, c2, c3, c4, c5].drop 1).take (Tryd.prog.cellsOf 40)) = _ at g1
  change DataW.trod enc Tryd.prog w base spare held n' 3 (([c0, c1, c2, c3, c4, c5].drop 5).take (Tryd.prog.cellsOf 3)) = _ at g2
  rw [one_parts] at g0
  rw [cells_sym] at g1
  rw [one_int] at g2
  obtain ⟨v, ps, e0, hsl, hml, hps⟩ := open_list 6 Tryd.underlying47 cells_part partC bigPart (fun _ => rfl) (by omega) (fun _ _ _ h => open_part h) g0
  obtain ⟨s1, e1, l1⟩ := open_sym g1
  obtain ⟨z2, e2, _, w2⟩ := DataW.trod_int Tryd.underlying3 g2
  obtain rfl : c0 = v := by simpa using e0
  obtain rfl : c5 = _ := by simpa using e2
  have e1' : [c1, c2, c3, c4] = symC s1 := e1
  unfold symC at e1'
  simp only [List.cons.injEq, and_true] at e1'
  obtain ⟨rfl, rfl, rfl, rfl⟩ := e1'
  exact ⟨(⟨ps, s1, z2⟩, c0), rfl, hsl, hml, hps, l1, i64ok_of w2⟩
theorem open_alts {fuel : Nat} {cs : List Value} {x : DataW H × List MemPlace} (h : DataW.trod enc Tryd.prog w base spare held fuel 50 cs = some x) :
    ∃ (v : Value) (al : List Sp.Alt), cs = [v] ∧ AltsAt w v al ∧ al.length ≤ maxLen ∧ ∀ a ∈ al, bigAlt a := by
  obtain ⟨v, ts, e0, hsl, hml, hts⟩ := open_list 6 Tryd.underlying50 cells_alt (fun t : Sp.Alt × Value => altC t.2 t.1) _ (fun _ => rfl) (by omega) (fun _ _ _ h => open_alt h) h
  refine ⟨v, ts.map (·.1), e0, ⟨_, by rw [← pairs_idx altC ts]; exact hsl, fun i a ha => ?_⟩, by simpa using hml, fun a ha => ?_⟩
  · rw [List.getElem?_map] at ha
    obtain ⟨t, ht, rfl⟩ := Option.map_eq_some_iff.1 ha
    rw [ht]
    exact (hts t (List.mem_of_getElem? ht)).1
  · obtain ⟨t, ht, rfl⟩ := List.mem_map.1 ha
    exact (hts t ht).2
theorem open_rule {n : Nat} {cs : List Value} {y : DataW H × List MemPlace} (h : DataW.trod enc Tryd.prog w base spare held n 52 cs = some y) : ∃ t : Sp.Rule × Value, cs = ruleC t.2 t.1 ∧ (AltsAt w t.2 t.1.alts ∧ bigRule t.1) := by
  obtain ⟨ys, n', _, _, hlen, hyl, hf⟩ := DataW.trod_struct Tryd.underlying52 h
  rw [cells_rule] at hlen
  obtain ⟨c0, c1, c2, rfl⟩ := three cs hlen
  obtain ⟨y0, y1, y2, rfl⟩ := three ys (by simpa using hyl)
  have g0 := hf 0 _ rfl
  have g1 := hf 1 _ rfl
  have g2 := hf 2 _ rfl
  change DataW.trod enc Tryd.prog w base spare held n' 9 (([c0, c1, c2].drop 0).take (Tryd.prog.cellsOf 9)) = _ at g0
  change DataW.trod enc Tryd.prog w base spare held n' 50 (([c0, c1, c2].drop 1).take (Tryd.prog.cellsOf 50)) = _ at g1
  change DataW.trod enc Tryd.prog w base spare held n' 3 (([c0, c1, c2].drop 2).take (Tryd.prog.cellsOf 3)) = _ at g2
  rw [one_str] at g0
  rw [one_alts] at g1
  rw [one_int] at g2
  obtain ⟨s0, e0, _, l0⟩ := DataW.trod_string Tryd.underlying9 g0
  obtain ⟨v, al, e1, hal, hml, hb⟩ := open_alts g1
  obtain ⟨z2, e2, _, w2⟩ := DataW.trod_int Tryd.underlying3 g2
  obtain rfl : c0 = _ := by simpa using e0
  obtain rfl : c1 = v := by simpa using e1
  obtain rfl : c2 = _ := by simpa using e2
  exact ⟨(⟨s0.data.toList, al, z2⟩, c1), by show _ = [Value.string ⟨s0.data.toList.toArray⟩, c1, .int .i64 z2]; rw [str_eta], hal, by show s0.data.toList.length ≤ _; rw [← size_list rfl]; exact l0, hml, hb, i64ok_of w2⟩
theorem open_rules {fuel : Nat} {cs : List Value} {x : DataW H × List MemPlace} (h : DataW.trod enc Tryd.prog w base spare held fuel 27 cs = some x) :
    ∃ (v : Value) (rs : List Sp.Rule), cs = [v] ∧ RulesAt w v rs ∧ rs.length ≤ maxLen ∧ ∀ r ∈ rs, bigRule r := by
  obtain ⟨v, ts, e0, hsl, hml, hts⟩ := open_list 3 Tryd.underlying27 cells_rule (fun t : Sp.Rule × Value => ruleC t.2 t.1) _ (fun _ => rfl) (by omega) (fun _ _ _ h => open_rule h) h
  refine ⟨v, ts.map (·.1), e0, ⟨_, by rw [← pairs_idx ruleC ts]; exact hsl, fun i a ha => ?_⟩, by simpa using hml, fun a ha => ?_⟩
  · rw [List.getElem?_map] at ha
    obtain ⟨t, ht, rfl⟩ := Option.map_eq_some_iff.1 ha
    rw [ht]
    exact (hts t (List.mem_of_getElem? ht)).1
  · obtain ⟨t, ht, rfl⟩ := List.mem_map.1 ha
    exact (hts t ht).2
theorem open_decl {n : Nat} {cs : List Value} {y : DataW H × List MemPlace} (h : DataW.trod enc Tryd.prog w base spare held n 43 cs = some y) : ∃ t : Sp.Decl × Value, cs = declC t.2 t.1 ∧ (SlAt w t.2 4 (t.1.syms.map symC) ∧ bigDecl t.1) := by
  obtain ⟨ys, n', _, _, hlen, hyl, hf⟩ := DataW.trod_struct Tryd.underlying43 h
  rw [cells_decl] at hlen
  obtain ⟨c0, c1, c2, c3, rfl⟩ := four cs hlen
  obtain ⟨y0, y1, y2, y3, rfl⟩ := four ys (by simpa using hyl)
  have g0 := hf 0 _ rfl
  have g1 := hf 1 _ rfl
  have g2 := hf 2 _ rfl
  have g3 := hf 3 _ rfl
  change DataW.trod enc Tryd.prog w base spare held n' 3 (([c0, c1, c2, c3].drop 0).take (Tryd.prog.cellsOf 3)) = _ at g0
  change DataW.trod enc Tryd.prog w base spare held n' 9 (([c0, c1, c2, c3].drop 1).take (Tryd.prog.cellsOf 9)) = _ at g1
  change DataW.trod enc Tryd.prog w base spare held n' 41 (([c0, c1, c2, c3].drop 2).take (Tryd.prog.cellsOf 41)) = _ at g2
  change DataW.trod enc Tryd.prog w base spare held n' 3 (([c0, c1, c2, c3].drop 3).take (Tryd.prog.cellsOf 3)) = _ at g3
  rw [one_int] at g0 g3
  rw [one_str] at g1
  rw [one_syms] at g2
  obtain ⟨z0, e0, _, w0⟩ := DataW.trod_int Tryd.underlying3 g0
  obtain ⟨s1, e1, _, l1⟩ := DataW.trod_string Tryd.underlying9 g1
  obtain ⟨v, ss, e2, hsl, hml, hss⟩ := open_list 4 Tryd.underlying41 cells_sym symC bigSym (fun _ => rfl) (by omega) (fun _ _ _ h => open_sym h) g2
  obtain ⟨z3, e3, _, w3⟩ := DataW.trod_int Tryd.underlying3 g3
  obtain rfl : c0 = _ := by simpa using e0
  obtain rfl : c1 = _ := by simpa using e1
  obtain rfl : c2 = v := by simpa using e2
  obtain rfl : c3 = _ := by simpa using e3
  exact ⟨(⟨z0, s1.data.toList, ss, z3⟩, c2), by show _ = [Value.int .i64 z0, .string ⟨s1.data.toList.toArray⟩, c2, .int .i64 z3]; rw [str_eta], hsl, i64ok_of w0, by show s1.data.toList.length ≤ _; rw [← size_list rfl]; exact l1, hml, hss, i64ok_of w3⟩
theorem open_decls {fuel : Nat} {cs : List Value} {x : DataW H × List MemPlace} (h : DataW.trod enc Tryd.prog w base spare held fuel 26 cs = some x) :
    ∃ (v : Value) (ds : List Sp.Decl), cs = [v] ∧ DeclsAt w v ds ∧ ds.length ≤ maxLen ∧ ∀ d ∈ ds, bigDecl d := by
  obtain ⟨v, ts, e0, hsl, hml, hts⟩ := open_list 4 Tryd.underlying26 cells_decl (fun t : Sp.Decl × Value => declC t.2 t.1) _ (fun _ => rfl) (by omega) (fun _ _ _ h => open_decl h) h
  refine ⟨v, ts.map (·.1), e0, ⟨_, by rw [← pairs_idx declC ts]; exact hsl, fun i a ha => ?_⟩, by simpa using hml, fun a ha => ?_⟩
  · rw [List.getElem?_map] at ha
    obtain ⟨t, ht, rfl⟩ := Option.map_eq_some_iff.1 ha
    rw [ht]
    exact (hts t (List.mem_of_getElem? ht)).1
  · obtain ⟨t, ht, rfl⟩ := List.mem_map.1 ha
    exact (hts t ht).2
theorem open_source {fuel : Nat} {cs : List Value} {y : DataW H × List MemPlace} (h : DataW.trod enc Tryd.prog w base spare held fuel 29 cs = some y) :
    ∃ (x : Sp.Source) (vd vr : Value), cs = srcC vd vr x ∧ DeclsAt w vd x.decls ∧ RulesAt w vr x.rules ∧ bigSrc x := by
  obtain ⟨ys, n', _, _, hlen, hyl, hf⟩ := DataW.trod_struct Tryd.underlying29 h
  rw [cells_source] at hlen
  obtain ⟨c0, c1, c2, c3, rfl⟩ := four cs hlen
  obtain ⟨y0, y1, y2, y3, rfl⟩ := four ys (by simpa using hyl)
  have g0 := hf 0 _ rfl
  have g1 := hf 1 _ rfl
  have g2 := hf 2 _ rfl
  have g3 := hf 3 _ rfl
  change DataW.trod enc Tryd.prog w base spare held n' 9 (([c0, c1, c2, c3].drop 0).take (Tryd.prog.cellsOf 9)) = _ at g0
  change DataW.trod enc Tryd.prog w base spare held n' 26 (([c0, c1, c2, c3].drop 1).take (Tryd.prog.cellsOf 26)) = _ at g1
  change DataW.trod enc Tryd.prog w base spare held n' 27 (([c0, c1, c2, c3].drop 2).take (Tryd.prog.cellsOf 27)) = _ at g2
  change DataW.trod enc Tryd.prog w base spare held n' 9 (([c0, c1, c2, c3].drop 3).take (Tryd.prog.cellsOf 9)) = _ at g3
  rw [one_str] at g0 g3
  rw [one_decls] at g1
  rw [one_rules] at g2
  obtain ⟨s0, e0, _, l0⟩ := DataW.trod_string Tryd.underlying9 g0
  obtain ⟨vd, dl, e1, hd, hdl, hdb⟩ := open_decls g1
  obtain ⟨vr, rl, e2, hr, hrl, hrb⟩ := open_rules g2
  obtain ⟨s3, e3, _, l3⟩ := DataW.trod_string Tryd.underlying9 g3
  obtain rfl : c0 = _ := by simpa using e0
  obtain rfl : c1 = vd := by simpa using e1
  obtain rfl : c2 = vr := by simpa using e2
  obtain rfl : c3 = _ := by simpa using e3
  exact ⟨⟨s0.data.toList, dl, rl, s3.data.toList⟩, c1, c2, by show _ = [Value.string ⟨s0.data.toList.toArray⟩, c1, c2, .string ⟨s3.data.toList.toArray⟩]; rw [str_eta, str_eta], hd, hr, by show s0.data.toList.length ≤ _; rw [← size_list rfl]; exact l0, hdl, hdb, hrl, hrb, by show s3.data.toList.length ≤ _; rw [← size_list rfl]; exact l3⟩
end
end Go.Proofs.YthmimcegiihcnaaDoor
