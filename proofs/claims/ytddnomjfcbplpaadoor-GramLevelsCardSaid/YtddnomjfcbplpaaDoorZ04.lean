/- Layer 8: the walks of what print asks of a part, an alternative, a rule, a source. Layer 8: the walk of print.May. The walks of the laws' own helpers: Text, wakes of layer 5. Rows of a call's own, one within another: what of them stays while others are written. Rows of a call's own: sources' declarations and rules; slices out of blocks. (Stood in Ei, Dl, Eu.) Arguments that are lists of numbers or of truth values, opened to the cells that the walks read. -/
import Derived.Deep.RegionWith
import Derived.Test.YtddnomjfcbplpaaDoorZ02
import Derived.Test.YtddnomjfcbplpaaDoorZ03
import Derived.Test.YtddnomjfcbplpaaDoorZ01
import Derived.Test.YtddnomjfcbplpaaDoorZ00
namespace Go.Proofs.YtddnomjfcbplpaaDoor
open Go.RowKit

def partC (p : Sp.Part) : List Value := symC p.sym ++ [.string ⟨p.code.toArray⟩, .int .i64 p.at_]
def partV (p : Sp.Part) : Value := .agg (partC p).toArray
def smallPart (p : Sp.Part) : Prop := p.sym.name.length ≤ 4000 ∧ p.code.length ≤ 4000

set_option maxRecDepth 100000 in
set_option maxHeartbeats 3200000 in
theorem print_part (p : Sp.Part) (W : World) (hs : smallPart p) (hg : Gl W) :
    Calls Tryd.prog 98 #[partV p] W fun e w' => e = .returned (.bool (Sp.mayPart p)) ∧ Below W.heap.size W w' := by
  obtain ⟨hs1, hs2⟩ := hs
  have HBa := Lib.hid (fun w => print_bare p.sym w hs1)
  have HEm := Lib.hid (fun w => print_empty p.sym w)
  have HG := Lib.hid (fun o : Obj => hg.alloc o)
  have HB := Lib.hid (fun o : Obj => (Below.refl _ W).alloc (Nat.le_refl _) o)
  obtain ⟨⟨nm, lt, nu, pa⟩, cd, pb⟩ := p
  simp only at hs1 hs2
  show Calls _ _ #[.agg #[.string ⟨nm.toArray⟩, .bool lt, .int .i64 nu, .int .i64 pa, .string ⟨cd.toArray⟩, .int .i64 pb]] _ _
  have hq : Sp.mayPart ⟨⟨nm, lt, nu, pa⟩, cd, pb⟩ = if cd = [] then Sp.isBare ⟨nm, lt, nu, pa⟩ else Sp.isNone ⟨nm, lt, nu, pa⟩ && decide (Sp.endAt cd 0 = (cd.length : Int)) := rfl
  by_cases hc : cd = []
  · subst hc
    rw [hq, if_pos rfl]
    clear hq HEm HG
    go_enter Tryd.func98, Tryd.ntmps98
    go_wp2_with fail
    refine (HBa.out _).mono ?_
    rintro e w' ⟨rfl, hb⟩
    have HB' := Lib.hid ((HB.out _).trans (hb.mono (by simp)))
    clear hb
    go_wp2_with fail
    go_ret
    exact ⟨rfl, HB'.out⟩
  · rw [hq, if_neg hc]
    obtain ⟨c, u, rfl⟩ : ∃ c u, cd = c :: u := by cases cd with | nil => exact absurd rfl hc | cons c u => exact ⟨c, u, rfl⟩
    have hne : (c :: u).isEmpty = false := rfl
    have HE := Lib.hid (fun w hw => body_End ⟨(c :: u).toArray⟩ 0 w (by rw [Lib.size_eq]; show (c :: u).length < _; omega) hw)
    have hT : (⟨(c :: u).toArray⟩ : ByteArray).data.toList = c :: u := rfl
    rw [hT] at HE
    have hsz : (⟨(c :: u).toArray⟩ : ByteArray).size = u.length + 1 := by rw [Lib.size_eq]; rfl
    have hdec : decide (Sp.endAt (c :: u) 0 = ((c :: u).length : Int)) = (Sp.endAt (c :: u) 0 == ((u.length + 1 : Nat) : Int)) := rfl
    rw [hdec]
    generalize Sp.endAt (c :: u) 0 = E at HE
    generalize Sp.isNone ⟨nm, lt, nu, pa⟩ = q at HEm
    clear hq hc hT hdec HBa
    have hcs : ∀ w2, Below (W.heap.size + 1) (W.alloc (.cells #[.string ⟨nm.toArray⟩, .bool lt, .int .i64 nu, .int .i64 pa, .string ⟨(c :: u).toArray⟩, .int .i64 pb] 63)) w2 →
        w2.cell? ⟨W.heap.size, 0, none⟩ = some (.string ⟨nm.toArray⟩) ∧ w2.cell? ⟨W.heap.size, 1, none⟩ = some (.bool lt) ∧ w2.cell? ⟨W.heap.size, 2, none⟩ = some (.int .i64 nu) ∧ w2.cell? ⟨W.heap.size, 3, none⟩ = some (.int .i64 pa) ∧ w2.cell? ⟨W.heap.size, 4, none⟩ = some (.string ⟨(c :: u).toArray⟩) ∧ Below (W.heap.size + 1) (W.alloc (.cells #[.string ⟨nm.toArray⟩, .bool lt, .int .i64 nu, .int .i64 pa, .string ⟨(c :: u).toArray⟩, .int .i64 pb] 63)) w2 := fun w2 h => by
      have hF := (h.block W.heap.size (by omega)).trans (heap_last W _)
      exact ⟨cell_at (i := 0) hF, cell_at (i := 1) hF, cell_at (i := 2) hF, cell_at (i := 3) hF, cell_at (i := 4) hF, h⟩
    have hself := hcs _ (Below.refl _ _)
    have hselfd := hcs _ (below_drewN (Below.refl _ _) 1)
    have HEm' := Lib.hid (fun W' (hW' : Below (W.heap.size + 1) (W.alloc (.cells #[.string ⟨nm.toArray⟩, .bool lt, .int .i64 nu, .int .i64 pa, .string ⟨(c :: u).toArray⟩, .int .i64 pb] 63)) W') => (HEm.out W').mono fun e w'' (h : e = .returned (.bool q) ∧ Below W'.heap.size W' w'') => And.intro h.1 (hcs w'' (hW'.trans (h.2.mono (by have := hW'.size; simp at this; omega)))))
    have HE' := Lib.hid (fun W' (hW' : Below (W.heap.size + 1) (W.alloc (.cells #[.string ⟨nm.toArray⟩, .bool lt, .int .i64 nu, .int .i64 pa, .string ⟨(c :: u).toArray⟩, .int .i64 pb] 63)) W') => (HE.out W' ((HG.out _).below (hW'.mono (by simp)))).mono fun e w'' (h : e = .returned (.int .i64 E) ∧ ∃ n, w'' = W'.drewN n) => And.intro h.1 (hcs w'' (by obtain ⟨n, hn⟩ := h.2; rw [hn]; exact below_drewN hW' n)))
    have HS1 := Lib.hid hself; have HS2 := Lib.hid hselfd
    clear hcs HEm HE hself hselfd
    have HFIN : Hid (∀ w2, Below (W.heap.size + 1) (W.alloc (.cells #[.string ⟨nm.toArray⟩, .bool lt, .int .i64 nu, .int .i64 pa, .string ⟨(c :: u).toArray⟩, .int .i64 pb] 63)) w2 → Below W.heap.size W w2) := Lib.hid (fun w2 h => (HB.out _).trans (h.mono (by omega)))
    cases q with
    | false =>
      go_enter Tryd.func98, Tryd.ntmps98
      go_wp2_with fail
      first
      | (go_region_with (first
          | (go_at_call 94; refine (HEm'.out _ ?_).mono ?_; (first | assumption | exact HS2.out.2.2.2.2.2 | exact HS1.out.2.2.2.2.2); rintro e w' ⟨rfl, d1, d2, d3, d4, d5, d6⟩)
          | (go_at_call 49; refine (HE'.out _ ?_).mono ?_; (first | assumption | exact HS2.out.2.2.2.2.2 | exact HS1.out.2.2.2.2.2); rintro e w' ⟨rfl, d1, d2, d3, d4, d5, d6⟩)))
      | fail
      all_goals (go_wp2_with fail; go_ret; exact ⟨rfl, HFIN.out _ d6⟩)
    | true =>
      go_enter Tryd.func98, Tryd.ntmps98
      go_wp2_with fail
      first
      | (go_region_with (first
          | (go_at_call 94; refine (HEm'.out _ ?_).mono ?_; (first | assumption | exact HS2.out.2.2.2.2.2 | exact HS1.out.2.2.2.2.2); rintro e w' ⟨rfl, d1, d2, d3, d4, d5, d6⟩)
          | (go_at_call 49; refine (HE'.out _ ?_).mono ?_; (first | assumption | exact HS2.out.2.2.2.2.2 | exact HS1.out.2.2.2.2.2); rintro e w' ⟨rfl, d1, d2, d3, d4, d5, d6⟩)))
      | fail
      all_goals (go_wp2_with fail; go_ret; exact ⟨ret_bool (by simp), HFIN.out _ d6⟩)

set_option maxHeartbeats 800000 in
theorem print_alt1 (p : Sp.Part) (W : World) (hs : smallPart p) (hg : Gl W) :
    Calls Tryd.prog 97 #[partV p] W fun e w' => e = .returned (.bool (!Sp.mayPart p)) ∧ Below W.heap.size W w' := by
  have HP := Lib.hid (fun w hw => print_part p w hs hw)
  have HB := Lib.hid (fun o : Obj => (Below.refl _ W).alloc (Nat.le_refl _) o)
  have HG := Lib.hid (fun o : Obj => hg.alloc o)
  generalize Sp.mayPart p = q at HP
  obtain ⟨⟨nm, lt, nu, pa⟩, cd, pb⟩ := p
  clear hs
  show Calls _ _ #[.agg #[.string ⟨nm.toArray⟩, .bool lt, .int .i64 nu, .int .i64 pa, .string ⟨cd.toArray⟩, .int .i64 pb]] _ _
  go_enter Tryd.func97, Tryd.ntmps97
  go_wp2_with fail
  refine (HP.out _ (HG.out _)).mono ?_
  rintro e w' ⟨rfl, hb⟩
  have HB' := Lib.hid ((HB.out _).trans (hb.mono (by simp)))
  clear hb
  go_wp2_with fail
  go_ret
  exact ⟨rfl, HB'.out⟩

/-! ### Alternatives -/
def altC (v : Value) (a : Sp.Alt) : List Value := v :: (symC a.prec ++ [.int .i64 a.at_])
def smallAlt (a : Sp.Alt) : Prop := a.parts.length ≤ 4000 ∧ (∀ p ∈ a.parts, smallPart p) ∧ a.prec.name.length ≤ 4000
theorem any_range {α : Type} (f : α → Bool) (g : Nat → Bool) : ∀ (l : List α) (n : Nat), n = l.length → (∀ i x, l[i]? = some x → g i = !f x) → (List.range n).any g = !l.all f := by
  intro l n hn hg
  subst hn
  rw [Bool.eq_iff_iff, List.any_eq_true]
  simp only [List.mem_range, Bool.not_eq_true', List.all_eq_false]
  constructor
  · rintro ⟨i, hi, h⟩
    refine ⟨l[i], List.getElem_mem hi, ?_⟩
    rw [hg i l[i] (List.getElem?_eq_getElem hi)] at h
    simpa using h
  · rintro ⟨x, hx, h⟩
    obtain ⟨i, hi, rfl⟩ := List.getElem_of_mem hx
    refine ⟨i, hi, ?_⟩
    rw [hg i l[i] (List.getElem?_eq_getElem hi)]
    simpa using h
/-- slices.ContainsFunc over parts: is there one that may not be? -/
theorem parts_bad (ps : List Sp.Part) (v : Value) (w : World) (hsl : SlAt w v 6 (ps.map partC)) (hl : ps.length ≤ 4000) (hs : ∀ p ∈ ps, smallPart p) (hg : Gl w) :
    Calls Tryd.prog 96 #[v, .func (.func 97) #[] #[]] w fun e w' => e = .returned (.bool (!ps.all Sp.mayPart)) ∧ Below w.heap.size w w' := by
  have h := contains_Part v (ps.map partC) (fun i => !((ps[i]?.map Sp.mayPart).getD true)) w hsl (by
    intro row hr
    simp only [List.mem_map] at hr
    obtain ⟨p, _, rfl⟩ := hr
    rfl) (by rw [List.length_map]; omega) (fun i row hr W hW => by
      rw [List.getElem?_map] at hr
      obtain ⟨p, hp, rfl⟩ := Option.map_eq_some_iff.1 hr
      have h1 := print_alt1 p W (hs p (List.mem_of_getElem? hp)) (hg.below hW)
      simp only [hp, Option.map_some, Option.getD_some]
      exact h1)
  rw [List.length_map, any_range Sp.mayPart _ ps _ rfl (fun i x hx => by simp [hx])] at h
  exact h

set_option maxRecDepth 100000 in
set_option maxHeartbeats 3200000 in
theorem print_alt (a : Sp.Alt) (v : Value) (W : World) (hsl : SlAt W v 6 (a.parts.map partC)) (hs : smallAlt a) (hg : Gl W) :
    Calls Tryd.prog 71 #[.agg (altC v a).toArray] W fun e w' => e = .returned (.bool (Sp.mayAlt a)) ∧ Below W.heap.size W w' := by
  obtain ⟨hs1, hs2, hs3⟩ := hs
  have HE := Lib.hid (fun w => print_empty a.prec w)
  have HBa := Lib.hid (fun w => print_bare a.prec w hs3)
  have HC := Lib.hid (fun w' (hb : Below W.heap.size W w') => parts_bad a.parts v w' (hsl.below hb) hs1 hs2 (hg.below hb))
  have HB := Lib.hid (fun o : Obj => (Below.refl _ W).alloc (Nat.le_refl _) o)
  have hq : Sp.mayAlt a = ((Sp.isNone a.prec || Sp.isBare a.prec) && a.parts.all Sp.mayPart) := rfl
  rw [hq]
  generalize Sp.isNone a.prec = q1 at HE
  generalize Sp.isBare a.prec = q2 at HBa
  generalize a.parts.all Sp.mayPart = q3 at HC
  obtain ⟨ps, ⟨nm, lt, nu, pa⟩, pb⟩ := a
  clear hq hs1 hs2 hs3
  obtain ⟨av, cap, rfl⟩ := hsl.form
  generalize (ps.map partC).length = n at *
  clear hsl
  show Calls _ _ #[.agg #[.slice av n cap, .string ⟨nm.toArray⟩, .bool lt, .int .i64 nu, .int .i64 pa, .int .i64 pb]] _ _
  go_enter Tryd.func71, Tryd.ntmps71
  go_wp2_with fail
  refine (HE.out _).mono ?_
  rintro e w1 ⟨rfl, hb1⟩
  have hF1 := (hb1.block W.heap.size (by simp)).trans (heap_last W _)
  have HB1 := Lib.hid ((HB.out _).trans (hb1.mono (by simp)))
  have hs1 := hb1.size
  simp only [World.size_alloc] at hs1
  have hl1 : W.heap.size < w1.heap.size := by omega
  have c0 := cell_at (i := 0) hF1; have c1 := cell_at (i := 1) hF1; have c2 := cell_at (i := 2) hF1; have c3 := cell_at (i := 3) hF1; have c4 := cell_at (i := 4) hF1
  have HF1 := Lib.hid hF1
  clear hb1 hF1
  cases q1 with
  | true =>
    go_wp2_with fail
    refine (HC.out _ HB1.out).mono ?_
    rintro e w2 ⟨rfl, hb2⟩
    have HB2 := Lib.hid (HB1.out.trans (hb2.mono HB1.out.size))
    clear hb2
    go_wp2_with fail
    go_ret
    exact ⟨ret_bool (by simp), HB2.out⟩
  | false =>
    go_wp2_with fail
    refine (HBa.out _).mono ?_
    rintro e w2 ⟨rfl, hb2⟩
    have hF2 := (hb2.block W.heap.size (by omega)).trans HF1.out
    have HB2 := Lib.hid (HB1.out.trans (hb2.mono HB1.out.size))
    have d0 := cell_at (i := 0) hF2
    have hl2 : W.heap.size < w2.heap.size := lt_at hF2
    clear hb2 hF2
    cases q2 with
    | false =>
      go_wp2_with fail
      go_ret
      exact ⟨rfl, HB2.out⟩
    | true =>
      go_wp2_with fail
      refine (HC.out _ HB2.out).mono ?_
      rintro e w3 ⟨rfl, hb3⟩
      have HB3 := Lib.hid (HB2.out.trans (hb3.mono HB2.out.size))
      clear hb3
      go_wp2_with fail
      go_ret
      exact ⟨ret_bool (by simp), HB3.out⟩

set_option maxHeartbeats 800000 in
theorem print_rule1 (a : Sp.Alt) (v : Value) (W : World) (hsl : SlAt W v 6 (a.parts.map partC)) (hs : smallAlt a) (hg : Gl W) :
    Calls Tryd.prog 70 #[.agg (altC v a).toArray] W fun e w' => e = .returned (.bool (!Sp.mayAlt a)) ∧ Below W.heap.size W w' := by
  have HP := Lib.hid (fun w' (hb : Below W.heap.size W w') => print_alt a v w' (hsl.below hb) hs (hg.below hb))
  have HB := Lib.hid (fun o : Obj => (Below.refl _ W).alloc (Nat.le_refl _) o)
  generalize Sp.mayAlt a = q at HP
  obtain ⟨ps, ⟨nm, lt, nu, pa⟩, pb⟩ := a
  obtain ⟨av, cap, rfl⟩ := hsl.form
  generalize (ps.map partC).length = n at *
  clear hs hsl
  show Calls _ _ #[.agg #[.slice av n cap, .string ⟨nm.toArray⟩, .bool lt, .int .i64 nu, .int .i64 pa, .int .i64 pb]] _ _
  go_enter Tryd.func70, Tryd.ntmps70
  go_wp2_with fail
  refine (HP.out _ (HB.out _)).mono ?_
  rintro e w' ⟨rfl, hb⟩
  have HB' := Lib.hid ((HB.out _).trans (hb.mono (by simp)))
  clear hb
  go_wp2_with fail
  go_ret
  exact ⟨rfl, HB'.out⟩

/-- A slice of alternatives, read through. -/
def AltsAt (w : World) (v : Value) (al : List Sp.Alt) : Prop := ∃ f : Nat → Value, SlAt w v 6 (al.mapIdx fun i a => altC (f i) a) ∧ ∀ (i : Nat) (a : Sp.Alt), al[i]? = some a → SlAt w (f i) 6 (a.parts.map partC)
theorem AltsAt.below {w w' : World} {v : Value} {al : List Sp.Alt} (h : AltsAt w v al) (hb : Below w.heap.size w w') : AltsAt w' v al := by
  obtain ⟨f, h1, h2⟩ := h
  exact ⟨f, h1.below hb, fun i a ha => (h2 i a ha).below hb⟩
theorem alts_bad (al : List Sp.Alt) (v : Value) (w : World) (hsl : AltsAt w v al) (hl : al.length ≤ 4000) (hs : ∀ a ∈ al, smallAlt a) (hg : Gl w) :
    Calls Tryd.prog 69 #[v, .func (.func 70) #[] #[]] w fun e w' => e = .returned (.bool (!al.all Sp.mayAlt)) ∧ Below w.heap.size w w' := by
  obtain ⟨f, h1, h2⟩ := hsl
  have h := contains_Alt v _ (fun i => !((al[i]?.map Sp.mayAlt).getD true)) w h1 (by
    intro row hr
    rw [List.mem_iff_getElem?] at hr
    obtain ⟨i, hi⟩ := hr
    rw [List.getElem?_mapIdx] at hi
    obtain ⟨a, _, rfl⟩ := Option.map_eq_some_iff.1 hi
    rfl) (by rw [List.length_mapIdx]; omega) (fun i row hr W hW => by
      rw [List.getElem?_mapIdx] at hr
      obtain ⟨a, ha, rfl⟩ := Option.map_eq_some_iff.1 hr
      have h3 := print_rule1 a (f i) W ((h2 i a ha).below hW) (hs a (List.mem_of_getElem? ha)) (hg.below hW)
      simp only [ha, Option.map_some, Option.getD_some]
      exact h3)
  rw [List.length_mapIdx, any_range Sp.mayAlt _ al _ rfl (fun i x hx => by simp [hx])] at h
  exact h

/-! ### Rules -/
def ruleC (v : Value) (r : Sp.Rule) : List Value := [.string ⟨r.left.toArray⟩, v, .int .i64 r.at_]
def smallRule (r : Sp.Rule) : Prop := r.left.length ≤ 4000 ∧ r.alts.length ≤ 4000 ∧ ∀ a ∈ r.alts, smallAlt a
theorem AltsAt.form {w : World} {v : Value} {al : List Sp.Alt} (h : AltsAt w v al) : ∃ a cap, v = .slice a al.length cap := by
  obtain ⟨f, h1, _⟩ := h
  obtain ⟨a, cap, hv⟩ := h1.form
  rw [List.length_mapIdx] at hv
  exact ⟨a, cap, hv⟩

set_option maxHeartbeats 1600000 in
theorem print_rule (r : Sp.Rule) (v : Value) (W : World) (hsl : AltsAt W v r.alts) (hs : smallRule r) (hg : Gl W) :
    Calls Tryd.prog 43 #[.agg (ruleC v r).toArray] W fun e w' => e = .returned (.bool (Sp.mayRule r)) ∧ Below W.heap.size W w' := by
  obtain ⟨hs1, hs2, hs3⟩ := hs
  have HN := Lib.hid (fun w => body_Name ⟨r.left.toArray⟩ w (by rw [Lib.size_eq]; show r.left.length < _; omega))
  have HT : (⟨r.left.toArray⟩ : ByteArray).data.toList = r.left := rfl
  rw [HT] at HN
  have HC := Lib.hid (fun w' (hb : Below W.heap.size W w') => alts_bad r.alts v w' (hsl.below hb) hs2 hs3 (hg.below hb))
  have HB := Lib.hid (fun o : Obj => (Below.refl _ W).alloc (Nat.le_refl _) o)
  have hq : Sp.mayRule r = (Sp.isName r.left && decide (0 < r.alts.length) && r.alts.all Sp.mayAlt) := rfl
  rw [hq]
  obtain ⟨av, cap, rfl⟩ := hsl.form
  generalize Sp.isName r.left = q1 at HN
  generalize r.alts.all Sp.mayAlt = q3 at HC
  generalize hn : r.alts.length = n at *
  obtain ⟨lf, al, pb⟩ := r
  clear hq hs1 hs3 hsl hn HT
  show Calls _ _ #[.agg #[.string ⟨lf.toArray⟩, .slice av n cap, .int .i64 pb]] _ _
  cases q1 with
  | false =>
    go_enter Tryd.func43, Tryd.ntmps43
    go_wp2_with (go_at_call 66; refine (HN.out _).mono ?_; rintro e w' ⟨rfl, rfl⟩)
    go_ret
    exact ⟨rfl, HB.out _⟩
  | true =>
    by_cases h0 : n = 0
    · subst h0
      go_enter Tryd.func43, Tryd.ntmps43
      go_wp2_with (go_at_call 66; refine (HN.out _).mono ?_; rintro e w' ⟨rfl, rfl⟩)
      go_ret
      exact ⟨rfl, HB.out _⟩
    · have hp : (0 : Int) < (n : Int) := by omega
      have hd : decide (0 < n) = true := by rw [decide_eq_true_iff]; omega
      rw [hd]
      clear hd
      go_enter Tryd.func43, Tryd.ntmps43
      go_wp2_with (go_at_call 66; refine (HN.out _).mono ?_; rintro e w' ⟨rfl, rfl⟩)
      refine (HC.out _ (HB.out _)).mono ?_
      rintro e w2 ⟨rfl, hb2⟩
      have HB2 := Lib.hid ((HB.out _).trans (hb2.mono (by simp)))
      clear hb2
      go_wp2_with fail
      go_ret
      exact ⟨ret_bool (by simp), HB2.out⟩

set_option maxHeartbeats 800000 in
theorem print_May2 (r : Sp.Rule) (v : Value) (W : World) (hsl : AltsAt W v r.alts) (hs : smallRule r) (hg : Gl W) :
    Calls Tryd.prog 42 #[.agg (ruleC v r).toArray] W fun e w' => e = .returned (.bool (!Sp.mayRule r)) ∧ Below W.heap.size W w' := by
  have HP := Lib.hid (fun w' (hb : Below W.heap.size W w') => print_rule r v w' (hsl.below hb) hs (hg.below hb))
  have HB := Lib.hid (fun o : Obj => (Below.refl _ W).alloc (Nat.le_refl _) o)
  generalize Sp.mayRule r = q at HP
  obtain ⟨lf, al, pb⟩ := r
  obtain ⟨av, cap, rfl⟩ := hsl.form
  generalize al.length = n at *
  clear hs hsl
  show Calls _ _ #[.agg #[.string ⟨lf.toArray⟩, .slice av n cap, .int .i64 pb]] _ _
  go_enter Tryd.func42, Tryd.ntmps42
  go_wp2_with fail
  refine (HP.out _ (HB.out _)).mono ?_
  rintro e w' ⟨rfl, hb⟩
  have HB' := Lib.hid ((HB.out _).trans (hb.mono (by simp)))
  clear hb
  go_wp2_with fail
  go_ret
  exact ⟨rfl, HB'.out⟩

/-- A slice of rules, read through. -/
def RulesAt (w : World) (v : Value) (rs : List Sp.Rule) : Prop := ∃ f : Nat → Value, SlAt w v 3 (rs.mapIdx fun i r => ruleC (f i) r) ∧ ∀ (i : Nat) (r : Sp.Rule), rs[i]? = some r → AltsAt w (f i) r.alts
theorem RulesAt.below {w w' : World} {v : Value} {rs : List Sp.Rule} (h : RulesAt w v rs) (hb : Below w.heap.size w w') : RulesAt w' v rs := by
  obtain ⟨f, h1, h2⟩ := h
  exact ⟨f, h1.below hb, fun i a ha => (h2 i a ha).below hb⟩
theorem RulesAt.form {w : World} {v : Value} {rs : List Sp.Rule} (h : RulesAt w v rs) : ∃ a cap, v = .slice a rs.length cap := by
  obtain ⟨f, h1, _⟩ := h
  obtain ⟨a, cap, hv⟩ := h1.form
  rw [List.length_mapIdx] at hv
  exact ⟨a, cap, hv⟩
theorem rules_bad (rs : List Sp.Rule) (v : Value) (w : World) (hsl : RulesAt w v rs) (hl : rs.length ≤ 4000) (hs : ∀ r ∈ rs, smallRule r) (hg : Gl w) :
    Calls Tryd.prog 41 #[v, .func (.func 42) #[] #[]] w fun e w' => e = .returned (.bool (!rs.all Sp.mayRule)) ∧ Below w.heap.size w w' := by
  obtain ⟨f, h1, h2⟩ := hsl
  have h := contains_Rule v _ (fun i => !((rs[i]?.map Sp.mayRule).getD true)) w h1 (by
    intro row hr
    rw [List.mem_iff_getElem?] at hr
    obtain ⟨i, hi⟩ := hr
    rw [List.getElem?_mapIdx] at hi
    obtain ⟨a, _, rfl⟩ := Option.map_eq_some_iff.1 hi
    rfl) (by rw [List.length_mapIdx]; omega) (fun i row hr W hW => by
      rw [List.getElem?_mapIdx] at hr
      obtain ⟨a, ha, rfl⟩ := Option.map_eq_some_iff.1 hr
      have h3 := print_May2 a (f i) W ((h2 i a ha).below hW) (hs a (List.mem_of_getElem? ha)) (hg.below hW)
      simp only [ha, Option.map_some, Option.getD_some]
      exact h3)
  rw [List.length_mapIdx, any_range Sp.mayRule _ rs _ rfl (fun i x hx => by simp [hx])] at h
  exact h
end Go.Proofs.YtddnomjfcbplpaaDoor

namespace Go.Proofs.YtddnomjfcbplpaaDoor
open Go.RowKit

def declC (v : Value) (d : Sp.Decl) : List Value := [.int .i64 d.kind, .string ⟨d.tag.toArray⟩, v, .int .i64 d.at_]
set_option maxHeartbeats 800000 in
theorem print_May1 (d : Sp.Decl) (v : Value) (W : World) (hsl : SlAt W v 4 (d.syms.map symC)) (hs : smallDecl d) :
    Calls Tryd.prog 39 #[.agg (declC v d).toArray] W fun e w' => e = .returned (.bool (!Sp.mayDecl d)) ∧ Below W.heap.size W w' := by
  have HP := Lib.hid (fun w' (hb : Below W.heap.size W w') => print_decl d v w' (hsl.below hb) hs)
  have HB := Lib.hid (fun o : Obj => (Below.refl _ W).alloc (Nat.le_refl _) o)
  generalize Sp.mayDecl d = q at HP
  obtain ⟨kd, tg, sy, pa⟩ := d
  obtain ⟨av, cap, rfl⟩ := hsl.form
  generalize (sy.map symC).length = n at *
  clear hs hsl
  show Calls _ _ #[.agg #[.int .i64 kd, .string ⟨tg.toArray⟩, .slice av n cap, .int .i64 pa]] _ _
  go_enter Tryd.func39, Tryd.ntmps39
  go_wp2_with fail
  refine (HP.out _ (HB.out _)).mono ?_
  rintro e w' ⟨rfl, hb⟩
  have HB' := Lib.hid ((HB.out _).trans (hb.mono (by simp)))
  clear hb
  go_wp2_with fail
  go_ret
  exact ⟨rfl, HB'.out⟩

/-- A slice of declarations, read through. -/
def DeclsAt (w : World) (v : Value) (ds : List Sp.Decl) : Prop := ∃ f : Nat → Value, SlAt w v 4 (ds.mapIdx fun i d => declC (f i) d) ∧ ∀ (i : Nat) (d : Sp.Decl), ds[i]? = some d → SlAt w (f i) 4 (d.syms.map symC)
theorem DeclsAt.below {w w' : World} {v : Value} {ds : List Sp.Decl} (h : DeclsAt w v ds) (hb : Below w.heap.size w w') : DeclsAt w' v ds := by
  obtain ⟨f, h1, h2⟩ := h
  exact ⟨f, h1.below hb, fun i a ha => (h2 i a ha).below hb⟩
theorem DeclsAt.form {w : World} {v : Value} {ds : List Sp.Decl} (h : DeclsAt w v ds) : ∃ a cap, v = .slice a ds.length cap := by
  obtain ⟨f, h1, _⟩ := h
  obtain ⟨a, cap, hv⟩ := h1.form
  rw [List.length_mapIdx] at hv
  exact ⟨a, cap, hv⟩
theorem decls_bad (ds : List Sp.Decl) (v : Value) (w : World) (hsl : DeclsAt w v ds) (hl : ds.length ≤ 4000) (hs : ∀ d ∈ ds, smallDecl d) :
    Calls Tryd.prog 38 #[v, .func (.func 39) #[] #[]] w fun e w' => e = .returned (.bool (!ds.all Sp.mayDecl)) ∧ Below w.heap.size w w' := by
  obtain ⟨f, h1, h2⟩ := hsl
  have h := contains_Decl v _ (fun i => !((ds[i]?.map Sp.mayDecl).getD true)) w h1 (by
    intro row hr
    rw [List.mem_iff_getElem?] at hr
    obtain ⟨i, hi⟩ := hr
    rw [List.getElem?_mapIdx] at hi
    obtain ⟨a, _, rfl⟩ := Option.map_eq_some_iff.1 hi
    rfl) (by rw [List.length_mapIdx]; omega) (fun i row hr W hW => by
      rw [List.getElem?_mapIdx] at hr
      obtain ⟨a, ha, rfl⟩ := Option.map_eq_some_iff.1 hr
      have h3 := print_May1 a (f i) W ((h2 i a ha).below hW) (hs a (List.mem_of_getElem? ha))
      simp only [ha, Option.map_some, Option.getD_some]
      exact h3)
  rw [List.length_mapIdx, any_range Sp.mayDecl _ ds _ rfl (fun i x hx => by simp [hx])] at h
  exact h

/-! ### Sources -/
def srcC (vd vr : Value) (x : Sp.Source) : List Value := [.string ⟨x.pro.toArray⟩, vd, vr, .string ⟨x.tail.toArray⟩]
def smallSrc (x : Sp.Source) : Prop := x.pro.length ≤ 4000 ∧ x.tail.length ≤ 4000 ∧ x.decls.length ≤ 4000 ∧ x.rules.length ≤ 4000 ∧ (∀ d ∈ x.decls, smallDecl d) ∧ ∀ r ∈ x.rules, smallRule r
theorem strings_Contains_gl (s sub : ByteArray) (w : World) (hs : s.size < 4294967281) (hg : Gl w) :
    Calls Tryd.prog 37 #[.string s, .string sub] w fun e w' => e = .returned (.bool (decide (0 ≤ Lib.index s.data.toList sub.data.toList))) ∧ ∃ n, w' = w.drewN n := by
  obtain ⟨m, hm⟩ := hg.1
  exact (Tryd.strings_Contains s sub m w hs hm).mono fun _ _ ⟨h1, h2⟩ => ⟨h1, 0, h2⟩

set_option maxRecDepth 100000 in
set_option maxHeartbeats 3200000 in
theorem print_May (x : Sp.Source) (vd vr : Value) (W : World) (hd : DeclsAt W vd x.decls) (hr : RulesAt W vr x.rules) (hs : smallSrc x) (hg : Gl W) :
    Calls Tryd.prog 22 #[.agg (srcC vd vr x).toArray] W fun e w' => e = .returned (.bool (Sp.may x)) ∧ Below W.heap.size W w' := by
  obtain ⟨hs1, hs2, hs3, hs4, hs5, hs6⟩ := hs
  have HC := Lib.hid (fun w hw => strings_Contains_gl ⟨x.pro.toArray⟩ ⟨#[37, 125]⟩ w (by rw [Lib.size_eq]; show x.pro.length < _; omega) hw)
  have HT : (⟨x.pro.toArray⟩ : ByteArray).data.toList = x.pro := rfl
  have HT2 : (⟨#[37, 125]⟩ : ByteArray).data.toList = [37, 125] := rfl
  rw [HT, HT2] at HC
  have HD := Lib.hid (fun w' (hb : Below W.heap.size W w') => decls_bad x.decls vd w' (hd.below hb) hs3 hs5)
  have HR := Lib.hid (fun w' (hb : Below W.heap.size W w') => rules_bad x.rules vr w' (hr.below hb) hs4 hs6 (hg.below hb))
  have HB := Lib.hid (fun o : Obj => (Below.refl _ W).alloc (Nat.le_refl _) o)
  have HG := Lib.hid (fun o : Obj => hg.alloc o)
  have hq : Sp.may x = (!decide (0 ≤ Lib.index x.pro [37, 125]) && decide (0 < x.rules.length) && x.decls.all Sp.mayDecl && x.rules.all Sp.mayRule) := rfl
  rw [hq]
  obtain ⟨ad, cd, rfl⟩ := hd.form
  obtain ⟨ar, cr, rfl⟩ := hr.form
  generalize decide (0 ≤ Lib.index x.pro [37, 125]) = q1 at HC
  generalize x.decls.all Sp.mayDecl = q3 at HD
  generalize x.rules.all Sp.mayRule = q4 at HR
  generalize hn : x.rules.length = n at *
  generalize hm : x.decls.length = m at *
  obtain ⟨pr, ds, rs, tl⟩ := x
  clear hq hs1 hs2 hs3 hs5 hs6 hd hr hn hm HT HT2
  show Calls _ _ #[.agg #[.string ⟨pr.toArray⟩, .slice ad m cd, .slice ar n cr, .string ⟨tl.toArray⟩]] _ _
  cases q1 with
  | true =>
    go_enter Tryd.func22, Tryd.ntmps22
    go_wp2_with fail
    refine (HC.out _ (HG.out _)).mono ?_
    rintro e w1 ⟨rfl, nn, rfl⟩
    go_wp2_with fail
    go_ret
    exact ⟨rfl, below_drewN (HB.out _) _⟩
  | false =>
    by_cases h0 : n = 0
    · subst h0
      go_enter Tryd.func22, Tryd.ntmps22
      go_wp2_with fail
      refine (HC.out _ (HG.out _)).mono ?_
      rintro e w1 ⟨rfl, nn, rfl⟩
      go_wp2_with fail
      go_ret
      exact ⟨rfl, below_drewN (HB.out _) _⟩
    · have hp : (0 : Int) < (n : Int) := by omega
      have hdd : decide (0 < n) = true := by rw [decide_eq_true_iff]; omega
      rw [hdd]
      clear hdd
      go_enter Tryd.func22, Tryd.ntmps22
      go_wp2_with fail
      refine (HC.out _ (HG.out _)).mono ?_
      rintro e w1 ⟨rfl, nn, rfl⟩
      go_wp2_with fail
      refine (HD.out _ (below_drewN (HB.out _) _)).mono ?_
      rintro e w2 ⟨rfl, hb2⟩
      have hF2 := (hb2.block W.heap.size (by simp)).trans (heap_last W _)
      have HB2 := Lib.hid ((below_drewN (HB.out _) nn).trans (hb2.mono (by simp)))
      have c2 := cell_at (i := 2) hF2
      have hl2 : W.heap.size < w2.heap.size := lt_at hF2
      clear hb2 hF2
      cases q3 with
      | false =>
        go_wp2_with fail
        go_ret
        exact ⟨rfl, HB2.out⟩
      | true =>
        go_wp2_with fail
        refine (HR.out _ HB2.out).mono ?_
        rintro e w3 ⟨rfl, hb3⟩
        have HB3 := Lib.hid (HB2.out.trans (hb3.mono HB2.out.size))
        clear hb3
        go_wp2_with fail
        go_ret
        exact ⟨ret_bool (by simp), HB3.out⟩
end Go.Proofs.YtddnomjfcbplpaaDoor

namespace Go.Proofs.YtddnomjfcbplpaaDoor
open Go.RowKit

theorem flatten_at {α : Type} (size : Nat) : ∀ (xs : List (List α)), (∀ x ∈ xs, x.length = size) → ∀ i r, xs[i]? = some r → ∀ j u, r[j]? = some u → xs.flatten[i * size + j]? = some u
  | [], _, i, r, h, _, _, _ => by simp at h
  | x :: xs, hx, 0, r, h, j, u, hu => by
    simp at h; subst h
    rw [List.flatten_cons, Nat.zero_mul, Nat.zero_add, List.getElem?_append_left (List.getElem?_eq_some_iff.1 hu).1]
    exact hu
  | x :: xs, hx, i + 1, r, h, j, u, hu => by
    have hl := hx x (by simp)
    rw [List.flatten_cons, List.getElem?_append_right (by rw [hl, Nat.succ_mul]; omega), hl, show (i + 1) * size + j - size = i * size + j by rw [Nat.succ_mul]; omega]
    exact flatten_at size xs (fun y hy => hx y (by simp [hy])) i r (by simpa using h) j u hu
theorem slAt_of_owns {w : World} {base : Nat} {e : TypeId} {v : Value} {size n : Nat} (xs : List (List Value)) (hx : ∀ x ∈ xs, x.length = size) (hn : n = xs.length) (h : w.ownsRow base e size v n xs.flatten) : SlAt w v size xs := by
  subst hn
  rcases h.2 with ⟨rfl, h0⟩ | ⟨g, cap, cur, rfl, hb, hg, _⟩
  · left
    obtain rfl := List.eq_nil_of_length_eq_zero h0
    exact ⟨rfl, none, 0, rfl⟩
  · right
    refine ⟨g, 0, cap, rfl, lt_at hg, fun i r hr j u hu => ?_⟩
    have := h.cells (g := g) rfl _ u (flatten_at size xs hx i r hr j u hu)
    rw [show (⟨g, 0 + i * size + j, none⟩ : Addr) = (⟨g, 0, none⟩ : Addr).add (i * size + j) by unfold Addr.add; split <;> simp_all]
    exact this
end Go.Proofs.YtddnomjfcbplpaaDoor

namespace Go.Proofs.YtddnomjfcbplpaaDoor
open Go.RowKit

theorem SlAt.at {w : World} {a : Option Addr} {n cap size : Nat} {rows : List (List Value)} (h : SlAt w (.slice a n cap) size rows) {k : Nat} {row : List Value} (hr : rows[k]? = Option.some row) :
    ∃ b off, a = Option.some ⟨b, off, none⟩ ∧ b < w.heap.size ∧ ∀ w', Below w.heap.size w w' → ∀ j u, row[j]? = Option.some u → w'.cell? ⟨b, off + k * size + j, none⟩ = Option.some u := by
  rcases h with ⟨hx, _⟩ | ⟨b, off, cap', hv, hlt, hc⟩
  · subst hx; simp at hr
  · simp only [Value.slice.injEq] at hv
    exact ⟨b, off, hv.1, hlt, fun w' hb j u hu => (hb.cell (p := ⟨b, _, none⟩) hlt).trans (hc k row hr j u hu)⟩
theorem below_box {W w' : World} {o : Obj} (h : Below (W.heap.size + 1) (W.alloc o) w') : Below W.heap.size W w' := ((Below.refl _ W).alloc (Nat.le_refl _) o).trans (h.mono (by omega))
theorem below_undrew {B : Nat} {w w' : World} (h : Below B w.drew w') : Below B w w' := ⟨h.os, h.tape, h.output, h.size, h.block⟩

/-- All blocks of the old world whose type T names read as before. -/
def KpT (T : TypeId → Prop) (w w' : World) : Prop := ∀ (b : Nat) (cs : Array Value) (t : TypeId) (fr : Nat × Nat), w.heap[b]? = some (.cells cs t fr) → T t → w'.heap[b]? = some (.cells cs t fr)
theorem KpT.trans {T : TypeId → Prop} {a b c : World} (h : KpT T a b) (k : KpT T b c) : KpT T a c := fun i cs t fr hb ht => k i cs t fr (h i cs t fr hb ht) ht
theorem KpT.mono {S T : TypeId → Prop} {a b : World} (h : KpT S a b) (hs : ∀ t, T t → S t) : KpT T a b := fun i cs t fr hb ht => h i cs t fr hb (hs t ht)
theorem KpT.below {T : TypeId → Prop} {w w' : World} (h : Below w.heap.size w w') : KpT T w w' := fun b _ _ _ hb _ => (h.block b (lt_at hb)).trans hb
theorem KpT.alloc {T : TypeId → Prop} {a w : World} (h : KpT T a w) (o : Obj) : KpT T a (w.alloc o) := h.trans (KpT.below ((Below.refl _ w).alloc (Nat.le_refl _) o))
theorem KpT.setCell {T : TypeId → Prop} {a w : World} (h : KpT T a w) {b i : Nat} {cs : Array Value} {t : TypeId} {fr : Nat × Nat} (hb : w.heap[b]? = some (.cells cs t fr)) (ht : ¬ T t) (u : Value) : KpT T a (w.setCell ⟨b, i, none⟩ u) := by
  refine h.trans fun c cs' t' fr' hc ht' => ?_
  rw [Below.heap_setCell _ _ _ _ (fun e => ?_)]
  · exact hc
  · have e' : c = b := by simpa using e
    subst e'
    rw [hb] at hc
    simp only [Option.some.injEq, Obj.cells.injEq] at hc
    exact ht (hc.2.1 ▸ ht')
theorem KpT.grown {w w' : World} {base : Nat} {e : TypeId} {size : Nat} {v : Value} {n : Nat} {xs : List Value} (h : w.ownsRow base e size v n xs) (hg : w.grownBy w' v.ownBlock) : KpT (· ≠ e) w w' := by
  intro b cs t fr hb ht
  rw [hg.block b (lt_at hb) (fun hk => ?_)]
  · exact hb
  · exact ownsRow_ne h hb ht b hk.symm rfl
theorem ownsRow_kpT {T : TypeId → Prop} {w w' : World} {base : Nat} {e : TypeId} {size : Nat} {v : Value} {n : Nat} {xs : List Value} (h : w.ownsRow base e size v n xs) (k : KpT T w w') (ht : T e) : w'.ownsRow base e size v n xs := by
  refine ⟨h.1, ?_⟩
  rcases h.2 with hn | ⟨g, cap, cur, rfl, hb, hgg, rest⟩
  · exact .inl hn
  · exact .inr ⟨g, cap, cur, rfl, hb, k g _ _ _ hgg ht, rest⟩

/-- A row of the call's own, of elements that each name a value whose reading child tells. -/
def OwnR {α : Type} (row : Value → α → List Value) (e : TypeId) (size : Nat) (child : World → Value → α → Prop) (B : Nat) (w : World) (v : Value) (l : List α) : Prop :=
  ∃ f : Nat → Value, w.ownsRow B e size v l.length (l.mapIdx fun i a => row (f i) a).flatten ∧ ∀ (i : Nat) (a : α), l[i]? = some a → child w (f i) a
section
variable {α : Type} {row : Value → α → List Value} {e : TypeId} {size : Nat} {child : World → Value → α → Prop} {B : Nat} {w w' : World} {v : Value} {l : List α}
theorem OwnR.nil (row : Value → α → List Value) (e : TypeId) (size : Nat) (child : World → Value → α → Prop) (B : Nat) (w : World) : OwnR row e size child B w (.slice none 0 0) [] :=
  ⟨fun _ => .bool false, World.ownsRow_nil _ _ _ _, by simp⟩
theorem OwnR.kp {T : TypeId → Prop} (h : OwnR row e size child B w v l) (k : KpT T w w') (ht : T e) (hc : ∀ u a, child w u a → child w' u a) : OwnR row e size child B w' v l := by
  obtain ⟨f, h1, h2⟩ := h
  exact ⟨f, ownsRow_kpT h1 k ht, fun i a ha => hc _ _ (h2 i a ha)⟩
theorem mapIdx_snoc {β : Type} (g : Nat → α → β) (l : List α) (a : α) : (l ++ [a]).mapIdx g = l.mapIdx g ++ [g l.length a] := by
  rw [List.mapIdx_append]; simp
theorem OwnR.snoc {u v' : Value} {a : α} {f : Nat → Value} (h2 : ∀ (i : Nat) (a : α), l[i]? = some a → child w (f i) a)
    (hn : w'.ownsRow B e size v' (l.length + 1) ((l.mapIdx fun i a => row (f i) a).flatten ++ row u a)) (hc : ∀ u a, child w u a → child w' u a) (hu : child w' u a) : OwnR row e size child B w' v' (l ++ [a]) := by
  refine ⟨fun i => if i < l.length then f i else u, ?_, fun i b hb => ?_⟩
  · have e1 : ((l ++ [a]).mapIdx fun i a => row (if i < l.length then f i else u) a).flatten = (l.mapIdx fun i a => row (f i) a).flatten ++ row u a := by
      rw [mapIdx_snoc, List.flatten_append]
      have e2 : (l.mapIdx fun i a => row (if i < l.length then f i else u) a) = l.mapIdx fun i a => row (f i) a := by
        apply List.ext_getElem?
        intro i
        rw [List.getElem?_mapIdx, List.getElem?_mapIdx]
        cases hi : l[i]? with
        | none => rfl
        | some b =>
          have := (List.getElem?_eq_some_iff.1 hi).1
          simp [this]
      rw [e2]
      simp
    rw [e1, List.length_append]
    exact hn
  · rw [List.getElem?_append] at hb
    by_cases hi : i < l.length
    · rw [if_pos hi] at hb
      simp only [if_pos hi]
      exact hc _ _ (h2 i b hb)
    · rw [if_neg hi] at hb
      simp only [if_neg hi]
      have : i - l.length = 0 := by
        have := (List.getElem?_eq_some_iff.1 hb).1
        simp at this; omega
      rw [this] at hb
      cases hb
      exact hu
theorem OwnR.slAt (h : OwnR row e size child B w v l) (hr : ∀ u a, (row u a).length = size) : ∃ f : Nat → Value, SlAt w v size (l.mapIdx fun i a => row (f i) a) ∧ ∀ (i : Nat) (a : α), l[i]? = some a → child w (f i) a := by
  obtain ⟨f, h1, h2⟩ := h
  refine ⟨f, slAt_of_owns _ (fun r hrr => ?_) (by rw [List.length_mapIdx]) h1, h2⟩
  obtain ⟨i, hi⟩ := List.mem_iff_getElem?.1 hrr
  rw [List.getElem?_mapIdx] at hi
  obtain ⟨b, _, rfl⟩ := Option.map_eq_some_iff.1 hi
  exact hr _ _
end
end Go.Proofs.YtddnomjfcbplpaaDoor

namespace Go.Proofs.YtddnomjfcbplpaaDoor
open Go.RowKit

/-! ### Rows of the call's own -/
theorem info_symE : (Tryd.prog.info? 26).map (fun i => (i.zero, i.size, i.bytes)) = some (some (.agg #[.string ⟨#[]⟩, .bool false, .int .i64 0, .int .i64 0]), 4, 40) := by kernel_rfl
theorem info_declE : (Tryd.prog.info? 39).map (fun i => (i.zero, i.size, i.bytes)) = some (some (.agg #[.int .i64 0, .string ⟨#[]⟩, .slice none 0 0, .int .i64 0]), 4, 56) := by kernel_rfl
def symsOwn (w : World) (v : Value) (d : Sp.Decl) : Prop := ∃ base, w.ownsRow base 26 4 v d.syms.length (d.syms.map symC).flatten
def partsOwn (w : World) (v : Value) (a : Sp.Alt) : Prop := ∃ base, w.ownsRow base 63 6 v a.parts.length (a.parts.map partC).flatten
abbrev DeclsOwn := OwnR declC 39 4 symsOwn
abbrev AltsOwn := OwnR altC 28 6 partsOwn
def altsOwn (w : World) (v : Value) (r : Sp.Rule) : Prop := ∃ base, AltsOwn base w v r.alts
abbrev RulesOwn := OwnR ruleC 31 3 altsOwn
theorem decls_at {B : Nat} {w : World} {v : Value} {l : List Sp.Decl} (h : DeclsOwn B w v l) : DeclsAt w v l := by
  obtain ⟨f, h1, h2⟩ := h.slAt (fun _ _ => rfl)
  refine ⟨f, h1, fun i d hd => ?_⟩
  obtain ⟨base, ho⟩ := h2 i d hd
  exact slAt_of_owns _ (fun r hr => by obtain ⟨s, _, rfl⟩ := List.mem_map.1 hr; rfl) (by rw [List.length_map]) ho
theorem alts_at {B : Nat} {w : World} {v : Value} {l : List Sp.Alt} (h : AltsOwn B w v l) : AltsAt w v l := by
  obtain ⟨f, h1, h2⟩ := h.slAt (fun _ _ => rfl)
  refine ⟨f, h1, fun i d hd => ?_⟩
  obtain ⟨base, ho⟩ := h2 i d hd
  exact slAt_of_owns _ (fun r hr => by obtain ⟨s, _, rfl⟩ := List.mem_map.1 hr; rfl) (by rw [List.length_map]) ho
theorem rules_at {B : Nat} {w : World} {v : Value} {l : List Sp.Rule} (h : RulesOwn B w v l) : RulesAt w v l := by
  obtain ⟨f, h1, h2⟩ := h.slAt (fun _ _ => rfl)
  refine ⟨f, h1, fun i d hd => ?_⟩
  obtain ⟨base, ho⟩ := h2 i d hd
  exact alts_at ho
theorem symsOwn_kp {T : TypeId → Prop} {w w' : World} (k : KpT T w w') (ht : T 26) (u : Value) (d : Sp.Decl) (h : symsOwn w u d) : symsOwn w' u d := by
  obtain ⟨b, h⟩ := h
  exact ⟨b, ownsRow_kpT h k ht⟩
theorem partsOwn_kp {T : TypeId → Prop} {w w' : World} (k : KpT T w w') (ht : T 63) (u : Value) (d : Sp.Alt) (h : partsOwn w u d) : partsOwn w' u d := by
  obtain ⟨b, h⟩ := h
  exact ⟨b, ownsRow_kpT h k ht⟩
theorem altsOwn_kp {T : TypeId → Prop} {w w' : World} (k : KpT T w w') (ht : T 63) (ht2 : T 28) (u : Value) (d : Sp.Rule) (h : altsOwn w u d) : altsOwn w' u d := by
  obtain ⟨b, h⟩ := h
  exact ⟨b, h.kp k ht2 (partsOwn_kp k ht)⟩
theorem decls_kp {T : TypeId → Prop} {B : Nat} {w w' : World} {v : Value} {l : List Sp.Decl} (h : DeclsOwn B w v l) (k : KpT T w w') (ht : T 26) (ht2 : T 39) : DeclsOwn B w' v l := h.kp k ht2 (symsOwn_kp k ht)
theorem rules_kp {T : TypeId → Prop} {B : Nat} {w w' : World} {v : Value} {l : List Sp.Rule} (h : RulesOwn B w v l) (k : KpT T w w') (ht : T 63) (ht2 : T 28) (ht3 : T 31) : RulesOwn B w' v l := h.kp k ht3 (altsOwn_kp k ht ht2)
theorem slAt_block {w : World} {b : Nat} {e : TypeId} (rows : List (List Value)) (size : Nat) (hrows : ∀ r ∈ rows, r.length = size) (h : w.heap[b]? = some (.cells rows.flatten.toArray e (0, 0))) (hm : rows.length ≤ maxLen) : SlAt w (.slice (some ⟨b, 0, none⟩) rows.length rows.length) size rows := by
  have hl : rows.flatten.length = rows.length * size := by
    clear h hm
    induction rows with
    | nil => simp
    | cons r rows ih => rw [List.flatten_cons, List.length_append, ih (fun x hx => hrows x (by simp [hx])), hrows r (by simp), List.length_cons, Nat.succ_mul, Nat.add_comm]
  exact slAt_of_owns (base := 0) (e := e) rows hrows rfl ⟨hl, .inr ⟨b, rows.length, _, rfl, Nat.zero_le _, h, Nat.le_refl _, hm, by simpa using hl, by rw [List.toList_toArray]; exact List.take_of_length_le (by rw [hl]; exact Nat.le_refl _)⟩⟩
theorem decls_none (w : World) : DeclsAt w (.slice none 0 0) [] := ⟨fun _ => .nilFunc, .inl ⟨rfl, none, 0, rfl⟩, by simp⟩
theorem rules_none (w : World) : RulesAt w (.slice none 0 0) [] := ⟨fun _ => .nilFunc, .inl ⟨rfl, none, 0, rfl⟩, by simp⟩
def IntsAt (w : World) (v : Value) (xs : List Int) : Prop := SlAt w v 1 (xs.map fun x => [Value.int .i64 x])
end Go.Proofs.YtddnomjfcbplpaaDoor

namespace Go.Proofs.YtddnomjfcbplpaaDoor
open Go.ChangeShapes Go.WideShapes Go.Deep Go.RowKit

section
variable {H : Type} {enc : TypeId × Value → H} {w : World} {base : Nat} {spare : Nat → Bool} {held : Bool}
theorem open_row1 {S E : TypeId} (hS : Tryd.prog.underlying S = some (.slice E)) (hE : Tryd.prog.cellsOf E = 1) {T : Type} [Inhabited T] (valOf : T → Value) (good : T → Prop)
    (helem : ∀ (n : Nat) (cs : List Value) (y : DataW H × List MemPlace), DataW.trod enc Tryd.prog w base spare held n E cs = some y → ∃ t, cs = [valOf t] ∧ good t)
    {fuel : Nat} {cs : List Value} {x : DataW H × List MemPlace} (h : DataW.trod enc Tryd.prog w base spare held fuel S cs = some x) :
    ∃ (v : Value) (ts : List T), cs = [v] ∧ SlAt w v 1 (ts.map fun t => [valOf t]) ∧ ts.length ≤ maxLen ∧ ∀ t ∈ ts, good t := by
  rcases open_slice hS h with ⟨h0, _⟩ | ⟨a, len, cap, m, n, D, Pl, hcs, hb, hl, hm, hmm, hx, hi⟩
  · exact ⟨_, [], h0, .inl ⟨rfl, none, 0, rfl⟩, by simp, by simp⟩
  · have hlm : len ≤ m := by rw [hmm]; split <;> omega
    have key : ∀ i, ∃ t : T, i < len → w.cell? (a.add i) = some (valOf t) ∧ good t := by
      intro i
      by_cases hil : i < len
      · obtain ⟨cs', hc, ht'⟩ := hi i (by omega)
        rw [hE] at hc
        obtain ⟨t, rfl, hg⟩ := helem _ _ _ ht'
        obtain ⟨_, hcl, hat⟩ := World.cells?_some hc
        refine ⟨t, fun _ => ⟨?_, hg⟩⟩
        have h1 := hat 0 (by decide)
        rw [Nat.mul_one, Go.Deep.add_add, Nat.add_zero] at h1
        exact h1
      · exact ⟨default, fun h => absurd h hil⟩
    obtain ⟨f, hf⟩ := Classical.axiomOfChoice key
    refine ⟨_, (List.range len).map f, hcs, ?_, by simp; omega, ?_⟩
    · by_cases hz : len = 0
      · subst hz
        exact .inl ⟨rfl, _, _, rfl⟩
      · obtain ⟨b, off, spot⟩ := a
        have h0 := (hf 0 (by omega)).1
        have hsp : spot = none := by simpa [Addr.add] using World.cell?_spot h0
        subst hsp
        refine .inr ⟨b, off, cap, by simp, ?_, fun i r hr j u hu => ?_⟩
        · have := lt_at_cell h0
          simpa [Addr.add] using this
        · simp only [List.map_map, List.getElem?_map, Option.map_eq_some_iff] at hr
          obtain ⟨i', hi', rfl⟩ := hr
          obtain ⟨hil, rfl⟩ := List.getElem?_eq_some_iff.1 hi'
          simp only [List.length_range] at hil
          simp only [List.getElem_range, Function.comp] at hu
          obtain ⟨rfl, rfl⟩ : j = 0 ∧ valOf (f i) = u := by
            cases j with
            | zero => exact ⟨rfl, by simpa using hu⟩
            | succ j => simp at hu
          have := (hf i hil).1
          rw [show (⟨b, off, none⟩ : Addr).add i = ⟨b, off + i * 1 + 0, none⟩ by unfold Addr.add; split <;> simp_all [Nat.add_assoc]] at this
          exact this
    · intro p hp
      simp only [List.mem_map, List.mem_range] at hp
      obtain ⟨i, hi, rfl⟩ := hp
      exact (hf i hi).2
theorem one_intA : Tryd.prog.cellsOf 3 = 1 := by kernel_rfl
theorem open_intsA {fuel : Nat} {cs : List Value} {x : DataW H × List MemPlace} (h : DataW.trod enc Tryd.prog w base spare held fuel 22 cs = some x) :
    ∃ (v : Value) (ts : List Int), cs = [v] ∧ IntsAt w v ts ∧ ts.length ≤ maxLen ∧ ∀ t ∈ ts, (Lit.int .i64 t).wf = true :=
  open_row1 Tryd.underlying22 one_intA (fun x : Int => Value.int .i64 x) (fun x => (Lit.int .i64 x).wf = true)
    (fun n cs y h => by
      obtain ⟨z, e, _, hw⟩ := DataW.trod_int Tryd.underlying3 h
      exact ⟨z, by simpa using e, hw⟩) h
end
end Go.Proofs.YtddnomjfcbplpaaDoor
