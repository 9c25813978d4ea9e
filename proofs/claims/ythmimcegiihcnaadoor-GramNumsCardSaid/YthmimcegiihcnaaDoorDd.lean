/- Layer 8: the walks of what print asks of a part, an alternative, a rule, a source. -/
import Derived.Test.YthmimcegiihcnaaDoorDb
import Derived.Deep.RegionWith
namespace Go.Proofs.YthmimcegiihcnaaDoor
open Go.RowKit

theorem heap_oldD {w : World} {b : Nat} {o : Obj} (h : w.heap[b]? = some o) (x : Obj) : (w.alloc x).heap[b]? = some o := (Below.heap_alloc _ _ _ (lt_at h)).trans h
def partC (p : Sp.Part) : List Value := symC p.sym ++ [.string ⟨p.code.toArray⟩, .int .i64 p.at_]
def partV (p : Sp.Part) : Value := .agg (partC p).toArray
def smallPart (p : Sp.Part) : Prop := p.sym.name.length ≤ 4000 ∧ p.code.length ≤ 4000

set_option maxRecDepth 100000 in
set_option maxHeartbeats 3200000 in
theorem print_part (p : Sp.Part) (W : World) (hs : smallPart p) (hg : Gl W) :
    Calls Tryd.prog 100 #[partV p] W fun e w' => e = .returned (.bool (Sp.mayPart p)) ∧ Below W.heap.size W w' := by
  obtain ⟨hs1, hs2⟩ := hs
  have HBa := Lib.hid (fun w => print_bare p.sym w hs1)
  have HEm := Lib.hid (fun w => print_empty p.sym w)
  have HG := Lib.hid (fun o : Obj => hg.alloc o)
  have HB := Lib.hid (fun o : Obj => (Below.refl _ W).alloc (Nat.le_refl _) o)
  obtain ⟨⟨nm, lt, nu, pa⟩, cd, pb⟩ := p
  simp only at hs1 hs2
  show Calls _ _ #[.agg #[.string ⟨nm.toArray⟩, .bool lt, .int .i64 nu, .int .i64 pa, .string ⟨cd.toArray⟩, .int .i64 pb]] _ _
  have hq : Sp.mayPart ⟨⟨nm, lt, nu, pa⟩, cd, pb⟩ = if cd = [] then Sp.isBare ⟨nm, lt, nu, pa⟩ else Sp.isNone ⟨nm, lt, nu, pa⟩ && decide (Sp.endAt cd 0 = (cd.length : Int)) := rfl
  by_cases hc : cd = []
  · subst hc
    rw [hq, if_pos rfl]
    clear hq HEm HG
    go_enter Tryd.func100, Tryd.ntmps100
    go_wp2_with fail
    refine (HBa.out _).mono ?_
    rintro e w' ⟨rfl, hb⟩
    have HB' := Lib.hid ((HB.out _).trans (hb.mono (by simp)))
    clear hb
    go_wp2_with fail
    go_ret
    exact ⟨rfl, HB'.out⟩
  · rw [hq, if_neg hc]
    obtain ⟨c, u, rfl⟩ : ∃ c u, cd = c :: u := by cases cd with | nil => exact absurd rfl hc | cons c u => exact ⟨c, u, rfl⟩
    have hne : (c :: u).isEmpty = false := rfl
    have HE := Lib.hid (fun w hw => body_End ⟨(c :: u).toArray⟩ 0 w (by rw [Lib.size_eq]; show (c :: u).length < _; omega) hw)
    have hT : (⟨(c :: u).toArray⟩ : ByteArray).data.toList = c :: u := rfl
    rw [hT] at HE
    have hsz : (⟨(c :: u).toArray⟩ : ByteArray).size = u.length + 1 := by rw [Lib.size_eq]; rfl
    have hdec : decide (Sp.endAt (c :: u) 0 = ((c :: u).length : Int)) = (Sp.endAt (c :: u) 0 == ((u.length + 1 : Nat) : Int)) := rfl
    rw [hdec]
    generalize Sp.endAt (c :: u) 0 = E at HE
    generalize Sp.isNone ⟨nm, lt, nu, pa⟩ = q at HEm
    clear hq hc hT hdec HBa
    have hcs : ∀ w2, Below (W.heap.size + 1) (W.alloc (.cells #[.string ⟨nm.toArray⟩, .bool lt, .int .i64 nu, .int .i64 pa, .string ⟨(c :: u).toArray⟩, .int .i64 pb] 46)) w2 →
        w2.cell? ⟨W.heap.size, 0, none⟩ = some (.string ⟨nm.toArray⟩) ∧ w2.cell? ⟨W.heap.size, 1, none⟩ = some (.bool lt) ∧ w2.cell? ⟨W.heap.size, 2, none⟩ = some (.int .i64 nu) ∧ w2.cell? ⟨W.heap.size, 3, none⟩ = some (.int .i64 pa) ∧ w2.cell? ⟨W.heap.size, 4, none⟩ = some (.string ⟨(c :: u).toArray⟩) ∧ Below (W.heap.size + 1) (W.alloc (.cells #[.string ⟨nm.toArray⟩, .bool lt, .int .i64 nu, .int .i64 pa, .string ⟨(c :: u).toArray⟩, .int .i64 pb] 46)) w2 := fun w2 h => by
      have hF := (h.block W.heap.size (by omega)).trans (heap_last W _)
      exact ⟨cell_at (i := 0) hF, cell_at (i := 1) hF, cell_at (i := 2) hF, cell_at (i := 3) hF, cell_at (i := 4) hF, h⟩
    have hself := hcs _ (Below.refl _ _)
    have hselfd := hcs _ (below_drewN (Below.refl _ _) 1)
    have HEm' := Lib.hid (fun W' (hW' : Below (W.heap.size + 1) (W.alloc (.cells #[.string ⟨nm.toArray⟩, .bool lt, .int .i64 nu, .int .i64 pa, .string ⟨(c :: u).toArray⟩, .int .i64 pb] 46)) W') => (HEm.out W').mono fun e w'' (h : e = .returned (.bool q) ∧ Below W'.heap.size W' w'') => And.intro h.1 (hcs w'' (hW'.trans (h.2.mono (by have := hW'.size; simp at this; omega)))))
    have HE' := Lib.hid (fun W' (hW' : Below (W.heap.size + 1) (W.alloc (.cells #[.string ⟨nm.toArray⟩, .bool lt, .int .i64 nu, .int .i64 pa, .string ⟨(c :: u).toArray⟩, .int .i64 pb] 46)) W') => (HE.out W' ((HG.out _).below (hW'.mono (by simp)))).mono fun e w'' (h : e = .returned (.int .i64 E) ∧ ∃ n, w'' = W'.drewN n) => And.intro h.1 (hcs w'' (by obtain ⟨n, hn⟩ := h.2; rw [hn]; exact below_drewN hW' n)))
    have HS1 := Lib.hid hself; have HS2 := Lib.hid hselfd
    clear hcs HEm HE hself hselfd
    have HFIN : Hid (∀ w2, Below (W.heap.size + 1) (W.alloc (.cells #[.string ⟨nm.toArray⟩, .bool lt, .int .i64 nu, .int .i64 pa, .string ⟨(c :: u).toArray⟩, .int .i64 pb] 46)) w2 → Below W.heap.size W w2) := Lib.hid (fun w2 h => (HB.out _).trans (h.mono (by omega)))
    cases q with
    | false =>
      go_enter Tryd.func100, Tryd.ntmps100
      go_wp2_with fail
      first
      | (go_region_with (first
          | (go_at_call 83; refine (HEm'.out _ ?_).mono ?_; (first | assumption | exact HS2.out.2.2.2.2.2 | exact HS1.out.2.2.2.2.2); rintro e w' ⟨rfl, d1, d2, d3, d4, d5, d6⟩)
          | (go_at_call 118; refine (HE'.out _ ?_).mono ?_; (first | assumption | exact HS2.out.2.2.2.2.2 | exact HS1.out.2.2.2.2.2); rintro e w' ⟨rfl, d1, d2, d3, d4, d5, d6⟩)))
      | fail
      all_goals (go_wp2_with fail; go_ret; exact ⟨rfl, HFIN.out _ d6⟩)
    | true =>
      go_enter Tryd.func100, Tryd.ntmps100
      go_wp2_with fail
      first
      | (go_region_with (first
          | (go_at_call 83; refine (HEm'.out _ ?_).mono ?_; (first | assumption | exact HS2.out.2.2.2.2.2 | exact HS1.out.2.2.2.2.2); rintro e w' ⟨rfl, d1, d2, d3, d4, d5, d6⟩)
          | (go_at_call 118; refine (HE'.out _ ?_).mono ?_; (first | assumption | exact HS2.out.2.2.2.2.2 | exact HS1.out.2.2.2.2.2); rintro e w' ⟨rfl, d1, d2, d3, d4, d5, d6⟩)))
      | fail
      all_goals (go_wp2_with fail; go_ret; exact ⟨ret_bool (by simp), HFIN.out _ d6⟩)

set_option maxHeartbeats 800000 in
theorem print_alt1 (p : Sp.Part) (W : World) (hs : smallPart p) (hg : Gl W) :
    Calls Tryd.prog 99 #[partV p] W fun e w' => e = .returned (.bool (!Sp.mayPart p)) ∧ Below W.heap.size W w' := by
  have HP := Lib.hid (fun w hw => print_part p w hs hw)
  have HB := Lib.hid (fun o : Obj => (Below.refl _ W).alloc (Nat.le_refl _) o)
  have HG := Lib.hid (fun o : Obj => hg.alloc o)
  generalize Sp.mayPart p = q at HP
  obtain ⟨⟨nm, lt, nu, pa⟩, cd, pb⟩ := p
  clear hs
  show Calls _ _ #[.agg #[.string ⟨nm.toArray⟩, .bool lt, .int .i64 nu, .int .i64 pa, .string ⟨cd.toArray⟩, .int .i64 pb]] _ _
  go_enter Tryd.func99, Tryd.ntmps99
  go_wp2_with fail
  refine (HP.out _ (HG.out _)).mono ?_
  rintro e w' ⟨rfl, hb⟩
  have HB' := Lib.hid ((HB.out _).trans (hb.mono (by simp)))
  clear hb
  go_wp2_with fail
  go_ret
  exact ⟨rfl, HB'.out⟩

/-! ### Alternatives -/
def altC (v : Value) (a : Sp.Alt) : List Value := v :: (symC a.prec ++ [.int .i64 a.at_])
def smallAlt (a : Sp.Alt) : Prop := a.parts.length ≤ 4000 ∧ (∀ p ∈ a.parts, smallPart p) ∧ a.prec.name.length ≤ 4000
theorem any_range {α : Type} (f : α → Bool) (g : Nat → Bool) : ∀ (l : List α) (n : Nat), n = l.length → (∀ i x, l[i]? = some x → g i = !f x) → (List.range n).any g = !l.all f := by
  intro l n hn hg
  subst hn
  rw [Bool.eq_iff_iff, List.any_eq_true]
  simp only [List.mem_range, Bool.not_eq_true', List.all_eq_false]
  constructor
  · rintro ⟨i, hi, h⟩
    refine ⟨l[i], List.getElem_mem hi, ?_⟩
    rw [hg i l[i] (List.getElem?_eq_getElem hi)] at h
    simpa using h
  · rintro ⟨x, hx, h⟩
    obtain ⟨i, hi, rfl⟩ := List.getElem_of_mem hx
    refine ⟨i, hi, ?_⟩
    rw [hg i l[i] (List.getElem?_eq_getElem hi)]
    simpa using h
/-- slices.ContainsFunc over parts: is there one that may not be? -/
theorem parts_bad (ps : List Sp.Part) (v : Value) (w : World) (hsl : SlAt w v 6 (ps.map partC)) (hl : ps.length ≤ 4000) (hs : ∀ p ∈ ps, smallPart p) (hg : Gl w) :
    Calls Tryd.prog 98 #[v, .func (.func 99) #[] #[]] w fun e w' => e = .returned (.bool (!ps.all Sp.mayPart)) ∧ Below w.heap.size w w' := by
  have h := contains_Part v (ps.map partC) (fun i => !((ps[i]?.map Sp.mayPart).getD true)) w hsl (by
    intro row hr
    simp only [List.mem_map] at hr
    obtain ⟨p, _, rfl⟩ := hr
    rfl) (by rw [List.length_map]; omega) (fun i row hr W hW => by
      rw [List.getElem?_map] at hr
      obtain ⟨p, hp, rfl⟩ := Option.map_eq_some_iff.1 hr
      have h1 := print_alt1 p W (hs p (List.mem_of_getElem? hp)) (hg.below hW)
      simp only [hp, Option.map_some, Option.getD_some]
      exact h1)
  rw [List.length_map, any_range Sp.mayPart _ ps _ rfl (fun i x hx => by simp [hx])] at h
  exact h

set_option maxRecDepth 100000 in
set_option maxHeartbeats 3200000 in
theorem print_alt (a : Sp.Alt) (v : Value) (W : World) (hsl : SlAt W v 6 (a.parts.map partC)) (hs : smallAlt a) (hg : Gl W) :
    Calls Tryd.prog 79 #[.agg (altC v a).toArray] W fun e w' => e = .returned (.bool (Sp.mayAlt a)) ∧ Below W.heap.size W w' := by
  obtain ⟨hs1, hs2, hs3⟩ := hs
  have HE := Lib.hid (fun w => print_empty a.prec w)
  have HBa := Lib.hid (fun w => print_bare a.prec w hs3)
  have HC := Lib.hid (fun w' (hb : Below W.heap.size W w') => parts_bad a.parts v w' (hsl.below hb) hs1 hs2 (hg.below hb))
  have HB := Lib.hid (fun o : Obj => (Below.refl _ W).alloc (Nat.le_refl _) o)
  have hq : Sp.mayAlt a = ((Sp.isNone a.prec || Sp.isBare a.prec) && a.parts.all Sp.mayPart) := rfl
  rw [hq]
  generalize Sp.isNone a.prec = q1 at HE
  generalize Sp.isBare a.prec = q2 at HBa
  generalize a.parts.all Sp.mayPart = q3 at HC
  obtain ⟨ps, ⟨nm, lt, nu, pa⟩, pb⟩ := a
  clear hq hs1 hs2 hs3
  obtain ⟨av, cap, rfl⟩ := hsl.form
  generalize (ps.map partC).length = n at *
  clear hsl
  show Calls _ _ #[.agg #[.slice av n cap, .string ⟨nm.toArray⟩, .bool lt, .int .i64 nu, .int .i64 pa, .int .i64 pb]] _ _
  go_enter Tryd.func79, Tryd.ntmps79
  go_wp2_with fail
  refine (HE.out _).mono ?_
  rintro e w1 ⟨rfl, hb1⟩
  have hF1 := (hb1.block W.heap.size (by simp)).trans (heap_last W _)
  have HB1 := Lib.hid ((HB.out _).trans (hb1.mono (by simp)))
  have hs1 := hb1.size
  simp only [World.size_alloc] at hs1
  have hl1 : W.heap.size < w1.heap.size := by omega
  have c0 := cell_at (i := 0) hF1; have c1 := cell_at (i := 1) hF1; have c2 := cell_at (i := 2) hF1; have c3 := cell_at (i := 3) hF1; have c4 := cell_at (i := 4) hF1
  have HF1 := Lib.hid hF1
  clear hb1 hF1
  cases q1 with
  | true =>
    go_wp2_with fail
    refine (HC.out _ HB1.out).mono ?_
    rintro e w2 ⟨rfl, hb2⟩
    have HB2 := Lib.hid (HB1.out.trans (hb2.mono HB1.out.size))
    clear hb2
    go_wp2_with fail
    go_ret
    exact ⟨ret_bool (by simp), HB2.out⟩
  | false =>
    go_wp2_with fail
    refine (HBa.out _).mono ?_
    rintro e w2 ⟨rfl, hb2⟩
    have hF2 := (hb2.block W.heap.size (by omega)).trans HF1.out
    have HB2 := Lib.hid (HB1.out.trans (hb2.mono HB1.out.size))
    have d0 := cell_at (i := 0) hF2
    have hl2 : W.heap.size < w2.heap.size := lt_at hF2
    clear hb2 hF2
    cases q2 with
    | false =>
      go_wp2_with fail
      go_ret
      exact ⟨rfl, HB2.out⟩
    | true =>
      go_wp2_with fail
      refine (HC.out _ HB2.out).mono ?_
      rintro e w3 ⟨rfl, hb3⟩
      have HB3 := Lib.hid (HB2.out.trans (hb3.mono HB2.out.size))
      clear hb3
      go_wp2_with fail
      go_ret
      exact ⟨ret_bool (by simp), HB3.out⟩

set_option maxHeartbeats 800000 in
theorem print_rule1 (a : Sp.Alt) (v : Value) (W : World) (hsl : SlAt W v 6 (a.parts.map partC)) (hs : smallAlt a) (hg : Gl W) :
    Calls Tryd.prog 78 #[.agg (altC v a).toArray] W fun e w' => e = .returned (.bool (!Sp.mayAlt a)) ∧ Below W.heap.size W w' := by
  have HP := Lib.hid (fun w' (hb : Below W.heap.size W w') => print_alt a v w' (hsl.below hb) hs (hg.below hb))
  have HB := Lib.hid (fun o : Obj => (Below.refl _ W).alloc (Nat.le_refl _) o)
  generalize Sp.mayAlt a = q at HP
  obtain ⟨ps, ⟨nm, lt, nu, pa⟩, pb⟩ := a
  obtain ⟨av, cap, rfl⟩ := hsl.form
  generalize (ps.map partC).length = n at *
  clear hs hsl
  show Calls _ _ #[.agg #[.slice av n cap, .string ⟨nm.toArray⟩, .bool lt, .int .i64 nu, .int .i64 pa, .int .i64 pb]] _ _
  go_enter Tryd.func78, Tryd.ntmps78
  go_wp2_with fail
  refine (HP.out _ (HB.out _)).mono ?_
  rintro e w' ⟨rfl, hb⟩
  have HB' := Lib.hid ((HB.out _).trans (hb.mono (by simp)))
  clear hb
  go_wp2_with fail
  go_ret
  exact ⟨rfl, HB'.out⟩

/-- A slice of alternatives, read through. -/
def AltsAt (w : World) (v : Value) (al : List Sp.Alt) : Prop := ∃ f : Nat → Value, SlAt w v 6 (al.mapIdx fun i a => altC (f i) a) ∧ ∀ (i : Nat) (a : Sp.Alt), al[i]? = some a → SlAt w (f i) 6 (a.parts.map partC)
theorem AltsAt.below {w w' : World} {v : Value} {al : List Sp.Alt} (h : AltsAt w v al) (hb : Below w.heap.size w w') : AltsAt w' v al := by
  obtain ⟨f, h1, h2⟩ := h
  exact ⟨f, h1.below hb, fun i a ha => (h2 i a ha).below hb⟩
theorem alts_bad (al : List Sp.Alt) (v : Value) (w : World) (hsl : AltsAt w v al) (hl : al.length ≤ 4000) (hs : ∀ a ∈ al, smallAlt a) (hg : Gl w) :
    Calls Tryd.prog 77 #[v, .func (.func 78) #[] #[]] w fun e w' => e = .returned (.bool (!al.all Sp.mayAlt)) ∧ Below w.heap.size w w' := by
  obtain ⟨f, h1, h2⟩ := hsl
  have h := contains_Alt v _ (fun i => !((al[i]?.map Sp.mayAlt).getD true)) w h1 (by
    intro row hr
    rw [List.mem_iff_getElem?] at hr
    obtain ⟨i, hi⟩ := hr
    rw [List.getElem?_mapIdx] at hi
    obtain ⟨a, _, rfl⟩ := Option.map_eq_some_iff.1 hi
    rfl) (by rw [List.length_mapIdx]; omega) (fun i row hr W hW => by
      rw [List.getElem?_mapIdx] at hr
      obtain ⟨a, ha, rfl⟩ := Option.map_eq_some_iff.1 hr
      have h3 := print_rule1 a (f i) W ((h2 i a ha).below hW) (hs a (List.mem_of_getElem? ha)) (hg.below hW)
      simp only [ha, Option.map_some, Option.getD_some]
      exact h3)
  rw [List.length_mapIdx, any_range Sp.mayAlt _ al _ rfl (fun i x hx => by simp [hx])] at h
  exact h

/-! ### Rules -/
def ruleC (v : Value) (r : Sp.Rule) : List Value := [.string ⟨r.left.toArray⟩, v, .int .i64 r.at_]
def smallRule (r : Sp.Rule) : Prop := r.left.length ≤ 4000 ∧ r.alts.length ≤ 4000 ∧ ∀ a ∈ r.alts, smallAlt a
theorem AltsAt.form {w : World} {v : Value} {al : List Sp.Alt} (h : AltsAt w v al) : ∃ a cap, v = .slice a al.length cap := by
  obtain ⟨f, h1, _⟩ := h
  obtain ⟨a, cap, hv⟩ := h1.form
  rw [List.length_mapIdx] at hv
  exact ⟨a, cap, hv⟩

set_option maxHeartbeats 1600000 in
theorem print_rule (r : Sp.Rule) (v : Value) (W : World) (hsl : AltsAt W v r.alts) (hs : smallRule r) (hg : Gl W) :
    Calls Tryd.prog 46 #[.agg (ruleC v r).toArray] W fun e w' => e = .returned (.bool (Sp.mayRule r)) ∧ Below W.heap.size W w' := by
  obtain ⟨hs1, hs2, hs3⟩ := hs
  have HN := Lib.hid (fun w => body_Name ⟨r.left.toArray⟩ w (by rw [Lib.size_eq]; show r.left.length < _; omega))
  have HT : (⟨r.left.toArray⟩ : ByteArray).data.toList = r.left := rfl
  rw [HT] at HN
  have HC := Lib.hid (fun w' (hb : Below W.heap.size W w') => alts_bad r.alts v w' (hsl.below hb) hs2 hs3 (hg.below hb))
  have HB := Lib.hid (fun o : Obj => (Below.refl _ W).alloc (Nat.le_refl _) o)
  have hq : Sp.mayRule r = (Sp.isName r.left && decide (0 < r.alts.length) && r.alts.all Sp.mayAlt) := rfl
  rw [hq]
  obtain ⟨av, cap, rfl⟩ := hsl.form
  generalize Sp.isName r.left = q1 at HN
  generalize r.alts.all Sp.mayAlt = q3 at HC
  generalize hn : r.alts.length = n at *
  obtain ⟨lf, al, pb⟩ := r
  clear hq hs1 hs3 hsl hn HT
  show Calls _ _ #[.agg #[.string ⟨lf.toArray⟩, .slice av n cap, .int .i64 pb]] _ _
  cases q1 with
  | false =>
    go_enter Tryd.func46, Tryd.ntmps46
    go_wp2_with (go_at_call 74; refine (HN.out _).mono ?_; rintro e w' ⟨rfl, rfl⟩)
    go_ret
    exact ⟨rfl, HB.out _⟩
  | true =>
    by_cases h0 : n = 0
    · subst h0
      go_enter Tryd.func46, Tryd.ntmps46
      go_wp2_with (go_at_call 74; refine (HN.out _).mono ?_; rintro e w' ⟨rfl, rfl⟩)
      go_ret
      exact ⟨rfl, HB.out _⟩
    · have hp : (0 : Int) < (n : Int) := by omega
      have hd : decide (0 < n) = true := by rw [decide_eq_true_iff]; omega
      rw [hd]
      clear hd
      go_enter Tryd.func46, Tryd.ntmps46
      go_wp2_with (go_at_call 74; refine (HN.out _).mono ?_; rintro e w' ⟨rfl, rfl⟩)
      refine (HC.out _ (HB.out _)).mono ?_
      rintro e w2 ⟨rfl, hb2⟩
      have HB2 := Lib.hid ((HB.out _).trans (hb2.mono (by simp)))
      clear hb2
      go_wp2_with fail
      go_ret
      exact ⟨ret_bool (by simp), HB2.out⟩

set_option maxHeartbeats 800000 in
theorem print_May2 (r : Sp.Rule) (v : Value) (W : World) (hsl : AltsAt W v r.alts) (hs : smallRule r) (hg : Gl W) :
    Calls Tryd.prog 45 #[.agg (ruleC v r).toArray] W fun e w' => e = .returned (.bool (!Sp.mayRule r)) ∧ Below W.heap.size W w' := by
  have HP := Lib.hid (fun w' (hb : Below W.heap.size W w') => print_rule r v w' (hsl.below hb) hs (hg.below hb))
  have HB := Lib.hid (fun o : Obj => (Below.refl _ W).alloc (Nat.le_refl _) o)
  generalize Sp.mayRule r = q at HP
  obtain ⟨lf, al, pb⟩ := r
  obtain ⟨av, cap, rfl⟩ := hsl.form
  generalize al.length = n at *
  clear hs hsl
  show Calls _ _ #[.agg #[.string ⟨lf.toArray⟩, .slice av n cap, .int .i64 pb]] _ _
  go_enter Tryd.func45, Tryd.ntmps45
  go_wp2_with fail
  refine (HP.out _ (HB.out _)).mono ?_
  rintro e w' ⟨rfl, hb⟩
  have HB' := Lib.hid ((HB.out _).trans (hb.mono (by simp)))
  clear hb
  go_wp2_with fail
  go_ret
  exact ⟨rfl, HB'.out⟩

/-- A slice of rules, read through. -/
def RulesAt (w : World) (v : Value) (rs : List Sp.Rule) : Prop := ∃ f : Nat → Value, SlAt w v 3 (rs.mapIdx fun i r => ruleC (f i) r) ∧ ∀ (i : Nat) (r : Sp.Rule), rs[i]? = some r → AltsAt w (f i) r.alts
theorem RulesAt.below {w w' : World} {v : Value} {rs : List Sp.Rule} (h : RulesAt w v rs) (hb : Below w.heap.size w w') : RulesAt w' v rs := by
  obtain ⟨f, h1, h2⟩ := h
  exact ⟨f, h1.below hb, fun i a ha => (h2 i a ha).below hb⟩
theorem RulesAt.form {w : World} {v : Value} {rs : List Sp.Rule} (h : RulesAt w v rs) : ∃ a cap, v = .slice a rs.length cap := by
  obtain ⟨f, h1, _⟩ := h
  obtain ⟨a, cap, hv⟩ := h1.form
  rw [List.length_mapIdx] at hv
  exact ⟨a, cap, hv⟩
theorem rules_bad (rs : List Sp.Rule) (v : Value) (w : World) (hsl : RulesAt w v rs) (hl : rs.length ≤ 4000) (hs : ∀ r ∈ rs, smallRule r) (hg : Gl w) :
    Calls Tryd.prog 44 #[v, .func (.func 45) #[] #[]] w fun e w' => e = .returned (.bool (!rs.all Sp.mayRule)) ∧ Below w.heap.size w w' := by
  obtain ⟨f, h1, h2⟩ := hsl
  have h := contains_Rule v _ (fun i => !((rs[i]?.map Sp.mayRule).getD true)) w h1 (by
    intro row hr
    rw [List.mem_iff_getElem?] at hr
    obtain ⟨i, hi⟩ := hr
    rw [List.getElem?_mapIdx] at hi
    obtain ⟨a, _, rfl⟩ := Option.map_eq_some_iff.1 hi
    rfl) (by rw [List.length_mapIdx]; omega) (fun i row hr W hW => by
      rw [List.getElem?_mapIdx] at hr
      obtain ⟨a, ha, rfl⟩ := Option.map_eq_some_iff.1 hr
      have h3 := print_May2 a (f i) W ((h2 i a ha).below hW) (hs a (List.mem_of_getElem? ha)) (hg.below hW)
      simp only [ha, Option.map_some, Option.getD_some]
      exact h3)
  rw [List.length_mapIdx, any_range Sp.mayRule _ rs _ rfl (fun i x hx => by simp [hx])] at h
  exact h
end Go.Proofs.YthmimcegiihcnaaDoor
