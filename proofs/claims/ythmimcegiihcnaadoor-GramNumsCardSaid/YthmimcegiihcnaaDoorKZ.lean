/- A region that draws its order, whose LAST operation may break the condition that its loads stand on: Derived/OrdersHeld.lean's law with one operation excepted. A region that draws its order, walked once along a plan: what only reads is taken first, whatever else comes up alone. As Ks, with one kind of step more: what asks nothing of the world (a move, an address) is taken first whatever may break S later. A region that draws its order, walked by what stands once a set of its operations is carried out, in whatever order. -/
import Derived.Test.YthmimcegiihcnaaDoorW0
import Derived.OrdersHeld
import Derived.StillTail
namespace Go.Proofs.YthmimcegiihcnaaDoor
open Go.RowKit

section
variable {P : Program} {ops : Array Oper} {Q : Exit → Act → World → Prop} {md : Region.Mode} {S : World → Prop} {last : Nat}

/-- Whatever order is picked from here on, and S holds behind every operation but 'last'. -/
def wpAnyK (P : Program) (md : Region.Mode) (ops : Array Oper) (Q : Exit → Act → World → Prop) (S : World → Prop) (last : Nat) : Nat → Array Bool → Act → World → Prop
  | 0, listed, a, w => Region.ready md ops listed = [] ∧ Q .normal a w
  | fuel + 1, listed, a, w =>
    (Region.ready md ops listed = [] → Q .normal a w) ∧
    ∀ i ∈ Region.ready md ops listed, wpOp P ops Q i (fun a' w' => (i = last ∨ S w') ∧ wpAnyK P md ops Q S last fuel (listed.setIfInBounds i true) a' w') a w

theorem wpAny_of_K : ∀ (fuel : Nat) (listed : Array Bool) (a : Act) (w : World), wpAnyK P md ops Q S last fuel listed a w → wpAny P md ops Q fuel listed a w
  | 0, _, _, _, h => h
  | fuel + 1, _, _, _, h => ⟨h.1, fun i hi => wpOp_mono (fun a' w' h' => wpAny_of_K fuel _ a' w' h'.2) (h.2 i hi)⟩

/-- Does j wait for i, by way of others too? -/
def reachB (md : Region.Mode) (ops : Array Oper) : Nat → Nat → Nat → Bool
  | 0, _, _ => false
  | f + 1, j, i => match ops[j]? with
    | some oj => oj.after.any fun e => Region.binds md e && (e.on == i || reachB md ops f e.on i)
    | none => false
/-- What is listed has all listed that it waits for. -/
def Closed (md : Region.Mode) (ops : Array Oper) (listed : Array Bool) : Prop :=
  ∀ j oj, ops[j]? = some oj → listed.getD j false = true → ∀ e ∈ oj.after, Region.binds md e = true → listed.getD e.on false = true
theorem Closed.start (n : Nat) : Closed md ops (Array.replicate n false) := fun j oj _ hl => by rw [getD_replicate_false] at hl; cases hl
theorem Closed.set {listed : Array Bool} (h : Closed md ops listed) {i : Nat} (hi : i ∈ Region.ready md ops listed) : Closed md ops (listed.setIfInBounds i true) := by
  obtain ⟨_, oi, hoi, hall⟩ := mem_ready.1 hi
  intro j oj hj hl e he hb
  by_cases hij : i = j
  · subst hij
    have : oj = oi := Option.some.inj (hj.symm.trans hoi)
    subst this
    exact getD_set_true (hall e he hb)
  · rw [getD_set_ne false hij] at hl
    exact getD_set_true (h j oj hj hl e he hb)
theorem reach_listed {listed : Array Bool} (h : Closed md ops listed) {i : Nat} : ∀ (f j : Nat), reachB md ops f j i = true → listed.getD j false = true → listed.getD i false = true
  | 0, _, hr, _ => by cases hr
  | f + 1, j, hr, hl => by
    unfold reachB at hr
    split at hr
    · rename_i oj hoj
      obtain ⟨e, he, hb⟩ := Array.any_eq_true'.1 hr
      simp only [Bool.and_eq_true, Bool.or_eq_true, beq_iff_eq] at hb
      have h1 := h j oj hoj hl e he hb.1
      rcases hb.2 with h2 | h2
      · rw [h2] at h1; exact h1
      · exact reach_listed h f e.on h2 h1
    · cases hr
theorem reach_ready {listed : Array Bool} (h : Closed md ops listed) {f i j : Nat} (hr : reachB md ops f j i = true) (hun : listed.getD i true = false) : j ∉ Region.ready md ops listed := by
  intro hj
  obtain ⟨_, oj, hoj, hall⟩ := mem_ready.1 hj
  cases f with
  | zero => cases hr
  | succ f =>
    unfold reachB at hr
    rw [hoj] at hr
    obtain ⟨e, he, hb⟩ := Array.any_eq_true'.1 hr
    simp only [Bool.and_eq_true, Bool.or_eq_true, beq_iff_eq] at hb
    have h1 := hall e he hb.1
    have h3 : listed.getD i false = true := by
      rcases hb.2 with h2 | h2
      · rw [← h2]; exact h1
      · exact reach_listed h f e.on h2 h1
    rw [getD_both hun] at h3
    cases h3

theorem wpAnyK_first {i f0 : Nat} {oi : Oper} {v : Value} (hi : ops[i]? = some oi) (hsel : ∀ (j : Nat) (o : Oper) cs b, ops[j]? = some o → o.op ≠ .select cs b)
    (hQ : ∀ c a w, Q (.panic c) (a.put oi.dst v) w → Q (.panic c) a w) (hlast : reachB md ops f0 last i = true) (hil : i ≠ last) :
    ∀ (fuel : Nat) (listed : Array Bool) (a : Act) (w : World), Closed md ops listed →
      (∀ j oj, ops[j]? = some oj → j ≠ i → listed.getD j true = false → (∀ e ∈ oj.after, Region.binds md e = true → e.on ≠ i) → oi.apart ops oj = true) →
      i ∈ Region.ready md ops listed → YieldsIf P ops S oi v a → S w →
      wpAnyK P md ops Q S last fuel (listed.setIfInBounds i true) (a.put oi.dst v) w → wpAnyK P md ops Q S last (fuel + 1) listed a w := by
  intro fuel
  induction fuel with
  | zero =>
    intro listed a w _ _ hr hy hS H
    refine ⟨fun h => (by rw [h] at hr; cases hr), fun j hj => ?_⟩
    by_cases hji : j = i
    · subst hji; exact hy.wpOp hi hS ⟨.inr hS, H⟩
    · have := ready_mono hj hji
      rw [H.1] at this
      cases this
  | succ fuel ih =>
    intro listed a w hcl hfree hr hy hS H
    refine ⟨fun h => (by rw [h] at hr; cases hr), fun j hj => ?_⟩
    by_cases hji : j = i
    · subst hji; exact hy.wpOp hi hS ⟨.inr hS, H⟩
    · have hjl : j ≠ last := fun e => reach_ready hcl hlast (mem_ready.1 hr).1 (e ▸ hj)
      have h1 := H.2 j (ready_mono hj hji)
      obtain ⟨hjun, oj, hoj, hall⟩ := mem_ready.1 hj
      have hnot : ∀ e ∈ oj.after, Region.binds md e = true → e.on ≠ i := fun e he hb heq => by
        have h1 := hall e he hb
        have h0 := (mem_ready.1 hr).1
        rw [heq, getD_both h0] at h1
        cases h1
      have h1' := wpOp_mono (K' := fun a' w' => S w' ∧ wpAnyK P md ops Q S last fuel ((listed.setIfInBounds i true).setIfInBounds j true) a' w') (fun a' w' h3 => ⟨h3.1.resolve_left hjl, h3.2⟩) h1
      have h2 := wpOp_putIf hoj (hfree j oj hoj hji hjun hnot) (fun cs b => hsel i oi cs b hi) (fun cs b => hsel j oj cs b hoj) hQ hy h1'
      have hfree' : ∀ k ok, ops[k]? = some ok → k ≠ i → (listed.setIfInBounds j true).getD k true = false →
          (∀ e ∈ ok.after, Region.binds md e = true → e.on ≠ i) → oi.apart ops ok = true := fun k ok hk hki hun hno => by
        refine hfree k ok hk hki ?_ hno
        by_cases hjk : j = k
        · subst hjk; exact hjun
        · rw [getD_set_ne true hjk] at hun; exact hun
      refine wpOp_mono (fun a' w' h3 => ⟨.inr h3.2.1, ih (listed.setIfInBounds j true) a' w' (hcl.set hj) hfree' (ready_mono hr (Ne.symm hji)) h3.1 h3.2.1 ?_⟩) h2
      rw [Array.setIfInBounds_comm _ _ hji]
      exact h3.2.2

/-- Take number i first: it yields v in every world that meets S; 'last' waits for it. -/
theorem wpAnyK_take {i f0 : Nat} {oi : Oper} {v : Value} {fuel : Nat} {listed : Array Bool} {a : Act} {w : World} (hcl : Closed md ops listed) (hi : ops[i]? = some oi)
    (hs : Region.noSelect ops = true) (hf : Region.free md ops listed i = true) (hr : (Region.ready md ops listed).contains i = true) (hlast : reachB md ops f0 last i = true) (hil : i ≠ last)
    (hQ : ∀ c a w, Q (.panic c) (a.put oi.dst v) w → Q (.panic c) a w) (hy : YieldsIf P ops S oi v a) (hS : S w)
    (h : Closed md ops (listed.setIfInBounds i true) → wpAnyK P md ops Q S last fuel (listed.setIfInBounds i true) (a.put oi.dst v) w) : wpAnyK P md ops Q S last (fuel + 1) listed a w :=
  have hr' : i ∈ Region.ready md ops listed := by simpa using hr
  wpAnyK_first hi (Region.noSelect_spec hs) hQ hlast hil fuel listed a w hcl (Region.free_spec hi hf) hr' hy hS (h (hcl.set hr'))
/-- One alone may come up: it is carried out; S behind it, unless it is the last. -/
theorem wpAnyK_one {i : Nat} {o : Oper} {fuel : Nat} {listed : Array Bool} {a : Act} {w : World} (hcl : Closed md ops listed) (hr : Region.ready md ops listed = [i]) (ho : ops[i]? = some o)
    (h : ∀ K' : Act → World → Prop, (∀ a w, (i = last ∨ S w) → (Closed md ops (listed.setIfInBounds i true) → wpAnyK P md ops Q S last fuel (listed.setIfInBounds i true) a w) → K' a w) → if Region.wanted o (yielded ops a.tmps) = true then Oper.wp P o a w K' Q else K' (a.put o.dst undef) w) :
    wpAnyK P md ops Q S last (fuel + 1) listed a w := by
  refine ⟨fun h0 => (by rw [hr] at h0; cases h0), fun j hj => ?_⟩
  rw [hr] at hj
  have hji : j = i := by simpa using hj
  subst hji
  have hj' : j ∈ Region.ready md ops listed := by rw [hr]; simp
  exact wpOp_step ho (fun K' hK => h K' (fun a w hS hW => hK a w ⟨hS, hW (hcl.set hj')⟩))
theorem wpAnyK_done {listed : Array Bool} {a : Act} {w : World} (hr : Region.ready md ops listed = []) (h : Q .normal a w) : ∀ fuel, wpAnyK P md ops Q S last fuel listed a w
  | 0 => ⟨hr, h⟩
  | _ + 1 => ⟨fun _ => h, by rw [hr]; simp⟩
theorem wp_region_K (last : Nat) (S : World → Prop) {id : Nat} {a : Act} {w : World} (hm : P.follows .mixedOrders = true)
    (h : Closed .any ops (Array.replicate ops.size false) → wpAnyK P .any ops Q S last ops.size (Array.replicate ops.size false) a w.drew) : (Code.region id ops true).wp P Q a w :=
  wp_region_any hm (wpAny_of_K _ _ _ _ (h (Closed.start _)))
end
end Go.Proofs.YthmimcegiihcnaaDoor

namespace Go.Proofs.YthmimcegiihcnaaDoor
open Go.RowKit

section
variable {P : Program} {ops : Array Oper} {Q : Exit → Act → World → Prop} {md : Region.Mode} {S : World → Prop} {brk : Nat → Bool}

/-- Whatever order is picked from here on; S holds behind every operation that is no 'brk'. -/
def wpAnyS (P : Program) (md : Region.Mode) (ops : Array Oper) (Q : Exit → Act → World → Prop) (S : World → Prop) (brk : Nat → Bool) : Nat → Array Bool → Act → World → Prop
  | 0, listed, a, w => Region.ready md ops listed = [] ∧ Q .normal a w
  | fuel + 1, listed, a, w =>
    (Region.ready md ops listed = [] → Q .normal a w) ∧
    ∀ i ∈ Region.ready md ops listed, wpOp P ops Q i (fun a' w' => (brk i = true ∨ S w') ∧ wpAnyS P md ops Q S brk fuel (listed.setIfInBounds i true) a' w') a w

theorem wpAny_of_S : ∀ (fuel : Nat) (listed : Array Bool) (a : Act) (w : World), wpAnyS P md ops Q S brk fuel listed a w → wpAny P md ops Q fuel listed a w
  | 0, _, _, _, h => h
  | fuel + 1, _, _, _, h => ⟨h.1, fun i hi => wpOp_mono (fun a' w' h' => wpAny_of_S fuel _ a' w' h'.2) (h.2 i hi)⟩

theorem wpAnyS_first {i f0 : Nat} {oi : Oper} {v : Value} (hi : ops[i]? = some oi) (hsel : ∀ (j : Nat) (o : Oper) cs b, ops[j]? = some o → o.op ≠ .select cs b)
    (hQ : ∀ c a w, Q (.panic c) (a.put oi.dst v) w → Q (.panic c) a w) (hbrk : ∀ j, brk j = true → reachB md ops f0 j i = true) (hib : brk i = false) :
    ∀ (fuel : Nat) (listed : Array Bool) (a : Act) (w : World), Closed md ops listed →
      (∀ j oj, ops[j]? = some oj → j ≠ i → listed.getD j true = false → (∀ e ∈ oj.after, Region.binds md e = true → e.on ≠ i) → oi.apart ops oj = true) →
      i ∈ Region.ready md ops listed → YieldsIf P ops S oi v a → S w →
      wpAnyS P md ops Q S brk fuel (listed.setIfInBounds i true) (a.put oi.dst v) w → wpAnyS P md ops Q S brk (fuel + 1) listed a w := by
  intro fuel
  induction fuel with
  | zero =>
    intro listed a w _ _ hr hy hS H
    refine ⟨fun h => (by rw [h] at hr; cases hr), fun j hj => ?_⟩
    by_cases hji : j = i
    · subst hji; exact hy.wpOp hi hS ⟨.inr hS, H⟩
    · have := ready_mono hj hji
      rw [H.1] at this
      cases this
  | succ fuel ih =>
    intro listed a w hcl hfree hr hy hS H
    refine ⟨fun h => (by rw [h] at hr; cases hr), fun j hj => ?_⟩
    by_cases hji : j = i
    · subst hji; exact hy.wpOp hi hS ⟨.inr hS, H⟩
    · have hjl : ¬ brk j = true := fun e => reach_ready hcl (hbrk j e) (mem_ready.1 hr).1 hj
      have h1 := H.2 j (ready_mono hj hji)
      obtain ⟨hjun, oj, hoj, hall⟩ := mem_ready.1 hj
      have hnot : ∀ e ∈ oj.after, Region.binds md e = true → e.on ≠ i := fun e he hb heq => by
        have h1 := hall e he hb
        have h0 := (mem_ready.1 hr).1
        rw [heq, getD_both h0] at h1
        cases h1
      have h1' := wpOp_mono (K' := fun a' w' => S w' ∧ wpAnyS P md ops Q S brk fuel ((listed.setIfInBounds i true).setIfInBounds j true) a' w') (fun a' w' h3 => ⟨h3.1.resolve_left hjl, h3.2⟩) h1
      have h2 := wpOp_putIf hoj (hfree j oj hoj hji hjun hnot) (fun cs b => hsel i oi cs b hi) (fun cs b => hsel j oj cs b hoj) hQ hy h1'
      have hfree' : ∀ k ok, ops[k]? = some ok → k ≠ i → (listed.setIfInBounds j true).getD k true = false →
          (∀ e ∈ ok.after, Region.binds md e = true → e.on ≠ i) → oi.apart ops ok = true := fun k ok hk hki hun hno => by
        refine hfree k ok hk hki ?_ hno
        by_cases hjk : j = k
        · subst hjk; exact hjun
        · rw [getD_set_ne true hjk] at hun; exact hun
      refine wpOp_mono (fun a' w' h3 => ⟨.inr h3.2.1, ih (listed.setIfInBounds j true) a' w' (hcl.set hj) hfree' (ready_mono hr (Ne.symm hji)) h3.1 h3.2.1 ?_⟩) h2
      rw [Array.setIfInBounds_comm _ _ hji]
      exact h3.2.2

/-- A plan: what is taken first, what comes up alone, what comes up beside one other. -/
inductive PT where
  | done
  | take (i : Nat) (t : PT)
  | one (i : Nat) (t : PT)
  | two (i j : Nat) (t u : PT)
def PT.len : PT → Nat
  | .done => 0
  | .take _ t => t.len + 1
  | .one _ t => t.len + 1
  | .two _ _ t _ => t.len + 1
/-- Does a plan fit? -/
def planB (md : Region.Mode) (ops : Array Oper) (brks : List Nat) : PT → Array Bool → Bool
  | .done, listed => (Region.ready md ops listed).isEmpty
  | .take i l, listed => (Region.ready md ops listed).contains i && Region.free md ops listed i && (!brks.contains i && brks.all fun j => reachB md ops ops.size j i) && planB md ops brks l (listed.setIfInBounds i true)
  | .one i l, listed => decide (Region.ready md ops listed = [i]) && planB md ops brks l (listed.setIfInBounds i true)
  | .two i j t u, listed => decide (Region.ready md ops listed = [i, j]) && decide (t.len = u.len) && planB md ops brks t (listed.setIfInBounds i true) && planB md ops brks u (listed.setIfInBounds j true)
def planA (md : Region.Mode) (ops : Array Oper) (brks : List Nat) (plan : PT) : Bool :=
  Region.noSelect ops && decide (plan.len = ops.size) && planB md ops brks plan (Array.replicate ops.size false)

/-- The walk along the plan. -/
def wpPlan (P : Program) (ops : Array Oper) (Q : Exit → Act → World → Prop) (S : World → Prop) (brks : List Nat) : PT → Act → World → Prop
  | .done, a, w => Q .normal a w
  | .take i l, a, w => S w ∧ ∃ o v, ops[i]? = some o ∧ YieldsIf P ops S o v a ∧ wpPlan P ops Q S brks l (a.put o.dst v) w
  | .one i l, a, w => wpOp P ops Q i (fun a' w' => (brks.contains i = true ∨ S w') ∧ wpPlan P ops Q S brks l a' w') a w
  | .two i j t u, a, w => wpOp P ops Q i (fun a' w' => (brks.contains i = true ∨ S w') ∧ wpPlan P ops Q S brks t a' w') a w ∧ wpOp P ops Q j (fun a' w' => (brks.contains j = true ∨ S w') ∧ wpPlan P ops Q S brks u a' w') a w

theorem put_panic (hQ : ∀ c (t : Array Value) (a : Act) w, Q (.panic c) ⟨t, a.defers⟩ w → Q (.panic c) a w) {c} {a : Act} {d : Option Tmp} {v : Value} {w : World} (h : Q (.panic c) (a.put d v) w) : Q (.panic c) a w := by
  cases d with
  | none => exact h
  | some d => exact hQ c _ a w h
theorem wpAnyS_plan {brks : List Nat} (hsel : Region.noSelect ops = true) (hQ : ∀ c (t : Array Value) (a : Act) w, Q (.panic c) ⟨t, a.defers⟩ w → Q (.panic c) a w) : ∀ (l : PT) (listed : Array Bool) (a : Act) (w : World),
    Closed md ops listed → planB md ops brks l listed = true → wpPlan P ops Q S brks l a w → wpAnyS P md ops Q S (fun j => brks.contains j) l.len listed a w
  | .done, listed, a, w, _, hB, h => ⟨by simpa [planB] using hB, h⟩
  | .take i l, listed, a, w, hcl, hB, h => by
    simp only [planB, Bool.and_eq_true] at hB
    obtain ⟨⟨⟨hr, hf⟩, hbi, hba⟩, hB'⟩ := hB
    obtain ⟨hS, o, v, ho, hy, hK⟩ := h
    have hr' : i ∈ Region.ready md ops listed := by simpa using hr
    refine wpAnyS_first (f0 := ops.size) ho (Region.noSelect_spec hsel) (fun c a w h => put_panic hQ h) (fun j hj => ?_) (by simpa using hbi) l.len listed a w hcl (Region.free_spec ho hf) hr' hy hS
      (wpAnyS_plan hsel hQ l _ _ _ (hcl.set hr') hB' hK)
    have := List.all_eq_true.1 hba j (by simpa using hj)
    exact this
  | .one i l, listed, a, w, hcl, hB, h => by
    simp only [planB, Bool.and_eq_true, decide_eq_true_eq] at hB
    obtain ⟨hr, hB'⟩ := hB
    refine ⟨fun h0 => (by rw [hr] at h0; cases h0), fun j hj => ?_⟩
    have hj' := hj
    rw [hr] at hj
    have hji : j = i := by simpa using hj
    subst hji
    exact wpOp_mono (fun a' w' h' => ⟨h'.1, wpAnyS_plan hsel hQ l _ _ _ (hcl.set hj') hB' h'.2⟩) h
  | .two i j t u, listed, a, w, hcl, hB, h => by
    simp only [planB, Bool.and_eq_true, decide_eq_true_eq] at hB
    obtain ⟨⟨⟨hr, hlen⟩, hB1⟩, hB2⟩ := hB
    refine ⟨fun h0 => (by rw [hr] at h0; cases h0), fun k hk => ?_⟩
    have hk' := hk
    rw [hr] at hk
    have hki : k = i ∨ k = j := by simpa using hk
    rcases hki with rfl | rfl
    · exact wpOp_mono (fun a' w' h' => ⟨h'.1, wpAnyS_plan hsel hQ t _ _ _ (hcl.set hk') hB1 h'.2⟩) h.1
    · refine wpOp_mono (fun a' w' h' => ⟨h'.1, ?_⟩) h.2
      have h2 := wpAnyS_plan hsel hQ u _ _ _ (hcl.set hk') hB2 h'.2
      rw [← hlen] at h2
      exact h2

/-- The beginning. -/
theorem wp_region_plan (S : World → Prop) (brks : List Nat) (plan : PT) {id : Nat} {a : Act} {w : World} (hm : P.follows .mixedOrders = true) (hA : planA .any ops brks plan = true)
    (hQ : ∀ c (t : Array Value) (a : Act) w, Q (.panic c) ⟨t, a.defers⟩ w → Q (.panic c) a w) (h : wpPlan P ops Q S brks plan a w.drew) : (Code.region id ops true).wp P Q a w := by
  simp only [planA, Bool.and_eq_true, decide_eq_true_eq] at hA
  obtain ⟨⟨hsel, hl⟩, hB⟩ := hA
  have H := wpAnyS_plan (md := .any) hsel hQ plan _ _ _ (Closed.start _) hB h
  rw [hl] at H
  exact wp_region_any hm (wpAny_of_S _ _ _ _ H)

/-- One taken first. -/
theorem wpPlan_take {brks : List Nat} {i : Nat} {o : Oper} {v : Value} {l : PT} {a : Act} {w : World} (ho : ops[i]? = some o) (hS : S w)
    (hw : Region.wanted o (yielded ops a.tmps) = true) (hy : ∀ w, S w → (execOp a.eval o).run P w = .ok (.value v) w) (h : wpPlan P ops Q S brks l (a.put o.dst v) w) : wpPlan P ops Q S brks (.take i l) a w :=
  ⟨hS, o, v, ho, .inl ⟨hw, hy⟩, h⟩
/-- One whose guard says no, taken first. -/
theorem wpPlan_none {brks : List Nat} {i : Nat} {o : Oper} {l : PT} {a : Act} {w : World} (ho : ops[i]? = some o) (hS : S w)
    (hw : Region.wanted o (yielded ops a.tmps) = false) (h : wpPlan P ops Q S brks l (a.put o.dst undef) w) : wpPlan P ops Q S brks (.take i l) a w :=
  ⟨hS, o, undef, ho, .inr ⟨hw, rfl⟩, h⟩
/-- One that comes up alone. -/
theorem wpPlan_run {brks : List Nat} {i : Nat} {o : Oper} {l : PT} {a : Act} {w : World} (ho : ops[i]? = some o) (hw : Region.wanted o (yielded ops a.tmps) = true)
    (h : ∀ K' : Act → World → Prop, (∀ a w, (brks.contains i = true ∨ S w) → wpPlan P ops Q S brks l a w → K' a w) → Oper.wp P o a w K' Q) : wpPlan P ops Q S brks (.one i l) a w := by
  show wpOp P ops Q i _ a w
  unfold wpOp
  simp only [ho, hw, if_true]
  exact .inl (h _ (fun a w hS hW => ⟨hS, hW⟩))
/-- One that comes up alone, whose guard says no. -/
theorem wpPlan_pass {brks : List Nat} {i : Nat} {o : Oper} {l : PT} {a : Act} {w : World} (ho : ops[i]? = some o) (hw : Region.wanted o (yielded ops a.tmps) = false) (hS : S w)
    (h : wpPlan P ops Q S brks l (a.put o.dst undef) w) : wpPlan P ops Q S brks (.one i l) a w := by
  show wpOp P ops Q i _ a w
  unfold wpOp
  simp only [ho, hw, Bool.false_eq_true, if_false]
  exact ⟨.inr hS, h⟩
/-- The same two, the slot told. -/
theorem put_some {a : Act} {o : Oper} {d : Tmp} {v : Value} (hd : o.dst = some d) : a.put o.dst v = ⟨a.tmps.setIfInBounds d v, a.defers⟩ := by rw [hd]; rfl
theorem wpPlan_takeD {brks : List Nat} {i d : Nat} {o : Oper} {v : Value} {l : PT} {a : Act} {w : World} (ho : ops[i]? = some o) (hd : o.dst = some d) (hS : S w)
    (hw : Region.wanted o (yielded ops a.tmps) = true) (hy : ∀ w, S w → (execOp a.eval o).run P w = .ok (.value v) w) (h : wpPlan P ops Q S brks l ⟨a.tmps.setIfInBounds d v, a.defers⟩ w) : wpPlan P ops Q S brks (.take i l) a w :=
  wpPlan_take ho hS hw hy (by rw [put_some hd]; exact h)
theorem wpPlan_noneD {brks : List Nat} {i d : Nat} {o : Oper} {l : PT} {a : Act} {w : World} (ho : ops[i]? = some o) (hd : o.dst = some d) (hS : S w)
    (hw : Region.wanted o (yielded ops a.tmps) = false) (h : wpPlan P ops Q S brks l ⟨a.tmps.setIfInBounds d undef, a.defers⟩ w) : wpPlan P ops Q S brks (.take i l) a w :=
  wpPlan_none ho hS hw (by rw [put_some hd]; exact h)
theorem wpPlan_passD {brks : List Nat} {i d : Nat} {o : Oper} {l : PT} {a : Act} {w : World} (ho : ops[i]? = some o) (hd : o.dst = some d) (hw : Region.wanted o (yielded ops a.tmps) = false) (hS : S w)
    (h : wpPlan P ops Q S brks l ⟨a.tmps.setIfInBounds d undef, a.defers⟩ w) : wpPlan P ops Q S brks (.one i l) a w :=
  wpPlan_pass ho hw hS (by rw [put_some hd]; exact h)
/-- Two that come up together: either goes first. -/
theorem wpPlan_two {brks : List Nat} {i j : Nat} {t u : PT} {a : Act} {w : World} (h1 : wpPlan P ops Q S brks (.one i t) a w) (h2 : wpPlan P ops Q S brks (.one j u) a w) : wpPlan P ops Q S brks (.two i j t u) a w := ⟨h1, h2⟩
theorem wpPlan_done {brks : List Nat} {a : Act} {w : World} (h : Q .normal a w) : wpPlan P ops Q S brks .done a w := h
end
end Go.Proofs.YthmimcegiihcnaaDoor

namespace Go.Proofs.YthmimcegiihcnaaDoor
open Go.RowKit

section
variable {P : Program} {ops : Array Oper} {Q : Exit → Act → World → Prop} {md : Region.Mode} {S : World → Prop} {brk : Nat → Bool}

/-- Whatever order is picked from here on; S holds behind every operation that is no 'brk'. -/
def wpAnyU (P : Program) (md : Region.Mode) (ops : Array Oper) (Q : Exit → Act → World → Prop) (S : World → Prop) (brk : Nat → Bool) : Nat → Array Bool → Act → World → Prop
  | 0, listed, a, w => Region.ready md ops listed = [] ∧ Q .normal a w
  | fuel + 1, listed, a, w =>
    (Region.ready md ops listed = [] → Q .normal a w) ∧
    ∀ i ∈ Region.ready md ops listed, wpOp P ops Q i (fun a' w' => (S w → brk i = true ∨ S w') ∧ wpAnyU P md ops Q S brk fuel (listed.setIfInBounds i true) a' w') a w

theorem wpAny_of_U : ∀ (fuel : Nat) (listed : Array Bool) (a : Act) (w : World), wpAnyU P md ops Q S brk fuel listed a w → wpAny P md ops Q fuel listed a w
  | 0, _, _, _, h => h
  | fuel + 1, _, _, _, h => ⟨h.1, fun i hi => wpOp_mono (fun a' w' h' => wpAny_of_U fuel _ a' w' h'.2) (h.2 i hi)⟩

theorem wpAnyU_first {i f0 : Nat} {oi : Oper} {v : Value} (hi : ops[i]? = some oi) (hsel : ∀ (j : Nat) (o : Oper) cs b, ops[j]? = some o → o.op ≠ .select cs b)
    (hQ : ∀ c a w, Q (.panic c) (a.put oi.dst v) w → Q (.panic c) a w) (hbrk : ∀ j, brk j = true → reachB md ops f0 j i = true) (hib : brk i = false) :
    ∀ (fuel : Nat) (listed : Array Bool) (a : Act) (w : World), Closed md ops listed →
      (∀ j oj, ops[j]? = some oj → j ≠ i → listed.getD j true = false → (∀ e ∈ oj.after, Region.binds md e = true → e.on ≠ i) → oi.apart ops oj = true) →
      i ∈ Region.ready md ops listed → YieldsIf P ops S oi v a → S w →
      wpAnyU P md ops Q S brk fuel (listed.setIfInBounds i true) (a.put oi.dst v) w → wpAnyU P md ops Q S brk (fuel + 1) listed a w := by
  intro fuel
  induction fuel with
  | zero =>
    intro listed a w _ _ hr hy hS H
    refine ⟨fun h => (by rw [h] at hr; cases hr), fun j hj => ?_⟩
    by_cases hji : j = i
    · subst hji; exact hy.wpOp hi hS ⟨fun _ => .inr hS, H⟩
    · have := ready_mono hj hji
      rw [H.1] at this
      cases this
  | succ fuel ih =>
    intro listed a w hcl hfree hr hy hS H
    refine ⟨fun h => (by rw [h] at hr; cases hr), fun j hj => ?_⟩
    by_cases hji : j = i
    · subst hji; exact hy.wpOp hi hS ⟨fun _ => .inr hS, H⟩
    · have hjl : ¬ brk j = true := fun e => reach_ready hcl (hbrk j e) (mem_ready.1 hr).1 hj
      have h1 := H.2 j (ready_mono hj hji)
      obtain ⟨hjun, oj, hoj, hall⟩ := mem_ready.1 hj
      have hnot : ∀ e ∈ oj.after, Region.binds md e = true → e.on ≠ i := fun e he hb heq => by
        have h1 := hall e he hb
        have h0 := (mem_ready.1 hr).1
        rw [heq, getD_both h0] at h1
        cases h1
      have h1' := wpOp_mono (K' := fun a' w' => S w' ∧ wpAnyU P md ops Q S brk fuel ((listed.setIfInBounds i true).setIfInBounds j true) a' w') (fun a' w' h3 => ⟨(h3.1 hS).resolve_left hjl, h3.2⟩) h1
      have h2 := wpOp_putIf hoj (hfree j oj hoj hji hjun hnot) (fun cs b => hsel i oi cs b hi) (fun cs b => hsel j oj cs b hoj) hQ hy h1'
      have hfree' : ∀ k ok, ops[k]? = some ok → k ≠ i → (listed.setIfInBounds j true).getD k true = false →
          (∀ e ∈ ok.after, Region.binds md e = true → e.on ≠ i) → oi.apart ops ok = true := fun k ok hk hki hun hno => by
        refine hfree k ok hk hki ?_ hno
        by_cases hjk : j = k
        · subst hjk; exact hjun
        · rw [getD_set_ne true hjk] at hun; exact hun
      refine wpOp_mono (fun a' w' h3 => ⟨fun _ => .inr h3.2.1, ih (listed.setIfInBounds j true) a' w' (hcl.set hj) hfree' (ready_mono hr (Ne.symm hji)) h3.1 h3.2.1 ?_⟩) h2
      rw [Array.setIfInBounds_comm _ _ hji]
      exact h3.2.2

theorem wpAnyU_free {i : Nat} {oi : Oper} {v : Value} (hi : ops[i]? = some oi) (hsel : ∀ (j : Nat) (o : Oper) cs b, ops[j]? = some o → o.op ≠ .select cs b)
    (hQ : ∀ c a w, Q (.panic c) (a.put oi.dst v) w → Q (.panic c) a w) :
    ∀ (fuel : Nat) (listed : Array Bool) (a : Act) (w : World), Closed md ops listed →
      (∀ j oj, ops[j]? = some oj → j ≠ i → listed.getD j true = false → (∀ e ∈ oj.after, Region.binds md e = true → e.on ≠ i) → oi.apart ops oj = true) →
      i ∈ Region.ready md ops listed → YieldsIf P ops (fun _ => True) oi v a →
      wpAnyU P md ops Q S brk fuel (listed.setIfInBounds i true) (a.put oi.dst v) w → wpAnyU P md ops Q S brk (fuel + 1) listed a w := by
  intro fuel
  induction fuel with
  | zero =>
    intro listed a w _ _ hr hy H
    refine ⟨fun h => (by rw [h] at hr; cases hr), fun j hj => ?_⟩
    by_cases hji : j = i
    · subst hji; exact hy.wpOp hi trivial ⟨fun hS => .inr hS, H⟩
    · have := ready_mono hj hji
      rw [H.1] at this
      cases this
  | succ fuel ih =>
    intro listed a w hcl hfree hr hy H
    refine ⟨fun h => (by rw [h] at hr; cases hr), fun j hj => ?_⟩
    by_cases hji : j = i
    · subst hji; exact hy.wpOp hi trivial ⟨fun hS => .inr hS, H⟩
    · have h1 := H.2 j (ready_mono hj hji)
      obtain ⟨hjun, oj, hoj, hall⟩ := mem_ready.1 hj
      have hnot : ∀ e ∈ oj.after, Region.binds md e = true → e.on ≠ i := fun e he hb heq => by
        have h1 := hall e he hb
        have h0 := (mem_ready.1 hr).1
        rw [heq, getD_both h0] at h1
        cases h1
      have h2 := wpOp_putIf hoj (hfree j oj hoj hji hjun hnot) (fun cs b => hsel i oi cs b hi) (fun cs b => hsel j oj cs b hoj) hQ hy h1
      have hfree' : ∀ k ok, ops[k]? = some ok → k ≠ i → (listed.setIfInBounds j true).getD k true = false →
          (∀ e ∈ ok.after, Region.binds md e = true → e.on ≠ i) → oi.apart ops ok = true := fun k ok hk hki hun hno => by
        refine hfree k ok hk hki ?_ hno
        by_cases hjk : j = k
        · subst hjk; exact hjun
        · rw [getD_set_ne true hjk] at hun; exact hun
      refine wpOp_mono (fun a' w' h3 => ⟨h3.2.1, ih (listed.setIfInBounds j true) a' w' (hcl.set hj) hfree' (ready_mono hr (Ne.symm hji)) h3.1 ?_⟩) h2
      rw [Array.setIfInBounds_comm _ _ hji]
      exact h3.2.2

/-- A plan: what is taken first, what comes up alone, what comes up beside one other. -/
inductive PU where
  | done
  | take (i : Nat) (t : PU)
  | free (i : Nat) (t : PU)
  | one (i : Nat) (t : PU)
  | two (i j : Nat) (t u : PU)
def PU.len : PU → Nat
  | .done => 0
  | .take _ t => t.len + 1
  | .free _ t => t.len + 1
  | .one _ t => t.len + 1
  | .two _ _ t _ => t.len + 1
/-- Does a plan fit? -/
def planU (md : Region.Mode) (ops : Array Oper) (brks : List Nat) : PU → Array Bool → Bool
  | .done, listed => (Region.ready md ops listed).isEmpty
  | .take i l, listed => (Region.ready md ops listed).contains i && Region.free md ops listed i && (!brks.contains i && brks.all fun j => reachB md ops ops.size j i) && planU md ops brks l (listed.setIfInBounds i true)
  | .free i l, listed => (Region.ready md ops listed).contains i && Region.free md ops listed i && planU md ops brks l (listed.setIfInBounds i true)
  | .one i l, listed => decide (Region.ready md ops listed = [i]) && planU md ops brks l (listed.setIfInBounds i true)
  | .two i j t u, listed => decide (Region.ready md ops listed = [i, j]) && decide (t.len = u.len) && planU md ops brks t (listed.setIfInBounds i true) && planU md ops brks u (listed.setIfInBounds j true)
def planV (md : Region.Mode) (ops : Array Oper) (brks : List Nat) (plan : PU) : Bool :=
  Region.noSelect ops && decide (plan.len = ops.size) && planU md ops brks plan (Array.replicate ops.size false)

/-- The walk along the plan. -/
def wpPlanU (P : Program) (ops : Array Oper) (Q : Exit → Act → World → Prop) (S : World → Prop) (brks : List Nat) : PU → Act → World → Prop
  | .done, a, w => Q .normal a w
  | .take i l, a, w => S w ∧ ∃ o v, ops[i]? = some o ∧ YieldsIf P ops S o v a ∧ wpPlanU P ops Q S brks l (a.put o.dst v) w
  | .free i l, a, w => ∃ o v, ops[i]? = some o ∧ YieldsIf P ops (fun _ => True) o v a ∧ wpPlanU P ops Q S brks l (a.put o.dst v) w
  | .one i l, a, w => wpOp P ops Q i (fun a' w' => (S w → brks.contains i = true ∨ S w') ∧ wpPlanU P ops Q S brks l a' w') a w
  | .two i j t u, a, w => wpOp P ops Q i (fun a' w' => (S w → brks.contains i = true ∨ S w') ∧ wpPlanU P ops Q S brks t a' w') a w ∧ wpOp P ops Q j (fun a' w' => (S w → brks.contains j = true ∨ S w') ∧ wpPlanU P ops Q S brks u a' w') a w

theorem put_panicU (hQ : ∀ c (t : Array Value) (a : Act) w, Q (.panic c) ⟨t, a.defers⟩ w → Q (.panic c) a w) {c} {a : Act} {d : Option Tmp} {v : Value} {w : World} (h : Q (.panic c) (a.put d v) w) : Q (.panic c) a w := by
  cases d with
  | none => exact h
  | some d => exact hQ c _ a w h
theorem wpAnyU_plan {brks : List Nat} (hsel : Region.noSelect ops = true) (hQ : ∀ c (t : Array Value) (a : Act) w, Q (.panic c) ⟨t, a.defers⟩ w → Q (.panic c) a w) : ∀ (l : PU) (listed : Array Bool) (a : Act) (w : World),
    Closed md ops listed → planU md ops brks l listed = true → wpPlanU P ops Q S brks l a w → wpAnyU P md ops Q S (fun j => brks.contains j) l.len listed a w
  | .done, listed, a, w, _, hB, h => ⟨by simpa [planU] using hB, h⟩
  | .take i l, listed, a, w, hcl, hB, h => by
    simp only [planU, Bool.and_eq_true] at hB
    obtain ⟨⟨⟨hr, hf⟩, hbi, hba⟩, hB'⟩ := hB
    obtain ⟨hS, o, v, ho, hy, hK⟩ := h
    have hr' : i ∈ Region.ready md ops listed := by simpa using hr
    refine wpAnyU_first (f0 := ops.size) ho (Region.noSelect_spec hsel) (fun c a w h => put_panicU hQ h) (fun j hj => ?_) (by simpa using hbi) l.len listed a w hcl (Region.free_spec ho hf) hr' hy hS
      (wpAnyU_plan hsel hQ l _ _ _ (hcl.set hr') hB' hK)
    have := List.all_eq_true.1 hba j (by simpa using hj)
    exact this
  | .free i l, listed, a, w, hcl, hB, h => by
    simp only [planU, Bool.and_eq_true] at hB
    obtain ⟨⟨hr, hf⟩, hB'⟩ := hB
    obtain ⟨o, v, ho, hy, hK⟩ := h
    have hr' : i ∈ Region.ready md ops listed := by simpa using hr
    exact wpAnyU_free ho (Region.noSelect_spec hsel) (fun c a w h => put_panicU hQ h) l.len listed a w hcl (Region.free_spec ho hf) hr' hy (wpAnyU_plan hsel hQ l _ _ _ (hcl.set hr') hB' hK)
  | .one i l, listed, a, w, hcl, hB, h => by
    simp only [planU, Bool.and_eq_true, decide_eq_true_eq] at hB
    obtain ⟨hr, hB'⟩ := hB
    refine ⟨fun h0 => (by rw [hr] at h0; cases h0), fun j hj => ?_⟩
    have hj' := hj
    rw [hr] at hj
    have hji : j = i := by simpa using hj
    subst hji
    exact wpOp_mono (fun a' w' h' => ⟨h'.1, wpAnyU_plan hsel hQ l _ _ _ (hcl.set hj') hB' h'.2⟩) h
  | .two i j t u, listed, a, w, hcl, hB, h => by
    simp only [planU, Bool.and_eq_true, decide_eq_true_eq] at hB
    obtain ⟨⟨⟨hr, hlen⟩, hB1⟩, hB2⟩ := hB
    refine ⟨fun h0 => (by rw [hr] at h0; cases h0), fun k hk => ?_⟩
    have hk' := hk
    rw [hr] at hk
    have hki : k = i ∨ k = j := by simpa using hk
    rcases hki with rfl | rfl
    · exact wpOp_mono (fun a' w' h' => ⟨h'.1, wpAnyU_plan hsel hQ t _ _ _ (hcl.set hk') hB1 h'.2⟩) h.1
    · refine wpOp_mono (fun a' w' h' => ⟨h'.1, ?_⟩) h.2
      have h2 := wpAnyU_plan hsel hQ u _ _ _ (hcl.set hk') hB2 h'.2
      rw [← hlen] at h2
      exact h2

/-- The beginning. -/
theorem wp_region_planU (S : World → Prop) (brks : List Nat) (plan : PU) {id : Nat} {a : Act} {w : World} (hm : P.follows .mixedOrders = true) (hA : planV .any ops brks plan = true)
    (hQ : ∀ c (t : Array Value) (a : Act) w, Q (.panic c) ⟨t, a.defers⟩ w → Q (.panic c) a w) (h : wpPlanU P ops Q S brks plan a w.drew) : (Code.region id ops true).wp P Q a w := by
  simp only [planV, Bool.and_eq_true, decide_eq_true_eq] at hA
  obtain ⟨⟨hsel, hl⟩, hB⟩ := hA
  have H := wpAnyU_plan (md := .any) hsel hQ plan _ _ _ (Closed.start _) hB h
  rw [hl] at H
  exact wp_region_any hm (wpAny_of_U _ _ _ _ H)

/-- One taken first. -/
theorem wpPlanU_take {brks : List Nat} {i : Nat} {o : Oper} {v : Value} {l : PU} {a : Act} {w : World} (ho : ops[i]? = some o) (hS : S w)
    (hw : Region.wanted o (yielded ops a.tmps) = true) (hy : ∀ w, S w → (execOp a.eval o).run P w = .ok (.value v) w) (h : wpPlanU P ops Q S brks l (a.put o.dst v) w) : wpPlanU P ops Q S brks (.take i l) a w :=
  ⟨hS, o, v, ho, .inl ⟨hw, hy⟩, h⟩
/-- One that asks nothing of the world. -/
theorem wpPlanU_free {brks : List Nat} {i : Nat} {o : Oper} {v : Value} {l : PU} {a : Act} {w : World} (ho : ops[i]? = some o)
    (hw : Region.wanted o (yielded ops a.tmps) = true) (hy : ∀ w : World, True → (execOp a.eval o).run P w = .ok (.value v) w) (h : wpPlanU P ops Q S brks l (a.put o.dst v) w) : wpPlanU P ops Q S brks (.free i l) a w :=
  ⟨o, v, ho, .inl ⟨hw, hy⟩, h⟩
/-- One whose guard says no, taken first. -/
theorem wpPlanU_none {brks : List Nat} {i : Nat} {o : Oper} {l : PU} {a : Act} {w : World} (ho : ops[i]? = some o) (hS : S w)
    (hw : Region.wanted o (yielded ops a.tmps) = false) (h : wpPlanU P ops Q S brks l (a.put o.dst undef) w) : wpPlanU P ops Q S brks (.take i l) a w :=
  ⟨hS, o, undef, ho, .inr ⟨hw, rfl⟩, h⟩
/-- One that comes up alone. -/
theorem wpPlanU_run {brks : List Nat} {i : Nat} {o : Oper} {l : PU} {a : Act} {w : World} (ho : ops[i]? = some o) (hw : Region.wanted o (yielded ops a.tmps) = true)
    (h : ∀ K' : Act → World → Prop, (∀ a w, (brks.contains i = true ∨ S w) → wpPlanU P ops Q S brks l a w → K' a w) → Oper.wp P o a w K' Q) : wpPlanU P ops Q S brks (.one i l) a w := by
  show wpOp P ops Q i _ a w
  unfold wpOp
  simp only [ho, hw, if_true]
  exact .inl (h _ (fun a w hS hW => ⟨fun _ => hS, hW⟩))
/-- One that comes up alone, whose guard says no. -/
theorem wpPlanU_pass {brks : List Nat} {i : Nat} {o : Oper} {l : PU} {a : Act} {w : World} (ho : ops[i]? = some o) (hw : Region.wanted o (yielded ops a.tmps) = false) (hS : S w)
    (h : wpPlanU P ops Q S brks l (a.put o.dst undef) w) : wpPlanU P ops Q S brks (.one i l) a w := by
  show wpOp P ops Q i _ a w
  unfold wpOp
  simp only [ho, hw, Bool.false_eq_true, if_false]
  exact ⟨fun _ => .inr hS, h⟩
/-- The same two, the slot told. -/
theorem put_someU {a : Act} {o : Oper} {d : Tmp} {v : Value} (hd : o.dst = some d) : a.put o.dst v = ⟨a.tmps.setIfInBounds d v, a.defers⟩ := by rw [hd]; rfl
theorem wpPlanU_takeD {brks : List Nat} {i d : Nat} {o : Oper} {v : Value} {l : PU} {a : Act} {w : World} (ho : ops[i]? = some o) (hd : o.dst = some d) (hS : S w)
    (hw : Region.wanted o (yielded ops a.tmps) = true) (hy : ∀ w, S w → (execOp a.eval o).run P w = .ok (.value v) w) (h : wpPlanU P ops Q S brks l ⟨a.tmps.setIfInBounds d v, a.defers⟩ w) : wpPlanU P ops Q S brks (.take i l) a w :=
  wpPlanU_take ho hS hw hy (by rw [put_someU hd]; exact h)
theorem wpPlanU_noneD {brks : List Nat} {i d : Nat} {o : Oper} {l : PU} {a : Act} {w : World} (ho : ops[i]? = some o) (hd : o.dst = some d) (hS : S w)
    (hw : Region.wanted o (yielded ops a.tmps) = false) (h : wpPlanU P ops Q S brks l ⟨a.tmps.setIfInBounds d undef, a.defers⟩ w) : wpPlanU P ops Q S brks (.take i l) a w :=
  wpPlanU_none ho hS hw (by rw [put_someU hd]; exact h)
theorem wpPlanU_passD {brks : List Nat} {i d : Nat} {o : Oper} {l : PU} {a : Act} {w : World} (ho : ops[i]? = some o) (hd : o.dst = some d) (hw : Region.wanted o (yielded ops a.tmps) = false) (hS : S w)
    (h : wpPlanU P ops Q S brks l ⟨a.tmps.setIfInBounds d undef, a.defers⟩ w) : wpPlanU P ops Q S brks (.one i l) a w :=
  wpPlanU_pass ho hw hS (by rw [put_someU hd]; exact h)
/-- Two that come up together: either goes first. -/
theorem wpPlanU_two {brks : List Nat} {i j : Nat} {t u : PU} {a : Act} {w : World} (h1 : wpPlanU P ops Q S brks (.one i t) a w) (h2 : wpPlanU P ops Q S brks (.one j u) a w) : wpPlanU P ops Q S brks (.two i j t u) a w := ⟨h1, h2⟩
theorem wpPlanU_done {brks : List Nat} {a : Act} {w : World} (h : Q .normal a w) : wpPlanU P ops Q S brks .done a w := h
end
end Go.Proofs.YthmimcegiihcnaaDoor

namespace Go.Proofs.YthmimcegiihcnaaDoor
open Go.RowKit

section
variable {P : Program} {ops : Array Oper} {Q : Exit → Act → World → Prop} {md : Region.Mode}
theorem ready_of_all {listed : Array Bool} (h : listed.toList.count false = 0) : Region.ready md ops listed = [] := by
  apply List.eq_nil_iff_forall_not_mem.2
  intro j hj
  have h1 := (mem_ready.1 hj).1
  have hlt : j < listed.size := by
    apply Classical.byContradiction
    intro hn
    rw [Array.getD_eq_getD_getElem?, Array.getElem?_eq_none (by omega)] at h1
    cases h1
  have h2 : listed[j] = false := by
    rw [Array.getD_eq_getD_getElem?, Array.getElem?_eq_getElem hlt] at h1
    exact h1
  have hm : false ∈ listed.toList := by
    rw [← h2]
    exact Array.getElem_mem_toList hlt
  have := List.count_pos_iff.2 hm
  omega
theorem count_set {listed : Array Bool} {i : Nat} (h : listed.getD i true = false) : (listed.setIfInBounds i true).toList.count false + 1 = listed.toList.count false := by
  have hlt : i < listed.size := by
    apply Classical.byContradiction
    intro hn
    rw [Array.getD_eq_getD_getElem?, Array.getElem?_eq_none (by omega)] at h
    cases h
  have h2 : listed[i] = false := by
    rw [Array.getD_eq_getD_getElem?, Array.getElem?_eq_getElem hlt] at h
    exact h
  have hl : i < listed.toList.length := by simpa using hlt
  have h3 : listed.toList[i] = false := by simpa using h2
  have hp : 0 < listed.toList.count false := List.count_pos_iff.2 (by rw [← h3]; exact List.getElem_mem hl)
  rw [Array.toList_setIfInBounds, List.count_set hl, h3]
  show List.count false listed.toList - 1 + 0 + 1 = List.count false listed.toList
  omega
theorem wpAny_inv (Inv : Array Bool → Act → World → Prop)
    (hstep : ∀ (listed : Array Bool) (a : Act) (w : World) (i : Nat), Closed md ops listed → i ∈ Region.ready md ops listed → Inv listed a w → wpOp P ops Q i (fun a' w' => Inv (listed.setIfInBounds i true) a' w') a w)
    (hend : ∀ (listed : Array Bool) (a : Act) (w : World), Closed md ops listed → Region.ready md ops listed = [] → Inv listed a w → Q .normal a w) :
    ∀ (fuel : Nat) (listed : Array Bool) (a : Act) (w : World), Closed md ops listed → listed.toList.count false ≤ fuel → Inv listed a w → wpAny P md ops Q fuel listed a w
  | 0, listed, a, w, hcl, hc, hi => by
    have hr := ready_of_all (md := md) (ops := ops) (show listed.toList.count false = 0 by omega)
    exact ⟨hr, hend listed a w hcl hr hi⟩
  | fuel + 1, listed, a, w, hcl, hc, hi =>
    ⟨fun hr => hend listed a w hcl hr hi, fun i hm => wpOp_mono (fun a' w' h => wpAny_inv Inv hstep hend fuel _ a' w' (hcl.set hm) (by have := count_set (mem_ready.1 hm).1; omega) h) (hstep listed a w i hcl hm hi)⟩
theorem wp_region_inv (Inv : Array Bool → Act → World → Prop) {id : Nat} {a : Act} {w : World} (hm : P.follows .mixedOrders = true)
    (hstep : ∀ (listed : Array Bool) (a : Act) (w : World) (i : Nat), Closed .any ops listed → i ∈ Region.ready .any ops listed → Inv listed a w → wpOp P ops Q i (fun a' w' => Inv (listed.setIfInBounds i true) a' w') a w)
    (hend : ∀ (listed : Array Bool) (a : Act) (w : World), Closed .any ops listed → Region.ready .any ops listed = [] → Inv listed a w → Q .normal a w)
    (h0 : Inv (Array.replicate ops.size false) a w.drew) : (Code.region id ops true).wp P Q a w :=
  wp_region_any hm (wpAny_inv Inv hstep hend ops.size _ _ _ (Closed.start _) (by simp) h0)
end
end Go.Proofs.YthmimcegiihcnaaDoor
