/- Rows of a call's own: sources' declarations and rules; slices out of blocks. (Stood in Ei, Dl, Eu.) Layer 8: the walk of print.Same. Layer 8: sources of a bounded size; what the laws cut a source to. A region that draws its order, whose LAST operation may break the condition that its loads stand on: Derived/OrdersHeld.lean's law with one operation excepted. A region that draws its order, walked once along a plan: what only reads is taken first, whatever else comes up alone. Layer 8, the reference: are two sources the same. A law's own cut of a source, yucca/yuccalaw8.cut: its loops over parts, alternatives, rules. Plain functions: a grammar by numbers, and the source that is made of it (yuccalaw0.Source); it may be. No program in sight. -/
import Derived.Test.YthmimcegiihcnaaDoorZ04
import Derived.Test.YthmimcegiihcnaaDoorZ02
import Derived.Lib.ItoaLen
import Derived.Deep.RegionHeld3
import Derived.Deep.DeepCutAuto
import Derived.Deep.LoopGhost
import Derived.Deep.AppendLies
import Derived.Test.YthmimcegiihcnaaDoorZ01
import Derived.OrdersHeld
import Derived.StillTail
import Derived.Test.YthmimcegiihcnaaDoorZ00
import Derived.BigQuiet
import Derived.Deep.QuietTactic
import Derived.Deep.CutBlock
namespace Go.Proofs.YthmimcegiihcnaaDoor
open Go.RowKit

/-! ### Rows of the call's own -/
theorem info_symE : (Tryd.prog.info? 40).map (fun i => (i.zero, i.size, i.bytes)) = some (some (.agg #[.string ⟨#[]⟩, .bool false, .int .i64 0, .int .i64 0]), 4, 40) := by kernel_rfl
theorem info_declE : (Tryd.prog.info? 43).map (fun i => (i.zero, i.size, i.bytes)) = some (some (.agg #[.int .i64 0, .string ⟨#[]⟩, .slice none 0 0, .int .i64 0]), 4, 56) := by kernel_rfl
theorem info_partE : (Tryd.prog.info? 46).map (fun i => (i.zero, i.size, i.bytes)) = some (some (.agg #[.string ⟨#[]⟩, .bool false, .int .i64 0, .int .i64 0, .string ⟨#[]⟩, .int .i64 0]), 6, 64) := by kernel_rfl
theorem info_altE : (Tryd.prog.info? 49).map (fun i => (i.zero, i.size, i.bytes)) = some (some (.agg #[.slice none 0 0, .string ⟨#[]⟩, .bool false, .int .i64 0, .int .i64 0, .int .i64 0]), 6, 72) := by kernel_rfl
theorem info_ruleE : (Tryd.prog.info? 52).map (fun i => (i.zero, i.size, i.bytes)) = some (some (.agg #[.string ⟨#[]⟩, .slice none 0 0, .int .i64 0]), 3, 48) := by kernel_rfl
def symsOwn (w : World) (v : Value) (d : Sp.Decl) : Prop := ∃ base, w.ownsRow base 40 4 v d.syms.length (d.syms.map symC).flatten
def partsOwn (w : World) (v : Value) (a : Sp.Alt) : Prop := ∃ base, w.ownsRow base 46 6 v a.parts.length (a.parts.map partC).flatten
abbrev DeclsOwn := OwnR declC 43 4 symsOwn
abbrev AltsOwn := OwnR altC 49 6 partsOwn
def altsOwn (w : World) (v : Value) (r : Sp.Rule) : Prop := ∃ base, AltsOwn base w v r.alts
abbrev RulesOwn := OwnR ruleC 52 3 altsOwn
theorem decls_at {B : Nat} {w : World} {v : Value} {l : List Sp.Decl} (h : DeclsOwn B w v l) : DeclsAt w v l := by
  obtain ⟨f, h1, h2⟩ := h.slAt (fun _ _ => rfl)
  refine ⟨f, h1, fun i d hd => ?_⟩
  obtain ⟨base, ho⟩ := h2 i d hd
  exact slAt_of_owns _ (fun r hr => by obtain ⟨s, _, rfl⟩ := List.mem_map.1 hr; rfl) (by rw [List.length_map]) ho
theorem alts_at {B : Nat} {w : World} {v : Value} {l : List Sp.Alt} (h : AltsOwn B w v l) : AltsAt w v l := by
  obtain ⟨f, h1, h2⟩ := h.slAt (fun _ _ => rfl)
  refine ⟨f, h1, fun i d hd => ?_⟩
  obtain ⟨base, ho⟩ := h2 i d hd
  exact slAt_of_owns _ (fun r hr => by obtain ⟨s, _, rfl⟩ := List.mem_map.1 hr; rfl) (by rw [List.length_map]) ho
theorem rules_at {B : Nat} {w : World} {v : Value} {l : List Sp.Rule} (h : RulesOwn B w v l) : RulesAt w v l := by
  obtain ⟨f, h1, h2⟩ := h.slAt (fun _ _ => rfl)
  refine ⟨f, h1, fun i d hd => ?_⟩
  obtain ⟨base, ho⟩ := h2 i d hd
  exact alts_at ho
theorem symsOwn_kp {T : TypeId → Prop} {w w' : World} (k : KpT T w w') (ht : T 40) (u : Value) (d : Sp.Decl) (h : symsOwn w u d) : symsOwn w' u d := by
  obtain ⟨b, h⟩ := h
  exact ⟨b, ownsRow_kpT h k ht⟩
theorem partsOwn_kp {T : TypeId → Prop} {w w' : World} (k : KpT T w w') (ht : T 46) (u : Value) (d : Sp.Alt) (h : partsOwn w u d) : partsOwn w' u d := by
  obtain ⟨b, h⟩ := h
  exact ⟨b, ownsRow_kpT h k ht⟩
theorem altsOwn_kp {T : TypeId → Prop} {w w' : World} (k : KpT T w w') (ht : T 46) (ht2 : T 49) (u : Value) (d : Sp.Rule) (h : altsOwn w u d) : altsOwn w' u d := by
  obtain ⟨b, h⟩ := h
  exact ⟨b, h.kp k ht2 (partsOwn_kp k ht)⟩
theorem decls_kp {T : TypeId → Prop} {B : Nat} {w w' : World} {v : Value} {l : List Sp.Decl} (h : DeclsOwn B w v l) (k : KpT T w w') (ht : T 40) (ht2 : T 43) : DeclsOwn B w' v l := h.kp k ht2 (symsOwn_kp k ht)
theorem rules_kp {T : TypeId → Prop} {B : Nat} {w w' : World} {v : Value} {l : List Sp.Rule} (h : RulesOwn B w v l) (k : KpT T w w') (ht : T 46) (ht2 : T 49) (ht3 : T 52) : RulesOwn B w' v l := h.kp k ht3 (altsOwn_kp k ht ht2)
theorem slAt_block {w : World} {b : Nat} {e : TypeId} (rows : List (List Value)) (size : Nat) (hrows : ∀ r ∈ rows, r.length = size) (h : w.heap[b]? = some (.cells rows.flatten.toArray e (0, 0))) (hm : rows.length ≤ maxLen) : SlAt w (.slice (some ⟨b, 0, none⟩) rows.length rows.length) size rows := by
  have hl : rows.flatten.length = rows.length * size := by
    clear h hm
    induction rows with
    | nil => simp
    | cons r rows ih => rw [List.flatten_cons, List.length_append, ih (fun x hx => hrows x (by simp [hx])), hrows r (by simp), List.length_cons, Nat.succ_mul, Nat.add_comm]
  exact slAt_of_owns (base := 0) (e := e) rows hrows rfl ⟨hl, .inr ⟨b, rows.length, _, rfl, Nat.zero_le _, h, Nat.le_refl _, hm, by simpa using hl, by rw [List.toList_toArray]; exact List.take_of_length_le (by rw [hl]; exact Nat.le_refl _)⟩⟩
theorem decls_none (w : World) : DeclsAt w (.slice none 0 0) [] := ⟨fun _ => .nilFunc, .inl ⟨rfl, none, 0, rfl⟩, by simp⟩
theorem rules_none (w : World) : RulesAt w (.slice none 0 0) [] := ⟨fun _ => .nilFunc, .inl ⟨rfl, none, 0, rfl⟩, by simp⟩
def IntsAt (w : World) (v : Value) (xs : List Int) : Prop := SlAt w v 1 (xs.map fun x => [Value.int .i64 x])
end Go.Proofs.YthmimcegiihcnaaDoor

namespace Go.Proofs.YthmimcegiihcnaaDoor
open Go.RowKit

open Go.RowKit

def smallR (r : Sp.Rule) : Prop := r.alts.length ≤ 4000 ∧ ∀ a ∈ r.alts, a.parts.length ≤ 4000
def smallD (d : Sp.Decl) : Prop := d.syms.length ≤ 4000
def smallSame (x : Sp.Source) : Prop := x.decls.length ≤ 4000 ∧ x.rules.length ≤ 4000 ∧ (∀ d ∈ x.decls, smallD d) ∧ ∀ r ∈ x.rules, smallR r
end Go.Proofs.YthmimcegiihcnaaDoor

namespace Go.Proofs.YthmimcegiihcnaaDoor
open Go.RowKit
/-! ### Sources of a bounded size -/
def tinySym (s : Sp.Sym) : Prop := s.name.length ≤ 60 ∧ i64ok s.num
def tinyPart (p : Sp.Part) : Prop := tinySym p.sym ∧ p.code.length ≤ 60
def tinyAlt (a : Sp.Alt) : Prop := a.parts.length ≤ 20 ∧ (∀ p ∈ a.parts, tinyPart p) ∧ tinySym a.prec
def tinyRule (r : Sp.Rule) : Prop := r.left.length ≤ 60 ∧ r.alts.length ≤ 20 ∧ ∀ a ∈ r.alts, tinyAlt a
def tinyDecl (d : Sp.Decl) : Prop := d.tag.length ≤ 60 ∧ d.syms.length ≤ 20 ∧ ∀ s ∈ d.syms, tinySym s
def tinySrc (x : Sp.Source) : Prop := x.pro.length ≤ 60 ∧ x.tail.length ≤ 60 ∧ x.decls.length ≤ 20 ∧ x.rules.length ≤ 20 ∧ (∀ d ∈ x.decls, tinyDecl d) ∧ ∀ r ∈ x.rules, tinyRule r
theorem tiny_small {x : Sp.Source} (h : tinySrc x) : smallSrc x ∧ smallSame x := by
  obtain ⟨h1, h2, h3, h4, h5, h6⟩ := h
  refine ⟨⟨by omega, by omega, by omega, by omega, fun d hd => ?_, fun r hr => ?_⟩, by omega, by omega, fun d hd => ?_, fun r hr => ?_⟩
  · obtain ⟨a, b, c⟩ := h5 d hd
    exact ⟨by omega, by omega, fun s hs => by have := (c s hs).1; unfold smallSym; omega⟩
  · obtain ⟨a, b, c⟩ := h6 r hr
    refine ⟨by omega, by omega, fun al ha => ?_⟩
    obtain ⟨p, q, s⟩ := c al ha
    exact ⟨by omega, fun pt hp => ⟨by have := (q pt hp).1.1; omega, by have := (q pt hp).2; omega⟩, by have := s.1; omega⟩
  · obtain ⟨a, b, c⟩ := h5 d hd
    unfold smallD; omega
  · obtain ⟨a, b, c⟩ := h6 r hr
    exact ⟨by omega, fun al ha => by have := (c al ha).1; omega⟩
theorem quotable_ne {l : List UInt8} (h : Sp.quotable l = true) : l ≠ [] := by rintro rfl; simp [Sp.quotable] at h
theorem isSym_lit {s : Sp.Sym} (h : Sp.isSym s = true) : s.lit = true → s.name ≠ [] := by
  intro hl
  unfold Sp.isSym at h
  rw [if_pos hl] at h
  exact quotable_ne h
/-! ### What the laws cut a source to -/
end Go.Proofs.YthmimcegiihcnaaDoor

namespace Go.Proofs.YthmimcegiihcnaaDoor
open Go.RowKit

section
variable {P : Program} {ops : Array Oper} {Q : Exit → Act → World → Prop} {md : Region.Mode} {S : World → Prop} {last : Nat}

/-- Does j wait for i, by way of others too? -/
def reachB (md : Region.Mode) (ops : Array Oper) : Nat → Nat → Nat → Bool
  | 0, _, _ => false
  | f + 1, j, i => match ops[j]? with
    | some oj => oj.after.any fun e => Region.binds md e && (e.on == i || reachB md ops f e.on i)
    | none => false
/-- What is listed has all listed that it waits for. -/
def Closed (md : Region.Mode) (ops : Array Oper) (listed : Array Bool) : Prop :=
  ∀ j oj, ops[j]? = some oj → listed.getD j false = true → ∀ e ∈ oj.after, Region.binds md e = true → listed.getD e.on false = true
theorem Closed.start (n : Nat) : Closed md ops (Array.replicate n false) := fun j oj _ hl => by rw [getD_replicate_false] at hl; cases hl
theorem Closed.set {listed : Array Bool} (h : Closed md ops listed) {i : Nat} (hi : i ∈ Region.ready md ops listed) : Closed md ops (listed.setIfInBounds i true) := by
  obtain ⟨_, oi, hoi, hall⟩ := mem_ready.1 hi
  intro j oj hj hl e he hb
  by_cases hij : i = j
  · subst hij
    have : oj = oi := Option.some.inj (hj.symm.trans hoi)
    subst this
    exact getD_set_true (hall e he hb)
  · rw [getD_set_ne false hij] at hl
    exact getD_set_true (h j oj hj hl e he hb)
theorem reach_listed {listed : Array Bool} (h : Closed md ops listed) {i : Nat} : ∀ (f j : Nat), reachB md ops f j i = true → listed.getD j false = true → listed.getD i false = true
  | 0, _, hr, _ => by cases hr
  | f + 1, j, hr, hl => by
    unfold reachB at hr
    split at hr
    · rename_i oj hoj
      obtain ⟨e, he, hb⟩ := Array.any_eq_true'.1 hr
      simp only [Bool.and_eq_true, Bool.or_eq_true, beq_iff_eq] at hb
      have h1 := h j oj hoj hl e he hb.1
      rcases hb.2 with h2 | h2
      · rw [h2] at h1; exact h1
      · exact reach_listed h f e.on h2 h1
    · cases hr
theorem reach_ready {listed : Array Bool} (h : Closed md ops listed) {f i j : Nat} (hr : reachB md ops f j i = true) (hun : listed.getD i true = false) : j ∉ Region.ready md ops listed := by
  intro hj
  obtain ⟨_, oj, hoj, hall⟩ := mem_ready.1 hj
  cases f with
  | zero => cases hr
  | succ f =>
    unfold reachB at hr
    rw [hoj] at hr
    obtain ⟨e, he, hb⟩ := Array.any_eq_true'.1 hr
    simp only [Bool.and_eq_true, Bool.or_eq_true, beq_iff_eq] at hb
    have h1 := hall e he hb.1
    have h3 : listed.getD i false = true := by
      rcases hb.2 with h2 | h2
      · rw [← h2]; exact h1
      · exact reach_listed h f e.on h2 h1
    rw [getD_both hun] at h3
    cases h3

end
end Go.Proofs.YthmimcegiihcnaaDoor

namespace Go.Proofs.YthmimcegiihcnaaDoor
open Go.RowKit

section
variable {P : Program} {ops : Array Oper} {Q : Exit → Act → World → Prop} {md : Region.Mode} {S : World → Prop} {brk : Nat → Bool}

/-- Whatever order is picked from here on; S holds behind every operation that is no 'brk'. -/
def wpAnyS (P : Program) (md : Region.Mode) (ops : Array Oper) (Q : Exit → Act → World → Prop) (S : World → Prop) (brk : Nat → Bool) : Nat → Array Bool → Act → World → Prop
  | 0, listed, a, w => Region.ready md ops listed = [] ∧ Q .normal a w
  | fuel + 1, listed, a, w =>
    (Region.ready md ops listed = [] → Q .normal a w) ∧
    ∀ i ∈ Region.ready md ops listed, wpOp P ops Q i (fun a' w' => (brk i = true ∨ S w') ∧ wpAnyS P md ops Q S brk fuel (listed.setIfInBounds i true) a' w') a w

theorem wpAny_of_S : ∀ (fuel : Nat) (listed : Array Bool) (a : Act) (w : World), wpAnyS P md ops Q S brk fuel listed a w → wpAny P md ops Q fuel listed a w
  | 0, _, _, _, h => h
  | fuel + 1, _, _, _, h => ⟨h.1, fun i hi => wpOp_mono (fun a' w' h' => wpAny_of_S fuel _ a' w' h'.2) (h.2 i hi)⟩

theorem wpAnyS_first {i f0 : Nat} {oi : Oper} {v : Value} (hi : ops[i]? = some oi) (hsel : ∀ (j : Nat) (o : Oper) cs b, ops[j]? = some o → o.op ≠ .select cs b)
    (hQ : ∀ c a w, Q (.panic c) (a.put oi.dst v) w → Q (.panic c) a w) (hbrk : ∀ j, brk j = true → reachB md ops f0 j i = true) (hib : brk i = false) :
    ∀ (fuel : Nat) (listed : Array Bool) (a : Act) (w : World), Closed md ops listed →
      (∀ j oj, ops[j]? = some oj → j ≠ i → listed.getD j true = false → (∀ e ∈ oj.after, Region.binds md e = true → e.on ≠ i) → oi.apart ops oj = true) →
      i ∈ Region.ready md ops listed → YieldsIf P ops S oi v a → S w →
      wpAnyS P md ops Q S brk fuel (listed.setIfInBounds i true) (a.put oi.dst v) w → wpAnyS P md ops Q S brk (fuel + 1) listed a w := by
  intro fuel
  induction fuel with
  | zero =>
    intro listed a w _ _ hr hy hS H
    refine ⟨fun h => (by rw [h] at hr; cases hr), fun j hj => ?_⟩
    by_cases hji : j = i
    · subst hji; exact hy.wpOp hi hS ⟨.inr hS, H⟩
    · have := ready_mono hj hji
      rw [H.1] at this
      cases this
  | succ fuel ih =>
    intro listed a w hcl hfree hr hy hS H
    refine ⟨fun h => (by rw [h] at hr; cases hr), fun j hj => ?_⟩
    by_cases hji : j = i
    · subst hji; exact hy.wpOp hi hS ⟨.inr hS, H⟩
    · have hjl : ¬ brk j = true := fun e => reach_ready hcl (hbrk j e) (mem_ready.1 hr).1 hj
      have h1 := H.2 j (ready_mono hj hji)
      obtain ⟨hjun, oj, hoj, hall⟩ := mem_ready.1 hj
      have hnot : ∀ e ∈ oj.after, Region.binds md e = true → e.on ≠ i := fun e he hb heq => by
        have h1 := hall e he hb
        have h0 := (mem_ready.1 hr).1
        rw [heq, getD_both h0] at h1
        cases h1
      have h1' := wpOp_mono (K' := fun a' w' => S w' ∧ wpAnyS P md ops Q S brk fuel ((listed.setIfInBounds i true).setIfInBounds j true) a' w') (fun a' w' h3 => ⟨h3.1.resolve_left hjl, h3.2⟩) h1
      have h2 := wpOp_putIf hoj (hfree j oj hoj hji hjun hnot) (fun cs b => hsel i oi cs b hi) (fun cs b => hsel j oj cs b hoj) hQ hy h1'
      have hfree' : ∀ k ok, ops[k]? = some ok → k ≠ i → (listed.setIfInBounds j true).getD k true = false →
          (∀ e ∈ ok.after, Region.binds md e = true → e.on ≠ i) → oi.apart ops ok = true := fun k ok hk hki hun hno => by
        refine hfree k ok hk hki ?_ hno
        by_cases hjk : j = k
        · subst hjk; exact hjun
        · rw [getD_set_ne true hjk] at hun; exact hun
      refine wpOp_mono (fun a' w' h3 => ⟨.inr h3.2.1, ih (listed.setIfInBounds j true) a' w' (hcl.set hj) hfree' (ready_mono hr (Ne.symm hji)) h3.1 h3.2.1 ?_⟩) h2
      rw [Array.setIfInBounds_comm _ _ hji]
      exact h3.2.2

/-- A plan: what is taken first, what comes up alone, what comes up beside one other. -/
inductive PT where
  | done
  | take (i : Nat) (t : PT)
  | one (i : Nat) (t : PT)
  | two (i j : Nat) (t u : PT)
def PT.len : PT → Nat
  | .done => 0
  | .take _ t => t.len + 1
  | .one _ t => t.len + 1
  | .two _ _ t _ => t.len + 1
/-- Does a plan fit? -/
def planB (md : Region.Mode) (ops : Array Oper) (brks : List Nat) : PT → Array Bool → Bool
  | .done, listed => (Region.ready md ops listed).isEmpty
  | .take i l, listed => (Region.ready md ops listed).contains i && Region.free md ops listed i && (!brks.contains i && brks.all fun j => reachB md ops ops.size j i) && planB md ops brks l (listed.setIfInBounds i true)
  | .one i l, listed => decide (Region.ready md ops listed = [i]) && planB md ops brks l (listed.setIfInBounds i true)
  | .two i j t u, listed => decide (Region.ready md ops listed = [i, j]) && decide (t.len = u.len) && planB md ops brks t (listed.setIfInBounds i true) && planB md ops brks u (listed.setIfInBounds j true)
def planA (md : Region.Mode) (ops : Array Oper) (brks : List Nat) (plan : PT) : Bool :=
  Region.noSelect ops && decide (plan.len = ops.size) && planB md ops brks plan (Array.replicate ops.size false)

/-- The walk along the plan. -/
def wpPlan (P : Program) (ops : Array Oper) (Q : Exit → Act → World → Prop) (S : World → Prop) (brks : List Nat) : PT → Act → World → Prop
  | .done, a, w => Q .normal a w
  | .take i l, a, w => S w ∧ ∃ o v, ops[i]? = some o ∧ YieldsIf P ops S o v a ∧ wpPlan P ops Q S brks l (a.put o.dst v) w
  | .one i l, a, w => wpOp P ops Q i (fun a' w' => (brks.contains i = true ∨ S w') ∧ wpPlan P ops Q S brks l a' w') a w
  | .two i j t u, a, w => wpOp P ops Q i (fun a' w' => (brks.contains i = true ∨ S w') ∧ wpPlan P ops Q S brks t a' w') a w ∧ wpOp P ops Q j (fun a' w' => (brks.contains j = true ∨ S w') ∧ wpPlan P ops Q S brks u a' w') a w

theorem put_panic (hQ : ∀ c (t : Array Value) (a : Act) w, Q (.panic c) ⟨t, a.defers⟩ w → Q (.panic c) a w) {c} {a : Act} {d : Option Tmp} {v : Value} {w : World} (h : Q (.panic c) (a.put d v) w) : Q (.panic c) a w := by
  cases d with
  | none => exact h
  | some d => exact hQ c _ a w h
theorem wpAnyS_plan {brks : List Nat} (hsel : Region.noSelect ops = true) (hQ : ∀ c (t : Array Value) (a : Act) w, Q (.panic c) ⟨t, a.defers⟩ w → Q (.panic c) a w) : ∀ (l : PT) (listed : Array Bool) (a : Act) (w : World),
    Closed md ops listed → planB md ops brks l listed = true → wpPlan P ops Q S brks l a w → wpAnyS P md ops Q S (fun j => brks.contains j) l.len listed a w
  | .done, listed, a, w, _, hB, h => ⟨by simpa [planB] using hB, h⟩
  | .take i l, listed, a, w, hcl, hB, h => by
    simp only [planB, Bool.and_eq_true] at hB
    obtain ⟨⟨⟨hr, hf⟩, hbi, hba⟩, hB'⟩ := hB
    obtain ⟨hS, o, v, ho, hy, hK⟩ := h
    have hr' : i ∈ Region.ready md ops listed := by simpa using hr
    refine wpAnyS_first (f0 := ops.size) ho (Region.noSelect_spec hsel) (fun c a w h => put_panic hQ h) (fun j hj => ?_) (by simpa using hbi) l.len listed a w hcl (Region.free_spec ho hf) hr' hy hS
      (wpAnyS_plan hsel hQ l _ _ _ (hcl.set hr') hB' hK)
    have := List.all_eq_true.1 hba j (by simpa using hj)
    exact this
  | .one i l, listed, a, w, hcl, hB, h => by
    simp only [planB, Bool.and_eq_true, decide_eq_true_eq] at hB
    obtain ⟨hr, hB'⟩ := hB
    refine ⟨fun h0 => (by rw [hr] at h0; cases h0), fun j hj => ?_⟩
    have hj' := hj
    rw [hr] at hj
    have hji : j = i := by simpa using hj
    subst hji
    exact wpOp_mono (fun a' w' h' => ⟨h'.1, wpAnyS_plan hsel hQ l _ _ _ (hcl.set hj') hB' h'.2⟩) h
  | .two i j t u, listed, a, w, hcl, hB, h => by
    simp only [planB, Bool.and_eq_true, decide_eq_true_eq] at hB
    obtain ⟨⟨⟨hr, hlen⟩, hB1⟩, hB2⟩ := hB
    refine ⟨fun h0 => (by rw [hr] at h0; cases h0), fun k hk => ?_⟩
    have hk' := hk
    rw [hr] at hk
    have hki : k = i ∨ k = j := by simpa using hk
    rcases hki with rfl | rfl
    · exact wpOp_mono (fun a' w' h' => ⟨h'.1, wpAnyS_plan hsel hQ t _ _ _ (hcl.set hk') hB1 h'.2⟩) h.1
    · refine wpOp_mono (fun a' w' h' => ⟨h'.1, ?_⟩) h.2
      have h2 := wpAnyS_plan hsel hQ u _ _ _ (hcl.set hk') hB2 h'.2
      rw [← hlen] at h2
      exact h2

/-- The beginning. -/
theorem wp_region_plan (S : World → Prop) (brks : List Nat) (plan : PT) {id : Nat} {a : Act} {w : World} (hm : P.follows .mixedOrders = true) (hA : planA .any ops brks plan = true)
    (hQ : ∀ c (t : Array Value) (a : Act) w, Q (.panic c) ⟨t, a.defers⟩ w → Q (.panic c) a w) (h : wpPlan P ops Q S brks plan a w.drew) : (Code.region id ops true).wp P Q a w := by
  simp only [planA, Bool.and_eq_true, decide_eq_true_eq] at hA
  obtain ⟨⟨hsel, hl⟩, hB⟩ := hA
  have H := wpAnyS_plan (md := .any) hsel hQ plan _ _ _ (Closed.start _) hB h
  rw [hl] at H
  exact wp_region_any hm (wpAny_of_S _ _ _ _ H)

/-- One taken first. -/
theorem wpPlan_take {brks : List Nat} {i : Nat} {o : Oper} {v : Value} {l : PT} {a : Act} {w : World} (ho : ops[i]? = some o) (hS : S w)
    (hw : Region.wanted o (yielded ops a.tmps) = true) (hy : ∀ w, S w → (execOp a.eval o).run P w = .ok (.value v) w) (h : wpPlan P ops Q S brks l (a.put o.dst v) w) : wpPlan P ops Q S brks (.take i l) a w :=
  ⟨hS, o, v, ho, .inl ⟨hw, hy⟩, h⟩
/-- One that comes up alone. -/
theorem wpPlan_run {brks : List Nat} {i : Nat} {o : Oper} {l : PT} {a : Act} {w : World} (ho : ops[i]? = some o) (hw : Region.wanted o (yielded ops a.tmps) = true)
    (h : ∀ K' : Act → World → Prop, (∀ a w, (brks.contains i = true ∨ S w) → wpPlan P ops Q S brks l a w → K' a w) → Oper.wp P o a w K' Q) : wpPlan P ops Q S brks (.one i l) a w := by
  show wpOp P ops Q i _ a w
  unfold wpOp
  simp only [ho, hw, if_true]
  exact .inl (h _ (fun a w hS hW => ⟨hS, hW⟩))
/-- The same two, the slot told. -/
theorem put_some {a : Act} {o : Oper} {d : Tmp} {v : Value} (hd : o.dst = some d) : a.put o.dst v = ⟨a.tmps.setIfInBounds d v, a.defers⟩ := by rw [hd]; rfl
theorem wpPlan_takeD {brks : List Nat} {i d : Nat} {o : Oper} {v : Value} {l : PT} {a : Act} {w : World} (ho : ops[i]? = some o) (hd : o.dst = some d) (hS : S w)
    (hw : Region.wanted o (yielded ops a.tmps) = true) (hy : ∀ w, S w → (execOp a.eval o).run P w = .ok (.value v) w) (h : wpPlan P ops Q S brks l ⟨a.tmps.setIfInBounds d v, a.defers⟩ w) : wpPlan P ops Q S brks (.take i l) a w :=
  wpPlan_take ho hS hw hy (by rw [put_some hd]; exact h)
theorem wpPlan_done {brks : List Nat} {a : Act} {w : World} (h : Q .normal a w) : wpPlan P ops Q S brks .done a w := h
end
end Go.Proofs.YthmimcegiihcnaaDoor

namespace Go.Proofs.YthmimcegiihcnaaDoor
namespace Sp
end Sp
open Go.RowKit

theorem heap_sec (w : World) (o1 o2 : Obj) : ((w.alloc o1).alloc o2).heap[w.heap.size + 1]? = some o2 := by
  have h := heap_last (w.alloc o1) o2
  rw [World.size_alloc] at h
  exact h
end Go.Proofs.YthmimcegiihcnaaDoor

namespace Go.Proofs.YthmimcegiihcnaaDoor
open Go.RowKit

theorem below_two2 {W w' : World} {o1 o2 : Obj} (h : Below (W.heap.size + 2) ((W.alloc o1).alloc o2) w') : Below W.heap.size W w' := (((Below.refl _ W).alloc (Nat.le_refl _) o1).alloc (by simp) o2).trans (h.mono (by omega))
theorem two_first2 {W w' : World} {c1 c2 : Array Value} {t1 t2 : TypeId} (h : Below (W.heap.size + 2) ((W.alloc (.cells c1 t1)).alloc (.cells c2 t2)) w') : w'.heap[W.heap.size]? = some (.cells c1 t1 (0, 0)) ∧ w'.heap[W.heap.size + 1]? = some (.cells c2 t2 (0, 0)) :=
  ⟨(h.block W.heap.size (by omega)).trans ((Below.heap_alloc _ _ _ (by simp)).trans (heap_last W _)), (h.block (W.heap.size + 1) (by omega)).trans (heap_sec W _ _)⟩

/-- A block of the function's own body, by its number. -/
def findBlock (n : Nat) : Code → Option Code
  | .block i c => if i == n then some (.block i c) else findBlock n c
  | .loop c => findBlock n c
  | .seq a b => match findBlock n a with
    | some c => some c
    | none => findBlock n b
  | .cond _ a b => match findBlock n a with
    | some c => some c
    | none => findBlock n b
  | .scope c => findBlock n c
  | _ => none
end Go.Proofs.YthmimcegiihcnaaDoor

namespace Go.Proofs.YthmimcegiihcnaaDoor
namespace Sp
open Go.Lib (index indexByte hasPrefix)

structure Gr where
  nons : Int
  rules : List (List Int)
  levels : List Int
  inner : List Int
  bare : Bool
def within (i n : Int) : Int := i % n
theorem within_range (i n : Int) (h : 0 < n) : 0 ≤ within i n ∧ within i n < n := by
  unfold within
  exact ⟨Int.emod_nonneg _ (by omega), Int.emod_lt_of_pos _ h⟩
def nonN (k : Int) : List UInt8 := [UInt8.ofNat (97 + k).toNat]
def litS (k : Int) : Sym := ⟨[([112, 113, 114, 115] : List UInt8).getD (k % 4).toNat 0], true, 0, 0⟩
def noSym : Sym := ⟨[], false, 0, 0⟩
def symOf (x nons : Int) : Sym :=
  if within x 14 < 5 then ⟨nonN (within x 14 % nons), false, 0, 0⟩ else if within x 14 = 13 then ⟨[101, 114, 114, 111, 114], false, 0, 0⟩ else litS (within x 14 - 5)
/-- The last declaration has one symbol more. -/
def addLast (s : Sym) : List Decl → List Decl
  | [] => []
  | [d] => [⟨d.kind, d.tag, d.syms ++ [s], d.at_⟩]
  | d :: e :: l => d :: addLast s (e :: l)
def declStep (i : Nat) (x : Int) (out : List Decl) : List Decl :=
  if (within x 8) % 4 = 0 then out else if 4 < within x 8 ∧ out ≠ [] then addLast (litS i) out else out ++ [⟨1 + (within x 8) % 4, [], [litS i], 0⟩]
def declsGo : Nat → List Int → List Decl → List Decl
  | _, [], out => out
  | i, x :: l, out => declsGo (i + 1) l (declStep i x out)
def declsOf (l : List Int) : List Decl := declsGo 0 (l.take 4) []
/-- "{$$ = $1}", "{f($$)}". -/
def codeIn : List UInt8 := [123, 36, 36, 32, 61, 32, 36, 49, 125]
def codeEnd : List UInt8 := [123, 102, 40, 36, 36, 41, 125]
def partsGo (nons : Int) (e : Bool) : Nat → List Int → List Part
  | _, [] => []
  | j, x :: l => ⟨symOf x nons, [], 0⟩ :: ((if j = 1 ∧ e = true then [⟨noSym, codeIn, 0⟩] else []) ++ partsGo nons e (j + 1) l)
def plainSym (s : Sym) : Bool := s.lit || (s.name == [101, 114, 114, 111, 114])
def plainRow (nons : Int) (row : List Int) : Bool := ((row.drop 1).take 4).all fun x => plainSym (symOf x nons)
def innEnd (o : Option Int) : Bool := match o with
  | none => false
  | some v => v.tmod 2 != 0
def innMid (o : Option Int) : Bool := match o with
  | none => false
  | some v => v.tmod 3 == 1
def altOf (nons : Int) (o : Option Int) (row : List Int) : Alt :=
  ⟨partsGo nons (innMid o) 1 ((row.drop 1).take 4) ++ (if innEnd o = true then [⟨noSym, codeEnd, 0⟩] else []), noSym, 0⟩
def addAlt (a : Alt) : Nat → List Rule → List Rule
  | _, [] => []
  | 0, r :: l => ⟨r.left, r.alts ++ [a], r.at_⟩ :: l
  | k + 1, r :: l => r :: addAlt a k l
def rulesGo (nons : Int) (inner : List Int) : Nat → List (List Int) → List Rule × List Bool → List Rule × List Bool
  | _, [], s => s
  | i, [] :: l, s => rulesGo nons inner (i + 1) l s
  | i, (x :: t) :: l, s => rulesGo nons inner (i + 1) l (addAlt (altOf nons inner[i]? (x :: t)) (within x nons).toNat s.1, s.2.set (within x nons).toNat (s.2.getD (within x nons).toNat false || plainRow nons (x :: t)))
def fillGo (bare : Bool) : Nat → List Rule → List Bool → List Rule
  | _, [], _ => []
  | i, r :: l, has => (if r.alts.length = 0 ∨ has.headD false = false ∧ bare = false then ⟨r.left, r.alts ++ [⟨[⟨litS i, [], 0⟩], noSym, 0⟩], r.at_⟩ else r) :: fillGo bare (i + 1) l has.tail
def nonsOf (x : Gr) : Nat := (1 + within x.nons 4).toNat
def startRules (n : Nat) : List Rule := (List.range n).map fun (i : Nat) => ⟨nonN (i : Int), [], 0⟩
def grSource (x : Gr) : Source :=
  let s := rulesGo (nonsOf x) x.inner 0 (x.rules.take 9) (startRules (nonsOf x), List.replicate (nonsOf x) false)
  ⟨[], declsOf x.levels, fillGo x.bare 0 s.1 s.2, []⟩

/-! ### It may be -/
theorem nons_range (x : Gr) : 1 ≤ nonsOf x ∧ nonsOf x ≤ 4 := by
  have := within_range x.nons 4 (by decide)
  unfold nonsOf; omega
theorem nonN_cases (k : Int) (h0 : 0 ≤ k) (h : k < 5) : nonN k ∈ [[97], [98], [99], [100], [(101 : UInt8)]] := by
  unfold nonN
  have : k = 0 ∨ k = 1 ∨ k = 2 ∨ k = 3 ∨ k = 4 := by omega
  rcases this with rfl | rfl | rfl | rfl | rfl <;> decide
theorem nonN_name (k : Int) (h0 : 0 ≤ k) (h : k < 5) : isName (nonN k) = true := by
  have := nonN_cases k h0 h
  simp only [List.mem_cons, List.not_mem_nil, or_false] at this
  rcases this with e | e | e | e | e <;> (rw [e]; decide)
theorem lit_ok (k : Int) (h0 : 0 ≤ k) : isSym (litS k) = true ∧ (litS k).name.length = 1 := by
  have h1 := Int.emod_lt_of_pos k (show (0 : Int) < 4 by decide)
  have h2 : 0 ≤ k % 4 := Int.emod_nonneg _ (by decide)
  have : k % 4 = 0 ∨ k % 4 = 1 ∨ k % 4 = 2 ∨ k % 4 = 3 := by omega
  unfold litS
  rcases this with e | e | e | e <;> (rw [e]; decide)
theorem symOf_ok (x nons : Int) (h1 : 1 ≤ nons) (h4 : nons ≤ 4) : isBare (symOf x nons) = true ∧ (symOf x nons).name.length ≤ 5 := by
  obtain ⟨a, b⟩ := within_range x 14 (by decide)
  unfold symOf
  split
  · have c1 := Int.emod_lt_of_pos (within x 14) (show (0 : Int) < nons by omega)
    have c2 : 0 ≤ (within x 14) % nons := Int.emod_nonneg _ (by omega)
    have h := nonN_name (within x 14 % nons) c2 (by omega)
    refine ⟨?_, ?_⟩
    · unfold isBare isSym
      rw [if_neg (by simp), h]; rfl
    · show (nonN _).length ≤ 5
      unfold nonN; simp
  · split
    · decide
    · obtain ⟨h, hl⟩ := lit_ok (within x 14 - 5) (by omega)
      unfold isBare
      rw [h]
      exact ⟨rfl, by omega⟩
def okD (d : Decl) : Prop := 2 ≤ d.kind ∧ d.kind ≤ 4 ∧ d.tag = [] ∧ d.syms ≠ [] ∧ ∀ s ∈ d.syms, isSym s = true ∧ s.num = 0 ∧ s.name.length ≤ 5
theorem okD_may {d : Decl} (h : okD d) : mayDecl d = true := by
  obtain ⟨h1, h2, h3, h4, h5⟩ := h
  unfold mayDecl
  rw [if_neg (by
      rintro (h | h | h)
      · omega
      · omega
      · exact h4 (List.eq_nil_of_length_eq_zero h)), if_neg (by omega), if_neg (by
      rintro ⟨⟨_, h | h⟩, _⟩
      · exact h h3
      · omega), List.all_eq_true]
  intro s hs
  obtain ⟨a, b, _⟩ := h5 s hs
  unfold maySym
  rw [if_neg (by
    rintro (h | h)
    · rw [a] at h; simp at h
    · omega), if_neg (by rintro ⟨h, _⟩; exact h b)]
theorem addLast_ok {s : Sym} (hs : isSym s = true ∧ s.num = 0 ∧ s.name.length ≤ 5) : ∀ l : List Decl, (∀ d ∈ l, okD d) → ∀ d ∈ addLast s l, okD d
  | [], _, d, hd => by simp [addLast] at hd
  | [e], h, d, hd => by
    simp only [addLast, List.mem_singleton] at hd
    obtain ⟨h1, h2, h3, h4, h5⟩ := h e (by simp)
    subst hd
    refine ⟨h1, h2, h3, by simp, fun t ht => ?_⟩
    rcases List.mem_append.1 ht with ht | ht
    · exact h5 t ht
    · rw [List.mem_singleton] at ht; rw [ht]; exact hs
  | e :: f :: l, h, d, hd => by
    unfold addLast at hd
    rcases List.mem_cons.1 hd with rfl | hd
    · exact h d (by simp)
    · exact addLast_ok hs (f :: l) (fun x hx => h x (by simp [hx])) d hd
theorem declsGo_ok : ∀ (i : Nat) (l : List Int) (out : List Decl), (∀ d ∈ out, okD d) → ∀ d ∈ declsGo i l out, okD d
  | _, [], out, h => h
  | i, x :: l, out, h => by
    unfold declsGo
    refine declsGo_ok (i + 1) l _ ?_
    have hli := lit_ok (i : Int) (by omega)
    have hl : isSym (litS i) = true ∧ (litS (i : Int)).num = 0 ∧ (litS i).name.length ≤ 5 := ⟨hli.1, rfl, by have := hli.2; omega⟩
    unfold declStep
    obtain ⟨a, b⟩ := within_range x 8 (by decide)
    have c1 := Int.emod_lt_of_pos (within x 8) (show (0 : Int) < 4 by decide)
    have c2 : 0 ≤ (within x 8) % 4 := Int.emod_nonneg _ (by decide)
    split
    · exact h
    · split
      · exact addLast_ok hl out h
      · intro d hd
        rcases List.mem_append.1 hd with hd | hd
        · exact h d hd
        · rw [List.mem_singleton] at hd
          rw [hd]
          refine ⟨by show 2 ≤ 1 + (within x 8) % 4; omega, by show 1 + (within x 8) % 4 ≤ 4; omega, rfl, by simp, fun s hs => ?_⟩
          rw [List.mem_singleton] at hs
          rw [hs]; exact hl
def okP (p : Part) : Prop := mayPart p = true ∧ p.sym.name.length ≤ 5 ∧ p.sym.num = 0 ∧ p.code.length ≤ 9
theorem codeIn_ok : okP ⟨noSym, codeIn, 0⟩ := ⟨by decide +kernel, by decide, rfl, by decide⟩
theorem codeEnd_ok : okP ⟨noSym, codeEnd, 0⟩ := ⟨by decide +kernel, by decide, rfl, by decide⟩
theorem symPart_ok (x nons : Int) (h1 : 1 ≤ nons) (h4 : nons ≤ 4) : okP ⟨symOf x nons, [], 0⟩ := by
  obtain ⟨a, b⟩ := symOf_ok x nons h1 h4
  refine ⟨?_, b, ?_, by simp⟩
  · unfold mayPart; rw [if_pos rfl]; exact a
  · unfold isBare at a; simp only [Bool.and_eq_true, beq_iff_eq] at a; exact a.2
theorem partsGo_ok (nons : Int) (e : Bool) (h1 : 1 ≤ nons) (h4 : nons ≤ 4) : ∀ (j : Nat) (l : List Int), ∀ p ∈ partsGo nons e j l, okP p
  | _, [], p, hp => by simp [partsGo] at hp
  | j, x :: l, p, hp => by
    unfold partsGo at hp
    rcases List.mem_cons.1 hp with rfl | hp
    · exact symPart_ok x nons h1 h4
    · rcases List.mem_append.1 hp with hp | hp
      · split at hp
        · rw [List.mem_singleton] at hp; rw [hp]; exact codeIn_ok
        · simp at hp
      · exact partsGo_ok nons e h1 h4 (j + 1) l p hp
theorem partsGo_len (nons : Int) (e : Bool) : ∀ (j : Nat) (l : List Int), (partsGo nons e j l).length ≤ l.length + (if j ≤ 1 then 1 else 0)
  | _, [] => by simp [partsGo]
  | j, x :: l => by
    have ih := partsGo_len nons e (j + 1) l
    unfold partsGo
    rw [List.length_cons, List.length_append, List.length_cons]
    by_cases hj : j = 1
    · subst hj
      split <;> simp at ih ⊢ <;> omega
    · rw [if_neg (by simp [hj])]
      split at ih <;> split <;> simp at ih ⊢ <;> omega
def okA (a : Alt) : Prop := a.prec = noSym ∧ a.parts.length ≤ 6 ∧ ∀ p ∈ a.parts, okP p
theorem altOf_ok (nons : Int) (o : Option Int) (row : List Int) (h1 : 1 ≤ nons) (h4 : nons ≤ 4) : okA (altOf nons o row) := by
  refine ⟨rfl, ?_, fun p hp => ?_⟩
  · show (partsGo nons (innMid o) 1 ((row.drop 1).take 4) ++ _).length ≤ 6
    have h := partsGo_len nons (innMid o) 1 ((row.drop 1).take 4)
    have h2 : ((row.drop 1).take 4).length ≤ 4 := by simp; omega
    rw [if_pos (Nat.le_refl 1)] at h
    rw [List.length_append]
    split <;> simp only [List.length_cons, List.length_nil] <;> omega
  · rcases List.mem_append.1 hp with hp | hp
    · exact partsGo_ok nons _ h1 h4 _ _ p hp
    · split at hp
      · rw [List.mem_singleton] at hp; rw [hp]; exact codeEnd_ok
      · simp at hp
def okR (m : Nat) (r : Rule) : Prop := (r.left.length = 1 ∧ isName r.left = true) ∧ r.alts.length ≤ m ∧ ∀ a ∈ r.alts, okA a
theorem okR_mono {m n : Nat} {r : Rule} (h : okR m r) (hmn : m ≤ n) : okR n r := ⟨h.1, by have := h.2.1; omega, h.2.2⟩
theorem addAlt_ok {a : Alt} (ha : okA a) {m : Nat} : ∀ (k : Nat) (l : List Rule), (∀ r ∈ l, okR m r) → ∀ r ∈ addAlt a k l, okR (m + 1) r
  | _, [], _, r, hr => by simp [addAlt] at hr
  | 0, e :: l, h, r, hr => by
    simp only [addAlt] at hr
    rcases List.mem_cons.1 hr with rfl | hr
    · obtain ⟨h1, h2, h3⟩ := h e (by simp)
      refine ⟨h1, by show (e.alts ++ [a]).length ≤ m + 1; simp; omega, fun b hb => ?_⟩
      rcases List.mem_append.1 hb with hb | hb
      · exact h3 b hb
      · rw [List.mem_singleton] at hb; rw [hb]; exact ha
    · exact okR_mono (h r (by simp [hr])) (Nat.le_succ m)
  | k + 1, e :: l, h, r, hr => by
    simp only [addAlt] at hr
    rcases List.mem_cons.1 hr with rfl | hr
    · exact okR_mono (h r (by simp)) (Nat.le_succ m)
    · exact addAlt_ok ha k l (fun x hx => h x (by simp [hx])) r hr
theorem addAlt_len (a : Alt) : ∀ (k : Nat) (l : List Rule), (addAlt a k l).length = l.length
  | k, [] => by cases k <;> rfl
  | 0, _ :: _ => rfl
  | k + 1, e :: l => by simp [addAlt, addAlt_len a k l]
theorem rulesGo_ok (nons : Int) (inner : List Int) (h1 : 1 ≤ nons) (h4 : nons ≤ 4) : ∀ (l : List (List Int)) (i : Nat) (s : List Rule × List Bool) (m : Nat), (∀ r ∈ s.1, okR m r) → (∀ r ∈ (rulesGo nons inner i l s).1, okR (m + l.length) r) ∧ (rulesGo nons inner i l s).1.length = s.1.length
  | [], i, s, m, h => ⟨h, rfl⟩
  | [] :: l, i, s, m, h => by
    have ih := rulesGo_ok nons inner h1 h4 l (i + 1) s m h
    unfold rulesGo
    exact ⟨fun r hr => okR_mono (ih.1 r hr) (by simp), ih.2⟩
  | (x :: t) :: l, i, s, m, h => by
    have ih := rulesGo_ok nons inner h1 h4 l (i + 1) (addAlt (altOf nons inner[i]? (x :: t)) (within x nons).toNat s.1, s.2.set (within x nons).toNat (s.2.getD (within x nons).toNat false || plainRow nons (x :: t))) (m + 1) (addAlt_ok (altOf_ok nons _ _ h1 h4) _ _ h)
    unfold rulesGo
    refine ⟨fun r hr => okR_mono (ih.1 r hr) (by simp; omega), ?_⟩
    rw [ih.2]
    exact addAlt_len _ _ _
theorem fillGo_ok (bare : Bool) {m : Nat} : ∀ (l : List Rule) (i : Nat) (has : List Bool), (∀ r ∈ l, okR m r) → ∀ r ∈ fillGo bare i l has, okR (m + 1) r ∧ r.alts ≠ []
  | [], i, has, _, r, hr => by simp [fillGo] at hr
  | e :: l, i, has, h, r, hr => by
    unfold fillGo at hr
    rcases List.mem_cons.1 hr with rfl | hr
    · obtain ⟨h1, h2, h3⟩ := h e (by simp)
      split
      · refine ⟨⟨h1, by show (e.alts ++ [_]).length ≤ m + 1; simp; omega, fun b hb => ?_⟩, by simp⟩
        rcases List.mem_append.1 hb with hb | hb
        · exact h3 b hb
        · rw [List.mem_singleton] at hb
          rw [hb]
          have hl := lit_ok (i : Int) (by omega)
          refine ⟨rfl, by simp, fun p hp => ?_⟩
          rw [List.mem_singleton] at hp
          rw [hp]
          refine ⟨?_, by have := hl.2; show (litS i).name.length ≤ 5; omega, rfl, by simp⟩
          unfold mayPart isBare
          rw [if_pos rfl, hl.1]; rfl
      · rename_i hn
        refine ⟨⟨h1, by omega, h3⟩, fun e0 => hn (.inl (by rw [e0]; rfl))⟩
    · exact fillGo_ok bare l (i + 1) has.tail (fun x hx => h x (by simp [hx])) r hr
theorem fillGo_len (bare : Bool) : ∀ (l : List Rule) (i : Nat) (has : List Bool), (fillGo bare i l has).length = l.length
  | [], _, _ => rfl
  | e :: l, i, has => by simp [fillGo, fillGo_len bare l (i + 1) has.tail]
theorem startRules_ok (n : Nat) (h : n ≤ 4) : ∀ r ∈ startRules n, okR 0 r := by
  intro r hr
  unfold startRules at hr
  simp only [List.mem_map, List.mem_range] at hr
  obtain ⟨i, hi, rfl⟩ := hr
  exact ⟨⟨rfl, nonN_name _ (by omega) (by omega)⟩, by simp, by simp⟩
theorem grRules_ok (x : Gr) : (∀ r ∈ (grSource x).rules, okR 10 r ∧ r.alts ≠ []) ∧ (grSource x).rules.length = nonsOf x := by
  obtain ⟨n1, n4⟩ := nons_range x
  have h := rulesGo_ok (nonsOf x) x.inner (by omega) (by omega) (x.rules.take 9) 0 (startRules (nonsOf x), List.replicate (nonsOf x) false) 0 (startRules_ok _ n4)
  have hl : (x.rules.take 9).length ≤ 9 := by simp; omega
  refine ⟨fun r hr => ?_, ?_⟩
  · have k := fillGo_ok x.bare (m := 9) _ 0 _ (fun r hr => okR_mono (h.1 r hr) (by omega)) r hr
    exact k
  · show (fillGo x.bare 0 _ _).length = _
    rw [fillGo_len, h.2]
    unfold startRules; simp
theorem okA_may {a : Alt} (h : okA a) : mayAlt a = true := by
  obtain ⟨h1, _, h3⟩ := h
  unfold mayAlt
  rw [h1, Bool.and_eq_true, List.all_eq_true]
  exact ⟨rfl, fun p hp => (h3 p hp).1⟩
theorem grSource_may (x : Gr) : may (grSource x) = true := by
  obtain ⟨h1, h2⟩ := grRules_ok x
  have hn := nons_range x
  unfold may
  simp only [Bool.and_eq_true, List.all_eq_true, Bool.not_eq_true', decide_eq_false_iff_not, decide_eq_true_eq]
  refine ⟨⟨⟨by show ¬ (0 ≤ index [] [37, 125]); decide, by omega⟩, fun d hd => okD_may (declsGo_ok 0 _ [] (by simp) d hd)⟩, fun r hr => ?_⟩
  obtain ⟨⟨⟨_, a⟩, _, c⟩, d⟩ := h1 r hr
  unfold mayRule
  simp only [Bool.and_eq_true, List.all_eq_true, decide_eq_true_eq]
  exact ⟨⟨a, by cases hq : r.alts with | nil => exact absurd hq d | cons => simp⟩, fun a ha => okA_may (c a ha)⟩
end Sp
open Sp
theorem declsGo_small : ∀ (i : Nat) (l : List Int) (out : List Sp.Decl) (m k : Nat), out.length ≤ m → (∀ d ∈ out, d.syms.length ≤ k) → (Sp.declsGo i l out).length ≤ m + l.length ∧ ∀ d ∈ Sp.declsGo i l out, d.syms.length ≤ k + l.length + 1
  | _, [], out, m, k, h1, h2 => ⟨h1, fun d hd => by have := h2 d hd; simp [Sp.declsGo] at *; omega⟩
  | i, x :: l, out, m, k, h1, h2 => by
    have add : ∀ l : List Sp.Decl, (∀ d ∈ l, d.syms.length ≤ k) → (Sp.addLast (Sp.litS i) l).length = l.length ∧ ∀ d ∈ Sp.addLast (Sp.litS i) l, d.syms.length ≤ k + 1 := by
      intro l
      induction l with
      | nil => intro _; exact ⟨rfl, by simp [Sp.addLast]⟩
      | cons d l ih =>
        intro h
        cases l with
        | nil =>
          refine ⟨rfl, fun e he => ?_⟩
          simp only [Sp.addLast, List.mem_singleton] at he
          subst he
          have := h d (by simp)
          simp; omega
        | cons e l =>
          obtain ⟨a, b⟩ := ih (fun x hx => h x (by simp [hx]))
          unfold Sp.addLast
          refine ⟨by rw [List.length_cons, a]; rfl, fun f hf => ?_⟩
          rcases List.mem_cons.1 hf with rfl | hf
          · have := h f (by simp); omega
          · exact b f hf
    have step : (Sp.declStep i x out).length ≤ m + 1 ∧ ∀ d ∈ Sp.declStep i x out, d.syms.length ≤ k + 1 := by
      unfold Sp.declStep
      split
      · exact ⟨by omega, fun d hd => by have := h2 d hd; omega⟩
      · split
        · obtain ⟨a, b⟩ := add out h2
          exact ⟨by omega, b⟩
        · refine ⟨by simp; omega, fun d hd => ?_⟩
          rcases List.mem_append.1 hd with hd | hd
          · have := h2 d hd; omega
          · rw [List.mem_singleton] at hd; rw [hd]; simp
    obtain ⟨a, b⟩ := declsGo_small (i + 1) l (Sp.declStep i x out) (m + 1) (k + 1) step.1 step.2
    unfold Sp.declsGo
    exact ⟨by simp; omega, fun d hd => by have := b d hd; simp; omega⟩
theorem i64ok_zero : i64ok 0 := by unfold i64ok; omega
theorem grSource_tiny (x : Sp.Gr) : tinySrc (Sp.grSource x) := by
  obtain ⟨h1, h2⟩ := Sp.grRules_ok x
  have hn := Sp.nons_range x
  have hd := declsGo_small 0 (x.levels.take 4) [] 0 0 (by simp) (by simp)
  have hl : (x.levels.take 4).length ≤ 4 := by simp; omega
  refine ⟨by simp [Sp.grSource], by simp [Sp.grSource], by show (Sp.declsOf x.levels).length ≤ 20; unfold Sp.declsOf; omega, by omega, fun d hd' => ?_, fun r hr => ?_⟩
  · have hk := Sp.declsGo_ok 0 (x.levels.take 4) [] (by simp) d hd'
    obtain ⟨_, _, t, _, s⟩ := hk
    refine ⟨by rw [t]; simp, by have := hd.2 d hd'; omega, fun s' hs' => ?_⟩
    obtain ⟨_, a, b⟩ := s s' hs'
    exact ⟨by omega, by rw [a]; exact i64ok_zero⟩
  · obtain ⟨⟨⟨a, _⟩, b, c⟩, _⟩ := h1 r hr
    refine ⟨by omega, by omega, fun al hal => ?_⟩
    obtain ⟨p1, p2, p3⟩ := c al hal
    refine ⟨by omega, fun p hp => ?_, ?_⟩
    · obtain ⟨_, q2, q3, q4⟩ := p3 p hp
      exact ⟨⟨by omega, by rw [q3]; exact i64ok_zero⟩, by omega⟩
    · rw [p1]; exact ⟨by decide, i64ok_zero⟩
end Go.Proofs.YthmimcegiihcnaaDoor
