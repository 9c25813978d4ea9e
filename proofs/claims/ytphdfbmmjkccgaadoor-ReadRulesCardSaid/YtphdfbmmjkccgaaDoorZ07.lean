/- Maps of the call's own: what a block of entries answers, for elements of any type. Plain functions: a grammar out of a source (gram.Of), as a machine that stops at the first fault; no program in sight. Layer 8, the reference: are two sources the same. The maker of a grammar (gram.maker), as it lies; its small functions. gram's maker: taken, clash. A region that draws its order, whose LAST operation may break the condition that its loads stand on: Derived/OrdersHeld.lean's law with one operation excepted. A region that draws its order, walked once along a plan: what only reads is taken first, whatever else comes up alone. gram's maker: what a call changes; named. Layer 8: the walks of print.word, declared, ruled. As Ks, with one kind of step more: what asks nothing of the world (a move, an address) is taken first whatever may break S later. gram's maker: parts. gram's maker: productions more, nonterminals more, what lies aside. gram's maker: what stands while an alternative's productions are made. gram's maker: alt. gram's maker: prods. -/
import Derived.Maps.Own
import Derived.Maps.Views
import Derived.DeepKeys4
import Derived.Test.YtphdfbmmjkccgaaDoorZ02
import Derived.Test.YtphdfbmmjkccgaaDoorZ03
import Derived.BigQuiet
import Derived.Deep.QuietTactic
import Derived.Deep.RegionHeld3
import Derived.Deep.DeepCutAuto
import Derived.Deep.LoopGhost
import Derived.Test.YtphdfbmmjkccgaaDoorZ06
import Derived.Test.YtphdfbmmjkccgaaDoorZ00
import Derived.Laws.OwnMore
import Derived.OrdersHeld
import Derived.StillTail
import Derived.Deep.OwnRows
import Derived.Deep.RegionHeld
import Derived.Deep.AppendLies
import Derived.Deep.CutBlock
import Derived.Lib.ItoaLen
import Derived.Laws.AppendOwnNone
namespace Go.Proofs.YtphdfbmmjkccgaaDoor
open Go.RowKit Go.Maps

/-- An element stands for itself. -/
def heldR (v : Value) : Option (DataW Value × List MemPlace) := some (.held v, [])
/-- Block b is a map of at most n entries that answers L. -/
def MapIs (P : Program) (k : TypeId) (w : World) (b n : Nat) (L : Value → Option Value) : Prop :=
  ∃ D : DataW Value, w.ownsMap P k heldR b n D ∧ ∀ key kl, keyOf P k key = some kl → ∀ z, D.atKey kl z = (match L key with | some v => .held v | none => z)
section
variable {P : Program} {k : TypeId} {w w' : World} {b n : Nat} {L : Value → Option Value}
theorem MapIs.block (h : MapIs P k w b n L) (hb : w'.heap[b]? = w.heap[b]?) : MapIs P k w' b n L := by
  obtain ⟨D, ⟨es, c, h1, h2⟩, h3⟩ := h
  exact ⟨D, ⟨es, c, hb.trans h1, h2⟩, h3⟩
theorem MapIs.lt (h : MapIs P k w b n L) : b < w.heap.size := by
  obtain ⟨D, h1, _⟩ := h
  exact h1.lt
theorem MapIs.mono (h : MapIs P k w b n L) {m : Nat} (hn : n ≤ m) : MapIs P k w b m L := by
  obtain ⟨D, h1, h2⟩ := h
  exact ⟨D, h1.mono hn, h2⟩
theorem MapIs.made (P : Program) (k : TypeId) (w : World) : MapIs P k (w.alloc (.map #[] 0)) w.heap.size 0 (fun _ => none) :=
  ⟨.map [], World.ownsMap_made w P k heldR, fun _ _ _ _ => rfl⟩
end
end Go.Proofs.YtphdfbmmjkccgaaDoor

namespace Go.Proofs.YtphdfbmmjkccgaaDoor
namespace Sp

structure Tok where
  name : List UInt8
  lit : Bool
  num : Int
  level : Int
  assoc : Int
  tag : List UInt8
deriving DecidableEq
structure Non where
  name : List UInt8
  tag : List UInt8
deriving DecidableEq
structure Prod where
  left : Int
  right : List Int
  prec : Int
  code : List UInt8
  args : List Int
  at_ : Int
deriving DecidableEq
structure Gram where
  toks : List Tok
  nons : List Non
  prods : List Prod
  pro : List UInt8
  tail : List UInt8
deriving DecidableEq
structure Mk where
  toks : List Tok
  given : List Bool
  lefts : List (List UInt8)
  nons : List Non
  prods : List Prod
  types : List (List UInt8 × List UInt8)
  start : List UInt8
def takenGo (num but : Int) : Nat → List Tok → List Bool → Bool
  | i, t :: ts, g :: gs => ((decide ((i : Int) ≠ but) && g) && (t.num == num)) || takenGo num but (i + 1) ts gs
  | _, _, _ => false
/-- Has another token the number by declaration? -/
def taken (s : Mk) (num but : Int) : Bool := takenGo num but 3 (s.toks.drop 3) (s.given.drop 3)
/-- What stops: the symbol's name and place. -/
abbrev Stop := List UInt8 × Int
/-- A fault: what kind, where, of which name. -/
structure Fault where
  err : Int
  at_ : Int
  name : List UInt8
deriving DecidableEq
/-! ### Laws -/
end Sp
end Go.Proofs.YtphdfbmmjkccgaaDoor

namespace Go.Proofs.YtphdfbmmjkccgaaDoor
namespace Sp
end Sp
open Go.RowKit

theorem heap_sec (w : World) (o1 o2 : Obj) : ((w.alloc o1).alloc o2).heap[w.heap.size + 1]? = some o2 := by
  have h := heap_last (w.alloc o1) o2
  rw [World.size_alloc] at h
  exact h
end Go.Proofs.YtphdfbmmjkccgaaDoor

namespace Go.Proofs.YtphdfbmmjkccgaaDoor
open Go.RowKit Go.Maps

/-! ### How it lies -/
def tokC (t : Sp.Tok) : List Value := [.string ⟨t.name.toArray⟩, .bool t.lit, .int .i64 t.num, .int .i64 t.level, .int .i64 t.assoc, .string ⟨t.tag.toArray⟩]
def nonC (n : Sp.Non) : List Value := [.string ⟨n.name.toArray⟩, .string ⟨n.tag.toArray⟩]
def prodC (r a : Value) (p : Sp.Prod) : List Value := [.int .i64 p.left, r, .int .i64 p.prec, .string ⟨p.code.toArray⟩, a, .int .i64 p.at_]
def intsC (l : List Int) : List Value := l.map (Value.int .i64)
/-- Productions, each with rows of its own. -/
def ProdsOwn (B : Nat) (w : World) (v : Value) (l : List Sp.Prod) : Prop :=
  ∃ f g : Nat → Value, w.ownsRow B 84 6 v l.length (l.mapIdx fun i p => prodC (f i) (g i) p).flatten ∧
    ∀ (i : Nat) (p : Sp.Prod), l[i]? = some p → (∃ b, w.ownsRow b 3 1 (f i) p.right.length (intsC p.right)) ∧ ∃ b, w.ownsRow b 3 1 (g i) p.args.length (intsC p.args)
/-- The fields that point. -/
structure MkV where
  dv : Value
  rv : Value
  tv : Value
  nv : Value
  pv : Value
  gv : Value
  bt : Nat
  bn : Nat
  by_ : Nat
end Go.Proofs.YtphdfbmmjkccgaaDoor

namespace Go.Proofs.YtphdfbmmjkccgaaDoor
open Go.RowKit Go.Maps

theorem row_cell {w : World} {B e size g n cap : Nat} {α : Type} {row : α → List Value} {l : List α} (ho : w.ownsRow B e size (.slice (some ⟨g, 0, none⟩) n cap) n (l.map row).flatten) (hr : ∀ a, (row a).length = size) {k : Nat} {a : α} (hk : l[k]? = some a) (hkn : k < n) {j : Nat} {u : Value} (hj : (row a)[j]? = some u) :
    w.cell? ⟨g, k * size + j, none⟩ = some u := by
  have hjs : j < size := by rw [← hr a]; exact (List.getElem?_eq_some_iff.1 hj).1
  rw [ho.cellAt (k * size + j) (by
    have := Nat.mul_le_mul_right size (show k + 1 ≤ n from hkn)
    rw [Nat.succ_mul] at this; omega)]
  refine flatten_at size _ (fun r hr' => ?_) k (row a) (by rw [List.getElem?_map, hk]; rfl) j u hj
  obtain ⟨b, _, rfl⟩ := List.mem_map.1 hr'
  exact hr b
end Go.Proofs.YtphdfbmmjkccgaaDoor

namespace Go.Proofs.YtphdfbmmjkccgaaDoor
open Go.RowKit

section
variable {P : Program} {ops : Array Oper} {Q : Exit → Act → World → Prop} {md : Region.Mode} {S : World → Prop} {last : Nat}

/-- Does j wait for i, by way of others too? -/
def reachB (md : Region.Mode) (ops : Array Oper) : Nat → Nat → Nat → Bool
  | 0, _, _ => false
  | f + 1, j, i => match ops[j]? with
    | some oj => oj.after.any fun e => Region.binds md e && (e.on == i || reachB md ops f e.on i)
    | none => false
/-- What is listed has all listed that it waits for. -/
def Closed (md : Region.Mode) (ops : Array Oper) (listed : Array Bool) : Prop :=
  ∀ j oj, ops[j]? = some oj → listed.getD j false = true → ∀ e ∈ oj.after, Region.binds md e = true → listed.getD e.on false = true
theorem Closed.start (n : Nat) : Closed md ops (Array.replicate n false) := fun j oj _ hl => by rw [getD_replicate_false] at hl; cases hl
theorem Closed.set {listed : Array Bool} (h : Closed md ops listed) {i : Nat} (hi : i ∈ Region.ready md ops listed) : Closed md ops (listed.setIfInBounds i true) := by
  obtain ⟨_, oi, hoi, hall⟩ := mem_ready.1 hi
  intro j oj hj hl e he hb
  by_cases hij : i = j
  · subst hij
    have : oj = oi := Option.some.inj (hj.symm.trans hoi)
    subst this
    exact getD_set_true (hall e he hb)
  · rw [getD_set_ne false hij] at hl
    exact getD_set_true (h j oj hj hl e he hb)
theorem reach_listed {listed : Array Bool} (h : Closed md ops listed) {i : Nat} : ∀ (f j : Nat), reachB md ops f j i = true → listed.getD j false = true → listed.getD i false = true
  | 0, _, hr, _ => by cases hr
  | f + 1, j, hr, hl => by
    unfold reachB at hr
    split at hr
    · rename_i oj hoj
      obtain ⟨e, he, hb⟩ := Array.any_eq_true'.1 hr
      simp only [Bool.and_eq_true, Bool.or_eq_true, beq_iff_eq] at hb
      have h1 := h j oj hoj hl e he hb.1
      rcases hb.2 with h2 | h2
      · rw [h2] at h1; exact h1
      · exact reach_listed h f e.on h2 h1
    · cases hr
theorem reach_ready {listed : Array Bool} (h : Closed md ops listed) {f i j : Nat} (hr : reachB md ops f j i = true) (hun : listed.getD i true = false) : j ∉ Region.ready md ops listed := by
  intro hj
  obtain ⟨_, oj, hoj, hall⟩ := mem_ready.1 hj
  cases f with
  | zero => cases hr
  | succ f =>
    unfold reachB at hr
    rw [hoj] at hr
    obtain ⟨e, he, hb⟩ := Array.any_eq_true'.1 hr
    simp only [Bool.and_eq_true, Bool.or_eq_true, beq_iff_eq] at hb
    have h1 := hall e he hb.1
    have h3 : listed.getD i false = true := by
      rcases hb.2 with h2 | h2
      · rw [← h2]; exact h1
      · exact reach_listed h f e.on h2 h1
    rw [getD_both hun] at h3
    cases h3

end
end Go.Proofs.YtphdfbmmjkccgaaDoor

namespace Go.Proofs.YtphdfbmmjkccgaaDoor
open Go.RowKit

section
variable {P : Program} {ops : Array Oper} {Q : Exit → Act → World → Prop} {md : Region.Mode} {S : World → Prop} {brk : Nat → Bool}

/-- Whatever order is picked from here on; S holds behind every operation that is no 'brk'. -/
def wpAnyS (P : Program) (md : Region.Mode) (ops : Array Oper) (Q : Exit → Act → World → Prop) (S : World → Prop) (brk : Nat → Bool) : Nat → Array Bool → Act → World → Prop
  | 0, listed, a, w => Region.ready md ops listed = [] ∧ Q .normal a w
  | fuel + 1, listed, a, w =>
    (Region.ready md ops listed = [] → Q .normal a w) ∧
    ∀ i ∈ Region.ready md ops listed, wpOp P ops Q i (fun a' w' => (brk i = true ∨ S w') ∧ wpAnyS P md ops Q S brk fuel (listed.setIfInBounds i true) a' w') a w

theorem wpAny_of_S : ∀ (fuel : Nat) (listed : Array Bool) (a : Act) (w : World), wpAnyS P md ops Q S brk fuel listed a w → wpAny P md ops Q fuel listed a w
  | 0, _, _, _, h => h
  | fuel + 1, _, _, _, h => ⟨h.1, fun i hi => wpOp_mono (fun a' w' h' => wpAny_of_S fuel _ a' w' h'.2) (h.2 i hi)⟩

theorem wpAnyS_first {i f0 : Nat} {oi : Oper} {v : Value} (hi : ops[i]? = some oi) (hsel : ∀ (j : Nat) (o : Oper) cs b, ops[j]? = some o → o.op ≠ .select cs b)
    (hQ : ∀ c a w, Q (.panic c) (a.put oi.dst v) w → Q (.panic c) a w) (hbrk : ∀ j, brk j = true → reachB md ops f0 j i = true) (hib : brk i = false) :
    ∀ (fuel : Nat) (listed : Array Bool) (a : Act) (w : World), Closed md ops listed →
      (∀ j oj, ops[j]? = some oj → j ≠ i → listed.getD j true = false → (∀ e ∈ oj.after, Region.binds md e = true → e.on ≠ i) → oi.apart ops oj = true) →
      i ∈ Region.ready md ops listed → YieldsIf P ops S oi v a → S w →
      wpAnyS P md ops Q S brk fuel (listed.setIfInBounds i true) (a.put oi.dst v) w → wpAnyS P md ops Q S brk (fuel + 1) listed a w := by
  intro fuel
  induction fuel with
  | zero =>
    intro listed a w _ _ hr hy hS H
    refine ⟨fun h => (by rw [h] at hr; cases hr), fun j hj => ?_⟩
    by_cases hji : j = i
    · subst hji; exact hy.wpOp hi hS ⟨.inr hS, H⟩
    · have := ready_mono hj hji
      rw [H.1] at this
      cases this
  | succ fuel ih =>
    intro listed a w hcl hfree hr hy hS H
    refine ⟨fun h => (by rw [h] at hr; cases hr), fun j hj => ?_⟩
    by_cases hji : j = i
    · subst hji; exact hy.wpOp hi hS ⟨.inr hS, H⟩
    · have hjl : ¬ brk j = true := fun e => reach_ready hcl (hbrk j e) (mem_ready.1 hr).1 hj
      have h1 := H.2 j (ready_mono hj hji)
      obtain ⟨hjun, oj, hoj, hall⟩ := mem_ready.1 hj
      have hnot : ∀ e ∈ oj.after, Region.binds md e = true → e.on ≠ i := fun e he hb heq => by
        have h1 := hall e he hb
        have h0 := (mem_ready.1 hr).1
        rw [heq, getD_both h0] at h1
        cases h1
      have h1' := wpOp_mono (K' := fun a' w' => S w' ∧ wpAnyS P md ops Q S brk fuel ((listed.setIfInBounds i true).setIfInBounds j true) a' w') (fun a' w' h3 => ⟨h3.1.resolve_left hjl, h3.2⟩) h1
      have h2 := wpOp_putIf hoj (hfree j oj hoj hji hjun hnot) (fun cs b => hsel i oi cs b hi) (fun cs b => hsel j oj cs b hoj) hQ hy h1'
      have hfree' : ∀ k ok, ops[k]? = some ok → k ≠ i → (listed.setIfInBounds j true).getD k true = false →
          (∀ e ∈ ok.after, Region.binds md e = true → e.on ≠ i) → oi.apart ops ok = true := fun k ok hk hki hun hno => by
        refine hfree k ok hk hki ?_ hno
        by_cases hjk : j = k
        · subst hjk; exact hjun
        · rw [getD_set_ne true hjk] at hun; exact hun
      refine wpOp_mono (fun a' w' h3 => ⟨.inr h3.2.1, ih (listed.setIfInBounds j true) a' w' (hcl.set hj) hfree' (ready_mono hr (Ne.symm hji)) h3.1 h3.2.1 ?_⟩) h2
      rw [Array.setIfInBounds_comm _ _ hji]
      exact h3.2.2

/-- A plan: what is taken first, what comes up alone, what comes up beside one other. -/
inductive PT where
  | done
  | take (i : Nat) (t : PT)
  | one (i : Nat) (t : PT)
  | two (i j : Nat) (t u : PT)
def PT.len : PT → Nat
  | .done => 0
  | .take _ t => t.len + 1
  | .one _ t => t.len + 1
  | .two _ _ t _ => t.len + 1
/-- Does a plan fit? -/
def planB (md : Region.Mode) (ops : Array Oper) (brks : List Nat) : PT → Array Bool → Bool
  | .done, listed => (Region.ready md ops listed).isEmpty
  | .take i l, listed => (Region.ready md ops listed).contains i && Region.free md ops listed i && (!brks.contains i && brks.all fun j => reachB md ops ops.size j i) && planB md ops brks l (listed.setIfInBounds i true)
  | .one i l, listed => decide (Region.ready md ops listed = [i]) && planB md ops brks l (listed.setIfInBounds i true)
  | .two i j t u, listed => decide (Region.ready md ops listed = [i, j]) && decide (t.len = u.len) && planB md ops brks t (listed.setIfInBounds i true) && planB md ops brks u (listed.setIfInBounds j true)
def planA (md : Region.Mode) (ops : Array Oper) (brks : List Nat) (plan : PT) : Bool :=
  Region.noSelect ops && decide (plan.len = ops.size) && planB md ops brks plan (Array.replicate ops.size false)

/-- The walk along the plan. -/
def wpPlan (P : Program) (ops : Array Oper) (Q : Exit → Act → World → Prop) (S : World → Prop) (brks : List Nat) : PT → Act → World → Prop
  | .done, a, w => Q .normal a w
  | .take i l, a, w => S w ∧ ∃ o v, ops[i]? = some o ∧ YieldsIf P ops S o v a ∧ wpPlan P ops Q S brks l (a.put o.dst v) w
  | .one i l, a, w => wpOp P ops Q i (fun a' w' => (brks.contains i = true ∨ S w') ∧ wpPlan P ops Q S brks l a' w') a w
  | .two i j t u, a, w => wpOp P ops Q i (fun a' w' => (brks.contains i = true ∨ S w') ∧ wpPlan P ops Q S brks t a' w') a w ∧ wpOp P ops Q j (fun a' w' => (brks.contains j = true ∨ S w') ∧ wpPlan P ops Q S brks u a' w') a w

theorem put_panic (hQ : ∀ c (t : Array Value) (a : Act) w, Q (.panic c) ⟨t, a.defers⟩ w → Q (.panic c) a w) {c} {a : Act} {d : Option Tmp} {v : Value} {w : World} (h : Q (.panic c) (a.put d v) w) : Q (.panic c) a w := by
  cases d with
  | none => exact h
  | some d => exact hQ c _ a w h
theorem wpAnyS_plan {brks : List Nat} (hsel : Region.noSelect ops = true) (hQ : ∀ c (t : Array Value) (a : Act) w, Q (.panic c) ⟨t, a.defers⟩ w → Q (.panic c) a w) : ∀ (l : PT) (listed : Array Bool) (a : Act) (w : World),
    Closed md ops listed → planB md ops brks l listed = true → wpPlan P ops Q S brks l a w → wpAnyS P md ops Q S (fun j => brks.contains j) l.len listed a w
  | .done, listed, a, w, _, hB, h => ⟨by simpa [planB] using hB, h⟩
  | .take i l, listed, a, w, hcl, hB, h => by
    simp only [planB, Bool.and_eq_true] at hB
    obtain ⟨⟨⟨hr, hf⟩, hbi, hba⟩, hB'⟩ := hB
    obtain ⟨hS, o, v, ho, hy, hK⟩ := h
    have hr' : i ∈ Region.ready md ops listed := by simpa using hr
    refine wpAnyS_first (f0 := ops.size) ho (Region.noSelect_spec hsel) (fun c a w h => put_panic hQ h) (fun j hj => ?_) (by simpa using hbi) l.len listed a w hcl (Region.free_spec ho hf) hr' hy hS
      (wpAnyS_plan hsel hQ l _ _ _ (hcl.set hr') hB' hK)
    have := List.all_eq_true.1 hba j (by simpa using hj)
    exact this
  | .one i l, listed, a, w, hcl, hB, h => by
    simp only [planB, Bool.and_eq_true, decide_eq_true_eq] at hB
    obtain ⟨hr, hB'⟩ := hB
    refine ⟨fun h0 => (by rw [hr] at h0; cases h0), fun j hj => ?_⟩
    have hj' := hj
    rw [hr] at hj
    have hji : j = i := by simpa using hj
    subst hji
    exact wpOp_mono (fun a' w' h' => ⟨h'.1, wpAnyS_plan hsel hQ l _ _ _ (hcl.set hj') hB' h'.2⟩) h
  | .two i j t u, listed, a, w, hcl, hB, h => by
    simp only [planB, Bool.and_eq_true, decide_eq_true_eq] at hB
    obtain ⟨⟨⟨hr, hlen⟩, hB1⟩, hB2⟩ := hB
    refine ⟨fun h0 => (by rw [hr] at h0; cases h0), fun k hk => ?_⟩
    have hk' := hk
    rw [hr] at hk
    have hki : k = i ∨ k = j := by simpa using hk
    rcases hki with rfl | rfl
    · exact wpOp_mono (fun a' w' h' => ⟨h'.1, wpAnyS_plan hsel hQ t _ _ _ (hcl.set hk') hB1 h'.2⟩) h.1
    · refine wpOp_mono (fun a' w' h' => ⟨h'.1, ?_⟩) h.2
      have h2 := wpAnyS_plan hsel hQ u _ _ _ (hcl.set hk') hB2 h'.2
      rw [← hlen] at h2
      exact h2

/-- The beginning. -/
theorem wp_region_plan (S : World → Prop) (brks : List Nat) (plan : PT) {id : Nat} {a : Act} {w : World} (hm : P.follows .mixedOrders = true) (hA : planA .any ops brks plan = true)
    (hQ : ∀ c (t : Array Value) (a : Act) w, Q (.panic c) ⟨t, a.defers⟩ w → Q (.panic c) a w) (h : wpPlan P ops Q S brks plan a w.drew) : (Code.region id ops true).wp P Q a w := by
  simp only [planA, Bool.and_eq_true, decide_eq_true_eq] at hA
  obtain ⟨⟨hsel, hl⟩, hB⟩ := hA
  have H := wpAnyS_plan (md := .any) hsel hQ plan _ _ _ (Closed.start _) hB h
  rw [hl] at H
  exact wp_region_any hm (wpAny_of_S _ _ _ _ H)

/-- One taken first. -/
theorem wpPlan_take {brks : List Nat} {i : Nat} {o : Oper} {v : Value} {l : PT} {a : Act} {w : World} (ho : ops[i]? = some o) (hS : S w)
    (hw : Region.wanted o (yielded ops a.tmps) = true) (hy : ∀ w, S w → (execOp a.eval o).run P w = .ok (.value v) w) (h : wpPlan P ops Q S brks l (a.put o.dst v) w) : wpPlan P ops Q S brks (.take i l) a w :=
  ⟨hS, o, v, ho, .inl ⟨hw, hy⟩, h⟩
/-- One whose guard says no, taken first. -/
theorem wpPlan_none {brks : List Nat} {i : Nat} {o : Oper} {l : PT} {a : Act} {w : World} (ho : ops[i]? = some o) (hS : S w)
    (hw : Region.wanted o (yielded ops a.tmps) = false) (h : wpPlan P ops Q S brks l (a.put o.dst undef) w) : wpPlan P ops Q S brks (.take i l) a w :=
  ⟨hS, o, undef, ho, .inr ⟨hw, rfl⟩, h⟩
/-- One that comes up alone. -/
theorem wpPlan_run {brks : List Nat} {i : Nat} {o : Oper} {l : PT} {a : Act} {w : World} (ho : ops[i]? = some o) (hw : Region.wanted o (yielded ops a.tmps) = true)
    (h : ∀ K' : Act → World → Prop, (∀ a w, (brks.contains i = true ∨ S w) → wpPlan P ops Q S brks l a w → K' a w) → Oper.wp P o a w K' Q) : wpPlan P ops Q S brks (.one i l) a w := by
  show wpOp P ops Q i _ a w
  unfold wpOp
  simp only [ho, hw, if_true]
  exact .inl (h _ (fun a w hS hW => ⟨hS, hW⟩))
/-- The same two, the slot told. -/
theorem put_some {a : Act} {o : Oper} {d : Tmp} {v : Value} (hd : o.dst = some d) : a.put o.dst v = ⟨a.tmps.setIfInBounds d v, a.defers⟩ := by rw [hd]; rfl
theorem wpPlan_takeD {brks : List Nat} {i d : Nat} {o : Oper} {v : Value} {l : PT} {a : Act} {w : World} (ho : ops[i]? = some o) (hd : o.dst = some d) (hS : S w)
    (hw : Region.wanted o (yielded ops a.tmps) = true) (hy : ∀ w, S w → (execOp a.eval o).run P w = .ok (.value v) w) (h : wpPlan P ops Q S brks l ⟨a.tmps.setIfInBounds d v, a.defers⟩ w) : wpPlan P ops Q S brks (.take i l) a w :=
  wpPlan_take ho hS hw hy (by rw [put_some hd]; exact h)
theorem wpPlan_noneD {brks : List Nat} {i d : Nat} {o : Oper} {l : PT} {a : Act} {w : World} (ho : ops[i]? = some o) (hd : o.dst = some d) (hS : S w)
    (hw : Region.wanted o (yielded ops a.tmps) = false) (h : wpPlan P ops Q S brks l ⟨a.tmps.setIfInBounds d undef, a.defers⟩ w) : wpPlan P ops Q S brks (.take i l) a w :=
  wpPlan_none ho hS hw (by rw [put_some hd]; exact h)
/-- Two that come up together: either goes first. -/
theorem wpPlan_two {brks : List Nat} {i j : Nat} {t u : PT} {a : Act} {w : World} (h1 : wpPlan P ops Q S brks (.one i t) a w) (h2 : wpPlan P ops Q S brks (.one j u) a w) : wpPlan P ops Q S brks (.two i j t u) a w := ⟨h1, h2⟩
theorem wpPlan_done {brks : List Nat} {a : Act} {w : World} (h : Q .normal a w) : wpPlan P ops Q S brks .done a w := h
end
end Go.Proofs.YtphdfbmmjkccgaaDoor

namespace Go.Proofs.YtphdfbmmjkccgaaDoor
open Go.RowKit Go.Maps

/-- The maker's own blocks. -/
def mkBlocks (m : Nat) (v : MkV) (b : Nat) : Prop := b = m ∨ v.tv.ownBlock = some b ∨ v.nv.ownBlock = some b ∨ v.pv.ownBlock = some b ∨ v.gv.ownBlock = some b ∨ b = v.bt ∨ b = v.bn ∨ b = v.by_
/-- What a call of the maker's may change: its own blocks alone; what is new lies behind. -/
structure MkFr (m : Nat) (v v' : MkV) (W w' : World) : Prop where
  kp : Kp (fun b => ¬ mkBlocks m v b) W w'
  new : ∀ b, mkBlocks m v' b → mkBlocks m v b ∨ W.heap.size ≤ b
theorem MkFr.trans {m : Nat} {v v1 v2 : MkV} {W w1 w2 : World} (h : MkFr m v v1 W w1) (k : MkFr m v1 v2 w1 w2) : MkFr m v v2 W w2 := by
  refine ⟨⟨k.kp.os.trans h.kp.os, k.kp.tape.trans h.kp.tape, k.kp.output.trans h.kp.output, Nat.le_trans h.kp.size k.kp.size, fun b hb hn => ?_⟩, fun b hb => ?_⟩
  · refine (k.kp.block b (Nat.lt_of_lt_of_le hb h.kp.size) (fun h1 => ?_)).trans (h.kp.block b hb hn)
    rcases h.new b h1 with h2 | h2
    · exact hn h2
    · omega
  · rcases k.new b hb with h1 | h1
    · exact h.new b h1
    · right; exact Nat.le_trans h.kp.size h1
theorem MkFr.below {m : Nat} (v : MkV) {W w' : World} (h : Below W.heap.size W w') : MkFr m v v W w' := ⟨Kp.of_below h (fun _ hk _ => hk), fun _ h => .inl h⟩
theorem row_ne_cells {w : World} {B e size n : Nat} {v : Value} {xs : List Value} {b0 : Nat} {cs : Array Value} {t : TypeId} {fr : Nat × Nat} (h : w.ownsRow B e size v n xs) (hm : w.heap[b0]? = some (.cells cs t fr)) (ht : t ≠ e) : ∀ b, v.ownBlock = some b → b ≠ b0 := ownsRow_ne h hm ht
end Go.Proofs.YtphdfbmmjkccgaaDoor

namespace Go.Proofs.YtphdfbmmjkccgaaDoor
open Go.RowKit

theorem ownsRowS_some {w : World} {base : Nat} {e : TypeId} {size : Nat} {v : Value} {n : Nat} {xs : List Value} (h : w.ownsRow base e size v n xs) : ∃ a cap, v = .slice a n cap := by
  rcases h.2 with ⟨rfl, rfl⟩ | ⟨g, cap, cur, rfl, _⟩
  · exact ⟨_, _, rfl⟩
  · exact ⟨_, _, rfl⟩

/-! ### Declarations -/
end Go.Proofs.YtphdfbmmjkccgaaDoor

namespace Go.Proofs.YtphdfbmmjkccgaaDoor
open Go.RowKit

section
variable {P : Program} {ops : Array Oper} {Q : Exit → Act → World → Prop} {md : Region.Mode} {S : World → Prop} {brk : Nat → Bool}

/-- Whatever order is picked from here on; S holds behind every operation that is no 'brk'. -/
def wpAnyU (P : Program) (md : Region.Mode) (ops : Array Oper) (Q : Exit → Act → World → Prop) (S : World → Prop) (brk : Nat → Bool) : Nat → Array Bool → Act → World → Prop
  | 0, listed, a, w => Region.ready md ops listed = [] ∧ Q .normal a w
  | fuel + 1, listed, a, w =>
    (Region.ready md ops listed = [] → Q .normal a w) ∧
    ∀ i ∈ Region.ready md ops listed, wpOp P ops Q i (fun a' w' => (S w → brk i = true ∨ S w') ∧ wpAnyU P md ops Q S brk fuel (listed.setIfInBounds i true) a' w') a w

theorem wpAny_of_U : ∀ (fuel : Nat) (listed : Array Bool) (a : Act) (w : World), wpAnyU P md ops Q S brk fuel listed a w → wpAny P md ops Q fuel listed a w
  | 0, _, _, _, h => h
  | fuel + 1, _, _, _, h => ⟨h.1, fun i hi => wpOp_mono (fun a' w' h' => wpAny_of_U fuel _ a' w' h'.2) (h.2 i hi)⟩

theorem wpAnyU_first {i f0 : Nat} {oi : Oper} {v : Value} (hi : ops[i]? = some oi) (hsel : ∀ (j : Nat) (o : Oper) cs b, ops[j]? = some o → o.op ≠ .select cs b)
    (hQ : ∀ c a w, Q (.panic c) (a.put oi.dst v) w → Q (.panic c) a w) (hbrk : ∀ j, brk j = true → reachB md ops f0 j i = true) (hib : brk i = false) :
    ∀ (fuel : Nat) (listed : Array Bool) (a : Act) (w : World), Closed md ops listed →
      (∀ j oj, ops[j]? = some oj → j ≠ i → listed.getD j true = false → (∀ e ∈ oj.after, Region.binds md e = true → e.on ≠ i) → oi.apart ops oj = true) →
      i ∈ Region.ready md ops listed → YieldsIf P ops S oi v a → S w →
      wpAnyU P md ops Q S brk fuel (listed.setIfInBounds i true) (a.put oi.dst v) w → wpAnyU P md ops Q S brk (fuel + 1) listed a w := by
  intro fuel
  induction fuel with
  | zero =>
    intro listed a w _ _ hr hy hS H
    refine ⟨fun h => (by rw [h] at hr; cases hr), fun j hj => ?_⟩
    by_cases hji : j = i
    · subst hji; exact hy.wpOp hi hS ⟨fun _ => .inr hS, H⟩
    · have := ready_mono hj hji
      rw [H.1] at this
      cases this
  | succ fuel ih =>
    intro listed a w hcl hfree hr hy hS H
    refine ⟨fun h => (by rw [h] at hr; cases hr), fun j hj => ?_⟩
    by_cases hji : j = i
    · subst hji; exact hy.wpOp hi hS ⟨fun _ => .inr hS, H⟩
    · have hjl : ¬ brk j = true := fun e => reach_ready hcl (hbrk j e) (mem_ready.1 hr).1 hj
      have h1 := H.2 j (ready_mono hj hji)
      obtain ⟨hjun, oj, hoj, hall⟩ := mem_ready.1 hj
      have hnot : ∀ e ∈ oj.after, Region.binds md e = true → e.on ≠ i := fun e he hb heq => by
        have h1 := hall e he hb
        have h0 := (mem_ready.1 hr).1
        rw [heq, getD_both h0] at h1
        cases h1
      have h1' := wpOp_mono (K' := fun a' w' => S w' ∧ wpAnyU P md ops Q S brk fuel ((listed.setIfInBounds i true).setIfInBounds j true) a' w') (fun a' w' h3 => ⟨(h3.1 hS).resolve_left hjl, h3.2⟩) h1
      have h2 := wpOp_putIf hoj (hfree j oj hoj hji hjun hnot) (fun cs b => hsel i oi cs b hi) (fun cs b => hsel j oj cs b hoj) hQ hy h1'
      have hfree' : ∀ k ok, ops[k]? = some ok → k ≠ i → (listed.setIfInBounds j true).getD k true = false →
          (∀ e ∈ ok.after, Region.binds md e = true → e.on ≠ i) → oi.apart ops ok = true := fun k ok hk hki hun hno => by
        refine hfree k ok hk hki ?_ hno
        by_cases hjk : j = k
        · subst hjk; exact hjun
        · rw [getD_set_ne true hjk] at hun; exact hun
      refine wpOp_mono (fun a' w' h3 => ⟨fun _ => .inr h3.2.1, ih (listed.setIfInBounds j true) a' w' (hcl.set hj) hfree' (ready_mono hr (Ne.symm hji)) h3.1 h3.2.1 ?_⟩) h2
      rw [Array.setIfInBounds_comm _ _ hji]
      exact h3.2.2

theorem wpAnyU_free {i : Nat} {oi : Oper} {v : Value} (hi : ops[i]? = some oi) (hsel : ∀ (j : Nat) (o : Oper) cs b, ops[j]? = some o → o.op ≠ .select cs b)
    (hQ : ∀ c a w, Q (.panic c) (a.put oi.dst v) w → Q (.panic c) a w) :
    ∀ (fuel : Nat) (listed : Array Bool) (a : Act) (w : World), Closed md ops listed →
      (∀ j oj, ops[j]? = some oj → j ≠ i → listed.getD j true = false → (∀ e ∈ oj.after, Region.binds md e = true → e.on ≠ i) → oi.apart ops oj = true) →
      i ∈ Region.ready md ops listed → YieldsIf P ops (fun _ => True) oi v a →
      wpAnyU P md ops Q S brk fuel (listed.setIfInBounds i true) (a.put oi.dst v) w → wpAnyU P md ops Q S brk (fuel + 1) listed a w := by
  intro fuel
  induction fuel with
  | zero =>
    intro listed a w _ _ hr hy H
    refine ⟨fun h => (by rw [h] at hr; cases hr), fun j hj => ?_⟩
    by_cases hji : j = i
    · subst hji; exact hy.wpOp hi trivial ⟨fun hS => .inr hS, H⟩
    · have := ready_mono hj hji
      rw [H.1] at this
      cases this
  | succ fuel ih =>
    intro listed a w hcl hfree hr hy H
    refine ⟨fun h => (by rw [h] at hr; cases hr), fun j hj => ?_⟩
    by_cases hji : j = i
    · subst hji; exact hy.wpOp hi trivial ⟨fun hS => .inr hS, H⟩
    · have h1 := H.2 j (ready_mono hj hji)
      obtain ⟨hjun, oj, hoj, hall⟩ := mem_ready.1 hj
      have hnot : ∀ e ∈ oj.after, Region.binds md e = true → e.on ≠ i := fun e he hb heq => by
        have h1 := hall e he hb
        have h0 := (mem_ready.1 hr).1
        rw [heq, getD_both h0] at h1
        cases h1
      have h2 := wpOp_putIf hoj (hfree j oj hoj hji hjun hnot) (fun cs b => hsel i oi cs b hi) (fun cs b => hsel j oj cs b hoj) hQ hy h1
      have hfree' : ∀ k ok, ops[k]? = some ok → k ≠ i → (listed.setIfInBounds j true).getD k true = false →
          (∀ e ∈ ok.after, Region.binds md e = true → e.on ≠ i) → oi.apart ops ok = true := fun k ok hk hki hun hno => by
        refine hfree k ok hk hki ?_ hno
        by_cases hjk : j = k
        · subst hjk; exact hjun
        · rw [getD_set_ne true hjk] at hun; exact hun
      refine wpOp_mono (fun a' w' h3 => ⟨h3.2.1, ih (listed.setIfInBounds j true) a' w' (hcl.set hj) hfree' (ready_mono hr (Ne.symm hji)) h3.1 ?_⟩) h2
      rw [Array.setIfInBounds_comm _ _ hji]
      exact h3.2.2

/-- A plan: what is taken first, what comes up alone, what comes up beside one other. -/
inductive PU where
  | done
  | take (i : Nat) (t : PU)
  | free (i : Nat) (t : PU)
  | one (i : Nat) (t : PU)
  | two (i j : Nat) (t u : PU)
def PU.len : PU → Nat
  | .done => 0
  | .take _ t => t.len + 1
  | .free _ t => t.len + 1
  | .one _ t => t.len + 1
  | .two _ _ t _ => t.len + 1
/-- Does a plan fit? -/
def planU (md : Region.Mode) (ops : Array Oper) (brks : List Nat) : PU → Array Bool → Bool
  | .done, listed => (Region.ready md ops listed).isEmpty
  | .take i l, listed => (Region.ready md ops listed).contains i && Region.free md ops listed i && (!brks.contains i && brks.all fun j => reachB md ops ops.size j i) && planU md ops brks l (listed.setIfInBounds i true)
  | .free i l, listed => (Region.ready md ops listed).contains i && Region.free md ops listed i && planU md ops brks l (listed.setIfInBounds i true)
  | .one i l, listed => decide (Region.ready md ops listed = [i]) && planU md ops brks l (listed.setIfInBounds i true)
  | .two i j t u, listed => decide (Region.ready md ops listed = [i, j]) && decide (t.len = u.len) && planU md ops brks t (listed.setIfInBounds i true) && planU md ops brks u (listed.setIfInBounds j true)
def planV (md : Region.Mode) (ops : Array Oper) (brks : List Nat) (plan : PU) : Bool :=
  Region.noSelect ops && decide (plan.len = ops.size) && planU md ops brks plan (Array.replicate ops.size false)

/-- The walk along the plan. -/
def wpPlanU (P : Program) (ops : Array Oper) (Q : Exit → Act → World → Prop) (S : World → Prop) (brks : List Nat) : PU → Act → World → Prop
  | .done, a, w => Q .normal a w
  | .take i l, a, w => S w ∧ ∃ o v, ops[i]? = some o ∧ YieldsIf P ops S o v a ∧ wpPlanU P ops Q S brks l (a.put o.dst v) w
  | .free i l, a, w => ∃ o v, ops[i]? = some o ∧ YieldsIf P ops (fun _ => True) o v a ∧ wpPlanU P ops Q S brks l (a.put o.dst v) w
  | .one i l, a, w => wpOp P ops Q i (fun a' w' => (S w → brks.contains i = true ∨ S w') ∧ wpPlanU P ops Q S brks l a' w') a w
  | .two i j t u, a, w => wpOp P ops Q i (fun a' w' => (S w → brks.contains i = true ∨ S w') ∧ wpPlanU P ops Q S brks t a' w') a w ∧ wpOp P ops Q j (fun a' w' => (S w → brks.contains j = true ∨ S w') ∧ wpPlanU P ops Q S brks u a' w') a w

theorem put_panicU (hQ : ∀ c (t : Array Value) (a : Act) w, Q (.panic c) ⟨t, a.defers⟩ w → Q (.panic c) a w) {c} {a : Act} {d : Option Tmp} {v : Value} {w : World} (h : Q (.panic c) (a.put d v) w) : Q (.panic c) a w := by
  cases d with
  | none => exact h
  | some d => exact hQ c _ a w h
theorem wpAnyU_plan {brks : List Nat} (hsel : Region.noSelect ops = true) (hQ : ∀ c (t : Array Value) (a : Act) w, Q (.panic c) ⟨t, a.defers⟩ w → Q (.panic c) a w) : ∀ (l : PU) (listed : Array Bool) (a : Act) (w : World),
    Closed md ops listed → planU md ops brks l listed = true → wpPlanU P ops Q S brks l a w → wpAnyU P md ops Q S (fun j => brks.contains j) l.len listed a w
  | .done, listed, a, w, _, hB, h => ⟨by simpa [planU] using hB, h⟩
  | .take i l, listed, a, w, hcl, hB, h => by
    simp only [planU, Bool.and_eq_true] at hB
    obtain ⟨⟨⟨hr, hf⟩, hbi, hba⟩, hB'⟩ := hB
    obtain ⟨hS, o, v, ho, hy, hK⟩ := h
    have hr' : i ∈ Region.ready md ops listed := by simpa using hr
    refine wpAnyU_first (f0 := ops.size) ho (Region.noSelect_spec hsel) (fun c a w h => put_panicU hQ h) (fun j hj => ?_) (by simpa using hbi) l.len listed a w hcl (Region.free_spec ho hf) hr' hy hS
      (wpAnyU_plan hsel hQ l _ _ _ (hcl.set hr') hB' hK)
    have := List.all_eq_true.1 hba j (by simpa using hj)
    exact this
  | .free i l, listed, a, w, hcl, hB, h => by
    simp only [planU, Bool.and_eq_true] at hB
    obtain ⟨⟨hr, hf⟩, hB'⟩ := hB
    obtain ⟨o, v, ho, hy, hK⟩ := h
    have hr' : i ∈ Region.ready md ops listed := by simpa using hr
    exact wpAnyU_free ho (Region.noSelect_spec hsel) (fun c a w h => put_panicU hQ h) l.len listed a w hcl (Region.free_spec ho hf) hr' hy (wpAnyU_plan hsel hQ l _ _ _ (hcl.set hr') hB' hK)
  | .one i l, listed, a, w, hcl, hB, h => by
    simp only [planU, Bool.and_eq_true, decide_eq_true_eq] at hB
    obtain ⟨hr, hB'⟩ := hB
    refine ⟨fun h0 => (by rw [hr] at h0; cases h0), fun j hj => ?_⟩
    have hj' := hj
    rw [hr] at hj
    have hji : j = i := by simpa using hj
    subst hji
    exact wpOp_mono (fun a' w' h' => ⟨h'.1, wpAnyU_plan hsel hQ l _ _ _ (hcl.set hj') hB' h'.2⟩) h
  | .two i j t u, listed, a, w, hcl, hB, h => by
    simp only [planU, Bool.and_eq_true, decide_eq_true_eq] at hB
    obtain ⟨⟨⟨hr, hlen⟩, hB1⟩, hB2⟩ := hB
    refine ⟨fun h0 => (by rw [hr] at h0; cases h0), fun k hk => ?_⟩
    have hk' := hk
    rw [hr] at hk
    have hki : k = i ∨ k = j := by simpa using hk
    rcases hki with rfl | rfl
    · exact wpOp_mono (fun a' w' h' => ⟨h'.1, wpAnyU_plan hsel hQ t _ _ _ (hcl.set hk') hB1 h'.2⟩) h.1
    · refine wpOp_mono (fun a' w' h' => ⟨h'.1, ?_⟩) h.2
      have h2 := wpAnyU_plan hsel hQ u _ _ _ (hcl.set hk') hB2 h'.2
      rw [← hlen] at h2
      exact h2

/-- The beginning. -/
theorem wp_region_planU (S : World → Prop) (brks : List Nat) (plan : PU) {id : Nat} {a : Act} {w : World} (hm : P.follows .mixedOrders = true) (hA : planV .any ops brks plan = true)
    (hQ : ∀ c (t : Array Value) (a : Act) w, Q (.panic c) ⟨t, a.defers⟩ w → Q (.panic c) a w) (h : wpPlanU P ops Q S brks plan a w.drew) : (Code.region id ops true).wp P Q a w := by
  simp only [planV, Bool.and_eq_true, decide_eq_true_eq] at hA
  obtain ⟨⟨hsel, hl⟩, hB⟩ := hA
  have H := wpAnyU_plan (md := .any) hsel hQ plan _ _ _ (Closed.start _) hB h
  rw [hl] at H
  exact wp_region_any hm (wpAny_of_U _ _ _ _ H)

/-- One taken first. -/
theorem wpPlanU_take {brks : List Nat} {i : Nat} {o : Oper} {v : Value} {l : PU} {a : Act} {w : World} (ho : ops[i]? = some o) (hS : S w)
    (hw : Region.wanted o (yielded ops a.tmps) = true) (hy : ∀ w, S w → (execOp a.eval o).run P w = .ok (.value v) w) (h : wpPlanU P ops Q S brks l (a.put o.dst v) w) : wpPlanU P ops Q S brks (.take i l) a w :=
  ⟨hS, o, v, ho, .inl ⟨hw, hy⟩, h⟩
/-- One that asks nothing of the world. -/
theorem wpPlanU_free {brks : List Nat} {i : Nat} {o : Oper} {v : Value} {l : PU} {a : Act} {w : World} (ho : ops[i]? = some o)
    (hw : Region.wanted o (yielded ops a.tmps) = true) (hy : ∀ w : World, True → (execOp a.eval o).run P w = .ok (.value v) w) (h : wpPlanU P ops Q S brks l (a.put o.dst v) w) : wpPlanU P ops Q S brks (.free i l) a w :=
  ⟨o, v, ho, .inl ⟨hw, hy⟩, h⟩
/-- One that comes up alone. -/
theorem wpPlanU_run {brks : List Nat} {i : Nat} {o : Oper} {l : PU} {a : Act} {w : World} (ho : ops[i]? = some o) (hw : Region.wanted o (yielded ops a.tmps) = true)
    (h : ∀ K' : Act → World → Prop, (∀ a w, (brks.contains i = true ∨ S w) → wpPlanU P ops Q S brks l a w → K' a w) → Oper.wp P o a w K' Q) : wpPlanU P ops Q S brks (.one i l) a w := by
  show wpOp P ops Q i _ a w
  unfold wpOp
  simp only [ho, hw, if_true]
  exact .inl (h _ (fun a w hS hW => ⟨fun _ => hS, hW⟩))
/-- The same two, the slot told. -/
theorem put_someU {a : Act} {o : Oper} {d : Tmp} {v : Value} (hd : o.dst = some d) : a.put o.dst v = ⟨a.tmps.setIfInBounds d v, a.defers⟩ := by rw [hd]; rfl
theorem wpPlanU_takeD {brks : List Nat} {i d : Nat} {o : Oper} {v : Value} {l : PU} {a : Act} {w : World} (ho : ops[i]? = some o) (hd : o.dst = some d) (hS : S w)
    (hw : Region.wanted o (yielded ops a.tmps) = true) (hy : ∀ w, S w → (execOp a.eval o).run P w = .ok (.value v) w) (h : wpPlanU P ops Q S brks l ⟨a.tmps.setIfInBounds d v, a.defers⟩ w) : wpPlanU P ops Q S brks (.take i l) a w :=
  wpPlanU_take ho hS hw hy (by rw [put_someU hd]; exact h)
theorem wpPlanU_done {brks : List Nat} {a : Act} {w : World} (h : Q .normal a w) : wpPlanU P ops Q S brks .done a w := h
end
end Go.Proofs.YtphdfbmmjkccgaaDoor

namespace Go.Proofs.YtphdfbmmjkccgaaDoor
open Go.RowKit Go.Maps

namespace Sp
end Sp
/-- How many tokens there may be by now. -/
def PBound (s : Sp.Mk) (k j i : Nat) : Prop := s.toks.length ≤ 1073741824 + k * 16004000 + j * 4001 + i
theorem PBound.all {s : Sp.Mk} {k j i : Nat} (h : PBound s k j i) (hk : k ≤ 4000) (hj : j ≤ 4000) (hi : i ≤ 4000) : s.toks.length ≤ 2 ^ 40 := by unfold PBound at h; omega
theorem PBound.skip {s : Sp.Mk} {k j i : Nat} (h : PBound s k j i) : PBound s k j (i + 1) := by unfold PBound at *; omega
end Go.Proofs.YtphdfbmmjkccgaaDoor

namespace Go.Proofs.YtphdfbmmjkccgaaDoor
open Go.RowKit Go.Maps

/-- Productions, each with rows of its own, that S names. -/
def ProdsOff (B : Nat) (w : World) (v : Value) (l : List Sp.Prod) (S : Nat → Prop) : Prop :=
  ∃ f g : Nat → Value, w.ownsRow B 84 6 v l.length (l.mapIdx fun i p => prodC (f i) (g i) p).flatten ∧
    ∀ (i : Nat) (p : Sp.Prod), l[i]? = some p → ((∃ b, w.ownsRow b 3 1 (f i) p.right.length (intsC p.right)) ∧ ∃ b, w.ownsRow b 3 1 (g i) p.args.length (intsC p.args)) ∧ (∀ c, (f i).ownBlock = some c → S c) ∧ ∀ c, (g i).ownBlock = some c → S c
theorem ProdsOff.own {B : Nat} {w : World} {v : Value} {l : List Sp.Prod} {S : Nat → Prop} (h : ProdsOff B w v l S) : ProdsOwn B w v l := by
  obtain ⟨f, g, h1, h2⟩ := h
  exact ⟨f, g, h1, fun i p hp => (h2 i p hp).1⟩
theorem ProdsOff.mono {B : Nat} {w : World} {v : Value} {l : List Sp.Prod} {S T : Nat → Prop} (h : ProdsOff B w v l S) (hS : ∀ c, c < w.heap.size → S c → T c) : ProdsOff B w v l T := by
  obtain ⟨f, g, h1, h2⟩ := h
  refine ⟨f, g, h1, fun i p hp => ⟨(h2 i p hp).1, fun c hc => ?_, fun c hc => ?_⟩⟩
  · obtain ⟨⟨⟨b, k⟩, _⟩, h3, _⟩ := h2 i p hp
    exact hS c (k.lt c hc).2 (h3 c hc)
  · obtain ⟨⟨_, b, k⟩, _, h3⟩ := h2 i p hp
    exact hS c (k.lt c hc).2 (h3 c hc)
theorem ProdsOff.kp {B : Nat} {w w' : World} {v : Value} {l : List Sp.Prod} {S T : Nat → Prop} (h : ProdsOff B w v l S) (k : Kp T w w') (hv : ∀ b, v.ownBlock = some b → T b) (hT : ∀ c, S c → T c) : ProdsOff B w' v l S := by
  obtain ⟨f, g, h1, h2⟩ := h
  refine ⟨f, g, ownsRow_kp h1 k hv, fun i p hp => ?_⟩
  obtain ⟨⟨⟨b, k1⟩, c, k2⟩, h3, h4⟩ := h2 i p hp
  exact ⟨⟨⟨b, ownsRow_kp k1 k (fun b hb => hT b (h3 b hb))⟩, c, ownsRow_kp k2 k (fun b hb => hT b (h4 b hb))⟩, h3, h4⟩
theorem ProdsOff.below {B : Nat} {w w' : World} {v : Value} {l : List Sp.Prod} {S : Nat → Prop} (h : ProdsOff B w v l S) (hb : Below w.heap.size w w') : ProdsOff B w' v l S := by
  obtain ⟨f, g, h1, h2⟩ := h
  refine ⟨f, g, ownsRow_below h1 hb, fun i p hp => ?_⟩
  obtain ⟨⟨⟨b, k1⟩, c, k2⟩, h3, h4⟩ := h2 i p hp
  exact ⟨⟨⟨b, ownsRow_below k1 hb⟩, c, ownsRow_below k2 hb⟩, h3, h4⟩
theorem prods_snoc {B : Nat} {w w' : World} {v' : Value} {l : List Sp.Prod} {S T : Nat → Prop} {f g : Nat → Value} {u a : Value} {p : Sp.Prod}
    (hc : ∀ (i : Nat) (p : Sp.Prod), l[i]? = some p → ((∃ b, w.ownsRow b 3 1 (f i) p.right.length (intsC p.right)) ∧ ∃ b, w.ownsRow b 3 1 (g i) p.args.length (intsC p.args)) ∧ (∀ c, (f i).ownBlock = some c → S c) ∧ ∀ c, (g i).ownBlock = some c → S c)
    (k : Kp T w w') (hT : ∀ c, S c → T c) (hn : w'.ownsRow B 84 6 v' (l.length + 1) ((l.mapIdx fun i p => prodC (f i) (g i) p).flatten ++ prodC u a p))
    (hu : ∃ b, w'.ownsRow b 3 1 u p.right.length (intsC p.right)) (ha : ∃ b, w'.ownsRow b 3 1 a p.args.length (intsC p.args)) (hSu : ∀ c, u.ownBlock = some c → S c) (hSa : ∀ c, a.ownBlock = some c → S c) : ProdsOff B w' v' (l ++ [p]) S := by
  refine ⟨fun i => if i < l.length then f i else u, fun i => if i < l.length then g i else a, ?_, fun i q hq => ?_⟩
  · have e1 : ((l ++ [p]).mapIdx fun i p => prodC (if i < l.length then f i else u) (if i < l.length then g i else a) p).flatten = (l.mapIdx fun i p => prodC (f i) (g i) p).flatten ++ prodC u a p := by
      rw [mapIdx_snoc, List.flatten_append]
      have e2 : (l.mapIdx fun i p => prodC (if i < l.length then f i else u) (if i < l.length then g i else a) p) = l.mapIdx fun i p => prodC (f i) (g i) p := by
        apply List.ext_getElem?
        intro i
        rw [List.getElem?_mapIdx, List.getElem?_mapIdx]
        cases hi : l[i]? with
        | none => rfl
        | some q =>
          have := (List.getElem?_eq_some_iff.1 hi).1
          simp [this]
      rw [e2]
      simp
    rw [List.length_append, e1]
    exact hn
  · by_cases hi : i < l.length
    · rw [List.getElem?_append_left hi] at hq
      obtain ⟨⟨⟨b, k1⟩, c, k2⟩, h3, h4⟩ := hc i q hq
      simp only [if_pos hi]
      exact ⟨⟨⟨b, ownsRow_kp k1 k (fun b hb => hT b (h3 b hb))⟩, c, ownsRow_kp k2 k (fun b hb => hT b (h4 b hb))⟩, h3, h4⟩
    · rw [List.getElem?_append_right (by omega)] at hq
      have hq2 := List.mem_of_getElem? hq
      simp at hq2
      subst hq2
      simp only [if_neg hi]
      exact ⟨⟨hu, ha⟩, hSu, hSa⟩
theorem MkFr.aside {m : Nat} {v v1 : MkV} {W w w' : World} {T : Nat → Prop} (h : MkFr m v v1 W w) (k : Kp T w w') (hT : ∀ b, b < W.heap.size → T b) : MkFr m v v1 W w' :=
  ⟨⟨k.os.trans h.kp.os, k.tape.trans h.kp.tape, k.output.trans h.kp.output, Nat.le_trans h.kp.size k.size, fun b hb hs => (k.block b (Nat.lt_of_lt_of_le hb h.kp.size) (hT b hb)).trans (h.kp.block b hb hs)⟩, h.new⟩
end Go.Proofs.YtphdfbmmjkccgaaDoor

namespace Go.Proofs.YtphdfbmmjkccgaaDoor
open Go.RowKit Go.Maps

theorem ProdsOff.ne {B : Nat} {w : World} {v : Value} {l : List Sp.Prod} {S : Nat → Prop} {b0 : Nat} {cs : Array Value} {t : TypeId} {fr : Nat × Nat} (h : ProdsOff B w v l S) (hb : w.heap[b0]? = some (.cells cs t fr)) (ht : t ≠ 3) : ProdsOff B w v l (fun c => S c ∧ c ≠ b0) := by
  obtain ⟨f, g, h1, h2⟩ := h
  refine ⟨f, g, h1, fun i p hp => ⟨(h2 i p hp).1, fun c hc => ⟨(h2 i p hp).2.1 c hc, ?_⟩, fun c hc => ⟨(h2 i p hp).2.2 c hc, ?_⟩⟩⟩
  · obtain ⟨⟨b, k⟩, _⟩ := (h2 i p hp).1
    exact ownsRow_ne k hb ht c hc
  · obtain ⟨_, b, k⟩ := (h2 i p hp).1
    exact ownsRow_ne k hb ht c hc
section
variable {B : Nat} {W : World} {m : Nat} {x : Sp.Source} {v0 : MkV} {ac : Array Value} {s : Sp.Mk} {v : MkV} {p : Sp.Prod} {rv : Value} {w w' : World}
end
end Go.Proofs.YtphdfbmmjkccgaaDoor

namespace Go.Proofs.YtphdfbmmjkccgaaDoor
open Go.RowKit Go.Maps

namespace Sp
end Sp
/-- How many nonterminals, productions, inner actions there may be. -/
def ABound (s : Sp.Mk) (inner T : Nat) : Prop := s.nons.length ≤ T ∧ s.prods.length ≤ T ∧ inner ≤ T
theorem ABound.up {s : Sp.Mk} {i T : Nat} (h : ABound s i T) : ABound s i (T + 1) := by unfold ABound at *; omega
theorem ProdsOff.pv {B : Nat} {w : World} {v : Value} {l : List Sp.Prod} {S : Nat → Prop} (h : ProdsOff B w v l S) : ProdsOff B w v l (fun c => S c ∧ v.ownBlock ≠ some c) := by
  obtain ⟨f, g, h1, h2⟩ := h
  have key : ∀ {b n : Nat} {u : Value} {xs : List Value}, w.ownsRow b 3 1 u n xs → ∀ c, u.ownBlock = some c → v.ownBlock ≠ some c := by
    intro b n u xs k c hc e
    rcases h1.2 with ⟨e0, _⟩ | ⟨g, cap, cur, e0, _, hgg, _⟩
    · rw [e0] at e; simp [Value.ownBlock] at e
    · rw [e0] at e
      simp [Value.ownBlock] at e
      subst e
      exact ownsRow_ne k hgg (by decide) _ hc rfl
  refine ⟨f, g, h1, fun i p hp => ⟨(h2 i p hp).1, fun c hc => ⟨(h2 i p hp).2.1 c hc, ?_⟩, fun c hc => ⟨(h2 i p hp).2.2 c hc, ?_⟩⟩⟩
  · obtain ⟨⟨b, k⟩, _⟩ := (h2 i p hp).1
    exact key k c hc
  · obtain ⟨_, b, k⟩ := (h2 i p hp).1
    exact key k c hc
end Go.Proofs.YtphdfbmmjkccgaaDoor

namespace Go.Proofs.YtphdfbmmjkccgaaDoor
open Go.RowKit Go.Maps

theorem ABound.mono {s : Sp.Mk} {i T T' : Nat} (h : ABound s i T) (hT : T ≤ T') : ABound s i T' := ⟨Nat.le_trans h.1 hT, Nat.le_trans h.2.1 hT, Nat.le_trans h.2.2 hT⟩
end Go.Proofs.YtphdfbmmjkccgaaDoor
