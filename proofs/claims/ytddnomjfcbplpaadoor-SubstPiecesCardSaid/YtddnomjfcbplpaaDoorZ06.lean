/- A region that draws its order, walked once along a plan: what only reads is taken first, whatever else comes up alone. gram's maker: clash, symbol. gram's maker: what a call changes; named. gram's maker: one token changed in its place; numbers. As Ks, with one kind of step more: what asks nothing of the world (a move, an address) is taken first whatever may break S later. gram's maker: add. gram's maker: parts. gram's maker: productions more, nonterminals more, what lies aside. gram's maker: what stands while an alternative's productions are made. Numbers copied into a row of their own: append([]int(nil), l...). gram's maker: alt. gram's maker: prods. -/
import Derived.Test.YtddnomjfcbplpaaDoorZ05
import Derived.Test.YtddnomjfcbplpaaDoorZ04
import Derived.Deep.AppendLies
import Derived.Deep.DeepCutAuto
import Derived.Deep.RegionHeld
import Derived.Deep.CutBlock
import Derived.Laws.AppendOwnNone
import Derived.Lib.ItoaLen
namespace Go.Proofs.YtddnomjfcbplpaaDoor
open Go.RowKit

section
variable {P : Program} {ops : Array Oper} {Q : Exit → Act → World → Prop} {md : Region.Mode} {S : World → Prop} {brk : Nat → Bool}

/-- Whatever order is picked from here on; S holds behind every operation that is no 'brk'. -/
def wpAnyS (P : Program) (md : Region.Mode) (ops : Array Oper) (Q : Exit → Act → World → Prop) (S : World → Prop) (brk : Nat → Bool) : Nat → Array Bool → Act → World → Prop
  | 0, listed, a, w => Region.ready md ops listed = [] ∧ Q .normal a w
  | fuel + 1, listed, a, w =>
    (Region.ready md ops listed = [] → Q .normal a w) ∧
    ∀ i ∈ Region.ready md ops listed, wpOp P ops Q i (fun a' w' => (brk i = true ∨ S w') ∧ wpAnyS P md ops Q S brk fuel (listed.setIfInBounds i true) a' w') a w

theorem wpAny_of_S : ∀ (fuel : Nat) (listed : Array Bool) (a : Act) (w : World), wpAnyS P md ops Q S brk fuel listed a w → wpAny P md ops Q fuel listed a w
  | 0, _, _, _, h => h
  | fuel + 1, _, _, _, h => ⟨h.1, fun i hi => wpOp_mono (fun a' w' h' => wpAny_of_S fuel _ a' w' h'.2) (h.2 i hi)⟩

theorem wpAnyS_first {i f0 : Nat} {oi : Oper} {v : Value} (hi : ops[i]? = some oi) (hsel : ∀ (j : Nat) (o : Oper) cs b, ops[j]? = some o → o.op ≠ .select cs b)
    (hQ : ∀ c a w, Q (.panic c) (a.put oi.dst v) w → Q (.panic c) a w) (hbrk : ∀ j, brk j = true → reachB md ops f0 j i = true) (hib : brk i = false) :
    ∀ (fuel : Nat) (listed : Array Bool) (a : Act) (w : World), Closed md ops listed →
      (∀ j oj, ops[j]? = some oj → j ≠ i → listed.getD j true = false → (∀ e ∈ oj.after, Region.binds md e = true → e.on ≠ i) → oi.apart ops oj = true) →
      i ∈ Region.ready md ops listed → YieldsIf P ops S oi v a → S w →
      wpAnyS P md ops Q S brk fuel (listed.setIfInBounds i true) (a.put oi.dst v) w → wpAnyS P md ops Q S brk (fuel + 1) listed a w := by
  intro fuel
  induction fuel with
  | zero =>
    intro listed a w _ _ hr hy hS H
    refine ⟨fun h => (by rw [h] at hr; cases hr), fun j hj => ?_⟩
    by_cases hji : j = i
    · subst hji; exact hy.wpOp hi hS ⟨.inr hS, H⟩
    · have := ready_mono hj hji
      rw [H.1] at this
      cases this
  | succ fuel ih =>
    intro listed a w hcl hfree hr hy hS H
    refine ⟨fun h => (by rw [h] at hr; cases hr), fun j hj => ?_⟩
    by_cases hji : j = i
    · subst hji; exact hy.wpOp hi hS ⟨.inr hS, H⟩
    · have hjl : ¬ brk j = true := fun e => reach_ready hcl (hbrk j e) (mem_ready.1 hr).1 hj
      have h1 := H.2 j (ready_mono hj hji)
      obtain ⟨hjun, oj, hoj, hall⟩ := mem_ready.1 hj
      have hnot : ∀ e ∈ oj.after, Region.binds md e = true → e.on ≠ i := fun e he hb heq => by
        have h1 := hall e he hb
        have h0 := (mem_ready.1 hr).1
        rw [heq, getD_both h0] at h1
        cases h1
      have h1' := wpOp_mono (K' := fun a' w' => S w' ∧ wpAnyS P md ops Q S brk fuel ((listed.setIfInBounds i true).setIfInBounds j true) a' w') (fun a' w' h3 => ⟨h3.1.resolve_left hjl, h3.2⟩) h1
      have h2 := wpOp_putIf hoj (hfree j oj hoj hji hjun hnot) (fun cs b => hsel i oi cs b hi) (fun cs b => hsel j oj cs b hoj) hQ hy h1'
      have hfree' : ∀ k ok, ops[k]? = some ok → k ≠ i → (listed.setIfInBounds j true).getD k true = false →
          (∀ e ∈ ok.after, Region.binds md e = true → e.on ≠ i) → oi.apart ops ok = true := fun k ok hk hki hun hno => by
        refine hfree k ok hk hki ?_ hno
        by_cases hjk : j = k
        · subst hjk; exact hjun
        · rw [getD_set_ne true hjk] at hun; exact hun
      refine wpOp_mono (fun a' w' h3 => ⟨.inr h3.2.1, ih (listed.setIfInBounds j true) a' w' (hcl.set hj) hfree' (ready_mono hr (Ne.symm hji)) h3.1 h3.2.1 ?_⟩) h2
      rw [Array.setIfInBounds_comm _ _ hji]
      exact h3.2.2

/-- A plan: what is taken first, what comes up alone, what comes up beside one other. -/
inductive PT where
  | done
  | take (i : Nat) (t : PT)
  | one (i : Nat) (t : PT)
  | two (i j : Nat) (t u : PT)
def PT.len : PT → Nat
  | .done => 0
  | .take _ t => t.len + 1
  | .one _ t => t.len + 1
  | .two _ _ t _ => t.len + 1
/-- Does a plan fit? -/
def planB (md : Region.Mode) (ops : Array Oper) (brks : List Nat) : PT → Array Bool → Bool
  | .done, listed => (Region.ready md ops listed).isEmpty
  | .take i l, listed => (Region.ready md ops listed).contains i && Region.free md ops listed i && (!brks.contains i && brks.all fun j => reachB md ops ops.size j i) && planB md ops brks l (listed.setIfInBounds i true)
  | .one i l, listed => decide (Region.ready md ops listed = [i]) && planB md ops brks l (listed.setIfInBounds i true)
  | .two i j t u, listed => decide (Region.ready md ops listed = [i, j]) && decide (t.len = u.len) && planB md ops brks t (listed.setIfInBounds i true) && planB md ops brks u (listed.setIfInBounds j true)
def planA (md : Region.Mode) (ops : Array Oper) (brks : List Nat) (plan : PT) : Bool :=
  Region.noSelect ops && decide (plan.len = ops.size) && planB md ops brks plan (Array.replicate ops.size false)

/-- The walk along the plan. -/
def wpPlan (P : Program) (ops : Array Oper) (Q : Exit → Act → World → Prop) (S : World → Prop) (brks : List Nat) : PT → Act → World → Prop
  | .done, a, w => Q .normal a w
  | .take i l, a, w => S w ∧ ∃ o v, ops[i]? = some o ∧ YieldsIf P ops S o v a ∧ wpPlan P ops Q S brks l (a.put o.dst v) w
  | .one i l, a, w => wpOp P ops Q i (fun a' w' => (brks.contains i = true ∨ S w') ∧ wpPlan P ops Q S brks l a' w') a w
  | .two i j t u, a, w => wpOp P ops Q i (fun a' w' => (brks.contains i = true ∨ S w') ∧ wpPlan P ops Q S brks t a' w') a w ∧ wpOp P ops Q j (fun a' w' => (brks.contains j = true ∨ S w') ∧ wpPlan P ops Q S brks u a' w') a w

theorem put_panic (hQ : ∀ c (t : Array Value) (a : Act) w, Q (.panic c) ⟨t, a.defers⟩ w → Q (.panic c) a w) {c} {a : Act} {d : Option Tmp} {v : Value} {w : World} (h : Q (.panic c) (a.put d v) w) : Q (.panic c) a w := by
  cases d with
  | none => exact h
  | some d => exact hQ c _ a w h
theorem wpAnyS_plan {brks : List Nat} (hsel : Region.noSelect ops = true) (hQ : ∀ c (t : Array Value) (a : Act) w, Q (.panic c) ⟨t, a.defers⟩ w → Q (.panic c) a w) : ∀ (l : PT) (listed : Array Bool) (a : Act) (w : World),
    Closed md ops listed → planB md ops brks l listed = true → wpPlan P ops Q S brks l a w → wpAnyS P md ops Q S (fun j => brks.contains j) l.len listed a w
  | .done, listed, a, w, _, hB, h => ⟨by simpa [planB] using hB, h⟩
  | .take i l, listed, a, w, hcl, hB, h => by
    simp only [planB, Bool.and_eq_true] at hB
    obtain ⟨⟨⟨hr, hf⟩, hbi, hba⟩, hB'⟩ := hB
    obtain ⟨hS, o, v, ho, hy, hK⟩ := h
    have hr' : i ∈ Region.ready md ops listed := by simpa using hr
    refine wpAnyS_first (f0 := ops.size) ho (Region.noSelect_spec hsel) (fun c a w h => put_panic hQ h) (fun j hj => ?_) (by simpa using hbi) l.len listed a w hcl (Region.free_spec ho hf) hr' hy hS
      (wpAnyS_plan hsel hQ l _ _ _ (hcl.set hr') hB' hK)
    have := List.all_eq_true.1 hba j (by simpa using hj)
    exact this
  | .one i l, listed, a, w, hcl, hB, h => by
    simp only [planB, Bool.and_eq_true, decide_eq_true_eq] at hB
    obtain ⟨hr, hB'⟩ := hB
    refine ⟨fun h0 => (by rw [hr] at h0; cases h0), fun j hj => ?_⟩
    have hj' := hj
    rw [hr] at hj
    have hji : j = i := by simpa using hj
    subst hji
    exact wpOp_mono (fun a' w' h' => ⟨h'.1, wpAnyS_plan hsel hQ l _ _ _ (hcl.set hj') hB' h'.2⟩) h
  | .two i j t u, listed, a, w, hcl, hB, h => by
    simp only [planB, Bool.and_eq_true, decide_eq_true_eq] at hB
    obtain ⟨⟨⟨hr, hlen⟩, hB1⟩, hB2⟩ := hB
    refine ⟨fun h0 => (by rw [hr] at h0; cases h0), fun k hk => ?_⟩
    have hk' := hk
    rw [hr] at hk
    have hki : k = i ∨ k = j := by simpa using hk
    rcases hki with rfl | rfl
    · exact wpOp_mono (fun a' w' h' => ⟨h'.1, wpAnyS_plan hsel hQ t _ _ _ (hcl.set hk') hB1 h'.2⟩) h.1
    · refine wpOp_mono (fun a' w' h' => ⟨h'.1, ?_⟩) h.2
      have h2 := wpAnyS_plan hsel hQ u _ _ _ (hcl.set hk') hB2 h'.2
      rw [← hlen] at h2
      exact h2

/-- The beginning. -/
theorem wp_region_plan (S : World → Prop) (brks : List Nat) (plan : PT) {id : Nat} {a : Act} {w : World} (hm : P.follows .mixedOrders = true) (hA : planA .any ops brks plan = true)
    (hQ : ∀ c (t : Array Value) (a : Act) w, Q (.panic c) ⟨t, a.defers⟩ w → Q (.panic c) a w) (h : wpPlan P ops Q S brks plan a w.drew) : (Code.region id ops true).wp P Q a w := by
  simp only [planA, Bool.and_eq_true, decide_eq_true_eq] at hA
  obtain ⟨⟨hsel, hl⟩, hB⟩ := hA
  have H := wpAnyS_plan (md := .any) hsel hQ plan _ _ _ (Closed.start _) hB h
  rw [hl] at H
  exact wp_region_any hm (wpAny_of_S _ _ _ _ H)

/-- One taken first. -/
theorem wpPlan_take {brks : List Nat} {i : Nat} {o : Oper} {v : Value} {l : PT} {a : Act} {w : World} (ho : ops[i]? = some o) (hS : S w)
    (hw : Region.wanted o (yielded ops a.tmps) = true) (hy : ∀ w, S w → (execOp a.eval o).run P w = .ok (.value v) w) (h : wpPlan P ops Q S brks l (a.put o.dst v) w) : wpPlan P ops Q S brks (.take i l) a w :=
  ⟨hS, o, v, ho, .inl ⟨hw, hy⟩, h⟩
/-- One whose guard says no, taken first. -/
theorem wpPlan_none {brks : List Nat} {i : Nat} {o : Oper} {l : PT} {a : Act} {w : World} (ho : ops[i]? = some o) (hS : S w)
    (hw : Region.wanted o (yielded ops a.tmps) = false) (h : wpPlan P ops Q S brks l (a.put o.dst undef) w) : wpPlan P ops Q S brks (.take i l) a w :=
  ⟨hS, o, undef, ho, .inr ⟨hw, rfl⟩, h⟩
/-- One that comes up alone. -/
theorem wpPlan_run {brks : List Nat} {i : Nat} {o : Oper} {l : PT} {a : Act} {w : World} (ho : ops[i]? = some o) (hw : Region.wanted o (yielded ops a.tmps) = true)
    (h : ∀ K' : Act → World → Prop, (∀ a w, (brks.contains i = true ∨ S w) → wpPlan P ops Q S brks l a w → K' a w) → Oper.wp P o a w K' Q) : wpPlan P ops Q S brks (.one i l) a w := by
  show wpOp P ops Q i _ a w
  unfold wpOp
  simp only [ho, hw, if_true]
  exact .inl (h _ (fun a w hS hW => ⟨hS, hW⟩))
/-- One that comes up alone, whose guard says no. -/
theorem wpPlan_pass {brks : List Nat} {i : Nat} {o : Oper} {l : PT} {a : Act} {w : World} (ho : ops[i]? = some o) (hw : Region.wanted o (yielded ops a.tmps) = false) (hS : S w)
    (h : wpPlan P ops Q S brks l (a.put o.dst undef) w) : wpPlan P ops Q S brks (.one i l) a w := by
  show wpOp P ops Q i _ a w
  unfold wpOp
  simp only [ho, hw, Bool.false_eq_true, if_false]
  exact ⟨.inr hS, h⟩
/-- The same two, the slot told. -/
theorem put_some {a : Act} {o : Oper} {d : Tmp} {v : Value} (hd : o.dst = some d) : a.put o.dst v = ⟨a.tmps.setIfInBounds d v, a.defers⟩ := by rw [hd]; rfl
theorem wpPlan_takeD {brks : List Nat} {i d : Nat} {o : Oper} {v : Value} {l : PT} {a : Act} {w : World} (ho : ops[i]? = some o) (hd : o.dst = some d) (hS : S w)
    (hw : Region.wanted o (yielded ops a.tmps) = true) (hy : ∀ w, S w → (execOp a.eval o).run P w = .ok (.value v) w) (h : wpPlan P ops Q S brks l ⟨a.tmps.setIfInBounds d v, a.defers⟩ w) : wpPlan P ops Q S brks (.take i l) a w :=
  wpPlan_take ho hS hw hy (by rw [put_some hd]; exact h)
theorem wpPlan_noneD {brks : List Nat} {i d : Nat} {o : Oper} {l : PT} {a : Act} {w : World} (ho : ops[i]? = some o) (hd : o.dst = some d) (hS : S w)
    (hw : Region.wanted o (yielded ops a.tmps) = false) (h : wpPlan P ops Q S brks l ⟨a.tmps.setIfInBounds d undef, a.defers⟩ w) : wpPlan P ops Q S brks (.take i l) a w :=
  wpPlan_none ho hS hw (by rw [put_some hd]; exact h)
theorem wpPlan_passD {brks : List Nat} {i d : Nat} {o : Oper} {l : PT} {a : Act} {w : World} (ho : ops[i]? = some o) (hd : o.dst = some d) (hw : Region.wanted o (yielded ops a.tmps) = false) (hS : S w)
    (h : wpPlan P ops Q S brks l ⟨a.tmps.setIfInBounds d undef, a.defers⟩ w) : wpPlan P ops Q S brks (.one i l) a w :=
  wpPlan_pass ho hw hS (by rw [put_some hd]; exact h)
theorem wpPlan_done {brks : List Nat} {a : Act} {w : World} (h : Q .normal a w) : wpPlan P ops Q S brks .done a w := h
end
end Go.Proofs.YtddnomjfcbplpaaDoor

namespace Go.Proofs.YtddnomjfcbplpaaDoor
open Go.RowKit Go.Maps

theorem byte_wrap (c : UInt8) (h : 0 < (⟨#[c]⟩ : ByteArray).size) : wrap64 (((⟨#[c]⟩ : ByteArray)[0]'h).toNat : Int) = (c.toNat : Int) := by
  have e : ((⟨#[c]⟩ : ByteArray)[0]'h) = c := rfl
  rw [e]
  have := c.toNat_lt
  unfold wrap64
  omega
end Go.Proofs.YtddnomjfcbplpaaDoor

namespace Go.Proofs.YtddnomjfcbplpaaDoor
open Go.RowKit Go.Maps

/-- The maker's own blocks. -/
def mkBlocks (m : Nat) (v : MkV) (b : Nat) : Prop := b = m ∨ v.tv.ownBlock = some b ∨ v.nv.ownBlock = some b ∨ v.pv.ownBlock = some b ∨ v.gv.ownBlock = some b ∨ b = v.bt ∨ b = v.bn ∨ b = v.by_
/-- What a call of the maker's may change: its own blocks alone; what is new lies behind. -/
structure MkFr (m : Nat) (v v' : MkV) (W w' : World) : Prop where
  kp : Kp (fun b => ¬ mkBlocks m v b) W w'
  new : ∀ b, mkBlocks m v' b → mkBlocks m v b ∨ W.heap.size ≤ b
theorem MkFr.trans {m : Nat} {v v1 v2 : MkV} {W w1 w2 : World} (h : MkFr m v v1 W w1) (k : MkFr m v1 v2 w1 w2) : MkFr m v v2 W w2 := by
  refine ⟨⟨k.kp.os.trans h.kp.os, k.kp.tape.trans h.kp.tape, k.kp.output.trans h.kp.output, Nat.le_trans h.kp.size k.kp.size, fun b hb hn => ?_⟩, fun b hb => ?_⟩
  · refine (k.kp.block b (Nat.lt_of_lt_of_le hb h.kp.size) (fun h1 => ?_)).trans (h.kp.block b hb hn)
    rcases h.new b h1 with h2 | h2
    · exact hn h2
    · omega
  · rcases k.new b hb with h1 | h1
    · exact h.new b h1
    · right; exact Nat.le_trans h.kp.size h1
theorem MkFr.below {m : Nat} (v : MkV) {W w' : World} (h : Below W.heap.size W w') : MkFr m v v W w' := ⟨Kp.of_below h (fun _ hk _ => hk), fun _ h => .inl h⟩
theorem row_ne_cells {w : World} {B e size n : Nat} {v : Value} {xs : List Value} {b0 : Nat} {cs : Array Value} {t : TypeId} {fr : Nat × Nat} (h : w.ownsRow B e size v n xs) (hm : w.heap[b0]? = some (.cells cs t fr)) (ht : t ≠ e) : ∀ b, v.ownBlock = some b → b ≠ b0 := ownsRow_ne h hm ht
end Go.Proofs.YtddnomjfcbplpaaDoor

namespace Go.Proofs.YtddnomjfcbplpaaDoor
open Go.RowKit Go.Maps

theorem flatten_set2 {β : Type} (size k off : Nat) (v : β) (ho : off < size) : ∀ (L : List (List β)) (r : List β), (∀ r ∈ L, r.length = size) → L[k]? = some r → L.flatten.set (k * size + off) v = (L.set k (r.set off v)).flatten
  | [], r, _, h => by simp at h
  | x :: L, r, hl, h => by
    have hx := hl x (by simp)
    cases k with
    | zero =>
      simp only [List.getElem?_cons_zero, Option.some.injEq] at h
      subst h
      simp only [Nat.zero_mul, Nat.zero_add, List.flatten_cons, List.set_cons_zero]
      rw [List.set_append_left _ _ (by omega)]
    | succ k =>
      simp only [List.getElem?_cons_succ] at h
      have ih := flatten_set2 size k off v ho L r (fun r hr => hl r (by simp [hr])) h
      simp only [List.flatten_cons, List.set_cons_succ]
      rw [List.set_append_right _ _ (by rw [hx, Nat.succ_mul]; omega), ← ih]
      congr 2
      rw [hx, Nat.succ_mul]; omega
end Go.Proofs.YtddnomjfcbplpaaDoor

namespace Go.Proofs.YtddnomjfcbplpaaDoor
open Go.RowKit

section
variable {P : Program} {ops : Array Oper} {Q : Exit → Act → World → Prop} {md : Region.Mode} {S : World → Prop} {brk : Nat → Bool}

/-- A plan: what is taken first, what comes up alone, what comes up beside one other. -/
inductive PU where
  | done
  | take (i : Nat) (t : PU)
  | free (i : Nat) (t : PU)
  | one (i : Nat) (t : PU)
  | two (i j : Nat) (t u : PU)
def PU.len : PU → Nat
  | .done => 0
  | .take _ t => t.len + 1
  | .free _ t => t.len + 1
  | .one _ t => t.len + 1
  | .two _ _ t _ => t.len + 1
end
end Go.Proofs.YtddnomjfcbplpaaDoor

namespace Go.Proofs.YtddnomjfcbplpaaDoor
open Go.RowKit Go.Maps

theorem info_tokE : (Tryd.prog.info? 53).map (fun i => (i.zero, i.size, i.bytes)) = some (some (.agg #[.string ⟨#[]⟩, .bool false, .int .i64 0, .int .i64 0, .int .i64 0, .string ⟨#[]⟩]), 6, 64) := by kernel_rfl
theorem info_boolE : (Tryd.prog.info? 4).map (fun i => (i.zero, i.size, i.bytes)) = some (some (.bool false), 1, 1) := by kernel_rfl
theorem row_block2 {w : World} {B e size g n cap : Nat} {xs : List Value} (h : w.ownsRow B e size (.slice (some ⟨g, 0, none⟩) n cap) n xs) : ∃ cu, w.heap[g]? = some (.cells cu e (0, 0)) := by
  rcases h.2 with ⟨h, _⟩ | ⟨g', _, cu, h, _, hh, _⟩
  · simp at h
  · simp only [Value.slice.injEq, Option.some.injEq, Addr.mk.injEq, and_true, true_and] at h
    obtain ⟨rfl, _⟩ := h
    exact ⟨cu, hh⟩
end Go.Proofs.YtddnomjfcbplpaaDoor

namespace Go.Proofs.YtddnomjfcbplpaaDoor
open Go.RowKit Go.Maps

namespace Sp
end Sp
theorem at_drop {α : Type} {l : List α} {k : Nat} (h : k < l.length) : ∃ a, l[k]? = some a ∧ l.drop k = a :: l.drop (k + 1) ∧ a ∈ l := ⟨l[k], List.getElem?_eq_getElem h, List.drop_eq_getElem_cons h, List.getElem_mem h⟩
/-- How many tokens there may be by now. -/
def PBound (s : Sp.Mk) (k j i : Nat) : Prop := s.toks.length ≤ 1073741824 + k * 16004000 + j * 4001 + i
theorem PBound.all {s : Sp.Mk} {k j i : Nat} (h : PBound s k j i) (hk : k ≤ 4000) (hj : j ≤ 4000) (hi : i ≤ 4000) : s.toks.length ≤ 2 ^ 40 := by unfold PBound at h; omega
theorem PBound.skip {s : Sp.Mk} {k j i : Nat} (h : PBound s k j i) : PBound s k j (i + 1) := by unfold PBound at *; omega
end Go.Proofs.YtddnomjfcbplpaaDoor

namespace Go.Proofs.YtddnomjfcbplpaaDoor
open Go.RowKit Go.Maps

/-- Productions, each with rows of its own, that S names. -/
def ProdsOff (B : Nat) (w : World) (v : Value) (l : List Sp.Prod) (S : Nat → Prop) : Prop :=
  ∃ f g : Nat → Value, w.ownsRow B 72 6 v l.length (l.mapIdx fun i p => prodC (f i) (g i) p).flatten ∧
    ∀ (i : Nat) (p : Sp.Prod), l[i]? = some p → ((∃ b, w.ownsRow b 3 1 (f i) p.right.length (intsC p.right)) ∧ ∃ b, w.ownsRow b 3 1 (g i) p.args.length (intsC p.args)) ∧ (∀ c, (f i).ownBlock = some c → S c) ∧ ∀ c, (g i).ownBlock = some c → S c
theorem ProdsOff.own {B : Nat} {w : World} {v : Value} {l : List Sp.Prod} {S : Nat → Prop} (h : ProdsOff B w v l S) : ProdsOwn B w v l := by
  obtain ⟨f, g, h1, h2⟩ := h
  exact ⟨f, g, h1, fun i p hp => (h2 i p hp).1⟩
theorem ProdsOff.mono {B : Nat} {w : World} {v : Value} {l : List Sp.Prod} {S T : Nat → Prop} (h : ProdsOff B w v l S) (hS : ∀ c, c < w.heap.size → S c → T c) : ProdsOff B w v l T := by
  obtain ⟨f, g, h1, h2⟩ := h
  refine ⟨f, g, h1, fun i p hp => ⟨(h2 i p hp).1, fun c hc => ?_, fun c hc => ?_⟩⟩
  · obtain ⟨⟨⟨b, k⟩, _⟩, h3, _⟩ := h2 i p hp
    exact hS c (k.lt c hc).2 (h3 c hc)
  · obtain ⟨⟨_, b, k⟩, _, h3⟩ := h2 i p hp
    exact hS c (k.lt c hc).2 (h3 c hc)
theorem ProdsOff.kp {B : Nat} {w w' : World} {v : Value} {l : List Sp.Prod} {S T : Nat → Prop} (h : ProdsOff B w v l S) (k : Kp T w w') (hv : ∀ b, v.ownBlock = some b → T b) (hT : ∀ c, S c → T c) : ProdsOff B w' v l S := by
  obtain ⟨f, g, h1, h2⟩ := h
  refine ⟨f, g, ownsRow_kp h1 k hv, fun i p hp => ?_⟩
  obtain ⟨⟨⟨b, k1⟩, c, k2⟩, h3, h4⟩ := h2 i p hp
  exact ⟨⟨⟨b, ownsRow_kp k1 k (fun b hb => hT b (h3 b hb))⟩, c, ownsRow_kp k2 k (fun b hb => hT b (h4 b hb))⟩, h3, h4⟩
theorem ProdsOff.below {B : Nat} {w w' : World} {v : Value} {l : List Sp.Prod} {S : Nat → Prop} (h : ProdsOff B w v l S) (hb : Below w.heap.size w w') : ProdsOff B w' v l S := by
  obtain ⟨f, g, h1, h2⟩ := h
  refine ⟨f, g, ownsRow_below h1 hb, fun i p hp => ?_⟩
  obtain ⟨⟨⟨b, k1⟩, c, k2⟩, h3, h4⟩ := h2 i p hp
  exact ⟨⟨⟨b, ownsRow_below k1 hb⟩, c, ownsRow_below k2 hb⟩, h3, h4⟩
theorem prods_snoc {B : Nat} {w w' : World} {v' : Value} {l : List Sp.Prod} {S T : Nat → Prop} {f g : Nat → Value} {u a : Value} {p : Sp.Prod}
    (hc : ∀ (i : Nat) (p : Sp.Prod), l[i]? = some p → ((∃ b, w.ownsRow b 3 1 (f i) p.right.length (intsC p.right)) ∧ ∃ b, w.ownsRow b 3 1 (g i) p.args.length (intsC p.args)) ∧ (∀ c, (f i).ownBlock = some c → S c) ∧ ∀ c, (g i).ownBlock = some c → S c)
    (k : Kp T w w') (hT : ∀ c, S c → T c) (hn : w'.ownsRow B 72 6 v' (l.length + 1) ((l.mapIdx fun i p => prodC (f i) (g i) p).flatten ++ prodC u a p))
    (hu : ∃ b, w'.ownsRow b 3 1 u p.right.length (intsC p.right)) (ha : ∃ b, w'.ownsRow b 3 1 a p.args.length (intsC p.args)) (hSu : ∀ c, u.ownBlock = some c → S c) (hSa : ∀ c, a.ownBlock = some c → S c) : ProdsOff B w' v' (l ++ [p]) S := by
  refine ⟨fun i => if i < l.length then f i else u, fun i => if i < l.length then g i else a, ?_, fun i q hq => ?_⟩
  · have e1 : ((l ++ [p]).mapIdx fun i p => prodC (if i < l.length then f i else u) (if i < l.length then g i else a) p).flatten = (l.mapIdx fun i p => prodC (f i) (g i) p).flatten ++ prodC u a p := by
      rw [mapIdx_snoc, List.flatten_append]
      have e2 : (l.mapIdx fun i p => prodC (if i < l.length then f i else u) (if i < l.length then g i else a) p) = l.mapIdx fun i p => prodC (f i) (g i) p := by
        apply List.ext_getElem?
        intro i
        rw [List.getElem?_mapIdx, List.getElem?_mapIdx]
        cases hi : l[i]? with
        | none => rfl
        | some q =>
          have := (List.getElem?_eq_some_iff.1 hi).1
          simp [this]
      rw [e2]
      simp
    rw [List.length_append, e1]
    exact hn
  · by_cases hi : i < l.length
    · rw [List.getElem?_append_left hi] at hq
      obtain ⟨⟨⟨b, k1⟩, c, k2⟩, h3, h4⟩ := hc i q hq
      simp only [if_pos hi]
      exact ⟨⟨⟨b, ownsRow_kp k1 k (fun b hb => hT b (h3 b hb))⟩, c, ownsRow_kp k2 k (fun b hb => hT b (h4 b hb))⟩, h3, h4⟩
    · rw [List.getElem?_append_right (by omega)] at hq
      have hq2 := List.mem_of_getElem? hq
      simp at hq2
      subst hq2
      simp only [if_neg hi]
      exact ⟨⟨hu, ha⟩, hSu, hSa⟩
/-- A production more. -/
theorem maker_prod {B : Nat} {w w' : World} {m : Nat} {x : Sp.Source} {s : Sp.Mk} {v : MkV} {e at_ : Int} {nm : List UInt8} {pv' : Value} {p : Sp.Prod} {g1 : Nat} (h : MakerAt B w m x s v e at_ nm)
    (k : Kp (fun b => v.pv.ownBlock ≠ some b ∧ b ≠ m) w w') (hp : ProdsOwn B w' pv' (s.prods ++ [p]))
    (hb : w'.heap[m]? = some (.cells (mkCells x s { v with pv := pv' } e at_ nm).toArray 85 (0, 0))) (hv : pv'.ownBlock = some g1) (ha : v.pv.ownBlock = some g1 ∨ w.heap.size ≤ g1) :
    MakerAt B w' m x { s with prods := s.prods ++ [p] } { v with pv := pv' } e at_ nm ∧ MkFr m v { v with pv := pv' } w w' := by
  have hbm := h.block
  obtain ⟨f, g, hpo, _⟩ := h.prods
  have hty : ∀ {cs : Array Value} {t : TypeId} {fr : Nat × Nat} {b : Nat}, w.heap[b]? = some (.cells cs t fr) → t ≠ 72 → v.pv.ownBlock ≠ some b := fun hy ht e => ownsRow_ne hpo hy ht _ e rfl
  have hrow : ∀ {B' e' size n' : Nat} {u : Value} {xs : List Value}, w.ownsRow B' e' size u n' xs → e' ≠ 72 → e' ≠ 85 → w'.ownsRow B' e' size u n' xs := fun {B' e' size n' u xs} hh e1 e2 => by
    refine ownsRow_kp hh k (fun b hob => ⟨?_, fun e => ?_⟩)
    · rcases hh.2 with ⟨rfl, _⟩ | ⟨g, cap, cur, rfl, _, hgg, _⟩
      · simp [Value.ownBlock] at hob
      · simp [Value.ownBlock] at hob
        subst hob
        exact hty hgg e1
    · exact ownsRow_ne hh hbm (Ne.symm e2) b hob e
  have hmp : ∀ b, (∃ es c, w.heap[b]? = some (.map es c)) → b < w.heap.size → w'.heap[b]? = w.heap[b]? := by
    rintro b ⟨es, c, hy⟩ hlt
    refine k.block b hlt ⟨fun e => ?_, ?_⟩
    · rcases hpo.2 with ⟨e0, _⟩ | ⟨g, cap, cur, e0, _, hgg, _⟩
      · rw [e0] at e; simp [Value.ownBlock] at e
      · rw [e0] at e
        simp [Value.ownBlock] at e
        subst e
        rw [hgg] at hy
        cases hy
    · rintro rfl; rw [hbm] at hy; cases hy
  refine ⟨⟨hb, hrow h.toks (by decide) (by decide), hrow h.given (by decide) (by decide), hrow h.nons (by decide) (by decide), hp, h.tmap.block (hmp _ h.tmap.isMap h.tmap.lt), h.nmap.block (hmp _ h.nmap.isMap h.nmap.lt), h.ymap.block (hmp _ h.ymap.isMap h.ymap.lt), h.behind, h.apart, h.same, h.three⟩, ⟨?_, ?_⟩⟩
  · exact k.mono (fun b _ hn => ⟨fun e => hn (.inr (.inr (.inr (.inl e)))), fun e => hn (.inl e)⟩)
  · rintro b (h | h | h | h | h | h | h | h)
    · exact .inl (.inl h)
    · exact .inl (.inr (.inl h))
    · exact .inl (.inr (.inr (.inl h)))
    · have h' : pv'.ownBlock = some b := h
      rw [hv] at h'
      cases h'
      exact ha.imp (fun e => .inr (.inr (.inr (.inl e)))) id
    · exact .inl (.inr (.inr (.inr (.inr (.inl h)))))
    · exact .inl (.inr (.inr (.inr (.inr (.inr (.inl h))))))
    · exact .inl (.inr (.inr (.inr (.inr (.inr (.inr (.inl h)))))))
    · exact .inl (.inr (.inr (.inr (.inr (.inr (.inr (.inr h)))))))
/-- A nonterminal more, that is no Left. -/
theorem maker_inner {B : Nat} {w w' : World} {m : Nat} {x : Sp.Source} {s : Sp.Mk} {v : MkV} {e at_ : Int} {nm lf tg : List UInt8} {gn cn n g1 c1 : Nat} (h : MakerAt B w m x s v e at_ nm) (hv : v.nv = .slice (some ⟨gn, 0, none⟩) n cn) (hn : n = s.nons.length)
    (k : Kp (fun b => b ≠ gn ∧ b ≠ m) w w')
    (hr : w'.ownsRow B 87 2 (.slice (some ⟨g1, 0, none⟩) (n + 1) c1) (n + 1) ((s.nons.map nonC).flatten ++ nonC ⟨lf, tg⟩))
    (hb : w'.heap[m]? = some (.cells (mkCells x s { v with nv := .slice (some ⟨g1, 0, none⟩) (n + 1) c1 } e at_ nm).toArray 85 (0, 0))) (ha : g1 = gn ∨ w.heap.size ≤ g1) :
    MakerAt B w' m x { s with nons := s.nons ++ [⟨lf, tg⟩] } { v with nv := .slice (some ⟨g1, 0, none⟩) (n + 1) c1 } e at_ nm ∧ MkFr m v { v with nv := .slice (some ⟨g1, 0, none⟩) (n + 1) c1 } w w' := by
  have hno := h.nons
  rw [hv, ← hn] at hno
  obtain ⟨cu, hcu⟩ := row_block2 hno
  have hbm := h.block
  have hrow : ∀ {B' e' size n' : Nat} {u : Value} {xs : List Value}, w.ownsRow B' e' size u n' xs → 87 ≠ e' → 85 ≠ e' → w'.ownsRow B' e' size u n' xs := fun h e1 e2 =>
    ownsRow_kp h k (fun b hb => ⟨row_ne_cells h hcu e1 b hb, row_ne_cells h hbm e2 b hb⟩)
  have hmp : ∀ b, (∃ es c, w.heap[b]? = some (.map es c)) → b < w.heap.size → w'.heap[b]? = w.heap[b]? := by
    rintro b ⟨es, c, hy⟩ hlt
    refine k.block b hlt ⟨?_, ?_⟩
    · rintro rfl; rw [hcu] at hy; cases hy
    · rintro rfl; rw [hbm] at hy; cases hy
  obtain ⟨f, g, p1, p2⟩ := h.prods
  refine ⟨⟨hb, hrow h.toks (by decide) (by decide), hrow h.given (by decide) (by decide), ?_, ⟨f, g, hrow p1 (by decide) (by decide), fun i p hp => ?_⟩, h.tmap.block (hmp _ h.tmap.isMap h.tmap.lt), h.nmap.block (hmp _ h.nmap.isMap h.nmap.lt), h.ymap.block (hmp _ h.ymap.isMap h.ymap.lt), h.behind, h.apart, h.same, h.three⟩, ⟨?_, ?_⟩⟩
  · show World.ownsRow _ _ _ _ _ _ _
    have e : (List.map nonC [(⟨lf, tg⟩ : Sp.Non)]).flatten = nonC ⟨lf, tg⟩ := by simp
    rw [List.length_append, ← hn, List.map_append, List.flatten_append, e]
    exact hr
  · obtain ⟨⟨b, k1⟩, c, k2⟩ := p2 i p hp
    exact ⟨⟨b, hrow k1 (by decide) (by decide)⟩, c, hrow k2 (by decide) (by decide)⟩
  · exact k.mono (fun b _ hn => ⟨fun e => hn (.inr (.inr (.inl (by rw [hv, e]; rfl)))), fun e => hn (.inl e)⟩)
  · rintro b (h | h | h | h | h | h | h | h)
    · exact .inl (.inl h)
    · exact .inl (.inr (.inl h))
    · have e : g1 = b := Option.some.inj h
      rcases ha with e1 | e1
      · exact .inl (.inr (.inr (.inl (by rw [hv, ← e, e1]; rfl))))
      · exact .inr (by omega)
    · exact .inl (.inr (.inr (.inr (.inl h))))
    · exact .inl (.inr (.inr (.inr (.inr (.inl h)))))
    · exact .inl (.inr (.inr (.inr (.inr (.inr (.inl h))))))
    · exact .inl (.inr (.inr (.inr (.inr (.inr (.inr (.inl h)))))))
    · exact .inl (.inr (.inr (.inr (.inr (.inr (.inr (.inr h)))))))
/-- What lies aside is changed alone. -/
theorem maker_aside {B : Nat} {w w' : World} {m : Nat} {x : Sp.Source} {s : Sp.Mk} {v : MkV} {e at_ : Int} {nm : List UInt8} {T : Nat → Prop} (h : MakerAt B w m x s v e at_ nm) (k : Kp T w w') (hT : ∀ b, mkBlocks m v b → T b) {S : Nat → Prop} (hoff : ProdsOff B w v.pv s.prods S) (hS : ∀ c, S c → T c) :
    MakerAt B w' m x s v e at_ nm ∧ ProdsOff B w' v.pv s.prods S := by
  have ho : ProdsOff B w' v.pv s.prods S := hoff.kp k (fun b hb => hT b (.inr (.inr (.inr (.inl hb))))) hS
  refine ⟨⟨(k.block m (lt_at h.block) (hT m (.inl rfl))).trans h.block, ownsRow_kp h.toks k (fun b hb => hT b (.inr (.inl hb))), ownsRow_kp h.given k (fun b hb => hT b (.inr (.inr (.inr (.inr (.inl hb)))))), ownsRow_kp h.nons k (fun b hb => hT b (.inr (.inr (.inl hb)))), ho.own, h.tmap.block (k.block _ h.tmap.lt (hT _ (.inr (.inr (.inr (.inr (.inr (.inl rfl)))))))), h.nmap.block (k.block _ h.nmap.lt (hT _ (.inr (.inr (.inr (.inr (.inr (.inr (.inl rfl))))))))), h.ymap.block (k.block _ h.ymap.lt (hT _ (.inr (.inr (.inr (.inr (.inr (.inr (.inr rfl))))))))), h.behind, h.apart, h.same, h.three⟩, ho⟩
theorem MkFr.aside {m : Nat} {v v1 : MkV} {W w w' : World} {T : Nat → Prop} (h : MkFr m v v1 W w) (k : Kp T w w') (hT : ∀ b, b < W.heap.size → T b) : MkFr m v v1 W w' :=
  ⟨⟨k.os.trans h.kp.os, k.tape.trans h.kp.tape, k.output.trans h.kp.output, Nat.le_trans h.kp.size k.size, fun b hb hs => (k.block b (Nat.lt_of_lt_of_le hb h.kp.size) (hT b hb)).trans (h.kp.block b hb hs)⟩, h.new⟩
end Go.Proofs.YtddnomjfcbplpaaDoor

namespace Go.Proofs.YtddnomjfcbplpaaDoor
open Go.RowKit Go.Maps

theorem not_mk {B : Nat} {w : World} {m : Nat} {x : Sp.Source} {s : Sp.Mk} {v : MkV} {e at_ : Int} {nm : List UInt8} {b : Nat} {cs : Array Value} {t : TypeId} {fr : Nat × Nat} (h : MakerAt B w m x s v e at_ nm) (hb : w.heap[b]? = some (.cells cs t fr))
    (ht : t ≠ 53 ∧ t ≠ 87 ∧ t ≠ 72 ∧ t ≠ 4 ∧ t ≠ 85) : ¬ mkBlocks m v b := by
  have hmp : ∀ c, (∃ es cl, w.heap[c]? = some (.map es cl)) → b ≠ c := by
    rintro c ⟨es, cl, hy⟩ rfl
    rw [hb] at hy
    cases hy
  obtain ⟨f, g, hp, _⟩ := h.prods
  rintro (rfl | h1 | h1 | h1 | h1 | rfl | rfl | rfl)
  · have h2 := h.block
    rw [hb] at h2
    simp only [Option.some.injEq, Obj.cells.injEq] at h2
    exact ht.2.2.2.2 h2.2.1
  · exact row_ne_cells h.toks hb ht.1 b h1 rfl
  · exact row_ne_cells h.nons hb ht.2.1 b h1 rfl
  · exact row_ne_cells hp hb ht.2.2.1 b h1 rfl
  · exact row_ne_cells h.given hb ht.2.2.2.1 b h1 rfl
  · exact hmp _ h.tmap.isMap rfl
  · exact hmp _ h.nmap.isMap rfl
  · exact hmp _ h.ymap.isMap rfl
theorem ProdsOff.ne {B : Nat} {w : World} {v : Value} {l : List Sp.Prod} {S : Nat → Prop} {b0 : Nat} {cs : Array Value} {t : TypeId} {fr : Nat × Nat} (h : ProdsOff B w v l S) (hb : w.heap[b0]? = some (.cells cs t fr)) (ht : t ≠ 3) : ProdsOff B w v l (fun c => S c ∧ c ≠ b0) := by
  obtain ⟨f, g, h1, h2⟩ := h
  refine ⟨f, g, h1, fun i p hp => ⟨(h2 i p hp).1, fun c hc => ⟨(h2 i p hp).2.1 c hc, ?_⟩, fun c hc => ⟨(h2 i p hp).2.2 c hc, ?_⟩⟩⟩
  · obtain ⟨⟨b, k⟩, _⟩ := (h2 i p hp).1
    exact ownsRow_ne k hb ht c hc
  · obtain ⟨_, b, k⟩ := (h2 i p hp).1
    exact ownsRow_ne k hb ht c hc
/-- What stands while an alternative's productions are made: the alternative lies at W's end, the production that is being made behind it. -/
structure AltSt (B : Nat) (W : World) (m : Nat) (x : Sp.Source) (v0 : MkV) (ac : Array Value) (s : Sp.Mk) (v : MkV) (p : Sp.Prod) (rv : Value) (w : World) : Prop where
  mkr : MakerAt B w m x s v 0 0 []
  off : ProdsOff B w v.pv s.prods (fun c => rv.ownBlock ≠ some c)
  row : w.ownsRow W.heap.size 3 1 rv p.right.length (intsC p.right)
  box : w.heap[W.heap.size + 1]? = some (.cells (prodC rv (.slice none 0 0) p).toArray 72 (0, 0))
  abox : w.heap[W.heap.size]? = some (.cells ac 28 (0, 0))
  fr : MkFr m v0 v W w
  nbox : ¬ mkBlocks m v (W.heap.size + 1)
  same : v.dv = v0.dv ∧ v.rv = v0.rv
section
variable {B : Nat} {W : World} {m : Nat} {x : Sp.Source} {v0 : MkV} {ac : Array Value} {s : Sp.Mk} {v : MkV} {p : Sp.Prod} {rv : Value} {w w' : World}
theorem AltSt.below (h : AltSt B W m x v0 ac s v p rv w) (hb : Below w.heap.size w w') : AltSt B W m x v0 ac s v p rv w' :=
  ⟨maker_same h.mkr hb, h.off.below hb, ownsRow_below h.row hb, (hb.block _ (lt_at h.box)).trans h.box, (hb.block _ (lt_at h.abox)).trans h.abox, h.fr.trans (MkFr.below v hb), h.nbox, h.same⟩
theorem AltSt.rv_ne (h : AltSt B W m x v0 ac s v p rv w) {b : Nat} {cs : Array Value} {t : TypeId} {fr : Nat × Nat} (hb : w.heap[b]? = some (.cells cs t fr)) (ht : t ≠ 3) : rv.ownBlock ≠ some b := fun e => ownsRow_ne h.row hb ht b e rfl
theorem AltSt.rv_mk (h : AltSt B W m x v0 ac s v p rv w) (b : Nat) (hm : mkBlocks m v b) : rv.ownBlock ≠ some b := by
  intro e
  rcases h.row.2 with ⟨e0, _⟩ | ⟨g, cap, cur, e0, _, hgg, _⟩
  · rw [e0] at e; simp [Value.ownBlock] at e
  · rw [e0] at e
    simp [Value.ownBlock] at e
    subst e
    exact not_mk h.mkr hgg (by decide) hm
theorem AltSt.size (h : AltSt B W m x v0 ac s v p rv w) : W.heap.size + 1 < w.heap.size := lt_at h.box
/-- A cell of the production's is changed. -/
theorem AltSt.cell (h : AltSt B W m x v0 ac s v p rv w) {i : Nat} {u : Value} {p' : Sp.Prod} (hp : (prodC rv (.slice none 0 0) p).toArray.setIfInBounds i u = (prodC rv (.slice none 0 0) p').toArray) (hr : p'.right = p.right) : AltSt B W m x v0 ac s v p' rv (w.setCell ⟨W.heap.size + 1, i, none⟩ u) := by
  have k : Kp (fun b => b ≠ W.heap.size + 1) w (w.setCell ⟨W.heap.size + 1, i, none⟩ u) := (Kp.refl _ w).setCell (by simp) u
  obtain ⟨h1, h2⟩ := maker_aside h.mkr k (fun b hb e => h.nbox (e ▸ hb)) (h.off.ne h.box (by decide)) (fun c hc => hc.2)
  refine ⟨h1, h2.mono (fun c _ hc => hc.1), ?_, ?_, ?_, h.fr.aside k (fun b hb => by omega), h.nbox, h.same⟩
  · rw [hr]
    exact ownsRow_setCell_ne h.row h.box (by decide) _
  · rw [← hp]
    exact heap_setCell_at h.box
  · exact (k.block _ (lt_at h.abox) (by omega)).trans h.abox
/-- One number more on the right. -/
theorem AltSt.push (h : AltSt B W m x v0 ac s v p rv w) {c : Int} {g cap n : Nat} (hn : n = p.right.length) (hown : w'.ownsRow W.heap.size 3 1 (.slice (some ⟨g, 0, none⟩) (n + 1) cap) (n + 1) (intsC p.right ++ [.int .i64 c])) (k : Kp (fun b => rv.ownBlock ≠ some b) w w') (hg : rv.ownBlock = some g ∨ w.heap.size ≤ g) :
    AltSt B W m x v0 ac s v { p with right := p.right ++ [c] } (.slice (some ⟨g, 0, none⟩) (n + 1) cap) (w'.setCell ⟨W.heap.size + 1, 1, none⟩ (.slice (some ⟨g, 0, none⟩) (n + 1) cap)) := by
  have hbx := (k.block _ (lt_at h.box) (h.rv_ne h.box (by decide))).trans h.box
  have hax := (k.block _ (lt_at h.abox) (h.rv_ne h.abox (by decide))).trans h.abox
  have hoff : ProdsOff B w v.pv s.prods (fun c => rv.ownBlock ≠ some c ∧ g ≠ c) := h.off.mono (fun c hc hs => ⟨hs, fun e => by
    rcases hg with h1 | h1
    · exact hs (h1.trans (by rw [e]))
    · omega⟩)
  obtain ⟨h1, h2⟩ := maker_aside h.mkr k h.rv_mk hoff (fun c hc => hc.1)
  have k2 : Kp (fun b => b ≠ W.heap.size + 1) w' (w'.setCell ⟨W.heap.size + 1, 1, none⟩ (.slice (some ⟨g, 0, none⟩) (n + 1) cap)) := (Kp.refl _ w').setCell (by simp) _
  obtain ⟨h3, h4⟩ := maker_aside h1 k2 (fun b hb e => h.nbox (e ▸ hb)) (h2.ne hbx (by decide)) (fun c hc => hc.2)
  refine ⟨h3, h4.mono (fun c _ hc e => hc.1.2 (Option.some.inj e)), ?_, ?_, ?_, (h.fr.aside k (fun b hb e => ?_)).aside k2 (fun b hb => by omega), h.nbox, h.same⟩
  · have e : intsC (p.right ++ [c]) = intsC p.right ++ [.int .i64 c] := by unfold intsC; simp
    show World.ownsRow _ _ _ _ _ (p.right ++ [c]).length (intsC (p.right ++ [c]))
    rw [e, List.length_append, ← hn]
    exact ownsRow_setCell_ne hown hbx (by decide) _
  · exact heap_setCell_at hbx
  · exact (k2.block _ (lt_at hax) (by omega)).trans hax
  · have := (h.row.lt b e).1
    omega
/-- A nonterminal more. -/
theorem AltSt.nons (h : AltSt B W m x v0 ac s v p rv w) {gn cn n g1 c1 : Nat} {lf tg : List UInt8} (hv : v.nv = .slice (some ⟨gn, 0, none⟩) n cn) (hn : n = s.nons.length)
    (k : Kp (fun b => b ≠ gn) w w') (hr : w'.ownsRow B 87 2 (.slice (some ⟨g1, 0, none⟩) (n + 1) c1) (n + 1) ((s.nons.map nonC).flatten ++ nonC ⟨lf, tg⟩)) (ha : g1 = gn ∨ w.heap.size ≤ g1) :
    AltSt B W m x v0 ac { s with nons := s.nons ++ [⟨lf, tg⟩] } { v with nv := .slice (some ⟨g1, 0, none⟩) (n + 1) c1 } p rv (w'.setCell ⟨m, 5, none⟩ (.slice (some ⟨g1, 0, none⟩) (n + 1) c1)) := by
  have hno := h.mkr.nons
  rw [hv, ← hn] at hno
  obtain ⟨cu, hcu⟩ := row_block2 hno
  have hty : ∀ {b : Nat} {cs : Array Value} {t : TypeId} {fr : Nat × Nat}, w.heap[b]? = some (.cells cs t fr) → t ≠ 87 → b ≠ gn := by
    rintro b cs t fr hb ht rfl
    rw [hcu] at hb
    simp only [Option.some.injEq, Obj.cells.injEq] at hb
    exact ht hb.2.1.symm
  have hbm := (k.block m (lt_at h.mkr.block) (hty h.mkr.block (by decide))).trans h.mkr.block
  unfold mkCells at hbm
  have k2 : Kp (fun b => b ≠ gn ∧ b ≠ m) w (w'.setCell ⟨m, 5, none⟩ (.slice (some ⟨g1, 0, none⟩) (n + 1) c1)) := (k.mono (fun b _ h => h.1)).setCell (by simp) _
  obtain ⟨h1, h2⟩ := maker_inner h.mkr hv hn k2 (ownsRow_setCell_ne hr hbm (by decide) _) (heap_setCell_at hbm) ha
  have hmt : ∀ {b : Nat} {cs : Array Value} {t : TypeId} {fr : Nat × Nat}, w.heap[b]? = some (.cells cs t fr) → t ≠ 85 → b ≠ m := by
    rintro b cs t fr hb ht rfl
    rw [h.mkr.block] at hb
    simp only [Option.some.injEq, Obj.cells.injEq] at hb
    exact ht hb.2.1.symm
  have hpv : ∀ b, v.pv.ownBlock = some b → b ≠ gn ∧ b ≠ m := fun b hb => by
    obtain ⟨f, g, hp, _⟩ := h.mkr.prods
    exact ⟨row_ne_cells hp hcu (by decide) b hb, row_ne_cells hp h.mkr.block (by decide) b hb⟩
  refine ⟨h1, (((h.off.ne hcu (by decide)).ne h.mkr.block (by decide)).kp k2 hpv (fun c hc => ⟨hc.1.2, hc.2⟩)).mono (fun c _ hc => hc.1.1), ?_, (k2.block _ (lt_at h.box) ⟨hty h.box (by decide), hmt h.box (by decide)⟩).trans h.box, (k2.block _ (lt_at h.abox) ⟨hty h.abox (by decide), hmt h.abox (by decide)⟩).trans h.abox, h.fr.trans h2, fun hm => ?_, h.same⟩
  · exact ownsRow_kp h.row k2 (fun b hb => ⟨row_ne_cells h.row hcu (by decide) b hb, row_ne_cells h.row h.mkr.block (by decide) b hb⟩)
  · rcases h2.new _ hm with h3 | h3
    · exact h.nbox h3
    · have := h.size
      omega
/-- A production more, that is no alternative's. -/
theorem AltSt.prods (h : AltSt B W m x v0 ac s v p rv w) {pv' : Value} {q : Sp.Prod} {g1 : Nat} (k : Kp (fun b => v.pv.ownBlock ≠ some b) w w') (hp : ProdsOff B w' pv' (s.prods ++ [q]) (fun c => rv.ownBlock ≠ some c)) (hv : pv'.ownBlock = some g1) (ha : v.pv.ownBlock = some g1 ∨ w.heap.size ≤ g1) :
    AltSt B W m x v0 ac { s with prods := s.prods ++ [q] } { v with pv := pv' } p rv (w'.setCell ⟨m, 6, none⟩ pv') := by
  obtain ⟨f, g, hpo, _⟩ := h.mkr.prods
  have hty : ∀ {b : Nat} {cs : Array Value} {t : TypeId} {fr : Nat × Nat}, w.heap[b]? = some (.cells cs t fr) → t ≠ 72 → v.pv.ownBlock ≠ some b := fun hb ht e => row_ne_cells hpo hb ht _ e rfl
  have hbm := (k.block m (lt_at h.mkr.block) (hty h.mkr.block (by decide))).trans h.mkr.block
  have hmt : ∀ {b : Nat} {cs : Array Value} {t : TypeId} {fr : Nat × Nat}, w.heap[b]? = some (.cells cs t fr) → t ≠ 85 → b ≠ m := by
    rintro b cs t fr hb ht rfl
    rw [h.mkr.block] at hb
    simp only [Option.some.injEq, Obj.cells.injEq] at hb
    exact ht hb.2.1.symm
  have k2 : Kp (fun b => v.pv.ownBlock ≠ some b ∧ b ≠ m) w (w'.setCell ⟨m, 6, none⟩ pv') := (k.mono (fun b _ h => h.1)).setCell (by simp) _
  have k3 : Kp (fun b => b ≠ m) w' (w'.setCell ⟨m, 6, none⟩ pv') := (Kp.refl _ w').setCell (by simp) _
  have hbm2 := hbm
  unfold mkCells at hbm2
  obtain ⟨f', g', hpo', _⟩ := hp.own
  have hp2 : ProdsOff B (w'.setCell ⟨m, 6, none⟩ pv') pv' (s.prods ++ [q]) (fun c => rv.ownBlock ≠ some c) := ((hp.ne hbm (by decide)).kp k3 (fun b hb => row_ne_cells hpo' hbm (by decide) b hb) (fun c hc => hc.2)).mono (fun c _ hc => hc.1)
  obtain ⟨h1, h2⟩ := maker_prod h.mkr k2 hp2.own (heap_setCell_at hbm2) hv ha
  have hnb : v.pv.ownBlock ≠ some (W.heap.size + 1) := fun e => h.nbox (.inr (.inr (.inr (.inl e))))
  refine ⟨h1, hp2, ownsRow_kp h.row k2 (fun b hb => ⟨fun e => h.rv_mk b (.inr (.inr (.inr (.inl e)))) hb, row_ne_cells h.row h.mkr.block (by decide) b hb⟩), (k2.block _ (lt_at h.box) ⟨hnb, hmt h.box (by decide)⟩).trans h.box, (k2.block _ (lt_at h.abox) ⟨hty h.abox (by decide), hmt h.abox (by decide)⟩).trans h.abox, h.fr.trans h2, fun hm => ?_, h.same⟩
  rcases h2.new _ hm with h3 | h3
  · exact h.nbox h3
  · have := h.size
    omega
end
end Go.Proofs.YtddnomjfcbplpaaDoor

namespace Go.Proofs.YtddnomjfcbplpaaDoor
open Go.RowKit Go.Maps

theorem info_intE2 : (Tryd.prog.info? 3).map (fun i => (i.zero, i.size, i.bytes)) = some (some (.int .i64 0), 1, 8) := by kernel_rfl
end Go.Proofs.YtddnomjfcbplpaaDoor

namespace Go.Proofs.YtddnomjfcbplpaaDoor
open Go.RowKit Go.Maps

namespace Sp
end Sp
/-- How many nonterminals, productions, inner actions there may be. -/
def ABound (s : Sp.Mk) (inner T : Nat) : Prop := s.nons.length ≤ T ∧ s.prods.length ≤ T ∧ inner ≤ T
theorem ABound.up {s : Sp.Mk} {i T : Nat} (h : ABound s i T) : ABound s i (T + 1) := by unfold ABound at *; omega
theorem ProdsOff.pv {B : Nat} {w : World} {v : Value} {l : List Sp.Prod} {S : Nat → Prop} (h : ProdsOff B w v l S) : ProdsOff B w v l (fun c => S c ∧ v.ownBlock ≠ some c) := by
  obtain ⟨f, g, h1, h2⟩ := h
  have key : ∀ {b n : Nat} {u : Value} {xs : List Value}, w.ownsRow b 3 1 u n xs → ∀ c, u.ownBlock = some c → v.ownBlock ≠ some c := by
    intro b n u xs k c hc e
    rcases h1.2 with ⟨e0, _⟩ | ⟨g, cap, cur, e0, _, hgg, _⟩
    · rw [e0] at e; simp [Value.ownBlock] at e
    · rw [e0] at e
      simp [Value.ownBlock] at e
      subst e
      exact ownsRow_ne k hgg (by decide) _ hc rfl
  refine ⟨f, g, h1, fun i p hp => ⟨(h2 i p hp).1, fun c hc => ⟨(h2 i p hp).2.1 c hc, ?_⟩, fun c hc => ⟨(h2 i p hp).2.2 c hc, ?_⟩⟩⟩
  · obtain ⟨⟨b, k⟩, _⟩ := (h2 i p hp).1
    exact key k c hc
  · obtain ⟨_, b, k⟩ := (h2 i p hp).1
    exact key k c hc
end Go.Proofs.YtddnomjfcbplpaaDoor

namespace Go.Proofs.YtddnomjfcbplpaaDoor
open Go.RowKit Go.Maps

theorem ABound.mono {s : Sp.Mk} {i T T' : Nat} (h : ABound s i T) (hT : T ≤ T') : ABound s i T' := ⟨Nat.le_trans h.1 hT, Nat.le_trans h.2.1 hT, Nat.le_trans h.2.2 hT⟩
end Go.Proofs.YtddnomjfcbplpaaDoor
