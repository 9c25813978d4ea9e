import Derived.Test.YtddnomjfcbplpaaGreatDoorZ07
namespace Go.Proofs.YtddnomjfcbplpaaGreatDoor
open Go.RowKit

section
variable {P : Program} {ops : Array Oper} {Q : Exit → Act → World → Prop} {md : Region.Mode} {S : World → Prop} {brk : Nat → Bool}

def wpAnyS (P : Program) (md : Region.Mode) (ops : Array Oper) (Q : Exit → Act → World → Prop) (S : World → Prop) (brk : Nat → Bool) : Nat → Array Bool → Act → World → Prop
 | 0, listed, a, w => Region.ready md ops listed = [] ∧ Q .normal a w
 | fuel + 1, listed, a, w =>
  (Region.ready md ops listed = [] → Q .normal a w) ∧
  ∀ i ∈ Region.ready md ops listed, wpOp P ops Q i (fun a' w' => (brk i = true ∨ S w') ∧ wpAnyS P md ops Q S brk fuel (listed.setIfInBounds i true) a' w') a w

theorem wpAny_of_S : ∀ (fuel : Nat) (listed : Array Bool) (a : Act) (w : World), wpAnyS P md ops Q S brk fuel listed a w → wpAny P md ops Q fuel listed a w
 | 0, _, _, _, h => h
 | fuel + 1, _, _, _, h => ⟨h.1, fun i hi => wpOp_mono (fun a' w' h' => wpAny_of_S fuel _ a' w' h'.2) (h.2 i hi)⟩

theorem wpAnyS_first {i f0 : Nat} {oi : Oper} {v : Value} (hi : ops[i]? = some oi) (hsel : ∀ (j : Nat) (o : Oper) cs b, ops[j]? = some o → o.op ≠ .select cs b)
  (hQ : ∀ c a w, Q (.panic c) (a.put oi.dst v) w → Q (.panic c) a w) (hbrk : ∀ j, brk j = true → reachB md ops f0 j i = true) (hib : brk i = false) :
  ∀ (fuel : Nat) (listed : Array Bool) (a : Act) (w : World), Closed md ops listed →
   (∀ j oj, ops[j]? = some oj → j ≠ i → listed.getD j true = false → (∀ e ∈ oj.after, Region.binds md e = true → e.on ≠ i) → oi.apart ops oj = true) →
   i ∈ Region.ready md ops listed → YieldsIf P ops S oi v a → S w →
   wpAnyS P md ops Q S brk fuel (listed.setIfInBounds i true) (a.put oi.dst v) w → wpAnyS P md ops Q S brk (fuel + 1) listed a w := by
 intro fuel
 induction fuel with
 | zero =>
  intro listed a w _ _ hr hy hS H
  refine ⟨fun h => (by rw [h] at hr; cases hr), fun j hj => ?_⟩
  by_cases hji : j = i
  ·subst hji; exact hy.wpOp hi hS ⟨.inr hS, H⟩
  ·have := ready_mono hj hji
   rw [H.1] at this
   cases this
 | succ fuel ih =>
  intro listed a w hcl hfree hr hy hS H
  refine ⟨fun h => (by rw [h] at hr; cases hr), fun j hj => ?_⟩
  by_cases hji : j = i
  ·subst hji; exact hy.wpOp hi hS ⟨.inr hS, H⟩
  ·have hjl : ¬ brk j = true := fun e => reach_ready hcl (hbrk j e) (mem_ready.1 hr).1 hj
   have h1 := H.2 j (ready_mono hj hji)
   obtain ⟨hjun, oj, hoj, hall⟩ := mem_ready.1 hj
   have hnot : ∀ e ∈ oj.after, Region.binds md e = true → e.on ≠ i := fun e he hb heq => by
    have h1 := hall e he hb
    have h0 := (mem_ready.1 hr).1
    rw [heq, getD_both h0] at h1
    cases h1
   have h1' := wpOp_mono (K' := fun a' w' => S w' ∧ wpAnyS P md ops Q S brk fuel ((listed.setIfInBounds i true).setIfInBounds j true) a' w') (fun a' w' h3 => ⟨h3.1.resolve_left hjl, h3.2⟩) h1
   have h2 := wpOp_putIf hoj (hfree j oj hoj hji hjun hnot) (fun cs b => hsel i oi cs b hi) (fun cs b => hsel j oj cs b hoj) hQ hy h1'
   have hfree' : ∀ k ok, ops[k]? = some ok → k ≠ i → (listed.setIfInBounds j true).getD k true = false →
     (∀ e ∈ ok.after, Region.binds md e = true → e.on ≠ i) → oi.apart ops ok = true := fun k ok hk hki hun hno => by
    refine hfree k ok hk hki ?_ hno
    by_cases hjk : j = k
    ·subst hjk; exact hjun
    ·rw [getD_set_ne true hjk] at hun; exact hun
   refine wpOp_mono (fun a' w' h3 => ⟨.inr h3.2.1, ih (listed.setIfInBounds j true) a' w' (hcl.set hj) hfree' (ready_mono hr (Ne.symm hji)) h3.1 h3.2.1 ?_⟩) h2
   rw [Array.setIfInBounds_comm _ _ hji]
   exact h3.2.2

inductive PT where
 | done
 | take (i : Nat) (t : PT)
 | one (i : Nat) (t : PT)
 | two (i j : Nat) (t u : PT)
def PT.len : PT → Nat
 | .done => 0
 | .take _ t => t.len + 1
 | .one _ t => t.len + 1
 | .two _ _ t _ => t.len + 1
def planB (md : Region.Mode) (ops : Array Oper) (brks : List Nat) : PT → Array Bool → Bool
 | .done, listed => (Region.ready md ops listed).isEmpty
 | .take i l, listed => (Region.ready md ops listed).contains i && Region.free md ops listed i && (!brks.contains i && brks.all fun j => reachB md ops ops.size j i) && planB md ops brks l (listed.setIfInBounds i true)
 | .one i l, listed => decide (Region.ready md ops listed = [i]) && planB md ops brks l (listed.setIfInBounds i true)
 | .two i j t u, listed => decide (Region.ready md ops listed = [i, j]) && decide (t.len = u.len) && planB md ops brks t (listed.setIfInBounds i true) && planB md ops brks u (listed.setIfInBounds j true)
def planA (md : Region.Mode) (ops : Array Oper) (brks : List Nat) (plan : PT) : Bool :=
 Region.noSelect ops && decide (plan.len = ops.size) && planB md ops brks plan (Array.replicate ops.size false)

def wpPlan (P : Program) (ops : Array Oper) (Q : Exit → Act → World → Prop) (S : World → Prop) (brks : List Nat) : PT → Act → World → Prop
 | .done, a, w => Q .normal a w
 | .take i l, a, w => S w ∧ ∃ o v, ops[i]? = some o ∧ YieldsIf P ops S o v a ∧ wpPlan P ops Q S brks l (a.put o.dst v) w
 | .one i l, a, w => wpOp P ops Q i (fun a' w' => (brks.contains i = true ∨ S w') ∧ wpPlan P ops Q S brks l a' w') a w
 | .two i j t u, a, w => wpOp P ops Q i (fun a' w' => (brks.contains i = true ∨ S w') ∧ wpPlan P ops Q S brks t a' w') a w ∧ wpOp P ops Q j (fun a' w' => (brks.contains j = true ∨ S w') ∧ wpPlan P ops Q S brks u a' w') a w

theorem put_panic (hQ : ∀ c (t : Array Value) (a : Act) w, Q (.panic c) ⟨t, a.defers⟩ w → Q (.panic c) a w) {c} {a : Act} {d : Option Tmp} {v : Value} {w : World} (h : Q (.panic c) (a.put d v) w) : Q (.panic c) a w := by
 cases d with
 | none => exact h
 | some d => exact hQ c _ a w h
theorem wpAnyS_plan {brks : List Nat} (hsel : Region.noSelect ops = true) (hQ : ∀ c (t : Array Value) (a : Act) w, Q (.panic c) ⟨t, a.defers⟩ w → Q (.panic c) a w) : ∀ (l : PT) (listed : Array Bool) (a : Act) (w : World),
  Closed md ops listed → planB md ops brks l listed = true → wpPlan P ops Q S brks l a w → wpAnyS P md ops Q S (fun j => brks.contains j) l.len listed a w
 | .done, listed, a, w, _, hB, h => ⟨by simpa [planB] using hB, h⟩
 | .take i l, listed, a, w, hcl, hB, h => by
  simp only [planB, Bool.and_eq_true] at hB
  obtain ⟨⟨⟨hr, hf⟩, hbi, hba⟩, hB'⟩ := hB
  obtain ⟨hS, o, v, ho, hy, hK⟩ := h
  have hr' : i ∈ Region.ready md ops listed := by simpa using hr
  refine wpAnyS_first (f0 := ops.size) ho (Region.noSelect_spec hsel) (fun c a w h => put_panic hQ h) (fun j hj => ?_) (by simpa using hbi) l.len listed a w hcl (Region.free_spec ho hf) hr' hy hS
   (wpAnyS_plan hsel hQ l _ _ _ (hcl.set hr') hB' hK)
  have := List.all_eq_true.1 hba j (by simpa using hj)
  exact this
 | .one i l, listed, a, w, hcl, hB, h => by
  simp only [planB, Bool.and_eq_true, decide_eq_true_eq] at hB
  obtain ⟨hr, hB'⟩ := hB
  refine ⟨fun h0 => (by rw [hr] at h0; cases h0), fun j hj => ?_⟩
  have hj' := hj
  rw [hr] at hj
  have hji : j = i := by simpa using hj
  subst hji
  exact wpOp_mono (fun a' w' h' => ⟨h'.1, wpAnyS_plan hsel hQ l _ _ _ (hcl.set hj') hB' h'.2⟩) h
 | .two i j t u, listed, a, w, hcl, hB, h => by
  simp only [planB, Bool.and_eq_true, decide_eq_true_eq] at hB
  obtain ⟨⟨⟨hr, hlen⟩, hB1⟩, hB2⟩ := hB
  refine ⟨fun h0 => (by rw [hr] at h0; cases h0), fun k hk => ?_⟩
  have hk' := hk
  rw [hr] at hk
  have hki : k = i ∨ k = j := by simpa using hk
  rcases hki with rfl | rfl
  ·exact wpOp_mono (fun a' w' h' => ⟨h'.1, wpAnyS_plan hsel hQ t _ _ _ (hcl.set hk') hB1 h'.2⟩) h.1
  ·refine wpOp_mono (fun a' w' h' => ⟨h'.1, ?_⟩) h.2
   have h2 := wpAnyS_plan hsel hQ u _ _ _ (hcl.set hk') hB2 h'.2
   rw [← hlen] at h2
   exact h2

theorem zq0 {α : Type} (l : List α) (i : Nat) (a : α) : l.toArray.setIfInBounds i a = (l.set i a).toArray := List.setIfInBounds_toArray ..
theorem zq1 {α : Type} (l : List α) (a b : α) : (b :: l).set 0 a = a :: l := rfl
theorem zq2 {α : Type} (l : List α) (i : Nat) (a b : α) : (b :: l).set (i + 1) a = b :: l.set i a := rfl
theorem wp_region_plan (S : World → Prop) (brks : List Nat) (plan : PT) {id : Nat} {a : Act} {w : World} (hm : P.follows .mixedOrders = true) (hA : planA .any ops brks plan = true)
  (hQ : ∀ c (t : Array Value) (a : Act) w, Q (.panic c) ⟨t, a.defers⟩ w → Q (.panic c) a w) (h : wpPlan P ops Q S brks plan a w.drew) : (Code.region id ops true).wp P Q a w := by
 simp only [planA, Bool.and_eq_true, decide_eq_true_eq] at hA
 obtain ⟨⟨hsel, hl⟩, hB⟩ := hA
 have H := wpAnyS_plan (md := .any) hsel hQ plan _ _ _ (Closed.start _) hB h
 rw [hl] at H
 exact wp_region_any hm (wpAny_of_S _ _ _ _ H)

theorem wpPlan_take {brks : List Nat} {i : Nat} {o : Oper} {v : Value} {l : PT} {a : Act} {w : World} (ho : ops[i]? = some o) (hS : S w)
  (hw : Region.wanted o (yielded ops a.tmps) = true) (hy : ∀ w, S w → (execOp a.eval o).run P w = .ok (.value v) w) (h : wpPlan P ops Q S brks l (a.put o.dst v) w) : wpPlan P ops Q S brks (.take i l) a w :=
 ⟨hS, o, v, ho, .inl ⟨hw, hy⟩, h⟩
theorem wpPlan_none {brks : List Nat} {i : Nat} {o : Oper} {l : PT} {a : Act} {w : World} (ho : ops[i]? = some o) (hS : S w)
  (hw : Region.wanted o (yielded ops a.tmps) = false) (h : wpPlan P ops Q S brks l (a.put o.dst undef) w) : wpPlan P ops Q S brks (.take i l) a w :=
 ⟨hS, o, undef, ho, .inr ⟨hw, rfl⟩, h⟩
theorem wpPlan_run {brks : List Nat} {i : Nat} {o : Oper} {l : PT} {a : Act} {w : World} (ho : ops[i]? = some o) (hw : Region.wanted o (yielded ops a.tmps) = true)
  (h : ∀ K' : Act → World → Prop, (∀ a w, (brks.contains i = true ∨ S w) → wpPlan P ops Q S brks l a w → K' a w) → Oper.wp P o a w K' Q) : wpPlan P ops Q S brks (.one i l) a w := by
 show wpOp P ops Q i _ a w
 unfold wpOp
 simp only [ho, hw, if_true]
 exact .inl (h _ (fun a w hS hW => ⟨hS, hW⟩))
theorem wpPlan_pass {brks : List Nat} {i : Nat} {o : Oper} {l : PT} {a : Act} {w : World} (ho : ops[i]? = some o) (hw : Region.wanted o (yielded ops a.tmps) = false) (hS : S w)
  (h : wpPlan P ops Q S brks l (a.put o.dst undef) w) : wpPlan P ops Q S brks (.one i l) a w := by
 show wpOp P ops Q i _ a w
 unfold wpOp
 simp only [ho, hw, Bool.false_eq_true, if_false]
 exact ⟨.inr hS, h⟩
theorem put_some {a : Act} {o : Oper} {d : Tmp} {v : Value} (hd : o.dst = some d) : a.put o.dst v = ⟨a.tmps.setIfInBounds d v, a.defers⟩ := by rw [hd]; rfl
theorem wpPlan_takeD {brks : List Nat} {i d : Nat} {o : Oper} {v : Value} {l : PT} {a : Act} {w : World} (ho : ops[i]? = some o) (hd : o.dst = some d) (hS : S w)
  (hw : Region.wanted o (yielded ops a.tmps) = true) (hy : ∀ w, S w → (execOp a.eval o).run P w = .ok (.value v) w) (h : wpPlan P ops Q S brks l ⟨a.tmps.setIfInBounds d v, a.defers⟩ w) : wpPlan P ops Q S brks (.take i l) a w :=
 wpPlan_take ho hS hw hy (by rw [put_some hd]; exact h)
theorem wpPlan_noneD {brks : List Nat} {i d : Nat} {o : Oper} {l : PT} {a : Act} {w : World} (ho : ops[i]? = some o) (hd : o.dst = some d) (hS : S w)
  (hw : Region.wanted o (yielded ops a.tmps) = false) (h : wpPlan P ops Q S brks l ⟨a.tmps.setIfInBounds d undef, a.defers⟩ w) : wpPlan P ops Q S brks (.take i l) a w :=
 wpPlan_none ho hS hw (by rw [put_some hd]; exact h)
theorem wpPlan_passD {brks : List Nat} {i d : Nat} {o : Oper} {l : PT} {a : Act} {w : World} (ho : ops[i]? = some o) (hd : o.dst = some d) (hw : Region.wanted o (yielded ops a.tmps) = false) (hS : S w)
  (h : wpPlan P ops Q S brks l ⟨a.tmps.setIfInBounds d undef, a.defers⟩ w) : wpPlan P ops Q S brks (.one i l) a w :=
 wpPlan_pass ho hw hS (by rw [put_some hd]; exact h)
theorem wpPlan_two {brks : List Nat} {i j : Nat} {t u : PT} {a : Act} {w : World} (h1 : wpPlan P ops Q S brks (.one i t) a w) (h2 : wpPlan P ops Q S brks (.one j u) a w) : wpPlan P ops Q S brks (.two i j t u) a w := ⟨h1, h2⟩
theorem wpPlan_done {brks : List Nat} {a : Act} {w : World} (h : Q .normal a w) : wpPlan P ops Q S brks .done a w := h
end
end Go.Proofs.YtddnomjfcbplpaaGreatDoor

namespace Go.Proofs.YtddnomjfcbplpaaGreatDoor
open Go.RowKit Go.Maps

theorem byte_wrap (c : UInt8) (h : 0 < (⟨#[c]⟩ : ByteArray).size) : wrap64 (((⟨#[c]⟩ : ByteArray)[0]'h).toNat : Int) = (c.toNat : Int) := by
 have e : ((⟨#[c]⟩ : ByteArray)[0]'h) = c := rfl
 rw [e]
 have := c.toNat_lt
 unfold wrap64
 omega
theorem zero_int (w : World) : (zeroValue 3).run Tryz.prog w = .ok (.int .i64 0) w := by kernel_rfl
theorem maker_box {B : Nat} {W : World} {m : Nat} {x : Sp.Source} {s : Sp.Mk} {v : MkV} {e0 at0 : Int} {nm0 : List UInt8} (h : MakerAt B W m x s v e0 at0 nm0) {o : Obj} {w' : World} (hb : Below (W.heap.size + 1) (W.alloc o) w') : MakerAt B w' m x s v e0 at0 nm0 :=
 maker_same h (((Below.refl _ W).alloc (Nat.le_refl _) o).trans (hb.mono (by omega)))
set_option maxRecDepth 100000 in
set_option maxHeartbeats 6400000 in
theorem maker_clash {B : Nat} {W : World} {m : Nat} {x : Sp.Source} {s : Sp.Mk} {v : MkV} {e0 at0 : Int} {nm0 : List UInt8} (y : Sp.Sym) (h : MakerAt B W m x s v e0 at0 nm0) (hn63 : s.toks.length ≤ 2 ^ 62) (hy : y.name.length ≤ maxLen) (hy1 : y.lit = true → ∃ c, y.name = [c]) :
  Calls Tryz.prog 84 #[.pointer (some ⟨m, 0, none⟩), symV y] W fun e w' => e = .returned (.bool (Sp.clash s y)) ∧ Below W.heap.size W w' := by
 obtain ⟨nm, lt, nu, pa⟩ := y
 simp only at hy hy1
 have hb := h.block
 unfold mkCells at hb
 have hl := lt_at hb
 have htm := h.tmap
 generalize hbt : v.bt = bt at *
 obtain ⟨kl, hkl⟩ := sym_key (b := lt) hy
 have HH := zh h
 have hHS1 : ∀ (ov : Int) (ob : Bool), (match Sp.tokIx s.toks nm lt with
   | some k => ((k : Int), true)
   | none => ((0 : Int), false)) = (ov, ob) → ∀ w', Below (W.heap.size + 1) (W.alloc (.cells #[.string ⟨nm.toArray⟩, .bool lt, .int .i64 nu, .int .i64 pa] 45)) w' → (w'.cell? ⟨m, 9, none⟩ = some (.map (some bt)) ∧ w'.cell? ⟨W.heap.size, 0, none⟩ = some (.string ⟨nm.toArray⟩) ∧ w'.cell? ⟨W.heap.size, 1, none⟩ = some (.bool lt) ∧ w'.cell? ⟨W.heap.size, 2, none⟩ = some (.int .i64 nu) ∧ w'.cell? ⟨W.heap.size, 3, none⟩ = some (.int .i64 pa) ∧ (Instr.lookup 95 (.map (some bt)) (.agg #[.string ⟨nm.toArray⟩, .bool lt]) true).run Tryz.prog w' = .ok (.tuple #[.int .i64 ov, .bool ob]) w') := by
  intro ov ob hob w' hw'
  have hbx := (hw'.block W.heap.size (by omega)).trans (heap_last W _)
  have hbm := (hw'.block m (by omega)).trans ((Below.heap_alloc _ _ _ hl).trans hb)
  have hk := (htm.block ((hw'.block bt (by have := htm.lt; omega)).trans (Below.heap_alloc _ _ _ htm.lt))).look true key_law Tryz.underlying95 (zero_int w') hkl
  refine ⟨cell_at (i := 9) hbm, cell_at (i := 0) hbx, cell_at (i := 1) hbx, cell_at (i := 2) hbx, cell_at (i := 3) hbx, ?_⟩
  rw [hk]
  have e : tokL s.toks (.agg #[.string ⟨nm.toArray⟩, .bool lt]) = (Sp.tokIx s.toks nm lt).map fun (k : Nat) => Value.int .i64 (k : Int) := rfl
  rw [e]
  cases ho : Sp.tokIx s.toks nm lt with
  | some k => rw [ho] at hob; simp only [Prod.mk.injEq] at hob; obtain ⟨rfl, rfl⟩ := hob; rfl
  | none => rw [ho] at hob; simp only [Prod.mk.injEq] at hob; obtain ⟨rfl, rfl⟩ := hob; rfl
 have HKY := zh (fun w => (show Calls Tryz.prog 82 #[.agg #[.string ⟨nm.toArray⟩, .bool lt, .int .i64 nu, .int .i64 pa]] w (fun e w' => e = .returned (.agg #[.string ⟨nm.toArray⟩, .bool lt]) ∧ Below w.heap.size w w') from gram_keyOf ⟨nm, lt, nu, pa⟩ w))
 have HTK := zh (fun w' (h : Below (W.heap.size + 1) (W.alloc (.cells #[.string ⟨nm.toArray⟩, .bool lt, .int .i64 nu, .int .i64 pa] 45)) w') => maker_taken (Sp.byte0 nm) (-1) (maker_box HH.out h) hn63)
 unfold Sp.clash
 simp only
 generalize Sp.taken s (Sp.byte0 nm) (-1) = tk at *
 cases ho : Sp.tokIx s.toks nm lt with
 | some k =>
  rw [ho] at hHS1
  have HS1 := zh (hHS1 _ _ rfl)
  clear hHS1 HTK htm hb h
  show Calls _ _ #[_, .agg #[.string ⟨nm.toArray⟩, .bool lt, .int .i64 nu, .int .i64 pa]] _ _
  go_enter Tryz.func84, Tryz.ntmps84
  go_wp2_with fail
  refine wp_region_plan (fun w' : World => (w'.cell? ⟨m, 9, none⟩ = some (.map (some bt)) ∧ w'.cell? ⟨W.heap.size, 0, none⟩ = some (.string ⟨nm.toArray⟩) ∧ w'.cell? ⟨W.heap.size, 1, none⟩ = some (.bool lt) ∧ w'.cell? ⟨W.heap.size, 2, none⟩ = some (.int .i64 nu) ∧ w'.cell? ⟨W.heap.size, 3, none⟩ = some (.int .i64 pa) ∧ (Instr.lookup 95 (.map (some bt)) (.agg #[.string ⟨nm.toArray⟩, .bool lt]) true).run Tryz.prog w' = .ok (.tuple #[.int .i64 (k : Int), .bool true]) w')) [] (.take 0 (.take 1 (.take 2 (.take 3 (.take 4 (.one 5 (.take 6 (.take 7 (.take 8 (.take 9 (.one 10 (.one 11 (.done))))))))))))) (by kernel_rfl) (by kernel_rfl) (fun _ _ _ _ h => h) ?_
  have hSw := HS1.out _ (below_drewN (Below.refl _ _) 1)
  iterate 5 (refine wpPlan_take (v := ?_) rfl hSw (by rfl) ?_ ?_; rotate_left 1; (focus (intro w hSx; (try dsimp only at hSx); go_simp; first | done | with_reducible rfl | rfl)); (try simp only [Act.put, zq0, zq1, zq2]))
  refine wpPlan_run rfl (by rfl) (fun K' hK => ?_)
  (go_simp; go_at_call 82; refine (HKY.out _).mono ?_; rintro e w1 ⟨rfl, hb1⟩; have HB1 := zh (show Below (W.heap.size + 1) (W.alloc (.cells #[.string ⟨nm.toArray⟩, .bool lt, .int .i64 nu, .int .i64 pa] 45)) w1 from (below_undrew hb1).mono (by show _ ≤ (W.alloc _).heap.size; simp)); clear hb1)
  refine hK _ _ (.inr ?_) ?_
  ·exact HS1.out _ HB1.out
  clear hK K' hSw
  have hSw := HS1.out _ HB1.out
  (try simp only [Act.put, zq0, zq1, zq2])
  iterate 4 (refine wpPlan_take (v := ?_) rfl hSw (by rfl) ?_ ?_; rotate_left 1; (focus (intro w hSx; (try dsimp only at hSx); go_simp; first | done | with_reducible rfl | rfl)); (try simp only [Act.put, zq0, zq1, zq2]))
  refine wpPlan_run rfl (by rfl) (fun K' hK => ?_)
  go_simp
  refine hK _ _ (.inr ?_) ?_
  ·exact HS1.out _ HB1.out
  clear hK K' hSw
  (try simp only [Act.put, zq0, zq1, zq2])
  refine wpPlan_run rfl (by rfl) (fun K' hK => ?_)
  go_simp
  refine hK _ _ (.inr ?_) ?_
  ·exact HS1.out _ HB1.out
  clear hK K'
  (try simp only [Act.put, zq0, zq1, zq2])
  refine wpPlan_done ?_
  obtain ⟨_, z0, z1, z2, z3, _⟩ := HS1.out _ HB1.out
  have hlw : W.heap.size < w1.heap.size := by have := HB1.out.size; rw [World.size_alloc] at this; omega
  cases lt with
  | false =>
   go_wp2_with fail
   go_ret
   exact ⟨ret_bool rfl, below_box HB1.out⟩
  | true =>
   go_wp2_with fail
   go_ret
   exact ⟨ret_bool rfl, below_box HB1.out⟩
 | none =>
  rw [ho] at hHS1
  have HS1 := zh (hHS1 _ _ rfl)
  clear hHS1 htm hb h
  cases lt with
  | false =>
   clear HTK
   show Calls _ _ #[_, .agg #[.string ⟨nm.toArray⟩, .bool false, .int .i64 nu, .int .i64 pa]] _ _
   go_enter Tryz.func84, Tryz.ntmps84
   go_wp2_with fail
   refine wp_region_plan (fun w' : World => (w'.cell? ⟨m, 9, none⟩ = some (.map (some bt)) ∧ w'.cell? ⟨W.heap.size, 0, none⟩ = some (.string ⟨nm.toArray⟩) ∧ w'.cell? ⟨W.heap.size, 1, none⟩ = some (.bool false) ∧ w'.cell? ⟨W.heap.size, 2, none⟩ = some (.int .i64 nu) ∧ w'.cell? ⟨W.heap.size, 3, none⟩ = some (.int .i64 pa) ∧ (Instr.lookup 95 (.map (some bt)) (.agg #[.string ⟨nm.toArray⟩, .bool false]) true).run Tryz.prog w' = .ok (.tuple #[.int .i64 0, .bool false]) w')) [] (.take 0 (.take 1 (.take 2 (.take 3 (.take 4 (.one 5 (.take 6 (.take 7 (.take 8 (.take 9 (.one 10 (.one 11 (.done))))))))))))) (by kernel_rfl) (by kernel_rfl) (fun _ _ _ _ h => h) ?_
   have hSw := HS1.out _ (below_drewN (Below.refl _ _) 1)
   iterate 5 (refine wpPlan_take (v := ?_) rfl hSw (by rfl) ?_ ?_; rotate_left 1; (focus (intro w hSx; (try dsimp only at hSx); go_simp; first | done | with_reducible rfl | rfl)); (try simp only [Act.put, zq0, zq1, zq2]))
   refine wpPlan_run rfl (by rfl) (fun K' hK => ?_)
   (go_simp; go_at_call 82; refine (HKY.out _).mono ?_; rintro e w1 ⟨rfl, hb1⟩; have HB1 := zh (show Below (W.heap.size + 1) (W.alloc (.cells #[.string ⟨nm.toArray⟩, .bool false, .int .i64 nu, .int .i64 pa] 45)) w1 from (below_undrew hb1).mono (by show _ ≤ (W.alloc _).heap.size; simp)); clear hb1)
   refine hK _ _ (.inr ?_) ?_
   ·exact HS1.out _ HB1.out
   clear hK K' hSw
   have hSw := HS1.out _ HB1.out
   (try simp only [Act.put, zq0, zq1, zq2])
   iterate 4 (refine wpPlan_take (v := ?_) rfl hSw (by rfl) ?_ ?_; rotate_left 1; (focus (intro w hSx; (try dsimp only at hSx); go_simp; first | done | with_reducible rfl | rfl)); (try simp only [Act.put, zq0, zq1, zq2]))
   refine wpPlan_run rfl (by rfl) (fun K' hK => ?_)
   go_simp
   refine hK _ _ (.inr ?_) ?_
   ·exact HS1.out _ HB1.out
   clear hK K' hSw
   (try simp only [Act.put, zq0, zq1, zq2])
   refine wpPlan_run rfl (by rfl) (fun K' hK => ?_)
   go_simp
   refine hK _ _ (.inr ?_) ?_
   ·exact HS1.out _ HB1.out
   clear hK K'
   (try simp only [Act.put, zq0, zq1, zq2])
   refine wpPlan_done ?_
   obtain ⟨_, z0, z1, z2, z3, _⟩ := HS1.out _ HB1.out
   have hlw : W.heap.size < w1.heap.size := by have := HB1.out.size; rw [World.size_alloc] at this; omega
   go_wp2_with fail
   go_ret
   exact ⟨ret_bool rfl, below_box HB1.out⟩
  | true =>
   obtain ⟨c, rfl⟩ := hy1 rfl
   have hb0 : Sp.byte0 [c] = (c.toNat : Int) := rfl
   rw [hb0] at HTK
   clear hb0
   show Calls _ _ #[_, .agg #[.string ⟨[c].toArray⟩, .bool true, .int .i64 nu, .int .i64 pa]] _ _
   go_enter Tryz.func84, Tryz.ntmps84
   go_wp2_with fail
   refine wp_region_plan (fun w' : World => (w'.cell? ⟨m, 9, none⟩ = some (.map (some bt)) ∧ w'.cell? ⟨W.heap.size, 0, none⟩ = some (.string ⟨[c].toArray⟩) ∧ w'.cell? ⟨W.heap.size, 1, none⟩ = some (.bool true) ∧ w'.cell? ⟨W.heap.size, 2, none⟩ = some (.int .i64 nu) ∧ w'.cell? ⟨W.heap.size, 3, none⟩ = some (.int .i64 pa) ∧ (Instr.lookup 95 (.map (some bt)) (.agg #[.string ⟨[c].toArray⟩, .bool true]) true).run Tryz.prog w' = .ok (.tuple #[.int .i64 0, .bool false]) w')) [] (.take 0 (.take 1 (.take 2 (.take 3 (.take 4 (.one 5 (.take 6 (.take 7 (.take 8 (.take 9 (.one 10 (.one 11 (.done))))))))))))) (by kernel_rfl) (by kernel_rfl) (fun _ _ _ _ h => h) ?_
   have hSw := HS1.out _ (below_drewN (Below.refl _ _) 1)
   iterate 5 (refine wpPlan_take (v := ?_) rfl hSw (by rfl) ?_ ?_; rotate_left 1; (focus (intro w hSx; (try dsimp only at hSx); go_simp; first | done | with_reducible rfl | rfl)); (try simp only [Act.put, zq0, zq1, zq2]))
   refine wpPlan_run rfl (by rfl) (fun K' hK => ?_)
   (go_simp; go_at_call 82; refine (HKY.out _).mono ?_; rintro e w1 ⟨rfl, hb1⟩; have HB1 := zh (show Below (W.heap.size + 1) (W.alloc (.cells #[.string ⟨[c].toArray⟩, .bool true, .int .i64 nu, .int .i64 pa] 45)) w1 from (below_undrew hb1).mono (by show _ ≤ (W.alloc _).heap.size; simp)); clear hb1)
   refine hK _ _ (.inr ?_) ?_
   ·exact HS1.out _ HB1.out
   clear hK K' hSw
   have hSw := HS1.out _ HB1.out
   (try simp only [Act.put, zq0, zq1, zq2])
   iterate 4 (refine wpPlan_take (v := ?_) rfl hSw (by rfl) ?_ ?_; rotate_left 1; (focus (intro w hSx; (try dsimp only at hSx); go_simp; first | done | with_reducible rfl | rfl)); (try simp only [Act.put, zq0, zq1, zq2]))
   refine wpPlan_run rfl (by rfl) (fun K' hK => ?_)
   go_simp
   refine hK _ _ (.inr ?_) ?_
   ·exact HS1.out _ HB1.out
   clear hK K' hSw
   (try simp only [Act.put, zq0, zq1, zq2])
   refine wpPlan_run rfl (by rfl) (fun K' hK => ?_)
   go_simp
   refine hK _ _ (.inr ?_) ?_
   ·exact HS1.out _ HB1.out
   clear hK K'
   (try simp only [Act.put, zq0, zq1, zq2])
   refine wpPlan_done ?_
   obtain ⟨_, z0, z1, z2, z3, _⟩ := HS1.out _ HB1.out
   have hlw : W.heap.size < w1.heap.size := by have := HB1.out.size; rw [World.size_alloc] at this; omega
   go_wp2_with fail
   rw [byte_wrap]
   refine (HTK.out _ HB1.out).mono ?_
   rintro e w2 ⟨rfl, rfl⟩
   go_wp2_with fail
   go_ret
   exact ⟨ret_bool rfl, below_box HB1.out⟩
end Go.Proofs.YtddnomjfcbplpaaGreatDoor
