/- Numbers copied into a row of their own: append([]int{}, l...). The document's maker: what stands while an alternative is made. -/
import Derived.Deep.AppendLies
import Derived.Test.YtphdfbmmjkccgaaDoorZ06
import Derived.Test.YtphdfbmmjkccgaaDoorZ12
namespace Go.Proofs.YtphdfbmmjkccgaaDoor
open Go.RowKit Go.Maps

theorem ownsRow_empty {w : World} {e : TypeId} {size g0 : Nat} (h0 : w.heap[g0]? = some (.cells #[] e (0, 0))) : w.ownsRow g0 e size (.slice (some ⟨g0, 0, none⟩) 0 0) 0 [] :=
  ⟨by simp, .inr ⟨g0, 0, #[], rfl, Nat.le_refl _, h0, Nat.le_refl _, by unfold maxLen; omega, by simp, by simp⟩⟩
theorem wp_copy_intsE {o : Oper} {a : Act} {K : Act → World → Prop} {Q : Exit → Act → World → Prop} {w : World} (x0 x : Operand) (ho : o.op = .call { callee := .builtin .append, args := #[x0, x], argTypes := #[46, 46] })
    {B g0 : Nat} {right : List Int} {ra : Option Addr} {rc : Nat} (hs : a.eval x0 = .slice (some ⟨g0, 0, none⟩) 0 0) (h0 : w.heap[g0]? = some (.cells #[] 3 (0, 0))) (hx : a.eval x = .slice ra right.length rc) (hrow : w.ownsRow B 3 1 (.slice ra right.length rc) right.length (intsC right)) (hnil : right = [] → ra = none ∧ rc = 0) (hr : right.length ≤ 100000)
    (h : ∀ (gg cap : Nat) (w' : World), (∃ b, w'.ownsRow b 3 1 (.slice (some ⟨gg, 0, none⟩) right.length cap) right.length (intsC right)) → Kp (fun b => b ≠ g0) w w' → (gg = g0 ∨ w.heap.size ≤ gg) → K (a.put o.dst (.slice (some ⟨gg, 0, none⟩) right.length cap)) w') : Oper.wp Tryd.prog o a w K Q := by
  obtain ⟨ii0, hii0, hiz0, hiz1, hiz2⟩ := info_parts info_intE2
  have hE : w.ownsRow g0 3 1 (.slice (some ⟨g0, 0, none⟩) 0 0) 0 [] := ownsRow_empty h0
  cases right with
  | nil =>
    obtain ⟨rfl, rfl⟩ := hnil rfl
    have h1 := h g0 0 w ⟨g0, hE⟩ (Kp.refl _ _) (.inl rfl)
    have hx' : a.eval x = .slice none 0 0 := hx
    have hrun := run_append_owned_none (P := Tryd.prog) (w := w) g0 46 o.type 3 ii0 1 Tryd.underlying46 hii0 (.slice (some ⟨g0, 0, none⟩) 0 0) 0 [] hE
    unfold Oper.wp
    simp only [execOp, ho, resolve, invoke, builtin, hs, hx', hrun, Sem.run_bind, Sem.run_pure, Result.andThen_ok, List.map_toArray, List.map_cons, List.map_nil]
    exact h1
  | cons c0 l0 =>
    generalize hrt : c0 :: l0 = right at *
    have hn : 0 < right.length := by rw [← hrt]; simp
    obtain ⟨gr, cr, hv⟩ := own_form hrow hn
    simp only [Value.slice.injEq] at hv
    obtain ⟨rfl, _, rfl⟩ := hv
    refine wp_append_lies w x0 x 46 ho g0 3 ii0 _ 1 8 Tryd.underlying46 hii0 hiz0 hiz1 hiz2 rfl (by omega) (.slice (some ⟨g0, 0, none⟩) 0 0) 0 [] hs hE ⟨gr, 0, none⟩ right.length rc (intsC right) hx (by unfold intsC; simp) ?_ ?_ hn (by unfold maxLen; omega) (by omega) (Nat.le_of_lt (lt_at h0)) _ rfl ?_
    · intro j u hj
      have hjl : j < right.length := by have := (List.getElem?_eq_some_iff.1 hj).1; unfold intsC at this; simpa using this
      have e : (⟨gr, 0, none⟩ : Addr).add j = ⟨gr, j, none⟩ := by unfold Addr.add; split <;> simp_all
      rw [e, hrow.cellAt j (by omega)]
      exact hj
    · intro u hu
      unfold intsC at hu
      obtain ⟨z, _, rfl⟩ := List.mem_map.1 hu
      rfl
    · intro g cap w' hown hgrow hat hlt
      rw [Nat.zero_add, List.nil_append] at hown
      rw [Nat.zero_add]
      refine h _ _ w' ⟨_, hown⟩ ((Kp.refl _ w).grown hgrow (fun k hk hs => hs (Option.some.inj hk).symm)) ?_
      rcases hat with h1 | h1
      · left
        have e : g0 = g := by simpa [Value.ownBlock] using h1
        exact e.symm
      · exact .inr (by omega)
theorem wpList_copy_intsE {ops : Array Oper} {rest : List Oper} {o : Oper} {a : Act} {Q : Exit → Act → World → Prop} {w : World} (hgd : o.guard = none) (x0 x : Operand) (ho : o.op = .call { callee := .builtin .append, args := #[x0, x], argTypes := #[46, 46] })
    {B g0 : Nat} {right : List Int} {ra : Option Addr} {rc : Nat} (hs : a.eval x0 = .slice (some ⟨g0, 0, none⟩) 0 0) (h0 : w.heap[g0]? = some (.cells #[] 3 (0, 0))) (hx : a.eval x = .slice ra right.length rc) (hrow : w.ownsRow B 3 1 (.slice ra right.length rc) right.length (intsC right)) (hnil : right = [] → ra = none ∧ rc = 0) (hr : right.length ≤ 100000)
    (h : ∀ (gg cap : Nat) (w' : World), (∃ b, w'.ownsRow b 3 1 (.slice (some ⟨gg, 0, none⟩) right.length cap) right.length (intsC right)) → Kp (fun b => b ≠ g0) w w' → (gg = g0 ∨ w.heap.size ≤ gg) → wpList Tryd.prog ops Q rest (a.put o.dst (.slice (some ⟨gg, 0, none⟩) right.length cap)) w') : wpList Tryd.prog ops Q (o :: rest) a w :=
  wpList_plain hgd fun _ hK => wp_copy_intsE x0 x ho hs h0 hx hrow hnil hr fun gg cap w' h1 h2 h3 => hK _ _ (h gg cap w' h1 h2 h3)
end Go.Proofs.YtphdfbmmjkccgaaDoor

namespace Go.Proofs.YtphdfbmmjkccgaaDoor
open Go.RowKit Go.Maps

theorem ints_snocR (l : List Int) (x : Int) : intsC (l ++ [x]) = intsC l ++ [.int .i64 x] := by unfold intsC; rw [List.map_append]; rfl
def RTA (t : TypeId) : Prop := RT t ∧ t ≠ 84
theorem ProdsOff.of {B : Nat} {w w' : World} {v : Value} {l : List Sp.Prod} {S : Nat → Prop} (h : ProdsOff B w v l S) (hv : ∀ (n : Nat) (xs : List Value), w.ownsRow B 84 6 v n xs → w'.ownsRow B 84 6 v n xs)
    (hi : ∀ (b : Nat) (u : Value) (n : Nat) (xs : List Value), w.ownsRow b 3 1 u n xs → (∀ c, u.ownBlock = some c → S c) → w'.ownsRow b 3 1 u n xs) : ProdsOff B w' v l S := by
  obtain ⟨f, g, h1, h2⟩ := h
  refine ⟨f, g, hv _ _ h1, fun i p hp => ?_⟩
  obtain ⟨⟨⟨b, k1⟩, c, k2⟩, h3, h4⟩ := h2 i p hp
  exact ⟨⟨⟨b, hi _ _ _ _ k1 h3⟩, c, hi _ _ _ _ k2 h4⟩, h3, h4⟩
/-- Another S, and a change that keeps all that is no number and what S names. -/
theorem RefAt.ints {S S' : Nat → Prop} {B m : Nat} {w w' : World} {r : Sp.Rk} {v : RkV} (h : RefAt S B w m r v) (kt : KpT (fun t => t ≠ 3) w w') (k : Kp S w w') (hm : ∀ c, c < w.heap.size → S c → S' c) : RefAt S' B w' m r v := by
  refine ⟨kt m _ _ _ h.block (by decide), ownsRow_kpT h.toks kt (by decide), ownsRow_kpT h.given kt (by decide), ownsRow_kpT h.types kt (by decide), ownsRow_kpT h.lefts kt (by decide), ?_, h.behind⟩
  obtain ⟨f, g, h1, h2⟩ := h.prods
  refine ⟨f, g, ownsRow_kpT h1 kt (by decide), fun i p hp => ?_⟩
  obtain ⟨⟨⟨b, k1⟩, c, k2⟩, h3, h4⟩ := h2 i p hp
  exact ⟨⟨⟨b, ownsRow_kp k1 k h3⟩, c, ownsRow_kp k2 k h4⟩, fun c hc => hm c (k1.lt c hc).2 (h3 c hc), fun c hc => hm c (k2.lt c hc).2 (h4 c hc)⟩
/-- A box of a production, no part of the maker's rows, is written. -/
theorem RefAt.pbox {S : Nat → Prop} {B m pb : Nat} {w : World} {r : Sp.Rk} {v : RkV} {cs : Array Value} (h : RefAt S B w m r v) (hb : w.heap[pb]? = some (.cells cs 84 (0, 0))) (ha : v.pv.ownBlock ≠ some pb) (i : Nat) (u : Value) : RefAt S B (w.setCell ⟨pb, i, none⟩ u) m r v := by
  have kt : KpT (fun t => t ≠ 84) w (w.setCell ⟨pb, i, none⟩ u) := KpT.setCell (fun _ _ _ _ h _ => h) hb (by simp) _
  have k : Kp (fun b => b ≠ pb) w (w.setCell ⟨pb, i, none⟩ u) := (Kp.refl _ w).setCell (by simp) _
  refine ⟨kt m _ _ _ h.block (by decide), ownsRow_kpT h.toks kt (by decide), ownsRow_kpT h.given kt (by decide), ownsRow_kpT h.types kt (by decide), ownsRow_kpT h.lefts kt (by decide), ?_, h.behind⟩
  obtain ⟨f, g, h1, h2⟩ := h.prods
  refine ⟨f, g, ownsRow_kp h1 k (fun b hb e => ha (by rw [hb, e])), fun i p hp => ?_⟩
  obtain ⟨⟨⟨b, k1⟩, c, k2⟩, h3, h4⟩ := h2 i p hp
  exact ⟨⟨⟨b, ownsRow_kpT k1 kt (by decide)⟩, c, ownsRow_kpT k2 kt (by decide)⟩, h3, h4⟩
/-- A production more. -/
theorem RefAt.addProd {S : Nat → Prop} {B m : Nat} {w wa : World} {r : Sp.Rk} {v : RkV} {f g : Nat → Value} {u ru au : Value} {p : Sp.Prod} (h : RefAt S B w m r v)
    (hc : ∀ (i : Nat) (p : Sp.Prod), r.prods[i]? = some p → ((∃ b, w.ownsRow b 3 1 (f i) p.right.length (intsC p.right)) ∧ ∃ b, w.ownsRow b 3 1 (g i) p.args.length (intsC p.args)) ∧ (∀ c, (f i).ownBlock = some c → S c) ∧ ∀ c, (g i).ownBlock = some c → S c)
    (hown : wa.ownsRow B 84 6 u (r.prods.length + 1) ((r.prods.mapIdx fun i p => prodC (f i) (g i) p).flatten ++ prodC ru au p)) (kt : KpT (fun t => t ≠ 84) w wa) (hb : Below B w wa)
    (hu : ∃ b, wa.ownsRow b 3 1 ru p.right.length (intsC p.right)) (ha : ∃ b, wa.ownsRow b 3 1 au p.args.length (intsC p.args)) (hSu : ∀ c, ru.ownBlock = some c → S c) (hSa : ∀ c, au.ownBlock = some c → S c) :
    RefAt S B (wa.setCell ⟨m, 2, none⟩ u) m { r with prods := r.prods ++ [p] } { v with pv := u } ∧ Below B w (wa.setCell ⟨m, 2, none⟩ u) ∧ KpT RTA w (wa.setCell ⟨m, 2, none⟩ u) := by
  have hm := kt m _ _ _ h.block (by decide)
  obtain ⟨k1, k2⟩ := RefAt.box1 hm h.behind 2 u
  refine ⟨⟨heap_setCell_at hm, ownsRow_kpT (ownsRow_kpT h.toks kt (by decide)) k1 (by decide), ownsRow_kpT (ownsRow_kpT h.given kt (by decide)) k1 (by decide), ownsRow_kpT (ownsRow_kpT h.types kt (by decide)) k1 (by decide), ownsRow_kpT (ownsRow_kpT h.lefts kt (by decide)) k1 (by decide), ?_, h.behind⟩, hb.trans k2.1, (kt.mono (fun t ht => ht.2)).trans (k2.2.mono (fun t ht => ht.1))⟩
  have hP : ProdsOff B wa u (r.prods ++ [p]) S := prods_snoc (w := wa) (w' := wa) (T := fun _ => True) (S := S) (f := f) (g := g) (fun i q hq => by
    obtain ⟨⟨⟨b, k1⟩, c, k2⟩, h3, h4⟩ := hc i q hq
    exact ⟨⟨⟨b, ownsRow_kpT k1 kt (by decide)⟩, c, ownsRow_kpT k2 kt (by decide)⟩, h3, h4⟩) (Kp.refl _ _) (fun _ _ => trivial) hown hu ha hSu hSa
  exact hP.kpT k1 (by decide) (by decide)
/-- While an alternative is made: the maker, the alternative's and the production's boxes, its Right. -/
structure AltS (W0 W : World) (m ab pb : Nat) (ac : Array Value) (rr : Sp.Rk) (pp : Sp.Prod) (prv : Value) (v : RkV) (wx : World) : Prop where
  mkr : RefAt (fun c => prv.ownBlock ≠ some c) W0.heap.size wx m rr v
  abox : wx.heap[ab]? = some (.cells ac 42 (0, 0))
  pbox : wx.heap[pb]? = some (.cells (prodC prv (.slice none 0 0) pp).toArray 84 (0, 0))
  right : wx.ownsRow W.heap.size 3 1 prv pp.right.length (intsC pp.right)
  apart : v.pv.ownBlock ≠ some pb
  old : KpT RTA W wx
  bel : Below W0.heap.size W0 wx
  size : W.heap.size ≤ wx.heap.size
  pge : W.heap.size ≤ pb
  age : W.heap.size ≤ ab
  w0 : W0.heap.size ≤ W.heap.size
theorem KpT.stepKp {T : TypeId → Prop} {S : Nat → Prop} {W wx w' : World} (h : KpT T W wx) (k : Kp S wx w') (hs : ∀ b, b < W.heap.size → S b) : KpT T W w' := fun b cs t fr hb ht => k.at (h b cs t fr hb ht) (hs b (lt_at hb))
section
variable {W0 W wx w' wa : World} {m ab pb : Nat} {ac : Array Value} {rr rr' : Sp.Rk} {pp pp' : Sp.Prod} {prv : Value} {v v' : RkV}
/-- Behind a step of the maker's. -/
theorem AltS.rfr (h : AltS W0 W m ab pb ac rr pp prv v wx) (hm : RefAt (fun c => prv.ownBlock ≠ some c) W0.heap.size w' m rr' v') (hv : v'.pv = v.pv) (hf : RFr W0.heap.size wx w') : AltS W0 W m ab pb ac rr' pp prv v' w' :=
  ⟨hm, hf.at h.abox (by unfold RT; decide), hf.at h.pbox (by unfold RT; decide), ownsRow_kpT h.right hf.2 (by unfold RT; decide), by rw [hv]; exact h.apart, h.old.trans (hf.2.mono (fun t ht => ht.1)), h.bel.trans hf.1, Nat.le_trans h.size hf.size, h.pge, h.age, h.w0⟩
theorem AltS.below (h : AltS W0 W m ab pb ac rr pp prv v wx) (hb : Below wx.heap.size wx w') : AltS W0 W m ab pb ac rr pp prv v w' :=
  h.rfr (h.mkr.below hb) rfl (RFr.below hb (Nat.le_trans h.w0 h.size))
/-- Right has a number more. -/
theorem AltS.push {g n c : Nat} {x : Int} (h : AltS W0 W m ab pb ac rr pp prv v wx) (k : Kp (fun b => prv.ownBlock ≠ some b) wx wa) (kt : KpT (fun t => t ≠ 3) wx wa) (hown : wa.ownsRow W.heap.size 3 1 (.slice (some ⟨g, 0, none⟩) n c) (pp.right.length + 1) (intsC pp.right ++ [.int .i64 x])) (hat : prv.ownBlock = some g ∨ wx.heap.size ≤ g) :
    AltS W0 W m ab pb ac rr { pp with right := pp.right ++ [x] } (.slice (some ⟨g, 0, none⟩) n c) v (wa.setCell ⟨pb, 1, none⟩ (.slice (some ⟨g, 0, none⟩) n c)) := by
  have hpb := kt pb _ _ _ h.pbox (by decide)
  have hS : ∀ b, b < W.heap.size → prv.ownBlock ≠ some b := fun b hb e => by have := (h.right.lt b e).1; omega
  have hmk : RefAt (fun c' => (Value.slice (some ⟨g, 0, none⟩) n c).ownBlock ≠ some c') W0.heap.size wa m rr v := h.mkr.ints kt k (fun c' hc hs e => by
    have e1 : g = c' := by simpa [Value.ownBlock] using e
    subst e1
    rcases hat with h1 | h1
    · exact hs h1
    · omega)
  have kP : KpT (fun t => t ≠ 84) wa (wa.setCell ⟨pb, 1, none⟩ (.slice (some ⟨g, 0, none⟩) n c)) := KpT.setCell (fun _ _ _ _ h _ => h) hpb (by simp) _
  have kb : Kp (fun b => b ≠ pb) wa (wa.setCell ⟨pb, 1, none⟩ (.slice (some ⟨g, 0, none⟩) n c)) := (Kp.refl _ wa).setCell (by simp) _
  have hold : KpT RTA W wa := h.old.stepKp k hS
  refine ⟨hmk.pbox hpb h.apart 1 _, kP ab _ _ _ (kt ab _ _ _ h.abox (by decide)) (by decide), heap_setCell_at hpb, ?_, h.apart, hold.stepKp kb (fun b hb => by have := h.pge; omega), ?_, ?_, h.pge, h.age, h.w0⟩
  · rw [List.length_append, ints_snocR]
    exact ownsRow_kpT hown kP (by decide)
  · exact (h.bel.trans (Kp.below k (Nat.le_trans h.w0 h.size) (fun b hb => hS b (by have := h.w0; omega)))).trans (Kp.below kb (Nat.le_trans (Nat.le_trans h.w0 h.size) k.size) (fun b hb => by have := h.pge; have := h.w0; omega))
  · exact Nat.le_trans h.size (Nat.le_trans k.size (by simp [World.setCell]))
/-- A field of the production is written. -/
theorem AltS.setp (i : Nat) (u : Value) (h : AltS W0 W m ab pb ac rr pp prv v wx) (e : (prodC prv (.slice none 0 0) pp).toArray.setIfInBounds i u = (prodC prv (.slice none 0 0) pp').toArray) (er : pp'.right = pp.right) :
    AltS W0 W m ab pb ac rr pp' prv v (wx.setCell ⟨pb, i, none⟩ u) := by
  have kP : KpT (fun t => t ≠ 84) wx (wx.setCell ⟨pb, i, none⟩ u) := KpT.setCell (fun _ _ _ _ h _ => h) h.pbox (by simp) _
  have kb : Kp (fun b => b ≠ pb) wx (wx.setCell ⟨pb, i, none⟩ u) := (Kp.refl _ wx).setCell (by simp) _
  refine ⟨h.mkr.pbox h.pbox h.apart i u, kP ab _ _ _ h.abox (by decide), ?_, ?_, h.apart, h.old.stepKp kb (fun b hb => by have := h.pge; omega), ?_, Nat.le_trans h.size kb.size, h.pge, h.age, h.w0⟩
  · rw [← e]; exact heap_setCell_at h.pbox
  · rw [er]; exact ownsRow_kpT h.right kP (by decide)
  · exact h.bel.trans (Kp.below kb (Nat.le_trans h.w0 h.size) (fun b hb => by have := h.pge; have := h.w0; omega))
/-- A production more ahead of it. -/
theorem AltS.inner {f g : Nat → Value} {q : Sp.Prod} {au : Value} {g1 n c : Nat} (h : AltS W0 W m ab pb ac rr pp prv v wx)
    (hc : ∀ (i : Nat) (p : Sp.Prod), rr.prods[i]? = some p → ((∃ b, wx.ownsRow b 3 1 (f i) p.right.length (intsC p.right)) ∧ ∃ b, wx.ownsRow b 3 1 (g i) p.args.length (intsC p.args)) ∧ (∀ c, (f i).ownBlock = some c → prv.ownBlock ≠ some c) ∧ ∀ c, (g i).ownBlock = some c → prv.ownBlock ≠ some c)
    (hown : wa.ownsRow W0.heap.size 84 6 (.slice (some ⟨g1, 0, none⟩) n c) (rr.prods.length + 1) ((rr.prods.mapIdx fun i p => prodC (f i) (g i) p).flatten ++ prodC (.slice none 0 0) au q)) (kt : KpT (fun t => t ≠ 84) wx wa) (k : Kp (fun b => v.pv.ownBlock ≠ some b) wx wa)
    (hq : q.right = []) (ha : ∃ b, wa.ownsRow b 3 1 au q.args.length (intsC q.args)) (hau : ∀ c, au.ownBlock = some c → wx.heap.size ≤ c) (hat : v.pv.ownBlock = some g1 ∨ wx.heap.size ≤ g1) :
    AltS W0 W m ab pb ac { rr with prods := rr.prods ++ [q] } pp prv { v with pv := .slice (some ⟨g1, 0, none⟩) n c } (wa.setCell ⟨m, 2, none⟩ (.slice (some ⟨g1, 0, none⟩) n c)) := by
  have hB : Below W0.heap.size wx wa := Kp.below k (Nat.le_trans h.w0 h.size) (fun b hb e => by
    obtain ⟨f', g', h1, _⟩ := h.mkr.prods
    have := (h1.lt b e).1
    omega)
  have hpb : wa.heap[pb]? = some (.cells (prodC prv (.slice none 0 0) pp).toArray 84 (0, 0)) := k.at h.pbox h.apart
  have hlt := lt_at h.pbox
  obtain ⟨h1, h2, h3⟩ := h.mkr.addProd hc hown kt hB ⟨0, by rw [hq]; exact World.ownsRow_nil _ _ _ _⟩ ha (fun c hc => by simp [Value.ownBlock] at hc) (fun c hc e => by
    have := hau c hc
    have := (h.right.lt c e).2
    omega)
  have hm := kt m _ _ _ h.mkr.block (by decide)
  have k1 := (RefAt.box1 hm h.mkr.behind 2 (.slice (some ⟨g1, 0, none⟩) n c)).1
  refine ⟨h1, k1 ab _ _ _ (kt ab _ _ _ h.abox (by decide)) (by decide), k1 pb _ _ _ hpb (by decide), ownsRow_kpT (ownsRow_kpT h.right kt (by decide)) k1 (by decide), ?_, h.old.trans h3, h.bel.trans h2, Nat.le_trans h.size h2.size, h.pge, h.age, h.w0⟩
  intro e
  have e1 : g1 = pb := by simpa [Value.ownBlock] using e
  subst e1
  rcases hat with h4 | h4
  · exact h.apart h4
  · omega
end
end Go.Proofs.YtphdfbmmjkccgaaDoor
