import Derived.Test.YtddnomjfcbplpaaGreatDoorZ17
namespace Go.Proofs.YtddnomjfcbplpaaGreatDoor
open Go.RowKit Go.Maps

theorem zCD {β : Type} (size k off : Nat) (v : β) (ho : off < size) : ∀ (L : List (List β)) (r : List β), (∀ r ∈ L, r.length = size) → L[k]? = some r → L.flatten.set (k * size + off) v = (L.set k (r.set off v)).flatten
 | [], r, _, h => by simp at h
 | x :: L, r, hl, h => by
  have hx := hl x (by simp)
  cases k with
  | zero =>
   simp only [List.getElem?_cons_zero, Option.some.injEq] at h; subst h; simp only [Nat.zero_mul, Nat.zero_add, List.flatten_cons, List.set_cons_zero]; rw [List.set_append_left _ _ (by omega)]
  | succ k =>
   simp only [List.getElem?_cons_succ] at h; have ih := zCD size k off v ho L r (fun r hr => hl r (by simp [hr])) h; simp only [List.flatten_cons, List.set_cons_succ]; rw [List.set_append_right _ _ (by rw [hx, Nat.succ_mul]; omega), ← ih]; congr 2
   rw [hx, Nat.succ_mul]; omega
theorem Sp.findIx_congr {α : Type} {p : α → Bool} : ∀ {l l' : List α} {i : Nat}, l.map p = l'.map p → Sp.yI p l i = Sp.yI p l' i
 | [], [], _, _ => rfl
 | [], _ :: _, _, h => by simp at h
 | _ :: _, [], _, h => by simp at h
 | x :: l, y :: l', i, h => by
  simp only [List.map_cons, List.cons.injEq] at h; unfold Sp.yI; rw [h.1, Sp.findIx_congr h.2]
theorem Sp.tokIx_set {toks : List Sp.Tok} {k : Nat} {t t' : Sp.Tok} (hk : toks[k]? = some t) (h1 : t'.name = t.name) (h2 : t'.lit = t.lit) (nm : List UInt8) (lt : Bool) : Sp.yD (toks.set k t') nm lt = Sp.yD toks nm lt := by
 unfold Sp.yD; split
 ·rfl
 ·apply Sp.findIx_congr
  apply List.ext_getElem?
  intro i; rw [List.getElem?_map, List.getElem?_map, List.getElem?_drop, List.getElem?_drop, List.getElem?_set]; by_cases hi : k = 3 + i
  ·subst hi
   have hkl := (List.getElem?_eq_some_iff.1 hk).1; rw [if_pos rfl, if_pos hkl, hk]; simp [h1, h2]
  ·rw [if_neg hi]
theorem vH {B : Nat} {w : World} {m : Nat} {x : Sp.zM} {s : Sp.Mk} {v : MkV} {e at_ : Int} {nm0 : List UInt8} {gt n ct k off : Nat} {t t' : Sp.Tok} {u : Value} (h : zS B w m x s v e at_ nm0)
  (hv : v.tv = .slice (some ⟨gt, 0, none⟩) n ct) (hk : s.toks[k]? = some t) (hoff : off < 6) (hrow : tokC t' = (tokC t).set off u) (h1 : t'.name = t.name) (h2 : t'.lit = t.lit) :
  zS B (w.setCell ⟨gt, k * 6 + off, none⟩ u) m x { s with toks := s.toks.set k t' } v e at_ nm0 ∧ MkFr m v v w (w.setCell ⟨gt, k * 6 + off, none⟩ u) := by
 have hto := h.toks; rw [hv] at hto
 have hn : n = s.toks.length := by
  rcases hto.2 with ⟨e0, _⟩ | ⟨_, _, _, e0, _⟩
  ·simp at e0
  ·simp only [Value.slice.injEq] at e0; exact e0.2.1.symm ▸ rfl
 obtain ⟨cu, hgb⟩ : ∃ cu, w.heap[gt]? = some (.cells cu 65 (0, 0)) := by
  rcases hto.2 with ⟨e0, _⟩ | ⟨g', _, cu, e0, _, hh, _⟩
  ·simp at e0
  ·simp only [Value.slice.injEq, Option.some.injEq, Addr.mk.injEq, and_true] at e0
   obtain ⟨rfl, _⟩ := e0; exact ⟨cu, hh⟩
 subst hn; have hst := (hto.stored (k * 6 + off) u).1; have k0 : Kp (fun b => b ≠ gt) w (w.setCell ⟨gt, k * 6 + off, none⟩ u) := (Kp.refl _ w).setCell (by simp) u
 have hset : (s.toks.map tokC).flatten.set (k * 6 + off) u = ((s.toks.set k t').map tokC).flatten := by
  rw [zCD 6 k off u hoff _ (tokC t) (fun r hr => by obtain ⟨a, _, rfl⟩ := List.mem_map.1 hr; rfl) (by rw [List.getElem?_map, hk]; rfl), List.map_set, hrow]
 have hmm : ∀ b, (∃ es c, w.heap[b]? = some (.map es c)) → b ≠ gt := by
  rintro b ⟨es, c, hy⟩ rfl; rw [hgb] at hy; cases hy
 have hL : tokL (s.toks.set k t') = tokL s.toks := by
  have hq : Sp.yD (s.toks.set k t') = Sp.yD s.toks := by
   funext nm lt
   exact Sp.tokIx_set hk h1 h2 nm lt
  unfold tokL; rw [hq]
 obtain ⟨g1, g2, g3, g4, ⟨f, g, p1, p2⟩, g6, g7, g8, g9, ga, gs, g3'⟩ := h; refine ⟨⟨(k0.block m (zC g1) (fun e0 => ?_)).trans g1, ?_, zP g3 k0 (zG g3 hgb (by decide)), zP g4 k0 (zG g4 hgb (by decide)), ⟨f, g, zP p1 k0 (zG p1 hgb (by decide)), fun i p hp => ?_⟩, ?_, g7.block (k0.block _ g7.lt (hmm _ g7.isMap)), g8.block (k0.block _ g8.lt (hmm _ g8.isMap)), g9, ga, by rw [List.length_set]; exact gs, by rw [List.length_set]; exact g3'⟩, ⟨k0.mono (fun b _ hn e0 => hn (.inr (.inl (by rw [hv, e0]; rfl)))), fun _ h => .inl h⟩⟩
 ·rw [← e0, g1] at hgb
  simp at hgb
 ·show World.ownsRow _ _ _ _ _ _ _
  rw [List.length_set, ← hset, hv]; exact hst
 ·obtain ⟨⟨b, k1⟩, c, k2⟩ := p2 i p hp
  exact ⟨⟨b, zP k1 k0 (zG k1 hgb (by decide))⟩, c, zP k2 k0 (zG k2 hgb (by decide))⟩
 ·show xE _ _ _ _ _ _
  rw [List.length_set, hL]; exact g6.block (k0.block _ g6.lt (hmm _ g6.isMap))

set_option maxRecDepth 100000 in
set_option maxHeartbeats 6400000 in
theorem maker_numbers {B : Nat} {W : World} {m : Nat} {x : Sp.zM} {s : Sp.Mk} {v : MkV} (h : zS B W m x s v 0 0 []) (hn40 : s.toks.length ≤ 2 ^ 40) :
  Calls Tryz.prog 42 #[.pointer (some ⟨m, 0, none⟩)] W fun e w' => e = .returned (.tuple #[]) ∧ zS B w' m x (Sp.xX s) v 0 0 [] ∧ MkFr m v v W w' := by
 obtain ⟨gt, ct, htv⟩ := yB h.toks (by have := h.three; omega); obtain ⟨gg, cg, hgv⟩ := yB h.given (by have := h.three; have := h.same; omega); have hsame := h.same; have h3 := h.three; have hms : Sp.xX s = { s with toks := (Sp.xX s).toks } := rfl; rw [hms]; generalize hF : (Sp.xX s).toks = F at *
 unfold Sp.xX at hF; simp only at hF; rw [hsame] at hgv; generalize hn : s.toks.length = n at *
 have HH := zh h; have HF := zh hF; have HN := zh hn; have HSA := zh hsame; have HTV := zh htv; have HGV := zh hgv; clear h hF hn hsame htv hgv hms; go_enter Tryz.func42, Tryz.ntmps42
 go_wp2_with fail; go_loopg [2, 3] (n - 3) (fun g nv iv wr => ∃ (k : Nat) (next : Int) (cur : List Sp.Tok), 3 ≤ k ∧ k ≤ n ∧ g = n - k ∧ nv = .int .i64 next ∧ iv = .int .i64 k ∧ zS B wr m x { s with toks := cur } v 0 0 [] ∧ MkFr m v v W wr ∧ cur.length = n ∧ cur.drop k = s.toks.drop k ∧ cur.take k ++ Sp.jC next (s.toks.drop k) (s.given.drop k) = F ∧ 0 ≤ next ∧ next ≤ 57346 + k)
 case atStart => exact ⟨3, 57346, s.toks, Nat.le_refl _, h3, rfl, rfl, rfl, HH.out, MkFr.below v (Below.refl _ _), HN.out, rfl, HF.out, by omega, by omega⟩
 case round =>
  obtain ⟨k, next, cur, hk3, hk, rfl, rfl, rfl, hmk, hfr, hlen, hdrop, hF, hn0, hnk⟩ := hrel; have hb := hmk.block; have ht := hmk.toks; have hg := hmk.given; unfold zX at hb; rw [HTV.out] at hb ht; rw [HGV.out] at hb hg; simp only at ht hg; rw [hlen] at ht; rw [HSA.out] at hg; have c4 := zc 4 hb; have c10 := zc 10 hb; have hl := zC hb; have hlt : gt < wr.heap.size := (ht.lt gt rfl).2; have hlg : gg < wr.heap.size := (hg.lt gg rfl).2; have HMK := zh hmk; have HFR := zh hfr; have HLEN := zh hlen; have HDR := zh hdrop; have HFF := zh hF; have hk0 : (0 : Int) ≤ (k : Int) := Int.natCast_nonneg _; by_cases hkn : k < n
  ·have hk1 : (k : Int) < (n : Int) := by omega
   have hkt : k < s.toks.length := by have := HN.out; omega
   have hkg : k < s.given.length := by have := HSA.out; omega
   have e2 := List.getElem?_eq_getElem hkg; have d1 : s.toks.drop k = s.toks[k] :: s.toks.drop (k + 1) := List.drop_eq_getElem_cons hkt; have d2 : s.given.drop k = s.given[k] :: s.given.drop (k + 1) := List.drop_eq_getElem_cons hkg
   have e1 : cur[k]? = some s.toks[k] := by
    have h := congrArg (fun l => l[0]?) hdrop; simp only [List.getElem?_drop, Nat.add_zero] at h; rw [h]; exact List.getElem?_eq_getElem hkt
   rw [d1, d2] at hF; unfold Sp.jC at hF
   have hdn : cur.drop (k + 1) = s.toks.drop (k + 1) := by
    have h := congrArg (fun l => l.drop 1) hdrop; simpa [List.drop_drop, Nat.add_comm] using h
   generalize s.toks[k] = t at *
   generalize s.given[k] = gk at *
   have ct2 := yY ht (fun _ => rfl) e1 hkn (j := 2) (u := .int .i64 t.num) rfl; have cg2 := jP hg e2 hkn; have ft := ht.frozenAt (k * 6 + 2); have E1 := zh e1; have HDN := zh hdn; clear hmk hfr hlen hdrop hb ht hg d1 d2 e2 e1 hdn hkt hkg HDR HFF
   cases gk with
   | true =>
    have HF2 : Hid (cur.take (k + 1) ++ Sp.jC next (s.toks.drop (k + 1)) (s.given.drop (k + 1)) = F) := zh (by rw [← hF, List.take_add_one, E1.out]; simp); clear hF; go_wp2_with fail; go_roundg (n - (k + 1))
    case measure => omega
    case rel => exact ⟨k + 1, next, cur, by omega, by omega, rfl, rfl, by go_num, HMK.out, HFR.out, HLEN.out, HDN.out, HF2.out, hn0, by omega⟩
   | false =>
    have hset := vH (k := k) (off := 2) (t := t) (t' := { t with num := next }) (u := .int .i64 next) HMK.out HTV.out E1.out (by decide) rfl rfl rfl; have HST := zh hset
    have HF2 : Hid ((cur.set k { t with num := next }).take (k + 1) ++ Sp.jC (next + 1) (s.toks.drop (k + 1)) (s.given.drop (k + 1)) = F) := zh (by
     rw [← hF, List.take_add_one, List.take_set_of_le (Nat.le_refl _), List.getElem?_set_self (by have := HLEN.out; omega)]
     simp)
    clear hF hset; go_wp2_with fail; go_roundg (n - (k + 1))
    case measure => omega
    case rel =>
     refine ⟨k + 1, next + 1, _, by omega, by omega, rfl, by go_num, by go_num, HST.out.1, HFR.out.trans HST.out.2, by rw [List.length_set]; exact HLEN.out, ?_, HF2.out, by omega, by omega⟩; rw [List.drop_set_of_lt (by omega)]; exact HDN.out
  ·obtain rfl : k = n := by omega
   have hFe : cur = F := by
    rw [List.drop_eq_nil_of_le (by rw [HN.out]; exact Nat.le_refl _), List.take_of_length_le (by rw [hlen]; exact Nat.le_refl _)] at hF; unfold Sp.jC at hF; rw [List.append_nil] at hF; exact hF
   have HFE := zh hFe; clear hmk hfr hlen hdrop hb ht hg hF hFe; go_wp2_with fail; exact bodyPost_end (results_none rfl _ _ _) rfl ⟨rfl, by rw [← HFE.out]; exact HMK.out, HFR.out⟩


section
variable {P : Program} {ops : Array Oper} {Q : Exit → Act → World → Prop} {md : Region.Mode} {S : World → Prop} {brk : Nat → Bool}

def wpAnyU (P : Program) (md : Region.Mode) (ops : Array Oper) (Q : Exit → Act → World → Prop) (S : World → Prop) (brk : Nat → Bool) : Nat → Array Bool → Act → World → Prop
 | 0, listed, a, w => Region.ready md ops listed = [] ∧ Q .normal a w
 | fuel + 1, listed, a, w =>
  (Region.ready md ops listed = [] → Q .normal a w) ∧
  ∀ i ∈ Region.ready md ops listed, wpOp P ops Q i (fun a' w' => (S w → brk i = true ∨ S w') ∧ wpAnyU P md ops Q S brk fuel (listed.setIfInBounds i true) a' w') a w

theorem wpAny_of_U : ∀ (fuel : Nat) (listed : Array Bool) (a : Act) (w : World), wpAnyU P md ops Q S brk fuel listed a w → wpAny P md ops Q fuel listed a w
 | 0, _, _, _, h => h
 | fuel + 1, _, _, _, h => ⟨h.1, fun i hi => wpOp_mono (fun a' w' h' => wpAny_of_U fuel _ a' w' h'.2) (h.2 i hi)⟩

theorem wpAnyU_first {i f0 : Nat} {oi : Oper} {v : Value} (hi : ops[i]? = some oi) (hsel : ∀ (j : Nat) (o : Oper) cs b, ops[j]? = some o → o.op ≠ .select cs b)
  (hQ : ∀ c a w, Q (.panic c) (a.put oi.dst v) w → Q (.panic c) a w) (hbrk : ∀ j, brk j = true → gX md ops f0 j i = true) (hib : brk i = false) :
  ∀ (fuel : Nat) (listed : Array Bool) (a : Act) (w : World), xL md ops listed →
   (∀ j oj, ops[j]? = some oj → j ≠ i → listed.getD j true = false → (∀ e ∈ oj.after, Region.binds md e = true → e.on ≠ i) → oi.apart ops oj = true) →
   i ∈ Region.ready md ops listed → YieldsIf P ops S oi v a → S w →
   wpAnyU P md ops Q S brk fuel (listed.setIfInBounds i true) (a.put oi.dst v) w → wpAnyU P md ops Q S brk (fuel + 1) listed a w := by
 intro fuel
 induction fuel with
 | zero =>
  intro listed a w _ _ hr hy hS H; refine ⟨fun h => (by rw [h] at hr; cases hr), fun j hj => ?_⟩; by_cases hji : j = i
  ·subst hji; exact hy.wpOp hi hS ⟨fun _ => .inr hS, H⟩
  ·have := ready_mono hj hji
   rw [H.1] at this; cases this
 | succ fuel ih =>
  intro listed a w hcl hfree hr hy hS H; refine ⟨fun h => (by rw [h] at hr; cases hr), fun j hj => ?_⟩; by_cases hji : j = i
  ·subst hji; exact hy.wpOp hi hS ⟨fun _ => .inr hS, H⟩
  ·have hjl : ¬ brk j = true := fun e => zCV hcl (hbrk j e) (mem_ready.1 hr).1 hj
   have h1 := H.2 j (ready_mono hj hji); obtain ⟨hjun, oj, hoj, hall⟩ := mem_ready.1 hj
   have hnot : ∀ e ∈ oj.after, Region.binds md e = true → e.on ≠ i := fun e he hb heq => by
    have h1 := hall e he hb; have h0 := (mem_ready.1 hr).1; rw [heq, getD_both h0] at h1; cases h1
   have h1' := wpOp_mono (K' := fun a' w' => S w' ∧ wpAnyU P md ops Q S brk fuel ((listed.setIfInBounds i true).setIfInBounds j true) a' w') (fun a' w' h3 => ⟨(h3.1 hS).resolve_left hjl, h3.2⟩) h1; have h2 := wpOp_putIf hoj (hfree j oj hoj hji hjun hnot) (fun cs b => hsel i oi cs b hi) (fun cs b => hsel j oj cs b hoj) hQ hy h1'
   have hfree' : ∀ k ok, ops[k]? = some ok → k ≠ i → (listed.setIfInBounds j true).getD k true = false →
     (∀ e ∈ ok.after, Region.binds md e = true → e.on ≠ i) → oi.apart ops ok = true := fun k ok hk hki hun hno => by
    refine hfree k ok hk hki ?_ hno; by_cases hjk : j = k
    ·subst hjk; exact hjun
    ·rw [getD_set_ne true hjk] at hun; exact hun
   refine wpOp_mono (fun a' w' h3 => ⟨fun _ => .inr h3.2.1, ih (listed.setIfInBounds j true) a' w' (hcl.set hj) hfree' (ready_mono hr (Ne.symm hji)) h3.1 h3.2.1 ?_⟩) h2; rw [Array.setIfInBounds_comm _ _ hji]; exact h3.2.2

theorem wpAnyU_free {i : Nat} {oi : Oper} {v : Value} (hi : ops[i]? = some oi) (hsel : ∀ (j : Nat) (o : Oper) cs b, ops[j]? = some o → o.op ≠ .select cs b)
  (hQ : ∀ c a w, Q (.panic c) (a.put oi.dst v) w → Q (.panic c) a w) :
  ∀ (fuel : Nat) (listed : Array Bool) (a : Act) (w : World), xL md ops listed →
   (∀ j oj, ops[j]? = some oj → j ≠ i → listed.getD j true = false → (∀ e ∈ oj.after, Region.binds md e = true → e.on ≠ i) → oi.apart ops oj = true) →
   i ∈ Region.ready md ops listed → YieldsIf P ops (fun _ => True) oi v a →
   wpAnyU P md ops Q S brk fuel (listed.setIfInBounds i true) (a.put oi.dst v) w → wpAnyU P md ops Q S brk (fuel + 1) listed a w := by
 intro fuel
 induction fuel with
 | zero =>
  intro listed a w _ _ hr hy H; refine ⟨fun h => (by rw [h] at hr; cases hr), fun j hj => ?_⟩; by_cases hji : j = i
  ·subst hji; exact hy.wpOp hi trivial ⟨fun hS => .inr hS, H⟩
  ·have := ready_mono hj hji
   rw [H.1] at this; cases this
 | succ fuel ih =>
  intro listed a w hcl hfree hr hy H; refine ⟨fun h => (by rw [h] at hr; cases hr), fun j hj => ?_⟩; by_cases hji : j = i
  ·subst hji; exact hy.wpOp hi trivial ⟨fun hS => .inr hS, H⟩
  ·have h1 := H.2 j (ready_mono hj hji)
   obtain ⟨hjun, oj, hoj, hall⟩ := mem_ready.1 hj
   have hnot : ∀ e ∈ oj.after, Region.binds md e = true → e.on ≠ i := fun e he hb heq => by
    have h1 := hall e he hb; have h0 := (mem_ready.1 hr).1; rw [heq, getD_both h0] at h1; cases h1
   have h2 := wpOp_putIf hoj (hfree j oj hoj hji hjun hnot) (fun cs b => hsel i oi cs b hi) (fun cs b => hsel j oj cs b hoj) hQ hy h1
   have hfree' : ∀ k ok, ops[k]? = some ok → k ≠ i → (listed.setIfInBounds j true).getD k true = false →
     (∀ e ∈ ok.after, Region.binds md e = true → e.on ≠ i) → oi.apart ops ok = true := fun k ok hk hki hun hno => by
    refine hfree k ok hk hki ?_ hno; by_cases hjk : j = k
    ·subst hjk; exact hjun
    ·rw [getD_set_ne true hjk] at hun; exact hun
   refine wpOp_mono (fun a' w' h3 => ⟨h3.2.1, ih (listed.setIfInBounds j true) a' w' (hcl.set hj) hfree' (ready_mono hr (Ne.symm hji)) h3.1 ?_⟩) h2; rw [Array.setIfInBounds_comm _ _ hji]; exact h3.2.2

inductive PU where
 | done
 | take (i : Nat) (t : PU)
 | free (i : Nat) (t : PU)
 | one (i : Nat) (t : PU)
 | two (i j : Nat) (t u : PU)
def PU.len : PU → Nat
 | .done => 0
 | .take _ t => t.len + 1
 | .free _ t => t.len + 1
 | .one _ t => t.len + 1
 | .two _ _ t _ => t.len + 1
def planU (md : Region.Mode) (ops : Array Oper) (brks : List Nat) : PU → Array Bool → Bool
 | .done, listed => (Region.ready md ops listed).isEmpty
 | .take i l, listed => (Region.ready md ops listed).contains i && Region.free md ops listed i && (!brks.contains i && brks.all fun j => gX md ops ops.size j i) && planU md ops brks l (listed.setIfInBounds i true)
 | .free i l, listed => (Region.ready md ops listed).contains i && Region.free md ops listed i && planU md ops brks l (listed.setIfInBounds i true)
 | .one i l, listed => decide (Region.ready md ops listed = [i]) && planU md ops brks l (listed.setIfInBounds i true)
 | .two i j t u, listed => decide (Region.ready md ops listed = [i, j]) && decide (t.len = u.len) && planU md ops brks t (listed.setIfInBounds i true) && planU md ops brks u (listed.setIfInBounds j true)
def planV (md : Region.Mode) (ops : Array Oper) (brks : List Nat) (plan : PU) : Bool :=
 Region.noSelect ops && decide (plan.len = ops.size) && planU md ops brks plan (Array.replicate ops.size false)

def qR (P : Program) (ops : Array Oper) (Q : Exit → Act → World → Prop) (S : World → Prop) (brks : List Nat) : PU → Act → World → Prop
 | .done, a, w => Q .normal a w
 | .take i l, a, w => S w ∧ ∃ o v, ops[i]? = some o ∧ YieldsIf P ops S o v a ∧ qR P ops Q S brks l (a.put o.dst v) w
 | .free i l, a, w => ∃ o v, ops[i]? = some o ∧ YieldsIf P ops (fun _ => True) o v a ∧ qR P ops Q S brks l (a.put o.dst v) w
 | .one i l, a, w => wpOp P ops Q i (fun a' w' => (S w → brks.contains i = true ∨ S w') ∧ qR P ops Q S brks l a' w') a w
 | .two i j t u, a, w => wpOp P ops Q i (fun a' w' => (S w → brks.contains i = true ∨ S w') ∧ qR P ops Q S brks t a' w') a w ∧ wpOp P ops Q j (fun a' w' => (S w → brks.contains j = true ∨ S w') ∧ qR P ops Q S brks u a' w') a w

theorem put_panicU (hQ : ∀ c (t : Array Value) (a : Act) w, Q (.panic c) ⟨t, a.defers⟩ w → Q (.panic c) a w) {c} {a : Act} {d : Option Tmp} {v : Value} {w : World} (h : Q (.panic c) (a.put d v) w) : Q (.panic c) a w := by
 cases d with
 | none => exact h
 | some d => exact hQ c _ a w h
theorem j5 {brks : List Nat} (hsel : Region.noSelect ops = true) (hQ : ∀ c (t : Array Value) (a : Act) w, Q (.panic c) ⟨t, a.defers⟩ w → Q (.panic c) a w) : ∀ (l : PU) (listed : Array Bool) (a : Act) (w : World),
  xL md ops listed → planU md ops brks l listed = true → qR P ops Q S brks l a w → wpAnyU P md ops Q S (fun j => brks.contains j) l.len listed a w
 | .done, listed, a, w, _, hB, h => ⟨by simpa [planU] using hB, h⟩
 | .take i l, listed, a, w, hcl, hB, h => by
  simp only [planU, Bool.and_eq_true] at hB; obtain ⟨⟨⟨hr, hf⟩, hbi, hba⟩, hB'⟩ := hB; obtain ⟨hS, o, v, ho, hy, hK⟩ := h; have hr' : i ∈ Region.ready md ops listed := by simpa using hr
  refine wpAnyU_first (f0 := ops.size) ho (Region.noSelect_spec hsel) (fun c a w h => put_panicU hQ h) (fun j hj => ?_) (by simpa using hbi) l.len listed a w hcl (Region.free_spec ho hf) hr' hy hS
   (j5 hsel hQ l _ _ _ (hcl.set hr') hB' hK)
  have := List.all_eq_true.1 hba j (by simpa using hj); exact this
 | .free i l, listed, a, w, hcl, hB, h => by
  simp only [planU, Bool.and_eq_true] at hB; obtain ⟨⟨hr, hf⟩, hB'⟩ := hB; obtain ⟨o, v, ho, hy, hK⟩ := h; have hr' : i ∈ Region.ready md ops listed := by simpa using hr
  exact wpAnyU_free ho (Region.noSelect_spec hsel) (fun c a w h => put_panicU hQ h) l.len listed a w hcl (Region.free_spec ho hf) hr' hy (j5 hsel hQ l _ _ _ (hcl.set hr') hB' hK)
 | .one i l, listed, a, w, hcl, hB, h => by
  simp only [planU, Bool.and_eq_true, decide_eq_true_eq] at hB; obtain ⟨hr, hB'⟩ := hB; refine ⟨fun h0 => (by rw [hr] at h0; cases h0), fun j hj => ?_⟩; have hj' := hj; rw [hr] at hj; have hji : j = i := by simpa using hj
  subst hji; exact wpOp_mono (fun a' w' h' => ⟨h'.1, j5 hsel hQ l _ _ _ (hcl.set hj') hB' h'.2⟩) h
 | .two i j t u, listed, a, w, hcl, hB, h => by
  simp only [planU, Bool.and_eq_true, decide_eq_true_eq] at hB; obtain ⟨⟨⟨hr, hlen⟩, hB1⟩, hB2⟩ := hB; refine ⟨fun h0 => (by rw [hr] at h0; cases h0), fun k hk => ?_⟩; have hk' := hk; rw [hr] at hk; have hki : k = i ∨ k = j := by simpa using hk
  rcases hki with rfl | rfl
  ·exact wpOp_mono (fun a' w' h' => ⟨h'.1, j5 hsel hQ t _ _ _ (hcl.set hk') hB1 h'.2⟩) h.1
  ·refine wpOp_mono (fun a' w' h' => ⟨h'.1, ?_⟩) h.2
   have h2 := j5 hsel hQ u _ _ _ (hcl.set hk') hB2 h'.2; rw [← hlen] at h2; exact h2

theorem wp_region_planU (S : World → Prop) (brks : List Nat) (plan : PU) {id : Nat} {a : Act} {w : World} (hm : P.follows .mixedOrders = true) (hA : planV .any ops brks plan = true)
  (hQ : ∀ c (t : Array Value) (a : Act) w, Q (.panic c) ⟨t, a.defers⟩ w → Q (.panic c) a w) (h : qR P ops Q S brks plan a w.drew) : (Code.region id ops true).wp P Q a w := by
 simp only [planV, Bool.and_eq_true, decide_eq_true_eq] at hA; obtain ⟨⟨hsel, hl⟩, hB⟩ := hA; have H := j5 (md := .any) hsel hQ plan _ _ _ (xL.start _) hB h; rw [hl] at H; exact wp_region_any hm (wpAny_of_U _ _ _ _ H)

theorem yT {brks : List Nat} {i : Nat} {o : Oper} {v : Value} {l : PU} {a : Act} {w : World} (ho : ops[i]? = some o) (hS : S w)
  (hw : Region.wanted o (yielded ops a.tmps) = true) (hy : ∀ w, S w → (execOp a.eval o).run P w = .ok (.value v) w) (h : qR P ops Q S brks l (a.put o.dst v) w) : qR P ops Q S brks (.take i l) a w :=
 ⟨hS, o, v, ho, .inl ⟨hw, hy⟩, h⟩
theorem wpPlanU_free {brks : List Nat} {i : Nat} {o : Oper} {v : Value} {l : PU} {a : Act} {w : World} (ho : ops[i]? = some o)
  (hw : Region.wanted o (yielded ops a.tmps) = true) (hy : ∀ w : World, True → (execOp a.eval o).run P w = .ok (.value v) w) (h : qR P ops Q S brks l (a.put o.dst v) w) : qR P ops Q S brks (.free i l) a w :=
 ⟨o, v, ho, .inl ⟨hw, hy⟩, h⟩
theorem zV {brks : List Nat} {i : Nat} {o : Oper} {l : PU} {a : Act} {w : World} (ho : ops[i]? = some o) (hw : Region.wanted o (yielded ops a.tmps) = true)
  (h : ∀ K' : Act → World → Prop, (∀ a w, (brks.contains i = true ∨ S w) → qR P ops Q S brks l a w → K' a w) → Oper.wp P o a w K' Q) : qR P ops Q S brks (.one i l) a w := by
 show wpOp P ops Q i _ a w
 unfold wpOp; simp only [ho, hw, if_true]; exact .inl (h _ (fun a w hS hW => ⟨fun _ => hS, hW⟩))
theorem wpPlanU_two {brks : List Nat} {i j : Nat} {t u : PU} {a : Act} {w : World} (h1 : qR P ops Q S brks (.one i t) a w) (h2 : qR P ops Q S brks (.one j u) a w) : qR P ops Q S brks (.two i j t u) a w := ⟨h1, h2⟩
theorem zBN {brks : List Nat} {a : Act} {w : World} (h : Q .normal a w) : qR P ops Q S brks .done a w := h
end


theorem keyL_key (F : List UInt8 → Bool → Option Nat) (nm : List UInt8) (lt : Bool) : keyL F (.agg #[.string ⟨nm.toArray⟩, .bool lt]) = (F nm lt).map fun (k : Nat) => .int .i64 (k : Int) := rfl
theorem keyL_congr {F G : List UInt8 → Bool → Option Nat} {key : Value} (h : ∀ nm lt, key = .agg #[.string ⟨nm.toArray⟩, .bool lt] → F nm lt = G nm lt) : keyL F key = keyL G key := by
 cases key with
 | agg cs =>
  obtain ⟨l⟩ := cs; rcases l with _ | ⟨a, _ | ⟨b, _ | ⟨c, l⟩⟩⟩
  ·rfl
  ·rfl
  ·cases a <;> first | rfl | skip
   cases b <;> first | rfl | skip
   rename_i st bl
   have e := h st.data.toList bl rfl; show (F st.data.toList bl).map _ = (G st.data.toList bl).map _
   rw [e]
  ·rfl
 | _ => rfl
theorem tokL_snoc {toks : List Sp.Tok} {t : Sp.Tok} (h3 : 3 ≤ toks.length) (hn : Sp.yD toks t.name t.lit = none) :
  tokL (toks ++ [t]) (.agg #[.string ⟨t.name.toArray⟩, .bool t.lit]) = some (.int .i64 (toks.length : Int)) ∧ ∀ key', key' ≠ Value.agg #[.string ⟨t.name.toArray⟩, .bool t.lit] → tokL (toks ++ [t]) key' = tokL toks key' := by
 constructor
 ·unfold tokL
  rw [keyL_key, Sp.tokIx_snoc h3 hn, if_pos ⟨rfl, rfl⟩]; rfl
 ·intro key hne
  unfold tokL; refine keyL_congr fun nm lt e => ?_
  rw [Sp.tokIx_snoc h3 hn, if_neg]; rintro ⟨rfl, rfl⟩; exact hne e
end Go.Proofs.YtddnomjfcbplpaaGreatDoor
