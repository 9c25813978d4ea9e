import Derived.Test.YtddnomjfcbplpaaGreatDoorZ27
namespace Go.Proofs.YtddnomjfcbplpaaGreatDoor
open Go.RowKit Go.Maps

section
variable {P : Program} {fn : Func} {R : Ending → World → Prop} {a : Act} {W : World} {p q g h : Nat} {ty tz t u : TypeId} {cs ds : Array Value} {fr fs : Nat × Nat} {d e : TypeDesc}
theorem vY (hf : fn.results = #[.cell p ty, .cell q tz]) (hp : a.tmps.getD p undef = .pointer (some ⟨g, 0, none⟩)) (hq : a.tmps.getD q undef = .pointer (some ⟨h, 0, none⟩)) (hg : W.heap[g]? = some (.cells cs t fr)) (hh : W.heap[h]? = some (.cells ds u fs))
  (hd : (match d with | .struct _ | .array _ _ => true | _ => false) = true) (hu : P.underlying ty = some d) (hi : (P.info? ty).map (·.size) = some cs.size)
  (he : (match e with | .struct _ | .array _ _ => true | _ => false) = true) (hv : P.underlying tz = some e) (hj : (P.info? tz).map (·.size) = some ds.size)
  (hdef : a.defers = []) (hR : R (.returned (.tuple #[.agg cs, .agg ds])) W) : bodyPost P fn R .ret a W := by
 refine bodyPost_ret ?_ hdef hR; have hl := run_loadVar_row (P := P) W g t ty cs fr d hg hu (by cases d <;> simp_all) hi; have hm := run_loadVar_row (P := P) W h u tz ds fs e hh hv (by cases e <;> simp_all) hj; have hp' : a.tmps[p]?.getD undef = .pointer (some ⟨g, 0, none⟩) := by simpa using hp
 have hq' : a.tmps[q]?.getD undef = .pointer (some ⟨h, 0, none⟩) := by simpa using hq
 simp [results, hf, hp', hq', asAddr, hl, hm]
end
def j2 (f : Sp.Fault) : Value := .agg #[.int .i64 f.err, .int .i64 f.at_, .string ⟨f.name.toArray⟩]
def zCL (w : World) (v : Value) (l : List Sp.Prod) : Prop :=
 ∃ f g : Nat → Value, SlAt w v 6 (l.mapIdx fun i p => xF (f i) (g i) p) ∧ ∀ (i : Nat) (p : Sp.Prod), l[i]? = some p → vT w (f i) p.right ∧ vT w (g i) p.args
def GramAt (w : World) (v : Value) (g : Sp.Gram) : Prop :=
 ∃ tv nv pv, v = .agg #[tv, nv, pv, .string ⟨g.pro.toArray⟩, .string ⟨g.tail.toArray⟩] ∧ SlAt w tv 6 (g.toks.map tokC) ∧ SlAt w nv 2 (g.nons.map nonC) ∧ zCL w pv g.prods
theorem zCL.below {w w' : World} {v : Value} {l : List Sp.Prod} (h : zCL w v l) (hb : Below w.heap.size w w') : zCL w' v l := by
 obtain ⟨f, g, h1, h2⟩ := h; exact ⟨f, g, h1.below hb, fun i p hp => ⟨(h2 i p hp).1.below hb, (h2 i p hp).2.below hb⟩⟩
theorem GramAt.below {w w' : World} {v : Value} {g : Sp.Gram} (h : GramAt w v g) (hb : Below w.heap.size w w') : GramAt w' v g := by
 obtain ⟨tv, nv, pv, h0, h1, h2, h3⟩ := h; exact ⟨tv, nv, pv, h0, h1.below hb, h2.below hb, h3.below hb⟩
theorem ints_own {w : World} {B : Nat} {v : Value} {l : List Int} (h : w.ownsRow B 3 1 v l.length (yJ l)) : vT w v l := by
 refine qS (base := B) (e := 3) (n := l.length) (l.map fun x => [Value.int .i64 x]) (by simp) (by simp) ?_
 have e : (l.map fun x => [Value.int .i64 x]).flatten = yJ l := by
  unfold yJ; clear h
  induction l with
  | nil => rfl
  | cons a l ih =>
   rw [List.map_cons, List.flatten_cons, ih]; rfl
 rw [e]; exact h
def qE (w : World) (v : Value) (g : Sp.Gram) : Prop :=
 ∃ B ta tc na nc pa pc, v = .agg #[.slice ta g.toks.length tc, .slice na g.nons.length nc, .slice pa g.prods.length pc, .string ⟨g.pro.toArray⟩, .string ⟨g.tail.toArray⟩] ∧ w.ownsRow B 65 6 (.slice ta g.toks.length tc) g.toks.length (g.toks.map tokC).flatten ∧ w.ownsRow B 89 2 (.slice na g.nons.length nc) g.nons.length (g.nons.map nonC).flatten ∧ zBM B w (.slice pa g.prods.length pc) g.prods
theorem qE.at {w : World} {v : Value} {g : Sp.Gram} (h : qE w v g) : GramAt w v g := by
 obtain ⟨B, ta, tc, na, nc, pa, pc, hv, h1, h2, f, g', p1, p2⟩ := h; refine ⟨_, _, _, hv, qS _ ?_ (by simp) h1, qS _ ?_ (by simp) h2, f, g', qS _ ?_ (by simp) p1, fun i p hp => ?_⟩
 ·intro r hr
  obtain ⟨t, _, rfl⟩ := List.mem_map.1 hr; rfl
 ·intro r hr
  obtain ⟨t, _, rfl⟩ := List.mem_map.1 hr; rfl
 ·intro r hr
  obtain ⟨i, hi⟩ := List.mem_iff_getElem?.1 hr; rw [List.getElem?_mapIdx] at hi; obtain ⟨t, _, rfl⟩ := Option.map_eq_some_iff.1 hi; rfl
 ·obtain ⟨⟨b, q1⟩, c, q2⟩ := p2 i p hp
  exact ⟨ints_own q1, ints_own q2⟩
theorem qE.kpT {w w' : World} {v : Value} {g : Sp.Gram} {T : TypeId → Prop} (h : qE w v g) (k : KpT T w w') (h1 : T 65) (h2 : T 89) (h3 : T 68) (h4 : T 3) : qE w' v g := by
 obtain ⟨B, ta, tc, na, nc, pa, pc, hv, q1, q2, f, g', p1, p2⟩ := h; refine ⟨B, ta, tc, na, nc, pa, pc, hv, zD q1 k h1, zD q2 k h2, f, g', zD p1 k h3, fun i p hp => ?_⟩; obtain ⟨⟨b, r1⟩, c, r2⟩ := p2 i p hp; exact ⟨⟨b, zD r1 k h4⟩, c, zD r2 k h4⟩
theorem qE.below {w w' : World} {v : Value} {g : Sp.Gram} (h : qE w v g) (hb : Below w.heap.size w w') : qE w' v g :=
 h.kpT (T := fun _ => True) (KpT.below hb) trivial trivial trivial trivial
theorem jS (w : World) : qE w (.agg #[.slice none 0 0, .slice none 0 0, .slice none 0 0, .string ⟨#[]⟩, .string ⟨#[]⟩]) Sp.xG :=
 ⟨0, _, _, _, _, _, _, rfl, World.ownsRow_nil _ _ _ _, World.ownsRow_nil _ _ _ _, fun _ => .bool false, fun _ => .bool false, World.ownsRow_nil _ _ _ _, by simp [Sp.xG]⟩
def OfPost (W : World) (r : Sp.Gram × Sp.Fault) (e : Ending) (w' : World) : Prop :=
 Below W.heap.size W w' ∧ ∃ gv, e = .returned (.tuple #[gv, j2 r.2]) ∧ qE w' gv r.1
theorem gramOwn_of {B m : Nat} {w w' : World} {x : Sp.zM} {s : Sp.Mk} {v : MkV} {bG bF : Nat} {cG cF : Array Value} {fG fF : Nat × Nat} (h : zS B w m x s v 0 0 []) (hG : w.heap[bG]? = some (.cells cG 39 fG)) (hF : w.heap[bF]? = some (.cells cF 52 fF)) (k : Kp (fun b => b ≠ bG ∧ b ≠ bF) w w') :
  qE w' (.agg #[v.tv, v.nv, v.pv, .string ⟨x.pro.toArray⟩, .string ⟨x.tail.toArray⟩]) ⟨s.toks, s.nons, s.prods, x.pro, x.tail⟩ := by
 have keep : ∀ {B size n : Nat} {e : TypeId} {v : Value} {xs : List Value}, w.ownsRow B e size v n xs → 39 ≠ e → 52 ≠ e → w'.ownsRow B e size v n xs :=
  fun h1 e1 e2 => zP h1 k (fun b hb => ⟨zG h1 hG e1 b hb, zG h1 hF e2 b hb⟩)
 obtain ⟨f, g, p1, p2⟩ := h.prods; obtain ⟨ta, tc, htv⟩ := zJ h.toks; obtain ⟨na, nc, hnv⟩ := zJ h.nons; obtain ⟨pa, pc, hpv⟩ := zJ p1; have q1 := keep h.toks (by decide) (by decide); have q2 := keep h.nons (by decide) (by decide); have q3 := keep p1 (by decide) (by decide); rw [htv] at q1 ⊢; rw [hnv] at q2 ⊢; rw [hpv] at q3 ⊢; refine ⟨B, ta, tc, na, nc, pa, pc, rfl, q1, q2, f, g, q3, fun i p hp => ?_⟩; obtain ⟨⟨b, r1⟩, c, r2⟩ := p2 i p hp; exact ⟨⟨b, keep r1 (by decide) (by decide)⟩, c, keep r2 (by decide) (by decide)⟩
def PassEnd (W0 : World) (m : Nat) (x : Sp.zM) (vd vr : Value) (c : Value) (wx : World) : Prop :=
 Below W0.heap.size W0 wx ∧ ((∃ (st1 : List UInt8) (st2 : Int) (s : Sp.Mk) (v : MkV), c = .bool true ∧ Sp.jL x = (Sp.xG, ⟨3, st2, st1⟩) ∧ wx.heap[m]? = some (.cells (zX x s v 3 st2 st1).toArray 99 (0, 0))) ∨
  ∃ (s : Sp.Mk) (v : MkV), c = .bool false ∧ Sp.jL x = Sp.ofTail x s ∧ zS W0.heap.size wx m x s v 0 0 [] ∧ v.dv = vd ∧ v.rv = vr ∧ s.prods = [] ∧ s.nons.length = s.lefts.length + 1 ∧ s.lefts.length ≤ 8000 ∧ s.start.length ≤ 4000 ∧ s.toks.length ≤ 2 ^ 38)
theorem pass_counts {x : Sp.zM} {s1 s2 s3 : Sp.Mk} (hs : xN x) (h1 : Sp.qM 0 x.decls Sp.mk0 = .ok s1) (h2 : Sp.vI x s1 = .ok s2) (h3 : Sp.kN x.rules s2 = .ok s3) :
  s3.prods = [] ∧ s3.nons.length = s3.lefts.length + 1 ∧ s3.lefts.length ≤ 8000 ∧ s3.start.length ≤ 4000 ∧ s3.toks.length ≤ 2 ^ 38 := by
 have k1 := Sp.zAZ x.decls 0 Sp.mk0 s1 (fun d hd => ⟨(hs.2.2.2.2.1 d hd).2.1, (hs.2.2.2.2.1 d hd).2.2⟩) h1; have k2 := Sp.zEE h2; have k3 := Sp.zED x.rules s2 s3 (fun r hr => ⟨(hs.2.2.2.2.2 r hr).2.1, fun a ha => ((hs.2.2.2.2.2 r hr).2.2 a ha).1⟩) h3; have hl1 : s1.lefts = [] := k1.lefts; have hn1 : s1.nons.length = 1 := by rw [k1.nons]; rfl
 have hd4 : x.decls.length * 4000 ≤ 4000 * 4000 := Nat.mul_le_mul_right 4000 hs.2.2.1; have hr4 : x.rules.length * 16004000 ≤ 4000 * 16004000 := Nat.mul_le_mul_right 16004000 hs.2.2.2.1; have hm0 : Sp.mk0.toks.length = 3 := rfl; have hsum : 3 + 4000 * 4000 + 4000 * 16004000 ≤ 2 ^ 38 := by decide
 refine ⟨k3.prods.trans (k2.2.1.trans k1.prods), ?_, ?_, ?_, ?_⟩
 ·have := k2.2.2.2.2
  rw [hl1, hn1] at this; rw [k3.nons, k3.lefts]; simp at this; omega
 ·have h4 := hs.2.2.2.1
  have := k2.2.2.2.1; rw [hl1] at this; rw [k3.lefts]; simp at this; omega
 ·rw [k3.start, k2.2.2.1]
  exact k1.start (by decide)
 ·refine Nat.le_trans k3.toks (Nat.le_trans (Nat.add_le_add ?_ hr4) hsum)
  rw [k2.1]; refine Nat.le_trans k1.toks ?_; rw [hm0]; exact Nat.add_le_add_left hd4 3
theorem tail_counts {x : Sp.zM} {s S : Sp.Mk} (hs : xN x) (hS : S = Sp.xX (Sp.kB x s)) (hp : s.prods = []) (hnl : s.nons.length = s.lefts.length + 1) (hl : s.lefts.length ≤ 8000) (ht : s.toks.length ≤ 2 ^ 38) :
  (Sp.kB x s).toks.length ≤ 2 ^ 40 ∧ S.toks.length ≤ 2 ^ 62 ∧ S.nons.length ≤ 2 ^ 62 ∧ S.prods.length ≤ 2 ^ 62 ∧ ∀ p ∈ S.prods, p.right.length ≤ 2 ^ 62 := by
 have k := Sp.prodsMk_keeps (x := x) (s := s) (fun r hr => ⟨(hs.2.2.2.2.2 r hr).2.1, fun a ha => ((hs.2.2.2.2.2 r hr).2.2 a ha).1⟩); have hr4 : x.rules.length * 16004000 ≤ 4000 * 16004000 := Nat.mul_le_mul_right 16004000 hs.2.2.2.1; have hsum : 8001 + (1 + 4000 * 16004000) ≤ 2 ^ 62 := by decide
 have hpn : S.prods = (Sp.kB x s).prods := by rw [hS]; rfl
 have hnn : S.nons = (Sp.kB x s).nons := by rw [hS]; rfl
 have htk : (Sp.kB x s).toks.length ≤ 2 ^ 38 := by rw [k.toks]; exact ht
 refine ⟨Nat.le_trans htk (by decide), ?_, ?_, ?_, ?_⟩
 ·rw [hS, Sp.numbersMk_len]
  exact Nat.le_trans htk (by decide)
 ·rw [hnn]
  refine Nat.le_trans k.nons (Nat.le_trans (Nat.add_le_add ?_ (Nat.add_le_add_left hr4 1)) hsum); omega
 ·rw [hpn]
  refine Nat.le_trans k.prods (Nat.le_trans (Nat.add_le_add ?_ (Nat.add_le_add_left hr4 1)) hsum); rw [hp]; simp
 ·rw [hpn]
  intro p h; exact Nat.le_trans (k.rights (by rw [hp]; simp) p h) (by decide)
theorem zDR {w : World} {b c : Nat} {a0 a1 a2 a3 a4 d0 d1 d2 : Value} {t u : TypeId} {fr fs : Nat × Nat} (hb : w.heap[b]? = some (.cells #[a0, a1, a2, a3, a4] t fr)) (hc : w.heap[c]? = some (.cells #[d0, d1, d2] u fs)) (hne : b ≠ c) (v0 v1 v2 v3 v4 A0 A1 A2 : Value) {w' : World}
  (hw : w' = (((((((w.setCell ⟨b, 0, none⟩ v0).setCell ⟨b, 1, none⟩ v1).setCell ⟨b, 2, none⟩ v2).setCell ⟨b, 3, none⟩ v3).setCell ⟨b, 4, none⟩ v4).setCell ⟨c, 0, none⟩ A0).setCell ⟨c, 1, none⟩ A1).setCell ⟨c, 2, none⟩ A2) :
  w'.heap[b]? = some (.cells #[v0, v1, v2, v3, v4] t fr) ∧ w'.heap[c]? = some (.cells #[A0, A1, A2] u fs) ∧ Kp (fun k => k ≠ b ∧ k ≠ c) w w' := by
 have k1 : ((((w.setCell ⟨b, 0, none⟩ v0).setCell ⟨b, 1, none⟩ v1).setCell ⟨b, 2, none⟩ v2).setCell ⟨b, 3, none⟩ v3).setCell ⟨b, 4, none⟩ v4 |>.heap[b]? = some (.cells #[v0, v1, v2, v3, v4] t fr) := zA (zA (zA (zA (zA hb))))
 have k2 : ((((w.setCell ⟨b, 0, none⟩ v0).setCell ⟨b, 1, none⟩ v1).setCell ⟨b, 2, none⟩ v2).setCell ⟨b, 3, none⟩ v3).setCell ⟨b, 4, none⟩ v4 |>.heap[c]? = some (.cells #[d0, d1, d2] u fs) := by
  have ne : ∀ (w : World) (i : Nat) (v : Value), (w.setCell ⟨b, i, none⟩ v).heap[c]? = w.heap[c]? := fun w i v => Below.heap_setCell w ⟨b, i, none⟩ v c (fun e => hne e.symm)
  rw [ne, ne, ne, ne, ne]; exact hc
 have ne2 : ∀ (w : World) (i : Nat) (v : Value), (w.setCell ⟨c, i, none⟩ v).heap[b]? = w.heap[b]? := fun w i v => Below.heap_setCell w ⟨c, i, none⟩ v b (fun e => hne e)
 subst hw; refine ⟨by rw [ne2, ne2, ne2]; exact k1, zA (zA (zA k2)), ?_⟩; exact ((((((((Kp.refl _ w).setCell (p := ⟨b, 0, none⟩) (by simp) v0).setCell (p := ⟨b, 1, none⟩) (by simp) v1).setCell (p := ⟨b, 2, none⟩) (by simp) v2).setCell (p := ⟨b, 3, none⟩) (by simp) v3).setCell (p := ⟨b, 4, none⟩) (by simp) v4).setCell (p := ⟨c, 0, none⟩) (by simp) A0).setCell (p := ⟨c, 1, none⟩) (by simp) A1).setCell (p := ⟨c, 2, none⟩) (by simp) A2
theorem drew_heap (w : World) (b : Nat) : w.drew.heap[b]? = w.heap[b]? := rfl
theorem gf_storedD {w : World} {b c : Nat} {a0 a1 a2 a3 a4 d0 d1 d2 : Value} {t u : TypeId} {fr fs : Nat × Nat} (hb : w.heap[b]? = some (.cells #[a0, a1, a2, a3, a4] t fr)) (hc : w.heap[c]? = some (.cells #[d0, d1, d2] u fs)) (hne : b ≠ c) (v0 v1 v2 v3 v4 A0 A1 A2 : Value) {w' : World}
  (hw : w' = ((((((((w.setCell ⟨b, 0, none⟩ v0).setCell ⟨b, 1, none⟩ v1).setCell ⟨b, 2, none⟩ v2).setCell ⟨b, 3, none⟩ v3).setCell ⟨b, 4, none⟩ v4).setCell ⟨c, 0, none⟩ A0).setCell ⟨c, 1, none⟩ A1).setCell ⟨c, 2, none⟩ A2).drew) :
  w'.heap[b]? = some (.cells #[v0, v1, v2, v3, v4] t fr) ∧ w'.heap[c]? = some (.cells #[A0, A1, A2] u fs) ∧ Kp (fun k => k ≠ b ∧ k ≠ c) w w' := by
 subst hw; obtain ⟨h1, h2, h3⟩ := zDR hb hc hne v0 v1 v2 v3 v4 A0 A1 A2 rfl; rw [drew_heap, drew_heap]; exact ⟨h1, h2, h3.drew⟩
theorem LitI.bel {x : Sp.zM} {vd vr : Value} {W w : World} {L : Nat → Bool} {r : LitR} (h : LitI x vd vr W L r w) : Below W.heap.size W w := by
 obtain ⟨_, _, _, hi, _⟩ := h; exact hi.below
def OfBox (x : Sp.zM) (vd vr : Value) (g : Nat) (w : World) : Prop :=
 w.heap[g]? = some (.cells #[.string ⟨x.pro.toArray⟩, vd, vr, .string ⟨x.tail.toArray⟩] 25 (0, 0)) ∧ w.heap[g + 1]? = some (.cells #[.slice none 0 0, .slice none 0 0, .slice none 0 0, .string ⟨#[]⟩, .string ⟨#[]⟩] 39 (0, 0)) ∧ w.heap[g + 1 + 1]? = some (.cells #[.int .i64 0, .int .i64 0, .string ⟨#[]⟩] 52 (0, 0))
theorem OfBox.below {x : Sp.zM} {vd vr : Value} {g : Nat} {w w' : World} (h : OfBox x vd vr g w) (hb : Below w.heap.size w w') : OfBox x vd vr g w' :=
 ⟨(hb.block _ (zC h.1)).trans h.1, (hb.block _ (zC h.2.1)).trans h.2.1, (hb.block _ (zC h.2.2)).trans h.2.2⟩
theorem maker_start {x : Sp.zM} {vd vr gv : Value} {W w : World} {m b1 b6 b7 : Nat} (hm : W.heap.size ≤ m) (hb : w.heap[m]? = some (.cells (mkLit x vd vr b1 b6 b7 gv) 99 (0, 0))) (h : xS W w b1 b6 b7 gv true true true true true) {w' : World}
  (hw : w' = ((((((w.setCell ⟨m, 4, none⟩ (.slice (some ⟨w.heap.size + 1, 0, none⟩) 3 3)).setCell ⟨m, 5, none⟩ (.slice (some ⟨w.heap.size, 0, none⟩) 1 1)).setCell ⟨m, 6, none⟩ (.slice none 0 0)).setCell ⟨m, 7, none⟩ (.string ⟨x.pro.toArray⟩)).setCell ⟨m, 8, none⟩ (.string ⟨x.tail.toArray⟩)).alloc (.cells #[.string ⟨#[36, 97, 99, 99, 101, 112, 116]⟩, .string ⟨#[]⟩] 89)).alloc (.cells #[.string ⟨#[36, 101, 110, 100]⟩, .bool false, .int .i64 0, .int .i64 0, .int .i64 0, .string ⟨#[]⟩, .string ⟨#[101, 114, 114, 111, 114]⟩, .bool false, .int .i64 (-1), .int .i64 0, .int .i64 0, .string ⟨#[]⟩, .string ⟨#[36, 117, 110, 107]⟩, .bool false, .int .i64 (-1), .int .i64 0, .int .i64 0, .string ⟨#[]⟩] 65)) :
  zS W.heap.size w' m x Sp.mk0 ⟨vd, vr, .slice (some ⟨w.heap.size + 1, 0, none⟩) 3 3, .slice (some ⟨w.heap.size, 0, none⟩) 1 1, .slice none 0 0, gv, b1, b6, b7⟩ 0 0 [] ∧ Below W.heap.size W w' := by
 obtain ⟨w2, hw2⟩ : ∃ w2 : World, w2 = ((((w.setCell ⟨m, 4, none⟩ (.slice (some ⟨w.heap.size + 1, 0, none⟩) 3 3)).setCell ⟨m, 5, none⟩ (.slice (some ⟨w.heap.size, 0, none⟩) 1 1)).setCell ⟨m, 6, none⟩ (.slice none 0 0)).setCell ⟨m, 7, none⟩ (.string ⟨x.pro.toArray⟩)).setCell ⟨m, 8, none⟩ (.string ⟨x.tail.toArray⟩) := ⟨_, rfl⟩
 have hsz : w2.heap.size = w.heap.size := by rw [hw2]; simp [World.setCell]
 have k : Kp (fun b => b ≠ m) w w2 := by
  rw [hw2]; exact (((((Kp.refl _ w).setCell (p := ⟨m, 4, none⟩) (by simp) _).setCell (p := ⟨m, 5, none⟩) (by simp) _).setCell (p := ⟨m, 6, none⟩) (by simp) _).setCell (p := ⟨m, 7, none⟩) (by simp) _).setCell (p := ⟨m, 8, none⟩) (by simp) _
 rw [← hw2] at hw; have hb2 : Below w2.heap.size w2 w' := by rw [hw]; exact ((Below.refl _ w2).alloc (Nat.le_refl _) _).alloc (by simp) _
 have hN : w'.ownsRow W.heap.size 89 2 (.slice (some ⟨w.heap.size, 0, none⟩) 1 1) 1 (Sp.mk0.nons.map nonC).flatten := by
  have h1 := World.ownsRow_lit (base := W.heap.size) (size := 2) (e := 89) w2 #[.string ⟨#[36, 97, 99, 99, 101, 112, 116]⟩, .string ⟨#[]⟩] 1 (by rw [hsz]; exact h.below.size) (by unfold maxLen; decide) rfl; rw [hsz] at h1; rw [hw]; exact h1.alloc _
 have hT : w'.ownsRow W.heap.size 65 6 (.slice (some ⟨w.heap.size + 1, 0, none⟩) 3 3) 3 (Sp.mk0.toks.map tokC).flatten := by
  have h1 := World.ownsRow_lit (base := W.heap.size) (size := 6) (e := 65) (w2.alloc (.cells #[.string ⟨#[36, 97, 99, 99, 101, 112, 116]⟩, .string ⟨#[]⟩] 89)) #[.string ⟨#[36, 101, 110, 100]⟩, .bool false, .int .i64 0, .int .i64 0, .int .i64 0, .string ⟨#[]⟩, .string ⟨#[101, 114, 114, 111, 114]⟩, .bool false, .int .i64 (-1), .int .i64 0, .int .i64 0, .string ⟨#[]⟩, .string ⟨#[36, 117, 110, 107]⟩, .bool false, .int .i64 (-1), .int .i64 0, .int .i64 0, .string ⟨#[]⟩] 3 (by have := h.below.size; rw [World.size_alloc, hsz]; omega) (by unfold maxLen; decide) rfl; rw [World.size_alloc, hsz] at h1; rw [hw]; exact h1
 have hblk : w2.heap[m]? = some (.cells (zX x Sp.mk0 ⟨vd, vr, .slice (some ⟨w.heap.size + 1, 0, none⟩) 3 3, .slice (some ⟨w.heap.size, 0, none⟩) 1 1, .slice none 0 0, gv, b1, b6, b7⟩ 0 0 []).toArray 99 (0, 0)) := by
  rw [hw2]; exact zA (zA (zA (zA (zA hb))))
 have hmm : ∀ b, (∃ es c, w.heap[b]? = some (.map es c)) → b ≠ m := by
  rintro b ⟨es, c, hy⟩ rfl; rw [hb] at hy; cases hy
 have m1 := h.m1 rfl; have m6 := h.m6 rfl; have m7 := h.m7 rfl
 have at2 : ∀ {P : Program} {kt : TypeId} {b n : Nat} {L : Value → Option Value}, xE P kt w b n L → xE P kt w' b n L := fun h0 =>
  (h0.block (k.block _ h0.lt (hmm _ h0.isMap))).block (hb2.block _ (by rw [hsz]; exact h0.lt))
 refine ⟨⟨(hb2.block m (zC hblk)).trans hblk, hT, zL (zP (h.s5 rfl) k (zG (h.s5 rfl) hb (by decide))) hb2, hN, ⟨fun _ => .bool false, fun _ => .bool false, World.ownsRow_nil _ _ _ _, by simp [Sp.mk0]⟩, (at2 m1.2).mono (by decide), (by rw [show Sp.mk0.lefts = [] from rfl, nonL_nil]; exact at2 m6.2), (by rw [show Sp.mk0.types = [] from rfl, typL_nil]; exact at2 m7.2), ⟨hm, m1.1, m6.1, m7.1⟩, ⟨h.ne16 rfl rfl, h.ne17 rfl rfl, h.ne67 rfl rfl⟩, rfl, by decide⟩, ?_⟩; have hsz2 := h.below.size; exact (h.below.trans (Kp.below k h.below.size (fun b _ => by omega))).trans (hb2.mono (by omega))

def Sp.j7 (g : Sp.Gram) (s : Int) : List UInt8 :=
 if 0 ≤ s ∧ s < (g.toks.length : Int) then (match g.toks[s.toNat]? with
  | some t => if t.lit = true then Sp.yC (t.name.headD 0) else t.name
  | none => [])
 else if 1000 ≤ s ∧ s - 1000 < (g.nons.length : Int) then (match g.nons[(s - 1000).toNat]? with
  | some n => n.name
  | none => [])
 else []
set_option maxRecDepth 100000 in
set_option maxHeartbeats 6400000 in
theorem zDQ (g : Sp.Gram) (gv : Value) (s : Int) (W : World) (hw : -9223372036854775808 ≤ s ∧ s ≤ 9223372036854775807) (hg : GramAt W gv g) (hl1 : g.toks.length ≤ 2 ^ 40) (hl2 : g.nons.length ≤ 2 ^ 40)
  (hok : ∀ t, g.toks[s.toNat]? = some t → t.lit = true → ∃ c, t.name = [c]) :
  Calls Tryz.prog 10 #[gv, .int .i64 s] W fun e w' => e = .returned (.string ⟨(Sp.j7 g s).toArray⟩) ∧ Below W.heap.size W w' := by
 obtain ⟨hw1, hw2⟩ := hw; obtain ⟨tv, nv, pv, rfl, ht, hn, hp⟩ := hg; obtain ⟨ta, tc, htv⟩ := ht.form; obtain ⟨na, nc, hnv⟩ := hn.form; obtain ⟨f, g', hp1, _⟩ := hp; obtain ⟨pa, pc, hpv⟩ := hp1.form; subst htv hnv hpv; rw [List.length_map] at ht hn ⊢; obtain ⟨toks, nons, prods, pro, tl⟩ := g; simp only at *
 clear hp1; rw [List.length_map] at *
 obtain ⟨nt, hnt⟩ : ∃ nt, nt = toks.length := ⟨_, rfl⟩
 obtain ⟨nn, hnn⟩ : ∃ nn, nn = nons.length := ⟨_, rfl⟩
 rw [← hnt] at ht hl1 ⊢; rw [← hnn] at hn hl2 ⊢; by_cases h1 : 0 ≤ s ∧ s < (nt : Int)
 ·obtain ⟨k, rfl⟩ : ∃ k : Nat, s = (k : Int) := ⟨s.toNat, by omega⟩
  have hk : k < toks.length := by omega
  obtain ⟨t, hta⟩ : ∃ t, toks[k]? = some t := ⟨_, List.getElem?_eq_getElem hk⟩
  obtain ⟨b, off, rfl, hb, hc⟩ := ht.at (k := k) (row := tokC t) (by rw [List.getElem?_map, hta]; rfl); have hc' := hc (W.alloc (.cells #[.slice (some ⟨b, off, none⟩) nt tc, .slice na nn nc, .slice pa prods.length pc, .string ⟨pro.toArray⟩, .string ⟨tl.toArray⟩] 39)) ((Below.refl _ W).alloc (Nat.le_refl _) _); have c0 := hc' 0 _ rfl; have c1 := hc' 1 _ rfl; simp only [Nat.add_zero] at c0
  have hR : Hid (Sp.j7 ⟨toks, nons, prods, pro, tl⟩ (k : Int) = if t.lit = true then Sp.yC (t.name.headD 0) else t.name) := zh (by
   unfold Sp.j7; rw [if_pos (by simp only; omega), show (k : Int).toNat = k by omega]
   simp only [hta])
  have hok' := hok t (by rw [show (k : Int).toNat = k by omega]; exact hta); have h2 : (k : Int) < (nt : Int) := h1.2; have h0 : (0 : Int) ≤ (k : Int) := h1.1; clear hc hc' hok hnt hnn ht hn hta h1 hk; obtain ⟨nm, lt, nu, lv, asc, tg⟩ := t; simp only at c0 c1 hok' hR
  cases lt with
  | true =>
   obtain ⟨c, rfl⟩ := hok' rfl; have HT := zh (fun W' => char_Text c W'); clear hok'; go_enter Tryz.func10, Tryz.ntmps10
   go_wp2_with fail; refine (HT.out _).mono ?_; rintro e w' ⟨rfl, hb'⟩; go_wp2_with fail; go_ret; exact ⟨by rw [hR.out]; rfl, ((Below.refl _ W).alloc (Nat.le_refl _) _).trans (hb'.mono (by simp))⟩
  | false =>
   clear hok'; go_enter Tryz.func10, Tryz.ntmps10
   go_wp2_with fail; go_ret; exact ⟨by rw [hR.out]; rfl, (Below.refl _ W).alloc (Nat.le_refl _) _⟩
 ·by_cases h2 : 1000 ≤ s ∧ s - 1000 < (nn : Int)
  ·obtain ⟨k, rfl⟩ : ∃ k : Nat, s = 1000 + (k : Int) := ⟨(s - 1000).toNat, by omega⟩
   have hk : k < nons.length := by omega
   obtain ⟨t, hta⟩ : ∃ t, nons[k]? = some t := ⟨_, List.getElem?_eq_getElem hk⟩
   obtain ⟨b, off, rfl, hb, hc⟩ := hn.at (k := k) (row := nonC t) (by rw [List.getElem?_map, hta]; rfl); have hc' := hc (W.alloc (.cells #[.slice ta nt tc, .slice (some ⟨b, off, none⟩) nn nc, .slice pa prods.length pc, .string ⟨pro.toArray⟩, .string ⟨tl.toArray⟩] 39)) ((Below.refl _ W).alloc (Nat.le_refl _) _); have c0 := hc' 0 _ rfl; simp only [Nat.add_zero] at c0
   have hR : Hid (Sp.j7 ⟨toks, nons, prods, pro, tl⟩ (1000 + (k : Int)) = t.name) := zh (by
    unfold Sp.j7; rw [if_neg (by simp only; omega), if_pos (by simp only; omega), show (1000 + (k : Int) - 1000).toNat = k by omega]
    simp only [hta])
   have hd0 : (0 : Int) ≤ 1000 + (k : Int) := by omega
   have hd1 : ¬ 1000 + (k : Int) < (nt : Int) := by omega
   have hd2 : (1000 : Int) ≤ 1000 + (k : Int) := h2.1; have hd3 : (k : Int) < (nn : Int) := by omega
   have hsub : IntKind.i64.wrap (1000 + (k : Int) - 1000) = (k : Int) := by rw [show 1000 + (k : Int) - 1000 = (k : Int) by omega]; exact IntWalk.i64_in _ ⟨by omega, by omega⟩
   clear hc hc' hok hnt hnn ht hn hta h1 h2 hk; obtain ⟨nm, tg⟩ := t; go_enter Tryz.func10, Tryz.ntmps10
   go_wp2_with fail; go_ret; exact ⟨by rw [hR.out]; rfl, (Below.refl _ W).alloc (Nat.le_refl _) _⟩
  ·have hR : Hid (Sp.j7 ⟨toks, nons, prods, pro, tl⟩ s = []) := zh (by
    unfold Sp.j7
    rw [if_neg (by simp only; omega), if_neg (by simp only; omega)])
   clear hok hn ht; by_cases h0 : 0 ≤ s
   ·have hd1 : ¬ s < (nt : Int) := by omega
    by_cases h3 : 1000 ≤ s
    ·have hd3 : ¬ s - 1000 < (nn : Int) := by omega
     have hsub : IntKind.i64.wrap (s - 1000) = s - 1000 := IntWalk.i64_in _ ⟨by omega, by omega⟩; clear h1 h2 hnt hnn; go_enter Tryz.func10, Tryz.ntmps10
     go_wp2_with fail; go_ret; exact ⟨by rw [hR.out]; rfl, (Below.refl _ W).alloc (Nat.le_refl _) _⟩
    ·clear h1 h2 hnt hnn
     go_enter Tryz.func10, Tryz.ntmps10
     go_wp2_with fail; go_ret; exact ⟨by rw [hR.out]; rfl, (Below.refl _ W).alloc (Nat.le_refl _) _⟩
   ·have h3 : ¬ 1000 ≤ s := by omega
    clear h1 h2 hnt hnn; go_enter Tryz.func10, Tryz.ntmps10
    go_wp2_with fail; go_ret; exact ⟨by rw [hR.out]; rfl, (Below.refl _ W).alloc (Nat.le_refl _) _⟩

def Sp.isNo (g : Sp.Gram) (s : Int) : Bool := (decide (0 ≤ s) && decide (s < (g.toks.length : Int))) || (decide (1000 ≤ s) && decide (s < 1000 + (g.nons.length : Int)))
set_option maxRecDepth 100000 in
set_option maxHeartbeats 3200000 in
theorem ref_Symbol (g : Sp.Gram) (gv : Value) (s : Int) (W : World) (hw : -9223372036854775808 ≤ s ∧ s ≤ 9223372036854775807) (hg : GramAt W gv g) (hl1 : g.toks.length ≤ 2 ^ 40) (hl2 : g.nons.length ≤ 2 ^ 40) :
  Calls Tryz.prog 35 #[gv, .int .i64 s] W fun e w' => e = .returned (.bool (Sp.isNo g s)) ∧ Below W.heap.size W w' := by
 obtain ⟨hw1, hw2⟩ := hw; obtain ⟨tv, nv, pv, rfl, ht, hn, hp⟩ := hg; obtain ⟨ta, tc, htv⟩ := ht.form; obtain ⟨na, nc, hnv⟩ := hn.form; obtain ⟨f, g', hp1, _⟩ := hp; obtain ⟨pa, pc, hpv⟩ := hp1.form; subst htv hnv hpv; rw [List.length_map] at ht hn ⊢; obtain ⟨toks, nons, prods, pro, tl⟩ := g; simp only at *
 clear hp1 ht hn; simp only [List.length_map, List.length_mapIdx] at *
 unfold Sp.isNo; simp only; obtain ⟨nt, hnt⟩ : ∃ nt, nt = toks.length := ⟨_, rfl⟩
 obtain ⟨nn, hnn⟩ : ∃ nn, nn = nons.length := ⟨_, rfl⟩
 rw [← hnt] at hl1 ⊢; rw [← hnn] at hl2 ⊢; clear hnt hnn; have hwl : IntKind.i64.wrap (1000 + (nn : Int)) = 1000 + (nn : Int) := IntWalk.i64_in _ ⟨by omega, by omega⟩; by_cases h0 : 0 ≤ s
 ·by_cases h1 : s < (nt : Int)
  ·have e : ((decide (0 ≤ s) && decide (s < (nt : Int))) || (decide (1000 ≤ s) && decide (s < 1000 + (nn : Int)))) = true := by simp [h0, h1]
   rw [e]; clear e; go_enter Tryz.func35, Tryz.ntmps35
   go_wp2_with fail; go_ret; exact ⟨rfl, (Below.refl _ W).alloc (Nat.le_refl _) _⟩
  ·by_cases h2 : 1000 ≤ s
   ·by_cases h3 : s < 1000 + (nn : Int)
    ·have e : ((decide (0 ≤ s) && decide (s < (nt : Int))) || (decide (1000 ≤ s) && decide (s < 1000 + (nn : Int)))) = true := by simp [h2, h3]
     rw [e]; clear e; go_enter Tryz.func35, Tryz.ntmps35
     go_wp2_with fail; go_ret; exact ⟨rfl, (Below.refl _ W).alloc (Nat.le_refl _) _⟩
    ·have e : ((decide (0 ≤ s) && decide (s < (nt : Int))) || (decide (1000 ≤ s) && decide (s < 1000 + (nn : Int)))) = false := by simp [h1, h3]
     rw [e]; clear e; go_enter Tryz.func35, Tryz.ntmps35
     go_wp2_with fail; go_ret; exact ⟨rfl, (Below.refl _ W).alloc (Nat.le_refl _) _⟩
   ·have e : ((decide (0 ≤ s) && decide (s < (nt : Int))) || (decide (1000 ≤ s) && decide (s < 1000 + (nn : Int)))) = false := by simp [h1, h2]
    rw [e]; clear e; go_enter Tryz.func35, Tryz.ntmps35
    go_wp2_with fail; go_ret; exact ⟨rfl, (Below.refl _ W).alloc (Nat.le_refl _) _⟩
 ·have h2 : ¬ 1000 ≤ s := by omega
  have e : ((decide (0 ≤ s) && decide (s < (nt : Int))) || (decide (1000 ≤ s) && decide (s < 1000 + (nn : Int)))) = false := by simp [h0, h2]
  rw [e]; clear e; go_enter Tryz.func35, Tryz.ntmps35
  go_wp2_with fail; go_ret; exact ⟨rfl, (Below.refl _ W).alloc (Nat.le_refl _) _⟩
set_option maxRecDepth 100000 in
set_option maxHeartbeats 6400000 in
theorem ref_Name9 (g : Sp.Gram) (gv : Value) (s : Int) (W : World) (hw : -9223372036854775808 ≤ s ∧ s ≤ 9223372036854775807) (hg : GramAt W gv g) (hl1 : g.toks.length ≤ 40) (hl2 : g.nons.length ≤ 24)
  (hok : ∀ t, g.toks[s.toNat]? = some t → t.lit = true → ∃ c, t.name = [c]) :
  Calls Tryz.prog 11 #[gv, .int .i64 s] W fun e w' => e = .returned (.string ⟨(Sp.j7 g s).toArray⟩) ∧ Below W.heap.size W w' := by
 have hg0 := hg; obtain ⟨tv, nv, pv, rfl, ht, hn, hp⟩ := hg; obtain ⟨ta, tc, htv⟩ := ht.form; obtain ⟨na, nc, hnv⟩ := hn.form; obtain ⟨f, g', hp1, _⟩ := hp; obtain ⟨pa, pc, hpv⟩ := hp1.form; subst htv hnv hpv; rw [List.length_map] at ht hn; rw [List.length_map, List.length_map, List.length_mapIdx] at hg0 ⊢; obtain ⟨w1, hw1⟩ : ∃ w1 : World, w1 = W.alloc (.cells #[.slice ta g.toks.length tc, .slice na g.nons.length nc, .slice pa g.prods.length pc, .string ⟨g.pro.toArray⟩, .string ⟨g.tail.toArray⟩] 39) := ⟨_, rfl⟩
 have hb1 : Below W.heap.size W w1 := by rw [hw1]; exact (Below.refl _ W).alloc (Nat.le_refl _) _
 have hx1 : w1.heap[W.heap.size]? = some (.cells #[.slice ta g.toks.length tc, .slice na g.nons.length nc, .slice pa g.prods.length pc, .string ⟨g.pro.toArray⟩, .string ⟨g.tail.toArray⟩] 39 (0, 0)) := by rw [hw1]; exact zE W _
 have HSY := zh (ref_Symbol g _ s w1 hw (hg0.below hb1) (by omega) (by omega)); obtain ⟨hwa, hwb⟩ := hw; obtain ⟨toks, nons, prods, pro, tl⟩ := g; simp only at *
 clear hp1 hg0; obtain ⟨nt, hnt⟩ : ∃ nt, nt = toks.length := ⟨_, rfl⟩
 obtain ⟨nn, hnn⟩ : ∃ nn, nn = nons.length := ⟨_, rfl⟩
 obtain ⟨np, hnp⟩ : ∃ np, np = prods.length := ⟨_, rfl⟩
 rw [← hnt] at ht hl1 HSY hw1 hx1 ⊢; rw [← hnn] at hn hl2 HSY hw1 hx1 ⊢; rw [← hnp] at HSY hw1 hx1 ⊢; have hE : Hid (Sp.isNo ⟨toks, nons, prods, pro, tl⟩ s = ((decide (0 ≤ s) && decide (s < (nt : Int))) || (decide (1000 ≤ s) && decide (s < 1000 + (nn : Int))))) := zh (by unfold Sp.isNo; rw [hnt, hnn]); have HB1 := zh hb1; have HX1 := zh hx1; clear hb1 hx1; by_cases h1 : 0 ≤ s ∧ s < (nt : Int)
 ·obtain ⟨k, rfl⟩ : ∃ k : Nat, s = (k : Int) := ⟨s.toNat, by omega⟩
  have hk : k < toks.length := by omega
  obtain ⟨t, hta⟩ : ∃ t, toks[k]? = some t := ⟨_, List.getElem?_eq_getElem hk⟩
  obtain ⟨b, off, rfl, hb, hc⟩ := ht.at (k := k) (row := tokC t) (by rw [List.getElem?_map, hta]; rfl)
  have hR : Hid (Sp.j7 ⟨toks, nons, prods, pro, tl⟩ (k : Int) = if t.lit = true then Sp.yC (t.name.headD 0) else t.name) := zh (by
   unfold Sp.j7; rw [if_pos (by simp only; omega), show (k : Int).toNat = k by omega]
   simp only [hta])
  have hok' := hok t (by rw [show (k : Int).toNat = k by omega]; exact hta); have h2 : (k : Int) < (nt : Int) := h1.2; have h0 : (0 : Int) ≤ (k : Int) := h1.1; have h3 : ¬ (1000 : Int) ≤ (k : Int) := by omega
  have hE1 : Sp.isNo ⟨toks, nons, prods, pro, tl⟩ (k : Int) = true := by rw [hE.out]; simp [h2]
  rw [hE1] at HSY; have HC := zh hc; clear hc hok hnt hnn hnp ht hn hta h1 hk hE hE1; obtain ⟨nm, lt, nu, lv, asc, tg⟩ := t; simp only at hok' hR HC; go_enter Tryz.func11, Tryz.ntmps11
  go_upto_region 1 with fail
  rw [← hw1]; have x0 := zc 0 HX1.out; have x1 := zc 1 HX1.out; have x2 := zc 2 HX1.out; have x3 := zc 3 HX1.out; have x4 := zc 4 HX1.out; have lx := zC HX1.out; clear hw1; go_wp2_with fail; refine HSY.out.mono ?_; rintro e w2 ⟨rfl, hb2⟩; have hx2 := (hb2.block _ (zC HX1.out)).trans HX1.out; have hB2 := HB1.out.trans (hb2.mono HB1.out.size); have hc' := HC.out w2 hB2; have c0 := hc' 0 _ rfl; have c1 := hc' 1 _ rfl; simp only [Nat.add_zero] at c0; have x0 := zc 0 hx2; have x1 := zc 1 hx2; have lx := zC hx2; have lb : b < w2.heap.size := by have := hB2.size; omega
  have HB2 := zh hB2; clear hx2 hB2 hc' hb2 HSY
  cases lt with
  | true =>
   obtain ⟨c, rfl⟩ := hok' rfl; have HT := zh (fun W' => ref_Quote c W'); clear hok'; go_wp2_with fail; refine (HT.out _).mono ?_; rintro e w' ⟨rfl, hb'⟩; have HB' := zh (HB2.out.trans (hb'.mono HB2.out.size)); clear hb'; go_wp2_with fail; go_ret; exact ⟨by rw [hR.out]; rfl, HB'.out⟩
  | false =>
   clear hok'; go_wp2_with fail; go_ret; exact ⟨by rw [hR.out]; rfl, HB2.out⟩
 ·by_cases h2 : 1000 ≤ s ∧ s - 1000 < (nn : Int)
  ·obtain ⟨k, rfl⟩ : ∃ k : Nat, s = 1000 + (k : Int) := ⟨(s - 1000).toNat, by omega⟩
   have hk : k < nons.length := by omega
   obtain ⟨t, hta⟩ : ∃ t, nons[k]? = some t := ⟨_, List.getElem?_eq_getElem hk⟩
   obtain ⟨b, off, rfl, hb, hc⟩ := hn.at (k := k) (row := nonC t) (by rw [List.getElem?_map, hta]; rfl)
   have hR : Hid (Sp.j7 ⟨toks, nons, prods, pro, tl⟩ (1000 + (k : Int)) = t.name) := zh (by
    unfold Sp.j7; rw [if_neg (by simp only; omega), if_pos (by simp only; omega), show (1000 + (k : Int) - 1000).toNat = k by omega]
    simp only [hta])
   have hd2 : (1000 : Int) ≤ 1000 + (k : Int) := h2.1; have hd3 : (k : Int) < (nn : Int) := by omega
   have hE1 : Sp.isNo ⟨toks, nons, prods, pro, tl⟩ (1000 + (k : Int)) = true := by
    rw [hE.out]; have : decide (1000 ≤ 1000 + (k : Int)) = true := decide_eq_true hd2; have : decide (1000 + (k : Int) < 1000 + (nn : Int)) = true := decide_eq_true (by omega); simp_all
   rw [hE1] at HSY; have hsub : IntKind.i64.wrap (1000 + (k : Int) - 1000) = (k : Int) := by rw [show 1000 + (k : Int) - 1000 = (k : Int) by omega]; exact IntWalk.i64_in _ ⟨by omega, by omega⟩
   have HC := zh hc; clear hc hok hnt hnn hnp ht hn hta h1 h2 hk hE hE1; obtain ⟨nm, tg⟩ := t; go_enter Tryz.func11, Tryz.ntmps11
   go_upto_region 1 with fail
   rw [← hw1]; have x0 := zc 0 HX1.out; have x1 := zc 1 HX1.out; have x2 := zc 2 HX1.out; have x3 := zc 3 HX1.out; have x4 := zc 4 HX1.out; have lx := zC HX1.out; clear hw1; go_wp2_with fail; refine HSY.out.mono ?_; rintro e w2 ⟨rfl, hb2⟩; have hx2 := (hb2.block _ (zC HX1.out)).trans HX1.out; have hB2 := HB1.out.trans (hb2.mono HB1.out.size); have hc' := HC.out w2 hB2; have c0 := hc' 0 _ rfl; simp only [Nat.add_zero] at c0; have x0 := zc 0 hx2; have x1 := zc 1 hx2; have lx := zC hx2; have lb : b < w2.heap.size := by have := hB2.size; omega
   have HB2 := zh hB2; clear hx2 hB2 hc' hb2 HSY; go_wp2_with fail; go_ret; exact ⟨by rw [hR.out]; rfl, HB2.out⟩
  ·have hR : Hid (Sp.j7 ⟨toks, nons, prods, pro, tl⟩ s = []) := zh (by
    unfold Sp.j7
    rw [if_neg (by simp only; omega), if_neg (by simp only; omega)])
   have hE1 : Sp.isNo ⟨toks, nons, prods, pro, tl⟩ s = false := by
    rw [hE.out, Bool.or_eq_false_iff, Bool.and_eq_false_iff, Bool.and_eq_false_iff]; refine ⟨?_, ?_⟩
    ·by_cases h0 : 0 ≤ s
     ·exact .inr (decide_eq_false (by omega))
     ·exact .inl (decide_eq_false h0)
    ·by_cases h0 : 1000 ≤ s
     ·exact .inr (decide_eq_false (by omega))
     ·exact .inl (decide_eq_false h0)
   rw [hE1] at HSY; clear hok hn ht hnt hnn hnp h1 h2 hE hE1; go_enter Tryz.func11, Tryz.ntmps11
   go_upto_region 1 with fail
   rw [← hw1]; have x0 := zc 0 HX1.out; have x1 := zc 1 HX1.out; have x2 := zc 2 HX1.out; have x3 := zc 3 HX1.out; have x4 := zc 4 HX1.out; have lx := zC HX1.out; clear hw1; go_wp2_with fail; refine HSY.out.mono ?_; rintro e w2 ⟨rfl, hb2⟩; have HB2 := zh (HB1.out.trans (hb2.mono HB1.out.size)); clear hb2 HSY; go_wp2_with fail; go_ret; exact ⟨by rw [hR.out]; rfl, HB2.out⟩

namespace Sp

structure Rk where
 toks : List Tok
 given : List Bool
 types : List (List UInt8 × List UInt8)
 lefts : List (List UInt8)
 prods : List Prod
 fault : Fault
 level : Int
 inner : Nat
def okFault : Fault := ⟨0, 0, []⟩
def gN (f : Fault) (at_ : Int) (nm : List UInt8) : Fault := if f.err = 0 then ⟨3, at_, nm⟩ else f
def jA (r : Rk) (at_ : Int) (nm : List UInt8) : Rk := { r with fault := gN r.fault at_ nm }
def zAT (nm : List UInt8) (lt : Bool) : List Tok → Nat → Option Nat
 | [], _ => none
 | t :: ts, i => if (t.name = nm ∧ t.lit = lt) ∧ i ≠ 2 then some i else zAT nm lt ts (i + 1)
def rtok (toks : List Tok) (nm : List UInt8) (lt : Bool) : Option Nat := zAT nm lt (toks.drop 1) 1
def zAU (toks : List Tok) (n : Int) : Option Nat := yI (fun t => t.num == n) (toks.drop 3) 3
def rput (r : Rk) (x : Sym) : Rk × Nat :=
 match rtok r.toks x.name x.lit with
 | some t => (r, t)
 | none =>
  let num : Int := if x.lit = true then byte0 x.name else 0
  let f := if x.lit = true ∧ (zAU r.toks num).isSome = true then gN r.fault x.at_ x.name else r.fault
  ({ r with toks := r.toks ++ [⟨x.name, x.lit, num, 0, 0, []⟩], given := r.given ++ [x.lit], fault := f }, r.toks.length)
def rmod (r : Rk) (k : Nat) (f : Tok → Tok) : Rk := { r with toks := r.toks.set k (f (r.toks.getD k gF)) }
def jX (r : Rk) (t : Nat) (d : Decl) (x : Sym) : Rk :=
 if d.kind ≠ 1 then
  let f := if 0 < (r.toks.getD t gF).level then gN r.fault x.at_ x.name else r.fault
  { rmod r t (fun k => { k with level := r.level, assoc := d.kind - 1 }) with fault := f }
 else r
def rnum (r : Rk) (t : Nat) (x : Sym) : Rk :=
 if 0 < x.num then
  let f := if (t = 1 ∨ r.given.getD t false = true) ∨ (zAU r.toks x.num).isSome = true then gN r.fault x.at_ x.name else r.fault
  { rmod r t (fun k => { k with num := x.num }) with fault := f, given := r.given.set t true }
 else r
def rtag (r : Rk) (t : Nat) (d : Decl) (x : Sym) : Rk :=
 if d.tag ≠ [] then
  let f := if (r.toks.getD t gF).tag ≠ [] ∧ (r.toks.getD t gF).tag ≠ d.tag then gN r.fault x.at_ x.name else r.fault
  { rmod r t (fun k => { k with tag := d.tag }) with fault := f }
 else r
def xO (r : Rk) (d : Decl) (x : Sym) : Rk :=
 if d.kind = 5 then
  match xK r.types x.name with
  | none => { r with types := r.types ++ [(x.name, d.tag)] }
  | some t => if t ≠ d.tag then jA r x.at_ x.name else r
 else
  let p := rput r x
  rtag (rnum (jX p.1 p.2 d x) p.2 x) p.2 d x
def rsym (r : Rk × List UInt8) (d : Decl) (x : Sym) : Rk × List UInt8 :=
 if d.kind ≠ 6 then (xO r.1 d x, r.2)
 else (if r.2 ≠ [] then jA r.1 x.at_ x.name else r.1, x.name)
def rsyms (d : Decl) : List Sym → Rk × List UInt8 → Rk × List UInt8
 | [], r => r
 | x :: l, r => rsyms d l (rsym r d x)
def zAX : List Decl → Rk × List UInt8 → Rk × List UInt8
 | [], r => r
 | d :: l, r => zAX l (rsyms d d.syms (if 2 ≤ d.kind ∧ d.kind ≤ 4 then { r.1 with level := r.1.level + 1 } else r.1, r.2))
def kC (lefts : List (List UInt8)) (nm : List UInt8) : Option Nat := yI (fun l => l == nm) lefts 0
def zAM (r : Rk) (x : Rule) : Rk :=
 let r1 := if (rtok r.toks x.left false).isSome = true then jA r x.at_ x.left else r
 if (kC r1.lefts x.left).isNone = true then { r1 with lefts := r1.lefts ++ [x.left] } else r1
def gJ : List Rule → Rk → Rk
 | [], r => r
 | x :: l, r => gJ l (zAM r x)
def gC (kind : Int) (r : Rk) (x : Sym) : Rk := if 5 ≤ kind ∧ (kC r.lefts x.name).isNone = true then jA r x.at_ x.name else r
def kL (kind : Int) : List Sym → Rk → Rk
 | [], r => r
 | x :: l, r => kL kind l (gC kind r x)
def gK : List Decl → Rk → Rk
 | [], r => r
 | d :: l, r => gK l (kL d.kind d.syms r)
def yP (r : Rk) (x : Sym) : Rk × Int :=
 if x.lit = true then ((rput r x).1, ((rput r x).2 : Int))
 else match kC r.lefts x.name with
  | some k => (r, 1000 + 1 + (k : Int))
  | none =>
   match rtok r.toks x.name x.lit with
   | none => (jA r x.at_ x.name, 0)
   | some t => (r, (t : Int))
def qD (n : Nat) : Nat → List Part → Rk × Prod → Rk × Prod
 | _, [], r => r
 | i, w :: l, (r, p) =>
  if w.code = [] then
   let q := yP r w.sym
   qD n (i + 1) l (q.1, { p with right := p.right ++ [q.2] })
  else if i + 1 = n then qD n (i + 1) l (r, { p with code := w.code, at_ := w.at_ })
  else
   let m : Int := (r.lefts.length : Int) + ((r.inner + 1 : Nat) : Int)
   qD n (i + 1) l ({ r with inner := r.inner + 1, prods := r.prods ++ [⟨m, [], -1, w.code, p.right, w.at_⟩] }, { p with right := p.right ++ [1000 + m] })
def vC : List Int → Int → Int
 | [], c => c
 | x :: l, c => vC l (if x < 1000 then x else c)
def jZ (lefts : List (List UInt8)) (nm : List UInt8) : Int := match kC lefts nm with
 | some k => (k : Int)
 | none => -1
def qJ (r : Rk) (a : Alt) (c : Int) : Rk × Int :=
 if a.prec.name = [] then (r, c)
 else if a.prec.lit = true ∨ (kC r.lefts a.prec.name).isNone = true then yP r a.prec
 else (jA r a.prec.at_ a.prec.name, -1)
def ralt (r : Rk) (left : List UInt8) (a : Alt) : Rk :=
 let q := qD a.parts.length 0 a.parts (r, ⟨1 + jZ r.lefts left, [], -1, [], [], a.at_⟩)
 let c := qJ q.1 a (vC q.2.right q.2.prec)
 { c.1 with prods := c.1.prods ++ [{ q.2 with prec := c.2, args := q.2.right }] }
def ralts (left : List UInt8) : List Alt → Rk → Rk
 | [], r => r
 | a :: l, r => ralts left l (ralt r left a)
def xQ : List Rule → Rk → Rk
 | [], r => r
 | x :: l, r => xQ l (ralts x.left x.alts r)
def qP : Nat → List Non
 | 0 => []
 | n + 1 => qP n ++ [⟨64 :: Lib.itoa ((n + 1 : Nat) : Int), []⟩]
def rnons (r : Rk) : List Non := ⟨[36, 97, 99, 99, 101, 112, 116], []⟩ :: (r.lefts.map fun l => ⟨l, (xK r.types l).getD []⟩) ++ qP r.inner
def qI (r : Rk) : List Tok := r.toks.take 3 ++ jC 57346 (r.toks.drop 3) (r.given.drop 3)
def zBR (r : Rk) : Bool := (decide (40 < r.toks.length) || decide (24 < r.lefts.length + 1 + r.inner) || decide (60 < r.prods.length)) || r.prods.any fun p => decide (8 < p.right.length)
def rk0 : Rk := ⟨mk0.toks, mk0.given, [], [], [], okFault, 0, 0⟩
def xT (x : zM) : Rk :=
 let q := zAX x.decls (rk0, [])
 let r := gK x.decls (gJ x.rules q.1)
 let start := if q.2 = [] then (match x.rules with
  | [] => []
  | u :: _ => u.left) else q.2
 xQ x.rules { r with prods := [⟨0, [1000 + 1 + jZ r.lefts start], -1, [], [], 0⟩] }
def qC (x : zM) : Gram × Fault :=
 if may x = false then (xG, ⟨1, 0, []⟩) else
  let r := xT x
  if r.fault.err ≠ 0 then (xG, r.fault)
  else if zBR r = true then (xG, ⟨4, 0, []⟩)
  else (⟨qI r, rnons r, r.prods, x.pro, x.tail⟩, okFault)
end Sp
end Go.Proofs.YtddnomjfcbplpaaGreatDoor
