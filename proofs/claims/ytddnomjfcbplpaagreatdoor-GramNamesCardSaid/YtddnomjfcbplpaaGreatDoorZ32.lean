import Derived.Test.YtddnomjfcbplpaaGreatDoorZ31
import Derived.Deep.LoopGhost
namespace Go.Proofs.YtddnomjfcbplpaaGreatDoor
open Go.RowKit Go.Maps

theorem jY {w : World} {b B size n : Nat} {e : TypeId} {cs : Array Value} (h : w.heap[b]? = some (.cells cs e (0, 0))) (hb : B ≤ b) (hl : cs.size = n * size) (hm : n ≤ maxLen) : w.ownsRow B e size (.slice (some ⟨b, 0, none⟩) n n) n cs.toList :=
 ⟨by simpa using hl, .inr ⟨b, n, cs, rfl, hb, h, Nat.le_refl _, hm, hl, List.take_of_length_le (by rw [Array.length_toList, hl]; exact Nat.le_refl _)⟩⟩
structure PassSt (B : Nat) (w : World) (bs br ba : Nat) (dv pv : Value) (ds : List Sp.Decl) (ps : List Sp.Part) : Prop where
 src : w.heap[bs]? = some (.cells #[.string ⟨#[]⟩, dv, .slice (some ⟨br, 0, none⟩) 1 1, .string ⟨#[]⟩] 25 (0, 0))
 rule : w.heap[br]? = some (.cells #[.string ⟨#[97]⟩, .slice (some ⟨ba, 0, none⟩) 1 1, .int .i64 0] 63 (0, 0))
 alt : w.heap[ba]? = some (.cells #[pv, .string ⟨#[]⟩, .bool false, .int .i64 0, .int .i64 0, .int .i64 0] 60 (0, 0))
 parts : w.ownsRow B 47 6 pv ps.length (ps.map z6).flatten
 decls : qK B w dv ds
 ge : B ≤ bs ∧ B ≤ br ∧ B ≤ ba
theorem PassSt.rules {B : Nat} {w : World} {bs br ba : Nat} {dv pv : Value} {ds : List Sp.Decl} {ps : List Sp.Part} (h : PassSt B w bs br ba dv pv ds ps) :
  jO B w (.slice (some ⟨br, 0, none⟩) 1 1) [⟨[97], [⟨ps, ⟨[], false, 0, 0⟩, 0⟩], 0⟩] := by
 refine ⟨fun _ => .slice (some ⟨ba, 0, none⟩) 1 1, jY h.rule h.ge.2.1 rfl (by decide), fun i r hr => ?_⟩; obtain ⟨rfl, rfl⟩ := one_at hr; refine ⟨B, fun _ => pv, jY h.alt h.ge.2.2 rfl (by decide), fun i a ha => ?_⟩; obtain ⟨rfl, rfl⟩ := one_at ha; exact ⟨B, h.parts⟩
theorem KpT.of_kp {T : TypeId → Prop} {S : Nat → Prop} {w w' : World} (k : Kp S w w') (h : ∀ b cs t fr, w.heap[b]? = some (.cells cs t fr) → T t → S b) : KpT T w w' := fun b cs t fr hb ht => (k.block b (zC hb) (h b cs t fr hb ht)).trans hb
structure PassS2 (B : Nat) (w : World) (bs : Nat) (dv rv : Value) (ds : List Sp.Decl) (rs : List Sp.Rule) : Prop where
 src : w.heap[bs]? = some (.cells #[.string ⟨#[]⟩, dv, rv, .string ⟨#[]⟩] 25 (0, 0))
 decls : qK B w dv ds
 rules : jO B w rv rs
 ge : B ≤ bs
theorem PassSt.two {B : Nat} {w : World} {bs br ba : Nat} {dv pv : Value} {ds : List Sp.Decl} {ps : List Sp.Part} (h : PassSt B w bs br ba dv pv ds ps) : PassS2 B w bs dv (.slice (some ⟨br, 0, none⟩) 1 1) ds [⟨[97], [⟨ps, ⟨[], false, 0, 0⟩, 0⟩], 0⟩] := ⟨h.src, h.decls, h.rules, h.ge.1⟩

structure RkV where
 tv : Value
 nv : Value
 pv : Value
 gv : Value
 yv : Value
 lv : Value
def typC (p : List UInt8 × List UInt8) : List Value := [.string ⟨p.1.toArray⟩, .string ⟨p.2.toArray⟩]
def strV (l : List UInt8) : Value := .string ⟨l.toArray⟩
def yE (r : Sp.Rk) (v : RkV) : List Value := [v.tv, v.nv, v.pv, .string ⟨#[]⟩, .string ⟨#[]⟩, v.gv, v.yv, v.lv, .int .i64 r.fault.err, .int .i64 r.fault.at_, .string ⟨r.fault.name.toArray⟩, .int .i64 r.level, .int .i64 (r.inner : Int)]
structure zY (S : Nat → Prop) (B : Nat) (w : World) (m : Nat) (r : Sp.Rk) (v : RkV) : Prop where
 block : w.heap[m]? = some (.cells (yE r v).toArray 82 (0, 0))
 toks : w.ownsRow B 65 6 v.tv r.toks.length (r.toks.map tokC).flatten
 given : w.ownsRow B 4 1 v.gv r.given.length (r.given.map Value.bool)
 types : w.ownsRow B 89 2 v.yv r.types.length (r.types.map typC).flatten
 lefts : w.ownsRow B 9 1 v.lv r.lefts.length (r.lefts.map strV)
 prods : zZ B w v.pv r.prods S
 behind : B ≤ m
def RT (t : TypeId) : Prop := t ≠ 65 ∧ t ≠ 4 ∧ t ≠ 89 ∧ t ≠ 82
def RFr (B : Nat) (W w' : World) : Prop := Below B W w' ∧ KpT RT W w'
theorem RFr.below {B : Nat} {W w' : World} (h : Below W.heap.size W w') (hB : B ≤ W.heap.size) : RFr B W w' := ⟨h.mono hB, KpT.below h⟩
theorem RFr.trans {B : Nat} {a b c : World} (h : RFr B a b) (k : RFr B b c) : RFr B a c := ⟨h.1.trans k.1, h.2.trans k.2⟩
theorem RFr.size {B : Nat} {a b : World} (h : RFr B a b) : a.heap.size ≤ b.heap.size := h.1.size
theorem RFr.at {B : Nat} {a b : World} (h : RFr B a b) {i : Nat} {cs : Array Value} {t : TypeId} {fr : Nat × Nat} (hb : a.heap[i]? = some (.cells cs t fr)) (ht : RT t) : b.heap[i]? = some (.cells cs t fr) := h.2 i cs t fr hb ht
theorem zZ.kpT {B : Nat} {w w' : World} {v : Value} {l : List Sp.Prod} {S : Nat → Prop} {T : TypeId → Prop} (h : zZ B w v l S) (k : KpT T w w') (h1 : T 68) (h2 : T 3) : zZ B w' v l S := by
 obtain ⟨f, g, p1, p2⟩ := h; refine ⟨f, g, zD p1 k h1, fun i p hp => ?_⟩; obtain ⟨⟨⟨b, k1⟩, c, k2⟩, h3, h4⟩ := p2 i p hp; exact ⟨⟨⟨b, zD k1 k h2⟩, c, zD k2 k h2⟩, h3, h4⟩
section
variable {S : Nat → Prop} {B : Nat} {W w' wa : World} {m : Nat} {r r' : Sp.Rk} {v : RkV}
theorem zY.below (h : zY S B W m r v) (hb : Below W.heap.size W w') : zY S B w' m r v :=
 ⟨(hb.block m (zC h.block)).trans h.block, zL h.toks hb, zL h.given hb, zL h.types hb, zL h.lefts hb, h.prods.below hb, h.behind⟩
theorem zY.box (h : zY S B W m r v) (k : KpT (fun t => t ≠ 82) W w') (hb : w'.heap[m]? = some (.cells (yE r' v).toArray 82 (0, 0))) (e1 : r'.toks = r.toks) (e2 : r'.given = r.given) (e3 : r'.types = r.types) (e4 : r'.lefts = r.lefts) (e5 : r'.prods = r.prods) : zY S B w' m r' v := by
 refine ⟨hb, ?_, ?_, ?_, ?_, ?_, h.behind⟩
 ·rw [e1]; exact zD h.toks k (by decide)
 ·rw [e2]; exact zD h.given k (by decide)
 ·rw [e3]; exact zD h.types k (by decide)
 ·rw [e4]; exact zD h.lefts k (by decide)
 ·rw [e5]; exact h.prods.kpT k (by decide) (by decide)
theorem zY.size (h : zY S B W m r v) : B ≤ W.heap.size := by have := h.behind; have := zC h.block; omega
theorem zY.box1 {cs : Array Value} (hm : W.heap[m]? = some (.cells cs 82 (0, 0))) (hB : B ≤ m) (i : Nat) (u : Value) : KpT (fun t => t ≠ 82) W (W.setCell ⟨m, i, none⟩ u) ∧ RFr B W (W.setCell ⟨m, i, none⟩ u) := by
 have k : KpT (fun t => t ≠ 82) W (W.setCell ⟨m, i, none⟩ u) := KpT.setCell (fun _ _ _ _ h _ => h) hm (by simp) _; have := zC hm; exact ⟨k, Kp.below (S := fun b => b < B) ((Kp.refl _ W).setCell (by simp only; omega) _) (by omega) (fun b hb => hb), k.mono (fun t ht => ht.2.2.2)⟩
theorem zY.addTok {t : Sp.Tok} {u : Value} (h : zY S B W m r v) (hown : wa.ownsRow B 65 6 u (r.toks.length + 1) ((r.toks.map tokC).flatten ++ tokC t)) (k : KpT (fun t => t ≠ 65) W wa) (hb : Below B W wa) :
  zY S B (wa.setCell ⟨m, 0, none⟩ u) m { r with toks := r.toks ++ [t] } { v with tv := u } ∧ RFr B W (wa.setCell ⟨m, 0, none⟩ u) := by
 have hm := k m _ _ _ h.block (by decide); obtain ⟨k1, k2⟩ := zY.box1 hm h.behind 0 u; refine ⟨⟨zA hm, ?_, zD (zD h.given k (by decide)) k1 (by decide), zD (zD h.types k (by decide)) k1 (by decide), zD (zD h.lefts k (by decide)) k1 (by decide), (h.prods.kpT k (by decide) (by decide)).kpT k1 (by decide) (by decide), h.behind⟩, RFr.trans ⟨hb, k.mono (fun t ht => ht.1)⟩ k2⟩; simp only [List.length_append, List.length_singleton, List.map_append, List.map_cons, List.map_nil, List.flatten_append, List.flatten_cons, List.flatten_nil, List.append_nil]; exact zD hown k1 (by decide)
theorem zY.addGiven {b : Bool} {u : Value} (h : zY S B W m r v) (hown : wa.ownsRow B 4 1 u (r.given.length + 1) (r.given.map Value.bool ++ [.bool b])) (k : KpT (fun t => t ≠ 4) W wa) (hb : Below B W wa) :
  zY S B (wa.setCell ⟨m, 5, none⟩ u) m { r with given := r.given ++ [b] } { v with gv := u } ∧ RFr B W (wa.setCell ⟨m, 5, none⟩ u) := by
 have hm := k m _ _ _ h.block (by decide); obtain ⟨k1, k2⟩ := zY.box1 hm h.behind 5 u; refine ⟨⟨zA hm, zD (zD h.toks k (by decide)) k1 (by decide), ?_, zD (zD h.types k (by decide)) k1 (by decide), zD (zD h.lefts k (by decide)) k1 (by decide), (h.prods.kpT k (by decide) (by decide)).kpT k1 (by decide) (by decide), h.behind⟩, RFr.trans ⟨hb, k.mono (fun t ht => ht.2.1)⟩ k2⟩; simp only [List.length_append, List.length_singleton, List.map_append, List.map_cons, List.map_nil]; exact zD hown k1 (by decide)
theorem zY.addType {p : List UInt8 × List UInt8} {u : Value} (h : zY S B W m r v) (hown : wa.ownsRow B 89 2 u (r.types.length + 1) ((r.types.map typC).flatten ++ typC p)) (k : KpT (fun t => t ≠ 89) W wa) (hb : Below B W wa) :
  zY S B (wa.setCell ⟨m, 6, none⟩ u) m { r with types := r.types ++ [p] } { v with yv := u } ∧ RFr B W (wa.setCell ⟨m, 6, none⟩ u) := by
 have hm := k m _ _ _ h.block (by decide); obtain ⟨k1, k2⟩ := zY.box1 hm h.behind 6 u; refine ⟨⟨zA hm, zD (zD h.toks k (by decide)) k1 (by decide), zD (zD h.given k (by decide)) k1 (by decide), ?_, zD (zD h.lefts k (by decide)) k1 (by decide), (h.prods.kpT k (by decide) (by decide)).kpT k1 (by decide) (by decide), h.behind⟩, RFr.trans ⟨hb, k.mono (fun t ht => ht.2.2.1)⟩ k2⟩; simp only [List.length_append, List.length_singleton, List.map_append, List.map_cons, List.map_nil, List.flatten_append, List.flatten_cons, List.flatten_nil, List.append_nil]; exact zD hown k1 (by decide)
theorem zY.addLeft {p : List UInt8} {u : Value} (h : zY S B W m r v) (hown : wa.ownsRow B 9 1 u (r.lefts.length + 1) (r.lefts.map strV ++ [strV p])) (k : KpT (fun t => t ≠ 9) W wa) (hb : Below B W wa) :
  zY S B (wa.setCell ⟨m, 7, none⟩ u) m { r with lefts := r.lefts ++ [p] } { v with lv := u } ∧ Below B W (wa.setCell ⟨m, 7, none⟩ u) := by
 have hm := k m _ _ _ h.block (by decide); obtain ⟨k1, k2⟩ := zY.box1 hm h.behind 7 u; refine ⟨⟨zA hm, zD (zD h.toks k (by decide)) k1 (by decide), zD (zD h.given k (by decide)) k1 (by decide), zD (zD h.types k (by decide)) k1 (by decide), ?_, (h.prods.kpT k (by decide) (by decide)).kpT k1 (by decide) (by decide), h.behind⟩, hb.trans k2.1⟩; simp only [List.length_append, List.length_singleton, List.map_append, List.map_cons, List.map_nil]; exact zD hown k1 (by decide)
theorem zY.tokset {gt n ct k off : Nat} {t t' : Sp.Tok} {u : Value} (h : zY S B W m r v) (hv : v.tv = .slice (some ⟨gt, 0, none⟩) n ct) (hk : r.toks[k]? = some t) (hoff : off < 6) (hrow : tokC t' = (tokC t).set off u) :
  zY S B (W.setCell ⟨gt, k * 6 + off, none⟩ u) m { r with toks := r.toks.set k t' } v ∧ RFr B W (W.setCell ⟨gt, k * 6 + off, none⟩ u) := by
 have hto := h.toks; rw [hv] at hto
 have hn : n = r.toks.length := by
  rcases hto.2 with ⟨e0, _⟩ | ⟨_, _, _, e0, _⟩
  ·simp at e0
  ·simp only [Value.slice.injEq] at e0; exact e0.2.1.symm ▸ rfl
 subst hn; obtain ⟨cu, hgb⟩ := yW hto; have hst := (hto.stored (k * 6 + off) u).1; have hge := (hto.lt gt rfl).1; have kt : KpT (fun t => t ≠ 65) W (W.setCell ⟨gt, k * 6 + off, none⟩ u) := KpT.setCell (fun _ _ _ _ h _ => h) hgb (by simp) _
 have hset : (r.toks.map tokC).flatten.set (k * 6 + off) u = ((r.toks.set k t').map tokC).flatten := by
  rw [zCD 6 k off u hoff _ (tokC t) (fun r hr => by obtain ⟨a, _, rfl⟩ := List.mem_map.1 hr; rfl) (by rw [List.getElem?_map, hk]; rfl), List.map_set, hrow]
 refine ⟨⟨kt m _ _ _ h.block (by decide), ?_, zD h.given kt (by decide), zD h.types kt (by decide), zD h.lefts kt (by decide), h.prods.kpT kt (by decide) (by decide), h.behind⟩, ?_, kt.mono (fun t ht => ht.1)⟩
 ·show World.ownsRow _ _ _ _ _ _ _
  rw [List.length_set, ← hset, hv]; exact hst
 ·exact Kp.below (S := fun b => b < B) ((Kp.refl _ W).setCell (by simp only; omega) _) h.size (fun b hb => hb)
theorem zY.givenset {gg n cg k : Nat} (b : Bool) (h : zY S B W m r v) (hv : v.gv = .slice (some ⟨gg, 0, none⟩) n cg) :
  zY S B (W.setCell ⟨gg, k, none⟩ (.bool b)) m { r with given := r.given.set k b } v ∧ RFr B W (W.setCell ⟨gg, k, none⟩ (.bool b)) := by
 have hgo := h.given; rw [hv] at hgo
 have hn : n = r.given.length := by
  rcases hgo.2 with ⟨e0, _⟩ | ⟨_, _, _, e0, _⟩
  ·simp at e0
  ·simp only [Value.slice.injEq] at e0; exact e0.2.1.symm ▸ rfl
 subst hn; obtain ⟨cu, hgb⟩ := yW hgo; have hst := (hgo.stored k (.bool b)).1; have hge := (hgo.lt gg rfl).1; have kt : KpT (fun t => t ≠ 4) W (W.setCell ⟨gg, k, none⟩ (.bool b)) := KpT.setCell (fun _ _ _ _ h _ => h) hgb (by simp) _; have hset : (r.given.map Value.bool).set k (.bool b) = (r.given.set k b).map Value.bool := by rw [List.map_set]
 refine ⟨⟨kt m _ _ _ h.block (by decide), zD h.toks kt (by decide), ?_, zD h.types kt (by decide), zD h.lefts kt (by decide), h.prods.kpT kt (by decide) (by decide), h.behind⟩, ?_, kt.mono (fun t ht => ht.2.1)⟩
 ·show World.ownsRow _ _ _ _ _ _ _
  rw [List.length_set, ← hset, hv]; exact hst
 ·exact Kp.below (S := fun b => b < B) ((Kp.refl _ W).setCell (by simp only; omega) _) h.size (fun b hb => hb)
end
def ixI : Option Nat → Int
 | some k => (k : Int)
 | none => -1
set_option maxHeartbeats 1600000 in
theorem jU {S : Nat → Prop} {B : Nat} {W : World} {m : Nat} {r : Sp.Rk} {v : RkV} (at_ : Int) (nm : List UInt8) (h : zY S B W m r v) :
  Calls Tryz.prog 28 #[.pointer (some ⟨m, 0, none⟩), .int .i64 at_, .string ⟨nm.toArray⟩] W fun e w' => e = .returned (.tuple #[]) ∧ zY S B w' m (Sp.jA r at_ nm) v ∧ RFr B W w' ∧ KpT (fun t => t ≠ 82) W w' := by
 have hb := h.block; unfold yE at hb; have c8 := zc 8 hb; have c9 := zc 9 hb; have c10 := zc 10 hb; have f8 := zf 8 hb; have f9 := zf 9 hb; have f10 := zf 10 hb; have hl := zC hb; have HH := zh h; have HB := zh hb; obtain ⟨fe, hfe⟩ : ∃ fe, fe = r.fault.err := ⟨_, rfl⟩
 rw [← hfe] at c8; have HFE := zh hfe; clear h hb hfe; by_cases h0 : fe = 0
 ·subst h0
  go_enter Tryz.func28, Tryz.ntmps28
  go_wp2_with fail; refine bodyPost_end (results_none rfl _ _ _) rfl ?_; have e : Sp.jA r at_ nm = { r with fault := ⟨3, at_, nm⟩ } := by unfold Sp.jA Sp.gN; rw [if_pos HFE.out.symm]
  rw [e]; have hb' : (((W.setCell ⟨m, 8, none⟩ (.int .i64 3)).setCell ⟨m, 9, none⟩ (.int .i64 at_)).setCell ⟨m, 10, none⟩ (.string ⟨nm.toArray⟩)).heap[m]? = _ := zA (zA (zA HB.out)); have k : KpT (fun t => t ≠ 82) W (((W.setCell ⟨m, 8, none⟩ (.int .i64 3)).setCell ⟨m, 9, none⟩ (.int .i64 at_)).setCell ⟨m, 10, none⟩ (.string ⟨nm.toArray⟩)) := KpT.setCell (KpT.setCell (KpT.setCell (fun _ _ _ _ h _ => h) HB.out (by simp) _) (zA HB.out) (by simp) _) (zA (zA HB.out)) (by simp) _; refine ⟨rfl, HH.out.box k hb' rfl rfl rfl rfl rfl, ⟨?_, k.mono (fun t ht => ht.2.2.2)⟩, k⟩; have hB := HH.out.behind; exact Kp.below (S := fun b => b < B) ((((Kp.refl _ W).setCell (p := ⟨m, 8, none⟩) (by simp only; omega) _).setCell (p := ⟨m, 9, none⟩) (by simp only; omega) _).setCell (p := ⟨m, 10, none⟩) (by simp only; omega) _) HH.out.size (fun b hb => hb)
 ·have h0b : (fe == 0) = false := by rw [beq_eq_false_iff_ne]; exact h0
  have h0d : decide (fe = 0) = false := decide_eq_false h0; go_enter Tryz.func28, Tryz.ntmps28
  go_wp2_with fail; refine bodyPost_end (results_none rfl _ _ _) rfl ?_; have e : Sp.jA r at_ nm = r := by unfold Sp.jA Sp.gN; rw [if_neg (by rw [← HFE.out]; exact h0)]
  rw [e]; exact ⟨rfl, HH.out, RFr.below (Below.refl _ _) HH.out.size, fun _ _ _ _ h _ => h⟩

set_option maxRecDepth 100000 in
set_option maxHeartbeats 3200000 in
theorem ref_tok {S : Nat → Prop} {B N : Nat} {W : World} {m : Nat} {r : Sp.Rk} {v : RkV} (x : Sp.Sym) (h : zY S B W m r v) (hr : Sp.RB N r) (hN : N ≤ 2 ^ 40) :
  Calls Tryz.prog 29 #[.pointer (some ⟨m, 0, none⟩), symV x] W fun e w' => e = .returned (.int .i64 (ixI (Sp.rtok r.toks x.name x.lit))) ∧ Below W.heap.size W w' := by
 obtain ⟨nm, lt, nu, pa⟩ := x; show Calls _ _ #[_, .agg #[.string ⟨nm.toArray⟩, .bool lt, .int .i64 nu, .int .i64 pa]] _ _
 obtain ⟨w1, hw1⟩ : ∃ w1 : World, w1 = W.alloc (.cells #[.string ⟨nm.toArray⟩, .bool lt, .int .i64 nu, .int .i64 pa] 45) := ⟨_, rfl⟩
 have hbw : Below W.heap.size W w1 := by rw [hw1]; exact (Below.refl _ W).alloc (Nat.le_refl _) _
 have hx : w1.heap[W.heap.size]? = some (.cells #[.string ⟨nm.toArray⟩, .bool lt, .int .i64 nu, .int .i64 pa] 45 (0, 0)) := by rw [hw1]; exact zE W _
 replace h := h.below hbw; have h3 := hr.three; have hn40 := Nat.le_trans hr.toks hN; obtain ⟨toks, given, types, lefts, prods, fault, level, inner⟩ := r; have hb := h.block; have hown := h.toks; unfold yE at hb; obtain ⟨va, vc, htv⟩ := zJ hown; rw [htv] at hb hown; simp only at hb hown h3 hn40 ⊢; generalize hR : Sp.rtok toks nm lt = R; unfold Sp.rtok at hR; have c0 := zc 0 hb; have x0 := zc 0 hx; have x1 := zc 1 hx; have hl := zC hb; have hlx := zC hx; generalize hn : toks.length = n at *
 have HO := zh hown; have HR := zh hR; have HN := zh hn; have HBW := zh hbw; clear h hb hx hown hR hn hbw htv; go_enter Tryz.func29, Tryz.ntmps29
 go_wp2_with fail; rw [← hw1]; clear hw1; go_loopg [5] (n - 1) (fun g iv wr => ∃ (k d : Nat), 1 ≤ k ∧ k ≤ n ∧ g = n - k ∧ iv = .int .i64 k ∧ wr = w1.drewN d ∧ Sp.zAT nm lt (toks.drop k) k = R)
 case atStart => exact ⟨1, 0, Nat.le_refl _, by omega, rfl, rfl, rfl, HR.out⟩
 case round =>
  obtain ⟨k, dd, hk3, hk, rfl, rfl, rfl, hR⟩ := hrel; have HRR := zh hR; clear hR; have hk0 : (0 : Int) ≤ (k : Int) := Int.natCast_nonneg _; by_cases hkn : k < n
  ·have hk1 : (k : Int) < (n : Int) := by omega
   have hkt : k < toks.length := by have := HN.out; omega
   have e1 := List.getElem?_eq_getElem hkt; have d1 : toks.drop k = toks[k] :: toks.drop (k + 1) := List.drop_eq_getElem_cons hkt; have hR := HRR.out; rw [d1] at hR; unfold Sp.zAT at hR; generalize toks[k] = t at *
   have hown := HO.out; obtain ⟨gt, ct, hv⟩ := yB hown (by omega); simp only [Value.slice.injEq] at hv; obtain ⟨rfl, _, rfl⟩ := hv; have hlt : gt < w1.heap.size := (hown.lt gt rfl).2; obtain ⟨tn, tl, tu, te, ta, tg⟩ := t; have a0 := yY hown (fun _ => rfl) e1 hkn (j := 0) (u := .string ⟨tn.toArray⟩) rfl; have a1 := yY hown (fun _ => rfl) e1 hkn (j := 1) (u := .bool tl) rfl; simp only [Nat.add_zero] at a0 hR; clear d1 e1 hkt hown; by_cases hnm : tn = nm
   ·subst hnm
    by_cases hk2 : k = 2
    ·subst hk2
     have HR2 : Hid (Sp.zAT tn lt (toks.drop (2 + 1)) (2 + 1) = R) := zh (by rw [if_neg (by simp)] at hR; exact hR); clear hR HRR; cases tl <;> cases lt
     all_goals
      go_wp2_with fail; go_quiet (fail)
      go_wp2_with fail; go_roundg (n - (2 + 1))
      case measure => omega
      case rel => exact ⟨2 + 1, _, by omega, by omega, by omega, by go_num, rfl, HR2.out⟩
    ·have hk2d : decide ((k : Int) = 2) = false := decide_eq_false (by omega)
     have hk2b : ((k : Int) == 2) = false := by rw [beq_eq_false_iff_ne]; omega
     have hk2n : ((k : Int) != 2) = true := by rw [bne_iff_ne]; omega
     by_cases hlt2 : tl = lt
     ·subst hlt2
      have HR2 : Hid (some k = R) := zh (by rw [if_pos ⟨⟨rfl, rfl⟩, hk2⟩] at hR; exact hR); clear hR HRR; cases tl
      all_goals
       go_wp2_with fail; go_quiet (fail)
       go_wp2_with fail; go_ret; rw [← HR2.out]; exact ⟨zW rfl, below_drewN (below_drewN HBW.out _) _⟩
     ·have HR2 : Hid (Sp.zAT tn lt (toks.drop (k + 1)) (k + 1) = R) := zh (by rw [if_neg (fun hh => hlt2 hh.1.2)] at hR; exact hR)
      clear hR HRR; cases tl <;> cases lt
      all_goals first
       | exact absurd rfl hlt2
       | (go_wp2_with fail
          go_quiet (fail)
          go_wp2_with fail; go_roundg (n - (k + 1))
          case measure => omega
          case rel => exact ⟨k + 1, _, by omega, by omega, by omega, by go_num, rfl, HR2.out⟩)
   ·have hnb : (tn == nm) = false := by rw [beq_eq_false_iff_ne]; exact hnm
    have HR2 : Hid (Sp.zAT nm lt (toks.drop (k + 1)) (k + 1) = R) := zh (by rw [if_neg (fun hh => hnm hh.1.1)] at hR; exact hR); clear hR HRR; go_wp2_with fail; go_quiet (fail)
    go_wp2_with fail; go_roundg (n - (k + 1))
    case measure => omega
    case rel => exact ⟨k + 1, _, by omega, by omega, by omega, by go_num, rfl, HR2.out⟩
  ·obtain rfl : k = n := by omega
   have HR2 : Hid (none = R) := zh (by
    have h := HRR.out; rw [List.drop_eq_nil_of_le (by rw [HN.out]; exact Nat.le_refl _)] at h; unfold Sp.zAT at h
    exact h)
   clear HRR; go_wp2_with fail; go_ret; rw [← HR2.out]; exact ⟨zW rfl, below_drewN HBW.out _⟩
set_option maxRecDepth 100000 in
set_option maxHeartbeats 3200000 in
theorem ref_owner {S : Nat → Prop} {B N : Nat} {W : World} {m : Nat} {r : Sp.Rk} {v : RkV} (nu : Int) (h : zY S B W m r v) (hr : Sp.RB N r) (hN : N ≤ 2 ^ 40) :
  Calls Tryz.prog 52 #[.pointer (some ⟨m, 0, none⟩), .int .i64 nu] W fun e w' => e = .returned (.int .i64 (ixI (Sp.zAU r.toks nu))) ∧ W = w' := by
 have h3 := hr.three; have hn40 := Nat.le_trans hr.toks hN; obtain ⟨toks, given, types, lefts, prods, fault, level, inner⟩ := r; have hb := h.block; have hown := h.toks; unfold yE at hb; obtain ⟨va, vc, htv⟩ := zJ hown; rw [htv] at hb hown; simp only at hb hown h3 hn40 ⊢; generalize hR : Sp.zAU toks nu = R; unfold Sp.zAU at hR; have c0 := zc 0 hb; have hl := zC hb; generalize hn : toks.length = n at *
 have HO := zh hown; have HR := zh hR; have HN := zh hn; clear h hb hown hR hn htv; go_enter Tryz.func52, Tryz.ntmps52
 go_wp2_with fail; go_loopg [5] (n - 3) (fun g iv wr => ∃ k : Nat, 3 ≤ k ∧ k ≤ n ∧ g = n - k ∧ iv = .int .i64 k ∧ W = wr ∧ Sp.yI (fun t => t.num == nu) (toks.drop k) k = R)
 case atStart => exact ⟨3, Nat.le_refl _, by omega, rfl, rfl, rfl, HR.out⟩
 case round =>
  obtain ⟨k, hk3, hk, rfl, rfl, rfl, hR⟩ := hrel; have HRR := zh hR; clear hR; have hk0 : (0 : Int) ≤ (k : Int) := Int.natCast_nonneg _; by_cases hkn : k < n
  ·have hk1 : (k : Int) < (n : Int) := by omega
   have hkt : k < toks.length := by have := HN.out; omega
   have e1 := List.getElem?_eq_getElem hkt; have d1 : toks.drop k = toks[k] :: toks.drop (k + 1) := List.drop_eq_getElem_cons hkt; have hR := HRR.out; rw [d1] at hR; unfold Sp.yI at hR; generalize toks[k] = t at *
   have hown := HO.out; obtain ⟨gt, ct, hv⟩ := yB hown (by omega); simp only [Value.slice.injEq] at hv; obtain ⟨rfl, _, rfl⟩ := hv; have hlt : gt < W.heap.size := (hown.lt gt rfl).2; obtain ⟨tn, tl, tu, te, ta, tg⟩ := t; have a0 := yY hown (fun _ => rfl) e1 hkn (j := 2) (u := .int .i64 tu) rfl; (try simp only [Nat.add_zero] at hR); clear d1 e1 hkt hown; by_cases hnm : tu = nu
   ·subst hnm
    have HR2 : Hid (some k = R) := zh (by rw [if_pos (by simp)] at hR; exact hR); clear hR HRR; go_wp2_with fail; go_ret; rw [← HR2.out]; exact ⟨zW rfl, rfl⟩
   ·have hnb : (tu == nu) = false := by rw [beq_eq_false_iff_ne]; exact hnm
    have hnd : decide (tu = nu) = false := decide_eq_false hnm; have HR2 : Hid (Sp.yI (fun t => t.num == nu) (toks.drop (k + 1)) (k + 1) = R) := zh (by rw [if_neg (by simpa using hnm)] at hR; exact hR); clear hR HRR; go_wp2_with fail; go_roundg (n - (k + 1))
    case measure => omega
    case rel => exact ⟨k + 1, by omega, by omega, by omega, by go_num, rfl, HR2.out⟩
  ·obtain rfl : k = n := by omega
   have HR2 : Hid (none = R) := zh (by
    have h := HRR.out; rw [List.drop_eq_nil_of_le (by rw [HN.out]; exact Nat.le_refl _)] at h; unfold Sp.yI at h
    exact h)
   clear HRR; go_wp2_with fail; go_ret; rw [← HR2.out]; exact ⟨zW rfl, rfl⟩
set_option maxRecDepth 100000 in
set_option maxHeartbeats 3200000 in
theorem ref_typeOf {S : Nat → Prop} {B N : Nat} {W : World} {m : Nat} {r : Sp.Rk} {v : RkV} (nm : List UInt8) (h : zY S B W m r v) (hr : Sp.RB N r) (hN : N ≤ 2 ^ 40) :
  Calls Tryz.prog 32 #[.pointer (some ⟨m, 0, none⟩), .string ⟨nm.toArray⟩] W fun e w' => e = .returned (.int .i64 (ixI (Sp.typeIx r.types nm))) ∧ W = w' := by
 have h3 := hr.three; have hn40 := Nat.le_trans hr.types hN; obtain ⟨toks, given, types, lefts, prods, fault, level, inner⟩ := r; have hb := h.block; have hown := h.types; unfold yE at hb; obtain ⟨va, vc, htv⟩ := zJ hown; rw [htv] at hb hown; simp only at hb hown h3 hn40 ⊢; generalize hR : Sp.typeIx types nm = R; unfold Sp.typeIx at hR; have c0 := zc 6 hb; have hl := zC hb; generalize hn : types.length = n at *
 have HO := zh hown; have HR := zh hR; have HN := zh hn; clear h hb hown hR hn htv; go_enter Tryz.func32, Tryz.ntmps32
 go_wp2_with fail; go_loopg [5] (n - 0) (fun g iv wr => ∃ k : Nat, 0 ≤ k ∧ k ≤ n ∧ g = n - k ∧ iv = .int .i64 k ∧ W = wr ∧ Sp.yI (fun p => p.1 == nm) (types.drop k) k = R)
 case atStart => exact ⟨0, Nat.le_refl _, by omega, rfl, rfl, rfl, HR.out⟩
 case round =>
  obtain ⟨k, hk3, hk, rfl, rfl, rfl, hR⟩ := hrel; have HRR := zh hR; clear hR; have hk0 : (0 : Int) ≤ (k : Int) := Int.natCast_nonneg _; by_cases hkn : k < n
  ·have hk1 : (k : Int) < (n : Int) := by omega
   have hkt : k < types.length := by have := HN.out; omega
   have e1 := List.getElem?_eq_getElem hkt; have d1 : types.drop k = types[k] :: types.drop (k + 1) := List.drop_eq_getElem_cons hkt; have hR := HRR.out; rw [d1] at hR; unfold Sp.yI at hR; generalize types[k] = t at *
   have hown := HO.out; obtain ⟨gt, ct, hv⟩ := yB hown (by omega); simp only [Value.slice.injEq] at hv; obtain ⟨rfl, _, rfl⟩ := hv; have hlt : gt < W.heap.size := (hown.lt gt rfl).2; obtain ⟨tn, tg⟩ := t; have a0 := yY hown (fun _ => rfl) e1 hkn (j := 0) (u := .string ⟨tn.toArray⟩) rfl; simp only [Nat.add_zero] at a0; (try simp only [Nat.add_zero] at hR); clear d1 e1 hkt hown; by_cases hnm : tn = nm
   ·subst hnm
    have HR2 : Hid (some k = R) := zh (by rw [if_pos (by simp)] at hR; exact hR); clear hR HRR; go_wp2_with fail; go_ret; rw [← HR2.out]; exact ⟨zW rfl, rfl⟩
   ·have hnb : (tn == nm) = false := by rw [beq_eq_false_iff_ne]; exact hnm
    have hnd : decide (tn = nm) = false := decide_eq_false hnm; have HR2 : Hid (Sp.yI (fun p => p.1 == nm) (types.drop (k + 1)) (k + 1) = R) := zh (by rw [if_neg (by simpa using hnm)] at hR; exact hR); clear hR HRR; go_wp2_with fail; go_roundg (n - (k + 1))
    case measure => omega
    case rel => exact ⟨k + 1, by omega, by omega, by omega, by go_num, rfl, HR2.out⟩
  ·obtain rfl : k = n := by omega
   have HR2 : Hid (none = R) := zh (by
    have h := HRR.out; rw [List.drop_eq_nil_of_le (by rw [HN.out]; exact Nat.le_refl _)] at h; unfold Sp.yI at h
    exact h)
   clear HRR; go_wp2_with fail; go_ret; rw [← HR2.out]; exact ⟨zW rfl, rfl⟩
set_option maxRecDepth 100000 in
set_option maxHeartbeats 3200000 in
theorem zBH {S : Nat → Prop} {B N : Nat} {W : World} {m : Nat} {r : Sp.Rk} {v : RkV} (nm : List UInt8) (h : zY S B W m r v) (hr : Sp.RB N r) (hN : N ≤ 2 ^ 40) :
  Calls Tryz.prog 30 #[.pointer (some ⟨m, 0, none⟩), .string ⟨nm.toArray⟩] W fun e w' => e = .returned (.int .i64 (ixI (Sp.kC r.lefts nm))) ∧ W = w' := by
 have h3 := hr.three; have hn40 := Nat.le_trans hr.lefts hN; obtain ⟨toks, given, types, lefts, prods, fault, level, inner⟩ := r; have hb := h.block; have hown := h.lefts; unfold yE at hb; obtain ⟨va, vc, htv⟩ := zJ hown; rw [htv] at hb hown; simp only at hb hown h3 hn40 ⊢; generalize hR : Sp.kC lefts nm = R; unfold Sp.kC at hR; have c0 := zc 7 hb; have hl := zC hb; generalize hn : lefts.length = n at *
 have HO := zh hown; have HR := zh hR; have HN := zh hn; clear h hb hown hR hn htv; go_enter Tryz.func30, Tryz.ntmps30
 go_wp2_with fail; go_loopg [5] (n - 0) (fun g iv wr => ∃ k : Nat, 0 ≤ k ∧ k ≤ n ∧ g = n - k ∧ iv = .int .i64 k ∧ W = wr ∧ Sp.yI (fun l => l == nm) (lefts.drop k) k = R)
 case atStart => exact ⟨0, Nat.le_refl _, by omega, rfl, rfl, rfl, HR.out⟩
 case round =>
  obtain ⟨k, hk3, hk, rfl, rfl, rfl, hR⟩ := hrel; have HRR := zh hR; clear hR; have hk0 : (0 : Int) ≤ (k : Int) := Int.natCast_nonneg _; by_cases hkn : k < n
  ·have hk1 : (k : Int) < (n : Int) := by omega
   have hkt : k < lefts.length := by have := HN.out; omega
   have e1 := List.getElem?_eq_getElem hkt; have d1 : lefts.drop k = lefts[k] :: lefts.drop (k + 1) := List.drop_eq_getElem_cons hkt; have hR := HRR.out; rw [d1] at hR; unfold Sp.yI at hR; generalize lefts[k] = t at *
   have hown := HO.out; obtain ⟨gt, ct, hv⟩ := yB hown (by omega); simp only [Value.slice.injEq] at hv; obtain ⟨rfl, _, rfl⟩ := hv; have hlt : gt < W.heap.size := (hown.lt gt rfl).2; have a0 : W.cell? ⟨gt, k, none⟩ = some (.string ⟨t.toArray⟩) := jP hown e1 hkn; (try simp only [Nat.add_zero] at hR); clear d1 e1 hkt hown; by_cases hnm : t = nm
   ·subst hnm
    have HR2 : Hid (some k = R) := zh (by rw [if_pos (by simp)] at hR; exact hR); clear hR HRR; go_wp2_with fail; go_ret; rw [← HR2.out]; exact ⟨zW rfl, rfl⟩
   ·have hnb : (t == nm) = false := by rw [beq_eq_false_iff_ne]; exact hnm
    have hnd : decide (t = nm) = false := decide_eq_false hnm; have HR2 : Hid (Sp.yI (fun l => l == nm) (lefts.drop (k + 1)) (k + 1) = R) := zh (by rw [if_neg (by simpa using hnm)] at hR; exact hR); clear hR HRR; go_wp2_with fail; go_roundg (n - (k + 1))
    case measure => omega
    case rel => exact ⟨k + 1, by omega, by omega, by omega, by go_num, rfl, HR2.out⟩
  ·obtain rfl : k = n := by omega
   have HR2 : Hid (none = R) := zh (by
    have h := HRR.out; rw [List.drop_eq_nil_of_le (by rw [HN.out]; exact Nat.le_refl _)] at h; unfold Sp.yI at h
    exact h)
   clear HRR; go_wp2_with fail; go_ret; rw [← HR2.out]; exact ⟨zW rfl, rfl⟩
end Go.Proofs.YtddnomjfcbplpaaGreatDoor
