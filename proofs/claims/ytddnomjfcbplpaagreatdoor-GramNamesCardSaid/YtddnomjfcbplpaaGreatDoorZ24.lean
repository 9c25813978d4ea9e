import Derived.Test.YtddnomjfcbplpaaGreatDoorZ23
import Derived.Laws.AppendOwnNone
namespace Go.Proofs.YtddnomjfcbplpaaGreatDoor
open Go.RowKit Go.Maps

def zZ (B : Nat) (w : World) (v : Value) (l : List Sp.Prod) (S : Nat → Prop) : Prop :=
 ∃ f g : Nat → Value, w.ownsRow B 68 6 v l.length (l.mapIdx fun i p => xF (f i) (g i) p).flatten ∧
  ∀ (i : Nat) (p : Sp.Prod), l[i]? = some p → ((∃ b, w.ownsRow b 3 1 (f i) p.right.length (yJ p.right)) ∧ ∃ b, w.ownsRow b 3 1 (g i) p.args.length (yJ p.args)) ∧ (∀ c, (f i).ownBlock = some c → S c) ∧ ∀ c, (g i).ownBlock = some c → S c
theorem zZ.own {B : Nat} {w : World} {v : Value} {l : List Sp.Prod} {S : Nat → Prop} (h : zZ B w v l S) : zBM B w v l := by
 obtain ⟨f, g, h1, h2⟩ := h; exact ⟨f, g, h1, fun i p hp => (h2 i p hp).1⟩
theorem zZ.of_own {B : Nat} {w : World} {v : Value} {l : List Sp.Prod} {S : Nat → Prop} (h : zBM B w v l) (hS : ∀ c, c < w.heap.size → S c) : zZ B w v l S := by
 obtain ⟨f, g, h1, h2⟩ := h; refine ⟨f, g, h1, fun i p hp => ⟨h2 i p hp, fun c hc => ?_, fun c hc => ?_⟩⟩
 ·obtain ⟨⟨b, k⟩, _⟩ := h2 i p hp
  exact hS c (k.lt c hc).2
 ·obtain ⟨_, b, k⟩ := h2 i p hp
  exact hS c (k.lt c hc).2
theorem zZ.mono {B : Nat} {w : World} {v : Value} {l : List Sp.Prod} {S T : Nat → Prop} (h : zZ B w v l S) (hS : ∀ c, c < w.heap.size → S c → T c) : zZ B w v l T := by
 obtain ⟨f, g, h1, h2⟩ := h; refine ⟨f, g, h1, fun i p hp => ⟨(h2 i p hp).1, fun c hc => ?_, fun c hc => ?_⟩⟩
 ·obtain ⟨⟨⟨b, k⟩, _⟩, h3, _⟩ := h2 i p hp
  exact hS c (k.lt c hc).2 (h3 c hc)
 ·obtain ⟨⟨_, b, k⟩, _, h3⟩ := h2 i p hp
  exact hS c (k.lt c hc).2 (h3 c hc)
theorem zZ.kp {B : Nat} {w w' : World} {v : Value} {l : List Sp.Prod} {S T : Nat → Prop} (h : zZ B w v l S) (k : Kp T w w') (hv : ∀ b, v.ownBlock = some b → T b) (hT : ∀ c, S c → T c) : zZ B w' v l S := by
 obtain ⟨f, g, h1, h2⟩ := h; refine ⟨f, g, zP h1 k hv, fun i p hp => ?_⟩; obtain ⟨⟨⟨b, k1⟩, c, k2⟩, h3, h4⟩ := h2 i p hp; exact ⟨⟨⟨b, zP k1 k (fun b hb => hT b (h3 b hb))⟩, c, zP k2 k (fun b hb => hT b (h4 b hb))⟩, h3, h4⟩
theorem zZ.below {B : Nat} {w w' : World} {v : Value} {l : List Sp.Prod} {S : Nat → Prop} (h : zZ B w v l S) (hb : Below w.heap.size w w') : zZ B w' v l S := by
 obtain ⟨f, g, h1, h2⟩ := h; refine ⟨f, g, zL h1 hb, fun i p hp => ?_⟩; obtain ⟨⟨⟨b, k1⟩, c, k2⟩, h3, h4⟩ := h2 i p hp; exact ⟨⟨⟨b, zL k1 hb⟩, c, zL k2 hb⟩, h3, h4⟩
theorem zBV {B : Nat} {w w' : World} {v' : Value} {l : List Sp.Prod} {S T : Nat → Prop} {f g : Nat → Value} {u a : Value} {p : Sp.Prod}
  (hc : ∀ (i : Nat) (p : Sp.Prod), l[i]? = some p → ((∃ b, w.ownsRow b 3 1 (f i) p.right.length (yJ p.right)) ∧ ∃ b, w.ownsRow b 3 1 (g i) p.args.length (yJ p.args)) ∧ (∀ c, (f i).ownBlock = some c → S c) ∧ ∀ c, (g i).ownBlock = some c → S c)
  (k : Kp T w w') (hT : ∀ c, S c → T c) (hn : w'.ownsRow B 68 6 v' (l.length + 1) ((l.mapIdx fun i p => xF (f i) (g i) p).flatten ++ xF u a p))
  (hu : ∃ b, w'.ownsRow b 3 1 u p.right.length (yJ p.right)) (ha : ∃ b, w'.ownsRow b 3 1 a p.args.length (yJ p.args)) (hSu : ∀ c, u.ownBlock = some c → S c) (hSa : ∀ c, a.ownBlock = some c → S c) : zZ B w' v' (l ++ [p]) S := by
 refine ⟨fun i => if i < l.length then f i else u, fun i => if i < l.length then g i else a, ?_, fun i q hq => ?_⟩
 ·have e1 : ((l ++ [p]).mapIdx fun i p => xF (if i < l.length then f i else u) (if i < l.length then g i else a) p).flatten = (l.mapIdx fun i p => xF (f i) (g i) p).flatten ++ xF u a p := by
   rw [zDA, List.flatten_append]
   have e2 : (l.mapIdx fun i p => xF (if i < l.length then f i else u) (if i < l.length then g i else a) p) = l.mapIdx fun i p => xF (f i) (g i) p := by
    apply List.ext_getElem?
    intro i; rw [List.getElem?_mapIdx, List.getElem?_mapIdx]
    cases hi : l[i]? with
    | none => rfl
    | some q =>
     have := (List.getElem?_eq_some_iff.1 hi).1; simp [this]
   rw [e2]; simp
  rw [List.length_append, e1]; exact hn
 ·by_cases hi : i < l.length
  ·rw [List.getElem?_append_left hi] at hq
   obtain ⟨⟨⟨b, k1⟩, c, k2⟩, h3, h4⟩ := hc i q hq; simp only [if_pos hi]; exact ⟨⟨⟨b, zP k1 k (fun b hb => hT b (h3 b hb))⟩, c, zP k2 k (fun b hb => hT b (h4 b hb))⟩, h3, h4⟩
  ·rw [List.getElem?_append_right (by omega)] at hq
   have hq2 := List.mem_of_getElem? hq; simp at hq2; subst hq2; simp only [if_neg hi]; exact ⟨⟨hu, ha⟩, hSu, hSa⟩
theorem maker_prod {B : Nat} {w w' : World} {m : Nat} {x : Sp.zM} {s : Sp.Mk} {v : MkV} {e at_ : Int} {nm : List UInt8} {pv' : Value} {p : Sp.Prod} {g1 : Nat} (h : zS B w m x s v e at_ nm)
  (k : Kp (fun b => v.pv.ownBlock ≠ some b ∧ b ≠ m) w w') (hp : zBM B w' pv' (s.prods ++ [p]))
  (hb : w'.heap[m]? = some (.cells (zX x s { v with pv := pv' } e at_ nm).toArray 99 (0, 0))) (hv : pv'.ownBlock = some g1) (ha : v.pv.ownBlock = some g1 ∨ w.heap.size ≤ g1) :
  zS B w' m x { s with prods := s.prods ++ [p] } { v with pv := pv' } e at_ nm ∧ MkFr m v { v with pv := pv' } w w' := by
 have hbm := h.block; obtain ⟨f, g, hpo, _⟩ := h.prods; have hty : ∀ {cs : Array Value} {t : TypeId} {fr : Nat × Nat} {b : Nat}, w.heap[b]? = some (.cells cs t fr) → t ≠ 68 → v.pv.ownBlock ≠ some b := fun hy ht e => qY hpo hy ht _ e rfl
 have hrow : ∀ {B' e' size n' : Nat} {u : Value} {xs : List Value}, w.ownsRow B' e' size u n' xs → e' ≠ 68 → e' ≠ 99 → w'.ownsRow B' e' size u n' xs := fun {B' e' size n' u xs} hh e1 e2 => by
  refine zP hh k (fun b hob => ⟨?_, fun e => ?_⟩)
  ·rcases hh.2 with ⟨rfl, _⟩ | ⟨g, cap, cur, rfl, _, hgg, _⟩
   ·simp [Value.ownBlock] at hob
   ·simp [Value.ownBlock] at hob
    subst hob; exact hty hgg e1
  ·exact qY hh hbm (Ne.symm e2) b hob e
 have hmp : ∀ b, (∃ es c, w.heap[b]? = some (.map es c)) → b < w.heap.size → w'.heap[b]? = w.heap[b]? := by
  rintro b ⟨es, c, hy⟩ hlt; refine k.block b hlt ⟨fun e => ?_, ?_⟩
  ·rcases hpo.2 with ⟨e0, _⟩ | ⟨g, cap, cur, e0, _, hgg, _⟩
   ·rw [e0] at e; simp [Value.ownBlock] at e
   ·rw [e0] at e
    simp [Value.ownBlock] at e; subst e; rw [hgg] at hy; cases hy
  ·rintro rfl; rw [hbm] at hy; cases hy
 refine ⟨⟨hb, hrow h.toks (by decide) (by decide), hrow h.given (by decide) (by decide), hrow h.nons (by decide) (by decide), hp, h.tmap.block (hmp _ h.tmap.isMap h.tmap.lt), h.nmap.block (hmp _ h.nmap.isMap h.nmap.lt), h.ymap.block (hmp _ h.ymap.isMap h.ymap.lt), h.behind, h.apart, h.same, h.three⟩, ⟨?_, ?_⟩⟩
 ·exact k.mono (fun b _ hn => ⟨fun e => hn (.inr (.inr (.inr (.inl e)))), fun e => hn (.inl e)⟩)
 ·rintro b (h | h | h | h | h | h | h | h)
  ·exact .inl (.inl h)
  ·exact .inl (.inr (.inl h))
  ·exact .inl (.inr (.inr (.inl h)))
  ·have h' : pv'.ownBlock = some b := h
   rw [hv] at h'; cases h'
   exact ha.imp (fun e => .inr (.inr (.inr (.inl e)))) id
  ·exact .inl (.inr (.inr (.inr (.inr (.inl h)))))
  ·exact .inl (.inr (.inr (.inr (.inr (.inr (.inl h))))))
  ·exact .inl (.inr (.inr (.inr (.inr (.inr (.inr (.inl h)))))))
  ·exact .inl (.inr (.inr (.inr (.inr (.inr (.inr (.inr h)))))))
theorem maker_inner {B : Nat} {w w' : World} {m : Nat} {x : Sp.zM} {s : Sp.Mk} {v : MkV} {e at_ : Int} {nm lf tg : List UInt8} {gn cn n g1 c1 : Nat} (h : zS B w m x s v e at_ nm) (hv : v.nv = .slice (some ⟨gn, 0, none⟩) n cn) (hn : n = s.nons.length)
  (k : Kp (fun b => b ≠ gn ∧ b ≠ m) w w')
  (hr : w'.ownsRow B 89 2 (.slice (some ⟨g1, 0, none⟩) (n + 1) c1) (n + 1) ((s.nons.map nonC).flatten ++ nonC ⟨lf, tg⟩))
  (hb : w'.heap[m]? = some (.cells (zX x s { v with nv := .slice (some ⟨g1, 0, none⟩) (n + 1) c1 } e at_ nm).toArray 99 (0, 0))) (ha : g1 = gn ∨ w.heap.size ≤ g1) :
  zS B w' m x { s with nons := s.nons ++ [⟨lf, tg⟩] } { v with nv := .slice (some ⟨g1, 0, none⟩) (n + 1) c1 } e at_ nm ∧ MkFr m v { v with nv := .slice (some ⟨g1, 0, none⟩) (n + 1) c1 } w w' := by
 have hno := h.nons; rw [hv, ← hn] at hno; obtain ⟨cu, hcu⟩ := yW hno; have hbm := h.block
 have hrow : ∀ {B' e' size n' : Nat} {u : Value} {xs : List Value}, w.ownsRow B' e' size u n' xs → 89 ≠ e' → 99 ≠ e' → w'.ownsRow B' e' size u n' xs := fun h e1 e2 =>
  zP h k (fun b hb => ⟨zG h hcu e1 b hb, zG h hbm e2 b hb⟩)
 have hmp : ∀ b, (∃ es c, w.heap[b]? = some (.map es c)) → b < w.heap.size → w'.heap[b]? = w.heap[b]? := by
  rintro b ⟨es, c, hy⟩ hlt; refine k.block b hlt ⟨?_, ?_⟩
  ·rintro rfl; rw [hcu] at hy; cases hy
  ·rintro rfl; rw [hbm] at hy; cases hy
 obtain ⟨f, g, p1, p2⟩ := h.prods; refine ⟨⟨hb, hrow h.toks (by decide) (by decide), hrow h.given (by decide) (by decide), ?_, ⟨f, g, hrow p1 (by decide) (by decide), fun i p hp => ?_⟩, h.tmap.block (hmp _ h.tmap.isMap h.tmap.lt), h.nmap.block (hmp _ h.nmap.isMap h.nmap.lt), h.ymap.block (hmp _ h.ymap.isMap h.ymap.lt), h.behind, h.apart, h.same, h.three⟩, ⟨?_, ?_⟩⟩
 ·show World.ownsRow _ _ _ _ _ _ _
  have e : (List.map nonC [(⟨lf, tg⟩ : Sp.Non)]).flatten = nonC ⟨lf, tg⟩ := by simp
  rw [List.length_append, ← hn, List.map_append, List.flatten_append, e]; exact hr
 ·obtain ⟨⟨b, k1⟩, c, k2⟩ := p2 i p hp
  exact ⟨⟨b, hrow k1 (by decide) (by decide)⟩, c, hrow k2 (by decide) (by decide)⟩
 ·exact k.mono (fun b _ hn => ⟨fun e => hn (.inr (.inr (.inl (by rw [hv, e]; rfl)))), fun e => hn (.inl e)⟩)
 ·rintro b (h | h | h | h | h | h | h | h)
  ·exact .inl (.inl h)
  ·exact .inl (.inr (.inl h))
  ·have e : g1 = b := Option.some.inj h
   rcases ha with e1 | e1
   ·exact .inl (.inr (.inr (.inl (by rw [hv, ← e, e1]; rfl))))
   ·exact .inr (by omega)
  ·exact .inl (.inr (.inr (.inr (.inl h))))
  ·exact .inl (.inr (.inr (.inr (.inr (.inl h)))))
  ·exact .inl (.inr (.inr (.inr (.inr (.inr (.inl h))))))
  ·exact .inl (.inr (.inr (.inr (.inr (.inr (.inr (.inl h)))))))
  ·exact .inl (.inr (.inr (.inr (.inr (.inr (.inr (.inr h)))))))
theorem zAN {B : Nat} {w w' : World} {m : Nat} {x : Sp.zM} {s : Sp.Mk} {v : MkV} {e at_ : Int} {nm : List UInt8} {T : Nat → Prop} (h : zS B w m x s v e at_ nm) (k : Kp T w w') (hT : ∀ b, yZ m v b → T b) {S : Nat → Prop} (hoff : zZ B w v.pv s.prods S) (hS : ∀ c, S c → T c) :
  zS B w' m x s v e at_ nm ∧ zZ B w' v.pv s.prods S := by
 have ho : zZ B w' v.pv s.prods S := hoff.kp k (fun b hb => hT b (.inr (.inr (.inr (.inl hb))))) hS; refine ⟨⟨(k.block m (zC h.block) (hT m (.inl rfl))).trans h.block, zP h.toks k (fun b hb => hT b (.inr (.inl hb))), zP h.given k (fun b hb => hT b (.inr (.inr (.inr (.inr (.inl hb)))))), zP h.nons k (fun b hb => hT b (.inr (.inr (.inl hb)))), ho.own, h.tmap.block (k.block _ h.tmap.lt (hT _ (.inr (.inr (.inr (.inr (.inr (.inl rfl)))))))), h.nmap.block (k.block _ h.nmap.lt (hT _ (.inr (.inr (.inr (.inr (.inr (.inr (.inl rfl))))))))), h.ymap.block (k.block _ h.ymap.lt (hT _ (.inr (.inr (.inr (.inr (.inr (.inr (.inr rfl))))))))), h.behind, h.apart, h.same, h.three⟩, ho⟩
theorem MkFr.aside {m : Nat} {v v1 : MkV} {W w w' : World} {T : Nat → Prop} (h : MkFr m v v1 W w) (k : Kp T w w') (hT : ∀ b, b < W.heap.size → T b) : MkFr m v v1 W w' :=
 ⟨⟨k.os.trans h.kp.os, k.tape.trans h.kp.tape, k.output.trans h.kp.output, Nat.le_trans h.kp.size k.size, fun b hb hs => (k.block b (Nat.lt_of_lt_of_le hb h.kp.size) (hT b hb)).trans (h.kp.block b hb hs)⟩, h.new⟩

theorem not_mk {B : Nat} {w : World} {m : Nat} {x : Sp.zM} {s : Sp.Mk} {v : MkV} {e at_ : Int} {nm : List UInt8} {b : Nat} {cs : Array Value} {t : TypeId} {fr : Nat × Nat} (h : zS B w m x s v e at_ nm) (hb : w.heap[b]? = some (.cells cs t fr))
  (ht : t ≠ 65 ∧ t ≠ 89 ∧ t ≠ 68 ∧ t ≠ 4 ∧ t ≠ 99) : ¬ yZ m v b := by
 have hmp : ∀ c, (∃ es cl, w.heap[c]? = some (.map es cl)) → b ≠ c := by
  rintro c ⟨es, cl, hy⟩ rfl; rw [hb] at hy; cases hy
 obtain ⟨f, g, hp, _⟩ := h.prods; rintro (rfl | h1 | h1 | h1 | h1 | rfl | rfl | rfl)
 ·have h2 := h.block
  rw [hb] at h2; simp only [Option.some.injEq, Obj.cells.injEq] at h2; exact ht.2.2.2.2 h2.2.1
 ·exact zG h.toks hb ht.1 b h1 rfl
 ·exact zG h.nons hb ht.2.1 b h1 rfl
 ·exact zG hp hb ht.2.2.1 b h1 rfl
 ·exact zG h.given hb ht.2.2.2.1 b h1 rfl
 ·exact hmp _ h.tmap.isMap rfl
 ·exact hmp _ h.nmap.isMap rfl
 ·exact hmp _ h.ymap.isMap rfl
theorem zZ.ne {B : Nat} {w : World} {v : Value} {l : List Sp.Prod} {S : Nat → Prop} {b0 : Nat} {cs : Array Value} {t : TypeId} {fr : Nat × Nat} (h : zZ B w v l S) (hb : w.heap[b0]? = some (.cells cs t fr)) (ht : t ≠ 3) : zZ B w v l (fun c => S c ∧ c ≠ b0) := by
 obtain ⟨f, g, h1, h2⟩ := h; refine ⟨f, g, h1, fun i p hp => ⟨(h2 i p hp).1, fun c hc => ⟨(h2 i p hp).2.1 c hc, ?_⟩, fun c hc => ⟨(h2 i p hp).2.2 c hc, ?_⟩⟩⟩
 ·obtain ⟨⟨b, k⟩, _⟩ := (h2 i p hp).1
  exact qY k hb ht c hc
 ·obtain ⟨_, b, k⟩ := (h2 i p hp).1
  exact qY k hb ht c hc
structure qW (B : Nat) (W : World) (m : Nat) (x : Sp.zM) (v0 : MkV) (ac : Array Value) (s : Sp.Mk) (v : MkV) (p : Sp.Prod) (rv : Value) (w : World) : Prop where
 mkr : zS B w m x s v 0 0 []
 off : zZ B w v.pv s.prods (fun c => rv.ownBlock ≠ some c)
 row : w.ownsRow W.heap.size 3 1 rv p.right.length (yJ p.right)
 box : w.heap[W.heap.size + 1]? = some (.cells (xF rv (.slice none 0 0) p).toArray 68 (0, 0))
 abox : w.heap[W.heap.size]? = some (.cells ac 60 (0, 0))
 fr : MkFr m v0 v W w
 nbox : ¬ yZ m v (W.heap.size + 1)
 same : v.dv = v0.dv ∧ v.rv = v0.rv
section
variable {B : Nat} {W : World} {m : Nat} {x : Sp.zM} {v0 : MkV} {ac : Array Value} {s : Sp.Mk} {v : MkV} {p : Sp.Prod} {rv : Value} {w w' : World}
theorem qW.below (h : qW B W m x v0 ac s v p rv w) (hb : Below w.heap.size w w') : qW B W m x v0 ac s v p rv w' :=
 ⟨zU h.mkr hb, h.off.below hb, zL h.row hb, (hb.block _ (zC h.box)).trans h.box, (hb.block _ (zC h.abox)).trans h.abox, h.fr.trans (MkFr.below v hb), h.nbox, h.same⟩
theorem qW.rv_ne (h : qW B W m x v0 ac s v p rv w) {b : Nat} {cs : Array Value} {t : TypeId} {fr : Nat × Nat} (hb : w.heap[b]? = some (.cells cs t fr)) (ht : t ≠ 3) : rv.ownBlock ≠ some b := fun e => qY h.row hb ht b e rfl
theorem qW.rv_mk (h : qW B W m x v0 ac s v p rv w) (b : Nat) (hm : yZ m v b) : rv.ownBlock ≠ some b := by
 intro e; rcases h.row.2 with ⟨e0, _⟩ | ⟨g, cap, cur, e0, _, hgg, _⟩
 ·rw [e0] at e; simp [Value.ownBlock] at e
 ·rw [e0] at e
  simp [Value.ownBlock] at e; subst e; exact not_mk h.mkr hgg (by decide) hm
theorem qW.size (h : qW B W m x v0 ac s v p rv w) : W.heap.size + 1 < w.heap.size := zC h.box
theorem qW.cell (h : qW B W m x v0 ac s v p rv w) {i : Nat} {u : Value} {p' : Sp.Prod} (hp : (xF rv (.slice none 0 0) p).toArray.setIfInBounds i u = (xF rv (.slice none 0 0) p').toArray) (hr : p'.right = p.right) : qW B W m x v0 ac s v p' rv (w.setCell ⟨W.heap.size + 1, i, none⟩ u) := by
 have k : Kp (fun b => b ≠ W.heap.size + 1) w (w.setCell ⟨W.heap.size + 1, i, none⟩ u) := (Kp.refl _ w).setCell (by simp) u; obtain ⟨h1, h2⟩ := zAN h.mkr k (fun b hb e => h.nbox (e ▸ hb)) (h.off.ne h.box (by decide)) (fun c hc => hc.2); refine ⟨h1, h2.mono (fun c _ hc => hc.1), ?_, ?_, ?_, h.fr.aside k (fun b hb => by omega), h.nbox, h.same⟩
 ·rw [hr]
  exact zR h.row h.box (by decide) _
 ·rw [← hp]
  exact zA h.box
 ·exact (k.block _ (zC h.abox) (by omega)).trans h.abox
theorem qW.push (h : qW B W m x v0 ac s v p rv w) {c : Int} {g cap n : Nat} (hn : n = p.right.length) (hown : w'.ownsRow W.heap.size 3 1 (.slice (some ⟨g, 0, none⟩) (n + 1) cap) (n + 1) (yJ p.right ++ [.int .i64 c])) (k : Kp (fun b => rv.ownBlock ≠ some b) w w') (hg : rv.ownBlock = some g ∨ w.heap.size ≤ g) :
  qW B W m x v0 ac s v { p with right := p.right ++ [c] } (.slice (some ⟨g, 0, none⟩) (n + 1) cap) (w'.setCell ⟨W.heap.size + 1, 1, none⟩ (.slice (some ⟨g, 0, none⟩) (n + 1) cap)) := by
 have hbx := (k.block _ (zC h.box) (h.rv_ne h.box (by decide))).trans h.box; have hax := (k.block _ (zC h.abox) (h.rv_ne h.abox (by decide))).trans h.abox
 have hoff : zZ B w v.pv s.prods (fun c => rv.ownBlock ≠ some c ∧ g ≠ c) := h.off.mono (fun c hc hs => ⟨hs, fun e => by
  rcases hg with h1 | h1
  ·exact hs (h1.trans (by rw [e]))
  ·omega⟩)
 obtain ⟨h1, h2⟩ := zAN h.mkr k h.rv_mk hoff (fun c hc => hc.1); have k2 : Kp (fun b => b ≠ W.heap.size + 1) w' (w'.setCell ⟨W.heap.size + 1, 1, none⟩ (.slice (some ⟨g, 0, none⟩) (n + 1) cap)) := (Kp.refl _ w').setCell (by simp) _; obtain ⟨h3, h4⟩ := zAN h1 k2 (fun b hb e => h.nbox (e ▸ hb)) (h2.ne hbx (by decide)) (fun c hc => hc.2); refine ⟨h3, h4.mono (fun c _ hc e => hc.1.2 (Option.some.inj e)), ?_, ?_, ?_, (h.fr.aside k (fun b hb e => ?_)).aside k2 (fun b hb => by omega), h.nbox, h.same⟩
 ·have e : yJ (p.right ++ [c]) = yJ p.right ++ [.int .i64 c] := by unfold yJ; simp
  show World.ownsRow _ _ _ _ _ (p.right ++ [c]).length (yJ (p.right ++ [c]))
  rw [e, List.length_append, ← hn]; exact zR hown hbx (by decide) _
 ·exact zA hbx
 ·exact (k2.block _ (zC hax) (by omega)).trans hax
 ·have := (h.row.lt b e).1
  omega
theorem qW.nons (h : qW B W m x v0 ac s v p rv w) {gn cn n g1 c1 : Nat} {lf tg : List UInt8} (hv : v.nv = .slice (some ⟨gn, 0, none⟩) n cn) (hn : n = s.nons.length)
  (k : Kp (fun b => b ≠ gn) w w') (hr : w'.ownsRow B 89 2 (.slice (some ⟨g1, 0, none⟩) (n + 1) c1) (n + 1) ((s.nons.map nonC).flatten ++ nonC ⟨lf, tg⟩)) (ha : g1 = gn ∨ w.heap.size ≤ g1) :
  qW B W m x v0 ac { s with nons := s.nons ++ [⟨lf, tg⟩] } { v with nv := .slice (some ⟨g1, 0, none⟩) (n + 1) c1 } p rv (w'.setCell ⟨m, 5, none⟩ (.slice (some ⟨g1, 0, none⟩) (n + 1) c1)) := by
 have hno := h.mkr.nons; rw [hv, ← hn] at hno; obtain ⟨cu, hcu⟩ := yW hno
 have hty : ∀ {b : Nat} {cs : Array Value} {t : TypeId} {fr : Nat × Nat}, w.heap[b]? = some (.cells cs t fr) → t ≠ 89 → b ≠ gn := by
  rintro b cs t fr hb ht rfl; rw [hcu] at hb; simp only [Option.some.injEq, Obj.cells.injEq] at hb; exact ht hb.2.1.symm
 have hbm := (k.block m (zC h.mkr.block) (hty h.mkr.block (by decide))).trans h.mkr.block; unfold zX at hbm; have k2 : Kp (fun b => b ≠ gn ∧ b ≠ m) w (w'.setCell ⟨m, 5, none⟩ (.slice (some ⟨g1, 0, none⟩) (n + 1) c1)) := (k.mono (fun b _ h => h.1)).setCell (by simp) _; obtain ⟨h1, h2⟩ := maker_inner h.mkr hv hn k2 (zR hr hbm (by decide) _) (zA hbm) ha
 have hmt : ∀ {b : Nat} {cs : Array Value} {t : TypeId} {fr : Nat × Nat}, w.heap[b]? = some (.cells cs t fr) → t ≠ 99 → b ≠ m := by
  rintro b cs t fr hb ht rfl; rw [h.mkr.block] at hb; simp only [Option.some.injEq, Obj.cells.injEq] at hb; exact ht hb.2.1.symm
 have hpv : ∀ b, v.pv.ownBlock = some b → b ≠ gn ∧ b ≠ m := fun b hb => by
  obtain ⟨f, g, hp, _⟩ := h.mkr.prods; exact ⟨zG hp hcu (by decide) b hb, zG hp h.mkr.block (by decide) b hb⟩
 refine ⟨h1, (((h.off.ne hcu (by decide)).ne h.mkr.block (by decide)).kp k2 hpv (fun c hc => ⟨hc.1.2, hc.2⟩)).mono (fun c _ hc => hc.1.1), ?_, (k2.block _ (zC h.box) ⟨hty h.box (by decide), hmt h.box (by decide)⟩).trans h.box, (k2.block _ (zC h.abox) ⟨hty h.abox (by decide), hmt h.abox (by decide)⟩).trans h.abox, h.fr.trans h2, fun hm => ?_, h.same⟩
 ·exact zP h.row k2 (fun b hb => ⟨zG h.row hcu (by decide) b hb, zG h.row h.mkr.block (by decide) b hb⟩)
 ·rcases h2.new _ hm with h3 | h3
  ·exact h.nbox h3
  ·have := h.size
   omega
theorem qW.prods (h : qW B W m x v0 ac s v p rv w) {pv' : Value} {q : Sp.Prod} {g1 : Nat} (k : Kp (fun b => v.pv.ownBlock ≠ some b) w w') (hp : zZ B w' pv' (s.prods ++ [q]) (fun c => rv.ownBlock ≠ some c)) (hv : pv'.ownBlock = some g1) (ha : v.pv.ownBlock = some g1 ∨ w.heap.size ≤ g1) :
  qW B W m x v0 ac { s with prods := s.prods ++ [q] } { v with pv := pv' } p rv (w'.setCell ⟨m, 6, none⟩ pv') := by
 obtain ⟨f, g, hpo, _⟩ := h.mkr.prods; have hty : ∀ {b : Nat} {cs : Array Value} {t : TypeId} {fr : Nat × Nat}, w.heap[b]? = some (.cells cs t fr) → t ≠ 68 → v.pv.ownBlock ≠ some b := fun hb ht e => zG hpo hb ht _ e rfl
 have hbm := (k.block m (zC h.mkr.block) (hty h.mkr.block (by decide))).trans h.mkr.block
 have hmt : ∀ {b : Nat} {cs : Array Value} {t : TypeId} {fr : Nat × Nat}, w.heap[b]? = some (.cells cs t fr) → t ≠ 99 → b ≠ m := by
  rintro b cs t fr hb ht rfl; rw [h.mkr.block] at hb; simp only [Option.some.injEq, Obj.cells.injEq] at hb; exact ht hb.2.1.symm
 have k2 : Kp (fun b => v.pv.ownBlock ≠ some b ∧ b ≠ m) w (w'.setCell ⟨m, 6, none⟩ pv') := (k.mono (fun b _ h => h.1)).setCell (by simp) _; have k3 : Kp (fun b => b ≠ m) w' (w'.setCell ⟨m, 6, none⟩ pv') := (Kp.refl _ w').setCell (by simp) _; have hbm2 := hbm; unfold zX at hbm2; obtain ⟨f', g', hpo', _⟩ := hp.own; have hp2 : zZ B (w'.setCell ⟨m, 6, none⟩ pv') pv' (s.prods ++ [q]) (fun c => rv.ownBlock ≠ some c) := ((hp.ne hbm (by decide)).kp k3 (fun b hb => zG hpo' hbm (by decide) b hb) (fun c hc => hc.2)).mono (fun c _ hc => hc.1); obtain ⟨h1, h2⟩ := maker_prod h.mkr k2 hp2.own (zA hbm2) hv ha; have hnb : v.pv.ownBlock ≠ some (W.heap.size + 1) := fun e => h.nbox (.inr (.inr (.inr (.inl e))))
 refine ⟨h1, hp2, zP h.row k2 (fun b hb => ⟨fun e => h.rv_mk b (.inr (.inr (.inr (.inl e)))) hb, zG h.row h.mkr.block (by decide) b hb⟩), (k2.block _ (zC h.box) ⟨hnb, hmt h.box (by decide)⟩).trans h.box, (k2.block _ (zC h.abox) ⟨hty h.abox (by decide), hmt h.abox (by decide)⟩).trans h.abox, h.fr.trans h2, fun hm => ?_, h.same⟩; rcases h2.new _ hm with h3 | h3
 ·exact h.nbox h3
 ·have := h.size
  omega
end

theorem zAC : (Tryz.prog.info? 3).map (fun i => (i.zero, i.size, i.bytes)) = some (some (.int .i64 0), 1, 8) := by kernel_rfl
theorem wp_copy_ints {o : Oper} {a : Act} {K : Act → World → Prop} {Q : Exit → Act → World → Prop} {w : World} (x : Operand) (ho : o.op = .call { callee := .builtin .append, args := #[.const (.slice none 0 0), x], argTypes := #[30, 30] })
  {B : Nat} {right : List Int} {ra : Option Addr} {rc : Nat} (hx : a.eval x = .slice ra right.length rc) (hrow : w.ownsRow B 3 1 (.slice ra right.length rc) right.length (yJ right)) (hnil : right = [] → ra = none ∧ rc = 0) (hr : right.length ≤ 100000)
  (h : ∀ (ad : Option Addr) (cap : Nat) (w' : World), (∃ b, w'.ownsRow b 3 1 (.slice ad right.length cap) right.length (yJ right)) → Below w.heap.size w w' → (∀ c, (Value.slice ad right.length cap).ownBlock = some c → w.heap.size ≤ c) → K (a.put o.dst (.slice ad right.length cap)) w') : Oper.wp Tryz.prog o a w K Q := by
 obtain ⟨ii0, hii0, hiz0, hiz1, hiz2⟩ := info_parts zAC
 cases right with
 | nil =>
  obtain ⟨rfl, rfl⟩ := hnil rfl; have h0 := h none 0 w ⟨0, World.ownsRow_nil _ _ _ _⟩ (Below.refl _ _) (fun c hc => by simp [Value.ownBlock] at hc); have hx' : a.eval x = .slice none 0 0 := hx; have hs : a.eval (.const (.slice none 0 0)) = .slice none 0 0 := rfl; have hrun := run_append_owned_none (P := Tryz.prog) (w := w) w.heap.size 30 o.type 3 ii0 1 Tryz.underlying30 hii0 (.slice none 0 0) 0 [] (World.ownsRow_nil _ _ _ _); unfold Oper.wp; simp only [execOp, ho, resolve, invoke, builtin, hs, hx', hrun, Sem.run_bind, Sem.run_pure, Result.andThen_ok, List.map_toArray, List.map_cons, List.map_nil]; exact h0
 | cons c0 l0 =>
  generalize hrt : c0 :: l0 = right at *
  have hn : 0 < right.length := by rw [← hrt]; simp
  obtain ⟨gr, cr, hv⟩ := yB hrow hn; simp only [Value.slice.injEq] at hv; obtain ⟨rfl, _, rfl⟩ := hv; refine wp_append_lies w (.const (.slice none 0 0)) x 30 ho w.heap.size 3 ii0 _ 1 8 Tryz.underlying30 hii0 hiz0 hiz1 hiz2 rfl (by omega) (.slice none 0 0) 0 [] rfl (World.ownsRow_nil _ _ _ _) ⟨gr, 0, none⟩ right.length rc (yJ right) hx (by unfold yJ; simp) ?_ ?_ hn (by unfold maxLen; omega) (by omega) (Nat.le_refl _) _ rfl ?_
  ·intro j u hj
   have hjl : j < right.length := by have := (List.getElem?_eq_some_iff.1 hj).1; unfold yJ at this; simpa using this
   have e : (⟨gr, 0, none⟩ : Addr).add j = ⟨gr, j, none⟩ := by unfold Addr.add; split <;> simp_all
   rw [e, hrow.cellAt j (by omega)]; exact hj
  ·intro u hu
   unfold yJ at hu; obtain ⟨z, _, rfl⟩ := List.mem_map.1 hu; rfl
  ·intro g cap w' hown hgrow hat hlt
   rw [Nat.zero_add, List.nil_append] at hown; rw [Nat.zero_add]; refine h _ _ w' ⟨_, hown⟩ ⟨hgrow.os, hgrow.tape, hgrow.output, hgrow.size, fun k hk => hgrow.block k hk (by simp [Value.ownBlock])⟩ (fun c hc => ?_); have e : g = c := by simpa [Value.ownBlock] using hc
   rcases hat with h1 | h1
   ·simp [Value.ownBlock] at h1
   ·omega
end Go.Proofs.YtddnomjfcbplpaaGreatDoor
