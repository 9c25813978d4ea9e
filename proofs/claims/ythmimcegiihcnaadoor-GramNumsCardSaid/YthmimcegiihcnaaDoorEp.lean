/- Rows of a call's own, one within another: what of them stays while others are written. -/
import Derived.Test.YthmimcegiihcnaaDoorW1
import Derived.Test.YthmimcegiihcnaaDoorBi
import Derived.Test.YthmimcegiihcnaaDoorBY
namespace Go.Proofs.YthmimcegiihcnaaDoor
open Go.RowKit

theorem SlAt.at {w : World} {a : Option Addr} {n cap size : Nat} {rows : List (List Value)} (h : SlAt w (.slice a n cap) size rows) {k : Nat} {row : List Value} (hr : rows[k]? = Option.some row) :
    ∃ b off, a = Option.some ⟨b, off, none⟩ ∧ b < w.heap.size ∧ ∀ w', Below w.heap.size w w' → ∀ j u, row[j]? = Option.some u → w'.cell? ⟨b, off + k * size + j, none⟩ = Option.some u := by
  rcases h with ⟨hx, _⟩ | ⟨b, off, cap', hv, hlt, hc⟩
  · subst hx; simp at hr
  · simp only [Value.slice.injEq] at hv
    exact ⟨b, off, hv.1, hlt, fun w' hb j u hu => (hb.cell (p := ⟨b, _, none⟩) hlt).trans (hc k row hr j u hu)⟩
theorem below_box {W w' : World} {o : Obj} (h : Below (W.heap.size + 1) (W.alloc o) w') : Below W.heap.size W w' := ((Below.refl _ W).alloc (Nat.le_refl _) o).trans (h.mono (by omega))
theorem below_undrew {B : Nat} {w w' : World} (h : Below B w.drew w') : Below B w w' := ⟨h.os, h.tape, h.output, h.size, h.block⟩

/-- All blocks of the old world whose type T names read as before. -/
def KpT (T : TypeId → Prop) (w w' : World) : Prop := ∀ (b : Nat) (cs : Array Value) (t : TypeId) (fr : Nat × Nat), w.heap[b]? = some (.cells cs t fr) → T t → w'.heap[b]? = some (.cells cs t fr)
theorem KpT.trans {T : TypeId → Prop} {a b c : World} (h : KpT T a b) (k : KpT T b c) : KpT T a c := fun i cs t fr hb ht => k i cs t fr (h i cs t fr hb ht) ht
theorem KpT.mono {S T : TypeId → Prop} {a b : World} (h : KpT S a b) (hs : ∀ t, T t → S t) : KpT T a b := fun i cs t fr hb ht => h i cs t fr hb (hs t ht)
theorem KpT.below {T : TypeId → Prop} {w w' : World} (h : Below w.heap.size w w') : KpT T w w' := fun b _ _ _ hb _ => (h.block b (lt_at hb)).trans hb
theorem KpT.alloc {T : TypeId → Prop} {a w : World} (h : KpT T a w) (o : Obj) : KpT T a (w.alloc o) := h.trans (KpT.below ((Below.refl _ w).alloc (Nat.le_refl _) o))
theorem KpT.setCell {T : TypeId → Prop} {a w : World} (h : KpT T a w) {b i : Nat} {cs : Array Value} {t : TypeId} {fr : Nat × Nat} (hb : w.heap[b]? = some (.cells cs t fr)) (ht : ¬ T t) (u : Value) : KpT T a (w.setCell ⟨b, i, none⟩ u) := by
  refine h.trans fun c cs' t' fr' hc ht' => ?_
  rw [Below.heap_setCell _ _ _ _ (fun e => ?_)]
  · exact hc
  · have e' : c = b := by simpa using e
    subst e'
    rw [hb] at hc
    simp only [Option.some.injEq, Obj.cells.injEq] at hc
    exact ht (hc.2.1 ▸ ht')
theorem KpT.grown {w w' : World} {base : Nat} {e : TypeId} {size : Nat} {v : Value} {n : Nat} {xs : List Value} (h : w.ownsRow base e size v n xs) (hg : w.grownBy w' v.ownBlock) : KpT (· ≠ e) w w' := by
  intro b cs t fr hb ht
  rw [hg.block b (lt_at hb) (fun hk => ?_)]
  · exact hb
  · exact ownsRow_ne h hb ht b hk.symm rfl
theorem ownsRow_kpT {T : TypeId → Prop} {w w' : World} {base : Nat} {e : TypeId} {size : Nat} {v : Value} {n : Nat} {xs : List Value} (h : w.ownsRow base e size v n xs) (k : KpT T w w') (ht : T e) : w'.ownsRow base e size v n xs := by
  refine ⟨h.1, ?_⟩
  rcases h.2 with hn | ⟨g, cap, cur, rfl, hb, hgg, rest⟩
  · exact .inl hn
  · exact .inr ⟨g, cap, cur, rfl, hb, k g _ _ _ hgg ht, rest⟩

/-- A row of the call's own, of elements that each name a value whose reading child tells. -/
def OwnR {α : Type} (row : Value → α → List Value) (e : TypeId) (size : Nat) (child : World → Value → α → Prop) (B : Nat) (w : World) (v : Value) (l : List α) : Prop :=
  ∃ f : Nat → Value, w.ownsRow B e size v l.length (l.mapIdx fun i a => row (f i) a).flatten ∧ ∀ (i : Nat) (a : α), l[i]? = some a → child w (f i) a
section
variable {α : Type} {row : Value → α → List Value} {e : TypeId} {size : Nat} {child : World → Value → α → Prop} {B : Nat} {w w' : World} {v : Value} {l : List α}
theorem OwnR.nil (row : Value → α → List Value) (e : TypeId) (size : Nat) (child : World → Value → α → Prop) (B : Nat) (w : World) : OwnR row e size child B w (.slice none 0 0) [] :=
  ⟨fun _ => .bool false, World.ownsRow_nil _ _ _ _, by simp⟩
theorem OwnR.kp {T : TypeId → Prop} (h : OwnR row e size child B w v l) (k : KpT T w w') (ht : T e) (hc : ∀ u a, child w u a → child w' u a) : OwnR row e size child B w' v l := by
  obtain ⟨f, h1, h2⟩ := h
  exact ⟨f, ownsRow_kpT h1 k ht, fun i a ha => hc _ _ (h2 i a ha)⟩
theorem mapIdx_snoc {β : Type} (g : Nat → α → β) (l : List α) (a : α) : (l ++ [a]).mapIdx g = l.mapIdx g ++ [g l.length a] := by
  rw [List.mapIdx_append]; simp
theorem OwnR.snoc {u v' : Value} {a : α} {f : Nat → Value} (h2 : ∀ (i : Nat) (a : α), l[i]? = some a → child w (f i) a)
    (hn : w'.ownsRow B e size v' (l.length + 1) ((l.mapIdx fun i a => row (f i) a).flatten ++ row u a)) (hc : ∀ u a, child w u a → child w' u a) (hu : child w' u a) : OwnR row e size child B w' v' (l ++ [a]) := by
  refine ⟨fun i => if i < l.length then f i else u, ?_, fun i b hb => ?_⟩
  · have e1 : ((l ++ [a]).mapIdx fun i a => row (if i < l.length then f i else u) a).flatten = (l.mapIdx fun i a => row (f i) a).flatten ++ row u a := by
      rw [mapIdx_snoc, List.flatten_append]
      have e2 : (l.mapIdx fun i a => row (if i < l.length then f i else u) a) = l.mapIdx fun i a => row (f i) a := by
        apply List.ext_getElem?
        intro i
        rw [List.getElem?_mapIdx, List.getElem?_mapIdx]
        cases hi : l[i]? with
        | none => rfl
        | some b =>
          have := (List.getElem?_eq_some_iff.1 hi).1
          simp [this]
      rw [e2]
      simp
    rw [e1, List.length_append]
    exact hn
  · rw [List.getElem?_append] at hb
    by_cases hi : i < l.length
    · rw [if_pos hi] at hb
      simp only [if_pos hi]
      exact hc _ _ (h2 i b hb)
    · rw [if_neg hi] at hb
      simp only [if_neg hi]
      have : i - l.length = 0 := by
        have := (List.getElem?_eq_some_iff.1 hb).1
        simp at this; omega
      rw [this] at hb
      cases hb
      exact hu
theorem OwnR.slAt (h : OwnR row e size child B w v l) (hr : ∀ u a, (row u a).length = size) : ∃ f : Nat → Value, SlAt w v size (l.mapIdx fun i a => row (f i) a) ∧ ∀ (i : Nat) (a : α), l[i]? = some a → child w (f i) a := by
  obtain ⟨f, h1, h2⟩ := h
  refine ⟨f, slAt_of_owns _ (fun r hrr => ?_) (by rw [List.length_mapIdx]) h1, h2⟩
  obtain ⟨i, hi⟩ := List.mem_iff_getElem?.1 hrr
  rw [List.getElem?_mapIdx] at hi
  obtain ⟨b, _, rfl⟩ := Option.map_eq_some_iff.1 hi
  exact hr _ _
end
end Go.Proofs.YthmimcegiihcnaaDoor
