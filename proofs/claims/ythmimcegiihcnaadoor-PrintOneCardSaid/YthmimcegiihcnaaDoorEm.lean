/- Rows of a call's own whose elements name rows, each with a block of its own: one of them written. -/
import Derived.Test.YthmimcegiihcnaaDoorEi
import Derived.Test.YthmimcegiihcnaaDoorEl
namespace Go.Proofs.YthmimcegiihcnaaDoor
open Go.RowKit

theorem flatten_set {β : Type} (size k off : Nat) (v : β) (ho : off < size) : ∀ (L : List (List β)) (r : List β), (∀ r ∈ L, r.length = size) → L[k]? = some r → L.flatten.set (k * size + off) v = (L.set k (r.set off v)).flatten
  | [], r, _, h => by simp at h
  | x :: L, r, hl, h => by
    have hx := hl x (by simp)
    cases k with
    | zero =>
      simp only [List.getElem?_cons_zero, Option.some.injEq] at h
      subst h
      simp only [Nat.zero_mul, Nat.zero_add, List.flatten_cons, List.set_cons_zero]
      rw [List.set_append_left _ _ (by omega)]
    | succ k =>
      simp only [List.getElem?_cons_succ] at h
      have ih := flatten_set size k off v ho L r (fun r hr => hl r (by simp [hr])) h
      simp only [List.flatten_cons, List.set_cons_succ]
      rw [List.set_append_right _ _ (by rw [hx, Nat.succ_mul]; omega), ← ih]
      congr 2
      rw [hx, Nat.succ_mul]; omega

/-- Each element names a row with a block of its own. -/
def distR (f : Nat → Value) (n : Nat) : Prop := ∀ i j c, i < n → j < n → i ≠ j → (f i).ownBlock = some c → (f j).ownBlock ≠ some c
def OwnD {α : Type} (row : Value → α → List Value) (e : TypeId) (size : Nat) (child : World → Value → α → Prop) (B : Nat) (w : World) (v : Value) (l : List α) : Prop :=
  ∃ f : Nat → Value, w.ownsRow B e size v l.length (l.mapIdx fun i a => row (f i) a).flatten ∧ (∀ (i : Nat) (a : α), l[i]? = some a → child w (f i) a) ∧ distR f l.length
section
variable {α : Type} {row : Value → α → List Value} {e : TypeId} {size : Nat} {child : World → Value → α → Prop} {B : Nat} {w w' : World} {v : Value} {l : List α}
theorem OwnD.nil (row : Value → α → List Value) (e : TypeId) (size : Nat) (child : World → Value → α → Prop) (B : Nat) (w : World) : OwnD row e size child B w (.slice none 0 0) [] :=
  ⟨fun _ => .bool false, World.ownsRow_nil _ _ _ _, by simp, fun i _ _ hi => by simp at hi⟩
theorem OwnD.ownR (h : OwnD row e size child B w v l) : OwnR row e size child B w v l := by
  obtain ⟨f, h1, h2, _⟩ := h
  exact ⟨f, h1, h2⟩
theorem OwnD.kp {T : TypeId → Prop} (h : OwnD row e size child B w v l) (k : KpT T w w') (ht : T e) (hc : ∀ u a, child w u a → child w' u a) : OwnD row e size child B w' v l := by
  obtain ⟨f, h1, h2, h3⟩ := h
  exact ⟨f, ownsRow_kpT h1 k ht, fun i a ha => hc _ _ (h2 i a ha), h3⟩
theorem OwnD.snoc {u v' : Value} {a : α} {f : Nat → Value} (h3 : distR f l.length) (h2 : ∀ (i : Nat) (a : α), l[i]? = some a → child w (f i) a)
    (hn : w'.ownsRow B e size v' (l.length + 1) ((l.mapIdx fun i a => row (f i) a).flatten ++ row u a)) (hc : ∀ u a, child w u a → child w' u a) (hu : child w' u a)
    (hd : ∀ i c, i < l.length → (f i).ownBlock = some c → u.ownBlock ≠ some c) : OwnD row e size child B w' v' (l ++ [a]) := by
  refine ⟨fun i => if i < l.length then f i else u, ?_, fun i b hb => ?_, ?_⟩
  · have e1 : ((l ++ [a]).mapIdx fun i a => row (if i < l.length then f i else u) a).flatten = (l.mapIdx fun i a => row (f i) a).flatten ++ row u a := by
      rw [mapIdx_snoc, List.flatten_append]
      have e2 : (l.mapIdx fun i a => row (if i < l.length then f i else u) a) = l.mapIdx fun i a => row (f i) a := by
        apply List.ext_getElem?
        intro i
        rw [List.getElem?_mapIdx, List.getElem?_mapIdx]
        cases hi : l[i]? with
        | none => rfl
        | some b =>
          have := (List.getElem?_eq_some_iff.1 hi).1
          simp [this]
      rw [e2]
      simp
    rw [e1, List.length_append]
    exact hn
  · rw [List.getElem?_append] at hb
    by_cases hi : i < l.length
    · rw [if_pos hi] at hb
      simp only [if_pos hi]
      exact hc _ _ (h2 i b hb)
    · rw [if_neg hi] at hb
      simp only [if_neg hi]
      have : i - l.length = 0 := by
        have := (List.getElem?_eq_some_iff.1 hb).1
        simp at this; omega
      rw [this] at hb
      cases hb
      exact hu
  · intro i j c hi hj hij
    rw [List.length_append] at hi hj
    simp only [List.length_cons, List.length_nil] at hi hj
    dsimp only
    by_cases h1 : i < l.length
    · rw [if_pos h1]
      by_cases h2 : j < l.length
      · rw [if_pos h2]; exact h3 i j c h1 h2 hij
      · rw [if_neg h2]; exact hd i c h1
    · rw [if_neg h1]
      by_cases h2 : j < l.length
      · rw [if_pos h2]; intro e1 e2; exact hd j c h2 e2 e1
      · omega
/-- One element's row is another. -/
theorem OwnD.upd {f : Nat → Value} {k off : Nat} {a a' : α} {u' : Value} (hd : distR f l.length) (hk : l[k]? = some a)
    (ho : w'.ownsRow B e size v l.length ((l.mapIdx fun i a => row (f i) a).flatten.set (k * size + off) u')) (hoff : off < size) (hlen : ∀ u a, (row u a).length = size)
    (hrow : row u' a' = (row (f k) a).set off u') (hch : ∀ i b, i ≠ k → l[i]? = some b → child w' (f i) b) (hck : child w' u' a')
    (hb : ∀ c, u'.ownBlock = some c → (f k).ownBlock = some c ∨ ∀ i, i < l.length → (f i).ownBlock ≠ some c) : OwnD row e size child B w' v (l.set k a') := by
  have hkl := (List.getElem?_eq_some_iff.1 hk).1
  refine ⟨fun i => if i = k then u' else f i, ?_, fun i b hb' => ?_, fun i j c hi hj hij => ?_⟩
  · rw [List.length_set]
    rw [flatten_set size k off u' hoff _ (row (f k) a) (fun r hr => by
      obtain ⟨i, hi⟩ := List.mem_iff_getElem?.1 hr
      rw [List.getElem?_mapIdx] at hi
      obtain ⟨b, _, rfl⟩ := Option.map_eq_some_iff.1 hi
      exact hlen _ _) (by rw [List.getElem?_mapIdx, hk]; rfl), ← hrow] at ho
    have e2 : ((l.set k a').mapIdx fun i a => row (if i = k then u' else f i) a) = (l.mapIdx fun i a => row (f i) a).set k (row u' a') := by
      apply List.ext_getElem?
      intro i
      rw [List.getElem?_mapIdx, List.getElem?_set, List.getElem?_set, List.getElem?_mapIdx, List.length_mapIdx]
      by_cases hi : k = i
      · subst hi; simp [hkl]
      · rw [if_neg hi, if_neg hi]
        have hi' : i ≠ k := fun e => hi e.symm
        simp only [if_neg hi']
    rw [e2]
    exact ho
  · rw [List.getElem?_set] at hb'
    by_cases hi : k = i
    · subst hi
      rw [if_pos rfl, if_pos hkl] at hb'
      cases hb'
      simp only [if_true]
      exact hck
    · rw [if_neg hi] at hb'
      have hi' : i ≠ k := fun e => hi e.symm
      simp only [if_neg hi']
      exact hch i b hi' hb'
  · rw [List.length_set] at hi hj
    dsimp only
    by_cases h1 : i = k
    · subst h1
      rw [if_pos rfl, if_neg (fun e => hij e.symm)]
      intro e1
      rcases hb c e1 with h | h
      · exact hd i j c hi hj hij h
      · exact h j hj
    · rw [if_neg h1]
      by_cases h2 : j = k
      · subst h2
        rw [if_pos rfl]
        intro e1 e2
        rcases hb c e2 with h | h
        · exact hd i j c hi hj hij e1 h
        · exact h i hi e1
      · rw [if_neg h2]
        exact hd i j c hi hj hij
end
/-- A block of a row of the call's own is as the world says. -/
theorem symsOwn_block {w : World} {u : Value} {d : Sp.Decl} (h : symsOwn w u d) : ∀ c, u.ownBlock = some c → c < w.heap.size := by
  obtain ⟨b, h⟩ := h
  exact fun c hc => (h.lt c hc).2
theorem altsOwn_block {w : World} {u : Value} {r : Sp.Rule} (h : altsOwn w u r) : ∀ c, u.ownBlock = some c → c < w.heap.size := by
  obtain ⟨b, f, h, _⟩ := h
  exact fun c hc => (h.lt c hc).2
theorem symsOwn_grown {w w' : World} {u : Value} {d : Sp.Decl} {b : Option Nat} (h : symsOwn w u d) (hg : w.grownBy w' b) (hne : ∀ c, u.ownBlock = some c → b ≠ some c) : symsOwn w' u d := by
  obtain ⟨base, h⟩ := h
  exact ⟨base, ownsRow_kp (S := fun c => b ≠ some c) h ((Kp.refl _ w).grown hg (fun k hk hn => hn hk)) hne⟩
theorem Sp.addLast_set (s : Sp.Sym) : ∀ (l : List Sp.Decl) (d : Sp.Decl), l[l.length - 1]? = some d → Sp.addLast s l = l.set (l.length - 1) ⟨d.kind, d.tag, d.syms ++ [s], d.at_⟩
  | [], d, h => by simp at h
  | [e], d, h => by
    simp at h
    subst h
    rfl
  | e :: f :: l, d, h => by
    have hl : (e :: f :: l).length - 1 = ((f :: l).length - 1) + 1 := by simp
    rw [hl] at h ⊢
    rw [List.getElem?_cons_succ] at h
    rw [List.set_cons_succ, ← Sp.addLast_set s (f :: l) d h]
    rfl
theorem Sp.addAlt_set (a : Sp.Alt) : ∀ (k : Nat) (l : List Sp.Rule) (r : Sp.Rule), l[k]? = some r → Sp.addAlt a k l = l.set k ⟨r.left, r.alts ++ [a], r.at_⟩
  | k, [], r, h => by simp at h
  | 0, e :: l, r, h => by
    simp at h
    subst h
    rfl
  | k + 1, e :: l, r, h => by
    rw [List.getElem?_cons_succ] at h
    rw [List.set_cons_succ, ← Sp.addAlt_set a k l r h]
    rfl
end Go.Proofs.YthmimcegiihcnaaDoor
