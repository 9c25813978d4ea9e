/- Maps of the call's own: what a block of entries answers, for elements of any type. -/
import Derived.Test.YthmimcegiihcnaaDoorW1
import Derived.Maps.Own
import Derived.Maps.Views
import Derived.DeepKeys4
namespace Go.Proofs.YthmimcegiihcnaaDoor
open Go.RowKit Go.Maps

/-- An element stands for itself. -/
def heldR (v : Value) : Option (DataW Value × List MemPlace) := some (.held v, [])
/-- Block b is a map of at most n entries that answers L. -/
def MapIs (P : Program) (k : TypeId) (w : World) (b n : Nat) (L : Value → Option Value) : Prop :=
  ∃ D : DataW Value, w.ownsMap P k heldR b n D ∧ ∀ key kl, keyOf P k key = some kl → ∀ z, D.atKey kl z = (match L key with | some v => .held v | none => z)
section
variable {P : Program} {k : TypeId} {w w' : World} {b n : Nat} {L : Value → Option Value}
theorem MapIs.kept {row : Option Nat} (h : MapIs P k w b n L) (hg : w.grownBy w' row) (hne : some b ≠ row) : MapIs P k w' b n L := by
  obtain ⟨D, h1, h2⟩ := h
  exact ⟨D, h1.kept hg hne, h2⟩
theorem MapIs.block (h : MapIs P k w b n L) (hb : w'.heap[b]? = w.heap[b]?) : MapIs P k w' b n L := by
  obtain ⟨D, ⟨es, c, h1, h2⟩, h3⟩ := h
  exact ⟨D, ⟨es, c, hb.trans h1, h2⟩, h3⟩
theorem MapIs.lt (h : MapIs P k w b n L) : b < w.heap.size := by
  obtain ⟨D, h1, _⟩ := h
  exact h1.lt
theorem MapIs.isMap (h : MapIs P k w b n L) : ∃ es c, w.heap[b]? = some (.map es c) := by
  obtain ⟨D, ⟨es, c, h1, _⟩, _⟩ := h
  exact ⟨es, c, h1⟩
theorem MapIs.mono (h : MapIs P k w b n L) {m : Nat} (hn : n ≤ m) : MapIs P k w b m L := by
  obtain ⟨D, h1, h2⟩ := h
  exact ⟨D, h1.mono hn, h2⟩
theorem MapIs.made (P : Program) (k : TypeId) (w : World) : MapIs P k (w.alloc (.map #[] 0)) w.heap.size 0 (fun _ => none) :=
  ⟨.map [], World.ownsMap_made w P k heldR, fun _ _ _ _ => rfl⟩
/-- A look-up, with 'ok' or without. -/
theorem MapIs.look {t e : TypeId} (c : Bool) (h : MapIs P k w b n L) (K : Keyed P k) (ht : P.underlying t = some (.map k e)) {z : Value} (hz : (zeroValue e).run P w = .ok z w) {key : Value} {kl : Lit} (hkey : keyOf P k key = some kl) :
    (Instr.lookup t (.map (some b)) key c).run P w = .ok (match L key with
      | some v => if c then .tuple #[v, .bool true] else v
      | none => if c then .tuple #[z, .bool false] else z) w := by
  obtain ⟨D, ⟨es, clock, hb, F, _, rfl⟩, hL⟩ := h
  have hk := hL key kl hkey
  rcases Maps.fit_look c K ht hz hb F hkey with ⟨hrun, _, hat⟩ | ⟨e0, y, _, _, hrun, hRv, hat, _⟩
  · rw [hrun]
    cases hl : L key with
    | none => rfl
    | some v =>
      have h1 := hk .nil
      rw [hat, hl] at h1
      simp at h1
  · rw [hrun]
    unfold heldR at hRv
    simp only [Option.some.injEq] at hRv
    subst hRv
    cases hl : L key with
    | none =>
      have h1 := hk .nil
      rw [hat, hl] at h1
      simp at h1
    | some v =>
      have h1 := hk .nil
      rw [hat, hl] at h1
      simp only [DataW.held.injEq] at h1
      rw [h1]
/-- A store. -/
theorem MapIs.update {t e : TypeId} (h : MapIs P k w b n L) (K : Keyed P k) (ht : P.underlying t = some (.map k e)) (hn : n < maxLen) {key val : Value} {kl : Lit} (hkey : keyOf P k key = some kl)
    (L' : Value → Option Value) (h1 : L' key = some val) (h2 : ∀ key', key' ≠ key → L' key' = L key') :
    ∃ w', (Instr.mapUpdate t (.map (some b)) key val).run P w = .ok () w' ∧ MapIs P k w' b (n + 1) L' ∧ w.grownBy w' (some b) := by
  obtain ⟨D, hD, hL⟩ := h
  obtain ⟨w', hr, ho, hg⟩ := hD.update K ht hn hkey (show heldR val = some (.held val, []) from rfl)
  refine ⟨w', hr, ⟨_, ho, fun key' kl' hk' z => ?_⟩, hg⟩
  have hm : IsMap D := by
    obtain ⟨es, c, _, _, _, e⟩ := hD
    exact ⟨_, e⟩
  by_cases hkk : key' = key
  · subst hkk
    rw [hkey] at hk'
    cases hk'
    rw [h1, atKey_put_same hm (K.key hkey)]
  · have hll : kl' ≠ kl := fun e0 => hkk (K.inj (e0 ▸ hk') hkey)
    rw [atKey_put_other hll, hL key' kl' hk' z, h2 key' hkk]
end
end Go.Proofs.YthmimcegiihcnaaDoor
