/- The walks of the laws' own helpers: Text, wakes of layer 5. -/
import Derived.Test.YthmimcegiihcnaaGreatDoorBk
import Derived.Test.YthmimcegiihcnaaGreatDoorBm
namespace Go.Proofs.YthmimcegiihcnaaGreatDoor
open Go.RowKit

/-- A text, not too long. -/
def cutTo (s : ByteArray) (k : Nat) : ByteArray := if k < s.size then s.extract 0 k else s
theorem cutTo_size (s : ByteArray) (k : Nat) : (cutTo s k).size ≤ k := by
  unfold cutTo
  split
  · simp; omega
  · omega

set_option maxHeartbeats 400000 in
theorem law_Text (s : ByteArray) (k : Nat) (w : World) :
    Calls Tryz.prog 21 #[.string s, .int .i64 k] w fun e w' => e = .returned (.string (cutTo s k)) ∧ w = w' := by
  generalize hN : cutTo s k = N
  unfold cutTo at hN
  by_cases h : k < s.size
  · rw [if_pos h] at hN
    have HN := Lib.hid hN; clear hN
    go_enter Tryz.func21, Tryz.ntmps21
    go_wp2
    go_ret
    exact ⟨by rw [← HN.out]; rfl, rfl⟩
  · rw [if_neg h] at hN
    have HN := Lib.hid hN; clear hN
    go_enter Tryz.func21, Tryz.ntmps21
    go_wp2
    go_ret
    exact ⟨by rw [← HN.out]; rfl, rfl⟩

theorem flatten_at {α : Type} (size : Nat) : ∀ (xs : List (List α)), (∀ x ∈ xs, x.length = size) → ∀ i r, xs[i]? = some r → ∀ j u, r[j]? = some u → xs.flatten[i * size + j]? = some u
  | [], _, i, r, h, _, _, _ => by simp at h
  | x :: xs, hx, 0, r, h, j, u, hu => by
    simp at h; subst h
    rw [List.flatten_cons, Nat.zero_mul, Nat.zero_add, List.getElem?_append_left (List.getElem?_eq_some_iff.1 hu).1]
    exact hu
  | x :: xs, hx, i + 1, r, h, j, u, hu => by
    have hl := hx x (by simp)
    rw [List.flatten_cons, List.getElem?_append_right (by rw [hl, Nat.succ_mul]; omega), hl, show (i + 1) * size + j - size = i * size + j by rw [Nat.succ_mul]; omega]
    exact flatten_at size xs (fun y hy => hx y (by simp [hy])) i r (by simpa using h) j u hu
theorem slAt_of_owns {w : World} {base : Nat} {e : TypeId} {v : Value} {size n : Nat} (xs : List (List Value)) (hx : ∀ x ∈ xs, x.length = size) (hn : n = xs.length) (h : w.ownsRow base e size v n xs.flatten) : SlAt w v size xs := by
  subst hn
  rcases h.2 with ⟨rfl, h0⟩ | ⟨g, cap, cur, rfl, hb, hg, _⟩
  · left
    obtain rfl := List.eq_nil_of_length_eq_zero h0
    exact ⟨rfl, none, 0, rfl⟩
  · right
    refine ⟨g, 0, cap, rfl, lt_at hg, fun i r hr j u hu => ?_⟩
    have := h.cells (g := g) rfl _ u (flatten_at size xs hx i r hr j u hu)
    rw [show (⟨g, 0 + i * size + j, none⟩ : Addr) = (⟨g, 0, none⟩ : Addr).add (i * size + j) by unfold Addr.add; split <;> simp_all]
    exact this
theorem pieces_slAt {w : World} {base : Nat} {e : TypeId} {v : Value} (ps : List Sp.Piece) (h : w.ownsRow base e 4 v ps.length (ps.flatMap pieceC)) : SlAt w v 4 (ps.map pieceC) :=
  slAt_of_owns (base := base) (e := e) (n := ps.length) (ps.map pieceC) (by simp [pieceC]) (by simp) (by rwa [List.flatMap_def] at h)

end Go.Proofs.YthmimcegiihcnaaGreatDoor
