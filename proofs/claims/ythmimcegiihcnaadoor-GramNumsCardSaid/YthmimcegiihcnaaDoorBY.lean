/- The walk of Join. The walk of Cut's closure. The walk of dollar. The walk of dollar behind a tag; dollar whole. The walk of Cut. The walks of the laws' own helpers: Text, wakes of layer 5. The walk of the reference's Join. -/
import Derived.Test.YthmimcegiihcnaaDoorW1
import Derived.Test.YthmimcegiihcnaaDoorSpZ
import Derived.Test.YthmimcegiihcnaaDoorBi
import Derived.Test.YthmimcegiihcnaaDoorBZ
import Derived.Lib.ItoaLen
import Derived.Deep.DeepMust
import Derived.Test.YthmimcegiihcnaaDoorW0
namespace Go.Proofs.YthmimcegiihcnaaDoor
open Go.RowKit

theorem isBuilder_below {T e : TypeId} {B b : Nat} {bs : List Value} {w w' : World} (h : Lib.IsBuilder T e B b bs w) (hb : Below w.heap.size w w') : Lib.IsBuilder T e B b bs w' := by
  have key : ∀ p, Lib.BuilderAt T e B b p bs w → Lib.BuilderAt T e B b p bs w' := by
    rintro p ⟨hB, v, h1, h2, h3⟩
    exact ⟨hB, v, (hb.block b (lt_at h1)).trans h1, ownsRow_below h2 hb, h3⟩
  exact h.imp (key _) (key _)
theorem strCells_append (a b : ByteArray) : Lib.strCells (a ++ b) = Lib.strCells a ++ Lib.strCells b := by
  simp [Lib.strCells]
theorem size_mk (l : List UInt8) : (⟨l.toArray⟩ : ByteArray).size = l.length := by rw [Lib.size_eq]
theorem strCells_mk (l : List UInt8) : Lib.strCells ⟨l.toArray⟩ = Lib.byteCells l := rfl
theorem SlAt.form {w : World} {v : Value} {size : Nat} {xs : List (List Value)} (h : SlAt w v size xs) : ∃ a cap, v = .slice a xs.length cap := by
  rcases h with ⟨rfl, a, cap, rfl⟩ | ⟨b, off, cap, rfl, _, _⟩
  · exact ⟨a, cap, rfl⟩
  · exact ⟨_, _, rfl⟩
theorem SlAt.some {w : World} {v : Value} {size : Nat} {xs : List (List Value)} (h : SlAt w v size xs) (hne : xs ≠ []) : ∃ b off cap, v = .slice (some ⟨b, off, none⟩) xs.length cap ∧ b < w.heap.size ∧ ∀ i r, xs[i]? = some r → ∀ j u, r[j]? = some u → w.cell? ⟨b, off + i * size + j, none⟩ = some u := by
  rcases h with ⟨h, _⟩ | h
  · exact absurd h hne
  · exact h
theorem join_cons (p : Sp.Piece) (ps : List Sp.Piece) : Sp.join (p :: ps) = match Sp.pieceText p with | none => none | some t => (Sp.join ps).map (t ++ ·) := rfl

end Go.Proofs.YthmimcegiihcnaaDoor

namespace Go.Proofs.YthmimcegiihcnaaDoor
open Go.RowKit

theorem ownsRow_some {w : World} {base : Nat} {e : TypeId} {size : Nat} {v : Value} {n : Nat} {xs : List Value} (h : w.ownsRow base e size v n xs) : ∃ a cap, v = .slice a n cap := by
  rcases h.2 with ⟨rfl, rfl⟩ | ⟨g, cap, cur, rfl, _⟩
  · exact ⟨_, _, rfl⟩
  · exact ⟨_, _, rfl⟩

end Go.Proofs.YthmimcegiihcnaaDoor

namespace Go.Proofs.YthmimcegiihcnaaDoor
open Go.RowKit

def pieceV (p : Sp.Piece) : Value := .agg #[.int .i64 p.kind, .string ⟨p.text.toArray⟩, .int .i64 p.n, .string ⟨p.tag.toArray⟩]
theorem toArr (s : ByteArray) : (⟨s.data.toList.toArray⟩ : ByteArray) = s := Lib.mk_data s
theorem ext_toArr (s : ByteArray) (a b : Nat) : (⟨((s.data.toList.drop a).take (b - a)).toArray⟩ : ByteArray) = s.extract a b := (Lib.extract_eq s a b).symm
theorem digits_cons (c : UInt8) (t : List UInt8) : Sp.digits (c :: t) = if Sp.digit c = true then Sp.digits t + 1 else 0 := rfl

end Go.Proofs.YthmimcegiihcnaaDoor

namespace Go.Proofs.YthmimcegiihcnaaDoor
open Go.RowKit


end Go.Proofs.YthmimcegiihcnaaDoor

namespace Go.Proofs.YthmimcegiihcnaaDoor
open Go.RowKit

theorem heap_alloc_of {w : World} {b : Nat} {o : Obj} (h : w.heap[b]? = some o) (x : Obj) : (w.alloc x).heap[b]? = some o := (Below.heap_alloc _ _ _ (lt_at h)).trans h
theorem take_more (l : List UInt8) (a b c : Nat) (h : a ≤ b) : ((l.drop a).take (b - a)) ++ ((l.drop b).take c) = (l.drop a).take (b + c - a) := by
  rw [show b + c - a = (b - a) + c by omega, List.take_add, List.drop_drop, show a + (b - a) = b by omega]
theorem cutGo_cons (f : Nat) (pend : List UInt8) (c : UInt8) (t : List UInt8) : Sp.cutGo (f + 1) pend (c :: t) =
    match Sp.passLen (c :: t) with
    | none => none
    | some (n + 1) => Sp.cutGo f (pend ++ (c :: t).take (n + 1)) ((c :: t).drop (n + 1))
    | some 0 =>
      if ((c.toNat : Int) == 36) = true then
        if ((Sp.dollar t).2.2 != 0) = true then none
        else if 0 < (Sp.dollar t).2.1 then (Sp.cutGo f [] ((c :: t).drop (Sp.dollar t).2.1)).map (Sp.flush pend ++ (Sp.dollar t).1 :: ·)
        else Sp.cutGo f (pend ++ [c]) t
      else Sp.cutGo f (pend ++ [c]) t := rfl

end Go.Proofs.YthmimcegiihcnaaDoor

namespace Go.Proofs.YthmimcegiihcnaaDoor
open Go.RowKit

/-- A text, not too long. -/
def cutTo (s : ByteArray) (k : Nat) : ByteArray := if k < s.size then s.extract 0 k else s
theorem cutTo_size (s : ByteArray) (k : Nat) : (cutTo s k).size ≤ k := by
  unfold cutTo
  split
  · simp; omega
  · omega

set_option maxHeartbeats 400000 in
theorem law_Text (s : ByteArray) (k : Nat) (w : World) :
    Calls Tryd.prog 18 #[.string s, .int .i64 k] w fun e w' => e = .returned (.string (cutTo s k)) ∧ w = w' := by
  generalize hN : cutTo s k = N
  unfold cutTo at hN
  by_cases h : k < s.size
  · rw [if_pos h] at hN
    have HN := Lib.hid hN; clear hN
    go_enter Tryd.func18, Tryd.ntmps18
    go_wp2
    go_ret
    exact ⟨by rw [← HN.out]; rfl, rfl⟩
  · rw [if_neg h] at hN
    have HN := Lib.hid hN; clear hN
    go_enter Tryd.func18, Tryd.ntmps18
    go_wp2
    go_ret
    exact ⟨by rw [← HN.out]; rfl, rfl⟩

theorem flatten_at {α : Type} (size : Nat) : ∀ (xs : List (List α)), (∀ x ∈ xs, x.length = size) → ∀ i r, xs[i]? = some r → ∀ j u, r[j]? = some u → xs.flatten[i * size + j]? = some u
  | [], _, i, r, h, _, _, _ => by simp at h
  | x :: xs, hx, 0, r, h, j, u, hu => by
    simp at h; subst h
    rw [List.flatten_cons, Nat.zero_mul, Nat.zero_add, List.getElem?_append_left (List.getElem?_eq_some_iff.1 hu).1]
    exact hu
  | x :: xs, hx, i + 1, r, h, j, u, hu => by
    have hl := hx x (by simp)
    rw [List.flatten_cons, List.getElem?_append_right (by rw [hl, Nat.succ_mul]; omega), hl, show (i + 1) * size + j - size = i * size + j by rw [Nat.succ_mul]; omega]
    exact flatten_at size xs (fun y hy => hx y (by simp [hy])) i r (by simpa using h) j u hu
theorem slAt_of_owns {w : World} {base : Nat} {e : TypeId} {v : Value} {size n : Nat} (xs : List (List Value)) (hx : ∀ x ∈ xs, x.length = size) (hn : n = xs.length) (h : w.ownsRow base e size v n xs.flatten) : SlAt w v size xs := by
  subst hn
  rcases h.2 with ⟨rfl, h0⟩ | ⟨g, cap, cur, rfl, hb, hg, _⟩
  · left
    obtain rfl := List.eq_nil_of_length_eq_zero h0
    exact ⟨rfl, none, 0, rfl⟩
  · right
    refine ⟨g, 0, cap, rfl, lt_at hg, fun i r hr j u hu => ?_⟩
    have := h.cells (g := g) rfl _ u (flatten_at size xs hx i r hr j u hu)
    rw [show (⟨g, 0 + i * size + j, none⟩ : Addr) = (⟨g, 0, none⟩ : Addr).add (i * size + j) by unfold Addr.add; split <;> simp_all]
    exact this
theorem pieces_slAt {w : World} {base : Nat} {e : TypeId} {v : Value} (ps : List Sp.Piece) (h : w.ownsRow base e 4 v ps.length (ps.flatMap pieceC)) : SlAt w v 4 (ps.map pieceC) :=
  slAt_of_owns (base := base) (e := e) (n := ps.length) (ps.map pieceC) (by simp [pieceC]) (by simp) (by rwa [List.flatMap_def] at h)

end Go.Proofs.YthmimcegiihcnaaDoor

namespace Go.Proofs.YthmimcegiihcnaaDoor
open Go.RowKit

theorem str_eq {s t : ByteArray} (h : s.data.toList = t.data.toList) : Value.string s = Value.string t := by
  have : s = t := by
    apply ByteArray.ext
    apply Array.ext'
    exact h
  rw [this]
set_option maxHeartbeats 400000 in
theorem ref_Name (s : ByteArray) (w : World) (hs : s.size < 4294967281) :
    Calls Tryd.prog 20 #[.string s] w fun e w' => e = .returned (.bool (Sp.isName s.data.toList)) ∧ w = w' := by
  have hl : s.data.toList.length = s.size := by simp
  generalize hN : Sp.isName s.data.toList = N
  unfold Sp.isName at hN
  have he : s.data.toList.isEmpty = decide (s.size = 0) := by
    rw [Bool.eq_iff_iff, List.isEmpty_iff, decide_eq_true_eq, ← hl]
    exact ⟨fun h => by rw [h]; rfl, List.eq_nil_of_length_eq_zero⟩
  rw [hl, he] at hN
  have HN := Lib.hid hN; clear hN hl he
  have HR := Lib.hid (ref_NameAt s 0 w hs (Nat.zero_le _))
  simp only [List.drop_zero] at HR
  generalize Sp.nameLen true s.data.toList = r at *
  go_enter Tryd.func20, Tryd.ntmps20
  go_wp2_with (go_at_call 55; refine (HR.out).mono ?_; rintro e w' ⟨rfl, rfl⟩)
  all_goals (go_ret; have hN := HN.out; clear HN HR)
  all_goals exact ⟨ret_bool (by rw [← hN, Bool.eq_iff_iff]; simp only [Bool.and_eq_true, Bool.not_eq_true', decide_eq_true_eq, decide_eq_false_iff_not, beq_iff_eq, Bool.false_eq_true]; first | omega | (rw [false_iff]; omega)), rfl⟩

end Go.Proofs.YthmimcegiihcnaaDoor
