/- The walk of lex.word. -/
import Derived.Test.YthmimcegiihcnaaGreatDoorCc
import Derived.Test.YthmimcegiihcnaaGreatDoorBZ
namespace Go.Proofs.YthmimcegiihcnaaGreatDoor
open Go.RowKit

/-- What lex.word leaves. -/
def WordPost (p : Int × List UInt8 × Nat) (w : World) (e : Ending) (w' : World) : Prop := e = .returned (.tuple #[wordV p, .int .i64 p.2.2]) ∧ Below w.heap.size w w'

theorem heap_last_drewN (w : World) (o : Obj) (n : Nat) : ((w.alloc o).drewN n).heap[w.heap.size]? = some o := heap_last w o
section
variable (s : ByteArray) (at_ : Nat) (w : World)
theorem ext_size (a : Nat) : (s.extract a s.size).size = s.size - a := by simp
theorem ext_get (a : Nat) (h : a < s.size) : (s.extract a s.size)[0]'(by simp; omega) = s[a] := by
  have h1 := ext_end s a
  rw [drop_at s a h] at h1
  have h2 := drop_at (s.extract a s.size) 0 (by simp; omega)
  rw [List.drop_zero, h1] at h2
  exact (List.cons.inj h2).1.symm
theorem ext_take (a n : Nat) : (⟨((s.data.toList.drop a).take n).toArray⟩ : ByteArray) = s.extract a (a + n) := by rw [Lib.extract_eq, Nat.add_sub_cancel_left]
theorem ext_ext2 (a i j : Nat) (h : a + j ≤ s.size) : (s.extract a s.size).extract i j = s.extract (a + i) (a + j) := by
  apply ByteArray.ext
  apply Array.ext'
  rw [Lib.extract_data, ext_end, Lib.extract_data, List.drop_drop]
  congr 1
  omega

/-- A byte that begins no name and no number. -/
theorem not_letter {c : UInt8} (hl : Sp.letter c = false) : Sp.alpha c = false ∧ ((c.toNat : Int) == 95) = false := by
  rw [Sp.letter_alpha] at hl
  constructor
  · cases h : Sp.alpha c <;> simp_all
  · cases h : ((c.toNat : Int) == 95) <;> simp_all

end
end Go.Proofs.YthmimcegiihcnaaGreatDoor
