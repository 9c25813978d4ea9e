/- The walks of lex.number, lex.percent. -/
import Derived.Test.YthmimcegiihcnaaGreatDoorCb
import Derived.Test.YthmimcegiihcnaaGreatDoorW1
import Derived.Lib.SlicesS
namespace Go.Proofs.YthmimcegiihcnaaGreatDoor
open Go.RowKit

theorem digits_span_eq (l : List UInt8) : Sp.span Sp.digit l = Sp.digits l := (Sp.digits_span l).symm
theorem alphas_span_eq (l : List UInt8) : Sp.span Sp.alpha l = Sp.alphas l := (Sp.alphas_span l).symm

/-- A word as a value, its place not yet laid. -/
def wordV (p : Int × List UInt8 × Nat) : Value := .agg #[.int .i64 p.1, .string ⟨p.2.1.toArray⟩, .int .i64 0]
theorem keys_contains (x : ByteArray) : Lib.containsS [⟨#[37, 116, 111, 107, 101, 110]⟩, ⟨#[37, 108, 101, 102, 116]⟩, ⟨#[37, 114, 105, 103, 104, 116]⟩, ⟨#[37, 110, 111, 110, 97, 115, 115, 111, 99]⟩, ⟨#[37, 116, 121, 112, 101]⟩, ⟨#[37, 115, 116, 97, 114, 116]⟩, ⟨#[37, 112, 114, 101, 99]⟩] x = Sp.keys.contains x.data.toList := by
  rw [Bool.eq_iff_iff, Lib.containsS_iff, List.contains_iff_mem]
  have e : ∀ l : List UInt8, x = ⟨l.toArray⟩ ↔ x.data.toList = l := by
    intro l
    constructor
    · rintro rfl; rfl
    · intro h; rw [← h]
  unfold Sp.keys
  simp only [List.mem_cons, List.not_mem_nil, or_false]
  rw [show (⟨#[37, 116, 111, 107, 101, 110]⟩ : ByteArray) = ⟨([37, 116, 111, 107, 101, 110] : List UInt8).toArray⟩ from rfl, show (⟨#[37, 108, 101, 102, 116]⟩ : ByteArray) = ⟨([37, 108, 101, 102, 116] : List UInt8).toArray⟩ from rfl,
    show (⟨#[37, 114, 105, 103, 104, 116]⟩ : ByteArray) = ⟨([37, 114, 105, 103, 104, 116] : List UInt8).toArray⟩ from rfl, show (⟨#[37, 110, 111, 110, 97, 115, 115, 111, 99]⟩ : ByteArray) = ⟨([37, 110, 111, 110, 97, 115, 115, 111, 99] : List UInt8).toArray⟩ from rfl,
    show (⟨#[37, 116, 121, 112, 101]⟩ : ByteArray) = ⟨([37, 116, 121, 112, 101] : List UInt8).toArray⟩ from rfl, show (⟨#[37, 115, 116, 97, 114, 116]⟩ : ByteArray) = ⟨([37, 115, 116, 97, 114, 116] : List UInt8).toArray⟩ from rfl, show (⟨#[37, 112, 114, 101, 99]⟩ : ByteArray) = ⟨([37, 112, 114, 101, 99] : List UInt8).toArray⟩ from rfl]
  rw [e, e, e, e, e, e, e]

theorem heap_alloc_of2 {w : World} {b : Nat} {o : Obj} (h : w.heap[b]? = some o) (x : Obj) : (w.alloc x).heap[b]? = some o := (Below.heap_alloc _ _ _ (lt_at h)).trans h
def keysB : List ByteArray := [⟨#[37, 116, 111, 107, 101, 110]⟩, ⟨#[37, 108, 101, 102, 116]⟩, ⟨#[37, 114, 105, 103, 104, 116]⟩, ⟨#[37, 110, 111, 110, 97, 115, 115, 111, 99]⟩, ⟨#[37, 116, 121, 112, 101]⟩, ⟨#[37, 115, 116, 97, 114, 116]⟩, ⟨#[37, 112, 114, 101, 99]⟩]
theorem keys_cells (w : World) (n : Nat) (hn : n = w.heap.size) : ∀ j, j < keysB.length → (w.alloc (.cells #[.string ⟨#[37, 116, 111, 107, 101, 110]⟩, .string ⟨#[37, 108, 101, 102, 116]⟩, .string ⟨#[37, 114, 105, 103, 104, 116]⟩, .string ⟨#[37, 110, 111, 110, 97, 115, 115, 111, 99]⟩, .string ⟨#[37, 116, 121, 112, 101]⟩, .string ⟨#[37, 115, 116, 97, 114, 116]⟩, .string ⟨#[37, 112, 114, 101, 99]⟩] 9)).cell? ⟨n, 0 + j, none⟩ = some (.string (keysB.getD j ByteArray.empty)) := by
  subst hn
  intro j hj
  have hj' : j < 7 := hj
  rw [cell_at (heap_last w _)]
  rcases j with _ | _ | _ | _ | _ | _ | _ | j
  · rfl
  · rfl
  · rfl
  · rfl
  · rfl
  · rfl
  · rfl
  · omega
theorem percent_eq (r : List UInt8) : Sp.percent r =
  if Lib.hasPrefix r [37, 37] = true then (7, [37, 37], 2)
  else if Lib.hasPrefix r [37, 123] = true then (if 0 ≤ Lib.index (r.drop 2) [37, 125] then (9, (r.drop 2).take (Lib.index (r.drop 2) [37, 125]).toNat, (Lib.index (r.drop 2) [37, 125]).toNat + 4) else Sp.noWord)
  else if Sp.keys.contains (r.take (1 + Sp.alphas (r.drop 1))) = true then (5, r.take (1 + Sp.alphas (r.drop 1)), 1 + Sp.alphas (r.drop 1))
  else Sp.noWord := by
  unfold Sp.percent
  split
  · rfl
  · split
    · unfold Sp.upto
      by_cases h : 0 ≤ Lib.index (r.drop 2) [37, 125]
      · rw [if_pos h, if_pos h]; simp
      · rw [if_neg h, if_neg h]
    · rfl

end Go.Proofs.YthmimcegiihcnaaGreatDoor
