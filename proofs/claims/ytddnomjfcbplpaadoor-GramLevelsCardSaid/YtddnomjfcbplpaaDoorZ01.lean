/- Plain functions on lists of bytes: what the functions of layers 4 and 6 (bytes in quotes, words of a source) compute. No program in sight. Plain laws: words stand whatever follows them, if it does not go on with them. No program in sight. Plain laws: runs of bytes; the byte in quotes by its table. No program in sight. Slices of structs, as they are read; the walk of EqPieces. An argument that is a slice of pieces, opened to the cells that the walks read. The walks of char.plain, char.Take and of the small functions of layer 6. Appending to slices that the call itself made; worlds that keep all but some blocks. The walks of the small functions of layer 5. The walks of Name, NameAt, begins, and of the small functions of the reference. The walk of the reference's Digits and Join. The walk of body.quoted. The walks of upto, pass, End of layer 5, and of the reference's End. The walks of End, of layer 5 and of the reference. -/
import Derived.Test.YtddnomjfcbplpaaDoorZ00
import Derived.Laws.StructEq
import Derived.Deep.Slices
import Derived.Deep.Fields
import Derived.ChangeSame
import Derived.Deep.RegionLaw
import Derived.OwnWalk
import Derived.Lib.IndexMore
namespace Go.Proofs.YtddnomjfcbplpaaDoor
namespace Sp
open Go.Lib (index indexByte hasPrefix)

structure Word where
  kind : Int
  text : List UInt8
  at_ : Int
  deriving DecidableEq

/-- A letter that is no underscore. -/
def alpha (c : UInt8) : Bool := (decide (97 ≤ c.toNat) && decide (c.toNat ≤ 122)) || (decide (65 ≤ c.toNat) && decide (c.toNat ≤ 90))
def alphas : List UInt8 → Nat
  | [] => 0
  | c :: t => if alpha c = true then alphas t + 1 else 0
def blank (c : UInt8) : Bool := ((c.toNat : Int) == 32) || ((c.toNat : Int) == 9) || ((c.toNat : Int) == 10) || ((c.toNat : Int) == 13)

/-- One step of what may stand between words; none: a remark that does not end. -/
def gap : List UInt8 → Option Nat
  | [] => some 0
  | c :: t => if blank c = true then some 1 else if ((c.toNat : Int) == 47) = true then passLen (c :: t) else some 0
/-- What stands between words: how many bytes; false: a remark that does not end follows. -/
def skipGo : Nat → List UInt8 → Nat × Bool
  | 0, _ => (0, true)
  | f + 1, r => match gap r with
    | none => (0, false)
    | some 0 => (0, true)
    | some (n + 1) => ((n + 1) + (skipGo f (r.drop (n + 1))).1, (skipGo f (r.drop (n + 1))).2)
def skip (r : List UInt8) : Nat × Bool := skipGo (r.length + 1) r
/-! ### Bytes in quotes -/
def plainq (c : UInt8) : Bool := decide (32 ≤ c.toNat) && decide (c.toNat ≤ 126) && !((c.toNat : Int) == 39) && !((c.toNat : Int) == 92)
/-- The byte that a letter behind a backslash stands for. -/
def standOf (d : UInt8) : Option UInt8 := if d = 110 then some 10 else if d = 116 then some 9 else if d = 114 then some 13 else if d = 92 then some 92 else if d = 39 then some 39 else none
/-- The byte in quotes that a text begins with, and how many bytes it takes. -/
def charTake : List UInt8 → Option (UInt8 × Nat)
  | q :: c :: d :: t =>
    if q ≠ 39 then none
    else if plainq c = true ∧ d = 39 then some (c, 3)
    else if c = 92 ∧ t.head? = some 39 then (standOf d).map (·, 4)
    else none
  | _ => none
def quoteText (c : UInt8) : List UInt8 :=
  if c = 10 then [39, 92, 110, 39] else if c = 9 then [39, 92, 116, 39] else if c = 13 then [39, 92, 114, 39] else if c = 92 then [39, 92, 92, 39] else if c = 39 then [39, 92, 39, 39]
  else if plainq c = true then [39, c, 39] else []
theorem quoteText_stand {c d : UInt8} (h : standOf d = some c) : quoteText c = [39, 92, d, 39] := by
  unfold standOf at h
  split at h
  · rename_i hd; subst hd; cases h; rfl
  split at h
  · rename_i hd; subst hd; cases h; rfl
  split at h
  · rename_i hd; subst hd; cases h; rfl
  split at h
  · rename_i hd; subst hd; cases h; rfl
  split at h
  · rename_i hd; subst hd; cases h; rfl
  · cases h
theorem quoteText_plain {c : UInt8} (h : plainq c = true) : quoteText c = [39, c, 39] := by
  unfold quoteText
  have h' := h
  unfold plainq at h
  simp at h
  rw [if_neg (by rintro rfl; simp at h), if_neg (by rintro rfl; simp at h), if_neg (by rintro rfl; simp at h), if_neg (by rintro rfl; simp at h), if_neg (by rintro rfl; simp at h), if_pos h']
theorem quoteText_range (c : UInt8) (h : quoteText c ≠ []) : 9 ≤ c.toNat ∧ c.toNat ≤ 126 := by
  unfold quoteText at h
  split at h
  · rename_i hc; subst hc; decide
  split at h
  · rename_i hc; subst hc; decide
  split at h
  · rename_i hc; subst hc; decide
  split at h
  · rename_i hc; subst hc; decide
  split at h
  · rename_i hc; subst hc; decide
  split at h
  · rename_i hc; unfold plainq at hc; simp at hc; omega
  · exact absurd rfl h
theorem charTake_some (r : List UInt8) (c : UInt8) (n : Nat) (h : charTake r = some (c, n)) : quoteText c ≠ [] ∧ hasPrefix r (quoteText c) = true ∧ n = (quoteText c).length := by
  unfold charTake at h
  split at h
  · rename_i q b d t
    split at h
    · cases h
    · rename_i hq
      have hq : q = 39 := Classical.not_not.1 hq
      subst hq
      split at h
      · rename_i hp
        obtain ⟨hp, rfl⟩ := hp
        cases h
        rw [quoteText_plain hp]
        exact ⟨by simp, by simp [hasPrefix, List.isPrefixOf], rfl⟩
      · split at h
        · rename_i hb
          obtain ⟨rfl, ht⟩ := hb
          obtain ⟨x, hx, hxe⟩ := Option.map_eq_some_iff.1 h
          cases hxe
          rw [quoteText_stand hx]
          cases t with
          | nil => simp at ht
          | cons y t =>
            simp at ht
            subst ht
            exact ⟨by simp, by simp [hasPrefix, List.isPrefixOf], rfl⟩
        · cases h
  · cases h
/-! ### Words -/
def keys : List (List UInt8) := [[37, 116, 111, 107, 101, 110], [37, 108, 101, 102, 116], [37, 114, 105, 103, 104, 116], [37, 110, 111, 110, 97, 115, 115, 111, 99], [37, 116, 121, 112, 101], [37, 115, 116, 97, 114, 116], [37, 112, 114, 101, 99]]
/-- A word: its kind, its text, how many bytes; 0 bytes: there is none. -/
def noWord : Int × List UInt8 × Nat := (0, [], 0)
def percent (r : List UInt8) : Int × List UInt8 × Nat :=
  if hasPrefix r [37, 37] = true then (7, [37, 37], 2)
  else if hasPrefix r [37, 123] = true then match upto (r.drop 2) [37, 125] with
    | none => noWord
    | some k => (9, (r.drop 2).take (k - 2), k + 2)
  else if keys.contains (r.take (1 + alphas (r.drop 1))) = true then (5, r.take (1 + alphas (r.drop 1)), 1 + alphas (r.drop 1))
  else noWord
/-- May a number not end ahead of a text? -/
def stuck : List UInt8 → Bool
  | [] => false
  | c :: _ => letter c
def number (r : List UInt8) : Nat :=
  if 5 < digits r ∨ r.head? = some 48 ∨ stuck (r.drop (digits r)) = true then 0
  else if 50000 < num (r.take (digits r)) then 0 else digits r
def word : List UInt8 → Int × List UInt8 × Nat
  | [] => noWord
  | c :: t =>
    if letter c = true then if nameLen true (c :: t) ≤ 20 then (1, (c :: t).take (nameLen true (c :: t)), nameLen true (c :: t)) else noWord
    else if digit c = true then if 0 < number (c :: t) then (3, (c :: t).take (number (c :: t)), number (c :: t)) else noWord
    else if ((c.toNat : Int) == 39) = true then match charTake (c :: t) with
      | none => noWord
      | some (b, n) => (2, [b], n)
    else if ((c.toNat : Int) == 60) = true then
      if isName (t.take (nameLen true t)) = true ∧ hasPrefix (t.drop (nameLen true t)) [62] = true then (4, t.take (nameLen true t), nameLen true t + 2) else noWord
    else if ((c.toNat : Int) == 37) = true then percent (c :: t)
    else if ((c.toNat : Int) == 58) = true ∨ ((c.toNat : Int) == 59) = true ∨ ((c.toNat : Int) == 124) = true then (6, [c], 1)
    else if ((c.toNat : Int) == 123) = true then match endLen (c :: t) with
      | none => noWord
      | some n => (8, (c :: t).take n, n)
    else noWord

/-- Fuel, how many marks there were, where it stands, what is left: the words, or where none stands. -/
def wordsGo : Nat → Nat → Nat → List UInt8 → Except Nat (List Word)
  | 0, _, _, _ => .error 0
  | f + 1, marks, pos, r =>
    if (skip r).2 = true ∧ r.length = (skip r).1 then .ok [⟨10, [], (pos + (skip r).1 : Nat)⟩]
    else if (skip r).2 = false ∨ (word (r.drop (skip r).1)).2.2 = 0 then .error (pos + (skip r).1)
    else if (if (word (r.drop (skip r).1)).1 = 7 then marks + 1 else marks) = 2 then
      .ok [⟨10, (r.drop (skip r).1).drop (word (r.drop (skip r).1)).2.2, (pos + (skip r).1 + (word (r.drop (skip r).1)).2.2 : Nat)⟩]
    else (wordsGo f (if (word (r.drop (skip r).1)).1 = 7 then marks + 1 else marks) (pos + (skip r).1 + (word (r.drop (skip r).1)).2.2) ((r.drop (skip r).1).drop (word (r.drop (skip r).1)).2.2)).map
      (⟨(word (r.drop (skip r).1)).1, (word (r.drop (skip r).1)).2.1, (pos + (skip r).1 : Nat)⟩ :: ·)
/-- The words, the error, its place. -/
def wordsRes : Except Nat (List Word) → List Word × Int × Nat
  | .error p => ([], 2, p)
  | .ok ws => (ws, 0, 0)
def words (l : List UInt8) : List Word × Int × Nat := if 4000 < l.length then ([], 4, 0) else wordsRes (wordsGo (l.length + 1) 0 0 l)

end Sp
end Go.Proofs.YtddnomjfcbplpaaDoor

namespace Go.Proofs.YtddnomjfcbplpaaDoor
namespace Sp
open Go.Lib (index indexByte hasPrefix)

/-- What may stand behind a word so that it does not go on. -/
def Sep (R R' : List UInt8) : Prop := R'.head? = R.head? ∨ ∀ c, R'.head? = some c → c = 32 ∨ c = 10 ∨ c = 47 ∨ c = 9
theorem Sep.keep {R R' : List UInt8} (h : Sep R R') (p : UInt8 → Bool) (hp : ∀ c, c = 32 ∨ c = 10 ∨ c = 47 ∨ c = 9 → p c = false) (hR : ∀ c, R.head? = some c → p c = false) : ∀ c, R'.head? = some c → p c = false := by
  intro c hc
  rcases h with h | h
  · exact hR c (by rw [← h]; exact hc)
  · exact hp c (h c hc)

end Sp
end Go.Proofs.YtddnomjfcbplpaaDoor

namespace Go.Proofs.YtddnomjfcbplpaaDoor
namespace Sp
open Go.Lib (index indexByte hasPrefix)

/-! ### The letters behind a backslash -/
def stands : List UInt8 := [10, 9, 13, 92, 39]
end Sp
end Go.Proofs.YtddnomjfcbplpaaDoor

namespace Go.Proofs.YtddnomjfcbplpaaDoor
open Go.RowKit

/-- A slice value whose elements, 'size' cells each, read as the rows xs. -/
def SlAt (w : World) (v : Value) (size : Nat) (xs : List (List Value)) : Prop :=
  (xs = [] ∧ ∃ a cap, v = .slice a 0 cap) ∨
  ∃ b off cap, v = .slice (some ⟨b, off, none⟩) xs.length cap ∧ b < w.heap.size ∧ ∀ i r, xs[i]? = some r → ∀ j u, r[j]? = some u → w.cell? ⟨b, off + i * size + j, none⟩ = some u
theorem SlAt.below {w w' : World} {v : Value} {size : Nat} {xs : List (List Value)} (h : SlAt w v size xs) (hb : Below w.heap.size w w') : SlAt w' v size xs := by
  rcases h with h | ⟨b, off, cap, rfl, hlt, hc⟩
  · exact .inl h
  · refine .inr ⟨b, off, cap, rfl, Nat.lt_of_lt_of_le hlt hb.size, fun i r hr j u hu => ?_⟩
    rw [hb.cell (p := ⟨b, _, none⟩) hlt]
    exact hc i r hr j u hu

end Go.Proofs.YtddnomjfcbplpaaDoor

namespace Go.Proofs.YtddnomjfcbplpaaDoor
open Go.ChangeShapes Go.WideShapes Go.Deep Go.RowKit

theorem four {α : Type} (l : List α) (h : l.length = 4) : ∃ a b c d, l = [a, b, c, d] := by
  rcases l with _ | ⟨a, _ | ⟨b, _ | ⟨c, _ | ⟨d, _ | ⟨e, l⟩⟩⟩⟩⟩ <;> simp at h
  exact ⟨a, b, c, d, rfl⟩
theorem lt_at_cell {w : World} {a : Addr} {v : Value} (h : w.cell? a = some v) : a.block < w.heap.size := by
  rcases Nat.lt_or_ge a.block w.heap.size with h' | h'
  · exact h'
  · unfold World.cell? at h
    simp [Array.getElem?_eq_none h'] at h
end Go.Proofs.YtddnomjfcbplpaaDoor

namespace Go.Proofs.YtddnomjfcbplpaaDoor
open Go.RowKit

set_option maxHeartbeats 400000 in
theorem char_plain (c : UInt8) (w : World) :
    Calls Tryd.prog 62 #[.int .u8 (c.toNat : Int)] w fun e w' => e = .returned (.bool (Sp.plainq c)) ∧ w = w' := by
  go_enter Tryd.func62, Tryd.ntmps62
  go_wp2
  all_goals go_ret
  all_goals exact ⟨ret_bool (by unfold Sp.plainq; first | (simp_all; done) | (simp_all; omega) | (rw [Bool.eq_iff_iff]; simp_all; omega)), rfl⟩

end Go.Proofs.YtddnomjfcbplpaaDoor

namespace Go.Proofs.YtddnomjfcbplpaaDoor
open Go.RowKit

/-- All blocks of the old world that S names read as before. -/
structure Kp (S : Nat → Prop) (w w' : World) : Prop where
  os : w'.os = w.os
  tape : w'.tape = w.tape
  output : w'.output = w.output
  size : w.heap.size ≤ w'.heap.size
  block : ∀ k, k < w.heap.size → S k → w'.heap[k]? = w.heap[k]?
theorem Kp.refl (S : Nat → Prop) (w : World) : Kp S w w := ⟨rfl, rfl, rfl, Nat.le_refl _, fun _ _ _ => rfl⟩
theorem Kp.trans {S : Nat → Prop} {a b c : World} (h : Kp S a b) (k : Kp S b c) : Kp S a c :=
  ⟨k.os.trans h.os, k.tape.trans h.tape, k.output.trans h.output, Nat.le_trans h.size k.size, fun i hi hs => (k.block i (Nat.lt_of_lt_of_le hi h.size) hs).trans (h.block i hi hs)⟩
theorem Kp.mono {S T : Nat → Prop} {w w' : World} (h : Kp S w w') (hs : ∀ k, k < w.heap.size → T k → S k) : Kp T w w' := ⟨h.os, h.tape, h.output, h.size, fun k hk ht => h.block k hk (hs k hk ht)⟩
theorem Kp.of_below {S : Nat → Prop} {B : Nat} {w w' : World} (h : Below B w w') (hs : ∀ k, k < w.heap.size → S k → k < B) : Kp S w w' := ⟨h.os, h.tape, h.output, h.size, fun k hk ht => h.block k (hs k hk ht)⟩
theorem Kp.alloc {S : Nat → Prop} {a w : World} (h : Kp S a w) (o : Obj) : Kp S a (w.alloc o) :=
  h.trans ⟨rfl, rfl, rfl, by simp, fun k hk _ => Below.heap_alloc _ _ _ hk⟩
theorem Kp.drew {S : Nat → Prop} {a w : World} (h : Kp S a w) : Kp S a w.drew := ⟨h.os, h.tape, h.output, h.size, h.block⟩
theorem Kp.drewN {S : Nat → Prop} {a w : World} (h : Kp S a w) (n : Nat) : Kp S a (w.drewN n) := ⟨h.os, h.tape, h.output, h.size, h.block⟩
theorem Kp.setCell {S : Nat → Prop} {a w : World} (h : Kp S a w) {p : Addr} (hp : ¬ S p.block) (u : Value) : Kp S a (w.setCell p u) :=
  h.trans ⟨rfl, rfl, rfl, by simp [World.setCell], fun k _ hs => Below.heap_setCell _ _ _ _ (fun e => hp (e ▸ hs))⟩
theorem Kp.grown {S : Nat → Prop} {a w w' : World} {row : Option Nat} (h : Kp S a w) (hg : w.grownBy w' row) (hr : ∀ k, row = some k → ¬ S k) : Kp S a w' :=
  h.trans ⟨hg.os, hg.tape, hg.output, hg.size, fun k hk hs => hg.block k hk (fun e => hr k e.symm hs)⟩
theorem Kp.below {S : Nat → Prop} {B : Nat} {w w' : World} (h : Kp S w w') (hB : B ≤ w.heap.size) (hs : ∀ k, k < B → S k) : Below B w w' := ⟨h.os, h.tape, h.output, h.size, fun k hk => h.block k (by omega) (hs k hk)⟩
theorem Kp.at {S : Nat → Prop} {w w' : World} (h : Kp S w w') {b : Nat} {o : Obj} (hb : w.heap[b]? = some o) (hs : S b) : w'.heap[b]? = some o := (h.block b (lt_at hb) hs).trans hb

theorem ownsRow_kp {S : Nat → Prop} {w w' : World} {base : Nat} {e : TypeId} {size : Nat} {v : Value} {n : Nat} {xs : List Value} (h : w.ownsRow base e size v n xs) (k : Kp S w w') (hs : ∀ b, v.ownBlock = some b → S b) : w'.ownsRow base e size v n xs := by
  refine ⟨h.1, ?_⟩
  rcases h.2 with hn | ⟨g, cap, cur, rfl, hb, hgg, rest⟩
  · exact .inl hn
  · exact .inr ⟨g, cap, cur, rfl, hb, k.at hgg (hs g rfl), rest⟩
theorem ownsRow_below {w w' : World} {base : Nat} {e : TypeId} {size : Nat} {v : Value} {n : Nat} {xs : List Value} (h : w.ownsRow base e size v n xs) (k : Below w.heap.size w w') : w'.ownsRow base e size v n xs :=
  ownsRow_kp (S := fun _ => True) h (Kp.of_below k fun _ h _ => h) (fun _ _ => trivial)
/-- The row's own block is none of another element type. -/
theorem ownsRow_ne {w : World} {base : Nat} {e : TypeId} {size : Nat} {v : Value} {n : Nat} {xs : List Value} (h : w.ownsRow base e size v n xs) {b : Nat} {c : Array Value} {t : TypeId} {fr : Nat × Nat} (hb : w.heap[b]? = some (.cells c t fr)) (ht : t ≠ e) : ∀ k, v.ownBlock = some k → k ≠ b := by
  rintro k hk rfl
  rcases h.2 with ⟨rfl, _⟩ | ⟨g, cap, cur, rfl, _, hgg, _⟩
  · simp [Value.ownBlock] at hk
  · simp [Value.ownBlock] at hk
    subst hk
    rw [hgg] at hb
    simp at hb
    exact ht hb.2.1.symm
theorem new_cells (w : World) (cs : List Value) (t : TypeId) : ∀ j u, cs[j]? = some u → (w.alloc (.cells cs.toArray t)).cell? ((⟨w.heap.size, 0, none⟩ : Addr).add j) = some u := by
  intro j u h
  have : (⟨w.heap.size, 0, none⟩ : Addr).add j = ⟨w.heap.size, j, none⟩ := by unfold Addr.add; split <;> simp_all
  rw [this, cell_at (heap_last w _)]
  simpa using h
theorem own_form {w : World} {base size n : Nat} {e : TypeId} {v : Value} {xs : List Value} (h : w.ownsRow base e size v n xs) (hn : 0 < n) : ∃ g cap, v = .slice (some ⟨g, 0, none⟩) n cap := by
  rcases h.2 with ⟨_, h0⟩ | ⟨g, cap, _, hv, _⟩
  · omega
  · exact ⟨g, cap, hv⟩
/-- A store into a block of another element type leaves an owned row. -/
theorem ownsRow_setCell_ne {w : World} {base : Nat} {e : TypeId} {size : Nat} {v : Value} {n : Nat} {xs : List Value} (h : w.ownsRow base e size v n xs) {b i : Nat} {c : Array Value} {t : TypeId} {fr : Nat × Nat} (hb : w.heap[b]? = some (.cells c t fr)) (ht : t ≠ e) (u : Value) : (w.setCell ⟨b, i, none⟩ u).ownsRow base e size v n xs :=
  ownsRow_kp (S := fun k => k ≠ b) h ((Kp.refl _ _).setCell (by simp) _) (ownsRow_ne h hb ht)

end Go.Proofs.YtddnomjfcbplpaaDoor

namespace Go.Proofs.YtddnomjfcbplpaaDoor
open Go.RowKit

set_option maxHeartbeats 400000 in
theorem body_digit (c : UInt8) (w : World) :
    Calls Tryd.prog 81 #[.int .u8 (c.toNat : Int)] w fun e w' => e = .returned (.bool (Sp.digit c)) ∧ w = w' := by
  go_enter Tryd.func81, Tryd.ntmps81
  go_wp2
  all_goals go_ret
  all_goals exact ⟨ret_bool (Bool.eq_iff_iff.2 (by simp [Sp.digit]; omega)), rfl⟩

set_option maxHeartbeats 400000 in
theorem body_letter (c : UInt8) (w : World) :
    Calls Tryd.prog 100 #[.int .u8 (c.toNat : Int)] w fun e w' => e = .returned (.bool (Sp.letter c)) ∧ w = w' := by
  go_enter Tryd.func100, Tryd.ntmps100
  go_wp2
  all_goals go_ret
  all_goals exact ⟨ret_bool (Bool.eq_iff_iff.2 (by simp [Sp.letter]; omega)), rfl⟩

set_option maxHeartbeats 400000 in
theorem body_Run (s : ByteArray) (w : World) (hs : s.size < 4294967281) :
    Calls Tryd.prog 80 #[.string s] w fun e w' => e = .returned (.int .i64 (Sp.nameLen true s.data.toList : Nat)) ∧ w = w' := by

  generalize hN : Sp.nameLen true s.data.toList = N
  have HN := Lib.hid hN; clear hN
  go_enter Tryd.func80, Tryd.ntmps80
  go_wp2
  go_loop [3] (fun i => ∃ k : Nat, k ≤ s.size ∧ i = .int .i64 k ∧ k + Sp.nameLen (k == 0) (s.data.toList.drop k) = N) (fun i => s.size - (intOf i).toNat)
  case atStart => exact ⟨0, Nat.zero_le _, rfl, by simp [HN.out]⟩
  case round =>
    obtain ⟨k, hk, rfl, hi⟩ := hrel
    have HI := Lib.hid hi; clear hi
    by_cases hlt : k < s.size
    · have HD := Lib.hid (drop_at s k hlt)
      go_wp2_with (first
        | (go_at_call 100; refine (body_letter _ _).mono ?_; rintro e w' ⟨rfl, rfl⟩)
        | (go_at_call 81; refine (body_digit _ _).mono ?_; rintro e w' ⟨rfl, rfl⟩))
      all_goals (have hi := HI.out; rw [HD.out] at hi; clear HI HD HN; unfold Sp.nameLen at hi)
      all_goals first
        | (go_round
           case rel => go_light; exact ⟨k + 1, by omega, by go_num, by first | (simp_all; done) | (simp_all; omega) | (simp_all; split at hi <;> omega)⟩
           case measure => go_light; simp [intOf]; omega)
        | (go_ret; go_light; exact ⟨ret_int (by first | (simp_all; done) | (simp_all; omega) | (simp_all; split at hi <;> omega)), rfl⟩)
    · have HD := Lib.hid (drop_end s k hlt)
      go_wp2
      have hi := HI.out; rw [HD.out] at hi; clear HI HD HN; unfold Sp.nameLen at hi
      go_ret
      go_light
      exact ⟨ret_int (by first | (simp_all; done) | (simp_all; omega) | (simp_all; split at hi <;> omega)), rfl⟩
end Go.Proofs.YtddnomjfcbplpaaDoor

namespace Go.Proofs.YtddnomjfcbplpaaDoor
open Go.RowKit

set_option maxHeartbeats 400000 in
theorem body_Name (s : ByteArray) (w : World) (hs : s.size < 4294967281) :
    Calls Tryd.prog 66 #[.string s] w fun e w' => e = .returned (.bool (Sp.isName s.data.toList)) ∧ w = w' := by
  have hl : s.data.toList.length = s.size := by simp
  generalize hN : Sp.isName s.data.toList = N
  unfold Sp.isName at hN
  rw [hl] at hN
  have HN := Lib.hid hN; clear hN hl
  have HR := Lib.hid (body_Run s w hs)
  generalize Sp.nameLen true s.data.toList = r at *
  go_enter Tryd.func66, Tryd.ntmps66
  go_wp2_with (go_at_call 80; refine (HR.out).mono ?_; rintro e w' ⟨rfl, rfl⟩)
  all_goals (go_ret; have hN := HN.out; clear HN HR)
  all_goals exact ⟨ret_bool (by rw [← hN, ← Lib.toList_data, Bool.eq_iff_iff]; simp_all; try omega), rfl⟩

end Go.Proofs.YtddnomjfcbplpaaDoor

namespace Go.Proofs.YtddnomjfcbplpaaDoor
open Go.RowKit

def emptyN : Value → Nat | .string s => if s.size = 0 then 1 else 0 | _ => 0
/-- What a round of Digits finds: the digits of u ahead of those that stand there are those of n. -/
def DigI (n u : Nat) (S : List UInt8) : Prop := ((0 < u ∨ S = []) ∧ Lib.decDigits u ++ S = Lib.decDigits n) ∨ (u = 0 ∧ S ≠ [] ∧ S = Lib.decDigits n)
theorem DigI.step {n u : Nat} {S : List UInt8} (h : DigI n u S) (hc : 0 < u ∨ S = []) : DigI n (u / 10) (UInt8.ofNat (48 + u % 10) :: S) := by
  rcases h with ⟨_, h⟩ | ⟨h0, hS, _⟩
  · by_cases hu : u < 10
    · right
      refine ⟨by omega, by simp, ?_⟩
      rw [← h, Lib.decDigits, dif_pos hu, Nat.mod_eq_of_lt hu]; rfl
    · left
      refine ⟨.inl (by omega), ?_⟩
      rw [← h]
      conv => rhs; rw [Lib.decDigits, dif_neg hu]
      simp
  · rcases hc with h | h
    · omega
    · exact absurd h hS
theorem DigI.out {n u : Nat} {S : List UInt8} (h : DigI n u S) (hc : ¬ (0 < u ∨ S = [])) : S = Lib.decDigits n := by
  rcases h with ⟨h, _⟩ | ⟨_, _, h⟩
  · exact absurd h hc
  · exact h

theorem mk_append (a b : List UInt8) : ((⟨a.toArray⟩ : ByteArray) ++ (⟨b.toArray⟩ : ByteArray)) = ⟨(a ++ b).toArray⟩ := by
  apply ByteArray.ext
  simp
theorem ret_str {a b : List UInt8} (h : a = b) : Ending.returned (.string ⟨a.toArray⟩) = .returned (.string ⟨b.toArray⟩) := by rw [h]
theorem emptyN_cons (c : UInt8) (S : List UInt8) : emptyN (.string ⟨(c :: S).toArray⟩) = 0 := by
  show (if (⟨(c :: S).toArray⟩ : ByteArray).size = 0 then 1 else 0) = 0
  rw [if_neg]
  rw [Lib.size_eq]; simp
theorem convert_one (W : World) (c : UInt8) : (convert 75 9 (.slice (some ⟨W.heap.size, 0, none⟩) 1 1)).run Tryd.prog (W.alloc (.cells #[.int .u8 (c.toNat : Int)] 5)) = .ok (.string ⟨#[c]⟩) (W.alloc (.cells #[.int .u8 (c.toNat : Int)] 5)) := by
  refine run_convert_bytes_back (P := Tryd.prog) _ 75 9 5 ⟨W.heap.size, 0, none⟩ 1 [c] Tryd.underlying75 Tryd.underlying5 Tryd.underlying9 ?_
  intro j hj
  obtain rfl : j = 0 := by simpa using hj
  exact new_cells W [.int .u8 (c.toNat : Int)] _ 0 _ rfl

set_option maxRecDepth 100000 in
set_option maxHeartbeats 1600000 in
theorem ref_Digits (n : Int) (w : World) (h0 : 0 ≤ n) (h1 : n < 60001) :
    Calls Tryd.prog 10 #[.int .i64 n] w fun e w' => e = .returned (.string ⟨(Lib.itoa n).toArray⟩) ∧ Below w.heap.size w w' := by
  obtain ⟨m, rfl⟩ := Int.eq_ofNat_of_zero_le h0
  have hit : Lib.itoa (m : Int) = Lib.decDigits m := by unfold Lib.itoa; rw [if_neg (by omega)]; rfl
  rw [hit]
  clear hit
  generalize hD : Lib.decDigits m = D
  have HD := Lib.hid hD
  have hwr : IntKind.u64.wrap (m : Int) = m := IntWalk.u64_in _ ⟨by omega, by omega⟩
  have H1 := Lib.hid (show m < 60001 by omega)
  clear hD h1
  go_enter Tryd.func10, Tryd.ntmps10
  go_wp2
  go_loopw [4, 3] (fun sv uv wr => ∃ (u : Nat) (S : List UInt8), u < 60001 ∧ S.length + u ≤ m + 10 ∧ uv = .int .u64 u ∧ sv = .string ⟨S.toArray⟩ ∧ DigI m u S ∧ Below w.heap.size w wr) (fun sv uv _ => 2 * (intOf uv).toNat + emptyN sv)
  case atStart => exact ⟨m, [], by have := H1.out; omega, by simp, rfl, rfl, .inl ⟨.inr rfl, by simp⟩, Below.refl _ _⟩
  case round =>
    obtain ⟨u, S, hu, hSl, rfl, rfl, hi, hb⟩ := hrel
    have HI := Lib.hid hi; have HB := Lib.hid hb
    have HU := Lib.hid hu
    clear hi hb hu hwr
    have hc8 : ((UInt8.ofNat (48 + u % 10)).toNat : Int) = 48 + (u : Int) % 10 := by
      rw [UInt8.toNat_ofNat_of_lt' (by have : UInt8.size = 256 := rfl; omega)]; omega
    have hcv := convert_one wr (UInt8.ofNat (48 + u % 10))
    rw [hc8] at hcv
    clear hc8
    have hS2 : 1 + S.length ≤ 9223372036854775807 := by have := HU.out; have := H1.out; omega
    have hof : (48 + UInt8.ofNat (u % 10) : UInt8) = UInt8.ofNat (48 + u % 10) := by simp
    have HOF := Lib.hid hof
    clear hof
    by_cases hu0 : 0 < u
    · go_wp2
      go_roundw
      case rel =>
        go_light
        exact ⟨u / 10, UInt8.ofNat (48 + u % 10) :: S, by have := HU.out; omega, by simp; omega, by rw [IntWalk.u64_in _ (by have := HU.out; omega)]; simp, by rw [HOF.out, mk_append [UInt8.ofNat (48 + u % 10)] S]; rfl, HI.out.step (.inl hu0), HB.out.alloc HB.out.size _⟩
      case measure =>
        go_light
        rw [IntWalk.u64_in _ (by have := HU.out; omega), HOF.out, mk_append [UInt8.ofNat (48 + u % 10)] S, List.singleton_append, emptyN_cons]
        simp only [intOf]
        omega
    · obtain rfl : u = 0 := by omega
      by_cases hS : S = []
      · subst hS
        clear hcv HOF
        have hcv := convert_one wr 48
        simp only [show ((48 : UInt8).toNat : Int) = 48 from rfl] at hcv
        go_wp2
        go_roundw
        case rel =>
          go_light
          exact ⟨0, [UInt8.ofNat 48], by omega, by simp, by first | rfl | simp, by first | rfl | simp, HI.out.step (.inr rfl), HB.out.alloc HB.out.size _⟩
        case measure =>
          go_light
          show _ + emptyN (.string ⟨[48].toArray⟩) < _ + 1
          rw [emptyN_cons]
          simp only [intOf]
          omega
      · have hS1 : S.isEmpty = false := by simpa using hS
        clear hcv
        go_wp2
        go_ret
        have hd := HI.out.out (by simp [hS])
        subst hd
        exact ⟨ret_str HD.out, HB.out⟩
end Go.Proofs.YtddnomjfcbplpaaDoor

namespace Go.Proofs.YtddnomjfcbplpaaDoor
open Go.RowKit

set_option maxHeartbeats 800000 in
theorem body_quoted (s : ByteArray) (at_ : Nat) (w : World) (hs : s.size < 4294967281) (hat : at_ < s.size) :
    Calls Tryd.prog 77 #[.string s, .int .i64 at_] w fun e w' => e = .returned (.int .i64 (Sp.place (at_ + 1) (Sp.quoteEnd s[at_] (s.data.toList.drop (at_ + 1))))) ∧ ∃ n, w' = w.drewN n := by

  generalize hN : Sp.place (at_ + 1) (Sp.quoteEnd s[at_] (s.data.toList.drop (at_ + 1))) = N
  have HN := Lib.hid hN; clear hN
  go_enter Tryd.func77, Tryd.ntmps77
  go_wp2
  go_loopw [5] (fun i wr => ∃ k : Nat, at_ + 1 ≤ k ∧ k ≤ s.size ∧ i = .int .i64 k ∧ Sp.place k (Sp.quoteEnd s[at_] (s.data.toList.drop k)) = N ∧ ∃ n, wr = w.drewN n) (fun i _ => s.size - (intOf i).toNat)
  case atStart => exact ⟨at_ + 1, by omega, by omega, by go_num, HN.out, 0, rfl⟩
  case round =>
    obtain ⟨k, hk0, hk, rfl, hi, n, rfl⟩ := hrel
    have HI := Lib.hid hi; clear hi
    by_cases hlt : k < s.size
    · by_cases hlt2 : k + 1 < s.size
      · have hd2 := drop_at s (k + 1) hlt2
        have hi := HI.out
        rw [drop_at s k hlt, hd2] at hi
        unfold Sp.quoteEnd at hi
        have HD := Lib.hid hd2; clear hd2
        clear HI
        have HI := Lib.hid hi; clear hi
        go_wp2
        all_goals try (go_quiet (fail); go_wp2)
        all_goals (have hi := HI.out; clear HI HN; have hd2 := HD.out; clear HD)
        all_goals first
          | (go_round
             case rel => go_light; exact ⟨k + 1, by omega, by omega, by go_num, by simp_all [Sp.place_map], _, rfl⟩
             case measure => go_light; simp [intOf]; omega)
          | (go_round
             case rel => go_light; exact ⟨k + 2, by omega, by omega, by go_num, by simp_all [Sp.place_map], _, rfl⟩
             case measure => go_light; simp [intOf]; omega)
          | (go_ret; go_light; exact ⟨ret_int (by first | (simp_all [Sp.place]; done) | (simp_all [Sp.place]; omega)), _, rfl⟩)
      · have hd2 := drop_end s (k + 1) hlt2
        have hi := HI.out
        rw [drop_at s k hlt, hd2] at hi
        unfold Sp.quoteEnd at hi
        have HD := Lib.hid hd2; clear hd2
        clear HI
        have HI := Lib.hid hi; clear hi
        go_wp2
        all_goals try (go_quiet (fail); go_wp2)
        all_goals (have hi := HI.out; clear HI HN; have hd2 := HD.out; clear HD)
        all_goals first
          | (go_round
             case rel => go_light; exact ⟨k + 1, by omega, by omega, by go_num, by rw [hd2]; clear hd2; simp_all [Sp.place_map], _, rfl⟩
             case measure => go_light; simp [intOf]; omega)
          | (go_ret; go_light; exact ⟨ret_int (by first | (simp_all [Sp.place]; done) | (simp_all [Sp.place]; omega)), _, rfl⟩)
    · have hi := HI.out
      rw [drop_end s k hlt] at hi
      unfold Sp.quoteEnd at hi
      clear HI
      have HI := Lib.hid hi; clear hi
      go_wp2
      have hi := HI.out
      go_ret; go_light; exact ⟨ret_int (by simpa [Sp.place] using hi), _, rfl⟩
end Go.Proofs.YtddnomjfcbplpaaDoor

namespace Go.Proofs.YtddnomjfcbplpaaDoor
open Go.RowKit

set_option maxHeartbeats 400000 in
theorem body_upto (s : ByteArray) (from_ : Nat) (p : ByteArray) (w : World) (hs : s.size < 4294967281) (hp : p.size < 4294967281) (hat : from_ ≤ s.size) (hg : Gl w) :
    Calls Tryd.prog 78 #[.string s, .int .i64 from_, .string p] w fun e w' => e = .returned (.int .i64 (Sp.place from_ (Sp.upto (s.data.toList.drop from_) p.data.toList))) ∧ w = w' := by
  generalize hN : Sp.place from_ (Sp.upto (s.data.toList.drop from_) p.data.toList) = N
  unfold Sp.upto at hN
  have hlt := Lib.index_room (s.data.toList.drop from_) p.data.toList
  have hge := Lib.index_ge (s.data.toList.drop from_) p.data.toList
  have hlen : (s.data.toList.drop from_).length = s.size - from_ := by simp
  have hlen2 : p.data.toList.length = p.size := by simp
  rw [hlen, hlen2] at hlt
  rw [hlen2] at hN
  clear hlen hlen2
  rw [← ext_end] at hN hlt hge
  generalize hi : Lib.index (s.extract from_ s.size).data.toList p.data.toList = i at *
  have HI := Lib.hid hi; clear hi
  have HN := Lib.hid hN; clear hN
  go_enter Tryd.func78, Tryd.ntmps78
  go_wp2_with (go_at_call 64; refine (strings_Index_gl _ _ _ (by simp; omega) hg).mono ?_; rintro e w' ⟨rfl, rfl⟩; rw [HI.out])
  all_goals (go_ret; have hN := HN.out; clear HN HI)
  all_goals exact ⟨ret_int (by rw [← hN]; first | (rw [if_pos (by omega)]; simp [Sp.place]; omega) | (rw [if_neg (by omega)]; rfl)), rfl⟩

set_option maxHeartbeats 1600000 in
theorem body_pass (s : ByteArray) (at_ : Nat) (w : World) (hs : s.size < 4294967281) (hat : at_ < s.size) (hg : Gl w) :
    Calls Tryd.prog 51 #[.string s, .int .i64 at_] w fun e w' => e = .returned (.int .i64 (Sp.place at_ (Sp.passLen (s.data.toList.drop at_)))) ∧ ∃ n, w' = w.drewN n := by
  have hd := Lib.hid (drop_at s at_ hat)
  cases h34 : ((s[at_].toNat : Int) == 34) with
  | true =>
    go_enter Tryd.func51, Tryd.ntmps51
    go_wp2_with (go_at_call 77; refine (body_quoted s at_ _ hs hat).mono ?_; rintro e w' ⟨rfl, n, rfl⟩)
    go_ret
    exact ⟨ret_int (by rw [hd.out, Sp.passLen_cons, if_pos (.inl h34), Sp.place_map]), _, rfl⟩
  | false =>
  cases h39 : ((s[at_].toNat : Int) == 39) with
  | true =>
    go_enter Tryd.func51, Tryd.ntmps51
    go_wp2_with (go_at_call 77; refine (body_quoted s at_ _ hs hat).mono ?_; rintro e w' ⟨rfl, n, rfl⟩)
    go_ret
    exact ⟨ret_int (by rw [hd.out, Sp.passLen_cons, if_pos (.inr h39), Sp.place_map]), _, rfl⟩
  | false =>
  have hn := Lib.hid (show ¬ (((s[at_].toNat : Int) == 34) = true ∨ ((s[at_].toNat : Int) == 39) = true) by rw [h34, h39]; simp)
  cases h96 : ((s[at_].toNat : Int) == 96) with
  | true =>
    go_enter Tryd.func51, Tryd.ntmps51
    go_wp2_with (go_at_call 78; refine (body_upto s (at_ + 1) _ _ hs (by decide) (by omega) hg).mono ?_; rintro e w' ⟨rfl, rfl⟩)
    go_ret
    exact ⟨ret_int (by rw [hd.out, Sp.passLen_cons, if_neg hn.out, if_pos h96, Sp.place_map]), 0, rfl⟩
  | false =>
  have h96n := Lib.hid (show ¬ ((s[at_].toNat : Int) == 96) = true by simp [h96])
  cases hp2 : Lib.hasPrefix (s.data.toList.drop at_) [47, 42] with
  | true =>
    have hat2 : at_ + 1 < s.size := by
      rcases Nat.lt_or_ge (at_ + 1) s.size with h | h
      · exact h
      · rw [hd.out, drop_end s (at_ + 1) (by omega)] at hp2
        simp [Lib.hasPrefix] at hp2
    have HP := Lib.hid hp2
    go_enter Tryd.func51, Tryd.ntmps51
    go_wp2_with (first
      | (go_at_call 79; refine (strings_HasPrefix_gl _ _ _).mono ?_; rintro e w' ⟨rfl, rfl⟩; rw [ext_end])
      | (go_at_call 78; refine (body_upto s (at_ + 2) _ _ hs (by decide) (by omega) hg).mono ?_; rintro e w' ⟨rfl, rfl⟩))
    go_ret
    have hp := HP.out
    refine ⟨ret_int ?_, 0, rfl⟩
    rw [hd.out] at hp ⊢
    rw [Sp.passLen_cons, if_neg hn.out, if_neg h96n.out, if_pos hp, Sp.place_map, List.drop_drop]
  | false =>
  cases hp1 : Lib.hasPrefix (s.data.toList.drop at_) [47, 47] with
  | true =>
    have HP2 := Lib.hid hp2; have HP1 := Lib.hid hp1
    have hge := Lib.indexByte_ge (s.data.toList.drop at_) 10
    have hle := Sp.indexByte_le (s.data.toList.drop at_) 10
    have hlen : (s.data.toList.drop at_).length = s.size - at_ := by simp
    rw [hlen] at hle
    rw [← ext_end] at hle hge
    have HL := Lib.hid hlen; clear hlen
    generalize hi : Lib.indexByte (s.extract at_ s.size).data.toList 10 = i at *
    have HI := Lib.hid hi; clear hi
    go_enter Tryd.func51, Tryd.ntmps51
    go_wp2_with (first
      | (go_at_call 79; refine (strings_HasPrefix_gl _ _ _).mono ?_; rintro e w' ⟨rfl, rfl⟩; rw [ext_end])
      | (go_at_call 63; refine (strings_IndexByte_gl _ _ _).mono ?_; rintro e w' ⟨rfl, rfl⟩; rw [show ((10 : Int).toNat.toUInt8) = 10 from rfl, HI.out]))
    all_goals go_ret
    all_goals
      refine ⟨ret_int ?_, 0, rfl⟩
      have hp2 := HP2.out; have hp1 := HP1.out
      have hi := HI.out; have hl := HL.out; clear HI HL
      rw [ext_end] at hi
      rw [hd.out] at hp2 hp1 hi hl ⊢
      rw [Sp.passLen_cons, if_neg hn.out, if_neg h96n.out, if_neg (by simp [hp2]), if_pos hp1]
      simp only [Sp.place, Sp.line, hi, hl]
      first | (rw [if_pos (by omega)]; omega) | (rw [if_neg (by omega)]; omega)
  | false =>
    have HP2 := Lib.hid hp2; have HP1 := Lib.hid hp1
    go_enter Tryd.func51, Tryd.ntmps51
    go_wp2_with (go_at_call 79; refine (strings_HasPrefix_gl _ _ _).mono ?_; rintro e w' ⟨rfl, rfl⟩; rw [ext_end])
    go_ret
    have hp2 := HP2.out; have hp1 := HP1.out
    refine ⟨ret_int ?_, 0, rfl⟩
    rw [hd.out] at hp1 hp2 ⊢
    rw [Sp.passLen_cons, if_neg hn.out, if_neg h96n.out, if_neg (by simp [hp2]), if_neg (by simp [hp1])]; rfl
end Go.Proofs.YtddnomjfcbplpaaDoor

namespace Go.Proofs.YtddnomjfcbplpaaDoor
open Go.RowKit

theorem endGo_cons {f : Nat} {d : Int} {c : UInt8} {t : List UInt8} : Sp.endGo (f + 1) d (c :: t) =
    match Sp.passLen (c :: t) with
    | none => none
    | some (n + 1) => (Sp.endGo f d ((c :: t).drop (n + 1))).map (· + (n + 1))
    | some 0 =>
      if ((if ((c.toNat : Int) == 123) = true then d + 1 else if ((c.toNat : Int) == 125) = true then d - 1 else d) == 0) = true then some 1
      else (Sp.endGo f (if ((c.toNat : Int) == 123) = true then d + 1 else if ((c.toNat : Int) == 125) = true then d - 1 else d) t).map (· + 1) := rfl

set_option maxRecDepth 100000 in
set_option maxHeartbeats 1600000 in
theorem body_End_in (s : ByteArray) (at_ : Nat) (w : World) (hs : s.size < 4294967281) (hat : at_ < s.size) (hg : Gl w) :
    Calls Tryd.prog 49 #[.string s, .int .i64 at_] w fun e w' => e = .returned (.int .i64 (Sp.place at_ (Sp.endLen (s.data.toList.drop at_)))) ∧ ∃ n, w' = w.drewN n := by
  generalize hN : Sp.place at_ (Sp.endLen (s.data.toList.drop at_)) = N
  have hN' := hN
  rw [drop_at s at_ hat] at hN'
  unfold Sp.endLen at hN'
  simp only [List.length_cons] at hN'
  rw [← drop_at s at_ hat] at hN'
  cases hb : ((s[at_].toNat : Int) == 123) with
  | false =>
    rw [hb, if_neg (by simp)] at hN'
    have hbn : ((s[at_].toNat : Int) != 123) = true := by simp [bne, hb]
    have HN := Lib.hid hN'; clear hN' hN
    go_enter Tryd.func49, Tryd.ntmps49
    go_wp2
    go_ret
    exact ⟨ret_int HN.out, 0, rfl⟩
  | true =>
    rw [hb, if_pos rfl] at hN'
    have hbn : ((s[at_].toNat : Int) != 123) = false := by simp [bne, hb]
    have hl : (s.data.toList.drop (at_ + 1)).length = s.size - (at_ + 1) := by simp
    have HN := Lib.hid hN'; clear hN' hN
    have HB := Lib.hid hb; clear hb
    have HL := Lib.hid hl; clear hl
    go_enter Tryd.func49, Tryd.ntmps49
    go_wp2
    go_loopw [5, 6] (fun dv iv wr => ∃ (p f : Nat) (d : Int), at_ ≤ p ∧ p ≤ s.size ∧ iv = .int .i64 p ∧ dv = .int .i64 d ∧ -(p : Int) ≤ d ∧ d ≤ p ∧ s.size - p < f ∧ Sp.place p (Sp.endGo f d (s.data.toList.drop p)) = N ∧ ∃ n, wr = w.drewN n) (fun _ iv _ => s.size - (intOf iv).toNat)
    case atStart => exact ⟨at_, (s.data.toList.drop (at_ + 1)).length + 1 + 1, 0, by omega, by omega, rfl, rfl, by omega, by omega, by rw [HL.out]; omega, HN.out, 0, rfl⟩
    case round =>
      obtain ⟨p, f, d, hp0, hp, rfl, rfl, hd0, hd1, hf, hi, n, rfl⟩ := hrel
      clear HB HL hbn
      by_cases hlt : p < s.size
      · obtain ⟨f, rfl⟩ : ∃ g, f = g + 1 := ⟨f - 1, by omega⟩
        rw [drop_at s p hlt, endGo_cons, ← drop_at s p hlt] at hi
        have hpl := Sp.passLen_le (s.data.toList.drop p)
        have hlen : (s.data.toList.drop p).length = s.size - p := by simp
        rw [hlen] at hpl
        clear hlen
        cases hps : Sp.passLen (s.data.toList.drop p) with
        | none =>
          rw [hps] at hi
          have HI := Lib.hid hi; clear hi
          have HP := Lib.hid hps; clear hps hpl HN
          go_wp2_with (go_at_call 51; refine (body_pass s p _ hs hlt (hg.drewN n)).mono ?_; rintro e w' ⟨rfl, n2, rfl⟩; rw [HP.out]; simp only [Sp.place])
          go_ret
          exact ⟨ret_int (by have := HI.out; simpa [Sp.place] using this), _, rfl⟩
        | some m =>
          have hm := hpl m hps
          clear hpl
          cases m with
          | zero =>
            rw [hps] at hi
            simp only at hi
            have HI := Lib.hid hi; clear hi
            have HP := Lib.hid hps; clear hps HN
            go_wp2_with (go_at_call 51; refine (body_pass s p _ hs hlt (hg.drewN n)).mono ?_; rintro e w' ⟨rfl, n2, rfl⟩; rw [HP.out]; simp only [Sp.place, Nat.add_zero])
            all_goals (have hi := HI.out; clear HI)
            all_goals first
              | (go_round
                 case rel => go_light; exact ⟨p + 1, f, _, by omega, by omega, by go_num, rfl, by omega, by omega, by omega, by simp_all [Sp.place_map], _, rfl⟩
                 case measure => go_light; simp [intOf]; omega)
              | (go_ret; go_light; exact ⟨ret_int (by simp_all [Sp.place]), _, rfl⟩)
          | succ m =>
            rw [hps] at hi
            simp only [Sp.place_map, List.drop_drop] at hi
            have HI := Lib.hid hi; clear hi
            have HP := Lib.hid hps; clear hps HN
            go_wp2_with (go_at_call 51; refine (body_pass s p _ hs hlt (hg.drewN n)).mono ?_; rintro e w' ⟨rfl, n2, rfl⟩; rw [HP.out]; simp only [Sp.place])
            have hi := HI.out; clear HI
            go_round
            case rel => go_light; exact ⟨p + (m + 1), f, _, by omega, by omega, by go_num, rfl, by omega, by omega, by omega, hi, _, rfl⟩
            case measure => go_light; simp [intOf]; omega
      · have hi' : N = -1 := by
          rw [drop_end s p hlt] at hi
          cases f with
          | zero => omega
          | succ f => simpa [Sp.endGo, Sp.place] using hi.symm
        clear hi HN
        have HI := Lib.hid hi'; clear hi'
        go_wp2
        go_ret; go_light; exact ⟨ret_int HI.out.symm, _, rfl⟩
set_option maxHeartbeats 800000 in
theorem body_End (s : ByteArray) (a : Int) (w : World) (hs : s.size < 4294967281) (hg : Gl w) :
    Calls Tryd.prog 49 #[.string s, .int .i64 a] w fun e w' => e = .returned (.int .i64 (Sp.endAt s.data.toList a)) ∧ ∃ n, w' = w.drewN n := by
  have hl : s.data.toList.length = s.size := by simp
  unfold Sp.endAt
  rw [hl]
  by_cases h0 : 0 ≤ a
  · by_cases h1 : a < s.size
    · obtain ⟨k, rfl⟩ := Int.eq_ofNat_of_zero_le h0
      rw [if_pos ⟨h0, h1⟩]
      exact body_End_in s k w hs (by omega) hg
    · rw [if_neg (by omega)]
      clear hl
      go_enter Tryd.func49, Tryd.ntmps49
      go_wp2
      go_ret
      exact ⟨rfl, 0, rfl⟩
  · rw [if_neg (by omega)]
    clear hl
    go_enter Tryd.func49, Tryd.ntmps49
    go_wp2
    go_ret
    exact ⟨rfl, 0, rfl⟩

end Go.Proofs.YtddnomjfcbplpaaDoor
