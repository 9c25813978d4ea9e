import Derived.Test.YtddnomjfcbplpaaGreatDoorZ00
import Derived.Laws.StructEq
import Derived.Deep.Slices
import Derived.Deep.Fields
import Derived.ChangeSame
import Derived.Deep.RegionLaw
import Derived.OwnWalk
namespace Go.Proofs.YtddnomjfcbplpaaGreatDoor
open Go.RowKit Go.ChangeShapes Go.WideShapes Go.Deep
namespace Sp
open Go.Lib (index indexByte hasPrefix)

structure Word where
 kind : Int
 text : List UInt8
 at_ : Int
 deriving DecidableEq

def alpha (c : UInt8) : Bool := (decide (97 ≤ c.toNat) && decide (c.toNat ≤ 122)) || (decide (65 ≤ c.toNat) && decide (c.toNat ≤ 90))
def alphas : List UInt8 → Nat
 | [] => 0
 | c :: t => if alpha c = true then alphas t + 1 else 0
def blank (c : UInt8) : Bool := ((c.toNat : Int) == 32) || ((c.toNat : Int) == 9) || ((c.toNat : Int) == 10) || ((c.toNat : Int) == 13)

def gap : List UInt8 → Option Nat
 | [] => some 0
 | c :: t => if blank c = true then some 1 else if ((c.toNat : Int) == 47) = true then kM (c :: t) else some 0
def skipGo : Nat → List UInt8 → Nat × Bool
 | 0, _ => (0, true)
 | f + 1, r => match gap r with
  | none => (0, false)
  | some 0 => (0, true)
  | some (n + 1) => ((n + 1) + (skipGo f (r.drop (n + 1))).1, (skipGo f (r.drop (n + 1))).2)
def skip (r : List UInt8) : Nat × Bool := skipGo (r.length + 1) r
def jI (c : UInt8) : Bool := decide (32 ≤ c.toNat) && decide (c.toNat ≤ 126) && !((c.toNat : Int) == 39) && !((c.toNat : Int) == 92)
def standOf (d : UInt8) : Option UInt8 := if d = 110 then some 10 else if d = 116 then some 9 else if d = 114 then some 13 else if d = 92 then some 92 else if d = 39 then some 39 else none
def zDH : List UInt8 → Option (UInt8 × Nat)
 | q :: c :: d :: t =>
  if q ≠ 39 then none
  else if jI c = true ∧ d = 39 then some (c, 3)
  else if c = 92 ∧ t.head? = some 39 then (standOf d).map (·, 4)
  else none
 | _ => none
def yC (c : UInt8) : List UInt8 :=
 if c = 10 then [39, 92, 110, 39] else if c = 9 then [39, 92, 116, 39] else if c = 13 then [39, 92, 114, 39] else if c = 92 then [39, 92, 92, 39] else if c = 39 then [39, 92, 39, 39]
 else if jI c = true then [39, c, 39] else []
theorem quoteText_stand {c d : UInt8} (h : standOf d = some c) : yC c = [39, 92, d, 39] := by
 unfold standOf at h; split at h
 ·rename_i hd; subst hd; cases h; rfl
 split at h
 ·rename_i hd; subst hd; cases h; rfl
 split at h
 ·rename_i hd; subst hd; cases h; rfl
 split at h
 ·rename_i hd; subst hd; cases h; rfl
 split at h
 ·rename_i hd; subst hd; cases h; rfl
 ·cases h
theorem zCQ {c : UInt8} (h : jI c = true) : yC c = [39, c, 39] := by
 unfold yC; have h' := h; unfold jI at h; simp at h; rw [if_neg (by rintro rfl; simp at h), if_neg (by rintro rfl; simp at h), if_neg (by rintro rfl; simp at h), if_neg (by rintro rfl; simp at h), if_neg (by rintro rfl; simp at h), if_pos h']
theorem zCP (c : UInt8) (h : yC c ≠ []) : 9 ≤ c.toNat ∧ c.toNat ≤ 126 := by
 unfold yC at h; split at h
 ·rename_i hc; subst hc; decide
 split at h
 ·rename_i hc; subst hc; decide
 split at h
 ·rename_i hc; subst hc; decide
 split at h
 ·rename_i hc; subst hc; decide
 split at h
 ·rename_i hc; subst hc; decide
 split at h
 ·rename_i hc; unfold jI at hc; simp at hc; omega
 ·exact absurd rfl h
theorem charTake_some (r : List UInt8) (c : UInt8) (n : Nat) (h : zDH r = some (c, n)) : yC c ≠ [] ∧ hasPrefix r (yC c) = true ∧ n = (yC c).length := by
 unfold zDH at h; split at h
 ·rename_i q b d t
  split at h
  ·cases h
  ·rename_i hq
   have hq : q = 39 := Classical.not_not.1 hq; subst hq; split at h
   ·rename_i hp
    obtain ⟨hp, rfl⟩ := hp; cases h
    rw [zCQ hp]; exact ⟨by simp, by simp [hasPrefix, List.isPrefixOf], rfl⟩
   ·split at h
    ·rename_i hb
     obtain ⟨rfl, ht⟩ := hb; obtain ⟨x, hx, hxe⟩ := Option.map_eq_some_iff.1 h; cases hxe
     rw [quoteText_stand hx]
     cases t with
     | nil => simp at ht
     | cons y t =>
      simp at ht; subst ht; exact ⟨by simp, by simp [hasPrefix, List.isPrefixOf], rfl⟩
    ·cases h
 ·cases h
def keys : List (List UInt8) := [[37, 116, 111, 107, 101, 110], [37, 108, 101, 102, 116], [37, 114, 105, 103, 104, 116], [37, 110, 111, 110, 97, 115, 115, 111, 99], [37, 116, 121, 112, 101], [37, 115, 116, 97, 114, 116], [37, 112, 114, 101, 99]]
def zBY : Int × List UInt8 × Nat := (0, [], 0)
def percent (r : List UInt8) : Int × List UInt8 × Nat :=
 if hasPrefix r [37, 37] = true then (7, [37, 37], 2)
 else if hasPrefix r [37, 123] = true then match upto (r.drop 2) [37, 125] with
  | none => zBY
  | some k => (9, (r.drop 2).take (k - 2), k + 2)
 else if keys.contains (r.take (1 + alphas (r.drop 1))) = true then (5, r.take (1 + alphas (r.drop 1)), 1 + alphas (r.drop 1))
 else zBY
def stuck : List UInt8 → Bool
 | [] => false
 | c :: _ => zBZ c
def number (r : List UInt8) : Nat :=
 if 5 < zAH r ∨ r.head? = some 48 ∨ stuck (r.drop (zAH r)) = true then 0
 else if 50000 < num (r.take (zAH r)) then 0 else zAH r
def word : List UInt8 → Int × List UInt8 × Nat
 | [] => zBY
 | c :: t =>
  if zBZ c = true then if yL true (c :: t) ≤ 20 then (1, (c :: t).take (yL true (c :: t)), yL true (c :: t)) else zBY
  else if digit c = true then if 0 < number (c :: t) then (3, (c :: t).take (number (c :: t)), number (c :: t)) else zBY
  else if ((c.toNat : Int) == 39) = true then match zDH (c :: t) with
   | none => zBY
   | some (b, n) => (2, [b], n)
  else if ((c.toNat : Int) == 60) = true then
   if xI (t.take (yL true t)) = true ∧ hasPrefix (t.drop (yL true t)) [62] = true then (4, t.take (yL true t), yL true t + 2) else zBY
  else if ((c.toNat : Int) == 37) = true then percent (c :: t)
  else if ((c.toNat : Int) == 58) = true ∨ ((c.toNat : Int) == 59) = true ∨ ((c.toNat : Int) == 124) = true then (6, [c], 1)
  else if ((c.toNat : Int) == 123) = true then match zCF (c :: t) with
   | none => zBY
   | some n => (8, (c :: t).take n, n)
  else zBY

def wordsGo : Nat → Nat → Nat → List UInt8 → Except Nat (List Word)
 | 0, _, _, _ => .error 0
 | f + 1, marks, pos, r =>
  if (skip r).2 = true ∧ r.length = (skip r).1 then .ok [⟨10, [], (pos + (skip r).1 : Nat)⟩]
  else if (skip r).2 = false ∨ (word (r.drop (skip r).1)).2.2 = 0 then .error (pos + (skip r).1)
  else if (if (word (r.drop (skip r).1)).1 = 7 then marks + 1 else marks) = 2 then
   .ok [⟨10, (r.drop (skip r).1).drop (word (r.drop (skip r).1)).2.2, (pos + (skip r).1 + (word (r.drop (skip r).1)).2.2 : Nat)⟩]
  else (wordsGo f (if (word (r.drop (skip r).1)).1 = 7 then marks + 1 else marks) (pos + (skip r).1 + (word (r.drop (skip r).1)).2.2) ((r.drop (skip r).1).drop (word (r.drop (skip r).1)).2.2)).map
   (⟨(word (r.drop (skip r).1)).1, (word (r.drop (skip r).1)).2.1, (pos + (skip r).1 : Nat)⟩ :: ·)
def wordsRes : Except Nat (List Word) → List Word × Int × Nat
 | .error p => ([], 2, p)
 | .ok ws => (ws, 0, 0)
def words (l : List UInt8) : List Word × Int × Nat := if 4000 < l.length then ([], 4, 0) else wordsRes (wordsGo (l.length + 1) 0 0 l)

end Sp
namespace Sp
open Go.Lib (index indexByte hasPrefix)

def Sep (R R' : List UInt8) : Prop := R'.head? = R.head? ∨ ∀ c, R'.head? = some c → c = 32 ∨ c = 10 ∨ c = 47 ∨ c = 9
theorem Sep.keep {R R' : List UInt8} (h : Sep R R') (p : UInt8 → Bool) (hp : ∀ c, c = 32 ∨ c = 10 ∨ c = 47 ∨ c = 9 → p c = false) (hR : ∀ c, R.head? = some c → p c = false) : ∀ c, R'.head? = some c → p c = false := by
 intro c hc; rcases h with h | h
 ·exact hR c (by rw [← h]; exact hc)
 ·exact hp c (h c hc)

end Sp
namespace Sp
open Go.Lib (index indexByte hasPrefix)

def stands : List UInt8 := [10, 9, 13, 92, 39]
theorem byte_eq (d x : UInt8) : d = x ↔ ((d.toNat : Int) == (x.toNat : Int)) = true := by
 constructor
 ·rintro rfl; simp
 ·intro h
  have : (d.toNat : Int) = x.toNat := by simpa using h
  exact UInt8.toNat_inj.1 (by omega)
end Sp


def SlAt (w : World) (v : Value) (size : Nat) (xs : List (List Value)) : Prop :=
 (xs = [] ∧ ∃ a cap, v = .slice a 0 cap) ∨
 ∃ b off cap, v = .slice (some ⟨b, off, none⟩) xs.length cap ∧ b < w.heap.size ∧ ∀ i r, xs[i]? = some r → ∀ j u, r[j]? = some u → w.cell? ⟨b, off + i * size + j, none⟩ = some u
theorem SlAt.below {w w' : World} {v : Value} {size : Nat} {xs : List (List Value)} (h : SlAt w v size xs) (hb : Below w.heap.size w w') : SlAt w' v size xs := by
 rcases h with h | ⟨b, off, cap, rfl, hlt, hc⟩
 ·exact .inl h
 ·refine .inr ⟨b, off, cap, rfl, Nat.lt_of_lt_of_le hlt hb.size, fun i r hr j u hu => ?_⟩
  rw [hb.cell (p := ⟨b, _, none⟩) hlt]; exact hc i r hr j u hu



theorem four {α : Type} (l : List α) (h : l.length = 4) : ∃ a b c d, l = [a, b, c, d] := by
 rcases l with _ | ⟨a, _ | ⟨b, _ | ⟨c, _ | ⟨d, _ | ⟨e, l⟩⟩⟩⟩⟩ <;> simp at h
 exact ⟨a, b, c, d, rfl⟩
theorem lt_at_cell {w : World} {a : Addr} {v : Value} (h : w.cell? a = some v) : a.block < w.heap.size := by
 rcases Nat.lt_or_ge a.block w.heap.size with h' | h'
 ·exact h'
 ·unfold World.cell? at h
  simp [Array.getElem?_eq_none h'] at h
theorem str_eta (s : ByteArray) : (⟨s.data.toList.toArray⟩ : ByteArray) = s := by cases s; simp

theorem gS {D : ByteArray} {d : List UInt8} (h : D.data.toList = d) : D.size = d.length := by
 subst h; rw [Lib.size_eq]


set_option maxHeartbeats 400000 in
theorem char_plain (c : UInt8) (w : World) :
  Calls Tryz.prog 54 #[.int .u8 (c.toNat : Int)] w fun e w' => e = .returned (.bool (Sp.jI c)) ∧ w = w' := by
 go_enter Tryz.func54, Tryz.ntmps54
 go_wp2
 all_goals go_ret
 all_goals exact ⟨zK (by unfold Sp.jI; first | (simp_all; done) | (simp_all; omega) | (rw [Bool.eq_iff_iff]; simp_all; omega)), rfl⟩


structure Kp (S : Nat → Prop) (w w' : World) : Prop where
 os : w'.os = w.os
 tape : w'.tape = w.tape
 output : w'.output = w.output
 size : w.heap.size ≤ w'.heap.size
 block : ∀ k, k < w.heap.size → S k → w'.heap[k]? = w.heap[k]?
theorem Kp.refl (S : Nat → Prop) (w : World) : Kp S w w := ⟨rfl, rfl, rfl, Nat.le_refl _, fun _ _ _ => rfl⟩
theorem Kp.trans {S : Nat → Prop} {a b c : World} (h : Kp S a b) (k : Kp S b c) : Kp S a c :=
 ⟨k.os.trans h.os, k.tape.trans h.tape, k.output.trans h.output, Nat.le_trans h.size k.size, fun i hi hs => (k.block i (Nat.lt_of_lt_of_le hi h.size) hs).trans (h.block i hi hs)⟩
theorem Kp.mono {S T : Nat → Prop} {w w' : World} (h : Kp S w w') (hs : ∀ k, k < w.heap.size → T k → S k) : Kp T w w' := ⟨h.os, h.tape, h.output, h.size, fun k hk ht => h.block k hk (hs k hk ht)⟩
theorem Kp.of_below {S : Nat → Prop} {B : Nat} {w w' : World} (h : Below B w w') (hs : ∀ k, k < w.heap.size → S k → k < B) : Kp S w w' := ⟨h.os, h.tape, h.output, h.size, fun k hk ht => h.block k (hs k hk ht)⟩
theorem Kp.alloc {S : Nat → Prop} {a w : World} (h : Kp S a w) (o : Obj) : Kp S a (w.alloc o) :=
 h.trans ⟨rfl, rfl, rfl, by simp, fun k hk _ => Below.heap_alloc _ _ _ hk⟩
theorem Kp.drew {S : Nat → Prop} {a w : World} (h : Kp S a w) : Kp S a w.drew := ⟨h.os, h.tape, h.output, h.size, h.block⟩
theorem Kp.drewN {S : Nat → Prop} {a w : World} (h : Kp S a w) (n : Nat) : Kp S a (w.drewN n) := ⟨h.os, h.tape, h.output, h.size, h.block⟩
theorem Kp.setCell {S : Nat → Prop} {a w : World} (h : Kp S a w) {p : Addr} (hp : ¬ S p.block) (u : Value) : Kp S a (w.setCell p u) :=
 h.trans ⟨rfl, rfl, rfl, by simp [World.setCell], fun k _ hs => Below.heap_setCell _ _ _ _ (fun e => hp (e ▸ hs))⟩
theorem Kp.grown {S : Nat → Prop} {a w w' : World} {row : Option Nat} (h : Kp S a w) (hg : w.grownBy w' row) (hr : ∀ k, row = some k → ¬ S k) : Kp S a w' :=
 h.trans ⟨hg.os, hg.tape, hg.output, hg.size, fun k hk hs => hg.block k hk (fun e => hr k e.symm hs)⟩
theorem Kp.below {S : Nat → Prop} {B : Nat} {w w' : World} (h : Kp S w w') (hB : B ≤ w.heap.size) (hs : ∀ k, k < B → S k) : Below B w w' := ⟨h.os, h.tape, h.output, h.size, fun k hk => h.block k (by omega) (hs k hk)⟩
theorem Kp.at {S : Nat → Prop} {w w' : World} (h : Kp S w w') {b : Nat} {o : Obj} (hb : w.heap[b]? = some o) (hs : S b) : w'.heap[b]? = some o := (h.block b (zC hb) hs).trans hb

theorem zP {S : Nat → Prop} {w w' : World} {base : Nat} {e : TypeId} {size : Nat} {v : Value} {n : Nat} {xs : List Value} (h : w.ownsRow base e size v n xs) (k : Kp S w w') (hs : ∀ b, v.ownBlock = some b → S b) : w'.ownsRow base e size v n xs := by
 refine ⟨h.1, ?_⟩; rcases h.2 with hn | ⟨g, cap, cur, rfl, hb, hgg, rest⟩
 ·exact .inl hn
 ·exact .inr ⟨g, cap, cur, rfl, hb, k.at hgg (hs g rfl), rest⟩
theorem zL {w w' : World} {base : Nat} {e : TypeId} {size : Nat} {v : Value} {n : Nat} {xs : List Value} (h : w.ownsRow base e size v n xs) (k : Below w.heap.size w w') : w'.ownsRow base e size v n xs :=
 zP (S := fun _ => True) h (Kp.of_below k fun _ h _ => h) (fun _ _ => trivial)
theorem qY {w : World} {base : Nat} {e : TypeId} {size : Nat} {v : Value} {n : Nat} {xs : List Value} (h : w.ownsRow base e size v n xs) {b : Nat} {c : Array Value} {t : TypeId} {fr : Nat × Nat} (hb : w.heap[b]? = some (.cells c t fr)) (ht : t ≠ e) : ∀ k, v.ownBlock = some k → k ≠ b := by
 rintro k hk rfl; rcases h.2 with ⟨rfl, _⟩ | ⟨g, cap, cur, rfl, _, hgg, _⟩
 ·simp [Value.ownBlock] at hk
 ·simp [Value.ownBlock] at hk
  subst hk; rw [hgg] at hb; simp at hb; exact ht hb.2.1.symm
theorem new_cells (w : World) (cs : List Value) (t : TypeId) : ∀ j u, cs[j]? = some u → (w.alloc (.cells cs.toArray t)).cell? ((⟨w.heap.size, 0, none⟩ : Addr).add j) = some u := by
 intro j u h; have : (⟨w.heap.size, 0, none⟩ : Addr).add j = ⟨w.heap.size, j, none⟩ := by unfold Addr.add; split <;> simp_all
 rw [this, cell_at (zE w _)]; simpa using h
theorem yB {w : World} {base size n : Nat} {e : TypeId} {v : Value} {xs : List Value} (h : w.ownsRow base e size v n xs) (hn : 0 < n) : ∃ g cap, v = .slice (some ⟨g, 0, none⟩) n cap := by
 rcases h.2 with ⟨_, h0⟩ | ⟨g, cap, _, hv, _⟩
 ·omega
 ·exact ⟨g, cap, hv⟩
theorem zR {w : World} {base : Nat} {e : TypeId} {size : Nat} {v : Value} {n : Nat} {xs : List Value} (h : w.ownsRow base e size v n xs) {b i : Nat} {c : Array Value} {t : TypeId} {fr : Nat × Nat} (hb : w.heap[b]? = some (.cells c t fr)) (ht : t ≠ e) (u : Value) : (w.setCell ⟨b, i, none⟩ u).ownsRow base e size v n xs :=
 zP (S := fun k => k ≠ b) h ((Kp.refl _ _).setCell (by simp) _) (qY h hb ht)

theorem zh {p : Prop} (h : p) : Hid p := Lib.hid h

set_option maxHeartbeats 400000 in
theorem body_digit (c : UInt8) (w : World) :
  Calls Tryz.prog 106 #[.int .u8 (c.toNat : Int)] w fun e w' => e = .returned (.bool (Sp.digit c)) ∧ w = w' := by
 go_enter Tryz.func106, Tryz.ntmps106
 go_wp2
 all_goals go_ret
 all_goals exact ⟨zK (Bool.eq_iff_iff.2 (by simp [Sp.digit]; omega)), rfl⟩

set_option maxHeartbeats 400000 in
theorem body_letter (c : UInt8) (w : World) :
  Calls Tryz.prog 105 #[.int .u8 (c.toNat : Int)] w fun e w' => e = .returned (.bool (Sp.zBZ c)) ∧ w = w' := by
 go_enter Tryz.func105, Tryz.ntmps105
 go_wp2
 all_goals go_ret
 all_goals exact ⟨zK (Bool.eq_iff_iff.2 (by simp [Sp.zBZ]; omega)), rfl⟩

set_option maxHeartbeats 400000 in
theorem body_Run (s : ByteArray) (w : World) (hs : s.size < 4294967281) :
  Calls Tryz.prog 93 #[.string s] w fun e w' => e = .returned (.int .i64 (Sp.yL true s.data.toList : Nat)) ∧ w = w' := by

 generalize hN : Sp.yL true s.data.toList = N; have HN := zh hN; clear hN; go_enter Tryz.func93, Tryz.ntmps93
 go_wp2
 go_loop [3] (fun i => ∃ k : Nat, k ≤ s.size ∧ i = .int .i64 k ∧ k + Sp.yL (k == 0) (s.data.toList.drop k) = N) (fun i => s.size - (intOf i).toNat)
 case atStart => exact ⟨0, Nat.zero_le _, rfl, by simp [HN.out]⟩
 case round =>
  obtain ⟨k, hk, rfl, hi⟩ := hrel; have HI := zh hi; clear hi; by_cases hlt : k < s.size
  ·have HD := zh (xM s k hlt)
   go_wp2_with (first
    | (go_at_call 105; refine (body_letter _ _).mono ?_; rintro e w' ⟨rfl, rfl⟩)
    | (go_at_call 106; refine (body_digit _ _).mono ?_; rintro e w' ⟨rfl, rfl⟩))
   all_goals (have hi := HI.out; rw [HD.out] at hi; clear HI HD HN; unfold Sp.yL at hi)
   all_goals first
    | (go_round
       case rel => go_light; exact ⟨k + 1, by omega, by go_num, by first | (simp_all; done) | (simp_all; omega) | (simp_all; split at hi <;> omega)⟩
       case measure => go_light; simp [intOf]; omega)
    | (go_ret; go_light; exact ⟨zW (by first | (simp_all; done) | (simp_all; omega) | (simp_all; split at hi <;> omega)), rfl⟩)
  ·have HD := zh (qV s k hlt)
   go_wp2
   have hi := HI.out; rw [HD.out] at hi; clear HI HD HN; unfold Sp.yL at hi; go_ret; go_light
   exact ⟨zW (by first | (simp_all; done) | (simp_all; omega) | (simp_all; split at hi <;> omega)), rfl⟩

set_option maxHeartbeats 400000 in
theorem ref_digit (c : UInt8) (w : World) :
  Calls Tryz.prog 89 #[.int .u8 (c.toNat : Int)] w fun e w' => e = .returned (.bool (Sp.digit c)) ∧ w = w' := by
 go_enter Tryz.func89, Tryz.ntmps89
 go_wp2
 all_goals go_ret
 all_goals exact ⟨zK (Bool.eq_iff_iff.2 (by simp [Sp.digit]; omega)), rfl⟩

set_option maxHeartbeats 400000 in
theorem ref_letter (c : UInt8) (w : World) :
  Calls Tryz.prog 88 #[.int .u8 (c.toNat : Int)] w fun e w' => e = .returned (.bool (Sp.zBZ c)) ∧ w = w' := by
 go_enter Tryz.func88, Tryz.ntmps88
 go_wp2
 all_goals go_ret
 all_goals exact ⟨zK (Bool.eq_iff_iff.2 (by simp [Sp.zBZ]; omega)), rfl⟩

set_option maxHeartbeats 800000 in
theorem ref_NameAt (s : ByteArray) (at_ : Nat) (w : World) (hs : s.size < 4294967281) (hat : at_ ≤ s.size) :
  Calls Tryz.prog 70 #[.string s, .int .i64 at_] w fun e w' => e = .returned (.int .i64 (Sp.yL true (s.data.toList.drop at_) : Nat)) ∧ w = w' := by

 generalize hN : Sp.yL true (s.data.toList.drop at_) = N; have HN := zh hN; clear hN; go_enter Tryz.func70, Tryz.ntmps70
 go_wp2
 go_loop [5] (fun i => ∃ k : Nat, at_ + k ≤ s.size ∧ i = .int .i64 k ∧ k + Sp.yL (k == 0) (s.data.toList.drop (at_ + k)) = N) (fun i => s.size - (intOf i).toNat)
 case atStart => exact ⟨0, by omega, rfl, by simp [HN.out]⟩
 case round =>
  obtain ⟨k, hk, rfl, hi⟩ := hrel; have HI := zh hi; clear hi; by_cases hlt : at_ + k < s.size
  ·have HD := zh (xM s (at_ + k) hlt)
   go_wp2_with (first
    | (go_at_call 88; refine (ref_letter _ _).mono ?_; rintro e w' ⟨rfl, rfl⟩)
    | (go_at_call 89; refine (ref_digit _ _).mono ?_; rintro e w' ⟨rfl, rfl⟩))
   all_goals (have hi := HI.out; rw [HD.out] at hi; clear HI HD HN; unfold Sp.yL at hi)
   all_goals first
    | (go_round
       case rel => go_light; exact ⟨k + 1, by omega, by go_num, by first | (simp_all [Nat.add_assoc]; done) | (simp_all [Nat.add_assoc]; omega) | (simp_all [Nat.add_assoc]; split at hi <;> omega)⟩
       case measure => go_light; simp [intOf]; omega)
    | (go_ret; go_light; exact ⟨zW (by first | (simp_all; done) | (simp_all; omega) | (simp_all; split at hi <;> omega)), rfl⟩)
  ·have HD := zh (qV s (at_ + k) hlt)
   go_wp2
   have hi := HI.out; rw [HD.out] at hi; clear HI HD HN; unfold Sp.yL at hi; go_ret; go_light
   exact ⟨zW (by first | (simp_all; done) | (simp_all; omega)), rfl⟩

set_option maxHeartbeats 400000 in
theorem body_Name (s : ByteArray) (w : World) (hs : s.size < 4294967281) :
  Calls Tryz.prog 76 #[.string s] w fun e w' => e = .returned (.bool (Sp.xI s.data.toList)) ∧ w = w' := by
 have hl : s.data.toList.length = s.size := by simp
 generalize hN : Sp.xI s.data.toList = N; unfold Sp.xI at hN; rw [hl] at hN; have HN := zh hN; clear hN hl; have HR := zh (body_Run s w hs); generalize Sp.yL true s.data.toList = r at *
 go_enter Tryz.func76, Tryz.ntmps76
 go_wp2_with (go_at_call 93; refine (HR.out).mono ?_; rintro e w' ⟨rfl, rfl⟩)
 all_goals (go_ret; have hN := HN.out; clear HN HR)
 all_goals exact ⟨zK (by rw [← hN, ← Lib.toList_data, Bool.eq_iff_iff]; simp_all; try omega), rfl⟩

set_option maxHeartbeats 400000 in
theorem zBS (s p : ByteArray) (at_ : Nat) (w : World) (hs : s.size < 4294967281) (hp : p.size < 4294967281) (hat : at_ ≤ s.size) :
  Calls Tryz.prog 101 #[.string s, .int .i64 at_, .string p] w fun e w' => e = .returned (.bool (Lib.hasPrefix (s.data.toList.drop at_) p.data.toList)) ∧ w = w' := by

 go_enter Tryz.func101, Tryz.ntmps101
 go_wp2
 all_goals go_ret
 ·exact ⟨zK (by
   rw [Lib.extract_toList, Lib.toList_data, ← Lib.hasPrefix_of_take, Nat.add_sub_cancel_left, ← Lib.size_eq p]; rw [show decide (p.size ≤ (s.data.toList.drop at_).length) = true by simp; omega]
   rfl), rfl⟩
 ·exact ⟨zK (by
   rw [← Lib.hasPrefix_of_take, ← Lib.size_eq p]; rw [show decide (p.size ≤ (s.data.toList.drop at_).length) = false by simp; omega]
   rfl), rfl⟩

def emptyN : Value → Nat | .string s => if s.size = 0 then 1 else 0 | _ => 0
def DigI (n u : Nat) (S : List UInt8) : Prop := ((0 < u ∨ S = []) ∧ Lib.decDigits u ++ S = Lib.decDigits n) ∨ (u = 0 ∧ S ≠ [] ∧ S = Lib.decDigits n)
theorem DigI.step {n u : Nat} {S : List UInt8} (h : DigI n u S) (hc : 0 < u ∨ S = []) : DigI n (u / 10) (UInt8.ofNat (48 + u % 10) :: S) := by
 rcases h with ⟨_, h⟩ | ⟨h0, hS, _⟩
 ·by_cases hu : u < 10
  ·right
   refine ⟨by omega, by simp, ?_⟩; rw [← h, Lib.decDigits, dif_pos hu, Nat.mod_eq_of_lt hu]; rfl
  ·left
   refine ⟨.inl (by omega), ?_⟩; rw [← h]; conv => rhs; rw [Lib.decDigits, dif_neg hu]
   simp
 ·rcases hc with h | h
  ·omega
  ·exact absurd h hS
theorem DigI.out {n u : Nat} {S : List UInt8} (h : DigI n u S) (hc : ¬ (0 < u ∨ S = [])) : S = Lib.decDigits n := by
 rcases h with ⟨h, _⟩ | ⟨_, _, h⟩
 ·exact absurd h hc
 ·exact h

theorem mk_append (a b : List UInt8) : ((⟨a.toArray⟩ : ByteArray) ++ (⟨b.toArray⟩ : ByteArray)) = ⟨(a ++ b).toArray⟩ := by
 apply ByteArray.ext
 simp
theorem ret_str {a b : List UInt8} (h : a = b) : Ending.returned (.string ⟨a.toArray⟩) = .returned (.string ⟨b.toArray⟩) := by rw [h]
theorem emptyN_cons (c : UInt8) (S : List UInt8) : emptyN (.string ⟨(c :: S).toArray⟩) = 0 := by
 show (if (⟨(c :: S).toArray⟩ : ByteArray).size = 0 then 1 else 0) = 0
 rw [if_neg]; rw [Lib.size_eq]; simp
theorem qH (W : World) (c : UInt8) : (convert 104 9 (.slice (some ⟨W.heap.size, 0, none⟩) 1 1)).run Tryz.prog (W.alloc (.cells #[.int .u8 (c.toNat : Int)] 5)) = .ok (.string ⟨#[c]⟩) (W.alloc (.cells #[.int .u8 (c.toNat : Int)] 5)) := by
 refine run_convert_bytes_back (P := Tryz.prog) _ 104 9 5 ⟨W.heap.size, 0, none⟩ 1 [c] Tryz.underlying104 Tryz.underlying5 Tryz.underlying9 ?_; intro j hj; obtain rfl : j = 0 := by simpa using hj
 exact new_cells W [.int .u8 (c.toNat : Int)] _ 0 _ rfl

set_option maxRecDepth 100000 in
set_option maxHeartbeats 1600000 in
theorem ref_Digits (n : Int) (w : World) (h0 : 0 ≤ n) (h1 : n < 60001) :
  Calls Tryz.prog 33 #[.int .i64 n] w fun e w' => e = .returned (.string ⟨(Lib.itoa n).toArray⟩) ∧ Below w.heap.size w w' := by
 obtain ⟨m, rfl⟩ := Int.eq_ofNat_of_zero_le h0; have hit : Lib.itoa (m : Int) = Lib.decDigits m := by unfold Lib.itoa; rw [if_neg (by omega)]; rfl
 rw [hit]; clear hit; generalize hD : Lib.decDigits m = D; have HD := zh hD; have hwr : IntKind.u64.wrap (m : Int) = m := IntWalk.u64_in _ ⟨by omega, by omega⟩; have H1 := zh (show m < 60001 by omega); clear hD h1; go_enter Tryz.func33, Tryz.ntmps33
 go_wp2
 go_loopw [4, 3] (fun sv uv wr => ∃ (u : Nat) (S : List UInt8), u < 60001 ∧ S.length + u ≤ m + 10 ∧ uv = .int .u64 u ∧ sv = .string ⟨S.toArray⟩ ∧ DigI m u S ∧ Below w.heap.size w wr) (fun sv uv _ => 2 * (intOf uv).toNat + emptyN sv)
 case atStart => exact ⟨m, [], by have := H1.out; omega, by simp, rfl, rfl, .inl ⟨.inr rfl, by simp⟩, Below.refl _ _⟩
 case round =>
  obtain ⟨u, S, hu, hSl, rfl, rfl, hi, hb⟩ := hrel; have HI := zh hi; have HB := zh hb; have HU := zh hu; clear hi hb hu hwr
  have hc8 : ((UInt8.ofNat (48 + u % 10)).toNat : Int) = 48 + (u : Int) % 10 := by
   rw [UInt8.toNat_ofNat_of_lt' (by have : UInt8.size = 256 := rfl; omega)]; omega
  have hcv := qH wr (UInt8.ofNat (48 + u % 10)); rw [hc8] at hcv; clear hc8; have hS2 : 1 + S.length ≤ 9223372036854775807 := by have := HU.out; have := H1.out; omega
  have hof : (48 + UInt8.ofNat (u % 10) : UInt8) = UInt8.ofNat (48 + u % 10) := by simp
  have HOF := zh hof; clear hof; by_cases hu0 : 0 < u
  ·go_wp2
   go_roundw
   case rel =>
    go_light
    exact ⟨u / 10, UInt8.ofNat (48 + u % 10) :: S, by have := HU.out; omega, by simp; omega, by rw [IntWalk.u64_in _ (by have := HU.out; omega)]; simp, by rw [HOF.out, mk_append [UInt8.ofNat (48 + u % 10)] S]; rfl, HI.out.step (.inl hu0), HB.out.alloc HB.out.size _⟩
   case measure =>
    go_light
    rw [IntWalk.u64_in _ (by have := HU.out; omega), HOF.out, mk_append [UInt8.ofNat (48 + u % 10)] S, List.singleton_append, emptyN_cons]; simp only [intOf]; omega
  ·obtain rfl : u = 0 := by omega
   by_cases hS : S = []
   ·subst hS
    clear hcv HOF; have hcv := qH wr 48; simp only [show ((48 : UInt8).toNat : Int) = 48 from rfl] at hcv; go_wp2
    go_roundw
    case rel =>
     go_light
     exact ⟨0, [UInt8.ofNat 48], by omega, by simp, by first | rfl | simp, by first | rfl | simp, HI.out.step (.inr rfl), HB.out.alloc HB.out.size _⟩
    case measure =>
     go_light
     show _ + emptyN (.string ⟨[48].toArray⟩) < _ + 1
     rw [emptyN_cons]; simp only [intOf]; omega
   ·have hS1 : S.isEmpty = false := by simpa using hS
    clear hcv; go_wp2
    go_ret; have hd := HI.out.out (by simp [hS]); subst hd; exact ⟨ret_str HD.out, HB.out⟩

set_option maxHeartbeats 800000 in
theorem body_quoted (s : ByteArray) (at_ : Nat) (w : World) (hs : s.size < 4294967281) (hat : at_ < s.size) :
  Calls Tryz.prog 116 #[.string s, .int .i64 at_] w fun e w' => e = .returned (.int .i64 (Sp.yG (at_ + 1) (Sp.yV s[at_] (s.data.toList.drop (at_ + 1))))) ∧ ∃ n, w' = w.drewN n := by

 generalize hN : Sp.yG (at_ + 1) (Sp.yV s[at_] (s.data.toList.drop (at_ + 1))) = N; have HN := zh hN; clear hN; go_enter Tryz.func116, Tryz.ntmps116
 go_wp2
 go_loopw [5] (fun i wr => ∃ k : Nat, at_ + 1 ≤ k ∧ k ≤ s.size ∧ i = .int .i64 k ∧ Sp.yG k (Sp.yV s[at_] (s.data.toList.drop k)) = N ∧ ∃ n, wr = w.drewN n) (fun i _ => s.size - (intOf i).toNat)
 case atStart => exact ⟨at_ + 1, by omega, by omega, by go_num, HN.out, 0, rfl⟩
 case round =>
  obtain ⟨k, hk0, hk, rfl, hi, n, rfl⟩ := hrel; have HI := zh hi; clear hi; by_cases hlt : k < s.size
  ·by_cases hlt2 : k + 1 < s.size
   ·have hd2 := xM s (k + 1) hlt2
    have hi := HI.out; rw [xM s k hlt, hd2] at hi; unfold Sp.yV at hi; have HD := zh hd2; clear hd2; clear HI; have HI := zh hi; clear hi; go_wp2
    all_goals try (go_quiet (fail); go_wp2)
    all_goals (have hi := HI.out; clear HI HN; have hd2 := HD.out; clear HD)
    all_goals first
     | (go_round
        case rel => go_light; exact ⟨k + 1, by omega, by omega, by go_num, by simp_all [Sp.yR], _, rfl⟩
        case measure => go_light; simp [intOf]; omega)
     | (go_round
        case rel => go_light; exact ⟨k + 2, by omega, by omega, by go_num, by simp_all [Sp.yR], _, rfl⟩
        case measure => go_light; simp [intOf]; omega)
     | (go_ret; go_light; exact ⟨zW (by first | (simp_all [Sp.yG]; done) | (simp_all [Sp.yG]; omega)), _, rfl⟩)
   ·have hd2 := qV s (k + 1) hlt2
    have hi := HI.out; rw [xM s k hlt, hd2] at hi; unfold Sp.yV at hi; have HD := zh hd2; clear hd2; clear HI; have HI := zh hi; clear hi; go_wp2
    all_goals try (go_quiet (fail); go_wp2)
    all_goals (have hi := HI.out; clear HI HN; have hd2 := HD.out; clear HD)
    all_goals first
     | (go_round
        case rel => go_light; exact ⟨k + 1, by omega, by omega, by go_num, by rw [hd2]; clear hd2; simp_all [Sp.yR], _, rfl⟩
        case measure => go_light; simp [intOf]; omega)
     | (go_ret; go_light; exact ⟨zW (by first | (simp_all [Sp.yG]; done) | (simp_all [Sp.yG]; omega)), _, rfl⟩)
  ·have hi := HI.out
   rw [qV s k hlt] at hi; unfold Sp.yV at hi; clear HI; have HI := zh hi; clear hi; go_wp2
   have hi := HI.out; go_ret; go_light; exact ⟨zW (by simpa [Sp.yG] using hi), _, rfl⟩
end Go.Proofs.YtddnomjfcbplpaaGreatDoor
