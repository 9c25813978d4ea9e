import Derived.Lib.SlicesS
import Derived.Deep.RegionHeld3
import Derived.Deep.DeepCutAuto
import Derived.Deep.LoopGhost
import Derived.Test.YtddnomjfcbplpaaGreatDoorZ05
import Derived.Deep.OwnRows
import Derived.Lib.ItoaLen
import Derived.Deep.AppendLies
namespace Go.Proofs.YtddnomjfcbplpaaGreatDoor
open Go.RowKit

def jB (c : UInt8) : UInt8 × Bool := if c = 10 then (110, true) else if c = 9 then (116, true) else if c = 13 then (114, true) else if c = 92 then (92, true) else if c = 39 then (39, true) else (0, decide (32 ≤ c.toNat) && decide (c.toNat ≤ 126))
theorem zCH {c x : UInt8} (h : ¬ c = x) : ((c.toNat : Int) == (x.toNat : Int)) = false := by
 rw [← Bool.not_eq_true]; exact fun e => h ((Sp.byte_eq c x).2 e)
theorem ret_ub {a a' : Int} {x x' : Bool} (h1 : a = a') (h2 : x = x') : Ending.returned (.tuple #[.int .u8 a, .bool x]) = .returned (.tuple #[.int .u8 a', .bool x']) := by rw [h1, h2]
set_option maxHeartbeats 800000 in
theorem ref_Quoted (c : UInt8) (w : World) :
  Calls Tryz.prog 56 #[.int .u8 (c.toNat : Int)] w fun e w' => e = .returned (.tuple #[.int .u8 ((jB c).1.toNat : Int), .bool (jB c).2]) ∧ w = w' := by
 by_cases h1 : c = 10
 ·subst h1
  go_enter Tryz.func56, Tryz.ntmps56
  go_wp2
  go_ret2
  exact ⟨rfl, rfl⟩
 by_cases h2 : c = 9
 ·subst h2
  go_enter Tryz.func56, Tryz.ntmps56
  go_wp2
  go_ret2
  exact ⟨rfl, rfl⟩
 by_cases h3 : c = 13
 ·subst h3
  go_enter Tryz.func56, Tryz.ntmps56
  go_wp2
  go_ret2
  exact ⟨rfl, rfl⟩
 by_cases h4 : c = 92
 ·subst h4
  go_enter Tryz.func56, Tryz.ntmps56
  go_wp2
  go_ret2
  exact ⟨rfl, rfl⟩
 by_cases h5 : c = 39
 ·subst h5
  go_enter Tryz.func56, Tryz.ntmps56
  go_wp2
  go_ret2
  exact ⟨rfl, rfl⟩
 have hq : jB c = (0, decide (32 ≤ c.toNat) && decide (c.toNat ≤ 126)) := by
  unfold jB; rw [if_neg h1, if_neg h2, if_neg h3, if_neg h4, if_neg h5]
 rw [hq]; have e1 : ((c.toNat : Int) == 10) = false := zCH (x := 10) h1; have e2 : ((c.toNat : Int) == 9) = false := zCH (x := 9) h2; have e3 : ((c.toNat : Int) == 13) = false := zCH (x := 13) h3; have e4 : ((c.toNat : Int) == 92) = false := zCH (x := 92) h4; have e5 : ((c.toNat : Int) == 39) = false := zCH (x := 39) h5; clear hq h1 h2 h3 h4 h5; go_enter Tryz.func56, Tryz.ntmps56
 go_wp2
 all_goals
  go_ret2
  exact ⟨ret_ub rfl (Bool.eq_iff_iff.2 (by simp; omega)), rfl⟩

theorem zBI (c : UInt8) : Sp.yC c = if (jB c).2 = false then [] else if ((jB c).1.toNat : Int) != 0 then [39, 92, (jB c).1, 39] else [39, c, 39] := by
 by_cases h1 : c = 10
 ·subst h1; rfl
 by_cases h2 : c = 9
 ·subst h2; rfl
 by_cases h3 : c = 13
 ·subst h3; rfl
 by_cases h4 : c = 92
 ·subst h4; rfl
 by_cases h5 : c = 39
 ·subst h5; rfl
 have hq : jB c = (0, decide (32 ≤ c.toNat) && decide (c.toNat ≤ 126)) := by
  unfold jB; rw [if_neg h1, if_neg h2, if_neg h3, if_neg h4, if_neg h5]
 have e4 : ((c.toNat : Int) == 92) = false := zCH (x := 92) h4; have e5 : ((c.toNat : Int) == 39) = false := zCH (x := 39) h5
 have hp : Sp.jI c = (decide (32 ≤ c.toNat) && decide (c.toNat ≤ 126)) := by
  unfold Sp.jI; rw [e4, e5]; simp
 unfold Sp.yC; rw [if_neg h1, if_neg h2, if_neg h3, if_neg h4, if_neg h5, hq, hp]; cases decide (32 ≤ c.toNat) && decide (c.toNat ≤ 126) <;> rfl

set_option maxHeartbeats 800000 in
theorem ref_Quote (c : UInt8) (w : World) :
  Calls Tryz.prog 36 #[.int .u8 (c.toNat : Int)] w fun e w' => e = .returned (.string ⟨(Sp.yC c).toArray⟩) ∧ Below w.heap.size w w' := by
 have hN := zBI c; have HQ := zh (fun W => ref_Quoted c W); generalize Sp.yC c = N at hN; generalize jB c = q at hN HQ; obtain ⟨d, b⟩ := q; simp only at hN HQ
 cases b with
 | false =>
  rw [if_pos rfl] at hN; subst hN; go_enter Tryz.func36, Tryz.ntmps36
  go_wp2_with (go_at_call 56; refine (HQ.out _).mono ?_; rintro e w' ⟨rfl, rfl⟩)
  go_ret; exact ⟨rfl, Below.refl _ _⟩
 | true =>
  rw [if_neg (by decide)] at hN
  cases hd : ((d.toNat : Int) != 0) with
  | true =>
   rw [hd, if_pos rfl] at hN; have HN := zh hN; have hcv := qH w d; clear hN; go_enter Tryz.func36, Tryz.ntmps36
   go_wp2_with (go_at_call 56; refine (HQ.out _).mono ?_; rintro e w' ⟨rfl, rfl⟩)
   go_ret; exact ⟨by rw [HN.out]; rfl, (Below.refl _ _).alloc (Nat.le_refl _) _⟩
  | false =>
   rw [hd, if_neg (by decide)] at hN; have HN := zh hN; have hcv := qH w c; clear hN; go_enter Tryz.func36, Tryz.ntmps36
   go_wp2_with (go_at_call 56; refine (HQ.out _).mono ?_; rintro e w' ⟨rfl, rfl⟩)
   go_ret; exact ⟨by rw [HN.out]; rfl, (Below.refl _ _).alloc (Nat.le_refl _) _⟩
def vQ (r : List UInt8) (k : Nat) : Prop := ∀ c : UInt8, c.toNat < k → ¬ (Sp.yC c ≠ [] ∧ Lib.hasPrefix r (Sp.yC c) = true)
theorem vQ.start (r : List UInt8) : vQ r 9 := by
 intro c hc h; have := Sp.zCP c h.1; omega
theorem vQ.step {r : List UInt8} {k : Nat} (h : vQ r k) (hk : k < 256) (h' : ¬ (Sp.yC (UInt8.ofNat k) ≠ [] ∧ Lib.hasPrefix r (Sp.yC (UInt8.ofNat k)) = true)) : vQ r (k + 1) := by
 intro c hc; rcases Nat.lt_or_ge c.toNat k with h1 | h1
 ·exact h c h1
 ·have : c = UInt8.ofNat k := by
   apply UInt8.toNat_inj.1
   rw [UInt8.toNat_ofNat_of_lt' (by have : UInt8.size = 256 := rfl; omega)]; omega
  rw [this]; exact h'
theorem vQ.out {r : List UInt8} {k : Nat} (h : vQ r k) (hk : 127 ≤ k) : Sp.zDH r = none := by
 cases hc : Sp.zDH r with
 | none => rfl
 | some p =>
  obtain ⟨c, n⟩ := p; obtain ⟨h1, h2, _⟩ := Sp.charTake_some r c n hc; have := Sp.zCP c h1; exact absurd ⟨h1, h2⟩ (h c (by omega))

set_option maxHeartbeats 400000 in
theorem ref_Name (s : ByteArray) (w : World) (hs : s.size < 4294967281) :
  Calls Tryz.prog 49 #[.string s] w fun e w' => e = .returned (.bool (Sp.xI s.data.toList)) ∧ w = w' := by
 have hl : s.data.toList.length = s.size := by simp
 generalize hN : Sp.xI s.data.toList = N; unfold Sp.xI at hN
 have he : s.data.toList.isEmpty = decide (s.size = 0) := by
  rw [Bool.eq_iff_iff, List.isEmpty_iff, decide_eq_true_eq, ← hl]; exact ⟨fun h => by rw [h]; rfl, List.eq_nil_of_length_eq_zero⟩
 rw [hl, he] at hN; have HN := zh hN; clear hN hl he; have HR := zh (ref_NameAt s 0 w hs (Nat.zero_le _)); simp only [List.drop_zero] at HR; generalize Sp.yL true s.data.toList = r at *
 go_enter Tryz.func49, Tryz.ntmps49
 go_wp2_with (go_at_call 70; refine (HR.out).mono ?_; rintro e w' ⟨rfl, rfl⟩)
 all_goals (go_ret; have hN := HN.out; clear HN HR)
 all_goals exact ⟨zK (by rw [← hN, Bool.eq_iff_iff]; simp only [Bool.and_eq_true, Bool.not_eq_true', decide_eq_true_eq, decide_eq_false_iff_not, beq_iff_eq, Bool.false_eq_true]; first | omega | (rw [false_iff]; omega)), rfl⟩


def cutTo (s : ByteArray) (k : Nat) : ByteArray := if k < s.size then s.extract 0 k else s
set_option maxHeartbeats 400000 in
theorem law_Text (s : ByteArray) (k : Nat) (w : World) :
  Calls Tryz.prog 19 #[.string s, .int .i64 k] w fun e w' => e = .returned (.string (cutTo s k)) ∧ w = w' := by
 generalize hN : cutTo s k = N; unfold cutTo at hN; by_cases h : k < s.size
 ·rw [if_pos h] at hN
  have HN := zh hN; clear hN; go_enter Tryz.func19, Tryz.ntmps19
  go_wp2
  go_ret; exact ⟨by rw [← HN.out]; rfl, rfl⟩
 ·rw [if_neg h] at hN
  have HN := zh hN; clear hN; go_enter Tryz.func19, Tryz.ntmps19
  go_wp2
  go_ret; exact ⟨by rw [← HN.out]; rfl, rfl⟩

theorem j1 {α : Type} (size : Nat) : ∀ (xs : List (List α)), (∀ x ∈ xs, x.length = size) → ∀ i r, xs[i]? = some r → ∀ j u, r[j]? = some u → xs.flatten[i * size + j]? = some u
 | [], _, i, r, h, _, _, _ => by simp at h
 | x :: xs, hx, 0, r, h, j, u, hu => by
  simp at h; subst h; rw [List.flatten_cons, Nat.zero_mul, Nat.zero_add, List.getElem?_append_left (List.getElem?_eq_some_iff.1 hu).1]; exact hu
 | x :: xs, hx, i + 1, r, h, j, u, hu => by
  have hl := hx x (by simp); rw [List.flatten_cons, List.getElem?_append_right (by rw [hl, Nat.succ_mul]; omega), hl, show (i + 1) * size + j - size = i * size + j by rw [Nat.succ_mul]; omega]; exact j1 size xs (fun y hy => hx y (by simp [hy])) i r (by simpa using h) j u hu
theorem qS {w : World} {base : Nat} {e : TypeId} {v : Value} {size n : Nat} (xs : List (List Value)) (hx : ∀ x ∈ xs, x.length = size) (hn : n = xs.length) (h : w.ownsRow base e size v n xs.flatten) : SlAt w v size xs := by
 subst hn; rcases h.2 with ⟨rfl, h0⟩ | ⟨g, cap, cur, rfl, hb, hg, _⟩
 ·left
  obtain rfl := List.eq_nil_of_length_eq_zero h0; exact ⟨rfl, none, 0, rfl⟩
 ·right
  refine ⟨g, 0, cap, rfl, zC hg, fun i r hr j u hu => ?_⟩; have := h.cells (g := g) rfl _ u (j1 size xs hx i r hr j u hu); rw [show (⟨g, 0 + i * size + j, none⟩ : Addr) = (⟨g, 0, none⟩ : Addr).add (i * size + j) by unfold Addr.add; split <;> simp_all]; exact this

theorem SlAt.at {w : World} {a : Option Addr} {n cap size : Nat} {rows : List (List Value)} (h : SlAt w (.slice a n cap) size rows) {k : Nat} {row : List Value} (hr : rows[k]? = Option.some row) :
  ∃ b off, a = Option.some ⟨b, off, none⟩ ∧ b < w.heap.size ∧ ∀ w', Below w.heap.size w w' → ∀ j u, row[j]? = Option.some u → w'.cell? ⟨b, off + k * size + j, none⟩ = Option.some u := by
 rcases h with ⟨hx, _⟩ | ⟨b, off, cap', hv, hlt, hc⟩
 ·subst hx; simp at hr
 ·simp only [Value.slice.injEq] at hv
  exact ⟨b, off, hv.1, hlt, fun w' hb j u hu => (hb.cell (p := ⟨b, _, none⟩) hlt).trans (hc k row hr j u hu)⟩
theorem zT {W w' : World} {o : Obj} (h : Below (W.heap.size + 1) (W.alloc o) w') : Below W.heap.size W w' := ((Below.refl _ W).alloc (Nat.le_refl _) o).trans (h.mono (by omega))
theorem zI {B : Nat} {w w' : World} (h : Below B w.drew w') : Below B w w' := ⟨h.os, h.tape, h.output, h.size, h.block⟩

def KpT (T : TypeId → Prop) (w w' : World) : Prop := ∀ (b : Nat) (cs : Array Value) (t : TypeId) (fr : Nat × Nat), w.heap[b]? = some (.cells cs t fr) → T t → w'.heap[b]? = some (.cells cs t fr)
theorem KpT.trans {T : TypeId → Prop} {a b c : World} (h : KpT T a b) (k : KpT T b c) : KpT T a c := fun i cs t fr hb ht => k i cs t fr (h i cs t fr hb ht) ht
theorem KpT.mono {S T : TypeId → Prop} {a b : World} (h : KpT S a b) (hs : ∀ t, T t → S t) : KpT T a b := fun i cs t fr hb ht => h i cs t fr hb (hs t ht)
theorem KpT.below {T : TypeId → Prop} {w w' : World} (h : Below w.heap.size w w') : KpT T w w' := fun b _ _ _ hb _ => (h.block b (zC hb)).trans hb
theorem KpT.alloc {T : TypeId → Prop} {a w : World} (h : KpT T a w) (o : Obj) : KpT T a (w.alloc o) := h.trans (KpT.below ((Below.refl _ w).alloc (Nat.le_refl _) o))
theorem KpT.setCell {T : TypeId → Prop} {a w : World} (h : KpT T a w) {b i : Nat} {cs : Array Value} {t : TypeId} {fr : Nat × Nat} (hb : w.heap[b]? = some (.cells cs t fr)) (ht : ¬ T t) (u : Value) : KpT T a (w.setCell ⟨b, i, none⟩ u) := by
 refine h.trans fun c cs' t' fr' hc ht' => ?_
 rw [Below.heap_setCell _ _ _ _ (fun e => ?_)]
 ·exact hc
 ·have e' : c = b := by simpa using e
  subst e'; rw [hb] at hc; simp only [Option.some.injEq, Obj.cells.injEq] at hc; exact ht (hc.2.1 ▸ ht')
theorem KpT.grown {w w' : World} {base : Nat} {e : TypeId} {size : Nat} {v : Value} {n : Nat} {xs : List Value} (h : w.ownsRow base e size v n xs) (hg : w.grownBy w' v.ownBlock) : KpT (· ≠ e) w w' := by
 intro b cs t fr hb ht; rw [hg.block b (zC hb) (fun hk => ?_)]
 ·exact hb
 ·exact qY h hb ht b hk.symm rfl
theorem zD {T : TypeId → Prop} {w w' : World} {base : Nat} {e : TypeId} {size : Nat} {v : Value} {n : Nat} {xs : List Value} (h : w.ownsRow base e size v n xs) (k : KpT T w w') (ht : T e) : w'.ownsRow base e size v n xs := by
 refine ⟨h.1, ?_⟩; rcases h.2 with hn | ⟨g, cap, cur, rfl, hb, hgg, rest⟩
 ·exact .inl hn
 ·exact .inr ⟨g, cap, cur, rfl, hb, k g _ _ _ hgg ht, rest⟩

def OwnR {α : Type} (row : Value → α → List Value) (e : TypeId) (size : Nat) (child : World → Value → α → Prop) (B : Nat) (w : World) (v : Value) (l : List α) : Prop :=
 ∃ f : Nat → Value, w.ownsRow B e size v l.length (l.mapIdx fun i a => row (f i) a).flatten ∧ ∀ (i : Nat) (a : α), l[i]? = some a → child w (f i) a
section
variable {α : Type} {row : Value → α → List Value} {e : TypeId} {size : Nat} {child : World → Value → α → Prop} {B : Nat} {w w' : World} {v : Value} {l : List α}
theorem OwnR.nil (row : Value → α → List Value) (e : TypeId) (size : Nat) (child : World → Value → α → Prop) (B : Nat) (w : World) : OwnR row e size child B w (.slice none 0 0) [] :=
 ⟨fun _ => .bool false, World.ownsRow_nil _ _ _ _, by simp⟩
theorem OwnR.kp {T : TypeId → Prop} (h : OwnR row e size child B w v l) (k : KpT T w w') (ht : T e) (hc : ∀ u a, child w u a → child w' u a) : OwnR row e size child B w' v l := by
 obtain ⟨f, h1, h2⟩ := h; exact ⟨f, zD h1 k ht, fun i a ha => hc _ _ (h2 i a ha)⟩
theorem zDA {β : Type} (g : Nat → α → β) (l : List α) (a : α) : (l ++ [a]).mapIdx g = l.mapIdx g ++ [g l.length a] := by
 rw [List.mapIdx_append]; simp
theorem OwnR.snoc {u v' : Value} {a : α} {f : Nat → Value} (h2 : ∀ (i : Nat) (a : α), l[i]? = some a → child w (f i) a)
  (hn : w'.ownsRow B e size v' (l.length + 1) ((l.mapIdx fun i a => row (f i) a).flatten ++ row u a)) (hc : ∀ u a, child w u a → child w' u a) (hu : child w' u a) : OwnR row e size child B w' v' (l ++ [a]) := by
 refine ⟨fun i => if i < l.length then f i else u, ?_, fun i b hb => ?_⟩
 ·have e1 : ((l ++ [a]).mapIdx fun i a => row (if i < l.length then f i else u) a).flatten = (l.mapIdx fun i a => row (f i) a).flatten ++ row u a := by
   rw [zDA, List.flatten_append]
   have e2 : (l.mapIdx fun i a => row (if i < l.length then f i else u) a) = l.mapIdx fun i a => row (f i) a := by
    apply List.ext_getElem?
    intro i; rw [List.getElem?_mapIdx, List.getElem?_mapIdx]
    cases hi : l[i]? with
    | none => rfl
    | some b =>
     have := (List.getElem?_eq_some_iff.1 hi).1; simp [this]
   rw [e2]; simp
  rw [e1, List.length_append]; exact hn
 ·rw [List.getElem?_append] at hb
  by_cases hi : i < l.length
  ·rw [if_pos hi] at hb
   simp only [if_pos hi]; exact hc _ _ (h2 i b hb)
  ·rw [if_neg hi] at hb
   simp only [if_neg hi]
   have : i - l.length = 0 := by
    have := (List.getElem?_eq_some_iff.1 hb).1; simp at this; omega
   rw [this] at hb; cases hb
   exact hu
theorem OwnR.slAt (h : OwnR row e size child B w v l) (hr : ∀ u a, (row u a).length = size) : ∃ f : Nat → Value, SlAt w v size (l.mapIdx fun i a => row (f i) a) ∧ ∀ (i : Nat) (a : α), l[i]? = some a → child w (f i) a := by
 obtain ⟨f, h1, h2⟩ := h; refine ⟨f, qS _ (fun r hrr => ?_) (by rw [List.length_mapIdx]) h1, h2⟩; obtain ⟨i, hi⟩ := List.mem_iff_getElem?.1 hrr; rw [List.getElem?_mapIdx] at hi; obtain ⟨b, _, rfl⟩ := Option.map_eq_some_iff.1 hi; exact hr _ _
end

namespace Sp
open Go.Lib (index indexByte hasPrefix)

def xY (x : Sym) (num lit : Bool) : Bool :=
 if x.lit = true then lit && decide (x.name.length = 1) && (x.num == 0) && kD x.name
 else xI x.name && ((x.num == 0) || (num && decide (1 ≤ x.num) && decide (x.num ≤ 50000)))
theorem quotable_len {l : List UInt8} (h : kD l = true) : l.length = 1 := by
 rcases l with _ | ⟨c, _ | ⟨d, l⟩⟩ <;> simp [kD] at h ⊢
theorem refSym_bare (s : Sym) : xY s false true = kW s := by
 unfold xY kW kE; cases hl : s.lit
 ·simp
 ·cases hq : kD s.name
  ·simp
  ·have := quotable_len hq
   simp [this]
theorem refSym_may (k : Int) (s : Sym) : xY s (k == 1) (decide (k < 5)) = yH k s := by
 unfold xY yH kE; cases hl : s.lit
 ·simp only [Bool.false_eq_true, if_false, false_and, or_false, false_or]
  cases hn : xI s.name
  ·simp
  ·by_cases h0 : s.num = 0
   ·simp [h0]
   ·by_cases h1 : k = 1
    ·subst h1
     by_cases h2 : s.num < 1
     ·have : ¬ 1 ≤ s.num := by omega
      simp [h0, h2, this]
     ·by_cases h3 : 50000 < s.num
      ·have : ¬ s.num ≤ 50000 := by omega
       simp [h0, h2, h3, this]
      ·have a1 : 1 ≤ s.num := by omega
       have a2 : s.num ≤ 50000 := by omega
       simp [h0, h2, h3, a1, a2]
    ·simp [h0, h1]
 ·simp only [if_true, true_and]
  cases hq : kD s.name
  ·simp
  ·have := quotable_len hq
   by_cases h5 : k < 5
   ·have : ¬ 5 ≤ k := by omega
    by_cases h0 : s.num = 0 <;> simp_all
   ·have : 5 ≤ k := by omega
    simp_all
    intro h; omega
def badHead (d : Decl) : Bool :=
 decide (d.kind < 1) || decide (6 < d.kind) || decide (d.syms.length = 0) || (decide (d.kind = 6) && (decide (d.syms.length ≠ 1) || decide (d.tag ≠ []))) || (decide (d.kind = 5) && decide (d.tag = [])) || (decide (d.tag ≠ []) && !xI d.tag)
theorem mayDecl_ref (d : Decl) : yF d = (!badHead d && d.syms.all fun s => xY s (d.kind == 1) (decide (d.kind < 5))) := by
 have e : (d.syms.all fun s => xY s (d.kind == 1) (decide (d.kind < 5))) = d.syms.all (yH d.kind) := by
  congr 1; funext s; exact refSym_may d.kind s
 rw [e]; unfold yF badHead; generalize d.syms.all (yH d.kind) = A; have hnil : xI [] = false := by decide
 by_cases h1 : d.kind < 1
 ·simp [h1]
 by_cases h2 : 6 < d.kind
 ·simp [h2]
 by_cases h3 : d.syms.length = 0
 ·simp [h3]
 by_cases h6 : d.kind = 6
 ·by_cases h7 : d.tag = []
  ·by_cases h8 : d.syms.length = 1
   ·simp [h6, h7, h8]
   ·simp [h3, h6, h7, h8]
  ·simp [h3, h6, h7]
 ·by_cases h5 : d.kind = 5
  ·by_cases h7 : d.tag = []
   ·simp [h3, h5, h7, hnil]
   ·cases hn : xI d.tag <;> simp [h3, h5, h7]
  ·by_cases h7 : d.tag = []
   ·simp [h1, h2, h3, h5, h6, h7]
   ·cases hn : xI d.tag <;> simp [h1, h2, h3, h5, h6, h7]
theorem mayPart_ref (p : Part) : xH p = !((decide (p.code = []) && !xY p.sym false true) || (decide (p.code ≠ []) && (!isNone p.sym || decide (zAG p.code 0 ≠ (p.code.length : Int))))) := by
 unfold xH; rw [refSym_bare]; by_cases h : p.code = []
 ·simp [h]
 ·simp [h]
theorem mayAlt_ref (a : Alt) : qZ a = (a.parts.all xH && (isNone a.prec || xY a.prec false true)) := by
 unfold qZ; rw [refSym_bare, Bool.and_comm]
theorem index_two (c d : UInt8) (l : List UInt8) (x y : UInt8) : decide (0 ≤ index (c :: d :: l) [x, y]) = ((c == x && d == y) || decide (0 ≤ index (d :: l) [x, y])) := by
 rw [index_cons]; have := Go.Lib.index_ge (d :: l) [x, y]; have hp : ([x, y].isPrefixOf (c :: d :: l)) = (x == c && y == d) := by simp [List.isPrefixOf]
 rw [hp]; have e1 : (x == c) = (c == x) := by rw [Bool.eq_iff_iff]; simp; exact eq_comm
 have e2 : (y == d) = (d == y) := by rw [Bool.eq_iff_iff]; simp; exact eq_comm
 rw [e1, e2]; cases h : (c == x && d == y)
 ·simp only [Bool.false_eq_true, if_false, Bool.false_or]
  by_cases h2 : index (d :: l) [x, y] = -1
  ·simp [h2]
  ·rw [if_neg h2]
   have a1 : 0 ≤ index (d :: l) [x, y] := by omega
   have a2 : 0 ≤ index (d :: l) [x, y] + 1 := by omega
   simp [a1, a2]
 ·simp
theorem index_short (l : List UInt8) (x y : UInt8) (h : l.length ≤ 1) : decide (0 ≤ index l [x, y]) = false := by
 rcases l with _ | ⟨c, _ | ⟨d, l⟩⟩
 ·simp [index]
 ·rw [index_cons]
  simp [index, List.isPrefixOf]
 ·simp at h
end Sp
open Go.RowKit

set_option maxHeartbeats 800000 in
theorem ref7_none (s : Sp.Sym) (W : World) :
  Calls Tryz.prog 71 #[symV s] W fun e w' => e = .returned (.bool (Sp.isNone s)) ∧ Below W.heap.size W w' := by
 obtain ⟨nm, lt, nu, pa⟩ := s; have HB := zh (fun o : Obj => (Below.refl _ W).alloc (Nat.le_refl _) o); have hq : Sp.isNone ⟨nm, lt, nu, pa⟩ = (nm.isEmpty && !lt && (nu == 0)) := rfl; rw [hq]; clear hq; show Calls _ _ #[.agg #[.string ⟨nm.toArray⟩, .bool lt, .int .i64 nu, .int .i64 pa]] _ _
 cases nm with
 | cons c t =>
  go_enter Tryz.func71, Tryz.ntmps71
  go_wp2_with fail; go_ret; exact ⟨rfl, HB.out _⟩
 | nil =>
  cases lt with
  | true =>
   go_enter Tryz.func71, Tryz.ntmps71
   go_wp2_with fail; go_ret; exact ⟨rfl, HB.out _⟩
  | false =>
   go_enter Tryz.func71, Tryz.ntmps71
   go_wp2_with fail; go_ret; exact ⟨zK (by simp), HB.out _⟩

set_option maxHeartbeats 1600000 in
theorem gD (s : Sp.Sym) (num lit : Bool) (W : World) (hs : s.name.length ≤ 4000) :
  Calls Tryz.prog 69 #[symV s, .bool num, .bool lit] W fun e w' => e = .returned (.bool (Sp.xY s num lit)) ∧ Below W.heap.size W w' := by
 obtain ⟨nm, lt, nu, pa⟩ := s; have HB := zh (fun o : Obj => (Below.refl _ W).alloc (Nat.le_refl _) o); show Calls _ _ #[.agg #[.string ⟨nm.toArray⟩, .bool lt, .int .i64 nu, .int .i64 pa], .bool num, .bool lit] _ _
 cases lt with
 | true =>
  have hq : Sp.xY ⟨nm, true, nu, pa⟩ num lit = (lit && decide (nm.length = 1) && (nu == 0) && Sp.kD nm) := rfl; rw [hq]; clear hq hs
  cases lit with
  | false =>
   go_enter Tryz.func69, Tryz.ntmps69
   go_wp2_with fail; go_ret; exact ⟨rfl, HB.out _⟩
  | true =>
   rcases nm with _ | ⟨c, _ | ⟨d, u⟩⟩
   ·go_enter Tryz.func69, Tryz.ntmps69
    go_wp2_with fail; go_ret; exact ⟨rfl, HB.out _⟩
   ·by_cases hn : nu = 0
    ·subst hn
     have HQ := zh (fun w => ref_Quoted c w)
     have hq : (jB c).2 = Sp.kD [c] := by
      show _ = !(Sp.yC c).isEmpty
      rw [zBI]; cases (jB c).2 <;> simp
      split <;> simp
     have e : (decide ([c].length = 1) && ((0 : Int) == 0) && Sp.kD [c]) = (jB c).2 := by rw [hq]; simp
     generalize jB c = R at HQ hq e; obtain ⟨r1, r2⟩ := R; go_enter Tryz.func69, Tryz.ntmps69
     go_wp2_with (go_at_call 56; refine (HQ.out _).mono ?_; rintro e w' ⟨rfl, rfl⟩)
     go_ret; exact ⟨zK (by simp [hq]), HB.out _⟩
    ·have hnn : (nu != 0) = true := by rw [bne_iff_ne]; exact hn
     have hd : (nu == 0) = false := by rw [beq_eq_false_iff_ne]; exact hn
     rw [hd]; clear hd hn; go_enter Tryz.func69, Tryz.ntmps69
     go_wp2_with fail; go_ret; exact ⟨zK (by simp), HB.out _⟩
   ·have hsz : (((⟨(c :: d :: u).toArray⟩ : ByteArray).size : Int) != 1) = true := by rw [bne_iff_ne, Lib.size_eq]; simp; omega
    go_enter Tryz.func69, Tryz.ntmps69
    go_wp2_with fail; go_ret; exact ⟨zK (by simp), HB.out _⟩
 | false =>
  have hN := ref_Name ⟨nm.toArray⟩; have HN := zh (fun w => hN w (by rw [Lib.size_eq]; simp only at *; omega)); have hT : (⟨nm.toArray⟩ : ByteArray).data.toList = nm := rfl; rw [hT] at HN; have hq : Sp.xY ⟨nm, false, nu, pa⟩ num lit = (Sp.xI nm && ((nu == 0) || (num && decide (1 ≤ nu) && decide (nu ≤ 50000)))) := rfl; rw [hq]; generalize Sp.xI nm = q at HN; clear hq hN hT hs
  cases q with
  | false =>
   go_enter Tryz.func69, Tryz.ntmps69
   go_wp2_with (go_at_call 49; refine (HN.out _).mono ?_; rintro e w' ⟨rfl, rfl⟩)
   go_ret; exact ⟨rfl, HB.out _⟩
  | true =>
   by_cases h0 : nu = 0
   ·subst h0
    go_enter Tryz.func69, Tryz.ntmps69
    go_wp2_with (go_at_call 49; refine (HN.out _).mono ?_; rintro e w' ⟨rfl, rfl⟩)
    go_ret; exact ⟨rfl, HB.out _⟩
   ·have hz : (nu == 0) = false := by rw [beq_eq_false_iff_ne]; exact h0
    clear h0
    cases num with
    | false =>
     go_enter Tryz.func69, Tryz.ntmps69
     go_wp2_with (go_at_call 49; refine (HN.out _).mono ?_; rintro e w' ⟨rfl, rfl⟩)
     go_ret; exact ⟨zK (by simp [hz]), HB.out _⟩
    | true =>
     by_cases h1 : 1 ≤ nu
     ·go_enter Tryz.func69, Tryz.ntmps69
      go_wp2_with (go_at_call 49; refine (HN.out _).mono ?_; rintro e w' ⟨rfl, rfl⟩)
      go_ret; exact ⟨zK (by simp [hz, h1]), HB.out _⟩
     ·have h1' : decide (1 ≤ nu) = false := by simpa using h1
      go_enter Tryz.func69, Tryz.ntmps69
      go_wp2_with (go_at_call 49; refine (HN.out _).mono ?_; rintro e w' ⟨rfl, rfl⟩)
      go_ret; exact ⟨zK (by simp [hz, h1']), HB.out _⟩



theorem zJ {w : World} {base : Nat} {e : TypeId} {size : Nat} {v : Value} {n : Nat} {xs : List Value} (h : w.ownsRow base e size v n xs) : ∃ a cap, v = .slice a n cap := by
 rcases h.2 with ⟨rfl, rfl⟩ | ⟨g, cap, cur, rfl, _⟩
 ·exact ⟨_, _, rfl⟩
 ·exact ⟨_, _, rfl⟩


theorem info_symE : (Tryz.prog.info? 45).map (fun i => (i.zero, i.size, i.bytes)) = some (some (.agg #[.string ⟨#[]⟩, .bool false, .int .i64 0, .int .i64 0]), 4, 40) := by kernel_rfl
theorem info_declE : (Tryz.prog.info? 57).map (fun i => (i.zero, i.size, i.bytes)) = some (some (.agg #[.int .i64 0, .string ⟨#[]⟩, .slice none 0 0, .int .i64 0]), 4, 56) := by kernel_rfl
theorem zCB : (Tryz.prog.info? 47).map (fun i => (i.zero, i.size, i.bytes)) = some (some (.agg #[.string ⟨#[]⟩, .bool false, .int .i64 0, .int .i64 0, .string ⟨#[]⟩, .int .i64 0]), 6, 64) := by kernel_rfl
theorem zDP : (Tryz.prog.info? 60).map (fun i => (i.zero, i.size, i.bytes)) = some (some (.agg #[.slice none 0 0, .string ⟨#[]⟩, .bool false, .int .i64 0, .int .i64 0, .int .i64 0]), 6, 72) := by kernel_rfl
theorem info_ruleE : (Tryz.prog.info? 63).map (fun i => (i.zero, i.size, i.bytes)) = some (some (.agg #[.string ⟨#[]⟩, .slice none 0 0, .int .i64 0]), 3, 48) := by kernel_rfl
def symsOwn (w : World) (v : Value) (d : Sp.Decl) : Prop := ∃ base, w.ownsRow base 45 4 v d.syms.length (d.syms.map symC).flatten
def gZ (w : World) (v : Value) (a : Sp.Alt) : Prop := ∃ base, w.ownsRow base 47 6 v a.parts.length (a.parts.map z6).flatten
abbrev qK := OwnR xP 57 4 symsOwn
abbrev zCM := OwnR altC 60 6 gZ
def altsOwn (w : World) (v : Value) (r : Sp.Rule) : Prop := ∃ base, zCM base w v r.alts
abbrev jO := OwnR qT 63 3 altsOwn
theorem flat_snoc {α : Type} (f : α → List Value) (l : List α) (k : Nat) (a : α) (h : l[k]? = some a) (g : α → α) : (((l.take (k + 1)).map g).map f).flatten = (((l.take k).map g).map f).flatten ++ f (g a) := by
 rw [List.take_add_one, h]; simp
theorem decls_at {B : Nat} {w : World} {v : Value} {l : List Sp.Decl} (h : qK B w v l) : xD w v l := by
 obtain ⟨f, h1, h2⟩ := h.slAt (fun _ _ => rfl); refine ⟨f, h1, fun i d hd => ?_⟩; obtain ⟨base, ho⟩ := h2 i d hd; exact qS _ (fun r hr => by obtain ⟨s, _, rfl⟩ := List.mem_map.1 hr; rfl) (by rw [List.length_map]) ho
theorem alts_at {B : Nat} {w : World} {v : Value} {l : List Sp.Alt} (h : zCM B w v l) : j4 w v l := by
 obtain ⟨f, h1, h2⟩ := h.slAt (fun _ _ => rfl); refine ⟨f, h1, fun i d hd => ?_⟩; obtain ⟨base, ho⟩ := h2 i d hd; exact qS _ (fun r hr => by obtain ⟨s, _, rfl⟩ := List.mem_map.1 hr; rfl) (by rw [List.length_map]) ho
theorem rules_at {B : Nat} {w : World} {v : Value} {l : List Sp.Rule} (h : jO B w v l) : xA w v l := by
 obtain ⟨f, h1, h2⟩ := h.slAt (fun _ _ => rfl); refine ⟨f, h1, fun i d hd => ?_⟩; obtain ⟨base, ho⟩ := h2 i d hd; exact alts_at ho
theorem symsOwn_kp {T : TypeId → Prop} {w w' : World} (k : KpT T w w') (ht : T 45) (u : Value) (d : Sp.Decl) (h : symsOwn w u d) : symsOwn w' u d := by
 obtain ⟨b, h⟩ := h; exact ⟨b, zD h k ht⟩
theorem qF {T : TypeId → Prop} {w w' : World} (k : KpT T w w') (ht : T 47) (u : Value) (d : Sp.Alt) (h : gZ w u d) : gZ w' u d := by
 obtain ⟨b, h⟩ := h; exact ⟨b, zD h k ht⟩
theorem altsOwn_kp {T : TypeId → Prop} {w w' : World} (k : KpT T w w') (ht : T 47) (ht2 : T 60) (u : Value) (d : Sp.Rule) (h : altsOwn w u d) : altsOwn w' u d := by
 obtain ⟨b, h⟩ := h; exact ⟨b, h.kp k ht2 (qF k ht)⟩
theorem zBL {T : TypeId → Prop} {B : Nat} {w w' : World} {v : Value} {l : List Sp.Decl} (h : qK B w v l) (k : KpT T w w') (ht : T 45) (ht2 : T 57) : qK B w' v l := h.kp k ht2 (symsOwn_kp k ht)
theorem alts_kp {T : TypeId → Prop} {B : Nat} {w w' : World} {v : Value} {l : List Sp.Alt} (h : zCM B w v l) (k : KpT T w w') (ht : T 47) (ht2 : T 60) : zCM B w' v l := h.kp k ht2 (qF k ht)
theorem zCS {T : TypeId → Prop} {B : Nat} {w w' : World} {v : Value} {l : List Sp.Rule} (h : jO B w v l) (k : KpT T w w') (ht : T 47) (ht2 : T 60) (ht3 : T 63) : jO B w' v l := h.kp k ht3 (altsOwn_kp k ht ht2)
theorem slAt_block {w : World} {b : Nat} {e : TypeId} (rows : List (List Value)) (size : Nat) (hrows : ∀ r ∈ rows, r.length = size) (h : w.heap[b]? = some (.cells rows.flatten.toArray e (0, 0))) (hm : rows.length ≤ maxLen) : SlAt w (.slice (some ⟨b, 0, none⟩) rows.length rows.length) size rows := by
 have hl : rows.flatten.length = rows.length * size := by
  clear h hm
  induction rows with
  | nil => simp
  | cons r rows ih => rw [List.flatten_cons, List.length_append, ih (fun x hx => hrows x (by simp [hx])), hrows r (by simp), List.length_cons, Nat.succ_mul, Nat.add_comm]
 exact qS (base := 0) (e := e) rows hrows rfl ⟨hl, .inr ⟨b, rows.length, _, rfl, Nat.zero_le _, h, Nat.le_refl _, hm, by simpa using hl, by rw [List.toList_toArray]; exact List.take_of_length_le (by rw [hl]; exact Nat.le_refl _)⟩⟩
theorem decls_none (w : World) : xD w (.slice none 0 0) [] := ⟨fun _ => .nilFunc, .inl ⟨rfl, none, 0, rfl⟩, by simp⟩
theorem rules_none (w : World) : xA w (.slice none 0 0) [] := ⟨fun _ => .nilFunc, .inl ⟨rfl, none, 0, rfl⟩, by simp⟩
def vT (w : World) (v : Value) (xs : List Int) : Prop := SlAt w v 1 (xs.map fun x => [Value.int .i64 x])

open Go.RowKit

def smallR (r : Sp.Rule) : Prop := r.alts.length ≤ 4000 ∧ ∀ a ∈ r.alts, a.parts.length ≤ 4000
def smallD (d : Sp.Decl) : Prop := d.syms.length ≤ 4000
def smallSame (x : Sp.zM) : Prop := x.decls.length ≤ 4000 ∧ x.rules.length ≤ 4000 ∧ (∀ d ∈ x.decls, smallD d) ∧ ∀ r ∈ x.rules, smallR r
def tinySym (s : Sp.Sym) : Prop := s.name.length ≤ 60 ∧ i64ok s.num
def tinyPart (p : Sp.Part) : Prop := tinySym p.sym ∧ p.code.length ≤ 60
def tinyAlt (a : Sp.Alt) : Prop := a.parts.length ≤ 20 ∧ (∀ p ∈ a.parts, tinyPart p) ∧ tinySym a.prec
def tinyRule (r : Sp.Rule) : Prop := r.left.length ≤ 60 ∧ r.alts.length ≤ 20 ∧ ∀ a ∈ r.alts, tinyAlt a
def tinyDecl (d : Sp.Decl) : Prop := d.tag.length ≤ 60 ∧ d.syms.length ≤ 20 ∧ ∀ s ∈ d.syms, tinySym s
def tinySrc (x : Sp.zM) : Prop := x.pro.length ≤ 60 ∧ x.tail.length ≤ 60 ∧ x.decls.length ≤ 20 ∧ x.rules.length ≤ 20 ∧ (∀ d ∈ x.decls, tinyDecl d) ∧ ∀ r ∈ x.rules, tinyRule r
theorem tiny_small {x : Sp.zM} (h : tinySrc x) : xN x ∧ smallSame x := by
 obtain ⟨h1, h2, h3, h4, h5, h6⟩ := h; refine ⟨⟨by omega, by omega, by omega, by omega, fun d hd => ?_, fun r hr => ?_⟩, by omega, by omega, fun d hd => ?_, fun r hr => ?_⟩
 ·obtain ⟨a, b, c⟩ := h5 d hd
  exact ⟨by omega, by omega, fun s hs => by have := (c s hs).1; unfold smallSym; omega⟩
 ·obtain ⟨a, b, c⟩ := h6 r hr
  refine ⟨by omega, by omega, fun al ha => ?_⟩; obtain ⟨p, q, s⟩ := c al ha; exact ⟨by omega, fun pt hp => ⟨by have := (q pt hp).1.1; omega, by have := (q pt hp).2; omega⟩, by have := s.1; omega⟩
 ·obtain ⟨a, b, c⟩ := h5 d hd
  unfold smallD; omega
 ·obtain ⟨a, b, c⟩ := h6 r hr
  exact ⟨by omega, fun al ha => by have := (c al ha).1; omega⟩
theorem quotable_ne {l : List UInt8} (h : Sp.kD l = true) : l ≠ [] := by rintro rfl; simp [Sp.kD] at h
theorem isSym_lit {s : Sp.Sym} (h : Sp.kE s = true) : s.lit = true → s.name ≠ [] := by
 intro hl; unfold Sp.kE at h; rw [if_pos hl] at h; exact quotable_ne h
structure CutN where
 decls : Nat
 syms : Nat
 rules : Nat
 alts : Nat
 parts : Nat
 code : Nat
def jN (s : Sp.Sym) : Sp.Sym := ⟨s.name.take 25, s.lit, s.num, s.at_⟩
def jF (c : CutN) (d : Sp.Decl) : Sp.Decl := ⟨d.kind, d.tag.take 25, (d.syms.take c.syms).map jN, d.at_⟩
def jT (c : CutN) (p : Sp.Part) : Sp.Part := ⟨jN p.sym, p.code.take c.code, p.at_⟩
def kX (c : CutN) (a : Sp.Alt) : Sp.Alt := ⟨(a.parts.take c.parts).map (jT c), jN a.prec, a.at_⟩
def qN (c : CutN) (r : Sp.Rule) : Sp.Rule := ⟨r.left.take 25, (r.alts.take c.alts).map (kX c), r.at_⟩
def xW (c : CutN) (x : Sp.zM) : Sp.zM := ⟨x.pro.take 40, (x.decls.take c.decls).map (jF c), (x.rules.take c.rules).map (qN c), x.tail.take 40⟩
theorem zDG {s : Sp.Sym} (h : bigSym s) : tinySym (jN s) := ⟨by simp [jN]; omega, h.2.1⟩
theorem cut_tiny (c : CutN) (hc : c.decls ≤ 20 ∧ c.syms ≤ 20 ∧ c.rules ≤ 20 ∧ c.alts ≤ 20 ∧ c.parts ≤ 20 ∧ c.code ≤ 60) {x : Sp.zM} (h : bigSrc x) : tinySrc (xW c x) := by
 obtain ⟨c1, c2, c3, c4, c5, c6⟩ := hc; obtain ⟨h1, h2, h3, h4, h5, h6⟩ := h; refine ⟨by simp [xW]; omega, by simp [xW]; omega, by simp [xW]; omega, by simp [xW]; omega, fun d hd => ?_, fun r hr => ?_⟩
 ·simp only [xW, List.mem_map] at hd
  obtain ⟨d, hd, rfl⟩ := hd; obtain ⟨k1, k2, k3, k4, k5⟩ := h3 d (List.mem_of_mem_take hd); refine ⟨by simp [jF]; omega, by simp [jF]; omega, fun s hs => ?_⟩; simp only [jF, List.mem_map] at hs; obtain ⟨s, hs, rfl⟩ := hs; exact zDG (k4 s (List.mem_of_mem_take hs))
 ·simp only [xW, List.mem_map] at hr
  obtain ⟨r, hr, rfl⟩ := hr; obtain ⟨k1, k2, k3, k4⟩ := h5 r (List.mem_of_mem_take hr); refine ⟨by simp [qN]; omega, by simp [qN]; omega, fun a ha => ?_⟩; simp only [qN, List.mem_map] at ha; obtain ⟨a, ha, rfl⟩ := ha; obtain ⟨m1, m2, m3, m4⟩ := k3 a (List.mem_of_mem_take ha); refine ⟨by simp [kX]; omega, fun p hp => ?_, zDG m3⟩; simp only [kX, List.mem_map] at hp; obtain ⟨p, hp, rfl⟩ := hp; exact ⟨zDG (m2 p (List.mem_of_mem_take hp)).1, by simp [jT]; omega⟩
end Go.Proofs.YtddnomjfcbplpaaGreatDoor
