import Derived.Test.YtddnomjfcbplpaaGreatDoorZ09
namespace Go.Proofs.YtddnomjfcbplpaaGreatDoor
open Go.RowKit

theorem zAO (i : Int) (n : Nat) (w : World) (hn : 0 < n) (hb : n ≤ 60000) (hi : (Lit.int .i64 i).wf = true) :
  Calls Tryz.prog 21 #[.int .i64 i, .int .i64 n] w fun e w' => e = .returned (.int .i64 (i % (n : Int))) ∧ w = w' := by
 have h1 := Int.tmod_lt_of_pos i (b := (n : Int)) (by omega)
 have h2 : -(n : Int) < i.tmod n := by
  by_cases hi : 0 ≤ i
  ·have := Int.tmod_nonneg (n : Int) hi; omega
  ·have := Int.tmod_lt_of_pos (-i) (b := (n : Int)) (by omega)
   rw [Int.neg_tmod] at this; omega
 have h3 : i % (n : Int) = if i.tmod n < 0 then i.tmod n + n else i.tmod n := by
  have e1 := Int.mul_tdiv_add_tmod i n; split
  ·refine Int.emod_eq_of_lt (a := i.tmod n + n) (b := (n : Int)) (by omega) (by omega) ▸ ?_
   conv => lhs; rw [← e1]
   rw [Int.mul_add_emod_self_left, Int.add_emod_right]
  ·refine Int.emod_eq_of_lt (a := i.tmod n) (b := (n : Int)) (by omega) (by omega) ▸ ?_
   conv => lhs; rw [← e1]
   rw [Int.mul_add_emod_self_left]
 generalize i % (n : Int) = N at *
 have HN := zh h3; clear h3; go_enter Tryz.func21, Tryz.ntmps21
 go_wp2
 all_goals (go_ret; have h3 := HN.out; refine ⟨zW ?_, rfl⟩)
 ·rw [if_pos (by omega)] at h3
  rw [h3]
 ·rw [if_neg (by omega)] at h3
  rw [h3]

theorem made_non (k : Int) (w : World) (h0 : 0 ≤ k) (h : k < 5) :
  Calls Tryz.prog 23 #[.int .i64 k] w fun e w' => e = .returned (.string ⟨(Sp.nonN k).toArray⟩) ∧ Below w.heap.size w w' := by
 have : k = 0 ∨ k = 1 ∨ k = 2 ∨ k = 3 ∨ k = 4 := by omega
 rcases this with rfl | rfl | rfl | rfl | rfl
 ·have hcv := qH w 97
  simp only [show ((97 : UInt8).toNat : Int) = 97 from rfl] at hcv; go_enter Tryz.func23, Tryz.ntmps23
  go_wp2_with fail; go_ret; exact ⟨rfl, (Below.refl _ w).alloc (Nat.le_refl _) _⟩
 ·have hcv := qH w 98
  simp only [show ((98 : UInt8).toNat : Int) = 98 from rfl] at hcv; go_enter Tryz.func23, Tryz.ntmps23
  go_wp2_with fail; go_ret; exact ⟨rfl, (Below.refl _ w).alloc (Nat.le_refl _) _⟩
 ·have hcv := qH w 99
  simp only [show ((99 : UInt8).toNat : Int) = 99 from rfl] at hcv; go_enter Tryz.func23, Tryz.ntmps23
  go_wp2_with fail; go_ret; exact ⟨rfl, (Below.refl _ w).alloc (Nat.le_refl _) _⟩
 ·have hcv := qH w 100
  simp only [show ((100 : UInt8).toNat : Int) = 100 from rfl] at hcv; go_enter Tryz.func23, Tryz.ntmps23
  go_wp2_with fail; go_ret; exact ⟨rfl, (Below.refl _ w).alloc (Nat.le_refl _) _⟩
 ·have hcv := qH w 101
  simp only [show ((101 : UInt8).toNat : Int) = 101 from rfl] at hcv; go_enter Tryz.func23, Tryz.ntmps23
  go_wp2_with fail; go_ret; exact ⟨rfl, (Below.refl _ w).alloc (Nat.le_refl _) _⟩
theorem made_Letters (w : World) : Calls Tryz.prog 47 #[] w fun e w' => e = .returned (.string ⟨#[112, 113, 114, 115]⟩) ∧ w = w' := by
 go_enter Tryz.func47, Tryz.ntmps47
 go_wp2_with fail; go_ret; exact ⟨rfl, rfl⟩
set_option maxHeartbeats 1600000 in
theorem made_lit (k : Int) (w : World) (h0 : 0 ≤ k) (h : k < 9) :
  Calls Tryz.prog 25 #[.int .i64 k] w fun e w' => e = .returned (symV (Sp.litS k)) ∧ Below w.heap.size w w' := by
 have : k = 0 ∨ k = 1 ∨ k = 2 ∨ k = 3 ∨ k = 4 ∨ k = 5 ∨ k = 6 ∨ k = 7 ∨ k = 8 := by omega
 rcases this with rfl | rfl | rfl | rfl | rfl | rfl | rfl | rfl | rfl
 all_goals
  have HL := zh (fun w => made_Letters w); go_enter Tryz.func25, Tryz.ntmps25
  go_wp2_with (go_at_call 47; refine (HL.out _).mono ?_; rintro e w' ⟨rfl, rfl⟩)
  exact jH (g := w.heap.size) (t := 45) (fr := (0, 0)) rfl rfl (zE w _) rfl Tryz.underlying45 (by kernel_rfl) rfl ⟨by first | rfl | decide | kernel_rfl, (Below.refl _ w).alloc (Nat.le_refl _) _⟩
set_option maxHeartbeats 1600000 in
theorem made_sym (x : Int) (n : Nat) (w : World) (hn : 1 ≤ n) (hn4 : n ≤ 4) (hx : (Lit.int .i64 x).wf = true) :
  Calls Tryz.prog 24 #[.int .i64 x, .int .i64 n] w fun e w' => e = .returned (symV (Sp.zAK x n)) ∧ Below w.heap.size w w' := by
 have HW := zh (fun w => (show Calls Tryz.prog 21 #[.int .i64 x, .int .i64 14] w (fun e w' => e = .returned (.int .i64 (Sp.yM x 14)) ∧ w = w') from zAO x 14 w (by decide) (by decide) hx)); have HQ := zh (show symV (Sp.zAK x n) = symV (if Sp.yM x 14 < 5 then ⟨Sp.nonN (Sp.yM x 14 % n), false, 0, 0⟩ else if Sp.yM x 14 = 13 then ⟨[101, 114, 114, 111, 114], false, 0, 0⟩ else Sp.litS (Sp.yM x 14 - 5)) from rfl); obtain ⟨k0, k14⟩ := Sp.kI x 14 (by decide); generalize Sp.yM x 14 = k at *
 generalize symV (Sp.zAK x n) = V at *
 by_cases hk : k < 5
 ·have c1 : k % (n : Int) < n := Int.emod_lt_of_pos k (by omega)
  have c2 : 0 ≤ k % (n : Int) := Int.emod_nonneg _ (by omega); have HN := zh (fun w => made_non (k % (n : Int)) w c2 (by omega)); have HV : Hid (V = symV ⟨Sp.nonN (k % (n : Int)), false, 0, 0⟩) := zh (by rw [HQ.out, if_pos hk]); clear HQ c1 c2; go_enter Tryz.func24, Tryz.ntmps24
  go_wp2_with (first | (go_at_call 21; refine (HW.out _).mono ?_; rintro e w' ⟨rfl, rfl⟩))
  refine (HN.out _).mono ?_; rintro e w' ⟨rfl, hb⟩; have hF := (hb.block w.heap.size (by simp)).trans (zE w _); have f0 := zc 0 hF; have f1 := zc 1 hF; have f2 := zc 2 hF; have f3 := zc 3 hF; have z0 := zf 0 hF; have z1 := zf 1 hF; have z2 := zf 2 hF; have z3 := zf 3 hF; have hl := zC hF; have HF := zh hF; have HB := zh hb; clear hF hb; go_wp2_with fail; refine jH (g := w.heap.size) (cs := (symC ⟨Sp.nonN (k % (n : Int)), false, 0, 0⟩).toArray) (t := 45) (fr := (0, 0)) rfl rfl (zA (zA (zA (zA HF.out)))) rfl Tryz.underlying45 (by kernel_rfl) rfl ⟨by rw [HV.out]; rfl, ?_⟩; exact (((((((Below.refl _ w).alloc (Nat.le_refl _) _).trans (HB.out.mono (by simp))).setCell (p := ⟨w.heap.size, 0, none⟩) (Nat.le_refl _) _).setCell (p := ⟨w.heap.size, 1, none⟩) (Nat.le_refl _) _).setCell (p := ⟨w.heap.size, 2, none⟩) (Nat.le_refl _) _).setCell (p := ⟨w.heap.size, 3, none⟩) (Nat.le_refl _) _)
 ·by_cases h13 : k = 13
  ·subst h13
   have HV : Hid (V = symV ⟨[101, 114, 114, 111, 114], false, 0, 0⟩) := zh (by rw [HQ.out, if_neg (by decide), if_pos rfl]); clear HQ hk k0 k14; go_enter Tryz.func24, Tryz.ntmps24
   go_wp2_with (first | (go_at_call 21; refine (HW.out _).mono ?_; rintro e w' ⟨rfl, rfl⟩))
   refine jH (g := w.heap.size) (t := 45) (fr := (0, 0)) rfl rfl (zE w _) rfl Tryz.underlying45 (by kernel_rfl) rfl ⟨by rw [HV.out]; rfl, (Below.refl _ w).alloc (Nat.le_refl _) _⟩
  ·have HN := zh (fun w => made_lit (k - 5) w (by omega) (by omega))
   have HV : Hid (V = symV (Sp.litS (k - 5))) := zh (by rw [HQ.out, if_neg hk, if_neg h13]); have hd : (k == 13) = false := by rw [beq_eq_false_iff_ne]; exact h13
   clear HQ h13; generalize Sp.litS (k - 5) = L at *
   obtain ⟨ln, ll, lu, la⟩ := L; go_enter Tryz.func24, Tryz.ntmps24
   go_wp2_with (first | (go_at_call 21; refine (HW.out _).mono ?_; rintro e w' ⟨rfl, rfl⟩))
   refine (HN.out _).mono ?_; rintro e w' ⟨rfl, hb⟩; have hF := (hb.block w.heap.size (by simp)).trans (zE w _); have f0 := zc 0 hF; have f1 := zc 1 hF; have f2 := zc 2 hF; have f3 := zc 3 hF; have z0 := zf 0 hF; have z1 := zf 1 hF; have z2 := zf 2 hF; have z3 := zf 3 hF; have hl := zC hF; have HF := zh hF; have HB := zh hb; clear hF hb; simp only [symV, symC]; go_wp2_with fail; refine jH (g := w.heap.size) (cs := (symC ⟨ln, ll, lu, la⟩).toArray) (t := 45) (fr := (0, 0)) rfl rfl (zA (zA (zA (zA HF.out)))) rfl Tryz.underlying45 (by kernel_rfl) rfl ⟨by rw [HV.out]; rfl, ?_⟩; exact (((((((Below.refl _ w).alloc (Nat.le_refl _) _).trans (HB.out.mono (by simp))).setCell (p := ⟨w.heap.size, 0, none⟩) (Nat.le_refl _) _).setCell (p := ⟨w.heap.size, 1, none⟩) (Nat.le_refl _) _).setCell (p := ⟨w.heap.size, 2, none⟩) (Nat.le_refl _) _).setCell (p := ⟨w.heap.size, 3, none⟩) (Nat.le_refl _) _)

theorem flatten_set {β : Type} (size k off : Nat) (v : β) (ho : off < size) : ∀ (L : List (List β)) (r : List β), (∀ r ∈ L, r.length = size) → L[k]? = some r → L.flatten.set (k * size + off) v = (L.set k (r.set off v)).flatten
 | [], r, _, h => by simp at h
 | x :: L, r, hl, h => by
  have hx := hl x (by simp)
  cases k with
  | zero =>
   simp only [List.getElem?_cons_zero, Option.some.injEq] at h; subst h; simp only [Nat.zero_mul, Nat.zero_add, List.flatten_cons, List.set_cons_zero]; rw [List.set_append_left _ _ (by omega)]
  | succ k =>
   simp only [List.getElem?_cons_succ] at h; have ih := flatten_set size k off v ho L r (fun r hr => hl r (by simp [hr])) h; simp only [List.flatten_cons, List.set_cons_succ]; rw [List.set_append_right _ _ (by rw [hx, Nat.succ_mul]; omega), ← ih]; congr 2
   rw [hx, Nat.succ_mul]; omega

def distR (f : Nat → Value) (n : Nat) : Prop := ∀ i j c, i < n → j < n → i ≠ j → (f i).ownBlock = some c → (f j).ownBlock ≠ some c
def OwnD {α : Type} (row : Value → α → List Value) (e : TypeId) (size : Nat) (child : World → Value → α → Prop) (B : Nat) (w : World) (v : Value) (l : List α) : Prop :=
 ∃ f : Nat → Value, w.ownsRow B e size v l.length (l.mapIdx fun i a => row (f i) a).flatten ∧ (∀ (i : Nat) (a : α), l[i]? = some a → child w (f i) a) ∧ distR f l.length
section
variable {α : Type} {row : Value → α → List Value} {e : TypeId} {size : Nat} {child : World → Value → α → Prop} {B : Nat} {w w' : World} {v : Value} {l : List α}
theorem OwnD.nil (row : Value → α → List Value) (e : TypeId) (size : Nat) (child : World → Value → α → Prop) (B : Nat) (w : World) : OwnD row e size child B w (.slice none 0 0) [] :=
 ⟨fun _ => .bool false, World.ownsRow_nil _ _ _ _, by simp, fun i _ _ hi => by simp at hi⟩
theorem OwnD.kp {T : TypeId → Prop} (h : OwnD row e size child B w v l) (k : KpT T w w') (ht : T e) (hc : ∀ u a, child w u a → child w' u a) : OwnD row e size child B w' v l := by
 obtain ⟨f, h1, h2, h3⟩ := h; exact ⟨f, zD h1 k ht, fun i a ha => hc _ _ (h2 i a ha), h3⟩
theorem OwnD.snoc {u v' : Value} {a : α} {f : Nat → Value} (h3 : distR f l.length) (h2 : ∀ (i : Nat) (a : α), l[i]? = some a → child w (f i) a)
  (hn : w'.ownsRow B e size v' (l.length + 1) ((l.mapIdx fun i a => row (f i) a).flatten ++ row u a)) (hc : ∀ u a, child w u a → child w' u a) (hu : child w' u a)
  (hd : ∀ i c, i < l.length → (f i).ownBlock = some c → u.ownBlock ≠ some c) : OwnD row e size child B w' v' (l ++ [a]) := by
 refine ⟨fun i => if i < l.length then f i else u, ?_, fun i b hb => ?_, ?_⟩
 ·have e1 : ((l ++ [a]).mapIdx fun i a => row (if i < l.length then f i else u) a).flatten = (l.mapIdx fun i a => row (f i) a).flatten ++ row u a := by
   rw [zDA, List.flatten_append]
   have e2 : (l.mapIdx fun i a => row (if i < l.length then f i else u) a) = l.mapIdx fun i a => row (f i) a := by
    apply List.ext_getElem?
    intro i; rw [List.getElem?_mapIdx, List.getElem?_mapIdx]
    cases hi : l[i]? with
    | none => rfl
    | some b =>
     have := (List.getElem?_eq_some_iff.1 hi).1; simp [this]
   rw [e2]; simp
  rw [e1, List.length_append]; exact hn
 ·rw [List.getElem?_append] at hb
  by_cases hi : i < l.length
  ·rw [if_pos hi] at hb
   simp only [if_pos hi]; exact hc _ _ (h2 i b hb)
  ·rw [if_neg hi] at hb
   simp only [if_neg hi]
   have : i - l.length = 0 := by
    have := (List.getElem?_eq_some_iff.1 hb).1; simp at this; omega
   rw [this] at hb; cases hb
   exact hu
 ·intro i j c hi hj hij
  rw [List.length_append] at hi hj; simp only [List.length_cons, List.length_nil] at hi hj; dsimp only; by_cases h1 : i < l.length
  ·rw [if_pos h1]
   by_cases h2 : j < l.length
   ·rw [if_pos h2]; exact h3 i j c h1 h2 hij
   ·rw [if_neg h2]; exact hd i c h1
  ·rw [if_neg h1]
   by_cases h2 : j < l.length
   ·rw [if_pos h2]; intro e1 e2; exact hd j c h2 e2 e1
   ·omega
theorem OwnD.upd {f : Nat → Value} {k off : Nat} {a a' : α} {u' : Value} (hd : distR f l.length) (hk : l[k]? = some a)
  (ho : w'.ownsRow B e size v l.length ((l.mapIdx fun i a => row (f i) a).flatten.set (k * size + off) u')) (hoff : off < size) (hlen : ∀ u a, (row u a).length = size)
  (hrow : row u' a' = (row (f k) a).set off u') (hch : ∀ i b, i ≠ k → l[i]? = some b → child w' (f i) b) (hck : child w' u' a')
  (hb : ∀ c, u'.ownBlock = some c → (f k).ownBlock = some c ∨ ∀ i, i < l.length → (f i).ownBlock ≠ some c) : OwnD row e size child B w' v (l.set k a') := by
 have hkl := (List.getElem?_eq_some_iff.1 hk).1; refine ⟨fun i => if i = k then u' else f i, ?_, fun i b hb' => ?_, fun i j c hi hj hij => ?_⟩
 ·rw [List.length_set]
  rw [flatten_set size k off u' hoff _ (row (f k) a) (fun r hr => by
   obtain ⟨i, hi⟩ := List.mem_iff_getElem?.1 hr; rw [List.getElem?_mapIdx] at hi; obtain ⟨b, _, rfl⟩ := Option.map_eq_some_iff.1 hi
   exact hlen _ _) (by rw [List.getElem?_mapIdx, hk]; rfl), ← hrow] at ho
  have e2 : ((l.set k a').mapIdx fun i a => row (if i = k then u' else f i) a) = (l.mapIdx fun i a => row (f i) a).set k (row u' a') := by
   apply List.ext_getElem?
   intro i; rw [List.getElem?_mapIdx, List.getElem?_set, List.getElem?_set, List.getElem?_mapIdx, List.length_mapIdx]; by_cases hi : k = i
   ·subst hi; simp [hkl]
   ·rw [if_neg hi, if_neg hi]
    have hi' : i ≠ k := fun e => hi e.symm
    simp only [if_neg hi']
  rw [e2]; exact ho
 ·rw [List.getElem?_set] at hb'
  by_cases hi : k = i
  ·subst hi
   rw [if_pos rfl, if_pos hkl] at hb'; cases hb'
   simp only [if_true]; exact hck
  ·rw [if_neg hi] at hb'
   have hi' : i ≠ k := fun e => hi e.symm
   simp only [if_neg hi']; exact hch i b hi' hb'
 ·rw [List.length_set] at hi hj
  dsimp only; by_cases h1 : i = k
  ·subst h1
   rw [if_pos rfl, if_neg (fun e => hij e.symm)]; intro e1; rcases hb c e1 with h | h
   ·exact hd i j c hi hj hij h
   ·exact h j hj
  ·rw [if_neg h1]
   by_cases h2 : j = k
   ·subst h2
    rw [if_pos rfl]; intro e1 e2; rcases hb c e2 with h | h
    ·exact hd i j c hi hj hij e1 h
    ·exact h i hi e1
   ·rw [if_neg h2]
    exact hd i j c hi hj hij
end
theorem Sp.addLast_set (s : Sp.Sym) : ∀ (l : List Sp.Decl) (d : Sp.Decl), l[l.length - 1]? = some d → Sp.jV s l = l.set (l.length - 1) ⟨d.kind, d.tag, d.syms ++ [s], d.at_⟩
 | [], d, h => by simp at h
 | [e], d, h => by
  simp at h; subst h; rfl
 | e :: f :: l, d, h => by
  have hl : (e :: f :: l).length - 1 = ((f :: l).length - 1) + 1 := by simp
  rw [hl] at h ⊢; rw [List.getElem?_cons_succ] at h; rw [List.set_cons_succ, ← Sp.addLast_set s (f :: l) d h]; rfl
theorem Sp.addAlt_set (a : Sp.Alt) : ∀ (k : Nat) (l : List Sp.Rule) (r : Sp.Rule), l[k]? = some r → Sp.zBB a k l = l.set k ⟨r.left, r.alts ++ [a], r.at_⟩
 | k, [], r, h => by simp at h
 | 0, e :: l, r, h => by
  simp at h; subst h; rfl
 | k + 1, e :: l, r, h => by
  rw [List.getElem?_cons_succ] at h; rw [List.set_cons_succ, ← Sp.addAlt_set a k l r h]; rfl

def symsOwnB (B : Nat) (w : World) (v : Value) (d : Sp.Decl) : Prop := w.ownsRow B 45 4 v d.syms.length (d.syms.map symC).flatten
abbrev vL (B : Nat) := OwnD xP 57 4 (symsOwnB B) B
theorem declsD_own {B : Nat} {w : World} {v : Value} {l : List Sp.Decl} (h : vL B w v l) : qK B w v l := by
 obtain ⟨f, h1, h2, _⟩ := h; exact ⟨f, h1, fun i d hd => ⟨B, h2 i d hd⟩⟩
theorem declsD_below {B : Nat} {w w' : World} {v : Value} {l : List Sp.Decl} (h : vL B w v l) (hb : Below w.heap.size w w') : vL B w' v l := by
 obtain ⟨f, h1, h2, h3⟩ := h; exact ⟨f, zL h1 hb, fun i d hd => zL (h2 i d hd) hb, h3⟩
set_option maxRecDepth 100000 in
set_option maxHeartbeats 6400000 in
theorem made_decls (xs : List Int) (v : Value) (W : World) (hx : vT W v xs) (hwf : ∀ x ∈ xs, (Lit.int .i64 x).wf = true) (hn63 : xs.length ≤ 2 ^ 63 - 1) :
  Calls Tryz.prog 22 #[v] W fun e w' => ∃ pv, e = .returned pv ∧ vL W.heap.size w' pv (Sp.gQ xs) ∧ Below W.heap.size W w' := by
 obtain ⟨is0, his0, hsz0, hsz1, hsz2⟩ := info_parts info_symE; obtain ⟨id0, hid0, hdz0, hdz1, hdz2⟩ := info_parts info_declE; obtain ⟨av, cap, rfl⟩ := hx.form; unfold Sp.gQ; generalize hR : Sp.vJ 0 (xs.take 4) [] = R; have HSL := zh (show SlAt W (.slice av xs.length cap) 1 (xs.map fun x => [Value.int .i64 x]) by have := hx; unfold vT at this; rw [List.length_map] at this; exact this); have HWF := zh hwf; clear hx hwf; rw [List.length_map]; generalize hnl : xs.length = n at *
 have HNL := zh hnl; have HR := zh hR; clear hnl hR; go_enter Tryz.func22, Tryz.ntmps22
 go_wp2_with fail; go_loopg [3, 4] 4 (fun g v iv wr => ∃ (j : Nat) (cur : List Sp.Decl), j ≤ n ∧ j ≤ 4 ∧ g = 4 - j ∧ iv = .int .i64 j ∧ vL W.heap.size wr v cur ∧ Sp.vJ j ((xs.take 4).drop j) cur = R ∧ cur.length ≤ j ∧ (∀ d ∈ cur, d.syms.length ≤ j) ∧ Below W.heap.size W wr)
 case atStart => exact ⟨0, [], Nat.zero_le _, Nat.zero_le _, rfl, rfl, OwnD.nil _ _ _ _ _ _, HR.out, Nat.zero_le _, by simp, Below.refl _ _⟩
 case round =>
  obtain ⟨j, cur, hj, hj4, rfl, rfl, ho, hR, hlen, hsy, hbel⟩ := hrel; obtain ⟨f, h1, h2, h3⟩ := ho; obtain ⟨va, vc, rfl⟩ := zJ h1; have HRR := zh hR; have HO := zh h1; have HC := zh h2; have HD := zh h3; have HSY := zh hsy; have HB := zh hbel; have hj0 : (0 : Int) ≤ (j : Int) := Int.natCast_nonneg _; have hszr : W.heap.size ≤ wr.heap.size := hbel.size; clear hR h1 h2 h3 hsy hbel; by_cases hjn : j < n ∧ j < 4
  ·obtain ⟨hjs, hjN⟩ := hjn
   have hjl : j < xs.length := by have := HNL.out; omega
   have hp := List.getElem?_eq_getElem hjl
   have hdr : (xs.take 4).drop j = xs[j] :: (xs.take 4).drop (j + 1) := by
    rw [List.drop_eq_getElem_cons (by simp; omega)]; simp
   have hxw := HWF.out xs[j] (List.getElem_mem hjl); generalize xs[j] = x at *
   obtain ⟨b, off, rfl, hbl, hc⟩ := HSL.out.at (k := j) (row := [Value.int .i64 x]) (by rw [List.getElem?_map, hp]; rfl); have a0 := hc _ HB.out 0 _ rfl; simp only [Nat.add_zero, Nat.mul_one] at a0; have HWI := zh (fun w => (show Calls Tryz.prog 21 #[.int .i64 x, .int .i64 8] w (fun e w' => e = .returned (.int .i64 (Sp.yM x 8)) ∧ w = w') from zAO x 8 w (by decide) (by decide) hxw)); obtain ⟨k0, k8⟩ := Sp.kI x 8 (by decide); have hR := HRR.out; rw [hdr] at hR; unfold Sp.vJ at hR; unfold Sp.zAI at hR; generalize Sp.yM x 8 = k at *
   have ht : k.tmod 4 = k % 4 := Int.tmod_eq_emod_of_nonneg k0; have q0 : 0 ≤ k % 4 := Int.emod_nonneg _ (by decide); have q4 := Int.emod_lt_of_pos k (show (0 : Int) < 4 by decide); have hjn1 : (j : Int) < (n : Int) := by omega
   have hlb : b < wr.heap.size := by omega
   have hli := fun w => made_lit (j : Int) w (by omega) (by omega)
   generalize Sp.litS (j : Int) = LS at *
   obtain ⟨sn, sl, su, sa⟩ := LS; have HLI := zh (fun w => (show Calls Tryz.prog 25 #[.int .i64 (j : Int)] w (fun e w' => e = .returned (.agg #[.string ⟨sn.toArray⟩, .bool sl, .int .i64 su, .int .i64 sa]) ∧ Below w.heap.size w w') from hli w)); clear hli; generalize hq : k % 4 = q at *
   clear hc hdr hp HRR hjl hq hxw; by_cases hqz : q = 0
   ·subst hqz
    rw [if_pos rfl] at hR; have HRR := zh hR; clear hR q0 q4 HLI; go_wp2_with (first | (go_at_call 21; refine (HWI.out _).mono ?_; rintro e w' ⟨rfl, rfl⟩))
    go_roundg (4 - (j + 1))
    case measure => omega
    case rel => exact ⟨j + 1, cur, by omega, by omega, rfl, by go_num, ⟨f, HO.out, HC.out, HD.out⟩, HRR.out, by omega, fun d hd => by have := HSY.out d hd; omega, HB.out⟩
   ·have hqf : (q == 0) = false := by rw [beq_eq_false_iff_ne]; exact hqz
    rw [if_neg hqz] at hR; have HQZ := zh hqz; clear hqz; by_cases hap : 4 < k ∧ cur ≠ []
    ·rw [if_pos hap] at hR
     have HRR := zh hR; obtain ⟨hk4, hcn⟩ := hap; obtain ⟨m, hm⟩ : ∃ m, cur.length = m + 1 := ⟨cur.length - 1, by have := List.length_pos_iff.2 hcn; omega⟩
     have hml : m < cur.length := by omega
     have hlast := List.getElem?_eq_getElem hml; generalize cur[m] = d at *
     have HLA := zh hlast; have HM := zh hm; have hCd := HC.out m d hlast; unfold symsOwnB at hCd; have hdl := HSY.out d (List.mem_of_getElem? hlast); obtain ⟨ua, uc, hfm⟩ := zJ hCd; have HFM := zh hfm; rw [hfm] at hCd; generalize hus : d.syms.length = us at *
     have HUS := zh hus; rw [hm] at HO hlen; obtain ⟨g, vc2, hv⟩ := yB HO.out (by omega); simp only [Value.slice.injEq] at hv; obtain ⟨rfl, _, rfl⟩ := hv; have hcell := HO.out.cellAt (m * 4 + 2) (by omega); have hfz := HO.out.frozenAt (m * 4 + 2)
     have hxs : (cur.mapIdx fun i a => xP (f i) a).flatten[m * 4 + 2]? = some (.slice ua us uc) := by
      refine j1 4 _ (fun r hr => ?_) m (xP (f m) d) (by rw [List.getElem?_mapIdx, HLA.out]; rfl) 2 _ (by rw [HFM.out]; rfl); obtain ⟨i, hi⟩ := List.mem_iff_getElem?.1 hr; rw [List.getElem?_mapIdx] at hi; obtain ⟨b, _, rfl⟩ := Option.map_eq_some_iff.1 hi; rfl
     rw [hxs] at hcell; have HXS := zh hxs; have hlg : g < wr.heap.size := (HO.out.lt g rfl).2; have hg0 : W.heap.size ≤ g := (HO.out.lt g rfl).1; have HKS := zh (fun (w' : World) (h : Below wr.heap.size wr w') => (show (w'.cell? ⟨g, m * 4 + 2, none⟩ = some (.slice ua us uc) ∧ w'.frozen? ⟨g, m * 4 + 2, none⟩ = false) from ⟨by rw [h.cell (p := ⟨g, _, none⟩) hlg]; exact hcell, by rw [World.frozen?_of_block (h.block g hlg)]; exact hfz⟩)); have HOW := zh (fun (w' : World) (h : Below wr.heap.size wr w') => zL hCd h); have hk4' : decide (4 < k) = true := decide_eq_true hk4; have hwm : IntKind.i64.wrap ((cur.length : Int) - 1) = (m : Int) := by rw [IntWalk.i64_in _ ⟨by omega, by omega⟩]; omega
     have hmL : (m : Int) < (cur.length : Int) := by omega
     have hm0 : (0 : Int) ≤ (m : Int) := Int.natCast_nonneg _; clear hR hcn hm hlast hCd hfm hus hcell hfz hxs hml; go_upto_region 9 with (first | (go_at_call 21; refine (HWI.out _).mono ?_; rintro e w' ⟨rfl, rfl⟩))
     refine zF (fun w' : World => (w'.cell? ⟨g, m * 4 + 2, none⟩ = some (.slice ua us uc) ∧ w'.frozen? ⟨g, m * 4 + 2, none⟩ = false)) [15] (.take 0 (.take 1 (.take 2 (.take 3 (.take 4 (.take 5 (.take 6 (.take 7 (.take 8 (.take 9 (.one 10 (.one 11 (.one 12 (.one 13 (.one 14 (.one 15 (.done))))))))))))))))) (by kernel_rfl) (by kernel_rfl) (fun _ _ _ _ h => h) ?_; have hSw := HKS.out _ (below_drewN (Below.refl _ _) 1); iterate 10 (refine zN (v := ?_) rfl hSw (by rfl) ?_ ?_; rotate_left 1; (focus (intro w hSx; (try dsimp only at hSx); go_simp; try rfl)); (try simp only [Act.put, zq0, zq1, zq2]))
     refine zB rfl (by rfl) (fun K' hK => ?_)
     (go_simp; go_at_call 25; refine (HLI.out _).mono ?_; rintro e w' ⟨rfl, hb'⟩; have hlw : wr.heap.size ≤ w'.heap.size := hb'.size)
     refine hK _ _ (.inr (HKS.out _ (zI hb'))) ?_; clear hK K' hSw; (try simp only [Act.put, zq0, zq1, zq2]); refine zB rfl (by rfl) (fun K' hK => ?_); go_simp; refine hK _ _ (.inr (HKS.out _ ((zI hb').alloc hlw _))) ?_; clear hK K'; (try simp only [Act.put, zq0, zq1, zq2]); refine zB rfl (by rfl) (fun K' hK => ?_)
     (refine wp_append_lies _ _ _ _ (by rfl) W.heap.size 45 is0 _ 4 40 Tryz.underlying55 his0 hsz0 hsz1 hsz2 rfl (by omega) _ _ _ (by rfl) ((HOW.out w' (zI hb')).alloc _) ⟨w'.heap.size, 0, none⟩ 1 1 (symC ⟨sn, sl, su, sa⟩) (by rfl) (by rfl) (World.news_of_block (cs := (symC ⟨sn, sl, su, sa⟩).toArray) (t := 45) (fr := (0, 0)) (heap_alloc_new w' _)) (by simp [Value.oneCell', symC]) (by omega) (by unfold maxLen; omega) (by omega) (by simp only [World.size_alloc]; omega) (w'.heap.size + 1) (by simp) ?_; intro gg cap2 w5 hown1 hgrow hat hlt; have hor : w5.ownsRow W.heap.size 57 4 (.slice (some ⟨g, 0, none⟩) (m + 1) vc) (m + 1) (cur.mapIdx fun i a => xP (f i) a).flatten := zD (zL HO.out ((zI hb').alloc hlw _)) (KpT.grown ((HOW.out w' (zI hb')).alloc _) hgrow) (by decide); have hce := hor.cellAt (m * 4 + 2) (by omega); rw [HXS.out] at hce; have hfe := hor.frozenAt (m * 4 + 2); have HOR := zh hor; clear hor; have hg5 : g < w5.heap.size := Nat.lt_of_lt_of_le hlg (Nat.le_trans hlw (Nat.le_trans (by simp) hgrow.size)))
     refine hK _ _ (.inr (⟨hce, hfe⟩)) ?_; clear hK K'; (try simp only [Act.put, zq0, zq1, zq2]); iterate 2 (refine zB rfl (by rfl) (fun K' hK => ?_); go_simp; refine hK _ _ (.inr (⟨hce, hfe⟩)) ?_; clear hK K'; (try simp only [Act.put, zq0, zq1, zq2]))
     refine zB rfl (by rfl) (fun K' hK => ?_); go_simp; refine hK _ _ (.inl rfl) ?_; clear hK K'; (try simp only [Act.put, zq0, zq1, zq2]); refine zH ?_; have hlw2 : wr.heap.size ≤ w'.heap.size := hb'.size; have HBW := zh (((zI hb').alloc hlw2 _ : Below wr.heap.size wr (w'.alloc (.cells (symC ⟨sn, sl, su, sa⟩).toArray 45)))); have HG := zh hgrow; have HAT := zh hat; have HO1 := zh hown1; clear hgrow hat hown1 hb'; go_wp2_with fail; go_roundg (4 - (j + 1))
     case measure => omega
     case rel =>
      have hor := HOR.out; have hst := (hor.stored (m * 4 + 2) (.slice (some ⟨gg, 0, none⟩) (us + 1) cap2)).1
      obtain ⟨cu, hgb⟩ : ∃ cu, w5.heap[g]? = some (.cells cu 57 (0, 0)) := by
       rcases hor.2 with ⟨h, _⟩ | ⟨g', _, cu, h, _, hh, _⟩
       ·simp at h
       ·simp only [Value.slice.injEq, Option.some.injEq, Addr.mk.injEq, and_true, true_and] at h
        obtain ⟨rfl, _⟩ := h; exact ⟨cu, hh⟩
      have hlw5 : (w'.alloc (.cells (symC ⟨sn, sl, su, sa⟩).toArray 45)).heap.size ≤ w5.heap.size := HG.out.size; simp only [World.size_alloc] at hlw5; refine ⟨j + 1, cur.set m ⟨d.kind, d.tag, d.syms ++ [⟨sn, sl, su, sa⟩], d.at_⟩, by omega, by omega, rfl, by go_num, ?_, ?_, by rw [List.length_set]; have := HM.out; omega, ?_, ?_⟩
      ·refine OwnD.upd (f := f) (k := m) (off := 2) (a := d) (u' := .slice (some ⟨gg, 0, none⟩) (us + 1) cap2) HD.out HLA.out ?_ (by decide) (fun _ _ => rfl) rfl ?_ ?_ ?_
       ·rw [HM.out]
        exact hst
       ·intro i b hi hb
        have hil := (List.getElem?_eq_some_iff.1 hb).1; have e1 : symsOwnB W.heap.size (w'.alloc _) (f i) b := zL (HC.out i b hb) HBW.out
        have e2 : symsOwnB W.heap.size w5 (f i) b := zP (S := fun c => (Value.slice ua us uc).ownBlock ≠ some c) e1 ((Kp.refl _ _).grown HG.out (fun k hk hn => hn hk)) (fun c hc => by
         rw [← HFM.out]
         exact HD.out i m c hil (by rw [HM.out]; omega) hi hc)
        exact zR e2 hgb (by decide) _
       ·show World.ownsRow _ _ _ _ _ _ _
        have e3 : (((⟨d.kind, d.tag, d.syms ++ [⟨sn, sl, su, sa⟩], d.at_⟩ : Sp.Decl).syms).map symC).flatten = (d.syms.map symC).flatten ++ symC ⟨sn, sl, su, sa⟩ := by simp
        rw [e3]; have e4 : ((⟨d.kind, d.tag, d.syms ++ [⟨sn, sl, su, sa⟩], d.at_⟩ : Sp.Decl).syms).length = us + 1 := by simp [HUS.out]
        rw [e4]; exact zR HO1.out hgb (by decide) _
       ·intro c hc
        simp only [Value.ownBlock, Option.some.injEq] at hc; subst hc; rcases HAT.out with h | h
        ·left; rw [HFM.out]; exact h
        ·right
         intro i hi hc; have := ((HC.out i _ (List.getElem?_eq_getElem hi)).lt _ hc).2; omega
      ·rw [← HRR.out, Sp.addLast_set _ _ d (by rw [HM.out]; exact HLA.out), HM.out]
       rfl
      ·intro e he
       rcases List.mem_or_eq_of_mem_set he with he | rfl
       ·have := HSY.out e he; omega
       ·have := HUS.out; show (d.syms ++ [_]).length ≤ j + 1; simp; omega
      ·exact ((HB.out.trans (HBW.out.mono hszr)).grown HG.out (by simp only [World.size_alloc]; omega) (fun g' hg' => ((HOW.out _ (Below.refl _ _)).lt g' hg').1)).setCell (p := ⟨g, m * 4 + 2, none⟩) hg0 _
    ·rw [if_neg hap] at hR
     have HRR := zh hR; have HAP := zh hap; clear hR hap; by_cases hk4 : 4 < k
     ·obtain rfl : cur = [] := by
       by_cases h : cur = []
       ·exact h
       ·exact absurd ⟨hk4, h⟩ HAP.out
      clear HAP; go_upto_region 10 with (first | (go_at_call 21; refine (HWI.out _).mono ?_; rintro e w' ⟨rfl, rfl⟩))
      go_wp2_with (first | (go_at_call 25; refine (HLI.out _).mono ?_; rintro e w' ⟨rfl, hb'⟩) | (at_builtin; refine wpList_append_lies _ rfl _ _ _ rfl W.heap.size 57 id0 _ 4 56 Tryz.underlying22 hid0 hdz0 hdz1 hdz2 rfl (by decide) _ _ _ rfl (((zL HO.out hb').alloc _).alloc _) ⟨w'.heap.size + 1, 0, none⟩ 1 1 (xP (.slice (some ⟨w'.heap.size, 0, none⟩) 1 1) ⟨1 + q, [], [⟨sn, sl, su, sa⟩], 0⟩) rfl rfl ?c1A ?c2A (by decide) ?c3A ?c4A ?c5A _ rfl ?_))
      case c1A => exact World.news_of_block (cs := (xP (.slice (some ⟨w'.heap.size, 0, none⟩) 1 1) ⟨1 + q, [], [⟨sn, sl, su, sa⟩], 0⟩).toArray) (t := 57) (fr := (0, 0)) (xJ w' _ _)
      case c2A => simp [Value.oneCell', xP]
      case c3A => unfold maxLen; omega
      case c4A => omega
      case c5A => have := hb'.size; simp only [World.size_alloc]; omega
      intro gg cap2 w5 hown1 hgrow hat hlt; have hlw : wr.heap.size ≤ w'.heap.size := hb'.size; have HBW := zh (((hb'.alloc hlw (.cells (symC ⟨sn, sl, su, sa⟩).toArray 45)).alloc (by simp only [World.size_alloc]; omega) _ : Below wr.heap.size wr ((w'.alloc (.cells (symC ⟨sn, sl, su, sa⟩).toArray 45)).alloc (.cells (xP (.slice (some ⟨w'.heap.size, 0, none⟩) 1 1) ⟨1 + q, [], [⟨sn, sl, su, sa⟩], 0⟩).toArray 57)))); have HG := zh hgrow; have HO1 := zh hown1; clear hgrow hat hown1 hb'; go_wp2_with fail; go_roundg (4 - (j + 1))
      case measure => omega
      case rel =>
       have HKP : KpT (· ≠ 57) wr w5 := (KpT.below HBW.out).trans (KpT.grown (zL HO.out HBW.out) HG.out); refine ⟨j + 1, _, by omega, by omega, rfl, by go_num, OwnD.snoc (u := .slice (some ⟨w'.heap.size, 0, none⟩) 1 1) HD.out HC.out HO1.out (fun u a h => zD h HKP (by decide)) ?_ ?_, HRR.out, by rw [List.length_append]; simp only [List.length_cons, List.length_nil]; omega, ?_, ?_⟩
       ·have h1 := World.ownsRow_lit (base := W.heap.size) (e := 45) (size := 4) w' (symC ⟨sn, sl, su, sa⟩).toArray 1 (by omega) (by decide) rfl
        have h2 := h1.alloc (.cells (xP (.slice (some ⟨w'.heap.size, 0, none⟩) 1 1) ⟨1 + q, [], [⟨sn, sl, su, sa⟩], 0⟩).toArray 57); exact zD h2 (KpT.grown (zL HO.out HBW.out) HG.out) (by decide)
       ·intro i c hi hc e
        simp only [Value.ownBlock, Option.some.injEq] at e; have := ((HC.out i _ (List.getElem?_eq_getElem hi)).lt _ hc).2; omega
       ·intro e he
        rcases List.mem_append.1 he with he | he
        ·have := HSY.out e he; omega
        ·rw [List.mem_singleton] at he; rw [he]; simp
       ·exact (HB.out.trans (HBW.out.mono hszr)).grown HG.out (by simp only [World.size_alloc]; omega) (fun g' hg' => (HO.out.lt g' hg').1)
     ·have hk4' : decide (4 < k) = false := decide_eq_false hk4
      clear HAP; go_upto_region 10 with (first | (go_at_call 21; refine (HWI.out _).mono ?_; rintro e w' ⟨rfl, rfl⟩))
      go_wp2_with (first | (go_at_call 25; refine (HLI.out _).mono ?_; rintro e w' ⟨rfl, hb'⟩) | (at_builtin; refine wpList_append_lies _ rfl _ _ _ rfl W.heap.size 57 id0 _ 4 56 Tryz.underlying22 hid0 hdz0 hdz1 hdz2 rfl (by decide) _ _ _ rfl (((zL HO.out hb').alloc _).alloc _) ⟨w'.heap.size + 1, 0, none⟩ 1 1 (xP (.slice (some ⟨w'.heap.size, 0, none⟩) 1 1) ⟨1 + q, [], [⟨sn, sl, su, sa⟩], 0⟩) rfl rfl ?c1A ?c2A (by decide) ?c3A ?c4A ?c5A _ rfl ?_))
      case c1A => exact World.news_of_block (cs := (xP (.slice (some ⟨w'.heap.size, 0, none⟩) 1 1) ⟨1 + q, [], [⟨sn, sl, su, sa⟩], 0⟩).toArray) (t := 57) (fr := (0, 0)) (xJ w' _ _)
      case c2A => simp [Value.oneCell', xP]
      case c3A => unfold maxLen; omega
      case c4A => omega
      case c5A => have := hb'.size; simp only [World.size_alloc]; omega
      intro gg cap2 w5 hown1 hgrow hat hlt; have hlw : wr.heap.size ≤ w'.heap.size := hb'.size; have HBW := zh (((hb'.alloc hlw (.cells (symC ⟨sn, sl, su, sa⟩).toArray 45)).alloc (by simp only [World.size_alloc]; omega) _ : Below wr.heap.size wr ((w'.alloc (.cells (symC ⟨sn, sl, su, sa⟩).toArray 45)).alloc (.cells (xP (.slice (some ⟨w'.heap.size, 0, none⟩) 1 1) ⟨1 + q, [], [⟨sn, sl, su, sa⟩], 0⟩).toArray 57)))); have HG := zh hgrow; have HO1 := zh hown1; clear hgrow hat hown1 hb'; go_wp2_with fail; go_roundg (4 - (j + 1))
      case measure => omega
      case rel =>
       have HKP : KpT (· ≠ 57) wr w5 := (KpT.below HBW.out).trans (KpT.grown (zL HO.out HBW.out) HG.out); refine ⟨j + 1, _, by omega, by omega, rfl, by go_num, OwnD.snoc (u := .slice (some ⟨w'.heap.size, 0, none⟩) 1 1) HD.out HC.out HO1.out (fun u a h => zD h HKP (by decide)) ?_ ?_, HRR.out, by rw [List.length_append]; simp only [List.length_cons, List.length_nil]; omega, ?_, ?_⟩
       ·have h1 := World.ownsRow_lit (base := W.heap.size) (e := 45) (size := 4) w' (symC ⟨sn, sl, su, sa⟩).toArray 1 (by omega) (by decide) rfl
        have h2 := h1.alloc (.cells (xP (.slice (some ⟨w'.heap.size, 0, none⟩) 1 1) ⟨1 + q, [], [⟨sn, sl, su, sa⟩], 0⟩).toArray 57); exact zD h2 (KpT.grown (zL HO.out HBW.out) HG.out) (by decide)
       ·intro i c hi hc e
        simp only [Value.ownBlock, Option.some.injEq] at e; have := ((HC.out i _ (List.getElem?_eq_getElem hi)).lt _ hc).2; omega
       ·intro e he
        rcases List.mem_append.1 he with he | he
        ·have := HSY.out e he; omega
        ·rw [List.mem_singleton] at he; rw [he]; simp
       ·exact (HB.out.trans (HBW.out.mono hszr)).grown HG.out (by simp only [World.size_alloc]; omega) (fun g' hg' => (HO.out.lt g' hg').1)
  ·have hfin : (xs.take 4).drop j = [] := by
    rw [List.drop_eq_nil_iff, List.length_take]; have := HNL.out; omega
   have hR : cur = R := by have h := HRR.out; rw [hfin] at h; exact h
   have HRF := zh hR; clear hR hfin; by_cases hjs : j < n
   ·have hjN : decide ((j : Int) < 4) = false := by rw [decide_eq_false_iff_not]; omega
    have HJN := zh hjn; clear hjn; go_wp2_with fail; go_ret; exact ⟨_, rfl, by rw [← HRF.out]; exact ⟨f, HO.out, HC.out, HD.out⟩, HB.out⟩
   ·have hjs' : decide (j < n) = false := by rw [decide_eq_false_iff_not]; exact hjs
    have HJN := zh hjn; clear hjn hjs; go_wp2_with fail; go_ret; exact ⟨_, rfl, by rw [← HRF.out]; exact ⟨f, HO.out, HC.out, HD.out⟩, HB.out⟩
end Go.Proofs.YtddnomjfcbplpaaGreatDoor
