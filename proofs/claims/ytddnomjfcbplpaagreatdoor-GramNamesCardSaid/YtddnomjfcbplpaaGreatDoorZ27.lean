import Derived.Test.YtddnomjfcbplpaaGreatDoorZ26
namespace Go.Proofs.YtddnomjfcbplpaaGreatDoor
open Go.RowKit Go.Maps
namespace Sp

theorem zCJ (s : Mk) (y : Sym) : (addTok s y).1.toks.length ≤ s.toks.length + 1 ∧ (addTok s y).1.lefts = s.lefts ∧ (addTok s y).1.nons = s.nons ∧ (addTok s y).1.prods = s.prods ∧ (addTok s y).1.types = s.types ∧ (addTok s y).1.start = s.start := by
 unfold addTok; split <;> simp
theorem tokStep_keeps {s s' : Mk} {d : Decl} {y : Sym} {level : Int} (h : kJ s d y level = some s') : s'.toks.length ≤ s.toks.length + 1 ∧ s'.lefts = s.lefts ∧ s'.nons = s.nons ∧ s'.prods = s.prods ∧ s'.types = s.types ∧ s'.start = s.start := by
 have h1 := zCJ s y; unfold kJ at h; split at h
 ·cases h
 ·cases h
  simp only [jJ]
  (repeat' split) <;> (first | exact h1 | (simp only [List.length_set]; exact h1))
theorem namedStep_keeps {s s' : Mk} {d : Decl} {y : Sym} (h : yN s d y = some s') : s'.toks = s.toks ∧ s'.lefts = s.lefts ∧ s'.nons = s.nons ∧ s'.prods = s.prods ∧ (s'.start = s.start ∨ s'.start = y.name) := by
 unfold yN at h
 (repeat' split at h) <;> (first | cases h) <;> simp
structure DeclK (s s' : Mk) (n : Nat) : Prop where
 toks : s'.toks.length ≤ s.toks.length + n
 lefts : s'.lefts = s.lefts
 nons : s'.nons = s.nons
 prods : s'.prods = s.prods
 start : s.start.length ≤ 4000 → s'.start.length ≤ 4000
theorem DeclK.refl (s : Mk) : DeclK s s 0 := ⟨Nat.le_refl _, rfl, rfl, rfl, id⟩
theorem DeclK.trans {s s1 s2 : Mk} {n m : Nat} (h : DeclK s s1 n) (k : DeclK s1 s2 m) : DeclK s s2 (n + m) :=
 ⟨by have := h.toks; have := k.toks; omega, k.lefts.trans h.lefts, k.nons.trans h.nons, k.prods.trans h.prods, fun h0 => k.start (h.start h0)⟩
theorem symsGo_keeps (d : Decl) (level : Int) : ∀ (l : List Sym) (s s' : Mk), (∀ y ∈ l, y.name.length ≤ 4000) → zAS d level l s = .ok s' → DeclK s s' l.length
 | [], s, s', _, h => by
  cases h
  exact DeclK.refl s
 | y :: l, s, s', hy, h => by
  unfold zAS at h; have hn := hy y (by simp)
  have key : ∀ s1, (if 5 ≤ d.kind then yN s d y else kJ s d y level) = some s1 → DeclK s s1 1 := by
   intro s1 h1; split at h1
   ·obtain ⟨a, b, c, e, f⟩ := namedStep_keeps h1
    refine ⟨by rw [a]; omega, b, c, e, fun h0 => ?_⟩; rcases f with f | f <;> rw [f] <;> assumption
   ·obtain ⟨a, b, c, e, _, f⟩ := tokStep_keeps h1
    exact ⟨a, b, c, e, fun h0 => by rw [f]; exact h0⟩
  split at h
  ·cases h
  ·rename_i s1 h1
   have h2 := (key s1 h1).trans (symsGo_keeps d level l s1 s' (fun z hz => hy z (by simp [hz])) h); rw [List.length_cons, Nat.add_comm]; exact h2
theorem zAZ : ∀ (ds : List Decl) (level : Int) (s s' : Mk), (∀ d ∈ ds, d.syms.length ≤ 4000 ∧ ∀ y ∈ d.syms, y.name.length ≤ 4000) → qM level ds s = .ok s' → DeclK s s' (ds.length * 4000)
 | [], level, s, s', _, h => by
  cases h
  exact DeclK.refl s
 | d :: ds, level, s, s', hs, h => by
  unfold qM at h; simp only at h; split at h
  ·cases h
  ·rename_i s1 h1
   have hd := hs d (by simp); have k1 := symsGo_keeps d _ d.syms s s1 hd.2 h1; have k2 := zAZ ds _ s1 s' (fun e he => hs e (by simp [he])) h; have k := k1.trans k2; refine ⟨Nat.le_trans k.toks ?_, k.lefts, k.nons, k.prods, k.start⟩; rw [List.length_cons, Nat.succ_mul]; have := hd.1; omega
theorem zAY : ∀ (rs : List Rule) (s s' : Mk), jD rs s = .ok s' → s'.toks = s.toks ∧ s'.prods = s.prods ∧ s'.start = s.start ∧ s'.lefts.length ≤ s.lefts.length + rs.length ∧ s'.nons.length + s.lefts.length = s.nons.length + s'.lefts.length
 | [], s, s', h => by
  cases h
  exact ⟨rfl, rfl, rfl, by simp, rfl⟩
 | r :: rs, s, s', h => by
  unfold jD at h; split at h
  ·cases h
  ·split at h
   ·obtain ⟨a, b, c, d, e⟩ := zAY rs s s' h
    exact ⟨a, b, c, by rw [List.length_cons]; omega, e⟩
   ·obtain ⟨a, b, c, d, e⟩ := zAY rs _ s' h
    refine ⟨a, b, c, ?_, ?_⟩
    ·simp only [List.length_append, List.length_cons, List.length_nil] at d ⊢; omega
    ·simp only [List.length_append, List.length_cons, List.length_nil] at e ⊢; omega
theorem zEE {x : zM} {s s' : Mk} (h : vI x s = .ok s') : s'.toks = s.toks ∧ s'.prods = s.prods ∧ s'.start = s.start ∧ s'.lefts.length ≤ s.lefts.length + x.rules.length ∧ s'.nons.length + s.lefts.length = s.nons.length + s'.lefts.length := by
 unfold vI at h; split at h
 ·cases h
 ·rename_i s1 h1
  split at h
  ·cases h
  ·cases h
   exact zAY _ _ _ h1
structure gI (s s' : Mk) (n : Nat) : Prop where
 toks : s'.toks.length ≤ s.toks.length + n
 lefts : s'.lefts = s.lefts
 nons : s'.nons = s.nons
 prods : s'.prods = s.prods
 start : s'.start = s.start
theorem gI.refl (s : Mk) : gI s s 0 := ⟨Nat.le_refl _, rfl, rfl, rfl, rfl⟩
theorem gI.trans {s s1 s2 : Mk} {n m : Nat} (h : gI s s1 n) (k : gI s1 s2 m) : gI s s2 (n + m) :=
 ⟨by have := h.toks; have := k.toks; omega, k.lefts.trans h.lefts, k.nons.trans h.nons, k.prods.trans h.prods, k.start.trans h.start⟩
theorem gI.mono {s s1 : Mk} {n m : Nat} (h : gI s s1 n) (hn : n ≤ m) : gI s s1 m := ⟨Nat.le_trans h.toks (by omega), h.lefts, h.nons, h.prods, h.start⟩
theorem used_keeps {s s' : Mk} {y : Sym} {b : Bool} (h : used s y b = .ok s') : gI s s' 1 := by
 obtain ⟨a, b1, c, d, _, e⟩ := zCJ s y; unfold used at h; split at h
 ·split at h
  ·cases h
  ·cases h
   exact ⟨a, b1, c, d, e⟩
 ·split at h
  ·cases h
  ·cases h
   exact (gI.refl s).mono (by omega)
theorem zAA : ∀ (l : List Part) (s s' : Mk), vG l s = .ok s' → gI s s' l.length
 | [], s, s', h => by
  cases h
  exact gI.refl s
 | p :: l, s, s', h => by
  unfold vG at h; split at h
  ·split at h
   ·cases h
   ·rename_i s1 h1
    have k := (used_keeps h1).trans (zAA l s1 s' h); rw [List.length_cons, Nat.add_comm]; exact k
  ·exact (zAA l s s' h).mono (by simp)
theorem zBA : ∀ (l : List Alt) (s s' : Mk), (∀ a ∈ l, a.parts.length ≤ 4000) → zCI l s = .ok s' → gI s s' (l.length * 4001)
 | [], s, s', _, h => by
  cases h
  exact gI.refl s
 | a :: l, s, s', hl, h => by
  have ha := hl a (by simp); have hr : ∀ b ∈ l, b.parts.length ≤ 4000 := fun b hb => hl b (by simp [hb])
  have e : (a :: l).length * 4001 = 4001 + l.length * 4001 := by rw [List.length_cons, Nat.succ_mul, Nat.add_comm]
  rw [e]; unfold zCI at h; split at h
  ·cases h
  ·rename_i s1 h1
   have k1 := zAA _ _ _ h1; split at h
   ·exact (k1.trans (zBA l s1 s' hr h)).mono (by omega)
   ·split at h
    ·cases h
    ·rename_i s2 h2
     exact ((k1.trans (used_keeps h2)).trans (zBA l s2 s' hr h)).mono (by omega)
set_option maxRecDepth 100000 in
theorem zED : ∀ (l : List Rule) (s s' : Mk), (∀ r ∈ l, r.alts.length ≤ 4000 ∧ ∀ a ∈ r.alts, a.parts.length ≤ 4000) → kN l s = .ok s' → gI s s' (l.length * 16004000)
 | [], s, s', _, h => by
  cases h
  exact gI.refl s
 | r :: l, s, s', hl, h => by
  have ha := hl r (by simp); have hr : ∀ b ∈ l, b.alts.length ≤ 4000 ∧ ∀ a ∈ b.alts, a.parts.length ≤ 4000 := fun b hb => hl b (by simp [hb])
  have e : (r :: l).length * 16004000 = 16004000 + l.length * 16004000 := by rw [List.length_cons, Nat.succ_mul, Nat.add_comm]
  rw [e]; unfold kN at h; split at h
  ·cases h
  ·rename_i s1 h1
   have k1 := zBA _ _ _ ha.2 h1; have h4 : r.alts.length * 4001 ≤ 4000 * 4001 := Nat.mul_le_mul_right 4001 ha.1; exact ((k1.mono h4).trans (zED l s1 s' hr h)).mono (by omega)
structure j9 (s s' : Mk) (n : Nat) : Prop where
 toks : s'.toks = s.toks
 given : s'.given = s.given
 lefts : s'.lefts = s.lefts
 nons : s'.nons.length ≤ s.nons.length + n
 prods : s'.prods.length ≤ s.prods.length + n
 rights : (∀ p ∈ s.prods, p.right.length ≤ 4000) → ∀ p ∈ s'.prods, p.right.length ≤ 4000
theorem j9.refl (s : Mk) : j9 s s 0 := ⟨rfl, rfl, rfl, Nat.le_refl _, Nat.le_refl _, id⟩
theorem j9.trans {s s1 s2 : Mk} {n m : Nat} (h : j9 s s1 n) (k : j9 s1 s2 m) : j9 s s2 (n + m) :=
 ⟨k.toks.trans h.toks, k.given.trans h.given, k.lefts.trans h.lefts, by have := h.nons; have := k.nons; omega, by have := h.prods; have := k.prods; omega, fun h0 => k.rights (h.rights h0)⟩
theorem j9.mono {s s1 : Mk} {n m : Nat} (h : j9 s s1 n) (hn : n ≤ m) : j9 s s1 m := ⟨h.toks, h.given, h.lefts, Nat.le_trans h.nons (by omega), Nat.le_trans h.prods (by omega), h.rights⟩
theorem zAQ (n : Nat) : ∀ (l : List Part) (k : Nat) (p : Prod) (inner : Nat) (s : Mk), j9 s (kH n k l (p, inner, s)).2.2 l.length ∧ (kH n k l (p, inner, s)).1.right.length ≤ p.right.length + l.length
 | [], k, p, inner, s => ⟨j9.refl s, Nat.le_refl _⟩
 | x :: l, k, p, inner, s => by
  have e : (x :: l).length = 1 + l.length := by rw [List.length_cons, Nat.add_comm]
  rw [e]; unfold kH; split
  ·obtain ⟨a, b⟩ := zAQ n l (k + 1) { p with right := p.right ++ [zAL s x.sym], prec := if zAL s x.sym < 1000 then zAL s x.sym else p.prec } inner s
   refine ⟨a.mono (by omega), ?_⟩; simp only [List.length_append, List.length_cons, List.length_nil] at b; refine Nat.le_trans b ?_; omega
  ·split
   ·obtain ⟨a, b⟩ := zAQ n l (k + 1) { p with code := x.code, at_ := x.at_ } inner s
    refine ⟨a.mono (by omega), ?_⟩; simp only at b; exact Nat.le_trans b (by omega)
   ·simp only
    obtain ⟨L, hL⟩ : ∃ L : List Non, L = s.nons ++ [⟨64 :: Lib.itoa ((inner + 1 : Nat) : Int), []⟩] := ⟨_, rfl⟩
    have hLl : L.length = s.nons.length + 1 := by rw [hL]; simp
    rw [← hL]; have k1 := zAQ n l (k + 1) { p with right := p.right ++ [1000 + (L.length : Int) - 1] } (inner + 1) { s with nons := L, prods := s.prods ++ [⟨(L.length : Int) - 1, [], -1, x.code, p.right, x.at_⟩] }; obtain ⟨a, b⟩ := k1; refine ⟨j9.trans (n := 1) (s1 := { s with nons := L, prods := s.prods ++ [⟨(L.length : Int) - 1, [], -1, x.code, p.right, x.at_⟩] }) ⟨rfl, rfl, rfl, by simp only; omega, by simp, fun h0 q hq => ?_⟩ a, ?_⟩
    ·simp only [List.mem_append, List.mem_singleton] at hq
     rcases hq with hq | rfl
     ·exact h0 q hq
     ·simp
    ·simp only [List.length_append, List.length_cons, List.length_nil] at b ⊢
     refine Nat.le_trans b ?_; omega
theorem altMk_keeps (left : Int) (a : Alt) (inner : Nat) (s : Mk) (h : a.parts.length ≤ 4000) : j9 s (altMk left a inner s).2 4001 := by
 obtain ⟨k1, k2⟩ := zAQ a.parts.length a.parts 0 ⟨left, [], -1, [], [], a.at_⟩ inner s; unfold altMk; simp only; refine j9.mono (k1.trans (m := 1) ⟨rfl, rfl, rfl, by simp, by simp, fun h0 q hq => ?_⟩) (by omega); simp only [List.mem_append, List.mem_singleton] at hq; rcases hq with hq | rfl
 ·exact h0 q hq
 ·simp only [List.length_nil, Nat.zero_add] at k2
  split <;> (simp only; omega)
theorem altsMk_keeps (left : Int) : ∀ (l : List Alt) (r : Nat × Mk), (∀ a ∈ l, a.parts.length ≤ 4000) → j9 r.2 (altsMk left l r).2 (l.length * 4001)
 | [], r, _ => j9.refl r.2
 | a :: l, r, h => by
  have e : (a :: l).length * 4001 = 4001 + l.length * 4001 := by rw [List.length_cons, Nat.succ_mul, Nat.add_comm]
  rw [e]; unfold altsMk; exact (altMk_keeps left a r.1 r.2 (h a (by simp))).trans (altsMk_keeps left l _ (fun b hb => h b (by simp [hb])))
set_option maxRecDepth 100000 in
theorem zDX : ∀ (l : List Rule) (r : Nat × Mk), (∀ x ∈ l, x.alts.length ≤ 4000 ∧ ∀ a ∈ x.alts, a.parts.length ≤ 4000) → j9 r.2 (vW l r).2 (l.length * 16004000)
 | [], r, _ => j9.refl r.2
 | x :: l, r, h => by
  have e : (x :: l).length * 16004000 = 16004000 + l.length * 16004000 := by rw [List.length_cons, Nat.succ_mul, Nat.add_comm]
  rw [e]; unfold vW; have h4 : x.alts.length * 4001 ≤ 4000 * 4001 := Nat.mul_le_mul_right 4001 (h x (by simp)).1; exact ((altsMk_keeps _ x.alts r (h x (by simp)).2).mono h4).trans (zDX l _ (fun b hb => h b (by simp [hb])))
theorem prodsMk_keeps {x : zM} {s : Mk} (h : ∀ r ∈ x.rules, r.alts.length ≤ 4000 ∧ ∀ a ∈ r.alts, a.parts.length ≤ 4000) : j9 s (kB x s) (1 + x.rules.length * 16004000) := by
 unfold kB; simp only; refine j9.trans (n := 1) ?_ (zDX x.rules (_, _) h); refine ⟨rfl, rfl, rfl, by simp, by simp, fun h0 q hq => ?_⟩; simp only [List.mem_append, List.mem_singleton] at hq; rcases hq with hq | rfl
 ·exact h0 q hq
 ·simp
theorem numGo_len : ∀ (ts : List Tok) (gs : List Bool) (n : Int), (jC n ts gs).length = ts.length
 | [], gs, n => by cases gs <;> rfl
 | t :: ts, [], n => rfl
 | t :: ts, g :: gs, n => by
  unfold jC; split <;> simp [numGo_len ts gs]
theorem numbersMk_len (s : Mk) : (xX s).toks.length = s.toks.length := by
 unfold xX; simp only [List.length_append, numGo_len, List.length_take, List.length_drop]; omega
theorem quotable_one {l : List UInt8} (h : kD l = true) : ∃ c, l = [c] := by
 unfold kD at h; split at h
 ·exact ⟨_, rfl⟩
 ·cases h
theorem isSym_lit {y : Sym} (h : kE y = true) (hl : y.lit = true) : ∃ c, y.name = [c] := by
 unfold kE at h; rw [if_pos hl] at h; exact quotable_one h
theorem mayDecl_ok {d : Decl} (h : yF d = true) : (1 ≤ d.kind ∧ d.kind ≤ 6) ∧ ∀ y ∈ d.syms, y.lit = true → ∃ c, y.name = [c] := by
 unfold yF at h; split at h
 ·cases h
 ·rename_i hk
  split at h
  ·cases h
  ·split at h
   ·cases h
   ·refine ⟨by omega, fun y hy hl => ?_⟩
    have h1 := List.all_eq_true.1 h y hy; unfold yH at h1; split at h1
    ·cases h1
    ·rename_i hs
     refine isSym_lit ?_ hl; cases he : kE y
     ·exact absurd (Or.inl he) hs
     ·rfl
theorem mayAlt_ok {a : Alt} (h : qZ a = true) : (∀ p ∈ a.parts, p.code = [] → p.sym.lit = true → ∃ c, p.sym.name = [c]) ∧ (a.prec.name ≠ [] → a.prec.lit = true → ∃ c, a.prec.name = [c]) := by
 unfold qZ at h; rw [Bool.and_eq_true, Bool.or_eq_true] at h; obtain ⟨h1, h2⟩ := h; refine ⟨fun p hp hc hl => ?_, fun hn hl => ?_⟩
 ·have h3 := List.all_eq_true.1 h2 p hp
  unfold xH at h3; rw [if_pos hc] at h3; unfold kW at h3; exact isSym_lit (Bool.and_eq_true_iff.1 h3).1 hl
 ·rcases h1 with h1 | h1
  ·unfold isNone at h1
   simp only [Bool.and_eq_true, List.isEmpty_iff] at h1; exact absurd h1.1.1 hn
  ·unfold kW at h1
   exact isSym_lit (Bool.and_eq_true_iff.1 h1).1 hl
theorem may_ok {x : zM} (h : may x = true) : 0 < x.rules.length ∧ (∀ d ∈ x.decls, yF d = true) ∧ ∀ r ∈ x.rules, ∀ a ∈ r.alts, qZ a = true := by
 unfold may at h; simp only [Bool.and_eq_true, List.all_eq_true, decide_eq_true_eq] at h; refine ⟨h.1.1.2, h.1.2, fun r hr a ha => ?_⟩; have h1 := h.2 r hr; unfold qL at h1; simp only [Bool.and_eq_true, List.all_eq_true] at h1; exact h1.2 a ha
def ofTail (x : zM) (s : Mk) : Gram × Fault :=
 if great (xX (kB x s)) = true then (xG, ⟨4, 0, []⟩) else (⟨(xX (kB x s)).toks, (xX (kB x s)).nons, (xX (kB x s)).prods, x.pro, x.tail⟩, ⟨0, 0, []⟩)
theorem gram_none {x : zM} (h : may x = false) : jL x = (xG, ⟨1, 0, []⟩) := by
 unfold jL; rw [h]; rfl
theorem gram_err1 {x : zM} {e : Stop} (h : may x = true) (h1 : qM 0 x.decls mk0 = .error e) : jL x = (xG, ⟨3, e.2, e.1⟩) := by
 unfold jL; rw [h, h1]; rfl
theorem gram_err2 {x : zM} {e : Stop} {s1 : Mk} (h : may x = true) (h1 : qM 0 x.decls mk0 = .ok s1) (h2 : vI x s1 = .error e) : jL x = (xG, ⟨3, e.2, e.1⟩) := by
 unfold jL; rw [h, h1]; simp only [Bool.true_eq_false, if_false]; rw [h2]
theorem gram_err3 {x : zM} {e : Stop} {s1 s2 : Mk} (h : may x = true) (h1 : qM 0 x.decls mk0 = .ok s1) (h2 : vI x s1 = .ok s2) (h3 : kN x.rules s2 = .error e) : jL x = (xG, ⟨3, e.2, e.1⟩) := by
 unfold jL; rw [h, h1]; simp only [Bool.true_eq_false, if_false]; rw [h2]; simp only; rw [h3]
theorem gram_tail {x : zM} {s1 s2 s3 : Mk} (h : may x = true) (h1 : qM 0 x.decls mk0 = .ok s1) (h2 : vI x s1 = .ok s2) (h3 : kN x.rules s2 = .ok s3) : jL x = ofTail x s3 := by
 unfold jL; rw [h, h1]; simp only [Bool.true_eq_false, if_false]; rw [h2]; simp only; rw [h3]; rfl
end Sp


section
variable {P : Program} {ops : Array Oper} {Q : Exit → Act → World → Prop} {md : Region.Mode}
theorem z7 {i : Nat} {o : Oper} {K : Act → World → Prop} {a : Act} {w : World} (ho : ops[i]? = some o)
  (h : ∀ K' : Act → World → Prop, (∀ a w, K a w → K' a w) → if Region.wanted o (yielded ops a.tmps) = true then Oper.wp P o a w K' Q else K' (a.put o.dst undef) w) : wpOp P ops Q i K a w := by
 have h1 := h K (fun _ _ h => h); unfold wpOp; rw [ho]; show if Region.wanted o (yielded ops a.tmps) = true then (Oper.wp P o a w K Q ∨ _) else _
 by_cases hw : Region.wanted o (yielded ops a.tmps) = true
 ·rw [if_pos hw] at h1 ⊢
  exact .inl h1
 ·rw [if_neg hw] at h1 ⊢
  exact h1
theorem all_listed {listed : Array Bool} (hs : listed.size = ops.size) (hr : Region.ready md ops listed = []) (hc : ((List.range ops.size).all fun i => match ops[i]? with
   | some o => o.after.all fun e => decide (e.on < i)
   | none => true) = true) : ∀ i, i < ops.size → listed.getD i false = true := by
 intro i
 induction i using Nat.strongRecOn with
 | _ i ih =>
  intro hi; apply Classical.byContradiction
  intro hn
  have hmem : i ∈ Region.ready md ops listed := by
   rw [mem_ready]; refine ⟨?_, ops[i], Array.getElem?_eq_getElem hi, fun e he _ => ?_⟩
   ·rw [Array.getD_eq_getD_getElem?, Array.getElem?_eq_getElem (by omega)] at hn ⊢
    simpa using hn
   ·have h1 := List.all_eq_true.1 hc i (List.mem_range.2 hi)
    rw [Array.getElem?_eq_getElem hi] at h1
    have h2 : e.on < i := by
     have := Array.all_eq_true_iff_forall_mem.1 h1 e he; exact of_decide_eq_true this
    exact ih e.on h2 (by omega)
  rw [hr] at hmem; cases hmem
end
theorem getD_set_self {listed : Array Bool} {i : Nat} (h : listed.getD i true = false) : (listed.setIfInBounds i true).getD i false = true := by
 have hlt : i < listed.size := by
  apply Classical.byContradiction
  intro hn; rw [Array.getD_eq_getD_getElem?, Array.getElem?_eq_none (by omega)] at h; cases h
 rw [Array.getD_eq_getD_getElem?, Array.getElem?_setIfInBounds]; simp [hlt]

theorem keyL_none (key : Value) : keyL (fun _ _ => none) key = none := by
 cases key with
 | agg cs =>
  obtain ⟨l⟩ := cs; rcases l with _ | ⟨a, _ | ⟨b, _ | ⟨c, l⟩⟩⟩
  ·rfl
  ·rfl
  ·cases a <;> first | rfl | skip
   cases b <;> rfl
  ·rfl
 | _ => rfl
theorem tokL_mk0 : tokL Sp.mk0.toks (.agg #[.string ⟨Sp.jE.toArray⟩, .bool false]) = some (.int .i64 1) ∧ ∀ key', key' ≠ Value.agg #[.string ⟨Sp.jE.toArray⟩, .bool false] → tokL Sp.mk0.toks key' = none := by
 constructor
 ·rfl
 ·intro key' hne
  have e : tokL Sp.mk0.toks key' = keyL (fun _ _ => none) key' := keyL_congr fun nm lt e => by
   have h : ¬ (nm = Sp.jE ∧ lt = false) := by
    rintro ⟨rfl, rfl⟩; exact hne e
   unfold Sp.yD; rw [if_neg h]; rfl
  rw [e]; exact keyL_none key'
theorem nonL_nil : nonL [] = fun _ => none := by
 funext v
 cases v <;> rfl
theorem typL_nil : typL [] = fun _ => none := by
 funext v
 cases v <;> rfl
structure xS (W w : World) (b1 b6 b7 : Nat) (gv : Value) (l1 l3 l5 l6 l7 : Bool) : Prop where
 below : Below W.heap.size W w
 m1 : l1 = true → W.heap.size ≤ b1 ∧ xE Tryz.prog 94 w b1 (if l3 = true then 1 else 0) (if l3 = true then tokL Sp.mk0.toks else fun _ => none)
 s5 : l5 = true → w.ownsRow W.heap.size 4 1 gv 3 [.bool false, .bool false, .bool false]
 m6 : l6 = true → W.heap.size ≤ b6 ∧ xE Tryz.prog 9 w b6 0 (fun _ => none)
 m7 : l7 = true → W.heap.size ≤ b7 ∧ xE Tryz.prog 9 w b7 0 (fun _ => none)
 ne16 : l1 = true → l6 = true → b1 ≠ b6
 ne17 : l1 = true → l7 = true → b1 ≠ b7
 ne67 : l6 = true → l7 = true → b6 ≠ b7
section
variable {W w : World} {b1 b6 b7 : Nat} {gv : Value} {l1 l3 l5 l6 l7 : Bool}
theorem litInv0 {W w : World} (gv : Value) (h : Below W.heap.size W w) : xS W w 0 0 0 gv false false false false false :=
 ⟨h, fun h => (Bool.noConfusion h), fun h => (Bool.noConfusion h), fun h => (Bool.noConfusion h), fun h => (Bool.noConfusion h), fun h => (Bool.noConfusion h), fun h => (Bool.noConfusion h), fun h => (Bool.noConfusion h)⟩
theorem xS.onto {w' : World} (h : xS W w b1 b6 b7 gv l1 l3 l5 l6 l7) (hb : Below w.heap.size w w') : xS W w' b1 b6 b7 gv l1 l3 l5 l6 l7 :=
 ⟨h.below.trans (hb.mono h.below.size), fun e => ⟨(h.m1 e).1, (h.m1 e).2.block (hb.block _ (h.m1 e).2.lt)⟩, fun e => zL (h.s5 e) hb, fun e => ⟨(h.m6 e).1, (h.m6 e).2.block (hb.block _ (h.m6 e).2.lt)⟩, fun e => ⟨(h.m7 e).1, (h.m7 e).2.block (hb.block _ (h.m7 e).2.lt)⟩, h.ne16, h.ne17, h.ne67⟩
theorem xS.alloc (h : xS W w b1 b6 b7 gv l1 l3 l5 l6 l7) (o : Obj) : xS W (w.alloc o) b1 b6 b7 gv l1 l3 l5 l6 l7 := h.onto ((Below.refl _ w).alloc (Nat.le_refl _) o)
theorem xS.map1 (h : xS W w b1 b6 b7 gv false false l5 l6 l7) : xS W (w.alloc (.map #[] 0)) w.heap.size b6 b7 gv true false l5 l6 l7 := by
 have k := h.alloc (.map #[] 0); exact ⟨k.below, fun _ => ⟨h.below.size, xE.made _ _ w⟩, k.s5, k.m6, k.m7, fun _ e => by have := (h.m6 e).2.lt; omega, fun _ e => by have := (h.m7 e).2.lt; omega, k.ne67⟩
theorem xS.map6 (h : xS W w b1 b6 b7 gv l1 l3 l5 false l7) : xS W (w.alloc (.map #[] 0)) b1 w.heap.size b7 gv l1 l3 l5 true l7 := by
 have k := h.alloc (.map #[] 0); exact ⟨k.below, k.m1, k.s5, fun _ => ⟨h.below.size, xE.made _ _ w⟩, k.m7, fun e _ => by have := (h.m1 e).2.lt; omega, k.ne17, fun _ e => by have := (h.m7 e).2.lt; omega⟩
theorem xS.map7 (h : xS W w b1 b6 b7 gv l1 l3 l5 l6 false) : xS W (w.alloc (.map #[] 0)) b1 b6 w.heap.size gv l1 l3 l5 l6 true := by
 have k := h.alloc (.map #[] 0); exact ⟨k.below, k.m1, k.s5, k.m6, fun _ => ⟨h.below.size, xE.made _ _ w⟩, k.ne16, fun e _ => by have := (h.m1 e).2.lt; omega, fun e _ => by have := (h.m6 e).2.lt; omega⟩
theorem xS.put3 (h : xS W w b1 b6 b7 gv true false l5 l6 l7) : ∃ w', (Instr.mapUpdate 95 (.map (some b1)) (.agg #[.string ⟨Sp.jE.toArray⟩, .bool false]) (.int .i64 1)).run Tryz.prog w = .ok () w' ∧ xS W w' b1 b6 b7 gv true true l5 l6 l7 := by
 obtain ⟨hb, hm⟩ := h.m1 rfl; obtain ⟨kl, hkl⟩ := zBO (s := Sp.jE) (b := false) (by unfold maxLen; decide); obtain ⟨w', hr, hm', hg⟩ := hm.update (val := .int .i64 1) zAP Tryz.underlying95 (by unfold maxLen; decide) hkl (tokL Sp.mk0.toks) tokL_mk0.1 (fun k hk => tokL_mk0.2 k hk); have hy := hm.isMap; have k : Kp (fun b => b ≠ b1) w w' := (Kp.refl _ w).grown hg (fun k hk hn => hn (Option.some.inj hk).symm); refine ⟨w', hr, ⟨?_, fun _ => ⟨hb, hm'⟩, fun e => zP (h.s5 e) k (xR (h.s5 e) hy), fun e => ⟨(h.m6 e).1, (h.m6 e).2.block (k.block _ (h.m6 e).2.lt (h.ne16 rfl e).symm)⟩, fun e => ⟨(h.m7 e).1, (h.m7 e).2.block (k.block _ (h.m7 e).2.lt (h.ne17 rfl e).symm)⟩, h.ne16, h.ne17, h.ne67⟩⟩
 exact h.below.trans (Kp.below k h.below.size (fun b hlt => by
  show b ≠ b1
  omega))
theorem xS.slice5 (h : xS W w b1 b6 b7 gv l1 l3 false l6 l7) : xS W (w.alloc (.cells #[.bool false, .bool false, .bool false] 4)) b1 b6 b7 (.slice (some ⟨w.heap.size, 0, none⟩) 3 3) l1 l3 true l6 l7 := by
 have k := h.alloc (.cells #[.bool false, .bool false, .bool false] 4); exact ⟨k.below, k.m1, fun _ => World.ownsRow_lit w #[.bool false, .bool false, .bool false] 3 h.below.size (by unfold maxLen; decide) rfl, k.m6, k.m7, k.ne16, k.ne17, k.ne67⟩
end
structure LitR where
 s4 : Value
 t10 : Value
 t11 : Value
 t12 : Value
 t13 : Value
 t14 : Value
 t15 : Value
 t16 : Value
 t17 : Value
 t18 : Value
def LitR.act (a : Act) (r : LitR) : Act :=
 (((((((((a.put (some 10) r.t10).put (some 11) r.t11).put (some 12) r.t12).put (some 13) r.t13).put (some 14) r.t14).put (some 15) r.t15).put (some 16) r.t16).put (some 17) r.t17).put (some 18) r.t18).put (some 4) r.s4
def mkLit (x : Sp.zM) (vd vr : Value) (b1 b6 b7 : Nat) (gv : Value) : Array Value := #[.string ⟨x.pro.toArray⟩, vd, vr, .string ⟨x.tail.toArray⟩, .slice none 0 0, .slice none 0 0, .slice none 0 0, .string ⟨#[]⟩, .string ⟨#[]⟩, .map (some b1), gv, .map (some b6), .map (some b7), .string ⟨#[]⟩, .int .i64 0, .int .i64 0, .string ⟨#[]⟩]
def keyErr : Value := .agg #[.string ⟨Sp.jE.toArray⟩, .bool false]
def LitI (x : Sp.zM) (vd vr : Value) (W : World) (L : Nat → Bool) (r : LitR) (w : World) : Prop :=
 ∃ b1 b6 b7, xS W w b1 b6 b7 r.t14 (L 1) (L 3) (L 5) (L 6) (L 7) ∧ (L 0 = true → r.t10 = .agg (srcC vd vr x).toArray) ∧ (L 1 = true → r.t11 = .map (some b1)) ∧ (L 2 = true → r.t12 = keyErr) ∧ (L 4 = true → r.t13 = .map (some b1)) ∧
  (L 6 = true → r.t15 = .map (some b6)) ∧ (L 7 = true → r.t16 = .map (some b7)) ∧ (L 8 = true → r.t17 = .agg (mkLit x vd vr b1 b6 b7 r.t14)) ∧
  (L 9 = true → ∃ m, r.t18 = .pointer (some ⟨m, 0, none⟩) ∧ W.heap.size ≤ m ∧ w.heap[m]? = some (.cells (mkLit x vd vr b1 b6 b7 r.t14) 99 (0, 0))) ∧ (L 10 = true → r.s4 = r.t18)
structure LitCl (L : Nat → Bool) : Prop where
 c3 : L 3 = true → L 1 = true ∧ L 2 = true
 c4 : L 4 = true → L 1 = true ∧ L 3 = true
 c8 : L 8 = true → L 0 = true ∧ L 4 = true ∧ L 5 = true ∧ L 6 = true ∧ L 7 = true
 c9 : L 9 = true → L 8 = true
 c10 : L 10 = true → L 9 = true
def updL (L : Nat → Bool) (i : Nat) : Nat → Bool := fun j => if j = i then true else L j
def waits (ops : Array Oper) (i j : Nat) : Bool := match ops[i]? with
 | some o => o.after.any fun e => Region.binds .any e && e.on == j
 | none => false
theorem closed_waits {ops : Array Oper} {listed : Array Bool} (h : xL .any ops listed) {i j : Nat} (hw : waits ops i j = true) (hi : listed.getD i false = true) : listed.getD j false = true := by
 unfold waits at hw; split at hw
 ·rename_i o ho
  obtain ⟨e, he, hb⟩ := Array.any_eq_true'.1 hw; simp only [Bool.and_eq_true, beq_iff_eq] at hb; rw [← hb.2]; exact h i o ho hi e he hb.1
 ·cases hw
theorem ready_waits {ops : Array Oper} {listed : Array Bool} {i j : Nat} (h : i ∈ Region.ready .any ops listed) (hw : waits ops i j = true) : listed.getD j false = true := by
 obtain ⟨_, o, ho, hall⟩ := mem_ready.1 h; unfold waits at hw; rw [ho] at hw; obtain ⟨e, he, hb⟩ := Array.any_eq_true'.1 hw; simp only [Bool.and_eq_true, beq_iff_eq] at hb; rw [← hb.2]; exact hall e he hb.1
theorem updL_listed {listed : Array Bool} {i : Nat} (h : listed.getD i true = false) : (fun j => (listed.setIfInBounds i true).getD j false) = updL (fun j => listed.getD j false) i := by
 funext j
 unfold updL; by_cases hj : j = i
 ·subst hj
  rw [if_pos rfl]; exact getD_set_self h
 ·rw [if_neg hj]
  exact getD_set_ne false (fun e => hj e.symm)
theorem zAF {listed : Array Bool} {i : Nat} (h : listed.getD i true = false) : listed.getD i false = false := by
 rw [Array.getD_eq_getD_getElem?] at h ⊢
 cases hx : listed[i]? with
 | none => rfl
 | some b => rw [hx] at h; exact h
theorem wp_region_lit {P : Program} {ops : Array Oper} {Q : Exit → Act → World → Prop} (I : (Nat → Bool) → LitR → World → Prop) {id : Nat} {a : Act} {w : World} (hm : P.follows .mixedOrders = true)
  (hc : ((List.range ops.size).all fun i => match ops[i]? with
   | some o => o.after.all fun e => decide (e.on < i)
   | none => true) = true)
  (hstep : ∀ (L : Nat → Bool) (r : LitR) (w : World) (i : Nat), i < ops.size → L i = false → (∀ j, waits ops i j = true → L j = true) → (∀ i j, waits ops i j = true → L i = true → L j = true) → I L r w → wpOp P ops Q i (fun a' w' => ∃ r', a' = LitR.act a r' ∧ I (updL L i) r' w') (LitR.act a r) w)
  (hend : ∀ (L : Nat → Bool) (r : LitR) (w : World), (∀ i, i < ops.size → L i = true) → I L r w → Q .normal (LitR.act a r) w)
  (r0 : LitR) (h0 : a = LitR.act a r0) (h1 : I (fun _ => false) r0 w.drew) : (Code.region id ops true).wp P Q a w := by
 refine zDV (fun listed a' w' => listed.size = ops.size ∧ ∃ r, a' = LitR.act a r ∧ I (fun i => listed.getD i false) r w') hm ?_ ?_ ?_
 ·rintro listed a' w' i hcl hi ⟨hsz, r, rfl, hI⟩
  have hun := (mem_ready.1 hi).1
  have hlt : i < ops.size := by
   obtain ⟨_, o, ho, _⟩ := mem_ready.1 hi; exact (Array.getElem?_eq_some_iff.1 ho).1
  refine wpOp_mono ?_ (hstep (fun i => listed.getD i false) r w' i hlt (zAF hun) (fun j hj => ready_waits hi hj) (fun i j hw h => closed_waits hcl hw h) hI); rintro a2 w2 ⟨r2, rfl, h2⟩; refine ⟨by rw [Array.size_setIfInBounds]; exact hsz, r2, rfl, ?_⟩; rw [updL_listed hun]; exact h2
 ·rintro listed a' w' hcl hr ⟨hsz, r, rfl, hI⟩
  exact hend _ r w' (all_listed hsz hr hc) hI
 ·refine ⟨by simp, r0, h0, ?_⟩
  have e : (fun i => (Array.replicate ops.size false).getD i false) = fun _ => false := by
   funext i
   exact getD_replicate_false ops.size i
  rw [e]; exact h1
section
variable {x : Sp.zM} {vd vr : Value} {W w : World} {L : Nat → Bool} {r : LitR}
theorem z8 {b : Bool} (h : b = false) : ¬ b = true := by rw [h]; simp
theorem LitI.start (h : Below W.heap.size W w) (hL : ∀ i, L i = false) (r : LitR) : LitI x vd vr W L r w := by
 refine ⟨0, 0, 0, ?_, ?_⟩
 ·rw [hL 1, hL 3, hL 5, hL 6, hL 7]
  exact litInv0 _ h
 ·simp only [hL]
  simp
theorem LitI.o0 (h : LitI x vd vr W L r w) (c : LitCl L) (h0 : L 0 = false) : LitI x vd vr W (updL L 0) { r with t10 := .agg (srcC vd vr x).toArray } w := by
 obtain ⟨b1, b6, b7, hi, a0, a1, a2, a4, a6, a7, a8, a9, a10⟩ := h; exact ⟨b1, b6, b7, hi, fun _ => rfl, a1, a2, a4, a6, a7, a8, a9, a10⟩
theorem LitI.o1 (h : LitI x vd vr W L r w) (c : LitCl L) (h1 : L 1 = false) : LitI x vd vr W (updL L 1) { r with t11 := .map (some w.heap.size) } (w.alloc (.map #[] 0)) := by
 obtain ⟨b1, b6, b7, hi, a0, a1, a2, a4, a6, a7, a8, a9, a10⟩ := h
 have h3 : L 3 = false := by cases h : L 3 with
  | false => rfl
  | true => exact absurd (c.c3 h).1 (z8 h1)
 have h4 : L 4 = false := by cases h : L 4 with
  | false => rfl
  | true => exact absurd (c.c4 h).1 (z8 h1)
 have h8 : L 8 = false := by cases h : L 8 with
  | false => rfl
  | true => exact absurd (c.c8 h).2.1 (z8 h4)
 have h9 : L 9 = false := by cases h : L 9 with
  | false => rfl
  | true => exact absurd (c.c9 h) (z8 h8)
 rw [h1, h3] at hi; refine ⟨w.heap.size, b6, b7, ?_, a0, fun _ => rfl, a2, fun e => absurd e (z8 h4), a6, a7, fun e => absurd e (z8 h8), fun e => absurd e (z8 h9), a10⟩; show xS W _ _ b6 b7 r.t14 true (L 3) (L 5) (L 6) (L 7)
 rw [h3]; exact hi.map1
theorem LitI.o2 (h : LitI x vd vr W L r w) (c : LitCl L) (h0 : L 2 = false) : LitI x vd vr W (updL L 2) { r with t12 := keyErr } w := by
 obtain ⟨b1, b6, b7, hi, a0, a1, a2, a4, a6, a7, a8, a9, a10⟩ := h; exact ⟨b1, b6, b7, hi, a0, a1, fun _ => rfl, a4, a6, a7, a8, a9, a10⟩
theorem LitI.o3 (h : LitI x vd vr W L r w) (c : LitCl L) (h3 : L 3 = false) (h1 : L 1 = true) (h2 : L 2 = true) : ∃ b1 w', r.t11 = .map (some b1) ∧ r.t12 = keyErr ∧ (Instr.mapUpdate 95 (.map (some b1)) keyErr (.int .i64 1)).run Tryz.prog w = .ok () w' ∧ LitI x vd vr W (updL L 3) r w' := by
 obtain ⟨b1, b6, b7, hi, a0, a1, a2, a4, a6, a7, a8, a9, a10⟩ := h
 have h4 : L 4 = false := by cases h : L 4 with
  | false => rfl
  | true => exact absurd (c.c4 h).2 (z8 h3)
 have h8 : L 8 = false := by cases h : L 8 with
  | false => rfl
  | true => exact absurd (c.c8 h).2.1 (z8 h4)
 have h9 : L 9 = false := by cases h : L 9 with
  | false => rfl
  | true => exact absurd (c.c9 h) (z8 h8)
 rw [h1, h3] at hi; obtain ⟨w', hr, hk⟩ := hi.put3; refine ⟨b1, w', a1 h1, a2 h2, hr, b1, b6, b7, ?_, a0, a1, a2, a4, a6, a7, a8, fun e => absurd e (z8 h9), a10⟩; show xS W _ _ b6 b7 r.t14 (L 1) true (L 5) (L 6) (L 7)
 rw [h1]; exact hk
theorem LitI.o4 (h : LitI x vd vr W L r w) (c : LitCl L) (h0 : L 4 = false) (h1 : L 1 = true) : LitI x vd vr W (updL L 4) { r with t13 := r.t11 } w := by
 obtain ⟨b1, b6, b7, hi, a0, a1, a2, a4, a6, a7, a8, a9, a10⟩ := h; exact ⟨b1, b6, b7, hi, a0, a1, a2, fun _ => a1 h1, a6, a7, a8, a9, a10⟩
theorem LitI.later8 (c : LitCl L) (h : L 0 = false ∨ L 4 = false ∨ L 5 = false ∨ L 6 = false ∨ L 7 = false) : L 8 = false ∧ L 9 = false := by
 have h8 : L 8 = false := by cases e : L 8 with
  | false => rfl
  | true =>
   obtain ⟨p0, p4, p5, p6, p7⟩ := c.c8 e; rw [p0, p4, p5, p6, p7] at h; simp at h
 refine ⟨h8, ?_⟩
 cases e : L 9 with
 | false => rfl
 | true => exact absurd (c.c9 e) (z8 h8)
theorem LitI.o5 (h : LitI x vd vr W L r w) (c : LitCl L) (h5 : L 5 = false) : LitI x vd vr W (updL L 5) { r with t14 := .slice (some ⟨w.heap.size, 0, none⟩) 3 3 } (w.alloc (.cells #[.bool false, .bool false, .bool false] 4)) := by
 obtain ⟨b1, b6, b7, hi, a0, a1, a2, a4, a6, a7, a8, a9, a10⟩ := h; obtain ⟨h8, h9⟩ := LitI.later8 c (.inr (.inr (.inl h5))); rw [h5] at hi; exact ⟨b1, b6, b7, hi.slice5, a0, a1, a2, a4, a6, a7, fun e => absurd e (z8 h8), fun e => absurd e (z8 h9), a10⟩
theorem LitI.o6 (h : LitI x vd vr W L r w) (c : LitCl L) (h6 : L 6 = false) : LitI x vd vr W (updL L 6) { r with t15 := .map (some w.heap.size) } (w.alloc (.map #[] 0)) := by
 obtain ⟨b1, b6, b7, hi, a0, a1, a2, a4, a6, a7, a8, a9, a10⟩ := h; obtain ⟨h8, h9⟩ := LitI.later8 c (.inr (.inr (.inr (.inl h6)))); rw [h6] at hi; exact ⟨b1, w.heap.size, b7, hi.map6, a0, a1, a2, a4, fun _ => rfl, a7, fun e => absurd e (z8 h8), fun e => absurd e (z8 h9), a10⟩
theorem LitI.o7 (h : LitI x vd vr W L r w) (c : LitCl L) (h7 : L 7 = false) : LitI x vd vr W (updL L 7) { r with t16 := .map (some w.heap.size) } (w.alloc (.map #[] 0)) := by
 obtain ⟨b1, b6, b7, hi, a0, a1, a2, a4, a6, a7, a8, a9, a10⟩ := h; obtain ⟨h8, h9⟩ := LitI.later8 c (.inr (.inr (.inr (.inr h7)))); rw [h7] at hi; exact ⟨b1, b6, w.heap.size, hi.map7, a0, a1, a2, a4, a6, fun _ => rfl, fun e => absurd e (z8 h8), fun e => absurd e (z8 h9), a10⟩
theorem LitI.o8 (h : LitI x vd vr W L r w) (c : LitCl L) (h8 : L 8 = false) (h0 : L 0 = true) (h4 : L 4 = true) (h5 : L 5 = true) (h6 : L 6 = true) (h7 : L 7 = true) : ∃ b1 b6 b7 g5 c5, r.t14 = .slice (some ⟨g5, 0, none⟩) 3 c5 ∧ r.t10 = .agg (srcC vd vr x).toArray ∧ r.t13 = .map (some b1) ∧ r.t15 = .map (some b6) ∧ r.t16 = .map (some b7) ∧ LitI x vd vr W (updL L 8) { r with t17 := .agg (mkLit x vd vr b1 b6 b7 r.t14) } w := by
 obtain ⟨b1, b6, b7, hi, a0, a1, a2, a4, a6, a7, a8, a9, a10⟩ := h; obtain ⟨g5, c5, e5⟩ := yB (hi.s5 h5) (by decide); exact ⟨b1, b6, b7, g5, c5, e5, a0 h0, a4 h4, a6 h6, a7 h7, b1, b6, b7, hi, a0, a1, a2, a4, a6, a7, fun _ => rfl, a9, a10⟩
theorem LitI.o9 (h : LitI x vd vr W L r w) (c : LitCl L) (h9 : L 9 = false) (h8 : L 8 = true) : ∃ b1 b6 b7, r.t17 = .agg (mkLit x vd vr b1 b6 b7 r.t14) ∧ LitI x vd vr W (updL L 9) { r with t18 := .pointer (some ⟨w.heap.size, 0, none⟩) } (w.alloc (.cells (mkLit x vd vr b1 b6 b7 r.t14) 99)) := by
 obtain ⟨b1, b6, b7, hi, a0, a1, a2, a4, a6, a7, a8, a9, a10⟩ := h
 have h10 : L 10 = false := by cases h : L 10 with
  | false => rfl
  | true => exact absurd (c.c10 h) (z8 h9)
 exact ⟨b1, b6, b7, a8 h8, b1, b6, b7, hi.alloc _, a0, a1, a2, a4, a6, a7, a8, fun _ => ⟨w.heap.size, rfl, hi.below.size, zE w _⟩, fun e => absurd e (z8 h10)⟩
theorem LitI.o10 (h : LitI x vd vr W L r w) (c : LitCl L) (h10 : L 10 = false) : LitI x vd vr W (updL L 10) { r with s4 := r.t18 } w := by
 obtain ⟨b1, b6, b7, hi, a0, a1, a2, a4, a6, a7, a8, a9, a10⟩ := h; exact ⟨b1, b6, b7, hi, a0, a1, a2, a4, a6, a7, a8, a9, fun _ => rfl⟩
theorem LitI.all (h : LitI x vd vr W L r w) (hL : ∀ i, i < 11 → L i = true) : ∃ b1 b6 b7 m, r.s4 = .pointer (some ⟨m, 0, none⟩) ∧ r.t18 = .pointer (some ⟨m, 0, none⟩) ∧ W.heap.size ≤ m ∧ w.heap[m]? = some (.cells (mkLit x vd vr b1 b6 b7 r.t14) 99 (0, 0)) ∧ xS W w b1 b6 b7 r.t14 true true true true true := by
 obtain ⟨b1, b6, b7, hi, a0, a1, a2, a4, a6, a7, a8, a9, a10⟩ := h; rw [hL 1 (by omega), hL 3 (by omega), hL 5 (by omega), hL 6 (by omega), hL 7 (by omega)] at hi; obtain ⟨m, h1, h2, h3⟩ := a9 (hL 9 (by omega)); exact ⟨b1, b6, b7, m, (a10 (hL 10 (by omega))).trans h1, h1, h2, h3, hi⟩
end


def intC (i : Int) : List Value := [.int .i64 i]
set_option maxRecDepth 100000 in
set_option maxHeartbeats 1600000 in
theorem ref_EqInts (v1 v2 : Value) (ps qs : List Int) (w : World) (h1 : SlAt w v1 1 (ps.map intC)) (h2 : SlAt w v2 1 (qs.map intC))
  (hl1 : ps.length < 4294967281) (hl2 : qs.length < 4294967281) :
  Calls Tryz.prog 16 #[v1, v2] w fun e w' => e = .returned (.bool (decide (ps = qs))) ∧ ∃ n, w' = w.drewN n := by
 have s1 : ∃ a cap, v1 = .slice a ps.length cap := by
  rcases h1 with ⟨hps, a, cap, rfl⟩ | ⟨b, off, cap, rfl, _, _⟩
  ·have : ps = [] := by simpa using hps
   exact ⟨a, cap, by simp [this]⟩
  ·exact ⟨some ⟨b, off, none⟩, cap, by simp⟩
 have s2 : ∃ a cap, v2 = .slice a qs.length cap := by
  rcases h2 with ⟨hps, a, cap, rfl⟩ | ⟨b, off, cap, rfl, _, _⟩
  ·have : qs = [] := by simpa using hps
   exact ⟨a, cap, by simp [this]⟩
  ·exact ⟨some ⟨b, off, none⟩, cap, by simp⟩
 by_cases hlen : ps.length = qs.length
 ·by_cases hz : qs.length = 0
  ·obtain rfl : qs = [] := List.eq_nil_of_length_eq_zero hz
   obtain rfl : ps = [] := List.eq_nil_of_length_eq_zero hlen; obtain ⟨a, cap, rfl⟩ := s1; obtain ⟨a2, cap2, rfl⟩ := s2; clear h1 h2 hlen hz hl1 hl2; go_enter Tryz.func16, Tryz.ntmps16
   go_wp2
   refine wp_loop_rounds 1 ?_; rw [rounds_succ]; go_wp2
   go_ret; exact ⟨rfl, 0, rfl⟩
  ·have e1 : ∃ b off cap, v1 = .slice (some ⟨b, off, none⟩) ps.length cap ∧ b < w.heap.size ∧ ∀ i r, (ps.map intC)[i]? = some r → ∀ j u, r[j]? = some u → w.cell? ⟨b, off + i * 1 + j, none⟩ = some u := by
    rcases h1 with ⟨hps, _⟩ | ⟨b, off, cap, rfl, h, h'⟩
    ·have : ps = [] := by simpa using hps
     subst this; simp at hlen; omega
    ·exact ⟨b, off, cap, by simp, h, h'⟩
   have e2 : ∃ b off cap, v2 = .slice (some ⟨b, off, none⟩) qs.length cap ∧ b < w.heap.size ∧ ∀ i r, (qs.map intC)[i]? = some r → ∀ j u, r[j]? = some u → w.cell? ⟨b, off + i * 1 + j, none⟩ = some u := by
    rcases h2 with ⟨hps, _⟩ | ⟨b, off, cap, rfl, h, h'⟩
    ·have : qs = [] := by simpa using hps
     subst this; simp at hz
    ·exact ⟨b, off, cap, by simp, h, h'⟩
   clear h1 h2 s1 s2 hz; obtain ⟨b, off, cap, rfl, hlt1, hc1⟩ := e1; obtain ⟨b2, off2, cap2, rfl, hlt2, hc2⟩ := e2; generalize hn : qs.length = n at *
   have HL := zh hlen; rw [hlen]; clear hlen hl1; have HC1 := zh hc1; have HC2 := zh hc2; have HN := zh hn; clear hc1 hc2 hn; go_enter Tryz.func16, Tryz.ntmps16
   go_wp2
   go_loopw [5] (fun iv wr => ∃ k : Nat, k ≤ n ∧ iv = .int .i64 k ∧ ps.take k = qs.take k ∧ ∃ n, wr = w.drewN n) (fun iv _ => n - (intOf iv).toNat)
   case atStart => exact ⟨0, by omega, rfl, rfl, 0, rfl⟩
   case round =>
    obtain ⟨k, hk, rfl, hi, nn, rfl⟩ := hrel; have HI := zh hi; clear hi; by_cases hkn : k < n
    ·have hk1 : k < ps.length := by have := HL.out; omega
     have hk2 : k < qs.length := by have := HN.out; omega
     have hp : ps[k]? = some ps[k] := List.getElem?_eq_getElem hk1; have hq : qs[k]? = some qs[k] := List.getElem?_eq_getElem hk2; generalize ps[k] = p at hp; generalize qs[k] = q at hq; have g1 := HC1.out k (intC p) (by simp [hp]); have g2 := HC2.out k (intC q) (by simp [hq]); have a0 := g1 0 _ rfl; have b0 := g2 0 _ rfl; simp only [Nat.add_zero, Nat.mul_one] at a0 b0; have HP := zh hp; have HQ := zh hq; clear g1 g2 hp hq hk1 hk2; go_wp2
     go_quiet (fail)
     go_wp2
     all_goals (have hi := HI.out; have hp := HP.out; have hq := HQ.out; clear HI HP HQ)
     ·go_ret
      go_light
      refine ⟨zK ?_, _, World.drewN_drewN _ _ _⟩; symm
      rw [decide_eq_false_iff_not]; rintro rfl; rw [hp] at hq; have hpq := Option.some.inj hq; clear hp hq hi; subst hpq; simp_all
     ·go_roundw
      case rel => go_light; exact ⟨k + 1, by omega, by go_num, by rw [List.take_add_one, List.take_add_one, hi, hp, hq]; simp_all, _, rfl⟩
      case measure => go_light; simp [intOf]; omega
    ·have hkn' : k = n := by omega
     have HK := zh hkn'; clear hkn'; go_wp2
     go_ret; refine ⟨zK ?_, _, rfl⟩; symm
     rw [decide_eq_true_eq]; have := HI.out; rw [HK.out, List.take_of_length_le (by rw [HL.out]; omega), List.take_of_length_le (by rw [HN.out]; omega)] at this; exact this
 ·obtain ⟨a, cap, rfl⟩ := s1
  obtain ⟨a2, cap2, rfl⟩ := s2; have hne : ((ps.length : Int) != (qs.length : Int)) = true := by rw [bne_iff_ne]; omega
  have HR : Hid (decide (ps = qs) = false) := by
   show _ = _
   rw [decide_eq_false_iff_not]; rintro rfl; exact hlen rfl
  clear h1 h2 hlen; go_enter Tryz.func16, Tryz.ntmps16
  go_wp2
  go_ret; exact ⟨zK HR.out.symm, 0, rfl⟩
end Go.Proofs.YtddnomjfcbplpaaGreatDoor
