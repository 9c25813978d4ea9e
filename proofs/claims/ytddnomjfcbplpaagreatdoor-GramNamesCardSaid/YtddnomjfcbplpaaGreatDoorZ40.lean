import Derived.Test.YtddnomjfcbplpaaGreatDoorZ39
namespace Go.Proofs.YtddnomjfcbplpaaGreatDoor
namespace Sp

def xB (l : List Tok) : Prop := ∀ t ∈ l, t.lit = true → ∃ c, t.name = [c]
theorem xB.set {l : List Tok} (h : xB l) (k : Nat) (f : Tok → Tok) (hf : ∀ t, (f t).name = t.name ∧ (f t).lit = t.lit) : xB (l.set k (f (l.getD k gF))) := by
 by_cases hk : k < l.length
 ·intro t ht hl
  rcases List.mem_or_eq_of_mem_set ht with h1 | h1
  ·exact h t h1 hl
  ·have hm : l.getD k gF ∈ l := by
    rw [List.getD_eq_getElem?_getD, List.getElem?_eq_getElem hk, Option.getD_some]; exact List.getElem_mem hk
   subst h1; rw [(hf _).1]; exact h _ hm (by rw [← (hf _).2]; exact hl)
 ·rw [List.set_eq_of_length_le (by omega)]
  exact h
theorem rmod_lit {r : Rk} (k : Nat) (f : Tok → Tok) (h : xB r.toks) (hf : ∀ t, (f t).name = t.name ∧ (f t).lit = t.lit) : xB (rmod r k f).toks := xB.set h k f hf
theorem rlevel_lit {r : Rk} (t : Nat) (d : Decl) (x : Sym) (h : xB r.toks) : xB (jX r t d x).toks := by
 unfold jX; split
 ·exact rmod_lit t (fun k => { k with level := r.level, assoc := d.kind - 1 }) h (fun _ => ⟨rfl, rfl⟩)
 ·exact h
theorem rnum_lit {r : Rk} (t : Nat) (x : Sym) (h : xB r.toks) : xB (rnum r t x).toks := by
 unfold rnum; split
 ·exact rmod_lit t (fun k => { k with num := x.num }) h (fun _ => ⟨rfl, rfl⟩)
 ·exact h
theorem rtag_lit {r : Rk} (t : Nat) (d : Decl) (x : Sym) (h : xB r.toks) : xB (rtag r t d x).toks := by
 unfold rtag; split
 ·exact rmod_lit t (fun k => { k with tag := d.tag }) h (fun _ => ⟨rfl, rfl⟩)
 ·exact h
theorem rput_lit {r : Rk} {x : Sym} (h : xB r.toks) (hx : x.lit = true → ∃ c, x.name = [c]) : xB (rput r x).1.toks := by
 unfold rput; split
 ·exact h
 ·intro t ht hl
  rcases List.mem_append.1 ht with h1 | h1
  ·exact h t h1 hl
  ·rw [List.mem_singleton] at h1
   subst h1; exact hx hl
theorem zDZ {r : Rk} {x : Sym} (h : xB r.toks) (hx : x.lit = true → ∃ c, x.name = [c]) : xB (yP r x).1.toks := by
 unfold yP; split
 ·exact rput_lit h hx
 ·split
  ·exact h
  ·split
   ·exact h
   ·exact h
theorem rdeclare_lit {r : Rk} (d : Decl) {x : Sym} (h : xB r.toks) (hx : x.lit = true → ∃ c, x.name = [c]) : xB (xO r d x).toks := by
 unfold xO; split
 ·split
  ·exact h
  ·split
   ·exact h
   ·exact h
 ·exact rtag_lit _ _ _ (rnum_lit _ _ (rlevel_lit _ _ _ (rput_lit h hx)))
theorem rsym_lit {q : Rk × List UInt8} (d : Decl) {x : Sym} (h : xB q.1.toks) (hx : x.lit = true → ∃ c, x.name = [c]) : xB (rsym q d x).1.toks := by
 unfold rsym; split
 ·exact rdeclare_lit d h hx
 ·simp only
  split <;> exact h
theorem rsyms_lit (d : Decl) : ∀ (l : List Sym) {q : Rk × List UInt8}, xB q.1.toks → (∀ x ∈ l, x.lit = true → ∃ c, x.name = [c]) → xB (rsyms d l q).1.toks
 | [], _, h, _ => h
 | x :: l, q, h, hx => rsyms_lit d l (rsym_lit d h (hx x (by simp))) (fun y hy => hx y (by simp [hy]))
theorem rdecls_lit : ∀ (l : List Decl) {q : Rk × List UInt8}, xB q.1.toks → (∀ d ∈ l, ∀ x ∈ d.syms, x.lit = true → ∃ c, x.name = [c]) → xB (zAX l q).1.toks
 | [], _, h, _ => h
 | d :: l, q, h, hx => by
  rw [zCW]; refine rdecls_lit l (rsyms_lit d d.syms ?_ (hx d (by simp))) (fun y hy => hx y (by simp [hy])); simp only; split <;> exact h
theorem rrule_toks (r : Rk) (u : Rule) : (zAM r u).toks = r.toks := by
 unfold zAM; simp only; split <;> split <;> rfl
theorem rrules_toks : ∀ (l : List Rule) (r : Rk), (gJ l r).toks = r.toks
 | [], _ => rfl
 | u :: l, r => (rrules_toks l (zAM r u)).trans (rrule_toks r u)
theorem zCO (k : Int) : ∀ (l : List Sym) (r : Rk), (kL k l r).toks = r.toks
 | [], _ => rfl
 | x :: l, r => (zCO k l (gC k r x)).trans (by unfold gC; split <;> rfl)
theorem rnames_toks : ∀ (l : List Decl) (r : Rk), (gK l r).toks = r.toks
 | [], _ => rfl
 | d :: l, r => (rnames_toks l _).trans (zCO d.kind d.syms r)
theorem zBU (N : Nat) : ∀ (l : List Part) (i : Nat) (r : Rk) (p : Prod), xB r.toks → (∀ w ∈ l, w.code = [] → w.sym.lit = true → ∃ c, w.sym.name = [c]) → xB (qD N i l (r, p)).1.toks
 | [], _, _, _, h, _ => h
 | w :: l, i, r, p, h, hx => by
  have hx2 : ∀ y ∈ l, y.code = [] → y.sym.lit = true → ∃ c, y.sym.name = [c] := fun y hy => hx y (by simp [hy])
  by_cases hc : w.code = []
  ·rw [gY _ _ _ _ _ _ hc]
   exact zBU N l _ _ _ (zDZ h (hx w (by simp) hc)) hx2
  ·by_cases hi : i + 1 = N
   ·rw [gE _ _ _ _ _ _ hc hi]
    exact zBU N l _ _ _ h hx2
   ·rw [vE _ _ _ _ _ _ hc hi]
    exact zBU N l _ _ _ h hx2
theorem raltPrec_lit {r : Rk} (a : Alt) (c : Int) (h : xB r.toks) (ha : a.prec.lit = true → ∃ c, a.prec.name = [c]) : xB (qJ r a c).1.toks := by
 unfold qJ; split
 ·exact h
 ·split
  ·exact zDZ h ha
  ·exact h
def LitAlt (a : Alt) : Prop := (∀ w ∈ a.parts, w.code = [] → w.sym.lit = true → ∃ c, w.sym.name = [c]) ∧ (a.prec.lit = true → ∃ c, a.prec.name = [c])
theorem ralt_lit {r : Rk} (left : List UInt8) {a : Alt} (h : xB r.toks) (ha : LitAlt a) : xB (ralt r left a).toks := by
 unfold ralt; simp only; exact raltPrec_lit _ _ (zBU _ _ _ _ _ h ha.1) ha.2
theorem ralts_lit (left : List UInt8) : ∀ (l : List Alt) (r : Rk), xB r.toks → (∀ a ∈ l, LitAlt a) → xB (ralts left l r).toks
 | [], _, h, _ => h
 | a :: l, r, h, ha => ralts_lit left l (ralt r left a) (ralt_lit left h (ha a (by simp))) (fun b hb => ha b (by simp [hb]))
theorem zCT : ∀ (l : List Rule) (r : Rk), xB r.toks → (∀ u ∈ l, ∀ a ∈ u.alts, LitAlt a) → xB (xQ l r).toks
 | [], _, h, _ => h
 | u :: l, r, h, ha => zCT l (ralts u.left u.alts r) (ralts_lit u.left u.alts r h (ha u (by simp))) (fun b hb => ha b (by simp [hb]))
theorem litOk_mk0 : xB mk0.toks := by
 intro t ht hl; simp [mk0] at ht; rcases ht with rfl | rfl | rfl <;> cases hl
theorem numGo_lit : ∀ (ts : List Tok) (gs : List Bool) (n : Int), xB ts → xB (jC n ts gs)
 | [], gs, n, _ => by unfold jC; exact fun t ht => by cases ht
 | t :: ts, [], n, h => by unfold jC; exact h
 | t :: ts, g :: gs, n, h => by
  have h1 : xB ts := fun y hy => h y (by simp [hy])
  unfold jC; split
  ·intro y hy hl
   rcases List.mem_cons.1 hy with rfl | hy
   ·exact h _ (by simp) hl
   ·exact numGo_lit ts gs n h1 y hy hl
  ·intro y hy hl
   rcases List.mem_cons.1 hy with rfl | hy
   ·exact h t (by simp) hl
   ·exact numGo_lit ts gs (n + 1) h1 y hy hl
theorem rmade_lit {x : zM} (h1 : ∀ d ∈ x.decls, ∀ s ∈ d.syms, s.lit = true → ∃ c, s.name = [c]) (h2 : ∀ u ∈ x.rules, ∀ a ∈ u.alts, LitAlt a) : xB (xT x).toks := by
 unfold xT; simp only; refine zCT _ _ ?_ h2; simp only; rw [rnames_toks, rrules_toks]; exact rdecls_lit _ litOk_mk0 h1
theorem rnumbers_lit {r : Rk} (h : xB r.toks) : xB (qI r) := by
 unfold qI; intro t ht hl; rcases List.mem_append.1 ht with h1 | h1
 ·exact h t (List.mem_of_mem_take h1) hl
 ·exact numGo_lit _ _ _ (fun y hy => h y (List.mem_of_mem_drop hy)) t h1 hl
end Sp
theorem refGram_lit (x : Sp.zM) : Sp.xB (Sp.qC x).1.toks := by
 cases hm : Sp.may x with
 | false => rw [Sp.refGram_none hm]; exact fun t ht => by cases ht
 | true =>
  by_cases hf : (Sp.xT x).fault.err = 0
  ·cases hg : Sp.zBR (Sp.xT x) with
   | true => rw [Sp.zAV hm hf hg]; exact fun t ht => by cases ht
   | false =>
    rw [Sp.zBT hm hf hg]; obtain ⟨h1, h2, _⟩ := ref_good hm; exact Sp.rnumbers_lit (Sp.rmade_lit (fun d hd => (h1 d hd).2) (fun u hu a ha => h2 u hu a ha))
  ·rw [Sp.zAW hm hf]; exact fun t ht => by cases ht
end Go.Proofs.YtddnomjfcbplpaaGreatDoor
