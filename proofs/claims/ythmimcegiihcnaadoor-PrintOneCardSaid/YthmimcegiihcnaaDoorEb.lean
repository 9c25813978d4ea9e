/- Layer 8, the reference: texts. -/
import Derived.Test.YthmimcegiihcnaaDoorEa
import Derived.Test.YthmimcegiihcnaaDoorBZ
namespace Go.Proofs.YthmimcegiihcnaaDoor
namespace Sp
open Go.Lib (index indexByte hasPrefix)

/-! ### The reference's texts -/
def symText (s : Sym) : List UInt8 := if s.lit = true then quoteText (s.name.headD 0) else s.name
def refSymT (s : Sym) : List UInt8 := 32 :: (symText s ++ if 0 < s.num then 32 :: Go.Lib.itoa s.num else [])
def refDeclT (d : Decl) : List UInt8 := keys.getD (d.kind - 1).toNat [] ++ (if d.tag = [] then [] else 32 :: 60 :: (d.tag ++ [62])) ++ d.syms.flatMap refSymT ++ [10]
def refPartT (p : Part) : List UInt8 := 32 :: (if p.code = [] then symText p.sym else p.code)
def refAltT (a : Alt) : List UInt8 := a.parts.flatMap refPartT ++ (if isNone a.prec = true then [] else [32, 37, 112, 114, 101, 99, 32] ++ symText a.prec)
def refAltsT : Nat → List Alt → List UInt8
  | _, [] => []
  | k, a :: l => (if k = 0 then [] else [32, 124]) ++ refAltT a ++ refAltsT (k + 1) l
def refRuleT (r : Rule) : List UInt8 := r.left ++ [32, 58] ++ refAltsT 0 r.alts ++ [32, 59, 10]
def refText (x : Source) : List UInt8 :=
  if may x = false then [] else
  (if x.pro = [] then [] else 37 :: 123 :: (x.pro ++ [37, 125, 10])) ++ x.decls.flatMap refDeclT ++ [37, 37, 10] ++ x.rules.flatMap refRuleT ++ (if x.tail = [] then [] else 37 :: 37 :: x.tail)
theorem joinSp_cons (w : List UInt8) (ws : List (List UInt8)) : joinSp (w :: ws) = w ++ ws.flatMap (32 :: ·) := by
  induction ws generalizing w with
  | nil => simp [joinSp]
  | cons v l ih => rw [joinSp, ih]; simp
theorem flatMap_flatMap {α β γ : Type} (l : List α) (f : α → List β) (g : β → List γ) : (l.flatMap f).flatMap g = l.flatMap fun a => (f a).flatMap g := by
  induction l with
  | nil => rfl
  | cons a l ih => simp [ih]
theorem flatMap_ext {α β : Type} (l : List α) (f g : α → List β) (h : ∀ a ∈ l, f a = g a) : l.flatMap f = l.flatMap g := by
  induction l with
  | nil => rfl
  | cons a l ih => simp only [List.flatMap_cons]; rw [h a (by simp), ih (fun b hb => h b (by simp [hb]))]
theorem maySym_num {k : Int} {s : Sym} (h : maySym k s = true) : (s.lit = true → s.num = 0) ∧ 0 ≤ s.num := by
  unfold maySym at h
  split at h
  · simp at h
  · split at h
    · simp at h
    · rename_i h2
      by_cases h0 : s.num = 0
      · simp [h0]
      · constructor
        · intro hl
          exact absurd ⟨h0, .inr (.inl hl)⟩ h2
        · have : ¬ s.num < 1 := fun hl => h2 ⟨h0, .inr (.inr (.inl hl))⟩
          omega
theorem bare_num {s : Sym} (h : isBare s = true) : s.num = 0 := by
  unfold isBare at h; simp at h; exact h.2
theorem symWords_text (s : Sym) (h : (s.lit = true → s.num = 0) ∧ 0 ≤ s.num) : (symWords s).flatMap (32 :: ·) = refSymT s := by
  unfold symWords refSymT symText
  by_cases hl : s.lit = true
  · have := h.1 hl
    simp [hl, this]
  · by_cases h0 : s.num = 0
    · simp [hl, h0]
    · have : 0 < s.num := by have := h.2; omega
      simp [hl, h0, this]
theorem symWords_bare (s : Sym) (h : s.num = 0) : symWords s = [symText s] := by
  unfold symWords symText
  by_cases hl : s.lit = true <;> simp [hl, h]
theorem mayDecl_syms {d : Decl} (h : mayDecl d = true) : ∀ s ∈ d.syms, maySym d.kind s = true := by
  unfold mayDecl at h
  split at h
  · simp at h
  · split at h
    · simp at h
    · split at h
      · simp at h
      · simpa using h
theorem refDeclT_eq (d : Decl) (h : mayDecl d = true) : joinSp (declWords d) ++ [10] = refDeclT d := by
  unfold declWords refDeclT
  simp only [List.cons_append]
  rw [joinSp_cons, List.flatMap_append, flatMap_flatMap, flatMap_ext d.syms _ refSymT (fun s hs => symWords_text s (maySym_num (mayDecl_syms h s hs)))]
  by_cases ht : d.tag = [] <;> simp [ht]
theorem mayAlt_parts {a : Alt} (h : mayAlt a = true) : (∀ p ∈ a.parts, mayPart p = true) ∧ (isNone a.prec = false → a.prec.num = 0) := by
  unfold mayAlt at h
  simp only [Bool.and_eq_true, List.all_eq_true, Bool.or_eq_true] at h
  refine ⟨h.2, fun hn => ?_⟩
  rcases h.1 with h1 | h1
  · rw [hn] at h1; simp at h1
  · exact bare_num h1
theorem refAltT_eq (a : Alt) (h : mayAlt a = true) : (altWords a).flatMap (32 :: ·) = refAltT a := by
  obtain ⟨h1, h2⟩ := mayAlt_parts h
  unfold altWords refAltT
  rw [List.flatMap_append, flatMap_flatMap, flatMap_ext a.parts _ refPartT (fun p hp => by
    have hm := h1 p hp
    unfold partWords refPartT
    by_cases hc : p.code = []
    · unfold mayPart at hm
      rw [if_pos hc] at hm
      rw [if_pos hc, if_pos hc, symWords_bare _ (bare_num hm)]
      simp
    · rw [if_neg hc, if_neg hc]
      simp)]
  cases hn : isNone a.prec
  · rw [symWords_bare _ (h2 hn)]
    simp
  · simp
theorem refAltsT_eq : ∀ (l : List Alt) (k : Nat), (∀ a ∈ l, mayAlt a = true) → 0 < k → (altsWords k l).flatMap (32 :: ·) = refAltsT k l
  | [], _, _, _ => rfl
  | a :: l, k, h, hk => by
    have ih := refAltsT_eq l (k + 1) (fun b hb => h b (by simp [hb])) (by omega)
    have hk0 : ¬ k = 0 := by omega
    simp only [altsWords, refAltsT, if_neg hk0, List.cons_append, List.flatMap_cons, List.flatMap_append, ih, refAltT_eq a (h a (by simp)), List.append_assoc]
theorem refRuleT_eq (r : Rule) (h : mayRule r = true) : joinSp (ruleWords r) ++ [10] = refRuleT r := by
  unfold mayRule at h
  simp only [Bool.and_eq_true, decide_eq_true_eq, List.all_eq_true] at h
  obtain ⟨⟨_, hlen⟩, ha⟩ := h
  obtain ⟨lf, al, at_⟩ := r
  simp only at hlen ha
  unfold ruleWords refRuleT
  cases al with
  | nil => simp at hlen
  | cons a l =>
    have ih := refAltsT_eq l 1 (fun b hb => ha b (by simp [hb])) (by omega)
    rw [joinSp_cons]
    simp only [altsWords, refAltsT, if_pos, List.cons_append, List.flatMap_cons, List.flatMap_append, Nat.zero_add, ih, refAltT_eq a (ha a (by simp)), List.append_assoc]
    simp
theorem refText_eq (x : Source) : refText x = text x := by
  unfold refText text
  cases hm : may x
  · simp
  · have h := hm
    unfold may at h
    simp only [Bool.and_eq_true, List.all_eq_true] at h
    obtain ⟨⟨_, hd⟩, hr⟩ := h
    rw [flatMap_ext x.decls _ refDeclT (fun d hdd => refDeclT_eq d (hd d hdd)), flatMap_ext x.rules _ refRuleT (fun r hrr => refRuleT_eq r (hr r hrr))]
end Sp
open Go.RowKit

def litOk (s : Sp.Sym) : Prop := s.lit = true → s.name ≠ []
def txtPart (p : Sp.Part) : Prop := p.code = [] → litOk p.sym
def txtAlt (a : Sp.Alt) : Prop := (∀ p ∈ a.parts, txtPart p) ∧ (Sp.isNone a.prec = false → litOk a.prec)
end Go.Proofs.YthmimcegiihcnaaDoor
