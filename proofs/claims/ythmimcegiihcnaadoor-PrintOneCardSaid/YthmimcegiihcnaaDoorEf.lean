/- Layer 8: sources of a bounded size; what the laws cut a source to. -/
import Derived.Test.YthmimcegiihcnaaDoorEb
import Derived.Test.YthmimcegiihcnaaDoorEo
import Derived.Test.YthmimcegiihcnaaDoorDl
import Derived.Lib.ItoaLen
namespace Go.Proofs.YthmimcegiihcnaaDoor
open Go.RowKit
/-! ### Sources of a bounded size -/
theorem flatMap_len {α β : Type} (f : α → List β) (B : Nat) : ∀ l : List α, (∀ a ∈ l, (f a).length ≤ B) → (l.flatMap f).length ≤ l.length * B
  | [], _ => by simp
  | a :: l, h => by
    have h1 := h a (by simp)
    have h2 := flatMap_len f B l (fun b hb => h b (by simp [hb]))
    simp only [List.flatMap_cons, List.length_append, List.length_cons, Nat.succ_mul]
    omega
def tinySym (s : Sp.Sym) : Prop := s.name.length ≤ 60 ∧ i64ok s.num
def tinyPart (p : Sp.Part) : Prop := tinySym p.sym ∧ p.code.length ≤ 60
def tinyAlt (a : Sp.Alt) : Prop := a.parts.length ≤ 20 ∧ (∀ p ∈ a.parts, tinyPart p) ∧ tinySym a.prec
def tinyRule (r : Sp.Rule) : Prop := r.left.length ≤ 60 ∧ r.alts.length ≤ 20 ∧ ∀ a ∈ r.alts, tinyAlt a
def tinyDecl (d : Sp.Decl) : Prop := d.tag.length ≤ 60 ∧ d.syms.length ≤ 20 ∧ ∀ s ∈ d.syms, tinySym s
def tinySrc (x : Sp.Source) : Prop := x.pro.length ≤ 60 ∧ x.tail.length ≤ 60 ∧ x.decls.length ≤ 20 ∧ x.rules.length ≤ 20 ∧ (∀ d ∈ x.decls, tinyDecl d) ∧ ∀ r ∈ x.rules, tinyRule r
theorem tiny_small {x : Sp.Source} (h : tinySrc x) : smallSrc x ∧ smallSame x := by
  obtain ⟨h1, h2, h3, h4, h5, h6⟩ := h
  refine ⟨⟨by omega, by omega, by omega, by omega, fun d hd => ?_, fun r hr => ?_⟩, by omega, by omega, fun d hd => ?_, fun r hr => ?_⟩
  · obtain ⟨a, b, c⟩ := h5 d hd
    exact ⟨by omega, by omega, fun s hs => by have := (c s hs).1; unfold smallSym; omega⟩
  · obtain ⟨a, b, c⟩ := h6 r hr
    refine ⟨by omega, by omega, fun al ha => ?_⟩
    obtain ⟨p, q, s⟩ := c al ha
    exact ⟨by omega, fun pt hp => ⟨by have := (q pt hp).1.1; omega, by have := (q pt hp).2; omega⟩, by have := s.1; omega⟩
  · obtain ⟨a, b, c⟩ := h5 d hd
    unfold smallD; omega
  · obtain ⟨a, b, c⟩ := h6 r hr
    exact ⟨by omega, fun al ha => by have := (c al ha).1; omega⟩
theorem quotable_ne {l : List UInt8} (h : Sp.quotable l = true) : l ≠ [] := by rintro rfl; simp [Sp.quotable] at h
theorem isSym_lit {s : Sp.Sym} (h : Sp.isSym s = true) : s.lit = true → s.name ≠ [] := by
  intro hl
  unfold Sp.isSym at h
  rw [if_pos hl] at h
  exact quotable_ne h
theorem maySym_isSym {k : Int} {s : Sp.Sym} (h : Sp.maySym k s = true) : Sp.isSym s = true := by
  unfold Sp.maySym at h
  split at h
  · simp at h
  · rename_i h2
    cases hs : Sp.isSym s
    · exact absurd (.inl hs) h2
    · rfl
theorem isBare_isSym {s : Sp.Sym} (h : Sp.isBare s = true) : Sp.isSym s = true := by unfold Sp.isBare at h; simp at h; exact h.1
theorem okSym_of {s : Sp.Sym} (h : tinySym s) (hs : Sp.isSym s = true) : okSym s := ⟨by have := h.1; omega, isSym_lit hs, h.2.1, h.2.2⟩
theorem mayDecl_kind {d : Sp.Decl} (h : Sp.mayDecl d = true) : 1 ≤ d.kind ∧ d.kind ≤ 6 := by
  unfold Sp.mayDecl at h
  split at h
  · simp at h
  · omega
theorem tiny_ok {x : Sp.Source} (h : tinySrc x) (hm : Sp.may x = true) : (∀ d ∈ x.decls, okDecl d) ∧ ∀ r ∈ x.rules, okRule r := by
  obtain ⟨h1, h2, h3, h4, h5, h6⟩ := h
  unfold Sp.may at hm
  simp only [Bool.and_eq_true, List.all_eq_true] at hm
  obtain ⟨⟨_, hd⟩, hr⟩ := hm
  constructor
  · intro d hdd
    obtain ⟨a, b, c⟩ := h5 d hdd
    obtain ⟨k1, k2⟩ := mayDecl_kind (hd d hdd)
    exact ⟨k1, k2, by omega, by omega, fun s hs => okSym_of (c s hs) (maySym_isSym (Sp.mayDecl_syms (hd d hdd) s hs))⟩
  · intro r hrr
    obtain ⟨a, b, c⟩ := h6 r hrr
    have hmr := hr r hrr
    unfold Sp.mayRule at hmr
    simp only [Bool.and_eq_true, List.all_eq_true] at hmr
    refine ⟨by omega, by omega, fun al ha => ?_⟩
    obtain ⟨p, q, s⟩ := c al ha
    have hma := hmr.2 al ha
    unfold Sp.mayAlt at hma
    simp only [Bool.and_eq_true, List.all_eq_true, Bool.or_eq_true] at hma
    refine ⟨by omega, fun pt hp => ⟨by have := (q pt hp).2; omega, fun hc => ?_⟩, fun hn => ?_⟩
    · have hmp := hma.2 pt hp
      unfold Sp.mayPart at hmp
      rw [if_pos hc] at hmp
      exact okSym_of (q pt hp).1 (isBare_isSym hmp)
    · rcases hma.1 with h7 | h7
      · rw [hn] at h7; simp at h7
      · exact okSym_of s (isBare_isSym h7)
theorem symText_len {s : Sp.Sym} (h : tinySym s) : (Sp.symText s).length ≤ 60 := by
  unfold Sp.symText
  split
  · have := Sp.quoteText_len (s.name.headD 0); omega
  · exact h.1
theorem tiny_text {x : Sp.Source} (h : tinySrc x) : (Sp.text x).length ≤ 1000000 := by
  rw [← Sp.refText_eq]
  obtain ⟨h1, h2, h3, h4, h5, h6⟩ := h
  unfold Sp.refText
  split
  · simp
  · have hD : ∀ d ∈ x.decls, (Sp.refDeclT d).length ≤ 3000 := by
      intro d hd
      obtain ⟨a, b, c⟩ := h5 d hd
      have hs : ∀ s ∈ d.syms, (Sp.refSymT s).length ≤ 100 := by
        intro s hs
        have h7 := symText_len (c s hs)
        have h8 := Lib.itoa_length_le s.num (c s hs).2.1 (c s hs).2.2
        unfold Sp.refSymT
        simp only [List.length_cons, List.length_append]
        split <;> simp <;> omega
      have h9 := flatMap_len Sp.refSymT 100 d.syms hs
      have hk : (Sp.keys.getD (d.kind - 1).toNat []).length ≤ 20 := by
        generalize (d.kind - 1).toNat = j
        rcases j with _ | _ | _ | _ | _ | _ | _ | j <;> simp [Sp.keys]
      unfold Sp.refDeclT
      simp only [List.length_append]
      generalize d.syms.flatMap Sp.refSymT = X1 at *
      generalize Sp.keys.getD (d.kind - 1).toNat [] = X2 at *
      split <;> simp <;> omega
    have hR : ∀ r ∈ x.rules, (Sp.refRuleT r).length ≤ 40000 := by
      intro r hr
      obtain ⟨a, b, c⟩ := h6 r hr
      have hA : ∀ al ∈ r.alts, (Sp.refAltT al).length ≤ 1500 := by
        intro al ha
        obtain ⟨p, q, s⟩ := c al ha
        have hp : ∀ pt ∈ al.parts, (Sp.refPartT pt).length ≤ 61 := by
          intro pt hp
          have h7 := symText_len (q pt hp).1
          have h8 := (q pt hp).2
          unfold Sp.refPartT
          simp only [List.length_cons]
          split <;> omega
        have h9 := flatMap_len Sp.refPartT 61 al.parts hp
        have h10 := symText_len s
        unfold Sp.refAltT
        simp only [List.length_append]
        generalize al.parts.flatMap Sp.refPartT = X1 at *
        split <;> simp <;> omega
      have hAs : ∀ (l : List Sp.Alt) (k : Nat), (∀ al ∈ l, (Sp.refAltT al).length ≤ 1500) → (Sp.refAltsT k l).length ≤ l.length * 1502 := by
        intro l
        induction l with
        | nil => intro k _; simp [Sp.refAltsT]
        | cons al l ih =>
          intro k hl
          have h7 := hl al (by simp)
          have h8 := ih (k + 1) (fun b hb => hl b (by simp [hb]))
          unfold Sp.refAltsT
          simp only [List.length_append, List.length_cons, Nat.succ_mul]
          split <;> simp <;> omega
      have h9 := hAs r.alts 0 hA
      unfold Sp.refRuleT
      simp only [List.length_append]
      simp
      omega
    have h7 := flatMap_len Sp.refDeclT 3000 x.decls hD
    have h8 := flatMap_len Sp.refRuleT 40000 x.rules hR
    simp only [List.length_append]
    generalize x.decls.flatMap Sp.refDeclT = X1 at *
    generalize x.rules.flatMap Sp.refRuleT = X2 at *
    split <;> split <;> simp <;> omega

/-! ### What the laws cut a source to -/
structure CutN where
  decls : Nat
  syms : Nat
  rules : Nat
  alts : Nat
  parts : Nat
  code : Nat
def cutSym (s : Sp.Sym) : Sp.Sym := ⟨s.name.take 25, s.lit, s.num, s.at_⟩
def cutDecl (c : CutN) (d : Sp.Decl) : Sp.Decl := ⟨d.kind, d.tag.take 25, (d.syms.take c.syms).map cutSym, d.at_⟩
def cutPart (c : CutN) (p : Sp.Part) : Sp.Part := ⟨cutSym p.sym, p.code.take c.code, p.at_⟩
def cutAlt (c : CutN) (a : Sp.Alt) : Sp.Alt := ⟨(a.parts.take c.parts).map (cutPart c), cutSym a.prec, a.at_⟩
def cutRule (c : CutN) (r : Sp.Rule) : Sp.Rule := ⟨r.left.take 25, (r.alts.take c.alts).map (cutAlt c), r.at_⟩
def cutSrc (c : CutN) (x : Sp.Source) : Sp.Source := ⟨x.pro.take 40, (x.decls.take c.decls).map (cutDecl c), (x.rules.take c.rules).map (cutRule c), x.tail.take 40⟩
theorem cutSym_tiny {s : Sp.Sym} (h : bigSym s) : tinySym (cutSym s) := ⟨by simp [cutSym]; omega, h.2.1⟩
theorem cut_tiny (c : CutN) (hc : c.decls ≤ 20 ∧ c.syms ≤ 20 ∧ c.rules ≤ 20 ∧ c.alts ≤ 20 ∧ c.parts ≤ 20 ∧ c.code ≤ 60) {x : Sp.Source} (h : bigSrc x) : tinySrc (cutSrc c x) := by
  obtain ⟨c1, c2, c3, c4, c5, c6⟩ := hc
  obtain ⟨h1, h2, h3, h4, h5, h6⟩ := h
  refine ⟨by simp [cutSrc]; omega, by simp [cutSrc]; omega, by simp [cutSrc]; omega, by simp [cutSrc]; omega, fun d hd => ?_, fun r hr => ?_⟩
  · simp only [cutSrc, List.mem_map] at hd
    obtain ⟨d, hd, rfl⟩ := hd
    obtain ⟨k1, k2, k3, k4, k5⟩ := h3 d (List.mem_of_mem_take hd)
    refine ⟨by simp [cutDecl]; omega, by simp [cutDecl]; omega, fun s hs => ?_⟩
    simp only [cutDecl, List.mem_map] at hs
    obtain ⟨s, hs, rfl⟩ := hs
    exact cutSym_tiny (k4 s (List.mem_of_mem_take hs))
  · simp only [cutSrc, List.mem_map] at hr
    obtain ⟨r, hr, rfl⟩ := hr
    obtain ⟨k1, k2, k3, k4⟩ := h5 r (List.mem_of_mem_take hr)
    refine ⟨by simp [cutRule]; omega, by simp [cutRule]; omega, fun a ha => ?_⟩
    simp only [cutRule, List.mem_map] at ha
    obtain ⟨a, ha, rfl⟩ := ha
    obtain ⟨m1, m2, m3, m4⟩ := k3 a (List.mem_of_mem_take ha)
    refine ⟨by simp [cutAlt]; omega, fun p hp => ?_, cutSym_tiny m3⟩
    simp only [cutAlt, List.mem_map] at hp
    obtain ⟨p, hp, rfl⟩ := hp
    exact ⟨cutSym_tiny (m2 p (List.mem_of_mem_take hp)).1, by simp [cutPart]; omega⟩
end Go.Proofs.YthmimcegiihcnaaDoor
