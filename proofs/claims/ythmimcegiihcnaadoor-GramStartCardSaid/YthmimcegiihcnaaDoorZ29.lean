/- Plain law of GramStart at the sources of yuccalaw0.Source: with %start production 0 alone changes; what lists' lengths are. -/
import Derived.Test.YthmimcegiihcnaaDoorZ28
namespace Go.Proofs.YthmimcegiihcnaaDoor
namespace Sp
/-- How long the lists of arguments are; how many productions there are at least. -/
structure ArgK (M : Nat) (s s' : Mk) (m : Nat) : Prop where
  args : (∀ q ∈ s.prods, q.args.length ≤ M) → ∀ q ∈ s'.prods, q.args.length ≤ M
  more : s.prods.length + m ≤ s'.prods.length
theorem ArgK.trans {M m m' : Nat} {s s1 s2 : Mk} (h : ArgK M s s1 m) (k : ArgK M s1 s2 m') : ArgK M s s2 (m + m') := ⟨fun h0 => k.args (h.args h0), by have := h.more; have := k.more; omega⟩
theorem altGo_args (n M : Nat) : ∀ (l : List Part) (k : Nat) (p : Prod) (inner : Nat) (s : Mk), p.right.length + l.length ≤ M → ArgK M s (altGo n k l (p, inner, s)).2.2 0
  | [], k, p, inner, s, _ => ⟨fun h => h, Nat.le_refl _⟩
  | x :: l, k, p, inner, s, h => by
    rw [List.length_cons] at h
    unfold altGo
    split
    · exact altGo_args n M l (k + 1) _ inner s (by simp only [List.length_append, List.length_cons, List.length_nil]; omega)
    · split
      · exact altGo_args n M l (k + 1) { p with code := x.code, at_ := x.at_ } inner s (by simp only; omega)
      · simp only
        obtain ⟨L, hL⟩ : ∃ L : List Non, L = s.nons ++ [⟨64 :: Lib.itoa ((inner + 1 : Nat) : Int), []⟩] := ⟨_, rfl⟩
        rw [← hL]
        have k1 := altGo_args n M l (k + 1) { p with right := p.right ++ [1000 + (L.length : Int) - 1] } (inner + 1) { s with nons := L, prods := s.prods ++ [⟨(L.length : Int) - 1, [], -1, x.code, p.right, x.at_⟩] } (by simp only [List.length_append, List.length_cons, List.length_nil]; omega)
        refine ⟨fun h0 => k1.args fun q hq => ?_, ?_⟩
        · rcases List.mem_append.1 hq with hq | hq
          · exact h0 q hq
          · rw [List.mem_singleton] at hq
            subst hq
            simp only
            omega
        · have := k1.more
          simp only [List.length_append, List.length_cons, List.length_nil] at this
          exact Nat.le_trans (by omega) this
theorem altMk_args (M : Nat) (left : Int) (a : Alt) (inner : Nat) (s : Mk) (h : a.parts.length ≤ M) : ArgK M s (altMk left a inner s).2 1 := by
  have k1 := altGo_args a.parts.length M a.parts 0 ⟨left, [], -1, [], [], a.at_⟩ inner s (by simpa using h)
  have k2 := (altGo_keeps a.parts.length a.parts 0 ⟨left, [], -1, [], [], a.at_⟩ inner s).2
  simp only [List.length_nil, Nat.zero_add] at k2
  unfold altMk
  simp only
  refine ⟨fun h0 q hq => ?_, by have := k1.more; simp only [List.length_append, List.length_cons, List.length_nil]; omega⟩
  rcases List.mem_append.1 hq with hq | hq
  · exact k1.args h0 q hq
  · rw [List.mem_singleton] at hq
    subst hq
    split <;> (simp only; omega)
theorem altsMk_args (M : Nat) (left : Int) : ∀ (l : List Alt) (r : Nat × Mk), (∀ a ∈ l, a.parts.length ≤ M) → ArgK M r.2 (altsMk left l r).2 l.length
  | [], r, _ => ⟨fun h => h, Nat.le_refl _⟩
  | a :: l, r, h => by
    unfold altsMk
    have e : (a :: l).length = 1 + l.length := by rw [List.length_cons, Nat.add_comm]
    rw [e]
    exact (altMk_args M left a r.1 r.2 (h a (by simp))).trans (altsMk_args M left l _ (fun b hb => h b (by simp [hb])))
theorem rulesMk_args (M : Nat) : ∀ (l : List Rule) (r : Nat × Mk), (∀ x ∈ l, ∀ a ∈ x.alts, a.parts.length ≤ M) → ArgK M r.2 (rulesMk l r).2 (altsL l)
  | [], r, _ => ⟨fun h => h, Nat.le_refl _⟩
  | x :: l, r, h => by
    unfold rulesMk altsL
    rw [List.map_cons, List.sum_cons]
    exact (altsMk_args M _ x.alts r (h x (by simp))).trans (rulesMk_args M l _ (fun b hb => h b (by simp [hb])))
theorem great_no {s : Mk} (h : great s = false) : (∀ p ∈ s.prods, p.right.length ≤ 8) ∧ s.toks.length ≤ 40 ∧ s.nons.length ≤ 24 ∧ s.prods.length ≤ 60 := by
  unfold great at h
  simp only [Bool.or_eq_false_iff, decide_eq_false_iff_not, List.any_eq_false, decide_eq_true_eq] at h
  obtain ⟨⟨⟨h1, h2⟩, h3⟩, h4⟩ := h
  exact ⟨fun p hp => by have := h1 p hp; omega, by omega, by omega, by omega⟩
theorem start_rules (x : Gr) : 1 ≤ (grSource x).rules.length ∧ (grSource x).rules.length ≤ 4 := by
  obtain ⟨_, _, _, _, _, _, _, _, _, hlefts⟩ := made_ok x
  have hr := nons_range x
  have h := congrArg List.length hlefts
  rw [List.length_map] at h
  have e : (nonNames (nonsOf x)).length = nonsOf x := by
    unfold nonNames
    simp
  omega
/-- GramStart, at a source of yuccalaw0.Source and one of its rules. -/
theorem start_made (x : Gr) (i : Nat) (r : Rule) (hr : (grSource x).rules[i]? = some r) :
    ∃ T N B, gramOf (grSource x) = (⟨T, N, ⟨0, [1001], -1, [], [], 0⟩ :: B, [], []⟩, ⟨0, 0, []⟩) ∧
      gramOf { grSource x with decls := (grSource x).decls ++ [startDecl r.left 5] } = (⟨T, N, ⟨0, [1001 + (i : Int)], -1, [], [], 0⟩ :: B, [], []⟩, ⟨0, 0, []⟩) ∧
      gramOf { grSource x with decls := (grSource x).decls ++ [startDecl r.left 5, startDecl r.left 6] } = (noGram, ⟨3, 6, r.left⟩) ∧
      0 < B.length ∧ B.length ≤ 59 ∧ (∀ p ∈ B, p.right.length ≤ 8 ∧ p.args.length ≤ 4000) ∧ T.length ≤ 40 ∧ N.length ≤ 24 ∧ (grSource x).rules.length ≤ 4 ∧ r.left.length ≤ 4000 := by
  obtain ⟨s1, s2, s3, h1, hst, h2, h3, hg, hl2, hlefts⟩ := made_ok x
  obtain ⟨n1, n4⟩ := nons_range x
  have hm := grSource_may x
  have hlen : (grSource x).rules.length = nonsOf x := by
    have h := congrArg List.length hlefts
    rw [List.length_map] at h
    rw [h]
    unfold nonNames
    simp
  have hin : i < nonsOf x := by rw [← hlen]; exact (List.getElem?_eq_some_iff.1 hr).1
  have hnm : (nonNames (nonsOf x))[i]? = some r.left := by
    rw [← hlefts, List.getElem?_map, hr]
    rfl
  have hmem : r.left ∈ nonNames (nonsOf x) := List.mem_of_getElem? hnm
  have hix : ∀ j nm, (nonNames (nonsOf x))[j]? = some nm → nonIx (nonNames (nonsOf x)) nm = some (j + 1) := by
    intro j nm hj
    have hjn : j < nonsOf x := by
      have := (List.getElem?_eq_some_iff.1 hj).1
      unfold nonNames at this
      simpa using this
    have e1 := List.all_eq_true.1 nonIx_names_all (nonsOf x) (List.mem_range.2 (by omega))
    have e2 := of_decide_eq_true (List.all_eq_true.1 e1 j (List.mem_range.2 hjn))
    rw [List.getD_eq_getElem?_getD, hj] at e2
    exact e2
  obtain ⟨r0, rs, hrs⟩ : ∃ r0 rs, (grSource x).rules = r0 :: rs := by
    cases h : (grSource x).rules with
    | nil => rw [h] at hlen; simp at hlen; omega
    | cons a l => exact ⟨a, l, rfl⟩
  have hn0 : (nonNames (nonsOf x))[0]? = some r0.left := by
    rw [← hlefts, hrs]
    rfl
  obtain ⟨T, N, B, g1, g2, g3, hB⟩ := start_law hrs hm h1 hst h2 h3 hg r.left (nonNames_isName n4 hmem) (by rw [hl2]; exact nonIx_mem.2 hmem)
  have hok := gramOf_ok hm h1 h2 h3 hg
  have hgr := great_no hg
  have f0 : firstP s2 r0.left = ⟨0, [1001], -1, [], [], 0⟩ := by
    unfold firstP
    rw [hl2, hix 0 _ hn0]
    rfl
  have f1 : firstP s2 r.left = ⟨0, [1001 + (i : Int)], -1, [], [], 0⟩ := by
    unfold firstP
    rw [hl2, hix i _ hnm]
    simp only [Option.getD_some]
    rw [show (1000 : Int) + ((i + 1 : Nat) : Int) = 1001 + (i : Int) by omega]
  rw [f0] at g1
  rw [f1] at g2
  have hee := g1.symm.trans hok
  have heq := (_root_.Prod.mk.inj hee).1
  simp only [Gram.mk.injEq] at heq
  obtain ⟨eT, eN, eP, _, _⟩ := heq
  have hpn : (numbersMk (prodsMk (grSource x) s3)).prods = (prodsMk (grSource x) s3).prods := rfl
  have hnn : (numbersMk (prodsMk (grSource x) s3)).nons = (prodsMk (grSource x) s3).nons := rfl
  rw [hpn, hnn, ← eN, ← eP, ← eT] at hgr
  obtain ⟨q1, q2, q3, q4⟩ := hgr
  have ha := rulesMk_args 4000 (grSource x).rules (0, { s3 with prods := [], start := [] }) (fun r hr a ha => ((grSource_rules x) r hr).2 a ha)
  have hB' : B = (rulesMk (grSource x).rules (0, { s3 with prods := [], start := [] })).2.prods := hB
  have halts : 0 < altsL (grSource x).rules := by
    unfold may at hm
    simp only [Bool.and_eq_true] at hm
    have h0 := List.all_eq_true.1 hm.2 r0 (by rw [hrs]; simp)
    unfold mayRule at h0
    simp only [Bool.and_eq_true, decide_eq_true_eq] at h0
    unfold altsL
    rw [hrs, List.map_cons, List.sum_cons]
    have := h0.1.2
    omega
  refine ⟨T, N, B, g1, g2, g3, ?_, by rw [List.length_cons] at q4; omega, fun p hp => ⟨q1 p (by simp [hp]), ?_⟩, q2, q3, by omega, ?_⟩
  · rw [hB']
    have := ha.more
    simp only [List.length_nil, Nat.zero_add] at this
    omega
  · rw [hB'] at hp
    exact ha.args (by simp) p hp
  · have := nonNames_isName n4 hmem
    unfold isName at this
    simp only [Bool.and_eq_true, decide_eq_true_eq] at this
    omega
end Sp
end Go.Proofs.YthmimcegiihcnaaDoor
