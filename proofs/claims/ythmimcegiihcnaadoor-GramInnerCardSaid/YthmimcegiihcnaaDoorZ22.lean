/- Sources that the statements of layer 9 make: their box, their rows, as they grow. What GramInner holds while it makes its source: the plain part. -/
import Derived.Test.YthmimcegiihcnaaDoorZ21
import Derived.Test.YthmimcegiihcnaaDoorZ20
namespace Go.Proofs.YthmimcegiihcnaaDoor
open Go.RowKit Go.Maps

theorem owns_block {w : World} {b B size n : Nat} {e : TypeId} {cs : Array Value} (h : w.heap[b]? = some (.cells cs e (0, 0))) (hb : B ≤ b) (hl : cs.size = n * size) (hm : n ≤ maxLen) : w.ownsRow B e size (.slice (some ⟨b, 0, none⟩) n n) n cs.toList :=
  ⟨by simpa using hl, .inr ⟨b, n, cs, rfl, hb, h, Nat.le_refl _, hm, hl, List.take_of_length_le (by rw [Array.length_toList, hl]; exact Nat.le_refl _)⟩⟩
/-- The source as it is made: its box, its one rule, its one alternative, the parts. -/
structure PassSt (B : Nat) (w : World) (bs br ba : Nat) (dv pv : Value) (ds : List Sp.Decl) (ps : List Sp.Part) : Prop where
  src : w.heap[bs]? = some (.cells #[.string ⟨#[]⟩, dv, .slice (some ⟨br, 0, none⟩) 1 1, .string ⟨#[]⟩] 29 (0, 0))
  rule : w.heap[br]? = some (.cells #[.string ⟨#[97]⟩, .slice (some ⟨ba, 0, none⟩) 1 1, .int .i64 0] 52 (0, 0))
  alt : w.heap[ba]? = some (.cells #[pv, .string ⟨#[]⟩, .bool false, .int .i64 0, .int .i64 0, .int .i64 0] 49 (0, 0))
  parts : w.ownsRow B 46 6 pv ps.length (ps.map partC).flatten
  decls : DeclsOwn B w dv ds
  ge : B ≤ bs ∧ B ≤ br ∧ B ≤ ba
theorem PassSt.rules {B : Nat} {w : World} {bs br ba : Nat} {dv pv : Value} {ds : List Sp.Decl} {ps : List Sp.Part} (h : PassSt B w bs br ba dv pv ds ps) :
    RulesOwn B w (.slice (some ⟨br, 0, none⟩) 1 1) [⟨[97], [⟨ps, ⟨[], false, 0, 0⟩, 0⟩], 0⟩] := by
  refine ⟨fun _ => .slice (some ⟨ba, 0, none⟩) 1 1, owns_block h.rule h.ge.2.1 rfl (by decide), fun i r hr => ?_⟩
  obtain ⟨rfl, rfl⟩ := one_at hr
  refine ⟨B, fun _ => pv, owns_block h.alt h.ge.2.2 rfl (by decide), fun i a ha => ?_⟩
  obtain ⟨rfl, rfl⟩ := one_at ha
  exact ⟨B, h.parts⟩
/-- A part more. -/
theorem PassSt.addPart {B : Nat} {w w8 w' : World} {bs br ba : Nat} {pv pv' : Value} {ps : List Sp.Part} {p : Sp.Part} (h : PassSt B w bs br ba (.slice none 0 0) pv [] ps) (hk : Kp (fun b => b = bs ∨ b = br ∨ b = ba) w w8) (hown : w8.ownsRow B 46 6 pv' (ps.length + 1) ((ps.map partC).flatten ++ partC p)) (hw : w' = w8.setCell ⟨ba, 0, none⟩ pv') :
    PassSt B w' bs br ba (.slice none 0 0) pv' [] (ps ++ [p]) := by
  subst hw
  have hne1 : bs ≠ ba := by
    rintro rfl
    have := h.src.symm.trans h.alt
    simp at this
  have hne2 : br ≠ ba := by
    rintro rfl
    have := h.rule.symm.trans h.alt
    simp at this
  have hal := hk.at h.alt (.inr (.inr rfl))
  refine ⟨(Below.heap_setCell _ _ _ _ hne1).trans (hk.at h.src (.inl rfl)), (Below.heap_setCell _ _ _ _ hne2).trans (hk.at h.rule (.inr (.inl rfl))), heap_setCell_at hal, ?_, OwnR.nil _ _ _ _ _ _, h.ge⟩
  have e : ((ps ++ [p]).map partC).flatten = (ps.map partC).flatten ++ partC p := by simp
  rw [e, List.length_append]
  exact ownsRow_kpT hown (KpT.setCell (T := fun t => t = 46) (fun _ _ _ _ h _ => h) hal (by decide) _) rfl
/-- The source, its rows. -/
structure PassS2 (B : Nat) (w : World) (bs : Nat) (dv rv : Value) (ds : List Sp.Decl) (rs : List Sp.Rule) : Prop where
  src : w.heap[bs]? = some (.cells #[.string ⟨#[]⟩, dv, rv, .string ⟨#[]⟩] 29 (0, 0))
  decls : DeclsOwn B w dv ds
  rules : RulesOwn B w rv rs
  ge : B ≤ bs
theorem PassSt.two {B : Nat} {w : World} {bs br ba : Nat} {dv pv : Value} {ds : List Sp.Decl} {ps : List Sp.Part} (h : PassSt B w bs br ba dv pv ds ps) : PassS2 B w bs dv (.slice (some ⟨br, 0, none⟩) 1 1) ds [⟨[97], [⟨ps, ⟨[], false, 0, 0⟩, 0⟩], 0⟩] := ⟨h.src, h.decls, h.rules, h.ge.1⟩
end Go.Proofs.YthmimcegiihcnaaDoor

namespace Go.Proofs.YthmimcegiihcnaaDoor
namespace Sp
def xPart (i : Nat) : Part := ⟨⟨[120], true, 0, (i : Int)⟩, [], (i : Int)⟩
def cPart (i : Nat) : Part := ⟨⟨[], false, 0, 0⟩, codeOf i, 50 + (i : Int)⟩
theorem innerParts_snoc (n : Nat) (b : Bool) : ∀ (l : List Bool) (i : Nat), innerParts n i (l ++ [b]) = innerParts n i l ++ (xPart (i + l.length) :: if b = true then [cPart (i + l.length)] else [])
  | [], i => by simp [innerParts, xPart, cPart]
  | c :: l, i => by
    show xPart i :: ((if c = true then [cPart i] else []) ++ innerParts n (i + 1) (l ++ [b])) = (xPart i :: ((if c = true then [cPart i] else []) ++ innerParts n (i + 1) l)) ++ _
    rw [innerParts_snoc n b l (i + 1), List.length_cons, show i + 1 + l.length = i + (l.length + 1) by omega, List.cons_append, List.append_assoc]
def innStep (n i : Nat) (b : Bool) (s : InnSt) : InnSt :=
  if b = false then { s with right := s.right ++ [3] }
  else if i + 1 = n then { s with right := s.right ++ [3], last := codeOf i, at_ := 50 + (i : Int) }
  else { s with right := s.right ++ [3] ++ [1001 + ((s.prods.length + 1 : Nat) : Int)], prods := s.prods ++ [⟨((s.prods.length + 2 : Nat) : Int), [], -1, codeOf i, s.right ++ [3], 50 + (i : Int)⟩], nons := s.nons ++ [⟨64 :: Lib.itoa ((s.prods.length + 1 : Nat) : Int), []⟩] }
theorem innGo_cons (n i : Nat) (b : Bool) (l : List Bool) (s : InnSt) : innGo n i (b :: l) s = innGo n (i + 1) l (innStep n i b s) := by
  conv => lhs; unfold innGo
  unfold innStep
  simp only
  split
  · rfl
  · split <;> rfl
theorem innGo_snoc (n : Nat) (b : Bool) : ∀ (l : List Bool) (i : Nat) (s : InnSt), innGo n i (l ++ [b]) s = innStep n (i + l.length) b (innGo n i l s)
  | [], i, s => by
    rw [List.nil_append, innGo_cons]
    rfl
  | c :: l, i, s => by
    rw [List.cons_append, innGo_cons, innGo_cons, innGo_snoc n b l (i + 1), List.length_cons, show i + 1 + l.length = i + (l.length + 1) by omega]
def inn0 : InnSt := ⟨[], [], [], [], 40⟩
/-- What stands after k elements. -/
structure InnOk (n k : Nat) (s : InnSt) : Prop where
  prods : ∀ (j : Nat) (p : Prod), s.prods[j]? = some p → p.left = ((j + 2 : Nat) : Int) ∧ p.right = [] ∧ p.prec = -1 ∧ ∃ i, i < k ∧ p.code = codeOf i ∧ p.at_ = 50 + (i : Int)
  rise : ∀ (j : Nat) (p q : Prod), s.prods[j]? = some p → s.prods[j + 1]? = some q → p.at_ < q.at_
  nons : ∀ (j : Nat) (m : Non), s.nons[j]? = some m → m.name = 64 :: Lib.itoa ((j + 1 : Nat) : Int)
  nlen : s.nons.length = s.prods.length
  plen : s.prods.length ≤ k
  rlen : s.right.length ≤ 2 * k
  alen : ∀ p ∈ s.prods, p.args.length ≤ 2 * k
  rpos : 0 < k → 0 < s.right.length
  last : (s.last = [] ∧ s.at_ = 40) ∨ (k = n ∧ 0 < n ∧ s.last = codeOf (n - 1) ∧ s.at_ = 50 + ((n - 1 : Nat) : Int))
theorem innOk0 (n : Nat) : InnOk n 0 inn0 := ⟨by simp [inn0], by simp [inn0], by simp [inn0], rfl, by simp [inn0], by simp [inn0], by simp [inn0], by simp, .inl ⟨rfl, rfl⟩⟩
theorem snoc_at {α : Type} {l : List α} {a b : α} {j : Nat} (h : (l ++ [a])[j]? = some b) : l[j]? = some b ∨ j = l.length ∧ a = b := by
  rw [List.getElem?_append] at h
  split at h
  · exact .inl h
  · rename_i hj
    have : j - l.length = 0 := by
      have := (List.getElem?_eq_some_iff.1 h).1
      simp at this; omega
    rw [this] at h
    exact .inr ⟨by omega, by simpa using h⟩
theorem InnOk.step {n k : Nat} {s : InnSt} (h : InnOk n k s) (hk : k < n) (b : Bool) : InnOk n (k + 1) (innStep n k b s) := by
  have hlast : s.last = [] ∧ s.at_ = 40 := by
    rcases h.last with h | ⟨h, _⟩
    · exact h
    · omega
  have hp : ∀ (j : Nat) (p : Prod), s.prods[j]? = some p → p.left = ((j + 2 : Nat) : Int) ∧ p.right = [] ∧ p.prec = -1 ∧ ∃ i, i < k + 1 ∧ p.code = codeOf i ∧ p.at_ = 50 + (i : Int) := fun j p hj => by
    obtain ⟨h1, h2, h3, i, hi, h4⟩ := h.prods j p hj
    exact ⟨h1, h2, h3, i, by omega, h4⟩
  have hrl := h.rlen; have hpl := h.plen
  unfold innStep
  split
  · exact ⟨hp, h.rise, h.nons, h.nlen, by simp only; omega, by simp only [List.length_append, List.length_cons, List.length_nil]; omega, fun p hp => by have := h.alen p hp; omega, fun _ => by simp, .inl hlast⟩
  · split
    · rename_i hkn
      refine ⟨hp, h.rise, h.nons, h.nlen, by simp only; omega, by simp only [List.length_append, List.length_cons, List.length_nil]; omega, fun p hp => by have := h.alen p hp; omega, fun _ => by simp, .inr ⟨hkn, by omega, ?_, ?_⟩⟩
      · show codeOf k = codeOf (n - 1)
        rw [show n - 1 = k by omega]
      · show 50 + (k : Int) = _
        rw [show n - 1 = k by omega]
    · refine ⟨fun j p hj => ?_, fun j p q hj hq => ?_, fun j m hj => ?_, ?_, ?_, ?_, ?_, fun _ => by simp, .inl hlast⟩
      · rcases snoc_at hj with hj | ⟨rfl, rfl⟩
        · exact hp j p hj
        · exact ⟨rfl, rfl, rfl, k, by omega, rfl, rfl⟩
      · rcases snoc_at hq with hq | ⟨hq, rfl⟩
        · have := (List.getElem?_eq_some_iff.1 hq).1
          have hj' : s.prods[j]? = some p := by
            rcases snoc_at hj with hj | ⟨h1, _⟩
            · exact hj
            · omega
          exact h.rise j p q hj' hq
        · have hj' : s.prods[j]? = some p := by
            rcases snoc_at hj with hj | ⟨h1, _⟩
            · exact hj
            · omega
          obtain ⟨_, _, _, i, hi, _, ha⟩ := h.prods j p hj'
          rw [ha]
          show 50 + (i : Int) < 50 + (k : Int)
          omega
      · rcases snoc_at hj with hj | ⟨h1, rfl⟩
        · exact h.nons j m hj
        · rw [h1, h.nlen]
      · simp only [List.length_append, List.length_cons, List.length_nil, h.nlen]
      · simp only [List.length_append, List.length_cons, List.length_nil]; omega
      · simp only [List.length_append, List.length_cons, List.length_nil]; omega
      · intro p hp
        rcases List.mem_append.1 hp with hp | hp
        · have := h.alen p hp; omega
        · rw [List.mem_singleton] at hp
          subst hp
          simp only [List.length_append, List.length_cons, List.length_nil]
          omega
/-- The state after k of the elements. -/
def innAt (l : List Bool) (k : Nat) : InnSt := innGo l.length 0 (l.take k) inn0
theorem innAt_snoc {l : List Bool} {k : Nat} {b : Bool} (h : l[k]? = some b) : innAt l (k + 1) = innStep l.length k b (innAt l k) := by
  have hk := (List.getElem?_eq_some_iff.1 h).1
  unfold innAt
  rw [List.take_add_one, h]
  show innGo l.length 0 (l.take k ++ [b]) inn0 = _
  rw [innGo_snoc, Nat.zero_add, List.length_take, show min k l.length = k by omega]
theorem innAt_ok (l : List Bool) : ∀ k, k ≤ l.length → InnOk l.length k (innAt l k)
  | 0, _ => innOk0 _
  | k + 1, h => by
    rw [innAt_snoc (List.getElem?_eq_getElem (by omega))]
    exact (innAt_ok l k (by omega)).step (by omega) _
def partsAt (l : List Bool) (k : Nat) : List Part := innerParts l.length 0 (l.take k)
theorem partsAt_snoc {l : List Bool} {k : Nat} {b : Bool} (h : l[k]? = some b) : partsAt l (k + 1) = partsAt l k ++ (xPart k :: if b = true then [cPart k] else []) := by
  have hk := (List.getElem?_eq_some_iff.1 h).1
  unfold partsAt
  rw [List.take_add_one, h]
  show innerParts l.length 0 (l.take k ++ [b]) = _
  rw [innerParts_snoc, Nat.zero_add, List.length_take, show min k l.length = k by omega]
theorem partsAt_len (l : List Bool) : ∀ k, k ≤ l.length → (partsAt l k).length ≤ 2 * k
  | 0, _ => Nat.le_refl _
  | k + 1, h => by
    rw [partsAt_snoc (List.getElem?_eq_getElem (by omega))]
    have := partsAt_len l k (by omega)
    simp only [List.length_append, List.length_cons]
    split <;> (simp only [List.length_cons, List.length_nil]; omega)
theorem partsAt_mem (l : List Bool) : ∀ k, k ≤ l.length → ∀ p ∈ partsAt l k, ∃ i, i < l.length ∧ (p = xPart i ∨ p = cPart i)
  | 0, _, p, hp => by cases hp
  | k + 1, h, p, hp => by
    rw [partsAt_snoc (List.getElem?_eq_getElem (by omega))] at hp
    rcases List.mem_append.1 hp with hp | hp
    · exact partsAt_mem l k (by omega) p hp
    · rcases List.mem_cons.1 hp with rfl | hp
      · exact ⟨k, by omega, .inl rfl⟩
      · split at hp
        · rw [List.mem_singleton] at hp
          exact ⟨k, by omega, .inr hp⟩
        · cases hp
/-- The law at the end. -/
theorem inn_end (l : List Bool) (h : l.length ≤ 7) : gramOf ⟨[], [], [⟨[97], [⟨partsAt l l.length, ⟨[], false, 0, 0⟩, 40⟩], 0⟩], []⟩ = (let s := innAt l l.length
  if 8 < s.right.length then (noGram, ⟨4, 0, []⟩)
  else (⟨mk0.toks ++ (if l = [] then [] else [⟨[120], true, 120, 0, 0, []⟩]), mk0.nons ++ [⟨[97], []⟩] ++ s.nons, ⟨0, [1001], -1, [], [], 0⟩ :: s.prods ++ [⟨1, s.right, if l = [] then -1 else 3, s.last, s.right, s.at_⟩], [], []⟩, ⟨0, 0, []⟩)) := by
  have hl := inn_law l h
  unfold innerSrc innExp at hl
  unfold partsAt innAt
  rw [List.take_of_length_le (Nat.le_refl _)]
  exact hl
end Sp
end Go.Proofs.YthmimcegiihcnaaDoor
