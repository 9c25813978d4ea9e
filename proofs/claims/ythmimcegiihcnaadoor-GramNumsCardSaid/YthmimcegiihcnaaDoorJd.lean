/- Plain law of gram.Of at the sources that GramTags makes: one tag, or the first other one is told. -/
import Derived.Test.YthmimcegiihcnaaDoorHZ
namespace Go.Proofs.YthmimcegiihcnaaDoor
namespace Sp
/-! ### Tags -/
def isTag (t : List UInt8) : Prop := t = [] ∨ t = [117] ∨ t = [118]
def tagRules : List Rule := [⟨[97], [⟨[⟨⟨[120], true, 0, 0⟩, [], 0⟩], ⟨[], false, 0, 0⟩, 0⟩], 0⟩]
def tokDecl (q : List UInt8 × Int) : Decl := ⟨1, q.1, [⟨[120], true, 0, q.2⟩], 0⟩
def nonDecl (q : List UInt8 × Int) : Decl := ⟨5, q.1, [⟨[97], false, 0, q.2⟩], 0⟩
def tagSrc (f : List UInt8 × Int → Decl) (l : List (List UInt8 × Int)) : Source := ⟨[], l.map f, tagRules, []⟩
/-- The tag that is wanted, or where another one is. -/
def tagScan : List (List UInt8 × Int) → List UInt8 → Except Int (List UInt8)
  | [], w => .ok w
  | (t, i) :: l, w => if w = [] then tagScan l t else if t ≠ [] ∧ t ≠ w then .error i else tagScan l w
def stT (seen : Bool) (w : List UInt8) : Mk := if seen = true then { mk0 with toks := mk0.toks ++ [⟨[120], true, 120, 0, 0, w⟩], given := mk0.given ++ [true] } else mk0
theorem tok_step {seen : Bool} {w t : List UInt8} {i : Int} (hw : isTag w) (ht : isTag t) (hs : seen = false → w = []) :
    symsGo (tokDecl (t, i)) 0 (tokDecl (t, i)).syms (stT seen w) = if w = [] then .ok (stT true t) else if t ≠ [] ∧ t ≠ w then .error ([120], i) else .ok (stT true w) := by
  cases seen
  · rw [hs rfl]
    rcases ht with rfl | rfl | rfl <;> rfl
  · rcases hw with rfl | rfl | rfl <;> rcases ht with rfl | rfl | rfl <;> rfl
theorem tok_decls : ∀ (l : List (List UInt8 × Int)) {seen : Bool} {w : List UInt8}, isTag w → (∀ q ∈ l, isTag q.1) → (seen = false → w = []) →
    declsMk 0 (l.map tokDecl) (stT seen w) = match tagScan l w with
      | .error i => .error ([120], i)
      | .ok w' => .ok (stT (seen || !l.isEmpty) w')
  | [], seen, w, _, _, _ => by simp [declsMk, tagScan]
  | (t, i) :: l, seen, w, hw, hl, hs => by
    have ht := hl (t, i) (by simp)
    have h1 := tok_step (i := i) hw ht hs
    show (match symsGo (tokDecl (t, i)) 0 (tokDecl (t, i)).syms (stT seen w) with
      | .error e => Except.error e
      | .ok s => declsMk 0 (l.map tokDecl) s) = _
    rw [h1]
    unfold tagScan
    by_cases h0 : w = []
    · rw [if_pos h0, if_pos h0]
      have h2 := tok_decls l (seen := true) ht (fun q hq => hl q (by simp [hq])) (by simp)
      simp only
      rw [h2]
      cases tagScan l t <;> simp
    · rw [if_neg h0, if_neg h0]
      by_cases hb : t ≠ [] ∧ t ≠ w
      · rw [if_pos hb, if_pos hb]
      · rw [if_neg hb, if_neg hb]
        have h2 := tok_decls l (seen := true) hw (fun q hq => hl q (by simp [hq])) (by simp)
        simp only
        rw [h2]
        cases tagScan l w <;> simp
theorem tagScan_tag : ∀ (l : List (List UInt8 × Int)) {w w' : List UInt8}, isTag w → (∀ q ∈ l, isTag q.1) → tagScan l w = .ok w' → isTag w'
  | [], w, w', hw, _, h => by cases h; exact hw
  | (t, i) :: l, w, w', hw, hl, h => by
    unfold tagScan at h
    split at h
    · exact tagScan_tag l (hl (t, i) (by simp)) (fun q hq => hl q (by simp [hq])) h
    · split at h
      · cases h
      · exact tagScan_tag l hw (fun q hq => hl q (by simp [hq])) h
theorem names_tok (s : Mk) : ∀ l : List (List UInt8 × Int), declsNames s (l.map tokDecl) = none
  | [] => rfl
  | _ :: l => names_tok s l
theorem may_tok (l : List (List UInt8 × Int)) (hl : ∀ q ∈ l, isTag q.1) : may (tagSrc tokDecl l) = true := by
  have h1 : (l.map tokDecl).all mayDecl = true := by
    rw [List.all_eq_true]
    intro d hd
    obtain ⟨q, hq, rfl⟩ := List.mem_map.1 hd
    obtain ⟨t, i⟩ := q
    rcases hl _ hq with h | h | h <;> simp only at h <;> subst h <;> rfl
  unfold may tagSrc
  simp only
  rw [h1]
  rfl
def tokGram (w : List UInt8) : Gram := ⟨mk0.toks ++ [⟨[120], true, 120, 0, 0, w⟩], [⟨[36, 97, 99, 99, 101, 112, 116], []⟩, ⟨[97], []⟩], [⟨0, [1001], -1, [], [], 0⟩, ⟨1, [3], 3, [], [3], 0⟩], [], []⟩
theorem tok_tags (l : List (List UInt8 × Int)) (hl : ∀ q ∈ l, isTag q.1) : gramOf (tagSrc tokDecl l) = match tagScan l [] with
    | .error i => (noGram, ⟨3, i, [120]⟩)
    | .ok w => (tokGram w, ⟨0, 0, []⟩) := by
  have hd := tok_decls l (seen := false) (w := []) (.inl rfl) hl (fun _ => rfl)
  unfold gramOf
  rw [may_tok l hl]
  simp only [Bool.true_eq_false, if_false]
  have e0 : declsMk 0 (tagSrc tokDecl l).decls mk0 = declsMk 0 (l.map tokDecl) (stT false []) := rfl
  rw [e0, hd]
  cases hs : tagScan l [] with
  | error i => rfl
  | ok w =>
    have hw := tagScan_tag l (.inl rfl) hl hs
    have hl0 : l = [] → w = [] := fun e => by subst e; cases hs; rfl
    simp only
    have e1 : leftsMk (tagSrc tokDecl l) (stT (false || !l.isEmpty) w) = (match leftsGo tagRules (stT (false || !l.isEmpty) w) with
        | .error e => .error e
        | .ok s => .ok s) := by
      unfold leftsMk
      show (match leftsGo tagRules _ with
        | .error e => _
        | .ok s => match declsNames s (l.map tokDecl) with
          | some e => _
          | none => _) = _
      cases leftsGo tagRules (stT (false || !l.isEmpty) w) with
      | error e => rfl
      | ok s => simp only [names_tok]
    rw [e1]
    cases l with
    | nil => rw [hl0 rfl]; rfl
    | cons q l => rcases hw with rfl | rfl | rfl <;> rfl
def isTag2 (t : List UInt8) : Prop := t = [117] ∨ t = [118]
def optTag (w : List UInt8) : Option (List UInt8) := if w = [] then none else some w
theorem non_decls : ∀ (l : List (List UInt8 × Int)) {T : List (List UInt8 × List UInt8)} {w : List UInt8}, typeOf T [97] = optTag w → (∀ q ∈ l, isTag2 q.1) →
    match tagScan l w with
    | .error i => declsMk 0 (l.map nonDecl) { mk0 with types := T } = .error ([97], i)
    | .ok w' => ∃ T', declsMk 0 (l.map nonDecl) { mk0 with types := T } = .ok { mk0 with types := T' } ∧ typeOf T' [97] = optTag w'
  | [], T, w, hT, _ => ⟨T, rfl, hT⟩
  | (t, i) :: l, T, w, hT, hl => by
    have ht := hl (t, i) (by simp)
    have hne : t ≠ [] := by rcases ht with h | h <;> simp only at h <;> subst h <;> simp
    have hc : typeOf (([97], t) :: T) [97] = optTag t := by
      show (if [97] = [97] then some t else typeOf T [97]) = _
      rw [if_pos rfl]
      unfold optTag
      rw [if_neg hne]
    have e0 : declsMk 0 ((nonDecl (t, i)) :: l.map nonDecl) { mk0 with types := T } = match namedStep { mk0 with types := T } (nonDecl (t, i)) ⟨[97], false, 0, i⟩ with
        | none => .error ([97], i)
        | some s => declsMk 0 (l.map nonDecl) s := by
      show (match symsGo (nonDecl (t, i)) 0 [⟨[97], false, 0, i⟩] { mk0 with types := T } with
        | .error e => Except.error e
        | .ok s => declsMk 0 (l.map nonDecl) s) = _
      have e1 : symsGo (nonDecl (t, i)) 0 [⟨[97], false, 0, i⟩] { mk0 with types := T } = match namedStep { mk0 with types := T } (nonDecl (t, i)) ⟨[97], false, 0, i⟩ with
          | none => .error ([97], i)
          | some s => .ok s := by
        unfold symsGo
        rw [if_pos (by show (5 : Int) ≤ 5; decide)]
        cases namedStep { mk0 with types := T } (nonDecl (t, i)) ⟨[97], false, 0, i⟩ <;> rfl
      rw [e1]
      cases namedStep { mk0 with types := T } (nonDecl (t, i)) ⟨[97], false, 0, i⟩ <;> rfl
    have hstep : namedStep { mk0 with types := T } (nonDecl (t, i)) ⟨[97], false, 0, i⟩ = if w ≠ [] ∧ t ≠ w then none else some { mk0 with types := ([97], t) :: T } := by
      unfold namedStep
      by_cases hb : w ≠ [] ∧ t ≠ w
      · rw [if_pos hb, if_pos]
        refine .inl ⟨rfl, w, ?_, fun e => hb.2 e.symm⟩
        show typeOf T [97] = some w
        rw [hT]
        unfold optTag
        rw [if_neg hb.1]
      · rw [if_neg hb, if_neg]
        · rfl
        · rintro (⟨_, u, h1, h2⟩ | ⟨h1, _⟩)
          · have h1' : typeOf T [97] = some u := h1
            rw [hT] at h1'
            unfold optTag at h1'
            split at h1'
            · cases h1'
            · rename_i hw
              cases h1'
              exact hb ⟨hw, fun e => h2 e.symm⟩
          · have : (5 : Int) = 6 := h1
            omega
    unfold tagScan
    rw [List.map_cons, e0, hstep]
    by_cases h0 : w = []
    · rw [if_pos h0, if_neg (fun h => h.1 h0)]
      exact non_decls l hc (fun q hq => hl q (by simp [hq]))
    · rw [if_neg h0]
      by_cases hb : t ≠ [] ∧ t ≠ w
      · rw [if_pos hb, if_pos ⟨h0, hb.2⟩]
      · rw [if_neg hb, if_neg (fun h => hb ⟨hne, h.2⟩)]
        have htw : t = w := by
          apply Classical.byContradiction
          intro h
          exact hb ⟨hne, h⟩
        exact non_decls l (by rw [hc, htw]) (fun q hq => hl q (by simp [hq]))
theorem names_non {s : Mk} (hs : s.lefts = [[97]]) : ∀ l : List (List UInt8 × Int), declsNames s (l.map nonDecl) = none
  | [] => rfl
  | q :: l => by
    show (match namesOk s 5 [⟨[97], false, 0, q.2⟩] with
      | some e => some e
      | none => declsNames s (l.map nonDecl)) = none
    have e : namesOk s 5 [⟨[97], false, 0, q.2⟩] = none := by
      unfold namesOk
      rw [hs, if_neg (by rintro ⟨_, h⟩; cases h)]
      rfl
    rw [e]
    exact names_non hs l
theorem may_non (l : List (List UInt8 × Int)) (hl : ∀ q ∈ l, isTag2 q.1) : may (tagSrc nonDecl l) = true := by
  have h1 : (l.map nonDecl).all mayDecl = true := by
    rw [List.all_eq_true]
    intro d hd
    obtain ⟨q, hq, rfl⟩ := List.mem_map.1 hd
    obtain ⟨t, i⟩ := q
    rcases hl _ hq with h | h <;> simp only at h <;> subst h <;> rfl
  unfold may tagSrc
  simp only
  rw [h1]
  rfl
def nonGram (w : List UInt8) : Gram := ⟨mk0.toks ++ [⟨[120], true, 120, 0, 0, []⟩], [⟨[36, 97, 99, 99, 101, 112, 116], []⟩, ⟨[97], w⟩], [⟨0, [1001], -1, [], [], 0⟩, ⟨1, [3], 3, [], [3], 0⟩], [], []⟩
theorem non_tags (l : List (List UInt8 × Int)) (hl : ∀ q ∈ l, isTag2 q.1) : gramOf (tagSrc nonDecl l) = match tagScan l [] with
    | .error i => (noGram, ⟨3, i, [97]⟩)
    | .ok w => (nonGram w, ⟨0, 0, []⟩) := by
  have hd := non_decls l (T := []) (w := []) rfl hl
  unfold gramOf
  rw [may_non l hl]
  simp only [Bool.true_eq_false, if_false]
  have e0 : declsMk 0 (tagSrc nonDecl l).decls mk0 = declsMk 0 (l.map nonDecl) { mk0 with types := [] } := rfl
  rw [e0]
  cases hs : tagScan l [] with
  | error i =>
    rw [hs] at hd
    rw [hd]
  | ok w =>
    rw [hs] at hd
    obtain ⟨T, h1, h2⟩ := hd
    rw [h1]
    simp only
    have e1 : leftsGo tagRules { mk0 with types := T } = .ok { mk0 with types := T, lefts := [[97]], nons := mk0.nons ++ [⟨[97], w⟩] } := by
      have e2 : leftsGo tagRules { mk0 with types := T } = .ok { mk0 with types := T, lefts := [[97]], nons := mk0.nons ++ [⟨[97], (typeOf T [97]).getD []⟩] } := rfl
      rw [e2, h2]
      unfold optTag
      by_cases hw : w = []
      · rw [if_pos hw, hw]; rfl
      · rw [if_neg hw]; rfl
    have e3 : leftsMk (tagSrc nonDecl l) { mk0 with types := T } = .ok { mk0 with types := T, lefts := [[97]], nons := mk0.nons ++ [⟨[97], w⟩] } := by
      unfold leftsMk
      have hr : (tagSrc nonDecl l).rules = tagRules := rfl
      have hdd : (tagSrc nonDecl l).decls = l.map nonDecl := rfl
      rw [hr, hdd]
      rw [e1]
      simp only
      rw [names_non rfl]
    rw [e3]
    rfl
end Sp
end Go.Proofs.YthmimcegiihcnaaDoor
