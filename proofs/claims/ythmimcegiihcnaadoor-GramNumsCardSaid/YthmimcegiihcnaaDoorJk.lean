/- What GramTags and GramNums hold while they make their sources: the plain part. -/
import Derived.Test.YthmimcegiihcnaaDoorJd
import Derived.Test.YthmimcegiihcnaaDoorJe
namespace Go.Proofs.YthmimcegiihcnaaDoor
namespace Sp
/-! ### Tags -/
theorem tagScan_snoc : ∀ (L : List (List UInt8 × Int)) (w t : List UInt8) (i : Int), tagScan (L ++ [(t, i)]) w = match tagScan L w with
    | .error j => .error j
    | .ok w' => if w' = [] then .ok t else if t ≠ [] ∧ t ≠ w' then .error i else .ok w'
  | [], w, t, i => by simp only [List.nil_append, tagScan]
  | (u, j) :: L, w, t, i => by
    simp only [List.cons_append, tagScan]
    by_cases h0 : w = []
    · rw [if_pos h0, if_pos h0]; exact tagScan_snoc L u t i
    · rw [if_neg h0, if_neg h0]
      by_cases h1 : u ≠ [] ∧ u ≠ w
      · rw [if_pos h1, if_pos h1]
      · rw [if_neg h1, if_neg h1]; exact tagScan_snoc L w t i
def tagAt (r : Nat) : List UInt8 := if r = 0 then [] else if r = 1 then [117] else [118]
def tagOf (n : Int) : List UInt8 := tagAt (n % 3).toNat
theorem tagAt_tag (r : Nat) : isTag (tagAt r) := by
  unfold tagAt isTag
  split
  · exact .inl rfl
  · split
    · exact .inr (.inl rfl)
    · exact .inr (.inr rfl)
theorem tagOf_tag (n : Int) : isTag (tagOf n) := tagAt_tag _
theorem isTag.two {t : List UInt8} (h : isTag t) (h0 : t ≠ []) : isTag2 t := h.resolve_left h0
def tagEnt (non : Bool) (l : List Int) (k : Nat) : List (List UInt8 × Int) := ((l.take k).mapIdx fun i n => (tagOf n, (i : Int))).filter fun q => !non || !q.1.isEmpty
theorem tagEnt_zero (non : Bool) (l : List Int) : tagEnt non l 0 = [] := rfl
theorem tagEnt_snoc (non : Bool) {l : List Int} {k : Nat} {n : Int} (h : l[k]? = some n) : tagEnt non l (k + 1) = tagEnt non l k ++ [(tagOf n, (k : Int))].filter fun q => !non || !q.1.isEmpty := by
  have hl : (l.take k).length = k := by
    have := (List.getElem?_eq_some_iff.1 h).1
    rw [List.length_take]; omega
  unfold tagEnt
  rw [List.take_add_one, h, List.mapIdx_append, List.filter_append]
  simp [hl]
theorem tagEnt_tok {l : List Int} {k : Nat} {n : Int} (h : l[k]? = some n) : tagEnt false l (k + 1) = tagEnt false l k ++ [(tagOf n, (k : Int))] := by rw [tagEnt_snoc false h]; rfl
theorem tagEnt_skip {l : List Int} {k : Nat} {n : Int} (h : l[k]? = some n) (ht : tagOf n = []) : tagEnt true l (k + 1) = tagEnt true l k := by rw [tagEnt_snoc true h, ht]; simp
theorem tagEnt_non {l : List Int} {k : Nat} {n : Int} (h : l[k]? = some n) (ht : tagOf n ≠ []) : tagEnt true l (k + 1) = tagEnt true l k ++ [(tagOf n, (k : Int))] := by rw [tagEnt_snoc true h]; simp [ht]
theorem tagEnt_mem {non : Bool} {l : List Int} {k : Nat} {q : List UInt8 × Int} (h : q ∈ tagEnt non l k) : isTag q.1 ∧ (non = true → isTag2 q.1) := by
  unfold tagEnt at h
  rw [List.mem_filter] at h
  obtain ⟨h1, h2⟩ := h
  obtain ⟨i, hi, rfl⟩ := List.mem_mapIdx.1 h1
  refine ⟨tagOf_tag _, fun hn => (tagOf_tag _).two ?_⟩
  subst hn
  simpa using h2
theorem tagEnt_len (non : Bool) (l : List Int) (k : Nat) : (tagEnt non l k).length ≤ k := by
  unfold tagEnt
  refine Nat.le_trans (List.length_filter_le _ _) ?_
  simp
  omega
/-- The tag that is wanted, the place of another one, as they are counted. -/
def TagRel (L : List (List UInt8 × Int)) (want : List UInt8) (bad : Int) : Prop := isTag want ∧ match tagScan L [] with
  | .ok w => want = w ∧ bad = -1
  | .error j => want ≠ [] ∧ bad = j ∧ 0 ≤ j
theorem TagRel.start : TagRel [] [] (-1) := ⟨.inl rfl, rfl, rfl⟩
theorem TagRel.first {L : List (List UInt8 × Int)} {bad : Int} (h : TagRel L [] bad) {t : List UInt8} (ht : isTag t) (i : Int) : TagRel (L ++ [(t, i)]) t bad := by
  obtain ⟨_, h⟩ := h
  refine ⟨ht, ?_⟩
  rw [tagScan_snoc]
  cases hs : tagScan L [] with
  | error j => rw [hs] at h; exact absurd rfl h.1
  | ok w =>
    rw [hs] at h
    obtain ⟨rfl, hb⟩ := h
    simp [hb]
theorem TagRel.same {L : List (List UInt8 × Int)} {want : List UInt8} {bad : Int} (h : TagRel L want bad) {t : List UInt8} (i : Int) (h0 : want ≠ []) (h1 : t = [] ∨ t = want ∨ 0 ≤ bad) : TagRel (L ++ [(t, i)]) want bad := by
  obtain ⟨hw, h⟩ := h
  refine ⟨hw, ?_⟩
  rw [tagScan_snoc]
  cases hs : tagScan L [] with
  | error j => rw [hs] at h; exact h
  | ok w =>
    rw [hs] at h
    obtain ⟨rfl, hb⟩ := h
    simp only
    rw [if_neg h0, if_neg (by rintro ⟨a, b⟩; rcases h1 with h1 | h1 | h1; exact a h1; exact b h1; omega)]
    exact ⟨rfl, hb⟩
theorem TagRel.other {L : List (List UInt8 × Int)} {want : List UInt8} {bad : Int} (h : TagRel L want bad) {t : List UInt8} {i : Int} (hi : 0 ≤ i) (h0 : want ≠ []) (h1 : t ≠ []) (h2 : t ≠ want) (hb : bad < 0) : TagRel (L ++ [(t, i)]) want i := by
  obtain ⟨hw, h⟩ := h
  refine ⟨hw, ?_⟩
  rw [tagScan_snoc]
  cases hs : tagScan L [] with
  | error j => rw [hs] at h; have := h.2; omega
  | ok w =>
    rw [hs] at h
    obtain ⟨rfl, _⟩ := h
    simp only
    rw [if_neg h0, if_pos ⟨h1, h2⟩]
    exact ⟨h0, rfl, hi⟩
def tagFn (non : Bool) : List UInt8 × Int → Decl := if non = true then nonDecl else tokDecl
/-- The end: a fault told, or the tag that is wanted. -/
theorem TagRel.bad {L : List (List UInt8 × Int)} {want : List UInt8} {bad : Int} (h : TagRel L want bad) (non : Bool) (hL : ∀ q ∈ L, isTag q.1 ∧ (non = true → isTag2 q.1)) (hb : 0 ≤ bad) : gramOf (tagSrc (tagFn non) L) = (noGram, ⟨3, bad, if non = true then [97] else [120]⟩) := by
  obtain ⟨_, h⟩ := h
  cases hs : tagScan L [] with
  | ok w => rw [hs] at h; have := h.2; omega
  | error j =>
    rw [hs] at h
    obtain ⟨_, rfl, _⟩ := h
    cases non with
    | false => unfold tagFn; simp only [Bool.false_eq_true, if_false]; rw [tok_tags L (fun q hq => (hL q hq).1), hs]
    | true => unfold tagFn; simp only [if_true]; rw [non_tags L (fun q hq => (hL q hq).2 rfl), hs]
theorem TagRel.fine {L : List (List UInt8 × Int)} {want : List UInt8} {bad : Int} (h : TagRel L want bad) (non : Bool) (hL : ∀ q ∈ L, isTag q.1 ∧ (non = true → isTag2 q.1)) (hb : ¬ 0 ≤ bad) : gramOf (tagSrc (tagFn non) L) = (if non = true then nonGram want else tokGram want, ⟨0, 0, []⟩) := by
  obtain ⟨_, h⟩ := h
  cases hs : tagScan L [] with
  | error j => rw [hs] at h; have := h.2; omega
  | ok w =>
    rw [hs] at h
    obtain ⟨rfl, _⟩ := h
    cases non with
    | false => unfold tagFn; simp only [Bool.false_eq_true, if_false]; rw [tok_tags L (fun q hq => (hL q hq).1), hs]
    | true => unfold tagFn; simp only [if_true]; rw [non_tags L (fun q hq => (hL q hq).2 rfl), hs]
/-! ### Numbers -/
def numOf (n : Int) : Int := if 0 < n % 9 then 117 + n % 9 else 0
theorem numOf_bd (n : Int) : 0 ≤ numOf n ∧ numOf n ≤ 125 := by unfold numOf; split <;> omega
def numL (l : List Int) (k : Nat) : List Int := (l.take k).map numOf
theorem numL_snoc {l : List Int} {k : Nat} {n : Int} (h : l[k]? = some n) : numL l (k + 1) = numL l k ++ [numOf n] := by
  unfold numL
  rw [List.take_add_one, h, List.map_append]
  rfl
theorem numL_len {l : List Int} {k : Nat} (h : k ≤ l.length) : (numL l k).length = k := by
  unfold numL
  rw [List.length_map, List.length_take]
  omega
theorem numL_bd {l : List Int} {k : Nat} {n : Int} (h : n ∈ numL l k) : 0 ≤ n ∧ n ≤ 125 := by
  obtain ⟨m, _, rfl⟩ := List.mem_map.1 h
  exact numOf_bd m
theorem numSyms_snoc (n : Int) : ∀ (l : List Int) (i : Nat), numSyms i (l ++ [n]) = numSyms i l ++ [⟨nName (i + l.length), false, n, 10 * ((i + l.length : Nat) : Int)⟩]
  | [], i => rfl
  | m :: l, i => by
    show ⟨nName i, false, m, 10 * (i : Int)⟩ :: numSyms (i + 1) (l ++ [n]) = _
    rw [numSyms_snoc n l (i + 1)]
    show _ = ⟨nName i, false, m, 10 * (i : Int)⟩ :: (numSyms (i + 1) l ++ _)
    rw [List.length_cons, show i + 1 + l.length = i + (l.length + 1) by omega]
theorem numSyms_len : ∀ (l : List Int) (i : Nat), (numSyms i l).length = l.length
  | [], _ => rfl
  | n :: l, i => by show (numSyms (i + 1) l).length + 1 = _; rw [numSyms_len l]; rfl
theorem numBad_snoc (n : Int) : ∀ (l pre : List Int) (i : Nat), numBad i pre (l ++ [n]) = match numBad i pre l with
    | some j => some j
    | none => if 0 < n ∧ n ∈ pre ++ l then some (i + l.length) else none
  | [], pre, i => by simp [numBad]
  | m :: l, pre, i => by
    simp only [List.cons_append, numBad]
    by_cases h : 0 < m ∧ m ∈ pre
    · rw [if_pos h, if_pos h]
    · rw [if_neg h, if_neg h, numBad_snoc n l (pre ++ [m]) (i + 1)]
      rw [show pre ++ [m] ++ l = pre ++ m :: l by simp, List.length_cons, show i + 1 + l.length = i + (l.length + 1) by omega]
/-- The numbers that tokens are to have. -/
def wantGo : Int → List Int → List Int
  | _, [] => []
  | nx, n :: l => if 0 < n then n :: wantGo nx l else nx :: wantGo (nx + 1) l
def nextGo : Int → List Int → Int
  | nx, [] => nx
  | nx, n :: l => if 0 < n then nextGo nx l else nextGo (nx + 1) l
theorem wantGo_snoc (n : Int) : ∀ (l : List Int) (nx : Int), wantGo nx (l ++ [n]) = wantGo nx l ++ [if 0 < n then n else nextGo nx l]
  | [], nx => by
    simp only [List.nil_append, wantGo, nextGo]
    split <;> rfl
  | m :: l, nx => by
    simp only [List.cons_append, wantGo, nextGo]
    split <;> simp [wantGo_snoc n l]
theorem nextGo_snoc (n : Int) : ∀ (l : List Int) (nx : Int), nextGo nx (l ++ [n]) = if 0 < n then nextGo nx l else nextGo nx l + 1
  | [], nx => by
    simp only [List.nil_append, nextGo]
  | m :: l, nx => by
    simp only [List.cons_append, nextGo]
    split <;> exact nextGo_snoc n l _
theorem wantGo_len : ∀ (l : List Int) (nx : Int), (wantGo nx l).length = l.length
  | [], _ => rfl
  | n :: l, nx => by
    unfold wantGo
    split <;> simp [wantGo_len l]
theorem nextGo_bd : ∀ (l : List Int) (nx : Int), nx ≤ nextGo nx l ∧ nextGo nx l ≤ nx + l.length
  | [], nx => by simp [nextGo]
  | n :: l, nx => by
    have h1 := nextGo_bd l nx; have h2 := nextGo_bd l (nx + 1)
    unfold nextGo
    rw [List.length_cons]
    split <;> omega
theorem mem_wantGo (m : Int) (h0 : 0 < m) (h1 : m ≤ 50000) : ∀ (l : List Int) (nx : Int), 57346 ≤ nx → (m ∈ wantGo nx l ↔ m ∈ l)
  | [], _, _ => by simp [wantGo]
  | n :: l, nx, hx => by
    unfold wantGo
    split
    · rw [List.mem_cons, List.mem_cons, mem_wantGo m h0 h1 l nx hx]
    · rename_i hn
      rw [List.mem_cons, List.mem_cons, mem_wantGo m h0 h1 l (nx + 1) (by omega)]
      constructor
      · rintro (h | h)
        · omega
        · exact .inr h
      · rintro (h | h)
        · omega
        · exact .inr h
def wantL (l : List Int) : List Int := [0, -1, -1] ++ wantGo 57346 l
theorem mem_wantL (m : Int) (h0 : 0 < m) (h1 : m ≤ 50000) (l : List Int) : m ∈ wantL l ↔ m ∈ l := by
  unfold wantL
  rw [List.mem_append, mem_wantGo m h0 h1 l 57346 (by omega)]
  constructor
  · rintro (h | h)
    · simp at h; omega
    · exact h
  · exact .inr
theorem numGo_nums : ∀ (l : List Int) (i : Nat) (nx : Int), (∀ n ∈ l, 0 ≤ n) → (numGo nx (numToks i l) (numGiven l)).map (·.num) = wantGo nx l
  | [], _, _, _ => rfl
  | n :: l, i, nx, h => by
    have hl : ∀ m ∈ l, 0 ≤ m := fun m hm => h m (by simp [hm])
    show (numGo nx (⟨nName i, false, n, 0, 0, []⟩ :: numToks (i + 1) l) (decide (0 < n) :: numGiven l)).map (·.num) = _
    by_cases hn : 0 < n
    · rw [show decide (0 < n) = true from decide_eq_true hn]
      unfold wantGo
      rw [if_pos hn, ← numGo_nums l (i + 1) nx hl]
      rfl
    · rw [show decide (0 < n) = false from decide_eq_false hn]
      unfold wantGo
      rw [if_neg hn, ← numGo_nums l (i + 1) (nx + 1) hl]
      rfl
/-- The tokens' numbers: those that are wanted, then that of x. -/
theorem numGram_nums (l : List Int) (h : ∀ n ∈ l, 0 ≤ n) : (numGram l).toks.map (·.num) = wantL l ++ [120] := by
  unfold numGram wantL
  simp only [List.map_append, numGo_nums l 0 57346 h]
  rw [List.append_assoc]
  rfl
/-- What is counted on the way: the first that is there already. -/
def NumRel (l : List Int) (bad : Int) : Prop := match numBad 0 [] l with
  | some i => bad = (i : Int)
  | none => bad = -1
theorem NumRel.start : NumRel [] (-1) := rfl
theorem NumRel.bd {l : List Int} {bad : Int} (h : NumRel l bad) : -1 ≤ bad := by
  unfold NumRel at h
  split at h <;> omega
theorem NumRel.keep {l : List Int} {bad : Int} (h : NumRel l bad) (n : Int) (hk : 0 ≤ bad ∨ ¬ (0 < n ∧ n ∈ l)) : NumRel (l ++ [n]) bad := by
  unfold NumRel at h ⊢
  rw [numBad_snoc]
  cases hb : numBad 0 [] l with
  | some i => rw [hb] at h; exact h
  | none =>
    rw [hb] at h
    simp only at h
    simp only [List.nil_append]
    rw [if_neg (by rcases hk with hk | hk; omega; exact hk)]
    exact h
theorem NumRel.hit {l : List Int} {bad : Int} (h : NumRel l bad) (n : Int) (hb : bad < 0) (hk : 0 < n ∧ n ∈ l) : NumRel (l ++ [n]) (l.length : Int) := by
  unfold NumRel at h ⊢
  rw [numBad_snoc]
  cases hb2 : numBad 0 [] l with
  | some i => rw [hb2] at h; simp only at h; omega
  | none =>
    simp only [List.nil_append]
    rw [if_pos hk]
    simp
theorem num_bad_law {l : List Int} {bad : Int} (h : NumRel l bad) (hl : l.length ≤ 12) (hb : ∀ n ∈ l, 0 ≤ n ∧ n ≤ 50000) (h0 : 0 ≤ bad) : gramOf (numSrc l) = (noGram, ⟨3, 10 * bad, nName bad.toNat⟩) := by
  rw [num_law l hl hb]
  unfold NumRel at h
  cases hn : numBad 0 [] l with
  | some i => rw [hn] at h; simp only at h; subst h; rfl
  | none => rw [hn] at h; simp only at h; omega
theorem num_ok_law {l : List Int} {bad : Int} (h : NumRel l bad) (hl : l.length ≤ 12) (hb : ∀ n ∈ l, 0 ≤ n ∧ n ≤ 50000) (h0 : ¬ 0 ≤ bad) : gramOf (numSrc l) = if 120 ∈ l then (noGram, ⟨3, 777, [120]⟩) else (numGram l, ⟨0, 0, []⟩) := by
  rw [num_law l hl hb]
  unfold NumRel at h
  cases hn : numBad 0 [] l with
  | some i => rw [hn] at h; simp only at h; omega
  | none => rfl
end Sp
end Go.Proofs.YthmimcegiihcnaaDoor
