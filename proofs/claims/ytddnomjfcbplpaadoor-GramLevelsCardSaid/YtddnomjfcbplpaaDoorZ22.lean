/- Sources that the statements of layer 9 make: their box, their rows, as they grow. Plain law of gram.Of at the sources that GramLevels makes (lev_law, again_law). What GramLevels holds while it makes its source: the plain part. -/
import Derived.Test.YtddnomjfcbplpaaDoorZ21
import Derived.Test.YtddnomjfcbplpaaDoorZ05
namespace Go.Proofs.YtddnomjfcbplpaaDoor
open Go.RowKit Go.Maps

set_option maxHeartbeats 1600000 in
theorem ref_Within9 (i : Int) (n : Nat) (w : World) (hn : 0 < n) (hb : n ≤ 60000) (hi : (Lit.int .i64 i).wf = true) :
    Calls Tryd.prog 8 #[.int .i64 i, .int .i64 n] w fun e w' => e = .returned (.int .i64 (i % (n : Int))) ∧ w = w' := by
  have h1 := Int.tmod_lt_of_pos i (b := (n : Int)) (by omega)
  have h2 : -(n : Int) < i.tmod n := by
    by_cases hi : 0 ≤ i
    · have := Int.tmod_nonneg (n : Int) hi; omega
    · have := Int.tmod_lt_of_pos (-i) (b := (n : Int)) (by omega)
      rw [Int.neg_tmod] at this; omega
  have h3 : i % (n : Int) = if i.tmod n < 0 then i.tmod n + n else i.tmod n := by
    have e1 := Int.mul_tdiv_add_tmod i n
    split
    · refine Int.emod_eq_of_lt (a := i.tmod n + n) (b := (n : Int)) (by omega) (by omega) ▸ ?_
      conv => lhs; rw [← e1]
      rw [Int.mul_add_emod_self_left, Int.add_emod_right]
    · refine Int.emod_eq_of_lt (a := i.tmod n) (b := (n : Int)) (by omega) (by omega) ▸ ?_
      conv => lhs; rw [← e1]
      rw [Int.mul_add_emod_self_left]
  generalize i % (n : Int) = N at *
  have HN := Lib.hid h3
  clear h3
  go_enter Tryd.func8, Tryd.ntmps8
  go_wp2
  all_goals (go_ret; have h3 := HN.out; refine ⟨ret_int ?_, rfl⟩)
  · rw [if_pos (by omega)] at h3
    rw [h3]
  · rw [if_neg (by omega)] at h3
    rw [h3]

theorem owns_block {w : World} {b B size n : Nat} {e : TypeId} {cs : Array Value} (h : w.heap[b]? = some (.cells cs e (0, 0))) (hb : B ≤ b) (hl : cs.size = n * size) (hm : n ≤ maxLen) : w.ownsRow B e size (.slice (some ⟨b, 0, none⟩) n n) n cs.toList :=
  ⟨by simpa using hl, .inr ⟨b, n, cs, rfl, hb, h, Nat.le_refl _, hm, hl, List.take_of_length_le (by rw [Array.length_toList, hl]; exact Nat.le_refl _)⟩⟩
/-- The source as it is made: its box, its one rule, its one alternative, the parts. -/
structure PassSt (B : Nat) (w : World) (bs br ba : Nat) (dv pv : Value) (ds : List Sp.Decl) (ps : List Sp.Part) : Prop where
  src : w.heap[bs]? = some (.cells #[.string ⟨#[]⟩, dv, .slice (some ⟨br, 0, none⟩) 1 1, .string ⟨#[]⟩] 35 (0, 0))
  rule : w.heap[br]? = some (.cells #[.string ⟨#[97]⟩, .slice (some ⟨ba, 0, none⟩) 1 1, .int .i64 0] 31 (0, 0))
  alt : w.heap[ba]? = some (.cells #[pv, .string ⟨#[]⟩, .bool false, .int .i64 0, .int .i64 0, .int .i64 0] 28 (0, 0))
  parts : w.ownsRow B 63 6 pv ps.length (ps.map partC).flatten
  decls : DeclsOwn B w dv ds
  ge : B ≤ bs ∧ B ≤ br ∧ B ≤ ba
theorem PassSt.rules {B : Nat} {w : World} {bs br ba : Nat} {dv pv : Value} {ds : List Sp.Decl} {ps : List Sp.Part} (h : PassSt B w bs br ba dv pv ds ps) :
    RulesOwn B w (.slice (some ⟨br, 0, none⟩) 1 1) [⟨[97], [⟨ps, ⟨[], false, 0, 0⟩, 0⟩], 0⟩] := by
  refine ⟨fun _ => .slice (some ⟨ba, 0, none⟩) 1 1, owns_block h.rule h.ge.2.1 rfl (by decide), fun i r hr => ?_⟩
  obtain ⟨rfl, rfl⟩ := one_at hr
  refine ⟨B, fun _ => pv, owns_block h.alt h.ge.2.2 rfl (by decide), fun i a ha => ?_⟩
  obtain ⟨rfl, rfl⟩ := one_at ha
  exact ⟨B, h.parts⟩
/-- The source, its rows. -/
structure PassS2 (B : Nat) (w : World) (bs : Nat) (dv rv : Value) (ds : List Sp.Decl) (rs : List Sp.Rule) : Prop where
  src : w.heap[bs]? = some (.cells #[.string ⟨#[]⟩, dv, rv, .string ⟨#[]⟩] 35 (0, 0))
  decls : DeclsOwn B w dv ds
  rules : RulesOwn B w rv rs
  ge : B ≤ bs
theorem PassS2.setDecls {B : Nat} {w w8 w' : World} {bs : Nat} {dv dv' rv : Value} {ds ds' : List Sp.Decl} {rs : List Sp.Rule} (h : PassS2 B w bs dv rv ds rs) (k : Kp (fun b => b = bs) w w8) (hr : RulesOwn B w8 rv rs) (hd : DeclsOwn B w8 dv' ds') (hw : w' = w8.setCell ⟨bs, 1, none⟩ dv') : PassS2 B w' bs dv' rv ds' rs := by
  subst hw
  have hs := k.at h.src rfl
  have kt : KpT (fun t => t ≠ 35) w8 (w8.setCell ⟨bs, 1, none⟩ dv') := KpT.setCell (fun _ _ _ _ h _ => h) hs (by simp) _
  exact ⟨heap_setCell_at hs, decls_kp hd kt (by decide) (by decide), rules_kp hr kt (by decide) (by decide) (by decide), h.ge⟩
theorem PassSt.two {B : Nat} {w : World} {bs br ba : Nat} {dv pv : Value} {ds : List Sp.Decl} {ps : List Sp.Part} (h : PassSt B w bs br ba dv pv ds ps) : PassS2 B w bs dv (.slice (some ⟨br, 0, none⟩) 1 1) ds [⟨[97], [⟨ps, ⟨[], false, 0, 0⟩, 0⟩], 0⟩] := ⟨h.src, h.decls, h.rules, h.ge.1⟩
end Go.Proofs.YtddnomjfcbplpaaDoor

namespace Go.Proofs.YtddnomjfcbplpaaDoor
namespace Sp
def tName (i : Nat) : List UInt8 := 116 :: Lib.itoa (i : Int)
theorem tName_inj_all : ((List.range 24).all fun i => (List.range 24).all fun j => decide (tName i = tName j → i = j)) = true := by decide +kernel
theorem tName_inj {i j : Nat} (hi : i ≤ 23) (hj : j ≤ 23) (h : tName i = tName j) : i = j := by
  have h1 := List.all_eq_true.1 tName_inj_all i (List.mem_range.2 (by omega))
  have h2 := List.all_eq_true.1 h1 j (List.mem_range.2 (by omega))
  exact of_decide_eq_true h2 h
theorem tName_isName_all : ((List.range 24).all fun i => isName (tName i)) = true := by decide +kernel
theorem tName_isName {i : Nat} (hi : i ≤ 23) : isName (tName i) = true := List.all_eq_true.1 tName_isName_all i (List.mem_range.2 (by omega))
/-- The declarations: each odd one has two symbols. -/
def levSyms (i n : Nat) : List Sym := if i % 2 = 0 then [⟨tName n, false, 0, (n : Int)⟩] else [⟨tName n, false, 0, (n : Int)⟩, ⟨tName (n + 1), false, 0, ((n + 1 : Nat) : Int)⟩]
def levTok (k level : Int) (n : Nat) : Tok := ⟨tName n, false, 0, if 1 < k then level else 0, if 1 < k then k - 1 else 0, []⟩
def levToksAt (k level : Int) (i n : Nat) : List Tok := if i % 2 = 0 then [levTok k level n] else [levTok k level n, levTok k level (n + 1)]
def levUp (k level : Int) : Int := if 1 < k then level + 1 else level
/-- One declaration more: the declarations, the tokens, the level. -/
structure LevSt where
  decls : List Decl
  toks : List Tok
  level : Int
def levStep (s : LevSt) (i : Nat) (k : Int) : LevSt := ⟨s.decls ++ [⟨k, [], levSyms i s.toks.length, 0⟩], s.toks ++ levToksAt k (levUp k s.level) i s.toks.length, levUp k s.level⟩
def levGo : Nat → List Int → LevSt → LevSt
  | _, [], s => s
  | i, k :: l, s => levGo (i + 1) l (levStep s i k)
def lev0 : LevSt := ⟨[], [], 0⟩
/-! ### The state -/
def stOf (T : List Tok) : Mk := { mk0 with toks := mk0.toks ++ T, given := mk0.given ++ T.map fun _ => false }
def TokN (o : Nat) (T : List Tok) : Prop := ∀ (j : Nat) (t : Tok), T[j]? = some t → t.name = tName (o + j) ∧ t.lit = false ∧ t.tag = []
theorem TokN.tail {o : Nat} {t : Tok} {T : List Tok} (h : TokN o (t :: T)) : TokN (o + 1) T := fun j u hu => by
  have := h (j + 1) u (by simpa using hu)
  rwa [show o + (j + 1) = o + 1 + j by omega] at this
theorem TokN.snoc {o : Nat} {t : Tok} {T : List Tok} (h : TokN o T) (h1 : t.name = tName (o + T.length) ∧ t.lit = false ∧ t.tag = []) : TokN o (T ++ [t]) := fun j u hu => by
  rcases Nat.lt_or_ge j T.length with hj | hj
  · rw [List.getElem?_append_left hj] at hu
    exact h j u hu
  · rw [List.getElem?_append_right hj] at hu
    have : j - T.length = 0 := by
      have := (List.getElem?_eq_some_iff.1 hu).1
      simp only [List.length_cons, List.length_nil] at this
      omega
    rw [this] at hu
    simp only [List.getElem?_cons_zero, Option.some.injEq] at hu
    subst hu
    rw [show j = T.length by omega]
    exact h1
theorem findIx_tName (k : Nat) (hk : k ≤ 23) : ∀ (T : List Tok) (o : Nat), TokN o T → o + T.length ≤ 23 → findIx (fun t => t.name == tName k && t.lit == false) T (3 + o) = if o ≤ k ∧ k < o + T.length then some (k + 3) else none
  | [], o, _, _ => by rw [if_neg (by simp only [List.length_nil]; omega)]; rfl
  | t :: T, o, h, hl => by
    simp only [List.length_cons] at hl
    obtain ⟨h1, h2, _⟩ := h 0 t rfl
    rw [Nat.add_zero] at h1
    unfold findIx
    by_cases he : o = k
    · subst he
      rw [h1, h2]
      simp only [beq_self_eq_true, Bool.and_self, if_true]
      rw [if_pos (by simp only [List.length_cons]; omega), Nat.add_comm]
    · have hne : (t.name == tName k && t.lit == false) = false := by
        rw [Bool.and_eq_false_iff]
        left
        rw [beq_eq_false_iff_ne, h1]
        intro e
        exact he (tName_inj (by omega) hk e)
      rw [hne]
      have ih := findIx_tName k hk T (o + 1) h.tail (by omega)
      rw [show 3 + o + 1 = 3 + (o + 1) by omega, ih]
      simp only [Bool.false_eq_true, if_false, List.length_cons]
      by_cases hc : o + 1 ≤ k ∧ k < o + 1 + T.length
      · rw [if_pos hc, if_pos (by omega)]
      · rw [if_neg hc, if_neg (by omega)]
theorem tokIx_stOf {T : List Tok} {k : Nat} (h : TokN 0 T) (hl : T.length ≤ 23) (hk : k ≤ 23) : tokIx (stOf T).toks (tName k) false = if k < T.length then some (k + 3) else none := by
  unfold tokIx
  rw [if_neg (by rintro ⟨h, _⟩; have : (116 : UInt8) = 101 := (List.cons.inj h).1; revert this; decide)]
  have e : (stOf T).toks.drop 3 = T := rfl
  rw [e, findIx_tName k hk T 0 h (by omega)]
  by_cases hc : k < T.length
  · rw [if_pos hc, if_pos (by omega)]
  · rw [if_neg hc, if_neg (by omega)]
theorem tokStep_new {T : List Tok} (h : TokN 0 T) (hl : T.length ≤ 22) (d : Decl) (at_ level : Int) (ht : d.tag = []) (hk : 1 ≤ d.kind) : tokStep (stOf T) d ⟨tName T.length, false, 0, at_⟩ level = some (stOf (T ++ [levTok d.kind level T.length])) := by
  have hf : tokIx (stOf T).toks (tName T.length) false = none := by rw [tokIx_stOf h (by omega) (by omega), if_neg (by omega)]
  have hbad : tokBad (stOf T) d ⟨tName T.length, false, 0, at_⟩ = false := by
    unfold tokBad clash
    simp only
    rw [hf]
    simp [ht, noTok]
  have ha : addTok (stOf T) ⟨tName T.length, false, 0, at_⟩ = ({ stOf T with toks := (stOf T).toks ++ [⟨tName T.length, false, 0, 0, 0, []⟩], given := (stOf T).given ++ [false] }, (stOf T).toks.length) := by
    unfold addTok
    simp only [hf]
    simp
  unfold tokStep
  rw [hbad, ha]
  simp only [ht, Bool.false_eq_true, if_false, Int.lt_irrefl, ne_eq, not_true_eq_false]
  unfold levTok modTok stOf
  by_cases h1 : d.kind = 1
  · simp [h1, ← List.append_assoc]
  · have h2 : 1 < d.kind := by omega
    simp [h1, h2, ← List.append_assoc]
    omega
theorem syms_new (d : Decl) (level : Int) (i : Nat) {T : List Tok} (h : TokN 0 T) (hl : T.length ≤ 21) (ht : d.tag = []) (hk : 1 ≤ d.kind ∧ d.kind ≤ 4) : symsGo d level (levSyms i T.length) (stOf T) = .ok (stOf (T ++ levToksAt d.kind level i T.length)) := by
  have h1 := tokStep_new h (by omega) d (T.length : Int) level ht hk.1
  unfold levSyms levToksAt
  by_cases hi : i % 2 = 0
  · rw [if_pos hi, if_pos hi]
    unfold symsGo
    rw [if_neg (by omega)]
    simp only
    rw [h1]
    rfl
  · rw [if_neg hi, if_neg hi]
    have hn : TokN 0 (T ++ [levTok d.kind level T.length]) := h.snoc ⟨by rw [Nat.zero_add]; rfl, rfl, rfl⟩
    have h2 := tokStep_new hn (by simp; omega) d ((T.length + 1 : Nat) : Int) level ht hk.1
    rw [show (T ++ [levTok d.kind level T.length]).length = T.length + 1 by simp] at h2
    unfold symsGo
    rw [if_neg (by omega)]
    simp only
    rw [h1]
    simp only
    unfold symsGo
    rw [if_neg (by omega)]
    simp only
    rw [h2]
    simp only
    rw [List.append_assoc]
    rfl
theorem TokN.at (k level : Int) (i : Nat) {T : List Tok} (h : TokN 0 T) : TokN 0 (T ++ levToksAt k level i T.length) := by
  unfold levToksAt
  split
  · exact h.snoc ⟨by rw [Nat.zero_add]; rfl, rfl, rfl⟩
  · have h1 := h.snoc (t := levTok k level T.length) ⟨by rw [Nat.zero_add]; rfl, rfl, rfl⟩
    have h2 := h1.snoc (t := levTok k level (T.length + 1)) ⟨by rw [Nat.zero_add]; simp [levTok], rfl, rfl⟩
    rw [List.append_assoc] at h2
    exact h2
theorem levToksAt_len (k level : Int) (i n : Nat) : (levToksAt k level i n).length = 1 + i % 2 := by
  unfold levToksAt
  split <;> simp <;> omega
theorem levSyms_len (i n : Nat) : (levSyms i n).length = 1 + i % 2 := by
  unfold levSyms
  split <;> simp <;> omega
/-- How many tokens there are before the i-th declaration. -/
theorem declsMk_append : ∀ (a b : List Decl) (level : Int) (s : Mk), declsMk level (a ++ b) s = match declsMk level a s with
    | .error e => .error e
    | .ok s' => declsMk (a.foldl (fun l d => if 2 ≤ d.kind ∧ d.kind ≤ 4 then l + 1 else l) level) b s'
  | [], b, level, s => rfl
  | d :: a, b, level, s => by
    rw [List.cons_append, List.foldl_cons]
    have e : ∀ (l : List Decl), declsMk level (d :: l) s = match symsGo d (if 2 ≤ d.kind ∧ d.kind ≤ 4 then level + 1 else level) d.syms s with
      | .error e => .error e
      | .ok s => declsMk (if 2 ≤ d.kind ∧ d.kind ≤ 4 then level + 1 else level) l s := fun l => by
      conv => lhs; unfold declsMk
      rfl
    rw [e, e]
    cases symsGo d (if 2 ≤ d.kind ∧ d.kind ≤ 4 then level + 1 else level) d.syms s with
    | error e => rfl
    | ok s1 => exact declsMk_append a b _ _
/-- What stands after i declarations. -/
structure LevOk (i : Nat) (s : LevSt) : Prop where
  names : TokN 0 s.toks
  len : s.toks.length = i + i / 2
  run : declsMk 0 s.decls mk0 = .ok (stOf s.toks)
  level : s.decls.foldl (fun l d => if 2 ≤ d.kind ∧ d.kind ≤ 4 then l + 1 else l) (0 : Int) = s.level
  kinds : ∀ d ∈ s.decls, 1 ≤ d.kind ∧ d.kind ≤ 4
  may : s.decls.all mayDecl = true
  count : s.decls.length = i
  nonneg : 0 ≤ s.level ∧ s.level ≤ i
theorem levOk0 : LevOk 0 lev0 := ⟨fun j t h => by simp [lev0] at h, rfl, rfl, rfl, fun d h => by simp [lev0] at h, rfl, rfl, by simp [lev0]⟩
theorem lev_may {k : Int} (hk : 1 ≤ k ∧ k ≤ 4) (i n : Nat) (hn : n ≤ 22) : mayDecl ⟨k, [], levSyms i n, 0⟩ = true := by
  unfold mayDecl
  simp only
  rw [if_neg (by rw [levSyms_len]; omega), if_neg (by omega), if_neg (by rintro ⟨⟨_, h | h⟩, _⟩; exact h rfl; omega)]
  have hs : ∀ m, m ≤ 23 → ∀ a, maySym k ⟨tName m, false, 0, a⟩ = true := by
    intro m hm a
    unfold maySym isSym
    simp [tName_isName hm]
  rw [List.all_eq_true]
  unfold levSyms
  split <;> simp [hs n (by omega), hs (n + 1) (by omega)]
theorem LevOk.step {i : Nat} {s : LevSt} (h : LevOk i s) (hi : i ≤ 14) {k : Int} (hk : 1 ≤ k ∧ k ≤ 4) : LevOk (i + 1) (levStep s i k) := by
  have hl : s.toks.length ≤ 21 := by rw [h.len]; omega
  have hlev : (if 2 ≤ k ∧ k ≤ 4 then s.level + 1 else s.level) = levUp k s.level := by
    unfold levUp
    by_cases h1 : 1 < k
    · rw [if_pos h1, if_pos (by omega)]
    · rw [if_neg h1, if_neg (by omega)]
  refine ⟨h.names.at _ _ _, ?_, ?_, ?_, ?_, ?_, ?_, ?_⟩
  · show (s.toks ++ _).length = _
    rw [List.length_append, levToksAt_len, h.len]
    omega
  · show declsMk 0 (s.decls ++ [⟨k, [], levSyms i s.toks.length, 0⟩]) mk0 = _
    rw [declsMk_append, h.run]
    simp only
    rw [h.level]
    unfold declsMk
    simp only [hlev]
    have h1 := syms_new ⟨k, [], levSyms i s.toks.length, 0⟩ (levUp k s.level) i h.names (by omega) rfl hk
    simp only at h1
    rw [h1]
    rfl
  · show (s.decls ++ [_]).foldl _ _ = levUp k s.level
    rw [List.foldl_append, h.level]
    exact hlev
  · intro d hd
    rcases List.mem_append.1 hd with hd | hd
    · exact h.kinds d hd
    · rw [List.mem_singleton] at hd
      subst hd
      exact hk
  · show (s.decls ++ [_]).all mayDecl = true
    rw [List.all_append, h.may]
    simp [lev_may hk i s.toks.length (by omega)]
  · show (s.decls ++ [_]).length = _
    rw [List.length_append, h.count]
    rfl
  · have h1 := h.nonneg
    show 0 ≤ levUp k s.level ∧ levUp k s.level ≤ _
    unfold levUp
    split <;> omega
theorem levGo_ok : ∀ (l : List Int) (i : Nat) (s : LevSt), LevOk i s → i + l.length ≤ 15 → (∀ k ∈ l, 1 ≤ k ∧ k ≤ 4) → LevOk (i + l.length) (levGo i l s)
  | [], i, s, h, _, _ => h
  | k :: l, i, s, h, hl, hk => by
    simp only [List.length_cons] at hl ⊢
    have := levGo_ok l (i + 1) (levStep s i k) (h.step (by omega) (hk k (by simp))) (by omega) (fun m hm => hk m (by simp [hm]))
    rw [show i + (l.length + 1) = i + 1 + l.length by omega]
    exact this
/-! ### The whole -/
def levSrc (ds : List Decl) : Source := ⟨[], ds, [⟨[97], [⟨[], ⟨[], false, 0, 0⟩, 0⟩], 0⟩], []⟩
def levGram (T : List Tok) : Gram := ⟨mk0.toks ++ numGo 57346 T (T.map fun _ => false), [⟨[36, 97, 99, 99, 101, 112, 116], []⟩, ⟨[97], []⟩], [⟨0, [1001], -1, [], [], 0⟩, ⟨1, [], -1, [], [], 0⟩], [], []⟩
theorem namesOk_low (s : Mk) (k : Int) (hk : k ≤ 4) : ∀ ys, namesOk s k ys = none
  | [] => rfl
  | y :: ys => by
    unfold namesOk
    rw [if_neg (by omega)]
    exact namesOk_low s k hk ys
theorem declsNames_low (s : Mk) : ∀ (ds : List Decl), (∀ d ∈ ds, d.kind ≤ 4) → declsNames s ds = none
  | [], _ => rfl
  | d :: ds, h => by
    unfold declsNames
    rw [namesOk_low s d.kind (h d (by simp))]
    exact declsNames_low s ds (fun e he => h e (by simp [he]))
theorem numGo_lenF : ∀ (ts : List Tok) (gs : List Bool) (n : Int), (numGo n ts gs).length = ts.length
  | [], gs, n => by cases gs <;> rfl
  | t :: ts, [], n => rfl
  | t :: ts, g :: gs, n => by
    unfold numGo
    split <;> simp [numGo_lenF ts gs]
theorem lev_end {ds : List Decl} {T : List Tok} (h : TokN 0 T) (hl : T.length ≤ 22) (hr : declsMk 0 ds mk0 = .ok (stOf T)) (hm : ds.all mayDecl = true) (hk : ∀ d ∈ ds, d.kind ≤ 4) : gramOf (levSrc ds) = (levGram T, ⟨0, 0, []⟩) := by
  have hta : tokIx (stOf T).toks [97] false = none := by
    unfold tokIx
    rw [if_neg (by rintro ⟨h, _⟩; revert h; decide), findIx_none]
    intro t ht
    have ht' : t ∈ T := ht
    obtain ⟨j, hj⟩ := List.mem_iff_getElem?.1 ht'
    obtain ⟨h1, _⟩ := h j t hj
    rw [Bool.and_eq_false_iff]
    left
    rw [beq_eq_false_iff_ne, h1]
    intro e
    have : (116 : UInt8) = 97 := (List.cons.inj e).1
    revert this
    decide
  have hmay : may (levSrc ds) = true := by
    unfold may
    show (_ && _ && ds.all mayDecl && _) = true
    rw [hm]
    rfl
  have hlm : leftsMk (levSrc ds) (stOf T) = .ok { stOf T with lefts := [[97]], nons := mk0.nons ++ [⟨[97], []⟩] } := by
    unfold leftsMk
    have hlg : leftsGo (levSrc ds).rules (stOf T) = .ok { stOf T with lefts := [[97]], nons := mk0.nons ++ [⟨[97], []⟩] } := by
      show leftsGo [⟨[97], _, 0⟩] (stOf T) = _
      unfold leftsGo
      simp only
      rw [hta]
      rfl
    rw [hlg]
    simp only
    rw [declsNames_low _ (levSrc ds).decls hk]
  unfold gramOf
  rw [hmay]
  simp only [Bool.true_eq_false, if_false]
  rw [show (levSrc ds).decls = ds from rfl, hr]
  simp only
  rw [hlm]
  simp only
  have hpm : partsMk (levSrc ds).rules { stOf T with lefts := [[97]], nons := mk0.nons ++ [⟨[97], []⟩] } = .ok { stOf T with lefts := [[97]], nons := mk0.nons ++ [⟨[97], []⟩] } := rfl
  rw [hpm]
  simp only
  have hp : prodsMk (levSrc ds) { stOf T with lefts := [[97]], nons := mk0.nons ++ [⟨[97], []⟩] } = { stOf T with lefts := [[97]], nons := mk0.nons ++ [⟨[97], []⟩], prods := (levGram T).prods } := rfl
  rw [hp]
  have hnum : numbersMk { stOf T with lefts := [[97]], nons := mk0.nons ++ [⟨[97], []⟩], prods := (levGram T).prods } = { stOf T with toks := (levGram T).toks, lefts := [[97]], nons := mk0.nons ++ [⟨[97], []⟩], prods := (levGram T).prods } := rfl
  rw [hnum]
  have hgr : great { stOf T with toks := (levGram T).toks, lefts := [[97]], nons := mk0.nons ++ [⟨[97], []⟩], prods := (levGram T).prods } = false := by
    unfold great
    simp only
    have e1 : (levGram T).toks.length = 3 + T.length := by
      show (mk0.toks ++ _).length = _
      rw [List.length_append, numGo_lenF]
      rfl
    rw [e1]
    have e2 : decide (40 < 3 + T.length) = false := decide_eq_false (by omega)
    rw [e2]
    rfl
  rw [hgr]
  rfl
/-- Of the declarations as they are made. -/
theorem lev_law (l : List Int) (hl : l.length ≤ 15) (hk : ∀ k ∈ l, 1 ≤ k ∧ k ≤ 4) : gramOf (levSrc (levGo 0 l lev0).decls) = (levGram (levGo 0 l lev0).toks, ⟨0, 0, []⟩) := by
  have h := levGo_ok l 0 lev0 levOk0 (by omega) hk
  rw [Nat.zero_add] at h
  exact lev_end h.names (by rw [h.len]; omega) h.run h.may (fun d hd => (h.kinds d hd).2)
def againDecl (k : Nat) : Decl := ⟨3, [], [⟨tName k, false, 0, 500⟩], 0⟩
theorem again_law (l : List Int) (hl : l.length ≤ 15) (hk : ∀ k ∈ l, 1 ≤ k ∧ k ≤ 4) (k : Nat) (hkt : k < (levGo 0 l lev0).toks.length) :
    gramOf (levSrc ((levGo 0 l lev0).decls ++ [againDecl k])) = if 0 < ((levGo 0 l lev0).toks.getD k noTok).level then (noGram, ⟨3, 500, tName k⟩)
      else (levGram ((levGo 0 l lev0).toks.set k { (levGo 0 l lev0).toks.getD k noTok with level := (levGo 0 l lev0).level + 1, assoc := 2 }), ⟨0, 0, []⟩) := by
  have h := levGo_ok l 0 lev0 levOk0 (by omega) hk
  rw [Nat.zero_add] at h
  generalize levGo 0 l lev0 = S at *
  have hl22 : S.toks.length ≤ 22 := by rw [h.len]; omega
  have hix : tokIx (stOf S.toks).toks (tName k) false = some (k + 3) := by rw [tokIx_stOf h.names (by omega) (by omega), if_pos hkt]
  have hget : (stOf S.toks).toks.getD (k + 3) noTok = S.toks.getD k noTok := by
    show (mk0.toks ++ S.toks).getD (k + 3) noTok = _
    rw [List.getD_eq_getElem?_getD, List.getD_eq_getElem?_getD, List.getElem?_append_right (by show 3 ≤ k + 3; omega)]
    rfl
  have htag : (S.toks.getD k noTok).tag = [] := by
    rw [List.getD_eq_getElem?_getD, List.getElem?_eq_getElem hkt]
    exact (h.names k _ (List.getElem?_eq_getElem hkt)).2.2
  have hm : (S.decls ++ [againDecl k]).all mayDecl = true := by
    rw [List.all_append, h.may]
    have : mayDecl (againDecl k) = true := by
      unfold mayDecl againDecl
      simp only
      rw [if_neg (by simp), if_neg (by simp), if_neg (by simp)]
      simp [maySym, isSym, tName_isName (show k ≤ 23 by omega)]
    simp [this]
  have hbad : tokBad (stOf S.toks) (againDecl k) ⟨tName k, false, 0, 500⟩ = decide (0 < (S.toks.getD k noTok).level) := by
    unfold tokBad clash againDecl
    simp only
    simp only [hix, hget]
    simp
  have hrun : declsMk 0 (S.decls ++ [againDecl k]) mk0 = match tokStep (stOf S.toks) (againDecl k) ⟨tName k, false, 0, 500⟩ (S.level + 1) with
      | none => .error (tName k, 500)
      | some s => .ok s := by
    rw [declsMk_append, h.run]
    simp only
    rw [h.level]
    unfold declsMk
    simp only
    have e : (if 2 ≤ (againDecl k).kind ∧ (againDecl k).kind ≤ 4 then S.level + 1 else S.level) = S.level + 1 := if_pos (by simp [againDecl])
    rw [e]
    have e2 : (againDecl k).syms = [⟨tName k, false, 0, 500⟩] := rfl
    rw [e2]
    unfold symsGo
    rw [if_neg (by simp [againDecl])]
    cases tokStep (stOf S.toks) (againDecl k) ⟨tName k, false, 0, 500⟩ (S.level + 1) <;> rfl
  by_cases hlv : 0 < (S.toks.getD k noTok).level
  · rw [if_pos hlv]
    have hts : tokStep (stOf S.toks) (againDecl k) ⟨tName k, false, 0, 500⟩ (S.level + 1) = none := by
      unfold tokStep
      rw [hbad, if_pos (by simpa using hlv)]
    rw [hts] at hrun
    have hmay : may (levSrc (S.decls ++ [againDecl k])) = true := by
      unfold may
      show (_ && _ && (S.decls ++ [againDecl k]).all mayDecl && _) = true
      rw [hm]
      rfl
    unfold gramOf
    rw [hmay]
    simp only [Bool.true_eq_false, if_false]
    rw [show (levSrc (S.decls ++ [againDecl k])).decls = S.decls ++ [againDecl k] from rfl, hrun]
  · rw [if_neg hlv]
    have hts : tokStep (stOf S.toks) (againDecl k) ⟨tName k, false, 0, 500⟩ (S.level + 1) = some (stOf (S.toks.set k { S.toks.getD k noTok with level := S.level + 1, assoc := 2 })) := by
      have ha : addTok (stOf S.toks) ⟨tName k, false, 0, 500⟩ = (stOf S.toks, k + 3) := by
        unfold addTok
        simp only [hix]
      unfold tokStep
      rw [hbad, if_neg (by simpa using hlv), ha]
      have e1 : (againDecl k).tag = [] := rfl
      have e2 : (againDecl k).kind = 3 := rfl
      simp only [e1, e2, Int.lt_irrefl, if_false, ne_eq, not_true_eq_false]
      unfold modTok
      rw [hget]
      unfold stOf
      simp only [Option.some.injEq]
      rw [if_pos (by decide)]
      have e3 : (mk0.toks ++ S.toks).set (k + 3) { S.toks.getD k noTok with level := S.level + 1, assoc := 3 - 2 + 1 } = mk0.toks ++ S.toks.set k { S.toks.getD k noTok with level := S.level + 1, assoc := 2 } := rfl
      rw [e3]
      have e4 : (S.toks.set k { S.toks.getD k noTok with level := S.level + 1, assoc := 2 }).map (fun _ => false) = S.toks.map (fun _ => false) := by
        rw [List.map_set]
        apply List.ext_getElem?
        intro i
        rw [List.getElem?_set, List.length_map]
        by_cases hi : k = i
        · subst hi
          rw [if_pos rfl, if_pos hkt, List.getElem?_map, List.getElem?_eq_getElem hkt]
          rfl
        · rw [if_neg hi]
      rw [e4]
    rw [hts] at hrun
    refine lev_end ?_ (by rw [List.length_set]; exact hl22) hrun hm ?_
    · intro j t ht
      rw [List.getElem?_set] at ht
      by_cases hj : k = j
      · subst hj
        rw [if_pos rfl, if_pos hkt] at ht
        cases ht
        have := h.names k (S.toks.getD k noTok) (by rw [List.getD_eq_getElem?_getD, List.getElem?_eq_getElem hkt]; rfl)
        exact this
      · rw [if_neg hj] at ht
        exact h.names j t ht
    · intro d hd
      rcases List.mem_append.1 hd with hd | hd
      · exact (h.kinds d hd).2
      · rw [List.mem_singleton] at hd
        subst hd
        show (3 : Int) ≤ 4
        decide
end Sp
end Go.Proofs.YtddnomjfcbplpaaDoor

namespace Go.Proofs.YtddnomjfcbplpaaDoor
namespace Sp
theorem levGo_snoc (x : Int) : ∀ (l : List Int) (i : Nat) (s : LevSt), levGo i (l ++ [x]) s = levStep (levGo i l s) (i + l.length) x
  | [], i, s => rfl
  | y :: l, i, s => by
    show levGo (i + 1) (l ++ [x]) (levStep s i y) = levStep (levGo (i + 1) l (levStep s i y)) _ x
    rw [levGo_snoc x l (i + 1), List.length_cons, show i + 1 + l.length = i + (l.length + 1) by omega]
def kindOf (n : Int) : Int := 1 + n % 4
theorem kindOf_bd (n : Int) : 1 ≤ kindOf n ∧ kindOf n ≤ 4 := by unfold kindOf; omega
def levL (l : List Int) (k : Nat) : List Int := (l.take k).map kindOf
def levAt (l : List Int) (k : Nat) : LevSt := levGo 0 (levL l k) lev0
theorem levL_len {l : List Int} {k : Nat} (h : k ≤ l.length) : (levL l k).length = k := by
  unfold levL
  rw [List.length_map, List.length_take]
  omega
theorem levL_bd {l : List Int} {k : Nat} : ∀ x ∈ levL l k, 1 ≤ x ∧ x ≤ 4 := fun x hx => by
  obtain ⟨m, _, rfl⟩ := List.mem_map.1 hx
  exact kindOf_bd m
theorem levAt_snoc {l : List Int} {k : Nat} {x : Int} (h : l[k]? = some x) : levAt l (k + 1) = levStep (levAt l k) k (kindOf x) := by
  have hk := (List.getElem?_eq_some_iff.1 h).1
  have e : levL l (k + 1) = levL l k ++ [kindOf x] := by
    unfold levL
    rw [List.take_add_one, h, List.map_append]
    rfl
  unfold levAt
  rw [e, levGo_snoc, Nat.zero_add, levL_len (by omega)]
theorem levAt_ok {l : List Int} {k : Nat} (h : k ≤ l.length) (h15 : k ≤ 15) : LevOk k (levAt l k) := by
  have h0 := levGo_ok (levL l k) 0 lev0 levOk0 (by rw [levL_len h]; omega) levL_bd
  rw [levL_len h, Nat.zero_add] at h0
  exact h0
/-- The symbols and tokens of one declaration, as they are counted. -/
def symsC (n c : Nat) : List Sym := (List.range c).map fun (j : Nat) => ⟨tName (n + j), false, 0, ((n + j : Nat) : Int)⟩
def toksC (k lv : Int) (n c : Nat) : List Tok := (List.range c).map fun (j : Nat) => levTok k lv (n + j)
theorem symsC_snoc (n c : Nat) : symsC n (c + 1) = symsC n c ++ [⟨tName (n + c), false, 0, ((n + c : Nat) : Int)⟩] := by
  unfold symsC
  rw [List.range_succ, List.map_append]
  rfl
theorem toksC_snoc (k lv : Int) (n c : Nat) : toksC k lv n (c + 1) = toksC k lv n c ++ [levTok k lv (n + c)] := by
  unfold toksC
  rw [List.range_succ, List.map_append]
  rfl
theorem symsC_len (n c : Nat) : (symsC n c).length = c := by unfold symsC; simp
theorem toksC_len (k lv : Int) (n c : Nat) : (toksC k lv n c).length = c := by unfold toksC; simp
theorem levSyms_C (i n : Nat) : levSyms i n = symsC n (1 + i % 2) := by
  unfold levSyms
  by_cases h : i % 2 = 0
  · rw [if_pos h, h]; rfl
  · have : i % 2 = 1 := by omega
    rw [if_neg h, this]; rfl
theorem levToks_C (k lv : Int) (i n : Nat) : levToksAt k lv i n = toksC k lv n (1 + i % 2) := by
  unfold levToksAt
  by_cases h : i % 2 = 0
  · rw [if_pos h, h]; rfl
  · have : i % 2 = 1 := by omega
    rw [if_neg h, this]; rfl
theorem levStep_C (s : LevSt) (i : Nat) (k : Int) : levStep s i k = ⟨s.decls ++ [⟨k, [], symsC s.toks.length (1 + i % 2), 0⟩], s.toks ++ toksC k (levUp k s.level) s.toks.length (1 + i % 2), levUp k s.level⟩ := by
  unfold levStep
  rw [levSyms_C, levToks_C]
/-- The law, and that of one declaration more. -/
theorem lev_fine {l : List Int} {k : Nat} (h : k ≤ l.length) (h15 : k ≤ 15) : gramOf (levSrc (levAt l k).decls) = (levGram (levAt l k).toks, ⟨0, 0, []⟩) :=
  lev_law (levL l k) (by rw [levL_len h]; exact h15) levL_bd
theorem lev_again {l : List Int} {k : Nat} (h : k ≤ l.length) (h15 : k ≤ 15) (t : Nat) (ht : t < (levAt l k).toks.length) :
    gramOf (levSrc ((levAt l k).decls ++ [againDecl t])) = if 0 < ((levAt l k).toks.getD t noTok).level then (noGram, ⟨3, 500, tName t⟩)
      else (levGram ((levAt l k).toks.set t { (levAt l k).toks.getD t noTok with level := (levAt l k).level + 1, assoc := 2 }), ⟨0, 0, []⟩) :=
  again_law (levL l k) (by rw [levL_len h]; exact h15) levL_bd t ht
/-- What numGo leaves of a token: all but its number. -/
theorem numGo_keep : ∀ (T : List Tok) (g : List Bool) (nx : Int) (j : Nat) (t : Tok), T[j]? = some t → ∃ u, (numGo nx T g)[j]? = some u ∧ u.name = t.name ∧ u.level = t.level ∧ u.assoc = t.assoc ∧ u.lit = t.lit
  | [], _, _, _, _, h => by cases h
  | t0 :: T, [], nx, j, t, h => ⟨t, by unfold numGo; exact h, rfl, rfl, rfl, rfl⟩
  | t0 :: T, b :: g, nx, j, t, h => by
    cases j with
    | zero =>
      cases h
      unfold numGo
      split
      · exact ⟨_, rfl, rfl, rfl, rfl, rfl⟩
      · exact ⟨_, rfl, rfl, rfl, rfl, rfl⟩
    | succ j =>
      unfold numGo
      split
      · exact numGo_keep T g nx j t h
      · exact numGo_keep T g (nx + 1) j t h
theorem levGram_tok {T : List Tok} {j : Nat} {t : Tok} (h : T[j]? = some t) : ∃ u, (levGram T).toks[j + 3]? = some u ∧ u.name = t.name ∧ u.level = t.level ∧ u.assoc = t.assoc ∧ u.lit = t.lit := by
  unfold levGram
  simp only
  rw [List.getElem?_append_right (by show 3 ≤ j + 3; omega)]
  exact numGo_keep T _ 57346 j t h
theorem levGram_len (T : List Tok) : (levGram T).toks.length = T.length + 3 := by
  unfold levGram
  simp only [List.length_append, numGo_lenF]
  show 3 + T.length = T.length + 3
  omega
end Sp
end Go.Proofs.YtddnomjfcbplpaaDoor
