/- Plain law of gram.Of at the sources that yuccalaw0.Source makes: they have no fault (made_ok). -/
import Derived.Test.YthmimcegiihcnaaDoorZ27
namespace Go.Proofs.YthmimcegiihcnaaDoor
namespace Sp
/-! ### Bytes in quotes -/
/-- All tokens but the three first are bytes in quotes, each once. -/
structure LitSt (s : Mk) (L : List UInt8) : Prop where
  toks : ∃ T, s.toks = mk0.toks ++ T ∧ (T.map fun t => (t.name, t.lit, t.num)) = L.map fun c => ([c], true, (c.toNat : Int))
  given : s.given = mk0.given ++ L.map fun _ => true
  nodup : L.Nodup
  sub : ∀ c ∈ L, c ∈ ([112, 113, 114, 115] : List UInt8)
theorem len_of_sub {α : Type} [DecidableEq α] : ∀ (L M : List α), L.Nodup → (∀ c ∈ L, c ∈ M) → L.length ≤ M.length
  | [], M, _, _ => by simp
  | x :: L, M, h, hs => by
    have hx := hs x (by simp)
    rw [List.nodup_cons] at h
    have ih := len_of_sub L (M.erase x) h.2 (fun c hc => by
      have hne : c ≠ x := by rintro rfl; exact h.1 hc
      exact (List.mem_erase_of_ne hne).2 (hs c (by simp [hc])))
    rw [List.length_erase_of_mem hx] at ih
    have := List.length_pos_of_mem hx
    rw [List.length_cons]
    omega
theorem LitSt.len {s : Mk} {L : List UInt8} (h : LitSt s L) : s.toks.length ≤ 7 := by
  obtain ⟨T, h1, h2⟩ := h.toks
  have h3 := congrArg List.length h2
  rw [List.length_map, List.length_map] at h3
  have h4 := len_of_sub L _ h.nodup h.sub
  rw [h1, List.length_append, h3]
  have : mk0.toks.length = 3 := rfl
  simp only [List.length_cons, List.length_nil] at h4
  omega
theorem lit_mem {T : List Tok} {L : List UInt8} (h : (T.map fun t => (t.name, t.lit, t.num)) = L.map fun c => ([c], true, (c.toNat : Int))) (t : Tok) (ht : t ∈ T) : ∃ c ∈ L, t.name = [c] ∧ t.lit = true ∧ t.num = c.toNat := by
  have h1 : (t.name, t.lit, t.num) ∈ L.map fun c => (([c] : List UInt8), true, (c.toNat : Int)) := by rw [← h]; exact List.mem_map.2 ⟨t, ht, rfl⟩
  obtain ⟨c, hc, he⟩ := List.mem_map.1 h1
  simp only [_root_.Prod.mk.injEq] at he
  exact ⟨c, hc, he.1.symm, he.2.1.symm, he.2.2.symm⟩
theorem LitSt.noname {s : Mk} {L : List UInt8} (h : LitSt s L) {nm : List UInt8} (he : nm ≠ errName) : tokIx s.toks nm false = none := by
  obtain ⟨T, h1, h2⟩ := h.toks
  unfold tokIx
  rw [if_neg (by rintro ⟨h, _⟩; exact he h), findIx_none, h1]
  intro t ht
  have ht' : t ∈ T := ht
  obtain ⟨c, _, _, hl, _⟩ := lit_mem h2 t ht'
  rw [hl]
  simp
theorem LitSt.fresh {s : Mk} {L : List UInt8} (h : LitSt s L) {c : UInt8} (hc : c ∉ L) : tokIx s.toks [c] true = none := by
  obtain ⟨T, h1, h2⟩ := h.toks
  unfold tokIx
  rw [if_neg (by rintro ⟨_, h⟩; cases h), findIx_none, h1]
  intro t ht
  have ht' : t ∈ T := ht
  obtain ⟨d, hd, hn, _, _⟩ := lit_mem h2 t ht'
  rw [Bool.and_eq_false_iff]
  left
  rw [beq_eq_false_iff_ne, hn]
  intro e
  simp only [List.cons.injEq, and_true] at e
  subst e
  exact hc hd
theorem LitSt.there {s : Mk} {L : List UInt8} (h : LitSt s L) {c : UInt8} (hc : c ∈ L) : (tokIx s.toks [c] true).isSome = true := by
  obtain ⟨T, h1, h2⟩ := h.toks
  cases ht : tokIx s.toks [c] true with
  | some k => rfl
  | none =>
    exfalso
    unfold tokIx at ht
    rw [if_neg (by rintro ⟨_, h⟩; cases h), findIx_none, h1] at ht
    have h3 : (([c] : List UInt8), true, (c.toNat : Int)) ∈ T.map fun t => (t.name, t.lit, t.num) := by rw [h2]; exact List.mem_map.2 ⟨c, hc, rfl⟩
    obtain ⟨t, ht1, ht2⟩ := List.mem_map.1 h3
    have := ht t ht1
    simp only [_root_.Prod.mk.injEq] at ht2
    rw [ht2.1, ht2.2.1] at this
    simp at this
theorem takenGo_lit (c : UInt8) : ∀ (T : List Tok) (L : List UInt8) (i : Nat), (T.map fun t => (t.name, t.lit, t.num)) = (L.map fun c => (([c] : List UInt8), true, (c.toNat : Int))) → takenGo (c.toNat : Int) (-1) i T (L.map fun _ => true) = decide (c ∈ L)
  | [], [], i, _ => rfl
  | [], _ :: _, _, h => by simp at h
  | _ :: _, [], _, h => by simp at h
  | t :: T, d :: L, i, h => by
    simp only [List.map_cons, List.cons.injEq, _root_.Prod.mk.injEq] at h
    simp only [List.map_cons]
    unfold takenGo
    rw [takenGo_lit c T L (i + 1) h.2, h.1.2.2]
    have h1 : decide ((i : Int) ≠ -1) = true := decide_eq_true (by omega)
    rw [h1]
    have h2 : ((d.toNat : Int) == (c.toNat : Int)) = decide (c = d) := by
      rw [Bool.eq_iff_iff]
      simp only [beq_iff_eq, decide_eq_true_eq, Int.natCast_inj]
      constructor
      · intro e; exact (UInt8.toNat_inj.1 e).symm
      · rintro rfl; rfl
    rw [h2]
    by_cases hcd : c = d <;> simp [hcd]
theorem LitSt.clash {s : Mk} {L : List UInt8} (h : LitSt s L) (c : UInt8) (a b : Int) : clash s ⟨[c], true, a, b⟩ = false := by
  unfold Sp.clash
  simp only
  by_cases hc : c ∈ L
  · have := h.there hc
    cases ht : tokIx s.toks [c] true with
    | none => rw [ht] at this; cases this
    | some k => simp
  · rw [h.fresh hc]
    obtain ⟨T, h1, h2⟩ := h.toks
    have e : taken s (byte0 [c]) (-1) = decide (c ∈ L) := by
      unfold taken byte0
      have e1 : s.toks.drop 3 = T := by rw [h1]; rfl
      have e2 : s.given.drop 3 = L.map fun _ => true := by rw [h.given]; rfl
      rw [e1, e2]
      exact takenGo_lit c T L 3 h2
    rw [e]
    simp [hc]
def pqrs : List UInt8 := [112, 113, 114, 115]
/-- A byte in quotes among the tokens, from now on. -/
theorem LitSt.add {s : Mk} {L : List UInt8} (h : LitSt s L) {c : UInt8} (hc : c ∈ pqrs) (a b : Int) : ∃ L', LitSt (addTok s ⟨[c], true, a, b⟩).1 L' := by
  by_cases hm : c ∈ L
  · have := h.there hm
    cases ht : tokIx s.toks [c] true with
    | none => rw [ht] at this; cases this
    | some k =>
      unfold addTok
      simp only [ht]
      exact ⟨L, h⟩
  · obtain ⟨T, h1, h2⟩ := h.toks
    unfold addTok
    simp only [h.fresh hm]
    refine ⟨L ++ [c], ⟨T ++ [⟨[c], true, byte0 [c], 0, 0, []⟩], ?_, ?_⟩, ?_, ?_, ?_⟩
    · simp only [if_true]
      rw [h1, List.append_assoc]
    · rw [List.map_append, List.map_append, h2]
      rfl
    · simp only
      rw [h.given, List.map_append, List.append_assoc]
      rfl
    · rw [List.nodup_append]
      exact ⟨h.nodup, by simp, fun x hx y hy => by rw [List.mem_singleton] at hy; subst hy; rintro rfl; exact hm hx⟩
    · intro d hd
      rcases List.mem_append.1 hd with hd | hd
      · exact h.sub d hd
      · rw [List.mem_singleton] at hd; subst hd; exact hc
theorem LitSt.used {s : Mk} {L : List UInt8} (h : LitSt s L) {c : UInt8} (hc : c ∈ pqrs) (a b : Int) : ∃ s' L', used s ⟨[c], true, a, b⟩ false = .ok s' ∧ LitSt s' L' ∧ s'.lefts = s.lefts := by
  obtain ⟨L', h'⟩ := h.add hc a b
  refine ⟨_, L', ?_, h', (addTok_keeps s _).2.1⟩
  unfold Sp.used
  rw [if_pos rfl, h.clash]
  simp
/-- A new one is declared. -/
theorem LitSt.step {s : Mk} {L : List UInt8} (h : LitSt s L) {c : UInt8} (hc : c ∈ pqrs) (hn : c ∉ L) (d : Decl) (ht : d.tag = []) (level : Int) : ∃ s', tokStep s d ⟨[c], true, 0, 0⟩ level = some s' ∧ LitSt s' (L ++ [c]) := by
  have hf := h.fresh hn
  have hbad : tokBad s d ⟨[c], true, 0, 0⟩ = false := by
    unfold tokBad
    simp only [hf, h.clash]
    simp [ht, noTok]
  obtain ⟨T, h1, h2⟩ := h.toks
  have hl3 : mk0.toks.length = 3 := rfl
  have key : ∀ t : Tok, t.name = [c] → t.lit = true → t.num = (c.toNat : Int) → LitSt { s with toks := s.toks ++ [t], given := s.given ++ [true] } (L ++ [c]) := by
    intro t t1 t2 t3
    refine ⟨⟨T ++ [t], ?_, ?_⟩, ?_, ?_, ?_⟩
    · simp only
      rw [h1, List.append_assoc]
    · rw [List.map_append, List.map_append, h2]
      simp [t1, t2, t3]
    · simp only
      rw [h.given, List.map_append, List.append_assoc]
      rfl
    · rw [List.nodup_append]
      exact ⟨h.nodup, by simp, fun x hx y hy => by rw [List.mem_singleton] at hy; subst hy; rintro rfl; exact hn hx⟩
    · intro e he
      rcases List.mem_append.1 he with he | he
      · exact h.sub e he
      · rw [List.mem_singleton] at he; subst he; exact hc
  unfold tokStep
  rw [hbad]
  unfold addTok
  simp only [hf, ht]
  simp only [Bool.false_eq_true, if_false, if_true, Int.lt_irrefl, ne_eq, not_true_eq_false]
  by_cases hk : d.kind = 1
  · simp only [hk, not_true_eq_false, if_false]
    exact ⟨_, rfl, key _ rfl rfl rfl⟩
  · simp only [hk, not_false_eq_true, if_true]
    refine ⟨_, rfl, ?_⟩
    unfold modTok
    simp only
    have e1 : (s.toks ++ [(⟨[c], true, byte0 [c], 0, 0, []⟩ : Tok)]).getD s.toks.length noTok = ⟨[c], true, byte0 [c], 0, 0, []⟩ := by
      rw [List.getD_eq_getElem?_getD, List.getElem?_append_right (Nat.le_refl _)]
      simp
    rw [e1]
    have e2 : ∀ t u : Tok, (s.toks ++ [t]).set s.toks.length u = s.toks ++ [u] := by
      intro t u
      rw [List.set_append, if_neg (by omega), Nat.sub_self]
      rfl
    rw [e2]
    exact key _ rfl rfl rfl
/-! ### The declarations -/
theorem flat_addLast (s : Sym) : ∀ l : List Decl, l ≠ [] → (addLast s l).flatMap (·.syms) = l.flatMap (·.syms) ++ [s]
  | [], h => absurd rfl h
  | [d], _ => by simp [addLast]
  | d :: e :: l, _ => by
    unfold addLast
    rw [List.flatMap_cons, flat_addLast s (e :: l) (by simp), List.flatMap_cons, List.flatMap_cons, List.flatMap_cons]
    simp only [List.append_assoc]
theorem flat_step (i : Nat) (x : Int) (out : List Decl) : (declStep i x out).flatMap (·.syms) = out.flatMap (·.syms) ∨ (declStep i x out).flatMap (·.syms) = out.flatMap (·.syms) ++ [litS i] := by
  unfold declStep
  split
  · left; rfl
  · split
    · rename_i h
      right; exact flat_addLast _ _ h.2
    · right
      rw [List.flatMap_append]
      rfl
theorem declsGo_flat : ∀ (l : List Int) (i : Nat) (out : List Decl) (I : List Nat), out.flatMap (·.syms) = I.map (fun (j : Nat) => litS (j : Int)) → I.Nodup → (∀ j ∈ I, j < i) → ∃ I' : List Nat, (declsGo i l out).flatMap (·.syms) = I'.map (fun (j : Nat) => litS (j : Int)) ∧ I'.Nodup ∧ ∀ j ∈ I', j < i + l.length
  | [], i, out, I, h, hn, hb => ⟨I, h, hn, hb⟩
  | x :: l, i, out, I, h, hn, hb => by
    unfold declsGo
    have e : i + (x :: l).length = i + 1 + l.length := by rw [List.length_cons]; omega
    rw [e]
    rcases flat_step i x out with h1 | h1
    · exact declsGo_flat l (i + 1) _ I (by rw [h1, h]) hn (fun j hj => by have := hb j hj; omega)
    · refine declsGo_flat l (i + 1) _ (I ++ [i]) (by rw [h1, h, List.map_append]; rfl) ?_ (fun j hj => ?_)
      · rw [List.nodup_append]
        exact ⟨hn, by simp, fun a ha b hb' => by rw [List.mem_singleton] at hb'; subst hb'; have := hb a ha; omega⟩
      · rcases List.mem_append.1 hj with hj | hj
        · have := hb j hj; omega
        · rw [List.mem_singleton] at hj; omega
def pqrsAt (j : Nat) : UInt8 := pqrs.getD j 0
theorem litS_letter {j : Nat} (hj : j < 4) : litS (j : Int) = ⟨[pqrsAt j], true, 0, 0⟩ := by
  have : j = 0 ∨ j = 1 ∨ j = 2 ∨ j = 3 := by omega
  rcases this with rfl | rfl | rfl | rfl <;> rfl
theorem letter_mem {j : Nat} (hj : j < 4) : pqrsAt j ∈ pqrs := by
  have : j = 0 ∨ j = 1 ∨ j = 2 ∨ j = 3 := by omega
  rcases this with rfl | rfl | rfl | rfl <;> decide
theorem letter_inj {i j : Nat} (hi : i < 4) (hj : j < 4) (h : pqrsAt i = pqrsAt j) : i = j := by
  have h1 : i = 0 ∨ i = 1 ∨ i = 2 ∨ i = 3 := by omega
  have h2 : j = 0 ∨ j = 1 ∨ j = 2 ∨ j = 3 := by omega
  rcases h1 with rfl | rfl | rfl | rfl <;> rcases h2 with rfl | rfl | rfl | rfl <;> first | rfl | (revert h; decide)
theorem syms_lit (d : Decl) (hk : d.kind ≤ 4) (ht : d.tag = []) (level : Int) : ∀ (I : List Nat) (s : Mk) (L : List UInt8), LitSt s L → I.Nodup → (∀ j ∈ I, j < 4 ∧ pqrsAt j ∉ L) → ∃ s', symsGo d level (I.map fun (j : Nat) => litS (j : Int)) s = .ok s' ∧ LitSt s' (L ++ I.map pqrsAt)
  | [], s, L, h, _, _ => ⟨s, rfl, by simpa using h⟩
  | j :: I, s, L, h, hn, hj => by
    obtain ⟨j4, jl⟩ := hj j (by simp)
    rw [List.nodup_cons] at hn
    obtain ⟨s1, h1, h2⟩ := h.step (letter_mem j4) jl d ht level
    obtain ⟨s2, h3, h4⟩ := syms_lit d hk ht level I s1 _ h2 hn.2 (fun i hi => by
      obtain ⟨i4, il⟩ := hj i (by simp [hi])
      refine ⟨i4, ?_⟩
      rw [List.mem_append, List.mem_singleton]
      rintro (h | h)
      · exact il h
      · exact hn.1 (letter_inj i4 j4 h ▸ hi))
    refine ⟨s2, ?_, by rw [List.append_assoc] at h4; exact h4⟩
    rw [List.map_cons]
    unfold symsGo
    rw [if_neg (by omega), litS_letter j4, h1]
    exact h3
theorem decls_lit : ∀ (ds : List Decl) (level : Int) (s : Mk) (L : List UInt8) (I : List Nat), (∀ d ∈ ds, d.kind ≤ 4 ∧ d.tag = []) → ds.flatMap (·.syms) = I.map (fun (j : Nat) => litS (j : Int)) → LitSt s L → I.Nodup → (∀ j ∈ I, j < 4 ∧ pqrsAt j ∉ L) → ∃ s' L', declsMk level ds s = .ok s' ∧ LitSt s' L'
  | [], level, s, L, I, _, _, h, _, _ => ⟨s, L, rfl, h⟩
  | d :: ds, level, s, L, I, hd, hf, h, hn, hj => by
    rw [List.flatMap_cons] at hf
    obtain ⟨I1, I2, e0, e1, e2⟩ := List.append_eq_map_iff.1 hf
    subst e0
    rw [List.nodup_append] at hn
    obtain ⟨n1, n2, n3⟩ := hn
    rw [declsMk_cons, ← e1]
    obtain ⟨s1, h1, h2⟩ := syms_lit d (hd d (by simp)).1 (hd d (by simp)).2 (if 2 ≤ d.kind ∧ d.kind ≤ 4 then level + 1 else level) I1 s L h n1 (fun j hj' => hj j (by simp [hj']))
    rw [h1]
    exact decls_lit ds _ s1 _ I2 (fun e he => hd e (by simp [he])) e2.symm h2 n2 (fun j hj' => by
      obtain ⟨j4, jl⟩ := hj j (by simp [hj'])
      refine ⟨j4, ?_⟩
      rw [List.mem_append, List.mem_map]
      rintro (h | ⟨i, hi, h⟩)
      · exact jl h
      · exact n3 i hi j hj' (letter_inj (hj i (by simp [hi])).1 j4 h))
theorem litSt0 : LitSt mk0 [] := ⟨⟨[], rfl, rfl⟩, rfl, by simp, by simp⟩
/-! ### The Lefts -/
theorem nonIx_mem {lefts : List (List UInt8)} {nm : List UInt8} : (nonIx lefts nm).isSome = true ↔ nm ∈ lefts := by
  constructor
  · intro h
    apply Classical.byContradiction
    intro hn
    have : nonIx lefts nm = none := by
      unfold nonIx
      rw [findIx_none]
      intro l hl
      rw [beq_eq_false_iff_ne]
      rintro rfl
      exact hn hl
    rw [this] at h
    cases h
  · intro h
    cases hx : nonIx lefts nm with
    | some k => rfl
    | none =>
      unfold nonIx at hx
      rw [findIx_none] at hx
      have := hx nm h
      simp at this
theorem leftsGo_lit : ∀ (rs : List Rule) (s : Mk), (∀ r ∈ rs, tokIx s.toks r.left false = none) → (s.lefts ++ rs.map (·.left)).Nodup → ∃ s', leftsGo rs s = .ok s' ∧ s'.toks = s.toks ∧ s'.given = s.given ∧ s'.lefts = s.lefts ++ rs.map (·.left)
  | [], s, _, _ => ⟨s, rfl, rfl, rfl, by simp⟩
  | r :: rs, s, h, hn => by
    have hnot : (nonIx s.lefts r.left).isSome ≠ true := by
      rw [Ne, nonIx_mem]
      intro hm
      rw [List.nodup_append] at hn
      exact hn.2.2 _ hm r.left (by simp) rfl
    unfold leftsGo
    rw [h r (by simp), if_neg (by simp), if_neg hnot]
    obtain ⟨s', h1, h2, h3, h4⟩ := leftsGo_lit rs { s with lefts := s.lefts ++ [r.left], nons := s.nons ++ [⟨r.left, (typeOf s.types r.left).getD []⟩] } (fun q hq => h q (by simp [hq])) (by simpa using hn)
    exact ⟨s', h1, h2, h3, by rw [h4]; simp⟩
/-! ### Symbols of rules -/
/-- A part that is no fault: an action, a byte in quotes, "error", a nonterminal. -/
def GoodP (lefts : List (List UInt8)) (p : Part) : Prop := p.code ≠ [] ∨ (∃ c ∈ pqrs, p.sym = ⟨[c], true, 0, 0⟩) ∨ (p.sym.lit = false ∧ (p.sym.name = errName ∨ p.sym.name ∈ lefts))
theorem parts_good : ∀ (l : List Part) (s : Mk) (L : List UInt8), LitSt s L → (∀ p ∈ l, GoodP s.lefts p) → ∃ s' L', partsGo2 l s = .ok s' ∧ LitSt s' L' ∧ s'.lefts = s.lefts
  | [], s, L, h, _ => ⟨s, L, rfl, h, rfl⟩
  | p :: l, s, L, h, hg => by
    unfold partsGo2
    by_cases hc : p.code = []
    · rw [if_pos hc]
      rcases hg p (by simp) with h1 | ⟨c, hc', h1⟩ | ⟨h1, h2⟩
      · exact absurd hc h1
      · rw [h1]
        obtain ⟨s1, L1, a, b, e⟩ := h.used hc' 0 0
        rw [a]
        obtain ⟨s2, L2, a2, b2, e2⟩ := parts_good l s1 L1 b (fun q hq => by rw [e]; exact hg q (by simp [hq]))
        exact ⟨s2, L2, a2, b2, e2.trans e⟩
      · have hu : used s p.sym false = .ok s := by
          unfold Sp.used
          rw [if_neg (by rw [h1]; simp), if_neg]
          rintro ⟨h3, h4⟩
          rcases h4 with h4 | h4
          · cases h4
          · rcases h2 with h2 | h2
            · rw [h1, h2] at h3
              unfold tokIx at h3
              rw [if_pos ⟨rfl, rfl⟩] at h3
              cases h3
            · rw [Option.isNone_iff_eq_none] at h4
              have := nonIx_mem.2 h2
              rw [h4] at this
              cases this
        rw [hu]
        exact parts_good l s L h (fun q hq => hg q (by simp [hq]))
    · rw [if_neg hc]
      exact parts_good l s L h (fun q hq => hg q (by simp [hq]))
def GoodA (lefts : List (List UInt8)) (a : Alt) : Prop := a.prec = noSym ∧ ∀ p ∈ a.parts, GoodP lefts p
theorem alts_good : ∀ (l : List Alt) (s : Mk) (L : List UInt8), LitSt s L → (∀ a ∈ l, GoodA s.lefts a) → ∃ s' L', altsGo2 l s = .ok s' ∧ LitSt s' L' ∧ s'.lefts = s.lefts
  | [], s, L, h, _ => ⟨s, L, rfl, h, rfl⟩
  | a :: l, s, L, h, hg => by
    unfold altsGo2
    obtain ⟨s1, L1, a1, b1, e1⟩ := parts_good a.parts s L h (hg a (by simp)).2
    rw [a1]
    simp only
    rw [if_pos (by rw [(hg a (by simp)).1]; rfl)]
    obtain ⟨s2, L2, a2, b2, e2⟩ := alts_good l s1 L1 b1 (fun q hq => by rw [e1]; exact hg q (by simp [hq]))
    exact ⟨s2, L2, a2, b2, e2.trans e1⟩
theorem rules_good : ∀ (l : List Rule) (s : Mk) (L : List UInt8), LitSt s L → (∀ r ∈ l, ∀ a ∈ r.alts, GoodA s.lefts a) → ∃ s' L', partsMk l s = .ok s' ∧ LitSt s' L' ∧ s'.lefts = s.lefts
  | [], s, L, h, _ => ⟨s, L, rfl, h, rfl⟩
  | r :: l, s, L, h, hg => by
    unfold partsMk
    obtain ⟨s1, L1, a1, b1, e1⟩ := alts_good r.alts s L h (hg r (by simp))
    rw [a1]
    obtain ⟨s2, L2, a2, b2, e2⟩ := rules_good l s1 L1 b1 (fun q hq => by rw [e1]; exact hg q (by simp [hq]))
    exact ⟨s2, L2, a2, b2, e2.trans e1⟩
/-! ### How many productions there are -/
def isCode (p : Part) : Bool := decide (p.code ≠ [])
theorem isCode_no {p : Part} (h : p.code = []) : isCode p = false := by unfold isCode; rw [h]; rfl
theorem isCode_yes {p : Part} (h : p.code ≠ []) : isCode p = true := decide_eq_true h
def codesA (a : Alt) : Nat := a.parts.countP isCode
def codesR (r : Rule) : Nat := (r.alts.map codesA).sum
def codesL (l : List Rule) : Nat := (l.map codesR).sum
def altsL (l : List Rule) : Nat := (l.map fun r => r.alts.length).sum
structure CntK (s s' : Mk) (n m : Nat) : Prop where
  nons : s'.nons.length ≤ s.nons.length + n
  prods : s'.prods.length ≤ s.prods.length + n + m
  rights : (∀ p ∈ s.prods, p.right.length ≤ 6) → ∀ p ∈ s'.prods, p.right.length ≤ 6
theorem CntK.trans {s s1 s2 : Mk} {n m n' m' : Nat} (h : CntK s s1 n m) (k : CntK s1 s2 n' m') : CntK s s2 (n + n') (m + m') :=
  ⟨by have := h.nons; have := k.nons; omega, by have := h.prods; have := k.prods; omega, fun h0 => k.rights (h.rights h0)⟩
theorem altGo_cnt (n : Nat) : ∀ (l : List Part) (k : Nat) (p : Prod) (inner : Nat) (s : Mk), CntK s (altGo n k l (p, inner, s)).2.2 (l.countP isCode) 0
  | [], k, p, inner, s => ⟨by simp [altGo], by simp [altGo], id⟩
  | x :: l, k, p, inner, s => by
    rw [List.countP_cons]
    unfold altGo
    split
    · rename_i hc
      rw [isCode_no hc, if_neg (by simp), Nat.add_zero]
      exact altGo_cnt n l (k + 1) _ inner s
    · rename_i hc
      rw [isCode_yes hc, if_pos rfl]
      split
      · have h := altGo_cnt n l (k + 1) { p with code := x.code, at_ := x.at_ } inner s
        exact ⟨Nat.le_trans h.nons (by omega), Nat.le_trans h.prods (by omega), h.rights⟩
      · simp only
        obtain ⟨L, hL⟩ : ∃ L : List Non, L = s.nons ++ [⟨64 :: Lib.itoa ((inner + 1 : Nat) : Int), []⟩] := ⟨_, rfl⟩
        have hLl : L.length = s.nons.length + 1 := by rw [hL]; simp
        rw [← hL]
        have h := altGo_cnt n l (k + 1) { p with right := p.right ++ [1000 + (L.length : Int) - 1] } (inner + 1) { s with nons := L, prods := s.prods ++ [⟨(L.length : Int) - 1, [], -1, x.code, p.right, x.at_⟩] }
        refine ⟨Nat.le_trans h.nons (by simp only; omega), Nat.le_trans h.prods (by simp; omega), fun h0 => h.rights fun q hq => ?_⟩
        simp only [List.mem_append, List.mem_singleton] at hq
        rcases hq with hq | rfl
        · exact h0 q hq
        · simp
theorem altMk_cnt (left : Int) (a : Alt) (inner : Nat) (s : Mk) (h : a.parts.length ≤ 6) : CntK s (altMk left a inner s).2 (codesA a) 1 := by
  have k1 := altGo_cnt a.parts.length a.parts 0 ⟨left, [], -1, [], [], a.at_⟩ inner s
  have k2 := (altGo_keeps a.parts.length a.parts 0 ⟨left, [], -1, [], [], a.at_⟩ inner s).2
  unfold altMk
  simp only
  refine ⟨k1.nons, ?_, fun h0 q hq => ?_⟩
  · have := k1.prods
    simp only [List.length_append, List.length_cons, List.length_nil]
    unfold codesA
    omega
  · simp only [List.mem_append, List.mem_singleton] at hq
    rcases hq with hq | rfl
    · exact k1.rights h0 q hq
    · simp only [List.length_nil, Nat.zero_add] at k2
      split <;> (simp only; omega)
theorem altsMk_cnt (left : Int) : ∀ (l : List Alt) (r : Nat × Mk), (∀ a ∈ l, a.parts.length ≤ 6) → CntK r.2 (altsMk left l r).2 (l.map codesA).sum l.length
  | [], r, _ => ⟨by simp [altsMk], by simp [altsMk], id⟩
  | a :: l, r, h => by
    unfold altsMk
    have e : (a :: l).length = 1 + l.length := by rw [List.length_cons, Nat.add_comm]
    rw [List.map_cons, List.sum_cons, e]
    exact (altMk_cnt left a r.1 r.2 (h a (by simp))).trans (altsMk_cnt left l _ (fun b hb => h b (by simp [hb])))
theorem rulesMk_cnt : ∀ (l : List Rule) (r : Nat × Mk), (∀ x ∈ l, ∀ a ∈ x.alts, a.parts.length ≤ 6) → CntK r.2 (rulesMk l r).2 (codesL l) (altsL l)
  | [], r, _ => ⟨by simp [rulesMk], by simp [rulesMk]; omega, id⟩
  | x :: l, r, h => by
    unfold rulesMk codesL altsL
    rw [List.map_cons, List.sum_cons, List.map_cons, List.sum_cons]
    exact (altsMk_cnt _ x.alts r (h x (by simp))).trans (rulesMk_cnt l _ (fun b hb => h b (by simp [hb])))
/-! ### The rules that are made -/
theorem addAlt_left (a : Alt) : ∀ (k : Nat) (l : List Rule), (addAlt a k l).map (·.left) = l.map (·.left)
  | k, [] => by cases k <;> rfl
  | 0, r :: l => rfl
  | k + 1, r :: l => by
    unfold addAlt
    rw [List.map_cons, addAlt_left a k l, List.map_cons]
theorem addAlt_codes (a : Alt) : ∀ (k : Nat) (l : List Rule), codesL (addAlt a k l) ≤ codesL l + codesA a ∧ altsL (addAlt a k l) ≤ altsL l + 1
  | k, [] => by cases k <;> simp [addAlt, codesL, altsL]
  | 0, r :: l => by
    unfold addAlt codesL altsL codesR
    simp only [List.map_cons, List.sum_cons, List.map_append, List.sum_append, List.length_append, List.map_nil, List.sum_nil, List.length_cons, List.length_nil]
    omega
  | k + 1, r :: l => by
    have ih := addAlt_codes a k l
    unfold addAlt codesL altsL
    unfold codesL altsL at ih
    simp only [List.map_cons, List.sum_cons]
    omega
theorem partsGo_codes (nons : Int) (e : Bool) : ∀ (l : List Int) (j : Nat), ((partsGo nons e j l).countP isCode) ≤ (if j ≤ 1 then 1 else 0)
  | [], j => by simp [partsGo]
  | x :: l, j => by
    have ih := partsGo_codes nons e l (j + 1)
    unfold partsGo
    rw [List.countP_cons, List.countP_append]
    have e0 : isCode ⟨symOf x nons, [], 0⟩ = false := isCode_no rfl
    simp only [e0, Bool.false_eq_true, if_false, Nat.add_zero]
    obtain ⟨c, hc⟩ : ∃ c, c = ((if j = 1 ∧ e = true then [(⟨noSym, codeIn, 0⟩ : Part)] else []).countP isCode) := ⟨_, rfl⟩
    rw [← hc]
    have h2 : c ≤ 1 ∧ (j ≠ 1 → c = 0) := by
      rw [hc]
      split
      · rename_i hj
        exact ⟨List.countP_le_length, fun h => absurd hj.1 h⟩
      · simp
    clear hc
    by_cases hj : j = 1
    · rw [if_neg (by omega)] at ih
      rw [if_pos (by omega)]
      omega
    · have := h2.2 hj
      split at ih <;> split <;> omega
theorem altOf_codes (nons : Int) (o : Option Int) (row : List Int) : codesA (altOf nons o row) ≤ 2 := by
  unfold codesA altOf
  simp only
  rw [List.countP_append]
  have h1 := partsGo_codes nons (innMid o) ((row.drop 1).take 4) 1
  have h2 : ((if innEnd o = true then [(⟨noSym, codeEnd, 0⟩ : Part)] else []).countP isCode) ≤ 1 := by
    split
    · exact List.countP_le_length
    · simp
  simp only [Nat.le_refl, if_true] at h1
  omega
theorem rulesGo_shape (nons : Int) (inner : List Int) : ∀ (l : List (List Int)) (i : Nat) (s : List Rule × List Bool), (rulesGo nons inner i l s).1.map (·.left) = s.1.map (·.left) ∧ codesL (rulesGo nons inner i l s).1 ≤ codesL s.1 + 2 * l.length ∧ altsL (rulesGo nons inner i l s).1 ≤ altsL s.1 + l.length
  | [], i, s => ⟨rfl, by simp [rulesGo], by simp [rulesGo]⟩
  | [] :: l, i, s => by
    obtain ⟨a, b, c⟩ := rulesGo_shape nons inner l (i + 1) s
    unfold rulesGo
    exact ⟨a, by rw [List.length_cons]; omega, by rw [List.length_cons]; omega⟩
  | (x :: t) :: l, i, s => by
    unfold rulesGo
    obtain ⟨a, b, c⟩ := rulesGo_shape nons inner l (i + 1) (addAlt (altOf nons inner[i]? (x :: t)) (within x nons).toNat s.1, s.2.set (within x nons).toNat (s.2.getD (within x nons).toNat false || plainRow nons (x :: t)))
    have h1 := addAlt_codes (altOf nons inner[i]? (x :: t)) (within x nons).toNat s.1
    have h2 := altOf_codes nons inner[i]? (x :: t)
    refine ⟨a.trans (addAlt_left _ _ _), ?_, ?_⟩
    · rw [List.length_cons]
      simp only at b
      omega
    · rw [List.length_cons]
      simp only at c
      omega
theorem fillGo_shape (bare : Bool) : ∀ (l : List Rule) (i : Nat) (has : List Bool), (fillGo bare i l has).map (·.left) = l.map (·.left) ∧ codesL (fillGo bare i l has) ≤ codesL l ∧ altsL (fillGo bare i l has) ≤ altsL l + l.length
  | [], _, _ => ⟨rfl, by simp [fillGo], by simp [fillGo]⟩
  | r :: l, i, has => by
    obtain ⟨a, b, c⟩ := fillGo_shape bare l (i + 1) has.tail
    have e0 : fillGo bare i (r :: l) has = (if r.alts.length = 0 ∨ has.headD false = false ∧ bare = false then ⟨r.left, r.alts ++ [⟨[⟨litS i, [], 0⟩], noSym, 0⟩], r.at_⟩ else r) :: fillGo bare (i + 1) l has.tail := rfl
    rw [e0]
    unfold codesL at b ⊢
    unfold altsL at c ⊢
    simp only [List.map_cons, List.sum_cons, List.length_cons]
    refine ⟨?_, ?_, ?_⟩
    · rw [a]
      congr 1
      split <;> rfl
    · have h : codesR (if r.alts.length = 0 ∨ has.headD false = false ∧ bare = false then ⟨r.left, r.alts ++ [⟨[⟨litS i, [], 0⟩], noSym, 0⟩], r.at_⟩ else r) ≤ codesR r := by
        split
        · unfold codesR
          rw [List.map_append, List.sum_append]
          have e : codesA ⟨[⟨litS i, [], 0⟩], noSym, 0⟩ = 0 := by
            unfold codesA
            rw [List.countP_cons, isCode_no rfl]
            rfl
          simp only [List.map_cons, List.map_nil, List.sum_cons, List.sum_nil, e]
          omega
        · exact Nat.le_refl _
      omega
    · have h : (if r.alts.length = 0 ∨ has.headD false = false ∧ bare = false then (⟨r.left, r.alts ++ [⟨[⟨litS i, [], 0⟩], noSym, 0⟩], r.at_⟩ : Rule) else r).alts.length ≤ r.alts.length + 1 := by
        split <;> simp
      omega
/-! ### Their parts are good -/
theorem lit_good (lefts : List (List UInt8)) (k : Int) (_h0 : 0 ≤ k) : GoodP lefts ⟨litS k, [], 0⟩ := by
  right; left
  have h1 := Int.emod_lt_of_pos k (show (0 : Int) < 4 by decide)
  have h2 : 0 ≤ k % 4 := Int.emod_nonneg _ (by decide)
  have : k % 4 = 0 ∨ k % 4 = 1 ∨ k % 4 = 2 ∨ k % 4 = 3 := by omega
  unfold litS
  rcases this with e | e | e | e <;> (rw [e]; exact ⟨_, by decide, rfl⟩)
def nonNames (n : Nat) : List (List UInt8) := (List.range n).map fun (i : Nat) => nonN (i : Int)
theorem sym_good (x : Int) (n : Nat) (h1 : 1 ≤ n) : GoodP (nonNames n) ⟨symOf x n, [], 0⟩ := by
  obtain ⟨a, b⟩ := within_range x 14 (by decide)
  unfold symOf
  split
  · right; right
    refine ⟨rfl, .inr ?_⟩
    have c1 := Int.emod_lt_of_pos (within x 14) (show (0 : Int) < n by omega)
    have c2 : 0 ≤ (within x 14) % (n : Int) := Int.emod_nonneg _ (by omega)
    unfold nonNames
    refine List.mem_map.2 ⟨((within x 14) % (n : Int)).toNat, List.mem_range.2 (by omega), ?_⟩
    show nonN _ = nonN _
    rw [Int.toNat_of_nonneg c2]
  · split
    · right; right
      exact ⟨rfl, .inl rfl⟩
    · exact lit_good _ _ (by omega)
theorem partsGo_good (n : Nat) (e : Bool) (h1 : 1 ≤ n) : ∀ (l : List Int) (j : Nat), ∀ p ∈ partsGo n e j l, GoodP (nonNames n) p
  | [], j, p, hp => by simp [partsGo] at hp
  | x :: l, j, p, hp => by
    unfold partsGo at hp
    rcases List.mem_cons.1 hp with rfl | hp
    · exact sym_good x n h1
    · rcases List.mem_append.1 hp with hp | hp
      · split at hp
        · rw [List.mem_singleton] at hp; subst hp; left; decide
        · simp at hp
      · exact partsGo_good n e h1 l (j + 1) p hp
theorem altOf_good (n : Nat) (o : Option Int) (row : List Int) (h1 : 1 ≤ n) : GoodA (nonNames n) (altOf n o row) := by
  refine ⟨rfl, fun p hp => ?_⟩
  unfold altOf at hp
  rcases List.mem_append.1 hp with hp | hp
  · exact partsGo_good n _ h1 _ _ p hp
  · split at hp
    · rw [List.mem_singleton] at hp; subst hp; left; decide
    · simp at hp
def GoodR (n : Nat) (l : List Rule) : Prop := ∀ r ∈ l, ∀ a ∈ r.alts, GoodA (nonNames n) a
theorem addAlt_good {n : Nat} {a : Alt} (ha : GoodA (nonNames n) a) : ∀ (k : Nat) (l : List Rule), GoodR n l → GoodR n (addAlt a k l)
  | k, [], h => by cases k <;> exact h
  | 0, r :: l, h => by
    intro q hq b hb
    simp only [addAlt] at hq
    rcases List.mem_cons.1 hq with rfl | hq
    · rcases List.mem_append.1 hb with hb | hb
      · exact h r (by simp) b hb
      · rw [List.mem_singleton] at hb; subst hb; exact ha
    · exact h q (by simp [hq]) b hb
  | k + 1, r :: l, h => by
    intro q hq b hb
    simp only [addAlt] at hq
    rcases List.mem_cons.1 hq with rfl | hq
    · exact h q (by simp) b hb
    · exact addAlt_good ha k l (fun x hx => h x (by simp [hx])) q hq b hb
theorem rulesGo_good (n : Nat) (inner : List Int) (h1 : 1 ≤ n) : ∀ (l : List (List Int)) (i : Nat) (s : List Rule × List Bool), GoodR n s.1 → GoodR n (rulesGo n inner i l s).1
  | [], i, s, h => h
  | [] :: l, i, s, h => by
    unfold rulesGo
    exact rulesGo_good n inner h1 l (i + 1) s h
  | (x :: t) :: l, i, s, h => by
    unfold rulesGo
    exact rulesGo_good n inner h1 l (i + 1) _ (addAlt_good (altOf_good n _ _ h1) _ _ h)
theorem fillGo_good (n : Nat) (bare : Bool) : ∀ (l : List Rule) (i : Nat) (has : List Bool), GoodR n l → GoodR n (fillGo bare i l has)
  | [], _, _, h => h
  | r :: l, i, has, h => by
    intro q hq b hb
    unfold fillGo at hq
    rcases List.mem_cons.1 hq with rfl | hq
    · split at hb
      · rcases List.mem_append.1 hb with hb | hb
        · exact h r (by simp) b hb
        · rw [List.mem_singleton] at hb
          subst hb
          refine ⟨rfl, fun p hp => ?_⟩
          rw [List.mem_singleton] at hp
          subst hp
          exact lit_good _ _ (by omega)
      · exact h r (by simp) b hb
    · exact fillGo_good n bare l (i + 1) has.tail (fun x hx => h x (by simp [hx])) q hq b hb
/-! ### The whole -/
theorem nonNames_nodup_all : ((List.range 5).all fun n => decide (nonNames n).Nodup) = true := by decide +kernel
theorem nonNames_isName {n : Nat} (hn : n ≤ 4) {nm : List UInt8} (h : nm ∈ nonNames n) : isName nm = true := by
  unfold nonNames at h
  obtain ⟨i, hi, rfl⟩ := List.mem_map.1 h
  rw [List.mem_range] at hi
  exact nonN_name _ (by omega) (by omega)
theorem nonIx_names_all : ((List.range 5).all fun n => (List.range n).all fun i => decide (nonIx (nonNames n) ((nonNames n).getD i []) = some (i + 1))) = true := by decide +kernel
theorem start_none : ∀ (ds : List Decl) (level : Int) (s s' : Mk), (∀ d ∈ ds, d.kind ≤ 4) → declsMk level ds s = .ok s' → s'.start = s.start
  | [], level, s, s', _, h => by cases h; rfl
  | d :: ds, level, s, s', hd, h => by
    rw [declsMk_cons] at h
    have gen : ∀ (l : List Sym) (lv : Int) (s s' : Mk), symsGo d lv l s = .ok s' → s'.start = s.start := by
      intro l lv
      induction l with
      | nil => intro s s' h; cases h; rfl
      | cons y l ih =>
        intro s s' h
        unfold symsGo at h
        rw [if_neg (by have := hd d (by simp); omega)] at h
        split at h
        · cases h
        · rename_i t ht
          exact (ih _ _ h).trans (tokStep_keeps ht).2.2.2.2.2
    split at h
    · cases h
    · rename_i t ht
      exact (start_none ds _ _ _ (fun e he => hd e (by simp [he])) h).trans (gen _ _ _ _ ht)
theorem grSource_rules (x : Gr) : ∀ r ∈ (grSource x).rules, r.alts.length ≤ 4000 ∧ ∀ a ∈ r.alts, a.parts.length ≤ 4000 := by
  intro r hr
  have h := ((grRules_ok x).1 r hr).1
  exact ⟨Nat.le_trans h.2.1 (by omega), fun a ha => Nat.le_trans (h.2.2 a ha).2.1 (by omega)⟩
theorem grSource_decls (x : Gr) : ∀ d ∈ (grSource x).decls, d.syms.length ≤ 4000 ∧ ∀ y ∈ d.syms, y.name.length ≤ 4000 := by
  intro d hd
  have hok : okD d := declsGo_ok 0 (x.levels.take 4) [] (by simp) d hd
  obtain ⟨I, hI1, hI2, hI3⟩ := declsGo_flat (x.levels.take 4) 0 [] [] rfl (by simp) (by simp)
  refine ⟨?_, fun y hy => Nat.le_trans (hok.2.2.2.2 y hy).2.2 (by omega)⟩
  have h1 : d.syms.length ≤ ((grSource x).decls.flatMap (·.syms)).length := by
    have gen : ∀ (l : List Decl), d ∈ l → d.syms.length ≤ (l.flatMap (·.syms)).length := by
      intro l
      induction l with
      | nil => intro h; simp at h
      | cons e l ih =>
        intro h
        rw [List.flatMap_cons, List.length_append]
        rcases List.mem_cons.1 h with rfl | h
        · omega
        · have := ih h; omega
    exact gen _ hd
  have h2 : (grSource x).decls.flatMap (·.syms) = I.map fun (j : Nat) => litS (j : Int) := hI1
  rw [h2, List.length_map] at h1
  have hl4 : (x.levels.take 4).length ≤ 4 := by simp; omega
  have h3 := len_of_sub I (List.range 4) hI2 (fun j hj => List.mem_range.2 (by have := hI3 j hj; omega))
  rw [List.length_range] at h3
  omega
theorem made_ok (x : Gr) : ∃ s1 s2 s3, declsMk 0 (grSource x).decls mk0 = .ok s1 ∧ s1.start = [] ∧ leftsMk (grSource x) s1 = .ok s2 ∧ partsMk (grSource x).rules s2 = .ok s3 ∧ great (numbersMk (prodsMk (grSource x) s3)) = false ∧ s2.lefts = nonNames (nonsOf x) ∧ (grSource x).rules.map (·.left) = nonNames (nonsOf x) := by
  obtain ⟨n1, n4⟩ := nons_range x
  generalize hn : nonsOf x = n at *
  have hds : ∀ d ∈ (grSource x).decls, okD d := declsGo_ok 0 (x.levels.take 4) [] (by simp)
  obtain ⟨I, hI1, hI2, hI3⟩ := declsGo_flat (x.levels.take 4) 0 [] [] rfl (by simp) (by simp)
  have hl4 : (x.levels.take 4).length ≤ 4 := by simp; omega
  obtain ⟨s1, L1, h1, k1⟩ := decls_lit (grSource x).decls 0 mk0 [] I (fun d hd => ⟨(hds d hd).2.1, (hds d hd).2.2.1⟩) hI1 litSt0 hI2 (fun j hj => ⟨by have := hI3 j hj; omega, by simp⟩)
  have hd1 := declsMk_keeps (grSource x).decls 0 mk0 s1 (fun d hd => by
    have hsm := grSource_decls x
    exact hsm d hd) h1
  have hst := start_none _ _ _ _ (fun d hd => (hds d hd).2.1) h1
  have hsr : (startRules n).map (·.left) = nonNames n := by
    unfold startRules nonNames
    rw [List.map_map]
    rfl
  have hl0 : ∀ n, codesL (startRules n) = 0 ∧ altsL (startRules n) = 0 := by
    intro n
    unfold codesL altsL startRules codesR
    rw [List.map_map, List.map_map]
    have e : ∀ (l : List Nat) (f : Nat → Nat), (∀ i, f i = 0) → (l.map f).sum = 0 := by
      intro l f hf
      induction l with
      | nil => rfl
      | cons a l ih => rw [List.map_cons, List.sum_cons, hf, ih]
    exact ⟨e _ _ (fun i => rfl), e _ _ (fun i => rfl)⟩
  have hrs := rulesGo_shape (n : Int) x.inner (x.rules.take 9) 0 (startRules n, List.replicate n false)
  have hl9 : (x.rules.take 9).length ≤ 9 := by simp; omega
  have hgr : (grSource x).rules = fillGo x.bare 0 (rulesGo (n : Int) x.inner 0 (x.rules.take 9) (startRules n, List.replicate n false)).1 (rulesGo (n : Int) x.inner 0 (x.rules.take 9) (startRules n, List.replicate n false)).2 := by
    unfold grSource
    simp only [hn]
  have hfs := fillGo_shape x.bare (rulesGo (n : Int) x.inner 0 (x.rules.take 9) (startRules n, List.replicate n false)).1 0 (rulesGo (n : Int) x.inner 0 (x.rules.take 9) (startRules n, List.replicate n false)).2
  rw [← hgr] at hfs
  have hlen : (rulesGo (n : Int) x.inner 0 (x.rules.take 9) (startRules n, List.replicate n false)).1.length = n := by
    have h := congrArg List.length (hrs.1.trans hsr)
    rw [List.length_map] at h
    rw [h]
    unfold nonNames
    simp
  have hlefts : (grSource x).rules.map (·.left) = nonNames n := hfs.1.trans (hrs.1.trans hsr)
  have hcod : codesL (grSource x).rules ≤ 18 := by have := hfs.2.1; have := hrs.2.1; have h0 : codesL (startRules n, List.replicate n false).1 = 0 := (hl0 n).1; omega
  have halt : altsL (grSource x).rules ≤ 13 := by have := hfs.2.2; have := hrs.2.2; have h0 : altsL (startRules n, List.replicate n false).1 = 0 := (hl0 n).2; omega
  have hgood : GoodR n (grSource x).rules := by
    rw [hgr]
    refine fillGo_good n x.bare _ 0 _ (rulesGo_good n x.inner n1 _ _ _ ?_)
    intro r hr a ha
    unfold startRules at hr
    obtain ⟨i, _, rfl⟩ := List.mem_map.1 hr
    simp at ha
  have hnd : (nonNames n).Nodup := of_decide_eq_true (List.all_eq_true.1 nonNames_nodup_all n (List.mem_range.2 (by omega)))
  have hs1l : s1.lefts = [] := hd1.lefts
  obtain ⟨s2, h2, h2t, h2g, h2l⟩ := leftsGo_lit (grSource x).rules s1 (fun r hr => k1.noname (by
      have hm : r.left ∈ nonNames n := by rw [← hlefts]; exact List.mem_map.2 ⟨r, hr, rfl⟩
      intro e
      have hok := ((grRules_ok x).1 r hr).1.1.1
      rw [e] at hok
      revert hok
      decide)) (by rw [hs1l, List.nil_append, hlefts]; exact hnd)
  rw [hs1l, List.nil_append, hlefts] at h2l
  have hdn : declsNames s2 (grSource x).decls = none := by
    have no : ∀ (k : Int), k ≤ 4 → ∀ ys, namesOk s2 k ys = none := by
      intro k hk ys
      induction ys with
      | nil => rfl
      | cons y ys ih =>
        unfold namesOk
        rw [if_neg (by omega)]
        exact ih
    have gen : ∀ ds : List Decl, (∀ d ∈ ds, d.kind ≤ 4) → declsNames s2 ds = none := by
      intro ds
      induction ds with
      | nil => intro _; rfl
      | cons d ds ih =>
        intro h
        unfold declsNames
        rw [no d.kind (h d (by simp))]
        exact ih (fun e he => h e (by simp [he]))
    exact gen _ (fun d hd => (hds d hd).2.1)
  have h2' : leftsMk (grSource x) s1 = .ok s2 := by
    unfold leftsMk
    rw [h2]
    simp only
    rw [hdn]
  have k2 : LitSt s2 L1 := ⟨by rw [h2t]; exact k1.toks, by rw [h2g]; exact k1.given, k1.nodup, k1.sub⟩
  obtain ⟨s3, L3, h3, k3, h3l⟩ := rules_good (grSource x).rules s2 L1 k2 (by rw [h2l]; exact hgood)
  refine ⟨s1, s2, s3, h1, hst, h2', h3, ?_, h2l, hlefts⟩
  have hk2 := leftsMk_keeps h2'
  have hk3 : s3.nons = s2.nons ∧ s3.prods = s2.prods := ⟨(partsMk_keeps _ _ _ (grSource_rules x) h3).nons, (partsMk_keeps _ _ _ (grSource_rules x) h3).prods⟩
  have hn2 : s2.nons.length = 1 + n := by
    have h := hk2.2.2.2.2
    have h0 : s1.nons = mk0.nons := hd1.nons
    rw [h0, hs1l, h2l] at h
    have e1 : (nonNames n).length = n := by unfold nonNames; simp
    have e2 : mk0.nons.length = 1 := rfl
    rw [e1, e2] at h
    simpa using h
  have hpr : s3.prods = [] := by rw [hk3.2, hk2.2.1, hd1.prods]; rfl
  have hc : CntK s3 (prodsMk (grSource x) s3) 18 14 := by
    have h := rulesMk_cnt (grSource x).rules (0, { s3 with prods := s3.prods ++ [⟨0, [1000 + (((nonIx s3.lefts (if s3.start = [] then (match (grSource x).rules with
      | [] => []
      | r :: _ => r.left) else s3.start)).getD 0 : Nat) : Int)], -1, [], [], 0⟩] }) (fun r hr a ha => (((grRules_ok x).1 r hr).1.2.2 a ha).2.1)
    refine ⟨Nat.le_trans h.nons (by simp only; omega), Nat.le_trans h.prods (by simp; omega), fun h0 => h.rights fun q hq => ?_⟩
    simp only [List.mem_append, List.mem_singleton] at hq
    rcases hq with hq | rfl
    · exact h0 q hq
    · simp
  have hkp := prodsMk_keeps (x := grSource x) (s := s3) (grSource_rules x)
  unfold great
  have e1 : (numbersMk (prodsMk (grSource x) s3)).toks.length ≤ 7 := by
    rw [numbersMk_len, hkp.toks]
    exact k3.len
  have e2 : (numbersMk (prodsMk (grSource x) s3)).nons.length ≤ 23 := by
    show (prodsMk (grSource x) s3).nons.length ≤ 23
    have := hc.nons
    rw [hk3.1, hn2] at this
    omega
  have e3 : (numbersMk (prodsMk (grSource x) s3)).prods.length ≤ 32 := by
    show (prodsMk (grSource x) s3).prods.length ≤ 32
    have := hc.prods
    rw [hpr] at this
    simpa using this
  have e4 : ((numbersMk (prodsMk (grSource x) s3)).prods.any fun p => decide (8 < p.right.length)) = false := by
    rw [List.any_eq_false]
    intro p hp
    have := hc.rights (by rw [hpr]; simp) p hp
    simp only [decide_eq_true_eq]
    omega
  rw [e4, decide_eq_false (by omega), decide_eq_false (by omega), decide_eq_false (by omega)]
  rfl
end Sp
end Go.Proofs.YthmimcegiihcnaaDoor
