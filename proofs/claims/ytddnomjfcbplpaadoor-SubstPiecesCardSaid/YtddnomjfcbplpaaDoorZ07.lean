/- Plain laws for gram.Of: how many there are of each after the passes; what may be. What stands while gram.Of's maker is laid, in whatever order its parts are made. Rows of a call's own: sources' declarations and rules; slices out of blocks. (Stood in Ei, Dl, Eu.) The walks of EqInts, EqToks, EqNons, EqFault (yuccaref0). What gram.Of hands back, and the lemmas of its walk. An argument that is a source (slices of structs, one within another), opened to the cells that the walks read. Layer 8, the reference: a declaration. -/
import Derived.Test.YtddnomjfcbplpaaDoorZ03
import Derived.Test.YtddnomjfcbplpaaDoorZ06
import Derived.Test.YtddnomjfcbplpaaDoorZ04
import Derived.Test.YtddnomjfcbplpaaDoorZ05
import Derived.Test.YtddnomjfcbplpaaDoorZ01
namespace Go.Proofs.YtddnomjfcbplpaaDoor
namespace Sp

/-- After the declarations. -/
structure DeclK (s s' : Mk) (n : Nat) : Prop where
  toks : s'.toks.length ≤ s.toks.length + n
  lefts : s'.lefts = s.lefts
  nons : s'.nons = s.nons
  prods : s'.prods = s.prods
  start : s.start.length ≤ 4000 → s'.start.length ≤ 4000
theorem DeclK.refl (s : Mk) : DeclK s s 0 := ⟨Nat.le_refl _, rfl, rfl, rfl, id⟩
theorem DeclK.trans {s s1 s2 : Mk} {n m : Nat} (h : DeclK s s1 n) (k : DeclK s1 s2 m) : DeclK s s2 (n + m) :=
  ⟨by have := h.toks; have := k.toks; omega, k.lefts.trans h.lefts, k.nons.trans h.nons, k.prods.trans h.prods, fun h0 => k.start (h.start h0)⟩
/-- After the rules' symbols. -/
structure PartK (s s' : Mk) (n : Nat) : Prop where
  toks : s'.toks.length ≤ s.toks.length + n
  lefts : s'.lefts = s.lefts
  nons : s'.nons = s.nons
  prods : s'.prods = s.prods
  start : s'.start = s.start
theorem PartK.refl (s : Mk) : PartK s s 0 := ⟨Nat.le_refl _, rfl, rfl, rfl, rfl⟩
theorem PartK.trans {s s1 s2 : Mk} {n m : Nat} (h : PartK s s1 n) (k : PartK s1 s2 m) : PartK s s2 (n + m) :=
  ⟨by have := h.toks; have := k.toks; omega, k.lefts.trans h.lefts, k.nons.trans h.nons, k.prods.trans h.prods, k.start.trans h.start⟩
theorem PartK.mono {s s1 : Mk} {n m : Nat} (h : PartK s s1 n) (hn : n ≤ m) : PartK s s1 m := ⟨Nat.le_trans h.toks (by omega), h.lefts, h.nons, h.prods, h.start⟩
/-- After the productions: how many there are, how long their right sides. -/
structure ProdK (s s' : Mk) (n : Nat) : Prop where
  toks : s'.toks = s.toks
  given : s'.given = s.given
  lefts : s'.lefts = s.lefts
  nons : s'.nons.length ≤ s.nons.length + n
  prods : s'.prods.length ≤ s.prods.length + n
  rights : (∀ p ∈ s.prods, p.right.length ≤ 4000) → ∀ p ∈ s'.prods, p.right.length ≤ 4000
theorem ProdK.refl (s : Mk) : ProdK s s 0 := ⟨rfl, rfl, rfl, Nat.le_refl _, Nat.le_refl _, id⟩
theorem ProdK.trans {s s1 s2 : Mk} {n m : Nat} (h : ProdK s s1 n) (k : ProdK s1 s2 m) : ProdK s s2 (n + m) :=
  ⟨k.toks.trans h.toks, k.given.trans h.given, k.lefts.trans h.lefts, by have := h.nons; have := k.nons; omega, by have := h.prods; have := k.prods; omega, fun h0 => k.rights (h.rights h0)⟩
theorem ProdK.mono {s s1 : Mk} {n m : Nat} (h : ProdK s s1 n) (hn : n ≤ m) : ProdK s s1 m := ⟨h.toks, h.given, h.lefts, Nat.le_trans h.nons (by omega), Nat.le_trans h.prods (by omega), h.rights⟩
/-! ### What may be -/
/-! ### The passes of gramOf, one by one -/
end Sp
end Go.Proofs.YtddnomjfcbplpaaDoor

namespace Go.Proofs.YtddnomjfcbplpaaDoor
open Go.RowKit Go.Maps

section
variable {P : Program} {ops : Array Oper} {Q : Exit → Act → World → Prop} {md : Region.Mode}
end
/-- The three maps, and the row of what is given, as far as they are made. -/
structure LitInv (W w : World) (b1 b6 b7 : Nat) (gv : Value) (l1 l3 l5 l6 l7 : Bool) : Prop where
  below : Below W.heap.size W w
  m1 : l1 = true → W.heap.size ≤ b1 ∧ MapIs Tryd.prog 79 w b1 (if l3 = true then 1 else 0) (if l3 = true then tokL Sp.mk0.toks else fun _ => none)
  s5 : l5 = true → w.ownsRow W.heap.size 4 1 gv 3 [.bool false, .bool false, .bool false]
  m6 : l6 = true → W.heap.size ≤ b6 ∧ MapIs Tryd.prog 9 w b6 0 (fun _ => none)
  m7 : l7 = true → W.heap.size ≤ b7 ∧ MapIs Tryd.prog 9 w b7 0 (fun _ => none)
  ne16 : l1 = true → l6 = true → b1 ≠ b6
  ne17 : l1 = true → l7 = true → b1 ≠ b7
  ne67 : l6 = true → l7 = true → b6 ≠ b7
section
variable {W w : World} {b1 b6 b7 : Nat} {gv : Value} {l1 l3 l5 l6 l7 : Bool}
theorem litInv0 {W w : World} (gv : Value) (h : Below W.heap.size W w) : LitInv W w 0 0 0 gv false false false false false :=
  ⟨h, fun h => (Bool.noConfusion h), fun h => (Bool.noConfusion h), fun h => (Bool.noConfusion h), fun h => (Bool.noConfusion h), fun h => (Bool.noConfusion h), fun h => (Bool.noConfusion h), fun h => (Bool.noConfusion h)⟩
theorem LitInv.onto {w' : World} (h : LitInv W w b1 b6 b7 gv l1 l3 l5 l6 l7) (hb : Below w.heap.size w w') : LitInv W w' b1 b6 b7 gv l1 l3 l5 l6 l7 :=
  ⟨h.below.trans (hb.mono h.below.size), fun e => ⟨(h.m1 e).1, (h.m1 e).2.block (hb.block _ (h.m1 e).2.lt)⟩, fun e => ownsRow_below (h.s5 e) hb, fun e => ⟨(h.m6 e).1, (h.m6 e).2.block (hb.block _ (h.m6 e).2.lt)⟩, fun e => ⟨(h.m7 e).1, (h.m7 e).2.block (hb.block _ (h.m7 e).2.lt)⟩, h.ne16, h.ne17, h.ne67⟩
theorem LitInv.alloc (h : LitInv W w b1 b6 b7 gv l1 l3 l5 l6 l7) (o : Obj) : LitInv W (w.alloc o) b1 b6 b7 gv l1 l3 l5 l6 l7 := h.onto ((Below.refl _ w).alloc (Nat.le_refl _) o)
theorem LitInv.map1 (h : LitInv W w b1 b6 b7 gv false false l5 l6 l7) : LitInv W (w.alloc (.map #[] 0)) w.heap.size b6 b7 gv true false l5 l6 l7 := by
  have k := h.alloc (.map #[] 0)
  exact ⟨k.below, fun _ => ⟨h.below.size, MapIs.made _ _ w⟩, k.s5, k.m6, k.m7, fun _ e => by have := (h.m6 e).2.lt; omega, fun _ e => by have := (h.m7 e).2.lt; omega, k.ne67⟩
end
/-! ### The region -/
/-- What its operations leave in their slots. -/
structure LitR where
  s4 : Value
  t10 : Value
  t11 : Value
  t12 : Value
  t13 : Value
  t14 : Value
  t15 : Value
  t16 : Value
  t17 : Value
  t18 : Value
def mkLit (x : Sp.Source) (vd vr : Value) (b1 b6 b7 : Nat) (gv : Value) : Array Value := #[.string ⟨x.pro.toArray⟩, vd, vr, .string ⟨x.tail.toArray⟩, .slice none 0 0, .slice none 0 0, .slice none 0 0, .string ⟨#[]⟩, .string ⟨#[]⟩, .map (some b1), gv, .map (some b6), .map (some b7), .string ⟨#[]⟩, .int .i64 0, .int .i64 0, .string ⟨#[]⟩]
def keyErr : Value := .agg #[.string ⟨Sp.errName.toArray⟩, .bool false]
/-- What stands once L is carried out. -/
def LitI (x : Sp.Source) (vd vr : Value) (W : World) (L : Nat → Bool) (r : LitR) (w : World) : Prop :=
  ∃ b1 b6 b7, LitInv W w b1 b6 b7 r.t14 (L 1) (L 3) (L 5) (L 6) (L 7) ∧ (L 0 = true → r.t10 = .agg (srcC vd vr x).toArray) ∧ (L 1 = true → r.t11 = .map (some b1)) ∧ (L 2 = true → r.t12 = keyErr) ∧ (L 4 = true → r.t13 = .map (some b1)) ∧
    (L 6 = true → r.t15 = .map (some b6)) ∧ (L 7 = true → r.t16 = .map (some b7)) ∧ (L 8 = true → r.t17 = .agg (mkLit x vd vr b1 b6 b7 r.t14)) ∧
    (L 9 = true → ∃ m, r.t18 = .pointer (some ⟨m, 0, none⟩) ∧ W.heap.size ≤ m ∧ w.heap[m]? = some (.cells (mkLit x vd vr b1 b6 b7 r.t14) 85 (0, 0))) ∧ (L 10 = true → r.s4 = r.t18)
/-- What waits for what. -/
structure LitCl (L : Nat → Bool) : Prop where
  c3 : L 3 = true → L 1 = true ∧ L 2 = true
  c4 : L 4 = true → L 1 = true ∧ L 3 = true
  c8 : L 8 = true → L 0 = true ∧ L 4 = true ∧ L 5 = true ∧ L 6 = true ∧ L 7 = true
  c9 : L 9 = true → L 8 = true
  c10 : L 10 = true → L 9 = true
def updL (L : Nat → Bool) (i : Nat) : Nat → Bool := fun j => if j = i then true else L j
/-- Does operation i wait for j? -/
def waits (ops : Array Oper) (i j : Nat) : Bool := match ops[i]? with
  | some o => o.after.any fun e => Region.binds .any e && e.on == j
  | none => false
section
variable {x : Sp.Source} {vd vr : Value} {W w : World} {L : Nat → Bool} {r : LitR}
theorem no_true {b : Bool} (h : b = false) : ¬ b = true := by rw [h]; simp
theorem LitI.start (h : Below W.heap.size W w) (hL : ∀ i, L i = false) (r : LitR) : LitI x vd vr W L r w := by
  refine ⟨0, 0, 0, ?_, ?_⟩
  · rw [hL 1, hL 3, hL 5, hL 6, hL 7]
    exact litInv0 _ h
  · simp only [hL]
    simp
theorem LitI.o0 (h : LitI x vd vr W L r w) (c : LitCl L) (h0 : L 0 = false) : LitI x vd vr W (updL L 0) { r with t10 := .agg (srcC vd vr x).toArray } w := by
  obtain ⟨b1, b6, b7, hi, a0, a1, a2, a4, a6, a7, a8, a9, a10⟩ := h
  exact ⟨b1, b6, b7, hi, fun _ => rfl, a1, a2, a4, a6, a7, a8, a9, a10⟩
theorem LitI.o1 (h : LitI x vd vr W L r w) (c : LitCl L) (h1 : L 1 = false) : LitI x vd vr W (updL L 1) { r with t11 := .map (some w.heap.size) } (w.alloc (.map #[] 0)) := by
  obtain ⟨b1, b6, b7, hi, a0, a1, a2, a4, a6, a7, a8, a9, a10⟩ := h
  have h3 : L 3 = false := by cases h : L 3 with
    | false => rfl
    | true => exact absurd (c.c3 h).1 (no_true h1)
  have h4 : L 4 = false := by cases h : L 4 with
    | false => rfl
    | true => exact absurd (c.c4 h).1 (no_true h1)
  have h8 : L 8 = false := by cases h : L 8 with
    | false => rfl
    | true => exact absurd (c.c8 h).2.1 (no_true h4)
  have h9 : L 9 = false := by cases h : L 9 with
    | false => rfl
    | true => exact absurd (c.c9 h) (no_true h8)
  rw [h1, h3] at hi
  refine ⟨w.heap.size, b6, b7, ?_, a0, fun _ => rfl, a2, fun e => absurd e (no_true h4), a6, a7, fun e => absurd e (no_true h8), fun e => absurd e (no_true h9), a10⟩
  show LitInv W _ _ b6 b7 r.t14 true (L 3) (L 5) (L 6) (L 7)
  rw [h3]
  exact hi.map1
theorem LitI.o2 (h : LitI x vd vr W L r w) (c : LitCl L) (h0 : L 2 = false) : LitI x vd vr W (updL L 2) { r with t12 := keyErr } w := by
  obtain ⟨b1, b6, b7, hi, a0, a1, a2, a4, a6, a7, a8, a9, a10⟩ := h
  exact ⟨b1, b6, b7, hi, a0, a1, fun _ => rfl, a4, a6, a7, a8, a9, a10⟩
theorem LitI.all (h : LitI x vd vr W L r w) (hL : ∀ i, i < 11 → L i = true) : ∃ b1 b6 b7 m, r.s4 = .pointer (some ⟨m, 0, none⟩) ∧ r.t18 = .pointer (some ⟨m, 0, none⟩) ∧ W.heap.size ≤ m ∧ w.heap[m]? = some (.cells (mkLit x vd vr b1 b6 b7 r.t14) 85 (0, 0)) ∧ LitInv W w b1 b6 b7 r.t14 true true true true true := by
  obtain ⟨b1, b6, b7, hi, a0, a1, a2, a4, a6, a7, a8, a9, a10⟩ := h
  rw [hL 1 (by omega), hL 3 (by omega), hL 5 (by omega), hL 6 (by omega), hL 7 (by omega)] at hi
  obtain ⟨m, h1, h2, h3⟩ := a9 (hL 9 (by omega))
  exact ⟨b1, b6, b7, m, (a10 (hL 10 (by omega))).trans h1, h1, h2, h3, hi⟩
end
end Go.Proofs.YtddnomjfcbplpaaDoor

namespace Go.Proofs.YtddnomjfcbplpaaDoor
open Go.RowKit

/-! ### Rows of the call's own -/
def symsOwn (w : World) (v : Value) (d : Sp.Decl) : Prop := ∃ base, w.ownsRow base 26 4 v d.syms.length (d.syms.map symC).flatten
def partsOwn (w : World) (v : Value) (a : Sp.Alt) : Prop := ∃ base, w.ownsRow base 63 6 v a.parts.length (a.parts.map partC).flatten
abbrev DeclsOwn := OwnR declC 39 4 symsOwn
abbrev AltsOwn := OwnR altC 28 6 partsOwn
def altsOwn (w : World) (v : Value) (r : Sp.Rule) : Prop := ∃ base, AltsOwn base w v r.alts
abbrev RulesOwn := OwnR ruleC 31 3 altsOwn
theorem slAt_block {w : World} {b : Nat} {e : TypeId} (rows : List (List Value)) (size : Nat) (hrows : ∀ r ∈ rows, r.length = size) (h : w.heap[b]? = some (.cells rows.flatten.toArray e (0, 0))) (hm : rows.length ≤ maxLen) : SlAt w (.slice (some ⟨b, 0, none⟩) rows.length rows.length) size rows := by
  have hl : rows.flatten.length = rows.length * size := by
    clear h hm
    induction rows with
    | nil => simp
    | cons r rows ih => rw [List.flatten_cons, List.length_append, ih (fun x hx => hrows x (by simp [hx])), hrows r (by simp), List.length_cons, Nat.succ_mul, Nat.add_comm]
  exact slAt_of_owns (base := 0) (e := e) rows hrows rfl ⟨hl, .inr ⟨b, rows.length, _, rfl, Nat.zero_le _, h, Nat.le_refl _, hm, by simpa using hl, by rw [List.toList_toArray]; exact List.take_of_length_le (by rw [hl]; exact Nat.le_refl _)⟩⟩
theorem decls_none (w : World) : DeclsAt w (.slice none 0 0) [] := ⟨fun _ => .nilFunc, .inl ⟨rfl, none, 0, rfl⟩, by simp⟩
def IntsAt (w : World) (v : Value) (xs : List Int) : Prop := SlAt w v 1 (xs.map fun x => [Value.int .i64 x])
end Go.Proofs.YtddnomjfcbplpaaDoor

namespace Go.Proofs.YtddnomjfcbplpaaDoor
open Go.RowKit

set_option maxHeartbeats 1600000 in
theorem ref_EqFaultG (e p e' p' : Int) (n n' : List UInt8) (w : World) :
    Calls Tryd.prog 12 #[.agg #[.int .i64 e, .int .i64 p, .string ⟨n.toArray⟩], .int .i64 e', .int .i64 p', .string ⟨n'.toArray⟩] w fun r w' => r = .returned (.bool (decide ((e = e' ∧ p = p') ∧ n = n'))) ∧ Below w.heap.size w w' := by
  by_cases h1 : e = e'
  · by_cases h2 : p = p'
    · by_cases h3 : n = n'
      · subst h1 h2 h3
        go_enter Tryd.func12, Tryd.ntmps12
        go_wp2
        go_ret
        exact ⟨ret_bool (by simp), (Below.refl _ _).alloc (Nat.le_refl _) _⟩
      · subst h1 h2
        have H3 := Lib.hid h3
        have h3' : ¬ (⟨n.toArray⟩ : ByteArray) = ⟨n'.toArray⟩ := by simpa using h3
        clear h3
        go_enter Tryd.func12, Tryd.ntmps12
        go_wp2
        go_ret
        exact ⟨ret_bool (by rw [Bool.eq_iff_iff]; simp), (Below.refl _ _).alloc (Nat.le_refl _) _⟩
    · subst h1
      have h2b : (p == p') = false := by simpa using h2
      have H2 := Lib.hid h2
      clear h2
      go_enter Tryd.func12, Tryd.ntmps12
      go_wp2
      go_ret
      exact ⟨ret_bool (by simp [H2.out]), (Below.refl _ _).alloc (Nat.le_refl _) _⟩
  · have h1b : (e == e') = false := by simpa using h1
    have H1 := Lib.hid h1
    clear h1
    go_enter Tryd.func12, Tryd.ntmps12
    go_wp2
    go_ret
    exact ⟨ret_bool (by simp [H1.out]), (Below.refl _ _).alloc (Nat.le_refl _) _⟩
end Go.Proofs.YtddnomjfcbplpaaDoor

namespace Go.Proofs.YtddnomjfcbplpaaDoor
open Go.RowKit Go.Maps

section
variable {P : Program} {fn : Func} {R : Ending → World → Prop} {a : Act} {W : World} {p q g h : Nat} {ty tz t u : TypeId} {cs ds : Array Value} {fr fs : Nat × Nat} {d e : TypeDesc}
end
def faultV (f : Sp.Fault) : Value := .agg #[.int .i64 f.err, .int .i64 f.at_, .string ⟨f.name.toArray⟩]
/-- Productions, as they are read. -/
def ProdsAt (w : World) (v : Value) (l : List Sp.Prod) : Prop :=
  ∃ f g : Nat → Value, SlAt w v 6 (l.mapIdx fun i p => prodC (f i) (g i) p) ∧ ∀ (i : Nat) (p : Sp.Prod), l[i]? = some p → IntsAt w (f i) p.right ∧ IntsAt w (g i) p.args
/-- A grammar, as it is read. -/
def GramAt (w : World) (v : Value) (g : Sp.Gram) : Prop :=
  ∃ tv nv pv, v = .agg #[tv, nv, pv, .string ⟨g.pro.toArray⟩, .string ⟨g.tail.toArray⟩] ∧ SlAt w tv 6 (g.toks.map tokC) ∧ SlAt w nv 2 (g.nons.map nonC) ∧ ProdsAt w pv g.prods
theorem ProdsAt.below {w w' : World} {v : Value} {l : List Sp.Prod} (h : ProdsAt w v l) (hb : Below w.heap.size w w') : ProdsAt w' v l := by
  obtain ⟨f, g, h1, h2⟩ := h
  exact ⟨f, g, h1.below hb, fun i p hp => ⟨(h2 i p hp).1.below hb, (h2 i p hp).2.below hb⟩⟩
theorem GramAt.below {w w' : World} {v : Value} {g : Sp.Gram} (h : GramAt w v g) (hb : Below w.heap.size w w') : GramAt w' v g := by
  obtain ⟨tv, nv, pv, h0, h1, h2, h3⟩ := h
  exact ⟨tv, nv, pv, h0, h1.below hb, h2.below hb, h3.below hb⟩
theorem ints_own {w : World} {B : Nat} {v : Value} {l : List Int} (h : w.ownsRow B 3 1 v l.length (intsC l)) : IntsAt w v l := by
  refine slAt_of_owns (base := B) (e := 3) (n := l.length) (l.map fun x => [Value.int .i64 x]) (by simp) (by simp) ?_
  have e : (l.map fun x => [Value.int .i64 x]).flatten = intsC l := by
    unfold intsC
    clear h
    induction l with
    | nil => rfl
    | cons a l ih =>
      rw [List.map_cons, List.flatten_cons, ih]
      rfl
  rw [e]
  exact h
/-- A grammar as it lies, in rows of its own. -/
def GramOwn (w : World) (v : Value) (g : Sp.Gram) : Prop :=
  ∃ B ta tc na nc pa pc, v = .agg #[.slice ta g.toks.length tc, .slice na g.nons.length nc, .slice pa g.prods.length pc, .string ⟨g.pro.toArray⟩, .string ⟨g.tail.toArray⟩] ∧ w.ownsRow B 53 6 (.slice ta g.toks.length tc) g.toks.length (g.toks.map tokC).flatten ∧ w.ownsRow B 87 2 (.slice na g.nons.length nc) g.nons.length (g.nons.map nonC).flatten ∧ ProdsOwn B w (.slice pa g.prods.length pc) g.prods
theorem GramOwn.at {w : World} {v : Value} {g : Sp.Gram} (h : GramOwn w v g) : GramAt w v g := by
  obtain ⟨B, ta, tc, na, nc, pa, pc, hv, h1, h2, f, g', p1, p2⟩ := h
  refine ⟨_, _, _, hv, slAt_of_owns _ ?_ (by simp) h1, slAt_of_owns _ ?_ (by simp) h2, f, g', slAt_of_owns _ ?_ (by simp) p1, fun i p hp => ?_⟩
  · intro r hr
    obtain ⟨t, _, rfl⟩ := List.mem_map.1 hr
    rfl
  · intro r hr
    obtain ⟨t, _, rfl⟩ := List.mem_map.1 hr
    rfl
  · intro r hr
    obtain ⟨i, hi⟩ := List.mem_iff_getElem?.1 hr
    rw [List.getElem?_mapIdx] at hi
    obtain ⟨t, _, rfl⟩ := Option.map_eq_some_iff.1 hi
    rfl
  · obtain ⟨⟨b, q1⟩, c, q2⟩ := p2 i p hp
    exact ⟨ints_own q1, ints_own q2⟩
/-- Of blocks of other types anything may change. -/
theorem GramOwn.kpT {w w' : World} {v : Value} {g : Sp.Gram} {T : TypeId → Prop} (h : GramOwn w v g) (k : KpT T w w') (h1 : T 53) (h2 : T 87) (h3 : T 72) (h4 : T 3) : GramOwn w' v g := by
  obtain ⟨B, ta, tc, na, nc, pa, pc, hv, q1, q2, f, g', p1, p2⟩ := h
  refine ⟨B, ta, tc, na, nc, pa, pc, hv, ownsRow_kpT q1 k h1, ownsRow_kpT q2 k h2, f, g', ownsRow_kpT p1 k h3, fun i p hp => ?_⟩
  obtain ⟨⟨b, r1⟩, c, r2⟩ := p2 i p hp
  exact ⟨⟨b, ownsRow_kpT r1 k h4⟩, c, ownsRow_kpT r2 k h4⟩
theorem GramOwn.below {w w' : World} {v : Value} {g : Sp.Gram} (h : GramOwn w v g) (hb : Below w.heap.size w w') : GramOwn w' v g :=
  h.kpT (T := fun _ => True) (KpT.below hb) trivial trivial trivial trivial
theorem gramOwn_none (w : World) : GramOwn w (.agg #[.slice none 0 0, .slice none 0 0, .slice none 0 0, .string ⟨#[]⟩, .string ⟨#[]⟩]) Sp.noGram :=
  ⟨0, _, _, _, _, _, _, rfl, World.ownsRow_nil _ _ _ _, World.ownsRow_nil _ _ _ _, fun _ => .bool false, fun _ => .bool false, World.ownsRow_nil _ _ _ _, by simp [Sp.noGram]⟩
theorem LitI.bel {x : Sp.Source} {vd vr : Value} {W w : World} {L : Nat → Bool} {r : LitR} (h : LitI x vd vr W L r w) : Below W.heap.size W w := by
  obtain ⟨_, _, _, hi, _⟩ := h
  exact hi.below
/-- What the boxes hold: the source, the two results. -/
def OfBox (x : Sp.Source) (vd vr : Value) (g : Nat) (w : World) : Prop :=
  w.heap[g]? = some (.cells #[.string ⟨x.pro.toArray⟩, vd, vr, .string ⟨x.tail.toArray⟩] 35 (0, 0)) ∧ w.heap[g + 1]? = some (.cells #[.slice none 0 0, .slice none 0 0, .slice none 0 0, .string ⟨#[]⟩, .string ⟨#[]⟩] 46 (0, 0)) ∧ w.heap[g + 1 + 1]? = some (.cells #[.int .i64 0, .int .i64 0, .string ⟨#[]⟩] 49 (0, 0))
theorem OfBox.below {x : Sp.Source} {vd vr : Value} {g : Nat} {w w' : World} (h : OfBox x vd vr g w) (hb : Below w.heap.size w w') : OfBox x vd vr g w' :=
  ⟨(hb.block _ (lt_at h.1)).trans h.1, (hb.block _ (lt_at h.2.1)).trans h.2.1, (hb.block _ (lt_at h.2.2)).trans h.2.2⟩
end Go.Proofs.YtddnomjfcbplpaaDoor

namespace Go.Proofs.YtddnomjfcbplpaaDoor
open Go.ChangeShapes Go.WideShapes Go.Deep Go.RowKit

section
variable {H : Type} {enc : TypeId × Value → H} {w : World} {base : Nat} {spare : Nat → Bool} {held : Bool}
theorem three {α : Type} (l : List α) (h : l.length = 3) : ∃ a b c, l = [a, b, c] := by
  rcases l with _ | ⟨a, _ | ⟨b, _ | ⟨c, _ | ⟨d, l⟩⟩⟩⟩ <;> simp at h
  exact ⟨a, b, c, rfl⟩

/-! ### Alternatives, rules, declarations: a datum beside the value of its slice -/
instance : Inhabited Sp.Sym := ⟨⟨[], false, 0, 0⟩⟩
instance : Inhabited Sp.Part := ⟨⟨default, [], 0⟩⟩
instance : Inhabited Sp.Alt := ⟨⟨[], default, 0⟩⟩
instance : Inhabited Sp.Rule := ⟨⟨[], [], 0⟩⟩
instance : Inhabited Sp.Decl := ⟨⟨0, [], [], 0⟩⟩
instance : Inhabited (Sp.Alt × Value) := ⟨(default, .bool false)⟩
instance : Inhabited (Sp.Rule × Value) := ⟨(default, .bool false)⟩
instance : Inhabited (Sp.Decl × Value) := ⟨(default, .bool false)⟩
end
end Go.Proofs.YtddnomjfcbplpaaDoor

namespace Go.Proofs.YtddnomjfcbplpaaDoor
open Go.RowKit

set_option maxRecDepth 100000 in
set_option maxHeartbeats 12800000 in
theorem ref7_mayDecl (d : Sp.Decl) (v : Value) (W : World) (hsl : SlAt W v 4 (d.syms.map symC)) (hs : smallDecl d) :
    Calls Tryd.prog 85 #[.agg (declC v d).toArray] W fun e w' => e = .returned (.bool (Sp.mayDecl d)) ∧ Below W.heap.size W w' := by
  obtain ⟨hs1, hs2, hs3⟩ := hs
  have HN := Lib.hid (fun w => ref_Name ⟨d.tag.toArray⟩ w (by rw [Lib.size_eq]; show d.tag.length < _; omega))
  have HT : (⟨d.tag.toArray⟩ : ByteArray).data.toList = d.tag := rfl
  rw [HT] at HN
  rw [Sp.mayDecl_ref]
  generalize hbad : Sp.badHead d = B
  unfold Sp.badHead at hbad
  generalize Sp.isName d.tag = q at HN hbad
  generalize hR : (d.syms.all fun s => Sp.refSym s (d.kind == 1) (decide (d.kind < 5))) = R
  obtain ⟨kd, tg, sy, pa⟩ := d
  simp only at hs1 hs2 hs3 hbad hR hsl
  obtain ⟨av, cap, rfl⟩ := hsl.form
  generalize hn : (sy.map symC).length = n at *
  have hnl : sy.length = n := by rw [← hn, List.length_map]
  have HSY := Lib.hid (fun (s : Sp.Sym) (hs : s ∈ sy) w => ref7_symbol s (kd == 1) (decide (kd < 5)) w (hs3 s hs))
  rw [hnl] at hbad
  have HS3 := Lib.hid hs3
  have HSL := Lib.hid hsl
  have HBD := Lib.hid hbad
  have HR := Lib.hid hR
  have HNL := Lib.hid hnl
  have hnn : n ≤ 4000 := by omega
  clear hsl hs1 hs2 hs3 hbad hR hn hnl HT
  show Calls _ _ #[.agg #[.int .i64 kd, .string ⟨tg.toArray⟩, .slice av n cap, .int .i64 pa]] _ _
  by_cases h1 : kd < 1
  · have HBAD := Lib.hid (show B = true by rw [← HBD.out]; simp [h1])
    clear HBD
    go_enter Tryd.func85, Tryd.ntmps85
    go_wp2_with (go_at_call 86; refine (HN.out _).mono ?_; rintro e w' ⟨rfl, rfl⟩)
    go_ret
    exact ⟨ret_bool (by rw [HBAD.out]; rfl), below_box (Below.refl _ _)⟩
  by_cases h2 : 6 < kd
  · have h1d : decide (kd < 1) = false := by simpa using h1
    have HBAD := Lib.hid (show B = true by rw [← HBD.out]; simp [h2])
    clear HBD
    go_enter Tryd.func85, Tryd.ntmps85
    go_wp2_with (go_at_call 86; refine (HN.out _).mono ?_; rintro e w' ⟨rfl, rfl⟩)
    go_ret
    exact ⟨ret_bool (by rw [HBAD.out]; rfl), below_box (Below.refl _ _)⟩
  have h1d : decide (kd < 1) = false := by simpa using h1
  have h2d : decide (6 < kd) = false := by simpa using h2
  by_cases h3 : n = 0
  · subst h3
    have HBAD := Lib.hid (show B = true by rw [← HBD.out]; simp)
    clear HBD
    go_enter Tryd.func85, Tryd.ntmps85
    go_wp2_with (go_at_call 86; refine (HN.out _).mono ?_; rintro e w' ⟨rfl, rfl⟩)
    go_ret
    exact ⟨ret_bool (by rw [HBAD.out]; rfl), below_box (Below.refl _ _)⟩
  have h3d : ((n : Int) == 0) = false := by rw [beq_eq_false_iff_ne]; omega
  by_cases h6 : kd = 6
  · subst h6
    by_cases h7 : n = 1
    · subst h7
      cases tg with
      | nil =>
        have HBAD := Lib.hid (show B = false by rw [← HBD.out]; simp)
        clear HBD
        have HR0 := HR.out
        have HR1 := Lib.hid (show (sy.all fun s => Sp.refSym s false false) = R from HR0)
        have HSY1 := Lib.hid (fun (s : Sp.Sym) (hs : s ∈ sy) w => ref7_symbol s false false w (HS3.out s hs))
        clear HR HSY HR0
        have HR := HR1
        have HSY := HSY1
        clear HR1 HSY1
        go_enter Tryd.func85, Tryd.ntmps85
        go_wp2_with (go_at_call 86; refine (HN.out _).mono ?_; rintro e w' ⟨rfl, rfl⟩)
        go_loopg [3] 1 (fun g iv wr => ∃ k : Nat, k ≤ 1 ∧ g = 1 - k ∧ iv = .int .i64 k ∧ ((sy.drop k).all fun s => Sp.refSym s false false) = R ∧ Below (W.heap.size + 1) (W.alloc (.cells #[.int .i64 6, .string ⟨([] : List UInt8).toArray⟩, .slice av 1 cap, .int .i64 pa] 39)) wr)
        case atStart => exact ⟨0, Nat.zero_le _, rfl, rfl, HR.out, Below.refl _ _⟩
        case round =>
          obtain ⟨k, hk, rfl, rfl, hi, hbel⟩ := hrel
          have HI := Lib.hid hi
          have hF := (hbel.block W.heap.size (by omega)).trans (heap_last W _)
          have c0 := cell_at (i := 0) hF; have c2 := cell_at (i := 2) hF
          have hl1 := lt_at hF
          have HB := Lib.hid hbel
          have hk0 : (0 : Int) ≤ (k : Int) := Int.natCast_nonneg _
          clear hi hF hbel
          by_cases hkn : k < 1
          · have hkl : k < sy.length := by have := HNL.out; omega
            have hp : sy[k]? = some sy[k] := List.getElem?_eq_getElem hkl
            have hmem : sy[k] ∈ sy := List.getElem_mem hkl
            have hdr : sy.drop k = sy[k] :: sy.drop (k + 1) := List.drop_eq_getElem_cons hkl
            generalize sy[k] = s at *
            have HC := Lib.hid (HSY.out s hmem)
            have hi := HI.out
            rw [hdr, List.all_cons] at hi
            generalize Sp.refSym s false false = q at HC hi
            have HI2 := Lib.hid hi
            obtain ⟨b, off, rfl, hbl, hc⟩ := HSL.out.at (k := k) (row := symC s) (by rw [List.getElem?_map, hp]; rfl)
            obtain ⟨snm, slt, snu, spa⟩ := s
            have hks : ∀ w', Below (W.heap.size + 1) (W.alloc (.cells #[.int .i64 6, .string ⟨([] : List UInt8).toArray⟩, .slice (some ⟨b, off, none⟩) 1 cap, .int .i64 pa] 39)) w' → w'.cell? ⟨W.heap.size, 0, none⟩ = some (.int .i64 6) ∧ w'.cell? ⟨W.heap.size, 2, none⟩ = some (.slice (some ⟨b, off, none⟩) 1 cap) ∧ w'.cell? ⟨b, off + k * 4, none⟩ = some (.string ⟨snm.toArray⟩) ∧ w'.cell? ⟨b, off + k * 4 + 1, none⟩ = some (.bool slt) ∧ w'.cell? ⟨b, off + k * 4 + 2, none⟩ = some (.int .i64 snu) ∧ w'.cell? ⟨b, off + k * 4 + 3, none⟩ = some (.int .i64 spa) := fun w' h => by
              have hF := (h.block W.heap.size (by omega)).trans (heap_last W _)
              have hcc := hc _ (below_box h)
              exact ⟨cell_at (i := 0) hF, cell_at (i := 2) hF, hcc 0 _ rfl, hcc 1 _ rfl, hcc 2 _ rfl, hcc 3 _ rfl⟩
            have HKS := Lib.hid hks
            have hk1 : (k : Int) < (1 : Int) := by omega
            have hsz : W.heap.size + 1 ≤ wr.heap.size := by have := HB.out.size; simp at this; omega
            clear hc hp hmem hdr hi HI hks hkl
            go_wp2_with fail
            go_region_held3 (fun w' => w'.cell? ⟨W.heap.size, 0, none⟩ = some (.int .i64 6) ∧ w'.cell? ⟨W.heap.size, 2, none⟩ = some (.slice (some ⟨b, off, none⟩) 1 cap) ∧ w'.cell? ⟨b, off + k * 4, none⟩ = some (.string ⟨snm.toArray⟩) ∧ w'.cell? ⟨b, off + k * 4 + 1, none⟩ = some (.bool slt) ∧ w'.cell? ⟨b, off + k * 4 + 2, none⟩ = some (.int .i64 snu) ∧ w'.cell? ⟨b, off + k * 4 + 3, none⟩ = some (.int .i64 spa))
              (first
                | exact HKS.out _ HB.out
                | exact HKS.out _ (below_drewN HB.out 1)
                | exact HKS.out _ ((below_drewN HB.out 1).trans (hb'.mono hsz))
                | go_keep)
              ((first
                | (go_at_call 107; refine (HC.out _).mono ?_; rintro e w' ⟨rfl, hb'⟩)))
            all_goals
              have HB2 := Lib.hid (HB.out.trans ((below_undrew hb').mono hsz))
              clear hb'
              cases q with
              | false =>
                go_wp2_with fail
                go_ret
                exact ⟨ret_bool (by rw [HBAD.out, ← HI2.out]; rfl), below_box HB2.out⟩
              | true =>
                go_wp2_with fail
                go_roundg (1 - (k + 1))
                case measure => omega
                case rel => exact ⟨k + 1, by omega, rfl, by go_num, by rw [← HI2.out]; rfl, HB2.out⟩
          · obtain rfl : k = 1 := by omega
            have hdn : sy.drop 1 = [] := List.drop_of_length_le (by have := HNL.out; omega)
            have hi := HI.out
            rw [hdn] at hi
            have HI2 := Lib.hid hi
            clear hi HI hdn
            go_wp2_with fail
            go_ret
            exact ⟨ret_bool (by rw [HBAD.out, ← HI2.out]; rfl), below_box HB.out⟩
      | cons c u =>
        have hne : (c :: u).isEmpty = false := rfl
        have HBAD := Lib.hid (show B = true by rw [← HBD.out]; simp)
        clear HBD
        go_enter Tryd.func85, Tryd.ntmps85
        go_wp2_with (go_at_call 86; refine (HN.out _).mono ?_; rintro e w' ⟨rfl, rfl⟩)
        go_ret
        exact ⟨ret_bool (by rw [HBAD.out]; rfl), below_box (Below.refl _ _)⟩
    · have h7d : ((n : Int) != 1) = true := by rw [bne_iff_ne]; omega
      have HBAD := Lib.hid (show B = true by rw [← HBD.out]; simp [h7])
      clear HBD
      go_enter Tryd.func85, Tryd.ntmps85
      go_wp2_with (go_at_call 86; refine (HN.out _).mono ?_; rintro e w' ⟨rfl, rfl⟩)
      go_ret
      exact ⟨ret_bool (by rw [HBAD.out]; rfl), below_box (Below.refl _ _)⟩
  have h6d : (kd == 6) = false := by rw [beq_eq_false_iff_ne]; exact h6
  by_cases h5 : kd = 5
  · subst h5
    cases tg with
    | nil =>
      have HBAD := Lib.hid (show B = true by rw [← HBD.out]; simp)
      clear HBD
      go_enter Tryd.func85, Tryd.ntmps85
      go_wp2_with (go_at_call 86; refine (HN.out _).mono ?_; rintro e w' ⟨rfl, rfl⟩)
      go_ret
      exact ⟨ret_bool (by rw [HBAD.out]; rfl), below_box (Below.refl _ _)⟩
    | cons c u =>
      have hne : (c :: u).isEmpty = false := rfl
      cases q with
      | false =>
        have HBAD := Lib.hid (show B = true by rw [← HBD.out]; simp)
        clear HBD
        go_enter Tryd.func85, Tryd.ntmps85
        go_wp2_with (go_at_call 86; refine (HN.out _).mono ?_; rintro e w' ⟨rfl, rfl⟩)
        go_ret
        exact ⟨ret_bool (by rw [HBAD.out]; rfl), below_box (Below.refl _ _)⟩
      | true =>
        have HBAD := Lib.hid (show B = false by rw [← HBD.out]; simp [h3])
        clear HBD
        have HR0 := HR.out
        have HR1 := Lib.hid (show (sy.all fun s => Sp.refSym s false false) = R from HR0)
        have HSY1 := Lib.hid (fun (s : Sp.Sym) (hs : s ∈ sy) w => ref7_symbol s false false w (HS3.out s hs))
        clear HR HSY HR0
        have HR := HR1
        have HSY := HSY1
        clear HR1 HSY1
        go_enter Tryd.func85, Tryd.ntmps85
        go_wp2_with (go_at_call 86; refine (HN.out _).mono ?_; rintro e w' ⟨rfl, rfl⟩)
        go_loopg [3] n (fun g iv wr => ∃ k : Nat, k ≤ n ∧ g = n - k ∧ iv = .int .i64 k ∧ ((sy.drop k).all fun s => Sp.refSym s false false) = R ∧ Below (W.heap.size + 1) (W.alloc (.cells #[.int .i64 5, .string ⟨(c :: u).toArray⟩, .slice av n cap, .int .i64 pa] 39)) wr)
        case atStart => exact ⟨0, Nat.zero_le _, rfl, rfl, HR.out, Below.refl _ _⟩
        case round =>
          obtain ⟨k, hk, rfl, rfl, hi, hbel⟩ := hrel
          have HI := Lib.hid hi
          have hF := (hbel.block W.heap.size (by omega)).trans (heap_last W _)
          have c0 := cell_at (i := 0) hF; have c2 := cell_at (i := 2) hF
          have hl1 := lt_at hF
          have HB := Lib.hid hbel
          have hk0 : (0 : Int) ≤ (k : Int) := Int.natCast_nonneg _
          clear hi hF hbel
          by_cases hkn : k < n
          · have hkl : k < sy.length := by have := HNL.out; omega
            have hp : sy[k]? = some sy[k] := List.getElem?_eq_getElem hkl
            have hmem : sy[k] ∈ sy := List.getElem_mem hkl
            have hdr : sy.drop k = sy[k] :: sy.drop (k + 1) := List.drop_eq_getElem_cons hkl
            generalize sy[k] = s at *
            have HC := Lib.hid (HSY.out s hmem)
            have hi := HI.out
            rw [hdr, List.all_cons] at hi
            generalize Sp.refSym s false false = q at HC hi
            have HI2 := Lib.hid hi
            obtain ⟨b, off, rfl, hbl, hc⟩ := HSL.out.at (k := k) (row := symC s) (by rw [List.getElem?_map, hp]; rfl)
            obtain ⟨snm, slt, snu, spa⟩ := s
            have hks : ∀ w', Below (W.heap.size + 1) (W.alloc (.cells #[.int .i64 5, .string ⟨(c :: u).toArray⟩, .slice (some ⟨b, off, none⟩) n cap, .int .i64 pa] 39)) w' → w'.cell? ⟨W.heap.size, 0, none⟩ = some (.int .i64 5) ∧ w'.cell? ⟨W.heap.size, 2, none⟩ = some (.slice (some ⟨b, off, none⟩) n cap) ∧ w'.cell? ⟨b, off + k * 4, none⟩ = some (.string ⟨snm.toArray⟩) ∧ w'.cell? ⟨b, off + k * 4 + 1, none⟩ = some (.bool slt) ∧ w'.cell? ⟨b, off + k * 4 + 2, none⟩ = some (.int .i64 snu) ∧ w'.cell? ⟨b, off + k * 4 + 3, none⟩ = some (.int .i64 spa) := fun w' h => by
              have hF := (h.block W.heap.size (by omega)).trans (heap_last W _)
              have hcc := hc _ (below_box h)
              exact ⟨cell_at (i := 0) hF, cell_at (i := 2) hF, hcc 0 _ rfl, hcc 1 _ rfl, hcc 2 _ rfl, hcc 3 _ rfl⟩
            have HKS := Lib.hid hks
            have hk1 : (k : Int) < (n : Int) := by omega
            have hsz : W.heap.size + 1 ≤ wr.heap.size := by have := HB.out.size; simp at this; omega
            clear hc hp hmem hdr hi HI hks hkl
            go_wp2_with fail
            go_region_held3 (fun w' => w'.cell? ⟨W.heap.size, 0, none⟩ = some (.int .i64 5) ∧ w'.cell? ⟨W.heap.size, 2, none⟩ = some (.slice (some ⟨b, off, none⟩) n cap) ∧ w'.cell? ⟨b, off + k * 4, none⟩ = some (.string ⟨snm.toArray⟩) ∧ w'.cell? ⟨b, off + k * 4 + 1, none⟩ = some (.bool slt) ∧ w'.cell? ⟨b, off + k * 4 + 2, none⟩ = some (.int .i64 snu) ∧ w'.cell? ⟨b, off + k * 4 + 3, none⟩ = some (.int .i64 spa))
              (first
                | exact HKS.out _ HB.out
                | exact HKS.out _ (below_drewN HB.out 1)
                | exact HKS.out _ ((below_drewN HB.out 1).trans (hb'.mono hsz))
                | go_keep)
              ((first
                | (go_at_call 107; refine (HC.out _).mono ?_; rintro e w' ⟨rfl, hb'⟩)))
            all_goals
              have HB2 := Lib.hid (HB.out.trans ((below_undrew hb').mono hsz))
              clear hb'
              cases q with
              | false =>
                go_wp2_with fail
                go_ret
                exact ⟨ret_bool (by rw [HBAD.out, ← HI2.out]; rfl), below_box HB2.out⟩
              | true =>
                go_wp2_with fail
                go_roundg (n - (k + 1))
                case measure => omega
                case rel => exact ⟨k + 1, by omega, rfl, by go_num, by rw [← HI2.out]; rfl, HB2.out⟩
          · obtain rfl : k = n := by omega
            have hdn : sy.drop k = [] := List.drop_of_length_le (by have := HNL.out; omega)
            have hi := HI.out
            rw [hdn] at hi
            have HI2 := Lib.hid hi
            clear hi HI hdn
            go_wp2_with fail
            go_ret
            exact ⟨ret_bool (by rw [HBAD.out, ← HI2.out]; rfl), below_box HB.out⟩
  have h5d : (kd == 5) = false := by rw [beq_eq_false_iff_ne]; exact h5
  cases tg with
  | nil =>
    have HBAD := Lib.hid (show B = false by rw [← HBD.out]; simp [h1, h2, h3, h6, h5]; try omega)
    clear HBD
    go_enter Tryd.func85, Tryd.ntmps85
    go_wp2_with (go_at_call 86; refine (HN.out _).mono ?_; rintro e w' ⟨rfl, rfl⟩)
    go_loopg [3] n (fun g iv wr => ∃ k : Nat, k ≤ n ∧ g = n - k ∧ iv = .int .i64 k ∧ ((sy.drop k).all fun s => Sp.refSym s (kd == 1) (decide (kd < 5))) = R ∧ Below (W.heap.size + 1) (W.alloc (.cells #[.int .i64 kd, .string ⟨([] : List UInt8).toArray⟩, .slice av n cap, .int .i64 pa] 39)) wr)
    case atStart => exact ⟨0, Nat.zero_le _, rfl, rfl, HR.out, Below.refl _ _⟩
    case round =>
      obtain ⟨k, hk, rfl, rfl, hi, hbel⟩ := hrel
      have HI := Lib.hid hi
      have hF := (hbel.block W.heap.size (by omega)).trans (heap_last W _)
      have c0 := cell_at (i := 0) hF; have c2 := cell_at (i := 2) hF
      have hl1 := lt_at hF
      have HB := Lib.hid hbel
      have hk0 : (0 : Int) ≤ (k : Int) := Int.natCast_nonneg _
      clear hi hF hbel
      by_cases hkn : k < n
      · have hkl : k < sy.length := by have := HNL.out; omega
        have hp : sy[k]? = some sy[k] := List.getElem?_eq_getElem hkl
        have hmem : sy[k] ∈ sy := List.getElem_mem hkl
        have hdr : sy.drop k = sy[k] :: sy.drop (k + 1) := List.drop_eq_getElem_cons hkl
        generalize sy[k] = s at *
        have HC := Lib.hid (HSY.out s hmem)
        have hi := HI.out
        rw [hdr, List.all_cons] at hi
        generalize Sp.refSym s (kd == 1) (decide (kd < 5)) = q at HC hi
        have HI2 := Lib.hid hi
        obtain ⟨b, off, rfl, hbl, hc⟩ := HSL.out.at (k := k) (row := symC s) (by rw [List.getElem?_map, hp]; rfl)
        obtain ⟨snm, slt, snu, spa⟩ := s
        have hks : ∀ w', Below (W.heap.size + 1) (W.alloc (.cells #[.int .i64 kd, .string ⟨([] : List UInt8).toArray⟩, .slice (some ⟨b, off, none⟩) n cap, .int .i64 pa] 39)) w' → w'.cell? ⟨W.heap.size, 0, none⟩ = some (.int .i64 kd) ∧ w'.cell? ⟨W.heap.size, 2, none⟩ = some (.slice (some ⟨b, off, none⟩) n cap) ∧ w'.cell? ⟨b, off + k * 4, none⟩ = some (.string ⟨snm.toArray⟩) ∧ w'.cell? ⟨b, off + k * 4 + 1, none⟩ = some (.bool slt) ∧ w'.cell? ⟨b, off + k * 4 + 2, none⟩ = some (.int .i64 snu) ∧ w'.cell? ⟨b, off + k * 4 + 3, none⟩ = some (.int .i64 spa) := fun w' h => by
          have hF := (h.block W.heap.size (by omega)).trans (heap_last W _)
          have hcc := hc _ (below_box h)
          exact ⟨cell_at (i := 0) hF, cell_at (i := 2) hF, hcc 0 _ rfl, hcc 1 _ rfl, hcc 2 _ rfl, hcc 3 _ rfl⟩
        have HKS := Lib.hid hks
        have hk1 : (k : Int) < (n : Int) := by omega
        have hsz : W.heap.size + 1 ≤ wr.heap.size := by have := HB.out.size; simp at this; omega
        clear hc hp hmem hdr hi HI hks hkl
        go_wp2_with fail
        go_region_held3 (fun w' => w'.cell? ⟨W.heap.size, 0, none⟩ = some (.int .i64 kd) ∧ w'.cell? ⟨W.heap.size, 2, none⟩ = some (.slice (some ⟨b, off, none⟩) n cap) ∧ w'.cell? ⟨b, off + k * 4, none⟩ = some (.string ⟨snm.toArray⟩) ∧ w'.cell? ⟨b, off + k * 4 + 1, none⟩ = some (.bool slt) ∧ w'.cell? ⟨b, off + k * 4 + 2, none⟩ = some (.int .i64 snu) ∧ w'.cell? ⟨b, off + k * 4 + 3, none⟩ = some (.int .i64 spa))
          (first
            | exact HKS.out _ HB.out
            | exact HKS.out _ (below_drewN HB.out 1)
            | exact HKS.out _ ((below_drewN HB.out 1).trans (hb'.mono hsz))
            | go_keep)
          ((first
            | (go_at_call 107; refine (HC.out _).mono ?_; rintro e w' ⟨rfl, hb'⟩)))
        all_goals
          have HB2 := Lib.hid (HB.out.trans ((below_undrew hb').mono hsz))
          clear hb'
          cases q with
          | false =>
            go_wp2_with fail
            go_ret
            exact ⟨ret_bool (by rw [HBAD.out, ← HI2.out]; rfl), below_box HB2.out⟩
          | true =>
            go_wp2_with fail
            go_roundg (n - (k + 1))
            case measure => omega
            case rel => exact ⟨k + 1, by omega, rfl, by go_num, by rw [← HI2.out]; rfl, HB2.out⟩
      · obtain rfl : k = n := by omega
        have hdn : sy.drop k = [] := List.drop_of_length_le (by have := HNL.out; omega)
        have hi := HI.out
        rw [hdn] at hi
        have HI2 := Lib.hid hi
        clear hi HI hdn
        go_wp2_with fail
        go_ret
        exact ⟨ret_bool (by rw [HBAD.out, ← HI2.out]; rfl), below_box HB.out⟩
  | cons c u =>
    have hne : (c :: u).isEmpty = false := rfl
    cases q with
    | false =>
      have HBAD := Lib.hid (show B = true by rw [← HBD.out]; simp)
      clear HBD
      go_enter Tryd.func85, Tryd.ntmps85
      go_wp2_with (go_at_call 86; refine (HN.out _).mono ?_; rintro e w' ⟨rfl, rfl⟩)
      go_ret
      exact ⟨ret_bool (by rw [HBAD.out]; rfl), below_box (Below.refl _ _)⟩
    | true =>
      have HBAD := Lib.hid (show B = false by rw [← HBD.out]; simp [h1, h2, h3, h6, h5]; try omega)
      clear HBD
      go_enter Tryd.func85, Tryd.ntmps85
      go_wp2_with (go_at_call 86; refine (HN.out _).mono ?_; rintro e w' ⟨rfl, rfl⟩)
      go_loopg [3] n (fun g iv wr => ∃ k : Nat, k ≤ n ∧ g = n - k ∧ iv = .int .i64 k ∧ ((sy.drop k).all fun s => Sp.refSym s (kd == 1) (decide (kd < 5))) = R ∧ Below (W.heap.size + 1) (W.alloc (.cells #[.int .i64 kd, .string ⟨(c :: u).toArray⟩, .slice av n cap, .int .i64 pa] 39)) wr)
      case atStart => exact ⟨0, Nat.zero_le _, rfl, rfl, HR.out, Below.refl _ _⟩
      case round =>
        obtain ⟨k, hk, rfl, rfl, hi, hbel⟩ := hrel
        have HI := Lib.hid hi
        have hF := (hbel.block W.heap.size (by omega)).trans (heap_last W _)
        have c0 := cell_at (i := 0) hF; have c2 := cell_at (i := 2) hF
        have hl1 := lt_at hF
        have HB := Lib.hid hbel
        have hk0 : (0 : Int) ≤ (k : Int) := Int.natCast_nonneg _
        clear hi hF hbel
        by_cases hkn : k < n
        · have hkl : k < sy.length := by have := HNL.out; omega
          have hp : sy[k]? = some sy[k] := List.getElem?_eq_getElem hkl
          have hmem : sy[k] ∈ sy := List.getElem_mem hkl
          have hdr : sy.drop k = sy[k] :: sy.drop (k + 1) := List.drop_eq_getElem_cons hkl
          generalize sy[k] = s at *
          have HC := Lib.hid (HSY.out s hmem)
          have hi := HI.out
          rw [hdr, List.all_cons] at hi
          generalize Sp.refSym s (kd == 1) (decide (kd < 5)) = q at HC hi
          have HI2 := Lib.hid hi
          obtain ⟨b, off, rfl, hbl, hc⟩ := HSL.out.at (k := k) (row := symC s) (by rw [List.getElem?_map, hp]; rfl)
          obtain ⟨snm, slt, snu, spa⟩ := s
          have hks : ∀ w', Below (W.heap.size + 1) (W.alloc (.cells #[.int .i64 kd, .string ⟨(c :: u).toArray⟩, .slice (some ⟨b, off, none⟩) n cap, .int .i64 pa] 39)) w' → w'.cell? ⟨W.heap.size, 0, none⟩ = some (.int .i64 kd) ∧ w'.cell? ⟨W.heap.size, 2, none⟩ = some (.slice (some ⟨b, off, none⟩) n cap) ∧ w'.cell? ⟨b, off + k * 4, none⟩ = some (.string ⟨snm.toArray⟩) ∧ w'.cell? ⟨b, off + k * 4 + 1, none⟩ = some (.bool slt) ∧ w'.cell? ⟨b, off + k * 4 + 2, none⟩ = some (.int .i64 snu) ∧ w'.cell? ⟨b, off + k * 4 + 3, none⟩ = some (.int .i64 spa) := fun w' h => by
            have hF := (h.block W.heap.size (by omega)).trans (heap_last W _)
            have hcc := hc _ (below_box h)
            exact ⟨cell_at (i := 0) hF, cell_at (i := 2) hF, hcc 0 _ rfl, hcc 1 _ rfl, hcc 2 _ rfl, hcc 3 _ rfl⟩
          have HKS := Lib.hid hks
          have hk1 : (k : Int) < (n : Int) := by omega
          have hsz : W.heap.size + 1 ≤ wr.heap.size := by have := HB.out.size; simp at this; omega
          clear hc hp hmem hdr hi HI hks hkl
          go_wp2_with fail
          go_region_held3 (fun w' => w'.cell? ⟨W.heap.size, 0, none⟩ = some (.int .i64 kd) ∧ w'.cell? ⟨W.heap.size, 2, none⟩ = some (.slice (some ⟨b, off, none⟩) n cap) ∧ w'.cell? ⟨b, off + k * 4, none⟩ = some (.string ⟨snm.toArray⟩) ∧ w'.cell? ⟨b, off + k * 4 + 1, none⟩ = some (.bool slt) ∧ w'.cell? ⟨b, off + k * 4 + 2, none⟩ = some (.int .i64 snu) ∧ w'.cell? ⟨b, off + k * 4 + 3, none⟩ = some (.int .i64 spa))
            (first
              | exact HKS.out _ HB.out
              | exact HKS.out _ (below_drewN HB.out 1)
              | exact HKS.out _ ((below_drewN HB.out 1).trans (hb'.mono hsz))
              | go_keep)
            ((first
              | (go_at_call 107; refine (HC.out _).mono ?_; rintro e w' ⟨rfl, hb'⟩)))
          all_goals
            have HB2 := Lib.hid (HB.out.trans ((below_undrew hb').mono hsz))
            clear hb'
            cases q with
            | false =>
              go_wp2_with fail
              go_ret
              exact ⟨ret_bool (by rw [HBAD.out, ← HI2.out]; rfl), below_box HB2.out⟩
            | true =>
              go_wp2_with fail
              go_roundg (n - (k + 1))
              case measure => omega
              case rel => exact ⟨k + 1, by omega, rfl, by go_num, by rw [← HI2.out]; rfl, HB2.out⟩
        · obtain rfl : k = n := by omega
          have hdn : sy.drop k = [] := List.drop_of_length_le (by have := HNL.out; omega)
          have hi := HI.out
          rw [hdn] at hi
          have HI2 := Lib.hid hi
          clear hi HI hdn
          go_wp2_with fail
          go_ret
          exact ⟨ret_bool (by rw [HBAD.out, ← HI2.out]; rfl), below_box HB.out⟩
end Go.Proofs.YtddnomjfcbplpaaDoor
