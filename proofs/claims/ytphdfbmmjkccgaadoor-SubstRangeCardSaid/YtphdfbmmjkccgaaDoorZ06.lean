/- gram's maker: one token changed in its place; numbers. As Ks, with one kind of step more: what asks nothing of the world (a move, an address) is taken first whatever may break S later. gram's maker: add. gram's maker: parts. gram's maker: productions more, nonterminals more, what lies aside. Numbers copied into a row of their own: append([]int(nil), l...). gram's maker: alt. gram's maker: prods. Plain laws for gram.Of: how many there are of each after the passes; what may be. What stands while gram.Of's maker is laid, in whatever order its parts are made. Rows of a call's own: sources' declarations and rules; slices out of blocks. (Stood in Ei, Dl, Eu.) The walks of EqInts, EqToks, EqNons, EqFault (yuccaref0). What gram.Of hands back, and the lemmas of its walk. An argument that is a source (slices of structs, one within another), opened to the cells that the walks read. -/
import Derived.Test.YtphdfbmmjkccgaaDoorZ05
import Derived.Test.YtphdfbmmjkccgaaDoorZ04
import Derived.Deep.AppendLies
import Derived.Deep.DeepCutAuto
import Derived.Deep.RegionHeld
import Derived.Deep.CutBlock
import Derived.Laws.AppendOwnNone
import Derived.Lib.ItoaLen
import Derived.Test.YtphdfbmmjkccgaaDoorZ03
import Derived.Test.YtphdfbmmjkccgaaDoorZ01
namespace Go.Proofs.YtphdfbmmjkccgaaDoor
open Go.RowKit Go.Maps

theorem flatten_set2 {β : Type} (size k off : Nat) (v : β) (ho : off < size) : ∀ (L : List (List β)) (r : List β), (∀ r ∈ L, r.length = size) → L[k]? = some r → L.flatten.set (k * size + off) v = (L.set k (r.set off v)).flatten
  | [], r, _, h => by simp at h
  | x :: L, r, hl, h => by
    have hx := hl x (by simp)
    cases k with
    | zero =>
      simp only [List.getElem?_cons_zero, Option.some.injEq] at h
      subst h
      simp only [Nat.zero_mul, Nat.zero_add, List.flatten_cons, List.set_cons_zero]
      rw [List.set_append_left _ _ (by omega)]
    | succ k =>
      simp only [List.getElem?_cons_succ] at h
      have ih := flatten_set2 size k off v ho L r (fun r hr => hl r (by simp [hr])) h
      simp only [List.flatten_cons, List.set_cons_succ]
      rw [List.set_append_right _ _ (by rw [hx, Nat.succ_mul]; omega), ← ih]
      congr 2
      rw [hx, Nat.succ_mul]; omega
end Go.Proofs.YtphdfbmmjkccgaaDoor

namespace Go.Proofs.YtphdfbmmjkccgaaDoor
open Go.RowKit

section
variable {P : Program} {ops : Array Oper} {Q : Exit → Act → World → Prop} {md : Region.Mode} {S : World → Prop} {brk : Nat → Bool}

/-- A plan: what is taken first, what comes up alone, what comes up beside one other. -/
inductive PU where
  | done
  | take (i : Nat) (t : PU)
  | free (i : Nat) (t : PU)
  | one (i : Nat) (t : PU)
  | two (i j : Nat) (t u : PU)
def PU.len : PU → Nat
  | .done => 0
  | .take _ t => t.len + 1
  | .free _ t => t.len + 1
  | .one _ t => t.len + 1
  | .two _ _ t _ => t.len + 1
end
end Go.Proofs.YtphdfbmmjkccgaaDoor

namespace Go.Proofs.YtphdfbmmjkccgaaDoor
open Go.RowKit Go.Maps

theorem info_tokE : (Tryd.prog.info? 114).map (fun i => (i.zero, i.size, i.bytes)) = some (some (.agg #[.string ⟨#[]⟩, .bool false, .int .i64 0, .int .i64 0, .int .i64 0, .string ⟨#[]⟩]), 6, 64) := by kernel_rfl
theorem info_boolE : (Tryd.prog.info? 4).map (fun i => (i.zero, i.size, i.bytes)) = some (some (.bool false), 1, 1) := by kernel_rfl
theorem row_block2 {w : World} {B e size g n cap : Nat} {xs : List Value} (h : w.ownsRow B e size (.slice (some ⟨g, 0, none⟩) n cap) n xs) : ∃ cu, w.heap[g]? = some (.cells cu e (0, 0)) := by
  rcases h.2 with ⟨h, _⟩ | ⟨g', _, cu, h, _, hh, _⟩
  · simp at h
  · simp only [Value.slice.injEq, Option.some.injEq, Addr.mk.injEq, and_true, true_and] at h
    obtain ⟨rfl, _⟩ := h
    exact ⟨cu, hh⟩
end Go.Proofs.YtphdfbmmjkccgaaDoor

namespace Go.Proofs.YtphdfbmmjkccgaaDoor
open Go.RowKit Go.Maps

namespace Sp
end Sp
theorem at_drop {α : Type} {l : List α} {k : Nat} (h : k < l.length) : ∃ a, l[k]? = some a ∧ l.drop k = a :: l.drop (k + 1) ∧ a ∈ l := ⟨l[k], List.getElem?_eq_getElem h, List.drop_eq_getElem_cons h, List.getElem_mem h⟩
/-- How many tokens there may be by now. -/
def PBound (s : Sp.Mk) (k j i : Nat) : Prop := s.toks.length ≤ 1073741824 + k * 16004000 + j * 4001 + i
theorem PBound.all {s : Sp.Mk} {k j i : Nat} (h : PBound s k j i) (hk : k ≤ 4000) (hj : j ≤ 4000) (hi : i ≤ 4000) : s.toks.length ≤ 2 ^ 40 := by unfold PBound at h; omega
theorem PBound.skip {s : Sp.Mk} {k j i : Nat} (h : PBound s k j i) : PBound s k j (i + 1) := by unfold PBound at *; omega
end Go.Proofs.YtphdfbmmjkccgaaDoor

namespace Go.Proofs.YtphdfbmmjkccgaaDoor
open Go.RowKit Go.Maps

/-- Productions, each with rows of its own, that S names. -/
def ProdsOff (B : Nat) (w : World) (v : Value) (l : List Sp.Prod) (S : Nat → Prop) : Prop :=
  ∃ f g : Nat → Value, w.ownsRow B 84 6 v l.length (l.mapIdx fun i p => prodC (f i) (g i) p).flatten ∧
    ∀ (i : Nat) (p : Sp.Prod), l[i]? = some p → ((∃ b, w.ownsRow b 3 1 (f i) p.right.length (intsC p.right)) ∧ ∃ b, w.ownsRow b 3 1 (g i) p.args.length (intsC p.args)) ∧ (∀ c, (f i).ownBlock = some c → S c) ∧ ∀ c, (g i).ownBlock = some c → S c
theorem ProdsOff.own {B : Nat} {w : World} {v : Value} {l : List Sp.Prod} {S : Nat → Prop} (h : ProdsOff B w v l S) : ProdsOwn B w v l := by
  obtain ⟨f, g, h1, h2⟩ := h
  exact ⟨f, g, h1, fun i p hp => (h2 i p hp).1⟩
theorem ProdsOff.mono {B : Nat} {w : World} {v : Value} {l : List Sp.Prod} {S T : Nat → Prop} (h : ProdsOff B w v l S) (hS : ∀ c, c < w.heap.size → S c → T c) : ProdsOff B w v l T := by
  obtain ⟨f, g, h1, h2⟩ := h
  refine ⟨f, g, h1, fun i p hp => ⟨(h2 i p hp).1, fun c hc => ?_, fun c hc => ?_⟩⟩
  · obtain ⟨⟨⟨b, k⟩, _⟩, h3, _⟩ := h2 i p hp
    exact hS c (k.lt c hc).2 (h3 c hc)
  · obtain ⟨⟨_, b, k⟩, _, h3⟩ := h2 i p hp
    exact hS c (k.lt c hc).2 (h3 c hc)
theorem ProdsOff.kp {B : Nat} {w w' : World} {v : Value} {l : List Sp.Prod} {S T : Nat → Prop} (h : ProdsOff B w v l S) (k : Kp T w w') (hv : ∀ b, v.ownBlock = some b → T b) (hT : ∀ c, S c → T c) : ProdsOff B w' v l S := by
  obtain ⟨f, g, h1, h2⟩ := h
  refine ⟨f, g, ownsRow_kp h1 k hv, fun i p hp => ?_⟩
  obtain ⟨⟨⟨b, k1⟩, c, k2⟩, h3, h4⟩ := h2 i p hp
  exact ⟨⟨⟨b, ownsRow_kp k1 k (fun b hb => hT b (h3 b hb))⟩, c, ownsRow_kp k2 k (fun b hb => hT b (h4 b hb))⟩, h3, h4⟩
theorem ProdsOff.below {B : Nat} {w w' : World} {v : Value} {l : List Sp.Prod} {S : Nat → Prop} (h : ProdsOff B w v l S) (hb : Below w.heap.size w w') : ProdsOff B w' v l S := by
  obtain ⟨f, g, h1, h2⟩ := h
  refine ⟨f, g, ownsRow_below h1 hb, fun i p hp => ?_⟩
  obtain ⟨⟨⟨b, k1⟩, c, k2⟩, h3, h4⟩ := h2 i p hp
  exact ⟨⟨⟨b, ownsRow_below k1 hb⟩, c, ownsRow_below k2 hb⟩, h3, h4⟩
theorem prods_snoc {B : Nat} {w w' : World} {v' : Value} {l : List Sp.Prod} {S T : Nat → Prop} {f g : Nat → Value} {u a : Value} {p : Sp.Prod}
    (hc : ∀ (i : Nat) (p : Sp.Prod), l[i]? = some p → ((∃ b, w.ownsRow b 3 1 (f i) p.right.length (intsC p.right)) ∧ ∃ b, w.ownsRow b 3 1 (g i) p.args.length (intsC p.args)) ∧ (∀ c, (f i).ownBlock = some c → S c) ∧ ∀ c, (g i).ownBlock = some c → S c)
    (k : Kp T w w') (hT : ∀ c, S c → T c) (hn : w'.ownsRow B 84 6 v' (l.length + 1) ((l.mapIdx fun i p => prodC (f i) (g i) p).flatten ++ prodC u a p))
    (hu : ∃ b, w'.ownsRow b 3 1 u p.right.length (intsC p.right)) (ha : ∃ b, w'.ownsRow b 3 1 a p.args.length (intsC p.args)) (hSu : ∀ c, u.ownBlock = some c → S c) (hSa : ∀ c, a.ownBlock = some c → S c) : ProdsOff B w' v' (l ++ [p]) S := by
  refine ⟨fun i => if i < l.length then f i else u, fun i => if i < l.length then g i else a, ?_, fun i q hq => ?_⟩
  · have e1 : ((l ++ [p]).mapIdx fun i p => prodC (if i < l.length then f i else u) (if i < l.length then g i else a) p).flatten = (l.mapIdx fun i p => prodC (f i) (g i) p).flatten ++ prodC u a p := by
      rw [mapIdx_snoc, List.flatten_append]
      have e2 : (l.mapIdx fun i p => prodC (if i < l.length then f i else u) (if i < l.length then g i else a) p) = l.mapIdx fun i p => prodC (f i) (g i) p := by
        apply List.ext_getElem?
        intro i
        rw [List.getElem?_mapIdx, List.getElem?_mapIdx]
        cases hi : l[i]? with
        | none => rfl
        | some q =>
          have := (List.getElem?_eq_some_iff.1 hi).1
          simp [this]
      rw [e2]
      simp
    rw [List.length_append, e1]
    exact hn
  · by_cases hi : i < l.length
    · rw [List.getElem?_append_left hi] at hq
      obtain ⟨⟨⟨b, k1⟩, c, k2⟩, h3, h4⟩ := hc i q hq
      simp only [if_pos hi]
      exact ⟨⟨⟨b, ownsRow_kp k1 k (fun b hb => hT b (h3 b hb))⟩, c, ownsRow_kp k2 k (fun b hb => hT b (h4 b hb))⟩, h3, h4⟩
    · rw [List.getElem?_append_right (by omega)] at hq
      have hq2 := List.mem_of_getElem? hq
      simp at hq2
      subst hq2
      simp only [if_neg hi]
      exact ⟨⟨hu, ha⟩, hSu, hSa⟩
end Go.Proofs.YtphdfbmmjkccgaaDoor

namespace Go.Proofs.YtphdfbmmjkccgaaDoor
open Go.RowKit Go.Maps

theorem info_intE2 : (Tryd.prog.info? 3).map (fun i => (i.zero, i.size, i.bytes)) = some (some (.int .i64 0), 1, 8) := by kernel_rfl
end Go.Proofs.YtphdfbmmjkccgaaDoor

namespace Go.Proofs.YtphdfbmmjkccgaaDoor
open Go.RowKit Go.Maps

namespace Sp
end Sp
/-- How many nonterminals, productions, inner actions there may be. -/
def ABound (s : Sp.Mk) (inner T : Nat) : Prop := s.nons.length ≤ T ∧ s.prods.length ≤ T ∧ inner ≤ T
theorem ABound.up {s : Sp.Mk} {i T : Nat} (h : ABound s i T) : ABound s i (T + 1) := by unfold ABound at *; omega
theorem ProdsOff.pv {B : Nat} {w : World} {v : Value} {l : List Sp.Prod} {S : Nat → Prop} (h : ProdsOff B w v l S) : ProdsOff B w v l (fun c => S c ∧ v.ownBlock ≠ some c) := by
  obtain ⟨f, g, h1, h2⟩ := h
  have key : ∀ {b n : Nat} {u : Value} {xs : List Value}, w.ownsRow b 3 1 u n xs → ∀ c, u.ownBlock = some c → v.ownBlock ≠ some c := by
    intro b n u xs k c hc e
    rcases h1.2 with ⟨e0, _⟩ | ⟨g, cap, cur, e0, _, hgg, _⟩
    · rw [e0] at e; simp [Value.ownBlock] at e
    · rw [e0] at e
      simp [Value.ownBlock] at e
      subst e
      exact ownsRow_ne k hgg (by decide) _ hc rfl
  refine ⟨f, g, h1, fun i p hp => ⟨(h2 i p hp).1, fun c hc => ⟨(h2 i p hp).2.1 c hc, ?_⟩, fun c hc => ⟨(h2 i p hp).2.2 c hc, ?_⟩⟩⟩
  · obtain ⟨⟨b, k⟩, _⟩ := (h2 i p hp).1
    exact key k c hc
  · obtain ⟨_, b, k⟩ := (h2 i p hp).1
    exact key k c hc
end Go.Proofs.YtphdfbmmjkccgaaDoor

namespace Go.Proofs.YtphdfbmmjkccgaaDoor
open Go.RowKit Go.Maps

theorem ABound.mono {s : Sp.Mk} {i T T' : Nat} (h : ABound s i T) (hT : T ≤ T') : ABound s i T' := ⟨Nat.le_trans h.1 hT, Nat.le_trans h.2.1 hT, Nat.le_trans h.2.2 hT⟩
end Go.Proofs.YtphdfbmmjkccgaaDoor

namespace Go.Proofs.YtphdfbmmjkccgaaDoor
namespace Sp

/-- After the declarations. -/
structure DeclK (s s' : Mk) (n : Nat) : Prop where
  toks : s'.toks.length ≤ s.toks.length + n
  lefts : s'.lefts = s.lefts
  nons : s'.nons = s.nons
  prods : s'.prods = s.prods
  start : s.start.length ≤ 4000 → s'.start.length ≤ 4000
theorem DeclK.refl (s : Mk) : DeclK s s 0 := ⟨Nat.le_refl _, rfl, rfl, rfl, id⟩
theorem DeclK.trans {s s1 s2 : Mk} {n m : Nat} (h : DeclK s s1 n) (k : DeclK s1 s2 m) : DeclK s s2 (n + m) :=
  ⟨by have := h.toks; have := k.toks; omega, k.lefts.trans h.lefts, k.nons.trans h.nons, k.prods.trans h.prods, fun h0 => k.start (h.start h0)⟩
/-- After the rules' symbols. -/
structure PartK (s s' : Mk) (n : Nat) : Prop where
  toks : s'.toks.length ≤ s.toks.length + n
  lefts : s'.lefts = s.lefts
  nons : s'.nons = s.nons
  prods : s'.prods = s.prods
  start : s'.start = s.start
theorem PartK.refl (s : Mk) : PartK s s 0 := ⟨Nat.le_refl _, rfl, rfl, rfl, rfl⟩
theorem PartK.trans {s s1 s2 : Mk} {n m : Nat} (h : PartK s s1 n) (k : PartK s1 s2 m) : PartK s s2 (n + m) :=
  ⟨by have := h.toks; have := k.toks; omega, k.lefts.trans h.lefts, k.nons.trans h.nons, k.prods.trans h.prods, k.start.trans h.start⟩
theorem PartK.mono {s s1 : Mk} {n m : Nat} (h : PartK s s1 n) (hn : n ≤ m) : PartK s s1 m := ⟨Nat.le_trans h.toks (by omega), h.lefts, h.nons, h.prods, h.start⟩
/-- After the productions: how many there are, how long their right sides. -/
structure ProdK (s s' : Mk) (n : Nat) : Prop where
  toks : s'.toks = s.toks
  given : s'.given = s.given
  lefts : s'.lefts = s.lefts
  nons : s'.nons.length ≤ s.nons.length + n
  prods : s'.prods.length ≤ s.prods.length + n
  rights : (∀ p ∈ s.prods, p.right.length ≤ 4000) → ∀ p ∈ s'.prods, p.right.length ≤ 4000
theorem ProdK.refl (s : Mk) : ProdK s s 0 := ⟨rfl, rfl, rfl, Nat.le_refl _, Nat.le_refl _, id⟩
theorem ProdK.trans {s s1 s2 : Mk} {n m : Nat} (h : ProdK s s1 n) (k : ProdK s1 s2 m) : ProdK s s2 (n + m) :=
  ⟨k.toks.trans h.toks, k.given.trans h.given, k.lefts.trans h.lefts, by have := h.nons; have := k.nons; omega, by have := h.prods; have := k.prods; omega, fun h0 => k.rights (h.rights h0)⟩
theorem ProdK.mono {s s1 : Mk} {n m : Nat} (h : ProdK s s1 n) (hn : n ≤ m) : ProdK s s1 m := ⟨h.toks, h.given, h.lefts, Nat.le_trans h.nons (by omega), Nat.le_trans h.prods (by omega), h.rights⟩
/-! ### What may be -/
/-! ### The passes of gramOf, one by one -/
end Sp
end Go.Proofs.YtphdfbmmjkccgaaDoor

namespace Go.Proofs.YtphdfbmmjkccgaaDoor
open Go.RowKit Go.Maps

section
variable {P : Program} {ops : Array Oper} {Q : Exit → Act → World → Prop} {md : Region.Mode}
end
section
variable {W w : World} {b1 b6 b7 : Nat} {gv : Value} {l1 l3 l5 l6 l7 : Bool}
end
/-! ### The region -/
/-- What its operations leave in their slots. -/
structure LitR where
  s4 : Value
  t10 : Value
  t11 : Value
  t12 : Value
  t13 : Value
  t14 : Value
  t15 : Value
  t16 : Value
  t17 : Value
  t18 : Value
/-- Does operation i wait for j? -/
def waits (ops : Array Oper) (i j : Nat) : Bool := match ops[i]? with
  | some o => o.after.any fun e => Region.binds .any e && e.on == j
  | none => false
section
variable {x : Sp.Source} {vd vr : Value} {W w : World} {L : Nat → Bool} {r : LitR}
end
end Go.Proofs.YtphdfbmmjkccgaaDoor

namespace Go.Proofs.YtphdfbmmjkccgaaDoor
open Go.RowKit

/-! ### Rows of the call's own -/
theorem info_partE : (Tryd.prog.info? 44).map (fun i => (i.zero, i.size, i.bytes)) = some (some (.agg #[.string ⟨#[]⟩, .bool false, .int .i64 0, .int .i64 0, .string ⟨#[]⟩, .int .i64 0]), 6, 64) := by kernel_rfl
def symsOwn (w : World) (v : Value) (d : Sp.Decl) : Prop := ∃ base, w.ownsRow base 40 4 v d.syms.length (d.syms.map symC).flatten
def partsOwn (w : World) (v : Value) (a : Sp.Alt) : Prop := ∃ base, w.ownsRow base 44 6 v a.parts.length (a.parts.map partC).flatten
abbrev DeclsOwn := OwnR declC 51 4 symsOwn
abbrev AltsOwn := OwnR altC 42 6 partsOwn
def altsOwn (w : World) (v : Value) (r : Sp.Rule) : Prop := ∃ base, AltsOwn base w v r.alts
abbrev RulesOwn := OwnR ruleC 37 3 altsOwn
theorem slAt_block {w : World} {b : Nat} {e : TypeId} (rows : List (List Value)) (size : Nat) (hrows : ∀ r ∈ rows, r.length = size) (h : w.heap[b]? = some (.cells rows.flatten.toArray e (0, 0))) (hm : rows.length ≤ maxLen) : SlAt w (.slice (some ⟨b, 0, none⟩) rows.length rows.length) size rows := by
  have hl : rows.flatten.length = rows.length * size := by
    clear h hm
    induction rows with
    | nil => simp
    | cons r rows ih => rw [List.flatten_cons, List.length_append, ih (fun x hx => hrows x (by simp [hx])), hrows r (by simp), List.length_cons, Nat.succ_mul, Nat.add_comm]
  exact slAt_of_owns (base := 0) (e := e) rows hrows rfl ⟨hl, .inr ⟨b, rows.length, _, rfl, Nat.zero_le _, h, Nat.le_refl _, hm, by simpa using hl, by rw [List.toList_toArray]; exact List.take_of_length_le (by rw [hl]; exact Nat.le_refl _)⟩⟩
theorem decls_none (w : World) : DeclsAt w (.slice none 0 0) [] := ⟨fun _ => .nilFunc, .inl ⟨rfl, none, 0, rfl⟩, by simp⟩
def IntsAt (w : World) (v : Value) (xs : List Int) : Prop := SlAt w v 1 (xs.map fun x => [Value.int .i64 x])
end Go.Proofs.YtphdfbmmjkccgaaDoor

namespace Go.Proofs.YtphdfbmmjkccgaaDoor
open Go.RowKit

set_option maxHeartbeats 1600000 in
theorem ref_EqFaultG (e p e' p' : Int) (n n' : List UInt8) (w : World) :
    Calls Tryd.prog 16 #[.agg #[.int .i64 e, .int .i64 p, .string ⟨n.toArray⟩], .int .i64 e', .int .i64 p', .string ⟨n'.toArray⟩] w fun r w' => r = .returned (.bool (decide ((e = e' ∧ p = p') ∧ n = n'))) ∧ Below w.heap.size w w' := by
  by_cases h1 : e = e'
  · by_cases h2 : p = p'
    · by_cases h3 : n = n'
      · subst h1 h2 h3
        go_enter Tryd.func16, Tryd.ntmps16
        go_wp2
        go_ret
        exact ⟨ret_bool (by simp), (Below.refl _ _).alloc (Nat.le_refl _) _⟩
      · subst h1 h2
        have H3 := Lib.hid h3
        have h3' : ¬ (⟨n.toArray⟩ : ByteArray) = ⟨n'.toArray⟩ := by simpa using h3
        clear h3
        go_enter Tryd.func16, Tryd.ntmps16
        go_wp2
        go_ret
        exact ⟨ret_bool (by rw [Bool.eq_iff_iff]; simp), (Below.refl _ _).alloc (Nat.le_refl _) _⟩
    · subst h1
      have h2b : (p == p') = false := by simpa using h2
      have H2 := Lib.hid h2
      clear h2
      go_enter Tryd.func16, Tryd.ntmps16
      go_wp2
      go_ret
      exact ⟨ret_bool (by simp [H2.out]), (Below.refl _ _).alloc (Nat.le_refl _) _⟩
  · have h1b : (e == e') = false := by simpa using h1
    have H1 := Lib.hid h1
    clear h1
    go_enter Tryd.func16, Tryd.ntmps16
    go_wp2
    go_ret
    exact ⟨ret_bool (by simp [H1.out]), (Below.refl _ _).alloc (Nat.le_refl _) _⟩
end Go.Proofs.YtphdfbmmjkccgaaDoor

namespace Go.Proofs.YtphdfbmmjkccgaaDoor
open Go.RowKit Go.Maps

section
variable {P : Program} {fn : Func} {R : Ending → World → Prop} {a : Act} {W : World} {p q g h : Nat} {ty tz t u : TypeId} {cs ds : Array Value} {fr fs : Nat × Nat} {d e : TypeDesc}
end
def faultV (f : Sp.Fault) : Value := .agg #[.int .i64 f.err, .int .i64 f.at_, .string ⟨f.name.toArray⟩]
/-- Productions, as they are read. -/
def ProdsAt (w : World) (v : Value) (l : List Sp.Prod) : Prop :=
  ∃ f g : Nat → Value, SlAt w v 6 (l.mapIdx fun i p => prodC (f i) (g i) p) ∧ ∀ (i : Nat) (p : Sp.Prod), l[i]? = some p → IntsAt w (f i) p.right ∧ IntsAt w (g i) p.args
/-- A grammar, as it is read. -/
def GramAt (w : World) (v : Value) (g : Sp.Gram) : Prop :=
  ∃ tv nv pv, v = .agg #[tv, nv, pv, .string ⟨g.pro.toArray⟩, .string ⟨g.tail.toArray⟩] ∧ SlAt w tv 6 (g.toks.map tokC) ∧ SlAt w nv 2 (g.nons.map nonC) ∧ ProdsAt w pv g.prods
theorem ProdsAt.below {w w' : World} {v : Value} {l : List Sp.Prod} (h : ProdsAt w v l) (hb : Below w.heap.size w w') : ProdsAt w' v l := by
  obtain ⟨f, g, h1, h2⟩ := h
  exact ⟨f, g, h1.below hb, fun i p hp => ⟨(h2 i p hp).1.below hb, (h2 i p hp).2.below hb⟩⟩
theorem GramAt.below {w w' : World} {v : Value} {g : Sp.Gram} (h : GramAt w v g) (hb : Below w.heap.size w w') : GramAt w' v g := by
  obtain ⟨tv, nv, pv, h0, h1, h2, h3⟩ := h
  exact ⟨tv, nv, pv, h0, h1.below hb, h2.below hb, h3.below hb⟩
theorem ints_own {w : World} {B : Nat} {v : Value} {l : List Int} (h : w.ownsRow B 3 1 v l.length (intsC l)) : IntsAt w v l := by
  refine slAt_of_owns (base := B) (e := 3) (n := l.length) (l.map fun x => [Value.int .i64 x]) (by simp) (by simp) ?_
  have e : (l.map fun x => [Value.int .i64 x]).flatten = intsC l := by
    unfold intsC
    clear h
    induction l with
    | nil => rfl
    | cons a l ih =>
      rw [List.map_cons, List.flatten_cons, ih]
      rfl
  rw [e]
  exact h
/-- A grammar as it lies, in rows of its own. -/
def GramOwn (w : World) (v : Value) (g : Sp.Gram) : Prop :=
  ∃ B ta tc na nc pa pc, v = .agg #[.slice ta g.toks.length tc, .slice na g.nons.length nc, .slice pa g.prods.length pc, .string ⟨g.pro.toArray⟩, .string ⟨g.tail.toArray⟩] ∧ w.ownsRow B 114 6 (.slice ta g.toks.length tc) g.toks.length (g.toks.map tokC).flatten ∧ w.ownsRow B 99 2 (.slice na g.nons.length nc) g.nons.length (g.nons.map nonC).flatten ∧ ProdsOwn B w (.slice pa g.prods.length pc) g.prods
theorem GramOwn.at {w : World} {v : Value} {g : Sp.Gram} (h : GramOwn w v g) : GramAt w v g := by
  obtain ⟨B, ta, tc, na, nc, pa, pc, hv, h1, h2, f, g', p1, p2⟩ := h
  refine ⟨_, _, _, hv, slAt_of_owns _ ?_ (by simp) h1, slAt_of_owns _ ?_ (by simp) h2, f, g', slAt_of_owns _ ?_ (by simp) p1, fun i p hp => ?_⟩
  · intro r hr
    obtain ⟨t, _, rfl⟩ := List.mem_map.1 hr
    rfl
  · intro r hr
    obtain ⟨t, _, rfl⟩ := List.mem_map.1 hr
    rfl
  · intro r hr
    obtain ⟨i, hi⟩ := List.mem_iff_getElem?.1 hr
    rw [List.getElem?_mapIdx] at hi
    obtain ⟨t, _, rfl⟩ := Option.map_eq_some_iff.1 hi
    rfl
  · obtain ⟨⟨b, q1⟩, c, q2⟩ := p2 i p hp
    exact ⟨ints_own q1, ints_own q2⟩
/-- Of blocks of other types anything may change. -/
theorem GramOwn.kpT {w w' : World} {v : Value} {g : Sp.Gram} {T : TypeId → Prop} (h : GramOwn w v g) (k : KpT T w w') (h1 : T 114) (h2 : T 99) (h3 : T 84) (h4 : T 3) : GramOwn w' v g := by
  obtain ⟨B, ta, tc, na, nc, pa, pc, hv, q1, q2, f, g', p1, p2⟩ := h
  refine ⟨B, ta, tc, na, nc, pa, pc, hv, ownsRow_kpT q1 k h1, ownsRow_kpT q2 k h2, f, g', ownsRow_kpT p1 k h3, fun i p hp => ?_⟩
  obtain ⟨⟨b, r1⟩, c, r2⟩ := p2 i p hp
  exact ⟨⟨b, ownsRow_kpT r1 k h4⟩, c, ownsRow_kpT r2 k h4⟩
theorem GramOwn.below {w w' : World} {v : Value} {g : Sp.Gram} (h : GramOwn w v g) (hb : Below w.heap.size w w') : GramOwn w' v g :=
  h.kpT (T := fun _ => True) (KpT.below hb) trivial trivial trivial trivial
theorem gramOwn_none (w : World) : GramOwn w (.agg #[.slice none 0 0, .slice none 0 0, .slice none 0 0, .string ⟨#[]⟩, .string ⟨#[]⟩]) Sp.noGram :=
  ⟨0, _, _, _, _, _, _, rfl, World.ownsRow_nil _ _ _ _, World.ownsRow_nil _ _ _ _, fun _ => .bool false, fun _ => .bool false, World.ownsRow_nil _ _ _ _, by simp [Sp.noGram]⟩
/-- What the boxes hold: the source, the two results. -/
def OfBox (x : Sp.Source) (vd vr : Value) (g : Nat) (w : World) : Prop :=
  w.heap[g]? = some (.cells #[.string ⟨x.pro.toArray⟩, vd, vr, .string ⟨x.tail.toArray⟩] 29 (0, 0)) ∧ w.heap[g + 1]? = some (.cells #[.slice none 0 0, .slice none 0 0, .slice none 0 0, .string ⟨#[]⟩, .string ⟨#[]⟩] 58 (0, 0)) ∧ w.heap[g + 1 + 1]? = some (.cells #[.int .i64 0, .int .i64 0, .string ⟨#[]⟩] 32 (0, 0))
theorem OfBox.below {x : Sp.Source} {vd vr : Value} {g : Nat} {w w' : World} (h : OfBox x vd vr g w) (hb : Below w.heap.size w w') : OfBox x vd vr g w' :=
  ⟨(hb.block _ (lt_at h.1)).trans h.1, (hb.block _ (lt_at h.2.1)).trans h.2.1, (hb.block _ (lt_at h.2.2)).trans h.2.2⟩
end Go.Proofs.YtphdfbmmjkccgaaDoor

namespace Go.Proofs.YtphdfbmmjkccgaaDoor
open Go.ChangeShapes Go.WideShapes Go.Deep Go.RowKit

section
variable {H : Type} {enc : TypeId × Value → H} {w : World} {base : Nat} {spare : Nat → Bool} {held : Bool}
theorem three {α : Type} (l : List α) (h : l.length = 3) : ∃ a b c, l = [a, b, c] := by
  rcases l with _ | ⟨a, _ | ⟨b, _ | ⟨c, _ | ⟨d, l⟩⟩⟩⟩ <;> simp at h
  exact ⟨a, b, c, rfl⟩

/-! ### Alternatives, rules, declarations: a datum beside the value of its slice -/
instance : Inhabited Sp.Sym := ⟨⟨[], false, 0, 0⟩⟩
instance : Inhabited Sp.Part := ⟨⟨default, [], 0⟩⟩
instance : Inhabited Sp.Alt := ⟨⟨[], default, 0⟩⟩
instance : Inhabited Sp.Rule := ⟨⟨[], [], 0⟩⟩
instance : Inhabited Sp.Decl := ⟨⟨0, [], [], 0⟩⟩
instance : Inhabited (Sp.Alt × Value) := ⟨(default, .bool false)⟩
instance : Inhabited (Sp.Rule × Value) := ⟨(default, .bool false)⟩
instance : Inhabited (Sp.Decl × Value) := ⟨(default, .bool false)⟩
end
end Go.Proofs.YtphdfbmmjkccgaaDoor
