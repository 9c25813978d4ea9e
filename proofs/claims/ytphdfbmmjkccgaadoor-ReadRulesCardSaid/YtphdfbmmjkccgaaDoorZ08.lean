/- Plain laws for gram.Of: how many there are of each after the passes; what may be. What stands while gram.Of's maker is laid, in whatever order its parts are made. What gram.Of hands back, and the lemmas of its walk. A drawn region walked by what stands, for any slots: wp_region_vals. The small functions of yuccalaw9. The wakes of yuccalaw9. Sources that the statements of layer 9 make: their box, their rows, as they grow. Plain functions: the document's grammar of a source (yuccaref9.Of), as a machine that goes on behind a fault; no program in sight. Plain: how great the document's maker grows. The document's maker (yuccaref9.maker) as it lies; its look-ups and its first fault. The document's maker: put, symbol. The document's maker: what stands while an alternative is made. read.reader as it lies; the words that are left. -/
import Derived.Test.YtphdfbmmjkccgaaDoorZ07
import Derived.Test.YtphdfbmmjkccgaaDoorZ01
import Derived.Test.YtphdfbmmjkccgaaDoorZ06
import Derived.Test.YtphdfbmmjkccgaaDoorZ03
import Derived.Deep.LoopGhost
import Derived.Deep.AppendLies
import Derived.Deep.DeepCutAuto
import Derived.Laws.AppendOwnNone
namespace Go.Proofs.YtphdfbmmjkccgaaDoor
namespace Sp

/-- After the declarations. -/
structure DeclK (s s' : Mk) (n : Nat) : Prop where
  toks : s'.toks.length ≤ s.toks.length + n
  lefts : s'.lefts = s.lefts
  nons : s'.nons = s.nons
  prods : s'.prods = s.prods
  start : s.start.length ≤ 4000 → s'.start.length ≤ 4000
theorem DeclK.refl (s : Mk) : DeclK s s 0 := ⟨Nat.le_refl _, rfl, rfl, rfl, id⟩
theorem DeclK.trans {s s1 s2 : Mk} {n m : Nat} (h : DeclK s s1 n) (k : DeclK s1 s2 m) : DeclK s s2 (n + m) :=
  ⟨by have := h.toks; have := k.toks; omega, k.lefts.trans h.lefts, k.nons.trans h.nons, k.prods.trans h.prods, fun h0 => k.start (h.start h0)⟩
/-- After the rules' symbols. -/
structure PartK (s s' : Mk) (n : Nat) : Prop where
  toks : s'.toks.length ≤ s.toks.length + n
  lefts : s'.lefts = s.lefts
  nons : s'.nons = s.nons
  prods : s'.prods = s.prods
  start : s'.start = s.start
theorem PartK.refl (s : Mk) : PartK s s 0 := ⟨Nat.le_refl _, rfl, rfl, rfl, rfl⟩
theorem PartK.trans {s s1 s2 : Mk} {n m : Nat} (h : PartK s s1 n) (k : PartK s1 s2 m) : PartK s s2 (n + m) :=
  ⟨by have := h.toks; have := k.toks; omega, k.lefts.trans h.lefts, k.nons.trans h.nons, k.prods.trans h.prods, k.start.trans h.start⟩
theorem PartK.mono {s s1 : Mk} {n m : Nat} (h : PartK s s1 n) (hn : n ≤ m) : PartK s s1 m := ⟨Nat.le_trans h.toks (by omega), h.lefts, h.nons, h.prods, h.start⟩
/-- After the productions: how many there are, how long their right sides. -/
structure ProdK (s s' : Mk) (n : Nat) : Prop where
  toks : s'.toks = s.toks
  given : s'.given = s.given
  lefts : s'.lefts = s.lefts
  nons : s'.nons.length ≤ s.nons.length + n
  prods : s'.prods.length ≤ s.prods.length + n
  rights : (∀ p ∈ s.prods, p.right.length ≤ 4000) → ∀ p ∈ s'.prods, p.right.length ≤ 4000
theorem ProdK.refl (s : Mk) : ProdK s s 0 := ⟨rfl, rfl, rfl, Nat.le_refl _, Nat.le_refl _, id⟩
theorem ProdK.trans {s s1 s2 : Mk} {n m : Nat} (h : ProdK s s1 n) (k : ProdK s1 s2 m) : ProdK s s2 (n + m) :=
  ⟨k.toks.trans h.toks, k.given.trans h.given, k.lefts.trans h.lefts, by have := h.nons; have := k.nons; omega, by have := h.prods; have := k.prods; omega, fun h0 => k.rights (h.rights h0)⟩
theorem ProdK.mono {s s1 : Mk} {n m : Nat} (h : ProdK s s1 n) (hn : n ≤ m) : ProdK s s1 m := ⟨h.toks, h.given, h.lefts, Nat.le_trans h.nons (by omega), Nat.le_trans h.prods (by omega), h.rights⟩
/-! ### What may be -/
/-! ### The passes of gramOf, one by one -/
end Sp
end Go.Proofs.YtphdfbmmjkccgaaDoor

namespace Go.Proofs.YtphdfbmmjkccgaaDoor
open Go.RowKit Go.Maps

section
variable {P : Program} {ops : Array Oper} {Q : Exit → Act → World → Prop} {md : Region.Mode}
end
section
variable {W w : World} {b1 b6 b7 : Nat} {gv : Value} {l1 l3 l5 l6 l7 : Bool}
end
/-! ### The region -/
/-- What its operations leave in their slots. -/
structure LitR where
  s4 : Value
  t10 : Value
  t11 : Value
  t12 : Value
  t13 : Value
  t14 : Value
  t15 : Value
  t16 : Value
  t17 : Value
  t18 : Value
/-- Does operation i wait for j? -/
def waits (ops : Array Oper) (i j : Nat) : Bool := match ops[i]? with
  | some o => o.after.any fun e => Region.binds .any e && e.on == j
  | none => false
section
variable {x : Sp.Source} {vd vr : Value} {W w : World} {L : Nat → Bool} {r : LitR}
end
end Go.Proofs.YtphdfbmmjkccgaaDoor

namespace Go.Proofs.YtphdfbmmjkccgaaDoor
open Go.RowKit Go.Maps

section
variable {P : Program} {fn : Func} {R : Ending → World → Prop} {a : Act} {W : World} {p q g h : Nat} {ty tz t u : TypeId} {cs ds : Array Value} {fr fs : Nat × Nat} {d e : TypeDesc}
theorem ret_cell_cell (hf : fn.results = #[.cell p ty, .cell q tz]) (hp : a.tmps.getD p undef = .pointer (some ⟨g, 0, none⟩)) (hq : a.tmps.getD q undef = .pointer (some ⟨h, 0, none⟩)) (hg : W.heap[g]? = some (.cells cs t fr)) (hh : W.heap[h]? = some (.cells ds u fs))
    (hd : (match d with | .struct _ | .array _ _ => true | _ => false) = true) (hu : P.underlying ty = some d) (hi : (P.info? ty).map (·.size) = some cs.size)
    (he : (match e with | .struct _ | .array _ _ => true | _ => false) = true) (hv : P.underlying tz = some e) (hj : (P.info? tz).map (·.size) = some ds.size)
    (hdef : a.defers = []) (hR : R (.returned (.tuple #[.agg cs, .agg ds])) W) : bodyPost P fn R .ret a W := by
  refine bodyPost_ret ?_ hdef hR
  have hl := run_loadVar_row (P := P) W g t ty cs fr d hg hu (by cases d <;> simp_all) hi
  have hm := run_loadVar_row (P := P) W h u tz ds fs e hh hv (by cases e <;> simp_all) hj
  have hp' : a.tmps[p]?.getD undef = .pointer (some ⟨g, 0, none⟩) := by simpa using hp
  have hq' : a.tmps[q]?.getD undef = .pointer (some ⟨h, 0, none⟩) := by simpa using hq
  simp [results, hf, hp', hq', asAddr, hl, hm]
end
/-- Productions, as they are read. -/
def ProdsAt (w : World) (v : Value) (l : List Sp.Prod) : Prop :=
  ∃ f g : Nat → Value, SlAt w v 6 (l.mapIdx fun i p => prodC (f i) (g i) p) ∧ ∀ (i : Nat) (p : Sp.Prod), l[i]? = some p → IntsAt w (f i) p.right ∧ IntsAt w (g i) p.args
/-- A grammar, as it is read. -/
def GramAt (w : World) (v : Value) (g : Sp.Gram) : Prop :=
  ∃ tv nv pv, v = .agg #[tv, nv, pv, .string ⟨g.pro.toArray⟩, .string ⟨g.tail.toArray⟩] ∧ SlAt w tv 6 (g.toks.map tokC) ∧ SlAt w nv 2 (g.nons.map nonC) ∧ ProdsAt w pv g.prods
theorem ProdsAt.below {w w' : World} {v : Value} {l : List Sp.Prod} (h : ProdsAt w v l) (hb : Below w.heap.size w w') : ProdsAt w' v l := by
  obtain ⟨f, g, h1, h2⟩ := h
  exact ⟨f, g, h1.below hb, fun i p hp => ⟨(h2 i p hp).1.below hb, (h2 i p hp).2.below hb⟩⟩
theorem GramAt.below {w w' : World} {v : Value} {g : Sp.Gram} (h : GramAt w v g) (hb : Below w.heap.size w w') : GramAt w' v g := by
  obtain ⟨tv, nv, pv, h0, h1, h2, h3⟩ := h
  exact ⟨tv, nv, pv, h0, h1.below hb, h2.below hb, h3.below hb⟩
theorem ints_own {w : World} {B : Nat} {v : Value} {l : List Int} (h : w.ownsRow B 3 1 v l.length (intsC l)) : IntsAt w v l := by
  refine slAt_of_owns (base := B) (e := 3) (n := l.length) (l.map fun x => [Value.int .i64 x]) (by simp) (by simp) ?_
  have e : (l.map fun x => [Value.int .i64 x]).flatten = intsC l := by
    unfold intsC
    clear h
    induction l with
    | nil => rfl
    | cons a l ih =>
      rw [List.map_cons, List.flatten_cons, ih]
      rfl
  rw [e]
  exact h
/-- A grammar as it lies, in rows of its own. -/
def GramOwn (w : World) (v : Value) (g : Sp.Gram) : Prop :=
  ∃ B ta tc na nc pa pc, v = .agg #[.slice ta g.toks.length tc, .slice na g.nons.length nc, .slice pa g.prods.length pc, .string ⟨g.pro.toArray⟩, .string ⟨g.tail.toArray⟩] ∧ w.ownsRow B 114 6 (.slice ta g.toks.length tc) g.toks.length (g.toks.map tokC).flatten ∧ w.ownsRow B 99 2 (.slice na g.nons.length nc) g.nons.length (g.nons.map nonC).flatten ∧ ProdsOwn B w (.slice pa g.prods.length pc) g.prods
theorem GramOwn.at {w : World} {v : Value} {g : Sp.Gram} (h : GramOwn w v g) : GramAt w v g := by
  obtain ⟨B, ta, tc, na, nc, pa, pc, hv, h1, h2, f, g', p1, p2⟩ := h
  refine ⟨_, _, _, hv, slAt_of_owns _ ?_ (by simp) h1, slAt_of_owns _ ?_ (by simp) h2, f, g', slAt_of_owns _ ?_ (by simp) p1, fun i p hp => ?_⟩
  · intro r hr
    obtain ⟨t, _, rfl⟩ := List.mem_map.1 hr
    rfl
  · intro r hr
    obtain ⟨t, _, rfl⟩ := List.mem_map.1 hr
    rfl
  · intro r hr
    obtain ⟨i, hi⟩ := List.mem_iff_getElem?.1 hr
    rw [List.getElem?_mapIdx] at hi
    obtain ⟨t, _, rfl⟩ := Option.map_eq_some_iff.1 hi
    rfl
  · obtain ⟨⟨b, q1⟩, c, q2⟩ := p2 i p hp
    exact ⟨ints_own q1, ints_own q2⟩
/-- Of blocks of other types anything may change. -/
theorem GramOwn.kpT {w w' : World} {v : Value} {g : Sp.Gram} {T : TypeId → Prop} (h : GramOwn w v g) (k : KpT T w w') (h1 : T 114) (h2 : T 99) (h3 : T 84) (h4 : T 3) : GramOwn w' v g := by
  obtain ⟨B, ta, tc, na, nc, pa, pc, hv, q1, q2, f, g', p1, p2⟩ := h
  refine ⟨B, ta, tc, na, nc, pa, pc, hv, ownsRow_kpT q1 k h1, ownsRow_kpT q2 k h2, f, g', ownsRow_kpT p1 k h3, fun i p hp => ?_⟩
  obtain ⟨⟨b, r1⟩, c, r2⟩ := p2 i p hp
  exact ⟨⟨b, ownsRow_kpT r1 k h4⟩, c, ownsRow_kpT r2 k h4⟩
theorem GramOwn.below {w w' : World} {v : Value} {g : Sp.Gram} (h : GramOwn w v g) (hb : Below w.heap.size w w') : GramOwn w' v g :=
  h.kpT (T := fun _ => True) (KpT.below hb) trivial trivial trivial trivial
/-- What the boxes hold: the source, the two results. -/
def OfBox (x : Sp.Source) (vd vr : Value) (g : Nat) (w : World) : Prop :=
  w.heap[g]? = some (.cells #[.string ⟨x.pro.toArray⟩, vd, vr, .string ⟨x.tail.toArray⟩] 29 (0, 0)) ∧ w.heap[g + 1]? = some (.cells #[.slice none 0 0, .slice none 0 0, .slice none 0 0, .string ⟨#[]⟩, .string ⟨#[]⟩] 58 (0, 0)) ∧ w.heap[g + 1 + 1]? = some (.cells #[.int .i64 0, .int .i64 0, .string ⟨#[]⟩] 32 (0, 0))
theorem OfBox.below {x : Sp.Source} {vd vr : Value} {g : Nat} {w w' : World} (h : OfBox x vd vr g w) (hb : Below w.heap.size w w') : OfBox x vd vr g w' :=
  ⟨(hb.block _ (lt_at h.1)).trans h.1, (hb.block _ (lt_at h.2.1)).trans h.2.1, (hb.block _ (lt_at h.2.2)).trans h.2.2⟩
end Go.Proofs.YtphdfbmmjkccgaaDoor

namespace Go.Proofs.YtphdfbmmjkccgaaDoor
open Go.RowKit

/-! ### The library's variables, as the rows' lists give them -/
def Gl4 (w : World) : Prop := (∃ m : Int, w.cell? ⟨0, 0, none⟩ = some (.int .i64 m)) ∧ 4 ≤ w.heap.size ∧ Lib.TabIs Tryd.prog w "internal/strconv.uint64pow10" .u64 Lib.pow10Tab
theorem Gl4.up {w w' : World} (h : Gl4 w) (hb : Below w.heap.size w w') (h6 : 6 ≤ w'.heap.size) : Gl w' := by
  obtain ⟨⟨m, hm⟩, hz, ht⟩ := h
  exact ⟨⟨m, (hb.cell (p := ⟨0, 0, none⟩) (by show 0 < _; omega)).trans hm⟩, h6, var?_below hb (by kernel_rfl : Tryd.prog.globalNamed "internal/strconv.uint64pow10" = some 1) (by omega) ht⟩
/-! ### The small functions of the statements -/
end Go.Proofs.YtphdfbmmjkccgaaDoor

namespace Go.Proofs.YtphdfbmmjkccgaaDoor
open Go.RowKit Go.Maps

theorem one_at {α : Type} {x y : α} {i : Nat} (h : [x][i]? = some y) : i = 0 ∧ x = y := by
  cases i with
  | zero => exact ⟨rfl, by simpa using h⟩
  | succ i => simp at h
end Go.Proofs.YtphdfbmmjkccgaaDoor

namespace Go.Proofs.YtphdfbmmjkccgaaDoor
open Go.RowKit Go.Maps

set_option maxHeartbeats 1600000 in
theorem ref_Within9 (i : Int) (n : Nat) (w : World) (hn : 0 < n) (hb : n ≤ 60000) (hi : (Lit.int .i64 i).wf = true) :
    Calls Tryd.prog 7 #[.int .i64 i, .int .i64 n] w fun e w' => e = .returned (.int .i64 (i % (n : Int))) ∧ w = w' := by
  have h1 := Int.tmod_lt_of_pos i (b := (n : Int)) (by omega)
  have h2 : -(n : Int) < i.tmod n := by
    by_cases hi : 0 ≤ i
    · have := Int.tmod_nonneg (n : Int) hi; omega
    · have := Int.tmod_lt_of_pos (-i) (b := (n : Int)) (by omega)
      rw [Int.neg_tmod] at this; omega
  have h3 : i % (n : Int) = if i.tmod n < 0 then i.tmod n + n else i.tmod n := by
    have e1 := Int.mul_tdiv_add_tmod i n
    split
    · refine Int.emod_eq_of_lt (a := i.tmod n + n) (b := (n : Int)) (by omega) (by omega) ▸ ?_
      conv => lhs; rw [← e1]
      rw [Int.mul_add_emod_self_left, Int.add_emod_right]
    · refine Int.emod_eq_of_lt (a := i.tmod n) (b := (n : Int)) (by omega) (by omega) ▸ ?_
      conv => lhs; rw [← e1]
      rw [Int.mul_add_emod_self_left]
  generalize i % (n : Int) = N at *
  have HN := Lib.hid h3
  clear h3
  go_enter Tryd.func7, Tryd.ntmps7
  go_wp2
  all_goals (go_ret; have h3 := HN.out; refine ⟨ret_int ?_, rfl⟩)
  · rw [if_pos (by omega)] at h3
    rw [h3]
  · rw [if_neg (by omega)] at h3
    rw [h3]

theorem owns_block {w : World} {b B size n : Nat} {e : TypeId} {cs : Array Value} (h : w.heap[b]? = some (.cells cs e (0, 0))) (hb : B ≤ b) (hl : cs.size = n * size) (hm : n ≤ maxLen) : w.ownsRow B e size (.slice (some ⟨b, 0, none⟩) n n) n cs.toList :=
  ⟨by simpa using hl, .inr ⟨b, n, cs, rfl, hb, h, Nat.le_refl _, hm, hl, List.take_of_length_le (by rw [Array.length_toList, hl]; exact Nat.le_refl _)⟩⟩
/-- The source as it is made: its box, its one rule, its one alternative, the parts. -/
structure PassSt (B : Nat) (w : World) (bs br ba : Nat) (dv pv : Value) (ds : List Sp.Decl) (ps : List Sp.Part) : Prop where
  src : w.heap[bs]? = some (.cells #[.string ⟨#[]⟩, dv, .slice (some ⟨br, 0, none⟩) 1 1, .string ⟨#[]⟩] 29 (0, 0))
  rule : w.heap[br]? = some (.cells #[.string ⟨#[97]⟩, .slice (some ⟨ba, 0, none⟩) 1 1, .int .i64 0] 37 (0, 0))
  alt : w.heap[ba]? = some (.cells #[pv, .string ⟨#[]⟩, .bool false, .int .i64 0, .int .i64 0, .int .i64 0] 42 (0, 0))
  parts : w.ownsRow B 44 6 pv ps.length (ps.map partC).flatten
  decls : DeclsOwn B w dv ds
  ge : B ≤ bs ∧ B ≤ br ∧ B ≤ ba
theorem PassSt.rules {B : Nat} {w : World} {bs br ba : Nat} {dv pv : Value} {ds : List Sp.Decl} {ps : List Sp.Part} (h : PassSt B w bs br ba dv pv ds ps) :
    RulesOwn B w (.slice (some ⟨br, 0, none⟩) 1 1) [⟨[97], [⟨ps, ⟨[], false, 0, 0⟩, 0⟩], 0⟩] := by
  refine ⟨fun _ => .slice (some ⟨ba, 0, none⟩) 1 1, owns_block h.rule h.ge.2.1 rfl (by decide), fun i r hr => ?_⟩
  obtain ⟨rfl, rfl⟩ := one_at hr
  refine ⟨B, fun _ => pv, owns_block h.alt h.ge.2.2 rfl (by decide), fun i a ha => ?_⟩
  obtain ⟨rfl, rfl⟩ := one_at ha
  exact ⟨B, h.parts⟩
theorem KpT.of_kp {T : TypeId → Prop} {S : Nat → Prop} {w w' : World} (k : Kp S w w') (h : ∀ b cs t fr, w.heap[b]? = some (.cells cs t fr) → T t → S b) : KpT T w w' := fun b cs t fr hb ht => (k.block b (lt_at hb) (h b cs t fr hb ht)).trans hb
/-- The source, its rows. -/
structure PassS2 (B : Nat) (w : World) (bs : Nat) (dv rv : Value) (ds : List Sp.Decl) (rs : List Sp.Rule) : Prop where
  src : w.heap[bs]? = some (.cells #[.string ⟨#[]⟩, dv, rv, .string ⟨#[]⟩] 29 (0, 0))
  decls : DeclsOwn B w dv ds
  rules : RulesOwn B w rv rs
  ge : B ≤ bs
theorem PassSt.two {B : Nat} {w : World} {bs br ba : Nat} {dv pv : Value} {ds : List Sp.Decl} {ps : List Sp.Part} (h : PassSt B w bs br ba dv pv ds ps) : PassS2 B w bs dv (.slice (some ⟨br, 0, none⟩) 1 1) ds [⟨[97], [⟨ps, ⟨[], false, 0, 0⟩, 0⟩], 0⟩] := ⟨h.src, h.decls, h.rules, h.ge.1⟩
end Go.Proofs.YtphdfbmmjkccgaaDoor

namespace Go.Proofs.YtphdfbmmjkccgaaDoor
namespace Sp

/-- The state of the document's maker. -/
structure Rk where
  toks : List Tok
  given : List Bool
  types : List (List UInt8 × List UInt8)
  lefts : List (List UInt8)
  prods : List Prod
  fault : Fault
  level : Int
  inner : Nat
end Sp
end Go.Proofs.YtphdfbmmjkccgaaDoor

namespace Go.Proofs.YtphdfbmmjkccgaaDoor
namespace Sp

/-- No list of the maker is longer than n. -/
def RB (n : Nat) (r : Rk) : Prop := (r.given.length = r.toks.length ∧ 3 ≤ r.toks.length) ∧ r.toks.length ≤ n ∧ r.types.length ≤ n ∧ r.lefts.length ≤ n ∧ r.prods.length ≤ n ∧ r.inner ≤ n ∧ 0 ≤ r.level ∧ r.level ≤ (n : Int)
theorem RB.mono {n k : Nat} {r : Rk} (h : RB n r) (hk : n ≤ k) : RB k r := by
  obtain ⟨h0, h1, h2, h3, h4, h5, h6, h7⟩ := h
  exact ⟨h0, by omega, by omega, by omega, by omega, by omega, by omega, by omega⟩
theorem RB.same {n : Nat} {r : Rk} (h : RB n r) : r.given.length = r.toks.length := h.1.1
theorem RB.toks {n : Nat} {r : Rk} (h : RB n r) : r.toks.length ≤ n := h.2.1
theorem RB.types {n : Nat} {r : Rk} (h : RB n r) : r.types.length ≤ n := h.2.2.1
theorem RB.lefts {n : Nat} {r : Rk} (h : RB n r) : r.lefts.length ≤ n := h.2.2.2.1
theorem RB.prods {n : Nat} {r : Rk} (h : RB n r) : r.prods.length ≤ n := h.2.2.2.2.1
theorem RB.inner {n : Nat} {r : Rk} (h : RB n r) : r.inner ≤ n := h.2.2.2.2.2.1
theorem RB.level {n : Nat} {r : Rk} (h : RB n r) : 0 ≤ r.level ∧ r.level ≤ (n : Int) := h.2.2.2.2.2.2
theorem RB.congr {n : Nat} {r r' : Rk} (h : RB n r) (e1 : r'.toks.length = r.toks.length) (e7 : r'.given.length = r.given.length) (e2 : r'.types = r.types) (e3 : r'.lefts = r.lefts) (e4 : r'.prods = r.prods) (e5 : r'.inner = r.inner) (e6 : r'.level = r.level) : RB n r' := by
  unfold RB at *
  rw [e7, e1, e2, e3, e4, e5, e6]
  exact h
end Sp
end Go.Proofs.YtphdfbmmjkccgaaDoor

namespace Go.Proofs.YtphdfbmmjkccgaaDoor
open Go.RowKit Go.Maps

/-- The fields that point. -/
structure RkV where
  tv : Value
  nv : Value
  pv : Value
  gv : Value
  yv : Value
  lv : Value
def typC (p : List UInt8 × List UInt8) : List Value := [.string ⟨p.1.toArray⟩, .string ⟨p.2.toArray⟩]
def strV (l : List UInt8) : Value := .string ⟨l.toArray⟩
def rkCells (r : Sp.Rk) (v : RkV) : List Value := [v.tv, v.nv, v.pv, .string ⟨#[]⟩, .string ⟨#[]⟩, v.gv, v.yv, v.lv, .int .i64 r.fault.err, .int .i64 r.fault.at_, .string ⟨r.fault.name.toArray⟩, .int .i64 r.level, .int .i64 (r.inner : Int)]
/-- The maker at block m: its rows lie behind B, those that productions point to in S. -/
structure RefAt (S : Nat → Prop) (B : Nat) (w : World) (m : Nat) (r : Sp.Rk) (v : RkV) : Prop where
  block : w.heap[m]? = some (.cells (rkCells r v).toArray 112 (0, 0))
  toks : w.ownsRow B 114 6 v.tv r.toks.length (r.toks.map tokC).flatten
  given : w.ownsRow B 4 1 v.gv r.given.length (r.given.map Value.bool)
  types : w.ownsRow B 99 2 v.yv r.types.length (r.types.map typC).flatten
  lefts : w.ownsRow B 9 1 v.lv r.lefts.length (r.lefts.map strV)
  prods : ProdsOff B w v.pv r.prods S
  behind : B ≤ m
/-- What a call may change: the maker's own rows and box alone. -/
def RT (t : TypeId) : Prop := t ≠ 114 ∧ t ≠ 4 ∧ t ≠ 99 ∧ t ≠ 112
def RFr (B : Nat) (W w' : World) : Prop := Below B W w' ∧ KpT RT W w'
theorem RFr.below {B : Nat} {W w' : World} (h : Below W.heap.size W w') (hB : B ≤ W.heap.size) : RFr B W w' := ⟨h.mono hB, KpT.below h⟩
theorem RFr.trans {B : Nat} {a b c : World} (h : RFr B a b) (k : RFr B b c) : RFr B a c := ⟨h.1.trans k.1, h.2.trans k.2⟩
theorem RFr.size {B : Nat} {a b : World} (h : RFr B a b) : a.heap.size ≤ b.heap.size := h.1.size
theorem RFr.at {B : Nat} {a b : World} (h : RFr B a b) {i : Nat} {cs : Array Value} {t : TypeId} {fr : Nat × Nat} (hb : a.heap[i]? = some (.cells cs t fr)) (ht : RT t) : b.heap[i]? = some (.cells cs t fr) := h.2 i cs t fr hb ht
theorem ProdsOff.kpT {B : Nat} {w w' : World} {v : Value} {l : List Sp.Prod} {S : Nat → Prop} {T : TypeId → Prop} (h : ProdsOff B w v l S) (k : KpT T w w') (h1 : T 84) (h2 : T 3) : ProdsOff B w' v l S := by
  obtain ⟨f, g, p1, p2⟩ := h
  refine ⟨f, g, ownsRow_kpT p1 k h1, fun i p hp => ?_⟩
  obtain ⟨⟨⟨b, k1⟩, c, k2⟩, h3, h4⟩ := p2 i p hp
  exact ⟨⟨⟨b, ownsRow_kpT k1 k h2⟩, c, ownsRow_kpT k2 k h2⟩, h3, h4⟩
section
variable {S : Nat → Prop} {B : Nat} {W w' wa : World} {m : Nat} {r r' : Sp.Rk} {v : RkV}
theorem RefAt.below (h : RefAt S B W m r v) (hb : Below W.heap.size W w') : RefAt S B w' m r v :=
  ⟨(hb.block m (lt_at h.block)).trans h.block, ownsRow_below h.toks hb, ownsRow_below h.given hb, ownsRow_below h.types hb, ownsRow_below h.lefts hb, h.prods.below hb, h.behind⟩
/-- The box alone is written. -/
theorem RefAt.box (h : RefAt S B W m r v) (k : KpT (fun t => t ≠ 112) W w') (hb : w'.heap[m]? = some (.cells (rkCells r' v).toArray 112 (0, 0))) (e1 : r'.toks = r.toks) (e2 : r'.given = r.given) (e3 : r'.types = r.types) (e4 : r'.lefts = r.lefts) (e5 : r'.prods = r.prods) : RefAt S B w' m r' v := by
  refine ⟨hb, ?_, ?_, ?_, ?_, ?_, h.behind⟩
  · rw [e1]; exact ownsRow_kpT h.toks k (by decide)
  · rw [e2]; exact ownsRow_kpT h.given k (by decide)
  · rw [e3]; exact ownsRow_kpT h.types k (by decide)
  · rw [e4]; exact ownsRow_kpT h.lefts k (by decide)
  · rw [e5]; exact h.prods.kpT k (by decide) (by decide)
theorem RefAt.size (h : RefAt S B W m r v) : B ≤ W.heap.size := by have := h.behind; have := lt_at h.block; omega
/-- One cell of the box is written. -/
theorem RefAt.box1 {cs : Array Value} (hm : W.heap[m]? = some (.cells cs 112 (0, 0))) (hB : B ≤ m) (i : Nat) (u : Value) : KpT (fun t => t ≠ 112) W (W.setCell ⟨m, i, none⟩ u) ∧ RFr B W (W.setCell ⟨m, i, none⟩ u) := by
  have k : KpT (fun t => t ≠ 112) W (W.setCell ⟨m, i, none⟩ u) := KpT.setCell (fun _ _ _ _ h _ => h) hm (by simp) _
  have := lt_at hm
  exact ⟨k, Kp.below (S := fun b => b < B) ((Kp.refl _ W).setCell (by simp only; omega) _) (by omega) (fun b hb => hb), k.mono (fun t ht => ht.2.2.2)⟩
end
end Go.Proofs.YtphdfbmmjkccgaaDoor

namespace Go.Proofs.YtphdfbmmjkccgaaDoor
open Go.RowKit Go.Maps

/-- How a step of the document's maker ends. -/
def RefPost (S : Nat → Prop) (B m : Nat) (pv : Value) (W : World) (r' : Sp.Rk) (w' : World) : Prop := ∃ v', RefAt S B w' m r' v' ∧ RFr B W w' ∧ v'.pv = pv
theorem RefPost.mono {S : Nat → Prop} {B m : Nat} {pv : Value} {W w1 w' : World} {r' : Sp.Rk} (h : RefPost S B m pv w1 r' w') (hb : RFr B W w1) : RefPost S B m pv W r' w' := by
  obtain ⟨v', h1, h2, h3⟩ := h
  exact ⟨v', h1, hb.trans h2, h3⟩
end Go.Proofs.YtphdfbmmjkccgaaDoor

namespace Go.Proofs.YtphdfbmmjkccgaaDoor
open Go.RowKit Go.Maps

theorem ints_snocR (l : List Int) (x : Int) : intsC (l ++ [x]) = intsC l ++ [.int .i64 x] := by unfold intsC; rw [List.map_append]; rfl
def RTA (t : TypeId) : Prop := RT t ∧ t ≠ 84
theorem ProdsOff.of {B : Nat} {w w' : World} {v : Value} {l : List Sp.Prod} {S : Nat → Prop} (h : ProdsOff B w v l S) (hv : ∀ (n : Nat) (xs : List Value), w.ownsRow B 84 6 v n xs → w'.ownsRow B 84 6 v n xs)
    (hi : ∀ (b : Nat) (u : Value) (n : Nat) (xs : List Value), w.ownsRow b 3 1 u n xs → (∀ c, u.ownBlock = some c → S c) → w'.ownsRow b 3 1 u n xs) : ProdsOff B w' v l S := by
  obtain ⟨f, g, h1, h2⟩ := h
  refine ⟨f, g, hv _ _ h1, fun i p hp => ?_⟩
  obtain ⟨⟨⟨b, k1⟩, c, k2⟩, h3, h4⟩ := h2 i p hp
  exact ⟨⟨⟨b, hi _ _ _ _ k1 h3⟩, c, hi _ _ _ _ k2 h4⟩, h3, h4⟩
/-- Another S, and a change that keeps all that is no number and what S names. -/
theorem RefAt.ints {S S' : Nat → Prop} {B m : Nat} {w w' : World} {r : Sp.Rk} {v : RkV} (h : RefAt S B w m r v) (kt : KpT (fun t => t ≠ 3) w w') (k : Kp S w w') (hm : ∀ c, c < w.heap.size → S c → S' c) : RefAt S' B w' m r v := by
  refine ⟨kt m _ _ _ h.block (by decide), ownsRow_kpT h.toks kt (by decide), ownsRow_kpT h.given kt (by decide), ownsRow_kpT h.types kt (by decide), ownsRow_kpT h.lefts kt (by decide), ?_, h.behind⟩
  obtain ⟨f, g, h1, h2⟩ := h.prods
  refine ⟨f, g, ownsRow_kpT h1 kt (by decide), fun i p hp => ?_⟩
  obtain ⟨⟨⟨b, k1⟩, c, k2⟩, h3, h4⟩ := h2 i p hp
  exact ⟨⟨⟨b, ownsRow_kp k1 k h3⟩, c, ownsRow_kp k2 k h4⟩, fun c hc => hm c (k1.lt c hc).2 (h3 c hc), fun c hc => hm c (k2.lt c hc).2 (h4 c hc)⟩
/-- A box of a production, no part of the maker's rows, is written. -/
theorem RefAt.pbox {S : Nat → Prop} {B m pb : Nat} {w : World} {r : Sp.Rk} {v : RkV} {cs : Array Value} (h : RefAt S B w m r v) (hb : w.heap[pb]? = some (.cells cs 84 (0, 0))) (ha : v.pv.ownBlock ≠ some pb) (i : Nat) (u : Value) : RefAt S B (w.setCell ⟨pb, i, none⟩ u) m r v := by
  have kt : KpT (fun t => t ≠ 84) w (w.setCell ⟨pb, i, none⟩ u) := KpT.setCell (fun _ _ _ _ h _ => h) hb (by simp) _
  have k : Kp (fun b => b ≠ pb) w (w.setCell ⟨pb, i, none⟩ u) := (Kp.refl _ w).setCell (by simp) _
  refine ⟨kt m _ _ _ h.block (by decide), ownsRow_kpT h.toks kt (by decide), ownsRow_kpT h.given kt (by decide), ownsRow_kpT h.types kt (by decide), ownsRow_kpT h.lefts kt (by decide), ?_, h.behind⟩
  obtain ⟨f, g, h1, h2⟩ := h.prods
  refine ⟨f, g, ownsRow_kp h1 k (fun b hb e => ha (by rw [hb, e])), fun i p hp => ?_⟩
  obtain ⟨⟨⟨b, k1⟩, c, k2⟩, h3, h4⟩ := h2 i p hp
  exact ⟨⟨⟨b, ownsRow_kpT k1 kt (by decide)⟩, c, ownsRow_kpT k2 kt (by decide)⟩, h3, h4⟩
/-- A production more. -/
theorem RefAt.addProd {S : Nat → Prop} {B m : Nat} {w wa : World} {r : Sp.Rk} {v : RkV} {f g : Nat → Value} {u ru au : Value} {p : Sp.Prod} (h : RefAt S B w m r v)
    (hc : ∀ (i : Nat) (p : Sp.Prod), r.prods[i]? = some p → ((∃ b, w.ownsRow b 3 1 (f i) p.right.length (intsC p.right)) ∧ ∃ b, w.ownsRow b 3 1 (g i) p.args.length (intsC p.args)) ∧ (∀ c, (f i).ownBlock = some c → S c) ∧ ∀ c, (g i).ownBlock = some c → S c)
    (hown : wa.ownsRow B 84 6 u (r.prods.length + 1) ((r.prods.mapIdx fun i p => prodC (f i) (g i) p).flatten ++ prodC ru au p)) (kt : KpT (fun t => t ≠ 84) w wa) (hb : Below B w wa)
    (hu : ∃ b, wa.ownsRow b 3 1 ru p.right.length (intsC p.right)) (ha : ∃ b, wa.ownsRow b 3 1 au p.args.length (intsC p.args)) (hSu : ∀ c, ru.ownBlock = some c → S c) (hSa : ∀ c, au.ownBlock = some c → S c) :
    RefAt S B (wa.setCell ⟨m, 2, none⟩ u) m { r with prods := r.prods ++ [p] } { v with pv := u } ∧ Below B w (wa.setCell ⟨m, 2, none⟩ u) ∧ KpT RTA w (wa.setCell ⟨m, 2, none⟩ u) := by
  have hm := kt m _ _ _ h.block (by decide)
  obtain ⟨k1, k2⟩ := RefAt.box1 hm h.behind 2 u
  refine ⟨⟨heap_setCell_at hm, ownsRow_kpT (ownsRow_kpT h.toks kt (by decide)) k1 (by decide), ownsRow_kpT (ownsRow_kpT h.given kt (by decide)) k1 (by decide), ownsRow_kpT (ownsRow_kpT h.types kt (by decide)) k1 (by decide), ownsRow_kpT (ownsRow_kpT h.lefts kt (by decide)) k1 (by decide), ?_, h.behind⟩, hb.trans k2.1, (kt.mono (fun t ht => ht.2)).trans (k2.2.mono (fun t ht => ht.1))⟩
  have hP : ProdsOff B wa u (r.prods ++ [p]) S := prods_snoc (w := wa) (w' := wa) (T := fun _ => True) (S := S) (f := f) (g := g) (fun i q hq => by
    obtain ⟨⟨⟨b, k1⟩, c, k2⟩, h3, h4⟩ := hc i q hq
    exact ⟨⟨⟨b, ownsRow_kpT k1 kt (by decide)⟩, c, ownsRow_kpT k2 kt (by decide)⟩, h3, h4⟩) (Kp.refl _ _) (fun _ _ => trivial) hown hu ha hSu hSa
  exact hP.kpT k1 (by decide) (by decide)
/-- While an alternative is made: the maker, the alternative's and the production's boxes, its Right. -/
structure AltS (W0 W : World) (m ab pb : Nat) (ac : Array Value) (rr : Sp.Rk) (pp : Sp.Prod) (prv : Value) (v : RkV) (wx : World) : Prop where
  mkr : RefAt (fun c => prv.ownBlock ≠ some c) W0.heap.size wx m rr v
  abox : wx.heap[ab]? = some (.cells ac 42 (0, 0))
  pbox : wx.heap[pb]? = some (.cells (prodC prv (.slice none 0 0) pp).toArray 84 (0, 0))
  right : wx.ownsRow W.heap.size 3 1 prv pp.right.length (intsC pp.right)
  apart : v.pv.ownBlock ≠ some pb
  old : KpT RTA W wx
  bel : Below W0.heap.size W0 wx
  size : W.heap.size ≤ wx.heap.size
  pge : W.heap.size ≤ pb
  age : W.heap.size ≤ ab
  w0 : W0.heap.size ≤ W.heap.size
theorem KpT.stepKp {T : TypeId → Prop} {S : Nat → Prop} {W wx w' : World} (h : KpT T W wx) (k : Kp S wx w') (hs : ∀ b, b < W.heap.size → S b) : KpT T W w' := fun b cs t fr hb ht => k.at (h b cs t fr hb ht) (hs b (lt_at hb))
section
variable {W0 W wx w' wa : World} {m ab pb : Nat} {ac : Array Value} {rr rr' : Sp.Rk} {pp pp' : Sp.Prod} {prv : Value} {v v' : RkV}
/-- Behind a step of the maker's. -/
theorem AltS.rfr (h : AltS W0 W m ab pb ac rr pp prv v wx) (hm : RefAt (fun c => prv.ownBlock ≠ some c) W0.heap.size w' m rr' v') (hv : v'.pv = v.pv) (hf : RFr W0.heap.size wx w') : AltS W0 W m ab pb ac rr' pp prv v' w' :=
  ⟨hm, hf.at h.abox (by unfold RT; decide), hf.at h.pbox (by unfold RT; decide), ownsRow_kpT h.right hf.2 (by unfold RT; decide), by rw [hv]; exact h.apart, h.old.trans (hf.2.mono (fun t ht => ht.1)), h.bel.trans hf.1, Nat.le_trans h.size hf.size, h.pge, h.age, h.w0⟩
theorem AltS.below (h : AltS W0 W m ab pb ac rr pp prv v wx) (hb : Below wx.heap.size wx w') : AltS W0 W m ab pb ac rr pp prv v w' :=
  h.rfr (h.mkr.below hb) rfl (RFr.below hb (Nat.le_trans h.w0 h.size))
/-- Right has a number more. -/
theorem AltS.push {g n c : Nat} {x : Int} (h : AltS W0 W m ab pb ac rr pp prv v wx) (k : Kp (fun b => prv.ownBlock ≠ some b) wx wa) (kt : KpT (fun t => t ≠ 3) wx wa) (hown : wa.ownsRow W.heap.size 3 1 (.slice (some ⟨g, 0, none⟩) n c) (pp.right.length + 1) (intsC pp.right ++ [.int .i64 x])) (hat : prv.ownBlock = some g ∨ wx.heap.size ≤ g) :
    AltS W0 W m ab pb ac rr { pp with right := pp.right ++ [x] } (.slice (some ⟨g, 0, none⟩) n c) v (wa.setCell ⟨pb, 1, none⟩ (.slice (some ⟨g, 0, none⟩) n c)) := by
  have hpb := kt pb _ _ _ h.pbox (by decide)
  have hS : ∀ b, b < W.heap.size → prv.ownBlock ≠ some b := fun b hb e => by have := (h.right.lt b e).1; omega
  have hmk : RefAt (fun c' => (Value.slice (some ⟨g, 0, none⟩) n c).ownBlock ≠ some c') W0.heap.size wa m rr v := h.mkr.ints kt k (fun c' hc hs e => by
    have e1 : g = c' := by simpa [Value.ownBlock] using e
    subst e1
    rcases hat with h1 | h1
    · exact hs h1
    · omega)
  have kP : KpT (fun t => t ≠ 84) wa (wa.setCell ⟨pb, 1, none⟩ (.slice (some ⟨g, 0, none⟩) n c)) := KpT.setCell (fun _ _ _ _ h _ => h) hpb (by simp) _
  have kb : Kp (fun b => b ≠ pb) wa (wa.setCell ⟨pb, 1, none⟩ (.slice (some ⟨g, 0, none⟩) n c)) := (Kp.refl _ wa).setCell (by simp) _
  have hold : KpT RTA W wa := h.old.stepKp k hS
  refine ⟨hmk.pbox hpb h.apart 1 _, kP ab _ _ _ (kt ab _ _ _ h.abox (by decide)) (by decide), heap_setCell_at hpb, ?_, h.apart, hold.stepKp kb (fun b hb => by have := h.pge; omega), ?_, ?_, h.pge, h.age, h.w0⟩
  · rw [List.length_append, ints_snocR]
    exact ownsRow_kpT hown kP (by decide)
  · exact (h.bel.trans (Kp.below k (Nat.le_trans h.w0 h.size) (fun b hb => hS b (by have := h.w0; omega)))).trans (Kp.below kb (Nat.le_trans (Nat.le_trans h.w0 h.size) k.size) (fun b hb => by have := h.pge; have := h.w0; omega))
  · exact Nat.le_trans h.size (Nat.le_trans k.size (by simp [World.setCell]))
/-- A production more ahead of it. -/
theorem AltS.inner {f g : Nat → Value} {q : Sp.Prod} {au : Value} {g1 n c : Nat} (h : AltS W0 W m ab pb ac rr pp prv v wx)
    (hc : ∀ (i : Nat) (p : Sp.Prod), rr.prods[i]? = some p → ((∃ b, wx.ownsRow b 3 1 (f i) p.right.length (intsC p.right)) ∧ ∃ b, wx.ownsRow b 3 1 (g i) p.args.length (intsC p.args)) ∧ (∀ c, (f i).ownBlock = some c → prv.ownBlock ≠ some c) ∧ ∀ c, (g i).ownBlock = some c → prv.ownBlock ≠ some c)
    (hown : wa.ownsRow W0.heap.size 84 6 (.slice (some ⟨g1, 0, none⟩) n c) (rr.prods.length + 1) ((rr.prods.mapIdx fun i p => prodC (f i) (g i) p).flatten ++ prodC (.slice none 0 0) au q)) (kt : KpT (fun t => t ≠ 84) wx wa) (k : Kp (fun b => v.pv.ownBlock ≠ some b) wx wa)
    (hq : q.right = []) (ha : ∃ b, wa.ownsRow b 3 1 au q.args.length (intsC q.args)) (hau : ∀ c, au.ownBlock = some c → wx.heap.size ≤ c) (hat : v.pv.ownBlock = some g1 ∨ wx.heap.size ≤ g1) :
    AltS W0 W m ab pb ac { rr with prods := rr.prods ++ [q] } pp prv { v with pv := .slice (some ⟨g1, 0, none⟩) n c } (wa.setCell ⟨m, 2, none⟩ (.slice (some ⟨g1, 0, none⟩) n c)) := by
  have hB : Below W0.heap.size wx wa := Kp.below k (Nat.le_trans h.w0 h.size) (fun b hb e => by
    obtain ⟨f', g', h1, _⟩ := h.mkr.prods
    have := (h1.lt b e).1
    omega)
  have hpb : wa.heap[pb]? = some (.cells (prodC prv (.slice none 0 0) pp).toArray 84 (0, 0)) := k.at h.pbox h.apart
  have hlt := lt_at h.pbox
  obtain ⟨h1, h2, h3⟩ := h.mkr.addProd hc hown kt hB ⟨0, by rw [hq]; exact World.ownsRow_nil _ _ _ _⟩ ha (fun c hc => by simp [Value.ownBlock] at hc) (fun c hc e => by
    have := hau c hc
    have := (h.right.lt c e).2
    omega)
  have hm := kt m _ _ _ h.mkr.block (by decide)
  have k1 := (RefAt.box1 hm h.mkr.behind 2 (.slice (some ⟨g1, 0, none⟩) n c)).1
  refine ⟨h1, k1 ab _ _ _ (kt ab _ _ _ h.abox (by decide)) (by decide), k1 pb _ _ _ hpb (by decide), ownsRow_kpT (ownsRow_kpT h.right kt (by decide)) k1 (by decide), ?_, h.old.trans h3, h.bel.trans h2, Nat.le_trans h.size h2.size, h.pge, h.age, h.w0⟩
  intro e
  have e1 : g1 = pb := by simpa [Value.ownBlock] using e
  subst e1
  rcases hat with h4 | h4
  · exact h.apart h4
  · omega
end
end Go.Proofs.YtphdfbmmjkccgaaDoor

namespace Go.Proofs.YtphdfbmmjkccgaaDoor
open Go.RowKit Go.Maps

/-- The fields that point. -/
structure RdV where
  wv : Value
  dv : Value
  rv : Value
def rdCells (s : Sp.RdS) (v : RdV) : List Value := [v.wv, .int .i64 (s.i : Int), .bool s.bad, .string ⟨s.pro.toArray⟩, v.dv, v.rv, .string ⟨#[]⟩, .bool s.set]
/-- The words' row. -/
def WordsAt (w : World) (v : Value) (l : List Sp.Word) : Prop := ∃ b, w.ownsRow b 77 3 v l.length (l.map wordC).flatten
theorem WordsAt.below {w w' : World} {v : Value} {l : List Sp.Word} (h : WordsAt w v l) (hb : Below w.heap.size w w') : WordsAt w' v l := by
  obtain ⟨b, h⟩ := h
  exact ⟨b, ownsRow_below h hb⟩
theorem WordsAt.kp {T : TypeId → Prop} {w w' : World} {v : Value} {l : List Sp.Word} (h : WordsAt w v l) (k : KpT T w w') (ht : T 77) : WordsAt w' v l := by
  obtain ⟨b, h⟩ := h
  exact ⟨b, ownsRow_kpT h k ht⟩
theorem WordsAt.of {w : World} {b : Nat} {v : Value} {l : List Sp.Word} (h : w.ownsRow b 77 3 v l.length (l.flatMap wordC)) : WordsAt w v l := ⟨b, by rwa [List.flatMap_def] at h⟩
/-- A word's cells. -/
theorem WordsAt.cells {w : World} {v : Value} {l : List Sp.Word} (h : WordsAt w v l) {i : Nat} {x : Sp.Word} (hx : l[i]? = some x) :
    ∃ g cap, v = .slice (some ⟨g, 0, none⟩) l.length cap ∧ g < w.heap.size ∧ i < l.length ∧ w.cell? ⟨g, i * 3, none⟩ = some (.int .i64 x.kind) ∧ w.cell? ⟨g, i * 3 + 1, none⟩ = some (.string ⟨x.text.toArray⟩) ∧ w.cell? ⟨g, i * 3 + 2, none⟩ = some (.int .i64 x.at_) := by
  obtain ⟨b, h⟩ := h
  have hi := (List.getElem?_eq_some_iff.1 hx).1
  obtain ⟨g, cap, rfl⟩ := own_form h (by omega)
  exact ⟨g, cap, rfl, (h.lt g rfl).2, hi, row_cell h (fun _ => rfl) hx hi (j := 0) rfl, row_cell h (fun _ => rfl) hx hi (j := 1) rfl, row_cell h (fun _ => rfl) hx hi (j := 2) rfl⟩
theorem heap_fst1 (w : World) (o1 o2 : Obj) : ((w.alloc o1).alloc o2).heap[w.heap.size]? = some o1 := (Below.heap_alloc _ _ _ (by simp)).trans (heap_last w o1)
/-- Six cells of a block are written. -/
theorem six_set {w : World} {b : Nat} {t : TypeId} {c0 c1 c2 c3 c4 c5 : Value} (h : w.heap[b]? = some (.cells #[c0, c1, c2, c3, c4, c5] t (0, 0))) (a0 a1 a2 a3 a4 a5 : Value) :
    ((((((w.setCell ⟨b, 0, none⟩ a0).setCell ⟨b, 1, none⟩ a1).setCell ⟨b, 2, none⟩ a2).setCell ⟨b, 3, none⟩ a3).setCell ⟨b, 4, none⟩ a4).setCell ⟨b, 5, none⟩ a5).heap[b]? = some (.cells #[a0, a1, a2, a3, a4, a5] t (0, 0)) ∧
    Kp (fun k => k ≠ b) w ((((((w.setCell ⟨b, 0, none⟩ a0).setCell ⟨b, 1, none⟩ a1).setCell ⟨b, 2, none⟩ a2).setCell ⟨b, 3, none⟩ a3).setCell ⟨b, 4, none⟩ a4).setCell ⟨b, 5, none⟩ a5) := by
  refine ⟨?_, ((((((Kp.refl _ w).setCell (by simp) _).setCell (by simp) _).setCell (by simp) _).setCell (by simp) _).setCell (by simp) _).setCell (by simp) _⟩
  rw [heap_setCell_at (heap_setCell_at (heap_setCell_at (heap_setCell_at (heap_setCell_at (heap_setCell_at h)))))]
  rfl
/-- The reader at block m: its rows lie behind B. -/
structure ReaderAt (B : Nat) (w : World) (m : Nat) (ws : List Sp.Word) (s : Sp.RdS) (v : RdV) : Prop where
  block : w.heap[m]? = some (.cells (rdCells s v).toArray 74 (0, 0))
  words : WordsAt w v.wv ws
  decls : DeclsOwn B w v.dv s.decls
  rules : RulesOwn B w v.rv s.rules
  behind : B ≤ m
  left : ws.drop s.i = s.ws
  ends : Sp.WEnd s.ws
  small : ws.length ≤ 4001
/-- What a step may change: the reader's box alone; what a declaration or rule may: the rows of them, too. -/
def BoxT (t : TypeId) : Prop := t ≠ 74
def RdT (t : TypeId) : Prop := t ≠ 51 ∧ t ≠ 37 ∧ t ≠ 74
def BoxFr (B : Nat) (W w' : World) : Prop := Below B W w' ∧ KpT BoxT W w'
def RdFr (B : Nat) (W w' : World) : Prop := Below B W w' ∧ KpT RdT W w'
theorem BoxFr.below {B : Nat} {W w' : World} (h : Below W.heap.size W w') (hB : B ≤ W.heap.size) : BoxFr B W w' := ⟨h.mono hB, KpT.below h⟩
theorem BoxFr.trans {B : Nat} {a b c : World} (h : BoxFr B a b) (k : BoxFr B b c) : BoxFr B a c := ⟨h.1.trans k.1, h.2.trans k.2⟩
theorem BoxFr.size {B : Nat} {a b : World} (h : BoxFr B a b) : a.heap.size ≤ b.heap.size := h.1.size
theorem BoxFr.at {B : Nat} {a b : World} (h : BoxFr B a b) {i : Nat} {cs : Array Value} {t : TypeId} {fr : Nat × Nat} (hb : a.heap[i]? = some (.cells cs t fr)) (ht : BoxT t) : b.heap[i]? = some (.cells cs t fr) := h.2 i cs t fr hb ht
theorem BoxFr.rd {B : Nat} {a b : World} (h : BoxFr B a b) : RdFr B a b := ⟨h.1, h.2.mono (fun _ ht => ht.2.2)⟩
theorem RdFr.trans {B : Nat} {a b c : World} (h : RdFr B a b) (k : RdFr B b c) : RdFr B a c := ⟨h.1.trans k.1, h.2.trans k.2⟩
theorem RdFr.size {B : Nat} {a b : World} (h : RdFr B a b) : a.heap.size ≤ b.heap.size := h.1.size
/-- What is changed behind W's end alone. -/
theorem BoxFr.kp {B : Nat} {S : Nat → Prop} {W wx w' : World} (h : BoxFr B W wx) (hB : B ≤ W.heap.size) (k : Kp S wx w') (hs : ∀ b, b < W.heap.size → S b) : BoxFr B W w' :=
  ⟨h.1.trans (Kp.below k (Nat.le_trans hB h.1.size) (fun b hb => hs b (by omega))), h.2.stepKp k hs⟩
section
variable {B : Nat} {W w' wa : World} {m : Nat} {ws : List Sp.Word} {s s' : Sp.RdS} {v : RdV}
/-- What is changed is no box or row of the reader's: it is behind W0's end, where all that lay at W0. -/
theorem ReaderAt.kp {S : Nat → Prop} {W0 : World} {s0 : Sp.RdS} (h0 : ReaderAt B W0 m ws s0 v) (h : ReaderAt B W m ws s v) (f : BoxFr B W0 W) (k : Kp S W w') (hs : ∀ b, b < W0.heap.size → S b) (e1 : s.decls = s0.decls) (e2 : s.rules = s0.rules) : ReaderAt B w' m ws s v ∧ BoxFr B W0 w' := by
  have hB : B ≤ W0.heap.size := by have := h0.behind; have := lt_at h0.block; omega
  have f2 := f.kp hB k hs
  exact ⟨⟨k.at h.block (hs m (lt_at h0.block)), h0.words.kp f2.2 (by unfold BoxT; decide), by rw [e1]; exact decls_kp h0.decls f2.2 (by unfold BoxT; decide) (by unfold BoxT; decide), by rw [e2]; exact rules_kp h0.rules f2.2 (by unfold BoxT; decide) (by unfold BoxT; decide) (by unfold BoxT; decide), h.behind, h.left, h.ends, h.small⟩, f2⟩
theorem ReaderAt.size (h : ReaderAt B W m ws s v) : B ≤ W.heap.size := by have := h.behind; have := lt_at h.block; omega
theorem ReaderAt.below (h : ReaderAt B W m ws s v) (hb : Below W.heap.size W w') : ReaderAt B w' m ws s v :=
  ⟨(hb.block m (lt_at h.block)).trans h.block, h.words.below hb, decls_kp h.decls (KpT.below (T := fun _ => True) hb) trivial trivial, rules_kp h.rules (KpT.below (T := fun _ => True) hb) trivial trivial trivial, h.behind, h.left, h.ends, h.small⟩
/-- The box alone is written. -/
theorem ReaderAt.box (h : ReaderAt B W m ws s v) (k : KpT BoxT W w') (hb : w'.heap[m]? = some (.cells (rdCells s' v).toArray 74 (0, 0))) (e1 : s'.decls = s.decls) (e2 : s'.rules = s.rules) (e3 : ws.drop s'.i = s'.ws) (e4 : Sp.WEnd s'.ws) : ReaderAt B w' m ws s' v :=
  ⟨hb, h.words.kp k (by unfold BoxT; decide), by rw [e1]; exact decls_kp h.decls k (by unfold BoxT; decide) (by unfold BoxT; decide), by rw [e2]; exact rules_kp h.rules k (by unfold BoxT; decide) (by unfold BoxT; decide) (by unfold BoxT; decide), h.behind, e3, e4, h.small⟩
/-- One cell of the box is written. -/
theorem ReaderAt.box1 {cs : Array Value} (hm : W.heap[m]? = some (.cells cs 74 (0, 0))) (hB : B ≤ m) (i : Nat) (u : Value) : BoxFr B W (W.setCell ⟨m, i, none⟩ u) := by
  have k : KpT BoxT W (W.setCell ⟨m, i, none⟩ u) := KpT.setCell (fun _ _ _ _ h _ => h) hm (by simp [BoxT]) _
  have := lt_at hm
  exact ⟨Kp.below (S := fun b => b < B) ((Kp.refl _ W).setCell (by simp only; omega) _) (by omega) (fun b hb => hb), k⟩
/-- The next word. -/
theorem ReaderAt.head (h : ReaderAt B W m ws s v) {x : Sp.Word} {l : List Sp.Word} (hx : s.ws = x :: l) : ws[s.i]? = some x := by
  have := h.left
  rw [hx] at this
  have e : (ws.drop s.i)[0]? = some x := by rw [this]; rfl
  rwa [List.getElem?_drop, Nat.add_zero] at e
theorem ReaderAt.head2 (h : ReaderAt B W m ws s v) {x y : Sp.Word} {l : List Sp.Word} (hx : s.ws = x :: y :: l) : ws[s.i + 1]? = some y := by
  have := h.left
  rw [hx] at this
  have e : (ws.drop s.i)[1]? = some y := by rw [this]; rfl
  rwa [List.getElem?_drop] at e
theorem ReaderAt.lt (h : ReaderAt B W m ws s v) : s.i < ws.length := by
  obtain ⟨x, l, hx⟩ := h.ends.cons
  exact (List.getElem?_eq_some_iff.1 (h.head hx)).1
theorem ReaderAt.dropNext (h : ReaderAt B W m ws s v) : ws.drop s.next.i = s.next.ws := by
  unfold Sp.RdS.next
  simp only
  rw [← h.left, List.drop_drop]
/-- The next word is passed. -/
theorem ReaderAt.step (h : ReaderAt B W m ws s v) {x : Sp.Word} {l : List Sp.Word} (hx : s.ws = x :: l) (hk : x.kind ≠ 10) :
    ReaderAt B (W.setCell ⟨m, 1, none⟩ (.int .i64 ((s.i : Int) + 1))) m ws s.next v ∧ BoxFr B W (W.setCell ⟨m, 1, none⟩ (.int .i64 ((s.i : Int) + 1))) := by
  have k := ReaderAt.box1 h.block h.behind 1 (.int .i64 ((s.i : Int) + 1))
  refine ⟨h.box k.2 ?_ rfl rfl h.dropNext ?_, k⟩
  · have := heap_setCell_at (i := 1) (v := .int .i64 ((s.i : Int) + 1)) h.block
    rw [this]
    rfl
  · have := h.ends
    rw [hx] at this
    unfold Sp.RdS.next
    simp only
    rw [hx]
    exact this.next hk
/-- A declaration more: behind the append into the row, the store into the box. -/
theorem ReaderAt.moreDecl {d : Sp.Decl} {u : Value} (h : ReaderAt B W m ws s v) (hown : DeclsOwn B wa u (s.decls ++ [d])) (k : KpT (fun t => t ≠ 51) W wa) (hb : Below B W wa) :
    ReaderAt B (wa.setCell ⟨m, 4, none⟩ u) m ws { s with decls := s.decls ++ [d] } { v with dv := u } ∧ RdFr B W (wa.setCell ⟨m, 4, none⟩ u) := by
  have hm := k m _ _ _ h.block (by decide)
  have k2 := ReaderAt.box1 (B := B) hm h.behind 4 u
  have hd : ∀ {t : TypeId}, t ≠ 74 → BoxT t := fun h => h
  exact ⟨⟨heap_setCell_at hm, (h.words.kp k (by decide)).kp k2.2 (hd (by decide)), decls_kp hown k2.2 (hd (by decide)) (hd (by decide)), rules_kp (rules_kp h.rules k (by decide) (by decide) (by decide)) k2.2 (hd (by decide)) (hd (by decide)) (hd (by decide)), h.behind, h.left, h.ends, h.small⟩, RdFr.trans ⟨hb, k.mono (fun t ht => ht.1)⟩ k2.rd⟩
/-- A rule more. -/
theorem ReaderAt.moreRule {d : Sp.Rule} {u : Value} (h : ReaderAt B W m ws s v) (hown : RulesOwn B wa u (s.rules ++ [d])) (k : KpT (fun t => t ≠ 37) W wa) (hb : Below B W wa) :
    ReaderAt B (wa.setCell ⟨m, 5, none⟩ u) m ws { s with rules := s.rules ++ [d] } { v with rv := u } ∧ RdFr B W (wa.setCell ⟨m, 5, none⟩ u) := by
  have hm := k m _ _ _ h.block (by decide)
  have k2 := ReaderAt.box1 (B := B) hm h.behind 5 u
  have hd : ∀ {t : TypeId}, t ≠ 74 → BoxT t := fun h => h
  exact ⟨⟨heap_setCell_at hm, (h.words.kp k (by decide)).kp k2.2 (hd (by decide)), decls_kp (decls_kp h.decls k (by decide) (by decide)) k2.2 (hd (by decide)) (hd (by decide)), rules_kp hown k2.2 (hd (by decide)) (hd (by decide)) (hd (by decide)), h.behind, h.left, h.ends, h.small⟩, RdFr.trans ⟨hb, k.mono (fun t ht => ht.2.1)⟩ k2.rd⟩
end
end Go.Proofs.YtphdfbmmjkccgaaDoor
