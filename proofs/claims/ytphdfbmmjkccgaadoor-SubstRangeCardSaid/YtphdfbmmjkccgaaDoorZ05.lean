/- Maps of the call's own: what a block of entries answers, for elements of any type. Rows of a call's own, one within another: what of them stays while others are written. The walk of lex.Words. The walks of the reference's between, Quoted, Quote, Take. The walk of the reference's Join. Layer 8, the reference: what may be. Layer 8, the reference: are two sources the same. The maker of a grammar (gram.maker), as it lies; its small functions. gram's maker: taken, clash. A region that draws its order, whose LAST operation may break the condition that its loads stand on: Derived/OrdersHeld.lean's law with one operation excepted. A region that draws its order, walked once along a plan: what only reads is taken first, whatever else comes up alone. gram's maker: clash, symbol. gram's maker: what a call changes; named. -/
import Derived.Maps.Own
import Derived.Maps.Views
import Derived.DeepKeys4
import Derived.Test.YtphdfbmmjkccgaaDoorZ01
import Derived.Test.YtphdfbmmjkccgaaDoorZ04
import Derived.Lib.SlicesS
import Derived.Test.YtphdfbmmjkccgaaDoorZ00
import Derived.Test.YtphdfbmmjkccgaaDoorZ02
import Derived.Deep.RegionHeld3
import Derived.Deep.DeepCutAuto
import Derived.Deep.LoopGhost
import Derived.BigQuiet
import Derived.Deep.QuietTactic
import Derived.Test.YtphdfbmmjkccgaaDoorZ03
import Derived.Laws.OwnMore
import Derived.OrdersHeld
import Derived.StillTail
namespace Go.Proofs.YtphdfbmmjkccgaaDoor
open Go.RowKit Go.Maps

/-- An element stands for itself. -/
def heldR (v : Value) : Option (DataW Value × List MemPlace) := some (.held v, [])
/-- Block b is a map of at most n entries that answers L. -/
def MapIs (P : Program) (k : TypeId) (w : World) (b n : Nat) (L : Value → Option Value) : Prop :=
  ∃ D : DataW Value, w.ownsMap P k heldR b n D ∧ ∀ key kl, keyOf P k key = some kl → ∀ z, D.atKey kl z = (match L key with | some v => .held v | none => z)
section
variable {P : Program} {k : TypeId} {w w' : World} {b n : Nat} {L : Value → Option Value}
theorem MapIs.kept {row : Option Nat} (h : MapIs P k w b n L) (hg : w.grownBy w' row) (hne : some b ≠ row) : MapIs P k w' b n L := by
  obtain ⟨D, h1, h2⟩ := h
  exact ⟨D, h1.kept hg hne, h2⟩
theorem MapIs.block (h : MapIs P k w b n L) (hb : w'.heap[b]? = w.heap[b]?) : MapIs P k w' b n L := by
  obtain ⟨D, ⟨es, c, h1, h2⟩, h3⟩ := h
  exact ⟨D, ⟨es, c, hb.trans h1, h2⟩, h3⟩
theorem MapIs.lt (h : MapIs P k w b n L) : b < w.heap.size := by
  obtain ⟨D, h1, _⟩ := h
  exact h1.lt
theorem MapIs.mono (h : MapIs P k w b n L) {m : Nat} (hn : n ≤ m) : MapIs P k w b m L := by
  obtain ⟨D, h1, h2⟩ := h
  exact ⟨D, h1.mono hn, h2⟩
theorem MapIs.made (P : Program) (k : TypeId) (w : World) : MapIs P k (w.alloc (.map #[] 0)) w.heap.size 0 (fun _ => none) :=
  ⟨.map [], World.ownsMap_made w P k heldR, fun _ _ _ _ => rfl⟩
/-- A look-up, with 'ok' or without. -/
theorem MapIs.look {t e : TypeId} (c : Bool) (h : MapIs P k w b n L) (K : Keyed P k) (ht : P.underlying t = some (.map k e)) {z : Value} (hz : (zeroValue e).run P w = .ok z w) {key : Value} {kl : Lit} (hkey : keyOf P k key = some kl) :
    (Instr.lookup t (.map (some b)) key c).run P w = .ok (match L key with
      | some v => if c then .tuple #[v, .bool true] else v
      | none => if c then .tuple #[z, .bool false] else z) w := by
  obtain ⟨D, ⟨es, clock, hb, F, _, rfl⟩, hL⟩ := h
  have hk := hL key kl hkey
  rcases Maps.fit_look c K ht hz hb F hkey with ⟨hrun, _, hat⟩ | ⟨e0, y, _, _, hrun, hRv, hat, _⟩
  · rw [hrun]
    cases hl : L key with
    | none => rfl
    | some v =>
      have h1 := hk .nil
      rw [hat, hl] at h1
      simp at h1
  · rw [hrun]
    unfold heldR at hRv
    simp only [Option.some.injEq] at hRv
    subst hRv
    cases hl : L key with
    | none =>
      have h1 := hk .nil
      rw [hat, hl] at h1
      simp at h1
    | some v =>
      have h1 := hk .nil
      rw [hat, hl] at h1
      simp only [DataW.held.injEq] at h1
      rw [h1]
end
end Go.Proofs.YtphdfbmmjkccgaaDoor

namespace Go.Proofs.YtphdfbmmjkccgaaDoor
open Go.RowKit

theorem SlAt.at {w : World} {a : Option Addr} {n cap size : Nat} {rows : List (List Value)} (h : SlAt w (.slice a n cap) size rows) {k : Nat} {row : List Value} (hr : rows[k]? = Option.some row) :
    ∃ b off, a = Option.some ⟨b, off, none⟩ ∧ b < w.heap.size ∧ ∀ w', Below w.heap.size w w' → ∀ j u, row[j]? = Option.some u → w'.cell? ⟨b, off + k * size + j, none⟩ = Option.some u := by
  rcases h with ⟨hx, _⟩ | ⟨b, off, cap', hv, hlt, hc⟩
  · subst hx; simp at hr
  · simp only [Value.slice.injEq] at hv
    exact ⟨b, off, hv.1, hlt, fun w' hb j u hu => (hb.cell (p := ⟨b, _, none⟩) hlt).trans (hc k row hr j u hu)⟩
theorem below_box {W w' : World} {o : Obj} (h : Below (W.heap.size + 1) (W.alloc o) w') : Below W.heap.size W w' := ((Below.refl _ W).alloc (Nat.le_refl _) o).trans (h.mono (by omega))
theorem below_undrew {B : Nat} {w w' : World} (h : Below B w.drew w') : Below B w w' := ⟨h.os, h.tape, h.output, h.size, h.block⟩

/-- All blocks of the old world whose type T names read as before. -/
def KpT (T : TypeId → Prop) (w w' : World) : Prop := ∀ (b : Nat) (cs : Array Value) (t : TypeId) (fr : Nat × Nat), w.heap[b]? = some (.cells cs t fr) → T t → w'.heap[b]? = some (.cells cs t fr)
theorem KpT.trans {T : TypeId → Prop} {a b c : World} (h : KpT T a b) (k : KpT T b c) : KpT T a c := fun i cs t fr hb ht => k i cs t fr (h i cs t fr hb ht) ht
theorem KpT.mono {S T : TypeId → Prop} {a b : World} (h : KpT S a b) (hs : ∀ t, T t → S t) : KpT T a b := fun i cs t fr hb ht => h i cs t fr hb (hs t ht)
theorem KpT.below {T : TypeId → Prop} {w w' : World} (h : Below w.heap.size w w') : KpT T w w' := fun b _ _ _ hb _ => (h.block b (lt_at hb)).trans hb
theorem KpT.alloc {T : TypeId → Prop} {a w : World} (h : KpT T a w) (o : Obj) : KpT T a (w.alloc o) := h.trans (KpT.below ((Below.refl _ w).alloc (Nat.le_refl _) o))
theorem KpT.setCell {T : TypeId → Prop} {a w : World} (h : KpT T a w) {b i : Nat} {cs : Array Value} {t : TypeId} {fr : Nat × Nat} (hb : w.heap[b]? = some (.cells cs t fr)) (ht : ¬ T t) (u : Value) : KpT T a (w.setCell ⟨b, i, none⟩ u) := by
  refine h.trans fun c cs' t' fr' hc ht' => ?_
  rw [Below.heap_setCell _ _ _ _ (fun e => ?_)]
  · exact hc
  · have e' : c = b := by simpa using e
    subst e'
    rw [hb] at hc
    simp only [Option.some.injEq, Obj.cells.injEq] at hc
    exact ht (hc.2.1 ▸ ht')
theorem KpT.grown {w w' : World} {base : Nat} {e : TypeId} {size : Nat} {v : Value} {n : Nat} {xs : List Value} (h : w.ownsRow base e size v n xs) (hg : w.grownBy w' v.ownBlock) : KpT (· ≠ e) w w' := by
  intro b cs t fr hb ht
  rw [hg.block b (lt_at hb) (fun hk => ?_)]
  · exact hb
  · exact ownsRow_ne h hb ht b hk.symm rfl
theorem ownsRow_kpT {T : TypeId → Prop} {w w' : World} {base : Nat} {e : TypeId} {size : Nat} {v : Value} {n : Nat} {xs : List Value} (h : w.ownsRow base e size v n xs) (k : KpT T w w') (ht : T e) : w'.ownsRow base e size v n xs := by
  refine ⟨h.1, ?_⟩
  rcases h.2 with hn | ⟨g, cap, cur, rfl, hb, hgg, rest⟩
  · exact .inl hn
  · exact .inr ⟨g, cap, cur, rfl, hb, k g _ _ _ hgg ht, rest⟩

/-- A row of the call's own, of elements that each name a value whose reading child tells. -/
def OwnR {α : Type} (row : Value → α → List Value) (e : TypeId) (size : Nat) (child : World → Value → α → Prop) (B : Nat) (w : World) (v : Value) (l : List α) : Prop :=
  ∃ f : Nat → Value, w.ownsRow B e size v l.length (l.mapIdx fun i a => row (f i) a).flatten ∧ ∀ (i : Nat) (a : α), l[i]? = some a → child w (f i) a
section
variable {α : Type} {row : Value → α → List Value} {e : TypeId} {size : Nat} {child : World → Value → α → Prop} {B : Nat} {w w' : World} {v : Value} {l : List α}
theorem OwnR.nil (row : Value → α → List Value) (e : TypeId) (size : Nat) (child : World → Value → α → Prop) (B : Nat) (w : World) : OwnR row e size child B w (.slice none 0 0) [] :=
  ⟨fun _ => .bool false, World.ownsRow_nil _ _ _ _, by simp⟩
theorem OwnR.kp {T : TypeId → Prop} (h : OwnR row e size child B w v l) (k : KpT T w w') (ht : T e) (hc : ∀ u a, child w u a → child w' u a) : OwnR row e size child B w' v l := by
  obtain ⟨f, h1, h2⟩ := h
  exact ⟨f, ownsRow_kpT h1 k ht, fun i a ha => hc _ _ (h2 i a ha)⟩
theorem mapIdx_snoc {β : Type} (g : Nat → α → β) (l : List α) (a : α) : (l ++ [a]).mapIdx g = l.mapIdx g ++ [g l.length a] := by
  rw [List.mapIdx_append]; simp
end
end Go.Proofs.YtphdfbmmjkccgaaDoor

namespace Go.Proofs.YtphdfbmmjkccgaaDoor
open Go.RowKit

section
variable {P : Program} {fn : Func} {R : Ending → World → Prop} {a : Act} {W : World} {g : Nat} {t ty : TypeId} {cs : Array Value} {fr : Nat × Nat} {d : TypeDesc} {p u : Tmp}
theorem ret_tmp_cell (hf : fn.results = #[.tmp u, .cell p ty]) (hp : a.tmps.getD p undef = .pointer (some ⟨g, 0, none⟩)) (hg : W.heap[g]? = some (.cells cs t fr))
    (hd : (match d with | .struct _ | .array _ _ => true | _ => false) = true) (hu : P.underlying ty = some d) (hi : (P.info? ty).map (·.size) = some cs.size)
    (hdef : a.defers = []) (hR : R (.returned (.tuple #[a.tmps.getD u undef, .agg cs])) W) : bodyPost P fn R .ret a W := by
  refine bodyPost_ret ?_ hdef hR
  have hl := run_loadVar_row (P := P) W g t ty cs fr d hg hu (by cases d <;> simp_all) hi
  have hp' : a.tmps[p]?.getD undef = .pointer (some ⟨g, 0, none⟩) := by simpa using hp
  simp [results, hf, hp', asAddr, hl]
end

end Go.Proofs.YtphdfbmmjkccgaaDoor

namespace Go.Proofs.YtphdfbmmjkccgaaDoor
open Go.RowKit

/-- May a byte stand in quotes; its sign behind a backslash. -/
def quotedR (c : UInt8) : UInt8 × Bool := if c = 10 then (110, true) else if c = 9 then (116, true) else if c = 13 then (114, true) else if c = 92 then (92, true) else if c = 39 then (39, true) else (0, decide (32 ≤ c.toNat) && decide (c.toNat ≤ 126))
theorem byte_ne {c x : UInt8} (h : ¬ c = x) : ((c.toNat : Int) == (x.toNat : Int)) = false := by
  rw [← Bool.not_eq_true]; exact fun e => h ((Sp.byte_eq c x).2 e)
theorem ret_ub {a a' : Int} {x x' : Bool} (h1 : a = a') (h2 : x = x') : Ending.returned (.tuple #[.int .u8 a, .bool x]) = .returned (.tuple #[.int .u8 a', .bool x']) := by rw [h1, h2]
set_option maxHeartbeats 800000 in
theorem ref_Quoted (c : UInt8) (w : World) :
    Calls Tryd.prog 105 #[.int .u8 (c.toNat : Int)] w fun e w' => e = .returned (.tuple #[.int .u8 ((quotedR c).1.toNat : Int), .bool (quotedR c).2]) ∧ w = w' := by
  by_cases h1 : c = 10
  · subst h1
    go_enter Tryd.func105, Tryd.ntmps105
    go_wp2
    go_ret2
    exact ⟨rfl, rfl⟩
  by_cases h2 : c = 9
  · subst h2
    go_enter Tryd.func105, Tryd.ntmps105
    go_wp2
    go_ret2
    exact ⟨rfl, rfl⟩
  by_cases h3 : c = 13
  · subst h3
    go_enter Tryd.func105, Tryd.ntmps105
    go_wp2
    go_ret2
    exact ⟨rfl, rfl⟩
  by_cases h4 : c = 92
  · subst h4
    go_enter Tryd.func105, Tryd.ntmps105
    go_wp2
    go_ret2
    exact ⟨rfl, rfl⟩
  by_cases h5 : c = 39
  · subst h5
    go_enter Tryd.func105, Tryd.ntmps105
    go_wp2
    go_ret2
    exact ⟨rfl, rfl⟩
  have hq : quotedR c = (0, decide (32 ≤ c.toNat) && decide (c.toNat ≤ 126)) := by
    unfold quotedR
    rw [if_neg h1, if_neg h2, if_neg h3, if_neg h4, if_neg h5]
  rw [hq]
  have e1 : ((c.toNat : Int) == 10) = false := byte_ne (x := 10) h1
  have e2 : ((c.toNat : Int) == 9) = false := byte_ne (x := 9) h2
  have e3 : ((c.toNat : Int) == 13) = false := byte_ne (x := 13) h3
  have e4 : ((c.toNat : Int) == 92) = false := byte_ne (x := 92) h4
  have e5 : ((c.toNat : Int) == 39) = false := byte_ne (x := 39) h5
  clear hq h1 h2 h3 h4 h5
  go_enter Tryd.func105, Tryd.ntmps105
  go_wp2
  all_goals
    go_ret2
    exact ⟨ret_ub rfl (Bool.eq_iff_iff.2 (by simp; omega)), rfl⟩

theorem quoteText_quoted (c : UInt8) : Sp.quoteText c = if (quotedR c).2 = false then [] else if ((quotedR c).1.toNat : Int) != 0 then [39, 92, (quotedR c).1, 39] else [39, c, 39] := by
  by_cases h1 : c = 10
  · subst h1; rfl
  by_cases h2 : c = 9
  · subst h2; rfl
  by_cases h3 : c = 13
  · subst h3; rfl
  by_cases h4 : c = 92
  · subst h4; rfl
  by_cases h5 : c = 39
  · subst h5; rfl
  have hq : quotedR c = (0, decide (32 ≤ c.toNat) && decide (c.toNat ≤ 126)) := by
    unfold quotedR
    rw [if_neg h1, if_neg h2, if_neg h3, if_neg h4, if_neg h5]
  have e4 : ((c.toNat : Int) == 92) = false := byte_ne (x := 92) h4
  have e5 : ((c.toNat : Int) == 39) = false := byte_ne (x := 39) h5
  have hp : Sp.plainq c = (decide (32 ≤ c.toNat) && decide (c.toNat ≤ 126)) := by
    unfold Sp.plainq
    rw [e4, e5]; simp
  unfold Sp.quoteText
  rw [if_neg h1, if_neg h2, if_neg h3, if_neg h4, if_neg h5, hq, hp]
  cases decide (32 ≤ c.toNat) && decide (c.toNat ≤ 126) <;> rfl

/-- No byte in quotes below a number stands there. -/
def noneBelow (r : List UInt8) (k : Nat) : Prop := ∀ c : UInt8, c.toNat < k → ¬ (Sp.quoteText c ≠ [] ∧ Lib.hasPrefix r (Sp.quoteText c) = true)
theorem noneBelow.start (r : List UInt8) : noneBelow r 9 := by
  intro c hc h
  have := Sp.quoteText_range c h.1
  omega
theorem noneBelow.step {r : List UInt8} {k : Nat} (h : noneBelow r k) (hk : k < 256) (h' : ¬ (Sp.quoteText (UInt8.ofNat k) ≠ [] ∧ Lib.hasPrefix r (Sp.quoteText (UInt8.ofNat k)) = true)) : noneBelow r (k + 1) := by
  intro c hc
  rcases Nat.lt_or_ge c.toNat k with h1 | h1
  · exact h c h1
  · have : c = UInt8.ofNat k := by
      apply UInt8.toNat_inj.1
      rw [UInt8.toNat_ofNat_of_lt' (by have : UInt8.size = 256 := rfl; omega)]
      omega
    rw [this]; exact h'
theorem noneBelow.out {r : List UInt8} {k : Nat} (h : noneBelow r k) (hk : 127 ≤ k) : Sp.charTake r = none := by
  cases hc : Sp.charTake r with
  | none => rfl
  | some p =>
    obtain ⟨c, n⟩ := p
    obtain ⟨h1, h2, _⟩ := Sp.charTake_some r c n hc
    have := Sp.quoteText_range c h1
    exact absurd ⟨h1, h2⟩ (h c (by omega))
end Go.Proofs.YtphdfbmmjkccgaaDoor

namespace Go.Proofs.YtphdfbmmjkccgaaDoor
open Go.RowKit

set_option maxHeartbeats 400000 in
theorem ref_Name (s : ByteArray) (w : World) (hs : s.size < 4294967281) :
    Calls Tryd.prog 69 #[.string s] w fun e w' => e = .returned (.bool (Sp.isName s.data.toList)) ∧ w = w' := by
  have hl : s.data.toList.length = s.size := by simp
  generalize hN : Sp.isName s.data.toList = N
  unfold Sp.isName at hN
  have he : s.data.toList.isEmpty = decide (s.size = 0) := by
    rw [Bool.eq_iff_iff, List.isEmpty_iff, decide_eq_true_eq, ← hl]
    exact ⟨fun h => by rw [h]; rfl, List.eq_nil_of_length_eq_zero⟩
  rw [hl, he] at hN
  have HN := Lib.hid hN; clear hN hl he
  have HR := Lib.hid (ref_NameAt s 0 w hs (Nat.zero_le _))
  simp only [List.drop_zero] at HR
  generalize Sp.nameLen true s.data.toList = r at *
  go_enter Tryd.func69, Tryd.ntmps69
  go_wp2_with (go_at_call 88; refine (HR.out).mono ?_; rintro e w' ⟨rfl, rfl⟩)
  all_goals (go_ret; have hN := HN.out; clear HN HR)
  all_goals exact ⟨ret_bool (by rw [← hN, Bool.eq_iff_iff]; simp only [Bool.and_eq_true, Bool.not_eq_true', decide_eq_true_eq, decide_eq_false_iff_not, beq_iff_eq, Bool.false_eq_true]; first | omega | (rw [false_iff]; omega)), rfl⟩

end Go.Proofs.YtphdfbmmjkccgaaDoor

namespace Go.Proofs.YtphdfbmmjkccgaaDoor
namespace Sp
open Go.Lib (index indexByte hasPrefix)

/-- What the reference asks of a symbol: may a number stand behind it, may it be a byte in quotes. -/
def refSym (x : Sym) (num lit : Bool) : Bool :=
  if x.lit = true then lit && decide (x.name.length = 1) && (x.num == 0) && quotable x.name
  else isName x.name && ((x.num == 0) || (num && decide (1 ≤ x.num) && decide (x.num ≤ 50000)))
theorem quotable_len {l : List UInt8} (h : quotable l = true) : l.length = 1 := by
  rcases l with _ | ⟨c, _ | ⟨d, l⟩⟩ <;> simp [quotable] at h ⊢
theorem refSym_bare (s : Sym) : refSym s false true = isBare s := by
  unfold refSym isBare isSym
  cases hl : s.lit
  · simp
  · cases hq : quotable s.name
    · simp
    · have := quotable_len hq
      simp [this]
theorem refSym_may (k : Int) (s : Sym) : refSym s (k == 1) (decide (k < 5)) = maySym k s := by
  unfold refSym maySym isSym
  cases hl : s.lit
  · simp only [Bool.false_eq_true, if_false, false_and, or_false, false_or]
    cases hn : isName s.name
    · simp
    · by_cases h0 : s.num = 0
      · simp [h0]
      · by_cases h1 : k = 1
        · subst h1
          by_cases h2 : s.num < 1
          · have : ¬ 1 ≤ s.num := by omega
            simp [h0, h2, this]
          · by_cases h3 : 50000 < s.num
            · have : ¬ s.num ≤ 50000 := by omega
              simp [h0, h2, h3, this]
            · have a1 : 1 ≤ s.num := by omega
              have a2 : s.num ≤ 50000 := by omega
              simp [h0, h2, h3, a1, a2]
        · simp [h0, h1]
  · simp only [if_true, true_and]
    cases hq : quotable s.name
    · simp
    · have := quotable_len hq
      by_cases h5 : k < 5
      · have : ¬ 5 ≤ k := by omega
        by_cases h0 : s.num = 0 <;> simp_all
      · have : 5 ≤ k := by omega
        simp_all
        intro h
        omega
/-- What the reference asks of a declaration ahead of its symbols. -/
def badHead (d : Decl) : Bool :=
  decide (d.kind < 1) || decide (6 < d.kind) || decide (d.syms.length = 0) || (decide (d.kind = 6) && (decide (d.syms.length ≠ 1) || decide (d.tag ≠ []))) || (decide (d.kind = 5) && decide (d.tag = [])) || (decide (d.tag ≠ []) && !isName d.tag)
theorem mayDecl_ref (d : Decl) : mayDecl d = (!badHead d && d.syms.all fun s => refSym s (d.kind == 1) (decide (d.kind < 5))) := by
  have e : (d.syms.all fun s => refSym s (d.kind == 1) (decide (d.kind < 5))) = d.syms.all (maySym d.kind) := by
    congr 1; funext s; exact refSym_may d.kind s
  rw [e]
  unfold mayDecl badHead
  generalize d.syms.all (maySym d.kind) = A
  have hnil : isName [] = false := by decide
  by_cases h1 : d.kind < 1
  · simp [h1]
  by_cases h2 : 6 < d.kind
  · simp [h2]
  by_cases h3 : d.syms.length = 0
  · simp [h3]
  by_cases h6 : d.kind = 6
  · by_cases h7 : d.tag = []
    · by_cases h8 : d.syms.length = 1
      · simp [h6, h7, h8]
      · simp [h3, h6, h7, h8]
    · simp [h3, h6, h7]
  · by_cases h5 : d.kind = 5
    · by_cases h7 : d.tag = []
      · simp [h3, h5, h7, hnil]
      · cases hn : isName d.tag <;> simp [h3, h5, h7]
    · by_cases h7 : d.tag = []
      · simp [h1, h2, h3, h5, h6, h7]
      · cases hn : isName d.tag <;> simp [h1, h2, h3, h5, h6, h7]
/-- The reference's way through a part. -/
theorem mayPart_ref (p : Part) : mayPart p = !((decide (p.code = []) && !refSym p.sym false true) || (decide (p.code ≠ []) && (!isNone p.sym || decide (endAt p.code 0 ≠ (p.code.length : Int))))) := by
  unfold mayPart
  rw [refSym_bare]
  by_cases h : p.code = []
  · simp [h]
  · simp [h]
theorem mayAlt_ref (a : Alt) : mayAlt a = (a.parts.all mayPart && (isNone a.prec || refSym a.prec false true)) := by
  unfold mayAlt
  rw [refSym_bare, Bool.and_comm]
theorem index_two (c d : UInt8) (l : List UInt8) (x y : UInt8) : decide (0 ≤ index (c :: d :: l) [x, y]) = ((c == x && d == y) || decide (0 ≤ index (d :: l) [x, y])) := by
  rw [index_cons]
  have := Go.Lib.index_ge (d :: l) [x, y]
  have hp : ([x, y].isPrefixOf (c :: d :: l)) = (x == c && y == d) := by simp [List.isPrefixOf]
  rw [hp]
  have e1 : (x == c) = (c == x) := by rw [Bool.eq_iff_iff]; simp; exact eq_comm
  have e2 : (y == d) = (d == y) := by rw [Bool.eq_iff_iff]; simp; exact eq_comm
  rw [e1, e2]
  cases h : (c == x && d == y)
  · simp only [Bool.false_eq_true, if_false, Bool.false_or]
    by_cases h2 : index (d :: l) [x, y] = -1
    · simp [h2]
    · rw [if_neg h2]
      have a1 : 0 ≤ index (d :: l) [x, y] := by omega
      have a2 : 0 ≤ index (d :: l) [x, y] + 1 := by omega
      simp [a1, a2]
  · simp
theorem index_short (l : List UInt8) (x y : UInt8) (h : l.length ≤ 1) : decide (0 ≤ index l [x, y]) = false := by
  rcases l with _ | ⟨c, _ | ⟨d, l⟩⟩
  · simp [index]
  · rw [index_cons]
    simp [index, List.isPrefixOf]
  · simp at h
end Sp
open Go.RowKit

set_option maxHeartbeats 800000 in
theorem ref7_none (s : Sp.Sym) (W : World) :
    Calls Tryd.prog 89 #[symV s] W fun e w' => e = .returned (.bool (Sp.isNone s)) ∧ Below W.heap.size W w' := by
  obtain ⟨nm, lt, nu, pa⟩ := s
  have HB := Lib.hid (fun o : Obj => (Below.refl _ W).alloc (Nat.le_refl _) o)
  have hq : Sp.isNone ⟨nm, lt, nu, pa⟩ = (nm.isEmpty && !lt && (nu == 0)) := rfl
  rw [hq]
  clear hq
  show Calls _ _ #[.agg #[.string ⟨nm.toArray⟩, .bool lt, .int .i64 nu, .int .i64 pa]] _ _
  cases nm with
  | cons c t =>
    go_enter Tryd.func89, Tryd.ntmps89
    go_wp2_with fail
    go_ret
    exact ⟨rfl, HB.out _⟩
  | nil =>
    cases lt with
    | true =>
      go_enter Tryd.func89, Tryd.ntmps89
      go_wp2_with fail
      go_ret
      exact ⟨rfl, HB.out _⟩
    | false =>
      go_enter Tryd.func89, Tryd.ntmps89
      go_wp2_with fail
      go_ret
      exact ⟨ret_bool (by simp), HB.out _⟩

set_option maxHeartbeats 1600000 in
theorem ref7_symbol (s : Sp.Sym) (num lit : Bool) (W : World) (hs : s.name.length ≤ 4000) :
    Calls Tryd.prog 87 #[symV s, .bool num, .bool lit] W fun e w' => e = .returned (.bool (Sp.refSym s num lit)) ∧ Below W.heap.size W w' := by
  obtain ⟨nm, lt, nu, pa⟩ := s
  have HB := Lib.hid (fun o : Obj => (Below.refl _ W).alloc (Nat.le_refl _) o)
  show Calls _ _ #[.agg #[.string ⟨nm.toArray⟩, .bool lt, .int .i64 nu, .int .i64 pa], .bool num, .bool lit] _ _
  cases lt with
  | true =>
    have hq : Sp.refSym ⟨nm, true, nu, pa⟩ num lit = (lit && decide (nm.length = 1) && (nu == 0) && Sp.quotable nm) := rfl
    rw [hq]
    clear hq hs
    cases lit with
    | false =>
      go_enter Tryd.func87, Tryd.ntmps87
      go_wp2_with fail
      go_ret
      exact ⟨rfl, HB.out _⟩
    | true =>
      rcases nm with _ | ⟨c, _ | ⟨d, u⟩⟩
      · go_enter Tryd.func87, Tryd.ntmps87
        go_wp2_with fail
        go_ret
        exact ⟨rfl, HB.out _⟩
      · by_cases hn : nu = 0
        · subst hn
          have HQ := Lib.hid (fun w => ref_Quoted c w)
          have hq : (quotedR c).2 = Sp.quotable [c] := by
            show _ = !(Sp.quoteText c).isEmpty
            rw [quoteText_quoted]
            cases (quotedR c).2 <;> simp
            split <;> simp
          have e : (decide ([c].length = 1) && ((0 : Int) == 0) && Sp.quotable [c]) = (quotedR c).2 := by rw [hq]; simp
          generalize quotedR c = R at HQ hq e
          obtain ⟨r1, r2⟩ := R
          go_enter Tryd.func87, Tryd.ntmps87
          go_wp2_with (go_at_call 105; refine (HQ.out _).mono ?_; rintro e w' ⟨rfl, rfl⟩)
          go_ret
          exact ⟨ret_bool (by simp [hq]), HB.out _⟩
        · have hnn : (nu != 0) = true := by rw [bne_iff_ne]; exact hn
          have hd : (nu == 0) = false := by rw [beq_eq_false_iff_ne]; exact hn
          rw [hd]
          clear hd hn
          go_enter Tryd.func87, Tryd.ntmps87
          go_wp2_with fail
          go_ret
          exact ⟨ret_bool (by simp), HB.out _⟩
      · have hsz : (((⟨(c :: d :: u).toArray⟩ : ByteArray).size : Int) != 1) = true := by rw [bne_iff_ne, Lib.size_eq]; simp; omega
        go_enter Tryd.func87, Tryd.ntmps87
        go_wp2_with fail
        go_ret
        exact ⟨ret_bool (by simp), HB.out _⟩
  | false =>
    have hN := ref_Name ⟨nm.toArray⟩
    have HN := Lib.hid (fun w => hN w (by rw [Lib.size_eq]; simp only at *; omega))
    have hT : (⟨nm.toArray⟩ : ByteArray).data.toList = nm := rfl
    rw [hT] at HN
    have hq : Sp.refSym ⟨nm, false, nu, pa⟩ num lit = (Sp.isName nm && ((nu == 0) || (num && decide (1 ≤ nu) && decide (nu ≤ 50000)))) := rfl
    rw [hq]
    generalize Sp.isName nm = q at HN
    clear hq hN hT hs
    cases q with
    | false =>
      go_enter Tryd.func87, Tryd.ntmps87
      go_wp2_with (go_at_call 69; refine (HN.out _).mono ?_; rintro e w' ⟨rfl, rfl⟩)
      go_ret
      exact ⟨rfl, HB.out _⟩
    | true =>
      by_cases h0 : nu = 0
      · subst h0
        go_enter Tryd.func87, Tryd.ntmps87
        go_wp2_with (go_at_call 69; refine (HN.out _).mono ?_; rintro e w' ⟨rfl, rfl⟩)
        go_ret
        exact ⟨rfl, HB.out _⟩
      · have hz : (nu == 0) = false := by rw [beq_eq_false_iff_ne]; exact h0
        clear h0
        cases num with
        | false =>
          go_enter Tryd.func87, Tryd.ntmps87
          go_wp2_with (go_at_call 69; refine (HN.out _).mono ?_; rintro e w' ⟨rfl, rfl⟩)
          go_ret
          exact ⟨ret_bool (by simp [hz]), HB.out _⟩
        | true =>
          by_cases h1 : 1 ≤ nu
          · go_enter Tryd.func87, Tryd.ntmps87
            go_wp2_with (go_at_call 69; refine (HN.out _).mono ?_; rintro e w' ⟨rfl, rfl⟩)
            go_ret
            exact ⟨ret_bool (by simp [hz, h1]), HB.out _⟩
          · have h1' : decide (1 ≤ nu) = false := by simpa using h1
            go_enter Tryd.func87, Tryd.ntmps87
            go_wp2_with (go_at_call 69; refine (HN.out _).mono ?_; rintro e w' ⟨rfl, rfl⟩)
            go_ret
            exact ⟨ret_bool (by simp [hz, h1']), HB.out _⟩

end Go.Proofs.YtphdfbmmjkccgaaDoor

namespace Go.Proofs.YtphdfbmmjkccgaaDoor
namespace Sp
end Sp
open Go.RowKit

theorem heap_sec (w : World) (o1 o2 : Obj) : ((w.alloc o1).alloc o2).heap[w.heap.size + 1]? = some o2 := by
  have h := heap_last (w.alloc o1) o2
  rw [World.size_alloc] at h
  exact h
end Go.Proofs.YtphdfbmmjkccgaaDoor

namespace Go.Proofs.YtphdfbmmjkccgaaDoor
open Go.RowKit Go.Maps

/-! ### How it lies -/
def tokC (t : Sp.Tok) : List Value := [.string ⟨t.name.toArray⟩, .bool t.lit, .int .i64 t.num, .int .i64 t.level, .int .i64 t.assoc, .string ⟨t.tag.toArray⟩]
def nonC (n : Sp.Non) : List Value := [.string ⟨n.name.toArray⟩, .string ⟨n.tag.toArray⟩]
def prodC (r a : Value) (p : Sp.Prod) : List Value := [.int .i64 p.left, r, .int .i64 p.prec, .string ⟨p.code.toArray⟩, a, .int .i64 p.at_]
def intsC (l : List Int) : List Value := l.map (Value.int .i64)
/-- Productions, each with rows of its own. -/
def ProdsOwn (B : Nat) (w : World) (v : Value) (l : List Sp.Prod) : Prop :=
  ∃ f g : Nat → Value, w.ownsRow B 84 6 v l.length (l.mapIdx fun i p => prodC (f i) (g i) p).flatten ∧
    ∀ (i : Nat) (p : Sp.Prod), l[i]? = some p → (∃ b, w.ownsRow b 3 1 (f i) p.right.length (intsC p.right)) ∧ ∃ b, w.ownsRow b 3 1 (g i) p.args.length (intsC p.args)
/-- The fields that point. -/
structure MkV where
  dv : Value
  rv : Value
  tv : Value
  nv : Value
  pv : Value
  gv : Value
  bt : Nat
  bn : Nat
  by_ : Nat
end Go.Proofs.YtphdfbmmjkccgaaDoor

namespace Go.Proofs.YtphdfbmmjkccgaaDoor
open Go.RowKit Go.Maps

theorem row_cell {w : World} {B e size g n cap : Nat} {α : Type} {row : α → List Value} {l : List α} (ho : w.ownsRow B e size (.slice (some ⟨g, 0, none⟩) n cap) n (l.map row).flatten) (hr : ∀ a, (row a).length = size) {k : Nat} {a : α} (hk : l[k]? = some a) (hkn : k < n) {j : Nat} {u : Value} (hj : (row a)[j]? = some u) :
    w.cell? ⟨g, k * size + j, none⟩ = some u := by
  have hjs : j < size := by rw [← hr a]; exact (List.getElem?_eq_some_iff.1 hj).1
  rw [ho.cellAt (k * size + j) (by
    have := Nat.mul_le_mul_right size (show k + 1 ≤ n from hkn)
    rw [Nat.succ_mul] at this; omega)]
  refine flatten_at size _ (fun r hr' => ?_) k (row a) (by rw [List.getElem?_map, hk]; rfl) j u hj
  obtain ⟨b, _, rfl⟩ := List.mem_map.1 hr'
  exact hr b
theorem row_cell1 {w : World} {B e g n cap : Nat} {α : Type} {row : α → Value} {l : List α} (ho : w.ownsRow B e 1 (.slice (some ⟨g, 0, none⟩) n cap) n (l.map row)) {k : Nat} {a : α} (hk : l[k]? = some a) (hkn : k < n) :
    w.cell? ⟨g, k, none⟩ = some (row a) := by
  rw [ho.cellAt k (by omega), List.getElem?_map, hk]; rfl
end Go.Proofs.YtphdfbmmjkccgaaDoor

namespace Go.Proofs.YtphdfbmmjkccgaaDoor
open Go.RowKit

section
variable {P : Program} {ops : Array Oper} {Q : Exit → Act → World → Prop} {md : Region.Mode} {S : World → Prop} {last : Nat}

/-- Does j wait for i, by way of others too? -/
def reachB (md : Region.Mode) (ops : Array Oper) : Nat → Nat → Nat → Bool
  | 0, _, _ => false
  | f + 1, j, i => match ops[j]? with
    | some oj => oj.after.any fun e => Region.binds md e && (e.on == i || reachB md ops f e.on i)
    | none => false
/-- What is listed has all listed that it waits for. -/
def Closed (md : Region.Mode) (ops : Array Oper) (listed : Array Bool) : Prop :=
  ∀ j oj, ops[j]? = some oj → listed.getD j false = true → ∀ e ∈ oj.after, Region.binds md e = true → listed.getD e.on false = true
theorem Closed.start (n : Nat) : Closed md ops (Array.replicate n false) := fun j oj _ hl => by rw [getD_replicate_false] at hl; cases hl
theorem Closed.set {listed : Array Bool} (h : Closed md ops listed) {i : Nat} (hi : i ∈ Region.ready md ops listed) : Closed md ops (listed.setIfInBounds i true) := by
  obtain ⟨_, oi, hoi, hall⟩ := mem_ready.1 hi
  intro j oj hj hl e he hb
  by_cases hij : i = j
  · subst hij
    have : oj = oi := Option.some.inj (hj.symm.trans hoi)
    subst this
    exact getD_set_true (hall e he hb)
  · rw [getD_set_ne false hij] at hl
    exact getD_set_true (h j oj hj hl e he hb)
theorem reach_listed {listed : Array Bool} (h : Closed md ops listed) {i : Nat} : ∀ (f j : Nat), reachB md ops f j i = true → listed.getD j false = true → listed.getD i false = true
  | 0, _, hr, _ => by cases hr
  | f + 1, j, hr, hl => by
    unfold reachB at hr
    split at hr
    · rename_i oj hoj
      obtain ⟨e, he, hb⟩ := Array.any_eq_true'.1 hr
      simp only [Bool.and_eq_true, Bool.or_eq_true, beq_iff_eq] at hb
      have h1 := h j oj hoj hl e he hb.1
      rcases hb.2 with h2 | h2
      · rw [h2] at h1; exact h1
      · exact reach_listed h f e.on h2 h1
    · cases hr
theorem reach_ready {listed : Array Bool} (h : Closed md ops listed) {f i j : Nat} (hr : reachB md ops f j i = true) (hun : listed.getD i true = false) : j ∉ Region.ready md ops listed := by
  intro hj
  obtain ⟨_, oj, hoj, hall⟩ := mem_ready.1 hj
  cases f with
  | zero => cases hr
  | succ f =>
    unfold reachB at hr
    rw [hoj] at hr
    obtain ⟨e, he, hb⟩ := Array.any_eq_true'.1 hr
    simp only [Bool.and_eq_true, Bool.or_eq_true, beq_iff_eq] at hb
    have h1 := hall e he hb.1
    have h3 : listed.getD i false = true := by
      rcases hb.2 with h2 | h2
      · rw [← h2]; exact h1
      · exact reach_listed h f e.on h2 h1
    rw [getD_both hun] at h3
    cases h3

end
end Go.Proofs.YtphdfbmmjkccgaaDoor

namespace Go.Proofs.YtphdfbmmjkccgaaDoor
open Go.RowKit

section
variable {P : Program} {ops : Array Oper} {Q : Exit → Act → World → Prop} {md : Region.Mode} {S : World → Prop} {brk : Nat → Bool}

/-- Whatever order is picked from here on; S holds behind every operation that is no 'brk'. -/
def wpAnyS (P : Program) (md : Region.Mode) (ops : Array Oper) (Q : Exit → Act → World → Prop) (S : World → Prop) (brk : Nat → Bool) : Nat → Array Bool → Act → World → Prop
  | 0, listed, a, w => Region.ready md ops listed = [] ∧ Q .normal a w
  | fuel + 1, listed, a, w =>
    (Region.ready md ops listed = [] → Q .normal a w) ∧
    ∀ i ∈ Region.ready md ops listed, wpOp P ops Q i (fun a' w' => (brk i = true ∨ S w') ∧ wpAnyS P md ops Q S brk fuel (listed.setIfInBounds i true) a' w') a w

theorem wpAny_of_S : ∀ (fuel : Nat) (listed : Array Bool) (a : Act) (w : World), wpAnyS P md ops Q S brk fuel listed a w → wpAny P md ops Q fuel listed a w
  | 0, _, _, _, h => h
  | fuel + 1, _, _, _, h => ⟨h.1, fun i hi => wpOp_mono (fun a' w' h' => wpAny_of_S fuel _ a' w' h'.2) (h.2 i hi)⟩

theorem wpAnyS_first {i f0 : Nat} {oi : Oper} {v : Value} (hi : ops[i]? = some oi) (hsel : ∀ (j : Nat) (o : Oper) cs b, ops[j]? = some o → o.op ≠ .select cs b)
    (hQ : ∀ c a w, Q (.panic c) (a.put oi.dst v) w → Q (.panic c) a w) (hbrk : ∀ j, brk j = true → reachB md ops f0 j i = true) (hib : brk i = false) :
    ∀ (fuel : Nat) (listed : Array Bool) (a : Act) (w : World), Closed md ops listed →
      (∀ j oj, ops[j]? = some oj → j ≠ i → listed.getD j true = false → (∀ e ∈ oj.after, Region.binds md e = true → e.on ≠ i) → oi.apart ops oj = true) →
      i ∈ Region.ready md ops listed → YieldsIf P ops S oi v a → S w →
      wpAnyS P md ops Q S brk fuel (listed.setIfInBounds i true) (a.put oi.dst v) w → wpAnyS P md ops Q S brk (fuel + 1) listed a w := by
  intro fuel
  induction fuel with
  | zero =>
    intro listed a w _ _ hr hy hS H
    refine ⟨fun h => (by rw [h] at hr; cases hr), fun j hj => ?_⟩
    by_cases hji : j = i
    · subst hji; exact hy.wpOp hi hS ⟨.inr hS, H⟩
    · have := ready_mono hj hji
      rw [H.1] at this
      cases this
  | succ fuel ih =>
    intro listed a w hcl hfree hr hy hS H
    refine ⟨fun h => (by rw [h] at hr; cases hr), fun j hj => ?_⟩
    by_cases hji : j = i
    · subst hji; exact hy.wpOp hi hS ⟨.inr hS, H⟩
    · have hjl : ¬ brk j = true := fun e => reach_ready hcl (hbrk j e) (mem_ready.1 hr).1 hj
      have h1 := H.2 j (ready_mono hj hji)
      obtain ⟨hjun, oj, hoj, hall⟩ := mem_ready.1 hj
      have hnot : ∀ e ∈ oj.after, Region.binds md e = true → e.on ≠ i := fun e he hb heq => by
        have h1 := hall e he hb
        have h0 := (mem_ready.1 hr).1
        rw [heq, getD_both h0] at h1
        cases h1
      have h1' := wpOp_mono (K' := fun a' w' => S w' ∧ wpAnyS P md ops Q S brk fuel ((listed.setIfInBounds i true).setIfInBounds j true) a' w') (fun a' w' h3 => ⟨h3.1.resolve_left hjl, h3.2⟩) h1
      have h2 := wpOp_putIf hoj (hfree j oj hoj hji hjun hnot) (fun cs b => hsel i oi cs b hi) (fun cs b => hsel j oj cs b hoj) hQ hy h1'
      have hfree' : ∀ k ok, ops[k]? = some ok → k ≠ i → (listed.setIfInBounds j true).getD k true = false →
          (∀ e ∈ ok.after, Region.binds md e = true → e.on ≠ i) → oi.apart ops ok = true := fun k ok hk hki hun hno => by
        refine hfree k ok hk hki ?_ hno
        by_cases hjk : j = k
        · subst hjk; exact hjun
        · rw [getD_set_ne true hjk] at hun; exact hun
      refine wpOp_mono (fun a' w' h3 => ⟨.inr h3.2.1, ih (listed.setIfInBounds j true) a' w' (hcl.set hj) hfree' (ready_mono hr (Ne.symm hji)) h3.1 h3.2.1 ?_⟩) h2
      rw [Array.setIfInBounds_comm _ _ hji]
      exact h3.2.2

/-- A plan: what is taken first, what comes up alone, what comes up beside one other. -/
inductive PT where
  | done
  | take (i : Nat) (t : PT)
  | one (i : Nat) (t : PT)
  | two (i j : Nat) (t u : PT)
def PT.len : PT → Nat
  | .done => 0
  | .take _ t => t.len + 1
  | .one _ t => t.len + 1
  | .two _ _ t _ => t.len + 1
/-- Does a plan fit? -/
def planB (md : Region.Mode) (ops : Array Oper) (brks : List Nat) : PT → Array Bool → Bool
  | .done, listed => (Region.ready md ops listed).isEmpty
  | .take i l, listed => (Region.ready md ops listed).contains i && Region.free md ops listed i && (!brks.contains i && brks.all fun j => reachB md ops ops.size j i) && planB md ops brks l (listed.setIfInBounds i true)
  | .one i l, listed => decide (Region.ready md ops listed = [i]) && planB md ops brks l (listed.setIfInBounds i true)
  | .two i j t u, listed => decide (Region.ready md ops listed = [i, j]) && decide (t.len = u.len) && planB md ops brks t (listed.setIfInBounds i true) && planB md ops brks u (listed.setIfInBounds j true)
def planA (md : Region.Mode) (ops : Array Oper) (brks : List Nat) (plan : PT) : Bool :=
  Region.noSelect ops && decide (plan.len = ops.size) && planB md ops brks plan (Array.replicate ops.size false)

/-- The walk along the plan. -/
def wpPlan (P : Program) (ops : Array Oper) (Q : Exit → Act → World → Prop) (S : World → Prop) (brks : List Nat) : PT → Act → World → Prop
  | .done, a, w => Q .normal a w
  | .take i l, a, w => S w ∧ ∃ o v, ops[i]? = some o ∧ YieldsIf P ops S o v a ∧ wpPlan P ops Q S brks l (a.put o.dst v) w
  | .one i l, a, w => wpOp P ops Q i (fun a' w' => (brks.contains i = true ∨ S w') ∧ wpPlan P ops Q S brks l a' w') a w
  | .two i j t u, a, w => wpOp P ops Q i (fun a' w' => (brks.contains i = true ∨ S w') ∧ wpPlan P ops Q S brks t a' w') a w ∧ wpOp P ops Q j (fun a' w' => (brks.contains j = true ∨ S w') ∧ wpPlan P ops Q S brks u a' w') a w

theorem put_panic (hQ : ∀ c (t : Array Value) (a : Act) w, Q (.panic c) ⟨t, a.defers⟩ w → Q (.panic c) a w) {c} {a : Act} {d : Option Tmp} {v : Value} {w : World} (h : Q (.panic c) (a.put d v) w) : Q (.panic c) a w := by
  cases d with
  | none => exact h
  | some d => exact hQ c _ a w h
theorem wpAnyS_plan {brks : List Nat} (hsel : Region.noSelect ops = true) (hQ : ∀ c (t : Array Value) (a : Act) w, Q (.panic c) ⟨t, a.defers⟩ w → Q (.panic c) a w) : ∀ (l : PT) (listed : Array Bool) (a : Act) (w : World),
    Closed md ops listed → planB md ops brks l listed = true → wpPlan P ops Q S brks l a w → wpAnyS P md ops Q S (fun j => brks.contains j) l.len listed a w
  | .done, listed, a, w, _, hB, h => ⟨by simpa [planB] using hB, h⟩
  | .take i l, listed, a, w, hcl, hB, h => by
    simp only [planB, Bool.and_eq_true] at hB
    obtain ⟨⟨⟨hr, hf⟩, hbi, hba⟩, hB'⟩ := hB
    obtain ⟨hS, o, v, ho, hy, hK⟩ := h
    have hr' : i ∈ Region.ready md ops listed := by simpa using hr
    refine wpAnyS_first (f0 := ops.size) ho (Region.noSelect_spec hsel) (fun c a w h => put_panic hQ h) (fun j hj => ?_) (by simpa using hbi) l.len listed a w hcl (Region.free_spec ho hf) hr' hy hS
      (wpAnyS_plan hsel hQ l _ _ _ (hcl.set hr') hB' hK)
    have := List.all_eq_true.1 hba j (by simpa using hj)
    exact this
  | .one i l, listed, a, w, hcl, hB, h => by
    simp only [planB, Bool.and_eq_true, decide_eq_true_eq] at hB
    obtain ⟨hr, hB'⟩ := hB
    refine ⟨fun h0 => (by rw [hr] at h0; cases h0), fun j hj => ?_⟩
    have hj' := hj
    rw [hr] at hj
    have hji : j = i := by simpa using hj
    subst hji
    exact wpOp_mono (fun a' w' h' => ⟨h'.1, wpAnyS_plan hsel hQ l _ _ _ (hcl.set hj') hB' h'.2⟩) h
  | .two i j t u, listed, a, w, hcl, hB, h => by
    simp only [planB, Bool.and_eq_true, decide_eq_true_eq] at hB
    obtain ⟨⟨⟨hr, hlen⟩, hB1⟩, hB2⟩ := hB
    refine ⟨fun h0 => (by rw [hr] at h0; cases h0), fun k hk => ?_⟩
    have hk' := hk
    rw [hr] at hk
    have hki : k = i ∨ k = j := by simpa using hk
    rcases hki with rfl | rfl
    · exact wpOp_mono (fun a' w' h' => ⟨h'.1, wpAnyS_plan hsel hQ t _ _ _ (hcl.set hk') hB1 h'.2⟩) h.1
    · refine wpOp_mono (fun a' w' h' => ⟨h'.1, ?_⟩) h.2
      have h2 := wpAnyS_plan hsel hQ u _ _ _ (hcl.set hk') hB2 h'.2
      rw [← hlen] at h2
      exact h2

/-- The beginning. -/
theorem wp_region_plan (S : World → Prop) (brks : List Nat) (plan : PT) {id : Nat} {a : Act} {w : World} (hm : P.follows .mixedOrders = true) (hA : planA .any ops brks plan = true)
    (hQ : ∀ c (t : Array Value) (a : Act) w, Q (.panic c) ⟨t, a.defers⟩ w → Q (.panic c) a w) (h : wpPlan P ops Q S brks plan a w.drew) : (Code.region id ops true).wp P Q a w := by
  simp only [planA, Bool.and_eq_true, decide_eq_true_eq] at hA
  obtain ⟨⟨hsel, hl⟩, hB⟩ := hA
  have H := wpAnyS_plan (md := .any) hsel hQ plan _ _ _ (Closed.start _) hB h
  rw [hl] at H
  exact wp_region_any hm (wpAny_of_S _ _ _ _ H)

/-- One taken first. -/
theorem wpPlan_take {brks : List Nat} {i : Nat} {o : Oper} {v : Value} {l : PT} {a : Act} {w : World} (ho : ops[i]? = some o) (hS : S w)
    (hw : Region.wanted o (yielded ops a.tmps) = true) (hy : ∀ w, S w → (execOp a.eval o).run P w = .ok (.value v) w) (h : wpPlan P ops Q S brks l (a.put o.dst v) w) : wpPlan P ops Q S brks (.take i l) a w :=
  ⟨hS, o, v, ho, .inl ⟨hw, hy⟩, h⟩
/-- One whose guard says no, taken first. -/
theorem wpPlan_none {brks : List Nat} {i : Nat} {o : Oper} {l : PT} {a : Act} {w : World} (ho : ops[i]? = some o) (hS : S w)
    (hw : Region.wanted o (yielded ops a.tmps) = false) (h : wpPlan P ops Q S brks l (a.put o.dst undef) w) : wpPlan P ops Q S brks (.take i l) a w :=
  ⟨hS, o, undef, ho, .inr ⟨hw, rfl⟩, h⟩
/-- One that comes up alone. -/
theorem wpPlan_run {brks : List Nat} {i : Nat} {o : Oper} {l : PT} {a : Act} {w : World} (ho : ops[i]? = some o) (hw : Region.wanted o (yielded ops a.tmps) = true)
    (h : ∀ K' : Act → World → Prop, (∀ a w, (brks.contains i = true ∨ S w) → wpPlan P ops Q S brks l a w → K' a w) → Oper.wp P o a w K' Q) : wpPlan P ops Q S brks (.one i l) a w := by
  show wpOp P ops Q i _ a w
  unfold wpOp
  simp only [ho, hw, if_true]
  exact .inl (h _ (fun a w hS hW => ⟨hS, hW⟩))
/-- One that comes up alone, whose guard says no. -/
theorem wpPlan_pass {brks : List Nat} {i : Nat} {o : Oper} {l : PT} {a : Act} {w : World} (ho : ops[i]? = some o) (hw : Region.wanted o (yielded ops a.tmps) = false) (hS : S w)
    (h : wpPlan P ops Q S brks l (a.put o.dst undef) w) : wpPlan P ops Q S brks (.one i l) a w := by
  show wpOp P ops Q i _ a w
  unfold wpOp
  simp only [ho, hw, Bool.false_eq_true, if_false]
  exact ⟨.inr hS, h⟩
/-- The same two, the slot told. -/
theorem put_some {a : Act} {o : Oper} {d : Tmp} {v : Value} (hd : o.dst = some d) : a.put o.dst v = ⟨a.tmps.setIfInBounds d v, a.defers⟩ := by rw [hd]; rfl
theorem wpPlan_takeD {brks : List Nat} {i d : Nat} {o : Oper} {v : Value} {l : PT} {a : Act} {w : World} (ho : ops[i]? = some o) (hd : o.dst = some d) (hS : S w)
    (hw : Region.wanted o (yielded ops a.tmps) = true) (hy : ∀ w, S w → (execOp a.eval o).run P w = .ok (.value v) w) (h : wpPlan P ops Q S brks l ⟨a.tmps.setIfInBounds d v, a.defers⟩ w) : wpPlan P ops Q S brks (.take i l) a w :=
  wpPlan_take ho hS hw hy (by rw [put_some hd]; exact h)
theorem wpPlan_noneD {brks : List Nat} {i d : Nat} {o : Oper} {l : PT} {a : Act} {w : World} (ho : ops[i]? = some o) (hd : o.dst = some d) (hS : S w)
    (hw : Region.wanted o (yielded ops a.tmps) = false) (h : wpPlan P ops Q S brks l ⟨a.tmps.setIfInBounds d undef, a.defers⟩ w) : wpPlan P ops Q S brks (.take i l) a w :=
  wpPlan_none ho hS hw (by rw [put_some hd]; exact h)
theorem wpPlan_passD {brks : List Nat} {i d : Nat} {o : Oper} {l : PT} {a : Act} {w : World} (ho : ops[i]? = some o) (hd : o.dst = some d) (hw : Region.wanted o (yielded ops a.tmps) = false) (hS : S w)
    (h : wpPlan P ops Q S brks l ⟨a.tmps.setIfInBounds d undef, a.defers⟩ w) : wpPlan P ops Q S brks (.one i l) a w :=
  wpPlan_pass ho hw hS (by rw [put_some hd]; exact h)
theorem wpPlan_done {brks : List Nat} {a : Act} {w : World} (h : Q .normal a w) : wpPlan P ops Q S brks .done a w := h
end
end Go.Proofs.YtphdfbmmjkccgaaDoor

namespace Go.Proofs.YtphdfbmmjkccgaaDoor
open Go.RowKit Go.Maps

theorem byte_wrap (c : UInt8) (h : 0 < (⟨#[c]⟩ : ByteArray).size) : wrap64 (((⟨#[c]⟩ : ByteArray)[0]'h).toNat : Int) = (c.toNat : Int) := by
  have e : ((⟨#[c]⟩ : ByteArray)[0]'h) = c := rfl
  rw [e]
  have := c.toNat_lt
  unfold wrap64
  omega
end Go.Proofs.YtphdfbmmjkccgaaDoor

namespace Go.Proofs.YtphdfbmmjkccgaaDoor
open Go.RowKit Go.Maps

/-- The maker's own blocks. -/
def mkBlocks (m : Nat) (v : MkV) (b : Nat) : Prop := b = m ∨ v.tv.ownBlock = some b ∨ v.nv.ownBlock = some b ∨ v.pv.ownBlock = some b ∨ v.gv.ownBlock = some b ∨ b = v.bt ∨ b = v.bn ∨ b = v.by_
/-- What a call of the maker's may change: its own blocks alone; what is new lies behind. -/
structure MkFr (m : Nat) (v v' : MkV) (W w' : World) : Prop where
  kp : Kp (fun b => ¬ mkBlocks m v b) W w'
  new : ∀ b, mkBlocks m v' b → mkBlocks m v b ∨ W.heap.size ≤ b
theorem MkFr.trans {m : Nat} {v v1 v2 : MkV} {W w1 w2 : World} (h : MkFr m v v1 W w1) (k : MkFr m v1 v2 w1 w2) : MkFr m v v2 W w2 := by
  refine ⟨⟨k.kp.os.trans h.kp.os, k.kp.tape.trans h.kp.tape, k.kp.output.trans h.kp.output, Nat.le_trans h.kp.size k.kp.size, fun b hb hn => ?_⟩, fun b hb => ?_⟩
  · refine (k.kp.block b (Nat.lt_of_lt_of_le hb h.kp.size) (fun h1 => ?_)).trans (h.kp.block b hb hn)
    rcases h.new b h1 with h2 | h2
    · exact hn h2
    · omega
  · rcases k.new b hb with h1 | h1
    · exact h.new b h1
    · right; exact Nat.le_trans h.kp.size h1
theorem MkFr.below {m : Nat} (v : MkV) {W w' : World} (h : Below W.heap.size W w') : MkFr m v v W w' := ⟨Kp.of_below h (fun _ hk _ => hk), fun _ h => .inl h⟩
theorem row_ne_cells {w : World} {B e size n : Nat} {v : Value} {xs : List Value} {b0 : Nat} {cs : Array Value} {t : TypeId} {fr : Nat × Nat} (h : w.ownsRow B e size v n xs) (hm : w.heap[b0]? = some (.cells cs t fr)) (ht : t ≠ e) : ∀ b, v.ownBlock = some b → b ≠ b0 := ownsRow_ne h hm ht
end Go.Proofs.YtphdfbmmjkccgaaDoor
