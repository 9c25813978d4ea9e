/- The maker of a grammar (gram.maker), as it lies; its small functions. -/
import Derived.Test.YthmimcegiihcnaaDoorHa
import Derived.Test.YthmimcegiihcnaaDoorHZ
import Derived.Test.YthmimcegiihcnaaDoorEp
import Derived.Test.YthmimcegiihcnaaDoorFZ
import Derived.Test.YthmimcegiihcnaaDoorEc
import Derived.Deep.LoopGhost
namespace Go.Proofs.YthmimcegiihcnaaDoor
open Go.RowKit Go.Maps

theorem key_law : Keyed Tryd.prog 119 :=
  Keyed.of_law (deep_law_laid laidOut (m := 2) (by omega) (of_decide_eq_true (by kernel_rfl)) (by kernel_rfl) (by kernel_rfl))
theorem str_law : Keyed Tryd.prog 9 := string_keyed Tryd.underlying9
theorem str_key {s : List UInt8} (h : s.length ≤ maxLen) : ∃ l, keyOf Tryd.prog 9 (.string ⟨s.toArray⟩) = some l := by
  refine ⟨.string s, ?_⟩
  have hs : (⟨s.toArray⟩ : ByteArray).size ≤ maxLen := by rw [Lib.size_eq]; exact h
  simp [keyOf, mapKey, Tryd.underlying9, hs]
theorem cells_key : Tryd.prog.cellsOf 119 = 2 := by kernel_rfl
theorem one_str2 : Tryd.prog.cellsOf 9 = 1 := by kernel_rfl
theorem one_bool2 : Tryd.prog.cellsOf 4 = 1 := by kernel_rfl
theorem keyLits_key (d : Nat) {s : List UInt8} {b : Bool} (h : s.length ≤ maxLen) : Tryd.prog.keyLits (d + 2) 119 [.string ⟨s.toArray⟩, .bool b] = some [.string s, .bool b] := by
  have hs : (⟨s.toArray⟩ : ByteArray).size ≤ maxLen := by rw [Lib.size_eq]; exact h
  have h1 : Tryd.prog.keyLits (d + 1) 9 [.string ⟨s.toArray⟩] = some [.string s] := by
    unfold Program.keyLits
    simp [Tryd.underlying9, hs]
  have h2 : Tryd.prog.keyLits (d + 1) 4 [.bool b] = some [.bool b] := by
    unfold Program.keyLits
    simp [Tryd.underlying4]
  unfold Program.keyLits
  rw [Tryd.underlying119]
  simp [cells_key, one_str2, one_bool2, h1, h2]
theorem sym_key {s : List UInt8} {b : Bool} (h : s.length ≤ maxLen) : ∃ l, keyOf Tryd.prog 119 (.agg #[.string ⟨s.toArray⟩, .bool b]) = some l := by
  refine ⟨.string (keyBytes [.string s, .bool b]), ?_⟩
  unfold keyOf
  rw [Tryd.underlying119]
  have hk : Tryd.prog.keyType 119 = true := by kernel_rfl
  have hf : Value.formed Tryd.prog 119 (.agg #[.string ⟨s.toArray⟩, .bool b]) = true := by
    simp [Value.formed, Tryd.underlying119, cells_key]
  have hl : Tryd.prog.keyLits (Tryd.prog.types.size + 1) 119 (Value.agg #[.string ⟨s.toArray⟩, .bool b]).cells.toList = some [.string s, .bool b] := by
    have e : Tryd.prog.types.size + 1 = (Tryd.prog.types.size - 1) + 2 := by
      have : 1 ≤ Tryd.prog.types.size := of_decide_eq_true (by kernel_rfl)
      omega
    rw [e]
    exact keyLits_key _ h
  simp only [hk, hf, hl, Bool.and_self, if_true, Option.map_some]

/-! ### How it lies -/
def tokC (t : Sp.Tok) : List Value := [.string ⟨t.name.toArray⟩, .bool t.lit, .int .i64 t.num, .int .i64 t.level, .int .i64 t.assoc, .string ⟨t.tag.toArray⟩]
def nonC (n : Sp.Non) : List Value := [.string ⟨n.name.toArray⟩, .string ⟨n.tag.toArray⟩]
def prodC (r a : Value) (p : Sp.Prod) : List Value := [.int .i64 p.left, r, .int .i64 p.prec, .string ⟨p.code.toArray⟩, a, .int .i64 p.at_]
/-- What the maps answer. -/
def keyL (F : List UInt8 → Bool → Option Nat) : Value → Option Value
  | .agg #[.string nm, .bool lt] => (F nm.data.toList lt).map fun (k : Nat) => .int .i64 (k : Int)
  | _ => none
def tokL (toks : List Sp.Tok) : Value → Option Value := keyL (Sp.tokIx toks)
def nonL (lefts : List (List UInt8)) : Value → Option Value
  | .string nm => (Sp.nonIx lefts nm.data.toList).map fun (k : Nat) => .int .i64 (k : Int)
  | _ => none
def typL (types : List (List UInt8 × List UInt8)) : Value → Option Value
  | .string nm => (Sp.typeOf types nm.data.toList).map fun t => .agg #[.string nm, .string ⟨t.toArray⟩]
  | _ => none
def intsC (l : List Int) : List Value := l.map (Value.int .i64)
/-- Productions, each with rows of its own. -/
def ProdsOwn (B : Nat) (w : World) (v : Value) (l : List Sp.Prod) : Prop :=
  ∃ f g : Nat → Value, w.ownsRow B 77 6 v l.length (l.mapIdx fun i p => prodC (f i) (g i) p).flatten ∧
    ∀ (i : Nat) (p : Sp.Prod), l[i]? = some p → (∃ b, w.ownsRow b 3 1 (f i) p.right.length (intsC p.right)) ∧ ∃ b, w.ownsRow b 3 1 (g i) p.args.length (intsC p.args)
/-- The fields that point. -/
structure MkV where
  dv : Value
  rv : Value
  tv : Value
  nv : Value
  pv : Value
  gv : Value
  bt : Nat
  bn : Nat
  by_ : Nat
def mkCells (x : Sp.Source) (s : Sp.Mk) (v : MkV) (e at_ : Int) (nm : List UInt8) : List Value :=
  [.string ⟨x.pro.toArray⟩, v.dv, v.rv, .string ⟨x.tail.toArray⟩, v.tv, v.nv, v.pv, .string ⟨x.pro.toArray⟩, .string ⟨x.tail.toArray⟩, .map (some v.bt), v.gv, .map (some v.bn), .map (some v.by_), .string ⟨s.start.toArray⟩, .int .i64 e, .int .i64 at_, .string ⟨nm.toArray⟩]
/-- The maker at block m: its rows and maps lie behind B. -/
structure MakerAt (B : Nat) (w : World) (m : Nat) (x : Sp.Source) (s : Sp.Mk) (v : MkV) (e at_ : Int) (nm : List UInt8) : Prop where
  block : w.heap[m]? = some (.cells (mkCells x s v e at_ nm).toArray 124 (0, 0))
  toks : w.ownsRow B 73 6 v.tv s.toks.length (s.toks.map tokC).flatten
  given : w.ownsRow B 4 1 v.gv s.given.length (s.given.map Value.bool)
  nons : w.ownsRow B 80 2 v.nv s.nons.length (s.nons.map nonC).flatten
  prods : ProdsOwn B w v.pv s.prods
  tmap : MapIs Tryd.prog 119 w v.bt s.toks.length (tokL s.toks)
  nmap : MapIs Tryd.prog 9 w v.bn s.lefts.length (nonL s.lefts)
  ymap : MapIs Tryd.prog 9 w v.by_ s.types.length (typL s.types)
  behind : B ≤ m ∧ B ≤ v.bt ∧ B ≤ v.bn ∧ B ≤ v.by_
  apart : v.bt ≠ v.bn ∧ v.bt ≠ v.by_ ∧ v.bn ≠ v.by_
  same : s.given.length = s.toks.length
  three : 3 ≤ s.toks.length

set_option maxHeartbeats 800000 in
theorem gram_keyOf (s : Sp.Sym) (W : World) :
    Calls Tryd.prog 106 #[symV s] W fun e w' => e = .returned (.agg #[.string ⟨s.name.toArray⟩, .bool s.lit]) ∧ Below W.heap.size W w' := by
  obtain ⟨nm, lt, nu, pa⟩ := s
  show Calls _ _ #[.agg #[.string ⟨nm.toArray⟩, .bool lt, .int .i64 nu, .int .i64 pa]] _ _
  go_enter Tryd.func106, Tryd.ntmps106
  go_wp2_with fail
  refine ret_cell (g := W.heap.size + 1) (cs := #[.string ⟨nm.toArray⟩, .bool lt]) (t := 119) (fr := (0, 0)) rfl rfl (heap_sec W _ _) rfl Tryd.underlying119 (by kernel_rfl) rfl ⟨rfl, ?hb⟩
  exact ((Below.refl _ W).alloc (Nat.le_refl _) _).alloc (by simp) _
theorem maker_same {B : Nat} {w w' : World} {m : Nat} {x : Sp.Source} {s : Sp.Mk} {v : MkV} {e at_ : Int} {nm : List UInt8} (h : MakerAt B w m x s v e at_ nm) (hb : Below w.heap.size w w') : MakerAt B w' m x s v e at_ nm := by
  obtain ⟨h1, h2, h3, h4, ⟨f, g, p1, p2⟩, h6, h7, h8, h9⟩ := h
  refine ⟨(hb.block m (lt_at h1)).trans h1, ownsRow_below h2 hb, ownsRow_below h3 hb, ownsRow_below h4 hb, ⟨f, g, ownsRow_below p1 hb, fun i p hp => ?_⟩, h6.block (hb.block _ h6.lt), h7.block (hb.block _ h7.lt), h8.block (hb.block _ h8.lt), h9, ‹_›, ‹_›, ‹_›⟩
  obtain ⟨⟨b, k1⟩, c, k2⟩ := p2 i p hp
  exact ⟨⟨b, ownsRow_below k1 hb⟩, c, ownsRow_below k2 hb⟩
set_option maxHeartbeats 800000 in
/-- The first fault is kept. -/
theorem maker_wrong {B : Nat} {W : World} {m : Nat} {x : Sp.Source} {s : Sp.Mk} {v : MkV} (nm : List UInt8) (at_ : Int) (h : MakerAt B W m x s v 0 0 []) :
    Calls Tryd.prog 89 #[.pointer (some ⟨m, 0, none⟩), .string ⟨nm.toArray⟩, .int .i64 at_] W fun e w' => e = .returned (.bool true) ∧ w'.heap[m]? = some (.cells (mkCells x s v 3 at_ nm).toArray 124 (0, 0)) ∧ Kp (fun b => b ≠ m) W w' := by
  have hb := h.block
  unfold mkCells at hb
  have c14 := cell_at (i := 14) hb; have c15 := cell_at (i := 15) hb; have c16 := cell_at (i := 16) hb
  have f14 := frozen_at (i := 14) hb; have f15 := frozen_at (i := 15) hb; have f16 := frozen_at (i := 16) hb
  have hl := lt_at hb
  have HB := Lib.hid hb
  clear h hb
  go_enter Tryd.func89, Tryd.ntmps89
  go_wp2_with fail
  go_ret
  exact ⟨rfl, heap_setCell_at (heap_setCell_at (heap_setCell_at HB.out)), (((Kp.refl _ W).setCell (p := ⟨m, 14, none⟩) (by simp) _).setCell (p := ⟨m, 15, none⟩) (by simp) _).setCell (p := ⟨m, 16, none⟩) (by simp) _⟩
end Go.Proofs.YthmimcegiihcnaaDoor
