/- The maker of a grammar (gram.maker), as it lies; its small functions. gram's maker: taken, clash. gram's maker: clash, symbol. -/
import Derived.Deep.LoopGhost
import Derived.Test.YthmimcegiihcnaaDoorZ10
import Derived.Test.YthmimcegiihcnaaDoorZ04
import Derived.Test.YthmimcegiihcnaaDoorZ00
import Derived.Test.YthmimcegiihcnaaDoorZ05
import Derived.Laws.OwnMore
namespace Go.Proofs.YthmimcegiihcnaaDoor
open Go.RowKit Go.Maps

theorem key_law : Keyed Tryd.prog 119 :=
  Keyed.of_law (deep_law_laid laidOut (m := 2) (by omega) (of_decide_eq_true (by kernel_rfl)) (by kernel_rfl) (by kernel_rfl))
theorem str_law : Keyed Tryd.prog 9 := string_keyed Tryd.underlying9
theorem str_key {s : List UInt8} (h : s.length ≤ maxLen) : ∃ l, keyOf Tryd.prog 9 (.string ⟨s.toArray⟩) = some l := by
  refine ⟨.string s, ?_⟩
  have hs : (⟨s.toArray⟩ : ByteArray).size ≤ maxLen := by rw [Lib.size_eq]; exact h
  simp [keyOf, mapKey, Tryd.underlying9, hs]
theorem cells_key : Tryd.prog.cellsOf 119 = 2 := by kernel_rfl
theorem one_str2 : Tryd.prog.cellsOf 9 = 1 := by kernel_rfl
theorem one_bool2 : Tryd.prog.cellsOf 4 = 1 := by kernel_rfl
theorem keyLits_key (d : Nat) {s : List UInt8} {b : Bool} (h : s.length ≤ maxLen) : Tryd.prog.keyLits (d + 2) 119 [.string ⟨s.toArray⟩, .bool b] = some [.string s, .bool b] := by
  have hs : (⟨s.toArray⟩ : ByteArray).size ≤ maxLen := by rw [Lib.size_eq]; exact h
  have h1 : Tryd.prog.keyLits (d + 1) 9 [.string ⟨s.toArray⟩] = some [.string s] := by
    unfold Program.keyLits
    simp [Tryd.underlying9, hs]
  have h2 : Tryd.prog.keyLits (d + 1) 4 [.bool b] = some [.bool b] := by
    unfold Program.keyLits
    simp [Tryd.underlying4]
  unfold Program.keyLits
  rw [Tryd.underlying119]
  simp [cells_key, one_str2, one_bool2, h1, h2]
theorem sym_key {s : List UInt8} {b : Bool} (h : s.length ≤ maxLen) : ∃ l, keyOf Tryd.prog 119 (.agg #[.string ⟨s.toArray⟩, .bool b]) = some l := by
  refine ⟨.string (keyBytes [.string s, .bool b]), ?_⟩
  unfold keyOf
  rw [Tryd.underlying119]
  have hk : Tryd.prog.keyType 119 = true := by kernel_rfl
  have hf : Value.formed Tryd.prog 119 (.agg #[.string ⟨s.toArray⟩, .bool b]) = true := by
    simp [Value.formed, Tryd.underlying119, cells_key]
  have hl : Tryd.prog.keyLits (Tryd.prog.types.size + 1) 119 (Value.agg #[.string ⟨s.toArray⟩, .bool b]).cells.toList = some [.string s, .bool b] := by
    have e : Tryd.prog.types.size + 1 = (Tryd.prog.types.size - 1) + 2 := by
      have : 1 ≤ Tryd.prog.types.size := of_decide_eq_true (by kernel_rfl)
      omega
    rw [e]
    exact keyLits_key _ h
  simp only [hk, hf, hl, Bool.and_self, if_true, Option.map_some]

/-! ### How it lies -/
def tokC (t : Sp.Tok) : List Value := [.string ⟨t.name.toArray⟩, .bool t.lit, .int .i64 t.num, .int .i64 t.level, .int .i64 t.assoc, .string ⟨t.tag.toArray⟩]
def nonC (n : Sp.Non) : List Value := [.string ⟨n.name.toArray⟩, .string ⟨n.tag.toArray⟩]
def prodC (r a : Value) (p : Sp.Prod) : List Value := [.int .i64 p.left, r, .int .i64 p.prec, .string ⟨p.code.toArray⟩, a, .int .i64 p.at_]
/-- What the maps answer. -/
def keyL (F : List UInt8 → Bool → Option Nat) : Value → Option Value
  | .agg #[.string nm, .bool lt] => (F nm.data.toList lt).map fun (k : Nat) => .int .i64 (k : Int)
  | _ => none
def tokL (toks : List Sp.Tok) : Value → Option Value := keyL (Sp.tokIx toks)
def nonL (lefts : List (List UInt8)) : Value → Option Value
  | .string nm => (Sp.nonIx lefts nm.data.toList).map fun (k : Nat) => .int .i64 (k : Int)
  | _ => none
def typL (types : List (List UInt8 × List UInt8)) : Value → Option Value
  | .string nm => (Sp.typeOf types nm.data.toList).map fun t => .agg #[.string nm, .string ⟨t.toArray⟩]
  | _ => none
def intsC (l : List Int) : List Value := l.map (Value.int .i64)
/-- Productions, each with rows of its own. -/
def ProdsOwn (B : Nat) (w : World) (v : Value) (l : List Sp.Prod) : Prop :=
  ∃ f g : Nat → Value, w.ownsRow B 77 6 v l.length (l.mapIdx fun i p => prodC (f i) (g i) p).flatten ∧
    ∀ (i : Nat) (p : Sp.Prod), l[i]? = some p → (∃ b, w.ownsRow b 3 1 (f i) p.right.length (intsC p.right)) ∧ ∃ b, w.ownsRow b 3 1 (g i) p.args.length (intsC p.args)
/-- The fields that point. -/
structure MkV where
  dv : Value
  rv : Value
  tv : Value
  nv : Value
  pv : Value
  gv : Value
  bt : Nat
  bn : Nat
  by_ : Nat
def mkCells (x : Sp.Source) (s : Sp.Mk) (v : MkV) (e at_ : Int) (nm : List UInt8) : List Value :=
  [.string ⟨x.pro.toArray⟩, v.dv, v.rv, .string ⟨x.tail.toArray⟩, v.tv, v.nv, v.pv, .string ⟨x.pro.toArray⟩, .string ⟨x.tail.toArray⟩, .map (some v.bt), v.gv, .map (some v.bn), .map (some v.by_), .string ⟨s.start.toArray⟩, .int .i64 e, .int .i64 at_, .string ⟨nm.toArray⟩]
/-- The maker at block m: its rows and maps lie behind B. -/
structure MakerAt (B : Nat) (w : World) (m : Nat) (x : Sp.Source) (s : Sp.Mk) (v : MkV) (e at_ : Int) (nm : List UInt8) : Prop where
  block : w.heap[m]? = some (.cells (mkCells x s v e at_ nm).toArray 124 (0, 0))
  toks : w.ownsRow B 73 6 v.tv s.toks.length (s.toks.map tokC).flatten
  given : w.ownsRow B 4 1 v.gv s.given.length (s.given.map Value.bool)
  nons : w.ownsRow B 80 2 v.nv s.nons.length (s.nons.map nonC).flatten
  prods : ProdsOwn B w v.pv s.prods
  tmap : MapIs Tryd.prog 119 w v.bt s.toks.length (tokL s.toks)
  nmap : MapIs Tryd.prog 9 w v.bn s.lefts.length (nonL s.lefts)
  ymap : MapIs Tryd.prog 9 w v.by_ s.types.length (typL s.types)
  behind : B ≤ m ∧ B ≤ v.bt ∧ B ≤ v.bn ∧ B ≤ v.by_
  apart : v.bt ≠ v.bn ∧ v.bt ≠ v.by_ ∧ v.bn ≠ v.by_
  same : s.given.length = s.toks.length
  three : 3 ≤ s.toks.length

set_option maxHeartbeats 800000 in
theorem gram_keyOf (s : Sp.Sym) (W : World) :
    Calls Tryd.prog 106 #[symV s] W fun e w' => e = .returned (.agg #[.string ⟨s.name.toArray⟩, .bool s.lit]) ∧ Below W.heap.size W w' := by
  obtain ⟨nm, lt, nu, pa⟩ := s
  show Calls _ _ #[.agg #[.string ⟨nm.toArray⟩, .bool lt, .int .i64 nu, .int .i64 pa]] _ _
  go_enter Tryd.func106, Tryd.ntmps106
  go_wp2_with fail
  refine ret_cell (g := W.heap.size + 1) (cs := #[.string ⟨nm.toArray⟩, .bool lt]) (t := 119) (fr := (0, 0)) rfl rfl (heap_sec W _ _) rfl Tryd.underlying119 (by kernel_rfl) rfl ⟨rfl, ?hb⟩
  exact ((Below.refl _ W).alloc (Nat.le_refl _) _).alloc (by simp) _
theorem maker_same {B : Nat} {w w' : World} {m : Nat} {x : Sp.Source} {s : Sp.Mk} {v : MkV} {e at_ : Int} {nm : List UInt8} (h : MakerAt B w m x s v e at_ nm) (hb : Below w.heap.size w w') : MakerAt B w' m x s v e at_ nm := by
  obtain ⟨h1, h2, h3, h4, ⟨f, g, p1, p2⟩, h6, h7, h8, h9⟩ := h
  refine ⟨(hb.block m (lt_at h1)).trans h1, ownsRow_below h2 hb, ownsRow_below h3 hb, ownsRow_below h4 hb, ⟨f, g, ownsRow_below p1 hb, fun i p hp => ?_⟩, h6.block (hb.block _ h6.lt), h7.block (hb.block _ h7.lt), h8.block (hb.block _ h8.lt), h9, ‹_›, ‹_›, ‹_›⟩
  obtain ⟨⟨b, k1⟩, c, k2⟩ := p2 i p hp
  exact ⟨⟨b, ownsRow_below k1 hb⟩, c, ownsRow_below k2 hb⟩
set_option maxHeartbeats 800000 in
/-- The first fault is kept. -/
theorem maker_wrong {B : Nat} {W : World} {m : Nat} {x : Sp.Source} {s : Sp.Mk} {v : MkV} (nm : List UInt8) (at_ : Int) (h : MakerAt B W m x s v 0 0 []) :
    Calls Tryd.prog 89 #[.pointer (some ⟨m, 0, none⟩), .string ⟨nm.toArray⟩, .int .i64 at_] W fun e w' => e = .returned (.bool true) ∧ w'.heap[m]? = some (.cells (mkCells x s v 3 at_ nm).toArray 124 (0, 0)) ∧ Kp (fun b => b ≠ m) W w' := by
  have hb := h.block
  unfold mkCells at hb
  have c14 := cell_at (i := 14) hb; have c15 := cell_at (i := 15) hb; have c16 := cell_at (i := 16) hb
  have f14 := frozen_at (i := 14) hb; have f15 := frozen_at (i := 15) hb; have f16 := frozen_at (i := 16) hb
  have hl := lt_at hb
  have HB := Lib.hid hb
  clear h hb
  go_enter Tryd.func89, Tryd.ntmps89
  go_wp2_with fail
  go_ret
  exact ⟨rfl, heap_setCell_at (heap_setCell_at (heap_setCell_at HB.out)), (((Kp.refl _ W).setCell (p := ⟨m, 14, none⟩) (by simp) _).setCell (p := ⟨m, 15, none⟩) (by simp) _).setCell (p := ⟨m, 16, none⟩) (by simp) _⟩
end Go.Proofs.YthmimcegiihcnaaDoor

namespace Go.Proofs.YthmimcegiihcnaaDoor
open Go.RowKit Go.Maps

theorem row_cell {w : World} {B e size g n cap : Nat} {α : Type} {row : α → List Value} {l : List α} (ho : w.ownsRow B e size (.slice (some ⟨g, 0, none⟩) n cap) n (l.map row).flatten) (hr : ∀ a, (row a).length = size) {k : Nat} {a : α} (hk : l[k]? = some a) (hkn : k < n) {j : Nat} {u : Value} (hj : (row a)[j]? = some u) :
    w.cell? ⟨g, k * size + j, none⟩ = some u := by
  have hjs : j < size := by rw [← hr a]; exact (List.getElem?_eq_some_iff.1 hj).1
  rw [ho.cellAt (k * size + j) (by
    have := Nat.mul_le_mul_right size (show k + 1 ≤ n from hkn)
    rw [Nat.succ_mul] at this; omega)]
  refine flatten_at size _ (fun r hr' => ?_) k (row a) (by rw [List.getElem?_map, hk]; rfl) j u hj
  obtain ⟨b, _, rfl⟩ := List.mem_map.1 hr'
  exact hr b
theorem row_cell1 {w : World} {B e g n cap : Nat} {α : Type} {row : α → Value} {l : List α} (ho : w.ownsRow B e 1 (.slice (some ⟨g, 0, none⟩) n cap) n (l.map row)) {k : Nat} {a : α} (hk : l[k]? = some a) (hkn : k < n) :
    w.cell? ⟨g, k, none⟩ = some (row a) := by
  rw [ho.cellAt k (by omega), List.getElem?_map, hk]; rfl
set_option maxRecDepth 100000 in
set_option maxHeartbeats 3200000 in
theorem maker_taken {B : Nat} {W : World} {m : Nat} {x : Sp.Source} {s : Sp.Mk} {v : MkV} {e0 at0 : Int} {nm0 : List UInt8} (num but : Int) (h : MakerAt B W m x s v e0 at0 nm0) (hn63 : s.toks.length ≤ 2 ^ 62) :
    Calls Tryd.prog 107 #[.pointer (some ⟨m, 0, none⟩), .int .i64 num, .int .i64 but] W fun e w' => e = .returned (.bool (Sp.taken s num but)) ∧ W = w' := by
  have hb := h.block
  have ht := h.toks; have hg := h.given; have hsm := h.same; have h3 := h.three
  obtain ⟨gt, ct, htv⟩ := own_form ht (by omega)
  obtain ⟨gg, cg, hgv⟩ := own_form hg (by omega)
  unfold mkCells at hb
  rw [htv] at hb ht
  rw [hgv] at hb hg
  generalize hR : Sp.taken s num but = R
  unfold Sp.taken at hR
  obtain ⟨toks, given, lefts, nons, prods, types, start⟩ := s
  simp only at *
  rw [hsm] at hb hg
  have c4 := cell_at (i := 4) hb; have c10 := cell_at (i := 10) hb
  have hl := lt_at hb
  have hlt : gt < W.heap.size := (ht.lt gt rfl).2
  have hlg : gg < W.heap.size := (hg.lt gg rfl).2
  generalize hn : toks.length = n at *
  have HT := Lib.hid ht; have HG := Lib.hid hg; have HR := Lib.hid hR; have HN := Lib.hid hn; have HSM := Lib.hid hsm
  clear h hb ht hg hR hn hsm htv hgv
  go_enter Tryd.func107, Tryd.ntmps107
  go_wp2_with fail
  go_loopg [7] (n - 3) (fun g iv wr => ∃ k : Nat, 3 ≤ k ∧ k ≤ n ∧ g = n - k ∧ iv = .int .i64 k ∧ W = wr ∧ Sp.takenGo num but k (toks.drop k) (given.drop k) = R)
  case atStart => exact ⟨3, Nat.le_refl _, h3, rfl, rfl, rfl, HR.out⟩
  case round =>
    obtain ⟨k, hk3, hk, rfl, rfl, rfl, hR⟩ := hrel
    have HRR := Lib.hid hR
    clear hR
    have hk0 : (0 : Int) ≤ (k : Int) := Int.natCast_nonneg _
    by_cases hkn : k < n
    · have hk1 : (k : Int) < (n : Int) := by omega
      have hkt : k < toks.length := by have := HN.out; omega
      have hkg : k < given.length := by have := HSM.out; omega
      have e1 := List.getElem?_eq_getElem hkt
      have e2 := List.getElem?_eq_getElem hkg
      have d1 : toks.drop k = toks[k] :: toks.drop (k + 1) := List.drop_eq_getElem_cons hkt
      have d2 : given.drop k = given[k] :: given.drop (k + 1) := List.drop_eq_getElem_cons hkg
      have hR := HRR.out
      rw [d1, d2] at hR
      unfold Sp.takenGo at hR
      generalize toks[k] = t at *
      generalize given[k] = gk at *
      have ct := row_cell HT.out (fun _ => rfl) e1 hkn (j := 2) (u := .int .i64 t.num) rfl
      have cg := row_cell1 HG.out e2 hkn
      generalize t.num = tn at *
      clear d1 d2 e1 e2 hkt hkg
      by_cases hkb : (k : Int) = but
      · subst hkb
        have HR2 : Hid (Sp.takenGo num (k : Int) (k + 1) (toks.drop (k + 1)) (given.drop (k + 1)) = R) := Lib.hid (by simpa using hR)
        clear hR HRR
        go_wp2_with fail
        go_roundg (n - (k + 1))
        case measure => omega
        case rel => exact ⟨k + 1, by omega, by omega, by omega, by go_num, rfl, HR2.out⟩
      · have hkd : decide ((k : Int) = but) = false := decide_eq_false hkb
        have hkd2 : ((k : Int) == but) = false := by rw [beq_eq_false_iff_ne]; exact hkb
        cases gk with
        | false =>
          have HR2 : Hid (Sp.takenGo num but (k + 1) (toks.drop (k + 1)) (given.drop (k + 1)) = R) := Lib.hid (by simpa using hR)
          clear hR HRR
          go_wp2_with fail
          go_roundg (n - (k + 1))
          case measure => omega
          case rel => exact ⟨k + 1, by omega, by omega, by omega, by go_num, rfl, HR2.out⟩
        | true =>
          by_cases hnu : tn = num
          · subst hnu
            have HR2 : Hid (true = R) := Lib.hid (by rw [← hR]; simp [hkb])
            clear hR HRR
            go_wp2_with fail
            go_ret
            exact ⟨ret_bool HR2.out, rfl⟩
          · have hnd : (tn == num) = false := by rw [beq_eq_false_iff_ne]; exact hnu
            have HR2 : Hid (Sp.takenGo num but (k + 1) (toks.drop (k + 1)) (given.drop (k + 1)) = R) := Lib.hid (by simpa [hnd] using hR)
            clear hR HRR
            go_wp2_with fail
            go_roundg (n - (k + 1))
            case measure => omega
            case rel => exact ⟨k + 1, by omega, by omega, by omega, by go_num, rfl, HR2.out⟩
    · obtain rfl : k = n := by omega
      have HR2 : Hid (false = R) := Lib.hid (by
        have h := HRR.out
        rw [List.drop_eq_nil_of_le (by rw [HN.out]; exact Nat.le_refl _)] at h
        unfold Sp.takenGo at h
        exact h)
      clear HRR
      go_wp2_with fail
      go_ret
      exact ⟨ret_bool HR2.out, rfl⟩
end Go.Proofs.YthmimcegiihcnaaDoor

namespace Go.Proofs.YthmimcegiihcnaaDoor
open Go.RowKit Go.Maps

theorem byte_wrap (c : UInt8) (h : 0 < (⟨#[c]⟩ : ByteArray).size) : wrap64 (((⟨#[c]⟩ : ByteArray)[0]'h).toNat : Int) = (c.toNat : Int) := by
  have e : ((⟨#[c]⟩ : ByteArray)[0]'h) = c := rfl
  rw [e]
  have := c.toNat_lt
  unfold wrap64
  omega
theorem zero_int (w : World) : (zeroValue 3).run Tryd.prog w = .ok (.int .i64 0) w := by kernel_rfl
theorem maker_box {B : Nat} {W : World} {m : Nat} {x : Sp.Source} {s : Sp.Mk} {v : MkV} {e0 at0 : Int} {nm0 : List UInt8} (h : MakerAt B W m x s v e0 at0 nm0) {o : Obj} {w' : World} (hb : Below (W.heap.size + 1) (W.alloc o) w') : MakerAt B w' m x s v e0 at0 nm0 :=
  maker_same h (((Below.refl _ W).alloc (Nat.le_refl _) o).trans (hb.mono (by omega)))
set_option maxRecDepth 100000 in
set_option maxHeartbeats 6400000 in
theorem maker_clash {B : Nat} {W : World} {m : Nat} {x : Sp.Source} {s : Sp.Mk} {v : MkV} {e0 at0 : Int} {nm0 : List UInt8} (y : Sp.Sym) (h : MakerAt B W m x s v e0 at0 nm0) (hn63 : s.toks.length ≤ 2 ^ 62) (hy : y.name.length ≤ maxLen) (hy1 : y.lit = true → ∃ c, y.name = [c]) :
    Calls Tryd.prog 108 #[.pointer (some ⟨m, 0, none⟩), symV y] W fun e w' => e = .returned (.bool (Sp.clash s y)) ∧ Below W.heap.size W w' := by
  obtain ⟨nm, lt, nu, pa⟩ := y
  simp only at hy hy1
  have hb := h.block
  unfold mkCells at hb
  have hl := lt_at hb
  have htm := h.tmap
  generalize hbt : v.bt = bt at *
  obtain ⟨kl, hkl⟩ := sym_key (b := lt) hy
  have HH := Lib.hid h
  have hHS1 : ∀ (ov : Int) (ob : Bool), (match Sp.tokIx s.toks nm lt with
      | some k => ((k : Int), true)
      | none => ((0 : Int), false)) = (ov, ob) → ∀ w', Below (W.heap.size + 1) (W.alloc (.cells #[.string ⟨nm.toArray⟩, .bool lt, .int .i64 nu, .int .i64 pa] 40)) w' → (w'.cell? ⟨m, 9, none⟩ = some (.map (some bt)) ∧ w'.cell? ⟨W.heap.size, 0, none⟩ = some (.string ⟨nm.toArray⟩) ∧ w'.cell? ⟨W.heap.size, 1, none⟩ = some (.bool lt) ∧ w'.cell? ⟨W.heap.size, 2, none⟩ = some (.int .i64 nu) ∧ w'.cell? ⟨W.heap.size, 3, none⟩ = some (.int .i64 pa) ∧ (Instr.lookup 120 (.map (some bt)) (.agg #[.string ⟨nm.toArray⟩, .bool lt]) true).run Tryd.prog w' = .ok (.tuple #[.int .i64 ov, .bool ob]) w') := by
    intro ov ob hob w' hw'
    have hbx := (hw'.block W.heap.size (by omega)).trans (heap_last W _)
    have hbm := (hw'.block m (by omega)).trans ((Below.heap_alloc _ _ _ hl).trans hb)
    have hk := (htm.block ((hw'.block bt (by have := htm.lt; omega)).trans (Below.heap_alloc _ _ _ htm.lt))).look true key_law Tryd.underlying120 (zero_int w') hkl
    refine ⟨cell_at (i := 9) hbm, cell_at (i := 0) hbx, cell_at (i := 1) hbx, cell_at (i := 2) hbx, cell_at (i := 3) hbx, ?_⟩
    rw [hk]
    have e : tokL s.toks (.agg #[.string ⟨nm.toArray⟩, .bool lt]) = (Sp.tokIx s.toks nm lt).map fun (k : Nat) => Value.int .i64 (k : Int) := rfl
    rw [e]
    cases ho : Sp.tokIx s.toks nm lt with
    | some k => rw [ho] at hob; simp only [Prod.mk.injEq] at hob; obtain ⟨rfl, rfl⟩ := hob; rfl
    | none => rw [ho] at hob; simp only [Prod.mk.injEq] at hob; obtain ⟨rfl, rfl⟩ := hob; rfl
  have HKY := Lib.hid (fun w => (show Calls Tryd.prog 106 #[.agg #[.string ⟨nm.toArray⟩, .bool lt, .int .i64 nu, .int .i64 pa]] w (fun e w' => e = .returned (.agg #[.string ⟨nm.toArray⟩, .bool lt]) ∧ Below w.heap.size w w') from gram_keyOf ⟨nm, lt, nu, pa⟩ w))
  have HTK := Lib.hid (fun w' (h : Below (W.heap.size + 1) (W.alloc (.cells #[.string ⟨nm.toArray⟩, .bool lt, .int .i64 nu, .int .i64 pa] 40)) w') => maker_taken (Sp.byte0 nm) (-1) (maker_box HH.out h) hn63)
  unfold Sp.clash
  simp only
  generalize Sp.taken s (Sp.byte0 nm) (-1) = tk at *
  cases ho : Sp.tokIx s.toks nm lt with
  | some k =>
    rw [ho] at hHS1
    have HS1 := Lib.hid (hHS1 _ _ rfl)
    clear hHS1 HTK htm hb h
    show Calls _ _ #[_, .agg #[.string ⟨nm.toArray⟩, .bool lt, .int .i64 nu, .int .i64 pa]] _ _
    go_enter Tryd.func108, Tryd.ntmps108
    go_wp2_with fail
    refine wp_region_plan (fun w' : World => (w'.cell? ⟨m, 9, none⟩ = some (.map (some bt)) ∧ w'.cell? ⟨W.heap.size, 0, none⟩ = some (.string ⟨nm.toArray⟩) ∧ w'.cell? ⟨W.heap.size, 1, none⟩ = some (.bool lt) ∧ w'.cell? ⟨W.heap.size, 2, none⟩ = some (.int .i64 nu) ∧ w'.cell? ⟨W.heap.size, 3, none⟩ = some (.int .i64 pa) ∧ (Instr.lookup 120 (.map (some bt)) (.agg #[.string ⟨nm.toArray⟩, .bool lt]) true).run Tryd.prog w' = .ok (.tuple #[.int .i64 (k : Int), .bool true]) w')) [] (.take 0 (.take 1 (.take 2 (.take 3 (.take 4 (.one 5 (.take 6 (.take 7 (.take 8 (.take 9 (.one 10 (.one 11 (.done))))))))))))) (by kernel_rfl) (by kernel_rfl) (fun _ _ _ _ h => h) ?_
    have hSw := HS1.out _ (below_drewN (Below.refl _ _) 1)
    refine wpPlan_take (v := ?vs1) rfl hSw (by rfl) ?ys1 ?_
    case ys1 => (intro w hSx; (try dsimp only at hSx); go_simp; first | done | with_reducible rfl | rfl)
    (try simp only [Act.put, List.setIfInBounds_toArray, List.set_cons_zero, List.set_cons_succ])
    refine wpPlan_take (v := ?vs2) rfl hSw (by rfl) ?ys2 ?_
    case ys2 => (intro w hSx; (try dsimp only at hSx); go_simp; first | done | with_reducible rfl | rfl)
    (try simp only [Act.put, List.setIfInBounds_toArray, List.set_cons_zero, List.set_cons_succ])
    refine wpPlan_take (v := ?vs3) rfl hSw (by rfl) ?ys3 ?_
    case ys3 => (intro w hSx; (try dsimp only at hSx); go_simp; first | done | with_reducible rfl | rfl)
    (try simp only [Act.put, List.setIfInBounds_toArray, List.set_cons_zero, List.set_cons_succ])
    refine wpPlan_take (v := ?vs4) rfl hSw (by rfl) ?ys4 ?_
    case ys4 => (intro w hSx; (try dsimp only at hSx); go_simp; first | done | with_reducible rfl | rfl)
    (try simp only [Act.put, List.setIfInBounds_toArray, List.set_cons_zero, List.set_cons_succ])
    refine wpPlan_take (v := ?vs5) rfl hSw (by rfl) ?ys5 ?_
    case ys5 => (intro w hSx; (try dsimp only at hSx); go_simp; first | done | with_reducible rfl | rfl)
    (try simp only [Act.put, List.setIfInBounds_toArray, List.set_cons_zero, List.set_cons_succ])
    refine wpPlan_run rfl (by rfl) (fun K' hK => ?_)
    (go_simp; go_at_call 106; refine (HKY.out _).mono ?_; rintro e w1 ⟨rfl, hb1⟩; have HB1 := Lib.hid (show Below (W.heap.size + 1) (W.alloc (.cells #[.string ⟨nm.toArray⟩, .bool lt, .int .i64 nu, .int .i64 pa] 40)) w1 from (below_undrew hb1).mono (by show _ ≤ (W.alloc _).heap.size; simp)); clear hb1)
    refine hK _ _ (.inr ?_) ?_
    · exact HS1.out _ HB1.out
    clear hK K' hSw
    have hSw := HS1.out _ HB1.out
    (try simp only [Act.put, List.setIfInBounds_toArray, List.set_cons_zero, List.set_cons_succ])
    refine wpPlan_take (v := ?vs6) rfl hSw (by rfl) ?ys6 ?_
    case ys6 => (intro w hSx; (try dsimp only at hSx); go_simp; first | done | with_reducible rfl | rfl)
    (try simp only [Act.put, List.setIfInBounds_toArray, List.set_cons_zero, List.set_cons_succ])
    refine wpPlan_take (v := ?vs7) rfl hSw (by rfl) ?ys7 ?_
    case ys7 => (intro w hSx; (try dsimp only at hSx); go_simp; first | done | with_reducible rfl | rfl)
    (try simp only [Act.put, List.setIfInBounds_toArray, List.set_cons_zero, List.set_cons_succ])
    refine wpPlan_take (v := ?vs8) rfl hSw (by rfl) ?ys8 ?_
    case ys8 => (intro w hSx; (try dsimp only at hSx); go_simp; first | done | with_reducible rfl | rfl)
    (try simp only [Act.put, List.setIfInBounds_toArray, List.set_cons_zero, List.set_cons_succ])
    refine wpPlan_take (v := ?vs9) rfl hSw (by rfl) ?ys9 ?_
    case ys9 => (intro w hSx; (try dsimp only at hSx); go_simp; first | done | with_reducible rfl | rfl)
    (try simp only [Act.put, List.setIfInBounds_toArray, List.set_cons_zero, List.set_cons_succ])
    refine wpPlan_run rfl (by rfl) (fun K' hK => ?_)
    go_simp
    refine hK _ _ (.inr ?_) ?_
    · exact HS1.out _ HB1.out
    clear hK K' hSw
    (try simp only [Act.put, List.setIfInBounds_toArray, List.set_cons_zero, List.set_cons_succ])
    refine wpPlan_run rfl (by rfl) (fun K' hK => ?_)
    go_simp
    refine hK _ _ (.inr ?_) ?_
    · exact HS1.out _ HB1.out
    clear hK K'
    (try simp only [Act.put, List.setIfInBounds_toArray, List.set_cons_zero, List.set_cons_succ])
    refine wpPlan_done ?_
    obtain ⟨_, z0, z1, z2, z3, _⟩ := HS1.out _ HB1.out
    have hlw : W.heap.size < w1.heap.size := by have := HB1.out.size; rw [World.size_alloc] at this; omega
    cases lt with
    | false =>
      go_wp2_with fail
      go_ret
      exact ⟨ret_bool rfl, below_box HB1.out⟩
    | true =>
      go_wp2_with fail
      go_ret
      exact ⟨ret_bool rfl, below_box HB1.out⟩
  | none =>
    rw [ho] at hHS1
    have HS1 := Lib.hid (hHS1 _ _ rfl)
    clear hHS1 htm hb h
    cases lt with
    | false =>
      clear HTK
      show Calls _ _ #[_, .agg #[.string ⟨nm.toArray⟩, .bool false, .int .i64 nu, .int .i64 pa]] _ _
      go_enter Tryd.func108, Tryd.ntmps108
      go_wp2_with fail
      refine wp_region_plan (fun w' : World => (w'.cell? ⟨m, 9, none⟩ = some (.map (some bt)) ∧ w'.cell? ⟨W.heap.size, 0, none⟩ = some (.string ⟨nm.toArray⟩) ∧ w'.cell? ⟨W.heap.size, 1, none⟩ = some (.bool false) ∧ w'.cell? ⟨W.heap.size, 2, none⟩ = some (.int .i64 nu) ∧ w'.cell? ⟨W.heap.size, 3, none⟩ = some (.int .i64 pa) ∧ (Instr.lookup 120 (.map (some bt)) (.agg #[.string ⟨nm.toArray⟩, .bool false]) true).run Tryd.prog w' = .ok (.tuple #[.int .i64 0, .bool false]) w')) [] (.take 0 (.take 1 (.take 2 (.take 3 (.take 4 (.one 5 (.take 6 (.take 7 (.take 8 (.take 9 (.one 10 (.one 11 (.done))))))))))))) (by kernel_rfl) (by kernel_rfl) (fun _ _ _ _ h => h) ?_
      have hSw := HS1.out _ (below_drewN (Below.refl _ _) 1)
      refine wpPlan_take (v := ?vt10) rfl hSw (by rfl) ?yt10 ?_
      case yt10 => (intro w hSx; (try dsimp only at hSx); go_simp; first | done | with_reducible rfl | rfl)
      (try simp only [Act.put, List.setIfInBounds_toArray, List.set_cons_zero, List.set_cons_succ])
      refine wpPlan_take (v := ?vt11) rfl hSw (by rfl) ?yt11 ?_
      case yt11 => (intro w hSx; (try dsimp only at hSx); go_simp; first | done | with_reducible rfl | rfl)
      (try simp only [Act.put, List.setIfInBounds_toArray, List.set_cons_zero, List.set_cons_succ])
      refine wpPlan_take (v := ?vt12) rfl hSw (by rfl) ?yt12 ?_
      case yt12 => (intro w hSx; (try dsimp only at hSx); go_simp; first | done | with_reducible rfl | rfl)
      (try simp only [Act.put, List.setIfInBounds_toArray, List.set_cons_zero, List.set_cons_succ])
      refine wpPlan_take (v := ?vt13) rfl hSw (by rfl) ?yt13 ?_
      case yt13 => (intro w hSx; (try dsimp only at hSx); go_simp; first | done | with_reducible rfl | rfl)
      (try simp only [Act.put, List.setIfInBounds_toArray, List.set_cons_zero, List.set_cons_succ])
      refine wpPlan_take (v := ?vt14) rfl hSw (by rfl) ?yt14 ?_
      case yt14 => (intro w hSx; (try dsimp only at hSx); go_simp; first | done | with_reducible rfl | rfl)
      (try simp only [Act.put, List.setIfInBounds_toArray, List.set_cons_zero, List.set_cons_succ])
      refine wpPlan_run rfl (by rfl) (fun K' hK => ?_)
      (go_simp; go_at_call 106; refine (HKY.out _).mono ?_; rintro e w1 ⟨rfl, hb1⟩; have HB1 := Lib.hid (show Below (W.heap.size + 1) (W.alloc (.cells #[.string ⟨nm.toArray⟩, .bool false, .int .i64 nu, .int .i64 pa] 40)) w1 from (below_undrew hb1).mono (by show _ ≤ (W.alloc _).heap.size; simp)); clear hb1)
      refine hK _ _ (.inr ?_) ?_
      · exact HS1.out _ HB1.out
      clear hK K' hSw
      have hSw := HS1.out _ HB1.out
      (try simp only [Act.put, List.setIfInBounds_toArray, List.set_cons_zero, List.set_cons_succ])
      refine wpPlan_take (v := ?vt15) rfl hSw (by rfl) ?yt15 ?_
      case yt15 => (intro w hSx; (try dsimp only at hSx); go_simp; first | done | with_reducible rfl | rfl)
      (try simp only [Act.put, List.setIfInBounds_toArray, List.set_cons_zero, List.set_cons_succ])
      refine wpPlan_take (v := ?vt16) rfl hSw (by rfl) ?yt16 ?_
      case yt16 => (intro w hSx; (try dsimp only at hSx); go_simp; first | done | with_reducible rfl | rfl)
      (try simp only [Act.put, List.setIfInBounds_toArray, List.set_cons_zero, List.set_cons_succ])
      refine wpPlan_take (v := ?vt17) rfl hSw (by rfl) ?yt17 ?_
      case yt17 => (intro w hSx; (try dsimp only at hSx); go_simp; first | done | with_reducible rfl | rfl)
      (try simp only [Act.put, List.setIfInBounds_toArray, List.set_cons_zero, List.set_cons_succ])
      refine wpPlan_take (v := ?vt18) rfl hSw (by rfl) ?yt18 ?_
      case yt18 => (intro w hSx; (try dsimp only at hSx); go_simp; first | done | with_reducible rfl | rfl)
      (try simp only [Act.put, List.setIfInBounds_toArray, List.set_cons_zero, List.set_cons_succ])
      refine wpPlan_run rfl (by rfl) (fun K' hK => ?_)
      go_simp
      refine hK _ _ (.inr ?_) ?_
      · exact HS1.out _ HB1.out
      clear hK K' hSw
      (try simp only [Act.put, List.setIfInBounds_toArray, List.set_cons_zero, List.set_cons_succ])
      refine wpPlan_run rfl (by rfl) (fun K' hK => ?_)
      go_simp
      refine hK _ _ (.inr ?_) ?_
      · exact HS1.out _ HB1.out
      clear hK K'
      (try simp only [Act.put, List.setIfInBounds_toArray, List.set_cons_zero, List.set_cons_succ])
      refine wpPlan_done ?_
      obtain ⟨_, z0, z1, z2, z3, _⟩ := HS1.out _ HB1.out
      have hlw : W.heap.size < w1.heap.size := by have := HB1.out.size; rw [World.size_alloc] at this; omega
      go_wp2_with fail
      go_ret
      exact ⟨ret_bool rfl, below_box HB1.out⟩
    | true =>
      obtain ⟨c, rfl⟩ := hy1 rfl
      have hb0 : Sp.byte0 [c] = (c.toNat : Int) := rfl
      rw [hb0] at HTK
      clear hb0
      show Calls _ _ #[_, .agg #[.string ⟨[c].toArray⟩, .bool true, .int .i64 nu, .int .i64 pa]] _ _
      go_enter Tryd.func108, Tryd.ntmps108
      go_wp2_with fail
      refine wp_region_plan (fun w' : World => (w'.cell? ⟨m, 9, none⟩ = some (.map (some bt)) ∧ w'.cell? ⟨W.heap.size, 0, none⟩ = some (.string ⟨[c].toArray⟩) ∧ w'.cell? ⟨W.heap.size, 1, none⟩ = some (.bool true) ∧ w'.cell? ⟨W.heap.size, 2, none⟩ = some (.int .i64 nu) ∧ w'.cell? ⟨W.heap.size, 3, none⟩ = some (.int .i64 pa) ∧ (Instr.lookup 120 (.map (some bt)) (.agg #[.string ⟨[c].toArray⟩, .bool true]) true).run Tryd.prog w' = .ok (.tuple #[.int .i64 0, .bool false]) w')) [] (.take 0 (.take 1 (.take 2 (.take 3 (.take 4 (.one 5 (.take 6 (.take 7 (.take 8 (.take 9 (.one 10 (.one 11 (.done))))))))))))) (by kernel_rfl) (by kernel_rfl) (fun _ _ _ _ h => h) ?_
      have hSw := HS1.out _ (below_drewN (Below.refl _ _) 1)
      refine wpPlan_take (v := ?vu19) rfl hSw (by rfl) ?yu19 ?_
      case yu19 => (intro w hSx; (try dsimp only at hSx); go_simp; first | done | with_reducible rfl | rfl)
      (try simp only [Act.put, List.setIfInBounds_toArray, List.set_cons_zero, List.set_cons_succ])
      refine wpPlan_take (v := ?vu20) rfl hSw (by rfl) ?yu20 ?_
      case yu20 => (intro w hSx; (try dsimp only at hSx); go_simp; first | done | with_reducible rfl | rfl)
      (try simp only [Act.put, List.setIfInBounds_toArray, List.set_cons_zero, List.set_cons_succ])
      refine wpPlan_take (v := ?vu21) rfl hSw (by rfl) ?yu21 ?_
      case yu21 => (intro w hSx; (try dsimp only at hSx); go_simp; first | done | with_reducible rfl | rfl)
      (try simp only [Act.put, List.setIfInBounds_toArray, List.set_cons_zero, List.set_cons_succ])
      refine wpPlan_take (v := ?vu22) rfl hSw (by rfl) ?yu22 ?_
      case yu22 => (intro w hSx; (try dsimp only at hSx); go_simp; first | done | with_reducible rfl | rfl)
      (try simp only [Act.put, List.setIfInBounds_toArray, List.set_cons_zero, List.set_cons_succ])
      refine wpPlan_take (v := ?vu23) rfl hSw (by rfl) ?yu23 ?_
      case yu23 => (intro w hSx; (try dsimp only at hSx); go_simp; first | done | with_reducible rfl | rfl)
      (try simp only [Act.put, List.setIfInBounds_toArray, List.set_cons_zero, List.set_cons_succ])
      refine wpPlan_run rfl (by rfl) (fun K' hK => ?_)
      (go_simp; go_at_call 106; refine (HKY.out _).mono ?_; rintro e w1 ⟨rfl, hb1⟩; have HB1 := Lib.hid (show Below (W.heap.size + 1) (W.alloc (.cells #[.string ⟨[c].toArray⟩, .bool true, .int .i64 nu, .int .i64 pa] 40)) w1 from (below_undrew hb1).mono (by show _ ≤ (W.alloc _).heap.size; simp)); clear hb1)
      refine hK _ _ (.inr ?_) ?_
      · exact HS1.out _ HB1.out
      clear hK K' hSw
      have hSw := HS1.out _ HB1.out
      (try simp only [Act.put, List.setIfInBounds_toArray, List.set_cons_zero, List.set_cons_succ])
      refine wpPlan_take (v := ?vu24) rfl hSw (by rfl) ?yu24 ?_
      case yu24 => (intro w hSx; (try dsimp only at hSx); go_simp; first | done | with_reducible rfl | rfl)
      (try simp only [Act.put, List.setIfInBounds_toArray, List.set_cons_zero, List.set_cons_succ])
      refine wpPlan_take (v := ?vu25) rfl hSw (by rfl) ?yu25 ?_
      case yu25 => (intro w hSx; (try dsimp only at hSx); go_simp; first | done | with_reducible rfl | rfl)
      (try simp only [Act.put, List.setIfInBounds_toArray, List.set_cons_zero, List.set_cons_succ])
      refine wpPlan_take (v := ?vu26) rfl hSw (by rfl) ?yu26 ?_
      case yu26 => (intro w hSx; (try dsimp only at hSx); go_simp; first | done | with_reducible rfl | rfl)
      (try simp only [Act.put, List.setIfInBounds_toArray, List.set_cons_zero, List.set_cons_succ])
      refine wpPlan_take (v := ?vu27) rfl hSw (by rfl) ?yu27 ?_
      case yu27 => (intro w hSx; (try dsimp only at hSx); go_simp; first | done | with_reducible rfl | rfl)
      (try simp only [Act.put, List.setIfInBounds_toArray, List.set_cons_zero, List.set_cons_succ])
      refine wpPlan_run rfl (by rfl) (fun K' hK => ?_)
      go_simp
      refine hK _ _ (.inr ?_) ?_
      · exact HS1.out _ HB1.out
      clear hK K' hSw
      (try simp only [Act.put, List.setIfInBounds_toArray, List.set_cons_zero, List.set_cons_succ])
      refine wpPlan_run rfl (by rfl) (fun K' hK => ?_)
      go_simp
      refine hK _ _ (.inr ?_) ?_
      · exact HS1.out _ HB1.out
      clear hK K'
      (try simp only [Act.put, List.setIfInBounds_toArray, List.set_cons_zero, List.set_cons_succ])
      refine wpPlan_done ?_
      obtain ⟨_, z0, z1, z2, z3, _⟩ := HS1.out _ HB1.out
      have hlw : W.heap.size < w1.heap.size := by have := HB1.out.size; rw [World.size_alloc] at this; omega
      go_wp2_with fail
      rw [byte_wrap]
      refine (HTK.out _ HB1.out).mono ?_
      rintro e w2 ⟨rfl, rfl⟩
      go_wp2_with fail
      go_ret
      exact ⟨ret_bool rfl, below_box HB1.out⟩
end Go.Proofs.YthmimcegiihcnaaDoor
