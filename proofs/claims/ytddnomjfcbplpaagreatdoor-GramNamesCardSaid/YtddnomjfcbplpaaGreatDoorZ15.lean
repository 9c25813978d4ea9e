import Derived.Deep.LoopGhost
import Derived.Test.YtddnomjfcbplpaaGreatDoorZ14
import Derived.Laws.OwnMore
namespace Go.Proofs.YtddnomjfcbplpaaGreatDoor
open Go.RowKit Go.Maps

theorem zAP : Keyed Tryz.prog 94 :=
 Keyed.of_law (deep_law_laid laidOut (m := 2) (by omega) (of_decide_eq_true (by kernel_rfl)) (by kernel_rfl) (by kernel_rfl))
theorem vB : Keyed Tryz.prog 9 := string_keyed Tryz.underlying9
theorem zBP {s : List UInt8} (h : s.length ≤ maxLen) : ∃ l, keyOf Tryz.prog 9 (.string ⟨s.toArray⟩) = some l := by
 refine ⟨.string s, ?_⟩; have hs : (⟨s.toArray⟩ : ByteArray).size ≤ maxLen := by rw [Lib.size_eq]; exact h
 simp [keyOf, mapKey, Tryz.underlying9, hs]
theorem cells_key : Tryz.prog.cellsOf 94 = 2 := by kernel_rfl
theorem one_str2 : Tryz.prog.cellsOf 9 = 1 := by kernel_rfl
theorem one_bool2 : Tryz.prog.cellsOf 4 = 1 := by kernel_rfl
theorem keyLits_key (d : Nat) {s : List UInt8} {b : Bool} (h : s.length ≤ maxLen) : Tryz.prog.keyLits (d + 2) 94 [.string ⟨s.toArray⟩, .bool b] = some [.string s, .bool b] := by
 have hs : (⟨s.toArray⟩ : ByteArray).size ≤ maxLen := by rw [Lib.size_eq]; exact h
 have h1 : Tryz.prog.keyLits (d + 1) 9 [.string ⟨s.toArray⟩] = some [.string s] := by
  unfold Program.keyLits; simp [Tryz.underlying9, hs]
 have h2 : Tryz.prog.keyLits (d + 1) 4 [.bool b] = some [.bool b] := by
  unfold Program.keyLits; simp [Tryz.underlying4]
 unfold Program.keyLits; rw [Tryz.underlying94]; simp [cells_key, one_str2, one_bool2, h1, h2]
theorem zBO {s : List UInt8} {b : Bool} (h : s.length ≤ maxLen) : ∃ l, keyOf Tryz.prog 94 (.agg #[.string ⟨s.toArray⟩, .bool b]) = some l := by
 refine ⟨.string (keyBytes [.string s, .bool b]), ?_⟩; unfold keyOf; rw [Tryz.underlying94]; have hk : Tryz.prog.keyType 94 = true := by kernel_rfl
 have hf : Value.formed Tryz.prog 94 (.agg #[.string ⟨s.toArray⟩, .bool b]) = true := by
  simp [Value.formed, Tryz.underlying94, cells_key]
 have hl : Tryz.prog.keyLits (Tryz.prog.types.size + 1) 94 (Value.agg #[.string ⟨s.toArray⟩, .bool b]).cells.toList = some [.string s, .bool b] := by
  have e : Tryz.prog.types.size + 1 = (Tryz.prog.types.size - 1) + 2 := by
   have : 1 ≤ Tryz.prog.types.size := of_decide_eq_true (by kernel_rfl); omega
  rw [e]; exact keyLits_key _ h
 simp only [hk, hf, hl, Bool.and_self, if_true, Option.map_some]

def tokC (t : Sp.Tok) : List Value := [.string ⟨t.name.toArray⟩, .bool t.lit, .int .i64 t.num, .int .i64 t.level, .int .i64 t.assoc, .string ⟨t.tag.toArray⟩]
def nonC (n : Sp.Non) : List Value := [.string ⟨n.name.toArray⟩, .string ⟨n.tag.toArray⟩]
def xF (r a : Value) (p : Sp.Prod) : List Value := [.int .i64 p.left, r, .int .i64 p.prec, .string ⟨p.code.toArray⟩, a, .int .i64 p.at_]
def keyL (F : List UInt8 → Bool → Option Nat) : Value → Option Value
 | .agg #[.string nm, .bool lt] => (F nm.data.toList lt).map fun (k : Nat) => .int .i64 (k : Int)
 | _ => none
def tokL (toks : List Sp.Tok) : Value → Option Value := keyL (Sp.yD toks)
def nonL (lefts : List (List UInt8)) : Value → Option Value
 | .string nm => (Sp.yO lefts nm.data.toList).map fun (k : Nat) => .int .i64 (k : Int)
 | _ => none
def typL (types : List (List UInt8 × List UInt8)) : Value → Option Value
 | .string nm => (Sp.xK types nm.data.toList).map fun t => .agg #[.string nm, .string ⟨t.toArray⟩]
 | _ => none
def yJ (l : List Int) : List Value := l.map (Value.int .i64)
def zBM (B : Nat) (w : World) (v : Value) (l : List Sp.Prod) : Prop :=
 ∃ f g : Nat → Value, w.ownsRow B 68 6 v l.length (l.mapIdx fun i p => xF (f i) (g i) p).flatten ∧
  ∀ (i : Nat) (p : Sp.Prod), l[i]? = some p → (∃ b, w.ownsRow b 3 1 (f i) p.right.length (yJ p.right)) ∧ ∃ b, w.ownsRow b 3 1 (g i) p.args.length (yJ p.args)
structure MkV where
 dv : Value
 rv : Value
 tv : Value
 nv : Value
 pv : Value
 gv : Value
 bt : Nat
 bn : Nat
 by_ : Nat
def zX (x : Sp.zM) (s : Sp.Mk) (v : MkV) (e at_ : Int) (nm : List UInt8) : List Value :=
 [.string ⟨x.pro.toArray⟩, v.dv, v.rv, .string ⟨x.tail.toArray⟩, v.tv, v.nv, v.pv, .string ⟨x.pro.toArray⟩, .string ⟨x.tail.toArray⟩, .map (some v.bt), v.gv, .map (some v.bn), .map (some v.by_), .string ⟨s.start.toArray⟩, .int .i64 e, .int .i64 at_, .string ⟨nm.toArray⟩]
structure zS (B : Nat) (w : World) (m : Nat) (x : Sp.zM) (s : Sp.Mk) (v : MkV) (e at_ : Int) (nm : List UInt8) : Prop where
 block : w.heap[m]? = some (.cells (zX x s v e at_ nm).toArray 99 (0, 0))
 toks : w.ownsRow B 65 6 v.tv s.toks.length (s.toks.map tokC).flatten
 given : w.ownsRow B 4 1 v.gv s.given.length (s.given.map Value.bool)
 nons : w.ownsRow B 89 2 v.nv s.nons.length (s.nons.map nonC).flatten
 prods : zBM B w v.pv s.prods
 tmap : xE Tryz.prog 94 w v.bt s.toks.length (tokL s.toks)
 nmap : xE Tryz.prog 9 w v.bn s.lefts.length (nonL s.lefts)
 ymap : xE Tryz.prog 9 w v.by_ s.types.length (typL s.types)
 behind : B ≤ m ∧ B ≤ v.bt ∧ B ≤ v.bn ∧ B ≤ v.by_
 apart : v.bt ≠ v.bn ∧ v.bt ≠ v.by_ ∧ v.bn ≠ v.by_
 same : s.given.length = s.toks.length
 three : 3 ≤ s.toks.length

set_option maxHeartbeats 800000 in
theorem zAE (s : Sp.Sym) (W : World) :
  Calls Tryz.prog 82 #[symV s] W fun e w' => e = .returned (.agg #[.string ⟨s.name.toArray⟩, .bool s.lit]) ∧ Below W.heap.size W w' := by
 obtain ⟨nm, lt, nu, pa⟩ := s; show Calls _ _ #[.agg #[.string ⟨nm.toArray⟩, .bool lt, .int .i64 nu, .int .i64 pa]] _ _
 go_enter Tryz.func82, Tryz.ntmps82
 go_wp2_with fail; refine jH (g := W.heap.size + 1) (cs := #[.string ⟨nm.toArray⟩, .bool lt]) (t := 94) (fr := (0, 0)) rfl rfl (xJ W _ _) rfl Tryz.underlying94 (by kernel_rfl) rfl ⟨rfl, ?hb⟩; exact ((Below.refl _ W).alloc (Nat.le_refl _) _).alloc (by simp) _
theorem zU {B : Nat} {w w' : World} {m : Nat} {x : Sp.zM} {s : Sp.Mk} {v : MkV} {e at_ : Int} {nm : List UInt8} (h : zS B w m x s v e at_ nm) (hb : Below w.heap.size w w') : zS B w' m x s v e at_ nm := by
 obtain ⟨h1, h2, h3, h4, ⟨f, g, p1, p2⟩, h6, h7, h8, h9⟩ := h; refine ⟨(hb.block m (zC h1)).trans h1, zL h2 hb, zL h3 hb, zL h4 hb, ⟨f, g, zL p1 hb, fun i p hp => ?_⟩, h6.block (hb.block _ h6.lt), h7.block (hb.block _ h7.lt), h8.block (hb.block _ h8.lt), h9, ‹_›, ‹_›, ‹_›⟩; obtain ⟨⟨b, k1⟩, c, k2⟩ := p2 i p hp; exact ⟨⟨b, zL k1 hb⟩, c, zL k2 hb⟩
set_option maxHeartbeats 800000 in
theorem qG {B : Nat} {W : World} {m : Nat} {x : Sp.zM} {s : Sp.Mk} {v : MkV} (nm : List UInt8) (at_ : Int) (h : zS B W m x s v 0 0 []) :
  Calls Tryz.prog 66 #[.pointer (some ⟨m, 0, none⟩), .string ⟨nm.toArray⟩, .int .i64 at_] W fun e w' => e = .returned (.bool true) ∧ w'.heap[m]? = some (.cells (zX x s v 3 at_ nm).toArray 99 (0, 0)) ∧ Kp (fun b => b ≠ m) W w' := by
 have hb := h.block; unfold zX at hb; have c14 := zc 14 hb; have c15 := zc 15 hb; have c16 := zc 16 hb; have f14 := zf 14 hb; have f15 := zf 15 hb; have f16 := zf 16 hb; have hl := zC hb; have HB := zh hb; clear h hb; go_enter Tryz.func66, Tryz.ntmps66
 go_wp2_with fail; go_ret; exact ⟨rfl, zA (zA (zA HB.out)), (((Kp.refl _ W).setCell (p := ⟨m, 14, none⟩) (by simp) _).setCell (p := ⟨m, 15, none⟩) (by simp) _).setCell (p := ⟨m, 16, none⟩) (by simp) _⟩

theorem yY {w : World} {B e size g n cap : Nat} {α : Type} {row : α → List Value} {l : List α} (ho : w.ownsRow B e size (.slice (some ⟨g, 0, none⟩) n cap) n (l.map row).flatten) (hr : ∀ a, (row a).length = size) {k : Nat} {a : α} (hk : l[k]? = some a) (hkn : k < n) {j : Nat} {u : Value} (hj : (row a)[j]? = some u) :
  w.cell? ⟨g, k * size + j, none⟩ = some u := by
 have hjs : j < size := by rw [← hr a]; exact (List.getElem?_eq_some_iff.1 hj).1
 rw [ho.cellAt (k * size + j) (by
  have := Nat.mul_le_mul_right size (show k + 1 ≤ n from hkn)
  rw [Nat.succ_mul] at this; omega)]
 refine j1 size _ (fun r hr' => ?_) k (row a) (by rw [List.getElem?_map, hk]; rfl) j u hj; obtain ⟨b, _, rfl⟩ := List.mem_map.1 hr'; exact hr b
theorem jP {w : World} {B e g n cap : Nat} {α : Type} {row : α → Value} {l : List α} (ho : w.ownsRow B e 1 (.slice (some ⟨g, 0, none⟩) n cap) n (l.map row)) {k : Nat} {a : α} (hk : l[k]? = some a) (hkn : k < n) :
  w.cell? ⟨g, k, none⟩ = some (row a) := by
 rw [ho.cellAt k (by omega), List.getElem?_map, hk]; rfl
set_option maxRecDepth 100000 in
set_option maxHeartbeats 3200000 in
theorem zDB {B : Nat} {W : World} {m : Nat} {x : Sp.zM} {s : Sp.Mk} {v : MkV} {e0 at0 : Int} {nm0 : List UInt8} (num but : Int) (h : zS B W m x s v e0 at0 nm0) (hn63 : s.toks.length ≤ 2 ^ 62) :
  Calls Tryz.prog 83 #[.pointer (some ⟨m, 0, none⟩), .int .i64 num, .int .i64 but] W fun e w' => e = .returned (.bool (Sp.taken s num but)) ∧ W = w' := by
 have hb := h.block; have ht := h.toks; have hg := h.given; have hsm := h.same; have h3 := h.three; obtain ⟨gt, ct, htv⟩ := yB ht (by omega); obtain ⟨gg, cg, hgv⟩ := yB hg (by omega); unfold zX at hb; rw [htv] at hb ht; rw [hgv] at hb hg; generalize hR : Sp.taken s num but = R; unfold Sp.taken at hR; obtain ⟨toks, given, lefts, nons, prods, types, start⟩ := s; simp only at *
 rw [hsm] at hb hg; have c4 := zc 4 hb; have c10 := zc 10 hb; have hl := zC hb; have hlt : gt < W.heap.size := (ht.lt gt rfl).2; have hlg : gg < W.heap.size := (hg.lt gg rfl).2; generalize hn : toks.length = n at *
 have HT := zh ht; have HG := zh hg; have HR := zh hR; have HN := zh hn; have HSM := zh hsm; clear h hb ht hg hR hn hsm htv hgv; go_enter Tryz.func83, Tryz.ntmps83
 go_wp2_with fail; go_loopg [7] (n - 3) (fun g iv wr => ∃ k : Nat, 3 ≤ k ∧ k ≤ n ∧ g = n - k ∧ iv = .int .i64 k ∧ W = wr ∧ Sp.vU num but k (toks.drop k) (given.drop k) = R)
 case atStart => exact ⟨3, Nat.le_refl _, h3, rfl, rfl, rfl, HR.out⟩
 case round =>
  obtain ⟨k, hk3, hk, rfl, rfl, rfl, hR⟩ := hrel; have HRR := zh hR; clear hR; have hk0 : (0 : Int) ≤ (k : Int) := Int.natCast_nonneg _; by_cases hkn : k < n
  ·have hk1 : (k : Int) < (n : Int) := by omega
   have hkt : k < toks.length := by have := HN.out; omega
   have hkg : k < given.length := by have := HSM.out; omega
   have e1 := List.getElem?_eq_getElem hkt; have e2 := List.getElem?_eq_getElem hkg; have d1 : toks.drop k = toks[k] :: toks.drop (k + 1) := List.drop_eq_getElem_cons hkt; have d2 : given.drop k = given[k] :: given.drop (k + 1) := List.drop_eq_getElem_cons hkg; have hR := HRR.out; rw [d1, d2] at hR; unfold Sp.vU at hR; generalize toks[k] = t at *
   generalize given[k] = gk at *
   have ct := yY HT.out (fun _ => rfl) e1 hkn (j := 2) (u := .int .i64 t.num) rfl; have cg := jP HG.out e2 hkn; generalize t.num = tn at *
   clear d1 d2 e1 e2 hkt hkg; by_cases hkb : (k : Int) = but
   ·subst hkb
    have HR2 : Hid (Sp.vU num (k : Int) (k + 1) (toks.drop (k + 1)) (given.drop (k + 1)) = R) := zh (by simpa using hR); clear hR HRR; go_wp2_with fail; go_roundg (n - (k + 1))
    case measure => omega
    case rel => exact ⟨k + 1, by omega, by omega, by omega, by go_num, rfl, HR2.out⟩
   ·have hkd : decide ((k : Int) = but) = false := decide_eq_false hkb
    have hkd2 : ((k : Int) == but) = false := by rw [beq_eq_false_iff_ne]; exact hkb
    cases gk with
    | false =>
     have HR2 : Hid (Sp.vU num but (k + 1) (toks.drop (k + 1)) (given.drop (k + 1)) = R) := zh (by simpa using hR); clear hR HRR; go_wp2_with fail; go_roundg (n - (k + 1))
     case measure => omega
     case rel => exact ⟨k + 1, by omega, by omega, by omega, by go_num, rfl, HR2.out⟩
    | true =>
     by_cases hnu : tn = num
     ·subst hnu
      have HR2 : Hid (true = R) := zh (by rw [← hR]; simp [hkb]); clear hR HRR; go_wp2_with fail; go_ret; exact ⟨zK HR2.out, rfl⟩
     ·have hnd : (tn == num) = false := by rw [beq_eq_false_iff_ne]; exact hnu
      have HR2 : Hid (Sp.vU num but (k + 1) (toks.drop (k + 1)) (given.drop (k + 1)) = R) := zh (by simpa [hnd] using hR); clear hR HRR; go_wp2_with fail; go_roundg (n - (k + 1))
      case measure => omega
      case rel => exact ⟨k + 1, by omega, by omega, by omega, by go_num, rfl, HR2.out⟩
  ·obtain rfl : k = n := by omega
   have HR2 : Hid (false = R) := zh (by
    have h := HRR.out; rw [List.drop_eq_nil_of_le (by rw [HN.out]; exact Nat.le_refl _)] at h; unfold Sp.vU at h
    exact h)
   clear HRR; go_wp2_with fail; go_ret; exact ⟨zK HR2.out, rfl⟩

theorem byte_wrap (c : UInt8) (h : 0 < (⟨#[c]⟩ : ByteArray).size) : wrap64 (((⟨#[c]⟩ : ByteArray)[0]'h).toNat : Int) = (c.toNat : Int) := by
 have e : ((⟨#[c]⟩ : ByteArray)[0]'h) = c := rfl; rw [e]; have := c.toNat_lt; unfold wrap64; omega
theorem kQ (w : World) : (zeroValue 3).run Tryz.prog w = .ok (.int .i64 0) w := by kernel_rfl
theorem zDO {B : Nat} {W : World} {m : Nat} {x : Sp.zM} {s : Sp.Mk} {v : MkV} {e0 at0 : Int} {nm0 : List UInt8} (h : zS B W m x s v e0 at0 nm0) {o : Obj} {w' : World} (hb : Below (W.heap.size + 1) (W.alloc o) w') : zS B w' m x s v e0 at0 nm0 :=
 zU h (((Below.refl _ W).alloc (Nat.le_refl _) o).trans (hb.mono (by omega)))
set_option maxRecDepth 100000 in
set_option maxHeartbeats 6400000 in
theorem maker_clash {B : Nat} {W : World} {m : Nat} {x : Sp.zM} {s : Sp.Mk} {v : MkV} {e0 at0 : Int} {nm0 : List UInt8} (y : Sp.Sym) (h : zS B W m x s v e0 at0 nm0) (hn63 : s.toks.length ≤ 2 ^ 62) (hy : y.name.length ≤ maxLen) (hy1 : y.lit = true → ∃ c, y.name = [c]) :
  Calls Tryz.prog 84 #[.pointer (some ⟨m, 0, none⟩), symV y] W fun e w' => e = .returned (.bool (Sp.clash s y)) ∧ Below W.heap.size W w' := by
 obtain ⟨nm, lt, nu, pa⟩ := y; simp only at hy hy1; have hb := h.block; unfold zX at hb; have hl := zC hb; have htm := h.tmap; generalize hbt : v.bt = bt at *
 obtain ⟨kl, hkl⟩ := zBO (b := lt) hy; have HH := zh h
 have hHS1 : ∀ (ov : Int) (ob : Bool), (match Sp.yD s.toks nm lt with
   | some k => ((k : Int), true)
   | none => ((0 : Int), false)) = (ov, ob) → ∀ w', Below (W.heap.size + 1) (W.alloc (.cells #[.string ⟨nm.toArray⟩, .bool lt, .int .i64 nu, .int .i64 pa] 45)) w' → (w'.cell? ⟨m, 9, none⟩ = some (.map (some bt)) ∧ w'.cell? ⟨W.heap.size, 0, none⟩ = some (.string ⟨nm.toArray⟩) ∧ w'.cell? ⟨W.heap.size, 1, none⟩ = some (.bool lt) ∧ w'.cell? ⟨W.heap.size, 2, none⟩ = some (.int .i64 nu) ∧ w'.cell? ⟨W.heap.size, 3, none⟩ = some (.int .i64 pa) ∧ (Instr.lookup 95 (.map (some bt)) (.agg #[.string ⟨nm.toArray⟩, .bool lt]) true).run Tryz.prog w' = .ok (.tuple #[.int .i64 ov, .bool ob]) w') := by
  intro ov ob hob w' hw'; have hbx := (hw'.block W.heap.size (by omega)).trans (zE W _); have hbm := (hw'.block m (by omega)).trans ((Below.heap_alloc _ _ _ hl).trans hb); have hk := (htm.block ((hw'.block bt (by have := htm.lt; omega)).trans (Below.heap_alloc _ _ _ htm.lt))).look true zAP Tryz.underlying95 (kQ w') hkl; refine ⟨zc 9 hbm, zc 0 hbx, zc 1 hbx, zc 2 hbx, zc 3 hbx, ?_⟩; rw [hk]; have e : tokL s.toks (.agg #[.string ⟨nm.toArray⟩, .bool lt]) = (Sp.yD s.toks nm lt).map fun (k : Nat) => Value.int .i64 (k : Int) := rfl
  rw [e]
  cases ho : Sp.yD s.toks nm lt with
  | some k => rw [ho] at hob; simp only [Prod.mk.injEq] at hob; obtain ⟨rfl, rfl⟩ := hob; rfl
  | none => rw [ho] at hob; simp only [Prod.mk.injEq] at hob; obtain ⟨rfl, rfl⟩ := hob; rfl
 have HKY := zh (fun w => (show Calls Tryz.prog 82 #[.agg #[.string ⟨nm.toArray⟩, .bool lt, .int .i64 nu, .int .i64 pa]] w (fun e w' => e = .returned (.agg #[.string ⟨nm.toArray⟩, .bool lt]) ∧ Below w.heap.size w w') from zAE ⟨nm, lt, nu, pa⟩ w)); have HTK := zh (fun w' (h : Below (W.heap.size + 1) (W.alloc (.cells #[.string ⟨nm.toArray⟩, .bool lt, .int .i64 nu, .int .i64 pa] 45)) w') => zDB (Sp.byte0 nm) (-1) (zDO HH.out h) hn63); unfold Sp.clash; simp only; generalize Sp.taken s (Sp.byte0 nm) (-1) = tk at *
 cases ho : Sp.yD s.toks nm lt with
 | some k =>
  rw [ho] at hHS1; have HS1 := zh (hHS1 _ _ rfl); clear hHS1 HTK htm hb h; show Calls _ _ #[_, .agg #[.string ⟨nm.toArray⟩, .bool lt, .int .i64 nu, .int .i64 pa]] _ _
  go_enter Tryz.func84, Tryz.ntmps84
  go_wp2_with fail; refine zF (fun w' : World => (w'.cell? ⟨m, 9, none⟩ = some (.map (some bt)) ∧ w'.cell? ⟨W.heap.size, 0, none⟩ = some (.string ⟨nm.toArray⟩) ∧ w'.cell? ⟨W.heap.size, 1, none⟩ = some (.bool lt) ∧ w'.cell? ⟨W.heap.size, 2, none⟩ = some (.int .i64 nu) ∧ w'.cell? ⟨W.heap.size, 3, none⟩ = some (.int .i64 pa) ∧ (Instr.lookup 95 (.map (some bt)) (.agg #[.string ⟨nm.toArray⟩, .bool lt]) true).run Tryz.prog w' = .ok (.tuple #[.int .i64 (k : Int), .bool true]) w')) [] (.take 0 (.take 1 (.take 2 (.take 3 (.take 4 (.one 5 (.take 6 (.take 7 (.take 8 (.take 9 (.one 10 (.one 11 (.done))))))))))))) (by kernel_rfl) (by kernel_rfl) (fun _ _ _ _ h => h) ?_; have hSw := HS1.out _ (below_drewN (Below.refl _ _) 1); iterate 5 (refine zN (v := ?_) rfl hSw (by rfl) ?_ ?_; rotate_left 1; (focus (intro w hSx; (try dsimp only at hSx); go_simp; try rfl)); (try simp only [Act.put, zq0, zq1, zq2]))
  refine zB rfl (by rfl) (fun K' hK => ?_)
  (go_simp; go_at_call 82; refine (HKY.out _).mono ?_; rintro e w1 ⟨rfl, hb1⟩; have HB1 := zh (show Below (W.heap.size + 1) (W.alloc (.cells #[.string ⟨nm.toArray⟩, .bool lt, .int .i64 nu, .int .i64 pa] 45)) w1 from (zI hb1).mono (by show _ ≤ (W.alloc _).heap.size; simp)); clear hb1)
  refine hK _ _ (.inr (HS1.out _ HB1.out)) ?_; clear hK K' hSw; have hSw := HS1.out _ HB1.out; (try simp only [Act.put, zq0, zq1, zq2]); iterate 4 (refine zN (v := ?_) rfl hSw (by rfl) ?_ ?_; rotate_left 1; (focus (intro w hSx; (try dsimp only at hSx); go_simp; try rfl)); (try simp only [Act.put, zq0, zq1, zq2]))
  refine zB rfl (by rfl) (fun K' hK => ?_); go_simp; refine hK _ _ (.inr (HS1.out _ HB1.out)) ?_; clear hK K' hSw; (try simp only [Act.put, zq0, zq1, zq2]); refine zB rfl (by rfl) (fun K' hK => ?_); go_simp; refine hK _ _ (.inr (HS1.out _ HB1.out)) ?_; clear hK K'; (try simp only [Act.put, zq0, zq1, zq2]); refine zH ?_; obtain ⟨_, z0, z1, z2, z3, _⟩ := HS1.out _ HB1.out; have hlw : W.heap.size < w1.heap.size := by have := HB1.out.size; rw [World.size_alloc] at this; omega
  cases lt with
  | false =>
   go_wp2_with fail; go_ret; exact ⟨zK rfl, zT HB1.out⟩
  | true =>
   go_wp2_with fail; go_ret; exact ⟨zK rfl, zT HB1.out⟩
 | none =>
  rw [ho] at hHS1; have HS1 := zh (hHS1 _ _ rfl); clear hHS1 htm hb h
  cases lt with
  | false =>
   clear HTK; show Calls _ _ #[_, .agg #[.string ⟨nm.toArray⟩, .bool false, .int .i64 nu, .int .i64 pa]] _ _
   go_enter Tryz.func84, Tryz.ntmps84
   go_wp2_with fail; refine zF (fun w' : World => (w'.cell? ⟨m, 9, none⟩ = some (.map (some bt)) ∧ w'.cell? ⟨W.heap.size, 0, none⟩ = some (.string ⟨nm.toArray⟩) ∧ w'.cell? ⟨W.heap.size, 1, none⟩ = some (.bool false) ∧ w'.cell? ⟨W.heap.size, 2, none⟩ = some (.int .i64 nu) ∧ w'.cell? ⟨W.heap.size, 3, none⟩ = some (.int .i64 pa) ∧ (Instr.lookup 95 (.map (some bt)) (.agg #[.string ⟨nm.toArray⟩, .bool false]) true).run Tryz.prog w' = .ok (.tuple #[.int .i64 0, .bool false]) w')) [] (.take 0 (.take 1 (.take 2 (.take 3 (.take 4 (.one 5 (.take 6 (.take 7 (.take 8 (.take 9 (.one 10 (.one 11 (.done))))))))))))) (by kernel_rfl) (by kernel_rfl) (fun _ _ _ _ h => h) ?_; have hSw := HS1.out _ (below_drewN (Below.refl _ _) 1); iterate 5 (refine zN (v := ?_) rfl hSw (by rfl) ?_ ?_; rotate_left 1; (focus (intro w hSx; (try dsimp only at hSx); go_simp; try rfl)); (try simp only [Act.put, zq0, zq1, zq2]))
   refine zB rfl (by rfl) (fun K' hK => ?_)
   (go_simp; go_at_call 82; refine (HKY.out _).mono ?_; rintro e w1 ⟨rfl, hb1⟩; have HB1 := zh (show Below (W.heap.size + 1) (W.alloc (.cells #[.string ⟨nm.toArray⟩, .bool false, .int .i64 nu, .int .i64 pa] 45)) w1 from (zI hb1).mono (by show _ ≤ (W.alloc _).heap.size; simp)); clear hb1)
   refine hK _ _ (.inr (HS1.out _ HB1.out)) ?_; clear hK K' hSw; have hSw := HS1.out _ HB1.out; (try simp only [Act.put, zq0, zq1, zq2]); iterate 4 (refine zN (v := ?_) rfl hSw (by rfl) ?_ ?_; rotate_left 1; (focus (intro w hSx; (try dsimp only at hSx); go_simp; try rfl)); (try simp only [Act.put, zq0, zq1, zq2]))
   refine zB rfl (by rfl) (fun K' hK => ?_); go_simp; refine hK _ _ (.inr (HS1.out _ HB1.out)) ?_; clear hK K' hSw; (try simp only [Act.put, zq0, zq1, zq2]); refine zB rfl (by rfl) (fun K' hK => ?_); go_simp; refine hK _ _ (.inr (HS1.out _ HB1.out)) ?_; clear hK K'; (try simp only [Act.put, zq0, zq1, zq2]); refine zH ?_; obtain ⟨_, z0, z1, z2, z3, _⟩ := HS1.out _ HB1.out; have hlw : W.heap.size < w1.heap.size := by have := HB1.out.size; rw [World.size_alloc] at this; omega
   go_wp2_with fail; go_ret; exact ⟨zK rfl, zT HB1.out⟩
  | true =>
   obtain ⟨c, rfl⟩ := hy1 rfl; have hb0 : Sp.byte0 [c] = (c.toNat : Int) := rfl; rw [hb0] at HTK; clear hb0; show Calls _ _ #[_, .agg #[.string ⟨[c].toArray⟩, .bool true, .int .i64 nu, .int .i64 pa]] _ _
   go_enter Tryz.func84, Tryz.ntmps84
   go_wp2_with fail; refine zF (fun w' : World => (w'.cell? ⟨m, 9, none⟩ = some (.map (some bt)) ∧ w'.cell? ⟨W.heap.size, 0, none⟩ = some (.string ⟨[c].toArray⟩) ∧ w'.cell? ⟨W.heap.size, 1, none⟩ = some (.bool true) ∧ w'.cell? ⟨W.heap.size, 2, none⟩ = some (.int .i64 nu) ∧ w'.cell? ⟨W.heap.size, 3, none⟩ = some (.int .i64 pa) ∧ (Instr.lookup 95 (.map (some bt)) (.agg #[.string ⟨[c].toArray⟩, .bool true]) true).run Tryz.prog w' = .ok (.tuple #[.int .i64 0, .bool false]) w')) [] (.take 0 (.take 1 (.take 2 (.take 3 (.take 4 (.one 5 (.take 6 (.take 7 (.take 8 (.take 9 (.one 10 (.one 11 (.done))))))))))))) (by kernel_rfl) (by kernel_rfl) (fun _ _ _ _ h => h) ?_; have hSw := HS1.out _ (below_drewN (Below.refl _ _) 1); iterate 5 (refine zN (v := ?_) rfl hSw (by rfl) ?_ ?_; rotate_left 1; (focus (intro w hSx; (try dsimp only at hSx); go_simp; try rfl)); (try simp only [Act.put, zq0, zq1, zq2]))
   refine zB rfl (by rfl) (fun K' hK => ?_)
   (go_simp; go_at_call 82; refine (HKY.out _).mono ?_; rintro e w1 ⟨rfl, hb1⟩; have HB1 := zh (show Below (W.heap.size + 1) (W.alloc (.cells #[.string ⟨[c].toArray⟩, .bool true, .int .i64 nu, .int .i64 pa] 45)) w1 from (zI hb1).mono (by show _ ≤ (W.alloc _).heap.size; simp)); clear hb1)
   refine hK _ _ (.inr (HS1.out _ HB1.out)) ?_; clear hK K' hSw; have hSw := HS1.out _ HB1.out; (try simp only [Act.put, zq0, zq1, zq2]); iterate 4 (refine zN (v := ?_) rfl hSw (by rfl) ?_ ?_; rotate_left 1; (focus (intro w hSx; (try dsimp only at hSx); go_simp; try rfl)); (try simp only [Act.put, zq0, zq1, zq2]))
   refine zB rfl (by rfl) (fun K' hK => ?_); go_simp; refine hK _ _ (.inr (HS1.out _ HB1.out)) ?_; clear hK K' hSw; (try simp only [Act.put, zq0, zq1, zq2]); refine zB rfl (by rfl) (fun K' hK => ?_); go_simp; refine hK _ _ (.inr (HS1.out _ HB1.out)) ?_; clear hK K'; (try simp only [Act.put, zq0, zq1, zq2]); refine zH ?_; obtain ⟨_, z0, z1, z2, z3, _⟩ := HS1.out _ HB1.out; have hlw : W.heap.size < w1.heap.size := by have := HB1.out.size; rw [World.size_alloc] at this; omega
   go_wp2_with fail; rw [byte_wrap]; refine (HTK.out _ HB1.out).mono ?_; rintro e w2 ⟨rfl, rfl⟩; go_wp2_with fail; go_ret; exact ⟨zK rfl, zT HB1.out⟩
end Go.Proofs.YtddnomjfcbplpaaGreatDoor
