/- Layer 8: the walks of char.Text, and of what print asks of a symbol. The walk of Join. Layer 8: slices.IndexFunc, slices.ContainsFunc at a declaration's, a rule's, an alternative's, a part's type. -/
import Derived.Test.YtddnomjfcbplpaaDoorZ01
import Derived.Lib.ItoaLen
import Derived.Deep.DeepMust
import Derived.Test.YtddnomjfcbplpaaDoorZ00
namespace Go.Proofs.YtddnomjfcbplpaaDoor
namespace Sp
open Go.Lib (index indexByte hasPrefix)

structure Sym where
  name : List UInt8
  lit : Bool
  num : Int
  at_ : Int
structure Decl where
  kind : Int
  tag : List UInt8
  syms : List Sym
  at_ : Int
structure Part where
  sym : Sym
  code : List UInt8
  at_ : Int
structure Alt where
  parts : List Part
  prec : Sym
  at_ : Int
structure Rule where
  left : List UInt8
  alts : List Alt
  at_ : Int
structure Source where
  pro : List UInt8
  decls : List Decl
  rules : List Rule
  tail : List UInt8

/-! ### What may be -/
def quotable (l : List UInt8) : Bool := match l with
  | [c] => !(quoteText c).isEmpty
  | _ => false
def isSym (s : Sym) : Bool := if s.lit = true then quotable s.name else isName s.name
def isBare (s : Sym) : Bool := isSym s && (s.num == 0)
def isNone (s : Sym) : Bool := s.name.isEmpty && !s.lit && (s.num == 0)
def maySym (k : Int) (s : Sym) : Bool :=
  if isSym s = false ∨ s.lit = true ∧ 5 ≤ k then false
  else if s.num ≠ 0 ∧ (k ≠ 1 ∨ s.lit = true ∨ s.num < 1 ∨ 50000 < s.num) then false else true
def mayDecl (d : Decl) : Bool :=
  if d.kind < 1 ∨ 6 < d.kind ∨ d.syms.length = 0 then false
  else if d.kind = 6 ∧ (d.tag ≠ [] ∨ d.syms.length ≠ 1) then false
  else if (d.kind ≠ 6 ∧ (d.tag ≠ [] ∨ d.kind = 5)) ∧ isName d.tag = false then false
  else d.syms.all (maySym d.kind)
def mayPart (p : Part) : Bool := if p.code = [] then isBare p.sym else isNone p.sym && decide (endAt p.code 0 = (p.code.length : Int))
def mayAlt (a : Alt) : Bool := (isNone a.prec || isBare a.prec) && a.parts.all mayPart
def mayRule (r : Rule) : Bool := isName r.left && decide (0 < r.alts.length) && r.alts.all mayAlt
def may (x : Source) : Bool := !decide (0 ≤ index x.pro [37, 125]) && decide (0 < x.rules.length) && x.decls.all mayDecl && x.rules.all mayRule

/-! ### Texts -/
def symWords (s : Sym) : List (List UInt8) :=
  if s.lit = true then [quoteText (s.name.headD 0)] else if s.num = 0 then [s.name] else [s.name, Go.Lib.itoa s.num]
def declWords (d : Decl) : List (List UInt8) :=
  (keys.getD (d.kind - 1).toNat [] :: (if d.tag = [] then [] else [60 :: (d.tag ++ [62])])) ++ d.syms.flatMap symWords
def partWords (p : Part) : List (List UInt8) := if p.code = [] then symWords p.sym else [p.code]
def altWords (a : Alt) : List (List UInt8) := a.parts.flatMap partWords ++ (if isNone a.prec = true then [] else [37, 112, 114, 101, 99] :: symWords a.prec)
def altsWords : Nat → List Alt → List (List UInt8)
  | _, [] => []
  | k, a :: l => ((if k = 0 then [58] else [124]) :: altWords a) ++ altsWords (k + 1) l
def ruleWords (r : Rule) : List (List UInt8) := r.left :: (altsWords 0 r.alts ++ [[59]])
/-- Words with a byte between them. -/
def joinSp : List (List UInt8) → List UInt8
  | [] => []
  | [w] => w
  | w :: v :: l => w ++ 32 :: joinSp (v :: l)
def text (x : Source) : List UInt8 :=
  if may x = false then [] else
  (if x.pro = [] then [] else 37 :: 123 :: (x.pro ++ [37, 125, 10])) ++ x.decls.flatMap (fun d => joinSp (declWords d) ++ [10]) ++ [37, 37, 10] ++
    x.rules.flatMap (fun r => joinSp (ruleWords r) ++ [10]) ++ (if x.tail = [] then [] else 37 :: 37 :: x.tail)

/-! ### The same but for places -/
def all2 {α : Type} (f : α → α → Bool) : List α → List α → Bool
  | [], [] => true
  | a :: l, b :: m => f a b && all2 f l m
  | _, _ => false
def sameSym (a b : Sym) : Bool := (a.name == b.name) && (a.lit == b.lit) && (a.num == b.num)
def samePart (a b : Part) : Bool := sameSym a.sym b.sym && (a.code == b.code)
def sameAlt (a b : Alt) : Bool := sameSym a.prec b.prec && all2 samePart a.parts b.parts
def sameDecl (a b : Decl) : Bool := (a.kind == b.kind) && (a.tag == b.tag) && all2 sameSym a.syms b.syms
def sameRule (a b : Rule) : Bool := (a.left == b.left) && all2 sameAlt a.alts b.alts
def same (a b : Source) : Bool := (a.pro == b.pro) && (a.tail == b.tail) && all2 sameDecl a.decls b.decls && all2 sameRule a.rules b.rules
end Sp
open Go.RowKit

theorem quote_cases (c : UInt8) : Sp.plainq c = true ∨ c = 10 ∨ c = 9 ∨ c = 13 ∨ c = 92 ∨ c = 39 ∨ (Sp.plainq c = false ∧ Lib.indexByte [10, 9, 13, 92, 39] c = -1 ∧ Sp.quoteText c = []) := by
  by_cases h1 : Sp.plainq c = true
  · exact .inl h1
  by_cases h2 : c = 10
  · exact .inr (.inl h2)
  by_cases h3 : c = 9
  · exact .inr (.inr (.inl h3))
  by_cases h4 : c = 13
  · exact .inr (.inr (.inr (.inl h4)))
  by_cases h5 : c = 92
  · exact .inr (.inr (.inr (.inr (.inl h5))))
  by_cases h6 : c = 39
  · exact .inr (.inr (.inr (.inr (.inr (.inl h6)))))
  refine .inr (.inr (.inr (.inr (.inr (.inr ⟨by simpa using h1, ?_, ?_⟩)))))
  · have k : ∀ x : UInt8, ¬ c = x → (x == c) = false := fun x h => by rw [beq_eq_false_iff_ne]; exact fun e => h e.symm
    simp [Lib.indexByte, k 10 h2, k 9 h3, k 13 h4, k 92 h5, k 39 h6]
  · unfold Sp.quoteText
    rw [if_neg h2, if_neg h3, if_neg h4, if_neg h5, if_neg h6, if_neg h1]

set_option maxHeartbeats 800000 in
theorem char_Text (c : UInt8) (w : World) :
    Calls Tryd.prog 36 #[.int .u8 (c.toNat : Int)] w fun e w' => e = .returned (.string ⟨(Sp.quoteText c).toArray⟩) ∧ Below w.heap.size w w' := by
  have HP := Lib.hid (fun W => char_plain c W)
  have HI := Lib.hid (fun W => strings_IndexByte_gl ⟨#[10, 9, 13, 92, 39]⟩ (c.toNat : Int) W)
  rcases quote_cases c with h | rfl | rfl | rfl | rfl | rfl | ⟨h1, h2, h3⟩
  · rw [h] at HP
    rw [Sp.quoteText_plain h]
    have hcv := convert_one w c
    clear h
    go_enter Tryd.func36, Tryd.ntmps36
    go_wp2_with (go_at_call 62; refine (HP.out _).mono ?_; rintro e w' ⟨rfl, rfl⟩)
    go_ret
    exact ⟨by simp; rfl, (Below.refl _ _).alloc (Nat.le_refl _) _⟩
  · rw [show Sp.plainq 10 = false by decide] at HP
    have HI' : Hid (∀ W, Calls Tryd.prog 63 #[.string ⟨#[10, 9, 13, 92, 39]⟩, .int .u8 10] W fun e w' => e = .returned (.int .i64 0) ∧ W = w') := Lib.hid (fun W => strings_IndexByte_gl ⟨#[10, 9, 13, 92, 39]⟩ 10 W)
    clear HI
    go_enter Tryd.func36, Tryd.ntmps36
    go_wp2_with (first
      | (go_at_call 62; refine (HP.out _).mono ?_; rintro e w' ⟨rfl, rfl⟩)
      | (go_at_call 63; refine (HI'.out _).mono ?_; rintro e w' ⟨rfl, rfl⟩))
    go_ret
    exact ⟨rfl, Below.refl _ _⟩
  · rw [show Sp.plainq 9 = false by decide] at HP
    have HI' : Hid (∀ W, Calls Tryd.prog 63 #[.string ⟨#[10, 9, 13, 92, 39]⟩, .int .u8 9] W fun e w' => e = .returned (.int .i64 1) ∧ W = w') := Lib.hid (fun W => strings_IndexByte_gl ⟨#[10, 9, 13, 92, 39]⟩ 9 W)
    clear HI
    go_enter Tryd.func36, Tryd.ntmps36
    go_wp2_with (first
      | (go_at_call 62; refine (HP.out _).mono ?_; rintro e w' ⟨rfl, rfl⟩)
      | (go_at_call 63; refine (HI'.out _).mono ?_; rintro e w' ⟨rfl, rfl⟩))
    go_ret
    exact ⟨rfl, Below.refl _ _⟩
  · rw [show Sp.plainq 13 = false by decide] at HP
    have HI' : Hid (∀ W, Calls Tryd.prog 63 #[.string ⟨#[10, 9, 13, 92, 39]⟩, .int .u8 13] W fun e w' => e = .returned (.int .i64 2) ∧ W = w') := Lib.hid (fun W => strings_IndexByte_gl ⟨#[10, 9, 13, 92, 39]⟩ 13 W)
    clear HI
    go_enter Tryd.func36, Tryd.ntmps36
    go_wp2_with (first
      | (go_at_call 62; refine (HP.out _).mono ?_; rintro e w' ⟨rfl, rfl⟩)
      | (go_at_call 63; refine (HI'.out _).mono ?_; rintro e w' ⟨rfl, rfl⟩))
    go_ret
    exact ⟨rfl, Below.refl _ _⟩
  · rw [show Sp.plainq 92 = false by decide] at HP
    have HI' : Hid (∀ W, Calls Tryd.prog 63 #[.string ⟨#[10, 9, 13, 92, 39]⟩, .int .u8 92] W fun e w' => e = .returned (.int .i64 3) ∧ W = w') := Lib.hid (fun W => strings_IndexByte_gl ⟨#[10, 9, 13, 92, 39]⟩ 92 W)
    clear HI
    go_enter Tryd.func36, Tryd.ntmps36
    go_wp2_with (first
      | (go_at_call 62; refine (HP.out _).mono ?_; rintro e w' ⟨rfl, rfl⟩)
      | (go_at_call 63; refine (HI'.out _).mono ?_; rintro e w' ⟨rfl, rfl⟩))
    go_ret
    exact ⟨rfl, Below.refl _ _⟩
  · rw [show Sp.plainq 39 = false by decide] at HP
    have HI' : Hid (∀ W, Calls Tryd.prog 63 #[.string ⟨#[10, 9, 13, 92, 39]⟩, .int .u8 39] W fun e w' => e = .returned (.int .i64 4) ∧ W = w') := Lib.hid (fun W => strings_IndexByte_gl ⟨#[10, 9, 13, 92, 39]⟩ 39 W)
    clear HI
    go_enter Tryd.func36, Tryd.ntmps36
    go_wp2_with (first
      | (go_at_call 62; refine (HP.out _).mono ?_; rintro e w' ⟨rfl, rfl⟩)
      | (go_at_call 63; refine (HI'.out _).mono ?_; rintro e w' ⟨rfl, rfl⟩))
    go_ret
    exact ⟨rfl, Below.refl _ _⟩
  · rw [h1] at HP
    have hc : ((c.toNat : Int).toNat).toUInt8 = c := by simp
    have HI' : Hid (∀ W, Calls Tryd.prog 63 #[.string ⟨#[10, 9, 13, 92, 39]⟩, .int .u8 (c.toNat : Int)] W fun e w' => e = .returned (.int .i64 (-1)) ∧ W = w') := Lib.hid (fun W => by
      have h := HI.out W
      rw [hc] at h
      rw [show Lib.indexByte (⟨#[10, 9, 13, 92, 39]⟩ : ByteArray).data.toList c = -1 from h2] at h
      exact h)
    rw [h3]
    clear HI h1 h2 h3 hc
    go_enter Tryd.func36, Tryd.ntmps36
    go_wp2_with (first
      | (go_at_call 62; refine (HP.out _).mono ?_; rintro e w' ⟨rfl, rfl⟩)
      | (go_at_call 63; refine (HI'.out _).mono ?_; rintro e w' ⟨rfl, rfl⟩))
    go_ret
    exact ⟨rfl, Below.refl _ _⟩

/-! ### Symbols -/
def symC (s : Sp.Sym) : List Value := [.string ⟨s.name.toArray⟩, .bool s.lit, .int .i64 s.num, .int .i64 s.at_]
def symV (s : Sp.Sym) : Value := .agg (symC s).toArray
theorem stood_sym : Tryd.prog.stoodInHeld 26 = false := by kernel_rfl
theorem fields_sym : Tryd.prog.underlying 26 = some (.struct (Tryd.prog.fieldsOf 26)) := by kernel_rfl
theorem eql_sym (a0 b0 : ByteArray) (a1 b1 : Bool) (a2 b2 a3 b3 : Int) (w : World) :
    (binOp .eql 26 (.agg #[.string a0, .bool a1, .int .i64 a2, .int .i64 a3]) (.agg #[.string b0, .bool b1, .int .i64 b2, .int .i64 b3])).run Tryd.prog w =
      .ok (.bool ((a0.toList == b0.toList) && (a1 == b1) && (a2 == b2) && (a3 == b3))) w := by
  rw [run_eql_struct, run_equalIn_agg w 9999 26 _ _ fields_sym stood_sym]
  simp only [Program.fieldsOf, Tryd.underlying26, Op.eqFields]
  cases h0 : a0.toList == b0.toList <;> cases h1 : a1 == b1 <;> cases h2 : a2 == b2 <;> cases h3 : a3 == b3 <;>
    simp [go_sem, Tryd.underlying3, Tryd.underlying9, Tryd.underlying4, h0, h1, h2, h3]

set_option maxHeartbeats 800000 in
theorem print_symbol (s : Sp.Sym) (W : World) (hs : s.name.length ≤ 4000) :
    Calls Tryd.prog 67 #[symV s] W fun e w' => e = .returned (.bool (Sp.isSym s)) ∧ Below W.heap.size W w' := by
  obtain ⟨nm, lt, nu, pa⟩ := s
  have HB := Lib.hid (fun o : Obj => (Below.refl _ W).alloc (Nat.le_refl _) o)
  show Calls _ _ #[.agg #[.string ⟨nm.toArray⟩, .bool lt, .int .i64 nu, .int .i64 pa]] _ _
  cases lt with
  | false =>
    have hN := body_Name ⟨nm.toArray⟩
    have HN := Lib.hid (fun w => hN w (by rw [Lib.size_eq]; simp only [List.toList_toArray] at *; omega))
    have e : Sp.isSym ⟨nm, false, nu, pa⟩ = Sp.isName nm := rfl
    rw [e]
    clear e hN hs
    go_enter Tryd.func67, Tryd.ntmps67
    go_wp2_with (go_at_call 66; refine (HN.out _).mono ?_; rintro e w' ⟨rfl, rfl⟩)
    go_ret
    exact ⟨rfl, HB.out _⟩
  | true =>
    rcases nm with _ | ⟨c, _ | ⟨d, u⟩⟩
    · go_enter Tryd.func67, Tryd.ntmps67
      go_wp2_with fail
      go_ret
      exact ⟨rfl, HB.out _⟩
    · have HC := Lib.hid (fun w => char_Text c w)
      have e : Sp.isSym ⟨[c], true, nu, pa⟩ = !(Sp.quoteText c).isEmpty := rfl
      rw [e]
      generalize Sp.quoteText c = Q at HC
      clear e hs
      go_enter Tryd.func67, Tryd.ntmps67
      go_wp2_with fail
      refine (HC.out _).mono ?_
      rintro e w' ⟨rfl, hb⟩
      have HB' := Lib.hid ((HB.out _).trans (hb.mono (by simp)))
      clear hb
      cases Q with
      | nil =>
        go_wp2_with fail
        go_ret
        exact ⟨rfl, HB'.out⟩
      | cons q Q =>
        have hne : (q :: Q).isEmpty = false := rfl
        go_wp2_with fail
        go_ret
        exact ⟨rfl, HB'.out⟩
    · have hsz : (((⟨(c :: d :: u).toArray⟩ : ByteArray).size : Int) == 1) = false := by rw [beq_eq_false_iff_ne, Lib.size_eq]; simp; omega
      go_enter Tryd.func67, Tryd.ntmps67
      go_wp2_with fail
      go_ret
      exact ⟨rfl, HB.out _⟩

set_option maxHeartbeats 800000 in
theorem print_bare (s : Sp.Sym) (W : World) (hs : s.name.length ≤ 4000) :
    Calls Tryd.prog 95 #[symV s] W fun e w' => e = .returned (.bool (Sp.isBare s)) ∧ Below W.heap.size W w' := by
  have HS := Lib.hid (fun w => print_symbol s w hs)
  have hq : Sp.isBare s = (Sp.isSym s && (s.num == 0)) := rfl
  generalize Sp.isSym s = q at hq HS
  obtain ⟨nm, lt, nu, pa⟩ := s
  have HB := Lib.hid (fun o : Obj => (Below.refl _ W).alloc (Nat.le_refl _) o)
  rw [hq]
  clear hq hs
  show Calls _ _ #[.agg #[.string ⟨nm.toArray⟩, .bool lt, .int .i64 nu, .int .i64 pa]] _ _
  go_enter Tryd.func95, Tryd.ntmps95
  go_wp2_with fail
  refine (HS.out _).mono ?_
  rintro e w' ⟨rfl, hb⟩
  have hF := (hb.block W.heap.size (by simp)).trans (heap_last W _)
  have c2 := cell_at (i := 2) hF
  have HB' := Lib.hid ((HB.out _).trans (hb.mono (by simp)))
  clear hb hF
  cases q with
  | false =>
    go_wp2_with fail
    go_ret
    exact ⟨rfl, HB'.out⟩
  | true =>
    go_wp2_with fail
    go_ret
    exact ⟨by simp, HB'.out⟩

set_option maxHeartbeats 800000 in
theorem print_empty (s : Sp.Sym) (W : World) :
    Calls Tryd.prog 94 #[symV s] W fun e w' => e = .returned (.bool (Sp.isNone s)) ∧ Below W.heap.size W w' := by
  obtain ⟨nm, lt, nu, pa⟩ := s
  have HB := Lib.hid (fun o : Obj => (Below.refl _ W).alloc (Nat.le_refl _) o)
  have heq := eql_sym
  show Calls _ _ #[.agg #[.string ⟨nm.toArray⟩, .bool lt, .int .i64 nu, .int .i64 pa]] _ _
  go_enter Tryd.func94, Tryd.ntmps94
  go_wp2_with fail
  go_ret
  exact ⟨rfl, HB.out _⟩

end Go.Proofs.YtddnomjfcbplpaaDoor

namespace Go.Proofs.YtddnomjfcbplpaaDoor
open Go.RowKit

theorem SlAt.form {w : World} {v : Value} {size : Nat} {xs : List (List Value)} (h : SlAt w v size xs) : ∃ a cap, v = .slice a xs.length cap := by
  rcases h with ⟨rfl, a, cap, rfl⟩ | ⟨b, off, cap, rfl, _, _⟩
  · exact ⟨a, cap, rfl⟩
  · exact ⟨_, _, rfl⟩
theorem SlAt.some {w : World} {v : Value} {size : Nat} {xs : List (List Value)} (h : SlAt w v size xs) (hne : xs ≠ []) : ∃ b off cap, v = .slice (some ⟨b, off, none⟩) xs.length cap ∧ b < w.heap.size ∧ ∀ i r, xs[i]? = some r → ∀ j u, r[j]? = some u → w.cell? ⟨b, off + i * size + j, none⟩ = some u := by
  rcases h with ⟨h, _⟩ | h
  · exact absurd h hne
  · exact h
end Go.Proofs.YtddnomjfcbplpaaDoor

namespace Go.Proofs.YtddnomjfcbplpaaDoor
open Go.RowKit

set_option maxRecDepth 100000 in
set_option maxHeartbeats 1600000 in
theorem index_Decl (v : Value) (rows : List (List Value)) (g : Nat → Bool) (w : World) (hsl : SlAt w v 4 rows) (hlen : ∀ row ∈ rows, row.length = 4) (hn : rows.length < 4294967281)
    (hf : ∀ i row, rows[i]? = some row → ∀ W, Below w.heap.size w W → Calls Tryd.prog 39 #[.agg row.toArray] W fun e w' => e = .returned (.bool (g i)) ∧ Below W.heap.size W w') :
    Calls Tryd.prog 65 #[v, .func (.func 39) #[] #[]] w fun e w' => (∃ r : Int, e = .returned (.int .i64 r) ∧ decide (0 ≤ r) = (List.range rows.length).any g) ∧ Below w.heap.size w w' := by
  have HS := Lib.hid hsl
  have HL := Lib.hid hlen
  have HF := Lib.hid hf
  obtain ⟨a, cap, rfl⟩ := hsl.form
  generalize hnn : rows.length = n at *
  have HNN := Lib.hid hnn
  clear hsl hlen hf hnn
  go_enter Tryd.func65, Tryd.ntmps65
  go_wp2_with fail
  go_loopw [8] (fun iv wr => ∃ k : Nat, k ≤ n ∧ iv = .int .i64 k ∧ Hid (∀ j, j < k → g j = false) ∧ Hid (Below w.heap.size w wr)) (fun iv _ => n - (intOf iv).toNat)
  case atStart => exact ⟨0, Nat.zero_le _, rfl, Lib.hid (fun j hj => absurd hj (Nat.not_lt_zero _)), Lib.hid (Below.refl _ _)⟩
  case round =>
    obtain ⟨k, hk, rfl, HG, HB⟩ := hrel
    have hk0 : (0 : Int) ≤ (k : Int) := Int.natCast_nonneg _
    by_cases hkn : k < n
    · have hkl : k < rows.length := by have := HNN.out; omega
      have hrow : rows[k]? = some rows[k] := List.getElem?_eq_getElem hkl
      have hrl := HL.out _ (List.mem_of_getElem? hrow)
      generalize rows[k] = row at hrow hrl
      obtain ⟨b, off, cap', hv, hb, hc⟩ := HS.out.some (by intro h; rw [h] at hkl; simp at hkl)
      obtain ⟨rfl, hcap⟩ : a = some ⟨b, off, none⟩ ∧ cap = cap' := by have := HNN.out; simpa [this] using hv
      have hcc := fun j u (h : row[j]? = some u) => (HB.out.cell (p := ⟨b, _, none⟩) hb).trans (hc k row hrow j u h)
      have HC := HF.out k row hrow _ HB.out
      rcases row with _ | ⟨r0, _ | ⟨r1, _ | ⟨r2, _ | ⟨r3, _ | ⟨x, u⟩⟩⟩⟩⟩
      · simp at hrl
      · simp at hrl
      · simp at hrl
      · simp at hrl
      rotate_left
      · simp at hrl
      have a0 := hcc 0 _ rfl
      have a1 := hcc 1 _ rfl
      have a2 := hcc 2 _ rfl
      have a3 := hcc 3 _ rfl
      simp only [Nat.add_zero] at a0
      have HC' := Lib.hid HC
      generalize hgk : g k = q at HC'
      have HGK := Lib.hid hgk
      have hsz := HB.out.size
      have hk1 : (k : Int) < (n : Int) := by omega
      clear hv hcap hcc hc hrow hrl HC hgk
      go_wp2_with fail
      refine HC'.out.mono ?_
      rintro e w' ⟨rfl, hb'⟩
      have HB' := Lib.hid (HB.out.trans (hb'.mono hsz))
      clear hb'
      cases q with
      | true =>
        go_wp2_with fail
        go_ret
        refine ⟨⟨_, rfl, ?_⟩, HB'.out⟩
        have h1 : (List.range n).any g = true := List.any_eq_true.2 ⟨k, List.mem_range.2 hkn, HGK.out⟩
        rw [h1]
        simp
      | false =>
        go_wp2_with fail
        first
          | (go_roundw
             case rel =>
               go_light
               refine ⟨k + 1, by omega, by go_num, Lib.hid (fun j hj => ?_), HB'⟩
               rcases Nat.lt_succ_iff_lt_or_eq.1 hj with h | rfl
               · exact HG.out j h
               · exact HGK.out
             case measure => go_light; simp [intOf]; omega)
          | (refine ⟨⟨k + 1, by omega, by go_num, Lib.hid (fun j hj => ?_), HB'⟩, by simp [intOf]; omega⟩
             rcases Nat.lt_succ_iff_lt_or_eq.1 hj with h | rfl
             · exact HG.out j h
             · exact HGK.out)
    · obtain rfl : k = n := by omega
      go_wp2_with fail
      go_ret
      refine ⟨⟨_, rfl, ?_⟩, HB.out⟩
      have h1 : (List.range k).any g = false := by
        rw [List.any_eq_false]
        intro j hj
        rw [HG.out j (List.mem_range.1 hj)]
        simp
      rw [h1]
      simp

set_option maxHeartbeats 400000 in
theorem contains_Decl (v : Value) (rows : List (List Value)) (g : Nat → Bool) (w : World) (hsl : SlAt w v 4 rows) (hlen : ∀ row ∈ rows, row.length = 4) (hn : rows.length < 4294967281)
    (hf : ∀ i row, rows[i]? = some row → ∀ W, Below w.heap.size w W → Calls Tryd.prog 39 #[.agg row.toArray] W fun e w' => e = .returned (.bool (g i)) ∧ Below W.heap.size W w') :
    Calls Tryd.prog 38 #[v, .func (.func 39) #[] #[]] w fun e w' => e = .returned (.bool ((List.range rows.length).any g)) ∧ Below w.heap.size w w' := by
  have HI := Lib.hid (index_Decl v rows g w hsl hlen hn hf)
  generalize (List.range rows.length).any g = B at HI
  clear hsl hlen hn hf
  go_enter Tryd.func38, Tryd.ntmps38
  go_wp2_with fail
  refine HI.out.mono ?_
  rintro e w' ⟨⟨r, rfl, hr⟩, hb⟩
  have HR := Lib.hid hr
  have HB := Lib.hid hb
  clear hr hb
  go_wp2_with fail
  go_ret
  exact ⟨ret_bool HR.out, HB.out⟩


set_option maxRecDepth 100000 in
set_option maxHeartbeats 1600000 in
theorem index_Rule (v : Value) (rows : List (List Value)) (g : Nat → Bool) (w : World) (hsl : SlAt w v 3 rows) (hlen : ∀ row ∈ rows, row.length = 3) (hn : rows.length < 4294967281)
    (hf : ∀ i row, rows[i]? = some row → ∀ W, Below w.heap.size w W → Calls Tryd.prog 42 #[.agg row.toArray] W fun e w' => e = .returned (.bool (g i)) ∧ Below W.heap.size W w') :
    Calls Tryd.prog 68 #[v, .func (.func 42) #[] #[]] w fun e w' => (∃ r : Int, e = .returned (.int .i64 r) ∧ decide (0 ≤ r) = (List.range rows.length).any g) ∧ Below w.heap.size w w' := by
  have HS := Lib.hid hsl
  have HL := Lib.hid hlen
  have HF := Lib.hid hf
  obtain ⟨a, cap, rfl⟩ := hsl.form
  generalize hnn : rows.length = n at *
  have HNN := Lib.hid hnn
  clear hsl hlen hf hnn
  go_enter Tryd.func68, Tryd.ntmps68
  go_wp2_with fail
  go_loopw [8] (fun iv wr => ∃ k : Nat, k ≤ n ∧ iv = .int .i64 k ∧ Hid (∀ j, j < k → g j = false) ∧ Hid (Below w.heap.size w wr)) (fun iv _ => n - (intOf iv).toNat)
  case atStart => exact ⟨0, Nat.zero_le _, rfl, Lib.hid (fun j hj => absurd hj (Nat.not_lt_zero _)), Lib.hid (Below.refl _ _)⟩
  case round =>
    obtain ⟨k, hk, rfl, HG, HB⟩ := hrel
    have hk0 : (0 : Int) ≤ (k : Int) := Int.natCast_nonneg _
    by_cases hkn : k < n
    · have hkl : k < rows.length := by have := HNN.out; omega
      have hrow : rows[k]? = some rows[k] := List.getElem?_eq_getElem hkl
      have hrl := HL.out _ (List.mem_of_getElem? hrow)
      generalize rows[k] = row at hrow hrl
      obtain ⟨b, off, cap', hv, hb, hc⟩ := HS.out.some (by intro h; rw [h] at hkl; simp at hkl)
      obtain ⟨rfl, hcap⟩ : a = some ⟨b, off, none⟩ ∧ cap = cap' := by have := HNN.out; simpa [this] using hv
      have hcc := fun j u (h : row[j]? = some u) => (HB.out.cell (p := ⟨b, _, none⟩) hb).trans (hc k row hrow j u h)
      have HC := HF.out k row hrow _ HB.out
      rcases row with _ | ⟨r0, _ | ⟨r1, _ | ⟨r2, _ | ⟨x, u⟩⟩⟩⟩
      · simp at hrl
      · simp at hrl
      · simp at hrl
      rotate_left
      · simp at hrl
      have a0 := hcc 0 _ rfl
      have a1 := hcc 1 _ rfl
      have a2 := hcc 2 _ rfl
      simp only [Nat.add_zero] at a0
      have HC' := Lib.hid HC
      generalize hgk : g k = q at HC'
      have HGK := Lib.hid hgk
      have hsz := HB.out.size
      have hk1 : (k : Int) < (n : Int) := by omega
      clear hv hcap hcc hc hrow hrl HC hgk
      go_wp2_with fail
      refine HC'.out.mono ?_
      rintro e w' ⟨rfl, hb'⟩
      have HB' := Lib.hid (HB.out.trans (hb'.mono hsz))
      clear hb'
      cases q with
      | true =>
        go_wp2_with fail
        go_ret
        refine ⟨⟨_, rfl, ?_⟩, HB'.out⟩
        have h1 : (List.range n).any g = true := List.any_eq_true.2 ⟨k, List.mem_range.2 hkn, HGK.out⟩
        rw [h1]
        simp
      | false =>
        go_wp2_with fail
        first
          | (go_roundw
             case rel =>
               go_light
               refine ⟨k + 1, by omega, by go_num, Lib.hid (fun j hj => ?_), HB'⟩
               rcases Nat.lt_succ_iff_lt_or_eq.1 hj with h | rfl
               · exact HG.out j h
               · exact HGK.out
             case measure => go_light; simp [intOf]; omega)
          | (refine ⟨⟨k + 1, by omega, by go_num, Lib.hid (fun j hj => ?_), HB'⟩, by simp [intOf]; omega⟩
             rcases Nat.lt_succ_iff_lt_or_eq.1 hj with h | rfl
             · exact HG.out j h
             · exact HGK.out)
    · obtain rfl : k = n := by omega
      go_wp2_with fail
      go_ret
      refine ⟨⟨_, rfl, ?_⟩, HB.out⟩
      have h1 : (List.range k).any g = false := by
        rw [List.any_eq_false]
        intro j hj
        rw [HG.out j (List.mem_range.1 hj)]
        simp
      rw [h1]
      simp

set_option maxHeartbeats 400000 in
theorem contains_Rule (v : Value) (rows : List (List Value)) (g : Nat → Bool) (w : World) (hsl : SlAt w v 3 rows) (hlen : ∀ row ∈ rows, row.length = 3) (hn : rows.length < 4294967281)
    (hf : ∀ i row, rows[i]? = some row → ∀ W, Below w.heap.size w W → Calls Tryd.prog 42 #[.agg row.toArray] W fun e w' => e = .returned (.bool (g i)) ∧ Below W.heap.size W w') :
    Calls Tryd.prog 41 #[v, .func (.func 42) #[] #[]] w fun e w' => e = .returned (.bool ((List.range rows.length).any g)) ∧ Below w.heap.size w w' := by
  have HI := Lib.hid (index_Rule v rows g w hsl hlen hn hf)
  generalize (List.range rows.length).any g = B at HI
  clear hsl hlen hn hf
  go_enter Tryd.func41, Tryd.ntmps41
  go_wp2_with fail
  refine HI.out.mono ?_
  rintro e w' ⟨⟨r, rfl, hr⟩, hb⟩
  have HR := Lib.hid hr
  have HB := Lib.hid hb
  clear hr hb
  go_wp2_with fail
  go_ret
  exact ⟨ret_bool HR.out, HB.out⟩


set_option maxRecDepth 100000 in
set_option maxHeartbeats 1600000 in
theorem index_Alt (v : Value) (rows : List (List Value)) (g : Nat → Bool) (w : World) (hsl : SlAt w v 6 rows) (hlen : ∀ row ∈ rows, row.length = 6) (hn : rows.length < 4294967281)
    (hf : ∀ i row, rows[i]? = some row → ∀ W, Below w.heap.size w W → Calls Tryd.prog 70 #[.agg row.toArray] W fun e w' => e = .returned (.bool (g i)) ∧ Below W.heap.size W w') :
    Calls Tryd.prog 93 #[v, .func (.func 70) #[] #[]] w fun e w' => (∃ r : Int, e = .returned (.int .i64 r) ∧ decide (0 ≤ r) = (List.range rows.length).any g) ∧ Below w.heap.size w w' := by
  have HS := Lib.hid hsl
  have HL := Lib.hid hlen
  have HF := Lib.hid hf
  obtain ⟨a, cap, rfl⟩ := hsl.form
  generalize hnn : rows.length = n at *
  have HNN := Lib.hid hnn
  clear hsl hlen hf hnn
  go_enter Tryd.func93, Tryd.ntmps93
  go_wp2_with fail
  go_loopw [8] (fun iv wr => ∃ k : Nat, k ≤ n ∧ iv = .int .i64 k ∧ Hid (∀ j, j < k → g j = false) ∧ Hid (Below w.heap.size w wr)) (fun iv _ => n - (intOf iv).toNat)
  case atStart => exact ⟨0, Nat.zero_le _, rfl, Lib.hid (fun j hj => absurd hj (Nat.not_lt_zero _)), Lib.hid (Below.refl _ _)⟩
  case round =>
    obtain ⟨k, hk, rfl, HG, HB⟩ := hrel
    have hk0 : (0 : Int) ≤ (k : Int) := Int.natCast_nonneg _
    by_cases hkn : k < n
    · have hkl : k < rows.length := by have := HNN.out; omega
      have hrow : rows[k]? = some rows[k] := List.getElem?_eq_getElem hkl
      have hrl := HL.out _ (List.mem_of_getElem? hrow)
      generalize rows[k] = row at hrow hrl
      obtain ⟨b, off, cap', hv, hb, hc⟩ := HS.out.some (by intro h; rw [h] at hkl; simp at hkl)
      obtain ⟨rfl, hcap⟩ : a = some ⟨b, off, none⟩ ∧ cap = cap' := by have := HNN.out; simpa [this] using hv
      have hcc := fun j u (h : row[j]? = some u) => (HB.out.cell (p := ⟨b, _, none⟩) hb).trans (hc k row hrow j u h)
      have HC := HF.out k row hrow _ HB.out
      rcases row with _ | ⟨r0, _ | ⟨r1, _ | ⟨r2, _ | ⟨r3, _ | ⟨r4, _ | ⟨r5, _ | ⟨x, u⟩⟩⟩⟩⟩⟩⟩
      · simp at hrl
      · simp at hrl
      · simp at hrl
      · simp at hrl
      · simp at hrl
      · simp at hrl
      rotate_left
      · simp at hrl
      have a0 := hcc 0 _ rfl
      have a1 := hcc 1 _ rfl
      have a2 := hcc 2 _ rfl
      have a3 := hcc 3 _ rfl
      have a4 := hcc 4 _ rfl
      have a5 := hcc 5 _ rfl
      simp only [Nat.add_zero] at a0
      have HC' := Lib.hid HC
      generalize hgk : g k = q at HC'
      have HGK := Lib.hid hgk
      have hsz := HB.out.size
      have hk1 : (k : Int) < (n : Int) := by omega
      clear hv hcap hcc hc hrow hrl HC hgk
      go_wp2_with fail
      refine HC'.out.mono ?_
      rintro e w' ⟨rfl, hb'⟩
      have HB' := Lib.hid (HB.out.trans (hb'.mono hsz))
      clear hb'
      cases q with
      | true =>
        go_wp2_with fail
        go_ret
        refine ⟨⟨_, rfl, ?_⟩, HB'.out⟩
        have h1 : (List.range n).any g = true := List.any_eq_true.2 ⟨k, List.mem_range.2 hkn, HGK.out⟩
        rw [h1]
        simp
      | false =>
        go_wp2_with fail
        first
          | (go_roundw
             case rel =>
               go_light
               refine ⟨k + 1, by omega, by go_num, Lib.hid (fun j hj => ?_), HB'⟩
               rcases Nat.lt_succ_iff_lt_or_eq.1 hj with h | rfl
               · exact HG.out j h
               · exact HGK.out
             case measure => go_light; simp [intOf]; omega)
          | (refine ⟨⟨k + 1, by omega, by go_num, Lib.hid (fun j hj => ?_), HB'⟩, by simp [intOf]; omega⟩
             rcases Nat.lt_succ_iff_lt_or_eq.1 hj with h | rfl
             · exact HG.out j h
             · exact HGK.out)
    · obtain rfl : k = n := by omega
      go_wp2_with fail
      go_ret
      refine ⟨⟨_, rfl, ?_⟩, HB.out⟩
      have h1 : (List.range k).any g = false := by
        rw [List.any_eq_false]
        intro j hj
        rw [HG.out j (List.mem_range.1 hj)]
        simp
      rw [h1]
      simp

set_option maxHeartbeats 400000 in
theorem contains_Alt (v : Value) (rows : List (List Value)) (g : Nat → Bool) (w : World) (hsl : SlAt w v 6 rows) (hlen : ∀ row ∈ rows, row.length = 6) (hn : rows.length < 4294967281)
    (hf : ∀ i row, rows[i]? = some row → ∀ W, Below w.heap.size w W → Calls Tryd.prog 70 #[.agg row.toArray] W fun e w' => e = .returned (.bool (g i)) ∧ Below W.heap.size W w') :
    Calls Tryd.prog 69 #[v, .func (.func 70) #[] #[]] w fun e w' => e = .returned (.bool ((List.range rows.length).any g)) ∧ Below w.heap.size w w' := by
  have HI := Lib.hid (index_Alt v rows g w hsl hlen hn hf)
  generalize (List.range rows.length).any g = B at HI
  clear hsl hlen hn hf
  go_enter Tryd.func69, Tryd.ntmps69
  go_wp2_with fail
  refine HI.out.mono ?_
  rintro e w' ⟨⟨r, rfl, hr⟩, hb⟩
  have HR := Lib.hid hr
  have HB := Lib.hid hb
  clear hr hb
  go_wp2_with fail
  go_ret
  exact ⟨ret_bool HR.out, HB.out⟩


set_option maxRecDepth 100000 in
set_option maxHeartbeats 1600000 in
theorem index_Part (v : Value) (rows : List (List Value)) (g : Nat → Bool) (w : World) (hsl : SlAt w v 6 rows) (hlen : ∀ row ∈ rows, row.length = 6) (hn : rows.length < 4294967281)
    (hf : ∀ i row, rows[i]? = some row → ∀ W, Below w.heap.size w W → Calls Tryd.prog 97 #[.agg row.toArray] W fun e w' => e = .returned (.bool (g i)) ∧ Below W.heap.size W w') :
    Calls Tryd.prog 115 #[v, .func (.func 97) #[] #[]] w fun e w' => (∃ r : Int, e = .returned (.int .i64 r) ∧ decide (0 ≤ r) = (List.range rows.length).any g) ∧ Below w.heap.size w w' := by
  have HS := Lib.hid hsl
  have HL := Lib.hid hlen
  have HF := Lib.hid hf
  obtain ⟨a, cap, rfl⟩ := hsl.form
  generalize hnn : rows.length = n at *
  have HNN := Lib.hid hnn
  clear hsl hlen hf hnn
  go_enter Tryd.func115, Tryd.ntmps115
  go_wp2_with fail
  go_loopw [8] (fun iv wr => ∃ k : Nat, k ≤ n ∧ iv = .int .i64 k ∧ Hid (∀ j, j < k → g j = false) ∧ Hid (Below w.heap.size w wr)) (fun iv _ => n - (intOf iv).toNat)
  case atStart => exact ⟨0, Nat.zero_le _, rfl, Lib.hid (fun j hj => absurd hj (Nat.not_lt_zero _)), Lib.hid (Below.refl _ _)⟩
  case round =>
    obtain ⟨k, hk, rfl, HG, HB⟩ := hrel
    have hk0 : (0 : Int) ≤ (k : Int) := Int.natCast_nonneg _
    by_cases hkn : k < n
    · have hkl : k < rows.length := by have := HNN.out; omega
      have hrow : rows[k]? = some rows[k] := List.getElem?_eq_getElem hkl
      have hrl := HL.out _ (List.mem_of_getElem? hrow)
      generalize rows[k] = row at hrow hrl
      obtain ⟨b, off, cap', hv, hb, hc⟩ := HS.out.some (by intro h; rw [h] at hkl; simp at hkl)
      obtain ⟨rfl, hcap⟩ : a = some ⟨b, off, none⟩ ∧ cap = cap' := by have := HNN.out; simpa [this] using hv
      have hcc := fun j u (h : row[j]? = some u) => (HB.out.cell (p := ⟨b, _, none⟩) hb).trans (hc k row hrow j u h)
      have HC := HF.out k row hrow _ HB.out
      rcases row with _ | ⟨r0, _ | ⟨r1, _ | ⟨r2, _ | ⟨r3, _ | ⟨r4, _ | ⟨r5, _ | ⟨x, u⟩⟩⟩⟩⟩⟩⟩
      · simp at hrl
      · simp at hrl
      · simp at hrl
      · simp at hrl
      · simp at hrl
      · simp at hrl
      rotate_left
      · simp at hrl
      have a0 := hcc 0 _ rfl
      have a1 := hcc 1 _ rfl
      have a2 := hcc 2 _ rfl
      have a3 := hcc 3 _ rfl
      have a4 := hcc 4 _ rfl
      have a5 := hcc 5 _ rfl
      simp only [Nat.add_zero] at a0
      have HC' := Lib.hid HC
      generalize hgk : g k = q at HC'
      have HGK := Lib.hid hgk
      have hsz := HB.out.size
      have hk1 : (k : Int) < (n : Int) := by omega
      clear hv hcap hcc hc hrow hrl HC hgk
      go_wp2_with fail
      refine HC'.out.mono ?_
      rintro e w' ⟨rfl, hb'⟩
      have HB' := Lib.hid (HB.out.trans (hb'.mono hsz))
      clear hb'
      cases q with
      | true =>
        go_wp2_with fail
        go_ret
        refine ⟨⟨_, rfl, ?_⟩, HB'.out⟩
        have h1 : (List.range n).any g = true := List.any_eq_true.2 ⟨k, List.mem_range.2 hkn, HGK.out⟩
        rw [h1]
        simp
      | false =>
        go_wp2_with fail
        first
          | (go_roundw
             case rel =>
               go_light
               refine ⟨k + 1, by omega, by go_num, Lib.hid (fun j hj => ?_), HB'⟩
               rcases Nat.lt_succ_iff_lt_or_eq.1 hj with h | rfl
               · exact HG.out j h
               · exact HGK.out
             case measure => go_light; simp [intOf]; omega)
          | (refine ⟨⟨k + 1, by omega, by go_num, Lib.hid (fun j hj => ?_), HB'⟩, by simp [intOf]; omega⟩
             rcases Nat.lt_succ_iff_lt_or_eq.1 hj with h | rfl
             · exact HG.out j h
             · exact HGK.out)
    · obtain rfl : k = n := by omega
      go_wp2_with fail
      go_ret
      refine ⟨⟨_, rfl, ?_⟩, HB.out⟩
      have h1 : (List.range k).any g = false := by
        rw [List.any_eq_false]
        intro j hj
        rw [HG.out j (List.mem_range.1 hj)]
        simp
      rw [h1]
      simp

set_option maxHeartbeats 400000 in
theorem contains_Part (v : Value) (rows : List (List Value)) (g : Nat → Bool) (w : World) (hsl : SlAt w v 6 rows) (hlen : ∀ row ∈ rows, row.length = 6) (hn : rows.length < 4294967281)
    (hf : ∀ i row, rows[i]? = some row → ∀ W, Below w.heap.size w W → Calls Tryd.prog 97 #[.agg row.toArray] W fun e w' => e = .returned (.bool (g i)) ∧ Below W.heap.size W w') :
    Calls Tryd.prog 96 #[v, .func (.func 97) #[] #[]] w fun e w' => e = .returned (.bool ((List.range rows.length).any g)) ∧ Below w.heap.size w w' := by
  have HI := Lib.hid (index_Part v rows g w hsl hlen hn hf)
  generalize (List.range rows.length).any g = B at HI
  clear hsl hlen hn hf
  go_enter Tryd.func96, Tryd.ntmps96
  go_wp2_with fail
  refine HI.out.mono ?_
  rintro e w' ⟨⟨r, rfl, hr⟩, hb⟩
  have HR := Lib.hid hr
  have HB := Lib.hid hb
  clear hr hb
  go_wp2_with fail
  go_ret
  exact ⟨ret_bool HR.out, HB.out⟩

end Go.Proofs.YtddnomjfcbplpaaDoor
