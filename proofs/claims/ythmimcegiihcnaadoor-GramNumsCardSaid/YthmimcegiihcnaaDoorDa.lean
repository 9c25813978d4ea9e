/- Layer 8: the walks of char.Text, and of what print asks of a symbol. -/
import Derived.Test.YthmimcegiihcnaaDoorCa
import Derived.Test.YthmimcegiihcnaaDoorBZ
import Derived.Test.YthmimcegiihcnaaDoorBi
import Derived.Test.YthmimcegiihcnaaDoorSpZ
namespace Go.Proofs.YthmimcegiihcnaaDoor
namespace Sp
open Go.Lib (index indexByte hasPrefix)

structure Sym where
  name : List UInt8
  lit : Bool
  num : Int
  at_ : Int
structure Decl where
  kind : Int
  tag : List UInt8
  syms : List Sym
  at_ : Int
structure Part where
  sym : Sym
  code : List UInt8
  at_ : Int
structure Alt where
  parts : List Part
  prec : Sym
  at_ : Int
structure Rule where
  left : List UInt8
  alts : List Alt
  at_ : Int
structure Source where
  pro : List UInt8
  decls : List Decl
  rules : List Rule
  tail : List UInt8

/-! ### What may be -/
def quotable (l : List UInt8) : Bool := match l with
  | [c] => !(quoteText c).isEmpty
  | _ => false
def isSym (s : Sym) : Bool := if s.lit = true then quotable s.name else isName s.name
def isBare (s : Sym) : Bool := isSym s && (s.num == 0)
def isNone (s : Sym) : Bool := s.name.isEmpty && !s.lit && (s.num == 0)
def maySym (k : Int) (s : Sym) : Bool :=
  if isSym s = false ∨ s.lit = true ∧ 5 ≤ k then false
  else if s.num ≠ 0 ∧ (k ≠ 1 ∨ s.lit = true ∨ s.num < 1 ∨ 50000 < s.num) then false else true
def mayDecl (d : Decl) : Bool :=
  if d.kind < 1 ∨ 6 < d.kind ∨ d.syms.length = 0 then false
  else if d.kind = 6 ∧ (d.tag ≠ [] ∨ d.syms.length ≠ 1) then false
  else if (d.kind ≠ 6 ∧ (d.tag ≠ [] ∨ d.kind = 5)) ∧ isName d.tag = false then false
  else d.syms.all (maySym d.kind)
def mayPart (p : Part) : Bool := if p.code = [] then isBare p.sym else isNone p.sym && decide (endAt p.code 0 = (p.code.length : Int))
def mayAlt (a : Alt) : Bool := (isNone a.prec || isBare a.prec) && a.parts.all mayPart
def mayRule (r : Rule) : Bool := isName r.left && decide (0 < r.alts.length) && r.alts.all mayAlt
def may (x : Source) : Bool := !decide (0 ≤ index x.pro [37, 125]) && decide (0 < x.rules.length) && x.decls.all mayDecl && x.rules.all mayRule

/-! ### Texts -/
def symWords (s : Sym) : List (List UInt8) :=
  if s.lit = true then [quoteText (s.name.headD 0)] else if s.num = 0 then [s.name] else [s.name, Go.Lib.itoa s.num]
def declWords (d : Decl) : List (List UInt8) :=
  (keys.getD (d.kind - 1).toNat [] :: (if d.tag = [] then [] else [60 :: (d.tag ++ [62])])) ++ d.syms.flatMap symWords
def partWords (p : Part) : List (List UInt8) := if p.code = [] then symWords p.sym else [p.code]
def altWords (a : Alt) : List (List UInt8) := a.parts.flatMap partWords ++ (if isNone a.prec = true then [] else [37, 112, 114, 101, 99] :: symWords a.prec)
def altsWords : Nat → List Alt → List (List UInt8)
  | _, [] => []
  | k, a :: l => ((if k = 0 then [58] else [124]) :: altWords a) ++ altsWords (k + 1) l
def ruleWords (r : Rule) : List (List UInt8) := r.left :: (altsWords 0 r.alts ++ [[59]])
/-- Words with a byte between them. -/
def joinSp : List (List UInt8) → List UInt8
  | [] => []
  | [w] => w
  | w :: v :: l => w ++ 32 :: joinSp (v :: l)
def text (x : Source) : List UInt8 :=
  if may x = false then [] else
  (if x.pro = [] then [] else 37 :: 123 :: (x.pro ++ [37, 125, 10])) ++ x.decls.flatMap (fun d => joinSp (declWords d) ++ [10]) ++ [37, 37, 10] ++
    x.rules.flatMap (fun r => joinSp (ruleWords r) ++ [10]) ++ (if x.tail = [] then [] else 37 :: 37 :: x.tail)

/-! ### The same but for places -/
def all2 {α : Type} (f : α → α → Bool) : List α → List α → Bool
  | [], [] => true
  | a :: l, b :: m => f a b && all2 f l m
  | _, _ => false
def sameSym (a b : Sym) : Bool := (a.name == b.name) && (a.lit == b.lit) && (a.num == b.num)
def samePart (a b : Part) : Bool := sameSym a.sym b.sym && (a.code == b.code)
def sameAlt (a b : Alt) : Bool := sameSym a.prec b.prec && all2 samePart a.parts b.parts
def sameDecl (a b : Decl) : Bool := (a.kind == b.kind) && (a.tag == b.tag) && all2 sameSym a.syms b.syms
def sameRule (a b : Rule) : Bool := (a.left == b.left) && all2 sameAlt a.alts b.alts
def same (a b : Source) : Bool := (a.pro == b.pro) && (a.tail == b.tail) && all2 sameDecl a.decls b.decls && all2 sameRule a.rules b.rules
theorem all2_take {α : Type} (f : α → α → Bool) : ∀ (l m : List α), all2 f l m = true ↔ l.length = m.length ∧ ∀ (i : Nat) (a b : α), l[i]? = some a → m[i]? = some b → f a b = true
  | [], [] => by simp [all2]
  | [], b :: m => by simp [all2]
  | a :: l, [] => by simp [all2]
  | a :: l, b :: m => by
    have ih := all2_take f l m
    simp only [all2, Bool.and_eq_true, ih, List.length_cons]
    constructor
    · rintro ⟨h1, h2, h3⟩
      refine ⟨by omega, fun i x y hx hy => ?_⟩
      cases i with
      | zero => cases hx; cases hy; exact h1
      | succ i => exact h3 i x y hx hy
    · rintro ⟨h1, h2⟩
      exact ⟨h2 0 a b rfl rfl, by omega, fun i x y hx hy => h2 (i + 1) x y hx hy⟩
end Sp
open Go.RowKit

theorem quote_cases (c : UInt8) : Sp.plainq c = true ∨ c = 10 ∨ c = 9 ∨ c = 13 ∨ c = 92 ∨ c = 39 ∨ (Sp.plainq c = false ∧ Lib.indexByte [10, 9, 13, 92, 39] c = -1 ∧ Sp.quoteText c = []) := by
  by_cases h1 : Sp.plainq c = true
  · exact .inl h1
  by_cases h2 : c = 10
  · exact .inr (.inl h2)
  by_cases h3 : c = 9
  · exact .inr (.inr (.inl h3))
  by_cases h4 : c = 13
  · exact .inr (.inr (.inr (.inl h4)))
  by_cases h5 : c = 92
  · exact .inr (.inr (.inr (.inr (.inl h5))))
  by_cases h6 : c = 39
  · exact .inr (.inr (.inr (.inr (.inr (.inl h6)))))
  refine .inr (.inr (.inr (.inr (.inr (.inr ⟨by simpa using h1, ?_, ?_⟩)))))
  · have k : ∀ x : UInt8, ¬ c = x → (x == c) = false := fun x h => by rw [beq_eq_false_iff_ne]; exact fun e => h e.symm
    simp [Lib.indexByte, k 10 h2, k 9 h3, k 13 h4, k 92 h5, k 39 h6]
  · unfold Sp.quoteText
    rw [if_neg h2, if_neg h3, if_neg h4, if_neg h5, if_neg h6, if_neg h1]

set_option maxHeartbeats 800000 in
theorem char_Text (c : UInt8) (w : World) :
    Calls Tryd.prog 86 #[.int .u8 (c.toNat : Int)] w fun e w' => e = .returned (.string ⟨(Sp.quoteText c).toArray⟩) ∧ Below w.heap.size w w' := by
  have HP := Lib.hid (fun W => char_plain c W)
  have HI := Lib.hid (fun W => strings_IndexByte_gl ⟨#[10, 9, 13, 92, 39]⟩ (c.toNat : Int) W)
  rcases quote_cases c with h | rfl | rfl | rfl | rfl | rfl | ⟨h1, h2, h3⟩
  · rw [h] at HP
    rw [Sp.quoteText_plain h]
    have hcv := convert_one w c
    clear h
    go_enter Tryd.func86, Tryd.ntmps86
    go_wp2_with (go_at_call 104; refine (HP.out _).mono ?_; rintro e w' ⟨rfl, rfl⟩)
    go_ret
    exact ⟨by simp; rfl, (Below.refl _ _).alloc (Nat.le_refl _) _⟩
  · rw [show Sp.plainq 10 = false by decide] at HP
    have HI' : Hid (∀ W, Calls Tryd.prog 105 #[.string ⟨#[10, 9, 13, 92, 39]⟩, .int .u8 10] W fun e w' => e = .returned (.int .i64 0) ∧ W = w') := Lib.hid (fun W => strings_IndexByte_gl ⟨#[10, 9, 13, 92, 39]⟩ 10 W)
    clear HI
    go_enter Tryd.func86, Tryd.ntmps86
    go_wp2_with (first
      | (go_at_call 104; refine (HP.out _).mono ?_; rintro e w' ⟨rfl, rfl⟩)
      | (go_at_call 105; refine (HI'.out _).mono ?_; rintro e w' ⟨rfl, rfl⟩))
    go_ret
    exact ⟨rfl, Below.refl _ _⟩
  · rw [show Sp.plainq 9 = false by decide] at HP
    have HI' : Hid (∀ W, Calls Tryd.prog 105 #[.string ⟨#[10, 9, 13, 92, 39]⟩, .int .u8 9] W fun e w' => e = .returned (.int .i64 1) ∧ W = w') := Lib.hid (fun W => strings_IndexByte_gl ⟨#[10, 9, 13, 92, 39]⟩ 9 W)
    clear HI
    go_enter Tryd.func86, Tryd.ntmps86
    go_wp2_with (first
      | (go_at_call 104; refine (HP.out _).mono ?_; rintro e w' ⟨rfl, rfl⟩)
      | (go_at_call 105; refine (HI'.out _).mono ?_; rintro e w' ⟨rfl, rfl⟩))
    go_ret
    exact ⟨rfl, Below.refl _ _⟩
  · rw [show Sp.plainq 13 = false by decide] at HP
    have HI' : Hid (∀ W, Calls Tryd.prog 105 #[.string ⟨#[10, 9, 13, 92, 39]⟩, .int .u8 13] W fun e w' => e = .returned (.int .i64 2) ∧ W = w') := Lib.hid (fun W => strings_IndexByte_gl ⟨#[10, 9, 13, 92, 39]⟩ 13 W)
    clear HI
    go_enter Tryd.func86, Tryd.ntmps86
    go_wp2_with (first
      | (go_at_call 104; refine (HP.out _).mono ?_; rintro e w' ⟨rfl, rfl⟩)
      | (go_at_call 105; refine (HI'.out _).mono ?_; rintro e w' ⟨rfl, rfl⟩))
    go_ret
    exact ⟨rfl, Below.refl _ _⟩
  · rw [show Sp.plainq 92 = false by decide] at HP
    have HI' : Hid (∀ W, Calls Tryd.prog 105 #[.string ⟨#[10, 9, 13, 92, 39]⟩, .int .u8 92] W fun e w' => e = .returned (.int .i64 3) ∧ W = w') := Lib.hid (fun W => strings_IndexByte_gl ⟨#[10, 9, 13, 92, 39]⟩ 92 W)
    clear HI
    go_enter Tryd.func86, Tryd.ntmps86
    go_wp2_with (first
      | (go_at_call 104; refine (HP.out _).mono ?_; rintro e w' ⟨rfl, rfl⟩)
      | (go_at_call 105; refine (HI'.out _).mono ?_; rintro e w' ⟨rfl, rfl⟩))
    go_ret
    exact ⟨rfl, Below.refl _ _⟩
  · rw [show Sp.plainq 39 = false by decide] at HP
    have HI' : Hid (∀ W, Calls Tryd.prog 105 #[.string ⟨#[10, 9, 13, 92, 39]⟩, .int .u8 39] W fun e w' => e = .returned (.int .i64 4) ∧ W = w') := Lib.hid (fun W => strings_IndexByte_gl ⟨#[10, 9, 13, 92, 39]⟩ 39 W)
    clear HI
    go_enter Tryd.func86, Tryd.ntmps86
    go_wp2_with (first
      | (go_at_call 104; refine (HP.out _).mono ?_; rintro e w' ⟨rfl, rfl⟩)
      | (go_at_call 105; refine (HI'.out _).mono ?_; rintro e w' ⟨rfl, rfl⟩))
    go_ret
    exact ⟨rfl, Below.refl _ _⟩
  · rw [h1] at HP
    have hc : ((c.toNat : Int).toNat).toUInt8 = c := by simp
    have HI' : Hid (∀ W, Calls Tryd.prog 105 #[.string ⟨#[10, 9, 13, 92, 39]⟩, .int .u8 (c.toNat : Int)] W fun e w' => e = .returned (.int .i64 (-1)) ∧ W = w') := Lib.hid (fun W => by
      have h := HI.out W
      rw [hc] at h
      rw [show Lib.indexByte (⟨#[10, 9, 13, 92, 39]⟩ : ByteArray).data.toList c = -1 from h2] at h
      exact h)
    rw [h3]
    clear HI h1 h2 h3 hc
    go_enter Tryd.func86, Tryd.ntmps86
    go_wp2_with (first
      | (go_at_call 104; refine (HP.out _).mono ?_; rintro e w' ⟨rfl, rfl⟩)
      | (go_at_call 105; refine (HI'.out _).mono ?_; rintro e w' ⟨rfl, rfl⟩))
    go_ret
    exact ⟨rfl, Below.refl _ _⟩

/-! ### Symbols -/
def symC (s : Sp.Sym) : List Value := [.string ⟨s.name.toArray⟩, .bool s.lit, .int .i64 s.num, .int .i64 s.at_]
def symV (s : Sp.Sym) : Value := .agg (symC s).toArray
theorem stood_sym : Tryd.prog.stoodInHeld 40 = false := by kernel_rfl
theorem fields_sym : Tryd.prog.underlying 40 = some (.struct (Tryd.prog.fieldsOf 40)) := by kernel_rfl
theorem eql_sym (a0 b0 : ByteArray) (a1 b1 : Bool) (a2 b2 a3 b3 : Int) (w : World) :
    (binOp .eql 40 (.agg #[.string a0, .bool a1, .int .i64 a2, .int .i64 a3]) (.agg #[.string b0, .bool b1, .int .i64 b2, .int .i64 b3])).run Tryd.prog w =
      .ok (.bool ((a0.toList == b0.toList) && (a1 == b1) && (a2 == b2) && (a3 == b3))) w := by
  rw [run_eql_struct, run_equalIn_agg w 9999 40 _ _ fields_sym stood_sym]
  simp only [Program.fieldsOf, Tryd.underlying40, Op.eqFields]
  cases h0 : a0.toList == b0.toList <;> cases h1 : a1 == b1 <;> cases h2 : a2 == b2 <;> cases h3 : a3 == b3 <;>
    simp [go_sem, Tryd.underlying3, Tryd.underlying9, Tryd.underlying4, h0, h1, h2, h3]

set_option maxHeartbeats 800000 in
theorem print_symbol (s : Sp.Sym) (W : World) (hs : s.name.length ≤ 4000) :
    Calls Tryd.prog 75 #[symV s] W fun e w' => e = .returned (.bool (Sp.isSym s)) ∧ Below W.heap.size W w' := by
  obtain ⟨nm, lt, nu, pa⟩ := s
  have HB := Lib.hid (fun o : Obj => (Below.refl _ W).alloc (Nat.le_refl _) o)
  show Calls _ _ #[.agg #[.string ⟨nm.toArray⟩, .bool lt, .int .i64 nu, .int .i64 pa]] _ _
  cases lt with
  | false =>
    have hN := body_Name ⟨nm.toArray⟩
    have HN := Lib.hid (fun w => hN w (by rw [Lib.size_eq]; simp only [List.toList_toArray] at *; omega))
    have e : Sp.isSym ⟨nm, false, nu, pa⟩ = Sp.isName nm := rfl
    rw [e]
    clear e hN hs
    go_enter Tryd.func75, Tryd.ntmps75
    go_wp2_with (go_at_call 74; refine (HN.out _).mono ?_; rintro e w' ⟨rfl, rfl⟩)
    go_ret
    exact ⟨rfl, HB.out _⟩
  | true =>
    rcases nm with _ | ⟨c, _ | ⟨d, u⟩⟩
    · go_enter Tryd.func75, Tryd.ntmps75
      go_wp2_with fail
      go_ret
      exact ⟨rfl, HB.out _⟩
    · have HC := Lib.hid (fun w => char_Text c w)
      have e : Sp.isSym ⟨[c], true, nu, pa⟩ = !(Sp.quoteText c).isEmpty := rfl
      rw [e]
      generalize Sp.quoteText c = Q at HC
      clear e hs
      go_enter Tryd.func75, Tryd.ntmps75
      go_wp2_with fail
      refine (HC.out _).mono ?_
      rintro e w' ⟨rfl, hb⟩
      have HB' := Lib.hid ((HB.out _).trans (hb.mono (by simp)))
      clear hb
      cases Q with
      | nil =>
        go_wp2_with fail
        go_ret
        exact ⟨rfl, HB'.out⟩
      | cons q Q =>
        have hne : (q :: Q).isEmpty = false := rfl
        go_wp2_with fail
        go_ret
        exact ⟨rfl, HB'.out⟩
    · have hsz : (((⟨(c :: d :: u).toArray⟩ : ByteArray).size : Int) == 1) = false := by rw [beq_eq_false_iff_ne, Lib.size_eq]; simp; omega
      go_enter Tryd.func75, Tryd.ntmps75
      go_wp2_with fail
      go_ret
      exact ⟨rfl, HB.out _⟩

set_option maxHeartbeats 800000 in
theorem print_bare (s : Sp.Sym) (W : World) (hs : s.name.length ≤ 4000) :
    Calls Tryd.prog 97 #[symV s] W fun e w' => e = .returned (.bool (Sp.isBare s)) ∧ Below W.heap.size W w' := by
  have HS := Lib.hid (fun w => print_symbol s w hs)
  have hq : Sp.isBare s = (Sp.isSym s && (s.num == 0)) := rfl
  generalize Sp.isSym s = q at hq HS
  obtain ⟨nm, lt, nu, pa⟩ := s
  have HB := Lib.hid (fun o : Obj => (Below.refl _ W).alloc (Nat.le_refl _) o)
  rw [hq]
  clear hq hs
  show Calls _ _ #[.agg #[.string ⟨nm.toArray⟩, .bool lt, .int .i64 nu, .int .i64 pa]] _ _
  go_enter Tryd.func97, Tryd.ntmps97
  go_wp2_with fail
  refine (HS.out _).mono ?_
  rintro e w' ⟨rfl, hb⟩
  have hF := (hb.block W.heap.size (by simp)).trans (heap_last W _)
  have c2 := cell_at (i := 2) hF
  have HB' := Lib.hid ((HB.out _).trans (hb.mono (by simp)))
  clear hb hF
  cases q with
  | false =>
    go_wp2_with fail
    go_ret
    exact ⟨rfl, HB'.out⟩
  | true =>
    go_wp2_with fail
    go_ret
    exact ⟨by simp, HB'.out⟩

set_option maxHeartbeats 800000 in
theorem print_empty (s : Sp.Sym) (W : World) :
    Calls Tryd.prog 83 #[symV s] W fun e w' => e = .returned (.bool (Sp.isNone s)) ∧ Below W.heap.size W w' := by
  obtain ⟨nm, lt, nu, pa⟩ := s
  have HB := Lib.hid (fun o : Obj => (Below.refl _ W).alloc (Nat.le_refl _) o)
  have heq := eql_sym
  show Calls _ _ #[.agg #[.string ⟨nm.toArray⟩, .bool lt, .int .i64 nu, .int .i64 pa]] _ _
  go_enter Tryd.func83, Tryd.ntmps83
  go_wp2_with fail
  go_ret
  exact ⟨rfl, HB.out _⟩

set_option maxHeartbeats 800000 in
theorem print_sameSym (s t : Sp.Sym) (W : World) :
    Calls Tryd.prog 65 #[symV s, symV t] W fun e w' => e = .returned (.bool (Sp.sameSym s t)) ∧ Below W.heap.size W w' := by
  obtain ⟨nm, lt, nu, pa⟩ := s
  obtain ⟨nm2, lt2, nu2, pa2⟩ := t
  have heq := eql_sym
  show Calls _ _ #[.agg #[.string ⟨nm.toArray⟩, .bool lt, .int .i64 nu, .int .i64 pa], .agg #[.string ⟨nm2.toArray⟩, .bool lt2, .int .i64 nu2, .int .i64 pa2]] _ _
  go_enter Tryd.func65, Tryd.ntmps65
  go_wp2_with fail
  go_ret
  exact ⟨rfl, ((Below.refl _ W).alloc (Nat.le_refl _) _).alloc (by simp) _⟩
end Go.Proofs.YthmimcegiihcnaaDoor
