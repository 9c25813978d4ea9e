import Derived.Lib.SlicesS
import Derived.Test.YtddnomjfcbplpaaGreatDoorZ01
import Derived.Test.YtddnomjfcbplpaaGreatDoorZ02
import Derived.Test.YtddnomjfcbplpaaGreatDoorZ00
import Derived.Test.YtddnomjfcbplpaaGreatDoorZ03
import Derived.Deep.RegionHeld3
import Derived.Deep.DeepCutAuto
import Derived.Deep.LoopGhost
import Derived.Test.YtddnomjfcbplpaaGreatDoorZ05
import Derived.Test.YtddnomjfcbplpaaGreatDoorZ06
import Derived.BigQuiet
import Derived.Deep.QuietTactic
import Derived.Laws.OwnMore
import Derived.OrdersHeld
import Derived.StillTail
namespace Go.Proofs.YtddnomjfcbplpaaGreatDoor
open Go.RowKit

def quotedR (c : UInt8) : UInt8 × Bool := if c = 10 then (110, true) else if c = 9 then (116, true) else if c = 13 then (114, true) else if c = 92 then (92, true) else if c = 39 then (39, true) else (0, decide (32 ≤ c.toNat) && decide (c.toNat ≤ 126))
theorem byte_ne {c x : UInt8} (h : ¬ c = x) : ((c.toNat : Int) == (x.toNat : Int)) = false := by
 rw [← Bool.not_eq_true]; exact fun e => h ((Sp.byte_eq c x).2 e)
theorem ret_ub {a a' : Int} {x x' : Bool} (h1 : a = a') (h2 : x = x') : Ending.returned (.tuple #[.int .u8 a, .bool x]) = .returned (.tuple #[.int .u8 a', .bool x']) := by rw [h1, h2]
set_option maxHeartbeats 800000 in
theorem ref_Quoted (c : UInt8) (w : World) :
  Calls Tryz.prog 56 #[.int .u8 (c.toNat : Int)] w fun e w' => e = .returned (.tuple #[.int .u8 ((quotedR c).1.toNat : Int), .bool (quotedR c).2]) ∧ w = w' := by
 by_cases h1 : c = 10
 ·subst h1
  go_enter Tryz.func56, Tryz.ntmps56
  go_wp2
  go_ret2
  exact ⟨rfl, rfl⟩
 by_cases h2 : c = 9
 ·subst h2
  go_enter Tryz.func56, Tryz.ntmps56
  go_wp2
  go_ret2
  exact ⟨rfl, rfl⟩
 by_cases h3 : c = 13
 ·subst h3
  go_enter Tryz.func56, Tryz.ntmps56
  go_wp2
  go_ret2
  exact ⟨rfl, rfl⟩
 by_cases h4 : c = 92
 ·subst h4
  go_enter Tryz.func56, Tryz.ntmps56
  go_wp2
  go_ret2
  exact ⟨rfl, rfl⟩
 by_cases h5 : c = 39
 ·subst h5
  go_enter Tryz.func56, Tryz.ntmps56
  go_wp2
  go_ret2
  exact ⟨rfl, rfl⟩
 have hq : quotedR c = (0, decide (32 ≤ c.toNat) && decide (c.toNat ≤ 126)) := by
  unfold quotedR
  rw [if_neg h1, if_neg h2, if_neg h3, if_neg h4, if_neg h5]
 rw [hq]
 have e1 : ((c.toNat : Int) == 10) = false := byte_ne (x := 10) h1
 have e2 : ((c.toNat : Int) == 9) = false := byte_ne (x := 9) h2
 have e3 : ((c.toNat : Int) == 13) = false := byte_ne (x := 13) h3
 have e4 : ((c.toNat : Int) == 92) = false := byte_ne (x := 92) h4
 have e5 : ((c.toNat : Int) == 39) = false := byte_ne (x := 39) h5
 clear hq h1 h2 h3 h4 h5
 go_enter Tryz.func56, Tryz.ntmps56
 go_wp2
 all_goals
  go_ret2
  exact ⟨ret_ub rfl (Bool.eq_iff_iff.2 (by simp; omega)), rfl⟩

theorem quoteText_quoted (c : UInt8) : Sp.quoteText c = if (quotedR c).2 = false then [] else if ((quotedR c).1.toNat : Int) != 0 then [39, 92, (quotedR c).1, 39] else [39, c, 39] := by
 by_cases h1 : c = 10
 ·subst h1; rfl
 by_cases h2 : c = 9
 ·subst h2; rfl
 by_cases h3 : c = 13
 ·subst h3; rfl
 by_cases h4 : c = 92
 ·subst h4; rfl
 by_cases h5 : c = 39
 ·subst h5; rfl
 have hq : quotedR c = (0, decide (32 ≤ c.toNat) && decide (c.toNat ≤ 126)) := by
  unfold quotedR
  rw [if_neg h1, if_neg h2, if_neg h3, if_neg h4, if_neg h5]
 have e4 : ((c.toNat : Int) == 92) = false := byte_ne (x := 92) h4
 have e5 : ((c.toNat : Int) == 39) = false := byte_ne (x := 39) h5
 have hp : Sp.plainq c = (decide (32 ≤ c.toNat) && decide (c.toNat ≤ 126)) := by
  unfold Sp.plainq
  rw [e4, e5]; simp
 unfold Sp.quoteText
 rw [if_neg h1, if_neg h2, if_neg h3, if_neg h4, if_neg h5, hq, hp]
 cases decide (32 ≤ c.toNat) && decide (c.toNat ≤ 126) <;> rfl

def noneBelow (r : List UInt8) (k : Nat) : Prop := ∀ c : UInt8, c.toNat < k → ¬ (Sp.quoteText c ≠ [] ∧ Lib.hasPrefix r (Sp.quoteText c) = true)
theorem noneBelow.start (r : List UInt8) : noneBelow r 9 := by
 intro c hc h
 have := Sp.quoteText_range c h.1
 omega
theorem noneBelow.step {r : List UInt8} {k : Nat} (h : noneBelow r k) (hk : k < 256) (h' : ¬ (Sp.quoteText (UInt8.ofNat k) ≠ [] ∧ Lib.hasPrefix r (Sp.quoteText (UInt8.ofNat k)) = true)) : noneBelow r (k + 1) := by
 intro c hc
 rcases Nat.lt_or_ge c.toNat k with h1 | h1
 ·exact h c h1
 ·have : c = UInt8.ofNat k := by
   apply UInt8.toNat_inj.1
   rw [UInt8.toNat_ofNat_of_lt' (by have : UInt8.size = 256 := rfl; omega)]
   omega
  rw [this]; exact h'
theorem noneBelow.out {r : List UInt8} {k : Nat} (h : noneBelow r k) (hk : 127 ≤ k) : Sp.charTake r = none := by
 cases hc : Sp.charTake r with
 | none => rfl
 | some p =>
  obtain ⟨c, n⟩ := p
  obtain ⟨h1, h2, _⟩ := Sp.charTake_some r c n hc
  have := Sp.quoteText_range c h1
  exact absurd ⟨h1, h2⟩ (h c (by omega))

set_option maxHeartbeats 400000 in
theorem ref_Name (s : ByteArray) (w : World) (hs : s.size < 4294967281) :
  Calls Tryz.prog 49 #[.string s] w fun e w' => e = .returned (.bool (Sp.isName s.data.toList)) ∧ w = w' := by
 have hl : s.data.toList.length = s.size := by simp
 generalize hN : Sp.isName s.data.toList = N
 unfold Sp.isName at hN
 have he : s.data.toList.isEmpty = decide (s.size = 0) := by
  rw [Bool.eq_iff_iff, List.isEmpty_iff, decide_eq_true_eq, ← hl]
  exact ⟨fun h => by rw [h]; rfl, List.eq_nil_of_length_eq_zero⟩
 rw [hl, he] at hN
 have HN := zh hN; clear hN hl he
 have HR := zh (ref_NameAt s 0 w hs (Nat.zero_le _))
 simp only [List.drop_zero] at HR
 generalize Sp.nameLen true s.data.toList = r at *
 go_enter Tryz.func49, Tryz.ntmps49
 go_wp2_with (go_at_call 70; refine (HR.out).mono ?_; rintro e w' ⟨rfl, rfl⟩)
 all_goals (go_ret; have hN := HN.out; clear HN HR)
 all_goals exact ⟨ret_bool (by rw [← hN, Bool.eq_iff_iff]; simp only [Bool.and_eq_true, Bool.not_eq_true', decide_eq_true_eq, decide_eq_false_iff_not, beq_iff_eq, Bool.false_eq_true]; first | omega | (rw [false_iff]; omega)), rfl⟩

end Go.Proofs.YtddnomjfcbplpaaGreatDoor

namespace Go.Proofs.YtddnomjfcbplpaaGreatDoor
namespace Sp
open Go.Lib (index indexByte hasPrefix)

def refSym (x : Sym) (num lit : Bool) : Bool :=
 if x.lit = true then lit && decide (x.name.length = 1) && (x.num == 0) && quotable x.name
 else isName x.name && ((x.num == 0) || (num && decide (1 ≤ x.num) && decide (x.num ≤ 50000)))
theorem quotable_len {l : List UInt8} (h : quotable l = true) : l.length = 1 := by
 rcases l with _ | ⟨c, _ | ⟨d, l⟩⟩ <;> simp [quotable] at h ⊢
theorem refSym_bare (s : Sym) : refSym s false true = isBare s := by
 unfold refSym isBare isSym
 cases hl : s.lit
 ·simp
 ·cases hq : quotable s.name
  ·simp
  ·have := quotable_len hq
   simp [this]
theorem refSym_may (k : Int) (s : Sym) : refSym s (k == 1) (decide (k < 5)) = maySym k s := by
 unfold refSym maySym isSym
 cases hl : s.lit
 ·simp only [Bool.false_eq_true, if_false, false_and, or_false, false_or]
  cases hn : isName s.name
  ·simp
  ·by_cases h0 : s.num = 0
   ·simp [h0]
   ·by_cases h1 : k = 1
    ·subst h1
     by_cases h2 : s.num < 1
     ·have : ¬ 1 ≤ s.num := by omega
      simp [h0, h2, this]
     ·by_cases h3 : 50000 < s.num
      ·have : ¬ s.num ≤ 50000 := by omega
       simp [h0, h2, h3, this]
      ·have a1 : 1 ≤ s.num := by omega
       have a2 : s.num ≤ 50000 := by omega
       simp [h0, h2, h3, a1, a2]
    ·simp [h0, h1]
 ·simp only [if_true, true_and]
  cases hq : quotable s.name
  ·simp
  ·have := quotable_len hq
   by_cases h5 : k < 5
   ·have : ¬ 5 ≤ k := by omega
    by_cases h0 : s.num = 0 <;> simp_all
   ·have : 5 ≤ k := by omega
    simp_all
    intro h
    omega
def badHead (d : Decl) : Bool :=
 decide (d.kind < 1) || decide (6 < d.kind) || decide (d.syms.length = 0) || (decide (d.kind = 6) && (decide (d.syms.length ≠ 1) || decide (d.tag ≠ []))) || (decide (d.kind = 5) && decide (d.tag = [])) || (decide (d.tag ≠ []) && !isName d.tag)
theorem mayDecl_ref (d : Decl) : mayDecl d = (!badHead d && d.syms.all fun s => refSym s (d.kind == 1) (decide (d.kind < 5))) := by
 have e : (d.syms.all fun s => refSym s (d.kind == 1) (decide (d.kind < 5))) = d.syms.all (maySym d.kind) := by
  congr 1; funext s; exact refSym_may d.kind s
 rw [e]
 unfold mayDecl badHead
 generalize d.syms.all (maySym d.kind) = A
 have hnil : isName [] = false := by decide
 by_cases h1 : d.kind < 1
 ·simp [h1]
 by_cases h2 : 6 < d.kind
 ·simp [h2]
 by_cases h3 : d.syms.length = 0
 ·simp [h3]
 by_cases h6 : d.kind = 6
 ·by_cases h7 : d.tag = []
  ·by_cases h8 : d.syms.length = 1
   ·simp [h6, h7, h8]
   ·simp [h3, h6, h7, h8]
  ·simp [h3, h6, h7]
 ·by_cases h5 : d.kind = 5
  ·by_cases h7 : d.tag = []
   ·simp [h3, h5, h7, hnil]
   ·cases hn : isName d.tag <;> simp [h3, h5, h7]
  ·by_cases h7 : d.tag = []
   ·simp [h1, h2, h3, h5, h6, h7]
   ·cases hn : isName d.tag <;> simp [h1, h2, h3, h5, h6, h7]
theorem mayPart_ref (p : Part) : mayPart p = !((decide (p.code = []) && !refSym p.sym false true) || (decide (p.code ≠ []) && (!isNone p.sym || decide (endAt p.code 0 ≠ (p.code.length : Int))))) := by
 unfold mayPart
 rw [refSym_bare]
 by_cases h : p.code = []
 ·simp [h]
 ·simp [h]
theorem mayAlt_ref (a : Alt) : mayAlt a = (a.parts.all mayPart && (isNone a.prec || refSym a.prec false true)) := by
 unfold mayAlt
 rw [refSym_bare, Bool.and_comm]
theorem index_two (c d : UInt8) (l : List UInt8) (x y : UInt8) : decide (0 ≤ index (c :: d :: l) [x, y]) = ((c == x && d == y) || decide (0 ≤ index (d :: l) [x, y])) := by
 rw [index_cons]
 have := Go.Lib.index_ge (d :: l) [x, y]
 have hp : ([x, y].isPrefixOf (c :: d :: l)) = (x == c && y == d) := by simp [List.isPrefixOf]
 rw [hp]
 have e1 : (x == c) = (c == x) := by rw [Bool.eq_iff_iff]; simp; exact eq_comm
 have e2 : (y == d) = (d == y) := by rw [Bool.eq_iff_iff]; simp; exact eq_comm
 rw [e1, e2]
 cases h : (c == x && d == y)
 ·simp only [Bool.false_eq_true, if_false, Bool.false_or]
  by_cases h2 : index (d :: l) [x, y] = -1
  ·simp [h2]
  ·rw [if_neg h2]
   have a1 : 0 ≤ index (d :: l) [x, y] := by omega
   have a2 : 0 ≤ index (d :: l) [x, y] + 1 := by omega
   simp [a1, a2]
 ·simp
theorem index_short (l : List UInt8) (x y : UInt8) (h : l.length ≤ 1) : decide (0 ≤ index l [x, y]) = false := by
 rcases l with _ | ⟨c, _ | ⟨d, l⟩⟩
 ·simp [index]
 ·rw [index_cons]
  simp [index, List.isPrefixOf]
 ·simp at h
end Sp
open Go.RowKit

set_option maxHeartbeats 800000 in
theorem ref7_none (s : Sp.Sym) (W : World) :
  Calls Tryz.prog 71 #[symV s] W fun e w' => e = .returned (.bool (Sp.isNone s)) ∧ Below W.heap.size W w' := by
 obtain ⟨nm, lt, nu, pa⟩ := s
 have HB := zh (fun o : Obj => (Below.refl _ W).alloc (Nat.le_refl _) o)
 have hq : Sp.isNone ⟨nm, lt, nu, pa⟩ = (nm.isEmpty && !lt && (nu == 0)) := rfl
 rw [hq]
 clear hq
 show Calls _ _ #[.agg #[.string ⟨nm.toArray⟩, .bool lt, .int .i64 nu, .int .i64 pa]] _ _
 cases nm with
 | cons c t =>
  go_enter Tryz.func71, Tryz.ntmps71
  go_wp2_with fail
  go_ret
  exact ⟨rfl, HB.out _⟩
 | nil =>
  cases lt with
  | true =>
   go_enter Tryz.func71, Tryz.ntmps71
   go_wp2_with fail
   go_ret
   exact ⟨rfl, HB.out _⟩
  | false =>
   go_enter Tryz.func71, Tryz.ntmps71
   go_wp2_with fail
   go_ret
   exact ⟨ret_bool (by simp), HB.out _⟩

set_option maxHeartbeats 1600000 in
theorem ref7_symbol (s : Sp.Sym) (num lit : Bool) (W : World) (hs : s.name.length ≤ 4000) :
  Calls Tryz.prog 69 #[symV s, .bool num, .bool lit] W fun e w' => e = .returned (.bool (Sp.refSym s num lit)) ∧ Below W.heap.size W w' := by
 obtain ⟨nm, lt, nu, pa⟩ := s
 have HB := zh (fun o : Obj => (Below.refl _ W).alloc (Nat.le_refl _) o)
 show Calls _ _ #[.agg #[.string ⟨nm.toArray⟩, .bool lt, .int .i64 nu, .int .i64 pa], .bool num, .bool lit] _ _
 cases lt with
 | true =>
  have hq : Sp.refSym ⟨nm, true, nu, pa⟩ num lit = (lit && decide (nm.length = 1) && (nu == 0) && Sp.quotable nm) := rfl
  rw [hq]
  clear hq hs
  cases lit with
  | false =>
   go_enter Tryz.func69, Tryz.ntmps69
   go_wp2_with fail
   go_ret
   exact ⟨rfl, HB.out _⟩
  | true =>
   rcases nm with _ | ⟨c, _ | ⟨d, u⟩⟩
   ·go_enter Tryz.func69, Tryz.ntmps69
    go_wp2_with fail
    go_ret
    exact ⟨rfl, HB.out _⟩
   ·by_cases hn : nu = 0
    ·subst hn
     have HQ := zh (fun w => ref_Quoted c w)
     have hq : (quotedR c).2 = Sp.quotable [c] := by
      show _ = !(Sp.quoteText c).isEmpty
      rw [quoteText_quoted]
      cases (quotedR c).2 <;> simp
      split <;> simp
     have e : (decide ([c].length = 1) && ((0 : Int) == 0) && Sp.quotable [c]) = (quotedR c).2 := by rw [hq]; simp
     generalize quotedR c = R at HQ hq e
     obtain ⟨r1, r2⟩ := R
     go_enter Tryz.func69, Tryz.ntmps69
     go_wp2_with (go_at_call 56; refine (HQ.out _).mono ?_; rintro e w' ⟨rfl, rfl⟩)
     go_ret
     exact ⟨ret_bool (by simp [hq]), HB.out _⟩
    ·have hnn : (nu != 0) = true := by rw [bne_iff_ne]; exact hn
     have hd : (nu == 0) = false := by rw [beq_eq_false_iff_ne]; exact hn
     rw [hd]
     clear hd hn
     go_enter Tryz.func69, Tryz.ntmps69
     go_wp2_with fail
     go_ret
     exact ⟨ret_bool (by simp), HB.out _⟩
   ·have hsz : (((⟨(c :: d :: u).toArray⟩ : ByteArray).size : Int) != 1) = true := by rw [bne_iff_ne, Lib.size_eq]; simp; omega
    go_enter Tryz.func69, Tryz.ntmps69
    go_wp2_with fail
    go_ret
    exact ⟨ret_bool (by simp), HB.out _⟩
 | false =>
  have hN := ref_Name ⟨nm.toArray⟩
  have HN := zh (fun w => hN w (by rw [Lib.size_eq]; simp only at *; omega))
  have hT : (⟨nm.toArray⟩ : ByteArray).data.toList = nm := rfl
  rw [hT] at HN
  have hq : Sp.refSym ⟨nm, false, nu, pa⟩ num lit = (Sp.isName nm && ((nu == 0) || (num && decide (1 ≤ nu) && decide (nu ≤ 50000)))) := rfl
  rw [hq]
  generalize Sp.isName nm = q at HN
  clear hq hN hT hs
  cases q with
  | false =>
   go_enter Tryz.func69, Tryz.ntmps69
   go_wp2_with (go_at_call 49; refine (HN.out _).mono ?_; rintro e w' ⟨rfl, rfl⟩)
   go_ret
   exact ⟨rfl, HB.out _⟩
  | true =>
   by_cases h0 : nu = 0
   ·subst h0
    go_enter Tryz.func69, Tryz.ntmps69
    go_wp2_with (go_at_call 49; refine (HN.out _).mono ?_; rintro e w' ⟨rfl, rfl⟩)
    go_ret
    exact ⟨rfl, HB.out _⟩
   ·have hz : (nu == 0) = false := by rw [beq_eq_false_iff_ne]; exact h0
    clear h0
    cases num with
    | false =>
     go_enter Tryz.func69, Tryz.ntmps69
     go_wp2_with (go_at_call 49; refine (HN.out _).mono ?_; rintro e w' ⟨rfl, rfl⟩)
     go_ret
     exact ⟨ret_bool (by simp [hz]), HB.out _⟩
    | true =>
     by_cases h1 : 1 ≤ nu
     ·go_enter Tryz.func69, Tryz.ntmps69
      go_wp2_with (go_at_call 49; refine (HN.out _).mono ?_; rintro e w' ⟨rfl, rfl⟩)
      go_ret
      exact ⟨ret_bool (by simp [hz, h1]), HB.out _⟩
     ·have h1' : decide (1 ≤ nu) = false := by simpa using h1
      go_enter Tryz.func69, Tryz.ntmps69
      go_wp2_with (go_at_call 49; refine (HN.out _).mono ?_; rintro e w' ⟨rfl, rfl⟩)
      go_ret
      exact ⟨ret_bool (by simp [hz, h1']), HB.out _⟩

namespace Sp
end Sp
open Go.RowKit

theorem heap_sec (w : World) (o1 o2 : Obj) : ((w.alloc o1).alloc o2).heap[w.heap.size + 1]? = some o2 := by
 have h := heap_last (w.alloc o1) o2
 rw [World.size_alloc] at h
 exact h
end Go.Proofs.YtddnomjfcbplpaaGreatDoor

namespace Go.Proofs.YtddnomjfcbplpaaGreatDoor
open Go.RowKit Go.Maps

theorem key_law : Keyed Tryz.prog 94 :=
 Keyed.of_law (deep_law_laid laidOut (m := 2) (by omega) (of_decide_eq_true (by kernel_rfl)) (by kernel_rfl) (by kernel_rfl))
theorem str_law : Keyed Tryz.prog 9 := string_keyed Tryz.underlying9
theorem str_key {s : List UInt8} (h : s.length ≤ maxLen) : ∃ l, keyOf Tryz.prog 9 (.string ⟨s.toArray⟩) = some l := by
 refine ⟨.string s, ?_⟩
 have hs : (⟨s.toArray⟩ : ByteArray).size ≤ maxLen := by rw [Lib.size_eq]; exact h
 simp [keyOf, mapKey, Tryz.underlying9, hs]
theorem cells_key : Tryz.prog.cellsOf 94 = 2 := by kernel_rfl
theorem one_str2 : Tryz.prog.cellsOf 9 = 1 := by kernel_rfl
theorem one_bool2 : Tryz.prog.cellsOf 4 = 1 := by kernel_rfl
theorem keyLits_key (d : Nat) {s : List UInt8} {b : Bool} (h : s.length ≤ maxLen) : Tryz.prog.keyLits (d + 2) 94 [.string ⟨s.toArray⟩, .bool b] = some [.string s, .bool b] := by
 have hs : (⟨s.toArray⟩ : ByteArray).size ≤ maxLen := by rw [Lib.size_eq]; exact h
 have h1 : Tryz.prog.keyLits (d + 1) 9 [.string ⟨s.toArray⟩] = some [.string s] := by
  unfold Program.keyLits
  simp [Tryz.underlying9, hs]
 have h2 : Tryz.prog.keyLits (d + 1) 4 [.bool b] = some [.bool b] := by
  unfold Program.keyLits
  simp [Tryz.underlying4]
 unfold Program.keyLits
 rw [Tryz.underlying94]
 simp [cells_key, one_str2, one_bool2, h1, h2]
theorem sym_key {s : List UInt8} {b : Bool} (h : s.length ≤ maxLen) : ∃ l, keyOf Tryz.prog 94 (.agg #[.string ⟨s.toArray⟩, .bool b]) = some l := by
 refine ⟨.string (keyBytes [.string s, .bool b]), ?_⟩
 unfold keyOf
 rw [Tryz.underlying94]
 have hk : Tryz.prog.keyType 94 = true := by kernel_rfl
 have hf : Value.formed Tryz.prog 94 (.agg #[.string ⟨s.toArray⟩, .bool b]) = true := by
  simp [Value.formed, Tryz.underlying94, cells_key]
 have hl : Tryz.prog.keyLits (Tryz.prog.types.size + 1) 94 (Value.agg #[.string ⟨s.toArray⟩, .bool b]).cells.toList = some [.string s, .bool b] := by
  have e : Tryz.prog.types.size + 1 = (Tryz.prog.types.size - 1) + 2 := by
   have : 1 ≤ Tryz.prog.types.size := of_decide_eq_true (by kernel_rfl)
   omega
  rw [e]
  exact keyLits_key _ h
 simp only [hk, hf, hl, Bool.and_self, if_true, Option.map_some]

def tokC (t : Sp.Tok) : List Value := [.string ⟨t.name.toArray⟩, .bool t.lit, .int .i64 t.num, .int .i64 t.level, .int .i64 t.assoc, .string ⟨t.tag.toArray⟩]
def nonC (n : Sp.Non) : List Value := [.string ⟨n.name.toArray⟩, .string ⟨n.tag.toArray⟩]
def prodC (r a : Value) (p : Sp.Prod) : List Value := [.int .i64 p.left, r, .int .i64 p.prec, .string ⟨p.code.toArray⟩, a, .int .i64 p.at_]
def keyL (F : List UInt8 → Bool → Option Nat) : Value → Option Value
 | .agg #[.string nm, .bool lt] => (F nm.data.toList lt).map fun (k : Nat) => .int .i64 (k : Int)
 | _ => none
def tokL (toks : List Sp.Tok) : Value → Option Value := keyL (Sp.tokIx toks)
def nonL (lefts : List (List UInt8)) : Value → Option Value
 | .string nm => (Sp.nonIx lefts nm.data.toList).map fun (k : Nat) => .int .i64 (k : Int)
 | _ => none
def typL (types : List (List UInt8 × List UInt8)) : Value → Option Value
 | .string nm => (Sp.typeOf types nm.data.toList).map fun t => .agg #[.string nm, .string ⟨t.toArray⟩]
 | _ => none
def intsC (l : List Int) : List Value := l.map (Value.int .i64)
def ProdsOwn (B : Nat) (w : World) (v : Value) (l : List Sp.Prod) : Prop :=
 ∃ f g : Nat → Value, w.ownsRow B 68 6 v l.length (l.mapIdx fun i p => prodC (f i) (g i) p).flatten ∧
  ∀ (i : Nat) (p : Sp.Prod), l[i]? = some p → (∃ b, w.ownsRow b 3 1 (f i) p.right.length (intsC p.right)) ∧ ∃ b, w.ownsRow b 3 1 (g i) p.args.length (intsC p.args)
structure MkV where
 dv : Value
 rv : Value
 tv : Value
 nv : Value
 pv : Value
 gv : Value
 bt : Nat
 bn : Nat
 by_ : Nat
def mkCells (x : Sp.Source) (s : Sp.Mk) (v : MkV) (e at_ : Int) (nm : List UInt8) : List Value :=
 [.string ⟨x.pro.toArray⟩, v.dv, v.rv, .string ⟨x.tail.toArray⟩, v.tv, v.nv, v.pv, .string ⟨x.pro.toArray⟩, .string ⟨x.tail.toArray⟩, .map (some v.bt), v.gv, .map (some v.bn), .map (some v.by_), .string ⟨s.start.toArray⟩, .int .i64 e, .int .i64 at_, .string ⟨nm.toArray⟩]
structure MakerAt (B : Nat) (w : World) (m : Nat) (x : Sp.Source) (s : Sp.Mk) (v : MkV) (e at_ : Int) (nm : List UInt8) : Prop where
 block : w.heap[m]? = some (.cells (mkCells x s v e at_ nm).toArray 99 (0, 0))
 toks : w.ownsRow B 65 6 v.tv s.toks.length (s.toks.map tokC).flatten
 given : w.ownsRow B 4 1 v.gv s.given.length (s.given.map Value.bool)
 nons : w.ownsRow B 89 2 v.nv s.nons.length (s.nons.map nonC).flatten
 prods : ProdsOwn B w v.pv s.prods
 tmap : MapIs Tryz.prog 94 w v.bt s.toks.length (tokL s.toks)
 nmap : MapIs Tryz.prog 9 w v.bn s.lefts.length (nonL s.lefts)
 ymap : MapIs Tryz.prog 9 w v.by_ s.types.length (typL s.types)
 behind : B ≤ m ∧ B ≤ v.bt ∧ B ≤ v.bn ∧ B ≤ v.by_
 apart : v.bt ≠ v.bn ∧ v.bt ≠ v.by_ ∧ v.bn ≠ v.by_
 same : s.given.length = s.toks.length
 three : 3 ≤ s.toks.length

set_option maxHeartbeats 800000 in
theorem gram_keyOf (s : Sp.Sym) (W : World) :
  Calls Tryz.prog 82 #[symV s] W fun e w' => e = .returned (.agg #[.string ⟨s.name.toArray⟩, .bool s.lit]) ∧ Below W.heap.size W w' := by
 obtain ⟨nm, lt, nu, pa⟩ := s
 show Calls _ _ #[.agg #[.string ⟨nm.toArray⟩, .bool lt, .int .i64 nu, .int .i64 pa]] _ _
 go_enter Tryz.func82, Tryz.ntmps82
 go_wp2_with fail
 refine ret_cell (g := W.heap.size + 1) (cs := #[.string ⟨nm.toArray⟩, .bool lt]) (t := 94) (fr := (0, 0)) rfl rfl (heap_sec W _ _) rfl Tryz.underlying94 (by kernel_rfl) rfl ⟨rfl, ?hb⟩
 exact ((Below.refl _ W).alloc (Nat.le_refl _) _).alloc (by simp) _
theorem maker_same {B : Nat} {w w' : World} {m : Nat} {x : Sp.Source} {s : Sp.Mk} {v : MkV} {e at_ : Int} {nm : List UInt8} (h : MakerAt B w m x s v e at_ nm) (hb : Below w.heap.size w w') : MakerAt B w' m x s v e at_ nm := by
 obtain ⟨h1, h2, h3, h4, ⟨f, g, p1, p2⟩, h6, h7, h8, h9⟩ := h
 refine ⟨(hb.block m (lt_at h1)).trans h1, ownsRow_below h2 hb, ownsRow_below h3 hb, ownsRow_below h4 hb, ⟨f, g, ownsRow_below p1 hb, fun i p hp => ?_⟩, h6.block (hb.block _ h6.lt), h7.block (hb.block _ h7.lt), h8.block (hb.block _ h8.lt), h9, ‹_›, ‹_›, ‹_›⟩
 obtain ⟨⟨b, k1⟩, c, k2⟩ := p2 i p hp
 exact ⟨⟨b, ownsRow_below k1 hb⟩, c, ownsRow_below k2 hb⟩
set_option maxHeartbeats 800000 in
theorem maker_wrong {B : Nat} {W : World} {m : Nat} {x : Sp.Source} {s : Sp.Mk} {v : MkV} (nm : List UInt8) (at_ : Int) (h : MakerAt B W m x s v 0 0 []) :
  Calls Tryz.prog 66 #[.pointer (some ⟨m, 0, none⟩), .string ⟨nm.toArray⟩, .int .i64 at_] W fun e w' => e = .returned (.bool true) ∧ w'.heap[m]? = some (.cells (mkCells x s v 3 at_ nm).toArray 99 (0, 0)) ∧ Kp (fun b => b ≠ m) W w' := by
 have hb := h.block
 unfold mkCells at hb
 have c14 := cell_at (i := 14) hb; have c15 := cell_at (i := 15) hb; have c16 := cell_at (i := 16) hb
 have f14 := frozen_at (i := 14) hb; have f15 := frozen_at (i := 15) hb; have f16 := frozen_at (i := 16) hb
 have hl := lt_at hb
 have HB := zh hb
 clear h hb
 go_enter Tryz.func66, Tryz.ntmps66
 go_wp2_with fail
 go_ret
 exact ⟨rfl, heap_setCell_at (heap_setCell_at (heap_setCell_at HB.out)), (((Kp.refl _ W).setCell (p := ⟨m, 14, none⟩) (by simp) _).setCell (p := ⟨m, 15, none⟩) (by simp) _).setCell (p := ⟨m, 16, none⟩) (by simp) _⟩

theorem row_cell {w : World} {B e size g n cap : Nat} {α : Type} {row : α → List Value} {l : List α} (ho : w.ownsRow B e size (.slice (some ⟨g, 0, none⟩) n cap) n (l.map row).flatten) (hr : ∀ a, (row a).length = size) {k : Nat} {a : α} (hk : l[k]? = some a) (hkn : k < n) {j : Nat} {u : Value} (hj : (row a)[j]? = some u) :
  w.cell? ⟨g, k * size + j, none⟩ = some u := by
 have hjs : j < size := by rw [← hr a]; exact (List.getElem?_eq_some_iff.1 hj).1
 rw [ho.cellAt (k * size + j) (by
  have := Nat.mul_le_mul_right size (show k + 1 ≤ n from hkn)
  rw [Nat.succ_mul] at this; omega)]
 refine flatten_at size _ (fun r hr' => ?_) k (row a) (by rw [List.getElem?_map, hk]; rfl) j u hj
 obtain ⟨b, _, rfl⟩ := List.mem_map.1 hr'
 exact hr b
theorem row_cell1 {w : World} {B e g n cap : Nat} {α : Type} {row : α → Value} {l : List α} (ho : w.ownsRow B e 1 (.slice (some ⟨g, 0, none⟩) n cap) n (l.map row)) {k : Nat} {a : α} (hk : l[k]? = some a) (hkn : k < n) :
  w.cell? ⟨g, k, none⟩ = some (row a) := by
 rw [ho.cellAt k (by omega), List.getElem?_map, hk]; rfl
set_option maxRecDepth 100000 in
set_option maxHeartbeats 3200000 in
theorem maker_taken {B : Nat} {W : World} {m : Nat} {x : Sp.Source} {s : Sp.Mk} {v : MkV} {e0 at0 : Int} {nm0 : List UInt8} (num but : Int) (h : MakerAt B W m x s v e0 at0 nm0) (hn63 : s.toks.length ≤ 2 ^ 62) :
  Calls Tryz.prog 83 #[.pointer (some ⟨m, 0, none⟩), .int .i64 num, .int .i64 but] W fun e w' => e = .returned (.bool (Sp.taken s num but)) ∧ W = w' := by
 have hb := h.block
 have ht := h.toks; have hg := h.given; have hsm := h.same; have h3 := h.three
 obtain ⟨gt, ct, htv⟩ := own_form ht (by omega)
 obtain ⟨gg, cg, hgv⟩ := own_form hg (by omega)
 unfold mkCells at hb
 rw [htv] at hb ht
 rw [hgv] at hb hg
 generalize hR : Sp.taken s num but = R
 unfold Sp.taken at hR
 obtain ⟨toks, given, lefts, nons, prods, types, start⟩ := s
 simp only at *
 rw [hsm] at hb hg
 have c4 := cell_at (i := 4) hb; have c10 := cell_at (i := 10) hb
 have hl := lt_at hb
 have hlt : gt < W.heap.size := (ht.lt gt rfl).2
 have hlg : gg < W.heap.size := (hg.lt gg rfl).2
 generalize hn : toks.length = n at *
 have HT := zh ht; have HG := zh hg; have HR := zh hR; have HN := zh hn; have HSM := zh hsm
 clear h hb ht hg hR hn hsm htv hgv
 go_enter Tryz.func83, Tryz.ntmps83
 go_wp2_with fail
 go_loopg [7] (n - 3) (fun g iv wr => ∃ k : Nat, 3 ≤ k ∧ k ≤ n ∧ g = n - k ∧ iv = .int .i64 k ∧ W = wr ∧ Sp.takenGo num but k (toks.drop k) (given.drop k) = R)
 case atStart => exact ⟨3, Nat.le_refl _, h3, rfl, rfl, rfl, HR.out⟩
 case round =>
  obtain ⟨k, hk3, hk, rfl, rfl, rfl, hR⟩ := hrel
  have HRR := zh hR
  clear hR
  have hk0 : (0 : Int) ≤ (k : Int) := Int.natCast_nonneg _
  by_cases hkn : k < n
  ·have hk1 : (k : Int) < (n : Int) := by omega
   have hkt : k < toks.length := by have := HN.out; omega
   have hkg : k < given.length := by have := HSM.out; omega
   have e1 := List.getElem?_eq_getElem hkt
   have e2 := List.getElem?_eq_getElem hkg
   have d1 : toks.drop k = toks[k] :: toks.drop (k + 1) := List.drop_eq_getElem_cons hkt
   have d2 : given.drop k = given[k] :: given.drop (k + 1) := List.drop_eq_getElem_cons hkg
   have hR := HRR.out
   rw [d1, d2] at hR
   unfold Sp.takenGo at hR
   generalize toks[k] = t at *
   generalize given[k] = gk at *
   have ct := row_cell HT.out (fun _ => rfl) e1 hkn (j := 2) (u := .int .i64 t.num) rfl
   have cg := row_cell1 HG.out e2 hkn
   generalize t.num = tn at *
   clear d1 d2 e1 e2 hkt hkg
   by_cases hkb : (k : Int) = but
   ·subst hkb
    have HR2 : Hid (Sp.takenGo num (k : Int) (k + 1) (toks.drop (k + 1)) (given.drop (k + 1)) = R) := zh (by simpa using hR)
    clear hR HRR
    go_wp2_with fail
    go_roundg (n - (k + 1))
    case measure => omega
    case rel => exact ⟨k + 1, by omega, by omega, by omega, by go_num, rfl, HR2.out⟩
   ·have hkd : decide ((k : Int) = but) = false := decide_eq_false hkb
    have hkd2 : ((k : Int) == but) = false := by rw [beq_eq_false_iff_ne]; exact hkb
    cases gk with
    | false =>
     have HR2 : Hid (Sp.takenGo num but (k + 1) (toks.drop (k + 1)) (given.drop (k + 1)) = R) := zh (by simpa using hR)
     clear hR HRR
     go_wp2_with fail
     go_roundg (n - (k + 1))
     case measure => omega
     case rel => exact ⟨k + 1, by omega, by omega, by omega, by go_num, rfl, HR2.out⟩
    | true =>
     by_cases hnu : tn = num
     ·subst hnu
      have HR2 : Hid (true = R) := zh (by rw [← hR]; simp [hkb])
      clear hR HRR
      go_wp2_with fail
      go_ret
      exact ⟨ret_bool HR2.out, rfl⟩
     ·have hnd : (tn == num) = false := by rw [beq_eq_false_iff_ne]; exact hnu
      have HR2 : Hid (Sp.takenGo num but (k + 1) (toks.drop (k + 1)) (given.drop (k + 1)) = R) := zh (by simpa [hnd] using hR)
      clear hR HRR
      go_wp2_with fail
      go_roundg (n - (k + 1))
      case measure => omega
      case rel => exact ⟨k + 1, by omega, by omega, by omega, by go_num, rfl, HR2.out⟩
  ·obtain rfl : k = n := by omega
   have HR2 : Hid (false = R) := zh (by
    have h := HRR.out
    rw [List.drop_eq_nil_of_le (by rw [HN.out]; exact Nat.le_refl _)] at h
    unfold Sp.takenGo at h
    exact h)
   clear HRR
   go_wp2_with fail
   go_ret
   exact ⟨ret_bool HR2.out, rfl⟩
end Go.Proofs.YtddnomjfcbplpaaGreatDoor

namespace Go.Proofs.YtddnomjfcbplpaaGreatDoor
open Go.RowKit

section
variable {P : Program} {ops : Array Oper} {Q : Exit → Act → World → Prop} {md : Region.Mode} {S : World → Prop} {last : Nat}

def wpAnyK (P : Program) (md : Region.Mode) (ops : Array Oper) (Q : Exit → Act → World → Prop) (S : World → Prop) (last : Nat) : Nat → Array Bool → Act → World → Prop
 | 0, listed, a, w => Region.ready md ops listed = [] ∧ Q .normal a w
 | fuel + 1, listed, a, w =>
  (Region.ready md ops listed = [] → Q .normal a w) ∧
  ∀ i ∈ Region.ready md ops listed, wpOp P ops Q i (fun a' w' => (i = last ∨ S w') ∧ wpAnyK P md ops Q S last fuel (listed.setIfInBounds i true) a' w') a w

theorem wpAny_of_K : ∀ (fuel : Nat) (listed : Array Bool) (a : Act) (w : World), wpAnyK P md ops Q S last fuel listed a w → wpAny P md ops Q fuel listed a w
 | 0, _, _, _, h => h
 | fuel + 1, _, _, _, h => ⟨h.1, fun i hi => wpOp_mono (fun a' w' h' => wpAny_of_K fuel _ a' w' h'.2) (h.2 i hi)⟩

def reachB (md : Region.Mode) (ops : Array Oper) : Nat → Nat → Nat → Bool
 | 0, _, _ => false
 | f + 1, j, i => match ops[j]? with
  | some oj => oj.after.any fun e => Region.binds md e && (e.on == i || reachB md ops f e.on i)
  | none => false
def Closed (md : Region.Mode) (ops : Array Oper) (listed : Array Bool) : Prop :=
 ∀ j oj, ops[j]? = some oj → listed.getD j false = true → ∀ e ∈ oj.after, Region.binds md e = true → listed.getD e.on false = true
theorem Closed.start (n : Nat) : Closed md ops (Array.replicate n false) := fun j oj _ hl => by rw [getD_replicate_false] at hl; cases hl
theorem Closed.set {listed : Array Bool} (h : Closed md ops listed) {i : Nat} (hi : i ∈ Region.ready md ops listed) : Closed md ops (listed.setIfInBounds i true) := by
 obtain ⟨_, oi, hoi, hall⟩ := mem_ready.1 hi
 intro j oj hj hl e he hb
 by_cases hij : i = j
 ·subst hij
  have : oj = oi := Option.some.inj (hj.symm.trans hoi)
  subst this
  exact getD_set_true (hall e he hb)
 ·rw [getD_set_ne false hij] at hl
  exact getD_set_true (h j oj hj hl e he hb)
theorem reach_listed {listed : Array Bool} (h : Closed md ops listed) {i : Nat} : ∀ (f j : Nat), reachB md ops f j i = true → listed.getD j false = true → listed.getD i false = true
 | 0, _, hr, _ => by cases hr
 | f + 1, j, hr, hl => by
  unfold reachB at hr
  split at hr
  ·rename_i oj hoj
   obtain ⟨e, he, hb⟩ := Array.any_eq_true'.1 hr
   simp only [Bool.and_eq_true, Bool.or_eq_true, beq_iff_eq] at hb
   have h1 := h j oj hoj hl e he hb.1
   rcases hb.2 with h2 | h2
   ·rw [h2] at h1; exact h1
   ·exact reach_listed h f e.on h2 h1
  ·cases hr
theorem reach_ready {listed : Array Bool} (h : Closed md ops listed) {f i j : Nat} (hr : reachB md ops f j i = true) (hun : listed.getD i true = false) : j ∉ Region.ready md ops listed := by
 intro hj
 obtain ⟨_, oj, hoj, hall⟩ := mem_ready.1 hj
 cases f with
 | zero => cases hr
 | succ f =>
  unfold reachB at hr
  rw [hoj] at hr
  obtain ⟨e, he, hb⟩ := Array.any_eq_true'.1 hr
  simp only [Bool.and_eq_true, Bool.or_eq_true, beq_iff_eq] at hb
  have h1 := hall e he hb.1
  have h3 : listed.getD i false = true := by
   rcases hb.2 with h2 | h2
   ·rw [← h2]; exact h1
   ·exact reach_listed h f e.on h2 h1
  rw [getD_both hun] at h3
  cases h3

theorem wpAnyK_first {i f0 : Nat} {oi : Oper} {v : Value} (hi : ops[i]? = some oi) (hsel : ∀ (j : Nat) (o : Oper) cs b, ops[j]? = some o → o.op ≠ .select cs b)
  (hQ : ∀ c a w, Q (.panic c) (a.put oi.dst v) w → Q (.panic c) a w) (hlast : reachB md ops f0 last i = true) (hil : i ≠ last) :
  ∀ (fuel : Nat) (listed : Array Bool) (a : Act) (w : World), Closed md ops listed →
   (∀ j oj, ops[j]? = some oj → j ≠ i → listed.getD j true = false → (∀ e ∈ oj.after, Region.binds md e = true → e.on ≠ i) → oi.apart ops oj = true) →
   i ∈ Region.ready md ops listed → YieldsIf P ops S oi v a → S w →
   wpAnyK P md ops Q S last fuel (listed.setIfInBounds i true) (a.put oi.dst v) w → wpAnyK P md ops Q S last (fuel + 1) listed a w := by
 intro fuel
 induction fuel with
 | zero =>
  intro listed a w _ _ hr hy hS H
  refine ⟨fun h => (by rw [h] at hr; cases hr), fun j hj => ?_⟩
  by_cases hji : j = i
  ·subst hji; exact hy.wpOp hi hS ⟨.inr hS, H⟩
  ·have := ready_mono hj hji
   rw [H.1] at this
   cases this
 | succ fuel ih =>
  intro listed a w hcl hfree hr hy hS H
  refine ⟨fun h => (by rw [h] at hr; cases hr), fun j hj => ?_⟩
  by_cases hji : j = i
  ·subst hji; exact hy.wpOp hi hS ⟨.inr hS, H⟩
  ·have hjl : j ≠ last := fun e => reach_ready hcl hlast (mem_ready.1 hr).1 (e ▸ hj)
   have h1 := H.2 j (ready_mono hj hji)
   obtain ⟨hjun, oj, hoj, hall⟩ := mem_ready.1 hj
   have hnot : ∀ e ∈ oj.after, Region.binds md e = true → e.on ≠ i := fun e he hb heq => by
    have h1 := hall e he hb
    have h0 := (mem_ready.1 hr).1
    rw [heq, getD_both h0] at h1
    cases h1
   have h1' := wpOp_mono (K' := fun a' w' => S w' ∧ wpAnyK P md ops Q S last fuel ((listed.setIfInBounds i true).setIfInBounds j true) a' w') (fun a' w' h3 => ⟨h3.1.resolve_left hjl, h3.2⟩) h1
   have h2 := wpOp_putIf hoj (hfree j oj hoj hji hjun hnot) (fun cs b => hsel i oi cs b hi) (fun cs b => hsel j oj cs b hoj) hQ hy h1'
   have hfree' : ∀ k ok, ops[k]? = some ok → k ≠ i → (listed.setIfInBounds j true).getD k true = false →
     (∀ e ∈ ok.after, Region.binds md e = true → e.on ≠ i) → oi.apart ops ok = true := fun k ok hk hki hun hno => by
    refine hfree k ok hk hki ?_ hno
    by_cases hjk : j = k
    ·subst hjk; exact hjun
    ·rw [getD_set_ne true hjk] at hun; exact hun
   refine wpOp_mono (fun a' w' h3 => ⟨.inr h3.2.1, ih (listed.setIfInBounds j true) a' w' (hcl.set hj) hfree' (ready_mono hr (Ne.symm hji)) h3.1 h3.2.1 ?_⟩) h2
   rw [Array.setIfInBounds_comm _ _ hji]
   exact h3.2.2

theorem wpAnyK_take {i f0 : Nat} {oi : Oper} {v : Value} {fuel : Nat} {listed : Array Bool} {a : Act} {w : World} (hcl : Closed md ops listed) (hi : ops[i]? = some oi)
  (hs : Region.noSelect ops = true) (hf : Region.free md ops listed i = true) (hr : (Region.ready md ops listed).contains i = true) (hlast : reachB md ops f0 last i = true) (hil : i ≠ last)
  (hQ : ∀ c a w, Q (.panic c) (a.put oi.dst v) w → Q (.panic c) a w) (hy : YieldsIf P ops S oi v a) (hS : S w)
  (h : Closed md ops (listed.setIfInBounds i true) → wpAnyK P md ops Q S last fuel (listed.setIfInBounds i true) (a.put oi.dst v) w) : wpAnyK P md ops Q S last (fuel + 1) listed a w :=
 have hr' : i ∈ Region.ready md ops listed := by simpa using hr
 wpAnyK_first hi (Region.noSelect_spec hs) hQ hlast hil fuel listed a w hcl (Region.free_spec hi hf) hr' hy hS (h (hcl.set hr'))
theorem wpAnyK_one {i : Nat} {o : Oper} {fuel : Nat} {listed : Array Bool} {a : Act} {w : World} (hcl : Closed md ops listed) (hr : Region.ready md ops listed = [i]) (ho : ops[i]? = some o)
  (h : ∀ K' : Act → World → Prop, (∀ a w, (i = last ∨ S w) → (Closed md ops (listed.setIfInBounds i true) → wpAnyK P md ops Q S last fuel (listed.setIfInBounds i true) a w) → K' a w) → if Region.wanted o (yielded ops a.tmps) = true then Oper.wp P o a w K' Q else K' (a.put o.dst undef) w) :
  wpAnyK P md ops Q S last (fuel + 1) listed a w := by
 refine ⟨fun h0 => (by rw [hr] at h0; cases h0), fun j hj => ?_⟩
 rw [hr] at hj
 have hji : j = i := by simpa using hj
 subst hji
 have hj' : j ∈ Region.ready md ops listed := by rw [hr]; simp
 exact wpOp_step ho (fun K' hK => h K' (fun a w hS hW => hK a w ⟨hS, hW (hcl.set hj')⟩))
theorem wpAnyK_done {listed : Array Bool} {a : Act} {w : World} (hr : Region.ready md ops listed = []) (h : Q .normal a w) : ∀ fuel, wpAnyK P md ops Q S last fuel listed a w
 | 0 => ⟨hr, h⟩
 | _ + 1 => ⟨fun _ => h, by rw [hr]; simp⟩
theorem wp_region_K (last : Nat) (S : World → Prop) {id : Nat} {a : Act} {w : World} (hm : P.follows .mixedOrders = true)
  (h : Closed .any ops (Array.replicate ops.size false) → wpAnyK P .any ops Q S last ops.size (Array.replicate ops.size false) a w.drew) : (Code.region id ops true).wp P Q a w :=
 wp_region_any hm (wpAny_of_K _ _ _ _ (h (Closed.start _)))
end
end Go.Proofs.YtddnomjfcbplpaaGreatDoor
