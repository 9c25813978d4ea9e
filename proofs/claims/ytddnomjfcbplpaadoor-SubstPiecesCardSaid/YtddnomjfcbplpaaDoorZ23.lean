/- Plain laws of layer 27: the grammars of the laws' own sources, the texts of their actions. No program in sight. Layer 27: the source of the law's own; its wakes. -/
import Derived.KernelRfl
import Derived.Test.YtddnomjfcbplpaaDoorZ03
import Derived.Test.YtddnomjfcbplpaaDoorZ11
import Derived.Test.YtddnomjfcbplpaaDoorZ22
namespace Go.Proofs.YtddnomjfcbplpaaDoor
namespace Sp

def symX : Sym := ⟨[120], true, 0, 0⟩
def noSymO : Sym := ⟨[], false, 0, 0⟩
def codePart (code : List UInt8) (at_ : Int) : Part := ⟨noSymO, code, at_⟩
def symPart (s : Sym) : Part := ⟨s, [], 0⟩
/-- The source of the law's own 'one'. -/
def oneSrc (code : List UInt8) (tags : Bool) : Source :=
  ⟨[], if tags = true then [⟨1, [118], [symX], 0⟩, ⟨5, [119], [⟨[98], false, 0, 0⟩], 0⟩, ⟨5, [117], [⟨[97], false, 0, 0⟩], 0⟩] else [],
   [⟨[97], [⟨[symPart symX, symPart ⟨[98], false, 0, 0⟩, symPart symX, codePart code 70], noSymO, 0⟩], 0⟩, ⟨[98], [⟨[], noSymO, 0⟩], 0⟩], []⟩
def tgO (b : Bool) (c : UInt8) : List UInt8 := if b = true then [c] else []
/-- Its grammar. -/
def oneGram (code : List UInt8) (tags : Bool) : Gram :=
  ⟨[⟨[36, 101, 110, 100], false, 0, 0, 0, []⟩, ⟨[101, 114, 114, 111, 114], false, -1, 0, 0, []⟩, ⟨[36, 117, 110, 107], false, -1, 0, 0, []⟩, ⟨[120], true, 120, 0, 0, tgO tags 118⟩],
   [⟨[36, 97, 99, 99, 101, 112, 116], []⟩, ⟨[97], tgO tags 117⟩, ⟨[98], tgO tags 119⟩],
   [⟨0, [1001], -1, [], [], 0⟩, ⟨1, [3, 1002, 3], 3, code, [3, 1002, 3], 70⟩, ⟨2, [], -1, [], [], 0⟩], [], []⟩
theorem one_may (l : List UInt8) (tags : Bool) (h : endAt (123 :: l) 0 = ((123 :: l).length : Int)) : may (oneSrc (123 :: l) tags) = true := by
  have h2 : mayPart (codePart (123 :: l) 70) = true := by
    unfold mayPart codePart
    rw [if_neg (by simp)]
    rw [Bool.and_eq_true]
    exact ⟨by rfl, by simpa using h⟩
  have h3 : mayRule ⟨[97], [⟨[symPart symX, symPart ⟨[98], false, 0, 0⟩, symPart symX, codePart (123 :: l) 70], noSymO, 0⟩], 0⟩ = true := by
    unfold mayRule mayAlt
    simp only [List.all_cons, List.all_nil, h2]
    rfl
  unfold may oneSrc
  simp only [List.all_cons, List.all_nil, h3]
  cases tags <;> rfl
theorem one_gram (l : List UInt8) (tags : Bool) (h : endAt (123 :: l) 0 = ((123 :: l).length : Int)) : refGram (oneSrc (123 :: l) tags) = (oneGram (123 :: l) tags, okFault) := by
  rw [refGram_fine (one_may l tags h) (by cases tags <;> kernel_rfl) (by cases tags <;> kernel_rfl)]
  cases tags <;> kernel_rfl
theorem one_inner (l : List UInt8) (tags : Bool) : (rmade (oneSrc (123 :: l) tags)).inner ≤ 60000 := by
  have : (rmade (oneSrc (123 :: l) tags)).inner = 0 := by cases tags <;> kernel_rfl
  omega
theorem one_good (code : List UInt8) (tags : Bool) (hc : code.length ≤ 4000) : GoodTg (oneGram code tags) ∧ ∀ x ∈ (oneGram code tags).prods, GoodPr (oneGram code tags) x := by
  refine ⟨⟨?_, ?_⟩, ?_⟩
  · intro t ht
    simp only [oneGram, List.mem_cons, List.not_mem_nil, or_false] at ht
    rcases ht with rfl | rfl | rfl | rfl <;> cases tags <;> simp [tgO]
  · intro t ht
    simp only [oneGram, List.mem_cons, List.not_mem_nil, or_false] at ht
    rcases ht with rfl | rfl | rfl <;> cases tags <;> simp [tgO]
  · intro x hx
    simp only [oneGram, List.mem_cons, List.not_mem_nil, or_false] at hx
    rcases hx with rfl | rfl | rfl
    · exact ⟨⟨by decide, by simp [oneGram]⟩, by simp, by simp, by simp⟩
    · refine ⟨⟨by simp, by simp [oneGram]⟩, ?_, hc, by simp⟩
      intro a ha
      simp only [List.mem_cons, List.not_mem_nil, or_false] at ha
      rcases ha with rfl | rfl | rfl <;> exact ⟨by decide, by simp [oneGram], by simp [oneGram]⟩
    · exact ⟨⟨by decide, by simp [oneGram]⟩, by simp, by simp, by simp⟩

/-! ### The wakes -/
def wakeC : List UInt8 := [36, 36, 32, 61, 32, 36, 49, 32, 43, 32, 36, 60, 110, 62, 50, 125]
def wakeT : List UInt8 := [123, 121, 121, 86, 65, 76, 46, 117, 32, 61, 32, 121, 121, 68, 111, 108, 108, 97, 114, 91, 49, 93, 46, 118, 32, 43, 32, 121, 121, 68, 111, 108, 108, 97, 114, 91, 50, 93, 46, 110, 125]
theorem wake_end : endAt (123 :: wakeC) 0 = ((123 :: wakeC).length : Int) := by kernel_rfl
theorem wake_end4 : endAt [123, 36, 52, 125] 0 = (([123, 36, 52, 125] : List UInt8).length : Int) := by kernel_rfl
theorem wake_body : subBody (oneGram (123 :: wakeC) true) 1 = (wakeT, ⟨0, 0, []⟩) := by kernel_rfl
theorem wake_body4 : subBody (oneGram [123, 36, 52, 125] false) 1 = ([], ⟨6, 70, [36, 52]⟩) := by kernel_rfl
theorem wake_all : subAll (oneGram (123 :: wakeC) true) = ([[], wakeT, []], ⟨0, 0, []⟩) := by kernel_rfl

/-! ### SubstFar -/
def farCode (n : Nat) : List UInt8 := 123 :: 36 :: (Go.Lib.itoa (n : Int) ++ [125])
def farAlt (n : Nat) : Alt := ⟨[codePart (farCode n) 11], noSymO, 0⟩
def fiveAlt : Alt := ⟨[codePart [123, 36, 53, 125] 22], noSymO, 0⟩
def farSrc (n : Nat) (first : Bool) : Source := ⟨[], [], [⟨[97], if first = true then [fiveAlt, farAlt n] else [farAlt n, fiveAlt], 0⟩], []⟩
def farProd (n : Nat) : Prod := ⟨1, [], -1, farCode n, [], 11⟩
def fiveProd : Prod := ⟨1, [], -1, [123, 36, 53, 125], [], 22⟩
def farGram (n : Nat) (first : Bool) : Gram :=
  ⟨[⟨[36, 101, 110, 100], false, 0, 0, 0, []⟩, ⟨[101, 114, 114, 111, 114], false, -1, 0, 0, []⟩, ⟨[36, 117, 110, 107], false, -1, 0, 0, []⟩],
   [⟨[36, 97, 99, 99, 101, 112, 116], []⟩, ⟨[97], []⟩],
   if first = true then [⟨0, [1001], -1, [], [], 0⟩, fiveProd, farProd n] else [⟨0, [1001], -1, [], [], 0⟩, farProd n, fiveProd], [], []⟩
def farName (n : Nat) : List UInt8 := if 999 < n then [] else 36 :: Go.Lib.itoa (n : Int)
def farRes (n : Nat) (first : Bool) : Fault := if first = true then ⟨6, 22, [36, 53]⟩ else ⟨6, 11, farName n⟩
/-- What is to be looked at for a number: its code ends where it ends; what its production comes to. -/
def farOk (n : Nat) : Bool :=
  decide (endAt (farCode n) 0 = ((farCode n).length : Int)) && decide ((subProd (farGram n false) (farProd n)).2.err = 6) && decide ((subProd (farGram n false) (farProd n)).2.at_ = 11) && decide ((subProd (farGram n false) (farProd n)).2.name = farName n) && decide ((farCode n).length ≤ 20)
theorem far_all60 : ∀ a < 50, ∀ b < 60, farOk (60 * a + b) = true := by decide +kernel
theorem far_all (n : Nat) (h : n < 3000) : farOk n = true := by
  have := far_all60 (n / 60) (by omega) (n % 60) (by omega)
  rwa [Nat.div_add_mod] at this
theorem far_may (n : Nat) (first : Bool) (hn : n < 3000) : may (farSrc n first) = true := by
  have h := far_all n hn
  unfold farOk at h
  simp only [Bool.and_eq_true, decide_eq_true_eq] at h
  have h2 : mayPart (codePart (farCode n) 11) = true := by
    unfold mayPart codePart
    rw [if_neg (by simp [farCode]), Bool.and_eq_true]
    exact ⟨by rfl, by simpa using h.1.1.1.1⟩
  have h3 : mayAlt (farAlt n) = true := by
    unfold mayAlt farAlt
    simp only [List.all_cons, List.all_nil, h2]
    rfl
  have h4 : mayAlt fiveAlt = true := by decide +kernel
  unfold may farSrc
  cases first
  · simp only [Bool.false_eq_true, if_false, List.all_cons, List.all_nil]
    have : mayRule ⟨[97], [farAlt n, fiveAlt], 0⟩ = true := by
      unfold mayRule
      simp only [List.all_cons, List.all_nil, h3, h4]
      rfl
    rw [this]
    rfl
  · simp only [if_true, List.all_cons, List.all_nil]
    have : mayRule ⟨[97], [fiveAlt, farAlt n], 0⟩ = true := by
      unfold mayRule
      simp only [List.all_cons, List.all_nil, h3, h4]
      rfl
    rw [this]
    rfl
theorem far_gram (n : Nat) (first : Bool) (hn : n < 3000) : refGram (farSrc n first) = (farGram n first, okFault) := by
  rw [refGram_fine (far_may n first hn) (by cases first <;> kernel_rfl) (by cases first <;> kernel_rfl)]
  cases first <;> kernel_rfl
theorem far_inner (n : Nat) (first : Bool) : (rmade (farSrc n first)).inner ≤ 60000 := by
  have : (rmade (farSrc n first)).inner = 0 := by cases first <;> kernel_rfl
  omega
theorem far_sub (n : Nat) (first : Bool) (hn : n < 3000) : subAll (farGram n first) = ([], farRes n first) := by
  have h := far_all n hn
  unfold farOk at h
  simp only [Bool.and_eq_true, decide_eq_true_eq] at h
  obtain ⟨⟨⟨⟨_, h1⟩, h2⟩, h3⟩, _⟩ := h
  have e0 : ∀ b, subProd (farGram n b) ⟨0, [1001], -1, [], [], 0⟩ = ([], ⟨0, 0, []⟩) := fun b => rfl
  cases first
  · have e1 : (subProd (farGram n false) (farProd n)).2 = ⟨6, 11, farName n⟩ := by
      generalize (subProd (farGram n false) (farProd n)).2 = q at *
      obtain ⟨a, b, c⟩ := q
      simp only at h1 h2 h3
      subst h1 h2 h3
      rfl
    show subAllGo (farGram n false) [⟨0, [1001], -1, [], [], 0⟩, farProd n, fiveProd] [] = _
    unfold subAllGo
    rw [e0, if_neg (by simp)]
    unfold subAllGo
    rw [e1, if_pos (by simp)]
    rfl
  · show subAllGo (farGram n true) [⟨0, [1001], -1, [], [], 0⟩, fiveProd, farProd n] [] = _
    unfold subAllGo
    rw [e0, if_neg (by simp)]
    unfold subAllGo
    have e1 : (subProd (farGram n true) fiveProd).2 = ⟨6, 22, [36, 53]⟩ := by kernel_rfl
    rw [e1, if_pos (by simp)]
    rfl
theorem far_good (n : Nat) (first : Bool) (hn : n < 3000) : GoodTg (farGram n first) ∧ ∀ x ∈ (farGram n first).prods, GoodPr (farGram n first) x := by
  have h := far_all n hn
  unfold farOk at h
  simp only [Bool.and_eq_true, decide_eq_true_eq] at h
  have hl := h.2
  have g0 : ∀ b, GoodPr (farGram n b) ⟨0, [1001], -1, [], [], 0⟩ := fun b => ⟨⟨by decide, by simp [farGram]⟩, by simp, by simp, by simp⟩
  have g1 : ∀ b, GoodPr (farGram n b) (farProd n) := fun b => ⟨⟨by simp [farProd], by simp [farGram, farProd]⟩, by simp [farProd], by show (farCode n).length ≤ 4000; omega, by simp [farProd]⟩
  have g2 : ∀ b, GoodPr (farGram n b) fiveProd := fun b => ⟨⟨by simp [fiveProd], by simp [farGram, fiveProd]⟩, by simp [fiveProd], by simp [fiveProd], by simp [fiveProd]⟩
  refine ⟨⟨?_, ?_⟩, ?_⟩
  · intro t ht
    simp only [farGram, List.mem_cons, List.not_mem_nil, or_false] at ht
    rcases ht with rfl | rfl | rfl <;> simp
  · intro t ht
    simp only [farGram, List.mem_cons, List.not_mem_nil, or_false] at ht
    rcases ht with rfl | rfl <;> simp
  · intro x hx
    cases first
    · simp only [farGram, Bool.false_eq_true, if_false, List.mem_cons, List.not_mem_nil, or_false] at hx
      rcases hx with rfl | rfl | rfl
      · exact g0 _
      · exact g1 _
      · exact g2 _
    · simp only [farGram, if_true, List.mem_cons, List.not_mem_nil, or_false] at hx
      rcases hx with rfl | rfl | rfl
      · exact g0 _
      · exact g2 _
      · exact g1 _
end Sp
end Go.Proofs.YtddnomjfcbplpaaDoor

namespace Go.Proofs.YtddnomjfcbplpaaDoor
open Go.RowKit Go.Maps

theorem below_allocs : ∀ (l : List Obj) (v : World), Below v.heap.size v (l.foldl World.alloc v)
  | [], v => Below.refl _ v
  | a :: l, v => ((Below.refl _ v).alloc (Nat.le_refl _) a).trans ((below_allocs l (v.alloc a)).mono (by simp))
theorem heap_allocs : ∀ (l : List Obj) (w : World) (k : Nat), k < l.length → (l.foldl World.alloc w).heap[w.heap.size + k]? = l[k]?
  | [], w, k, h => by simp at h
  | o :: l, w, 0, _ => by
    have h := (below_allocs l (w.alloc o)).block w.heap.size (by simp)
    show (l.foldl World.alloc (w.alloc o)).heap[w.heap.size]? = some o
    exact h.trans (heap_last w o)
  | o :: l, w, k + 1, h => by
    have := heap_allocs l (w.alloc o) k (by simpa using h)
    rw [World.size_alloc] at this
    rw [show w.heap.size + (k + 1) = w.heap.size + 1 + k by omega]
    exact this
theorem one_small {c : List UInt8} (hl : c.length ≤ 4000) (tags : Bool) : smallSrc (Sp.oneSrc c tags) := by
  refine ⟨by simp [Sp.oneSrc], by simp [Sp.oneSrc], by cases tags <;> simp [Sp.oneSrc], by simp [Sp.oneSrc], ?_, ?_⟩
  · cases tags
    · intro d hd; simp [Sp.oneSrc] at hd
    · intro d hd
      simp only [Sp.oneSrc, if_true, List.mem_cons, List.not_mem_nil, or_false] at hd
      rcases hd with rfl | rfl | rfl <;> exact ⟨by simp, by simp, fun s hs => by simp only [List.mem_cons, List.not_mem_nil, or_false] at hs; subst hs; simp [smallSym, Sp.symX]⟩
  · intro r hr
    simp only [Sp.oneSrc, List.mem_cons, List.not_mem_nil, or_false] at hr
    rcases hr with rfl | rfl
    · refine ⟨by simp, by simp, fun a ha => ?_⟩
      simp only [List.mem_cons, List.not_mem_nil, or_false] at ha
      subst ha
      refine ⟨by simp, fun p hp => ?_, by simp [smallSym, Sp.noSymO]⟩
      simp only [List.mem_cons, List.not_mem_nil, or_false] at hp
      rcases hp with rfl | rfl | rfl | rfl <;> simp [smallPart, smallSym, Sp.symPart, Sp.codePart, Sp.symX, Sp.noSymO] <;> first | omega | done
    · refine ⟨by simp, by simp, fun a ha => ?_⟩
      simp only [List.mem_cons, List.not_mem_nil, or_false] at ha
      subst ha
      exact ⟨by simp, fun p hp => by simp at hp, by simp [smallSym, Sp.noSymO]⟩
set_option maxRecDepth 100000 in
set_option maxHeartbeats 6400000 in
theorem law27_one (l : List UInt8) (tags : Bool) (W : World) (hend : Sp.endAt (123 :: l) 0 = ((123 :: l).length : Int)) (hl : (123 :: l).length ≤ 4000) :
    Calls Tryd.prog 14 #[.string ⟨(123 :: l).toArray⟩, .bool tags] W fun e w' => Below W.heap.size W w' ∧ W.heap.size + 2 ≤ w'.heap.size ∧ ∃ gv, e = .returned (.tuple #[gv, .bool true]) ∧ GramOwn w' gv (Sp.oneGram (123 :: l) tags) := by
  have HE := Lib.hid hend
  obtain ⟨C, hC⟩ : ∃ C : ByteArray, C = ⟨(123 :: l).toArray⟩ := ⟨_, rfl⟩
  rw [← hC]
  have HC := Lib.hid hC
  clear hC hend
  cases tags with
  | false =>
    obtain ⟨w5, hw5⟩ : ∃ w5 : World, w5 = (((((((W.alloc (.cells #[.slice none 0 0, .slice none 0 0, .slice none 0 0, .string ⟨#[]⟩, .string ⟨#[]⟩] 46)).alloc (.cells #[.string ⟨#[120]⟩, .bool true, .int .i64 0, .int .i64 0, .string ⟨#[]⟩, .int .i64 0] 63)).alloc (.cells #[.string ⟨#[120]⟩, .bool true, .int .i64 0, .int .i64 0, .string ⟨#[]⟩, .int .i64 0, .string ⟨#[98]⟩, .bool false, .int .i64 0, .int .i64 0, .string ⟨#[]⟩, .int .i64 0, .string ⟨#[120]⟩, .bool true, .int .i64 0, .int .i64 0, .string ⟨#[]⟩, .int .i64 0, .string ⟨#[]⟩, .bool false, .int .i64 0, .int .i64 0, .string C, .int .i64 70] 63)).alloc (.cells #[.slice (some ⟨W.heap.size + 1 + 1, 0, none⟩) 4 4, .string ⟨#[]⟩, .bool false, .int .i64 0, .int .i64 0, .int .i64 0] 28)).alloc (.cells #[.slice none 0 0, .string ⟨#[]⟩, .bool false, .int .i64 0, .int .i64 0, .int .i64 0] 28)).alloc (.cells #[.string ⟨#[97]⟩, .slice (some ⟨W.heap.size + 1 + 1 + 1, 0, none⟩) 1 1, .int .i64 0, .string ⟨#[98]⟩, .slice (some ⟨W.heap.size + 1 + 1 + 1 + 1, 0, none⟩) 1 1, .int .i64 0] 31)).alloc (.cells #[.string ⟨#[]⟩, .slice none 0 0, .slice (some ⟨W.heap.size + 1 + 1 + 1 + 1 + 1, 0, none⟩) 2 2, .string ⟨#[]⟩] 35)) := ⟨_, rfl⟩
    have hH : ∀ k o, ([.cells #[.slice none 0 0, .slice none 0 0, .slice none 0 0, .string ⟨#[]⟩, .string ⟨#[]⟩] 46, .cells #[.string ⟨#[120]⟩, .bool true, .int .i64 0, .int .i64 0, .string ⟨#[]⟩, .int .i64 0] 63, .cells #[.string ⟨#[120]⟩, .bool true, .int .i64 0, .int .i64 0, .string ⟨#[]⟩, .int .i64 0, .string ⟨#[98]⟩, .bool false, .int .i64 0, .int .i64 0, .string ⟨#[]⟩, .int .i64 0, .string ⟨#[120]⟩, .bool true, .int .i64 0, .int .i64 0, .string ⟨#[]⟩, .int .i64 0, .string ⟨#[]⟩, .bool false, .int .i64 0, .int .i64 0, .string C, .int .i64 70] 63, .cells #[.slice (some ⟨W.heap.size + 1 + 1, 0, none⟩) 4 4, .string ⟨#[]⟩, .bool false, .int .i64 0, .int .i64 0, .int .i64 0] 28, .cells #[.slice none 0 0, .string ⟨#[]⟩, .bool false, .int .i64 0, .int .i64 0, .int .i64 0] 28, .cells #[.string ⟨#[97]⟩, .slice (some ⟨W.heap.size + 1 + 1 + 1, 0, none⟩) 1 1, .int .i64 0, .string ⟨#[98]⟩, .slice (some ⟨W.heap.size + 1 + 1 + 1 + 1, 0, none⟩) 1 1, .int .i64 0] 31, .cells #[.string ⟨#[]⟩, .slice none 0 0, .slice (some ⟨W.heap.size + 1 + 1 + 1 + 1 + 1, 0, none⟩) 2 2, .string ⟨#[]⟩] 35] : List Obj)[k]? = some o → w5.heap[W.heap.size + k]? = some o := fun k o h => by
      rw [hw5]
      exact (heap_allocs [.cells #[.slice none 0 0, .slice none 0 0, .slice none 0 0, .string ⟨#[]⟩, .string ⟨#[]⟩] 46, .cells #[.string ⟨#[120]⟩, .bool true, .int .i64 0, .int .i64 0, .string ⟨#[]⟩, .int .i64 0] 63, .cells #[.string ⟨#[120]⟩, .bool true, .int .i64 0, .int .i64 0, .string ⟨#[]⟩, .int .i64 0, .string ⟨#[98]⟩, .bool false, .int .i64 0, .int .i64 0, .string ⟨#[]⟩, .int .i64 0, .string ⟨#[120]⟩, .bool true, .int .i64 0, .int .i64 0, .string ⟨#[]⟩, .int .i64 0, .string ⟨#[]⟩, .bool false, .int .i64 0, .int .i64 0, .string C, .int .i64 70] 63, .cells #[.slice (some ⟨W.heap.size + 1 + 1, 0, none⟩) 4 4, .string ⟨#[]⟩, .bool false, .int .i64 0, .int .i64 0, .int .i64 0] 28, .cells #[.slice none 0 0, .string ⟨#[]⟩, .bool false, .int .i64 0, .int .i64 0, .int .i64 0] 28, .cells #[.string ⟨#[97]⟩, .slice (some ⟨W.heap.size + 1 + 1 + 1, 0, none⟩) 1 1, .int .i64 0, .string ⟨#[98]⟩, .slice (some ⟨W.heap.size + 1 + 1 + 1 + 1, 0, none⟩) 1 1, .int .i64 0] 31, .cells #[.string ⟨#[]⟩, .slice none 0 0, .slice (some ⟨W.heap.size + 1 + 1 + 1 + 1 + 1, 0, none⟩) 2 2, .string ⟨#[]⟩] 35] W k (List.getElem?_eq_some_iff.1 h).1).trans h
    have hb5 : Below W.heap.size W w5 := by rw [hw5]; exact below_allocs [.cells #[.slice none 0 0, .slice none 0 0, .slice none 0 0, .string ⟨#[]⟩, .string ⟨#[]⟩] 46, .cells #[.string ⟨#[120]⟩, .bool true, .int .i64 0, .int .i64 0, .string ⟨#[]⟩, .int .i64 0] 63, .cells #[.string ⟨#[120]⟩, .bool true, .int .i64 0, .int .i64 0, .string ⟨#[]⟩, .int .i64 0, .string ⟨#[98]⟩, .bool false, .int .i64 0, .int .i64 0, .string ⟨#[]⟩, .int .i64 0, .string ⟨#[120]⟩, .bool true, .int .i64 0, .int .i64 0, .string ⟨#[]⟩, .int .i64 0, .string ⟨#[]⟩, .bool false, .int .i64 0, .int .i64 0, .string C, .int .i64 70] 63, .cells #[.slice (some ⟨W.heap.size + 1 + 1, 0, none⟩) 4 4, .string ⟨#[]⟩, .bool false, .int .i64 0, .int .i64 0, .int .i64 0] 28, .cells #[.slice none 0 0, .string ⟨#[]⟩, .bool false, .int .i64 0, .int .i64 0, .int .i64 0] 28, .cells #[.string ⟨#[97]⟩, .slice (some ⟨W.heap.size + 1 + 1 + 1, 0, none⟩) 1 1, .int .i64 0, .string ⟨#[98]⟩, .slice (some ⟨W.heap.size + 1 + 1 + 1 + 1, 0, none⟩) 1 1, .int .i64 0] 31, .cells #[.string ⟨#[]⟩, .slice none 0 0, .slice (some ⟨W.heap.size + 1 + 1 + 1 + 1 + 1, 0, none⟩) 2 2, .string ⟨#[]⟩] 35] W
    have hCe : C = ⟨(123 :: l).toArray⟩ := HC.out
    have hrul : RulesAt w5 (.slice (some ⟨W.heap.size + 1 + 1 + 1 + 1 + 1, 0, none⟩) 2 2) (Sp.oneSrc (123 :: l) false).rules := by
      refine ⟨fun i => if i = 0 then .slice (some ⟨W.heap.size + 1 + 1 + 1, 0, none⟩) 1 1 else .slice (some ⟨W.heap.size + 1 + 1 + 1 + 1, 0, none⟩) 1 1, slAt_block _ 3 (fun r hr => by simp [Sp.oneSrc, ruleC] at hr; rcases hr with rfl | rfl <;> rfl) (hH 5 _ rfl) (by simp [Sp.oneSrc, maxLen]), fun i r hr => ?_⟩
      rcases i with _ | _ | i
      · simp [Sp.oneSrc] at hr; subst hr
        refine ⟨fun _ => .slice (some ⟨W.heap.size + 1 + 1, 0, none⟩) 4 4, slAt_block _ 6 (fun r hr => by simp [altC] at hr; subst hr; rfl) (hH 3 _ rfl) (by simp [maxLen]), fun j a ha => ?_⟩
        rcases j with _ | j
        · simp at ha; subst ha
          refine slAt_block (e := 63) ([Sp.symPart Sp.symX, Sp.symPart ⟨[98], false, 0, 0⟩, Sp.symPart Sp.symX, Sp.codePart (123 :: l) 70].map partC) 6 (fun r hr => by obtain ⟨q, _, rfl⟩ := List.mem_map.1 hr; rfl) ?_ (by simp [maxLen])
          have h2 := hH 2 _ rfl
          rw [hCe] at h2
          exact h2
        · simp at ha
      · simp [Sp.oneSrc] at hr; subst hr
        refine ⟨fun _ => .slice none 0 0, slAt_block _ 6 (fun r hr => by simp [altC] at hr; subst hr; rfl) (hH 4 _ rfl) (by simp [maxLen]), fun j a ha => ?_⟩
        rcases j with _ | j
        · simp at ha; subst ha
          exact .inl ⟨rfl, none, 0, rfl⟩
        · simp at ha
      · simp [Sp.oneSrc] at hr
    have hdec : DeclsAt w5 (.slice none 0 0) (Sp.oneSrc (123 :: l) false).decls := decls_none w5
    have hG := hH 0 _ rfl
    have hS : w5.heap[W.heap.size + 1 + 1 + 1 + 1 + 1 + 1]? = _ := hH 6 _ rfl
    have HGR := Lib.hid (show Calls Tryd.prog 16 #[.agg #[.string ⟨#[]⟩, .slice none 0 0, .slice (some ⟨W.heap.size + 1 + 1 + 1 + 1 + 1, 0, none⟩) 2 2, .string ⟨#[]⟩]] w5 (fun e w' => Below w5.heap.size w5 w' ∧ ∃ gv, e = .returned (.tuple #[gv, .bool true]) ∧ GramOwn w' gv (Sp.oneGram (123 :: l) false)) from by
      have h := ref16_Grammar (Sp.oneSrc (123 :: l) false) _ _ w5 hdec hrul (one_small hl false) (Sp.one_inner l false)
      rw [Sp.one_gram l false HE.out] at h
      exact h)
    have HG5 := Lib.hid hG; have HB5 := Lib.hid hb5
    have s0 := cell_at (i := 0) hS; have s1 := cell_at (i := 1) hS; have s2 := cell_at (i := 2) hS; have s3 := cell_at (i := 3) hS
    have ls := lt_at hS
    clear hH hb5 hrul hdec hG hS hCe
    go_enter Tryd.func14, Tryd.ntmps14
    go_upto_region 5 with fail
    rw [← hw5]
    clear hw5
    go_wp2_with fail
    refine HGR.out.mono ?_
    rintro e w6 ⟨hb6, gv, rfl, hgo⟩
    have hgo2 := hgo
    obtain ⟨B6, ta, tc, na, nc, pa, pc, rfl, _⟩ := hgo
    have hg6 := (hb6.block _ (lt_at HG5.out)).trans HG5.out
    rw [Nat.add_zero] at hg6
    have HG6 := Lib.hid hg6; have HGO := Lib.hid hgo2; have HB6 := Lib.hid (HB5.out.trans (hb6.mono HB5.out.size))
    have b0 := cell_at (i := 0) hg6; have b1 := cell_at (i := 1) hg6; have b2 := cell_at (i := 2) hg6; have b3 := cell_at (i := 3) hg6; have b4 := cell_at (i := 4) hg6
    have z0 := frozen_at (i := 0) hg6; have z1 := frozen_at (i := 1) hg6; have z2 := frozen_at (i := 2) hg6; have z3 := frozen_at (i := 3) hg6; have z4 := frozen_at (i := 4) hg6
    have lg := lt_at hg6
    have hsz6 : W.heap.size + 2 ≤ w6.heap.size := by have := hb6.size; omega
    have HSZ6 := Lib.hid hsz6
    clear hsz6 hb6 hgo2 hg6 HGR s0 s1 s2 s3 ls
    go_wp2_with fail
    refine ret_cell_tmp1 (g := W.heap.size) rfl rfl (heap_setCell_at (heap_setCell_at (heap_setCell_at (heap_setCell_at (heap_setCell_at HG6.out))))) rfl Tryd.underlying46 (by kernel_rfl) rfl ?_
    refine ⟨HB6.out.trans ((((((Below.refl _ w6).setCell (by simp) _).setCell (by simp) _).setCell (by simp) _).setCell (by simp) _).setCell (by simp) _), by simp only [World.size_setCell]; exact HSZ6.out, _, rfl, HGO.out.kp HG6.out ?_⟩
    exact (((((Kp.refl _ w6).setCell (by simp) _).setCell (by simp) _).setCell (by simp) _).setCell (by simp) _).setCell (by simp) _
  | true =>
    obtain ⟨w5, hw5⟩ : ∃ w5 : World, w5 = (((((((((((W.alloc (.cells #[.slice none 0 0, .slice none 0 0, .slice none 0 0, .string ⟨#[]⟩, .string ⟨#[]⟩] 46)).alloc (.cells #[.string ⟨#[120]⟩, .bool true, .int .i64 0, .int .i64 0, .string ⟨#[]⟩, .int .i64 0] 63)).alloc (.cells #[.string ⟨#[120]⟩, .bool true, .int .i64 0, .int .i64 0, .string ⟨#[]⟩, .int .i64 0, .string ⟨#[98]⟩, .bool false, .int .i64 0, .int .i64 0, .string ⟨#[]⟩, .int .i64 0, .string ⟨#[120]⟩, .bool true, .int .i64 0, .int .i64 0, .string ⟨#[]⟩, .int .i64 0, .string ⟨#[]⟩, .bool false, .int .i64 0, .int .i64 0, .string C, .int .i64 70] 63)).alloc (.cells #[.slice (some ⟨W.heap.size + 1 + 1, 0, none⟩) 4 4, .string ⟨#[]⟩, .bool false, .int .i64 0, .int .i64 0, .int .i64 0] 28)).alloc (.cells #[.slice none 0 0, .string ⟨#[]⟩, .bool false, .int .i64 0, .int .i64 0, .int .i64 0] 28)).alloc (.cells #[.string ⟨#[97]⟩, .slice (some ⟨W.heap.size + 1 + 1 + 1, 0, none⟩) 1 1, .int .i64 0, .string ⟨#[98]⟩, .slice (some ⟨W.heap.size + 1 + 1 + 1 + 1, 0, none⟩) 1 1, .int .i64 0] 31)).alloc (.cells #[.string ⟨#[]⟩, .slice (some ⟨W.heap.size + 1 + 1 + 1 + 1 + 1 + 1 + 1 + 1 + 1 + 1, 0, none⟩) 3 3, .slice (some ⟨W.heap.size + 1 + 1 + 1 + 1 + 1, 0, none⟩) 2 2, .string ⟨#[]⟩] 35)).alloc (.cells #[.string ⟨#[120]⟩, .bool true, .int .i64 0, .int .i64 0] 26)).alloc (.cells #[.string ⟨#[98]⟩, .bool false, .int .i64 0, .int .i64 0] 26)).alloc (.cells #[.string ⟨#[97]⟩, .bool false, .int .i64 0, .int .i64 0] 26)).alloc (.cells #[.int .i64 1, .string ⟨#[118]⟩, .slice (some ⟨W.heap.size + 1 + 1 + 1 + 1 + 1 + 1 + 1, 0, none⟩) 1 1, .int .i64 0, .int .i64 5, .string ⟨#[119]⟩, .slice (some ⟨W.heap.size + 1 + 1 + 1 + 1 + 1 + 1 + 1 + 1, 0, none⟩) 1 1, .int .i64 0, .int .i64 5, .string ⟨#[117]⟩, .slice (some ⟨W.heap.size + 1 + 1 + 1 + 1 + 1 + 1 + 1 + 1 + 1, 0, none⟩) 1 1, .int .i64 0] 39)) := ⟨_, rfl⟩
    have hH : ∀ k o, ([.cells #[.slice none 0 0, .slice none 0 0, .slice none 0 0, .string ⟨#[]⟩, .string ⟨#[]⟩] 46, .cells #[.string ⟨#[120]⟩, .bool true, .int .i64 0, .int .i64 0, .string ⟨#[]⟩, .int .i64 0] 63, .cells #[.string ⟨#[120]⟩, .bool true, .int .i64 0, .int .i64 0, .string ⟨#[]⟩, .int .i64 0, .string ⟨#[98]⟩, .bool false, .int .i64 0, .int .i64 0, .string ⟨#[]⟩, .int .i64 0, .string ⟨#[120]⟩, .bool true, .int .i64 0, .int .i64 0, .string ⟨#[]⟩, .int .i64 0, .string ⟨#[]⟩, .bool false, .int .i64 0, .int .i64 0, .string C, .int .i64 70] 63, .cells #[.slice (some ⟨W.heap.size + 1 + 1, 0, none⟩) 4 4, .string ⟨#[]⟩, .bool false, .int .i64 0, .int .i64 0, .int .i64 0] 28, .cells #[.slice none 0 0, .string ⟨#[]⟩, .bool false, .int .i64 0, .int .i64 0, .int .i64 0] 28, .cells #[.string ⟨#[97]⟩, .slice (some ⟨W.heap.size + 1 + 1 + 1, 0, none⟩) 1 1, .int .i64 0, .string ⟨#[98]⟩, .slice (some ⟨W.heap.size + 1 + 1 + 1 + 1, 0, none⟩) 1 1, .int .i64 0] 31, .cells #[.string ⟨#[]⟩, .slice (some ⟨W.heap.size + 1 + 1 + 1 + 1 + 1 + 1 + 1 + 1 + 1 + 1, 0, none⟩) 3 3, .slice (some ⟨W.heap.size + 1 + 1 + 1 + 1 + 1, 0, none⟩) 2 2, .string ⟨#[]⟩] 35, .cells #[.string ⟨#[120]⟩, .bool true, .int .i64 0, .int .i64 0] 26, .cells #[.string ⟨#[98]⟩, .bool false, .int .i64 0, .int .i64 0] 26, .cells #[.string ⟨#[97]⟩, .bool false, .int .i64 0, .int .i64 0] 26, .cells #[.int .i64 1, .string ⟨#[118]⟩, .slice (some ⟨W.heap.size + 1 + 1 + 1 + 1 + 1 + 1 + 1, 0, none⟩) 1 1, .int .i64 0, .int .i64 5, .string ⟨#[119]⟩, .slice (some ⟨W.heap.size + 1 + 1 + 1 + 1 + 1 + 1 + 1 + 1, 0, none⟩) 1 1, .int .i64 0, .int .i64 5, .string ⟨#[117]⟩, .slice (some ⟨W.heap.size + 1 + 1 + 1 + 1 + 1 + 1 + 1 + 1 + 1, 0, none⟩) 1 1, .int .i64 0] 39] : List Obj)[k]? = some o → w5.heap[W.heap.size + k]? = some o := fun k o h => by
      rw [hw5]
      exact (heap_allocs [.cells #[.slice none 0 0, .slice none 0 0, .slice none 0 0, .string ⟨#[]⟩, .string ⟨#[]⟩] 46, .cells #[.string ⟨#[120]⟩, .bool true, .int .i64 0, .int .i64 0, .string ⟨#[]⟩, .int .i64 0] 63, .cells #[.string ⟨#[120]⟩, .bool true, .int .i64 0, .int .i64 0, .string ⟨#[]⟩, .int .i64 0, .string ⟨#[98]⟩, .bool false, .int .i64 0, .int .i64 0, .string ⟨#[]⟩, .int .i64 0, .string ⟨#[120]⟩, .bool true, .int .i64 0, .int .i64 0, .string ⟨#[]⟩, .int .i64 0, .string ⟨#[]⟩, .bool false, .int .i64 0, .int .i64 0, .string C, .int .i64 70] 63, .cells #[.slice (some ⟨W.heap.size + 1 + 1, 0, none⟩) 4 4, .string ⟨#[]⟩, .bool false, .int .i64 0, .int .i64 0, .int .i64 0] 28, .cells #[.slice none 0 0, .string ⟨#[]⟩, .bool false, .int .i64 0, .int .i64 0, .int .i64 0] 28, .cells #[.string ⟨#[97]⟩, .slice (some ⟨W.heap.size + 1 + 1 + 1, 0, none⟩) 1 1, .int .i64 0, .string ⟨#[98]⟩, .slice (some ⟨W.heap.size + 1 + 1 + 1 + 1, 0, none⟩) 1 1, .int .i64 0] 31, .cells #[.string ⟨#[]⟩, .slice (some ⟨W.heap.size + 1 + 1 + 1 + 1 + 1 + 1 + 1 + 1 + 1 + 1, 0, none⟩) 3 3, .slice (some ⟨W.heap.size + 1 + 1 + 1 + 1 + 1, 0, none⟩) 2 2, .string ⟨#[]⟩] 35, .cells #[.string ⟨#[120]⟩, .bool true, .int .i64 0, .int .i64 0] 26, .cells #[.string ⟨#[98]⟩, .bool false, .int .i64 0, .int .i64 0] 26, .cells #[.string ⟨#[97]⟩, .bool false, .int .i64 0, .int .i64 0] 26, .cells #[.int .i64 1, .string ⟨#[118]⟩, .slice (some ⟨W.heap.size + 1 + 1 + 1 + 1 + 1 + 1 + 1, 0, none⟩) 1 1, .int .i64 0, .int .i64 5, .string ⟨#[119]⟩, .slice (some ⟨W.heap.size + 1 + 1 + 1 + 1 + 1 + 1 + 1 + 1, 0, none⟩) 1 1, .int .i64 0, .int .i64 5, .string ⟨#[117]⟩, .slice (some ⟨W.heap.size + 1 + 1 + 1 + 1 + 1 + 1 + 1 + 1 + 1, 0, none⟩) 1 1, .int .i64 0] 39] W k (List.getElem?_eq_some_iff.1 h).1).trans h
    have hb5 : Below W.heap.size W w5 := by rw [hw5]; exact below_allocs [.cells #[.slice none 0 0, .slice none 0 0, .slice none 0 0, .string ⟨#[]⟩, .string ⟨#[]⟩] 46, .cells #[.string ⟨#[120]⟩, .bool true, .int .i64 0, .int .i64 0, .string ⟨#[]⟩, .int .i64 0] 63, .cells #[.string ⟨#[120]⟩, .bool true, .int .i64 0, .int .i64 0, .string ⟨#[]⟩, .int .i64 0, .string ⟨#[98]⟩, .bool false, .int .i64 0, .int .i64 0, .string ⟨#[]⟩, .int .i64 0, .string ⟨#[120]⟩, .bool true, .int .i64 0, .int .i64 0, .string ⟨#[]⟩, .int .i64 0, .string ⟨#[]⟩, .bool false, .int .i64 0, .int .i64 0, .string C, .int .i64 70] 63, .cells #[.slice (some ⟨W.heap.size + 1 + 1, 0, none⟩) 4 4, .string ⟨#[]⟩, .bool false, .int .i64 0, .int .i64 0, .int .i64 0] 28, .cells #[.slice none 0 0, .string ⟨#[]⟩, .bool false, .int .i64 0, .int .i64 0, .int .i64 0] 28, .cells #[.string ⟨#[97]⟩, .slice (some ⟨W.heap.size + 1 + 1 + 1, 0, none⟩) 1 1, .int .i64 0, .string ⟨#[98]⟩, .slice (some ⟨W.heap.size + 1 + 1 + 1 + 1, 0, none⟩) 1 1, .int .i64 0] 31, .cells #[.string ⟨#[]⟩, .slice (some ⟨W.heap.size + 1 + 1 + 1 + 1 + 1 + 1 + 1 + 1 + 1 + 1, 0, none⟩) 3 3, .slice (some ⟨W.heap.size + 1 + 1 + 1 + 1 + 1, 0, none⟩) 2 2, .string ⟨#[]⟩] 35, .cells #[.string ⟨#[120]⟩, .bool true, .int .i64 0, .int .i64 0] 26, .cells #[.string ⟨#[98]⟩, .bool false, .int .i64 0, .int .i64 0] 26, .cells #[.string ⟨#[97]⟩, .bool false, .int .i64 0, .int .i64 0] 26, .cells #[.int .i64 1, .string ⟨#[118]⟩, .slice (some ⟨W.heap.size + 1 + 1 + 1 + 1 + 1 + 1 + 1, 0, none⟩) 1 1, .int .i64 0, .int .i64 5, .string ⟨#[119]⟩, .slice (some ⟨W.heap.size + 1 + 1 + 1 + 1 + 1 + 1 + 1 + 1, 0, none⟩) 1 1, .int .i64 0, .int .i64 5, .string ⟨#[117]⟩, .slice (some ⟨W.heap.size + 1 + 1 + 1 + 1 + 1 + 1 + 1 + 1 + 1, 0, none⟩) 1 1, .int .i64 0] 39] W
    have hCe : C = ⟨(123 :: l).toArray⟩ := HC.out
    have hrul : RulesAt w5 (.slice (some ⟨W.heap.size + 1 + 1 + 1 + 1 + 1, 0, none⟩) 2 2) (Sp.oneSrc (123 :: l) true).rules := by
      refine ⟨fun i => if i = 0 then .slice (some ⟨W.heap.size + 1 + 1 + 1, 0, none⟩) 1 1 else .slice (some ⟨W.heap.size + 1 + 1 + 1 + 1, 0, none⟩) 1 1, slAt_block _ 3 (fun r hr => by simp [Sp.oneSrc, ruleC] at hr; rcases hr with rfl | rfl <;> rfl) (hH 5 _ rfl) (by simp [Sp.oneSrc, maxLen]), fun i r hr => ?_⟩
      rcases i with _ | _ | i
      · simp [Sp.oneSrc] at hr; subst hr
        refine ⟨fun _ => .slice (some ⟨W.heap.size + 1 + 1, 0, none⟩) 4 4, slAt_block _ 6 (fun r hr => by simp [altC] at hr; subst hr; rfl) (hH 3 _ rfl) (by simp [maxLen]), fun j a ha => ?_⟩
        rcases j with _ | j
        · simp at ha; subst ha
          refine slAt_block (e := 63) ([Sp.symPart Sp.symX, Sp.symPart ⟨[98], false, 0, 0⟩, Sp.symPart Sp.symX, Sp.codePart (123 :: l) 70].map partC) 6 (fun r hr => by obtain ⟨q, _, rfl⟩ := List.mem_map.1 hr; rfl) ?_ (by simp [maxLen])
          have h2 := hH 2 _ rfl
          rw [hCe] at h2
          exact h2
        · simp at ha
      · simp [Sp.oneSrc] at hr; subst hr
        refine ⟨fun _ => .slice none 0 0, slAt_block _ 6 (fun r hr => by simp [altC] at hr; subst hr; rfl) (hH 4 _ rfl) (by simp [maxLen]), fun j a ha => ?_⟩
        rcases j with _ | j
        · simp at ha; subst ha
          exact .inl ⟨rfl, none, 0, rfl⟩
        · simp at ha
      · simp [Sp.oneSrc] at hr
    have hdec : DeclsAt w5 (.slice (some ⟨W.heap.size + 1 + 1 + 1 + 1 + 1 + 1 + 1 + 1 + 1 + 1, 0, none⟩) 3 3) (Sp.oneSrc (123 :: l) true).decls := by
      refine ⟨fun i => if i = 0 then .slice (some ⟨W.heap.size + 1 + 1 + 1 + 1 + 1 + 1 + 1, 0, none⟩) 1 1 else if i = 1 then .slice (some ⟨W.heap.size + 1 + 1 + 1 + 1 + 1 + 1 + 1 + 1, 0, none⟩) 1 1 else .slice (some ⟨W.heap.size + 1 + 1 + 1 + 1 + 1 + 1 + 1 + 1 + 1, 0, none⟩) 1 1, slAt_block _ 4 (fun r hr => by simp [Sp.oneSrc, declC] at hr; rcases hr with rfl | rfl | rfl <;> rfl) (hH 10 _ rfl) (by simp [Sp.oneSrc, maxLen]), fun i d hd => ?_⟩
      rcases i with _ | _ | _ | i
      · simp [Sp.oneSrc] at hd; subst hd; exact slAt_block [symC Sp.symX] 4 (fun r hr => by simp at hr; subst hr; rfl) (hH 7 _ rfl) (by simp [maxLen])
      · simp [Sp.oneSrc] at hd; subst hd; exact slAt_block [symC ⟨[98], false, 0, 0⟩] 4 (fun r hr => by simp at hr; subst hr; rfl) (hH 8 _ rfl) (by simp [maxLen])
      · simp [Sp.oneSrc] at hd; subst hd; exact slAt_block [symC ⟨[97], false, 0, 0⟩] 4 (fun r hr => by simp at hr; subst hr; rfl) (hH 9 _ rfl) (by simp [maxLen])
      · simp [Sp.oneSrc] at hd
    have hG := hH 0 _ rfl
    have hS : w5.heap[W.heap.size + 1 + 1 + 1 + 1 + 1 + 1]? = _ := hH 6 _ rfl
    have HGR := Lib.hid (show Calls Tryd.prog 16 #[.agg #[.string ⟨#[]⟩, .slice (some ⟨W.heap.size + 1 + 1 + 1 + 1 + 1 + 1 + 1 + 1 + 1 + 1, 0, none⟩) 3 3, .slice (some ⟨W.heap.size + 1 + 1 + 1 + 1 + 1, 0, none⟩) 2 2, .string ⟨#[]⟩]] w5 (fun e w' => Below w5.heap.size w5 w' ∧ ∃ gv, e = .returned (.tuple #[gv, .bool true]) ∧ GramOwn w' gv (Sp.oneGram (123 :: l) true)) from by
      have h := ref16_Grammar (Sp.oneSrc (123 :: l) true) _ _ w5 hdec hrul (one_small hl true) (Sp.one_inner l true)
      rw [Sp.one_gram l true HE.out] at h
      exact h)
    have HG5 := Lib.hid hG; have HB5 := Lib.hid hb5
    have s0 := cell_at (i := 0) hS; have s1 := cell_at (i := 1) hS; have s2 := cell_at (i := 2) hS; have s3 := cell_at (i := 3) hS
    have ls := lt_at hS
    clear hH hb5 hrul hdec hG hS hCe
    go_enter Tryd.func14, Tryd.ntmps14
    go_upto_region 5 with fail
    rw [← hw5]
    clear hw5
    go_wp2_with fail
    refine HGR.out.mono ?_
    rintro e w6 ⟨hb6, gv, rfl, hgo⟩
    have hgo2 := hgo
    obtain ⟨B6, ta, tc, na, nc, pa, pc, rfl, _⟩ := hgo
    have hg6 := (hb6.block _ (lt_at HG5.out)).trans HG5.out
    rw [Nat.add_zero] at hg6
    have HG6 := Lib.hid hg6; have HGO := Lib.hid hgo2; have HB6 := Lib.hid (HB5.out.trans (hb6.mono HB5.out.size))
    have b0 := cell_at (i := 0) hg6; have b1 := cell_at (i := 1) hg6; have b2 := cell_at (i := 2) hg6; have b3 := cell_at (i := 3) hg6; have b4 := cell_at (i := 4) hg6
    have z0 := frozen_at (i := 0) hg6; have z1 := frozen_at (i := 1) hg6; have z2 := frozen_at (i := 2) hg6; have z3 := frozen_at (i := 3) hg6; have z4 := frozen_at (i := 4) hg6
    have lg := lt_at hg6
    have hsz6 : W.heap.size + 2 ≤ w6.heap.size := by have := hb6.size; omega
    have HSZ6 := Lib.hid hsz6
    clear hsz6 hb6 hgo2 hg6 HGR s0 s1 s2 s3 ls
    go_wp2_with fail
    refine ret_cell_tmp1 (g := W.heap.size) rfl rfl (heap_setCell_at (heap_setCell_at (heap_setCell_at (heap_setCell_at (heap_setCell_at HG6.out))))) rfl Tryd.underlying46 (by kernel_rfl) rfl ?_
    refine ⟨HB6.out.trans ((((((Below.refl _ w6).setCell (by simp) _).setCell (by simp) _).setCell (by simp) _).setCell (by simp) _).setCell (by simp) _), by simp only [World.size_setCell]; exact HSZ6.out, _, rfl, HGO.out.kp HG6.out ?_⟩
    exact (((((Kp.refl _ w6).setCell (by simp) _).setCell (by simp) _).setCell (by simp) _).setCell (by simp) _).setCell (by simp) _
end Go.Proofs.YtddnomjfcbplpaaDoor
