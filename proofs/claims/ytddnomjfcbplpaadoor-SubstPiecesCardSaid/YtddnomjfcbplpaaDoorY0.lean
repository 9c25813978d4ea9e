/- Fa SpE SpF SpH Fb Oh Oi Gt -/
import Derived.Test.YtddnomjfcbplpaaDoorZ00
import Derived.Test.YtddnomjfcbplpaaDoorZ01
import Derived.Test.YtddnomjfcbplpaaDoorZ02
import Derived.Test.YtddnomjfcbplpaaDoorZ03
import Derived.Test.YtddnomjfcbplpaaDoorZ04
import Derived.Test.YtddnomjfcbplpaaDoorZ05
import Derived.Test.YtddnomjfcbplpaaDoorZ06
import Derived.Test.YtddnomjfcbplpaaDoorZ07
import Derived.Test.YtddnomjfcbplpaaDoorZ08
import Derived.Test.YtddnomjfcbplpaaDoorZ09
import Derived.Test.YtddnomjfcbplpaaDoorZ10
import Derived.Test.YtddnomjfcbplpaaDoorZ11
import Derived.Test.YtddnomjfcbplpaaDoorZ12
import Derived.Test.YtddnomjfcbplpaaDoorZ13
import Derived.Test.YtddnomjfcbplpaaDoorZ14
import Derived.Test.YtddnomjfcbplpaaDoorZ15
import Derived.Test.YtddnomjfcbplpaaDoorZ16
import Derived.Test.YtddnomjfcbplpaaDoorZ17
import Derived.Test.YtddnomjfcbplpaaDoorZ18
import Derived.Test.YtddnomjfcbplpaaDoorZ19
import Derived.Test.YtddnomjfcbplpaaDoorZ20
import Derived.Test.YtddnomjfcbplpaaDoorZ21
import Derived.Test.YtddnomjfcbplpaaDoorZ22
import Derived.Test.YtddnomjfcbplpaaDoorZ23
import Derived.Test.YtddnomjfcbplpaaDoorZ24
import Derived.Test.YtddnomjfcbplpaaDoorZ25
import Derived.Test.YtddnomjfcbplpaaDoorCards
import Derived.Test.YtddnomjfcbplpaaDoorTie
import Derived.WalkKit
import Derived.ProofKit
import Derived.OpenShut
import Derived.ShutString
import Derived.ChangeOld
import Derived.Below
import Derived.Deep.DeepHandedRow
import Derived.Lib.LaidTab
import Derived.Stop.LaidErr
import Derived.Deep.Slices
import Derived.Deep.Fields
import Derived.ChangeSame
import Derived.KernelRfl
/- The frame that the laws share: the program's own knobs, the library's variables out of a row's list, a world for the witness. -/
namespace Go.Proofs.YtddnomjfcbplpaaDoor
open Go.ChangeShapes Go.WideShapes Go.ChangeAt Go.RowKit
open Go.ChangeMaps (open_string shut_string)

theorem laidOut : laidOutB Tryd.prog = true := by kernel_rfl

/-! ### A world for the witness -/
end Go.Proofs.YtddnomjfcbplpaaDoor

/- Plain laws: a dollar with digits between braces is cut into three pieces, or refused. No program in sight. -/
namespace Go.Proofs.YtddnomjfcbplpaaDoor
namespace Sp
open Go.Lib (index indexByte hasPrefix decDigits decFrom digitVal)

theorem inner_plain {c : UInt8} (h : inner c = true) : plain c = true := by unfold inner at h; simp at h; exact h.1.1
theorem cutGo_skip {f : Nat} {pend t : List UInt8} {c : UInt8} (h : plain c = true) (hc : ((c.toNat : Int) == 36) = false) : cutGo (f + 1) pend (c :: t) = cutGo f (pend ++ [c]) t := by
  show (match passLen (c :: t) with
    | none => none
    | some (n + 1) => cutGo f (pend ++ (c :: t).take (n + 1)) ((c :: t).drop (n + 1))
    | some 0 =>
      if ((c.toNat : Int) == 36) = true then
        if ((dollar t).2.2 != 0) = true then none
        else if 0 < (dollar t).2.1 then (cutGo f [] ((c :: t).drop (dollar t).2.1)).map (flush pend ++ (dollar t).1 :: ·)
        else cutGo f (pend ++ [c]) t
      else cutGo f (pend ++ [c]) t) = _
  rw [plain_pass t h]
  simp only [hc, Bool.false_eq_true, if_false]
theorem cutGo_dollar {f : Nat} {pend t : List UInt8} : cutGo (f + 1) pend (36 :: t) =
    if ((dollar t).2.2 != 0) = true then none
    else if 0 < (dollar t).2.1 then (cutGo f [] ((36 :: t).drop (dollar t).2.1)).map (flush pend ++ (dollar t).1 :: ·)
    else cutGo f (pend ++ [36]) t := by
  show (match passLen (36 :: t) with
    | none => none
    | some (n + 1) => cutGo f (pend ++ (36 :: t).take (n + 1)) ((36 :: t).drop (n + 1))
    | some 0 =>
      if ((((36 : UInt8).toNat : Int)) == 36) = true then
        if ((dollar t).2.2 != 0) = true then none
        else if 0 < (dollar t).2.1 then (cutGo f [] ((36 :: t).drop (dollar t).2.1)).map (flush pend ++ (dollar t).1 :: ·)
        else cutGo f (pend ++ [36]) t
      else cutGo f (pend ++ [36]) t) = _
  rw [plain_pass t (c := 36) (by decide)]
  rfl

/-! ### Numerals -/
end Sp
end Go.Proofs.YtddnomjfcbplpaaDoor

/- Plain laws: within quotes and remarks nothing is looked at. No program in sight. -/
namespace Go.Proofs.YtddnomjfcbplpaaDoor
namespace Sp
open Go.Lib (index indexByte hasPrefix)

theorem endGo_pass {f n : Nat} {d : Int} {P R : List UInt8} (hP : P.length = n + 1) (hp : passLen (P ++ R) = some (n + 1)) : endGo (f + 1) d (P ++ R) = (endGo f d R).map (· + (n + 1)) := by
  cases P with
  | nil => simp at hP
  | cons c t =>
    show endGo (f + 1) d (c :: (t ++ R)) = _
    conv => lhs; unfold endGo
    rw [show c :: (t ++ R) = (c :: t) ++ R from rfl, hp]
    simp only
    rw [List.drop_left' hP]
end Sp
end Go.Proofs.YtddnomjfcbplpaaDoor

/- Plain laws: the form of a dollar's piece, and its text. No program in sight. -/
namespace Go.Proofs.YtddnomjfcbplpaaDoor
namespace Sp
open Go.Lib (index indexByte hasPrefix decDigits decFrom digitVal)

/-! ### Fuel -/
theorem endGo_zero {f : Nat} {d : Int} {c : UInt8} {t : List UInt8} (hp : passLen (c :: t) = some 0) : endGo (f + 1) d (c :: t) =
    if ((if ((c.toNat : Int) == 123) = true then d + 1 else if ((c.toNat : Int) == 125) = true then d - 1 else d) == 0) = true then some 1
      else (endGo f (if ((c.toNat : Int) == 123) = true then d + 1 else if ((c.toNat : Int) == 125) = true then d - 1 else d) t).map (· + 1) := by
  conv => lhs; unfold endGo
  rw [hp]
theorem inner_step {f : Nat} {d : Int} {c : UInt8} {t : List UInt8} (hc : inner c = true) : endGo (f + 1) d (c :: t) = if (d == 0) = true then some 1 else (endGo f d t).map (· + 1) := by
  rw [endGo_zero (plain_pass t (inner_plain hc))]
  unfold inner at hc
  simp only [Bool.and_eq_true, Bool.not_eq_true'] at hc
  simp only [hc.1.2, hc.2, Bool.false_eq_true, if_false]
/-- Over bytes that open and close nothing. -/
theorem endGo_chunk : ∀ (Y : List UInt8) (f : Nat) (d : Int) (R : List UInt8), (∀ c ∈ Y, inner c = true) → d ≠ 0 → endGo (f + Y.length) d (Y ++ R) = (endGo f d R).map (· + Y.length)
  | [], f, d, R, _, _ => by simp
  | c :: t, f, d, R, h, hd => by
    show endGo (f + t.length + 1) d (c :: (t ++ R)) = _
    rw [inner_step (h c (by simp)), if_neg (by simpa using hd), endGo_chunk t f d R (fun x hx => h x (by simp [hx])) hd]
    cases endGo f d R with
    | none => rfl
    | some m => simp; omega
/-! ### Numerals -/
end Sp
end Go.Proofs.YtddnomjfcbplpaaDoor

/- An argument that is a slice of pieces, opened to the cells that the walks read. -/
namespace Go.Proofs.YtddnomjfcbplpaaDoor
open Go.ChangeShapes Go.WideShapes Go.Deep Go.RowKit

theorem lt_at_cell {w : World} {a : Addr} {v : Value} (h : w.cell? a = some v) : a.block < w.heap.size := by
  rcases Nat.lt_or_ge a.block w.heap.size with h' | h'
  · exact h'
  · unfold World.cell? at h
    simp [Array.getElem?_eq_none h'] at h
end Go.Proofs.YtddnomjfcbplpaaDoor

/- Plain law of SubstPieces: pieces of a text that stand for names. No program in sight. -/
namespace Go.Proofs.YtddnomjfcbplpaaDoor
namespace Sp
open Go.Lib (index indexByte hasPrefix)

def pcC : Nat → List UInt8
  | 0 => [32, 97, 32]
  | 1 => [36, 36]
  | 2 => [36, 49]
  | 3 => [36, 50]
  | 4 => [36, 51]
  | 5 => [36, 60, 110, 62, 36]
  | 6 => [36, 60, 110, 62, 51]
  | 7 => [34, 36, 57, 34]
  | 8 => [47, 42, 32, 36, 36, 32, 42, 47]
  | 9 => [36, 120]
  | _ => [36, 48, 48, 51]
def pcT : Nat → List UInt8
  | 0 => [32, 97, 32]
  | 1 => [121, 121, 86, 65, 76]
  | 2 => [121, 121, 68, 111, 108, 108, 97, 114, 91, 49, 93]
  | 3 => [121, 121, 68, 111, 108, 108, 97, 114, 91, 50, 93]
  | 4 => [121, 121, 68, 111, 108, 108, 97, 114, 91, 51, 93]
  | 5 => [121, 121, 86, 65, 76, 46, 110]
  | 6 => [121, 121, 68, 111, 108, 108, 97, 114, 91, 51, 93, 46, 110]
  | 7 => [34, 36, 57, 34]
  | 8 => [47, 42, 32, 36, 36, 32, 42, 47]
  | 9 => [36, 120]
  | _ => [121, 121, 68, 111, 108, 108, 97, 114, 91, 51, 93]
def pcO : Nat → List UInt8
  | 1 => [46, 117]
  | 2 => [46, 118]
  | 3 => [46, 119]
  | 4 => [46, 118]
  | 10 => [46, 118]
  | _ => []
/-- What a piece comes to. -/
def pcW (tags : Bool) (k : Nat) : List UInt8 := pcT k ++ (if tags = true then pcO k else [])
def pcBody (ks : List Nat) : List UInt8 := ks.flatMap fun k => pcC k ++ [59]
def pcBodyW (tags : Bool) (ks : List Nat) : List UInt8 := ks.flatMap fun k => pcW tags k ++ [59]
def pcProd1 (code : List UInt8) : Prod := ⟨1, [3, 1002, 3], 3, code, [3, 1002, 3], 70⟩

/-- A piece that stays, or one that stands for a name. -/
def PcPiece1 (code : List UInt8) (tags : Bool) (k : Nat) (R : List UInt8) : Prop :=
  ∃ s, 1 ≤ s ∧ s ≤ (pcC k).length + 1 ∧
    ((pcW tags k = pcC k ∧ ∀ f pend, cutGo (f + s) pend (pcC k ++ 59 :: R) = cutGo f (pend ++ (pcC k ++ [59])) R) ∨
     (∃ p : Piece, (∀ f pend, cutGo (f + s) pend (pcC k ++ 59 :: R) = (cutGo f [59] R).map (flush pend ++ p :: ·)) ∧
       ∀ l acc, subGo (oneGram code tags) (pcProd1 code) (p :: l) acc = subGo (oneGram code tags) (pcProd1 code) l (acc ++ pcW tags k)))
theorem dol_step {f : Nat} {pend t : List UInt8} {p : Piece} {n : Nat} {R : List UInt8} (hd : dollar t = (p, n, 0)) (hn : 0 < n) (hr : (36 :: t).drop n = 59 :: R) :
    cutGo (f + 2) pend (36 :: t) = (cutGo f [59] R).map (flush pend ++ p :: ·) := by
  rw [cutGo_dollar, hd, if_neg (by simp), if_pos hn]
  simp only [hr]
  rw [cutGo_skip (by decide) (by decide)]
  rfl
theorem pcPiece1 (code : List UInt8) (tags : Bool) (R : List UInt8) : ∀ k ≤ 10, PcPiece1 code tags k R := by
  intro k hk
  have h3 : k = 0 ∨ k = 1 ∨ k = 2 ∨ k = 3 ∨ k = 4 ∨ k = 5 ∨ k = 6 ∨ k = 7 ∨ k = 8 ∨ k = 9 ∨ k = 10 := by omega
  rcases h3 with rfl | rfl | rfl | rfl | rfl | rfl | rfl | rfl | rfl | rfl | rfl
  · refine ⟨4, by omega, by decide, .inl ⟨by cases tags <;> rfl, fun f pend => ?_⟩⟩
    show cutGo (f + 4) pend (32 :: 97 :: 32 :: 59 :: R) = _
    rw [cutGo_skip (by decide) (by decide), cutGo_skip (by decide) (by decide), cutGo_skip (by decide) (by decide), cutGo_skip (by decide) (by decide)]
    simp [pcC]
  · exact ⟨2, by omega, by decide, .inr ⟨⟨2, [], 0, []⟩, fun f pend => dol_step (t := 36 :: 59 :: R) (n := 2) (by kernel_rfl) (by omega) rfl, fun l acc => by rw [subGo_whole _ _ _ _ _ rfl]; cases tags <;> rfl⟩⟩
  · exact ⟨2, by omega, by decide, .inr ⟨⟨3, [], 1, []⟩, fun f pend => dol_step (t := 49 :: 59 :: R) (n := 2) (by kernel_rfl) (by omega) rfl, fun l acc => by rw [subGo_part _ _ _ _ _ rfl (by simp) (by simp [pcProd1])]; cases tags <;> kernel_rfl⟩⟩
  · exact ⟨2, by omega, by decide, .inr ⟨⟨3, [], 2, []⟩, fun f pend => dol_step (t := 50 :: 59 :: R) (n := 2) (by kernel_rfl) (by omega) rfl, fun l acc => by rw [subGo_part _ _ _ _ _ rfl (by simp) (by simp [pcProd1])]; cases tags <;> kernel_rfl⟩⟩
  · exact ⟨2, by omega, by decide, .inr ⟨⟨3, [], 3, []⟩, fun f pend => dol_step (t := 51 :: 59 :: R) (n := 2) (by kernel_rfl) (by omega) rfl, fun l acc => by rw [subGo_part _ _ _ _ _ rfl (by simp) (by simp [pcProd1])]; cases tags <;> kernel_rfl⟩⟩
  · exact ⟨2, by omega, by decide, .inr ⟨⟨2, [], 0, [110]⟩, fun f pend => dol_step (t := 60 :: 110 :: 62 :: 36 :: 59 :: R) (n := 5) (by kernel_rfl) (by omega) rfl, fun l acc => by rw [subGo_whole _ _ _ _ _ rfl]; cases tags <;> rfl⟩⟩
  · exact ⟨2, by omega, by decide, .inr ⟨⟨3, [], 3, [110]⟩, fun f pend => dol_step (t := 60 :: 110 :: 62 :: 51 :: 59 :: R) (n := 5) (by kernel_rfl) (by omega) rfl, fun l acc => by rw [subGo_part _ _ _ _ _ rfl (by simp) (by simp [pcProd1])]; cases tags <;> kernel_rfl⟩⟩
  · refine ⟨2, by omega, by decide, .inl ⟨by cases tags <;> rfl, fun f pend => ?_⟩⟩
    show cutGo ((f + 1) + 1) pend ([34, 36, 57, 34] ++ 59 :: R) = _
    rw [cutGo_pass (n := 3) (P := [34, 36, 57, 34]) (R := 59 :: R) rfl (by kernel_rfl), cutGo_skip (by decide) (by decide)]
    simp [pcC]
  · refine ⟨2, by omega, by decide, .inl ⟨by cases tags <;> rfl, fun f pend => ?_⟩⟩
    show cutGo ((f + 1) + 1) pend ([47, 42, 32, 36, 36, 32, 42, 47] ++ 59 :: R) = _
    rw [cutGo_pass (n := 7) (P := [47, 42, 32, 36, 36, 32, 42, 47]) (R := 59 :: R) rfl (by kernel_rfl), cutGo_skip (by decide) (by decide)]
    simp [pcC]
  · refine ⟨3, by omega, by decide, .inl ⟨by cases tags <;> rfl, fun f pend => ?_⟩⟩
    show cutGo (f + 3) pend (36 :: 120 :: 59 :: R) = _
    rw [cutGo_dollar, show dollar (120 :: 59 :: R) = (nil, 0, 0) from by kernel_rfl, if_neg (by simp), if_neg (by simp), cutGo_skip (by decide) (by decide), cutGo_skip (by decide) (by decide)]
    simp [pcC]
  · exact ⟨2, by omega, by decide, .inr ⟨⟨3, [], 3, []⟩, fun f pend => dol_step (t := 48 :: 48 :: 51 :: 59 :: R) (n := 4) (by kernel_rfl) (by omega) rfl, fun l acc => by rw [subGo_part _ _ _ _ _ rfl (by simp) (by simp [pcProd1])]; cases tags <;> kernel_rfl⟩⟩
theorem pcBody_cons (k : Nat) (ks : List Nat) : pcBody (k :: ks) = pcC k ++ 59 :: pcBody ks := by simp [pcBody]
theorem pcBodyW_cons (tags : Bool) (k : Nat) (ks : List Nat) : pcBodyW tags (k :: ks) = pcW tags k ++ 59 :: pcBodyW tags ks := by simp [pcBodyW]
theorem sub_flush (g : Gram) (x : Prod) (pend : List UInt8) (l : List Piece) (acc : List UInt8) : subGo g x (flush pend ++ l) acc = subGo g x l (acc ++ pend) := by
  unfold flush
  split
  · rename_i h; subst h; simp
  · exact subGo_text g x _ l acc rfl
theorem pc_cut (code : List UInt8) (tags : Bool) : ∀ (ks : List Nat), (∀ k ∈ ks, k ≤ 10) → ∀ (f : Nat) (pend : List UInt8), (pcBody ks).length + 2 ≤ f →
    ∃ ps, cutGo f pend (pcBody ks ++ [125]) = some ps ∧ ∀ acc, subGo (oneGram code tags) (pcProd1 code) ps acc = .ok (acc ++ (pend ++ (pcBodyW tags ks ++ [125])))
  | [], _, f, pend, hf => by
    obtain ⟨f', rfl⟩ : ∃ f', f = f' + 2 := ⟨f - 2, by simp [pcBody] at hf; omega⟩
    refine ⟨flush (pend ++ [125]), ?_, fun acc => ?_⟩
    · show cutGo (f' + 2) pend [125] = _
      rw [cutGo_skip (by decide) (by decide)]
      rfl
    · have h := sub_flush (oneGram code tags) (pcProd1 code) (pend ++ [125]) [] acc
      rw [List.append_nil] at h
      rw [h]
      simp [subGo, pcBodyW]
  | k :: ks, hk, f, pend, hf => by
    obtain ⟨s, hs1, hs2, h⟩ := pcPiece1 code tags (pcBody ks ++ [125]) k (hk k (by simp))
    rw [pcBody_cons, List.length_append, List.length_cons] at hf
    obtain ⟨f', rfl⟩ : ∃ f', f = f' + s := ⟨f - s, by omega⟩
    have hb : pcBody (k :: ks) ++ [125] = pcC k ++ 59 :: (pcBody ks ++ [125]) := by rw [pcBody_cons]; simp
    rw [hb, pcBodyW_cons]
    rcases h with ⟨hw, hc⟩ | ⟨p, hc, hp⟩
    · obtain ⟨ps, h1, h2⟩ := pc_cut code tags ks (fun j hj => hk j (by simp [hj])) f' (pend ++ (pcC k ++ [59])) (by omega)
      refine ⟨ps, by rw [hc]; exact h1, fun acc => ?_⟩
      rw [h2, hw]
      simp
    · obtain ⟨ps, h1, h2⟩ := pc_cut code tags ks (fun j hj => hk j (by simp [hj])) f' [59] (by omega)
      refine ⟨flush pend ++ p :: ps, by rw [hc, h1]; rfl, fun acc => ?_⟩
      rw [sub_flush, hp, h2]
      simp
theorem pc_inner (k : Nat) (h7 : k ≠ 7) (h8 : k ≠ 8) (hk : k ≤ 10) : ∀ c ∈ pcC k ++ [59], inner c = true := by
  have h3 : k = 0 ∨ k = 1 ∨ k = 2 ∨ k = 3 ∨ k = 4 ∨ k = 5 ∨ k = 6 ∨ k = 9 ∨ k = 10 := by omega
  rcases h3 with rfl | rfl | rfl | rfl | rfl | rfl | rfl | rfl | rfl <;> decide
theorem pc_end : ∀ (ks : List Nat), (∀ k ∈ ks, k ≤ 10) → ∀ f, (pcBody ks).length + 2 ≤ f → endGo f 1 (pcBody ks ++ [125]) = some ((pcBody ks).length + 1)
  | [], _, f, hf => by
    obtain ⟨f', rfl⟩ : ∃ f', f = f' + 1 := ⟨f - 1, by omega⟩
    rfl
  | k :: ks, hk, f, hf => by
    have hb : pcBody (k :: ks) ++ [125] = (pcC k ++ [59]) ++ (pcBody ks ++ [125]) := by rw [pcBody_cons]; simp
    have hl : (pcBody (k :: ks)).length = (pcC k ++ [59]).length + (pcBody ks).length := by rw [pcBody_cons]; simp; omega
    rw [hb]
    rw [hl] at hf ⊢
    have ih := pc_end ks (fun j hj => hk j (by simp [hj]))
    by_cases h7 : k = 7
    · subst h7
      obtain ⟨f', rfl⟩ : ∃ f', f = (f' + 1) + 1 := ⟨f - 2, by omega⟩
      rw [show (pcC 7 ++ [59]) ++ (pcBody ks ++ [125]) = [34, 36, 57, 34] ++ (59 :: (pcBody ks ++ [125])) from rfl, endGo_pass (n := 3) rfl (by kernel_rfl), inner_step (by decide), if_neg (by decide), ih f' (by simp [pcC] at hf; omega)]
      simp [pcC]; omega
    · by_cases h8 : k = 8
      · subst h8
        obtain ⟨f', rfl⟩ : ∃ f', f = (f' + 1) + 1 := ⟨f - 2, by omega⟩
        rw [show (pcC 8 ++ [59]) ++ (pcBody ks ++ [125]) = [47, 42, 32, 36, 36, 32, 42, 47] ++ (59 :: (pcBody ks ++ [125])) from rfl, endGo_pass (n := 7) rfl (by kernel_rfl), inner_step (by decide), if_neg (by decide), ih f' (by simp [pcC] at hf; omega)]
        simp [pcC]; omega
      · obtain ⟨f', rfl⟩ : ∃ f', f = f' + (pcC k ++ [59]).length := ⟨f - (pcC k ++ [59]).length, by omega⟩
        rw [endGo_chunk _ _ _ _ (pc_inner k h7 h8 (hk k (by simp))) (by decide), ih f' (by omega)]
        simp; omega
/-- The code of pieces. -/
def pcCode (ks : List Nat) : List UInt8 := 123 :: (pcBody ks ++ [125])
theorem pcCode_end (ks : List Nat) (hk : ∀ k ∈ ks, k ≤ 10) : endAt (pcCode ks) 0 = ((pcCode ks).length : Int) := by
  unfold endAt
  rw [if_pos ⟨Int.le_refl _, by simp [pcCode]; omega⟩]
  simp only [Int.toNat_zero, List.drop_zero]
  have e : endLen (pcCode ks) = endGo ((pcCode ks).length + 1) 0 (pcCode ks) := rfl
  rw [e]
  unfold pcCode
  rw [endGo_zero (plain_pass _ (by decide))]
  rw [if_neg (by decide), show (if ((((123 : UInt8).toNat : Int)) == 123) = true then (0 : Int) + 1 else if ((((123 : UInt8).toNat : Int)) == 125) = true then 0 - 1 else 0) = 1 by decide, pc_end ks hk _ (by simp)]
  simp [place]
theorem pcCode_body (ks : List Nat) (tags : Bool) (hk : ∀ k ∈ ks, k ≤ 10) : subBody (oneGram (pcCode ks) tags) 1 = (123 :: (pcBodyW tags ks ++ [125]), ⟨0, 0, []⟩) := by
  obtain ⟨ps, h1, h2⟩ := pc_cut (pcCode ks) tags ks hk ((pcBody ks ++ [125]).length + 1) [123] (by simp)
  have hc : cut (pcCode ks) = (ps, 0) := by
    unfold cut
    rw [if_neg (fun h => by rcases h with h | h; exact absurd h (by simp [pcCode]); exact h (pcCode_end ks hk))]
    have : cutGo ((pcCode ks).length + 1) [] (pcCode ks) = some ps := by
      unfold pcCode
      rw [cutGo_skip (by decide) (by decide)]
      exact h1
    rw [this]
    rfl
  show subProd (oneGram (pcCode ks) tags) (pcProd1 (pcCode ks)) = _
  unfold subProd
  rw [if_neg (by simp [pcProd1, pcCode])]
  show (if (cut (pcCode ks)).2 ≠ 0 then _ else _) = _
  rw [hc, if_neg (by simp)]
  show subRes 70 (subGo (oneGram (pcCode ks) tags) (pcProd1 (pcCode ks)) (cut (pcCode ks)).1 []) = _
  rw [hc, h2]
  simp [subRes]
theorem pcCode_len (ks : List Nat) (hk : ks.length ≤ 30) : (pcCode ks).length ≤ 300 ∧ ∀ t, (pcBodyW t ks).length ≤ 600 := by
  have h1 : ∀ (ks : List Nat), (pcBody ks).length ≤ 9 * ks.length ∧ ∀ t, (pcBodyW t ks).length ≤ 16 * ks.length := by
    intro ks
    induction ks with
    | nil => simp [pcBody, pcBodyW]
    | cons k ks ih =>
      have hc : (pcC k).length ≤ 8 := by unfold pcC; split <;> simp
      have hw : ∀ t, (pcW t k).length ≤ 15 := by
        intro t
        have h1 : (pcT k).length ≤ 13 := by unfold pcT; split <;> simp
        have h2 : (pcO k).length ≤ 2 := by unfold pcO; split <;> simp
        unfold pcW
        rw [List.length_append]
        split <;> simp <;> omega
      refine ⟨?_, fun t => ?_⟩
      · rw [pcBody_cons, List.length_append, List.length_cons, List.length_cons]; omega
      · rw [pcBodyW_cons, List.length_append, List.length_cons, List.length_cons]
        have := hw t
        have := ih.2 t
        omega
  have h2 := h1 ks
  refine ⟨by simp only [pcCode, List.length_cons, List.length_append, List.length_nil]; omega, fun t => by have := h2.2 t; omega⟩
end Sp
end Go.Proofs.YtddnomjfcbplpaaDoor

/- SubstPieces: the walk. -/
namespace Go.Proofs.YtddnomjfcbplpaaDoor
open Go.RowKit Go.Maps

theorem gl4_of_gl2 {w : World} (h : Gl w) : Gl4 w := ⟨h.1, by have := h.2.1; omega, h.2.2⟩
theorem bodyC_snoc (ks : List Nat) (j : Nat) : 123 :: Sp.pcBody (ks ++ [j]) = (123 :: Sp.pcBody ks) ++ Sp.pcC j ++ [59] := by simp [Sp.pcBody]
theorem bodyW_snoc (tags : Bool) (ks : List Nat) (j : Nat) : 123 :: Sp.pcBodyW tags (ks ++ [j]) = (123 :: Sp.pcBodyW tags ks) ++ Sp.pcT j ++ (if tags = true then Sp.pcO j else []) ++ [59] := by simp [Sp.pcBodyW, Sp.pcW]
theorem bcat (a b : List UInt8) : (⟨a.toArray⟩ : ByteArray) ++ (⟨b.toArray⟩ : ByteArray) = ⟨(a ++ b).toArray⟩ := by
  apply ByteArray.ext
  rw [ByteArray.data_append]
  simp
theorem ten_cases {p : Nat → Prop} (h : p 0 ∧ p 1 ∧ p 2 ∧ p 3 ∧ p 4 ∧ p 5 ∧ p 6 ∧ p 7 ∧ p 8 ∧ p 9 ∧ p 10) : ∀ j ≤ 10, p j := by
  intro j hj
  have h3 : j = 0 ∨ j = 1 ∨ j = 2 ∨ j = 3 ∨ j = 4 ∨ j = 5 ∨ j = 6 ∨ j = 7 ∨ j = 8 ∨ j = 9 ∨ j = 10 := by omega
  rcases h3 with rfl | rfl | rfl | rfl | rfl | rfl | rfl | rfl | rfl | rfl | rfl <;> simp [h]
set_option maxRecDepth 100000 in
set_option maxHeartbeats 6400000 in
theorem law_SubstPieces (v0 : Value) (l : List Int) (tags : Bool) (W : World) (hl : IntsAt W v0 l) (hlm : l.length ≤ maxLen) (hwf : ∀ t ∈ l, (Lit.int .i64 t).wf = true) (hg : Gl4 W) :
    Calls Tryd.prog 4 #[v0, .bool tags] W fun e w' => e = .returned (.bool true) ∧ Below W.heap.size W w' := by
  unfold maxLen at hlm
  obtain ⟨la, lcap, rfl⟩ := SlAt.form hl
  rw [List.length_map] at hl ⊢
  have HG := Lib.hid hg; have HL := Lib.hid hl; have HWF := Lib.hid hwf
  have HWK := Lib.hid (wakes27 W hg)
  have hs4 : 4 ≤ W.heap.size := hg.2.1
  obtain ⟨n, hn⟩ : ∃ n, n = l.length := ⟨_, rfl⟩
  rw [← hn] at HL hlm ⊢
  have HN := Lib.hid hn
  clear hg hl hwf hn
  go_enter Tryd.func4, Tryd.ntmps4
  go_wp2_with fail
  refine HWK.out.mono ?_
  rintro e w1 ⟨rfl, hb1⟩
  go_upto_block 0 with fail
  obtain ⟨w4, hw4⟩ : ∃ w4 : World, w4 = ((w1.alloc (.cells #[.string ⟨#[32, 97, 32]⟩, .string ⟨#[36, 36]⟩, .string ⟨#[36, 49]⟩, .string ⟨#[36, 50]⟩, .string ⟨#[36, 51]⟩, .string ⟨#[36, 60, 110, 62, 36]⟩, .string ⟨#[36, 60, 110, 62, 51]⟩, .string ⟨#[34, 36, 57, 34]⟩, .string ⟨#[47, 42, 32, 36, 36, 32, 42, 47]⟩, .string ⟨#[36, 120]⟩, .string ⟨#[36, 48, 48, 51]⟩] 9)).alloc (.cells #[.string ⟨#[32, 97, 32]⟩, .string ⟨#[121, 121, 86, 65, 76]⟩, .string ⟨#[121, 121, 68, 111, 108, 108, 97, 114, 91, 49, 93]⟩, .string ⟨#[121, 121, 68, 111, 108, 108, 97, 114, 91, 50, 93]⟩, .string ⟨#[121, 121, 68, 111, 108, 108, 97, 114, 91, 51, 93]⟩, .string ⟨#[121, 121, 86, 65, 76, 46, 110]⟩, .string ⟨#[121, 121, 68, 111, 108, 108, 97, 114, 91, 51, 93, 46, 110]⟩, .string ⟨#[34, 36, 57, 34]⟩, .string ⟨#[47, 42, 32, 36, 36, 32, 42, 47]⟩, .string ⟨#[36, 120]⟩, .string ⟨#[121, 121, 68, 111, 108, 108, 97, 114, 91, 51, 93]⟩] 9)).alloc (.cells #[.string ⟨#[]⟩, .string ⟨#[46, 117]⟩, .string ⟨#[46, 118]⟩, .string ⟨#[46, 119]⟩, .string ⟨#[46, 118]⟩, .string ⟨#[]⟩, .string ⟨#[]⟩, .string ⟨#[]⟩, .string ⟨#[]⟩, .string ⟨#[]⟩, .string ⟨#[46, 118]⟩] 9) := ⟨_, rfl⟩
  rw [← hw4]
  have hb4 : Below w1.heap.size w1 w4 := by rw [hw4]; exact (((Below.refl _ w1).alloc (Nat.le_refl _) _).alloc (by simp) _).alloc (by simp; omega) _
  have h40 : w4.heap[w1.heap.size]? = some (.cells #[.string ⟨#[32, 97, 32]⟩, .string ⟨#[36, 36]⟩, .string ⟨#[36, 49]⟩, .string ⟨#[36, 50]⟩, .string ⟨#[36, 51]⟩, .string ⟨#[36, 60, 110, 62, 36]⟩, .string ⟨#[36, 60, 110, 62, 51]⟩, .string ⟨#[34, 36, 57, 34]⟩, .string ⟨#[47, 42, 32, 36, 36, 32, 42, 47]⟩, .string ⟨#[36, 120]⟩, .string ⟨#[36, 48, 48, 51]⟩] 9) := by rw [hw4]; exact heap_old (heap_old (heap_last w1 _) _) _
  have h41 : w4.heap[w1.heap.size + 1]? = some (.cells #[.string ⟨#[32, 97, 32]⟩, .string ⟨#[121, 121, 86, 65, 76]⟩, .string ⟨#[121, 121, 68, 111, 108, 108, 97, 114, 91, 49, 93]⟩, .string ⟨#[121, 121, 68, 111, 108, 108, 97, 114, 91, 50, 93]⟩, .string ⟨#[121, 121, 68, 111, 108, 108, 97, 114, 91, 51, 93]⟩, .string ⟨#[121, 121, 86, 65, 76, 46, 110]⟩, .string ⟨#[121, 121, 68, 111, 108, 108, 97, 114, 91, 51, 93, 46, 110]⟩, .string ⟨#[34, 36, 57, 34]⟩, .string ⟨#[47, 42, 32, 36, 36, 32, 42, 47]⟩, .string ⟨#[36, 120]⟩, .string ⟨#[121, 121, 68, 111, 108, 108, 97, 114, 91, 51, 93]⟩] 9) := by rw [hw4]; exact heap_old (heap_sec w1 _ _) _
  have h42 : w4.heap[w1.heap.size + 1 + 1]? = some (.cells #[.string ⟨#[]⟩, .string ⟨#[46, 117]⟩, .string ⟨#[46, 118]⟩, .string ⟨#[46, 119]⟩, .string ⟨#[46, 118]⟩, .string ⟨#[]⟩, .string ⟨#[]⟩, .string ⟨#[]⟩, .string ⟨#[]⟩, .string ⟨#[]⟩, .string ⟨#[46, 118]⟩] 9) := by rw [hw4]; exact heap_thdR w1 _ _ _
  obtain ⟨fb, hfb⟩ : ∃ fb, fb = w1.heap.size := ⟨_, rfl⟩
  obtain ⟨tb, htb⟩ : ∃ tb, tb = fb + 1 := ⟨_, rfl⟩
  obtain ⟨ob, hob⟩ : ∃ ob, ob = fb + 1 + 1 := ⟨_, rfl⟩
  have HB4 := Lib.hid (hb1.trans (hb4.mono hb1.size))
  rw [← hfb, ← hob] at h42
  rw [← hfb, ← htb] at h41
  rw [← hfb] at h40
  rw [← hfb, ← hob, ← htb]
  have HR : Hid (∀ w', Below w4.heap.size w4 w' → (∀ j ≤ 10, w'.cell? ⟨fb, j, none⟩ = some (.string ⟨(Sp.pcC j).toArray⟩)) ∧ (∀ j ≤ 10, w'.cell? ⟨tb, j, none⟩ = some (.string ⟨(Sp.pcT j).toArray⟩)) ∧ (∀ j ≤ 10, w'.cell? ⟨ob, j, none⟩ = some (.string ⟨(Sp.pcO j).toArray⟩)) ∧ fb < w'.heap.size ∧ tb < w'.heap.size ∧ ob < w'.heap.size) := Lib.hid (fun w' hb => by
    have k0 := (hb.block _ (lt_at h40)).trans h40; have k1 := (hb.block _ (lt_at h41)).trans h41; have k2 := (hb.block _ (lt_at h42)).trans h42
    refine ⟨ten_cases ?_, ten_cases ?_, ten_cases ?_, lt_at k0, lt_at k1, lt_at k2⟩
    · exact ⟨cell_at (i := 0) k0, cell_at (i := 1) k0, cell_at (i := 2) k0, cell_at (i := 3) k0, cell_at (i := 4) k0, cell_at (i := 5) k0, cell_at (i := 6) k0, cell_at (i := 7) k0, cell_at (i := 8) k0, cell_at (i := 9) k0, cell_at (i := 10) k0⟩
    · exact ⟨cell_at (i := 0) k1, cell_at (i := 1) k1, cell_at (i := 2) k1, cell_at (i := 3) k1, cell_at (i := 4) k1, cell_at (i := 5) k1, cell_at (i := 6) k1, cell_at (i := 7) k1, cell_at (i := 8) k1, cell_at (i := 9) k1, cell_at (i := 10) k1⟩
    · exact ⟨cell_at (i := 0) k2, cell_at (i := 1) k2, cell_at (i := 2) k2, cell_at (i := 3) k2, cell_at (i := 4) k2, cell_at (i := 5) k2, cell_at (i := 6) k2, cell_at (i := 7) k2, cell_at (i := 8) k2, cell_at (i := 9) k2, cell_at (i := 10) k2⟩)
  clear hw4 hb4 h40 h41 h42 hb1 HWK hfb htb hob
  go_cut [8, 9] (fun v8 v9 wx => ∃ ks : List Nat, ks.length ≤ 30 ∧ (∀ k ∈ ks, k ≤ 10) ∧ v8 = .string ⟨(123 :: Sp.pcBody ks).toArray⟩ ∧ v9 = .string ⟨(123 :: Sp.pcBodyW tags ks).toArray⟩ ∧ Below w4.heap.size w4 wx)
  case first =>
    go_wp2_with fail
    go_loopg [8, 9, 10] 30 (fun q v8 v9 iv wr => ∃ (k : Nat) (ks : List Nat), k ≤ 30 ∧ k ≤ n ∧ q = 30 - k ∧ iv = .int .i64 (k : Int) ∧ ks.length = k ∧ (∀ k ∈ ks, k ≤ 10) ∧ v8 = .string ⟨(123 :: Sp.pcBody ks).toArray⟩ ∧ v9 = .string ⟨(123 :: Sp.pcBodyW tags ks).toArray⟩ ∧ Below w4.heap.size w4 wr)
    case atStart => exact ⟨0, [], by omega, by omega, rfl, rfl, rfl, by simp, rfl, rfl, Below.refl _ _⟩
    case round =>
      obtain ⟨k, ks, hk30, hkn, rfl, rfl, hkl, hks, rfl, rfl, hbr⟩ := hrel
      obtain ⟨wo, hwo⟩ : ∃ wo : World, wo = wr := ⟨_, rfl⟩
      subst hwo
      have hko : (0 : Int) ≤ (k : Int) := Int.natCast_nonneg _
      have HBR := Lib.hid hbr; have HKS := Lib.hid hks; have HKL := Lib.hid hkl
      obtain ⟨cb, hcb⟩ : ∃ cb, cb = 123 :: Sp.pcBody ks := ⟨_, rfl⟩
      obtain ⟨wb, hwb⟩ : ∃ wb, wb = 123 :: Sp.pcBodyW tags ks := ⟨_, rfl⟩
      have hl1 : cb.length ≤ 301 ∧ wb.length ≤ 601 := by
        have h := Sp.pcCode_len ks (by omega)
        have h2 := h.2 tags
        have h1 := h.1
        simp only [Sp.pcCode, List.length_cons, List.length_append] at h1
        rw [hcb, hwb]
        simp only [List.length_cons]
        omega
      obtain ⟨hl1, hl2⟩ := hl1
      rw [← hcb, ← hwb]
      have HCB := Lib.hid hcb; have HWB := Lib.hid hwb
      clear hbr hks hkl hcb hwb
      by_cases hk1 : k < n
      · have hki : (k : Int) < (n : Int) := by omega
        by_cases hk2 : k < 30
        · have hk2i : (k : Int) < 30 := by omega
          have hkx : k < l.length := by have := HN.out; omega
          obtain ⟨x, hx⟩ : ∃ x, l[k]? = some x := ⟨_, List.getElem?_eq_getElem hkx⟩
          obtain ⟨xb, xo, rfl, hxb, hxc⟩ := ints_cell HL.out hx
          have hwx := HWF.out x (List.mem_of_getElem? hx)
          have hbW : Below W.heap.size W wo := HB4.out.trans (HBR.out.mono HB4.out.size)
          have x0 := hxc wo hbW
          have lxb : xb < wo.heap.size := by have := hbW.size; omega
          obtain ⟨j, hj⟩ : ∃ j : Nat, x % 11 = (j : Int) := ⟨(x % 11).toNat, by have := Int.emod_nonneg x (b := 11) (by decide); omega⟩
          have hj10 : j ≤ 10 := by have := Int.emod_lt_of_pos x (b := 11) (by decide); omega
          have HWI := Lib.hid (show Calls Tryd.prog 8 #[.int .i64 x, .int .i64 11] wo (fun e w' => e = .returned (.int .i64 (j : Int)) ∧ wo = w') from by
            have h := made_Within x 11 wo (by decide) (by decide) hwx
            rw [show ((11 : Nat) : Int) = 11 from rfl, hj] at h
            exact h)
          have hji : (j : Int) < 11 := by omega
          have hj0 : (0 : Int) ≤ (j : Int) := Int.natCast_nonneg _
          obtain ⟨fj, hfj⟩ : ∃ fj, fj = Sp.pcC j := ⟨_, rfl⟩
          obtain ⟨tj, htj⟩ : ∃ tj, tj = Sp.pcT j := ⟨_, rfl⟩
          obtain ⟨oj, hoj⟩ : ∃ oj, oj = Sp.pcO j := ⟨_, rfl⟩
          have hlf : fj.length ≤ 8 ∧ tj.length ≤ 13 ∧ oj.length ≤ 2 := by
            rw [hfj, htj, hoj]
            refine ⟨?_, ?_, ?_⟩
            · unfold Sp.pcC; split <;> simp
            · unfold Sp.pcT; split <;> simp
            · unfold Sp.pcO; split <;> simp
          obtain ⟨hlf1, hlf2, hlf3⟩ := hlf
          have HS11 := Lib.hid (fun (w' : World) (hb : Below wo.heap.size wo w') => (show (w'.cell? ⟨fb, j, none⟩ = some (.string ⟨fj.toArray⟩) ∧ w'.cell? ⟨tb, j, none⟩ = some (.string ⟨tj.toArray⟩) ∧ fb < w'.heap.size ∧ tb < w'.heap.size) from by
            have h := HR.out w' (HBR.out.trans (hb.mono HBR.out.size))
            rw [hfj, htj]
            exact ⟨h.1 j hj10, h.2.1 j hj10, h.2.2.2.1, h.2.2.2.2.1⟩))
          have HOC : Hid (∀ w', Below wo.heap.size wo w' → w'.cell? ⟨ob, j, none⟩ = some (.string ⟨oj.toArray⟩) ∧ ob < w'.heap.size) := Lib.hid (fun w' hb => by
            have h := HR.out w' (HBR.out.trans (hb.mono HBR.out.size))
            rw [hoj]
            exact ⟨h.2.2.1 j hj10, h.2.2.2.2.2⟩)
          have HFJ := Lib.hid hfj; have HTJ := Lib.hid htj; have HOJ := Lib.hid hoj
          have hz1 : ¬ 9223372036854775807 < cb.length + fj.length := by omega
          have hz2 : ¬ 9223372036854775807 < cb.length + fj.length + 1 := by omega
          have hz3 : ¬ 9223372036854775807 < wb.length + tj.length := by omega
          have hz4 : ¬ 9223372036854775807 < wb.length + tj.length + 1 := by omega
          have hz5 : ¬ 9223372036854775807 < wb.length + tj.length + oj.length := by omega
          have hz6 : ¬ 9223372036854775807 < wb.length + tj.length + oj.length + 1 := by omega
          clear hx hxc hwx hbW hj hfj htj hoj hkx hxb
          go_wp2_with fail
          refine HWI.out.mono ?_
          rintro e w' ⟨rfl, rfl⟩
          clear HWI x0 lxb
          go_upto_region 11 with fail
          refine wp_region_plan (fun w' : World => (w'.cell? ⟨fb, j, none⟩ = some (.string ⟨fj.toArray⟩) ∧ w'.cell? ⟨tb, j, none⟩ = some (.string ⟨tj.toArray⟩) ∧ fb < w'.heap.size ∧ tb < w'.heap.size)) [] (.take 0 (.take 1 (.take 2 (.take 3 (.take 4 (.take 5 (.take 6 (.take 7 (.take 8 (.take 9 (.take 10 (.take 11 (.take 12 (.take 13 (.take 14 (.done)))))))))))))))) (by kernel_rfl) (by kernel_rfl) (fun _ _ _ _ h => h) ?_
          have hSw := HS11.out _ (below_drewN (Below.refl _ wo) 1)
          refine wpPlan_takeD (v := ?va16) rfl rfl hSw (by rfl) ?ya16 ?_
          case ya16 => (intro w hSx; (try dsimp only at hSx); go_simp; first | done | with_reducible rfl | rfl)
          (try simp only [Act.put, List.setIfInBounds_toArray, List.set_cons_zero, List.set_cons_succ])
          refine wpPlan_takeD (v := ?va17) rfl rfl hSw (by rfl) ?ya17 ?_
          case ya17 => (intro w hSx; (try dsimp only at hSx); go_simp; first | done | with_reducible rfl | rfl)
          (try simp only [Act.put, List.setIfInBounds_toArray, List.set_cons_zero, List.set_cons_succ])
          refine wpPlan_takeD (v := ?va18) rfl rfl hSw (by rfl) ?ya18 ?_
          case ya18 => (intro w hSx; (try dsimp only at hSx); go_simp; first | done | with_reducible rfl | rfl)
          (try simp only [Act.put, List.setIfInBounds_toArray, List.set_cons_zero, List.set_cons_succ])
          refine wpPlan_takeD (v := ?va19) rfl rfl hSw (by rfl) ?ya19 ?_
          case ya19 => (intro w hSx; (try dsimp only at hSx); go_simp; first | done | with_reducible rfl | rfl)
          (try simp only [Act.put, List.setIfInBounds_toArray, List.set_cons_zero, List.set_cons_succ])
          refine wpPlan_takeD (v := ?va20) rfl rfl hSw (by rfl) ?ya20 ?_
          case ya20 => (intro w hSx; (try dsimp only at hSx); go_simp; first | done | with_reducible rfl | rfl)
          (try simp only [Act.put, List.setIfInBounds_toArray, List.set_cons_zero, List.set_cons_succ])
          refine wpPlan_takeD (v := ?va21) rfl rfl hSw (by rfl) ?ya21 ?_
          case ya21 => (intro w hSx; (try dsimp only at hSx); go_simp; first | done | with_reducible rfl | rfl)
          (try simp only [Act.put, List.setIfInBounds_toArray, List.set_cons_zero, List.set_cons_succ])
          refine wpPlan_takeD (v := ?va22) rfl rfl hSw (by rfl) ?ya22 ?_
          case ya22 => (intro w hSx; (try dsimp only at hSx); go_simp; first | done | with_reducible rfl | rfl)
          (try simp only [Act.put, List.setIfInBounds_toArray, List.set_cons_zero, List.set_cons_succ])
          refine wpPlan_takeD (v := ?va23) rfl rfl hSw (by rfl) ?ya23 ?_
          case ya23 => (intro w hSx; (try dsimp only at hSx); go_simp; first | done | with_reducible rfl | rfl)
          (try simp only [Act.put, List.setIfInBounds_toArray, List.set_cons_zero, List.set_cons_succ])
          refine wpPlan_takeD (v := ?va24) rfl rfl hSw (by rfl) ?ya24 ?_
          case ya24 => (intro w hSx; (try dsimp only at hSx); go_simp; first | done | with_reducible rfl | rfl)
          (try simp only [Act.put, List.setIfInBounds_toArray, List.set_cons_zero, List.set_cons_succ])
          refine wpPlan_takeD (v := ?va25) rfl rfl hSw (by rfl) ?ya25 ?_
          case ya25 => (intro w hSx; (try dsimp only at hSx); go_simp; first | done | with_reducible rfl | rfl)
          (try simp only [Act.put, List.setIfInBounds_toArray, List.set_cons_zero, List.set_cons_succ])
          refine wpPlan_takeD (v := ?va26) rfl rfl hSw (by rfl) ?ya26 ?_
          case ya26 => (intro w hSx; (try dsimp only at hSx); go_simp; first | done | with_reducible rfl | rfl)
          (try simp only [Act.put, List.setIfInBounds_toArray, List.set_cons_zero, List.set_cons_succ])
          refine wpPlan_takeD (v := ?va27) rfl rfl hSw (by rfl) ?ya27 ?_
          case ya27 => (intro w hSx; (try dsimp only at hSx); go_simp; first | done | with_reducible rfl | rfl)
          (try simp only [Act.put, List.setIfInBounds_toArray, List.set_cons_zero, List.set_cons_succ])
          refine wpPlan_takeD (v := ?va28) rfl rfl hSw (by rfl) ?ya28 ?_
          case ya28 => (intro w hSx; (try dsimp only at hSx); go_simp; first | done | with_reducible rfl | rfl)
          (try simp only [Act.put, List.setIfInBounds_toArray, List.set_cons_zero, List.set_cons_succ])
          refine wpPlan_takeD (v := ?va29) rfl rfl hSw (by rfl) ?ya29 ?_
          case ya29 => (intro w hSx; (try dsimp only at hSx); go_simp; first | done | with_reducible rfl | rfl)
          (try simp only [Act.put, List.setIfInBounds_toArray, List.set_cons_zero, List.set_cons_succ])
          refine wpPlan_takeD (v := ?va30) rfl rfl hSw (by rfl) ?ya30 ?_
          case ya30 => (intro w hSx; (try dsimp only at hSx); go_simp; first | done | with_reducible rfl | rfl)
          (try simp only [Act.put, List.setIfInBounds_toArray, List.set_cons_zero, List.set_cons_succ])
          refine wpPlan_done ?_
          have o0 : wo.drew.cell? ⟨ob, j, none⟩ = some (.string ⟨oj.toArray⟩) := (HOC.out _ (below_drewN (Below.refl _ wo) 1)).1
          have lob : ob < wo.drew.heap.size := (HOC.out _ (below_drewN (Below.refl _ wo) 1)).2
          have HBD := Lib.hid (HBR.out.trans ((below_drewN (Below.refl _ wo) 1).mono HBR.out.size))
          clear HS11 HOC
          cases tags with
          | true =>
            go_wp2_with fail
            go_roundg (30 - (k + 1))
            case measure => omega
            case rel =>
              refine ⟨k + 1, ks ++ [j], by omega, by omega, rfl, by go_num, by rw [List.length_append, HKL.out]; rfl, fun q hq => ?_, ?_, ?_, HBD.out⟩
              · rcases List.mem_append.1 hq with h | h
                · exact HKS.out q h
                · rw [List.mem_singleton] at h; omega
              · rw [bodyC_snoc, ← HCB.out, ← HFJ.out, ← bcat, ← bcat]
              · rw [bodyW_snoc, ← HWB.out, ← HTJ.out, ← HOJ.out, if_pos rfl, ← bcat, ← bcat, ← bcat]
          | false =>
            go_wp2_with fail
            go_roundg (30 - (k + 1))
            case measure => omega
            case rel =>
              refine ⟨k + 1, ks ++ [j], by omega, by omega, rfl, by go_num, by rw [List.length_append, HKL.out]; rfl, fun q hq => ?_, ?_, ?_, HBD.out⟩
              · rcases List.mem_append.1 hq with h | h
                · exact HKS.out q h
                · rw [List.mem_singleton] at h; omega
              · rw [bodyC_snoc, ← HCB.out, ← HFJ.out, ← bcat, ← bcat]
              · rw [bodyW_snoc, ← HWB.out, ← HTJ.out, if_neg (by decide), List.append_nil, ← bcat, ← bcat]
        · obtain rfl : k = 30 := by omega
          go_wp2_with fail
          go_meet
          exact ⟨ks, by have := HKL.out; omega, HKS.out, by rw [HCB.out], by rw [HWB.out], HBR.out⟩
      · obtain rfl : k = n := by omega
        go_wp2_with fail
        go_meet
        exact ⟨ks, by have := HKL.out; omega, HKS.out, by rw [HCB.out], by rw [HWB.out], HBR.out⟩
  case rest =>
    obtain ⟨ks, hk30, hks, rfl, rfl, hbc⟩ := hcut
    obtain ⟨w5, hw5⟩ : ∃ w5 : World, w5 = wc := ⟨_, rfl⟩
    subst hw5
    have hlc := Sp.pcCode_len ks hk30
    have hlc2 := hlc.2 tags
    have hlc1 := hlc.1
    obtain ⟨cb, hcb⟩ : ∃ cb, cb = 123 :: Sp.pcBody ks := ⟨_, rfl⟩
    obtain ⟨wb, hwb⟩ : ∃ wb, wb = 123 :: Sp.pcBodyW tags ks := ⟨_, rfl⟩
    have hz1 : ¬ 9223372036854775807 < cb.length + 1 := by
      rw [hcb]; simp only [Sp.pcCode, List.length_cons, List.length_append] at hlc1 ⊢; omega
    have hz2 : ¬ 9223372036854775807 < wb.length + 1 := by
      rw [hwb]; simp only [List.length_cons]; omega
    have HON := Lib.hid (show Calls Tryd.prog 14 #[.string (⟨cb.toArray⟩ ++ ⟨#[125]⟩), .bool tags] w5 (fun e w' => Below w5.heap.size w5 w' ∧ w5.heap.size + 2 ≤ w'.heap.size ∧ ∃ gv, e = .returned (.tuple #[gv, .bool true]) ∧ GramOwn w' gv (Sp.oneGram (Sp.pcCode ks) tags)) from by
      have h := law27_one (Sp.pcBody ks ++ [125]) tags w5 (Sp.pcCode_end ks hks) (by have := hlc.1; unfold Sp.pcCode at this; omega)
      rw [hcb, show (⟨#[125]⟩ : ByteArray) = ⟨([125] : List UInt8).toArray⟩ from rfl, bcat]
      exact h)
    have hcbd := Sp.pcCode_body ks tags hks
    have hcat : (⟨wb.toArray⟩ : ByteArray) ++ (⟨#[125]⟩ : ByteArray) = ⟨(123 :: (Sp.pcBodyW tags ks ++ [125])).toArray⟩ := by
      rw [hwb, show (⟨#[125]⟩ : ByteArray) = ⟨([125] : List UInt8).toArray⟩ from rfl, bcat]
      rfl
    have HCB := Lib.hid hcbd; have HCAT := Lib.hid hcat
    have HBC := Lib.hid (HB4.out.trans (hbc.mono HB4.out.size))
    have HLC : Hid ((Sp.pcCode ks).length ≤ 300) := Lib.hid hlc.1
    rw [← hcb, ← hwb]
    obtain ⟨X, hX⟩ : ∃ X, X = 123 :: (Sp.pcBodyW tags ks ++ [125]) := ⟨_, rfl⟩
    rw [← hX] at HCB HCAT
    clear hcb hwb hcbd hcat hbc hlc hlc1 hlc2 hks hX HR
    go_wp2_with fail
    refine HON.out.mono ?_
    rintro e w6 ⟨hb6, hsz6, gv, rfl, hgo⟩
    obtain ⟨ta, tc, na, nc, pa, pc, rfl, hga⟩ := oneOwn hgo
    obtain ⟨w7, hw7⟩ : ∃ w7 : World, w7 = w6.alloc (.cells #[.slice ta 4 tc, .slice na 3 nc, .slice pa 3 pc, .string ⟨#[]⟩, .string ⟨#[]⟩] 46) := ⟨_, rfl⟩
    have hb67 : Below w6.heap.size w6 w7 := by rw [hw7]; exact (Below.refl _ w6).alloc (Nat.le_refl _) _
    have h7 : w7.heap[w6.heap.size]? = some (.cells #[.slice ta 4 tc, .slice na 3 nc, .slice pa 3 pc, .string ⟨#[]⟩, .string ⟨#[]⟩] 46 (0, 0)) := by rw [hw7]; exact heap_last w6 _
    have hbW7 : Below W.heap.size W w7 := HBC.out.trans ((hb6.trans (hb67.mono hb6.size)).mono HBC.out.size)
    have hgl7 : Gl w7 := HG.out.up hbW7 (by have := lt_at h7; have := HBC.out.size; omega)
    have HBO := Lib.hid (one_body (hga.below hb67) hgl7 (by have := HLC.out; omega) HCB.out)
    have HB7 := Lib.hid hbW7
    have g0 := cell_at (i := 0) h7; have g1 := cell_at (i := 1) h7; have g2 := cell_at (i := 2) h7; have g3 := cell_at (i := 3) h7; have g4 := cell_at (i := 4) h7
    have lg := lt_at h7
    clear hb6 hsz6 hgo hga hb67 h7 hbW7 hgl7 HON
    go_upto_region 16 with fail
    rw [← hw7]
    clear hw7
    go_wp2_with fail
    refine HBO.out.mono ?_
    rintro e w8 ⟨rfl, hb8⟩
    obtain ⟨w9, hw9⟩ : ∃ w9 : World, w9 = w8.alloc (.cells #[.int .i64 0, .int .i64 0, .string ⟨#[]⟩] 49) := ⟨_, rfl⟩
    have hb9 : Below w7.heap.size w7 w9 := by rw [hw9]; exact hb8.alloc hb8.size _
    have h9 : w9.heap[w8.heap.size]? = some (.cells #[.int .i64 0, .int .i64 0, .string ⟨#[]⟩] 49 (0, 0)) := by rw [hw9]; exact heap_last w8 _
    have f0 := cell_at (i := 0) h9; have f1 := cell_at (i := 1) h9; have f2 := cell_at (i := 2) h9
    have lf := lt_at h9
    have HB9 := Lib.hid (HB7.out.trans (hb9.mono HB7.out.size))
    clear hb8 hb9 h9 g0 g1 g2 g3 g4 lg HBO
    go_upto_region 17 with fail
    rw [← hw9]
    clear hw9
    rw [← HCAT.out]
    go_wp2_with fail
    go_ret
    exact ⟨rfl, HB9.out⟩
end Go.Proofs.YtddnomjfcbplpaaDoor

/- Arguments that are lists of numbers or of truth values, opened to the cells that the walks read. -/
namespace Go.Proofs.YtddnomjfcbplpaaDoor
open Go.ChangeShapes Go.WideShapes Go.Deep Go.RowKit

section
variable {H : Type} {enc : TypeId × Value → H} {w : World} {base : Nat} {spare : Nat → Bool} {held : Bool}
theorem open_row1 {S E : TypeId} (hS : Tryd.prog.underlying S = some (.slice E)) (hE : Tryd.prog.cellsOf E = 1) {T : Type} [Inhabited T] (valOf : T → Value) (good : T → Prop)
    (helem : ∀ (n : Nat) (cs : List Value) (y : DataW H × List MemPlace), DataW.trod enc Tryd.prog w base spare held n E cs = some y → ∃ t, cs = [valOf t] ∧ good t)
    {fuel : Nat} {cs : List Value} {x : DataW H × List MemPlace} (h : DataW.trod enc Tryd.prog w base spare held fuel S cs = some x) :
    ∃ (v : Value) (ts : List T), cs = [v] ∧ SlAt w v 1 (ts.map fun t => [valOf t]) ∧ ts.length ≤ maxLen ∧ ∀ t ∈ ts, good t := by
  rcases open_slice hS h with ⟨h0, _⟩ | ⟨a, len, cap, m, n, D, Pl, hcs, hb, hl, hm, hmm, hx, hi⟩
  · exact ⟨_, [], h0, .inl ⟨rfl, none, 0, rfl⟩, by simp, by simp⟩
  · have hlm : len ≤ m := by rw [hmm]; split <;> omega
    have key : ∀ i, ∃ t : T, i < len → w.cell? (a.add i) = some (valOf t) ∧ good t := by
      intro i
      by_cases hil : i < len
      · obtain ⟨cs', hc, ht'⟩ := hi i (by omega)
        rw [hE] at hc
        obtain ⟨t, rfl, hg⟩ := helem _ _ _ ht'
        obtain ⟨_, hcl, hat⟩ := World.cells?_some hc
        refine ⟨t, fun _ => ⟨?_, hg⟩⟩
        have h1 := hat 0 (by decide)
        rw [Nat.mul_one, Go.Deep.add_add, Nat.add_zero] at h1
        exact h1
      · exact ⟨default, fun h => absurd h hil⟩
    obtain ⟨f, hf⟩ := Classical.axiomOfChoice key
    refine ⟨_, (List.range len).map f, hcs, ?_, by simp; omega, ?_⟩
    · by_cases hz : len = 0
      · subst hz
        exact .inl ⟨rfl, _, _, rfl⟩
      · obtain ⟨b, off, spot⟩ := a
        have h0 := (hf 0 (by omega)).1
        have hsp : spot = none := by simpa [Addr.add] using World.cell?_spot h0
        subst hsp
        refine .inr ⟨b, off, cap, by simp, ?_, fun i r hr j u hu => ?_⟩
        · have := lt_at_cell h0
          simpa [Addr.add] using this
        · simp only [List.map_map, List.getElem?_map, Option.map_eq_some_iff] at hr
          obtain ⟨i', hi', rfl⟩ := hr
          obtain ⟨hil, rfl⟩ := List.getElem?_eq_some_iff.1 hi'
          simp only [List.length_range] at hil
          simp only [List.getElem_range, Function.comp] at hu
          obtain ⟨rfl, rfl⟩ : j = 0 ∧ valOf (f i) = u := by
            cases j with
            | zero => exact ⟨rfl, by simpa using hu⟩
            | succ j => simp at hu
          have := (hf i hil).1
          rw [show (⟨b, off, none⟩ : Addr).add i = ⟨b, off + i * 1 + 0, none⟩ by unfold Addr.add; split <;> simp_all [Nat.add_assoc]] at this
          exact this
    · intro p hp
      simp only [List.mem_map, List.mem_range] at hp
      obtain ⟨i, hi, rfl⟩ := hp
      exact (hf i hi).2
theorem one_intA : Tryd.prog.cellsOf 3 = 1 := by kernel_rfl
theorem open_intsA {fuel : Nat} {cs : List Value} {x : DataW H × List MemPlace} (h : DataW.trod enc Tryd.prog w base spare held fuel 22 cs = some x) :
    ∃ (v : Value) (ts : List Int), cs = [v] ∧ IntsAt w v ts ∧ ts.length ≤ maxLen ∧ ∀ t ∈ ts, (Lit.int .i64 t).wf = true :=
  open_row1 Tryd.underlying22 one_intA (fun x : Int => Value.int .i64 x) (fun x => (Lit.int .i64 x).wf = true)
    (fun n cs y h => by
      obtain ⟨z, e, _, hw⟩ := DataW.trod_int Tryd.underlying3 h
      exact ⟨z, by simpa using e, hw⟩) h
end
end Go.Proofs.YtddnomjfcbplpaaDoor
