/- PrintSyms: the walk. -/
import Derived.Test.YticdgfljaphhgaaDoorDl
import Derived.Test.YticdgfljaphhgaaDoorCg
import Derived.Test.YticdgfljaphhgaaDoorBn
import Derived.Lib.ItoaLen
namespace Go.Proofs.YticdgfljaphhgaaDoor
namespace Sp
open Go.Lib (index indexByte hasPrefix)

/-- The source of the law: a token's declaration of a byte and a name, a rule of that byte. -/
def symSrc (c : UInt8) (n : List UInt8) (num : Int) : Source := ⟨[], [⟨1, [], [⟨[c], true, 0, 0⟩, ⟨[65], false, num, 0⟩], 0⟩], [⟨n, [⟨[⟨⟨[c], true, 0, 0⟩, [], 0⟩], ⟨[], false, 0, 0⟩, 0⟩], 0⟩], []⟩
theorem sym_may (c : UInt8) (n : List UInt8) (num : Int) : may (symSrc c n num) = (!(quoteText c).isEmpty && isName n && decide (0 ≤ num) && decide (num ≤ 50000)) := by
  have h0 : decide (0 ≤ index ([] : List UInt8) [37, 125]) = false := by decide
  have hA : isName [65] = true := by decide
  have hq : isSym ⟨[c], true, 0, 0⟩ = !(quoteText c).isEmpty := rfl
  have h1 : maySym 1 ⟨[c], true, 0, 0⟩ = !(quoteText c).isEmpty := by
    unfold maySym
    rw [hq]
    cases (quoteText c).isEmpty <;> simp
  have h2 : maySym 1 ⟨[65], false, num, 0⟩ = (decide (0 ≤ num) && decide (num ≤ 50000)) := by
    unfold maySym
    have hs : isSym ⟨[65], false, num, 0⟩ = true := hA
    rw [hs]
    rw [if_neg (by simp)]
    by_cases hn : num = 0
    · subst hn; simp
    · by_cases h : num < 1 ∨ 50000 < num
      · rw [if_pos ⟨hn, .inr (.inr h)⟩]
        symm
        rcases h with h | h
        · have : decide (0 ≤ num) = false := by rw [decide_eq_false_iff_not]; omega
          rw [this]; rfl
        · have : decide (num ≤ 50000) = false := by rw [decide_eq_false_iff_not]; omega
          rw [this]; simp
      · rw [if_neg (by rintro ⟨_, h1 | h1 | h1⟩; exact h1 rfl; exact absurd h1 (by simp); exact h h1)]
        have e1 : decide (0 ≤ num) = true := by rw [decide_eq_true_iff]; omega
        have e2 : decide (num ≤ 50000) = true := by rw [decide_eq_true_iff]; omega
        rw [e1, e2]; rfl
  have h3 : mayDecl ⟨1, [], [⟨[c], true, 0, 0⟩, ⟨[65], false, num, 0⟩], 0⟩ = (maySym 1 ⟨[c], true, 0, 0⟩ && maySym 1 ⟨[65], false, num, 0⟩) := by
    unfold mayDecl
    rw [if_neg (by simp), if_neg (by simp), if_neg (by simp)]
    simp
  have h4 : mayRule ⟨n, [⟨[⟨⟨[c], true, 0, 0⟩, [], 0⟩], ⟨[], false, 0, 0⟩, 0⟩], 0⟩ = (isName n && !(quoteText c).isEmpty) := by
    unfold mayRule
    have e : mayAlt ⟨[⟨⟨[c], true, 0, 0⟩, [], 0⟩], ⟨[], false, 0, 0⟩, 0⟩ = !(quoteText c).isEmpty := by
      unfold mayAlt
      have e1 : mayPart ⟨⟨[c], true, 0, 0⟩, [], 0⟩ = !(quoteText c).isEmpty := by
        unfold mayPart
        rw [if_pos rfl]
        unfold isBare
        rw [hq]
        simp
      have e2 : isNone ⟨[], false, 0, 0⟩ = true := rfl
      simp only [List.all_cons, List.all_nil, e1, e2, Bool.true_or, Bool.true_and, Bool.and_true]
    simp only [List.all_cons, List.all_nil, e, Bool.and_true]
    simp
  unfold may symSrc
  simp only [List.all_cons, List.all_nil, h0, h3, h4, h1, h2, Bool.and_true]
  cases (quoteText c).isEmpty <;> cases isName n <;> simp
theorem sym_text (c : UInt8) (n : List UInt8) (num : Int) (h : may (symSrc c n num) = true) : text (symSrc c n num) =
    [37, 116, 111, 107, 101, 110, 32] ++ quoteText c ++ [32, 65] ++ (if num = 0 then [] else 32 :: Go.Lib.itoa num) ++ [10, 37, 37, 10] ++ n ++ [32, 58, 32] ++ quoteText c ++ [32, 59, 10] := by
  unfold text
  rw [if_neg (by rw [h]; simp)]
  have hd : declWords ⟨1, [], [⟨[c], true, 0, 0⟩, ⟨[65], false, num, 0⟩], 0⟩ = [37, 116, 111, 107, 101, 110] :: quoteText c :: [65] :: (if num = 0 then [] else [Go.Lib.itoa num]) := by
    unfold declWords
    have e : symWords ⟨[65], false, num, 0⟩ = [65] :: (if num = 0 then [] else [Go.Lib.itoa num]) := by
      unfold symWords
      rw [if_neg (by simp)]
      by_cases hn : num = 0
      · rw [if_pos hn, if_pos hn]
      · rw [if_neg hn, if_neg hn]
    simp only [List.flatMap_cons, List.flatMap_nil, e, List.append_nil]
    rfl
  have hr : ruleWords ⟨n, [⟨[⟨⟨[c], true, 0, 0⟩, [], 0⟩], ⟨[], false, 0, 0⟩, 0⟩], 0⟩ = [n, [58], quoteText c, [59]] := rfl
  unfold symSrc
  simp only [List.flatMap_cons, List.flatMap_nil, hd, hr]
  by_cases hn : num = 0
  · simp [hn, joinSp]
  · simp [hn, joinSp]
end Sp
open Go.RowKit

theorem heap_at (w : World) (os : List Obj) : ∀ (k : Nat) (o : Obj), os[k]? = some o → (os.foldl (fun w o => w.alloc o) w).heap[w.heap.size + k]? = some o ∧ (os.foldl (fun w o => w.alloc o) w).heap.size = w.heap.size + os.length := by
  induction os generalizing w with
  | nil => intro k o h; simp at h
  | cons a os ih =>
    intro k o h
    have hsz : ∀ (os : List Obj) (w : World), (os.foldl (fun w o => w.alloc o) w).heap.size = w.heap.size + os.length := by
      intro os
      induction os with
      | nil => intro w; rfl
      | cons b os ih2 => intro w; rw [List.foldl_cons, ih2, World.size_alloc, List.length_cons]; omega
    refine ⟨?_, hsz _ _⟩
    cases k with
    | zero =>
      cases h
      have key : ∀ (os : List Obj) (w : World) (b : Nat) (o2 : Obj), w.heap[b]? = some o2 → (os.foldl (fun w o => w.alloc o) w).heap[b]? = some o2 := by
        intro os
        induction os with
        | nil => intro w b o2 h; exact h
        | cons c os ih2 => intro w b o2 h; exact ih2 _ _ _ (heap_old h c)
      exact key os _ _ _ (heap_last w a)
    | succ k =>
      have h' := (ih (w.alloc a) k o h).1
      rw [World.size_alloc] at h'
      rw [show w.heap.size + (k + 1) = w.heap.size + 1 + k by omega]
      exact h'
theorem below_fold (w : World) : ∀ os : List Obj, Below w.heap.size w (os.foldl (fun w o => w.alloc o) w) := by
  have key : ∀ (os : List Obj) (w0 w : World), Below w0.heap.size w0 w → Below w0.heap.size w0 (os.foldl (fun w o => w.alloc o) w) := by
    intro os
    induction os with
    | nil => intro w0 w h; exact h
    | cons a os ih => intro w0 w h; exact ih w0 _ (h.alloc h.size a)
  exact fun os => key os w w (Below.refl _ w)

set_option maxRecDepth 100000 in
set_option maxHeartbeats 12800000 in
theorem law_PrintSyms (c : Int) (s : ByteArray) (num : Int) (w : World) (h0 : (Lit.int .u8 c).wf = true) (_h1 : s.size ≤ maxLen) (h2 : (Lit.int .i64 num).wf = true) (hg : Gl w) :
    Calls Tryd.prog 14 #[.int .u8 c, .string s, .int .i64 num] w fun e w' => e = .returned (.bool true) ∧ Below w.heap.size w w' := by
  have hc : 0 ≤ c ∧ c ≤ 255 := by simpa [Lit.wf, IntKind.min, IntKind.max, IntKind.signed, IntKind.bits] using h0
  have hnum : -9223372036854775808 ≤ num ∧ num ≤ 9223372036854775807 := by simpa [Lit.wf, IntKind.min, IntKind.max, IntKind.signed, IntKind.bits] using h2
  obtain ⟨C, rfl⟩ : ∃ C : UInt8, c = (C.toNat : Int) := ⟨UInt8.ofNat c.toNat, by rw [UInt8.toNat_ofNat_of_lt' (by have : UInt8.size = 256 := rfl; omega)]; omega⟩
  clear h0 h2 hc
  have hN := cutTo_size s 25
  generalize hNN : cutTo s 25 = N at hN
  have HN := Lib.hid hNN
  clear hNN
  go_enter Tryd.func14, Tryd.ntmps14
  go_wp2_with fail
  refine (wakes8 w hg).mono ?_
  rintro e w1 ⟨rfl, hb1⟩
  have hg1 := hg.below hb1
  have HB1 := Lib.hid hb1
  clear hb1
  have hcv := convert_one w1 C
  obtain ⟨w7, hw7⟩ : ∃ w7, w7 = (((((((w1.alloc (.cells #[.int .u8 (C.toNat : Int)] 5)).alloc (.cells #[.string ⟨#[C]⟩, .bool true, .int .i64 0, .int .i64 0, .string ⟨#[65]⟩, .bool false, .int .i64 num, .int .i64 0] 59)).alloc (.cells #[.int .i64 1, .string ⟨#[]⟩, .slice (some ⟨w1.heap.size + 1, 0, none⟩) 2 2, .int .i64 0] 62)).alloc (.cells #[.string ⟨#[C]⟩, .bool true, .int .i64 0, .int .i64 0, .string ⟨#[]⟩, .int .i64 0] 65)).alloc (.cells #[.slice (some ⟨w1.heap.size + 1 + 1 + 1, 0, none⟩) 1 1, .string ⟨#[]⟩, .bool false, .int .i64 0, .int .i64 0, .int .i64 0] 68)).alloc (.cells #[.string N, .slice (some ⟨w1.heap.size + 1 + 1 + 1 + 1, 0, none⟩) 1 1, .int .i64 0] 71)).alloc (.cells #[.string ⟨#[]⟩, .slice (some ⟨w1.heap.size + 1 + 1, 0, none⟩) 1 1, .slice (some ⟨w1.heap.size + 1 + 1 + 1 + 1 + 1, 0, none⟩) 1 1, .string ⟨#[]⟩] 74)) := ⟨_, rfl⟩
  have hw7' : w7 = ([(.cells #[.int .u8 (C.toNat : Int)] 5), (.cells #[.string ⟨#[C]⟩, .bool true, .int .i64 0, .int .i64 0, .string ⟨#[65]⟩, .bool false, .int .i64 num, .int .i64 0] 59), (.cells #[.int .i64 1, .string ⟨#[]⟩, .slice (some ⟨w1.heap.size + 1, 0, none⟩) 2 2, .int .i64 0] 62), (.cells #[.string ⟨#[C]⟩, .bool true, .int .i64 0, .int .i64 0, .string ⟨#[]⟩, .int .i64 0] 65), (.cells #[.slice (some ⟨w1.heap.size + 1 + 1 + 1, 0, none⟩) 1 1, .string ⟨#[]⟩, .bool false, .int .i64 0, .int .i64 0, .int .i64 0] 68), (.cells #[.string N, .slice (some ⟨w1.heap.size + 1 + 1 + 1 + 1, 0, none⟩) 1 1, .int .i64 0] 71), (.cells #[.string ⟨#[]⟩, .slice (some ⟨w1.heap.size + 1 + 1, 0, none⟩) 1 1, .slice (some ⟨w1.heap.size + 1 + 1 + 1 + 1 + 1, 0, none⟩) 1 1, .string ⟨#[]⟩] 74)] : List Obj).foldl (fun w o => w.alloc o) w1 := hw7
  have hs7 : w7.heap.size = w1.heap.size + 7 := by rw [hw7']; exact (heap_at w1 [(.cells #[.int .u8 (C.toNat : Int)] 5), (.cells #[.string ⟨#[C]⟩, .bool true, .int .i64 0, .int .i64 0, .string ⟨#[65]⟩, .bool false, .int .i64 num, .int .i64 0] 59), (.cells #[.int .i64 1, .string ⟨#[]⟩, .slice (some ⟨w1.heap.size + 1, 0, none⟩) 2 2, .int .i64 0] 62), (.cells #[.string ⟨#[C]⟩, .bool true, .int .i64 0, .int .i64 0, .string ⟨#[]⟩, .int .i64 0] 65), (.cells #[.slice (some ⟨w1.heap.size + 1 + 1 + 1, 0, none⟩) 1 1, .string ⟨#[]⟩, .bool false, .int .i64 0, .int .i64 0, .int .i64 0] 68), (.cells #[.string N, .slice (some ⟨w1.heap.size + 1 + 1 + 1 + 1, 0, none⟩) 1 1, .int .i64 0] 71), (.cells #[.string ⟨#[]⟩, .slice (some ⟨w1.heap.size + 1 + 1, 0, none⟩) 1 1, .slice (some ⟨w1.heap.size + 1 + 1 + 1 + 1 + 1, 0, none⟩) 1 1, .string ⟨#[]⟩] 74)] 0 _ rfl).2
  have hb17 : Below w1.heap.size w1 w7 := by rw [hw7']; exact below_fold w1 _
  have hF1 : w7.heap[w1.heap.size + 1]? = some (.cells #[.string ⟨#[C]⟩, .bool true, .int .i64 0, .int .i64 0, .string ⟨#[65]⟩, .bool false, .int .i64 num, .int .i64 0] 59 (0, 0)) := by rw [hw7']; exact (heap_at w1 [(.cells #[.int .u8 (C.toNat : Int)] 5), (.cells #[.string ⟨#[C]⟩, .bool true, .int .i64 0, .int .i64 0, .string ⟨#[65]⟩, .bool false, .int .i64 num, .int .i64 0] 59), (.cells #[.int .i64 1, .string ⟨#[]⟩, .slice (some ⟨w1.heap.size + 1, 0, none⟩) 2 2, .int .i64 0] 62), (.cells #[.string ⟨#[C]⟩, .bool true, .int .i64 0, .int .i64 0, .string ⟨#[]⟩, .int .i64 0] 65), (.cells #[.slice (some ⟨w1.heap.size + 1 + 1 + 1, 0, none⟩) 1 1, .string ⟨#[]⟩, .bool false, .int .i64 0, .int .i64 0, .int .i64 0] 68), (.cells #[.string N, .slice (some ⟨w1.heap.size + 1 + 1 + 1 + 1, 0, none⟩) 1 1, .int .i64 0] 71), (.cells #[.string ⟨#[]⟩, .slice (some ⟨w1.heap.size + 1 + 1, 0, none⟩) 1 1, .slice (some ⟨w1.heap.size + 1 + 1 + 1 + 1 + 1, 0, none⟩) 1 1, .string ⟨#[]⟩] 74)] 1 _ rfl).1
  have hF2 : w7.heap[w1.heap.size + 1 + 1]? = some (.cells #[.int .i64 1, .string ⟨#[]⟩, .slice (some ⟨w1.heap.size + 1, 0, none⟩) 2 2, .int .i64 0] 62 (0, 0)) := by rw [hw7']; exact (heap_at w1 [(.cells #[.int .u8 (C.toNat : Int)] 5), (.cells #[.string ⟨#[C]⟩, .bool true, .int .i64 0, .int .i64 0, .string ⟨#[65]⟩, .bool false, .int .i64 num, .int .i64 0] 59), (.cells #[.int .i64 1, .string ⟨#[]⟩, .slice (some ⟨w1.heap.size + 1, 0, none⟩) 2 2, .int .i64 0] 62), (.cells #[.string ⟨#[C]⟩, .bool true, .int .i64 0, .int .i64 0, .string ⟨#[]⟩, .int .i64 0] 65), (.cells #[.slice (some ⟨w1.heap.size + 1 + 1 + 1, 0, none⟩) 1 1, .string ⟨#[]⟩, .bool false, .int .i64 0, .int .i64 0, .int .i64 0] 68), (.cells #[.string N, .slice (some ⟨w1.heap.size + 1 + 1 + 1 + 1, 0, none⟩) 1 1, .int .i64 0] 71), (.cells #[.string ⟨#[]⟩, .slice (some ⟨w1.heap.size + 1 + 1, 0, none⟩) 1 1, .slice (some ⟨w1.heap.size + 1 + 1 + 1 + 1 + 1, 0, none⟩) 1 1, .string ⟨#[]⟩] 74)] 2 _ rfl).1
  have hF3 : w7.heap[w1.heap.size + 1 + 1 + 1]? = some (.cells #[.string ⟨#[C]⟩, .bool true, .int .i64 0, .int .i64 0, .string ⟨#[]⟩, .int .i64 0] 65 (0, 0)) := by rw [hw7']; exact (heap_at w1 [(.cells #[.int .u8 (C.toNat : Int)] 5), (.cells #[.string ⟨#[C]⟩, .bool true, .int .i64 0, .int .i64 0, .string ⟨#[65]⟩, .bool false, .int .i64 num, .int .i64 0] 59), (.cells #[.int .i64 1, .string ⟨#[]⟩, .slice (some ⟨w1.heap.size + 1, 0, none⟩) 2 2, .int .i64 0] 62), (.cells #[.string ⟨#[C]⟩, .bool true, .int .i64 0, .int .i64 0, .string ⟨#[]⟩, .int .i64 0] 65), (.cells #[.slice (some ⟨w1.heap.size + 1 + 1 + 1, 0, none⟩) 1 1, .string ⟨#[]⟩, .bool false, .int .i64 0, .int .i64 0, .int .i64 0] 68), (.cells #[.string N, .slice (some ⟨w1.heap.size + 1 + 1 + 1 + 1, 0, none⟩) 1 1, .int .i64 0] 71), (.cells #[.string ⟨#[]⟩, .slice (some ⟨w1.heap.size + 1 + 1, 0, none⟩) 1 1, .slice (some ⟨w1.heap.size + 1 + 1 + 1 + 1 + 1, 0, none⟩) 1 1, .string ⟨#[]⟩] 74)] 3 _ rfl).1
  have hF4 : w7.heap[w1.heap.size + 1 + 1 + 1 + 1]? = some (.cells #[.slice (some ⟨w1.heap.size + 1 + 1 + 1, 0, none⟩) 1 1, .string ⟨#[]⟩, .bool false, .int .i64 0, .int .i64 0, .int .i64 0] 68 (0, 0)) := by rw [hw7']; exact (heap_at w1 [(.cells #[.int .u8 (C.toNat : Int)] 5), (.cells #[.string ⟨#[C]⟩, .bool true, .int .i64 0, .int .i64 0, .string ⟨#[65]⟩, .bool false, .int .i64 num, .int .i64 0] 59), (.cells #[.int .i64 1, .string ⟨#[]⟩, .slice (some ⟨w1.heap.size + 1, 0, none⟩) 2 2, .int .i64 0] 62), (.cells #[.string ⟨#[C]⟩, .bool true, .int .i64 0, .int .i64 0, .string ⟨#[]⟩, .int .i64 0] 65), (.cells #[.slice (some ⟨w1.heap.size + 1 + 1 + 1, 0, none⟩) 1 1, .string ⟨#[]⟩, .bool false, .int .i64 0, .int .i64 0, .int .i64 0] 68), (.cells #[.string N, .slice (some ⟨w1.heap.size + 1 + 1 + 1 + 1, 0, none⟩) 1 1, .int .i64 0] 71), (.cells #[.string ⟨#[]⟩, .slice (some ⟨w1.heap.size + 1 + 1, 0, none⟩) 1 1, .slice (some ⟨w1.heap.size + 1 + 1 + 1 + 1 + 1, 0, none⟩) 1 1, .string ⟨#[]⟩] 74)] 4 _ rfl).1
  have hF5 : w7.heap[w1.heap.size + 1 + 1 + 1 + 1 + 1]? = some (.cells #[.string N, .slice (some ⟨w1.heap.size + 1 + 1 + 1 + 1, 0, none⟩) 1 1, .int .i64 0] 71 (0, 0)) := by rw [hw7']; exact (heap_at w1 [(.cells #[.int .u8 (C.toNat : Int)] 5), (.cells #[.string ⟨#[C]⟩, .bool true, .int .i64 0, .int .i64 0, .string ⟨#[65]⟩, .bool false, .int .i64 num, .int .i64 0] 59), (.cells #[.int .i64 1, .string ⟨#[]⟩, .slice (some ⟨w1.heap.size + 1, 0, none⟩) 2 2, .int .i64 0] 62), (.cells #[.string ⟨#[C]⟩, .bool true, .int .i64 0, .int .i64 0, .string ⟨#[]⟩, .int .i64 0] 65), (.cells #[.slice (some ⟨w1.heap.size + 1 + 1 + 1, 0, none⟩) 1 1, .string ⟨#[]⟩, .bool false, .int .i64 0, .int .i64 0, .int .i64 0] 68), (.cells #[.string N, .slice (some ⟨w1.heap.size + 1 + 1 + 1 + 1, 0, none⟩) 1 1, .int .i64 0] 71), (.cells #[.string ⟨#[]⟩, .slice (some ⟨w1.heap.size + 1 + 1, 0, none⟩) 1 1, .slice (some ⟨w1.heap.size + 1 + 1 + 1 + 1 + 1, 0, none⟩) 1 1, .string ⟨#[]⟩] 74)] 5 _ rfl).1
  have hF6 : w7.heap[w1.heap.size + 1 + 1 + 1 + 1 + 1 + 1]? = some (.cells #[.string ⟨#[]⟩, .slice (some ⟨w1.heap.size + 1 + 1, 0, none⟩) 1 1, .slice (some ⟨w1.heap.size + 1 + 1 + 1 + 1 + 1, 0, none⟩) 1 1, .string ⟨#[]⟩] 74 (0, 0)) := by rw [hw7']; exact (heap_at w1 [(.cells #[.int .u8 (C.toNat : Int)] 5), (.cells #[.string ⟨#[C]⟩, .bool true, .int .i64 0, .int .i64 0, .string ⟨#[65]⟩, .bool false, .int .i64 num, .int .i64 0] 59), (.cells #[.int .i64 1, .string ⟨#[]⟩, .slice (some ⟨w1.heap.size + 1, 0, none⟩) 2 2, .int .i64 0] 62), (.cells #[.string ⟨#[C]⟩, .bool true, .int .i64 0, .int .i64 0, .string ⟨#[]⟩, .int .i64 0] 65), (.cells #[.slice (some ⟨w1.heap.size + 1 + 1 + 1, 0, none⟩) 1 1, .string ⟨#[]⟩, .bool false, .int .i64 0, .int .i64 0, .int .i64 0] 68), (.cells #[.string N, .slice (some ⟨w1.heap.size + 1 + 1 + 1 + 1, 0, none⟩) 1 1, .int .i64 0] 71), (.cells #[.string ⟨#[]⟩, .slice (some ⟨w1.heap.size + 1 + 1, 0, none⟩) 1 1, .slice (some ⟨w1.heap.size + 1 + 1 + 1 + 1 + 1, 0, none⟩) 1 1, .string ⟨#[]⟩] 74)] 6 _ rfl).1
  have hRA := rules_one (lf := N.data.toList) (nm := [C]) hF3 hF4 hF5
  have hDA : DeclsAt w7 (.slice (some ⟨w1.heap.size + 1 + 1, 0, none⟩) 1 1) [⟨1, [], [⟨[C], true, 0, 0⟩, ⟨[65], false, num, 0⟩], 0⟩] := by
    refine ⟨fun _ => .slice (some ⟨w1.heap.size + 1, 0, none⟩) 2 2, slAt_block [declC (.slice (some ⟨w1.heap.size + 1, 0, none⟩) 2 2) ⟨1, [], [⟨[C], true, 0, 0⟩, ⟨[65], false, num, 0⟩], 0⟩] 4 (by intro r hr; simp only [List.mem_singleton] at hr; subst hr; rfl) hF2 (show 1 ≤ maxLen by decide), ?_⟩
    intro i d hi
    cases i with
    | succ i => simp at hi
    | zero =>
      cases hi
      exact slAt_block [symC ⟨[C], true, 0, 0⟩, symC ⟨[65], false, num, 0⟩] 4 (by intro r hr; simp only [List.mem_cons, List.not_mem_nil, or_false] at hr; rcases hr with rfl | rfl <;> rfl) hF1 (show 2 ≤ maxLen by decide)
  have hg7 := hg1.below hb17
  have hnl : N.data.toList.length ≤ 25 := by
    have : N.data.toList.length = N.size := by simp
    omega
  obtain ⟨ok1, ok2, ok3⟩ := oneRule_ok N.data.toList [C] (by omega) (by simp) (by simp)
  have hsm : smallSrc (Sp.symSrc C N.data.toList num) := by
    refine ⟨by simp [Sp.symSrc], by simp [Sp.symSrc], by simp [Sp.symSrc], by simp [Sp.symSrc], ?_, ?_⟩
    · intro d hd
      simp only [Sp.symSrc, List.mem_singleton] at hd
      subst hd
      refine ⟨by simp, by simp, ?_⟩
      intro x hx
      simp only [List.mem_cons, List.not_mem_nil, or_false] at hx
      rcases hx with rfl | rfl <;> simp [smallSym]
    · intro r hr
      simp only [Sp.symSrc, List.mem_singleton] at hr
      subst hr
      exact ok2
  have hokk : (∀ d ∈ (Sp.symSrc C N.data.toList num).decls, okDecl d) ∧ ∀ r ∈ (Sp.symSrc C N.data.toList num).rules, okRule r := by
    refine ⟨?_, ?_⟩
    · intro d hd
      simp only [Sp.symSrc, List.mem_singleton] at hd
      subst hd
      refine ⟨by simp, by simp, by simp, by simp, ?_⟩
      intro x hx
      simp only [List.mem_cons, List.not_mem_nil, or_false] at hx
      rcases hx with rfl | rfl
      · exact ⟨by simp, by simp, by simp, by simp⟩
      · exact ⟨by simp, by simp, hnum.1, hnum.2⟩
    · intro r hr
      simp only [Sp.symSrc, List.mem_singleton] at hr
      subst hr
      exact ok1
  have htl : (Sp.text (Sp.symSrc C N.data.toList num)).length ≤ 100 := by
    cases hm : Sp.may (Sp.symSrc C N.data.toList num) with
    | false =>
      have : Sp.text (Sp.symSrc C N.data.toList num) = [] := by unfold Sp.text; rw [if_pos hm]
      rw [this]; simp
    | true =>
      rw [Sp.sym_text _ _ _ hm]
      have h1 := Sp.quoteText_len C
      have h2 : (if num = 0 then ([] : List UInt8) else 32 :: Lib.itoa num).length ≤ 22 := by
        have := Lib.itoa_length_le num hnum.1 hnum.2
        split <;> simp
        omega
      simp only [List.length_append, List.length_cons, List.length_nil]
      omega
  have HMX := Lib.hid (fun W' (hW : Below w7.heap.size w7 W') => (show Calls Tryd.prog 34 #[.agg #[.string ⟨#[]⟩, .slice (some ⟨w1.heap.size + 1 + 1, 0, none⟩) 1 1, .slice (some ⟨w1.heap.size + 1 + 1 + 1 + 1 + 1, 0, none⟩) 1 1, .string ⟨#[]⟩]] W' (fun e w'' => e = .returned (.bool (Sp.may (Sp.symSrc C N.data.toList num))) ∧ Below W'.heap.size W' w'') from
    print_May (Sp.symSrc C N.data.toList num) _ _ W' (hDA.below hW) (hRA.below hW) hsm (hg7.below hW)))
  have HTX := Lib.hid (fun W' (hW : Below w7.heap.size w7 W') => (show Calls Tryd.prog 35 #[.agg #[.string ⟨#[]⟩, .slice (some ⟨w1.heap.size + 1 + 1, 0, none⟩) 1 1, .slice (some ⟨w1.heap.size + 1 + 1 + 1 + 1 + 1, 0, none⟩) 1 1, .string ⟨#[]⟩]] W' (fun e w'' => e = .returned (.string ⟨(Sp.text (Sp.symSrc C N.data.toList num)).toArray⟩) ∧ Below W'.heap.size W' w'') from
    print_Text (Sp.symSrc C N.data.toList num) _ _ W' (hDA.below hW) (hRA.below hW) hsm (fun _ => hokk) (by omega) (hg7.below hW)))
  have HW7 := Lib.hid hw7
  have HF6 := Lib.hid hF6
  have HB17 := Lib.hid (HB1.out.trans (hb17.mono HB1.out.size))
  have hmay := Sp.sym_may C N.data.toList num
  have htxt := Sp.sym_text C N.data.toList num
  have hbadt : Sp.may (Sp.symSrc C N.data.toList num) = false → Sp.text (Sp.symSrc C N.data.toList num) = [] := fun h => by unfold Sp.text; rw [if_pos h]
  have hql := Sp.quoteText_len C
  have HQ := Lib.hid (fun W => ref_Quote C W)
  have HNM := Lib.hid (fun W => ref_Name N W (by omega))
  clear hw7 hw7' hb17 hF1 hF2 hF3 hF4 hF5 hF6 hRA hDA hg7 ok1 ok2 ok3 hsm hokk htl
  generalize Sp.may (Sp.symSrc C N.data.toList num) = M at HMX hmay hbadt htxt
  generalize Sp.text (Sp.symSrc C N.data.toList num) = T at HTX hbadt htxt
  generalize Sp.quoteText C = Q at HQ hmay htxt hql
  generalize hnm : Sp.isName N.data.toList = q at HNM hmay
  have HMAY := Lib.hid hmay; have HTXT := Lib.hid htxt; have HBAD := Lib.hid hbadt
  clear hmay htxt hbadt hnm hnl
  go_wp2_with fail
  refine (law_Text s 25 _).mono ?_
  rintro e w' ⟨rfl, rfl⟩
  rw [HN.out]
  go_wp2_with fail
  rw [← HW7.out]
  refine (HQ.out w7).mono ?_
  rintro e w8 ⟨rfl, hb8⟩
  have HB8 := Lib.hid hb8
  have hF8 := (hb8.block (w1.heap.size + 1 + 1 + 1 + 1 + 1 + 1) (by omega)).trans HF6.out
  have s0 := cell_at (i := 0) hF8; have s1 := cell_at (i := 1) hF8; have s2 := cell_at (i := 2) hF8; have s3 := cell_at (i := 3) hF8
  have l8 := lt_at hF8
  have HF8 := Lib.hid hF8
  clear hb8 hF8
  cases Q with
  | nil =>
    have hM : M = false := by rw [HMAY.out]; rfl
    subst hM
    have hT : T = [] := HBAD.out rfl
    subst hT
    go_wp2_with fail
    refine (HMX.out _ HB8.out).mono ?_
    rintro e w9 ⟨rfl, hb9⟩
    have HB9 := Lib.hid (HB8.out.trans (hb9.mono HB8.out.size))
    have hF9 := (hb9.block (w1.heap.size + 1 + 1 + 1 + 1 + 1 + 1) l8).trans HF8.out
    have t0 := cell_at (i := 0) hF9; have t1 := cell_at (i := 1) hF9; have t2 := cell_at (i := 2) hF9; have t3 := cell_at (i := 3) hF9
    have l9 := lt_at hF9
    clear hb9 hF9
    go_wp2_with fail
    refine (HTX.out _ HB9.out).mono ?_
    rintro e wa ⟨rfl, hba⟩
    have HBA := Lib.hid (HB9.out.trans (hba.mono HB9.out.size))
    clear hba
    go_wp2_with fail
    go_ret
    exact ⟨rfl, HB17.out.trans (HBA.out.mono (by have := HB17.out.size; omega))⟩
  | cons q0 Q =>
    have hne : (q0 :: Q).isEmpty = false := rfl
    cases q with
    | false =>
      have hM : M = false := by rw [HMAY.out]; simp
      subst hM
      have hT : T = [] := HBAD.out rfl
      subst hT
      go_wp2_with fail
      refine (law_Text s 25 _).mono ?_
      rintro e w' ⟨rfl, rfl⟩
      rw [HN.out]
      go_wp2_with fail
      refine (HNM.out _).mono ?_
      rintro e w' ⟨rfl, rfl⟩
      go_wp2_with fail
      refine (HMX.out _ HB8.out).mono ?_
      rintro e w9 ⟨rfl, hb9⟩
      have HB9 := Lib.hid (HB8.out.trans (hb9.mono HB8.out.size))
      have hF9 := (hb9.block (w1.heap.size + 1 + 1 + 1 + 1 + 1 + 1) l8).trans HF8.out
      have t0 := cell_at (i := 0) hF9; have t1 := cell_at (i := 1) hF9; have t2 := cell_at (i := 2) hF9; have t3 := cell_at (i := 3) hF9
      have l9 := lt_at hF9
      clear hb9 hF9
      go_wp2_with fail
      refine (HTX.out _ HB9.out).mono ?_
      rintro e wa ⟨rfl, hba⟩
      have HBA := Lib.hid (HB9.out.trans (hba.mono HB9.out.size))
      clear hba
      go_wp2_with fail
      go_ret
      exact ⟨rfl, HB17.out.trans (HBA.out.mono (by have := HB17.out.size; omega))⟩
    | true =>
      by_cases hneg : num < 0
      · have hz : decide (0 ≤ num) = false := by rw [decide_eq_false_iff_not]; omega
        have hM : M = false := by rw [HMAY.out, hz]; simp
        subst hM
        have hT : T = [] := HBAD.out rfl
        subst hT
        go_wp2_with fail
        refine (law_Text s 25 _).mono ?_
        rintro e w' ⟨rfl, rfl⟩
        rw [HN.out]
        go_wp2_with fail
        refine (HNM.out _).mono ?_
        rintro e w' ⟨rfl, rfl⟩
        go_wp2_with fail
        refine (HMX.out _ HB8.out).mono ?_
        rintro e w9 ⟨rfl, hb9⟩
        have HB9 := Lib.hid (HB8.out.trans (hb9.mono HB8.out.size))
        have hF9 := (hb9.block (w1.heap.size + 1 + 1 + 1 + 1 + 1 + 1) l8).trans HF8.out
        have t0 := cell_at (i := 0) hF9; have t1 := cell_at (i := 1) hF9; have t2 := cell_at (i := 2) hF9; have t3 := cell_at (i := 3) hF9
        have l9 := lt_at hF9
        clear hb9 hF9
        go_wp2_with fail
        refine (HTX.out _ HB9.out).mono ?_
        rintro e wa ⟨rfl, hba⟩
        have HBA := Lib.hid (HB9.out.trans (hba.mono HB9.out.size))
        clear hba
        go_wp2_with fail
        go_ret
        exact ⟨rfl, HB17.out.trans (HBA.out.mono (by have := HB17.out.size; omega))⟩
      · by_cases hbig : 50000 < num
        · have hz : decide (num ≤ 50000) = false := by rw [decide_eq_false_iff_not]; omega
          have hM : M = false := by rw [HMAY.out, hz]; simp
          subst hM
          have hT : T = [] := HBAD.out rfl
          subst hT
          go_wp2_with fail
          refine (law_Text s 25 _).mono ?_
          rintro e w' ⟨rfl, rfl⟩
          rw [HN.out]
          go_wp2_with fail
          refine (HNM.out _).mono ?_
          rintro e w' ⟨rfl, rfl⟩
          go_wp2_with fail
          refine (HMX.out _ HB8.out).mono ?_
          rintro e w9 ⟨rfl, hb9⟩
          have HB9 := Lib.hid (HB8.out.trans (hb9.mono HB8.out.size))
          have hF9 := (hb9.block (w1.heap.size + 1 + 1 + 1 + 1 + 1 + 1) l8).trans HF8.out
          have t0 := cell_at (i := 0) hF9; have t1 := cell_at (i := 1) hF9; have t2 := cell_at (i := 2) hF9; have t3 := cell_at (i := 3) hF9
          have l9 := lt_at hF9
          clear hb9 hF9
          go_wp2_with fail
          refine (HTX.out _ HB9.out).mono ?_
          rintro e wa ⟨rfl, hba⟩
          have HBA := Lib.hid (HB9.out.trans (hba.mono HB9.out.size))
          clear hba
          go_wp2_with fail
          go_ret
          exact ⟨rfl, HB17.out.trans (HBA.out.mono (by have := HB17.out.size; omega))⟩
        · have hM : M = true := by
            rw [HMAY.out]
            have e1 : decide (0 ≤ num) = true := by rw [decide_eq_true_iff]; omega
            have e2 : decide (num ≤ 50000) = true := by rw [decide_eq_true_iff]; omega
            rw [e1, e2]; rfl
          subst hM
          have hT := HTXT.out rfl
          have hql2 : Q.length + 1 ≤ 4 := hql
          have hng : ¬ num < 0 := hneg
          by_cases hz : num = 0
          · subst hz
            rw [if_pos rfl] at hT
            obtain ⟨TB, hTB⟩ : ∃ TB : ByteArray, TB = ⟨T.toArray⟩ := ⟨_, rfl⟩
            rw [← hTB] at HTX
            rw [hT] at hTB
            have HTB := Lib.hid hTB
            clear hTB hT hneg hbig hng
            go_wp2_with fail
            refine (law_Text s 25 _).mono ?_
            rintro e w' ⟨rfl, rfl⟩
            rw [HN.out]
            go_wp2_with fail
            refine (HNM.out _).mono ?_
            rintro e w' ⟨rfl, rfl⟩
            go_wp2_with fail
            refine (HTX.out _ HB8.out).mono ?_
            rintro e w9 ⟨rfl, hb9⟩
            have HB9 := Lib.hid (HB8.out.trans (hb9.mono HB8.out.size))
            clear hb9
            go_wp2_with fail
            refine (law_Text s 25 _).mono ?_
            rintro e w' ⟨rfl, rfl⟩
            rw [HN.out]
            go_wp2_with fail
            go_ret
            refine ⟨ret_bool ?_, HB17.out.trans (HB9.out.mono (by have := HB17.out.size; omega))⟩
            rw [HTB.out]
            simp [Lib.toList_data]
          · rw [if_neg hz] at hT
            have HD := Lib.hid (fun W => ref_Digits num W (by omega) (by omega))
            have hil := Lib.itoa_length_le num hnum.1 hnum.2
            generalize Lib.itoa num = I at HD hT hil
            obtain ⟨TB, hTB⟩ : ∃ TB : ByteArray, TB = ⟨T.toArray⟩ := ⟨_, rfl⟩
            rw [← hTB] at HTX
            rw [hT] at hTB
            have HTB := Lib.hid hTB
            have hpos : 0 < num := by omega
            have hle : num ≤ 50000 := by omega
            have hge : 0 ≤ num := by omega
            clear hTB hT hneg hbig hng hz
            go_wp2_with fail
            refine (law_Text s 25 _).mono ?_
            rintro e w' ⟨rfl, rfl⟩
            rw [HN.out]
            go_wp2_with fail
            refine (HNM.out _).mono ?_
            rintro e w' ⟨rfl, rfl⟩
            go_wp2_with fail
            refine (HD.out _).mono ?_
            rintro e wd ⟨rfl, hbd⟩
            have HBD := Lib.hid (HB8.out.trans (hbd.mono HB8.out.size))
            have hFd := (hbd.block (w1.heap.size + 1 + 1 + 1 + 1 + 1 + 1) l8).trans HF8.out
            have d0 := cell_at (i := 0) hFd; have d1 := cell_at (i := 1) hFd; have d2 := cell_at (i := 2) hFd; have d3 := cell_at (i := 3) hFd
            have ld := lt_at hFd
            clear hbd hFd
            go_wp2_with fail
            refine (HTX.out _ HBD.out).mono ?_
            rintro e w9 ⟨rfl, hb9⟩
            have HB9 := Lib.hid (HBD.out.trans (hb9.mono HBD.out.size))
            clear hb9
            go_wp2_with fail
            refine (law_Text s 25 _).mono ?_
            rintro e w' ⟨rfl, rfl⟩
            rw [HN.out]
            go_wp2_with fail
            go_ret
            refine ⟨ret_bool ?_, HB17.out.trans (HB9.out.mono (by have := HB17.out.size; omega))⟩
            rw [HTB.out]
            simp [Lib.toList_data]
end Go.Proofs.YticdgfljaphhgaaDoor
