/- LexLong: the plain laws (names of twenty bytes, numbers up to the greatest, blanks; no program in sight), then the walk. -/
import Derived.Test.YticdgfljaphhgaaDoorCp
import Derived.Deep.OwnRows
import Derived.Laws.IdiomStrings
import Derived.Test.YticdgfljaphhgaaDoorSpR
import Derived.Test.YticdgfljaphhgaaDoorSpH
namespace Go.Proofs.YticdgfljaphhgaaDoor
namespace Sp
open Go.Lib (index indexByte hasPrefix)

theorem long_closed : ((List.range 31).all fun k => (words (32 :: List.replicate (k + 1) 110)).2 == (if k < 20 then (0, 0) else (2, 1)) && (words (60 :: (List.replicate (k + 1) 110 ++ [62]))).2.1 == (if k < 20 then 0 else 2)) = true := by kernel_rfl
theorem long_name (k : Nat) (h : k < 31) : (words (32 :: List.replicate (k + 1) 110)).2 = (if k < 20 then (0, 0) else (2, 1)) ∧ (words (60 :: (List.replicate (k + 1) 110 ++ [62]))).2.1 = (if k < 20 then 0 else 2) := by
  have := List.all_eq_true.1 long_closed k (List.mem_range.2 h)
  simpa using this
theorem skip_blanks : ∀ n : Nat, skip (List.replicate n 32) = (n, true)
  | 0 => rfl
  | n + 1 => by
    have hg : gap (List.replicate (n + 1) 32) = some (0 + 1) := rfl
    rw [skip_succ hg]
    show (0 + 1 + (skip (List.replicate n 32)).1, (skip (List.replicate n 32)).2) = _
    rw [skip_blanks n]
    simp; omega
theorem words_blanks (n : Nat) (h : n ≤ 4000) : (words (List.replicate n 32)).2 = (0, 0) := by
  unfold words
  rw [if_neg (by simpa using h)]
  unfold wordsGo
  rw [skip_blanks n, if_pos (by simp)]
  rfl
theorem dec_short : ∀ (k m : Nat), m < 10 ^ (k + 1) → (Go.Lib.decDigits m).length ≤ k + 1
  | 0, m, h => by rw [Go.Lib.decDigits, dif_pos (by simpa using h)]; simp
  | k + 1, m, h => by
    rw [Go.Lib.decDigits]
    split
    · simp
    · have := dec_short k (m / 10) (by rw [Nat.div_lt_iff_lt_mul (by decide)]; rw [Nat.pow_succ] at h; omega)
      simp; omega
theorem dec_head (m : Nat) : ∃ d t, Go.Lib.decDigits m = UInt8.ofNat (48 + d) :: t ∧ d < 10 ∧ (d = 0 ↔ m = 0) := by
  induction m using Nat.strongRecOn with
  | _ m ih =>
    by_cases h : m < 10
    · exact ⟨m, [], by rw [Go.Lib.decDigits, dif_pos h], h, Iff.rfl⟩
    · obtain ⟨d, t, h1, h2, h3⟩ := ih (m / 10) (by omega)
      refine ⟨d, t ++ [UInt8.ofNat (48 + m % 10)], ?_, h2, by rw [h3]; omega⟩
      rw [Go.Lib.decDigits, dif_neg h, h1]; rfl
theorem digits_all : ∀ (d : List UInt8), (∀ c ∈ d, digit c = true) → digits d = d.length
  | [], _ => rfl
  | c :: t, h => by
    unfold digits
    rw [if_pos (h c (by simp)), digits_all t (fun y hy => h y (by simp [hy]))]
    rfl
theorem number_dec (m : Nat) (hm : m < 60000) : number (Go.Lib.decDigits m) = if 1 ≤ m ∧ m ≤ 50000 then (Go.Lib.decDigits m).length else 0 := by
  have hd := decDigits_digit m
  have hl := dec_short 4 m (by omega)
  obtain ⟨d, t, h1, h2, h3⟩ := dec_head m
  have hh : ((Go.Lib.decDigits m).head? = some 48) ↔ m = 0 := by
    rw [h1]
    simp only [List.head?_cons, Option.some.injEq]
    rw [← h3]
    constructor
    · intro h; have := congrArg UInt8.toNat h; simp at this; omega
    · rintro rfl; rfl
  have hn : num ((Go.Lib.decDigits m).take (digits (Go.Lib.decDigits m))) = m := by
    rw [digits_all _ hd, List.take_length]
    exact num_of_dec _ _ (decDigits_ne m) hd (decFrom_dec m)
  unfold number
  rw [hn, digits_all _ hd, List.drop_length]
  by_cases h0 : m = 0
  · rw [if_pos (.inr (.inl (hh.2 h0))), if_neg (by omega)]
  · rw [if_neg (by rw [not_or, not_or]; exact ⟨by omega, fun h => h0 (hh.1 h), by simp [stuck]⟩)]
    by_cases h5 : m ≤ 50000
    · rw [if_neg (by omega), if_pos (by omega)]
    · rw [if_pos (by omega), if_neg (by omega)]
theorem words_number (m : Nat) (hm : m < 60000) : (words (120 :: 32 :: Go.Lib.decDigits m)).2 = if 1 ≤ m ∧ m ≤ 50000 then (0, 0) else (2, 2) := by
  have hl := dec_short 4 m (by omega)
  have hn := number_dec m hm
  have hd := decDigits_digit m
  obtain ⟨d, t, h1, h2, _⟩ := dec_head m
  unfold words
  rw [if_neg (by simp; omega)]
  rw [h1] at hn hd ⊢
  generalize hc : UInt8.ofNat (48 + d) = c at hn hd ⊢
  have hcn : c.toNat = 48 + d := by rw [← hc]; simp; omega
  have hdc := hd c (by simp)
  have hlc : letter c = false := by unfold letter; rw [hcn]; simp; omega
  have hg : gap (c :: t) = some 0 := by
    show (if blank c = true then some 1 else if ((c.toNat : Int) == 47) = true then passLen (c :: t) else some 0) = _
    rw [if_neg (by unfold blank; rw [hcn]; simp; omega), if_neg (by rw [hcn]; simp; omega)]
  have hx : word (120 :: 32 :: c :: t) = (1, [120], 1) := rfl
  rw [wordsGo_word _ _ _ _ rfl (by simp), hx, if_neg (by simp), if_neg (by simp)]
  show (wordsRes ((wordsGo ((32 :: c :: t).length + 1) 0 1 (32 :: c :: t)).map _)).2 = _
  rw [wordsGo_gap _ _ _ 0 _ rfl]
  show (wordsRes ((wordsGo ((32 :: c :: t).length + 1) 0 2 (c :: t)).map _)).2 = _
  have hw : word (c :: t) = if 0 < number (c :: t) then (3, (c :: t).take (number (c :: t)), number (c :: t)) else noWord := by
    show (if letter c = true then _ else _) = _
    rw [if_neg (by rw [hlc]; simp), if_pos hdc]
  rw [wordsGo_word _ _ _ _ hg (by simp)]
  by_cases h : 1 ≤ m ∧ m ≤ 50000
  · rw [if_pos h] at hn
    have hw' : word (c :: t) = (3, c :: t, (c :: t).length) := by rw [hw, hn, if_pos (by simp), List.take_length]
    rw [hw', if_neg (by simp), if_neg (by simp), if_pos h, List.drop_length]
    show (wordsRes (((wordsGo ((c :: t).length + 1) _ _ []).map _).map _)).2 = _
    rw [wordsGo_nil]
    rfl
  · rw [if_neg h] at hn
    have hw' : word (c :: t) = noWord := by rw [hw, hn, if_neg (by simp)]
    rw [hw', if_pos (show noWord.2.2 = 0 from rfl), if_neg h]
    rfl
end Sp
open Go.RowKit

set_option maxHeartbeats 400000 in
theorem ref_WithinL (i : Int) (n : Nat) (w : World) (hn : 0 < n) (hb : n ≤ 60000) (hi : (Lit.int .i64 i).wf = true) :
    Calls Tryd.prog 24 #[.int .i64 i, .int .i64 n] w fun e w' => e = .returned (.int .i64 (i % (n : Int))) ∧ w = w' := by
  have h1 := Int.tmod_lt_of_pos i (b := (n : Int)) (by omega)
  have h2 : -(n : Int) < i.tmod n := by
    by_cases hi : 0 ≤ i
    · have := Int.tmod_nonneg (n : Int) hi; omega
    · have := Int.tmod_lt_of_pos (-i) (b := (n : Int)) (by omega)
      rw [Int.neg_tmod] at this; omega
  have h3 : i % (n : Int) = if i.tmod n < 0 then i.tmod n + n else i.tmod n := by
    have e1 := Int.mul_tdiv_add_tmod i n
    split
    · refine Int.emod_eq_of_lt (a := i.tmod n + n) (b := (n : Int)) (by omega) (by omega) ▸ ?_
      conv => lhs; rw [← e1]
      rw [Int.mul_add_emod_self_left, Int.add_emod_right]
    · refine Int.emod_eq_of_lt (a := i.tmod n) (b := (n : Int)) (by omega) (by omega) ▸ ?_
      conv => lhs; rw [← e1]
      rw [Int.mul_add_emod_self_left]
  generalize i % (n : Int) = N at *
  have HN := Lib.hid h3
  clear h3
  go_enter Tryd.func24, Tryd.ntmps24
  go_wp2
  all_goals (go_ret; have h3 := HN.out; refine ⟨ret_int ?_, rfl⟩)
  · rw [if_pos (by omega)] at h3
    rw [h3]
  · rw [if_neg (by omega)] at h3
    rw [h3]

set_option maxRecDepth 100000 in
set_option maxHeartbeats 3200000 in
theorem law_LexLong (n num : Int) (w : World) (h1 : (Lit.int .i64 n).wf = true) (h2 : (Lit.int .i64 num).wf = true) (hg : Gl w) :
    Calls Tryd.prog 12 #[.int .i64 n, .int .i64 num] w fun e w' => e = .returned (.bool true) ∧ Below w.heap.size w w' := by
  have HW := Lib.hid (fun W => ref_WithinL n 30 W (by decide) (by decide) h1)
  have HZ := Lib.hid (fun W => ref_WithinL num 60000 W (by decide) (by decide) h2)
  obtain ⟨k, hk, hk2⟩ : ∃ k : Nat, n % ((30 : Nat) : Int) = (k : Int) ∧ k < 30 := ⟨(n % ((30 : Nat) : Int)).toNat, by omega, by omega⟩
  obtain ⟨m, hm, hm2⟩ : ∃ m : Nat, num % ((60000 : Nat) : Int) = (m : Int) ∧ m < 60000 := ⟨(num % ((60000 : Nat) : Int)).toNat, by omega, by omega⟩
  rw [hk] at HW
  rw [hm] at HZ
  clear hm hk h1 h2
  have hk0 : (0 : Int) ≤ (k : Int) := Int.natCast_nonneg _
  have hk1 : (k : Int) < 30 := by omega
  go_enter Tryd.func12, Tryd.ntmps12
  go_wp2_with fail
  refine (wakes6 w hg).mono ?_
  rintro e w1 ⟨rfl, hb1⟩
  have hg1 := hg.below hb1
  go_wp2_with fail
  refine (HW.out _).mono ?_
  rintro e w' ⟨rfl, rfl⟩
  go_wp2_with fail
  refine (HZ.out _).mono ?_
  rintro e w' ⟨rfl, rfl⟩
  go_wp2_with fail
  go_loop [5, 6] (fun sv iv => ∃ (i : Nat) (S : ByteArray), i ≤ k + 1 ∧ iv = .int .i64 i ∧ sv = .string S ∧ S.size = i ∧ Hid (S.data.toList = List.replicate i 110)) (fun _ iv => k + 1 - (intOf iv).toNat)
  case atStart => exact ⟨0, ⟨#[]⟩, Nat.zero_le _, rfl, rfl, rfl, Lib.hid rfl⟩
  case round =>
    obtain ⟨i, S, hi, rfl, rfl, hS, HS⟩ := hrel
    have hi0 : (0 : Int) ≤ (i : Int) := Int.natCast_nonneg _
    by_cases hlt : i < k + 1
    · have hlt' : (i : Int) < 1 + (k : Int) := by omega
      go_wp2_with fail
      go_round
      case rel =>
        go_light
        exact ⟨i + 1, S ++ ⟨#[110]⟩, by omega, by go_num, rfl, by rw [ByteArray.size_append, hS]; rfl, Lib.hid (by
          have e : (S ++ (⟨#[110]⟩ : ByteArray)).data.toList = S.data.toList ++ [110] := by simp
          rw [e, HS.out, List.replicate_succ'])⟩
      case measure => go_light; simp [intOf]; omega
    · obtain rfl : i = k + 1 := by omega
      have hA : (⟨#[32]⟩ ++ S : ByteArray).data.toList = 32 :: List.replicate (k + 1) 110 := by simp [HS.out]
      have hB : (⟨#[60]⟩ ++ S ++ ⟨#[62]⟩ : ByteArray).data.toList = 60 :: (List.replicate (k + 1) 110 ++ [62]) := by simp [HS.out]
      have hsA : (⟨#[32]⟩ ++ S : ByteArray).size < 100 := by rw [ByteArray.size_append]; show 1 + S.size < 100; omega
      have hsB : (⟨#[60]⟩ ++ S ++ ⟨#[62]⟩ : ByteArray).size < 100 := by rw [ByteArray.size_append, ByteArray.size_append]; show 1 + S.size + 1 < 100; omega
      have HA : Hid (∀ W, Gl W → Calls Tryd.prog 28 #[.string (⟨#[32]⟩ ++ S)] W (WordsPost (Sp.words (32 :: List.replicate (k + 1) 110)) W)) := Lib.hid (fun W hW => by
        have h := lex_Words (⟨#[32]⟩ ++ S) W (by omega) hW
        rw [hA] at h; exact h)
      have HB : Hid (∀ W, Gl W → Calls Tryd.prog 28 #[.string (⟨#[60]⟩ ++ S ++ ⟨#[62]⟩)] W (WordsPost (Sp.words (60 :: (List.replicate (k + 1) 110 ++ [62]))) W)) := Lib.hid (fun W hW => by
        have h := lex_Words (⟨#[60]⟩ ++ S ++ ⟨#[62]⟩) W (by omega) hW
        rw [hB] at h; exact h)
      obtain ⟨hl1, hl2⟩ := Sp.long_name k (by omega)
      generalize Sp.words (32 :: List.replicate (k + 1) 110) = rA at HA hl1
      generalize Sp.words (60 :: (List.replicate (k + 1) 110 ++ [62])) = rB at HB hl2
      obtain ⟨wsA, eA, pA⟩ := rA
      obtain ⟨wsB, eB, pB⟩ := rB
      simp only at hl1 hl2
      have HL1 := Lib.hid hl1
      have HL2 := Lib.hid hl2
      have HD := Lib.hid (fun W => ref_Digits (m : Int) W (by omega) (by omega))
      rw [Lib.itoa_nonneg] at HD
      obtain ⟨D0, hD0, hD0'⟩ : ∃ D0 : ByteArray, D0 = ⟨(Lib.decDigits m).toArray⟩ ∧ D0.data.toList = Lib.decDigits m := ⟨_, rfl, by simp⟩
      rw [← hD0] at HD
      have hds := Sp.dec_short 4 m (by omega)
      have hs0 : D0.size ≤ 5 := by rw [size_list hD0']; omega
      have hC : (⟨#[120, 32]⟩ ++ D0 : ByteArray).data.toList = 120 :: 32 :: Lib.decDigits m := by simp [hD0']
      have hsC : (⟨#[120, 32]⟩ ++ D0 : ByteArray).size < 100 := by rw [ByteArray.size_append, size_list hD0']; show 2 + _ < 100; omega
      have HC : Hid (∀ W, Gl W → Calls Tryd.prog 28 #[.string (⟨#[120, 32]⟩ ++ D0)] W (WordsPost (Sp.words (120 :: 32 :: Lib.decDigits m)) W)) := Lib.hid (fun W hW => by
        have h := lex_Words (⟨#[120, 32]⟩ ++ D0) W (by omega) hW
        rw [hC] at h; exact h)
      have hl3 := Sp.words_number m hm2
      generalize Sp.words (120 :: 32 :: Lib.decDigits m) = rC at HC hl3
      obtain ⟨wsC, eC, pC⟩ := rC
      simp only at hl3
      have HL3 := Lib.hid hl3
      clear hA hB hsA hsB HS hl1 hl2 hl3 hC hsC hds hD0 hD0'
      go_wp2_with fail
      refine (HA.out _ hg1).mono ?_
      rintro e w2 ⟨v2, rfl, ho2, hb2⟩
      obtain ⟨a2, cap2, rfl⟩ := ownsRow_some ho2
      have hg2 := hg1.below hb2
      have HG2 := Lib.hid (fun o : Obj => hg2.alloc o)
      clear ho2
      go_wp2_with fail
      refine (HB.out _ (HG2.out _)).mono ?_
      rintro e w3 ⟨v3, rfl, ho3, hb3⟩
      obtain ⟨a3, cap3, rfl⟩ := ownsRow_some ho3
      have hg3 := (HG2.out _).below hb3
      have HG3 := Lib.hid (fun o : Obj => hg3.alloc o)
      clear ho3
      go_wp2_with fail
      refine (HD.out _).mono ?_
      rintro e w4 ⟨rfl, hb4⟩
      have hg4 := (HG3.out _).below hb4
      go_wp2_with fail
      refine (HC.out _ hg4).mono ?_
      rintro e w5 ⟨v5, rfl, ho5, hb5⟩
      obtain ⟨a5, cap5, rfl⟩ := ownsRow_some ho5
      have hg5 := hg4.below hb5
      clear ho5
      obtain ⟨N, hN⟩ : ∃ N : Nat, N = 3985 + (1 + k) := ⟨_, rfl⟩
      have hmk : ∀ W : World, (Instr.makeSlice 45 (.int .i64 (3985 + (1 + (k : Int)))) (.int .i64 (3985 + (1 + (k : Int))))).run Tryd.prog W = .ok (.slice (some ⟨W.heap.size, 0, none⟩) N N) (W.alloc (.cells (madeCells #[.int .u8 0] N) 5)) := fun W => by
        have h := run_make_row' (P := Tryd.prog) 45 5 (.int .u8 0) 1 Tryd.underlying45 (by kernel_rfl) rfl .i64 .i64 N (by omega) (by omega) W
        rw [hN] at h ⊢
        simpa using h
      have HNN := Lib.hid hN
      clear hN
      go_wp2_with fail
      have hF2 : w5.heap[w2.heap.size]? = some (.cells #[.int .i64 eA, .int .i64 (pA : Nat), .string ⟨#[]⟩] 49 (0, 0)) := by
        have h1 := (hb3.block w2.heap.size (by simp)).trans (heap_last w2 _)
        have h2 := (hb4.block w2.heap.size (by have := hb3.size; simp at this ⊢; omega)).trans (heap_alloc_of2 h1 _)
        exact (hb5.block w2.heap.size (by have := hb3.size; have := hb4.size; simp at *; omega)).trans h2
      have hF3 : w5.heap[w3.heap.size]? = some (.cells #[.int .i64 eB, .int .i64 (pB : Nat), .string ⟨#[]⟩] 49 (0, 0)) := by
        have h2 := (hb4.block w3.heap.size (by simp)).trans (heap_last w3 _)
        exact (hb5.block w3.heap.size (by have := hb4.size; simp at *; omega)).trans h2
      have hs23 : w2.heap.size < w3.heap.size := by have := hb3.size; simp at this; omega
      have hs35 : w3.heap.size < w5.heap.size := by have := hb4.size; have := hb5.size; simp at *; omega
      have hb05 : Below w.heap.size w w5 := (((hb1.trans (hb2.mono hb1.size)).alloc (by have := hb1.size; have := hb2.size; omega) _).trans (hb3.mono (by have := hb1.size; have := hb2.size; simp; omega))).alloc (by have := hb1.size; have := hb2.size; omega) _ |>.trans (hb4.mono (by have := hb1.size; have := hb2.size; simp; omega)) |>.trans (hb5.mono (by have := hb1.size; have := hb2.size; have := hb4.size; simp at *; omega))
      have HF2 := Lib.hid hF2; have HF3 := Lib.hid hF3; have HB5 := Lib.hid hb05
      clear hF2 hF3 hb1 hb2 hb3 hb4 hb5 hg1 hg2 hg3 hg4 HG2 HG3 hb05
      go_loopw [14] (fun iv wr => ∃ i : Nat, i ≤ N ∧ iv = .int .i64 i ∧ Hid (wr.rowIs (w5.heap.size + 1) 5 N (fun j => if j < i then .int .u8 32 else .int .u8 0)) ∧ Hid (Below (w5.heap.size + 1) (w5.alloc (.cells #[.int .i64 eC, .int .i64 (pC : Nat), .string ⟨#[]⟩] 49)) wr)) (fun iv _ => N - (intOf iv).toNat)
      case atStart =>
        refine ⟨0, Nat.zero_le _, rfl, Lib.hid ?_, Lib.hid ((Below.refl _ _).alloc (by simp) _)⟩
        have h := World.rowIs_made (w5.alloc (.cells #[.int .i64 eC, .int .i64 (pC : Nat), .string ⟨#[]⟩] 49)) (.int .u8 0) N 5
        rw [World.size_alloc] at h
        rw [HNN.out] at h ⊢
        exact h.congr (fun i _ => by rw [if_neg (Nat.not_lt_zero _)])
      case round =>
        obtain ⟨i, hi, rfl, HR, HW⟩ := hrel
        have hi0 : (0 : Int) ≤ (i : Int) := Int.natCast_nonneg _
        have hNN := HNN.out
        by_cases hlt : i < N
        · have hc := HR.out.cell hlt
          have hf := HR.out.frozen i
          have hlt' : (i : Int) < 3985 + (1 + (k : Int)) := by omega
          have hlt2 : i < 3985 + (1 + k) := by omega
          clear hNN
          go_wp2_with fail
          go_roundw
          case rel =>
            go_light
            refine ⟨i + 1, by omega, by go_num, Lib.hid ?_, Lib.hid (HW.out.setCell (Nat.le_refl _) _)⟩
            refine (HR.out.set i _).congr (fun j hj => ?_)
            by_cases h1 : j = i
            · subst h1; simp
            · by_cases h2 : j < i
              · simp [h1, h2]; omega
              · simp [h1, h2]; omega
          case measure => go_light; simp [intOf]; omega
        · obtain rfl : i = N := by omega
          have hcells : ∀ j, j < i → wr.cell? ⟨w5.heap.size + 1, j, none⟩ = some (.int .u8 32) := fun j hj => by
            have h := HR.out.cell hj
            rw [if_pos hj] at h
            exact h
          have hnlt : ¬ (i : Int) < 3985 + (1 + (k : Int)) := by omega
          have hnlt2 : ¬ i < 3985 + (1 + k) := by omega
          have hcv : ∀ W : World, (∀ j, j < i → W.cell? ⟨w5.heap.size + 1, j, none⟩ = some (.int .u8 32)) → (convert 45 9 (.slice (some ⟨w5.heap.size + 1, 0, none⟩) i i)).run Tryd.prog W = .ok (.string ⟨(List.replicate i 32).toArray⟩) W := fun W hW => by
            have h := run_convert_bytes_back (P := Tryd.prog) W 45 9 5 ⟨w5.heap.size + 1, 0, none⟩ i (List.replicate i 32) Tryd.underlying45 Tryd.underlying5 Tryd.underlying9 (fun j hj => by
              rw [List.length_replicate] at hj
              have e : (⟨w5.heap.size + 1, 0, none⟩ : Addr).add j = ⟨w5.heap.size + 1, j, none⟩ := by unfold Addr.add; split <;> simp_all
              rw [e, hW j hj]
              simp)
            rw [List.length_replicate] at h
            exact h
          have hcv1 := hcv wr hcells
          have hcv2 := hcv wr.drew hcells
          have hK : (⟨(List.replicate i 32).toArray⟩ : ByteArray).data.toList = List.replicate i 32 := by simp
          have hsK : (⟨(List.replicate i 32).toArray⟩ : ByteArray).size < 5000 := by rw [Lib.size_eq]; simp; omega
          have HK : Hid (∀ W, Gl W → Calls Tryd.prog 28 #[.string ⟨(List.replicate i 32).toArray⟩] W (WordsPost (Sp.words (List.replicate i 32)) W)) := Lib.hid (fun W hW => by
            have h := lex_Words ⟨(List.replicate i 32).toArray⟩ W (by omega) hW
            rw [hK] at h; exact h)
          have hl4 : (Sp.words (List.replicate i 32)).2.1 = if i ≤ 4000 then 0 else 4 := by
            by_cases h : i ≤ 4000
            · rw [Sp.words_blanks i h, if_pos h]
            · unfold Sp.words
              rw [if_pos (by simp; omega), if_neg h]
          generalize Sp.words (List.replicate i 32) = rK at HK hl4
          obtain ⟨wsK, eK, pK⟩ := rK
          simp only at hl4
          have HL4 := Lib.hid hl4
          have hgr := Lib.hid ((hg5.alloc _).below (HW.out.mono (by simp)))
          have hszr := HW.out.size
          simp only [World.size_alloc] at hszr
          clear hcv hK hsK hl4 hNN hcells
          go_wp2_with fail
          refine (HK.out _ hgr.out).mono ?_
          rintro e w7 ⟨v7, rfl, ho7, hb7⟩
          obtain ⟨a7, cap7, rfl⟩ := ownsRow_some ho7
          have e2 := (hb7.block w2.heap.size (by omega)).trans ((HW.out.block w2.heap.size (by omega)).trans (heap_alloc_of2 HF2.out _))
          have e3 := (hb7.block w3.heap.size (by omega)).trans ((HW.out.block w3.heap.size (by omega)).trans (heap_alloc_of2 HF3.out _))
          have e5 := (hb7.block w5.heap.size (by omega)).trans ((HW.out.block w5.heap.size (by omega)).trans (heap_last w5 _))
          have a0 := cell_at (i := 0) e2; have a1 := cell_at (i := 1) e2
          have b0 := cell_at (i := 0) e3; have b1 := cell_at (i := 1) e3
          have c0 := cell_at (i := 0) e5; have c1 := cell_at (i := 1) e5
          have hsz7 := hb7.size
          have hl2 : w2.heap.size < w7.heap.size := by omega
          have hl3 : w3.heap.size < w7.heap.size := by omega
          have hl5 : w5.heap.size < w7.heap.size := by omega
          have HFIN := Lib.hid (show Below w.heap.size w w7 from (((HB5.out.alloc HB5.out.size _).trans (HW.out.mono (by have := HB5.out.size; omega))).trans (hb7.mono (by have := HB5.out.size; omega))))
          have hm0 : (0 : Int) ≤ (m : Int) := Int.natCast_nonneg _
          have hi4 : i = 3985 + (1 + k) := HNN.out
          clear ho7 hb7 e2 e3 e5 hcv1 hcv2
          have hA1 := HL1.out; have hB1 := HL2.out; have hC1 := HL3.out; have hD1 := HL4.out
          by_cases hk15 : k < 15
          · rw [if_pos (by omega)] at hA1 hB1 hD1
            obtain ⟨rfl, rfl⟩ : eA = 0 ∧ pA = 0 := by simpa using hA1
            subst hB1 hD1
            have u1 : 1 + (k : Int) ≤ 20 := by omega
            have u2 : 1 + (k : Int) ≤ 15 := by omega
            clear hk15
            by_cases hmm : 1 ≤ m ∧ m ≤ 50000
            · rw [if_pos hmm] at hC1
              obtain ⟨rfl, rfl⟩ : eC = 0 ∧ pC = 0 := by simpa using hC1
              have u3 : (1 : Int) ≤ (m : Int) := by omega
              have u4 : (m : Int) ≤ 50000 := by omega
              clear hi4 hmm hA1 hC1
              go_wp2_with fail
              go_ret
              exact ⟨rfl, HFIN.out.alloc HFIN.out.size _⟩
            · rw [if_neg hmm] at hC1
              obtain ⟨rfl, rfl⟩ : eC = 2 ∧ pC = 2 := by simpa using hC1
              by_cases hm1 : 1 ≤ m
              · have u3 : (1 : Int) ≤ (m : Int) := by omega
                have u4 : decide ((m : Int) ≤ 50000) = false := by rw [decide_eq_false_iff_not]; omega
                clear hi4 hmm hA1 hC1
                go_wp2_with fail
                go_ret
                exact ⟨rfl, HFIN.out.alloc HFIN.out.size _⟩
              · have u3 : decide ((1 : Int) ≤ (m : Int)) = false := by rw [decide_eq_false_iff_not]; omega
                clear hi4 hmm hA1 hC1
                go_wp2_with fail
                go_ret
                exact ⟨rfl, HFIN.out.alloc HFIN.out.size _⟩
          · have u2 : decide (1 + (k : Int) ≤ 15) = false := by rw [decide_eq_false_iff_not]; omega
            rw [if_neg (by omega)] at hD1
            subst hD1
            by_cases hk20 : k < 20
            · rw [if_pos hk20] at hA1 hB1
              obtain ⟨rfl, rfl⟩ : eA = 0 ∧ pA = 0 := by simpa using hA1
              subst hB1
              have u1 : 1 + (k : Int) ≤ 20 := by omega
              clear hk15 hk20
              by_cases hmm : 1 ≤ m ∧ m ≤ 50000
              · rw [if_pos hmm] at hC1
                obtain ⟨rfl, rfl⟩ : eC = 0 ∧ pC = 0 := by simpa using hC1
                have u3 : (1 : Int) ≤ (m : Int) := by omega
                have u4 : (m : Int) ≤ 50000 := by omega
                clear hi4 hmm hA1 hC1
                go_wp2_with fail
                go_ret
                exact ⟨rfl, HFIN.out.alloc HFIN.out.size _⟩
              · rw [if_neg hmm] at hC1
                obtain ⟨rfl, rfl⟩ : eC = 2 ∧ pC = 2 := by simpa using hC1
                by_cases hm1 : 1 ≤ m
                · have u3 : (1 : Int) ≤ (m : Int) := by omega
                  have u4 : decide ((m : Int) ≤ 50000) = false := by rw [decide_eq_false_iff_not]; omega
                  clear hi4 hmm hA1 hC1
                  go_wp2_with fail
                  go_ret
                  exact ⟨rfl, HFIN.out.alloc HFIN.out.size _⟩
                · have u3 : decide ((1 : Int) ≤ (m : Int)) = false := by rw [decide_eq_false_iff_not]; omega
                  clear hi4 hmm hA1 hC1
                  go_wp2_with fail
                  go_ret
                  exact ⟨rfl, HFIN.out.alloc HFIN.out.size _⟩
            · rw [if_neg hk20] at hA1 hB1
              obtain ⟨rfl, rfl⟩ : eA = 2 ∧ pA = 1 := by simpa using hA1
              subst hB1
              have u1 : decide (1 + (k : Int) ≤ 20) = false := by rw [decide_eq_false_iff_not]; omega
              clear hk15 hk20
              by_cases hmm : 1 ≤ m ∧ m ≤ 50000
              · rw [if_pos hmm] at hC1
                obtain ⟨rfl, rfl⟩ : eC = 0 ∧ pC = 0 := by simpa using hC1
                have u3 : (1 : Int) ≤ (m : Int) := by omega
                have u4 : (m : Int) ≤ 50000 := by omega
                clear hi4 hmm hA1 hC1
                go_wp2_with fail
                go_ret
                exact ⟨rfl, HFIN.out.alloc HFIN.out.size _⟩
              · rw [if_neg hmm] at hC1
                obtain ⟨rfl, rfl⟩ : eC = 2 ∧ pC = 2 := by simpa using hC1
                by_cases hm1 : 1 ≤ m
                · have u3 : (1 : Int) ≤ (m : Int) := by omega
                  have u4 : decide ((m : Int) ≤ 50000) = false := by rw [decide_eq_false_iff_not]; omega
                  clear hi4 hmm hA1 hC1
                  go_wp2_with fail
                  go_ret
                  exact ⟨rfl, HFIN.out.alloc HFIN.out.size _⟩
                · have u3 : decide ((1 : Int) ≤ (m : Int)) = false := by rw [decide_eq_false_iff_not]; omega
                  clear hi4 hmm hA1 hC1
                  go_wp2_with fail
                  go_ret
                  exact ⟨rfl, HFIN.out.alloc HFIN.out.size _⟩
end Go.Proofs.YticdgfljaphhgaaDoor
