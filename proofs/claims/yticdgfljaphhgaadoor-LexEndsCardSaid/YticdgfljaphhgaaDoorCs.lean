/- LexEnds: the plain law (what stands behind the second mark is the last word's; no program in sight), then the walk. -/
import Derived.Test.YticdgfljaphhgaaDoorCp
namespace Go.Proofs.YticdgfljaphhgaaDoor
namespace Sp
open Go.Lib (index indexByte hasPrefix)

theorem wordsGo_end (f m p : Nat) (r : List UInt8) (h : skip r = (r.length, true)) : wordsGo (f + 1) m p r = .ok [⟨10, [], (p + r.length : Nat)⟩] := by
  unfold wordsGo
  rw [h, if_pos ⟨rfl, rfl⟩]
theorem wordsGo_at (f m p n : Nat) (r : List UInt8) (h : skip r = (n, true)) (hn : r.length ≠ n) : wordsGo (f + 1) m p r =
    if (word (r.drop n)).2.2 = 0 then .error (p + n)
    else if (if (word (r.drop n)).1 = 7 then m + 1 else m) = 2 then .ok [⟨10, (r.drop n).drop (word (r.drop n)).2.2, (p + n + (word (r.drop n)).2.2 : Nat)⟩]
    else (wordsGo f (if (word (r.drop n)).1 = 7 then m + 1 else m) (p + n + (word (r.drop n)).2.2) ((r.drop n).drop (word (r.drop n)).2.2)).map (⟨(word (r.drop n)).1, (word (r.drop n)).2.1, (p + n : Nat)⟩ :: ·) := by
  conv => lhs; unfold wordsGo
  rw [h, if_neg (by simp; exact hn)]
  simp only [Bool.true_eq_false, false_or]
theorem skip_mark (l : List UInt8) : skip (10 :: 37 :: 37 :: l) = (1, true) := by
  have h1 : gap (10 :: 37 :: 37 :: l) = some (0 + 1) := rfl
  have h2 : gap (37 :: 37 :: l) = some 0 := rfl
  rw [skip_succ h1]
  show (1 + (skip (37 :: 37 :: l)).1, (skip (37 :: 37 :: l)).2) = _
  rw [skip_zero h2]
  rfl
theorem word_mark (l : List UInt8) : word (37 :: 37 :: l) = (7, [37, 37], 2) := by
  rw [word_cons, if_neg (by decide), if_neg (by decide), if_neg (by decide), if_neg (by decide), if_pos (by decide)]
  unfold percent
  rw [if_pos (by simp [hasPrefix, List.isPrefixOf])]
/-- Both marks, behind a text. -/
theorem wordsGo_marks (f p : Nat) (r tail : List UInt8) (h : skip r = (r.length, true)) :
    wordsGo (f + 2) 0 p (r ++ 10 :: 37 :: 37 :: 10 :: 37 :: 37 :: tail) = .ok [⟨7, [37, 37], (p + r.length + 1 : Nat)⟩, ⟨10, tail, (p + r.length + 6 : Nat)⟩] := by
  have hs := (skip_nl (37 :: 37 :: 10 :: 37 :: 37 :: tail) (r.length + 1) r (Nat.lt_succ_self _) (by rw [h])).2 (by rw [h])
  rw [skip_mark] at hs
  have hd : (r ++ 10 :: 37 :: 37 :: 10 :: 37 :: 37 :: tail).drop (r.length + 1) = 37 :: 37 :: 10 :: 37 :: 37 :: tail := by
    rw [← List.drop_drop, List.drop_left' rfl]; rfl
  rw [wordsGo_at (f + 1) 0 p (r.length + 1) _ hs (by simp), hd, word_mark]
  simp only [if_true]
  rw [if_neg (by decide), if_neg (by decide)]
  have hd2 : (37 :: 37 :: 10 :: 37 :: 37 :: tail).drop 2 = 10 :: 37 :: 37 :: tail := rfl
  rw [hd2, wordsGo_at f (0 + 1) _ 1 _ (skip_mark tail) (by simp)]
  have hd3 : (10 :: 37 :: 37 :: tail).drop 1 = 37 :: 37 :: tail := rfl
  rw [hd3, word_mark]
  simp only [if_true]
  show (Except.ok [(⟨7, [37, 37], ((p + (r.length + 1) : Nat) : Int)⟩ : Word), ⟨10, tail, ((p + (r.length + 1) + 2 + 1 + 2 : Nat) : Int)⟩] : Except Nat (List Word)) = _
  rw [show p + (r.length + 1) + 2 + 1 + 2 = p + r.length + 6 by omega]
  rfl
/-- THE LAW. -/
theorem ends (tail : List UInt8) : ∀ (f p : Nat) (r : List UInt8) (ws : List Word), wordsGo f 0 p r = .ok ws → (∀ w ∈ ws, w.kind ≠ 7) → ∀ f', f + 2 ≤ f' → ∃ vs, ws.length = vs.length + 1 ∧
    wordsGo f' 0 p (r ++ 10 :: 37 :: 37 :: 10 :: 37 :: 37 :: tail) = .ok (vs ++ [⟨7, [37, 37], (p + r.length + 1 : Nat)⟩, ⟨10, tail, (p + r.length + 6 : Nat)⟩])
  | 0, _, _, _, h, _, _, _ => by simp [wordsGo] at h
  | f + 1, p, r, ws, h, hk, f', hf => by
    obtain ⟨g, rfl⟩ : ∃ g, f' = g + 1 := ⟨f' - 1, by omega⟩
    cases hb : (skip r).2 with
    | false =>
      exfalso
      unfold wordsGo at h
      rw [hb] at h
      rw [if_neg (by simp), if_pos (.inl rfl)] at h
      cases h
    | true =>
      obtain ⟨n, hn⟩ : ∃ n, skip r = (n, true) := ⟨(skip r).1, by rw [← hb]⟩
      have hnl := skip_len r
      rw [hn] at hnl
      simp only at hnl
      by_cases he : r.length = n
      · rw [← he] at hn
        rw [wordsGo_end f 0 p r hn] at h
        cases h
        obtain ⟨g', rfl⟩ : ∃ g', g = g' + 1 := ⟨g - 1, by omega⟩
        exact ⟨[], rfl, wordsGo_marks g' p r tail hn⟩
      · rw [wordsGo_at f 0 p n r hn he] at h
        have hs := (skip_nl (37 :: 37 :: 10 :: 37 :: 37 :: tail) (r.length + 1) r (Nat.lt_succ_self _) hb).1 (by rw [hn]; simp only; omega)
        rw [hn] at hs
        have hda : ∀ U : List UInt8, (r ++ U).drop n = r.drop n ++ U := fun U => List.drop_append_of_le_length hnl
        have hwl := word_le (r.drop n)
        obtain ⟨k, tx, len, hw⟩ : ∃ k tx len, word (r.drop n) = (k, tx, len) := ⟨_, _, _, rfl⟩
        rw [hw] at h hwl
        simp only at h hwl
        by_cases h0 : len = 0
        · rw [if_pos h0] at h; cases h
        · rw [if_neg h0] at h
          have hX : (r.drop n).take len ≠ [] := by
            intro e
            have := congrArg List.length e
            rw [List.length_take, List.length_nil] at this
            omega
          have hXl : ((r.drop n).take len).length = len := by rw [List.length_take]; omega
          have hXR : (r.drop n).take len ++ (r.drop n).drop len = r.drop n := List.take_append_drop _ _
          have hst := word_stable ((r.drop n).drop len) ((r.drop n).drop len ++ 10 :: 37 :: 37 :: 10 :: 37 :: 37 :: tail) ((r.drop n).take len) tx k hX (by
            cases hR : (r.drop n).drop len with
            | nil => right; intro c hc; cases hc; exact .inr (.inl rfl)
            | cons x u => left; rfl) (by rw [hXR, hXl, hw])
          rw [← List.append_assoc, hXR, hXl] at hst
          by_cases h7 : k = 7
          · exfalso
            rw [if_pos h7, if_neg (by decide)] at h
            cases hg : wordsGo f (0 + 1) (p + n + len) ((r.drop n).drop len) with
            | error e => rw [hg] at h; cases h
            | ok vs =>
              rw [hg] at h
              cases h
              exact hk ⟨k, tx, (p + n : Nat)⟩ (by simp) h7
          · rw [if_neg h7, if_neg (by decide)] at h
            cases hg : wordsGo f 0 (p + n + len) ((r.drop n).drop len) with
            | error e => rw [hg] at h; cases h
            | ok vs =>
              rw [hg] at h
              cases h
              obtain ⟨us, hu1, hu2⟩ := ends tail f (p + n + len) _ vs hg (fun w hw' => hk w (by simp [hw'])) g (by omega)
              refine ⟨⟨k, tx, (p + n : Nat)⟩ :: us, by simp [hu1], ?_⟩
              rw [wordsGo_at g 0 p n _ hs (by simp; omega), hda, hst]
              simp only
              rw [if_neg h0, if_neg h7, if_neg (by decide)]
              have hdl : (r.drop n ++ 10 :: 37 :: 37 :: 10 :: 37 :: 37 :: tail).drop len = (r.drop n).drop len ++ 10 :: 37 :: 37 :: 10 :: 37 :: 37 :: tail := List.drop_append_of_le_length hwl
              rw [hdl, hu2]
              have hll : p + n + len + ((r.drop n).drop len).length = p + r.length := by
                rw [List.length_drop, List.length_drop]
                rw [List.length_drop] at hwl
                omega
              rw [hll]
              rfl
end Sp

open Go.RowKit

/-- A text, both marks, another text. -/
theorem marks_data (A T : ByteArray) : (A ++ ⟨#[10, 37, 37, 10, 37, 37]⟩ ++ T : ByteArray).data.toList = A.data.toList ++ 10 :: 37 :: 37 :: 10 :: 37 :: 37 :: T.data.toList := by simp
theorem words_ends (A T : ByteArray) (ws : List Sp.Word) (hA : A.size ≤ 60) (hT : T.size ≤ 100) (h : Sp.words A.data.toList = (ws, 0, 0)) (hk : ∀ w ∈ ws, w.kind ≠ 7) :
    ∃ vs, ws.length = vs.length + 1 ∧ Sp.words (A ++ ⟨#[10, 37, 37, 10, 37, 37]⟩ ++ T : ByteArray).data.toList = (vs ++ [⟨7, [37, 37], (A.size + 1 : Nat)⟩, ⟨10, T.data.toList, (A.size + 6 : Nat)⟩], 0, 0) := by
  have hla : A.data.toList.length = A.size := by simp
  have hlt : T.data.toList.length = T.size := by simp
  rw [marks_data]
  unfold Sp.words at h ⊢
  rw [if_neg (by omega)] at h
  rw [if_neg (by simp only [List.length_append, List.length_cons]; omega)]
  cases hw : Sp.wordsGo (A.data.toList.length + 1) 0 0 A.data.toList with
  | error e => rw [hw] at h; simp [Sp.wordsRes] at h
  | ok us =>
    rw [hw] at h
    simp [Sp.wordsRes] at h
    subst h
    obtain ⟨vs, h1, h2⟩ := Sp.ends T.data.toList _ 0 _ us hw hk ((A.data.toList ++ 10 :: 37 :: 37 :: 10 :: 37 :: 37 :: T.data.toList).length + 1) (by simp only [List.length_append, List.length_cons]; omega)
    refine ⟨vs, h1, ?_⟩
    rw [h2, hla]
    simp [Sp.wordsRes]
theorem words_err (l : List UInt8) (hl : l.length ≤ 4000) : (∃ ws, Sp.words l = (ws, 0, 0)) ∨ ∃ p, Sp.words l = ([], 2, p) := by
  unfold Sp.words
  rw [if_neg (by omega)]
  cases Sp.wordsGo (l.length + 1) 0 0 l with
  | error e => exact .inr ⟨e, rfl⟩
  | ok ws => exact .inl ⟨ws, rfl⟩

set_option maxRecDepth 100000 in
set_option maxHeartbeats 6400000 in
theorem law_LexEnds (tl ah : ByteArray) (w : World) (_h0 : tl.size ≤ maxLen) (_h1 : ah.size ≤ maxLen) (hg : Gl w) :
    Calls Tryd.prog 11 #[.string tl, .string ah] w fun e w' => e = .returned (.bool true) ∧ Below w.heap.size w w' := by
  have hT := cutTo_size tl 100
  have hA := cutTo_size ah 60
  generalize hTT : cutTo tl 100 = T at hT
  generalize hAA : cutTo ah 60 = A at hA
  have HT := Lib.hid hTT; have HA := Lib.hid hAA
  clear hTT hAA
  have hcs : (A ++ ⟨#[10, 37, 37, 10, 37, 37]⟩ ++ T : ByteArray).size ≤ 166 := by rw [ByteArray.size_append, ByteArray.size_append]; show A.size + 6 + T.size ≤ 166; omega
  have HW1 := Lib.hid (fun W hW => lex_Words A W (by omega) hW)
  have HW2 := Lib.hid (fun W hW => lex_Words (A ++ ⟨#[10, 37, 37, 10, 37, 37]⟩ ++ T) W (by omega) hW)
  rcases words_err A.data.toList (by have : A.data.toList.length = A.size := by simp
                                     omega) with ⟨ws, hws⟩ | ⟨p, hws⟩
  · rw [hws] at HW1
    have HE := Lib.hid (fun hk => words_ends A T ws hA hT hws hk)
    have hwl := Sp.words_len A.data.toList
    rw [hws] at hwl
    have hll : A.data.toList.length = A.size := by simp
    rw [hll] at hwl
    simp only at hwl
    clear hws hll hcs
    go_enter Tryd.func11, Tryd.ntmps11
    go_wp2_with fail
    refine (wakes6 w hg).mono ?_
    rintro e w1 ⟨rfl, hb1⟩
    have hg1 := hg.below hb1
    go_wp2_with fail
    refine (law_Text tl 100 w1).mono ?_
    rintro e w' ⟨rfl, rfl⟩
    rw [HT.out]
    go_wp2_with fail
    refine (law_Text ah 60 w1).mono ?_
    rintro e w' ⟨rfl, rfl⟩
    rw [HA.out]
    go_wp2_with fail
    refine (HW1.out _ hg1).mono ?_
    rintro e w2 ⟨v2, rfl, ho2, hb2⟩
    have hs2 := words_slAt ws ho2
    obtain ⟨a2, cap2, rfl⟩ := ownsRow_some ho2
    have hg2 := hg1.below hb2
    have hb02 := hb1.trans (hb2.mono hb1.size)
    have HS := Lib.hid hs2
    have HB2 := Lib.hid hb02
    have hsz2 := hb02.size
    clear ho2 hs2 hb2 hb1 hb02
    go_wp2_with fail
    go_loop [7] (fun iv => ∃ k : Nat, k ≤ ws.length ∧ iv = .int .i64 k ∧ Hid (∀ x ∈ ws.take k, x.kind ≠ 7)) (fun iv => ws.length - (intOf iv).toNat)
    case atStart => exact ⟨0, Nat.zero_le _, rfl, Lib.hid (by simp)⟩
    case round =>
      obtain ⟨k, hk, rfl, HP⟩ := hrel
      by_cases hkn : k < ws.length
      · have hpk : ws[k]? = some ws[k] := List.getElem?_eq_getElem hkn
        generalize ws[k] = x at hpk
        obtain ⟨b, off, cap', hv, hb, hc⟩ := HS.out.some (by intro h; have := congrArg List.length h; simp at this; rw [this] at hkn; simp at hkn)
        obtain ⟨rfl, rfl⟩ : a2 = some ⟨b, off, none⟩ ∧ cap2 = cap' := by simpa using hv
        have a0 := hc k (wordC x) (by simp [hpk]) 0 _ rfl
        rw [Nat.add_zero] at a0
        have HPK := Lib.hid hpk
        obtain ⟨kd, tx, pa⟩ := x
        clear hv hc hpk
        have hk0 : (0 : Int) ≤ (k : Int) := Int.natCast_nonneg _
        have hk1 : (k : Int) < (ws.length : Int) := by omega
        cases h7 : (kd == 7) with
        | true =>
          obtain rfl : kd = 7 := by simpa using h7
          clear h7
          go_wp2_with fail
          go_ret
          exact ⟨rfl, HB2.out.alloc hsz2 _⟩
        | false =>
          have hne : ¬ kd = 7 := by simpa using h7
          have HN := Lib.hid (show ∀ x ∈ ws.take (k + 1), x.kind ≠ 7 from by
            intro x hx
            rw [List.take_add_one, HPK.out] at hx
            simp only [Option.toList_some, List.mem_append, List.mem_singleton] at hx
            rcases hx with hx | rfl
            · exact HP.out x hx
            · exact hne)
          clear hne
          go_wp2_with fail
          go_round
          case rel => go_light; exact ⟨k + 1, by omega, by go_num, HN⟩
          case measure => go_light; simp [intOf]; omega
      · obtain rfl : k = ws.length := by omega
        obtain ⟨vs, hv1, hv2⟩ := HE.out (by have := HP.out; rwa [List.take_length] at this)
        have hpl : (vs ++ [⟨7, [37, 37], (A.size + 1 : Nat)⟩, ⟨10, T.data.toList, (A.size + 6 : Nat)⟩] : List Sp.Word)[ws.length]? = some ⟨10, T.data.toList, (A.size + 6 : Nat)⟩ := by rw [hv1]; simp
        have hml : (vs ++ [⟨7, [37, 37], (A.size + 1 : Nat)⟩, ⟨10, T.data.toList, (A.size + 6 : Nat)⟩] : List Sp.Word).length = ws.length + 1 := by rw [hv1]; simp
        generalize (vs ++ [⟨7, [37, 37], (A.size + 1 : Nat)⟩, ⟨10, T.data.toList, (A.size + 6 : Nat)⟩] : List Sp.Word) = ms at hv2 hpl hml
        rw [hv2] at HW2
        have hne : ms ≠ [] := by intro h; rw [h] at hml; simp at hml
        clear hv2 hv1
        have HG2 := Lib.hid (fun o : Obj => hg2.alloc o)
        go_wp2_with fail
        refine (HW2.out _ (HG2.out _)).mono ?_
        rintro e w3 ⟨v3, rfl, ho3, hb3⟩
        have hs3 := words_slAt _ ho3
        obtain ⟨am, capm, rfl⟩ := ownsRow_some ho3
        obtain ⟨b3, off3, cap3, hv3, hbb3, hc3⟩ := hs3.some (by simpa using hne)
        obtain ⟨rfl, rfl⟩ : am = some ⟨b3, off3, none⟩ ∧ capm = cap3 := by simpa using hv3
        have m0 := hc3 ws.length (wordC ⟨10, T.data.toList, (A.size + 6 : Nat)⟩) (by rw [List.getElem?_map, hpl]; rfl) 0 _ rfl
        have m1 := hc3 ws.length (wordC ⟨10, T.data.toList, (A.size + 6 : Nat)⟩) (by rw [List.getElem?_map, hpl]; rfl) 1 _ rfl
        have m2 := hc3 ws.length (wordC ⟨10, T.data.toList, (A.size + 6 : Nat)⟩) (by rw [List.getElem?_map, hpl]; rfl) 2 _ rfl
        rw [Nat.add_zero] at m0
        rw [Lib.mk_data T] at m1
        have hF := (hb3.block w2.heap.size (by simp)).trans (heap_last w2 _)
        have f0 := cell_at (i := 0) hF; have f1 := cell_at (i := 1) hF; have f2 := cell_at (i := 2) hF
        have hsz3 := hb3.size
        simp only [World.size_alloc] at hsz3
        have hlt3 : w2.heap.size < w3.heap.size := by omega
        have HB3 := Lib.hid ((HB2.out.alloc hsz2 _).trans (hb3.mono (by simp; omega)))
        have hn0 : (0 : Int) ≤ (ws.length : Int) := Int.natCast_nonneg _
        clear hF hc3 hpl ho3 hs3 hb3 hv3 hne
        go_wp2_with fail
        go_ret
        exact ⟨rfl, HB3.out.alloc HB3.out.size _⟩
  · rw [hws] at HW1
    obtain ⟨r, hr⟩ : ∃ r, Sp.words (A ++ ⟨#[10, 37, 37, 10, 37, 37]⟩ ++ T : ByteArray).data.toList = r := ⟨_, rfl⟩
    have hcs2 : (A ++ ⟨#[10, 37, 37, 10, 37, 37]⟩ ++ T : ByteArray).data.toList.length = (A ++ ⟨#[10, 37, 37, 10, 37, 37]⟩ ++ T : ByteArray).size := by rw [Array.length_toList]; rfl
    have hrr := words_err (A ++ ⟨#[10, 37, 37, 10, 37, 37]⟩ ++ T : ByteArray).data.toList (by omega)
    rw [hr] at hrr HW2
    have HR := Lib.hid hrr
    clear hws hr hcs hcs2 hrr
    go_enter Tryd.func11, Tryd.ntmps11
    go_wp2_with fail
    refine (wakes6 w hg).mono ?_
    rintro e w1 ⟨rfl, hb1⟩
    have hg1 := hg.below hb1
    go_wp2_with fail
    refine (law_Text tl 100 w1).mono ?_
    rintro e w' ⟨rfl, rfl⟩
    rw [HT.out]
    go_wp2_with fail
    refine (law_Text ah 60 w1).mono ?_
    rintro e w' ⟨rfl, rfl⟩
    rw [HA.out]
    go_wp2_with fail
    refine (HW1.out _ hg1).mono ?_
    rintro e w2 ⟨v2, rfl, ho2, hb2⟩
    obtain ⟨a2, cap2, rfl⟩ := ownsRow_some ho2
    have hg2 := hg1.below hb2
    have hb02 := hb1.trans (hb2.mono hb1.size)
    have HB2 := Lib.hid hb02
    have hsz2 := hb02.size
    have HG2 := Lib.hid (fun o : Obj => hg2.alloc o)
    clear ho2 hb2 hb1 hb02
    go_wp2_with fail
    go_loop [7] (fun iv => iv = .int .i64 0) (fun _ => 0)
    case atStart => rfl
    case round =>
      obtain rfl := hrel
      go_wp2_with fail
      refine (HW2.out _ (HG2.out _)).mono ?_
      rintro e w3 ⟨v3, rfl, ho3, hb3⟩
      obtain ⟨am, capm, rfl⟩ := ownsRow_some ho3
      have hF := (hb3.block w2.heap.size (by simp)).trans (heap_last w2 _)
      have f0 := cell_at (i := 0) hF; have f1 := cell_at (i := 1) hF; have f2 := cell_at (i := 2) hF
      have hsz3 := hb3.size
      simp only [World.size_alloc] at hsz3
      have hlt3 : w2.heap.size < w3.heap.size := by omega
      have HB3 := Lib.hid ((HB2.out.alloc hsz2 _).trans (hb3.mono (by simp; omega)))
      clear hF ho3 hb3
      rcases HR.out with ⟨ms, rfl⟩ | ⟨p', rfl⟩
      · go_wp2_with fail
        go_ret
        exact ⟨rfl, HB3.out.alloc HB3.out.size _⟩
      · cases hpp : ((p' : Int) == (p : Int)) with
        | true =>
          go_wp2_with fail
          go_ret
          exact ⟨rfl, HB3.out.alloc HB3.out.size _⟩
        | false =>
          go_wp2_with fail
          go_ret
          exact ⟨rfl, HB3.out.alloc HB3.out.size _⟩
end Go.Proofs.YticdgfljaphhgaaDoor
