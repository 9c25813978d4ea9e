/- The walk of LexKeys. -/
import Derived.Test.YticdgfljaphhgaaDoorCp
namespace Go.Proofs.YticdgfljaphhgaaDoor
open Go.RowKit

set_option maxHeartbeats 400000 in
theorem ref_Within6 (i : Int) (n : Nat) (w : World) (hn : 0 < n) (hb : n ≤ 60000) (hi : (Lit.int .i64 i).wf = true) :
    Calls Tryd.prog 24 #[.int .i64 i, .int .i64 n] w fun e w' => e = .returned (.int .i64 (i % (n : Int))) ∧ w = w' := by
  have h1 := Int.tmod_lt_of_pos i (b := (n : Int)) (by omega)
  have h2 : -(n : Int) < i.tmod n := by
    by_cases hi : 0 ≤ i
    · have := Int.tmod_nonneg (n : Int) hi; omega
    · have := Int.tmod_lt_of_pos (-i) (b := (n : Int)) (by omega)
      rw [Int.neg_tmod] at this; omega
  have h3 : i % (n : Int) = if i.tmod n < 0 then i.tmod n + n else i.tmod n := by
    have e1 := Int.mul_tdiv_add_tmod i n
    split
    · refine Int.emod_eq_of_lt (a := i.tmod n + n) (b := (n : Int)) (by omega) (by omega) ▸ ?_
      conv => lhs; rw [← e1]
      rw [Int.mul_add_emod_self_left, Int.add_emod_right]
    · refine Int.emod_eq_of_lt (a := i.tmod n) (b := (n : Int)) (by omega) (by omega) ▸ ?_
      conv => lhs; rw [← e1]
      rw [Int.mul_add_emod_self_left]
  generalize i % (n : Int) = N at *
  have HN := Lib.hid h3
  clear h3
  go_enter Tryd.func24, Tryd.ntmps24
  go_wp2
  all_goals (go_ret; have h3 := HN.out; refine ⟨ret_int ?_, rfl⟩)
  · rw [if_pos (by omega)] at h3
    rw [h3]
  · rw [if_neg (by omega)] at h3
    rw [h3]

/-- What each key word comes to, alone and ahead of a name. -/
theorem keys_words : ∀ (j : Nat) (q : ByteArray), keysB[j]? = some q → Sp.words q.data.toList = ([⟨5, q.data.toList, 0⟩, ⟨10, [], q.data.toList.length⟩], 0, 0) ∧
    Sp.words (q.data.toList ++ [32, 120]) = ([⟨5, q.data.toList, 0⟩, ⟨1, [120], q.data.toList.length + 1⟩, ⟨10, [], q.data.toList.length + 2⟩], 0, 0) ∧ q.size ≤ 10 := by
  intro j q h
  have hj : j < 7 := (List.getElem?_eq_some_iff.1 h).1
  rcases j with _ | _ | _ | _ | _ | _ | _ | j
  · cases h; exact ⟨by kernel_rfl, by kernel_rfl, by decide⟩
  · cases h; exact ⟨by kernel_rfl, by kernel_rfl, by decide⟩
  · cases h; exact ⟨by kernel_rfl, by kernel_rfl, by decide⟩
  · cases h; exact ⟨by kernel_rfl, by kernel_rfl, by decide⟩
  · cases h; exact ⟨by kernel_rfl, by kernel_rfl, by decide⟩
  · cases h; exact ⟨by kernel_rfl, by kernel_rfl, by decide⟩
  · cases h; exact ⟨by kernel_rfl, by kernel_rfl, by decide⟩
  · omega

set_option maxRecDepth 100000 in
set_option maxHeartbeats 3200000 in
theorem law_LexKeys (s : ByteArray) (k : Int) (w : World) (_h0 : s.size ≤ maxLen) (hk : (Lit.int .i64 k).wf = true) (hg : Gl w) :
    Calls Tryd.prog 13 #[.string s, .int .i64 k] w fun e w' => e = .returned (.bool true) ∧ Below w.heap.size w w' := by
  have hN := cutTo_size s 10
  generalize hNN : cutTo s 10 = N at hN
  have HN := Lib.hid hNN
  clear hNN
  have HK := Lib.hid (fun W => ref_Within6 k 7 W (by decide) (by decide) hk)
  obtain ⟨j, hj, hj2⟩ : ∃ j : Nat, k % ((7 : Nat) : Int) = (j : Int) ∧ j < 7 := ⟨(k % ((7 : Nat) : Int)).toNat, by omega, by omega⟩
  rw [hj] at HK
  obtain ⟨q, hq⟩ : ∃ q, keysB[j]? = some q := ⟨_, List.getElem?_eq_getElem (show j < keysB.length from hj2)⟩
  obtain ⟨hw1, hw2, hqs⟩ := keys_words j q hq
  have hj0 : (0 : Int) ≤ (j : Int) := Int.natCast_nonneg _
  have hj7 : (j : Int) < 7 := by omega
  have HA : Hid (∀ W, Gl W → Calls Tryd.prog 28 #[.string q] W (WordsPost ([⟨5, q.data.toList, 0⟩, ⟨10, [], q.data.toList.length⟩], 0, 0) W)) := Lib.hid (fun W hW => hw1 ▸ lex_Words q W (by omega) hW)
  have hcat : (q ++ (⟨#[32, 120]⟩ : ByteArray)).data.toList = q.data.toList ++ [32, 120] := by simp
  have hcs : (q ++ (⟨#[32, 120]⟩ : ByteArray)).size ≤ 12 := by rw [ByteArray.size_append]; show q.size + 2 ≤ 12; omega
  have HB : Hid (∀ W, Gl W → Calls Tryd.prog 28 #[.string (q ++ ⟨#[32, 120]⟩)] W (WordsPost ([⟨5, q.data.toList, 0⟩, ⟨1, [120], q.data.toList.length + 1⟩, ⟨10, [], q.data.toList.length + 2⟩], 0, 0) W)) := Lib.hid (fun W hW => by
    have h := lex_Words (q ++ ⟨#[32, 120]⟩) W (by omega) hW
    rw [hcat, hw2] at h
    exact h)
  have HQ := Lib.hid hq
  clear hj hq hw1 hw2 hcat hcs hk
  go_enter Tryd.func13, Tryd.ntmps13
  go_wp2_with fail
  refine (wakes6 w hg).mono ?_
  rintro e w1 ⟨rfl, hb1⟩
  have hg1 := hg.below hb1
  go_wp2_with fail
  refine (ref_Keys _).mono ?_
  rintro e w2 ⟨rfl, hw2⟩
  have hk2 : w2.cell? ⟨w1.heap.size, j, none⟩ = some (.string q) := by rw [hw2]; exact keysW_cells w1 j q HQ.out
  have hb12 : Below w1.heap.size w1 w2 := by rw [hw2]; exact keysW_below w1
  have hg2 := hg1.below hb12
  have hb2 := hb1.trans (hb12.mono hb1.size)
  have hsz2 := hb2.size
  clear hw2 hb12 hb1
  go_wp2_with (go_at_call 24; refine (HK.out _).mono ?_; rintro e w' ⟨rfl, rfl⟩)
  refine (HA.out _ hg2).mono ?_
  rintro e w3 ⟨v3, rfl, ho3, hb3⟩
  obtain ⟨g, cp, rfl⟩ := own_form (n := 2) ho3 (by decide)
  have hg3 := hg2.below hb3
  have hsz3 := hb3.size
  have k0 : w3.cell? ⟨g, 0, none⟩ = some (.int .i64 5) := by simpa [Addr.add] using ho3.cells (g := g) rfl 0 (.int .i64 5) rfl
  have k1 : w3.cell? ⟨g, 1, none⟩ = some (.string q) := by
    have h := ho3.cells (g := g) rfl 1 (.string ⟨q.data.toList.toArray⟩) rfl
    rw [Lib.mk_data q] at h
    simpa [Addr.add] using h
  have hlt3 := (ho3.lt g rfl).2
  have hb3' := hb2.trans (hb3.mono hsz2)
  have HGA := Lib.hid (fun o : Obj => hg3.alloc o)
  clear ho3 hb3 hk2
  go_wp2_with fail
  refine (HB.out _ (HGA.out _)).mono ?_
  rintro e w4 ⟨v4, rfl, ho4, hb4⟩
  obtain ⟨g4, cp4, rfl⟩ := own_form (n := 3) ho4 (by decide)
  have hF := (hb4.block w3.heap.size (by simp)).trans (heap_last w3 _)
  have hold : ∀ i v, w3.cell? ⟨g, i, none⟩ = some v → w4.cell? ⟨g, i, none⟩ = some v := by
    intro i v hv
    rw [hb4.cell (p := ⟨g, i, none⟩) (by show g < _; simp; omega)]
    rw [((Below.refl _ w3).alloc (Nat.le_refl _) _).cell (p := ⟨g, i, none⟩) hlt3]
    exact hv
  have c0 := hold 0 _ k0
  have c1 := hold 1 _ k1
  have f0 := cell_at (i := 0) hF; have f1 := cell_at (i := 1) hF; have f2 := cell_at (i := 2) hF
  have hsz4 := hb4.size
  have hg4 := (HGA.out _).below hb4
  simp only [World.size_alloc] at hsz4
  have hbel : Below w.heap.size w w4 := (hb3'.alloc (by omega) _).trans (hb4.mono (by simp; omega))
  have hlt4 : g < w4.heap.size := by omega
  have hlt4' : w3.heap.size < w4.heap.size := by omega
  have HB4 := Lib.hid hbel
  have HG4 := Lib.hid (fun o : Obj => hg4.alloc o)
  have hqq : (q.toList == q.toList) = true := by simp
  clear hold k0 k1 hF ho4 hb4 hbel hb3'
  go_wp2_with (go_at_call 16; refine (law_Text s 10 _).mono ?_; rintro e w' ⟨rfl, rfl⟩; rw [HN.out])
  refine (law_same _ _ (by rw [ByteArray.size_append]; omega) (HG4.out _)).mono ?_
  rintro e w5 ⟨rfl, hb5⟩
  have hg5 := (HG4.out _).below hb5
  have HB5 := Lib.hid ((HB4.out.alloc (by omega) _).trans (hb5.mono (by simp; omega)))
  clear hb5
  go_wp2_with (go_at_call 16; refine (law_Text s 10 _).mono ?_; rintro e w' ⟨rfl, rfl⟩; rw [HN.out])
  refine (law_same _ _ (by rw [ByteArray.size_append]; show 1 + N.size < _; omega) hg5).mono ?_
  rintro e w6 ⟨rfl, hb6⟩
  go_wp2_with fail
  go_ret
  exact ⟨rfl, HB5.out.trans (hb6.mono HB5.out.size)⟩
end Go.Proofs.YticdgfljaphhgaaDoor
