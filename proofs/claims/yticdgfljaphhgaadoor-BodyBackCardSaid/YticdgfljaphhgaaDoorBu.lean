/- The walk of BodyBack. -/
import Derived.Test.YticdgfljaphhgaaDoorBr
import Derived.Test.YticdgfljaphhgaaDoorBq
import Derived.Test.YticdgfljaphhgaaDoorBo
import Derived.Test.YticdgfljaphhgaaDoorSpJ
namespace Go.Proofs.YticdgfljaphhgaaDoor
open Go.RowKit

/-- A text in braces, if it has none. -/
def braced (N : ByteArray) : ByteArray := if Sp.endAt N.data.toList 0 = N.size then N else brac N
theorem braced_size (N : ByteArray) : (braced N).size ≤ N.size + 2 := by
  unfold braced
  split
  · omega
  · rw [brac_size]; omega

set_option maxHeartbeats 400000 in
theorem law_braced (N : ByteArray) (w : World) (hN : N.size ≤ 1000) :
    Calls Tryd.prog 21 #[.string N] w fun e w' => e = .returned (.string (braced N)) ∧ ∃ n, w' = w.drewN n := by
  have HR := Lib.hid (fun W => ref_End N 0 W (by omega))
  unfold braced
  generalize hE : Sp.endAt N.data.toList 0 = E at HR ⊢
  clear hE
  by_cases h : E = N.size
  · rw [if_pos h]
    subst h
    have h1 : ((N.size : Int) == (N.size : Int)) = true := by simp
    go_enter Tryd.func21, Tryd.ntmps21
    go_wp2_with (go_at_call 18; refine (HR.out _).mono ?_; rintro e w' ⟨rfl, n, rfl⟩)
    go_ret
    exact ⟨rfl, _, rfl⟩
  · rw [if_neg h]
    have h1 : (E == (N.size : Int)) = false := by simpa using h
    go_enter Tryd.func21, Tryd.ntmps21
    go_wp2_with (go_at_call 18; refine (HR.out _).mono ?_; rintro e w' ⟨rfl, n, rfl⟩)
    go_ret
    exact ⟨rfl, _, rfl⟩

/-- No nought stands behind a dollar or the end of a tag at the first places. -/
def noPair (S : ByteArray) (k : Nat) : Prop := ∀ i, i < k → ∀ h : i + 1 < S.size, ¬ ((((S[i].toNat : Int) == 36) = true ∨ ((S[i].toNat : Int) == 62) = true) ∧ ((S[i + 1].toNat : Int) == 48) = true)
theorem noPair.step {S : ByteArray} {k : Nat} (h : noPair S k) (hk : ∀ h : k + 1 < S.size, ¬ ((((S[k].toNat : Int) == 36) = true ∨ ((S[k].toNat : Int) == 62) = true) ∧ ((S[k + 1].toNat : Int) == 48) = true)) : noPair S (k + 1) := by
  intro i hi
  rcases Nat.lt_or_ge i k with h' | h'
  · exact h i h'
  · obtain rfl : i = k := by omega
    exact hk
theorem noPair.out {S : ByteArray} {k : Nat} (h : noPair S k) (hk : ¬ k + 1 < S.size) : Sp.noNought S.data.toList := by
  intro a c b e
  have hl : S.data.toList.length = S.size := by simp
  have hl2 := congrArg List.length e
  simp only [List.length_append, List.length_cons, hl] at hl2
  have h1 : a.length + 1 < S.size := by omega
  have g0 : S[a.length] = c := by
    have hd := drop_at S a.length (by omega)
    rw [e, List.drop_left' rfl] at hd
    exact (List.cons.inj hd).1.symm
  have g1 : S[a.length + 1] = 48 := by
    have hd := drop_at S (a.length + 1) h1
    rw [e, ← List.drop_drop, List.drop_left' rfl] at hd
    exact (List.cons.inj hd).1.symm
  have hn := h a.length (by omega) h1
  rw [g0, g1] at hn
  constructor
  · rintro rfl; exact hn ⟨.inl (by decide), by decide⟩
  · rintro rfl; exact hn ⟨.inr (by decide), by decide⟩
theorem toList_eq_mk {t : List UInt8} {S : ByteArray} (h : t = S.data.toList) : (⟨t.toArray⟩ : ByteArray) = S := by subst h; exact toArr S

set_option maxRecDepth 100000 in
set_option maxHeartbeats 3200000 in
theorem law_BodyBack (s : ByteArray) (w : World) (_h0 : s.size ≤ maxLen) (hg : Gl w) :
    Calls Tryd.prog 5 #[.string s] w fun e w' => e = .returned (.bool true) ∧ Below w.heap.size w w' := by
  have hN := cutTo_size s 120
  generalize hNN : cutTo s 120 = N at hN
  have HN := Lib.hid hNN
  clear hNN
  have HBr := Lib.hid (fun W => law_braced N W (by omega))
  have hBs := braced_size N
  generalize braced N = S at HBr hBs
  have hS : S.size ≤ 122 := by omega
  clear hBs hN
  obtain ⟨ps, er, hcut⟩ : ∃ ps er, Sp.cut S.data.toList = (ps, er) := ⟨_, _, rfl⟩
  have HC := Lib.hid (fun W (hW : Gl W) => hcut ▸ body_Cut S W (by omega) hW)
  by_cases her : er = 0
  · subst her
    obtain ⟨t, ht1, ht2, ht3, ht4⟩ := Sp.cut_back _ _ hcut
    obtain ⟨hb1, hb2⟩ := Sp.cut_bounds _ _ hcut
    have hSl : S.data.toList.length = S.size := by simp
    rw [hSl] at ht3 hb1 hb2
    have hT : (⟨t.toArray⟩ : ByteArray).data.toList = t := by simp
    have hTs := size_list hT
    have HJ := Lib.hid (fun v W (hv : SlAt W v 4 (ps.map pieceC)) (hW : Gl W) => body_Join v ps W hv (by omega) (fun p hp => by have := hb2 p hp; omega) hW)
    rw [ht1] at HJ
    simp only [Sp.joinRes] at HJ
    have HC2 := Lib.hid (fun W (hW : Gl W) => hT ▸ body_Cut ⟨t.toArray⟩ W (by omega) hW)
    rw [ht2] at HC2
    have HE := Lib.hid (fun v1 v2 W (h1 : SlAt W v1 4 (ps.map pieceC)) (h2 : SlAt W v2 4 (ps.map pieceC)) => ref_EqPieces v1 v2 ps ps W h1 h2 (by omega) (by omega))
    rw [show decide (ps = ps) = true by simp] at HE
    have HT4 := Lib.hid ht4
    have HPL : ps.length ≤ 300 := by omega
    clear hcut ht1 ht2 ht4 hT hTs hSl hb1 hb2 ht3
    go_enter Tryd.func5, Tryd.ntmps5
    go_wp2_with fail
    refine (wakes5 w hg).mono ?_
    rintro e w1 ⟨rfl, hb1⟩
    have hg1 := hg.below hb1
    go_wp2_with fail
    refine (law_Text s 120 w1).mono ?_
    rintro e w' ⟨rfl, rfl⟩
    rw [HN.out]
    go_wp2_with fail
    refine (HBr.out w1).mono ?_
    rintro e w' ⟨rfl, n1, rfl⟩
    go_wp2_with fail
    refine (HC.out _ (hg1.drewN _)).mono ?_
    rintro e w3 ⟨v3, rfl, ho3, hb3⟩
    have hs3 := pieces_slAt ps ho3
    obtain ⟨a3, cap3, rfl⟩ := ownsRow_some ho3
    have hb13 : Below w.heap.size w w3 := (below_drewN hb1 n1).trans (hb3.mono hb1.size)
    have hg3 := (hg1.drewN n1).below hb3
    clear ho3 hb3 hb1
    go_wp2_with fail
    refine (HJ.out _ w3 hs3 hg3).mono ?_
    rintro e w4 ⟨rfl, hb4⟩
    have hg4 := hg3.below hb4
    have hb14 := hb13.trans (hb4.mono hb13.size)
    have hs4 := hs3.below hb4
    clear hs3 hb4 hb13 hg3
    go_wp2_with fail
    refine (HC2.out w4 hg4).mono ?_
    rintro e w5 ⟨v5, rfl, ho5, hb5⟩
    have hs5 := pieces_slAt ps ho5
    obtain ⟨a5, cap5, rfl⟩ := ownsRow_some ho5
    have hb15 := hb14.trans (hb5.mono hb14.size)
    have hs45 := hs4.below hb5
    clear ho5 hs4 hb5 hb14 hg4
    have HS5 := Lib.hid hs5; have HS45 := Lib.hid hs45
    clear hs5 hs45
    go_wp2_with fail
    go_loop [9] (fun iv => ∃ k : Nat, k ≤ S.size ∧ iv = .int .i64 k ∧ Hid (noPair S k)) (fun iv => S.size - (intOf iv).toNat)
    case atStart => exact ⟨0, Nat.zero_le _, rfl, Lib.hid (fun i hi => absurd hi (Nat.not_lt_zero _))⟩
    case round =>
      obtain ⟨k, hk, rfl, HP⟩ := hrel
      by_cases hlt : k + 1 < S.size
      · go_wp2_with fail
        all_goals first
          | (go_ret; exact ⟨rfl, hb15⟩)
          | (refine ⟨⟨k + 1, by omega, by go_num, Lib.hid (HP.out.step ?_)⟩, by simp only [intOf]; omega⟩
             intro _
             simp_all)
      · have ht := HT4.out (HP.out.out hlt)
        have heq := toList_eq_mk ht
        go_wp2_with fail
        refine (HE.out _ _ w5 HS45.out HS5.out).mono ?_
        rintro e w' ⟨rfl, n6, rfl⟩
        go_wp2_with fail
        go_ret
        exact ⟨rfl, below_drewN hb15 _⟩
  · have hps := Sp.cut_err _ _ _ hcut her
    subst hps
    have herb : (er != 0) = true := by simpa using her
    clear hcut her
    go_enter Tryd.func5, Tryd.ntmps5
    go_wp2_with fail
    refine (wakes5 w hg).mono ?_
    rintro e w1 ⟨rfl, hb1⟩
    have hg1 := hg.below hb1
    go_wp2_with fail
    refine (law_Text s 120 w1).mono ?_
    rintro e w' ⟨rfl, rfl⟩
    rw [HN.out]
    go_wp2_with fail
    refine (HBr.out w1).mono ?_
    rintro e w' ⟨rfl, n1, rfl⟩
    go_wp2_with fail
    refine (HC.out _ (hg1.drewN _)).mono ?_
    rintro e w3 ⟨v3, rfl, ho3, hb3⟩
    obtain ⟨a3, cap3, rfl⟩ := ownsRow_some ho3
    have hb13 : Below w.heap.size w w3 := (below_drewN hb1 n1).trans (hb3.mono hb1.size)
    clear ho3 hb3 hb1
    go_wp2_with fail
    go_ret
    exact ⟨rfl, hb13⟩
end Go.Proofs.YticdgfljaphhgaaDoor
