/- The walk of dollar behind a tag; dollar whole. The walk of Cut. The walk of Join. Layer 8: the walks of what print asks of a declaration, a part, an alternative, a rule. Layer 8: the walks of what print asks of a part, an alternative, a rule, a source. Layer 8: the walk of print.May. Layer 8: the walks of print.word, declared, ruled. The walks of the laws' own helpers: Text, wakes of layer 5. Layer 8: the walk of print.Text. -/
import Derived.Test.YtphdfbmmjkccgaaDoorZ00
import Derived.Test.YtphdfbmmjkccgaaDoorZ03
import Derived.Test.YtphdfbmmjkccgaaDoorZ02
import Derived.Lib.ItoaLen
import Derived.Deep.DeepMust
import Derived.Test.YtphdfbmmjkccgaaDoorZ01
import Derived.Deep.RegionWith
import Derived.Deep.RegionHeld3
import Derived.Deep.OwnRows
import Derived.Deep.AppendLies
namespace Go.Proofs.YtphdfbmmjkccgaaDoor
open Go.RowKit


set_option maxRecDepth 100000 in
set_option maxHeartbeats 6400000 in
theorem body_dollar_tag (s : ByteArray) (at_ : Nat) (w : World) (hs : s.size < 4294967281) (hat : at_ < s.size)
    (m : Nat) (T : List UInt8) (hp : Lib.hasPrefix (s.data.toList.drop (at_ + 1)) [60] = true) (hm : Sp.nameLen true (s.data.toList.drop (at_ + 1 + 1)) = m)
    (hT : (s.data.toList.drop (at_ + 1 + 1)).take m = T) (hn : Sp.isName T = true) (hgt : Lib.hasPrefix (s.data.toList.drop (at_ + 1 + 1 + m)) [62] = true) :
    Calls Tryd.prog 47 #[.string s, .int .i64 at_] w fun e w' =>
      e = .returned (.tuple #[pieceV (Sp.dollar2 T (m + 3) (s.data.toList.drop (at_ + 1 + m + 2))).1, .int .i64 (at_ + (Sp.dollar2 T (m + 3) (s.data.toList.drop (at_ + 1 + m + 2))).2.1 : Nat), .int .i64 (Sp.dollar2 T (m + 3) (s.data.toList.drop (at_ + 1 + m + 2))).2.2]) ∧ Below w.heap.size w w' := by
  have hmle : at_ + 1 + 1 + m < s.size := by
    rcases Nat.lt_or_ge (at_ + 1 + 1 + m) s.size with h | h
    · exact h
    · rw [drop_end s _ (by omega)] at hgt
      simp [Lib.hasPrefix] at hgt
  have HT := Lib.hid (show (⟨T.toArray⟩ : ByteArray) = s.extract (at_ + 1 + 1) (at_ + 1 + 1 + m) by rw [Lib.extract_eq, ← hT, Nat.add_sub_cancel_left])
  have HNm := Lib.hid (show Sp.isName (s.extract (at_ + 1 + 1) (at_ + 1 + 1 + m)).data.toList = true by rw [ext_any, Nat.add_sub_cancel_left, hT]; exact hn)
  have HM := Lib.hid hm
  have hS1 : (s.extract (at_ + 1 + 1) s.size).size < 4294967281 := by simp; omega
  have hS2 : (s.extract (at_ + 1 + 1) (at_ + 1 + 1 + m)).size < 4294967281 := by simp; omega
  clear hm hT hn
  generalize hN : (Sp.dollar2 T (m + 3) (s.data.toList.drop (at_ + 1 + m + 2))) = N
  unfold Sp.dollar2 at hN
  have HN := Lib.hid hN; clear hN
  cases h36 : Lib.hasPrefix (s.data.toList.drop (at_ + 1 + m + 2)) [36] with
  | true =>
    go_enter Tryd.func47, Tryd.ntmps47
    go_wp2_with (first 
    | (go_at_call 51; refine (strings_HasPrefix_gl _ _ _).mono ?_; rintro e w' ⟨rfl, rfl⟩; rw [ext_end])
    | (go_at_call 56; refine (body_Run _ _ hS1).mono ?_; rintro e w' ⟨rfl, rfl⟩; rw [ext_end, HM.out])
    | (go_at_call 60; refine (body_Name _ _ hS2).mono ?_; rintro e w' ⟨rfl, rfl⟩; rw [HNm.out]))
    have hN := HN.out
    rw [if_pos h36] at hN
    subst hN
    refine ret_cell_tmp_tmp (g := w.heap.size) rfl rfl (heap_last _ _) rfl Tryd.underlying92 (by kernel_rfl) rfl ⟨by simp [pieceV, HT.out]; try omega, ?_⟩
    exact (Below.refl _ _).alloc (Nat.le_refl _) _
  | false =>
    generalize hD : Sp.digits (s.data.toList.drop (at_ + 1 + m + 2)) = D at HN
    have HD := Lib.hid hD; clear hD
    have hDle : (at_ + 1 + m + 2) + D ≤ s.size := by
      have := Sp.digits_le (s.data.toList.drop (at_ + 1 + m + 2))
      have hl : (s.data.toList.drop (at_ + 1 + m + 2)).length = s.size - (at_ + 1 + m + 2) := by simp
      have := HD.out; omega
    go_enter Tryd.func47, Tryd.ntmps47
    go_wp2_with (first 
    | (go_at_call 51; refine (strings_HasPrefix_gl _ _ _).mono ?_; rintro e w' ⟨rfl, rfl⟩; rw [ext_end])
    | (go_at_call 56; refine (body_Run _ _ hS1).mono ?_; rintro e w' ⟨rfl, rfl⟩; rw [ext_end, HM.out])
    | (go_at_call 60; refine (body_Name _ _ hS2).mono ?_; rintro e w' ⟨rfl, rfl⟩; rw [HNm.out]))
    clear hp hgt HM HNm hS1 hS2
    go_loop [9] (fun n => ∃ j : Nat, j ≤ D ∧ n = .int .i64 j ∧ j + Sp.digits (s.data.toList.drop ((at_ + 1 + m + 2) + j)) = D) (fun n => D - (intOf n).toNat)
    case atStart => exact ⟨0, by omega, rfl, by simp [HD.out]⟩
    case round =>
      obtain ⟨j, hj, rfl, hi⟩ := hrel
      have HI := Lib.hid hi; clear hi
      by_cases hjd : j < D
      · have hlt : (at_ + 1 + m + 2) + j < s.size := by omega
        have hd : Sp.digit s[(at_ + 1 + m + 2) + j] = true := by
          have := HI.out
          rw [drop_at s _ hlt, digits_cons] at this
          split at this
          · assumption
          · omega
        go_wp2_with (go_at_call 76; refine (body_digit _ _).mono ?_; rintro e w' ⟨rfl, rfl⟩)
        have hi := HI.out
        clear HN HD HI
        go_round
        case rel => go_light; exact ⟨j + 1, by omega, by go_num, by rw [drop_at s _ hlt, digits_cons, if_pos hd] at hi; rw [← Nat.add_assoc]; omega⟩
        case measure => go_light; simp [intOf]; omega
      · obtain rfl : j = D := by omega
        have hcase : ((at_ + 1 + m + 2) + j < s.size ∧ ∃ b, b = false ∧ (∀ h : (at_ + 1 + m + 2) + j < s.size, Sp.digit s[(at_ + 1 + m + 2) + j] = b)) ∨ ¬ (at_ + 1 + m + 2) + j < s.size := by
          by_cases h : (at_ + 1 + m + 2) + j < s.size
          · left
            refine ⟨h, false, rfl, fun h => ?_⟩
            have := HI.out
            rw [drop_at s _ h, digits_cons] at this
            split at this
            · omega
            · rename_i hx; simpa using hx
          · exact .inr h
        clear HI hDle
        have hK : (at_ + 1 + m + 2) + j ≤ s.size := by
          have := Sp.digits_le (s.data.toList.drop (at_ + 1 + m + 2))
          have hl : (s.data.toList.drop (at_ + 1 + m + 2)).length = s.size - (at_ + 1 + m + 2) := by simp
          have := HD.out; omega
        have hnum : j ≠ 0 → Lib.atoi (s.extract (at_ + 1 + m + 2) ((at_ + 1 + m + 2) + j)).data.toList = some (Sp.num ((s.data.toList.drop (at_ + 1 + m + 2)).take j)) := by
          intro h0
          rw [ext_any, Nat.add_sub_cancel_left]
          have := Sp.atoi_digits (s.data.toList.drop (at_ + 1 + m + 2)) (by rw [HD.out]; exact h0)
          rwa [HD.out] at this
        have hN := HN.out; clear HN HD
        rw [if_neg (by rw [h36]; simp)] at hN
        have hsz : (s.extract (at_ + 1 + m + 2) ((at_ + 1 + m + 2) + j)).size = j := by simp; omega
        by_cases hj0 : j = 0
        · subst hj0
          rw [if_pos rfl] at hN; subst hN
          clear hnum hsz
          rcases hcase with ⟨hlt, b, rfl, hd⟩ | hlt
          · have hd := hd hlt
            go_wp2_with (go_at_call 76; refine (body_digit _ _).mono ?_; rintro e w' ⟨rfl, rfl⟩)
            refine ret_cell_tmp_tmp (g := w.heap.size) rfl rfl (heap_last _ _) rfl Tryd.underlying92 (by kernel_rfl) rfl ⟨by simp [pieceV, Sp.nil], ?_⟩
            exact (Below.refl _ _).alloc (Nat.le_refl _) _
          · go_wp2
            refine ret_cell_tmp_tmp (g := w.heap.size) rfl rfl (heap_last _ _) rfl Tryd.underlying92 (by kernel_rfl) rfl ⟨by simp [pieceV, Sp.nil], ?_⟩
            exact (Below.refl _ _).alloc (Nat.le_refl _) _
        · rw [if_neg hj0] at hN
          have hjb : ((j : Int) == 0) = false := by simpa using hj0
          by_cases hj3 : 3 < j
          · rw [if_pos hj3] at hN; subst hN
            clear hnum hsz
            rcases hcase with ⟨hlt, b, rfl, hd⟩ | hlt
            · have hd := hd hlt
              go_wp2_with (go_at_call 76; refine (body_digit _ _).mono ?_; rintro e w' ⟨rfl, rfl⟩)
              refine ret_cell_tmp_tmp (g := w.heap.size) rfl rfl (heap_last _ _) rfl Tryd.underlying92 (by kernel_rfl) rfl ⟨by simp [pieceV, Sp.nil], ?_⟩
              exact (Below.refl _ _).alloc (Nat.le_refl _) _
            · go_wp2
              refine ret_cell_tmp_tmp (g := w.heap.size) rfl rfl (heap_last _ _) rfl Tryd.underlying92 (by kernel_rfl) rfl ⟨by simp [pieceV, Sp.nil], ?_⟩
              exact (Below.refl _ _).alloc (Nat.le_refl _) _
          · rw [if_neg hj3] at hN
            have hnum := hnum hj0
            generalize Sp.num ((s.data.toList.drop (at_ + 1 + m + 2)).take j) = v at hN hnum
            subst hN
            have hnum := Lib.hid hnum
            have hsz := Lib.hid hsz
            rcases hcase with ⟨hlt, b, rfl, hd⟩ | hlt
            · have hd := hd hlt
              go_wp2_with (first
                | (go_at_call 76; refine (body_digit _ _).mono ?_; rintro e w' ⟨rfl, rfl⟩)
                | (go_at_call 64; refine (strconv_Atoi_gl _ v (by rw [hsz.out]; omega) hnum.out _).mono ?_; rintro e w1 ⟨rfl, hb⟩; have hB := (hb.block w.heap.size (by simp)).trans (heap_last _ _); have c0 := cell_at (i := 0) hB; have c1 := cell_at (i := 1) hB; have c2 := cell_at (i := 2) hB; have c3 := cell_at (i := 3) hB; have f0 := frozen_at (i := 0) hB; have f1 := frozen_at (i := 1) hB; have f2 := frozen_at (i := 2) hB; have f3 := frozen_at (i := 3) hB; have hz := lt_at hB))
              refine ret_cell_tmp_tmp (g := w.heap.size) rfl rfl (by exact heap_setCell_at (heap_setCell_at (heap_setCell_at (heap_setCell_at (heap_setCell_at hB))))) rfl Tryd.underlying92 (by kernel_rfl) rfl ⟨by simp [pieceV, HT.out]; try omega, ?_⟩
              exact (((((((Below.refl _ _).alloc (Nat.le_refl _) _).trans (hb.mono (by simp))).setCell (by simp) _).setCell (by simp) _).setCell (by simp) _).setCell (by simp) _).setCell (by simp) _
            · go_wp2_with (go_at_call 64; refine (strconv_Atoi_gl _ v (by rw [hsz.out]; omega) hnum.out _).mono ?_; rintro e w1 ⟨rfl, hb⟩; have hB := (hb.block w.heap.size (by simp)).trans (heap_last _ _); have c0 := cell_at (i := 0) hB; have c1 := cell_at (i := 1) hB; have c2 := cell_at (i := 2) hB; have c3 := cell_at (i := 3) hB; have f0 := frozen_at (i := 0) hB; have f1 := frozen_at (i := 1) hB; have f2 := frozen_at (i := 2) hB; have f3 := frozen_at (i := 3) hB; have hz := lt_at hB)
              refine ret_cell_tmp_tmp (g := w.heap.size) rfl rfl (by exact heap_setCell_at (heap_setCell_at (heap_setCell_at (heap_setCell_at (heap_setCell_at hB))))) rfl Tryd.underlying92 (by kernel_rfl) rfl ⟨by simp [pieceV, HT.out]; try omega, ?_⟩
              exact (((((((Below.refl _ _).alloc (Nat.le_refl _) _).trans (hb.mono (by simp))).setCell (by simp) _).setCell (by simp) _).setCell (by simp) _).setCell (by simp) _).setCell (by simp) _

set_option maxRecDepth 100000 in
set_option maxHeartbeats 1600000 in
theorem body_dollar_bad (s : ByteArray) (at_ : Nat) (w : World) (hs : s.size < 4294967281) (hat : at_ + 1 < s.size)
    (m : Nat) (hp : Lib.hasPrefix (s.data.toList.drop (at_ + 1)) [60] = true) (hm : Sp.nameLen true (s.data.toList.drop (at_ + 1 + 1)) = m)
    (hn : Sp.isName ((s.data.toList.drop (at_ + 1 + 1)).take m) = false ∨ (Sp.isName ((s.data.toList.drop (at_ + 1 + 1)).take m) = true ∧ Lib.hasPrefix (s.data.toList.drop (at_ + 1 + 1 + m)) [62] = false)) :
    Calls Tryd.prog 47 #[.string s, .int .i64 at_] w fun e w' =>
      e = .returned (.tuple #[pieceV Sp.nil, .int .i64 (at_ + 0 : Nat), .int .i64 0]) ∧ Below w.heap.size w w' := by
  have hmle : at_ + 1 + 1 + m ≤ s.size := by
    have := Sp.nameLen_le true (s.data.toList.drop (at_ + 1 + 1))
    have hl : (s.data.toList.drop (at_ + 1 + 1)).length = s.size - (at_ + 1 + 1) := by simp
    omega
  have HM := Lib.hid hm
  have hS1 : (s.extract (at_ + 1 + 1) s.size).size < 4294967281 := by simp; omega
  have hS2 : (s.extract (at_ + 1 + 1) (at_ + 1 + 1 + m)).size < 4294967281 := by simp; omega
  have hX : ((s.data.toList.drop (at_ + 1 + 1)).take m) = (s.extract (at_ + 1 + 1) (at_ + 1 + 1 + m)).data.toList := by rw [ext_any, Nat.add_sub_cancel_left]
  rw [hX] at hn
  clear hm hX
  rcases hn with hn | ⟨hn, hgt⟩
  all_goals
    have HNm := Lib.hid hn; clear hn
    go_enter Tryd.func47, Tryd.ntmps47
    go_wp2_with (first 
    | (go_at_call 51; refine (strings_HasPrefix_gl _ _ _).mono ?_; rintro e w' ⟨rfl, rfl⟩; rw [ext_end])
    | (go_at_call 56; refine (body_Run _ _ hS1).mono ?_; rintro e w' ⟨rfl, rfl⟩; rw [ext_end, HM.out])
    | (go_at_call 60; refine (body_Name _ _ hS2).mono ?_; rintro e w' ⟨rfl, rfl⟩; rw [HNm.out]))
    refine ret_cell_tmp_tmp (g := w.heap.size) rfl rfl (heap_last _ _) rfl Tryd.underlying92 (by kernel_rfl) rfl ⟨by simp [pieceV, Sp.nil], ?_⟩
    exact (Below.refl _ _).alloc (Nat.le_refl _) _

theorem body_dollar (s : ByteArray) (at_ : Nat) (w : World) (hs : s.size < 4294967281) (hat : at_ < s.size) :
    Calls Tryd.prog 47 #[.string s, .int .i64 at_] w fun e w' =>
      e = .returned (.tuple #[pieceV (Sp.dollar (s.data.toList.drop (at_ + 1))).1, .int .i64 (at_ + (Sp.dollar (s.data.toList.drop (at_ + 1))).2.1 : Nat), .int .i64 (Sp.dollar (s.data.toList.drop (at_ + 1))).2.2]) ∧ Below w.heap.size w w' := by
  cases hp : Lib.hasPrefix (s.data.toList.drop (at_ + 1)) [60] with
  | false =>
    have e : Sp.dollar (s.data.toList.drop (at_ + 1)) = Sp.dollar2 [] 1 (s.data.toList.drop (at_ + 1)) := by rw [Sp.dollar, if_neg (by rw [hp]; simp)]
    rw [e]
    exact body_dollar_plain s at_ w hs hat hp
  | true =>
    have hat2 : at_ + 1 < s.size := by
      rcases Nat.lt_or_ge (at_ + 1) s.size with h | h
      · exact h
      · rw [drop_end s (at_ + 1) (by omega)] at hp
        simp [Lib.hasPrefix] at hp
    obtain ⟨m, hm⟩ : ∃ m, Sp.nameLen true (s.data.toList.drop (at_ + 1 + 1)) = m := ⟨_, rfl⟩
    by_cases hb : Sp.isName ((s.data.toList.drop (at_ + 1 + 1)).take m) = true ∧ Lib.hasPrefix (s.data.toList.drop (at_ + 1 + 1 + m)) [62] = true
    · have e : Sp.dollar (s.data.toList.drop (at_ + 1)) = Sp.dollar2 ((s.data.toList.drop (at_ + 1 + 1)).take m) (m + 3) (s.data.toList.drop (at_ + 1 + m + 2)) := by
        rw [Sp.dollar, if_pos hp, List.drop_drop, hm, List.drop_drop, List.drop_drop, ← Nat.add_assoc, if_pos hb, ← Nat.add_assoc]
      rw [e]
      exact body_dollar_tag s at_ w hs hat m _ hp hm rfl hb.1 hb.2
    · have e : Sp.dollar (s.data.toList.drop (at_ + 1)) = (Sp.nil, 0, 0) := by
        rw [Sp.dollar, if_pos hp, List.drop_drop, hm, List.drop_drop, ← Nat.add_assoc, if_neg hb]
      rw [e]
      refine body_dollar_bad s at_ w hs hat2 m hp hm ?_
      by_cases h1 : Sp.isName ((s.data.toList.drop (at_ + 1 + 1)).take m) = true
      · right; exact ⟨h1, by simpa using fun h => hb ⟨h1, h⟩⟩
      · left; simpa using h1
end Go.Proofs.YtphdfbmmjkccgaaDoor

namespace Go.Proofs.YtphdfbmmjkccgaaDoor
open Go.RowKit

/-- What Cut leaves. -/
def CutPost (r : List Sp.Piece × Int) (w : World) (e : Ending) (w' : World) : Prop :=
  ∃ v, e = .returned (.tuple #[v, .int .i64 r.2]) ∧ w'.ownsRow w.heap.size 92 4 v r.1.length (r.1.flatMap pieceC) ∧ Below w.heap.size w w'

set_option maxRecDepth 100000 in
set_option maxHeartbeats 1600000 in
theorem body_Cut_form (s : ByteArray) (w : World) (hs : s.size < 4294967281) (hg : Gl w) (hb : s.data.toList = [] ∨ Sp.endAt s.data.toList 0 ≠ s.data.toList.length) :
    Calls Tryd.prog 25 #[.string s] w (CutPost ([], 1) w) := by
  have hl : s.data.toList.length = s.size := by simp
  rw [hl] at hb
  have hle : s.toList = s.data.toList := Lib.toList_data s
  rw [← hle] at hb
  by_cases he : s.toList = []
  · have h1 : s.toList.isEmpty = true := by rw [he]; rfl
    clear hb hl hle
    go_enter Tryd.func25, Tryd.ntmps25
    go_wp2
    go_quiet (fail)
    go_wp2
    go_ret2
    exact ⟨_, rfl, World.ownsRow_nil _ _ _ _, below_drewN ((Below.refl _ _).alloc (Nat.le_refl _) _) _⟩
  · have h1 : s.toList.isEmpty = false := by simpa using he
    have hend : Sp.endAt s.data.toList 0 ≠ (s.size : Int) := by rw [← hle]; exact hb.resolve_left he
    generalize hE : Sp.endAt s.data.toList 0 = E at hend
    have hE2 : (E != (s.size : Int)) = true := by rw [bne_iff_ne]; exact hend
    have HC := Lib.hid (show ∀ W, Gl W → Calls Tryd.prog 44 #[.string s, .int .i64 0] W fun e w' => e = .returned (.int .i64 E) ∧ ∃ n, w' = W.drewN n from fun W h => by rw [← hE]; exact body_End s 0 W hs h)
    clear hb hl hle he hend hE
    go_enter Tryd.func25, Tryd.ntmps25
    go_wp2
    go_quiet ((go_at_call 44; exact Calls.quiet_of (HC.out _ (hg.alloc _))))
    go_wp2
    go_ret2
    exact ⟨_, rfl, World.ownsRow_nil _ _ _ _, below_drewN ((Below.refl _ _).alloc (Nat.le_refl _) _) _⟩

theorem heap_alloc_of {w : World} {b : Nat} {o : Obj} (h : w.heap[b]? = some o) (x : Obj) : (w.alloc x).heap[b]? = some o := (Below.heap_alloc _ _ _ (lt_at h)).trans h
theorem take_more (l : List UInt8) (a b c : Nat) (h : a ≤ b) : ((l.drop a).take (b - a)) ++ ((l.drop b).take c) = (l.drop a).take (b + c - a) := by
  rw [show b + c - a = (b - a) + c by omega, List.take_add, List.drop_drop, show a + (b - a) = b by omega]
theorem cutGo_cons (f : Nat) (pend : List UInt8) (c : UInt8) (t : List UInt8) : Sp.cutGo (f + 1) pend (c :: t) =
    match Sp.passLen (c :: t) with
    | none => none
    | some (n + 1) => Sp.cutGo f (pend ++ (c :: t).take (n + 1)) ((c :: t).drop (n + 1))
    | some 0 =>
      if ((c.toNat : Int) == 36) = true then
        if ((Sp.dollar t).2.2 != 0) = true then none
        else if 0 < (Sp.dollar t).2.1 then (Sp.cutGo f [] ((c :: t).drop (Sp.dollar t).2.1)).map (Sp.flush pend ++ (Sp.dollar t).1 :: ·)
        else Sp.cutGo f (pend ++ [c]) t
      else Sp.cutGo f (pend ++ [c]) t := rfl

/-- What a round of Cut's loop finds: blocks N (the text), N + 1 (the list), N + 2 (from where on the text stands). -/
def CutI (s : ByteArray) (R : Option (List Sp.Piece)) (w : World) (p : Nat) (wr : World) : Prop :=
  ∃ (from_ f : Nat) (ps : List Sp.Piece) (v : Value), from_ ≤ p ∧ wr.heap[w.heap.size]? = some (.cells #[.string s] 9 (0, 0)) ∧ wr.heap[w.heap.size + 1]? = some (.cells #[v] 85 (0, 0)) ∧
    wr.heap[w.heap.size + 1 + 1]? = some (.cells #[.int .i64 from_] 3 (0, 0)) ∧ wr.ownsRow (w.heap.size + 1 + 1 + 1) 92 4 v ps.length (ps.flatMap pieceC) ∧ Below w.heap.size w wr ∧ s.size - p < f ∧
    (Sp.cutGo f ((s.data.toList.drop from_).take (p - from_)) (s.data.toList.drop p)).map (ps ++ ·) = R ∧ Sp.Ok (s.data.toList.drop p) ∧ ps.length ≤ 2 * p

set_option maxRecDepth 100000 in
set_option maxHeartbeats 3200000 in
theorem body_Cut_go (s : ByteArray) (w : World) (hs : s.size < 4294967281) (hg : Gl w) (he : s.toList ≠ []) (hend : Sp.endAt s.data.toList 0 = (s.size : Int)) (R : Option (List Sp.Piece)) (hR : Sp.cutGo (s.size + 1) [] s.data.toList = R) :
    Calls Tryd.prog 25 #[.string s] w (CutPost (Sp.cutRes R) w) := by
  have h1 : s.toList.isEmpty = false := by simpa using he
  have hE2 : ((s.size : Int) != (s.size : Int)) = false := by simp
  have hok : Sp.Ok s.data.toList := Sp.Ok.start (by rw [hend]; simp)
  have HC := Lib.hid (show ∀ W, Gl W → Calls Tryd.prog 44 #[.string s, .int .i64 0] W fun e w' => e = .returned (.int .i64 (s.size : Int)) ∧ ∃ n, w' = W.drewN n from fun W h => by rw [← hend]; exact body_End s 0 W hs h)
  have HR := Lib.hid hR
  have HK := Lib.hid hok
  clear he hend hR hok
  go_enter Tryd.func25, Tryd.ntmps25
  go_wp2
  go_quiet ((go_at_call 44; exact Calls.quiet_of (HC.out _ (hg.alloc _))))
  go_wp2
  go_loopw [7] (fun i wr => ∃ p : Nat, p ≤ s.size ∧ i = .int .i64 p ∧ CutI s R w p wr) (fun i _ => s.size - (intOf i).toNat)
  case atStart =>
    refine ⟨0, Nat.zero_le _, rfl, 0, s.size + 1, [], _, Nat.le_refl _, ?_, ?_, ?_, World.ownsRow_nil _ _ _ _, ?_, by omega, ?_, by simpa using HK.out, by simp⟩
    · exact heap_alloc_of (heap_alloc_of (heap_last w _) _) _
    · exact heap_alloc_of (by simpa using heap_last ((w.alloc (.cells #[.string s] 9)).drewN nq) (.cells #[.slice none 0 0] 85)) _
    · simpa using heap_last (((w.alloc (.cells #[.string s] 9)).drewN nq).alloc (.cells #[.slice none 0 0] 85)) (.cells #[.int .i64 0] 3)
    · exact ((below_drewN ((Below.refl _ _).alloc (Nat.le_refl _) _) _).alloc (by simp) _).alloc (by simp; omega) _
    · have := HR.out
      simpa using this
  case round =>
    obtain ⟨p, hp, rfl, from_, f, ps, v, hfp, hb0, hb1, hb2, hown, hbel, hf, hi, hok, hlen⟩ := hrel
    clear HC HR HK hE2
    have c0 := cell_at (i := 0) hb0
    have hgr := hg.below hbel
    have HB0 := Lib.hid hb0; have HB1 := Lib.hid hb1; have HB2 := Lib.hid hb2; have HO := Lib.hid hown; have HBel := Lib.hid hbel
    clear hb0 hb1 hb2 hown hbel
    by_cases hlt : p < s.size
    · obtain ⟨f, rfl⟩ : ∃ g, f = g + 1 := ⟨f - 1, by omega⟩
      have hd := drop_at s p hlt
      rw [hd, cutGo_cons, ← hd] at hi
      have hpl := Sp.passLen_le (s.data.toList.drop p)
      have hl : (s.data.toList.drop p).length = s.size - p := by simp
      rw [hl] at hpl
      have hnn := hok.pass (by rw [hd]; simp)
      cases hps : Sp.passLen (s.data.toList.drop p) with
      | none => exact absurd hps hnn
      | some m =>
        have hm := hpl m hps
        cases m with
        | succ m =>
          rw [hps] at hi
          simp only at hi
          have hok' := hok.skip hps
          rw [List.drop_drop] at hok'
          rw [take_more _ _ _ _ hfp, List.drop_drop] at hi
          have HI := Lib.hid hi
          have HOK := Lib.hid hok'
          have HP := Lib.hid hps
          clear hi hok' hps hpl hl hd hok hnn
          go_wp2_with (go_at_call 46; refine (body_pass s p _ hs hlt hgr).mono ?_; rintro e w' ⟨rfl, n2, rfl⟩; rw [HP.out]; simp only [Sp.place])
          go_roundw
          case rel =>
            go_light
            exact ⟨p + (m + 1), by omega, by go_num, from_, f, ps, v, by omega, HB0.out, HB1.out, HB2.out, HO.out, below_drewN HBel.out _, by omega, HI.out, HOK.out, by omega⟩
          case measure => go_light; simp [intOf]; omega
        | zero =>
          rw [hps] at hi
          simp only at hi
          rw [hd] at hps hok
          have HP := Lib.hid (hd ▸ hps)
          have hone : ∀ q, Sp.cutGo f ((s.data.toList.drop from_).take (p - from_) ++ [s[p]]) q = Sp.cutGo f ((s.data.toList.drop from_).take (p + 1 - from_)) q := by
            intro q
            rw [← take_more _ _ _ 1 hfp, hd]; rfl
          rw [hone] at hi
          cases h36 : ((s[p].toNat : Int) == 36) with
          | false =>
            rw [h36, if_neg (by simp)] at hi
            have hok' := hok.step hps
            have HI := Lib.hid hi
            have HOK := Lib.hid hok'
            clear hi hok' hps hpl hl hd hok hnn hone
            go_wp2_with (go_at_call 46; refine (body_pass s p _ hs hlt hgr).mono ?_; rintro e w' ⟨rfl, n2, rfl⟩; rw [HP.out]; simp only [Sp.place, Nat.add_zero])
            go_roundw
            case rel =>
              go_light
              exact ⟨p + 1, by omega, by go_num, from_, f, ps, v, by omega, HB0.out, HB1.out, HB2.out, HO.out, below_drewN HBel.out _, by omega, HI.out, HOK.out, by omega⟩
            case measure => go_light; simp [intOf]; omega
          | true =>
            rw [if_pos h36] at hi
            have hdl := Sp.dollar_le (s.data.toList.drop (p + 1))
            have hderr := Sp.dollar_err (s.data.toList.drop (p + 1))
            have hokd := hok.dollar h36
            have hok1 := hok.step hps
            have hl1 : (s.data.toList.drop (p + 1)).length = s.size - (p + 1) := by simp
            rw [hl1] at hdl
            have hdc := Lib.hid (fun W => body_dollar s p W hs hlt)
            generalize hD : Sp.dollar (s.data.toList.drop (p + 1)) = D at hi hdl hderr hokd hdc
            obtain ⟨P, k, e⟩ := D
            clear hD hps hpl hl hl1 hok hnn hone
            simp only at hi hdl hderr hokd hdc
            cases he : (e != 0) with
            | true =>
              rw [if_pos he] at hi
              have hsix := hderr he
              have HI := Lib.hid (show R = none by rw [← hi]; rfl)
              have HS := Lib.hid hsix
              clear hi hsix hderr hokd hok1 hd
              go_wp2_with (first
                | (go_at_call 46; refine (body_pass s p _ hs hlt hgr).mono ?_; rintro e w' ⟨rfl, n2, rfl⟩; rw [HP.out]; simp only [Sp.place, Nat.add_zero])
                | (go_at_call 47; refine (hdc.out _).mono ?_; rintro e w1 ⟨rfl, hb⟩; simp only [pieceV]))
              go_ret2
              refine ⟨_, by rw [HI.out, HS.out]; rfl, ?_, ?_⟩
              · rw [HI.out]; exact World.ownsRow_nil _ _ _ _
              · exact (((below_drewN HBel.out _).trans (hb.mono (by have := HBel.out.size; simp; omega))).alloc (by have := HBel.out.size; have := hb.size; simp at this; omega) _)
            | false =>
              rw [he, if_neg (by simp)] at hi
              have h0 : e = 0 := by simpa using he
              subst h0
              clear hderr
              by_cases hk : 0 < k
              · rw [if_pos hk] at hi
                rw [← hd, List.drop_drop] at hokd
                rw [List.drop_drop] at hi
                have HI := Lib.hid hi
                have HOK := Lib.hid hokd
                clear hi hokd hok1 hd
                have hnlt : ps.length < 4294967281 - 2 ∨ True := .inr trivial
                go_wp2_with (first
                  | (go_at_call 46; refine (body_pass s p _ hs hlt hgr).mono ?_; rintro e w' ⟨rfl, n2, rfl⟩; rw [HP.out]; simp only [Sp.place, Nat.add_zero])
                  | (go_at_call 47; refine (hdc.out _).mono ?_; rintro e w1 ⟨rfl, hb⟩; simp only [pieceV]))
                have hb' : Below wr.heap.size wr w1 := (below_drewN (Below.refl _ _) n2).trans hb
                have hsz := HBel.out.size
                have hsz1 := hb'.size
                have hl2w := lt_at ((hb'.block _ (lt_at HB2.out)).trans HB2.out)
                have e0 := heap_alloc_of ((hb'.block _ (lt_at HB0.out)).trans HB0.out) (.cells #[.int .i64 P.kind, .string ⟨P.text.toArray⟩, .int .i64 P.n, .string ⟨P.tag.toArray⟩] 92)
                have e1 := heap_alloc_of ((hb'.block _ (lt_at HB1.out)).trans HB1.out) (.cells #[.int .i64 P.kind, .string ⟨P.text.toArray⟩, .int .i64 P.n, .string ⟨P.tag.toArray⟩] 92)
                have e2 := heap_alloc_of ((hb'.block _ (lt_at HB2.out)).trans HB2.out) (.cells #[.int .i64 P.kind, .string ⟨P.text.toArray⟩, .int .i64 P.n, .string ⟨P.tag.toArray⟩] 92)
                have eo := (ownsRow_below HO.out hb')
                have hlto := eo.lt
                have e3 := eo.alloc (.cells #[.int .i64 P.kind, .string ⟨P.text.toArray⟩, .int .i64 P.n, .string ⟨P.tag.toArray⟩] 92)
                have hfl : (Sp.flush ((s.data.toList.drop from_).take (p - from_))).length ≤ 1 := by unfold Sp.flush; split <;> simp
                refine (cut_text s from_ p _ _ _ _ _ _ _ _ (by omega) e2 e1 e0 e3 (by omega) (by simp; omega)).mono ?_
                rintro e w2 ⟨rfl, v', hl2, hown2, hkp⟩
                generalize hF : Sp.flush ((s.data.toList.drop from_).take (p - from_)) = F at *
                have n1 := ownsRow_ne e3 e1 (by decide)
                have n0 := ownsRow_ne e3 e0 (by decide)
                have nn2 := ownsRow_ne e3 e2 (by decide)
                have q0 := hkp.at e0 ⟨by omega, fun g hg h => n0 g hg h.symm⟩
                have q2 := hkp.at e2 ⟨by omega, fun g hg h => nn2 g hg h.symm⟩
                have qp := hkp.at (heap_last w1 (.cells #[.int .i64 P.kind, .string ⟨P.text.toArray⟩, .int .i64 P.n, .string ⟨P.tag.toArray⟩] 92)) ⟨by omega, fun g hg h => by have := (hlto g hg).2; omega⟩
                have hbel2 : Below w.heap.size w w2 := (((HBel.out.trans (hb'.mono hsz)).alloc (by omega) _).trans (hkp.below (by simp; omega) (fun k hk => ⟨by omega, fun g hg h => by have := (hlto g hg).1; omega⟩)))
                have hsz2 := hkp.size
                simp only [World.size_alloc] at hsz2
                have k1 := cell_at (i := 0) hl2; have m1 := frozen_at (i := 0) hl2
                have k2 := cell_at (i := 0) q2; have m2 := frozen_at (i := 0) q2
                have p0 := cell_at (i := 0) qp; have p1 := cell_at (i := 1) qp; have p2 := cell_at (i := 2) qp; have p3 := cell_at (i := 3) qp
                obtain ⟨i0, hi0, hz0, hz1, hz2⟩ := info_parts info_piece
                have r1 := ownsRow_ne hown2 hl2 (by decide)
                have r2 := ownsRow_ne hown2 q2 (by decide)
                have r0 := ownsRow_ne hown2 q0 (by decide)
                have hlt2 := hown2.lt
                have Q0 := Lib.hid q0; have Q2 := Lib.hid q2; have HL2 := Lib.hid hl2; have HOW := Lib.hid hown2; have HBL2 := Lib.hid hbel2
                have R0 := Lib.hid r0; have R1 := Lib.hid r1; have R2 := Lib.hid r2; have HLT := Lib.hid hlt2
                have hl2lt := lt_at hl2; have q2lt := lt_at q2; have q0lt := lt_at q0
                clear e0 e1 e2 e3 eo hlto n0 n1 nn2 qp hkp q0 q2 hl2 hown2 hbel2 r0 r1 r2 hlt2 hb hb' HO HBel HB0 HB1 HB2 hF
                go_wp2_with (at_builtin; refine wpList_append_own _ rfl (.tmp 53) (.tmp 55) 85 rfl (w.heap.size + 1 + 1 + 1) 92 i0 _ 4 48 Tryd.underlying85 hi0 hz0 hz1 hz2 rfl (by decide) _ _ _ rfl (HOW.out.alloc _) ⟨w2.heap.size, 0, none⟩ 1 1 (pieceC P) rfl rfl (new_cells _ _ _) (by simp [pieceC, Value.oneCell']) (by unfold maxLen; omega) (by omega) (by simp; omega) ?_; intro v3 w3 ho3 hg3 _; obtain ⟨g3, cp3, rfl⟩ := own_form ho3 (by omega); have s1 := (hg3.block _ (by simp; omega) (fun h => R1.out _ h.symm rfl)).trans (heap_alloc_of HL2.out _); have s2 := (hg3.block _ (by simp; omega) (fun h => R2.out _ h.symm rfl)).trans (heap_alloc_of Q2.out _); have s0 := (hg3.block _ (by simp; omega) (fun h => R0.out _ h.symm rfl)).trans (heap_alloc_of Q0.out _); have k1' := cell_at (i := 0) s1; have m1' := frozen_at (i := 0) s1; have k2' := cell_at (i := 0) s2; have m2' := frozen_at (i := 0) s2; have HO3 := Lib.hid ho3; have HG3 := Lib.hid hg3; have S0 := Lib.hid s0; have S1 := Lib.hid s1; have S2 := Lib.hid s2; clear ho3 hg3 s0 s1 s2)
                go_roundw
                case rel =>
                  go_light
                  refine ⟨p + k, by omega, by go_num, p + k, f, ps ++ F ++ [P], .slice (some ⟨g3, 0, none⟩) (ps.length + F.length + 1) cp3, Nat.le_refl _, ?_, ?_, ?_, ?_, ?_, by omega, ?_, HOK.out, by simp; omega⟩
                  · exact (Below.heap_setCell _ _ _ _ (by simp; omega)).trans ((Below.heap_setCell _ _ _ _ (by simp)).trans S0.out)
                  · exact (Below.heap_setCell _ _ _ _ (by simp)).trans (heap_setCell_at S1.out)
                  · have := heap_setCell_at (i := 0) (v := .int .i64 ((p + k : Nat) : Int)) ((Below.heap_setCell w3 ⟨w.heap.size + 1, 0, none⟩ (.slice (some ⟨g3, 0, none⟩) (ps.length + F.length + 1) cp3) (w.heap.size + 1 + 1) (by simp)).trans S2.out)
                    simpa using this
                  · have h1 := ownsRow_setCell_ne (i := 0) HO3.out S1.out (by decide) (.slice (some ⟨g3, 0, none⟩) (ps.length + F.length + 1) cp3)
                    have h2 := ownsRow_setCell_ne (i := 0) h1 ((Below.heap_setCell w3 ⟨w.heap.size + 1, 0, none⟩ (.slice (some ⟨g3, 0, none⟩) (ps.length + F.length + 1) cp3) (w.heap.size + 1 + 1) (by simp)).trans S2.out) (by decide) (.int .i64 ((p + k : Nat) : Int))
                    simpa [List.flatMap_append, List.append_assoc, Nat.add_assoc] using h2
                  · exact ((((HBL2.out.alloc (by omega) _).grown HG3.out (by simp; omega) (fun k hk => by have := (HLT.out k hk).1; omega)).setCell (by simp) _).setCell (by simp; omega) _)
                  · have := HI.out
                    simp only [Option.map_map] at this
                    rw [← this]
                    simp [Function.comp_def]
                case measure => go_light; simp [intOf]; omega
              · rw [if_neg hk] at hi
                have HI := Lib.hid hi
                have HOK := Lib.hid hok1
                clear hi hokd hok1 hd
                go_wp2_with (first
                  | (go_at_call 46; refine (body_pass s p _ hs hlt hgr).mono ?_; rintro e w' ⟨rfl, n2, rfl⟩; rw [HP.out]; simp only [Sp.place, Nat.add_zero])
                  | (go_at_call 47; refine (hdc.out _).mono ?_; rintro e w1 ⟨rfl, hb⟩; simp only [pieceV]; have c0' := (hb.cell (p := ⟨w.heap.size, 0, none⟩) (by have := lt_at HB0.out; simpa using this)).trans c0))
                go_roundw
                case rel =>
                  go_light
                  have hb' : Below wr.heap.size wr w1 := (below_drewN (Below.refl _ _) n2).trans hb
                  exact ⟨p + 1, by omega, by go_num, from_, f, ps, v, by omega, heap_alloc_of ((hb'.block _ (lt_at HB0.out)).trans HB0.out) _, heap_alloc_of ((hb'.block _ (lt_at HB1.out)).trans HB1.out) _, heap_alloc_of ((hb'.block _ (lt_at HB2.out)).trans HB2.out) _, (ownsRow_below HO.out hb').alloc _, (HBel.out.trans (hb'.mono HBel.out.size)).alloc (by have := HBel.out.size; have := hb'.size; omega) _, by omega, HI.out, HOK.out, by omega⟩
                case measure => go_light; simp [intOf]; omega
    · have hpe : p = s.size := by omega
      rw [drop_end s p hlt] at hi
      obtain ⟨f, rfl⟩ : ∃ g, f = g + 1 := ⟨f - 1, by omega⟩
      simp only [Sp.cutGo, Option.map_some] at hi
      have HI := Lib.hid hi
      have HPE := Lib.hid hpe
      have hsz := HBel.out.size
      have hl2w := lt_at HB2.out
      have hlto := HO.out.lt
      clear hi hpe hok
      go_wp2_with fail
      refine (cut_text s from_ s.size _ _ _ _ _ _ _ _ (Nat.le_refl _) HB2.out HB1.out HB0.out HO.out (by omega) (by omega)).mono ?_
      rintro e w2 ⟨rfl, v', hl2, hown2, hkp⟩
      have hbel2 : Below w.heap.size w w2 := HBel.out.trans (hkp.below hsz (fun k hk => ⟨by omega, fun g hg h => by have := (hlto g hg).1; omega⟩))
      obtain ⟨a2, cp2, rfl⟩ := ownsRow_some hown2
      have k1 := cell_at (i := 0) hl2
      have HOW := Lib.hid hown2; have HBL2 := Lib.hid hbel2
      clear hl2 hown2 hbel2 hkp HB0 HB1 HB2 HO HBel hlto
      go_wp2
      go_ret2
      have hR := HI.out
      rw [HPE.out] at hR
      subst hR
      refine ⟨_, rfl, ?_, HBL2.out⟩
      have := ownsRow_mono HOW.out (base' := w.heap.size) (by omega)
      simpa [Sp.cutRes, List.flatMap_append] using this

theorem body_Cut (s : ByteArray) (w : World) (hs : s.size < 4294967281) (hg : Gl w) :
    Calls Tryd.prog 25 #[.string s] w (CutPost (Sp.cut s.data.toList) w) := by
  by_cases h : s.data.toList = [] ∨ Sp.endAt s.data.toList 0 ≠ s.data.toList.length
  · rw [Sp.cut, if_pos h]
    exact body_Cut_form s w hs hg h
  · rw [Sp.cut, if_neg h]
    have hl : s.data.toList.length = s.size := by simp
    refine body_Cut_go s w hs hg ?_ ?_ _ (by rw [hl])
    · rw [Lib.toList_data]; exact fun e => h (.inl e)
    · rw [← hl]; exact Classical.not_not.1 fun e => h (.inr e)
end Go.Proofs.YtphdfbmmjkccgaaDoor

namespace Go.Proofs.YtphdfbmmjkccgaaDoor
open Go.RowKit

theorem isBuilder_below {T e : TypeId} {B b : Nat} {bs : List Value} {w w' : World} (h : Lib.IsBuilder T e B b bs w) (hb : Below w.heap.size w w') : Lib.IsBuilder T e B b bs w' := by
  have key : ∀ p, Lib.BuilderAt T e B b p bs w → Lib.BuilderAt T e B b p bs w' := by
    rintro p ⟨hB, v, h1, h2, h3⟩
    exact ⟨hB, v, (hb.block b (lt_at h1)).trans h1, ownsRow_below h2 hb, h3⟩
  exact h.imp (key _) (key _)
theorem SlAt.form {w : World} {v : Value} {size : Nat} {xs : List (List Value)} (h : SlAt w v size xs) : ∃ a cap, v = .slice a xs.length cap := by
  rcases h with ⟨rfl, a, cap, rfl⟩ | ⟨b, off, cap, rfl, _, _⟩
  · exact ⟨a, cap, rfl⟩
  · exact ⟨_, _, rfl⟩
theorem SlAt.some {w : World} {v : Value} {size : Nat} {xs : List (List Value)} (h : SlAt w v size xs) (hne : xs ≠ []) : ∃ b off cap, v = .slice (some ⟨b, off, none⟩) xs.length cap ∧ b < w.heap.size ∧ ∀ i r, xs[i]? = some r → ∀ j u, r[j]? = some u → w.cell? ⟨b, off + i * size + j, none⟩ = some u := by
  rcases h with ⟨h, _⟩ | h
  · exact absurd h hne
  · exact h
end Go.Proofs.YtphdfbmmjkccgaaDoor

namespace Go.Proofs.YtphdfbmmjkccgaaDoor
open Go.RowKit

/-- An old block behind a new one. -/
theorem heap_old {w : World} {b : Nat} {o : Obj} (h : w.heap[b]? = some o) (x : Obj) : (w.alloc x).heap[b]? = some o := (Below.heap_alloc _ _ _ (lt_at h)).trans h
/-- Sizes of what is printed: no string and no list above four thousand. -/
def smallSym (s : Sp.Sym) : Prop := s.name.length ≤ 4000
def smallDecl (d : Sp.Decl) : Prop := d.tag.length ≤ 4000 ∧ d.syms.length ≤ 4000 ∧ ∀ s ∈ d.syms, smallSym s

end Go.Proofs.YtphdfbmmjkccgaaDoor

namespace Go.Proofs.YtphdfbmmjkccgaaDoor
open Go.RowKit

def partC (p : Sp.Part) : List Value := symC p.sym ++ [.string ⟨p.code.toArray⟩, .int .i64 p.at_]
def smallPart (p : Sp.Part) : Prop := p.sym.name.length ≤ 4000 ∧ p.code.length ≤ 4000

/-! ### Alternatives -/
def altC (v : Value) (a : Sp.Alt) : List Value := v :: (symC a.prec ++ [.int .i64 a.at_])
def smallAlt (a : Sp.Alt) : Prop := a.parts.length ≤ 4000 ∧ (∀ p ∈ a.parts, smallPart p) ∧ a.prec.name.length ≤ 4000
/-- A slice of alternatives, read through. -/
def AltsAt (w : World) (v : Value) (al : List Sp.Alt) : Prop := ∃ f : Nat → Value, SlAt w v 6 (al.mapIdx fun i a => altC (f i) a) ∧ ∀ (i : Nat) (a : Sp.Alt), al[i]? = some a → SlAt w (f i) 6 (a.parts.map partC)
theorem AltsAt.below {w w' : World} {v : Value} {al : List Sp.Alt} (h : AltsAt w v al) (hb : Below w.heap.size w w') : AltsAt w' v al := by
  obtain ⟨f, h1, h2⟩ := h
  exact ⟨f, h1.below hb, fun i a ha => (h2 i a ha).below hb⟩
/-! ### Rules -/
def ruleC (v : Value) (r : Sp.Rule) : List Value := [.string ⟨r.left.toArray⟩, v, .int .i64 r.at_]
def smallRule (r : Sp.Rule) : Prop := r.left.length ≤ 4000 ∧ r.alts.length ≤ 4000 ∧ ∀ a ∈ r.alts, smallAlt a
theorem AltsAt.form {w : World} {v : Value} {al : List Sp.Alt} (h : AltsAt w v al) : ∃ a cap, v = .slice a al.length cap := by
  obtain ⟨f, h1, _⟩ := h
  obtain ⟨a, cap, hv⟩ := h1.form
  rw [List.length_mapIdx] at hv
  exact ⟨a, cap, hv⟩

/-- A slice of rules, read through. -/
def RulesAt (w : World) (v : Value) (rs : List Sp.Rule) : Prop := ∃ f : Nat → Value, SlAt w v 3 (rs.mapIdx fun i r => ruleC (f i) r) ∧ ∀ (i : Nat) (r : Sp.Rule), rs[i]? = some r → AltsAt w (f i) r.alts
theorem RulesAt.below {w w' : World} {v : Value} {rs : List Sp.Rule} (h : RulesAt w v rs) (hb : Below w.heap.size w w') : RulesAt w' v rs := by
  obtain ⟨f, h1, h2⟩ := h
  exact ⟨f, h1.below hb, fun i a ha => (h2 i a ha).below hb⟩
theorem RulesAt.form {w : World} {v : Value} {rs : List Sp.Rule} (h : RulesAt w v rs) : ∃ a cap, v = .slice a rs.length cap := by
  obtain ⟨f, h1, _⟩ := h
  obtain ⟨a, cap, hv⟩ := h1.form
  rw [List.length_mapIdx] at hv
  exact ⟨a, cap, hv⟩
end Go.Proofs.YtphdfbmmjkccgaaDoor

namespace Go.Proofs.YtphdfbmmjkccgaaDoor
open Go.RowKit

def declC (v : Value) (d : Sp.Decl) : List Value := [.int .i64 d.kind, .string ⟨d.tag.toArray⟩, v, .int .i64 d.at_]
/-- A slice of declarations, read through. -/
def DeclsAt (w : World) (v : Value) (ds : List Sp.Decl) : Prop := ∃ f : Nat → Value, SlAt w v 4 (ds.mapIdx fun i d => declC (f i) d) ∧ ∀ (i : Nat) (d : Sp.Decl), ds[i]? = some d → SlAt w (f i) 4 (d.syms.map symC)
theorem DeclsAt.below {w w' : World} {v : Value} {ds : List Sp.Decl} (h : DeclsAt w v ds) (hb : Below w.heap.size w w') : DeclsAt w' v ds := by
  obtain ⟨f, h1, h2⟩ := h
  exact ⟨f, h1.below hb, fun i a ha => (h2 i a ha).below hb⟩
theorem DeclsAt.form {w : World} {v : Value} {ds : List Sp.Decl} (h : DeclsAt w v ds) : ∃ a cap, v = .slice a ds.length cap := by
  obtain ⟨f, h1, _⟩ := h
  obtain ⟨a, cap, hv⟩ := h1.form
  rw [List.length_mapIdx] at hv
  exact ⟨a, cap, hv⟩
/-! ### Sources -/
def srcC (vd vr : Value) (x : Sp.Source) : List Value := [.string ⟨x.pro.toArray⟩, vd, vr, .string ⟨x.tail.toArray⟩]
def smallSrc (x : Sp.Source) : Prop := x.pro.length ≤ 4000 ∧ x.tail.length ≤ 4000 ∧ x.decls.length ≤ 4000 ∧ x.rules.length ≤ 4000 ∧ (∀ d ∈ x.decls, smallDecl d) ∧ ∀ r ∈ x.rules, smallRule r
end Go.Proofs.YtphdfbmmjkccgaaDoor

namespace Go.Proofs.YtphdfbmmjkccgaaDoor
open Go.RowKit

theorem ownsRowS_some {w : World} {base : Nat} {e : TypeId} {size : Nat} {v : Value} {n : Nat} {xs : List Value} (h : w.ownsRow base e size v n xs) : ∃ a cap, v = .slice a n cap := by
  rcases h.2 with ⟨rfl, rfl⟩ | ⟨g, cap, cur, rfl, _⟩
  · exact ⟨_, _, rfl⟩
  · exact ⟨_, _, rfl⟩

/-! ### Declarations -/
theorem info_str : (Tryd.prog.info? 9).map (fun i => (i.zero, i.size, i.bytes)) = some (some (.string ⟨#[]⟩), 1, 16) := by kernel_rfl
end Go.Proofs.YtphdfbmmjkccgaaDoor

namespace Go.Proofs.YtphdfbmmjkccgaaDoor
open Go.RowKit

theorem flatten_at {α : Type} (size : Nat) : ∀ (xs : List (List α)), (∀ x ∈ xs, x.length = size) → ∀ i r, xs[i]? = some r → ∀ j u, r[j]? = some u → xs.flatten[i * size + j]? = some u
  | [], _, i, r, h, _, _, _ => by simp at h
  | x :: xs, hx, 0, r, h, j, u, hu => by
    simp at h; subst h
    rw [List.flatten_cons, Nat.zero_mul, Nat.zero_add, List.getElem?_append_left (List.getElem?_eq_some_iff.1 hu).1]
    exact hu
  | x :: xs, hx, i + 1, r, h, j, u, hu => by
    have hl := hx x (by simp)
    rw [List.flatten_cons, List.getElem?_append_right (by rw [hl, Nat.succ_mul]; omega), hl, show (i + 1) * size + j - size = i * size + j by rw [Nat.succ_mul]; omega]
    exact flatten_at size xs (fun y hy => hx y (by simp [hy])) i r (by simpa using h) j u hu
theorem slAt_of_owns {w : World} {base : Nat} {e : TypeId} {v : Value} {size n : Nat} (xs : List (List Value)) (hx : ∀ x ∈ xs, x.length = size) (hn : n = xs.length) (h : w.ownsRow base e size v n xs.flatten) : SlAt w v size xs := by
  subst hn
  rcases h.2 with ⟨rfl, h0⟩ | ⟨g, cap, cur, rfl, hb, hg, _⟩
  · left
    obtain rfl := List.eq_nil_of_length_eq_zero h0
    exact ⟨rfl, none, 0, rfl⟩
  · right
    refine ⟨g, 0, cap, rfl, lt_at hg, fun i r hr j u hu => ?_⟩
    have := h.cells (g := g) rfl _ u (flatten_at size xs hx i r hr j u hu)
    rw [show (⟨g, 0 + i * size + j, none⟩ : Addr) = (⟨g, 0, none⟩ : Addr).add (i * size + j) by unfold Addr.add; split <;> simp_all]
    exact this
end Go.Proofs.YtphdfbmmjkccgaaDoor

namespace Go.Proofs.YtphdfbmmjkccgaaDoor
open Go.RowKit

/-- WriteString, behind bytes. -/
theorem write_bytes (N : Nat) (acc : List UInt8) (s : ByteArray) (W : World) (hb : Lib.IsBuilder 90 5 N N (Lib.byteCells acc) W) (hl : acc.length + s.size ≤ 140737488355328) (hN : N ≤ W.heap.size) :
    Calls Tryd.prog 26 #[.pointer (some ⟨N, 0, none⟩), .string s] W fun e w' => e = .returned (.tuple #[.int .i64 s.size, .nilIface]) ∧ Lib.IsBuilder 90 5 N N (Lib.byteCells (acc ++ s.data.toList)) w' ∧ Below N W w' :=
  (Tryd.Builder_WriteString N N (Lib.byteCells acc) s W hb (by rw [Lib.byteCells_length]; exact hl) hN).mono fun _ _ ⟨h1, h2, h3⟩ => ⟨h1, .inr (by
    have e : Lib.byteCells (acc ++ s.data.toList) = Lib.byteCells acc ++ Lib.strCells s := by rw [Lib.byteCells_append]; congr 1
    rw [e]; exact h2), h3⟩

end Go.Proofs.YtphdfbmmjkccgaaDoor
