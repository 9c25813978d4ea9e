/- The walk of the reference's Take. -/
import Derived.Test.YticdgfljaphhgaaDoorCg
namespace Go.Proofs.YticdgfljaphhgaaDoor
open Go.RowKit

set_option maxRecDepth 100000 in
set_option maxHeartbeats 1600000 in
theorem lex_Words (s : ByteArray) (w : World) (hs : s.size < 4294967281) (hg : Gl w) :
    Calls Tryd.prog 28 #[.string s] w (WordsPost (Sp.words s.data.toList) w) := by
  have hll : s.data.toList.length = s.size := by simp
  unfold Sp.words
  rw [hll]
  by_cases h : 4000 < s.size
  · rw [if_pos h]
    have hI : (4000 : Int) < (s.size : Int) := by omega
    clear hll
    go_enter Tryd.func28, Tryd.ntmps28
    go_wp2
    refine ret_tmp_cell (g := w.heap.size) rfl rfl (heap_last _ _) rfl Tryd.underlying49 (by kernel_rfl) rfl ?_
    exact ⟨_, rfl, World.ownsRow_nil _ _ _ _, (Below.refl _ _).alloc (Nat.le_refl _) _⟩
  · rw [if_neg h]
    exact lex_Words_go s w (by omega) hg

theorem prefix_fits (s q : ByteArray) (at_ : Nat) (hat : at_ ≤ s.size) : Lib.hasPrefix (s.data.toList.drop at_) q.data.toList = (decide (at_ + q.size ≤ s.size ∨ q.size = 0) && ((s.extract at_ (at_ + q.size)).toList == q.toList)) := by
  rw [Lib.toList_data, Lib.toList_data, ext_any, Nat.add_sub_cancel_left, ← Lib.hasPrefix_of_take]
  have e : q.data.toList.length = q.size := by rw [Lib.size_eq]
  rw [e]
  have hl : (s.data.toList.drop at_).length = s.size - at_ := by simp
  rw [hl]
  congr 1
  rw [Bool.eq_iff_iff, decide_eq_true_eq, decide_eq_true_eq]; omega

set_option maxRecDepth 100000 in
set_option maxHeartbeats 3200000 in
theorem ref_Take (s : ByteArray) (at_ : Nat) (w : World) (hs : s.size < 4294967281) (hat : at_ < s.size) :
    Calls Tryd.prog 108 #[.string s, .int .i64 at_] w fun e w' => e = .returned (.tuple #[.int .u8 (Sp.takeRes at_ (Sp.charTake (s.data.toList.drop at_))).1, .int .i64 (Sp.takeRes at_ (Sp.charTake (s.data.toList.drop at_))).2.1, .bool (Sp.takeRes at_ (Sp.charTake (s.data.toList.drop at_))).2.2]) ∧ Below w.heap.size w w' := by
  obtain ⟨N, hN⟩ : ∃ N, N = Sp.takeRes at_ (Sp.charTake (s.data.toList.drop at_)) := ⟨_, rfl⟩
  rw [← hN]
  have HN := Lib.hid hN
  clear hN
  have H0 : (0 : Int) ≤ (at_ : Int) := Int.natCast_nonneg _
  have hb1 : decide ((at_ : Int) < 0) = false := by simp
  have hb2 : decide (s.size ≤ at_) = false := by simp; omega
  have hb3 : decide ((s.size : Int) ≤ (at_ : Int)) = false := by simp; omega
  go_enter Tryd.func108, Tryd.ntmps108
  go_wp2_with fail
  go_loopw [7] (fun cv wr => ∃ k : Nat, 9 ≤ k ∧ k ≤ 127 ∧ cv = .int .i64 k ∧ Hid (noneBelow (s.data.toList.drop at_) k) ∧ Below w.heap.size w wr) (fun cv _ => 127 - (intOf cv).toNat)
  case atStart => exact ⟨9, by omega, by omega, rfl, Lib.hid (noneBelow.start _), Below.refl _ _⟩
  case round =>
    obtain ⟨k, hk9, hk, rfl, HI, hbel⟩ := hrel
    have HBel := Lib.hid hbel
    clear hbel
    by_cases hlt : k ≤ 126
    · have HQ := Lib.hid (fun W => ref_Quote_nat k (by omega) W)
      have hqe : (⟨(Sp.quoteText (UInt8.ofNat k)).toArray⟩ : ByteArray).data.toList = Sp.quoteText (UInt8.ofNat k) := rfl
      have hpf := prefix_fits s ⟨(Sp.quoteText (UInt8.ofNat k)).toArray⟩ at_ (by omega)
      rw [hqe] at hpf
      have hql := Sp.quoteText_len (UInt8.ofNat k)
      have hsz : (⟨(Sp.quoteText (UInt8.ofNat k)).toArray⟩ : ByteArray).size = (Sp.quoteText (UInt8.ofNat k)).length := by rw [Lib.size_eq]
      have hemp : (⟨(Sp.quoteText (UInt8.ofNat k)).toArray⟩ : ByteArray).toList.isEmpty = (Sp.quoteText (UInt8.ofNat k)).isEmpty := by rw [Lib.toList_data]
      have hof := Sp.charTake_of (s.data.toList.drop at_) (UInt8.ofNat k)
      have hkk : (UInt8.ofNat k).toNat = k := by rw [UInt8.toNat_ofNat_of_lt' (by have : UInt8.size = 256 := rfl; omega)]
      have hstep := fun h' => HI.out.step (by omega : k < 256) h'
      have hwrap : IntKind.u8.wrap (k : Int) = (k : Int) := IntWalk.u8_in _ ⟨by omega, by omega⟩
      generalize hqq : (⟨(Sp.quoteText (UInt8.ofNat k)).toArray⟩ : ByteArray) = q at *
      generalize Sp.quoteText (UInt8.ofNat k) = Q at *
      clear hqe hqq
      cases hE : q.toList.isEmpty with
      | true =>
        have hQ : Q = [] := by rw [hE] at hemp; simpa using hemp.symm
        have HS := Lib.hid (hstep (fun h => h.1 hQ))
        clear hstep hof hpf hemp hQ hsz
        go_wp2_with fail
        refine (HQ.out _).mono ?_
        rintro e w1 ⟨rfl, hb⟩
        go_wp2_with fail
        go_roundw
        case rel => go_light; exact ⟨k + 1, by omega, by omega, by go_num, HS.out, HBel.out.trans (hb.mono HBel.out.size)⟩
        case measure => go_light; simp [intOf]; omega
      | false =>
        have hQ : Q ≠ [] := by rintro rfl; rw [hE] at hemp; simp at hemp
        by_cases hfit : at_ + q.size ≤ s.size
        · have hfitI : (q.size : Int) ≤ (s.size : Int) - (at_ : Int) := by omega
          cases heq : ((s.extract at_ (at_ + q.size)).toList == q.toList) with
          | true =>
            have hP : Lib.hasPrefix (s.data.toList.drop at_) Q = true := by rw [hpf, heq]; simp; omega
            have HT := Lib.hid (hof hQ hP)
            have HK := Lib.hid hkk
            have HZ := Lib.hid hsz
            clear hstep hof hpf hemp hP hkk hsz
            go_wp2_with fail
            refine (HQ.out _).mono ?_
            rintro e w1 ⟨rfl, hb⟩
            go_wp2_with fail
            go_ret3
            refine ⟨?_, HBel.out.trans (hb.mono HBel.out.size)⟩
            rw [HN.out, HT.out]
            simp only [Sp.takeRes, HK.out, HZ.out]
            try simp
          | false =>
            have hP : ¬ Lib.hasPrefix (s.data.toList.drop at_) Q = true := by rw [hpf, heq]; simp
            have HS := Lib.hid (hstep (fun h => hP h.2))
            clear hstep hof hpf hemp hP hsz
            go_wp2_with fail
            refine (HQ.out _).mono ?_
            rintro e w1 ⟨rfl, hb⟩
            go_wp2_with fail
            go_roundw
            case rel => go_light; exact ⟨k + 1, by omega, by omega, by go_num, HS.out, HBel.out.trans (hb.mono HBel.out.size)⟩
            case measure => go_light; simp [intOf]; omega
        · have hP : ¬ Lib.hasPrefix (s.data.toList.drop at_) Q = true := by
            rw [hpf]
            have : ¬ (at_ + q.size ≤ s.size ∨ q.size = 0) := by
              intro h
              rcases h with h | h
              · exact hfit h
              · rw [hsz] at h; exact hQ (List.eq_nil_of_length_eq_zero h)
            rw [decide_eq_false this]; simp
          have HS := Lib.hid (hstep (fun h => hP h.2))
          clear hstep hof hpf hemp hP hsz
          go_wp2_with fail
          refine (HQ.out _).mono ?_
          rintro e w1 ⟨rfl, hb⟩
          go_wp2_with fail
          go_roundw
          case rel => go_light; exact ⟨k + 1, by omega, by omega, by go_num, HS.out, HBel.out.trans (hb.mono HBel.out.size)⟩
          case measure => go_light; simp [intOf]; omega
    · have HT := Lib.hid (HI.out.out (by omega))
      clear HI
      go_wp2_with fail
      go_ret3
      refine ⟨?_, HBel.out⟩
      rw [HN.out, HT.out]
      rfl
end Go.Proofs.YticdgfljaphhgaaDoor
