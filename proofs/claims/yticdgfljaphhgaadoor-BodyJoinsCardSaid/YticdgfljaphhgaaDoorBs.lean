/- The walk of BodyJoins. -/
import Derived.Test.YticdgfljaphhgaaDoorBp
import Derived.Test.YticdgfljaphhgaaDoorBn
import Derived.Test.YticdgfljaphhgaaDoorFb
import Derived.Deep.RegionHeld3
import Derived.Deep.AppendLies
namespace Go.Proofs.YticdgfljaphhgaaDoor
open Go.RowKit

theorem cutTo_mk (l : List UInt8) (k : Nat) : cutTo ⟨l.toArray⟩ k = ⟨(l.take k).toArray⟩ := by
  unfold cutTo
  have hs : (⟨l.toArray⟩ : ByteArray).size = l.length := by rw [Lib.size_eq]
  split
  · rw [Lib.extract_eq]; simp
  · rw [List.take_of_length_le (by omega)]
theorem text_list (l : List UInt8) (k : Nat) (W : World) : Calls Tryd.prog 16 #[.string ⟨l.toArray⟩, .int .i64 k] W fun e w' => e = .returned (.string ⟨(l.take k).toArray⟩) ∧ W = w' := by
  have h := law_Text ⟨l.toArray⟩ k W
  rw [cutTo_mk] at h
  exact h

theorem text_still (l : List UInt8) (k : Nat) (W : World) : Calls Tryd.prog 16 #[.string ⟨l.toArray⟩, .int .i64 k] W fun e w' => e = .returned (.string ⟨(l.take k).toArray⟩) ∧ w' = W :=
  (text_list l k W).mono fun _ _ ⟨h1, h2⟩ => ⟨h1, h2.symm⟩
def trimP (p : Sp.Piece) : Sp.Piece := ⟨p.kind, p.text.take 30, p.n, p.tag.take 30⟩

set_option maxRecDepth 100000 in
set_option maxHeartbeats 3200000 in
theorem law_BodyJoins (v : Value) (ps : List Sp.Piece) (w : World) (hsl : SlAt w v 4 (ps.map pieceC)) (hml : ps.length ≤ maxLen) (hsz : ∀ p ∈ ps, p.text.length ≤ maxLen ∧ p.tag.length ≤ maxLen) (hg : Gl w) :
    Calls Tryd.prog 4 #[v] w fun e w' => e = .returned (.bool true) ∧ Below w.heap.size w w' := by
  obtain ⟨a, cap, rfl⟩ := hsl.form
  rw [List.length_map] at *
  generalize hl : ps.length = n at *
  have HL := Lib.hid hl
  have HS := Lib.hid hsl
  have HSZ := Lib.hid hsz
  obtain ⟨i0, hi0, hz0, hz1, hz2⟩ := info_parts info_piece
  unfold maxLen at hml
  clear hl hsl hsz
  go_enter Tryd.func4, Tryd.ntmps4
  go_wp2_with fail
  refine (wakes5 w hg).mono ?_
  rintro e w1 ⟨rfl, hb1⟩
  have hg1 := hg.below hb1
  have hsz1 := hb1.size
  go_wp2_with fail
  go_loopw [3, 4] (fun pv iv wr => ∃ k : Nat, k ≤ n ∧ k ≤ 20 ∧ iv = .int .i64 k ∧ wr.ownsRow w1.heap.size 28 4 pv k (((ps.take k).map trimP).flatMap pieceC) ∧ Below w1.heap.size w1 wr) (fun _ iv _ => n - (intOf iv).toNat)
  case atStart => exact ⟨0, by omega, by omega, rfl, World.ownsRow_nil _ _ _ _, Below.refl _ _⟩
  case round =>
    obtain ⟨k, hk, hk2, rfl, ho, hbel⟩ := hrel
    have HBel := Lib.hid hbel
    obtain ⟨a1s, cap1, rfl⟩ := ownsRow_some ho
    have HO := Lib.hid ho
    clear hbel ho
    by_cases hkn : k < n ∧ k < 20
    · obtain ⟨hkn, hk20⟩ := hkn
      have hkl : k < ps.length := by have := HL.out; omega
      have hpk : ps[k]? = some ps[k] := List.getElem?_eq_getElem hkl
      have HP := Lib.hid hpk
      generalize ps[k] = p at *
      obtain ⟨b, off, cap', hv, hb, hc⟩ := HS.out.some (by intro h; have := congrArg List.length h; simp at this; have h2 := HL.out; rw [this] at h2; simp at h2; omega)
      obtain ⟨rfl, hcap⟩ : a = some ⟨b, off, none⟩ ∧ cap = cap' := by simpa [HL.out] using hv
      clear hv hcap
      have g1 := hc k (pieceC p) (by simp [hpk])
      obtain ⟨kd, tx, nn, tg⟩ := p
      have hb' : b < w1.heap.size := by omega
      have a0 := ((HBel.out.cell (p := ⟨b, _, none⟩) hb').trans (hb1.cell (p := ⟨b, _, none⟩) hb)).trans (g1 0 _ rfl)
      have a1 := ((HBel.out.cell (p := ⟨b, _, none⟩) hb').trans (hb1.cell (p := ⟨b, _, none⟩) hb)).trans (g1 1 _ rfl)
      have a2 := ((HBel.out.cell (p := ⟨b, _, none⟩) hb').trans (hb1.cell (p := ⟨b, _, none⟩) hb)).trans (g1 2 _ rfl)
      have a3 := ((HBel.out.cell (p := ⟨b, _, none⟩) hb').trans (hb1.cell (p := ⟨b, _, none⟩) hb)).trans (g1 3 _ rfl)
      simp only [Nat.add_zero] at a0
      clear g1 hc hpk hkl
      go_wp2_with fail
      have ak : (Value.slice a1s k cap1).ownBlock ≠ some b := fun h => by have := (HO.out.lt b h).1; omega
      have lb : b < wr.heap.size := by have := HBel.out.size; omega
      have hk0 : (0 : Int) ≤ (k : Int) := Int.natCast_nonneg _
      have hk1 : (k : Int) < (n : Int) := by omega
      have hbase : w1.heap.size ≤ wr.heap.size := HBel.out.size
      go_region_held3 (fun w' => w'.cell? ⟨b, off + k * 4, none⟩ = some (.int .i64 kd) ∧ w'.cell? ⟨b, off + k * 4 + 1, none⟩ = some (.string ⟨tx.toArray⟩) ∧ w'.cell? ⟨b, off + k * 4 + 2, none⟩ = some (.int .i64 nn) ∧ w'.cell? ⟨b, off + k * 4 + 3, none⟩ = some (.string ⟨tg.toArray⟩))
        (first
          | go_keep
          | (go_split_ands
             refine ⟨?_, ?_, ?_, ?_⟩ <;> (rw [hgrow.cell_far _ (by simp; omega) (Ne.symm ak)]; assumption)))
        ((first
          | (go_at_call 16; refine (text_list _ 30 _).mono ?_; rintro e w' ⟨rfl, rfl⟩)
          | (refine step_append_lies _ (by rfl) _ _ _ (by rfl) w1.heap.size 28 i0 _ 4 48 Tryd.underlying26 hi0 hz0 hz1 hz2 rfl (by omega) _ _ _ (by rfl) ((HO.out.alloc _).drew)
              ⟨wr.heap.size, 0, none⟩ 1 1 (pieceC (trimP ⟨kd, tx, nn, tg⟩)) (by rfl) (by rfl) (World.news_of_block (cs := (pieceC (trimP ⟨kd, tx, nn, tg⟩)).toArray) (t := 28) (fr := (0, 0)) (heap_alloc_new wr _)) (by simp [Value.oneCell', pieceC])
              (by omega) (by unfold maxLen; omega) (by omega) (by simp; omega) (wr.heap.size + 1) (by simp) ?_; intro gg cap w5 hown1 hgrow hat hlt)))
      all_goals
        have HO1 := Lib.hid hown1; have HG1 := Lib.hid hgrow
        clear hown1 hgrow hat
        go_wp2
        go_roundw
        case rel =>
          go_light
          refine ⟨k + 1, by omega, by omega, by go_num, ?_, ?_⟩
          · have h := HO1.out
            have e : ((ps.take (k + 1)).map trimP).flatMap pieceC = ((ps.take k).map trimP).flatMap pieceC ++ pieceC (trimP ⟨kd, tx, nn, tg⟩) := by
              rw [List.take_add_one, HP.out]
              simp [List.flatMap_append]
            rw [e]
            exact h
          · exact (below_drewN (HBel.out.alloc hbase _) 1).grown HG1.out (by simp; omega) (fun g hg => (HO.out.lt g hg).1)
        case measure => go_light; simp [intOf]; omega
    · have hkk : k = n ∨ k = 20 := by omega
      have hlen : ((ps.take k).map trimP).length = k := by have := HL.out; simp; omega
      have hsm : ∀ p ∈ (ps.take k).map trimP, p.text.length ≤ 1000 ∧ p.tag.length ≤ 1000 := by
        intro p hp
        simp only [List.mem_map] at hp
        obtain ⟨q, _, rfl⟩ := hp
        simp [trimP]; omega
      have ho := HO.out
      generalize (ps.take k).map trimP = qs at *
      subst hlen
      have hs := pieces_slAt qs ho
      have hgw := hg1.below HBel.out
      have HJ := Lib.hid (fun W (hv : SlAt W (.slice a1s qs.length cap1) 4 (qs.map pieceC)) (hW : Gl W) => body_Join _ qs W hv (by omega) hsm hW)
      have HR := Lib.hid (fun W (hv : SlAt W (.slice a1s qs.length cap1) 4 (qs.map pieceC)) => ref_Join _ qs W hv (by omega) hsm)
      generalize Sp.joinRes (Sp.join qs) = R at HJ HR
      have HSL := Lib.hid hs
      clear hs ho hsm HO HS HSZ HL
      have hfin : ∀ wf, Below wr.heap.size wr wf → Below w.heap.size w wf := fun wf h => (hb1.trans (HBel.out.mono hsz1)).trans (h.mono (Nat.le_trans hsz1 HBel.out.size))
      have HF := Lib.hid hfin
      clear hfin
      rcases hkk with hkk | hkk
      all_goals
        have HK := Lib.hid hkk
        clear hkk
        by_cases hlt : qs.length < n
        all_goals
          first
          | (exfalso; have := HK.out; omega)
          | (go_wp2_with fail
             refine (HJ.out wr HSL.out hgw).mono ?_
             rintro e w6 ⟨rfl, hb6⟩
             go_wp2_with fail
             refine (HR.out w6 (HSL.out.below hb6)).mono ?_
             rintro e w7 ⟨rfl, hb7⟩
             go_wp2_with fail
             go_ret
             exact ⟨by simp, HF.out _ (hb6.trans (hb7.mono hb6.size))⟩)
end Go.Proofs.YticdgfljaphhgaaDoor
