/- The walk of the reference's Join. -/
import Derived.Test.YticdgfljaphhgaaDoorBm
namespace Go.Proofs.YticdgfljaphhgaaDoor
open Go.RowKit

theorem str_eq {s t : ByteArray} (h : s.data.toList = t.data.toList) : Value.string s = Value.string t := by
  have : s = t := by
    apply ByteArray.ext
    apply Array.ext'
    exact h
  rw [this]
set_option maxHeartbeats 400000 in
theorem ref_Name (s : ByteArray) (w : World) (hs : s.size < 4294967281) :
    Calls Tryd.prog 33 #[.string s] w fun e w' => e = .returned (.bool (Sp.isName s.data.toList)) ∧ w = w' := by
  have hl : s.data.toList.length = s.size := by simp
  generalize hN : Sp.isName s.data.toList = N
  unfold Sp.isName at hN
  have he : s.data.toList.isEmpty = decide (s.size = 0) := by
    rw [Bool.eq_iff_iff, List.isEmpty_iff, decide_eq_true_eq, ← hl]
    exact ⟨fun h => by rw [h]; rfl, List.eq_nil_of_length_eq_zero⟩
  rw [hl, he] at hN
  have HN := Lib.hid hN; clear hN hl he
  have HR := Lib.hid (ref_NameAt s 0 w hs (Nat.zero_le _))
  simp only [List.drop_zero] at HR
  generalize Sp.nameLen true s.data.toList = r at *
  go_enter Tryd.func33, Tryd.ntmps33
  go_wp2_with (go_at_call 51; refine (HR.out).mono ?_; rintro e w' ⟨rfl, rfl⟩)
  all_goals (go_ret; have hN := HN.out; clear HN HR)
  all_goals exact ⟨ret_bool (by rw [← hN, Bool.eq_iff_iff]; simp only [Bool.and_eq_true, Bool.not_eq_true', decide_eq_true_eq, decide_eq_false_iff_not, beq_iff_eq, Bool.false_eq_true]; first | omega | (rw [false_iff]; omega)), rfl⟩

set_option maxRecDepth 100000 in
set_option maxHeartbeats 3200000 in
theorem ref_Join (v : Value) (ps : List Sp.Piece) (w : World) (hsl : SlAt w v 4 (ps.map pieceC)) (hn : ps.length ≤ 1000) (hsz : ∀ p ∈ ps, p.text.length ≤ 1000 ∧ p.tag.length ≤ 1000) :
    Calls Tryd.prog 20 #[v] w fun e w' => e = .returned (.tuple #[.string ⟨(Sp.joinRes (Sp.join ps)).1.toArray⟩, .int .i64 (Sp.joinRes (Sp.join ps)).2]) ∧ Below w.heap.size w w' := by
  generalize hR : Sp.join ps = R
  have HR := Lib.hid hR
  have HS := Lib.hid hsl
  have HSZ := Lib.hid hsz
  obtain ⟨a, cap, rfl⟩ := hsl.form
  rw [List.length_map] at *
  generalize hl : ps.length = n at *
  have HL := Lib.hid hl
  clear hR hsl hsz hl
  go_enter Tryd.func20, Tryd.ntmps20
  go_wp2
  go_loopw [4, 5] (fun sv iv wr => ∃ (k : Nat) (acc : List UInt8), k ≤ n ∧ iv = .int .i64 k ∧ sv = .string ⟨acc.toArray⟩ ∧ Below w.heap.size w wr ∧ acc.length ≤ 4000 * k ∧ (Sp.join (ps.drop k)).map (acc ++ ·) = R) (fun _ iv _ => n - (intOf iv).toNat)
  case atStart => exact ⟨0, [], Nat.zero_le _, rfl, rfl, Below.refl _ _, by simp, by simpa using HR.out⟩
  case round =>
    obtain ⟨k, acc, hk, rfl, rfl, hbel, hacc, hi⟩ := hrel
    have HBel := Lib.hid hbel
    clear hbel HR
    by_cases hkn : k < n
    · have hkl : k < ps.length := by have := HL.out; omega
      rw [List.drop_eq_getElem_cons hkl, join_cons] at hi
      have hmem := HSZ.out ps[k] (List.getElem_mem hkl)
      have hpk : ps[k]? = some ps[k] := List.getElem?_eq_getElem hkl
      generalize ps[k] = p at *
      obtain ⟨b, off, cap', hv, hb, hc⟩ := HS.out.some (by intro h; have := congrArg List.length h; simp at this; have h2 := HL.out; rw [this] at h2; simp at h2; omega)
      obtain ⟨rfl, hcap⟩ : a = some ⟨b, off, none⟩ ∧ cap = cap' := by simpa [HL.out] using hv
      clear hv hcap
      have g1 := hc k (pieceC p) (by simp [hpk])
      obtain ⟨kd, tx, nn, tg⟩ := p
      have a0 := (HBel.out.cell (p := ⟨b, _, none⟩) hb).trans (g1 0 _ rfl)
      have a1 := (HBel.out.cell (p := ⟨b, _, none⟩) hb).trans (g1 1 _ rfl)
      have a2 := (HBel.out.cell (p := ⟨b, _, none⟩) hb).trans (g1 2 _ rfl)
      have a3 := (HBel.out.cell (p := ⟨b, _, none⟩) hb).trans (g1 3 _ rfl)
      simp only [Nat.add_zero] at a0
      clear g1 hc hpk hkl
      simp only at hmem
      obtain ⟨hx1, hx2⟩ := hmem
      have HI := Lib.hid hi
      clear hi
      by_cases hkr : kd < 1 ∨ 3 < kd
      · have hpt : Sp.pieceText ⟨kd, tx, nn, tg⟩ = none := by unfold Sp.pieceText; rw [if_neg (c := kd = 1) (by omega), if_neg (c := kd = 2) (by omega), if_neg (c := kd = 3) (by omega)]; simp
        have HP := Lib.hid hpt
        clear hpt
        rcases hkr with hkr | hkr
        all_goals
          go_wp2
          go_ret2
          have hi := HI.out
          rw [HP.out] at hi
          subst hi
          exact ⟨rfl, HBel.out.alloc HBel.out.size _⟩
      have hk0 : 1 ≤ kd := by omega
      have hk4 : kd ≤ 3 := by omega
      clear hkr
      by_cases hn0 : nn < 0
      · have hpt : Sp.pieceText ⟨kd, tx, nn, tg⟩ = none := by unfold Sp.pieceText Sp.wrong; simp [hn0]
        have HP := Lib.hid hpt
        clear hpt
        go_wp2
        go_ret2
        have hi := HI.out
        rw [HP.out] at hi
        subst hi
        exact ⟨rfl, HBel.out.alloc HBel.out.size _⟩
      · by_cases hn9 : 999 < nn
        · have hpt : Sp.pieceText ⟨kd, tx, nn, tg⟩ = none := by unfold Sp.pieceText Sp.wrong; simp [hn9]
          have HP := Lib.hid hpt
          clear hpt
          go_wp2
          go_ret2
          have hi := HI.out
          rw [HP.out] at hi
          subst hi
          exact ⟨rfl, HBel.out.alloc HBel.out.size _⟩
        · cases tg with
          | nil =>
            have hw : Sp.wrong ⟨kd, tx, nn, []⟩ = false := by unfold Sp.wrong; simp; omega
            by_cases hk1 : kd = 1
            · subst hk1
              have hpt : Sp.pieceText ⟨1, tx, nn, []⟩ = some tx := by unfold Sp.pieceText; rw [hw]; simp
              have HP := Lib.hid hpt
              clear hpt hw
              have hsz1 : acc.length + tx.length ≤ 9223372036854775807 := by omega
              go_wp2_with (first  | fail)
              go_roundw
              case rel =>
                go_light
                have hi := HI.out
                rw [HP.out] at hi
                simp only [Option.map_map] at hi
                refine ⟨k + 1, acc ++ tx, by omega, by go_num, ?_, (HBel.out.alloc HBel.out.size _), by simp [Sp.tagText]; omega, ?_⟩
                · exact str_eq (by simp [Sp.tagText])
                · rw [← hi]; simp [Function.comp_def]
              case measure => go_light; simp [intOf]; omega
            · by_cases hk2 : kd = 2
              · subst hk2
                have hpt : Sp.pieceText ⟨2, tx, nn, []⟩ = some (36 :: (Sp.tagText ([]) ++ [36])) := by unfold Sp.pieceText; rw [hw]; simp
                have HP := Lib.hid hpt
                clear hk1 hpt hw
                go_wp2_with (first  | fail)
                go_roundw
                case rel =>
                  go_light
                  have hi := HI.out
                  rw [HP.out] at hi
                  simp only [Option.map_map] at hi
                  refine ⟨k + 1, acc ++ (36 :: (Sp.tagText ([]) ++ [36])), by omega, by go_num, ?_, (HBel.out.alloc HBel.out.size _), by simp [Sp.tagText]; omega, ?_⟩
                  · exact str_eq (by simp [Sp.tagText])
                  · rw [← hi]; simp [Function.comp_def]
                case measure => go_light; simp [intOf]; omega
              · obtain rfl : kd = 3 := by omega
                have hpt : Sp.pieceText ⟨3, tx, nn, []⟩ = some (36 :: (Sp.tagText ([]) ++ Lib.itoa nn)) := by unfold Sp.pieceText; rw [hw]; simp
                have HP := Lib.hid hpt
                have hit := Lib.itoa_length_le nn (by omega) (by omega)
                clear hk1 hk2 hpt hw
                have HA := Lib.hid (fun W => ref_Digits nn W (by omega) (by omega))
                generalize Lib.itoa nn = itn at *
                go_wp2_with (first  | (go_at_call 25; refine (HA.out _).mono ?_; rintro e w1 ⟨rfl, hb1⟩))
                go_roundw
                case rel =>
                  go_light
                  have hi := HI.out
                  rw [HP.out] at hi
                  simp only [Option.map_map] at hi
                  refine ⟨k + 1, acc ++ (36 :: (Sp.tagText ([]) ++ itn)), by omega, by go_num, ?_, ((HBel.out.alloc HBel.out.size _).trans (hb1.mono (by have := HBel.out.size; simp; omega))), by simp [Sp.tagText]; omega, ?_⟩
                  · exact str_eq (by simp [Sp.tagText])
                  · rw [← hi]; simp [Function.comp_def]
                case measure => go_light; simp [intOf]; omega
          | cons c0 tg =>
            have hsn : (⟨(c0 :: tg).toArray⟩ : ByteArray).size < 4294967281 := by rw [Lib.size_eq]; simp at *; omega
            have hlen := hx2
            simp only [List.length_cons] at hlen
            cases hnm : Sp.isName (c0 :: tg) with
            | false =>
              have hpt : Sp.pieceText ⟨kd, tx, nn, c0 :: tg⟩ = none := by unfold Sp.pieceText Sp.wrong; simp [hnm]
              have HP := Lib.hid hpt
              have HNM := Lib.hid (show Sp.isName (⟨(c0 :: tg).toArray⟩ : ByteArray).data.toList = false from hnm)
              clear hpt hnm
              go_wp2_with (first | (go_at_call 33; refine (ref_Name ⟨(c0 :: tg).toArray⟩ _ hsn).mono ?_; rintro e w' ⟨rfl, rfl⟩; rw [HNM.out]))
              go_ret2
              have hi := HI.out
              rw [HP.out] at hi
              subst hi
              exact ⟨rfl, HBel.out.alloc HBel.out.size _⟩
            | true =>
              have hw : Sp.wrong ⟨kd, tx, nn, c0 :: tg⟩ = false := by unfold Sp.wrong; simp [hnm]; omega
              have HNM := Lib.hid (show Sp.isName (⟨(c0 :: tg).toArray⟩ : ByteArray).data.toList = true from hnm)
              clear hnm
              by_cases hk1 : kd = 1
              · subst hk1
                have hpt : Sp.pieceText ⟨1, tx, nn, c0 :: tg⟩ = some tx := by unfold Sp.pieceText; rw [hw]; simp
                have HP := Lib.hid hpt
                clear hpt hw
                have hsz1 : acc.length + tx.length ≤ 9223372036854775807 := by omega
                go_wp2_with (first | (go_at_call 33; refine (ref_Name ⟨(c0 :: tg).toArray⟩ _ hsn).mono ?_; rintro e w' ⟨rfl, rfl⟩; rw [HNM.out]) | fail)
                go_roundw
                case rel =>
                  go_light
                  have hi := HI.out
                  rw [HP.out] at hi
                  simp only [Option.map_map] at hi
                  refine ⟨k + 1, acc ++ tx, by omega, by go_num, ?_, (HBel.out.alloc HBel.out.size _), by simp [Sp.tagText]; omega, ?_⟩
                  · exact str_eq (by simp [Sp.tagText])
                  · rw [← hi]; simp [Function.comp_def]
                case measure => go_light; simp [intOf]; omega
              · by_cases hk2 : kd = 2
                · subst hk2
                  have hpt : Sp.pieceText ⟨2, tx, nn, c0 :: tg⟩ = some (36 :: (Sp.tagText (c0 :: tg) ++ [36])) := by unfold Sp.pieceText; rw [hw]; simp
                  have HP := Lib.hid hpt
                  clear hk1 hpt hw
                  go_wp2_with (first | (go_at_call 33; refine (ref_Name ⟨(c0 :: tg).toArray⟩ _ hsn).mono ?_; rintro e w' ⟨rfl, rfl⟩; rw [HNM.out]) | fail)
                  go_roundw
                  case rel =>
                    go_light
                    have hi := HI.out
                    rw [HP.out] at hi
                    simp only [Option.map_map] at hi
                    refine ⟨k + 1, acc ++ (36 :: (Sp.tagText (c0 :: tg) ++ [36])), by omega, by go_num, ?_, (HBel.out.alloc HBel.out.size _), by simp [Sp.tagText]; omega, ?_⟩
                    · exact str_eq (by simp [Sp.tagText])
                    · rw [← hi]; simp [Function.comp_def]
                  case measure => go_light; simp [intOf]; omega
                · obtain rfl : kd = 3 := by omega
                  have hpt : Sp.pieceText ⟨3, tx, nn, c0 :: tg⟩ = some (36 :: (Sp.tagText (c0 :: tg) ++ Lib.itoa nn)) := by unfold Sp.pieceText; rw [hw]; simp
                  have HP := Lib.hid hpt
                  have hit := Lib.itoa_length_le nn (by omega) (by omega)
                  clear hk1 hk2 hpt hw
                  have HA := Lib.hid (fun W => ref_Digits nn W (by omega) (by omega))
                  generalize Lib.itoa nn = itn at *
                  go_wp2_with (first | (go_at_call 33; refine (ref_Name ⟨(c0 :: tg).toArray⟩ _ hsn).mono ?_; rintro e w' ⟨rfl, rfl⟩; rw [HNM.out]) | (go_at_call 25; refine (HA.out _).mono ?_; rintro e w1 ⟨rfl, hb1⟩))
                  go_roundw
                  case rel =>
                    go_light
                    have hi := HI.out
                    rw [HP.out] at hi
                    simp only [Option.map_map] at hi
                    refine ⟨k + 1, acc ++ (36 :: (Sp.tagText (c0 :: tg) ++ itn)), by omega, by go_num, ?_, ((HBel.out.alloc HBel.out.size _).trans (hb1.mono (by have := HBel.out.size; simp; omega))), by simp [Sp.tagText]; omega, ?_⟩
                    · exact str_eq (by simp [Sp.tagText])
                    · rw [← hi]; simp [Function.comp_def]
                  case measure => go_light; simp [intOf]; omega
    · have hke : ps.drop k = [] := List.drop_of_length_le (by have := HL.out; omega)
      rw [hke] at hi
      simp only [Sp.join, Option.map_some, List.append_nil] at hi
      have HI := Lib.hid hi
      clear hi hke
      go_wp2
      go_ret2
      have hi := HI.out
      subst hi
      exact ⟨rfl, HBel.out⟩
end Go.Proofs.YticdgfljaphhgaaDoor
