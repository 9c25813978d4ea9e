/- The walk of Join. -/
import Derived.Test.YticdgfljaphhgaaDoorW1
import Derived.Test.YticdgfljaphhgaaDoorSpD
import Derived.Test.YticdgfljaphhgaaDoorBi
import Derived.Test.YticdgfljaphhgaaDoorBl
import Derived.Test.YticdgfljaphhgaaDoorBc
import Derived.Lib.ItoaLen
import Derived.Deep.DeepMust
namespace Go.Proofs.YticdgfljaphhgaaDoor
open Go.RowKit

theorem isBuilder_below {T e : TypeId} {B b : Nat} {bs : List Value} {w w' : World} (h : Lib.IsBuilder T e B b bs w) (hb : Below w.heap.size w w') : Lib.IsBuilder T e B b bs w' := by
  have key : ∀ p, Lib.BuilderAt T e B b p bs w → Lib.BuilderAt T e B b p bs w' := by
    rintro p ⟨hB, v, h1, h2, h3⟩
    exact ⟨hB, v, (hb.block b (lt_at h1)).trans h1, ownsRow_below h2 hb, h3⟩
  exact h.imp (key _) (key _)
theorem strCells_append (a b : ByteArray) : Lib.strCells (a ++ b) = Lib.strCells a ++ Lib.strCells b := by
  simp [Lib.strCells]
theorem size_mk (l : List UInt8) : (⟨l.toArray⟩ : ByteArray).size = l.length := by rw [Lib.size_eq]
theorem strCells_mk (l : List UInt8) : Lib.strCells ⟨l.toArray⟩ = Lib.byteCells l := rfl
theorem SlAt.form {w : World} {v : Value} {size : Nat} {xs : List (List Value)} (h : SlAt w v size xs) : ∃ a cap, v = .slice a xs.length cap := by
  rcases h with ⟨rfl, a, cap, rfl⟩ | ⟨b, off, cap, rfl, _, _⟩
  · exact ⟨a, cap, rfl⟩
  · exact ⟨_, _, rfl⟩
theorem SlAt.some {w : World} {v : Value} {size : Nat} {xs : List (List Value)} (h : SlAt w v size xs) (hne : xs ≠ []) : ∃ b off cap, v = .slice (some ⟨b, off, none⟩) xs.length cap ∧ b < w.heap.size ∧ ∀ i r, xs[i]? = some r → ∀ j u, r[j]? = some u → w.cell? ⟨b, off + i * size + j, none⟩ = some u := by
  rcases h with ⟨h, _⟩ | h
  · exact absurd h hne
  · exact h
theorem join_cons (p : Sp.Piece) (ps : List Sp.Piece) : Sp.join (p :: ps) = match Sp.pieceText p with | none => none | some t => (Sp.join ps).map (t ++ ·) := rfl

set_option maxRecDepth 100000 in
set_option maxHeartbeats 3200000 in
theorem body_Join (v : Value) (ps : List Sp.Piece) (w : World) (hsl : SlAt w v 4 (ps.map pieceC)) (hn : ps.length ≤ 1000) (hsz : ∀ p ∈ ps, p.text.length ≤ 1000 ∧ p.tag.length ≤ 1000) (hg : Gl w) :
    Calls Tryd.prog 19 #[v] w fun e w' => e = .returned (.tuple #[.string ⟨(Sp.joinRes (Sp.join ps)).1.toArray⟩, .int .i64 (Sp.joinRes (Sp.join ps)).2]) ∧ Below w.heap.size w w' := by
  generalize hR : Sp.join ps = R
  have HR := Lib.hid hR
  have HS := Lib.hid hsl
  have HSZ := Lib.hid hsz
  obtain ⟨a, cap, rfl⟩ := hsl.form
  rw [List.length_map] at *
  generalize hl : ps.length = n at *
  have HL := Lib.hid hl
  clear hR hsl hsz hl
  go_enter Tryd.func19, Tryd.ntmps19
  go_wp2
  go_loopw [10] (fun iv wr => ∃ (k : Nat) (acc : List UInt8), k ≤ n ∧ iv = .int .i64 k ∧ Lib.IsBuilder 81 5 w.heap.size w.heap.size (Lib.byteCells acc) wr ∧ Below w.heap.size w wr ∧ w.heap.size < wr.heap.size ∧ acc.length ≤ 4000 * k ∧ (Sp.join (ps.drop k)).map (acc ++ ·) = R) (fun iv _ => n - (intOf iv).toNat)
  case atStart => exact ⟨0, [], Nat.zero_le _, rfl, Lib.fresh_isBuilder _ _ _, (Below.refl _ _).alloc (Nat.le_refl _) _, by simp, by simp, by simpa using HR.out⟩
  case round =>
    obtain ⟨k, acc, hk, rfl, hbd, hbel, hlt0, hacc, hi⟩ := hrel
    have HBd := Lib.hid hbd
    have HBel := Lib.hid hbel
    have hgr := hg.below hbel
    clear hbd hbel HR
    by_cases hkn : k < n
    · have hkl : k < ps.length := by have := HL.out; omega
      rw [List.drop_eq_getElem_cons hkl, join_cons] at hi
      have hmem := HSZ.out ps[k] (List.getElem_mem hkl)
      have hpk : ps[k]? = some ps[k] := List.getElem?_eq_getElem hkl
      generalize ps[k] = p at *
      obtain ⟨b, off, cap', hv, hb, hc⟩ := HS.out.some (by intro h; have := congrArg List.length h; simp at this; have h2 := HL.out; rw [this] at h2; simp at h2; omega)
      obtain ⟨rfl, hcap⟩ : a = some ⟨b, off, none⟩ ∧ cap = cap' := by simpa [HL.out] using hv
      clear hv hcap
      have g1 := hc k (pieceC p) (by simp [hpk])
      obtain ⟨kd, tx, nn, tg⟩ := p
      have a0 := (HBel.out.cell (p := ⟨b, _, none⟩) hb).trans (g1 0 _ rfl)
      have a1 := (HBel.out.cell (p := ⟨b, _, none⟩) hb).trans (g1 1 _ rfl)
      have a2 := (HBel.out.cell (p := ⟨b, _, none⟩) hb).trans (g1 2 _ rfl)
      have a3 := (HBel.out.cell (p := ⟨b, _, none⟩) hb).trans (g1 3 _ rfl)
      simp only [Nat.add_zero] at a0
      clear g1 hc hpk hkl
      simp only at hmem
      obtain ⟨hx1, hx2⟩ := hmem
      have HI := Lib.hid hi
      clear hi
      by_cases hn0 : nn < 0
      · have hpt : Sp.pieceText ⟨kd, tx, nn, tg⟩ = none := by unfold Sp.pieceText Sp.wrong; simp [hn0]
        have HP := Lib.hid hpt
        clear hpt
        go_wp2
        go_ret2
        have hi := HI.out
        rw [HP.out] at hi
        subst hi
        exact ⟨rfl, HBel.out.alloc HBel.out.size _⟩
      · by_cases hn9 : 999 < nn
        · have hpt : Sp.pieceText ⟨kd, tx, nn, tg⟩ = none := by unfold Sp.pieceText Sp.wrong; simp [hn9]
          have HP := Lib.hid hpt
          clear hpt
          go_wp2
          go_ret2
          have hi := HI.out
          rw [HP.out] at hi
          subst hi
          exact ⟨rfl, HBel.out.alloc HBel.out.size _⟩
        · cases tg with
          | nil =>
            have hw : Sp.wrong ⟨kd, tx, nn, []⟩ = false := by unfold Sp.wrong; simp; omega
            by_cases hk1 : kd = 1
            · subst hk1
              have hpt : Sp.pieceText ⟨1, tx, nn, []⟩ = some tx := by unfold Sp.pieceText; rw [hw]; simp
              have HP := Lib.hid hpt
              clear hpt hw
              go_wp2_with (first  | (go_at_call 39; go_must (refine (Tryd.Builder_WriteString w.heap.size w.heap.size _ _ _ (isBuilder_below HBd.out ((Below.refl _ _).alloc (Nat.le_refl _) _)) (by simp only [Lib.byteCells_length, size_mk, ByteArray.size_append, List.length_cons, List.length_nil]; omega) (by simp only [World.size_alloc]; omega)).mono ?_); rintro e w2 ⟨rfl, hbd2, hbel2⟩))
              go_roundw
              case rel =>
                go_light
                have hi := HI.out
                rw [HP.out] at hi
                simp only [Option.map_map] at hi
                refine ⟨k + 1, acc ++ tx, by omega, by go_num, .inr ?_, ((HBel.out.alloc HBel.out.size _).trans hbel2), by have := hbel2.size; simp at this; omega, by simp; omega, ?_⟩
                · simpa [Lib.byteCells_append, strCells_append, strCells_mk, Lib.byteCells, Lib.strCells, Sp.tagText] using hbd2
                · rw [← hi]; simp [Function.comp_def]
              case measure => go_light; simp [intOf]; omega
            · by_cases hk2 : kd = 2
              · subst hk2
                have hpt : Sp.pieceText ⟨2, tx, nn, []⟩ = some (36 :: (Sp.tagText ([]) ++ [36])) := by unfold Sp.pieceText; rw [hw]; simp
                have HP := Lib.hid hpt
                clear hk1
                clear hpt hw
                go_wp2_with (first  | (go_at_call 39; go_must (refine (Tryd.Builder_WriteString w.heap.size w.heap.size _ _ _ (isBuilder_below HBd.out ((Below.refl _ _).alloc (Nat.le_refl _) _)) (by simp only [Lib.byteCells_length, size_mk, ByteArray.size_append, List.length_cons, List.length_nil]; omega) (by simp only [World.size_alloc]; omega)).mono ?_); rintro e w2 ⟨rfl, hbd2, hbel2⟩))
                go_roundw
                case rel =>
                  go_light
                  have hi := HI.out
                  rw [HP.out] at hi
                  simp only [Option.map_map] at hi
                  refine ⟨k + 1, acc ++ (36 :: (Sp.tagText ([]) ++ [36])), by omega, by go_num, .inr ?_, ((HBel.out.alloc HBel.out.size _).trans hbel2), by have := hbel2.size; simp at this; omega, by simp [Sp.tagText]; omega, ?_⟩
                  · simpa [Lib.byteCells_append, strCells_append, strCells_mk, Lib.byteCells, Lib.strCells, Sp.tagText] using hbd2
                  · rw [← hi]; simp [Function.comp_def]
                case measure => go_light; simp [intOf]; omega
              · by_cases hk3 : kd = 3
                · subst hk3
                  have hpt : Sp.pieceText ⟨3, tx, nn, []⟩ = some (36 :: (Sp.tagText ([]) ++ Lib.itoa nn)) := by unfold Sp.pieceText; rw [hw]; simp
                  have HP := Lib.hid hpt
                  have hit := Lib.itoa_length_le nn (by omega) (by omega)
                  clear hk1 hk2
                  clear hpt hw
                  have HA := Lib.hid (strconv_Itoa_gl nn (by omega) (by omega))
                  generalize Lib.itoa nn = itn at *
                  go_wp2_with (first  | (go_at_call 40; refine (HA.out _ (hgr.alloc _)).mono ?_; rintro e w1 ⟨rfl, hb1⟩; have hz1 := hb1.size) | (go_at_call 39; go_must (refine (Tryd.Builder_WriteString w.heap.size w.heap.size _ _ _ (isBuilder_below HBd.out (((Below.refl _ _).alloc (Nat.le_refl _) _).trans (hb1.mono (by simp)))) (by simp only [Lib.byteCells_length, size_mk, ByteArray.size_append, List.length_cons, List.length_nil]; omega) (by simp only [World.size_alloc] at hz1; omega)).mono ?_); rintro e w2 ⟨rfl, hbd2, hbel2⟩))
                  go_roundw
                  case rel =>
                    go_light
                    have hi := HI.out
                    rw [HP.out] at hi
                    simp only [Option.map_map] at hi
                    refine ⟨k + 1, acc ++ (36 :: (Sp.tagText ([]) ++ itn)), by omega, by go_num, .inr ?_, (((HBel.out.alloc HBel.out.size _).trans (hb1.mono (by simp; omega))).trans hbel2), by have := hbel2.size; simp at hz1; omega, by simp [Sp.tagText]; omega, ?_⟩
                    · simpa [Lib.byteCells_append, strCells_append, strCells_mk, Lib.byteCells, Lib.strCells, Sp.tagText] using hbd2
                    · rw [← hi]; simp [Function.comp_def]
                  case measure => go_light; simp [intOf]; omega
                · have hpt : Sp.pieceText ⟨kd, tx, nn, []⟩ = none := by unfold Sp.pieceText; rw [hw]; simp [hk1, hk2, hk3]
                  have HP := Lib.hid hpt
                  have q1 : (kd == 1) = false := by simpa using hk1
                  have q2 : (kd == 2) = false := by simpa using hk2
                  have q3 : (kd == 3) = false := by simpa using hk3
                  clear hpt hw hk1 hk2 hk3
                  go_wp2_with (first  | fail)
                  go_ret2
                  have hi := HI.out
                  rw [HP.out] at hi
                  subst hi
                  exact ⟨rfl, HBel.out.alloc HBel.out.size _⟩
          | cons c0 tg =>
            have hsn : (⟨(c0 :: tg).toArray⟩ : ByteArray).size < 4294967281 := by rw [Lib.size_eq]; simp at *; omega
            have hlen := hx2
            simp only [List.length_cons] at hlen
            cases hnm : Sp.isName (c0 :: tg) with
            | false =>
              have hpt : Sp.pieceText ⟨kd, tx, nn, c0 :: tg⟩ = none := by unfold Sp.pieceText Sp.wrong; simp [hnm]
              have HP := Lib.hid hpt
              have HNM := Lib.hid (show Sp.isName (⟨(c0 :: tg).toArray⟩ : ByteArray).data.toList = false from hnm)
              clear hpt hnm
              go_wp2_with (first | (go_at_call 38; refine (body_Name ⟨(c0 :: tg).toArray⟩ _ hsn).mono ?_; rintro e w' ⟨rfl, rfl⟩; rw [HNM.out]))
              go_ret2
              have hi := HI.out
              rw [HP.out] at hi
              subst hi
              exact ⟨rfl, HBel.out.alloc HBel.out.size _⟩
            | true =>
              have hw : Sp.wrong ⟨kd, tx, nn, c0 :: tg⟩ = false := by unfold Sp.wrong; simp [hnm]; omega
              have HNM := Lib.hid (show Sp.isName (⟨(c0 :: tg).toArray⟩ : ByteArray).data.toList = true from hnm)
              clear hnm
              by_cases hk1 : kd = 1
              · subst hk1
                have hpt : Sp.pieceText ⟨1, tx, nn, c0 :: tg⟩ = some tx := by unfold Sp.pieceText; rw [hw]; simp
                have HP := Lib.hid hpt
                clear hpt hw
                go_wp2_with (first | (go_at_call 38; refine (body_Name ⟨(c0 :: tg).toArray⟩ _ hsn).mono ?_; rintro e w' ⟨rfl, rfl⟩; rw [HNM.out]) | (go_at_call 39; go_must (refine (Tryd.Builder_WriteString w.heap.size w.heap.size _ _ _ (isBuilder_below HBd.out ((Below.refl _ _).alloc (Nat.le_refl _) _)) (by simp only [Lib.byteCells_length, size_mk, ByteArray.size_append, List.length_cons, List.length_nil]; omega) (by simp only [World.size_alloc]; omega)).mono ?_); rintro e w2 ⟨rfl, hbd2, hbel2⟩))
                go_roundw
                case rel =>
                  go_light
                  have hi := HI.out
                  rw [HP.out] at hi
                  simp only [Option.map_map] at hi
                  refine ⟨k + 1, acc ++ tx, by omega, by go_num, .inr ?_, ((HBel.out.alloc HBel.out.size _).trans hbel2), by have := hbel2.size; simp at this; omega, by simp; omega, ?_⟩
                  · simpa [Lib.byteCells_append, strCells_append, strCells_mk, Lib.byteCells, Lib.strCells, Sp.tagText] using hbd2
                  · rw [← hi]; simp [Function.comp_def]
                case measure => go_light; simp [intOf]; omega
              · by_cases hk2 : kd = 2
                · subst hk2
                  have hpt : Sp.pieceText ⟨2, tx, nn, c0 :: tg⟩ = some (36 :: (Sp.tagText (c0 :: tg) ++ [36])) := by unfold Sp.pieceText; rw [hw]; simp
                  have HP := Lib.hid hpt
                  clear hk1
                  clear hpt hw
                  go_wp2_with (first | (go_at_call 38; refine (body_Name ⟨(c0 :: tg).toArray⟩ _ hsn).mono ?_; rintro e w' ⟨rfl, rfl⟩; rw [HNM.out]) | (go_at_call 39; go_must (refine (Tryd.Builder_WriteString w.heap.size w.heap.size _ _ _ (isBuilder_below HBd.out ((Below.refl _ _).alloc (Nat.le_refl _) _)) (by simp only [Lib.byteCells_length, size_mk, ByteArray.size_append, List.length_cons, List.length_nil]; omega) (by simp only [World.size_alloc]; omega)).mono ?_); rintro e w2 ⟨rfl, hbd2, hbel2⟩))
                  go_roundw
                  case rel =>
                    go_light
                    have hi := HI.out
                    rw [HP.out] at hi
                    simp only [Option.map_map] at hi
                    refine ⟨k + 1, acc ++ (36 :: (Sp.tagText (c0 :: tg) ++ [36])), by omega, by go_num, .inr ?_, ((HBel.out.alloc HBel.out.size _).trans hbel2), by have := hbel2.size; simp at this; omega, by simp [Sp.tagText]; omega, ?_⟩
                    · simpa [Lib.byteCells_append, strCells_append, strCells_mk, Lib.byteCells, Lib.strCells, Sp.tagText] using hbd2
                    · rw [← hi]; simp [Function.comp_def]
                  case measure => go_light; simp [intOf]; omega
                · by_cases hk3 : kd = 3
                  · subst hk3
                    have hpt : Sp.pieceText ⟨3, tx, nn, c0 :: tg⟩ = some (36 :: (Sp.tagText (c0 :: tg) ++ Lib.itoa nn)) := by unfold Sp.pieceText; rw [hw]; simp
                    have HP := Lib.hid hpt
                    have hit := Lib.itoa_length_le nn (by omega) (by omega)
                    clear hk1 hk2
                    clear hpt hw
                    have HA := Lib.hid (strconv_Itoa_gl nn (by omega) (by omega))
                    generalize Lib.itoa nn = itn at *
                    go_wp2_with (first | (go_at_call 38; refine (body_Name ⟨(c0 :: tg).toArray⟩ _ hsn).mono ?_; rintro e w' ⟨rfl, rfl⟩; rw [HNM.out]) | (go_at_call 40; refine (HA.out _ (hgr.alloc _)).mono ?_; rintro e w1 ⟨rfl, hb1⟩; have hz1 := hb1.size) | (go_at_call 39; go_must (refine (Tryd.Builder_WriteString w.heap.size w.heap.size _ _ _ (isBuilder_below HBd.out (((Below.refl _ _).alloc (Nat.le_refl _) _).trans (hb1.mono (by simp)))) (by simp only [Lib.byteCells_length, size_mk, ByteArray.size_append, List.length_cons, List.length_nil]; omega) (by simp only [World.size_alloc] at hz1; omega)).mono ?_); rintro e w2 ⟨rfl, hbd2, hbel2⟩))
                    go_roundw
                    case rel =>
                      go_light
                      have hi := HI.out
                      rw [HP.out] at hi
                      simp only [Option.map_map] at hi
                      refine ⟨k + 1, acc ++ (36 :: (Sp.tagText (c0 :: tg) ++ itn)), by omega, by go_num, .inr ?_, (((HBel.out.alloc HBel.out.size _).trans (hb1.mono (by simp; omega))).trans hbel2), by have := hbel2.size; simp at hz1; omega, by simp [Sp.tagText]; omega, ?_⟩
                      · simpa [Lib.byteCells_append, strCells_append, strCells_mk, Lib.byteCells, Lib.strCells, Sp.tagText] using hbd2
                      · rw [← hi]; simp [Function.comp_def]
                    case measure => go_light; simp [intOf]; omega
                  · have hpt : Sp.pieceText ⟨kd, tx, nn, c0 :: tg⟩ = none := by unfold Sp.pieceText; rw [hw]; simp [hk1, hk2, hk3]
                    have HP := Lib.hid hpt
                    have q1 : (kd == 1) = false := by simpa using hk1
                    have q2 : (kd == 2) = false := by simpa using hk2
                    have q3 : (kd == 3) = false := by simpa using hk3
                    clear hpt hw hk1 hk2 hk3
                    go_wp2_with (first | (go_at_call 38; refine (body_Name ⟨(c0 :: tg).toArray⟩ _ hsn).mono ?_; rintro e w' ⟨rfl, rfl⟩; rw [HNM.out]) | fail)
                    go_ret2
                    have hi := HI.out
                    rw [HP.out] at hi
                    subst hi
                    exact ⟨rfl, HBel.out.alloc HBel.out.size _⟩
    · have hke : ps.drop k = [] := List.drop_of_length_le (by have := HL.out; omega)
      rw [hke] at hi
      simp only [Sp.join, Option.map_some, List.append_nil] at hi
      have HI := Lib.hid hi
      clear hi hke
      go_wp2_with (go_at_call 41; refine (Tryd.Builder_String_any w.heap.size w.heap.size acc _ HBd.out (by omega)).mono ?_; rintro e w2 ⟨rfl, hbel2⟩)
      go_ret2
      have hi := HI.out
      subst hi
      exact ⟨rfl, HBel.out.trans hbel2⟩
end Go.Proofs.YticdgfljaphhgaaDoor
