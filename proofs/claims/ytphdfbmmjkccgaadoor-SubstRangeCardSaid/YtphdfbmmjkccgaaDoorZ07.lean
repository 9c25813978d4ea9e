/- Layer 8, the reference: a declaration. -/
import Derived.Test.YtphdfbmmjkccgaaDoorZ05
namespace Go.Proofs.YtphdfbmmjkccgaaDoor
open Go.RowKit

set_option maxRecDepth 100000 in
set_option maxHeartbeats 12800000 in
theorem ref7_mayDecl (d : Sp.Decl) (v : Value) (W : World) (hsl : SlAt W v 4 (d.syms.map symC)) (hs : smallDecl d) :
    Calls Tryd.prog 68 #[.agg (declC v d).toArray] W fun e w' => e = .returned (.bool (Sp.mayDecl d)) ∧ Below W.heap.size W w' := by
  obtain ⟨hs1, hs2, hs3⟩ := hs
  have HN := Lib.hid (fun w => ref_Name ⟨d.tag.toArray⟩ w (by rw [Lib.size_eq]; show d.tag.length < _; omega))
  have HT : (⟨d.tag.toArray⟩ : ByteArray).data.toList = d.tag := rfl
  rw [HT] at HN
  rw [Sp.mayDecl_ref]
  generalize hbad : Sp.badHead d = B
  unfold Sp.badHead at hbad
  generalize Sp.isName d.tag = q at HN hbad
  generalize hR : (d.syms.all fun s => Sp.refSym s (d.kind == 1) (decide (d.kind < 5))) = R
  obtain ⟨kd, tg, sy, pa⟩ := d
  simp only at hs1 hs2 hs3 hbad hR hsl
  obtain ⟨av, cap, rfl⟩ := hsl.form
  generalize hn : (sy.map symC).length = n at *
  have hnl : sy.length = n := by rw [← hn, List.length_map]
  have HSY := Lib.hid (fun (s : Sp.Sym) (hs : s ∈ sy) w => ref7_symbol s (kd == 1) (decide (kd < 5)) w (hs3 s hs))
  rw [hnl] at hbad
  have HS3 := Lib.hid hs3
  have HSL := Lib.hid hsl
  have HBD := Lib.hid hbad
  have HR := Lib.hid hR
  have HNL := Lib.hid hnl
  have hnn : n ≤ 4000 := by omega
  clear hsl hs1 hs2 hs3 hbad hR hn hnl HT
  show Calls _ _ #[.agg #[.int .i64 kd, .string ⟨tg.toArray⟩, .slice av n cap, .int .i64 pa]] _ _
  by_cases h1 : kd < 1
  · have HBAD := Lib.hid (show B = true by rw [← HBD.out]; simp [h1])
    clear HBD
    go_enter Tryd.func68, Tryd.ntmps68
    go_wp2_with (go_at_call 69; refine (HN.out _).mono ?_; rintro e w' ⟨rfl, rfl⟩)
    go_ret
    exact ⟨ret_bool (by rw [HBAD.out]; rfl), below_box (Below.refl _ _)⟩
  by_cases h2 : 6 < kd
  · have h1d : decide (kd < 1) = false := by simpa using h1
    have HBAD := Lib.hid (show B = true by rw [← HBD.out]; simp [h2])
    clear HBD
    go_enter Tryd.func68, Tryd.ntmps68
    go_wp2_with (go_at_call 69; refine (HN.out _).mono ?_; rintro e w' ⟨rfl, rfl⟩)
    go_ret
    exact ⟨ret_bool (by rw [HBAD.out]; rfl), below_box (Below.refl _ _)⟩
  have h1d : decide (kd < 1) = false := by simpa using h1
  have h2d : decide (6 < kd) = false := by simpa using h2
  by_cases h3 : n = 0
  · subst h3
    have HBAD := Lib.hid (show B = true by rw [← HBD.out]; simp)
    clear HBD
    go_enter Tryd.func68, Tryd.ntmps68
    go_wp2_with (go_at_call 69; refine (HN.out _).mono ?_; rintro e w' ⟨rfl, rfl⟩)
    go_ret
    exact ⟨ret_bool (by rw [HBAD.out]; rfl), below_box (Below.refl _ _)⟩
  have h3d : ((n : Int) == 0) = false := by rw [beq_eq_false_iff_ne]; omega
  by_cases h6 : kd = 6
  · subst h6
    by_cases h7 : n = 1
    · subst h7
      cases tg with
      | nil =>
        have HBAD := Lib.hid (show B = false by rw [← HBD.out]; simp)
        clear HBD
        have HR0 := HR.out
        have HR1 := Lib.hid (show (sy.all fun s => Sp.refSym s false false) = R from HR0)
        have HSY1 := Lib.hid (fun (s : Sp.Sym) (hs : s ∈ sy) w => ref7_symbol s false false w (HS3.out s hs))
        clear HR HSY HR0
        have HR := HR1
        have HSY := HSY1
        clear HR1 HSY1
        go_enter Tryd.func68, Tryd.ntmps68
        go_wp2_with (go_at_call 69; refine (HN.out _).mono ?_; rintro e w' ⟨rfl, rfl⟩)
        go_loopg [3] 1 (fun g iv wr => ∃ k : Nat, k ≤ 1 ∧ g = 1 - k ∧ iv = .int .i64 k ∧ ((sy.drop k).all fun s => Sp.refSym s false false) = R ∧ Below (W.heap.size + 1) (W.alloc (.cells #[.int .i64 6, .string ⟨([] : List UInt8).toArray⟩, .slice av 1 cap, .int .i64 pa] 51)) wr)
        case atStart => exact ⟨0, Nat.zero_le _, rfl, rfl, HR.out, Below.refl _ _⟩
        case round =>
          obtain ⟨k, hk, rfl, rfl, hi, hbel⟩ := hrel
          have HI := Lib.hid hi
          have hF := (hbel.block W.heap.size (by omega)).trans (heap_last W _)
          have c0 := cell_at (i := 0) hF; have c2 := cell_at (i := 2) hF
          have hl1 := lt_at hF
          have HB := Lib.hid hbel
          have hk0 : (0 : Int) ≤ (k : Int) := Int.natCast_nonneg _
          clear hi hF hbel
          by_cases hkn : k < 1
          · have hkl : k < sy.length := by have := HNL.out; omega
            have hp : sy[k]? = some sy[k] := List.getElem?_eq_getElem hkl
            have hmem : sy[k] ∈ sy := List.getElem_mem hkl
            have hdr : sy.drop k = sy[k] :: sy.drop (k + 1) := List.drop_eq_getElem_cons hkl
            generalize sy[k] = s at *
            have HC := Lib.hid (HSY.out s hmem)
            have hi := HI.out
            rw [hdr, List.all_cons] at hi
            generalize Sp.refSym s false false = q at HC hi
            have HI2 := Lib.hid hi
            obtain ⟨b, off, rfl, hbl, hc⟩ := HSL.out.at (k := k) (row := symC s) (by rw [List.getElem?_map, hp]; rfl)
            obtain ⟨snm, slt, snu, spa⟩ := s
            have hks : ∀ w', Below (W.heap.size + 1) (W.alloc (.cells #[.int .i64 6, .string ⟨([] : List UInt8).toArray⟩, .slice (some ⟨b, off, none⟩) 1 cap, .int .i64 pa] 51)) w' → w'.cell? ⟨W.heap.size, 0, none⟩ = some (.int .i64 6) ∧ w'.cell? ⟨W.heap.size, 2, none⟩ = some (.slice (some ⟨b, off, none⟩) 1 cap) ∧ w'.cell? ⟨b, off + k * 4, none⟩ = some (.string ⟨snm.toArray⟩) ∧ w'.cell? ⟨b, off + k * 4 + 1, none⟩ = some (.bool slt) ∧ w'.cell? ⟨b, off + k * 4 + 2, none⟩ = some (.int .i64 snu) ∧ w'.cell? ⟨b, off + k * 4 + 3, none⟩ = some (.int .i64 spa) := fun w' h => by
              have hF := (h.block W.heap.size (by omega)).trans (heap_last W _)
              have hcc := hc _ (below_box h)
              exact ⟨cell_at (i := 0) hF, cell_at (i := 2) hF, hcc 0 _ rfl, hcc 1 _ rfl, hcc 2 _ rfl, hcc 3 _ rfl⟩
            have HKS := Lib.hid hks
            have hk1 : (k : Int) < (1 : Int) := by omega
            have hsz : W.heap.size + 1 ≤ wr.heap.size := by have := HB.out.size; simp at this; omega
            clear hc hp hmem hdr hi HI hks hkl
            go_wp2_with fail
            go_region_held3 (fun w' => w'.cell? ⟨W.heap.size, 0, none⟩ = some (.int .i64 6) ∧ w'.cell? ⟨W.heap.size, 2, none⟩ = some (.slice (some ⟨b, off, none⟩) 1 cap) ∧ w'.cell? ⟨b, off + k * 4, none⟩ = some (.string ⟨snm.toArray⟩) ∧ w'.cell? ⟨b, off + k * 4 + 1, none⟩ = some (.bool slt) ∧ w'.cell? ⟨b, off + k * 4 + 2, none⟩ = some (.int .i64 snu) ∧ w'.cell? ⟨b, off + k * 4 + 3, none⟩ = some (.int .i64 spa))
              (first
                | exact HKS.out _ HB.out
                | exact HKS.out _ (below_drewN HB.out 1)
                | exact HKS.out _ ((below_drewN HB.out 1).trans (hb'.mono hsz))
                | go_keep)
              ((first
                | (go_at_call 87; refine (HC.out _).mono ?_; rintro e w' ⟨rfl, hb'⟩)))
            all_goals
              have HB2 := Lib.hid (HB.out.trans ((below_undrew hb').mono hsz))
              clear hb'
              cases q with
              | false =>
                go_wp2_with fail
                go_ret
                exact ⟨ret_bool (by rw [HBAD.out, ← HI2.out]; rfl), below_box HB2.out⟩
              | true =>
                go_wp2_with fail
                go_roundg (1 - (k + 1))
                case measure => omega
                case rel => exact ⟨k + 1, by omega, rfl, by go_num, by rw [← HI2.out]; rfl, HB2.out⟩
          · obtain rfl : k = 1 := by omega
            have hdn : sy.drop 1 = [] := List.drop_of_length_le (by have := HNL.out; omega)
            have hi := HI.out
            rw [hdn] at hi
            have HI2 := Lib.hid hi
            clear hi HI hdn
            go_wp2_with fail
            go_ret
            exact ⟨ret_bool (by rw [HBAD.out, ← HI2.out]; rfl), below_box HB.out⟩
      | cons c u =>
        have hne : (c :: u).isEmpty = false := rfl
        have HBAD := Lib.hid (show B = true by rw [← HBD.out]; simp)
        clear HBD
        go_enter Tryd.func68, Tryd.ntmps68
        go_wp2_with (go_at_call 69; refine (HN.out _).mono ?_; rintro e w' ⟨rfl, rfl⟩)
        go_ret
        exact ⟨ret_bool (by rw [HBAD.out]; rfl), below_box (Below.refl _ _)⟩
    · have h7d : ((n : Int) != 1) = true := by rw [bne_iff_ne]; omega
      have HBAD := Lib.hid (show B = true by rw [← HBD.out]; simp [h7])
      clear HBD
      go_enter Tryd.func68, Tryd.ntmps68
      go_wp2_with (go_at_call 69; refine (HN.out _).mono ?_; rintro e w' ⟨rfl, rfl⟩)
      go_ret
      exact ⟨ret_bool (by rw [HBAD.out]; rfl), below_box (Below.refl _ _)⟩
  have h6d : (kd == 6) = false := by rw [beq_eq_false_iff_ne]; exact h6
  by_cases h5 : kd = 5
  · subst h5
    cases tg with
    | nil =>
      have HBAD := Lib.hid (show B = true by rw [← HBD.out]; simp)
      clear HBD
      go_enter Tryd.func68, Tryd.ntmps68
      go_wp2_with (go_at_call 69; refine (HN.out _).mono ?_; rintro e w' ⟨rfl, rfl⟩)
      go_ret
      exact ⟨ret_bool (by rw [HBAD.out]; rfl), below_box (Below.refl _ _)⟩
    | cons c u =>
      have hne : (c :: u).isEmpty = false := rfl
      cases q with
      | false =>
        have HBAD := Lib.hid (show B = true by rw [← HBD.out]; simp)
        clear HBD
        go_enter Tryd.func68, Tryd.ntmps68
        go_wp2_with (go_at_call 69; refine (HN.out _).mono ?_; rintro e w' ⟨rfl, rfl⟩)
        go_ret
        exact ⟨ret_bool (by rw [HBAD.out]; rfl), below_box (Below.refl _ _)⟩
      | true =>
        have HBAD := Lib.hid (show B = false by rw [← HBD.out]; simp [h3])
        clear HBD
        have HR0 := HR.out
        have HR1 := Lib.hid (show (sy.all fun s => Sp.refSym s false false) = R from HR0)
        have HSY1 := Lib.hid (fun (s : Sp.Sym) (hs : s ∈ sy) w => ref7_symbol s false false w (HS3.out s hs))
        clear HR HSY HR0
        have HR := HR1
        have HSY := HSY1
        clear HR1 HSY1
        go_enter Tryd.func68, Tryd.ntmps68
        go_wp2_with (go_at_call 69; refine (HN.out _).mono ?_; rintro e w' ⟨rfl, rfl⟩)
        go_loopg [3] n (fun g iv wr => ∃ k : Nat, k ≤ n ∧ g = n - k ∧ iv = .int .i64 k ∧ ((sy.drop k).all fun s => Sp.refSym s false false) = R ∧ Below (W.heap.size + 1) (W.alloc (.cells #[.int .i64 5, .string ⟨(c :: u).toArray⟩, .slice av n cap, .int .i64 pa] 51)) wr)
        case atStart => exact ⟨0, Nat.zero_le _, rfl, rfl, HR.out, Below.refl _ _⟩
        case round =>
          obtain ⟨k, hk, rfl, rfl, hi, hbel⟩ := hrel
          have HI := Lib.hid hi
          have hF := (hbel.block W.heap.size (by omega)).trans (heap_last W _)
          have c0 := cell_at (i := 0) hF; have c2 := cell_at (i := 2) hF
          have hl1 := lt_at hF
          have HB := Lib.hid hbel
          have hk0 : (0 : Int) ≤ (k : Int) := Int.natCast_nonneg _
          clear hi hF hbel
          by_cases hkn : k < n
          · have hkl : k < sy.length := by have := HNL.out; omega
            have hp : sy[k]? = some sy[k] := List.getElem?_eq_getElem hkl
            have hmem : sy[k] ∈ sy := List.getElem_mem hkl
            have hdr : sy.drop k = sy[k] :: sy.drop (k + 1) := List.drop_eq_getElem_cons hkl
            generalize sy[k] = s at *
            have HC := Lib.hid (HSY.out s hmem)
            have hi := HI.out
            rw [hdr, List.all_cons] at hi
            generalize Sp.refSym s false false = q at HC hi
            have HI2 := Lib.hid hi
            obtain ⟨b, off, rfl, hbl, hc⟩ := HSL.out.at (k := k) (row := symC s) (by rw [List.getElem?_map, hp]; rfl)
            obtain ⟨snm, slt, snu, spa⟩ := s
            have hks : ∀ w', Below (W.heap.size + 1) (W.alloc (.cells #[.int .i64 5, .string ⟨(c :: u).toArray⟩, .slice (some ⟨b, off, none⟩) n cap, .int .i64 pa] 51)) w' → w'.cell? ⟨W.heap.size, 0, none⟩ = some (.int .i64 5) ∧ w'.cell? ⟨W.heap.size, 2, none⟩ = some (.slice (some ⟨b, off, none⟩) n cap) ∧ w'.cell? ⟨b, off + k * 4, none⟩ = some (.string ⟨snm.toArray⟩) ∧ w'.cell? ⟨b, off + k * 4 + 1, none⟩ = some (.bool slt) ∧ w'.cell? ⟨b, off + k * 4 + 2, none⟩ = some (.int .i64 snu) ∧ w'.cell? ⟨b, off + k * 4 + 3, none⟩ = some (.int .i64 spa) := fun w' h => by
              have hF := (h.block W.heap.size (by omega)).trans (heap_last W _)
              have hcc := hc _ (below_box h)
              exact ⟨cell_at (i := 0) hF, cell_at (i := 2) hF, hcc 0 _ rfl, hcc 1 _ rfl, hcc 2 _ rfl, hcc 3 _ rfl⟩
            have HKS := Lib.hid hks
            have hk1 : (k : Int) < (n : Int) := by omega
            have hsz : W.heap.size + 1 ≤ wr.heap.size := by have := HB.out.size; simp at this; omega
            clear hc hp hmem hdr hi HI hks hkl
            go_wp2_with fail
            go_region_held3 (fun w' => w'.cell? ⟨W.heap.size, 0, none⟩ = some (.int .i64 5) ∧ w'.cell? ⟨W.heap.size, 2, none⟩ = some (.slice (some ⟨b, off, none⟩) n cap) ∧ w'.cell? ⟨b, off + k * 4, none⟩ = some (.string ⟨snm.toArray⟩) ∧ w'.cell? ⟨b, off + k * 4 + 1, none⟩ = some (.bool slt) ∧ w'.cell? ⟨b, off + k * 4 + 2, none⟩ = some (.int .i64 snu) ∧ w'.cell? ⟨b, off + k * 4 + 3, none⟩ = some (.int .i64 spa))
              (first
                | exact HKS.out _ HB.out
                | exact HKS.out _ (below_drewN HB.out 1)
                | exact HKS.out _ ((below_drewN HB.out 1).trans (hb'.mono hsz))
                | go_keep)
              ((first
                | (go_at_call 87; refine (HC.out _).mono ?_; rintro e w' ⟨rfl, hb'⟩)))
            all_goals
              have HB2 := Lib.hid (HB.out.trans ((below_undrew hb').mono hsz))
              clear hb'
              cases q with
              | false =>
                go_wp2_with fail
                go_ret
                exact ⟨ret_bool (by rw [HBAD.out, ← HI2.out]; rfl), below_box HB2.out⟩
              | true =>
                go_wp2_with fail
                go_roundg (n - (k + 1))
                case measure => omega
                case rel => exact ⟨k + 1, by omega, rfl, by go_num, by rw [← HI2.out]; rfl, HB2.out⟩
          · obtain rfl : k = n := by omega
            have hdn : sy.drop k = [] := List.drop_of_length_le (by have := HNL.out; omega)
            have hi := HI.out
            rw [hdn] at hi
            have HI2 := Lib.hid hi
            clear hi HI hdn
            go_wp2_with fail
            go_ret
            exact ⟨ret_bool (by rw [HBAD.out, ← HI2.out]; rfl), below_box HB.out⟩
  have h5d : (kd == 5) = false := by rw [beq_eq_false_iff_ne]; exact h5
  cases tg with
  | nil =>
    have HBAD := Lib.hid (show B = false by rw [← HBD.out]; simp [h1, h2, h3, h6, h5]; try omega)
    clear HBD
    go_enter Tryd.func68, Tryd.ntmps68
    go_wp2_with (go_at_call 69; refine (HN.out _).mono ?_; rintro e w' ⟨rfl, rfl⟩)
    go_loopg [3] n (fun g iv wr => ∃ k : Nat, k ≤ n ∧ g = n - k ∧ iv = .int .i64 k ∧ ((sy.drop k).all fun s => Sp.refSym s (kd == 1) (decide (kd < 5))) = R ∧ Below (W.heap.size + 1) (W.alloc (.cells #[.int .i64 kd, .string ⟨([] : List UInt8).toArray⟩, .slice av n cap, .int .i64 pa] 51)) wr)
    case atStart => exact ⟨0, Nat.zero_le _, rfl, rfl, HR.out, Below.refl _ _⟩
    case round =>
      obtain ⟨k, hk, rfl, rfl, hi, hbel⟩ := hrel
      have HI := Lib.hid hi
      have hF := (hbel.block W.heap.size (by omega)).trans (heap_last W _)
      have c0 := cell_at (i := 0) hF; have c2 := cell_at (i := 2) hF
      have hl1 := lt_at hF
      have HB := Lib.hid hbel
      have hk0 : (0 : Int) ≤ (k : Int) := Int.natCast_nonneg _
      clear hi hF hbel
      by_cases hkn : k < n
      · have hkl : k < sy.length := by have := HNL.out; omega
        have hp : sy[k]? = some sy[k] := List.getElem?_eq_getElem hkl
        have hmem : sy[k] ∈ sy := List.getElem_mem hkl
        have hdr : sy.drop k = sy[k] :: sy.drop (k + 1) := List.drop_eq_getElem_cons hkl
        generalize sy[k] = s at *
        have HC := Lib.hid (HSY.out s hmem)
        have hi := HI.out
        rw [hdr, List.all_cons] at hi
        generalize Sp.refSym s (kd == 1) (decide (kd < 5)) = q at HC hi
        have HI2 := Lib.hid hi
        obtain ⟨b, off, rfl, hbl, hc⟩ := HSL.out.at (k := k) (row := symC s) (by rw [List.getElem?_map, hp]; rfl)
        obtain ⟨snm, slt, snu, spa⟩ := s
        have hks : ∀ w', Below (W.heap.size + 1) (W.alloc (.cells #[.int .i64 kd, .string ⟨([] : List UInt8).toArray⟩, .slice (some ⟨b, off, none⟩) n cap, .int .i64 pa] 51)) w' → w'.cell? ⟨W.heap.size, 0, none⟩ = some (.int .i64 kd) ∧ w'.cell? ⟨W.heap.size, 2, none⟩ = some (.slice (some ⟨b, off, none⟩) n cap) ∧ w'.cell? ⟨b, off + k * 4, none⟩ = some (.string ⟨snm.toArray⟩) ∧ w'.cell? ⟨b, off + k * 4 + 1, none⟩ = some (.bool slt) ∧ w'.cell? ⟨b, off + k * 4 + 2, none⟩ = some (.int .i64 snu) ∧ w'.cell? ⟨b, off + k * 4 + 3, none⟩ = some (.int .i64 spa) := fun w' h => by
          have hF := (h.block W.heap.size (by omega)).trans (heap_last W _)
          have hcc := hc _ (below_box h)
          exact ⟨cell_at (i := 0) hF, cell_at (i := 2) hF, hcc 0 _ rfl, hcc 1 _ rfl, hcc 2 _ rfl, hcc 3 _ rfl⟩
        have HKS := Lib.hid hks
        have hk1 : (k : Int) < (n : Int) := by omega
        have hsz : W.heap.size + 1 ≤ wr.heap.size := by have := HB.out.size; simp at this; omega
        clear hc hp hmem hdr hi HI hks hkl
        go_wp2_with fail
        go_region_held3 (fun w' => w'.cell? ⟨W.heap.size, 0, none⟩ = some (.int .i64 kd) ∧ w'.cell? ⟨W.heap.size, 2, none⟩ = some (.slice (some ⟨b, off, none⟩) n cap) ∧ w'.cell? ⟨b, off + k * 4, none⟩ = some (.string ⟨snm.toArray⟩) ∧ w'.cell? ⟨b, off + k * 4 + 1, none⟩ = some (.bool slt) ∧ w'.cell? ⟨b, off + k * 4 + 2, none⟩ = some (.int .i64 snu) ∧ w'.cell? ⟨b, off + k * 4 + 3, none⟩ = some (.int .i64 spa))
          (first
            | exact HKS.out _ HB.out
            | exact HKS.out _ (below_drewN HB.out 1)
            | exact HKS.out _ ((below_drewN HB.out 1).trans (hb'.mono hsz))
            | go_keep)
          ((first
            | (go_at_call 87; refine (HC.out _).mono ?_; rintro e w' ⟨rfl, hb'⟩)))
        all_goals
          have HB2 := Lib.hid (HB.out.trans ((below_undrew hb').mono hsz))
          clear hb'
          cases q with
          | false =>
            go_wp2_with fail
            go_ret
            exact ⟨ret_bool (by rw [HBAD.out, ← HI2.out]; rfl), below_box HB2.out⟩
          | true =>
            go_wp2_with fail
            go_roundg (n - (k + 1))
            case measure => omega
            case rel => exact ⟨k + 1, by omega, rfl, by go_num, by rw [← HI2.out]; rfl, HB2.out⟩
      · obtain rfl : k = n := by omega
        have hdn : sy.drop k = [] := List.drop_of_length_le (by have := HNL.out; omega)
        have hi := HI.out
        rw [hdn] at hi
        have HI2 := Lib.hid hi
        clear hi HI hdn
        go_wp2_with fail
        go_ret
        exact ⟨ret_bool (by rw [HBAD.out, ← HI2.out]; rfl), below_box HB.out⟩
  | cons c u =>
    have hne : (c :: u).isEmpty = false := rfl
    cases q with
    | false =>
      have HBAD := Lib.hid (show B = true by rw [← HBD.out]; simp)
      clear HBD
      go_enter Tryd.func68, Tryd.ntmps68
      go_wp2_with (go_at_call 69; refine (HN.out _).mono ?_; rintro e w' ⟨rfl, rfl⟩)
      go_ret
      exact ⟨ret_bool (by rw [HBAD.out]; rfl), below_box (Below.refl _ _)⟩
    | true =>
      have HBAD := Lib.hid (show B = false by rw [← HBD.out]; simp [h1, h2, h3, h6, h5]; try omega)
      clear HBD
      go_enter Tryd.func68, Tryd.ntmps68
      go_wp2_with (go_at_call 69; refine (HN.out _).mono ?_; rintro e w' ⟨rfl, rfl⟩)
      go_loopg [3] n (fun g iv wr => ∃ k : Nat, k ≤ n ∧ g = n - k ∧ iv = .int .i64 k ∧ ((sy.drop k).all fun s => Sp.refSym s (kd == 1) (decide (kd < 5))) = R ∧ Below (W.heap.size + 1) (W.alloc (.cells #[.int .i64 kd, .string ⟨(c :: u).toArray⟩, .slice av n cap, .int .i64 pa] 51)) wr)
      case atStart => exact ⟨0, Nat.zero_le _, rfl, rfl, HR.out, Below.refl _ _⟩
      case round =>
        obtain ⟨k, hk, rfl, rfl, hi, hbel⟩ := hrel
        have HI := Lib.hid hi
        have hF := (hbel.block W.heap.size (by omega)).trans (heap_last W _)
        have c0 := cell_at (i := 0) hF; have c2 := cell_at (i := 2) hF
        have hl1 := lt_at hF
        have HB := Lib.hid hbel
        have hk0 : (0 : Int) ≤ (k : Int) := Int.natCast_nonneg _
        clear hi hF hbel
        by_cases hkn : k < n
        · have hkl : k < sy.length := by have := HNL.out; omega
          have hp : sy[k]? = some sy[k] := List.getElem?_eq_getElem hkl
          have hmem : sy[k] ∈ sy := List.getElem_mem hkl
          have hdr : sy.drop k = sy[k] :: sy.drop (k + 1) := List.drop_eq_getElem_cons hkl
          generalize sy[k] = s at *
          have HC := Lib.hid (HSY.out s hmem)
          have hi := HI.out
          rw [hdr, List.all_cons] at hi
          generalize Sp.refSym s (kd == 1) (decide (kd < 5)) = q at HC hi
          have HI2 := Lib.hid hi
          obtain ⟨b, off, rfl, hbl, hc⟩ := HSL.out.at (k := k) (row := symC s) (by rw [List.getElem?_map, hp]; rfl)
          obtain ⟨snm, slt, snu, spa⟩ := s
          have hks : ∀ w', Below (W.heap.size + 1) (W.alloc (.cells #[.int .i64 kd, .string ⟨(c :: u).toArray⟩, .slice (some ⟨b, off, none⟩) n cap, .int .i64 pa] 51)) w' → w'.cell? ⟨W.heap.size, 0, none⟩ = some (.int .i64 kd) ∧ w'.cell? ⟨W.heap.size, 2, none⟩ = some (.slice (some ⟨b, off, none⟩) n cap) ∧ w'.cell? ⟨b, off + k * 4, none⟩ = some (.string ⟨snm.toArray⟩) ∧ w'.cell? ⟨b, off + k * 4 + 1, none⟩ = some (.bool slt) ∧ w'.cell? ⟨b, off + k * 4 + 2, none⟩ = some (.int .i64 snu) ∧ w'.cell? ⟨b, off + k * 4 + 3, none⟩ = some (.int .i64 spa) := fun w' h => by
            have hF := (h.block W.heap.size (by omega)).trans (heap_last W _)
            have hcc := hc _ (below_box h)
            exact ⟨cell_at (i := 0) hF, cell_at (i := 2) hF, hcc 0 _ rfl, hcc 1 _ rfl, hcc 2 _ rfl, hcc 3 _ rfl⟩
          have HKS := Lib.hid hks
          have hk1 : (k : Int) < (n : Int) := by omega
          have hsz : W.heap.size + 1 ≤ wr.heap.size := by have := HB.out.size; simp at this; omega
          clear hc hp hmem hdr hi HI hks hkl
          go_wp2_with fail
          go_region_held3 (fun w' => w'.cell? ⟨W.heap.size, 0, none⟩ = some (.int .i64 kd) ∧ w'.cell? ⟨W.heap.size, 2, none⟩ = some (.slice (some ⟨b, off, none⟩) n cap) ∧ w'.cell? ⟨b, off + k * 4, none⟩ = some (.string ⟨snm.toArray⟩) ∧ w'.cell? ⟨b, off + k * 4 + 1, none⟩ = some (.bool slt) ∧ w'.cell? ⟨b, off + k * 4 + 2, none⟩ = some (.int .i64 snu) ∧ w'.cell? ⟨b, off + k * 4 + 3, none⟩ = some (.int .i64 spa))
            (first
              | exact HKS.out _ HB.out
              | exact HKS.out _ (below_drewN HB.out 1)
              | exact HKS.out _ ((below_drewN HB.out 1).trans (hb'.mono hsz))
              | go_keep)
            ((first
              | (go_at_call 87; refine (HC.out _).mono ?_; rintro e w' ⟨rfl, hb'⟩)))
          all_goals
            have HB2 := Lib.hid (HB.out.trans ((below_undrew hb').mono hsz))
            clear hb'
            cases q with
            | false =>
              go_wp2_with fail
              go_ret
              exact ⟨ret_bool (by rw [HBAD.out, ← HI2.out]; rfl), below_box HB2.out⟩
            | true =>
              go_wp2_with fail
              go_roundg (n - (k + 1))
              case measure => omega
              case rel => exact ⟨k + 1, by omega, rfl, by go_num, by rw [← HI2.out]; rfl, HB2.out⟩
        · obtain rfl : k = n := by omega
          have hdn : sy.drop k = [] := List.drop_of_length_le (by have := HNL.out; omega)
          have hi := HI.out
          rw [hdn] at hi
          have HI2 := Lib.hid hi
          clear hi HI hdn
          go_wp2_with fail
          go_ret
          exact ⟨ret_bool (by rw [HBAD.out, ← HI2.out]; rfl), below_box HB.out⟩
end Go.Proofs.YtphdfbmmjkccgaaDoor
