import Derived.Test.YtddnomjfcbplpaaGreatDoorZ06
import Derived.OrdersHeld
import Derived.StillTail
namespace Go.Proofs.YtddnomjfcbplpaaGreatDoor
open Go.RowKit

set_option maxRecDepth 100000 in
set_option maxHeartbeats 12800000 in
theorem ref7_mayDecl (d : Sp.Decl) (v : Value) (W : World) (hsl : SlAt W v 4 (d.syms.map symC)) (hs : zBC d) :
  Calls Tryz.prog 48 #[.agg (xP v d).toArray] W fun e w' => e = .returned (.bool (Sp.yF d)) ∧ Below W.heap.size W w' := by
 obtain ⟨hs1, hs2, hs3⟩ := hs; have HN := zh (fun w => ref_Name ⟨d.tag.toArray⟩ w (by rw [Lib.size_eq]; show d.tag.length < _; omega)); have HT : (⟨d.tag.toArray⟩ : ByteArray).data.toList = d.tag := rfl; rw [HT] at HN; rw [Sp.mayDecl_ref]; generalize hbad : Sp.badHead d = B; unfold Sp.badHead at hbad; generalize Sp.xI d.tag = q at HN hbad; generalize hR : (d.syms.all fun s => Sp.xY s (d.kind == 1) (decide (d.kind < 5))) = R; obtain ⟨kd, tg, sy, pa⟩ := d; simp only at hs1 hs2 hs3 hbad hR hsl; obtain ⟨av, cap, rfl⟩ := hsl.form; generalize hn : (sy.map symC).length = n at *
 have hnl : sy.length = n := by rw [← hn, List.length_map]
 have HSY := zh (fun (s : Sp.Sym) (hs : s ∈ sy) w => gD s (kd == 1) (decide (kd < 5)) w (hs3 s hs)); rw [hnl] at hbad; have HS3 := zh hs3; have HSL := zh hsl; have HBD := zh hbad; have HR := zh hR; have HNL := zh hnl; have hnn : n ≤ 4000 := by omega
 clear hsl hs1 hs2 hs3 hbad hR hn hnl HT; show Calls _ _ #[.agg #[.int .i64 kd, .string ⟨tg.toArray⟩, .slice av n cap, .int .i64 pa]] _ _
 by_cases h1 : kd < 1
 ·have HBAD := zh (show B = true by rw [← HBD.out]; simp [h1])
  clear HBD; go_enter Tryz.func48, Tryz.ntmps48
  go_wp2_with (go_at_call 49; refine (HN.out _).mono ?_; rintro e w' ⟨rfl, rfl⟩)
  go_ret; exact ⟨zK (by rw [HBAD.out]; rfl), zT (Below.refl _ _)⟩
 by_cases h2 : 6 < kd
 ·have h1d : decide (kd < 1) = false := by simpa using h1
  have HBAD := zh (show B = true by rw [← HBD.out]; simp [h2]); clear HBD; go_enter Tryz.func48, Tryz.ntmps48
  go_wp2_with (go_at_call 49; refine (HN.out _).mono ?_; rintro e w' ⟨rfl, rfl⟩)
  go_ret; exact ⟨zK (by rw [HBAD.out]; rfl), zT (Below.refl _ _)⟩
 have h1d : decide (kd < 1) = false := by simpa using h1
 have h2d : decide (6 < kd) = false := by simpa using h2
 by_cases h3 : n = 0
 ·subst h3
  have HBAD := zh (show B = true by rw [← HBD.out]; simp); clear HBD; go_enter Tryz.func48, Tryz.ntmps48
  go_wp2_with (go_at_call 49; refine (HN.out _).mono ?_; rintro e w' ⟨rfl, rfl⟩)
  go_ret; exact ⟨zK (by rw [HBAD.out]; rfl), zT (Below.refl _ _)⟩
 have h3d : ((n : Int) == 0) = false := by rw [beq_eq_false_iff_ne]; omega
 by_cases h6 : kd = 6
 ·subst h6
  by_cases h7 : n = 1
  ·subst h7
   cases tg with
   | nil =>
    have HBAD := zh (show B = false by rw [← HBD.out]; simp); clear HBD; have HR0 := HR.out; have HR1 := zh (show (sy.all fun s => Sp.xY s false false) = R from HR0); have HSY1 := zh (fun (s : Sp.Sym) (hs : s ∈ sy) w => gD s false false w (HS3.out s hs)); clear HR HSY HR0; have HR := HR1; have HSY := HSY1; clear HR1 HSY1; go_enter Tryz.func48, Tryz.ntmps48
    go_wp2_with (go_at_call 49; refine (HN.out _).mono ?_; rintro e w' ⟨rfl, rfl⟩)
    go_loopg [3] 1 (fun g iv wr => ∃ k : Nat, k ≤ 1 ∧ g = 1 - k ∧ iv = .int .i64 k ∧ ((sy.drop k).all fun s => Sp.xY s false false) = R ∧ Below (W.heap.size + 1) (W.alloc (.cells #[.int .i64 6, .string ⟨([] : List UInt8).toArray⟩, .slice av 1 cap, .int .i64 pa] 57)) wr)
    case atStart => exact ⟨0, Nat.zero_le _, rfl, rfl, HR.out, Below.refl _ _⟩
    case round =>
     obtain ⟨k, hk, rfl, rfl, hi, hbel⟩ := hrel; have HI := zh hi; have hF := (hbel.block W.heap.size (by omega)).trans (zE W _); have c0 := zc 0 hF; have c2 := zc 2 hF; have hl1 := zC hF; have HB := zh hbel; have hk0 : (0 : Int) ≤ (k : Int) := Int.natCast_nonneg _; clear hi hF hbel; by_cases hkn : k < 1
     ·have hkl : k < sy.length := by have := HNL.out; omega
      have hp : sy[k]? = some sy[k] := List.getElem?_eq_getElem hkl; have hmem : sy[k] ∈ sy := List.getElem_mem hkl; have hdr : sy.drop k = sy[k] :: sy.drop (k + 1) := List.drop_eq_getElem_cons hkl; generalize sy[k] = s at *
      have HC := zh (HSY.out s hmem); have hi := HI.out; rw [hdr, List.all_cons] at hi; generalize Sp.xY s false false = q at HC hi; have HI2 := zh hi; obtain ⟨b, off, rfl, hbl, hc⟩ := HSL.out.at (k := k) (row := symC s) (by rw [List.getElem?_map, hp]; rfl); obtain ⟨snm, slt, snu, spa⟩ := s
      have hks : ∀ w', Below (W.heap.size + 1) (W.alloc (.cells #[.int .i64 6, .string ⟨([] : List UInt8).toArray⟩, .slice (some ⟨b, off, none⟩) 1 cap, .int .i64 pa] 57)) w' → w'.cell? ⟨W.heap.size, 0, none⟩ = some (.int .i64 6) ∧ w'.cell? ⟨W.heap.size, 2, none⟩ = some (.slice (some ⟨b, off, none⟩) 1 cap) ∧ w'.cell? ⟨b, off + k * 4, none⟩ = some (.string ⟨snm.toArray⟩) ∧ w'.cell? ⟨b, off + k * 4 + 1, none⟩ = some (.bool slt) ∧ w'.cell? ⟨b, off + k * 4 + 2, none⟩ = some (.int .i64 snu) ∧ w'.cell? ⟨b, off + k * 4 + 3, none⟩ = some (.int .i64 spa) := fun w' h => by
       have hF := (h.block W.heap.size (by omega)).trans (zE W _); have hcc := hc _ (zT h); exact ⟨zc 0 hF, zc 2 hF, hcc 0 _ rfl, hcc 1 _ rfl, hcc 2 _ rfl, hcc 3 _ rfl⟩
      have HKS := zh hks; have hk1 : (k : Int) < (1 : Int) := by omega
      have hsz : W.heap.size + 1 ≤ wr.heap.size := by have := HB.out.size; simp at this; omega
      clear hc hp hmem hdr hi HI hks hkl; go_wp2_with fail
      go_region_held3 (fun w' => w'.cell? ⟨W.heap.size, 0, none⟩ = some (.int .i64 6) ∧ w'.cell? ⟨W.heap.size, 2, none⟩ = some (.slice (some ⟨b, off, none⟩) 1 cap) ∧ w'.cell? ⟨b, off + k * 4, none⟩ = some (.string ⟨snm.toArray⟩) ∧ w'.cell? ⟨b, off + k * 4 + 1, none⟩ = some (.bool slt) ∧ w'.cell? ⟨b, off + k * 4 + 2, none⟩ = some (.int .i64 snu) ∧ w'.cell? ⟨b, off + k * 4 + 3, none⟩ = some (.int .i64 spa))
       (first
        | exact HKS.out _ HB.out
        | exact HKS.out _ (below_drewN HB.out 1)
        | exact HKS.out _ ((below_drewN HB.out 1).trans (hb'.mono hsz))
        | go_keep)
       ((first
        | (go_at_call 69; refine (HC.out _).mono ?_; rintro e w' ⟨rfl, hb'⟩)))
      all_goals
       have HB2 := zh (HB.out.trans ((zI hb').mono hsz)); clear hb'
       cases q with
       | false =>
        go_wp2_with fail; go_ret; exact ⟨zK (by rw [HBAD.out, ← HI2.out]; rfl), zT HB2.out⟩
       | true =>
        go_wp2_with fail; go_roundg (1 - (k + 1))
        case measure => omega
        case rel => exact ⟨k + 1, by omega, rfl, by go_num, by rw [← HI2.out]; rfl, HB2.out⟩
     ·obtain rfl : k = 1 := by omega
      have hdn : sy.drop 1 = [] := List.drop_of_length_le (by have := HNL.out; omega); have hi := HI.out; rw [hdn] at hi; have HI2 := zh hi; clear hi HI hdn; go_wp2_with fail; go_ret; exact ⟨zK (by rw [HBAD.out, ← HI2.out]; rfl), zT HB.out⟩
   | cons c u =>
    have hne : (c :: u).isEmpty = false := rfl; have HBAD := zh (show B = true by rw [← HBD.out]; simp); clear HBD; go_enter Tryz.func48, Tryz.ntmps48
    go_wp2_with (go_at_call 49; refine (HN.out _).mono ?_; rintro e w' ⟨rfl, rfl⟩)
    go_ret; exact ⟨zK (by rw [HBAD.out]; rfl), zT (Below.refl _ _)⟩
  ·have h7d : ((n : Int) != 1) = true := by rw [bne_iff_ne]; omega
   have HBAD := zh (show B = true by rw [← HBD.out]; simp [h7]); clear HBD; go_enter Tryz.func48, Tryz.ntmps48
   go_wp2_with (go_at_call 49; refine (HN.out _).mono ?_; rintro e w' ⟨rfl, rfl⟩)
   go_ret; exact ⟨zK (by rw [HBAD.out]; rfl), zT (Below.refl _ _)⟩
 have h6d : (kd == 6) = false := by rw [beq_eq_false_iff_ne]; exact h6
 by_cases h5 : kd = 5
 ·subst h5
  cases tg with
  | nil =>
   have HBAD := zh (show B = true by rw [← HBD.out]; simp); clear HBD; go_enter Tryz.func48, Tryz.ntmps48
   go_wp2_with (go_at_call 49; refine (HN.out _).mono ?_; rintro e w' ⟨rfl, rfl⟩)
   go_ret; exact ⟨zK (by rw [HBAD.out]; rfl), zT (Below.refl _ _)⟩
  | cons c u =>
   have hne : (c :: u).isEmpty = false := rfl
   cases q with
   | false =>
    have HBAD := zh (show B = true by rw [← HBD.out]; simp); clear HBD; go_enter Tryz.func48, Tryz.ntmps48
    go_wp2_with (go_at_call 49; refine (HN.out _).mono ?_; rintro e w' ⟨rfl, rfl⟩)
    go_ret; exact ⟨zK (by rw [HBAD.out]; rfl), zT (Below.refl _ _)⟩
   | true =>
    have HBAD := zh (show B = false by rw [← HBD.out]; simp [h3]); clear HBD; have HR0 := HR.out; have HR1 := zh (show (sy.all fun s => Sp.xY s false false) = R from HR0); have HSY1 := zh (fun (s : Sp.Sym) (hs : s ∈ sy) w => gD s false false w (HS3.out s hs)); clear HR HSY HR0; have HR := HR1; have HSY := HSY1; clear HR1 HSY1; go_enter Tryz.func48, Tryz.ntmps48
    go_wp2_with (go_at_call 49; refine (HN.out _).mono ?_; rintro e w' ⟨rfl, rfl⟩)
    go_loopg [3] n (fun g iv wr => ∃ k : Nat, k ≤ n ∧ g = n - k ∧ iv = .int .i64 k ∧ ((sy.drop k).all fun s => Sp.xY s false false) = R ∧ Below (W.heap.size + 1) (W.alloc (.cells #[.int .i64 5, .string ⟨(c :: u).toArray⟩, .slice av n cap, .int .i64 pa] 57)) wr)
    case atStart => exact ⟨0, Nat.zero_le _, rfl, rfl, HR.out, Below.refl _ _⟩
    case round =>
     obtain ⟨k, hk, rfl, rfl, hi, hbel⟩ := hrel; have HI := zh hi; have hF := (hbel.block W.heap.size (by omega)).trans (zE W _); have c0 := zc 0 hF; have c2 := zc 2 hF; have hl1 := zC hF; have HB := zh hbel; have hk0 : (0 : Int) ≤ (k : Int) := Int.natCast_nonneg _; clear hi hF hbel; by_cases hkn : k < n
     ·have hkl : k < sy.length := by have := HNL.out; omega
      have hp : sy[k]? = some sy[k] := List.getElem?_eq_getElem hkl; have hmem : sy[k] ∈ sy := List.getElem_mem hkl; have hdr : sy.drop k = sy[k] :: sy.drop (k + 1) := List.drop_eq_getElem_cons hkl; generalize sy[k] = s at *
      have HC := zh (HSY.out s hmem); have hi := HI.out; rw [hdr, List.all_cons] at hi; generalize Sp.xY s false false = q at HC hi; have HI2 := zh hi; obtain ⟨b, off, rfl, hbl, hc⟩ := HSL.out.at (k := k) (row := symC s) (by rw [List.getElem?_map, hp]; rfl); obtain ⟨snm, slt, snu, spa⟩ := s
      have hks : ∀ w', Below (W.heap.size + 1) (W.alloc (.cells #[.int .i64 5, .string ⟨(c :: u).toArray⟩, .slice (some ⟨b, off, none⟩) n cap, .int .i64 pa] 57)) w' → w'.cell? ⟨W.heap.size, 0, none⟩ = some (.int .i64 5) ∧ w'.cell? ⟨W.heap.size, 2, none⟩ = some (.slice (some ⟨b, off, none⟩) n cap) ∧ w'.cell? ⟨b, off + k * 4, none⟩ = some (.string ⟨snm.toArray⟩) ∧ w'.cell? ⟨b, off + k * 4 + 1, none⟩ = some (.bool slt) ∧ w'.cell? ⟨b, off + k * 4 + 2, none⟩ = some (.int .i64 snu) ∧ w'.cell? ⟨b, off + k * 4 + 3, none⟩ = some (.int .i64 spa) := fun w' h => by
       have hF := (h.block W.heap.size (by omega)).trans (zE W _); have hcc := hc _ (zT h); exact ⟨zc 0 hF, zc 2 hF, hcc 0 _ rfl, hcc 1 _ rfl, hcc 2 _ rfl, hcc 3 _ rfl⟩
      have HKS := zh hks; have hk1 : (k : Int) < (n : Int) := by omega
      have hsz : W.heap.size + 1 ≤ wr.heap.size := by have := HB.out.size; simp at this; omega
      clear hc hp hmem hdr hi HI hks hkl; go_wp2_with fail
      go_region_held3 (fun w' => w'.cell? ⟨W.heap.size, 0, none⟩ = some (.int .i64 5) ∧ w'.cell? ⟨W.heap.size, 2, none⟩ = some (.slice (some ⟨b, off, none⟩) n cap) ∧ w'.cell? ⟨b, off + k * 4, none⟩ = some (.string ⟨snm.toArray⟩) ∧ w'.cell? ⟨b, off + k * 4 + 1, none⟩ = some (.bool slt) ∧ w'.cell? ⟨b, off + k * 4 + 2, none⟩ = some (.int .i64 snu) ∧ w'.cell? ⟨b, off + k * 4 + 3, none⟩ = some (.int .i64 spa))
       (first
        | exact HKS.out _ HB.out
        | exact HKS.out _ (below_drewN HB.out 1)
        | exact HKS.out _ ((below_drewN HB.out 1).trans (hb'.mono hsz))
        | go_keep)
       ((first
        | (go_at_call 69; refine (HC.out _).mono ?_; rintro e w' ⟨rfl, hb'⟩)))
      all_goals
       have HB2 := zh (HB.out.trans ((zI hb').mono hsz)); clear hb'
       cases q with
       | false =>
        go_wp2_with fail; go_ret; exact ⟨zK (by rw [HBAD.out, ← HI2.out]; rfl), zT HB2.out⟩
       | true =>
        go_wp2_with fail; go_roundg (n - (k + 1))
        case measure => omega
        case rel => exact ⟨k + 1, by omega, rfl, by go_num, by rw [← HI2.out]; rfl, HB2.out⟩
     ·obtain rfl : k = n := by omega
      have hdn : sy.drop k = [] := List.drop_of_length_le (by have := HNL.out; omega); have hi := HI.out; rw [hdn] at hi; have HI2 := zh hi; clear hi HI hdn; go_wp2_with fail; go_ret; exact ⟨zK (by rw [HBAD.out, ← HI2.out]; rfl), zT HB.out⟩
 have h5d : (kd == 5) = false := by rw [beq_eq_false_iff_ne]; exact h5
 cases tg with
 | nil =>
  have HBAD := zh (show B = false by rw [← HBD.out]; simp [h1, h2, h3, h6, h5]; try omega); clear HBD; go_enter Tryz.func48, Tryz.ntmps48
  go_wp2_with (go_at_call 49; refine (HN.out _).mono ?_; rintro e w' ⟨rfl, rfl⟩)
  go_loopg [3] n (fun g iv wr => ∃ k : Nat, k ≤ n ∧ g = n - k ∧ iv = .int .i64 k ∧ ((sy.drop k).all fun s => Sp.xY s (kd == 1) (decide (kd < 5))) = R ∧ Below (W.heap.size + 1) (W.alloc (.cells #[.int .i64 kd, .string ⟨([] : List UInt8).toArray⟩, .slice av n cap, .int .i64 pa] 57)) wr)
  case atStart => exact ⟨0, Nat.zero_le _, rfl, rfl, HR.out, Below.refl _ _⟩
  case round =>
   obtain ⟨k, hk, rfl, rfl, hi, hbel⟩ := hrel; have HI := zh hi; have hF := (hbel.block W.heap.size (by omega)).trans (zE W _); have c0 := zc 0 hF; have c2 := zc 2 hF; have hl1 := zC hF; have HB := zh hbel; have hk0 : (0 : Int) ≤ (k : Int) := Int.natCast_nonneg _; clear hi hF hbel; by_cases hkn : k < n
   ·have hkl : k < sy.length := by have := HNL.out; omega
    have hp : sy[k]? = some sy[k] := List.getElem?_eq_getElem hkl; have hmem : sy[k] ∈ sy := List.getElem_mem hkl; have hdr : sy.drop k = sy[k] :: sy.drop (k + 1) := List.drop_eq_getElem_cons hkl; generalize sy[k] = s at *
    have HC := zh (HSY.out s hmem); have hi := HI.out; rw [hdr, List.all_cons] at hi; generalize Sp.xY s (kd == 1) (decide (kd < 5)) = q at HC hi; have HI2 := zh hi; obtain ⟨b, off, rfl, hbl, hc⟩ := HSL.out.at (k := k) (row := symC s) (by rw [List.getElem?_map, hp]; rfl); obtain ⟨snm, slt, snu, spa⟩ := s
    have hks : ∀ w', Below (W.heap.size + 1) (W.alloc (.cells #[.int .i64 kd, .string ⟨([] : List UInt8).toArray⟩, .slice (some ⟨b, off, none⟩) n cap, .int .i64 pa] 57)) w' → w'.cell? ⟨W.heap.size, 0, none⟩ = some (.int .i64 kd) ∧ w'.cell? ⟨W.heap.size, 2, none⟩ = some (.slice (some ⟨b, off, none⟩) n cap) ∧ w'.cell? ⟨b, off + k * 4, none⟩ = some (.string ⟨snm.toArray⟩) ∧ w'.cell? ⟨b, off + k * 4 + 1, none⟩ = some (.bool slt) ∧ w'.cell? ⟨b, off + k * 4 + 2, none⟩ = some (.int .i64 snu) ∧ w'.cell? ⟨b, off + k * 4 + 3, none⟩ = some (.int .i64 spa) := fun w' h => by
     have hF := (h.block W.heap.size (by omega)).trans (zE W _); have hcc := hc _ (zT h); exact ⟨zc 0 hF, zc 2 hF, hcc 0 _ rfl, hcc 1 _ rfl, hcc 2 _ rfl, hcc 3 _ rfl⟩
    have HKS := zh hks; have hk1 : (k : Int) < (n : Int) := by omega
    have hsz : W.heap.size + 1 ≤ wr.heap.size := by have := HB.out.size; simp at this; omega
    clear hc hp hmem hdr hi HI hks hkl; go_wp2_with fail
    go_region_held3 (fun w' => w'.cell? ⟨W.heap.size, 0, none⟩ = some (.int .i64 kd) ∧ w'.cell? ⟨W.heap.size, 2, none⟩ = some (.slice (some ⟨b, off, none⟩) n cap) ∧ w'.cell? ⟨b, off + k * 4, none⟩ = some (.string ⟨snm.toArray⟩) ∧ w'.cell? ⟨b, off + k * 4 + 1, none⟩ = some (.bool slt) ∧ w'.cell? ⟨b, off + k * 4 + 2, none⟩ = some (.int .i64 snu) ∧ w'.cell? ⟨b, off + k * 4 + 3, none⟩ = some (.int .i64 spa))
     (first
      | exact HKS.out _ HB.out
      | exact HKS.out _ (below_drewN HB.out 1)
      | exact HKS.out _ ((below_drewN HB.out 1).trans (hb'.mono hsz))
      | go_keep)
     ((first
      | (go_at_call 69; refine (HC.out _).mono ?_; rintro e w' ⟨rfl, hb'⟩)))
    all_goals
     have HB2 := zh (HB.out.trans ((zI hb').mono hsz)); clear hb'
     cases q with
     | false =>
      go_wp2_with fail; go_ret; exact ⟨zK (by rw [HBAD.out, ← HI2.out]; rfl), zT HB2.out⟩
     | true =>
      go_wp2_with fail; go_roundg (n - (k + 1))
      case measure => omega
      case rel => exact ⟨k + 1, by omega, rfl, by go_num, by rw [← HI2.out]; rfl, HB2.out⟩
   ·obtain rfl : k = n := by omega
    have hdn : sy.drop k = [] := List.drop_of_length_le (by have := HNL.out; omega); have hi := HI.out; rw [hdn] at hi; have HI2 := zh hi; clear hi HI hdn; go_wp2_with fail; go_ret; exact ⟨zK (by rw [HBAD.out, ← HI2.out]; rfl), zT HB.out⟩
 | cons c u =>
  have hne : (c :: u).isEmpty = false := rfl
  cases q with
  | false =>
   have HBAD := zh (show B = true by rw [← HBD.out]; simp); clear HBD; go_enter Tryz.func48, Tryz.ntmps48
   go_wp2_with (go_at_call 49; refine (HN.out _).mono ?_; rintro e w' ⟨rfl, rfl⟩)
   go_ret; exact ⟨zK (by rw [HBAD.out]; rfl), zT (Below.refl _ _)⟩
  | true =>
   have HBAD := zh (show B = false by rw [← HBD.out]; simp [h1, h2, h3, h6, h5]; try omega); clear HBD; go_enter Tryz.func48, Tryz.ntmps48
   go_wp2_with (go_at_call 49; refine (HN.out _).mono ?_; rintro e w' ⟨rfl, rfl⟩)
   go_loopg [3] n (fun g iv wr => ∃ k : Nat, k ≤ n ∧ g = n - k ∧ iv = .int .i64 k ∧ ((sy.drop k).all fun s => Sp.xY s (kd == 1) (decide (kd < 5))) = R ∧ Below (W.heap.size + 1) (W.alloc (.cells #[.int .i64 kd, .string ⟨(c :: u).toArray⟩, .slice av n cap, .int .i64 pa] 57)) wr)
   case atStart => exact ⟨0, Nat.zero_le _, rfl, rfl, HR.out, Below.refl _ _⟩
   case round =>
    obtain ⟨k, hk, rfl, rfl, hi, hbel⟩ := hrel; have HI := zh hi; have hF := (hbel.block W.heap.size (by omega)).trans (zE W _); have c0 := zc 0 hF; have c2 := zc 2 hF; have hl1 := zC hF; have HB := zh hbel; have hk0 : (0 : Int) ≤ (k : Int) := Int.natCast_nonneg _; clear hi hF hbel; by_cases hkn : k < n
    ·have hkl : k < sy.length := by have := HNL.out; omega
     have hp : sy[k]? = some sy[k] := List.getElem?_eq_getElem hkl; have hmem : sy[k] ∈ sy := List.getElem_mem hkl; have hdr : sy.drop k = sy[k] :: sy.drop (k + 1) := List.drop_eq_getElem_cons hkl; generalize sy[k] = s at *
     have HC := zh (HSY.out s hmem); have hi := HI.out; rw [hdr, List.all_cons] at hi; generalize Sp.xY s (kd == 1) (decide (kd < 5)) = q at HC hi; have HI2 := zh hi; obtain ⟨b, off, rfl, hbl, hc⟩ := HSL.out.at (k := k) (row := symC s) (by rw [List.getElem?_map, hp]; rfl); obtain ⟨snm, slt, snu, spa⟩ := s
     have hks : ∀ w', Below (W.heap.size + 1) (W.alloc (.cells #[.int .i64 kd, .string ⟨(c :: u).toArray⟩, .slice (some ⟨b, off, none⟩) n cap, .int .i64 pa] 57)) w' → w'.cell? ⟨W.heap.size, 0, none⟩ = some (.int .i64 kd) ∧ w'.cell? ⟨W.heap.size, 2, none⟩ = some (.slice (some ⟨b, off, none⟩) n cap) ∧ w'.cell? ⟨b, off + k * 4, none⟩ = some (.string ⟨snm.toArray⟩) ∧ w'.cell? ⟨b, off + k * 4 + 1, none⟩ = some (.bool slt) ∧ w'.cell? ⟨b, off + k * 4 + 2, none⟩ = some (.int .i64 snu) ∧ w'.cell? ⟨b, off + k * 4 + 3, none⟩ = some (.int .i64 spa) := fun w' h => by
      have hF := (h.block W.heap.size (by omega)).trans (zE W _); have hcc := hc _ (zT h); exact ⟨zc 0 hF, zc 2 hF, hcc 0 _ rfl, hcc 1 _ rfl, hcc 2 _ rfl, hcc 3 _ rfl⟩
     have HKS := zh hks; have hk1 : (k : Int) < (n : Int) := by omega
     have hsz : W.heap.size + 1 ≤ wr.heap.size := by have := HB.out.size; simp at this; omega
     clear hc hp hmem hdr hi HI hks hkl; go_wp2_with fail
     go_region_held3 (fun w' => w'.cell? ⟨W.heap.size, 0, none⟩ = some (.int .i64 kd) ∧ w'.cell? ⟨W.heap.size, 2, none⟩ = some (.slice (some ⟨b, off, none⟩) n cap) ∧ w'.cell? ⟨b, off + k * 4, none⟩ = some (.string ⟨snm.toArray⟩) ∧ w'.cell? ⟨b, off + k * 4 + 1, none⟩ = some (.bool slt) ∧ w'.cell? ⟨b, off + k * 4 + 2, none⟩ = some (.int .i64 snu) ∧ w'.cell? ⟨b, off + k * 4 + 3, none⟩ = some (.int .i64 spa))
      (first
       | exact HKS.out _ HB.out
       | exact HKS.out _ (below_drewN HB.out 1)
       | exact HKS.out _ ((below_drewN HB.out 1).trans (hb'.mono hsz))
       | go_keep)
      ((first
       | (go_at_call 69; refine (HC.out _).mono ?_; rintro e w' ⟨rfl, hb'⟩)))
     all_goals
      have HB2 := zh (HB.out.trans ((zI hb').mono hsz)); clear hb'
      cases q with
      | false =>
       go_wp2_with fail; go_ret; exact ⟨zK (by rw [HBAD.out, ← HI2.out]; rfl), zT HB2.out⟩
      | true =>
       go_wp2_with fail; go_roundg (n - (k + 1))
       case measure => omega
       case rel => exact ⟨k + 1, by omega, rfl, by go_num, by rw [← HI2.out]; rfl, HB2.out⟩
    ·obtain rfl : k = n := by omega
     have hdn : sy.drop k = [] := List.drop_of_length_le (by have := HNL.out; omega); have hi := HI.out; rw [hdn] at hi; have HI2 := zh hi; clear hi HI hdn; go_wp2_with fail; go_ret; exact ⟨zK (by rw [HBAD.out, ← HI2.out]; rfl), zT HB.out⟩

section
variable {P : Program} {ops : Array Oper} {Q : Exit → Act → World → Prop} {md : Region.Mode} {S : World → Prop} {last : Nat}

def gU (P : Program) (md : Region.Mode) (ops : Array Oper) (Q : Exit → Act → World → Prop) (S : World → Prop) (last : Nat) : Nat → Array Bool → Act → World → Prop
 | 0, listed, a, w => Region.ready md ops listed = [] ∧ Q .normal a w
 | fuel + 1, listed, a, w =>
  (Region.ready md ops listed = [] → Q .normal a w) ∧
  ∀ i ∈ Region.ready md ops listed, wpOp P ops Q i (fun a' w' => (i = last ∨ S w') ∧ gU P md ops Q S last fuel (listed.setIfInBounds i true) a' w') a w

theorem wpAny_of_K : ∀ (fuel : Nat) (listed : Array Bool) (a : Act) (w : World), gU P md ops Q S last fuel listed a w → wpAny P md ops Q fuel listed a w
 | 0, _, _, _, h => h
 | fuel + 1, _, _, _, h => ⟨h.1, fun i hi => wpOp_mono (fun a' w' h' => wpAny_of_K fuel _ a' w' h'.2) (h.2 i hi)⟩

def gX (md : Region.Mode) (ops : Array Oper) : Nat → Nat → Nat → Bool
 | 0, _, _ => false
 | f + 1, j, i => match ops[j]? with
  | some oj => oj.after.any fun e => Region.binds md e && (e.on == i || gX md ops f e.on i)
  | none => false
def xL (md : Region.Mode) (ops : Array Oper) (listed : Array Bool) : Prop :=
 ∀ j oj, ops[j]? = some oj → listed.getD j false = true → ∀ e ∈ oj.after, Region.binds md e = true → listed.getD e.on false = true
theorem xL.start (n : Nat) : xL md ops (Array.replicate n false) := fun j oj _ hl => by rw [getD_replicate_false] at hl; cases hl
theorem xL.set {listed : Array Bool} (h : xL md ops listed) {i : Nat} (hi : i ∈ Region.ready md ops listed) : xL md ops (listed.setIfInBounds i true) := by
 obtain ⟨_, oi, hoi, hall⟩ := mem_ready.1 hi; intro j oj hj hl e he hb; by_cases hij : i = j
 ·subst hij
  have : oj = oi := Option.some.inj (hj.symm.trans hoi); subst this; exact getD_set_true (hall e he hb)
 ·rw [getD_set_ne false hij] at hl
  exact getD_set_true (h j oj hj hl e he hb)
theorem reach_listed {listed : Array Bool} (h : xL md ops listed) {i : Nat} : ∀ (f j : Nat), gX md ops f j i = true → listed.getD j false = true → listed.getD i false = true
 | 0, _, hr, _ => by cases hr
 | f + 1, j, hr, hl => by
  unfold gX at hr; split at hr
  ·rename_i oj hoj
   obtain ⟨e, he, hb⟩ := Array.any_eq_true'.1 hr; simp only [Bool.and_eq_true, Bool.or_eq_true, beq_iff_eq] at hb; have h1 := h j oj hoj hl e he hb.1; rcases hb.2 with h2 | h2
   ·rw [h2] at h1; exact h1
   ·exact reach_listed h f e.on h2 h1
  ·cases hr
theorem zCV {listed : Array Bool} (h : xL md ops listed) {f i j : Nat} (hr : gX md ops f j i = true) (hun : listed.getD i true = false) : j ∉ Region.ready md ops listed := by
 intro hj; obtain ⟨_, oj, hoj, hall⟩ := mem_ready.1 hj
 cases f with
 | zero => cases hr
 | succ f =>
  unfold gX at hr; rw [hoj] at hr; obtain ⟨e, he, hb⟩ := Array.any_eq_true'.1 hr; simp only [Bool.and_eq_true, Bool.or_eq_true, beq_iff_eq] at hb; have h1 := hall e he hb.1
  have h3 : listed.getD i false = true := by
   rcases hb.2 with h2 | h2
   ·rw [← h2]; exact h1
   ·exact reach_listed h f e.on h2 h1
  rw [getD_both hun] at h3; cases h3

theorem wpAnyK_first {i f0 : Nat} {oi : Oper} {v : Value} (hi : ops[i]? = some oi) (hsel : ∀ (j : Nat) (o : Oper) cs b, ops[j]? = some o → o.op ≠ .select cs b)
  (hQ : ∀ c a w, Q (.panic c) (a.put oi.dst v) w → Q (.panic c) a w) (hlast : gX md ops f0 last i = true) (hil : i ≠ last) :
  ∀ (fuel : Nat) (listed : Array Bool) (a : Act) (w : World), xL md ops listed →
   (∀ j oj, ops[j]? = some oj → j ≠ i → listed.getD j true = false → (∀ e ∈ oj.after, Region.binds md e = true → e.on ≠ i) → oi.apart ops oj = true) →
   i ∈ Region.ready md ops listed → YieldsIf P ops S oi v a → S w →
   gU P md ops Q S last fuel (listed.setIfInBounds i true) (a.put oi.dst v) w → gU P md ops Q S last (fuel + 1) listed a w := by
 intro fuel
 induction fuel with
 | zero =>
  intro listed a w _ _ hr hy hS H; refine ⟨fun h => (by rw [h] at hr; cases hr), fun j hj => ?_⟩; by_cases hji : j = i
  ·subst hji; exact hy.wpOp hi hS ⟨.inr hS, H⟩
  ·have := ready_mono hj hji
   rw [H.1] at this; cases this
 | succ fuel ih =>
  intro listed a w hcl hfree hr hy hS H; refine ⟨fun h => (by rw [h] at hr; cases hr), fun j hj => ?_⟩; by_cases hji : j = i
  ·subst hji; exact hy.wpOp hi hS ⟨.inr hS, H⟩
  ·have hjl : j ≠ last := fun e => zCV hcl hlast (mem_ready.1 hr).1 (e ▸ hj)
   have h1 := H.2 j (ready_mono hj hji); obtain ⟨hjun, oj, hoj, hall⟩ := mem_ready.1 hj
   have hnot : ∀ e ∈ oj.after, Region.binds md e = true → e.on ≠ i := fun e he hb heq => by
    have h1 := hall e he hb; have h0 := (mem_ready.1 hr).1; rw [heq, getD_both h0] at h1; cases h1
   have h1' := wpOp_mono (K' := fun a' w' => S w' ∧ gU P md ops Q S last fuel ((listed.setIfInBounds i true).setIfInBounds j true) a' w') (fun a' w' h3 => ⟨h3.1.resolve_left hjl, h3.2⟩) h1; have h2 := wpOp_putIf hoj (hfree j oj hoj hji hjun hnot) (fun cs b => hsel i oi cs b hi) (fun cs b => hsel j oj cs b hoj) hQ hy h1'
   have hfree' : ∀ k ok, ops[k]? = some ok → k ≠ i → (listed.setIfInBounds j true).getD k true = false →
     (∀ e ∈ ok.after, Region.binds md e = true → e.on ≠ i) → oi.apart ops ok = true := fun k ok hk hki hun hno => by
    refine hfree k ok hk hki ?_ hno; by_cases hjk : j = k
    ·subst hjk; exact hjun
    ·rw [getD_set_ne true hjk] at hun; exact hun
   refine wpOp_mono (fun a' w' h3 => ⟨.inr h3.2.1, ih (listed.setIfInBounds j true) a' w' (hcl.set hj) hfree' (ready_mono hr (Ne.symm hji)) h3.1 h3.2.1 ?_⟩) h2; rw [Array.setIfInBounds_comm _ _ hji]; exact h3.2.2

theorem xU {i f0 : Nat} {oi : Oper} {v : Value} {fuel : Nat} {listed : Array Bool} {a : Act} {w : World} (hcl : xL md ops listed) (hi : ops[i]? = some oi)
  (hs : Region.noSelect ops = true) (hf : Region.free md ops listed i = true) (hr : (Region.ready md ops listed).contains i = true) (hlast : gX md ops f0 last i = true) (hil : i ≠ last)
  (hQ : ∀ c a w, Q (.panic c) (a.put oi.dst v) w → Q (.panic c) a w) (hy : YieldsIf P ops S oi v a) (hS : S w)
  (h : xL md ops (listed.setIfInBounds i true) → gU P md ops Q S last fuel (listed.setIfInBounds i true) (a.put oi.dst v) w) : gU P md ops Q S last (fuel + 1) listed a w :=
 have hr' : i ∈ Region.ready md ops listed := by simpa using hr
 wpAnyK_first hi (Region.noSelect_spec hs) hQ hlast hil fuel listed a w hcl (Region.free_spec hi hf) hr' hy hS (h (hcl.set hr'))
theorem gT {i : Nat} {o : Oper} {fuel : Nat} {listed : Array Bool} {a : Act} {w : World} (hcl : xL md ops listed) (hr : Region.ready md ops listed = [i]) (ho : ops[i]? = some o)
  (h : ∀ K' : Act → World → Prop, (∀ a w, (i = last ∨ S w) → (xL md ops (listed.setIfInBounds i true) → gU P md ops Q S last fuel (listed.setIfInBounds i true) a w) → K' a w) → if Region.wanted o (yielded ops a.tmps) = true then Oper.wp P o a w K' Q else K' (a.put o.dst undef) w) :
  gU P md ops Q S last (fuel + 1) listed a w := by
 refine ⟨fun h0 => (by rw [hr] at h0; cases h0), fun j hj => ?_⟩; rw [hr] at hj; have hji : j = i := by simpa using hj
 subst hji; have hj' : j ∈ Region.ready md ops listed := by rw [hr]; simp
 exact wpOp_step ho (fun K' hK => h K' (fun a w hS hW => hK a w ⟨hS, hW (hcl.set hj')⟩))
theorem wpAnyK_done {listed : Array Bool} {a : Act} {w : World} (hr : Region.ready md ops listed = []) (h : Q .normal a w) : ∀ fuel, gU P md ops Q S last fuel listed a w
 | 0 => ⟨hr, h⟩
 | _ + 1 => ⟨fun _ => h, by rw [hr]; simp⟩
theorem wp_region_K (last : Nat) (S : World → Prop) {id : Nat} {a : Act} {w : World} (hm : P.follows .mixedOrders = true)
  (h : xL .any ops (Array.replicate ops.size false) → gU P .any ops Q S last ops.size (Array.replicate ops.size false) a w.drew) : (Code.region id ops true).wp P Q a w :=
 wp_region_any hm (wpAny_of_K _ _ _ _ (h (xL.start _)))
end

section
variable {P : Program} {ops : Array Oper} {Q : Exit → Act → World → Prop} {md : Region.Mode} {S : World → Prop} {brk : Nat → Bool}

def wpAnyS (P : Program) (md : Region.Mode) (ops : Array Oper) (Q : Exit → Act → World → Prop) (S : World → Prop) (brk : Nat → Bool) : Nat → Array Bool → Act → World → Prop
 | 0, listed, a, w => Region.ready md ops listed = [] ∧ Q .normal a w
 | fuel + 1, listed, a, w =>
  (Region.ready md ops listed = [] → Q .normal a w) ∧
  ∀ i ∈ Region.ready md ops listed, wpOp P ops Q i (fun a' w' => (brk i = true ∨ S w') ∧ wpAnyS P md ops Q S brk fuel (listed.setIfInBounds i true) a' w') a w

theorem wpAny_of_S : ∀ (fuel : Nat) (listed : Array Bool) (a : Act) (w : World), wpAnyS P md ops Q S brk fuel listed a w → wpAny P md ops Q fuel listed a w
 | 0, _, _, _, h => h
 | fuel + 1, _, _, _, h => ⟨h.1, fun i hi => wpOp_mono (fun a' w' h' => wpAny_of_S fuel _ a' w' h'.2) (h.2 i hi)⟩

theorem wpAnyS_first {i f0 : Nat} {oi : Oper} {v : Value} (hi : ops[i]? = some oi) (hsel : ∀ (j : Nat) (o : Oper) cs b, ops[j]? = some o → o.op ≠ .select cs b)
  (hQ : ∀ c a w, Q (.panic c) (a.put oi.dst v) w → Q (.panic c) a w) (hbrk : ∀ j, brk j = true → gX md ops f0 j i = true) (hib : brk i = false) :
  ∀ (fuel : Nat) (listed : Array Bool) (a : Act) (w : World), xL md ops listed →
   (∀ j oj, ops[j]? = some oj → j ≠ i → listed.getD j true = false → (∀ e ∈ oj.after, Region.binds md e = true → e.on ≠ i) → oi.apart ops oj = true) →
   i ∈ Region.ready md ops listed → YieldsIf P ops S oi v a → S w →
   wpAnyS P md ops Q S brk fuel (listed.setIfInBounds i true) (a.put oi.dst v) w → wpAnyS P md ops Q S brk (fuel + 1) listed a w := by
 intro fuel
 induction fuel with
 | zero =>
  intro listed a w _ _ hr hy hS H; refine ⟨fun h => (by rw [h] at hr; cases hr), fun j hj => ?_⟩; by_cases hji : j = i
  ·subst hji; exact hy.wpOp hi hS ⟨.inr hS, H⟩
  ·have := ready_mono hj hji
   rw [H.1] at this; cases this
 | succ fuel ih =>
  intro listed a w hcl hfree hr hy hS H; refine ⟨fun h => (by rw [h] at hr; cases hr), fun j hj => ?_⟩; by_cases hji : j = i
  ·subst hji; exact hy.wpOp hi hS ⟨.inr hS, H⟩
  ·have hjl : ¬ brk j = true := fun e => zCV hcl (hbrk j e) (mem_ready.1 hr).1 hj
   have h1 := H.2 j (ready_mono hj hji); obtain ⟨hjun, oj, hoj, hall⟩ := mem_ready.1 hj
   have hnot : ∀ e ∈ oj.after, Region.binds md e = true → e.on ≠ i := fun e he hb heq => by
    have h1 := hall e he hb; have h0 := (mem_ready.1 hr).1; rw [heq, getD_both h0] at h1; cases h1
   have h1' := wpOp_mono (K' := fun a' w' => S w' ∧ wpAnyS P md ops Q S brk fuel ((listed.setIfInBounds i true).setIfInBounds j true) a' w') (fun a' w' h3 => ⟨h3.1.resolve_left hjl, h3.2⟩) h1; have h2 := wpOp_putIf hoj (hfree j oj hoj hji hjun hnot) (fun cs b => hsel i oi cs b hi) (fun cs b => hsel j oj cs b hoj) hQ hy h1'
   have hfree' : ∀ k ok, ops[k]? = some ok → k ≠ i → (listed.setIfInBounds j true).getD k true = false →
     (∀ e ∈ ok.after, Region.binds md e = true → e.on ≠ i) → oi.apart ops ok = true := fun k ok hk hki hun hno => by
    refine hfree k ok hk hki ?_ hno; by_cases hjk : j = k
    ·subst hjk; exact hjun
    ·rw [getD_set_ne true hjk] at hun; exact hun
   refine wpOp_mono (fun a' w' h3 => ⟨.inr h3.2.1, ih (listed.setIfInBounds j true) a' w' (hcl.set hj) hfree' (ready_mono hr (Ne.symm hji)) h3.1 h3.2.1 ?_⟩) h2; rw [Array.setIfInBounds_comm _ _ hji]; exact h3.2.2

inductive PT where
 | done
 | take (i : Nat) (t : PT)
 | one (i : Nat) (t : PT)
 | two (i j : Nat) (t u : PT)
def PT.len : PT → Nat
 | .done => 0
 | .take _ t => t.len + 1
 | .one _ t => t.len + 1
 | .two _ _ t _ => t.len + 1
def planB (md : Region.Mode) (ops : Array Oper) (brks : List Nat) : PT → Array Bool → Bool
 | .done, listed => (Region.ready md ops listed).isEmpty
 | .take i l, listed => (Region.ready md ops listed).contains i && Region.free md ops listed i && (!brks.contains i && brks.all fun j => gX md ops ops.size j i) && planB md ops brks l (listed.setIfInBounds i true)
 | .one i l, listed => decide (Region.ready md ops listed = [i]) && planB md ops brks l (listed.setIfInBounds i true)
 | .two i j t u, listed => decide (Region.ready md ops listed = [i, j]) && decide (t.len = u.len) && planB md ops brks t (listed.setIfInBounds i true) && planB md ops brks u (listed.setIfInBounds j true)
def planA (md : Region.Mode) (ops : Array Oper) (brks : List Nat) (plan : PT) : Bool :=
 Region.noSelect ops && decide (plan.len = ops.size) && planB md ops brks plan (Array.replicate ops.size false)

def qB (P : Program) (ops : Array Oper) (Q : Exit → Act → World → Prop) (S : World → Prop) (brks : List Nat) : PT → Act → World → Prop
 | .done, a, w => Q .normal a w
 | .take i l, a, w => S w ∧ ∃ o v, ops[i]? = some o ∧ YieldsIf P ops S o v a ∧ qB P ops Q S brks l (a.put o.dst v) w
 | .one i l, a, w => wpOp P ops Q i (fun a' w' => (brks.contains i = true ∨ S w') ∧ qB P ops Q S brks l a' w') a w
 | .two i j t u, a, w => wpOp P ops Q i (fun a' w' => (brks.contains i = true ∨ S w') ∧ qB P ops Q S brks t a' w') a w ∧ wpOp P ops Q j (fun a' w' => (brks.contains j = true ∨ S w') ∧ qB P ops Q S brks u a' w') a w

theorem put_panic (hQ : ∀ c (t : Array Value) (a : Act) w, Q (.panic c) ⟨t, a.defers⟩ w → Q (.panic c) a w) {c} {a : Act} {d : Option Tmp} {v : Value} {w : World} (h : Q (.panic c) (a.put d v) w) : Q (.panic c) a w := by
 cases d with
 | none => exact h
 | some d => exact hQ c _ a w h
theorem gB {brks : List Nat} (hsel : Region.noSelect ops = true) (hQ : ∀ c (t : Array Value) (a : Act) w, Q (.panic c) ⟨t, a.defers⟩ w → Q (.panic c) a w) : ∀ (l : PT) (listed : Array Bool) (a : Act) (w : World),
  xL md ops listed → planB md ops brks l listed = true → qB P ops Q S brks l a w → wpAnyS P md ops Q S (fun j => brks.contains j) l.len listed a w
 | .done, listed, a, w, _, hB, h => ⟨by simpa [planB] using hB, h⟩
 | .take i l, listed, a, w, hcl, hB, h => by
  simp only [planB, Bool.and_eq_true] at hB; obtain ⟨⟨⟨hr, hf⟩, hbi, hba⟩, hB'⟩ := hB; obtain ⟨hS, o, v, ho, hy, hK⟩ := h; have hr' : i ∈ Region.ready md ops listed := by simpa using hr
  refine wpAnyS_first (f0 := ops.size) ho (Region.noSelect_spec hsel) (fun c a w h => put_panic hQ h) (fun j hj => ?_) (by simpa using hbi) l.len listed a w hcl (Region.free_spec ho hf) hr' hy hS
   (gB hsel hQ l _ _ _ (hcl.set hr') hB' hK)
  have := List.all_eq_true.1 hba j (by simpa using hj); exact this
 | .one i l, listed, a, w, hcl, hB, h => by
  simp only [planB, Bool.and_eq_true, decide_eq_true_eq] at hB; obtain ⟨hr, hB'⟩ := hB; refine ⟨fun h0 => (by rw [hr] at h0; cases h0), fun j hj => ?_⟩; have hj' := hj; rw [hr] at hj; have hji : j = i := by simpa using hj
  subst hji; exact wpOp_mono (fun a' w' h' => ⟨h'.1, gB hsel hQ l _ _ _ (hcl.set hj') hB' h'.2⟩) h
 | .two i j t u, listed, a, w, hcl, hB, h => by
  simp only [planB, Bool.and_eq_true, decide_eq_true_eq] at hB; obtain ⟨⟨⟨hr, hlen⟩, hB1⟩, hB2⟩ := hB; refine ⟨fun h0 => (by rw [hr] at h0; cases h0), fun k hk => ?_⟩; have hk' := hk; rw [hr] at hk; have hki : k = i ∨ k = j := by simpa using hk
  rcases hki with rfl | rfl
  ·exact wpOp_mono (fun a' w' h' => ⟨h'.1, gB hsel hQ t _ _ _ (hcl.set hk') hB1 h'.2⟩) h.1
  ·refine wpOp_mono (fun a' w' h' => ⟨h'.1, ?_⟩) h.2
   have h2 := gB hsel hQ u _ _ _ (hcl.set hk') hB2 h'.2; rw [← hlen] at h2; exact h2

theorem zF (S : World → Prop) (brks : List Nat) (plan : PT) {id : Nat} {a : Act} {w : World} (hm : P.follows .mixedOrders = true) (hA : planA .any ops brks plan = true)
  (hQ : ∀ c (t : Array Value) (a : Act) w, Q (.panic c) ⟨t, a.defers⟩ w → Q (.panic c) a w) (h : qB P ops Q S brks plan a w.drew) : (Code.region id ops true).wp P Q a w := by
 simp only [planA, Bool.and_eq_true, decide_eq_true_eq] at hA; obtain ⟨⟨hsel, hl⟩, hB⟩ := hA; have H := gB (md := .any) hsel hQ plan _ _ _ (xL.start _) hB h; rw [hl] at H; exact wp_region_any hm (wpAny_of_S _ _ _ _ H)

theorem zN {brks : List Nat} {i : Nat} {o : Oper} {v : Value} {l : PT} {a : Act} {w : World} (ho : ops[i]? = some o) (hS : S w)
  (hw : Region.wanted o (yielded ops a.tmps) = true) (hy : ∀ w, S w → (execOp a.eval o).run P w = .ok (.value v) w) (h : qB P ops Q S brks l (a.put o.dst v) w) : qB P ops Q S brks (.take i l) a w :=
 ⟨hS, o, v, ho, .inl ⟨hw, hy⟩, h⟩
theorem wpPlan_none {brks : List Nat} {i : Nat} {o : Oper} {l : PT} {a : Act} {w : World} (ho : ops[i]? = some o) (hS : S w)
  (hw : Region.wanted o (yielded ops a.tmps) = false) (h : qB P ops Q S brks l (a.put o.dst undef) w) : qB P ops Q S brks (.take i l) a w :=
 ⟨hS, o, undef, ho, .inr ⟨hw, rfl⟩, h⟩
theorem zB {brks : List Nat} {i : Nat} {o : Oper} {l : PT} {a : Act} {w : World} (ho : ops[i]? = some o) (hw : Region.wanted o (yielded ops a.tmps) = true)
  (h : ∀ K' : Act → World → Prop, (∀ a w, (brks.contains i = true ∨ S w) → qB P ops Q S brks l a w → K' a w) → Oper.wp P o a w K' Q) : qB P ops Q S brks (.one i l) a w := by
 show wpOp P ops Q i _ a w
 unfold wpOp; simp only [ho, hw, if_true]; exact .inl (h _ (fun a w hS hW => ⟨hS, hW⟩))
theorem wpPlan_pass {brks : List Nat} {i : Nat} {o : Oper} {l : PT} {a : Act} {w : World} (ho : ops[i]? = some o) (hw : Region.wanted o (yielded ops a.tmps) = false) (hS : S w)
  (h : qB P ops Q S brks l (a.put o.dst undef) w) : qB P ops Q S brks (.one i l) a w := by
 show wpOp P ops Q i _ a w
 unfold wpOp; simp only [ho, hw, Bool.false_eq_true, if_false]; exact ⟨.inr hS, h⟩
theorem put_some {a : Act} {o : Oper} {d : Tmp} {v : Value} (hd : o.dst = some d) : a.put o.dst v = ⟨a.tmps.setIfInBounds d v, a.defers⟩ := by rw [hd]; rfl
theorem zO {brks : List Nat} {i d : Nat} {o : Oper} {v : Value} {l : PT} {a : Act} {w : World} (ho : ops[i]? = some o) (hd : o.dst = some d) (hS : S w)
  (hw : Region.wanted o (yielded ops a.tmps) = true) (hy : ∀ w, S w → (execOp a.eval o).run P w = .ok (.value v) w) (h : qB P ops Q S brks l ⟨a.tmps.setIfInBounds d v, a.defers⟩ w) : qB P ops Q S brks (.take i l) a w :=
 zN ho hS hw hy (by rw [put_some hd]; exact h)
theorem zQ {brks : List Nat} {i d : Nat} {o : Oper} {l : PT} {a : Act} {w : World} (ho : ops[i]? = some o) (hd : o.dst = some d) (hS : S w)
  (hw : Region.wanted o (yielded ops a.tmps) = false) (h : qB P ops Q S brks l ⟨a.tmps.setIfInBounds d undef, a.defers⟩ w) : qB P ops Q S brks (.take i l) a w :=
 wpPlan_none ho hS hw (by rw [put_some hd]; exact h)
theorem qQ {brks : List Nat} {i d : Nat} {o : Oper} {l : PT} {a : Act} {w : World} (ho : ops[i]? = some o) (hd : o.dst = some d) (hw : Region.wanted o (yielded ops a.tmps) = false) (hS : S w)
  (h : qB P ops Q S brks l ⟨a.tmps.setIfInBounds d undef, a.defers⟩ w) : qB P ops Q S brks (.one i l) a w :=
 wpPlan_pass ho hw hS (by rw [put_some hd]; exact h)
theorem wpPlan_two {brks : List Nat} {i j : Nat} {t u : PT} {a : Act} {w : World} (h1 : qB P ops Q S brks (.one i t) a w) (h2 : qB P ops Q S brks (.one j u) a w) : qB P ops Q S brks (.two i j t u) a w := ⟨h1, h2⟩
theorem zH {brks : List Nat} {a : Act} {w : World} (h : Q .normal a w) : qB P ops Q S brks .done a w := h
end
end Go.Proofs.YtddnomjfcbplpaaGreatDoor
