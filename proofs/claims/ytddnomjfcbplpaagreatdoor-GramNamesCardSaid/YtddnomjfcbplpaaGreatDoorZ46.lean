import Derived.Test.YtddnomjfcbplpaaGreatDoorZ45
import Derived.Test.YtddnomjfcbplpaaGreatDoorZ28
namespace Go.Proofs.YtddnomjfcbplpaaGreatDoor
open Go.RowKit Go.Maps

set_option maxRecDepth 100000 in
set_option maxHeartbeats 25600000 in
theorem cut0_walk (x : Sp.zM) (vd vr : Value) (W : World) (hd : xD W vd x.decls) (hr : xA W vr x.rules) (hs : bigSrc x) :
  Calls Tryz.prog 7 #[.agg (srcC vd vr x).toArray] W (Cut8Post yA x W) := by
 obtain ⟨hb1, hb2, hb3, hb4, hb5, hb6⟩ := hs; obtain ⟨pr, ds, rs, tl⟩ := x; simp only at hb1 hb2 hb3 hb4 hb5 hb6 hd hr; obtain ⟨fd, hd1, hd2⟩ := hd; obtain ⟨fr, hr1, hr2⟩ := hr; obtain ⟨ad, cd, rfl⟩ := hd1.form; obtain ⟨ar, cr, rfl⟩ := hr1.form; have HD1 := zh hd1; have HD2 := zh hd2; have HR1 := zh hr1; have HR2 := zh hr2; rw [List.length_mapIdx] at *
 rw [List.length_mapIdx] at *
 generalize hm : ds.length = m at *
 generalize hn : rs.length = n at *
 have HM := zh hm; have HN := zh hn; have HB3 := zh hb3; have HB5 := zh hb5; unfold maxLen at hb1 hb2 hb4 hb6; obtain ⟨is0, his0, hsz0, hsz1, hsz2⟩ := info_parts info_symE; obtain ⟨id0, hid0, hdz0, hdz1, hdz2⟩ := info_parts info_declE; obtain ⟨ip0, hip0, hpz0, hpz1, hpz2⟩ := info_parts zCB; obtain ⟨ia0, hia0, haz0, haz1, haz2⟩ := info_parts zDP; obtain ⟨ir0, hir0, hrz0, hrz1, hrz2⟩ := info_parts info_ruleE; have HZ := zh (show True ∧ True from ⟨trivial, trivial⟩); clear hd1 hd2 hr1 hr2 hm hn hb3 hb5 HZ; show Calls _ _ #[.agg #[.string ⟨pr.toArray⟩, .slice ad m cd, .slice ar n cr, .string ⟨tl.toArray⟩]] _ _
 go_enter Tryz.func7, Tryz.ntmps7
 go_upto_region 1 with fail
 go_cut [3] (fun s3 wx => s3 = .pointer (some ⟨W.heap.size + 2, 0, none⟩) ∧ wx.heap[W.heap.size + 2]? = some (.cells #[.string ⟨(pr.take 40).toArray⟩, .slice none 0 0, .slice none 0 0, .string ⟨(tl.take 40).toArray⟩] 25 (0, 0)) ∧ Below (W.heap.size + 2) ((W.alloc (.cells #[.string ⟨pr.toArray⟩, .slice ad m cd, .slice ar n cr, .string ⟨tl.toArray⟩] 25)).alloc (.cells #[.string ⟨#[]⟩, .slice none 0 0, .slice none 0 0, .string ⟨#[]⟩] 25)) wx)
 case first =>
  have HKS := zh (fun w' (h : Below (W.heap.size + 2) ((W.alloc (.cells #[.string ⟨pr.toArray⟩, .slice ad m cd, .slice ar n cr, .string ⟨tl.toArray⟩] 25)).alloc (.cells #[.string ⟨#[]⟩, .slice none 0 0, .slice none 0 0, .string ⟨#[]⟩] 25)) w') => (show w'.cell? ⟨W.heap.size, 0, none⟩ = some (.string ⟨pr.toArray⟩) ∧ w'.cell? ⟨W.heap.size, 3, none⟩ = some (.string ⟨tl.toArray⟩) from ⟨zc 0 (qX h).1, zc 3 (qX h).1⟩))
  go_region_held3 (fun w' => w'.cell? ⟨W.heap.size, 0, none⟩ = some (.string ⟨pr.toArray⟩) ∧ w'.cell? ⟨W.heap.size, 3, none⟩ = some (.string ⟨tl.toArray⟩))
   (first
    | exact HKS.out _ (Below.refl _ _)
    | exact HKS.out _ (below_drewN (Below.refl _ _) 1)
    | exact HKS.out _ (below_drewN ((Below.refl _ _).alloc (by simp) _) 1)
    | go_keep)
   ((first
    | (go_at_call 19; refine (zCR _ 40 _).mono ?_; rintro e w' ⟨rfl, rfl⟩)))
  all_goals
   go_wp2_with fail; go_meet; exact ⟨rfl, by have h := zE ((W.alloc (.cells #[.string ⟨pr.toArray⟩, .slice ad m cd, .slice ar n cr, .string ⟨tl.toArray⟩] 25)).alloc (.cells #[.string ⟨#[]⟩, .slice none 0 0, .slice none 0 0, .string ⟨#[]⟩] 25)) (.cells #[.string ⟨(pr.take 40).toArray⟩, .slice none 0 0, .slice none 0 0, .string ⟨(tl.take 40).toArray⟩] 25); simp only [World.size_alloc] at h; exact h, below_drewN ((Below.refl _ _).alloc (by simp) _) 1⟩
 case rest =>
  obtain ⟨rfl, hS0, hbel0⟩ := hcut; have HS0 := zh hS0; have HB0 := zh hbel0; clear hS0 hbel0; go_upto_block 0 with fail
  generalize hDL : (ds.take 8).map (jF yA) = DL; have HDL := zh hDL; clear hDL; go_cut [] (fun wx => ∃ pv : Value, wx.heap[W.heap.size + 2]? = some (.cells #[.string ⟨(pr.take 40).toArray⟩, pv, .slice none 0 0, .string ⟨(tl.take 40).toArray⟩] 25 (0, 0)) ∧ qK (W.heap.size + 3) wx pv DL ∧ Below (W.heap.size + 2) ((W.alloc (.cells #[.string ⟨pr.toArray⟩, .slice ad m cd, .slice ar n cr, .string ⟨tl.toArray⟩] 25)).alloc (.cells #[.string ⟨#[]⟩, .slice none 0 0, .slice none 0 0, .string ⟨#[]⟩] 25)) wx)
  case first =>
   go_wp2_with fail; go_loopg [4] 8 (fun g iv wr => ∃ (k : Nat) (pv : Value), k ≤ m ∧ k ≤ 8 ∧ g = 8 - k ∧ iv = .int .i64 k ∧ wr.heap[W.heap.size + 2]? = some (.cells #[.string ⟨(pr.take 40).toArray⟩, pv, .slice none 0 0, .string ⟨(tl.take 40).toArray⟩] 25 (0, 0)) ∧ qK (W.heap.size + 3) wr pv ((ds.take k).map (jF yA)) ∧ Below (W.heap.size + 2) ((W.alloc (.cells #[.string ⟨pr.toArray⟩, .slice ad m cd, .slice ar n cr, .string ⟨tl.toArray⟩] 25)).alloc (.cells #[.string ⟨#[]⟩, .slice none 0 0, .slice none 0 0, .string ⟨#[]⟩] 25)) wr)
   case atStart => exact ⟨0, .slice none 0 0, Nat.zero_le _, Nat.zero_le _, rfl, rfl, HS0.out, OwnR.nil _ _ _ _ _ _, HB0.out⟩
   case round =>
    clear HS0 HB0; obtain ⟨k, pv, hk, hkx, rfl, rfl, hS, hown, hbel⟩ := hrel; have HS := zh hS; have HO := zh hown; have HB := zh hbel; obtain ⟨hF1, hF2⟩ := qX hbel; have b1 := zc 1 hF1; have b2 := zc 2 hF1; have s1 := zc 1 hS; have hl1 := zC hF1; have hl2 := zC hS; have hk0 : (0 : Int) ≤ (k : Int) := Int.natCast_nonneg _; have hsz : W.heap.size + 3 ≤ wr.heap.size := by omega
    clear hS hown hbel hF1 hF2; by_cases hkn : k < m ∧ k < 8
    ·obtain ⟨hkm, hkN⟩ := hkn
     have hkl : k < ds.length := by have := HM.out; omega
     have hp : ds[k]? = some ds[k] := List.getElem?_eq_getElem hkl; obtain ⟨hq1, hq2, hq3, hq4, hq5⟩ := HB3.out ds[k] (List.getElem_mem hkl); generalize ds[k] = d at *
     obtain ⟨b, off, rfl, hbl, hc⟩ := HD1.out.at (k := k) (idx_row hp); have hin := HD2.out k d hp; obtain ⟨sv, sc, hsv⟩ := hin.form; rw [List.length_map] at hsv; rw [hsv] at hin hc; have HP := zh hp; obtain ⟨dk, dt, dsy, dp⟩ := d; simp only at hin hc hq3; generalize hsn : dsy.length = sn at *
     have HSN := zh hsn; have HIN := zh hin; unfold maxLen at hq3
     have hks : ∀ w', Below (W.heap.size + 2) ((W.alloc (.cells #[.string ⟨pr.toArray⟩, .slice (some ⟨b, off, none⟩) m cd, .slice ar n cr, .string ⟨tl.toArray⟩] 25)).alloc (.cells #[.string ⟨#[]⟩, .slice none 0 0, .slice none 0 0, .string ⟨#[]⟩] 25)) w' → w'.cell? ⟨W.heap.size, 1, none⟩ = some (.slice (some ⟨b, off, none⟩) m cd) ∧ w'.cell? ⟨b, off + k * 4, none⟩ = some (.int .i64 dk) ∧ w'.cell? ⟨b, off + k * 4 + 1, none⟩ = some (.string ⟨dt.toArray⟩) ∧ w'.cell? ⟨b, off + k * 4 + 2, none⟩ = some (.slice sv sn sc) ∧ w'.cell? ⟨b, off + k * 4 + 3, none⟩ = some (.int .i64 dp) := fun w' h => by
      have hcc := hc _ (j3 h); exact ⟨zc 1 (qX h).1, hcc 0 _ rfl, hcc 1 _ rfl, hcc 2 _ rfl, hcc 3 _ rfl⟩
     have HKS := zh hks; have hk1 : (k : Int) < (m : Int) := by omega
     have hlb : b < wr.heap.size := by omega
     clear hc hp hin hsv hsn hks hkl hq1 hq2 hq4 hq5; go_upto_region 5 with fail
     go_cut [5] (fun s5 wx => s5 = .pointer (some ⟨wr.heap.size, 0, none⟩) ∧ wx = (wr.alloc (.cells #[.int .i64 dk, .string ⟨(dt.take 25).toArray⟩, .slice none 0 0, .int .i64 dp] 57)).drew)
     case first =>
      go_region_held3 (fun w' => w'.cell? ⟨W.heap.size, 1, none⟩ = some (.slice (some ⟨b, off, none⟩) m cd) ∧ w'.cell? ⟨b, off + k * 4, none⟩ = some (.int .i64 dk) ∧ w'.cell? ⟨b, off + k * 4 + 1, none⟩ = some (.string ⟨dt.toArray⟩) ∧ w'.cell? ⟨b, off + k * 4 + 2, none⟩ = some (.slice sv sn sc) ∧ w'.cell? ⟨b, off + k * 4 + 3, none⟩ = some (.int .i64 dp))
       (first
        | exact HKS.out _ HB.out
        | exact HKS.out _ (below_drewN HB.out 1)
        | exact HKS.out _ (below_drewN (HB.out.alloc (by omega) _) 1)
        | go_keep)
       ((first
        | (go_at_call 19; refine (zCR _ 25 _).mono ?_; rintro e w' ⟨rfl, rfl⟩)))
      all_goals
       go_wp2_with fail; go_meet; exact ⟨rfl, rfl⟩
     case rest =>
      obtain ⟨rfl, rfl⟩ := hcut; obtain ⟨wo, hwo⟩ : ∃ wo : World, wo = wr := ⟨_, rfl⟩
      subst hwo; obtain ⟨ko, hko⟩ : ∃ ko : Nat, ko = k := ⟨_, rfl⟩
      subst hko; have hnsl : ((dsy.take 6).map jN).length ≤ 6 := by rw [List.length_map, List.length_take]; omega
      go_upto_block 2 with fail
      go_cut [] (fun wx => ∃ u : Value, wx.heap[wo.heap.size]? = some (.cells #[.int .i64 dk, .string ⟨(dt.take 25).toArray⟩, u, .int .i64 dp] 57 (0, 0)) ∧ wx.ownsRow (wo.heap.size + 1) 45 4 u ((dsy.take 6).map jN).length (((dsy.take 6).map jN).map symC).flatten ∧ Below wo.heap.size wo wx)
      case first =>
       go_wp2_with fail; go_loopg [6] 6 (fun g iv wr => ∃ (j : Nat) (u : Value), j ≤ sn ∧ j ≤ 6 ∧ g = 6 - j ∧ iv = .int .i64 j ∧ wr.heap[wo.heap.size]? = some (.cells #[.int .i64 dk, .string ⟨(dt.take 25).toArray⟩, u, .int .i64 dp] 57 (0, 0)) ∧ wr.ownsRow (wo.heap.size + 1) 45 4 u j (((dsy.take j).map jN).map symC).flatten ∧ Below wo.heap.size wo wr)
       case atStart => exact ⟨0, .slice none 0 0, Nat.zero_le _, Nat.zero_le _, rfl, rfl, zE _ _, World.ownsRow_nil _ _ _ _, below_drewN ((Below.refl _ _).alloc (Nat.le_refl _) _) 1⟩
       case round =>
        clear b1 b2 s1 hl1 hl2; obtain ⟨j, u, hj, hjx, rfl, rfl, hD, ho, hbel⟩ := hrel; obtain ⟨ua, uc, rfl⟩ := zJ ho; have HNW := zh (fun (w2 : World) (h : Below wo.heap.size wo w2) => HB.out.trans (h.mono (by omega))); have HDD := zh hD; have HOI := zh ho; have HBI := zh hbel; obtain ⟨b1, a0, a1, a2, a3⟩ := HKS.out _ (HNW.out _ hbel); have e0 := zc 0 hD; have e1 := zc 1 hD; have e2 := zc 2 hD; have e3 := zc 3 hD; have g2 := zf 2 hD; have hlm := zC hD; have hszj : wo.heap.size ≤ wr.heap.size := hbel.size; have hl1 : W.heap.size < wr.heap.size := by omega
        have hlb1 : b < wr.heap.size := by omega
        have hj0 : (0 : Int) ≤ (j : Int) := Int.natCast_nonneg _; have hko1 : (ko : Int) < (m : Int) := by omega
        have hbS := hbel.block (W.heap.size + 2) (by omega); have hSr := hbS.trans HS.out; have s1 := zc 1 hSr; have g1 := zf 1 hSr; have hls := zC hSr; have HSr := zh hSr; clear hD ho hbel hbS hSr; by_cases hjn : j < sn ∧ j < 6
        ·obtain ⟨hjs, hjN⟩ := hjn
         have hjl : j < dsy.length := by have := HSN.out; omega
         have hp : dsy[j]? = some dsy[j] := List.getElem?_eq_getElem hjl; generalize dsy[j] = s at *
         obtain ⟨b3, off3, rfl, hbl3, hc⟩ := HIN.out.at (k := j) (row := symC s) (by rw [List.getElem?_map, hp]; rfl); obtain ⟨xn, xl, xu, xa⟩ := s; have HP3 := zh hp; have HNX := zh (fun (w2 : World) (h : Below (wo.heap.size + 1) wr w2) => HNW.out w2 (HBI.out.trans (h.mono (by omega))))
         have hks3 : ∀ w', Below (wo.heap.size + 1) wr w' → (w'.cell? ⟨wo.heap.size, 2, none⟩ = some (.slice ua j uc) ∧ w'.frozen? ⟨wo.heap.size, 2, none⟩ = false) ∧ w'.cell? ⟨W.heap.size, 1, none⟩ = some (.slice (some ⟨b, off, none⟩) m cd) ∧ w'.cell? ⟨b, off + ko * 4 + 2, none⟩ = some (.slice (some ⟨b3, off3, none⟩) sn sc) ∧ w'.cell? ⟨b3, off3 + j * 4, none⟩ = some (.string ⟨xn.toArray⟩) ∧ w'.cell? ⟨b3, off3 + j * 4 + 1, none⟩ = some (.bool xl) ∧ w'.cell? ⟨b3, off3 + j * 4 + 2, none⟩ = some (.int .i64 xu) ∧ w'.cell? ⟨b3, off3 + j * 4 + 3, none⟩ = some (.int .i64 xa) := fun w' h => by
          have hD := (h.block wo.heap.size (by omega)).trans HDD.out; obtain ⟨q1, _, _, q2, _⟩ := HKS.out _ (HNX.out _ h); have hcc := hc _ (j3 (HNX.out _ h)); exact ⟨⟨zc 2 hD, zf 2 hD⟩, q1, q2, hcc 0 _ rfl, hcc 1 _ rfl, hcc 2 _ rfl, hcc 3 _ rfl⟩
         have HKS3 := zh hks3; have HOW := zh (fun (w2 : World) (h : Below wr.heap.size wr w2) => zL HOI.out h); have HCS := zh (fun w => (show Calls Tryz.prog 20 #[.agg #[.string ⟨xn.toArray⟩, .bool xl, .int .i64 xu, .int .i64 xa]] w (fun e w' => e = .returned (.agg #[.string ⟨(xn.take 25).toArray⟩, .bool xl, .int .i64 xu, .int .i64 xa]) ∧ Below w.heap.size w w') from cut0_sym ⟨xn, xl, xu, xa⟩ w)); have hj1 : (j : Int) < (sn : Int) := by omega
         have hlb3 : b3 < wr.heap.size := by omega
         have hMle : wo.heap.size + 1 ≤ wr.heap.size := by omega
         obtain ⟨_, _, _, y0, y1, y2, y3⟩ := HKS3.out _ (Below.refl _ _); clear hc hp hks3 hjl; go_wp2_with fail; refine wp_region_K 15 (fun w' : World => (w'.cell? ⟨wo.heap.size, 2, none⟩ = some (.slice ua j uc) ∧ w'.frozen? ⟨wo.heap.size, 2, none⟩ = false) ∧ w'.cell? ⟨W.heap.size, 1, none⟩ = some (.slice (some ⟨b, off, none⟩) m cd) ∧ w'.cell? ⟨b, off + ko * 4 + 2, none⟩ = some (.slice (some ⟨b3, off3, none⟩) sn sc) ∧ w'.cell? ⟨b3, off3 + j * 4, none⟩ = some (.string ⟨xn.toArray⟩) ∧ w'.cell? ⟨b3, off3 + j * 4 + 1, none⟩ = some (.bool xl) ∧ w'.cell? ⟨b3, off3 + j * 4 + 2, none⟩ = some (.int .i64 xu) ∧ w'.cell? ⟨b3, off3 + j * 4 + 3, none⟩ = some (.int .i64 xa)) (by kernel_rfl) (fun hcl => ?_); have hSw := HKS3.out _ (below_drewN (Below.refl _ wr) 1); refine xU (i := 0) (f0 := 20) (v := ?kav0) hcl rfl (by kernel_rfl) (by kernel_rfl) (by kernel_rfl) (by kernel_rfl) (by decide) (fun _ _ _ h => h) (Or.inl ⟨by rfl, ?kay0⟩) hSw ?_
         case kay0 => (intro w hSx; (try dsimp only at hSx); go_simp; try rfl)
         clear hcl; intro hcl; (try simp only [Act.put, zq0, zq1, zq2]); refine xU (i := 1) (f0 := 20) (v := ?kav1) hcl rfl (by kernel_rfl) (by kernel_rfl) (by kernel_rfl) (by kernel_rfl) (by decide) (fun _ _ _ h => h) (Or.inl ⟨by rfl, ?kay1⟩) hSw ?_
         case kay1 => (intro w hSx; (try dsimp only at hSx); go_simp; try rfl)
         clear hcl; intro hcl; (try simp only [Act.put, zq0, zq1, zq2]); refine xU (i := 2) (f0 := 20) (v := ?kav2) hcl rfl (by kernel_rfl) (by kernel_rfl) (by kernel_rfl) (by kernel_rfl) (by decide) (fun _ _ _ h => h) (Or.inl ⟨by rfl, ?kay2⟩) hSw ?_
         case kay2 => (intro w hSx; (try dsimp only at hSx); go_simp; try rfl)
         clear hcl; intro hcl; (try simp only [Act.put, zq0, zq1, zq2]); refine xU (i := 3) (f0 := 20) (v := ?kav3) hcl rfl (by kernel_rfl) (by kernel_rfl) (by kernel_rfl) (by kernel_rfl) (by decide) (fun _ _ _ h => h) (Or.inl ⟨by rfl, ?kay3⟩) hSw ?_
         case kay3 => (intro w hSx; (try dsimp only at hSx); go_simp; try rfl)
         clear hcl; intro hcl; (try simp only [Act.put, zq0, zq1, zq2]); refine xU (i := 4) (f0 := 20) (v := ?kav4) hcl rfl (by kernel_rfl) (by kernel_rfl) (by kernel_rfl) (by kernel_rfl) (by decide) (fun _ _ _ h => h) (Or.inl ⟨by rfl, ?kay4⟩) hSw ?_
         case kay4 => (intro w hSx; (try dsimp only at hSx); go_simp; try rfl)
         clear hcl; intro hcl; (try simp only [Act.put, zq0, zq1, zq2]); refine xU (i := 5) (f0 := 20) (v := ?kav5) hcl rfl (by kernel_rfl) (by kernel_rfl) (by kernel_rfl) (by kernel_rfl) (by decide) (fun _ _ _ h => h) (Or.inl ⟨by rfl, ?kay5⟩) hSw ?_
         case kay5 => (intro w hSx; (try dsimp only at hSx); go_simp; try rfl)
         clear hcl; intro hcl; (try simp only [Act.put, zq0, zq1, zq2]); refine xU (i := 6) (f0 := 20) (v := ?kav6) hcl rfl (by kernel_rfl) (by kernel_rfl) (by kernel_rfl) (by kernel_rfl) (by decide) (fun _ _ _ h => h) (Or.inl ⟨by rfl, ?kay6⟩) hSw ?_
         case kay6 => (intro w hSx; (try dsimp only at hSx); go_simp; try rfl)
         clear hcl; intro hcl; (try simp only [Act.put, zq0, zq1, zq2]); refine xU (i := 7) (f0 := 20) (v := ?kav7) hcl rfl (by kernel_rfl) (by kernel_rfl) (by kernel_rfl) (by kernel_rfl) (by decide) (fun _ _ _ h => h) (Or.inl ⟨by rfl, ?kay7⟩) hSw ?_
         case kay7 => (intro w hSx; (try dsimp only at hSx); go_simp; try rfl)
         clear hcl; intro hcl; (try simp only [Act.put, zq0, zq1, zq2]); refine xU (i := 8) (f0 := 20) (v := ?kav8) hcl rfl (by kernel_rfl) (by kernel_rfl) (by kernel_rfl) (by kernel_rfl) (by decide) (fun _ _ _ h => h) (Or.inl ⟨by rfl, ?kay8⟩) hSw ?_
         case kay8 => (intro w hSx; (try dsimp only at hSx); go_simp; try rfl)
         clear hcl; intro hcl; (try simp only [Act.put, zq0, zq1, zq2]); refine xU (i := 9) (f0 := 20) (v := ?kav9) hcl rfl (by kernel_rfl) (by kernel_rfl) (by kernel_rfl) (by kernel_rfl) (by decide) (fun _ _ _ h => h) (Or.inl ⟨by rfl, ?kay9⟩) hSw ?_
         case kay9 => (intro w hSx; (try dsimp only at hSx); go_simp; try rfl)
         clear hcl; intro hcl; (try simp only [Act.put, zq0, zq1, zq2]); refine xU (i := 10) (f0 := 20) (v := ?kav10) hcl rfl (by kernel_rfl) (by kernel_rfl) (by kernel_rfl) (by kernel_rfl) (by decide) (fun _ _ _ h => h) (Or.inl ⟨by rfl, ?kay10⟩) hSw ?_
         case kay10 => (intro w hSx; (try dsimp only at hSx); go_simp; try rfl)
         clear hcl; intro hcl; (try simp only [Act.put, zq0, zq1, zq2]); refine gT (i := 11) hcl (by kernel_rfl) rfl (fun K' hK => ?_)
         (go_simp; go_at_call 20; refine (HCS.out _).mono ?_; rintro e w' ⟨rfl, hb'⟩; have hlw : wo.heap.size < w'.heap.size := Nat.lt_of_lt_of_le hlm hb'.size)
         refine hK _ _ (.inr ?kas11) ?_
         case kas11 => exact HKS3.out _ ((zI hb').mono hMle)
         clear hcl hK K' hSw; intro hcl; (try simp only [Act.put, zq0, zq1, zq2]); refine gT (i := 12) hcl (by kernel_rfl) rfl (fun K' hK => ?_); go_simp; refine hK _ _ (.inr ?kas12) ?_
         case kas12 => exact HKS3.out _ (((zI hb').mono hMle).alloc (Nat.le_trans hMle hb'.size) _)
         clear hcl hK K'; intro hcl; (try simp only [Act.put, zq0, zq1, zq2]); refine gT (i := 13) hcl (by kernel_rfl) rfl (fun K' hK => ?_)
         (refine step_append_lies _ (by rfl) _ _ _ (by rfl) (wo.heap.size + 1) 45 is0 _ 4 40 Tryz.underlying55 his0 hsz0 hsz1 hsz2 rfl (by omega) _ _ _ (by rfl) ((HOW.out w' (zI hb')).alloc _) ⟨w'.heap.size, 0, none⟩ 1 1 (symC (jN ⟨xn, xl, xu, xa⟩)) (by rfl) (by rfl) (World.news_of_block (cs := (symC (jN ⟨xn, xl, xu, xa⟩)).toArray) (t := 45) (fr := (0, 0)) (heap_alloc_new w' _)) (by simp [Value.oneCell', symC]) (by omega) (by unfold maxLen; omega) (by omega) (by have h1 := hb'.size; have h2 : wr.drew.heap.size = wr.heap.size := rfl; simp only [World.size_alloc]; omega) (w'.heap.size + 1) (by simp) ?_; intro gg cap w5 hown1 hgrow hat hlt; obtain ⟨⟨p1', p2'⟩, _⟩ := HKS3.out w5 ((((zI hb').mono hMle).alloc (Nat.le_trans hMle hb'.size) _).grown hgrow (by have h1 := hb'.size; have h2 : wr.drew.heap.size = wr.heap.size := rfl; simp only [World.size_alloc]; omega) (fun g hg => (HOI.out.lt g hg).1)))
         refine hK _ _ (.inr ?kas13) ?_
         case kas13 => exact HKS3.out w5 ((((zI hb').mono hMle).alloc (Nat.le_trans hMle hb'.size) _).grown hgrow (by have h1 := hb'.size; have h2 : wr.drew.heap.size = wr.heap.size := rfl; simp only [World.size_alloc]; omega) (fun g hg => (HOI.out.lt g hg).1))
         clear hcl hK K'; intro hcl; (try simp only [Act.put, zq0, zq1, zq2]); refine gT (i := 14) hcl (by kernel_rfl) rfl (fun K' hK => ?_); go_simp; refine hK _ _ (.inr ?kas14) ?_
         case kas14 => exact HKS3.out w5 ((((zI hb').mono hMle).alloc (Nat.le_trans hMle hb'.size) _).grown hgrow (by have h1 := hb'.size; have h2 : wr.drew.heap.size = wr.heap.size := rfl; simp only [World.size_alloc]; omega) (fun g hg => (HOI.out.lt g hg).1))
         clear hcl hK K'; intro hcl; (try simp only [Act.put, zq0, zq1, zq2]); refine gT (i := 15) hcl (by kernel_rfl) rfl (fun K' hK => ?_); go_simp; refine hK _ _ (.inl rfl) ?_; clear hcl hK K'; intro hcl; (try simp only [Act.put, zq0, zq1, zq2]); refine wpAnyK_done (by kernel_rfl) ?_ _
         all_goals
          have HW5 := zh ((((zI hb').mono hMle).alloc (Nat.le_trans hMle hb'.size) _).grown hgrow (by have h1 := hb'.size; have h2 : wr.drew.heap.size = wr.heap.size := rfl; simp only [World.size_alloc]; omega) (fun g hg => (HOI.out.lt g hg).1)); have HO1 := zh hown1; clear hown1 hgrow hat hb'; go_wp2_with fail; go_roundg (6 - (j + 1))
          case measure => omega
          case rel =>
           have hD5 := (HW5.out.block wo.heap.size (by omega)).trans HDD.out; refine ⟨j + 1, _, by omega, by omega, rfl, by go_num, zA hD5, ?_, (HBI.out.trans (HW5.out.mono (by omega))).setCell (Nat.le_refl _) _⟩; rw [flat_snoc symC dsy j _ HP3.out jN]; exact zR HO1.out hD5 (by decide) _
        ·have htk : dsy.take j = dsy.take 6 := by
          rcases (by omega : j = sn ∨ j = 6) with h | h
          ·rw [List.take_of_length_le (by have := HSN.out; omega), List.take_of_length_le (by have := HSN.out; omega)]
          ·rw [h]
         have hlen : ((dsy.take 6).map jN).length = j := by rw [← htk, List.length_map, List.length_take]; have := HSN.out; omega
         have HTK := zh htk; have HLEN := zh hlen; clear htk hlen; by_cases hjs : j < sn
         ·have hjN : decide ((j : Int) < 6) = false := by rw [decide_eq_false_iff_not]; omega
          have HJN := zh hjn; clear hjn; go_wp2_with fail; go_meet; exact ⟨.slice ua j uc, HDD.out, by rw [HLEN.out, ← HTK.out]; exact HOI.out, HBI.out⟩
         ·have hjs' : decide (j < sn) = false := by rw [decide_eq_false_iff_not]; exact hjs
          have HJN := zh hjn; clear hjn hjs; go_wp2_with fail; go_meet; exact ⟨.slice ua j uc, HDD.out, by rw [HLEN.out, ← HTK.out]; exact HOI.out, HBI.out⟩
      case rest =>
       clear b1 b2 s1 hl1 hl2; obtain ⟨u, hD, ho, hbel⟩ := hcut; generalize hJ : ((dsy.take 6).map jN).length = j at *
       have HJ := zh hJ; clear hJ; obtain ⟨ua, uc, rfl⟩ := zJ ho; have HDD := zh hD; have HOI := zh ho; have HBI := zh hbel; have e0 := zc 0 hD; have e1 := zc 1 hD; have e2 := zc 2 hD; have e3 := zc 3 hD; have hlm := zC hD; have hszj : wo.heap.size ≤ wc.heap.size := hbel.size; have hSr := (hbel.block (W.heap.size + 2) (by omega)).trans HS.out; have s1 := zc 1 hSr; have g1 := zf 1 hSr; have hls := zC hSr; have HSr := zh hSr; have hkl : ((ds.take ko).map (jF yA)).length = ko := by rw [List.length_map, List.length_take]; have := HM.out; omega
       obtain ⟨f, hf1, hf2⟩ := zBL (T := fun _ => True) HO.out (KpT.below HBI.out) trivial trivial; rw [hkl] at hf1; obtain ⟨pa, pc, rfl⟩ := zJ hf1; generalize hL : (ds.take ko).map (jF yA) = L at *
       have HL := zh hL; have HNWB := zh (HB.out.trans (hbel.mono (by omega))); have hko1 : (ko : Int) < (m : Int) := by omega
       clear hL hD ho hbel hSr; go_upto_region 10 with (fail)
       go_wp2_with (at_builtin; refine wpList_append_lies _ rfl _ _ _ rfl (W.heap.size + 3) 57 id0 _ 4 56 Tryz.underlying22 hid0 hdz0 hdz1 hdz2 rfl (by decide) _ _ _ rfl (hf1.alloc _) ⟨wc.heap.size, 0, none⟩ 1 1 (xP (.slice ua j uc) (jF yA ⟨dk, dt, dsy, dp⟩)) rfl rfl ?c1A ?c2A (by decide) ?c3A ?c4A ?c5A _ rfl ?_)
       case c1A => exact World.news_of_block (cs := (xP (.slice ua j uc) (jF yA ⟨dk, dt, dsy, dp⟩)).toArray) (t := 57) (fr := (0, 0)) (heap_alloc_new wc _)
       case c2A => simp [Value.oneCell', xP]
       case c3A => unfold maxLen; omega
       case c4A => omega
       case c5A => simp only [World.size_alloc]; omega
       intro gg cap w5 hown1 hgrow hat hlt; have HBG := zh (((Below.refl (W.heap.size + 3) wc).alloc (by omega) _).grown hgrow (by simp only [World.size_alloc]; omega) (fun g hg => (hf1.lt g hg).1)); have hS5 := (HBG.out.block (W.heap.size + 2) (by omega)).trans HSr.out; have v1 := zc 1 hS5; have v2 := zf 1 hS5; have v3 := zC hS5; have HS5 := zh hS5; have HKP := zh ((KpT.below ((Below.refl _ wc).alloc (Nat.le_refl _) _)).trans ((KpT.grown (hf1.alloc _) hgrow)) : KpT (· ≠ 57) wc w5); have HO5 := zh hown1; clear hown1 hgrow hat hS5; go_wp2_with fail; go_roundg (8 - (ko + 1))
       case measure => omega
       case rel =>
        have hlen2 : (ds.take (ko + 1)).map (jF yA) = L ++ [jF yA ⟨dk, dt, dsy, dp⟩] := by rw [List.take_add_one, HP.out, List.map_append, HL.out]; rfl
        refine ⟨ko + 1, _, by omega, by omega, rfl, by go_num, zA HS5.out, ?_, (HNWB.out.trans (HBG.out.mono (by omega))).setCell (p := ⟨W.heap.size + 2, 1, none⟩) (Nat.le_refl _) _⟩; rw [hlen2]; have hkp2 : KpT (fun t => t ≠ 57 ∧ t ≠ 25) wc (w5.setCell ⟨W.heap.size + 2, 1, none⟩ (.slice (some ⟨gg, 0, none⟩) (ko + 1) cap)) := (HKP.out.mono (fun t h => h.1)).setCell HS5.out (by simp) _; refine OwnR.snoc (u := .slice ua j uc) hf2 ?_ (symsOwn_kp hkp2 (by decide)) ⟨wo.heap.size + 1, ?_⟩
        ·rw [hkl]
         exact zR HO5.out HS5.out (by decide) _
        ·have h := zD HOI.out hkp2 (by decide)
         have e : (jF yA ⟨dk, dt, dsy, dp⟩).syms = (dsy.take 6).map jN := rfl; rw [e, HJ.out]; exact h
    ·have htk : (ds.take k).map (jF yA) = DL := by
      rw [← HDL.out]; rcases (by omega : k = m ∨ k = 8) with h | h
      ·rw [List.take_of_length_le (by have := HM.out; omega), List.take_of_length_le (by have := HM.out; omega)]
      ·rw [h]
     have HTK := zh htk; clear htk; by_cases hkm : k < m
     ·have hkN : decide ((k : Int) < 8) = false := by rw [decide_eq_false_iff_not]; omega
      have HKN := zh hkn; clear hkn; go_wp2_with fail; go_meet; exact ⟨pv, HS.out, by rw [← HTK.out]; exact HO.out, HB.out⟩
     ·have hkm' : decide (k < m) = false := by rw [decide_eq_false_iff_not]; exact hkm
      have HKN := zh hkn; clear hkn hkm; go_wp2_with fail; go_meet; exact ⟨pv, HS.out, by rw [← HTK.out]; exact HO.out, HB.out⟩
  case rest =>
   obtain ⟨pv, hS, hown, hbel⟩ := hcut; have HS := zh hS; have HO := zh hown; have HB := zh hbel; clear hS hown hbel HS0 HB0; go_upto_block 4 with fail
   refine cut0_rules W _ m n cd cr ad ar pv fr DL rs pr tl _ _ HR1.out HR2.out HB5.out HN.out (by omega) HS.out HO.out HB.out (fun _ _ _ _ h => h) ?_; intro y7 y8 y9 X6 Xh Xs y87 y88 y89 y90 y91 y92 y93 y94 y95 y96 y97 y98 y99 X7 X8 X9 Xa Xb Xc Xd Xe Xf Xg Xi Xj Xk Xl Xm Xn Xo Xp Xq Xr Xt Xu Xv Xw Xx Xy Xz Y0 Y1 Y2 Y4 Y5 Y6 Y7 Y8 Y9 Ya Yb Yc Yd Yf Yg Yh Yi Yj Yk Yl Ym Yn Yo Yq Yr Ys Yt Yu Yv Yw Yx Yy Yz Z1 Z2 Z3 Z4 Z5 Z6 Z7 Z8 Z9 Za Zc Zd Ze Zf Zg Zh Zi Zj Zk Zl Zn Zo Zp Zq Zr Zs Zt Zu Zv Zw Zy Zz y192 y193 y194 y195 y196 y197 y198 y199 y200 y201 y202 y203 y204 y205 y206 wc qv hS hdo hown hbel; generalize hRL : (rs.take 6).map (qN yA) = RL at *
   have HRL := zh hRL; clear hRL; obtain ⟨fp, hp1, _⟩ := decls_at hdo; obtain ⟨ap, cp, rfl⟩ := hp1.form; obtain ⟨fq, hq1, _⟩ := rules_at hown; obtain ⟨aq, cq, rfl⟩ := hq1.form; clear hp1 hq1; have HSn := zh hS; have HDO := zh hdo; have HRO := zh hown; have HBn := zh hbel; have s0 := zc 0 hS; have s1 := zc 1 hS; have s2 := zc 2 hS; have s3 := zc 3 hS; obtain ⟨hF1, hF2⟩ := qX hbel; have r0 := zc 0 hF2; have r1 := zc 1 hF2; have r2 := zc 2 hF2; have r3 := zc 3 hF2; have z0 := zf 0 hF2; have z1 := zf 1 hF2; have z2 := zf 2 hF2; have z3 := zf 3 hF2; have hl1 := zC hF2; have hl2 := zC hS; have HF2 := zh hF2; clear hS hdo hown hbel HS HB HO hF1 hF2; go_wp2_with fail; refine jH (g := W.heap.size + 1) (cs := (srcC _ _ (xW yA ⟨pr, ds, rs, tl⟩)).toArray) (t := 25) (fr := (0, 0)) rfl rfl (zA (zA (zA (zA HF2.out)))) rfl Tryz.underlying25 (by kernel_rfl) rfl ?_; refine ⟨_, _, W.heap.size + 3, rfl, ?_, ?_, ?_⟩
   ·exact ((((j3 HBn.out).setCell (p := ⟨W.heap.size + 1, 0, none⟩) (by simp) _).setCell (p := ⟨W.heap.size + 1, 1, none⟩) (by simp) _).setCell (p := ⟨W.heap.size + 1, 2, none⟩) (by simp) _).setCell (p := ⟨W.heap.size + 1, 3, none⟩) (by simp) _
   ·refine zBL (B := W.heap.size + 3) (T := (· ≠ 25)) (w := wc) ?_ ?_ (by decide) (by decide)
    ·have e : (xW yA ⟨pr, ds, rs, tl⟩).decls = DL := HDL.out
     rw [e]; have h := HDO.out; rw [List.length_mapIdx] at h; exact h
    ·exact ((((KpT.below (Below.refl _ wc)).setCell HF2.out (by simp) _).setCell (zA HF2.out) (by simp) _).setCell (zA (zA HF2.out)) (by simp) _).setCell (zA (zA (zA HF2.out))) (by simp) _
   ·refine zCS (B := W.heap.size + 3) (T := (· ≠ 25)) (w := wc) ?_ ?_ (by decide) (by decide) (by decide)
    ·have e : (xW yA ⟨pr, ds, rs, tl⟩).rules = RL := HRL.out
     rw [e]; have h := HRO.out; rw [List.length_mapIdx] at h; exact h
    ·exact ((((KpT.below (Below.refl _ wc)).setCell HF2.out (by simp) _).setCell (zA HF2.out) (by simp) _).setCell (zA (zA HF2.out)) (by simp) _).setCell (zA (zA (zA HF2.out))) (by simp) _


theorem zCL.tail {w : World} {a : Option Addr} {n cap : Nat} {p : Sp.Prod} {ps : List Sp.Prod} (h : zCL w (.slice a n cap) (p :: ps)) (hne : ps ≠ []) : ∃ b off, a = some ⟨b, off, none⟩ ∧ b < w.heap.size ∧ n = ps.length + 1 ∧ zCL w (.slice (some ⟨b, off + 6, none⟩) ps.length (cap - 1)) ps := by
 obtain ⟨f, g, h1, h2⟩ := h; rcases h1 with ⟨hx, _⟩ | ⟨b, off, cap', hv, hlt, hc⟩
 ·simp at hx
 ·simp only [Value.slice.injEq, List.length_mapIdx, List.length_cons] at hv
  obtain ⟨rfl, rfl, rfl⟩ := hv; refine ⟨b, off, rfl, hlt, rfl, fun i => f (i + 1), fun i => g (i + 1), .inr ⟨b, off + 6, cap - 1, by rw [List.length_mapIdx], hlt, ?_⟩, fun i q hq => h2 (i + 1) q (by simpa using hq)⟩; intro i r hr j u hu
  have h := hc (i + 1) r (by
   rw [List.getElem?_mapIdx] at hr ⊢; rw [List.getElem?_cons_succ]
   exact hr) j u hu
  rw [show off + 6 + i * 6 + j = off + (i + 1) * 6 + j by omega]; exact h

namespace Sp
structure vO (s : Mk) (L : List UInt8) : Prop where
 toks : ∃ T, s.toks = mk0.toks ++ T ∧ (T.map fun t => (t.name, t.lit, t.num)) = L.map fun c => ([c], true, (c.toNat : Int))
 given : s.given = mk0.given ++ L.map fun _ => true
 nodup : L.Nodup
 sub : ∀ c ∈ L, c ∈ ([112, 113, 114, 115] : List UInt8)
theorem len_of_sub {α : Type} [DecidableEq α] : ∀ (L M : List α), L.Nodup → (∀ c ∈ L, c ∈ M) → L.length ≤ M.length
 | [], M, _, _ => by simp
 | x :: L, M, h, hs => by
  have hx := hs x (by simp); rw [List.nodup_cons] at h
  have ih := len_of_sub L (M.erase x) h.2 (fun c hc => by
   have hne : c ≠ x := by rintro rfl; exact h.1 hc
   exact (List.mem_erase_of_ne hne).2 (hs c (by simp [hc])))
  rw [List.length_erase_of_mem hx] at ih; have := List.length_pos_of_mem hx; rw [List.length_cons]; omega
theorem vO.len {s : Mk} {L : List UInt8} (h : vO s L) : s.toks.length ≤ 7 := by
 obtain ⟨T, h1, h2⟩ := h.toks; have h3 := congrArg List.length h2; rw [List.length_map, List.length_map] at h3; have h4 := len_of_sub L _ h.nodup h.sub; rw [h1, List.length_append, h3]; have : mk0.toks.length = 3 := rfl; simp only [List.length_cons, List.length_nil] at h4; omega
theorem lit_mem {T : List Tok} {L : List UInt8} (h : (T.map fun t => (t.name, t.lit, t.num)) = L.map fun c => ([c], true, (c.toNat : Int))) (t : Tok) (ht : t ∈ T) : ∃ c ∈ L, t.name = [c] ∧ t.lit = true ∧ t.num = c.toNat := by
 have h1 : (t.name, t.lit, t.num) ∈ L.map fun c => (([c] : List UInt8), true, (c.toNat : Int)) := by rw [← h]; exact List.mem_map.2 ⟨t, ht, rfl⟩
 obtain ⟨c, hc, he⟩ := List.mem_map.1 h1; simp only [_root_.Prod.mk.injEq] at he; exact ⟨c, hc, he.1.symm, he.2.1.symm, he.2.2.symm⟩
theorem vO.fresh {s : Mk} {L : List UInt8} (h : vO s L) {c : UInt8} (hc : c ∉ L) : yD s.toks [c] true = none := by
 obtain ⟨T, h1, h2⟩ := h.toks; unfold yD; rw [if_neg (by rintro ⟨_, h⟩; cases h), zDF, h1]; intro t ht; have ht' : t ∈ T := ht; obtain ⟨d, hd, hn, _, _⟩ := lit_mem h2 t ht'; rw [Bool.and_eq_false_iff]; left
 rw [beq_eq_false_iff_ne, hn]; intro e; simp only [List.cons.injEq, and_true] at e; subst e; exact hc hd
theorem vO.there {s : Mk} {L : List UInt8} (h : vO s L) {c : UInt8} (hc : c ∈ L) : (yD s.toks [c] true).isSome = true := by
 obtain ⟨T, h1, h2⟩ := h.toks
 cases ht : yD s.toks [c] true with
 | some k => rfl
 | none =>
  exfalso
  unfold yD at ht; rw [if_neg (by rintro ⟨_, h⟩; cases h), zDF, h1] at ht; have h3 : (([c] : List UInt8), true, (c.toNat : Int)) ∈ T.map fun t => (t.name, t.lit, t.num) := by rw [h2]; exact List.mem_map.2 ⟨c, hc, rfl⟩
  obtain ⟨t, ht1, ht2⟩ := List.mem_map.1 h3; have := ht t ht1; simp only [_root_.Prod.mk.injEq] at ht2; rw [ht2.1, ht2.2.1] at this; simp at this
theorem takenGo_lit (c : UInt8) : ∀ (T : List Tok) (L : List UInt8) (i : Nat), (T.map fun t => (t.name, t.lit, t.num)) = (L.map fun c => (([c] : List UInt8), true, (c.toNat : Int))) → vU (c.toNat : Int) (-1) i T (L.map fun _ => true) = decide (c ∈ L)
 | [], [], i, _ => rfl
 | [], _ :: _, _, h => by simp at h
 | _ :: _, [], _, h => by simp at h
 | t :: T, d :: L, i, h => by
  simp only [List.map_cons, List.cons.injEq, _root_.Prod.mk.injEq] at h; simp only [List.map_cons]; unfold vU; rw [takenGo_lit c T L (i + 1) h.2, h.1.2.2]; have h1 : decide ((i : Int) ≠ -1) = true := decide_eq_true (by omega); rw [h1]
  have h2 : ((d.toNat : Int) == (c.toNat : Int)) = decide (c = d) := by
   rw [Bool.eq_iff_iff]; simp only [beq_iff_eq, decide_eq_true_eq, Int.natCast_inj]; constructor
   ·intro e; exact (UInt8.toNat_inj.1 e).symm
   ·rintro rfl; rfl
  rw [h2]; by_cases hcd : c = d <;> simp [hcd]
theorem vO.clash {s : Mk} {L : List UInt8} (h : vO s L) (c : UInt8) (a b : Int) : clash s ⟨[c], true, a, b⟩ = false := by
 unfold Sp.clash; simp only; by_cases hc : c ∈ L
 ·have := h.there hc
  cases ht : yD s.toks [c] true with
  | none => rw [ht] at this; cases this
  | some k => simp
 ·rw [h.fresh hc]
  obtain ⟨T, h1, h2⟩ := h.toks
  have e : taken s (byte0 [c]) (-1) = decide (c ∈ L) := by
   unfold taken byte0; have e1 : s.toks.drop 3 = T := by rw [h1]; rfl
   have e2 : s.given.drop 3 = L.map fun _ => true := by rw [h.given]; rfl
   rw [e1, e2]; exact takenGo_lit c T L 3 h2
  rw [e]; simp [hc]
def pqrs : List UInt8 := [112, 113, 114, 115]
theorem vO.add {s : Mk} {L : List UInt8} (h : vO s L) {c : UInt8} (hc : c ∈ pqrs) (a b : Int) : ∃ L', vO (addTok s ⟨[c], true, a, b⟩).1 L' := by
 by_cases hm : c ∈ L
 ·have := h.there hm
  cases ht : yD s.toks [c] true with
  | none => rw [ht] at this; cases this
  | some k =>
   unfold addTok; simp only [ht]; exact ⟨L, h⟩
 ·obtain ⟨T, h1, h2⟩ := h.toks
  unfold addTok; simp only [h.fresh hm]; refine ⟨L ++ [c], ⟨T ++ [⟨[c], true, byte0 [c], 0, 0, []⟩], ?_, ?_⟩, ?_, ?_, ?_⟩
  ·simp only [if_true]
   rw [h1, List.append_assoc]
  ·rw [List.map_append, List.map_append, h2]
   rfl
  ·simp only
   rw [h.given, List.map_append, List.append_assoc]; rfl
  ·rw [List.nodup_append]
   exact ⟨h.nodup, by simp, fun x hx y hy => by rw [List.mem_singleton] at hy; subst hy; rintro rfl; exact hm hx⟩
  ·intro d hd
   rcases List.mem_append.1 hd with hd | hd
   ·exact h.sub d hd
   ·rw [List.mem_singleton] at hd; subst hd; exact hc
theorem vO.used {s : Mk} {L : List UInt8} (h : vO s L) {c : UInt8} (hc : c ∈ pqrs) (a b : Int) : ∃ s' L', used s ⟨[c], true, a, b⟩ false = .ok s' ∧ vO s' L' ∧ s'.lefts = s.lefts := by
 obtain ⟨L', h'⟩ := h.add hc a b; refine ⟨_, L', ?_, h', (zCJ s _).2.1⟩; unfold Sp.used; rw [if_pos rfl, h.clash]; simp
theorem vO.step {s : Mk} {L : List UInt8} (h : vO s L) {c : UInt8} (hc : c ∈ pqrs) (hn : c ∉ L) (d : Decl) (ht : d.tag = []) (level : Int) : ∃ s', kJ s d ⟨[c], true, 0, 0⟩ level = some s' ∧ vO s' (L ++ [c]) := by
 have hf := h.fresh hn
 have hbad : tokBad s d ⟨[c], true, 0, 0⟩ = false := by
  unfold tokBad; simp only [hf, h.clash]; simp [ht, gF]
 obtain ⟨T, h1, h2⟩ := h.toks; have hl3 : mk0.toks.length = 3 := rfl
 have key : ∀ t : Tok, t.name = [c] → t.lit = true → t.num = (c.toNat : Int) → vO { s with toks := s.toks ++ [t], given := s.given ++ [true] } (L ++ [c]) := by
  intro t t1 t2 t3; refine ⟨⟨T ++ [t], ?_, ?_⟩, ?_, ?_, ?_⟩
  ·simp only
   rw [h1, List.append_assoc]
  ·rw [List.map_append, List.map_append, h2]
   simp [t1, t2, t3]
  ·simp only
   rw [h.given, List.map_append, List.append_assoc]; rfl
  ·rw [List.nodup_append]
   exact ⟨h.nodup, by simp, fun x hx y hy => by rw [List.mem_singleton] at hy; subst hy; rintro rfl; exact hn hx⟩
  ·intro e he
   rcases List.mem_append.1 he with he | he
   ·exact h.sub e he
   ·rw [List.mem_singleton] at he; subst he; exact hc
 unfold kJ; rw [hbad]; unfold addTok; simp only [hf, ht]; simp only [Bool.false_eq_true, if_false, if_true, Int.lt_irrefl, ne_eq, not_true_eq_false]; by_cases hk : d.kind = 1
 ·simp only [hk, not_true_eq_false, if_false]
  exact ⟨_, rfl, key _ rfl rfl rfl⟩
 ·simp only [hk, not_false_eq_true, if_true]
  refine ⟨_, rfl, ?_⟩; unfold jJ; simp only
  have e1 : (s.toks ++ [(⟨[c], true, byte0 [c], 0, 0, []⟩ : Tok)]).getD s.toks.length gF = ⟨[c], true, byte0 [c], 0, 0, []⟩ := by
   rw [List.getD_eq_getElem?_getD, List.getElem?_append_right (Nat.le_refl _)]; simp
  rw [e1]
  have e2 : ∀ t u : Tok, (s.toks ++ [t]).set s.toks.length u = s.toks ++ [u] := by
   intro t u; rw [List.set_append, if_neg (by omega), Nat.sub_self]; rfl
  rw [e2]; exact key _ rfl rfl rfl
def GoodP (lefts : List (List UInt8)) (p : Part) : Prop := p.code ≠ [] ∨ (∃ c ∈ pqrs, p.sym = ⟨[c], true, 0, 0⟩) ∨ (p.sym.lit = false ∧ (p.sym.name = jE ∨ p.sym.name ∈ lefts))
def GoodA (lefts : List (List UInt8)) (a : Alt) : Prop := a.prec = xC ∧ ∀ p ∈ a.parts, GoodP lefts p
structure CntK (s s' : Mk) (n m : Nat) : Prop where
 nons : s'.nons.length ≤ s.nons.length + n
 prods : s'.prods.length ≤ s.prods.length + n + m
 rights : (∀ p ∈ s.prods, p.right.length ≤ 6) → ∀ p ∈ s'.prods, p.right.length ≤ 6
theorem CntK.trans {s s1 s2 : Mk} {n m n' m' : Nat} (h : CntK s s1 n m) (k : CntK s1 s2 n' m') : CntK s s2 (n + n') (m + m') :=
 ⟨by have := h.nons; have := k.nons; omega, by have := h.prods; have := k.prods; omega, fun h0 => k.rights (h.rights h0)⟩
end Sp
end Go.Proofs.YtddnomjfcbplpaaGreatDoor
