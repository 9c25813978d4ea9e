import Derived.Test.YtddnomjfcbplpaaGreatDoorZ40
import Derived.Test.YtddnomjfcbplpaaGreatDoorZ39
import Derived.Test.YtddnomjfcbplpaaGreatDoorZ35
import Derived.Test.YtddnomjfcbplpaaGreatDoorZ23
namespace Go.Proofs.YtddnomjfcbplpaaGreatDoor
open Go.RowKit

set_option maxRecDepth 100000 in
set_option maxHeartbeats 25600000 in
theorem cut0_walk (x : Sp.Source) (vd vr : Value) (W : World) (hd : DeclsAt W vd x.decls) (hr : RulesAt W vr x.rules) (hs : bigSrc x) :
  Calls Tryz.prog 7 #[.agg (srcC vd vr x).toArray] W (Cut8Post cut0N x W) := by
 obtain ⟨hb1, hb2, hb3, hb4, hb5, hb6⟩ := hs
 obtain ⟨pr, ds, rs, tl⟩ := x
 simp only at hb1 hb2 hb3 hb4 hb5 hb6 hd hr
 obtain ⟨fd, hd1, hd2⟩ := hd
 obtain ⟨fr, hr1, hr2⟩ := hr
 obtain ⟨ad, cd, rfl⟩ := hd1.form
 obtain ⟨ar, cr, rfl⟩ := hr1.form
 have HD1 := zh hd1; have HD2 := zh hd2; have HR1 := zh hr1; have HR2 := zh hr2
 rw [List.length_mapIdx] at *
 rw [List.length_mapIdx] at *
 generalize hm : ds.length = m at *
 generalize hn : rs.length = n at *
 have HM := zh hm; have HN := zh hn
 have HB3 := zh hb3; have HB5 := zh hb5
 unfold maxLen at hb1 hb2 hb4 hb6
 obtain ⟨is0, his0, hsz0, hsz1, hsz2⟩ := info_parts info_symE
 obtain ⟨id0, hid0, hdz0, hdz1, hdz2⟩ := info_parts info_declE
 obtain ⟨ip0, hip0, hpz0, hpz1, hpz2⟩ := info_parts info_partE
 obtain ⟨ia0, hia0, haz0, haz1, haz2⟩ := info_parts info_altE
 obtain ⟨ir0, hir0, hrz0, hrz1, hrz2⟩ := info_parts info_ruleE
 have HZ := zh (show True ∧ True from ⟨trivial, trivial⟩)
 clear hd1 hd2 hr1 hr2 hm hn hb3 hb5 HZ
 show Calls _ _ #[.agg #[.string ⟨pr.toArray⟩, .slice ad m cd, .slice ar n cr, .string ⟨tl.toArray⟩]] _ _
 go_enter Tryz.func7, Tryz.ntmps7
 go_upto_region 1 with fail
 go_cut [3] (fun s3 wx => s3 = .pointer (some ⟨W.heap.size + 2, 0, none⟩) ∧ wx.heap[W.heap.size + 2]? = some (.cells #[.string ⟨(pr.take 40).toArray⟩, .slice none 0 0, .slice none 0 0, .string ⟨(tl.take 40).toArray⟩] 25 (0, 0)) ∧ Below (W.heap.size + 2) ((W.alloc (.cells #[.string ⟨pr.toArray⟩, .slice ad m cd, .slice ar n cr, .string ⟨tl.toArray⟩] 25)).alloc (.cells #[.string ⟨#[]⟩, .slice none 0 0, .slice none 0 0, .string ⟨#[]⟩] 25)) wx)
 case first =>
  have HKS := zh (fun w' (h : Below (W.heap.size + 2) ((W.alloc (.cells #[.string ⟨pr.toArray⟩, .slice ad m cd, .slice ar n cr, .string ⟨tl.toArray⟩] 25)).alloc (.cells #[.string ⟨#[]⟩, .slice none 0 0, .slice none 0 0, .string ⟨#[]⟩] 25)) w') => (show w'.cell? ⟨W.heap.size, 0, none⟩ = some (.string ⟨pr.toArray⟩) ∧ w'.cell? ⟨W.heap.size, 3, none⟩ = some (.string ⟨tl.toArray⟩) from ⟨cell_at (i := 0) (two_first2 h).1, cell_at (i := 3) (two_first2 h).1⟩))
  go_region_held3 (fun w' => w'.cell? ⟨W.heap.size, 0, none⟩ = some (.string ⟨pr.toArray⟩) ∧ w'.cell? ⟨W.heap.size, 3, none⟩ = some (.string ⟨tl.toArray⟩))
   (first
    | exact HKS.out _ (Below.refl _ _)
    | exact HKS.out _ (below_drewN (Below.refl _ _) 1)
    | exact HKS.out _ (below_drewN ((Below.refl _ _).alloc (by simp) _) 1)
    | go_keep)
   ((first
    | (go_at_call 19; refine (text_cut _ 40 _).mono ?_; rintro e w' ⟨rfl, rfl⟩)))
  all_goals
   go_wp2_with fail
   go_meet
   exact ⟨rfl, by have h := heap_last ((W.alloc (.cells #[.string ⟨pr.toArray⟩, .slice ad m cd, .slice ar n cr, .string ⟨tl.toArray⟩] 25)).alloc (.cells #[.string ⟨#[]⟩, .slice none 0 0, .slice none 0 0, .string ⟨#[]⟩] 25)) (.cells #[.string ⟨(pr.take 40).toArray⟩, .slice none 0 0, .slice none 0 0, .string ⟨(tl.take 40).toArray⟩] 25); simp only [World.size_alloc] at h; exact h, below_drewN ((Below.refl _ _).alloc (by simp) _) 1⟩
 case rest =>
  obtain ⟨rfl, hS0, hbel0⟩ := hcut
  have HS0 := zh hS0; have HB0 := zh hbel0
  clear hS0 hbel0
  go_upto_block 0 with fail
  generalize hDL : (ds.take 8).map (cutDecl cut0N) = DL
  have HDL := zh hDL
  clear hDL
  go_cut [] (fun wx => ∃ pv : Value, wx.heap[W.heap.size + 2]? = some (.cells #[.string ⟨(pr.take 40).toArray⟩, pv, .slice none 0 0, .string ⟨(tl.take 40).toArray⟩] 25 (0, 0)) ∧ DeclsOwn (W.heap.size + 3) wx pv DL ∧ Below (W.heap.size + 2) ((W.alloc (.cells #[.string ⟨pr.toArray⟩, .slice ad m cd, .slice ar n cr, .string ⟨tl.toArray⟩] 25)).alloc (.cells #[.string ⟨#[]⟩, .slice none 0 0, .slice none 0 0, .string ⟨#[]⟩] 25)) wx)
  case first =>
   go_wp2_with fail
   go_loopg [4] 8 (fun g iv wr => ∃ (k : Nat) (pv : Value), k ≤ m ∧ k ≤ 8 ∧ g = 8 - k ∧ iv = .int .i64 k ∧ wr.heap[W.heap.size + 2]? = some (.cells #[.string ⟨(pr.take 40).toArray⟩, pv, .slice none 0 0, .string ⟨(tl.take 40).toArray⟩] 25 (0, 0)) ∧ DeclsOwn (W.heap.size + 3) wr pv ((ds.take k).map (cutDecl cut0N)) ∧ Below (W.heap.size + 2) ((W.alloc (.cells #[.string ⟨pr.toArray⟩, .slice ad m cd, .slice ar n cr, .string ⟨tl.toArray⟩] 25)).alloc (.cells #[.string ⟨#[]⟩, .slice none 0 0, .slice none 0 0, .string ⟨#[]⟩] 25)) wr)
   case atStart => exact ⟨0, .slice none 0 0, Nat.zero_le _, Nat.zero_le _, rfl, rfl, HS0.out, OwnR.nil _ _ _ _ _ _, HB0.out⟩
   case round =>
    clear HS0 HB0
    obtain ⟨k, pv, hk, hkx, rfl, rfl, hS, hown, hbel⟩ := hrel
    have HS := zh hS; have HO := zh hown; have HB := zh hbel
    obtain ⟨hF1, hF2⟩ := two_first2 hbel
    have b1 := cell_at (i := 1) hF1; have b2 := cell_at (i := 2) hF1
    have s1 := cell_at (i := 1) hS
    have hl1 := lt_at hF1; have hl2 := lt_at hS
    have hk0 : (0 : Int) ≤ (k : Int) := Int.natCast_nonneg _
    have hsz : W.heap.size + 3 ≤ wr.heap.size := by omega
    clear hS hown hbel hF1 hF2
    by_cases hkn : k < m ∧ k < 8
    ·obtain ⟨hkm, hkN⟩ := hkn
     have hkl : k < ds.length := by have := HM.out; omega
     have hp : ds[k]? = some ds[k] := List.getElem?_eq_getElem hkl
     obtain ⟨hq1, hq2, hq3, hq4, hq5⟩ := HB3.out ds[k] (List.getElem_mem hkl)
     generalize ds[k] = d at *
     obtain ⟨b, off, rfl, hbl, hc⟩ := HD1.out.at (k := k) (idx_row hp)
     have hin := HD2.out k d hp
     obtain ⟨sv, sc, hsv⟩ := hin.form
     rw [List.length_map] at hsv
     rw [hsv] at hin hc
     have HP := zh hp
     obtain ⟨dk, dt, dsy, dp⟩ := d
     simp only at hin hc hq3
     generalize hsn : dsy.length = sn at *
     have HSN := zh hsn; have HIN := zh hin
     unfold maxLen at hq3
     have hks : ∀ w', Below (W.heap.size + 2) ((W.alloc (.cells #[.string ⟨pr.toArray⟩, .slice (some ⟨b, off, none⟩) m cd, .slice ar n cr, .string ⟨tl.toArray⟩] 25)).alloc (.cells #[.string ⟨#[]⟩, .slice none 0 0, .slice none 0 0, .string ⟨#[]⟩] 25)) w' → w'.cell? ⟨W.heap.size, 1, none⟩ = some (.slice (some ⟨b, off, none⟩) m cd) ∧ w'.cell? ⟨b, off + k * 4, none⟩ = some (.int .i64 dk) ∧ w'.cell? ⟨b, off + k * 4 + 1, none⟩ = some (.string ⟨dt.toArray⟩) ∧ w'.cell? ⟨b, off + k * 4 + 2, none⟩ = some (.slice sv sn sc) ∧ w'.cell? ⟨b, off + k * 4 + 3, none⟩ = some (.int .i64 dp) := fun w' h => by
      have hcc := hc _ (below_two2 h)
      exact ⟨cell_at (i := 1) (two_first2 h).1, hcc 0 _ rfl, hcc 1 _ rfl, hcc 2 _ rfl, hcc 3 _ rfl⟩
     have HKS := zh hks
     have hk1 : (k : Int) < (m : Int) := by omega
     have hlb : b < wr.heap.size := by omega
     clear hc hp hin hsv hsn hks hkl hq1 hq2 hq4 hq5
     go_upto_region 5 with fail
     go_cut [5] (fun s5 wx => s5 = .pointer (some ⟨wr.heap.size, 0, none⟩) ∧ wx = (wr.alloc (.cells #[.int .i64 dk, .string ⟨(dt.take 25).toArray⟩, .slice none 0 0, .int .i64 dp] 57)).drew)
     case first =>
      go_region_held3 (fun w' => w'.cell? ⟨W.heap.size, 1, none⟩ = some (.slice (some ⟨b, off, none⟩) m cd) ∧ w'.cell? ⟨b, off + k * 4, none⟩ = some (.int .i64 dk) ∧ w'.cell? ⟨b, off + k * 4 + 1, none⟩ = some (.string ⟨dt.toArray⟩) ∧ w'.cell? ⟨b, off + k * 4 + 2, none⟩ = some (.slice sv sn sc) ∧ w'.cell? ⟨b, off + k * 4 + 3, none⟩ = some (.int .i64 dp))
       (first
        | exact HKS.out _ HB.out
        | exact HKS.out _ (below_drewN HB.out 1)
        | exact HKS.out _ (below_drewN (HB.out.alloc (by omega) _) 1)
        | go_keep)
       ((first
        | (go_at_call 19; refine (text_cut _ 25 _).mono ?_; rintro e w' ⟨rfl, rfl⟩)))
      all_goals
       go_wp2_with fail
       go_meet
       exact ⟨rfl, rfl⟩
     case rest =>
      obtain ⟨rfl, rfl⟩ := hcut
      obtain ⟨wo, hwo⟩ : ∃ wo : World, wo = wr := ⟨_, rfl⟩
      subst hwo
      obtain ⟨ko, hko⟩ : ∃ ko : Nat, ko = k := ⟨_, rfl⟩
      subst hko
      have hnsl : ((dsy.take 6).map cutSym).length ≤ 6 := by rw [List.length_map, List.length_take]; omega
      go_upto_block 2 with fail
      go_cut [] (fun wx => ∃ u : Value, wx.heap[wo.heap.size]? = some (.cells #[.int .i64 dk, .string ⟨(dt.take 25).toArray⟩, u, .int .i64 dp] 57 (0, 0)) ∧ wx.ownsRow (wo.heap.size + 1) 45 4 u ((dsy.take 6).map cutSym).length (((dsy.take 6).map cutSym).map symC).flatten ∧ Below wo.heap.size wo wx)
      case first =>
       go_wp2_with fail
       go_loopg [6] 6 (fun g iv wr => ∃ (j : Nat) (u : Value), j ≤ sn ∧ j ≤ 6 ∧ g = 6 - j ∧ iv = .int .i64 j ∧ wr.heap[wo.heap.size]? = some (.cells #[.int .i64 dk, .string ⟨(dt.take 25).toArray⟩, u, .int .i64 dp] 57 (0, 0)) ∧ wr.ownsRow (wo.heap.size + 1) 45 4 u j (((dsy.take j).map cutSym).map symC).flatten ∧ Below wo.heap.size wo wr)
       case atStart => exact ⟨0, .slice none 0 0, Nat.zero_le _, Nat.zero_le _, rfl, rfl, heap_last _ _, World.ownsRow_nil _ _ _ _, below_drewN ((Below.refl _ _).alloc (Nat.le_refl _) _) 1⟩
       case round =>
        clear b1 b2 s1 hl1 hl2
        obtain ⟨j, u, hj, hjx, rfl, rfl, hD, ho, hbel⟩ := hrel
        obtain ⟨ua, uc, rfl⟩ := ownsRowS_some ho
        have HNW := zh (fun (w2 : World) (h : Below wo.heap.size wo w2) => HB.out.trans (h.mono (by omega)))
        have HDD := zh hD; have HOI := zh ho; have HBI := zh hbel
        obtain ⟨b1, a0, a1, a2, a3⟩ := HKS.out _ (HNW.out _ hbel)
        have e0 := cell_at (i := 0) hD; have e1 := cell_at (i := 1) hD; have e2 := cell_at (i := 2) hD; have e3 := cell_at (i := 3) hD
        have g2 := frozen_at (i := 2) hD
        have hlm := lt_at hD
        have hszj : wo.heap.size ≤ wr.heap.size := hbel.size
        have hl1 : W.heap.size < wr.heap.size := by omega
        have hlb1 : b < wr.heap.size := by omega
        have hj0 : (0 : Int) ≤ (j : Int) := Int.natCast_nonneg _
        have hko1 : (ko : Int) < (m : Int) := by omega
        have hbS := hbel.block (W.heap.size + 2) (by omega)
        have hSr := hbS.trans HS.out
        have s1 := cell_at (i := 1) hSr
        have g1 := frozen_at (i := 1) hSr
        have hls := lt_at hSr
        have HSr := zh hSr
        clear hD ho hbel hbS hSr
        by_cases hjn : j < sn ∧ j < 6
        ·obtain ⟨hjs, hjN⟩ := hjn
         have hjl : j < dsy.length := by have := HSN.out; omega
         have hp : dsy[j]? = some dsy[j] := List.getElem?_eq_getElem hjl
         generalize dsy[j] = s at *
         obtain ⟨b3, off3, rfl, hbl3, hc⟩ := HIN.out.at (k := j) (row := symC s) (by rw [List.getElem?_map, hp]; rfl)
         obtain ⟨xn, xl, xu, xa⟩ := s
         have HP3 := zh hp
         have HNX := zh (fun (w2 : World) (h : Below (wo.heap.size + 1) wr w2) => HNW.out w2 (HBI.out.trans (h.mono (by omega))))
         have hks3 : ∀ w', Below (wo.heap.size + 1) wr w' → (w'.cell? ⟨wo.heap.size, 2, none⟩ = some (.slice ua j uc) ∧ w'.frozen? ⟨wo.heap.size, 2, none⟩ = false) ∧ w'.cell? ⟨W.heap.size, 1, none⟩ = some (.slice (some ⟨b, off, none⟩) m cd) ∧ w'.cell? ⟨b, off + ko * 4 + 2, none⟩ = some (.slice (some ⟨b3, off3, none⟩) sn sc) ∧ w'.cell? ⟨b3, off3 + j * 4, none⟩ = some (.string ⟨xn.toArray⟩) ∧ w'.cell? ⟨b3, off3 + j * 4 + 1, none⟩ = some (.bool xl) ∧ w'.cell? ⟨b3, off3 + j * 4 + 2, none⟩ = some (.int .i64 xu) ∧ w'.cell? ⟨b3, off3 + j * 4 + 3, none⟩ = some (.int .i64 xa) := fun w' h => by
          have hD := (h.block wo.heap.size (by omega)).trans HDD.out
          obtain ⟨q1, _, _, q2, _⟩ := HKS.out _ (HNX.out _ h)
          have hcc := hc _ (below_two2 (HNX.out _ h))
          exact ⟨⟨cell_at (i := 2) hD, frozen_at (i := 2) hD⟩, q1, q2, hcc 0 _ rfl, hcc 1 _ rfl, hcc 2 _ rfl, hcc 3 _ rfl⟩
         have HKS3 := zh hks3
         have HOW := zh (fun (w2 : World) (h : Below wr.heap.size wr w2) => ownsRow_below HOI.out h)
         have HCS := zh (fun w => (show Calls Tryz.prog 20 #[.agg #[.string ⟨xn.toArray⟩, .bool xl, .int .i64 xu, .int .i64 xa]] w (fun e w' => e = .returned (.agg #[.string ⟨(xn.take 25).toArray⟩, .bool xl, .int .i64 xu, .int .i64 xa]) ∧ Below w.heap.size w w') from cut0_sym ⟨xn, xl, xu, xa⟩ w))
         have hj1 : (j : Int) < (sn : Int) := by omega
         have hlb3 : b3 < wr.heap.size := by omega
         have hMle : wo.heap.size + 1 ≤ wr.heap.size := by omega
         obtain ⟨_, _, _, y0, y1, y2, y3⟩ := HKS3.out _ (Below.refl _ _)
         clear hc hp hks3 hjl
         go_wp2_with fail
         refine wp_region_K 15 (fun w' : World => (w'.cell? ⟨wo.heap.size, 2, none⟩ = some (.slice ua j uc) ∧ w'.frozen? ⟨wo.heap.size, 2, none⟩ = false) ∧ w'.cell? ⟨W.heap.size, 1, none⟩ = some (.slice (some ⟨b, off, none⟩) m cd) ∧ w'.cell? ⟨b, off + ko * 4 + 2, none⟩ = some (.slice (some ⟨b3, off3, none⟩) sn sc) ∧ w'.cell? ⟨b3, off3 + j * 4, none⟩ = some (.string ⟨xn.toArray⟩) ∧ w'.cell? ⟨b3, off3 + j * 4 + 1, none⟩ = some (.bool xl) ∧ w'.cell? ⟨b3, off3 + j * 4 + 2, none⟩ = some (.int .i64 xu) ∧ w'.cell? ⟨b3, off3 + j * 4 + 3, none⟩ = some (.int .i64 xa)) (by kernel_rfl) (fun hcl => ?_)
         have hSw := HKS3.out _ (below_drewN (Below.refl _ wr) 1)
         refine wpAnyK_take (i := 0) (f0 := 20) (v := ?kav0) hcl rfl (by kernel_rfl) (by kernel_rfl) (by kernel_rfl) (by kernel_rfl) (by decide) (fun _ _ _ h => h) (Or.inl ⟨by rfl, ?kay0⟩) hSw ?_
         case kay0 => (intro w hSx; (try dsimp only at hSx); go_simp; first | done | with_reducible rfl | rfl)
         clear hcl; intro hcl; (try simp only [Act.put, zq0, zq1, zq2])
         refine wpAnyK_take (i := 1) (f0 := 20) (v := ?kav1) hcl rfl (by kernel_rfl) (by kernel_rfl) (by kernel_rfl) (by kernel_rfl) (by decide) (fun _ _ _ h => h) (Or.inl ⟨by rfl, ?kay1⟩) hSw ?_
         case kay1 => (intro w hSx; (try dsimp only at hSx); go_simp; first | done | with_reducible rfl | rfl)
         clear hcl; intro hcl; (try simp only [Act.put, zq0, zq1, zq2])
         refine wpAnyK_take (i := 2) (f0 := 20) (v := ?kav2) hcl rfl (by kernel_rfl) (by kernel_rfl) (by kernel_rfl) (by kernel_rfl) (by decide) (fun _ _ _ h => h) (Or.inl ⟨by rfl, ?kay2⟩) hSw ?_
         case kay2 => (intro w hSx; (try dsimp only at hSx); go_simp; first | done | with_reducible rfl | rfl)
         clear hcl; intro hcl; (try simp only [Act.put, zq0, zq1, zq2])
         refine wpAnyK_take (i := 3) (f0 := 20) (v := ?kav3) hcl rfl (by kernel_rfl) (by kernel_rfl) (by kernel_rfl) (by kernel_rfl) (by decide) (fun _ _ _ h => h) (Or.inl ⟨by rfl, ?kay3⟩) hSw ?_
         case kay3 => (intro w hSx; (try dsimp only at hSx); go_simp; first | done | with_reducible rfl | rfl)
         clear hcl; intro hcl; (try simp only [Act.put, zq0, zq1, zq2])
         refine wpAnyK_take (i := 4) (f0 := 20) (v := ?kav4) hcl rfl (by kernel_rfl) (by kernel_rfl) (by kernel_rfl) (by kernel_rfl) (by decide) (fun _ _ _ h => h) (Or.inl ⟨by rfl, ?kay4⟩) hSw ?_
         case kay4 => (intro w hSx; (try dsimp only at hSx); go_simp; first | done | with_reducible rfl | rfl)
         clear hcl; intro hcl; (try simp only [Act.put, zq0, zq1, zq2])
         refine wpAnyK_take (i := 5) (f0 := 20) (v := ?kav5) hcl rfl (by kernel_rfl) (by kernel_rfl) (by kernel_rfl) (by kernel_rfl) (by decide) (fun _ _ _ h => h) (Or.inl ⟨by rfl, ?kay5⟩) hSw ?_
         case kay5 => (intro w hSx; (try dsimp only at hSx); go_simp; first | done | with_reducible rfl | rfl)
         clear hcl; intro hcl; (try simp only [Act.put, zq0, zq1, zq2])
         refine wpAnyK_take (i := 6) (f0 := 20) (v := ?kav6) hcl rfl (by kernel_rfl) (by kernel_rfl) (by kernel_rfl) (by kernel_rfl) (by decide) (fun _ _ _ h => h) (Or.inl ⟨by rfl, ?kay6⟩) hSw ?_
         case kay6 => (intro w hSx; (try dsimp only at hSx); go_simp; first | done | with_reducible rfl | rfl)
         clear hcl; intro hcl; (try simp only [Act.put, zq0, zq1, zq2])
         refine wpAnyK_take (i := 7) (f0 := 20) (v := ?kav7) hcl rfl (by kernel_rfl) (by kernel_rfl) (by kernel_rfl) (by kernel_rfl) (by decide) (fun _ _ _ h => h) (Or.inl ⟨by rfl, ?kay7⟩) hSw ?_
         case kay7 => (intro w hSx; (try dsimp only at hSx); go_simp; first | done | with_reducible rfl | rfl)
         clear hcl; intro hcl; (try simp only [Act.put, zq0, zq1, zq2])
         refine wpAnyK_take (i := 8) (f0 := 20) (v := ?kav8) hcl rfl (by kernel_rfl) (by kernel_rfl) (by kernel_rfl) (by kernel_rfl) (by decide) (fun _ _ _ h => h) (Or.inl ⟨by rfl, ?kay8⟩) hSw ?_
         case kay8 => (intro w hSx; (try dsimp only at hSx); go_simp; first | done | with_reducible rfl | rfl)
         clear hcl; intro hcl; (try simp only [Act.put, zq0, zq1, zq2])
         refine wpAnyK_take (i := 9) (f0 := 20) (v := ?kav9) hcl rfl (by kernel_rfl) (by kernel_rfl) (by kernel_rfl) (by kernel_rfl) (by decide) (fun _ _ _ h => h) (Or.inl ⟨by rfl, ?kay9⟩) hSw ?_
         case kay9 => (intro w hSx; (try dsimp only at hSx); go_simp; first | done | with_reducible rfl | rfl)
         clear hcl; intro hcl; (try simp only [Act.put, zq0, zq1, zq2])
         refine wpAnyK_take (i := 10) (f0 := 20) (v := ?kav10) hcl rfl (by kernel_rfl) (by kernel_rfl) (by kernel_rfl) (by kernel_rfl) (by decide) (fun _ _ _ h => h) (Or.inl ⟨by rfl, ?kay10⟩) hSw ?_
         case kay10 => (intro w hSx; (try dsimp only at hSx); go_simp; first | done | with_reducible rfl | rfl)
         clear hcl; intro hcl; (try simp only [Act.put, zq0, zq1, zq2])
         refine wpAnyK_one (i := 11) hcl (by kernel_rfl) rfl (fun K' hK => ?_)
         (go_simp; go_at_call 20; refine (HCS.out _).mono ?_; rintro e w' ⟨rfl, hb'⟩; have hlw : wo.heap.size < w'.heap.size := Nat.lt_of_lt_of_le hlm hb'.size)
         refine hK _ _ (.inr ?kas11) ?_
         case kas11 => exact HKS3.out _ ((below_undrew hb').mono hMle)
         clear hcl hK K' hSw
         intro hcl
         (try simp only [Act.put, zq0, zq1, zq2])
         refine wpAnyK_one (i := 12) hcl (by kernel_rfl) rfl (fun K' hK => ?_)
         go_simp
         refine hK _ _ (.inr ?kas12) ?_
         case kas12 => exact HKS3.out _ (((below_undrew hb').mono hMle).alloc (Nat.le_trans hMle hb'.size) _)
         clear hcl hK K'
         intro hcl
         (try simp only [Act.put, zq0, zq1, zq2])
         refine wpAnyK_one (i := 13) hcl (by kernel_rfl) rfl (fun K' hK => ?_)
         (refine step_append_lies _ (by rfl) _ _ _ (by rfl) (wo.heap.size + 1) 45 is0 _ 4 40 Tryz.underlying55 his0 hsz0 hsz1 hsz2 rfl (by omega) _ _ _ (by rfl) ((HOW.out w' (below_undrew hb')).alloc _) ⟨w'.heap.size, 0, none⟩ 1 1 (symC (cutSym ⟨xn, xl, xu, xa⟩)) (by rfl) (by rfl) (World.news_of_block (cs := (symC (cutSym ⟨xn, xl, xu, xa⟩)).toArray) (t := 45) (fr := (0, 0)) (heap_alloc_new w' _)) (by simp [Value.oneCell', symC]) (by omega) (by unfold maxLen; omega) (by omega) (by have h1 := hb'.size; have h2 : wr.drew.heap.size = wr.heap.size := rfl; simp only [World.size_alloc]; omega) (w'.heap.size + 1) (by simp) ?_; intro gg cap w5 hown1 hgrow hat hlt; obtain ⟨⟨p1', p2'⟩, _⟩ := HKS3.out w5 ((((below_undrew hb').mono hMle).alloc (Nat.le_trans hMle hb'.size) _).grown hgrow (by have h1 := hb'.size; have h2 : wr.drew.heap.size = wr.heap.size := rfl; simp only [World.size_alloc]; omega) (fun g hg => (HOI.out.lt g hg).1)))
         refine hK _ _ (.inr ?kas13) ?_
         case kas13 => exact HKS3.out w5 ((((below_undrew hb').mono hMle).alloc (Nat.le_trans hMle hb'.size) _).grown hgrow (by have h1 := hb'.size; have h2 : wr.drew.heap.size = wr.heap.size := rfl; simp only [World.size_alloc]; omega) (fun g hg => (HOI.out.lt g hg).1))
         clear hcl hK K'
         intro hcl
         (try simp only [Act.put, zq0, zq1, zq2])
         refine wpAnyK_one (i := 14) hcl (by kernel_rfl) rfl (fun K' hK => ?_)
         go_simp
         refine hK _ _ (.inr ?kas14) ?_
         case kas14 => exact HKS3.out w5 ((((below_undrew hb').mono hMle).alloc (Nat.le_trans hMle hb'.size) _).grown hgrow (by have h1 := hb'.size; have h2 : wr.drew.heap.size = wr.heap.size := rfl; simp only [World.size_alloc]; omega) (fun g hg => (HOI.out.lt g hg).1))
         clear hcl hK K'
         intro hcl
         (try simp only [Act.put, zq0, zq1, zq2])
         refine wpAnyK_one (i := 15) hcl (by kernel_rfl) rfl (fun K' hK => ?_)
         go_simp
         refine hK _ _ (.inl rfl) ?_
         clear hcl hK K'
         intro hcl
         (try simp only [Act.put, zq0, zq1, zq2])
         refine wpAnyK_done (by kernel_rfl) ?_ _
         all_goals
          have HW5 := zh ((((below_undrew hb').mono hMle).alloc (Nat.le_trans hMle hb'.size) _).grown hgrow (by have h1 := hb'.size; have h2 : wr.drew.heap.size = wr.heap.size := rfl; simp only [World.size_alloc]; omega) (fun g hg => (HOI.out.lt g hg).1))
          have HO1 := zh hown1
          clear hown1 hgrow hat hb'
          go_wp2_with fail
          go_roundg (6 - (j + 1))
          case measure => omega
          case rel =>
           have hD5 := (HW5.out.block wo.heap.size (by omega)).trans HDD.out
           refine ⟨j + 1, _, by omega, by omega, rfl, by go_num, heap_setCell_at hD5, ?_, (HBI.out.trans (HW5.out.mono (by omega))).setCell (Nat.le_refl _) _⟩
           rw [flat_snoc symC dsy j _ HP3.out cutSym]
           exact ownsRow_setCell_ne HO1.out hD5 (by decide) _
        ·have htk : dsy.take j = dsy.take 6 := by
          rcases (by omega : j = sn ∨ j = 6) with h | h
          ·rw [List.take_of_length_le (by have := HSN.out; omega), List.take_of_length_le (by have := HSN.out; omega)]
          ·rw [h]
         have hlen : ((dsy.take 6).map cutSym).length = j := by rw [← htk, List.length_map, List.length_take]; have := HSN.out; omega
         have HTK := zh htk; have HLEN := zh hlen
         clear htk hlen
         by_cases hjs : j < sn
         ·have hjN : decide ((j : Int) < 6) = false := by rw [decide_eq_false_iff_not]; omega
          have HJN := zh hjn
          clear hjn
          go_wp2_with fail
          go_meet
          exact ⟨.slice ua j uc, HDD.out, by rw [HLEN.out, ← HTK.out]; exact HOI.out, HBI.out⟩
         ·have hjs' : decide (j < sn) = false := by rw [decide_eq_false_iff_not]; exact hjs
          have HJN := zh hjn
          clear hjn hjs
          go_wp2_with fail
          go_meet
          exact ⟨.slice ua j uc, HDD.out, by rw [HLEN.out, ← HTK.out]; exact HOI.out, HBI.out⟩
      case rest =>
       clear b1 b2 s1 hl1 hl2
       obtain ⟨u, hD, ho, hbel⟩ := hcut
       generalize hJ : ((dsy.take 6).map cutSym).length = j at *
       have HJ := zh hJ
       clear hJ
       obtain ⟨ua, uc, rfl⟩ := ownsRowS_some ho
       have HDD := zh hD; have HOI := zh ho; have HBI := zh hbel
       have e0 := cell_at (i := 0) hD; have e1 := cell_at (i := 1) hD; have e2 := cell_at (i := 2) hD; have e3 := cell_at (i := 3) hD
       have hlm := lt_at hD
       have hszj : wo.heap.size ≤ wc.heap.size := hbel.size
       have hSr := (hbel.block (W.heap.size + 2) (by omega)).trans HS.out
       have s1 := cell_at (i := 1) hSr
       have g1 := frozen_at (i := 1) hSr
       have hls := lt_at hSr
       have HSr := zh hSr
       have hkl : ((ds.take ko).map (cutDecl cut0N)).length = ko := by rw [List.length_map, List.length_take]; have := HM.out; omega
       obtain ⟨f, hf1, hf2⟩ := decls_kp (T := fun _ => True) HO.out (KpT.below HBI.out) trivial trivial
       rw [hkl] at hf1
       obtain ⟨pa, pc, rfl⟩ := ownsRowS_some hf1
       generalize hL : (ds.take ko).map (cutDecl cut0N) = L at *
       have HL := zh hL
       have HNWB := zh (HB.out.trans (hbel.mono (by omega)))
       have hko1 : (ko : Int) < (m : Int) := by omega
       clear hL hD ho hbel hSr
       go_upto_region 10 with (fail)
       go_wp2_with (at_builtin; refine wpList_append_lies _ rfl _ _ _ rfl (W.heap.size + 3) 57 id0 _ 4 56 Tryz.underlying22 hid0 hdz0 hdz1 hdz2 rfl (by decide) _ _ _ rfl (hf1.alloc _) ⟨wc.heap.size, 0, none⟩ 1 1 (declC (.slice ua j uc) (cutDecl cut0N ⟨dk, dt, dsy, dp⟩)) rfl rfl ?c1A ?c2A (by decide) ?c3A ?c4A ?c5A _ rfl ?_)
       case c1A => exact World.news_of_block (cs := (declC (.slice ua j uc) (cutDecl cut0N ⟨dk, dt, dsy, dp⟩)).toArray) (t := 57) (fr := (0, 0)) (heap_alloc_new wc _)
       case c2A => simp [Value.oneCell', declC]
       case c3A => unfold maxLen; omega
       case c4A => omega
       case c5A => simp only [World.size_alloc]; omega
       intro gg cap w5 hown1 hgrow hat hlt
       have HBG := zh (((Below.refl (W.heap.size + 3) wc).alloc (by omega) _).grown hgrow (by simp only [World.size_alloc]; omega) (fun g hg => (hf1.lt g hg).1))
       have hS5 := (HBG.out.block (W.heap.size + 2) (by omega)).trans HSr.out
       have v1 := cell_at (i := 1) hS5; have v2 := frozen_at (i := 1) hS5; have v3 := lt_at hS5
       have HS5 := zh hS5
       have HKP := zh ((KpT.below ((Below.refl _ wc).alloc (Nat.le_refl _) _)).trans ((KpT.grown (hf1.alloc _) hgrow)) : KpT (· ≠ 57) wc w5)
       have HO5 := zh hown1
       clear hown1 hgrow hat hS5
       go_wp2_with fail
       go_roundg (8 - (ko + 1))
       case measure => omega
       case rel =>
        have hlen2 : (ds.take (ko + 1)).map (cutDecl cut0N) = L ++ [cutDecl cut0N ⟨dk, dt, dsy, dp⟩] := by rw [List.take_add_one, HP.out, List.map_append, HL.out]; rfl
        refine ⟨ko + 1, _, by omega, by omega, rfl, by go_num, heap_setCell_at HS5.out, ?_, (HNWB.out.trans (HBG.out.mono (by omega))).setCell (p := ⟨W.heap.size + 2, 1, none⟩) (Nat.le_refl _) _⟩
        rw [hlen2]
        have hkp2 : KpT (fun t => t ≠ 57 ∧ t ≠ 25) wc (w5.setCell ⟨W.heap.size + 2, 1, none⟩ (.slice (some ⟨gg, 0, none⟩) (ko + 1) cap)) := (HKP.out.mono (fun t h => h.1)).setCell HS5.out (by simp) _
        refine OwnR.snoc (u := .slice ua j uc) hf2 ?_ (symsOwn_kp hkp2 (by decide)) ⟨wo.heap.size + 1, ?_⟩
        ·rw [hkl]
         exact ownsRow_setCell_ne HO5.out HS5.out (by decide) _
        ·have h := ownsRow_kpT HOI.out hkp2 (by decide)
         have e : (cutDecl cut0N ⟨dk, dt, dsy, dp⟩).syms = (dsy.take 6).map cutSym := rfl
         rw [e, HJ.out]
         exact h
    ·have htk : (ds.take k).map (cutDecl cut0N) = DL := by
      rw [← HDL.out]
      rcases (by omega : k = m ∨ k = 8) with h | h
      ·rw [List.take_of_length_le (by have := HM.out; omega), List.take_of_length_le (by have := HM.out; omega)]
      ·rw [h]
     have HTK := zh htk
     clear htk
     by_cases hkm : k < m
     ·have hkN : decide ((k : Int) < 8) = false := by rw [decide_eq_false_iff_not]; omega
      have HKN := zh hkn
      clear hkn
      go_wp2_with fail
      go_meet
      exact ⟨pv, HS.out, by rw [← HTK.out]; exact HO.out, HB.out⟩
     ·have hkm' : decide (k < m) = false := by rw [decide_eq_false_iff_not]; exact hkm
      have HKN := zh hkn
      clear hkn hkm
      go_wp2_with fail
      go_meet
      exact ⟨pv, HS.out, by rw [← HTK.out]; exact HO.out, HB.out⟩
  case rest =>
   obtain ⟨pv, hS, hown, hbel⟩ := hcut
   have HS := zh hS; have HO := zh hown; have HB := zh hbel
   clear hS hown hbel HS0 HB0
   go_upto_block 4 with fail
   refine cut0_rules W _ m n cd cr ad ar pv fr DL rs pr tl _ _ HR1.out HR2.out HB5.out HN.out (by omega) HS.out HO.out HB.out (fun _ _ _ _ h => h) ?_
   intro y7 y8 y9 y10 y11 y12 y87 y88 y89 y90 y91 y92 y93 y94 y95 y96 y97 y98 y99 y100 y101 y102 y103 y104 y105 y106 y107 y108 y109 y110 y111 y112 y113 y114 y115 y116 y117 y118 y119 y120 y121 y122 y123 y124 y125 y126 y127 y128 y129 y130 y131 y132 y133 y134 y135 y136 y137 y138 y139 y140 y141 y142 y143 y144 y145 y146 y147 y148 y149 y150 y151 y152 y153 y154 y155 y156 y157 y158 y159 y160 y161 y162 y163 y164 y165 y166 y167 y168 y169 y170 y171 y172 y173 y174 y175 y176 y177 y178 y179 y180 y181 y182 y183 y184 y185 y186 y187 y188 y189 y190 y191 y192 y193 y194 y195 y196 y197 y198 y199 y200 y201 y202 y203 y204 y205 y206 wc qv hS hdo hown hbel
   generalize hRL : (rs.take 6).map (cutRule cut0N) = RL at *
   have HRL := zh hRL
   clear hRL
   obtain ⟨fp, hp1, _⟩ := decls_at hdo
   obtain ⟨ap, cp, rfl⟩ := hp1.form
   obtain ⟨fq, hq1, _⟩ := rules_at hown
   obtain ⟨aq, cq, rfl⟩ := hq1.form
   clear hp1 hq1
   have HSn := zh hS; have HDO := zh hdo; have HRO := zh hown; have HBn := zh hbel
   have s0 := cell_at (i := 0) hS; have s1 := cell_at (i := 1) hS; have s2 := cell_at (i := 2) hS; have s3 := cell_at (i := 3) hS
   obtain ⟨hF1, hF2⟩ := two_first2 hbel
   have r0 := cell_at (i := 0) hF2; have r1 := cell_at (i := 1) hF2; have r2 := cell_at (i := 2) hF2; have r3 := cell_at (i := 3) hF2
   have z0 := frozen_at (i := 0) hF2; have z1 := frozen_at (i := 1) hF2; have z2 := frozen_at (i := 2) hF2; have z3 := frozen_at (i := 3) hF2
   have hl1 := lt_at hF2; have hl2 := lt_at hS
   have HF2 := zh hF2
   clear hS hdo hown hbel HS HB HO hF1 hF2
   go_wp2_with fail
   refine ret_cell (g := W.heap.size + 1) (cs := (srcC _ _ (cutSrc cut0N ⟨pr, ds, rs, tl⟩)).toArray) (t := 25) (fr := (0, 0)) rfl rfl (heap_setCell_at (heap_setCell_at (heap_setCell_at (heap_setCell_at HF2.out)))) rfl Tryz.underlying25 (by kernel_rfl) rfl ?_
   refine ⟨_, _, W.heap.size + 3, rfl, ?_, ?_, ?_⟩
   ·exact ((((below_two2 HBn.out).setCell (p := ⟨W.heap.size + 1, 0, none⟩) (by simp) _).setCell (p := ⟨W.heap.size + 1, 1, none⟩) (by simp) _).setCell (p := ⟨W.heap.size + 1, 2, none⟩) (by simp) _).setCell (p := ⟨W.heap.size + 1, 3, none⟩) (by simp) _
   ·refine decls_kp (B := W.heap.size + 3) (T := (· ≠ 25)) (w := wc) ?_ ?_ (by decide) (by decide)
    ·have e : (cutSrc cut0N ⟨pr, ds, rs, tl⟩).decls = DL := HDL.out
     rw [e]; have h := HDO.out; rw [List.length_mapIdx] at h; exact h
    ·exact ((((KpT.below (Below.refl _ wc)).setCell HF2.out (by simp) _).setCell (heap_setCell_at HF2.out) (by simp) _).setCell (heap_setCell_at (heap_setCell_at HF2.out)) (by simp) _).setCell (heap_setCell_at (heap_setCell_at (heap_setCell_at HF2.out))) (by simp) _
   ·refine rules_kp (B := W.heap.size + 3) (T := (· ≠ 25)) (w := wc) ?_ ?_ (by decide) (by decide) (by decide)
    ·have e : (cutSrc cut0N ⟨pr, ds, rs, tl⟩).rules = RL := HRL.out
     rw [e]; have h := HRO.out; rw [List.length_mapIdx] at h; exact h
    ·exact ((((KpT.below (Below.refl _ wc)).setCell HF2.out (by simp) _).setCell (heap_setCell_at HF2.out) (by simp) _).setCell (heap_setCell_at (heap_setCell_at HF2.out)) (by simp) _).setCell (heap_setCell_at (heap_setCell_at (heap_setCell_at HF2.out))) (by simp) _
end Go.Proofs.YtddnomjfcbplpaaGreatDoor

namespace Go.Proofs.YtddnomjfcbplpaaGreatDoor
open Go.RowKit Go.Maps

set_option maxRecDepth 100000 in
set_option maxHeartbeats 3200000 in
theorem law9_same (x : Sp.Source) (vd vr : Value) (W : World) (hd : DeclsAt W vd x.decls) (hr : RulesAt W vr x.rules) (hs : smallSrc x) (hg : ∀ w', Below W.heap.size W w' → W.heap.size < w'.heap.size → Gl w') (hin : (Sp.rmade x).inner ≤ 60000) :
  Calls Tryz.prog 6 #[.agg (srcC vd vr x).toArray] W fun e w' => e = .returned (.bool true) ∧ Below W.heap.size W w' := by
 obtain ⟨da, dn, dc, rfl⟩ : ∃ a n c, vd = .slice a n c := by
  obtain ⟨fd, h1, _⟩ := hd
  obtain ⟨a, c, h⟩ := h1.form
  exact ⟨a, _, c, h⟩
 obtain ⟨ra, rn, rc, rfl⟩ : ∃ a n c, vr = .slice a n c := by
  obtain ⟨fd, h1, _⟩ := hr
  obtain ⟨a, c, h⟩ := h1.form
  exact ⟨a, _, c, h⟩
 obtain ⟨GG, hGG⟩ : ∃ GG, GG = Sp.gramOf x := ⟨_, rfl⟩
 have hlen := Sp.refGram_lens (n := 4000) (by omega) (x := x) (fun u hu a ha => ((hs.2.2.2.2.2 u hu).2.2 a ha).1)
 rw [Sp.refGram_eq, ← hGG] at hlen
 have HOF := zh (fun (w' : World) (hb : Below W.heap.size W w') (hlt : W.heap.size < w'.heap.size) => (show Calls Tryz.prog 15 #[.agg #[.string ⟨x.pro.toArray⟩, .slice da dn dc, .slice ra rn rc, .string ⟨x.tail.toArray⟩]] w' (OfPost w' GG) from by
  rw [hGG]
  exact gram_Of x _ _ w' (hd.below hb) (hr.below hb) hs (hg w' hb hlt)))
 have HRF := zh (fun (w' : World) (hb : Below W.heap.size W w') => (show Calls Tryz.prog 9 #[.agg #[.string ⟨x.pro.toArray⟩, .slice da dn dc, .slice ra rn rc, .string ⟨x.tail.toArray⟩]] w' (ROfPost w' GG) from by
  have h := ref_Of x _ _ w' (hd.below hb) (hr.below hb) hs hin
  rw [Sp.refGram_eq, ← hGG] at h
  exact h))
 have HLEN := zh hlen
 show Calls _ _ #[.agg #[.string ⟨x.pro.toArray⟩, .slice da dn dc, .slice ra rn rc, .string ⟨x.tail.toArray⟩]] _ _
 clear hd hr hs hg hin hlen hGG
 obtain ⟨⟨GT, GN, GP, Gp, Gt⟩, ⟨fe, fa, fn⟩⟩ := GG
 go_enter Tryz.func6, Tryz.ntmps6
 go_wp2_with fail
 refine (HOF.out _ ((Below.refl _ W).alloc (Nat.le_refl _) _) (by simp)).mono ?_
 rintro e w2 ⟨hb2, gv, rfl, hgo⟩
 have hga := hgo.at
 obtain ⟨B, ta, tc, na, nc, pa, pc, rfl, _⟩ := hgo
 rw [show faultV ((⟨GT, GN, GP, Gp, Gt⟩ : Sp.Gram), (⟨fe, fa, fn⟩ : Sp.Fault)).2 = .agg #[.int .i64 fe, .int .i64 fa, .string ⟨fn.toArray⟩] from rfl]
 simp only at hga ⊢
 obtain ⟨w3, hw3⟩ : ∃ w3 : World, w3 = (w2.alloc (.cells #[.slice ta GT.length tc, .slice na GN.length nc, .slice pa GP.length pc, .string ⟨Gp.toArray⟩, .string ⟨Gt.toArray⟩] 39)).alloc (.cells #[.int .i64 fe, .int .i64 fa, .string ⟨fn.toArray⟩] 52) := ⟨_, rfl⟩
 have hb3 : Below w2.heap.size w2 w3 := by rw [hw3]; exact ((Below.refl _ w2).alloc (Nat.le_refl _) _).alloc (by simp) _
 have hB2 : Below W.heap.size W w2 := ((Below.refl _ W).alloc (Nat.le_refl _) _).trans (hb2.mono (by simp))
 have hx3 : w3.heap[W.heap.size]? = some (.cells #[.string ⟨x.pro.toArray⟩, .slice da dn dc, .slice ra rn rc, .string ⟨x.tail.toArray⟩] 25 (0, 0)) := by
  have h := (hb2.block W.heap.size (by simp)).trans (heap_last W _)
  exact (hb3.block _ (lt_at h)).trans h
 have hg3 : w3.heap[w2.heap.size]? = some (.cells #[.slice ta GT.length tc, .slice na GN.length nc, .slice pa GP.length pc, .string ⟨Gp.toArray⟩, .string ⟨Gt.toArray⟩] 39 (0, 0)) := by rw [hw3]; exact heap_old (heap_last w2 _) _
 have hf3 : w3.heap[w2.heap.size + 1]? = some (.cells #[.int .i64 fe, .int .i64 fa, .string ⟨fn.toArray⟩] 52 (0, 0)) := by rw [hw3]; exact heap_sec w2 _ _
 have HG3 := zh hg3; have HF3 := zh hf3; have HA3 := zh (hga.below hb3); have HB3 := zh (hB2.trans (hb3.mono hB2.size))
 have x0 := cell_at (i := 0) hx3; have x1 := cell_at (i := 1) hx3; have x2 := cell_at (i := 2) hx3; have x3 := cell_at (i := 3) hx3
 have lx := lt_at hx3
 clear hb2 hga hb3 hB2 hx3 hg3 hf3 HOF
 go_upto_region 2 with fail
 rw [← hw3]
 clear hw3
 go_wp2_with fail
 refine (HRF.out _ HB3.out).mono ?_
 rintro e w4 ⟨hb4, gv2, rfl, hgo2⟩
 have hga2 := hgo2.at
 obtain ⟨B2, ta2, tc2, na2, nc2, pa2, pc2, rfl, _⟩ := hgo2
 simp only at hga2 ⊢
 obtain ⟨w5, hw5⟩ : ∃ w5 : World, w5 = w4.alloc (.cells #[.slice ta2 GT.length tc2, .slice na2 GN.length nc2, .slice pa2 GP.length pc2, .string ⟨Gp.toArray⟩, .string ⟨Gt.toArray⟩] 39) := ⟨_, rfl⟩
 have hb5 : Below w4.heap.size w4 w5 := by rw [hw5]; exact (Below.refl _ w4).alloc (Nat.le_refl _) _
 have hb35 := hb4.trans (hb5.mono hb4.size)
 have hg5 := (hb35.block _ (lt_at HG3.out)).trans HG3.out
 have hf5 := (hb35.block _ (lt_at HF3.out)).trans HF3.out
 have hh5 : w5.heap[w4.heap.size]? = some (.cells #[.slice ta2 GT.length tc2, .slice na2 GN.length nc2, .slice pa2 GP.length pc2, .string ⟨Gp.toArray⟩, .string ⟨Gt.toArray⟩] 39 (0, 0)) := by rw [hw5]; exact heap_last w4 _
 have HA5 := zh (HA3.out.below hb35); have HA6 := zh (hga2.below hb5); have HB5 := zh (HB3.out.trans (hb35.mono HB3.out.size))
 have HG5 := zh hg5; have HH5 := zh hh5
 have f0 := cell_at (i := 0) hf5; have f1 := cell_at (i := 1) hf5; have f2 := cell_at (i := 2) hf5
 have lf := lt_at hf5
 clear hb4 hga2 hb5 hb35 hg5 hf5 hh5 HRF x0 x1 x2 x3 lx HG3 HF3
 go_upto_region 3 with fail
 rw [← hw5]
 clear hw5
 go_wp2_with fail
 refine (ref_EqFaultG fe fa fe fa fn fn _).mono ?_
 rintro e w6 ⟨rfl, hb6⟩
 have hg6 := (hb6.block _ (lt_at HG5.out)).trans HG5.out
 have hh6 := (hb6.block _ (lt_at HH5.out)).trans HH5.out
 have g0 := cell_at (i := 0) hg6; have g1 := cell_at (i := 1) hg6; have g2 := cell_at (i := 2) hg6; have g3 := cell_at (i := 3) hg6; have g4 := cell_at (i := 4) hg6
 have h0 := cell_at (i := 0) hh6; have h1 := cell_at (i := 1) hh6; have h2 := cell_at (i := 2) hh6; have h3 := cell_at (i := 3) hh6; have h4 := cell_at (i := 4) hh6
 have l6 := lt_at hg6; have l7 := lt_at hh6
 obtain ⟨n1, n2, n3, n4⟩ := HLEN.out
 (try simp only at n1 n2 n3 n4)
 have HEQ := zh (ref_EqGrammar_same ⟨GT, GN, GP, Gp, Gt⟩ _ _ w6 (HA5.out.below hb6) (HA6.out.below hb6) (by simp only; omega) (by simp only; omega) (by simp only; omega) (fun p hp => ⟨by have := (n4 p hp).1; omega, by have := (n4 p hp).2; omega⟩))
 have HB6 := zh (HB5.out.trans (hb6.mono HB5.out.size))
 clear hb6 hg6 hh6 n1 n2 n3 n4 HLEN
 (try simp only [and_self, decide_true])
 go_wp2_with fail
 refine HEQ.out.mono ?_
 rintro e w7 ⟨rfl, hb7⟩
 have HB7 := zh (HB6.out.trans (hb7.mono HB6.out.size))
 clear hb7
 go_wp2_with fail
 go_ret
 exact ⟨rfl, HB7.out⟩
end Go.Proofs.YtddnomjfcbplpaaGreatDoor
