/- Layer 8, the reference: Text. -/
import Derived.Test.YthmimcegiihcnaaGreatDoorEb
import Derived.Test.YthmimcegiihcnaaGreatDoorEq
import Derived.Deep.RegionWith
namespace Go.Proofs.YthmimcegiihcnaaGreatDoor
open Go.RowKit

set_option maxHeartbeats 400000 in
theorem ref7_Keys (w : World) :
    Calls Tryz.prog 38 #[] w fun e w' => e = .returned (.slice (some ⟨w.heap.size, 0, none⟩) 7 7) ∧ w' = w.alloc (.cells #[.string ⟨#[37, 116, 111, 107, 101, 110]⟩, .string ⟨#[37, 108, 101, 102, 116]⟩, .string ⟨#[37, 114, 105, 103, 104, 116]⟩, .string ⟨#[37, 110, 111, 110, 97, 115, 115, 111, 99]⟩, .string ⟨#[37, 116, 121, 112, 101]⟩, .string ⟨#[37, 115, 116, 97, 114, 116]⟩, .string ⟨#[37, 112, 114, 101, 99]⟩] 9) := by
  go_enter Tryz.func38, Tryz.ntmps38
  go_wp2
  go_ret
  exact ⟨rfl, rfl⟩
def txtDecl (d : Sp.Decl) : Prop := 1 ≤ d.kind ∧ d.kind ≤ 6 ∧ d.syms.length ≤ 4000 ∧ ∀ s ∈ d.syms, litOk s ∧ 0 ≤ s.num ∧ s.num ≤ 50000
def txtRule (r : Sp.Rule) : Prop := r.alts.length ≤ 4000 ∧ ∀ a ∈ r.alts, txtAlt a ∧ a.parts.length ≤ 4000
theorem len_le_of {acc x y T : List UInt8} {N : Nat} (h : acc ++ (x ++ y) = T) (hT : T.length ≤ N) : acc.length + x.length ≤ N := by
  rw [← h] at hT; simp only [List.length_append] at hT; omega
theorem refAltsT_drop (k : Nat) (a : Sp.Alt) (l : List Sp.Alt) : Sp.refAltsT k (a :: l) = (if k = 0 then [] else [32, 124]) ++ (Sp.refAltT a ++ Sp.refAltsT (k + 1) l) := by
  rw [Sp.refAltsT, List.append_assoc]

set_option maxRecDepth 100000 in
set_option maxHeartbeats 12800000 in
/-- A declaration's key word behind what was written. -/
theorem key_of (dk : Int) (h1 : 1 ≤ dk) (h2 : dk ≤ 6) : dk = 1 ∨ dk = 2 ∨ dk = 3 ∨ dk = 4 ∨ dk = 5 ∨ dk = 6 := by omega

set_option maxRecDepth 100000 in
set_option maxHeartbeats 25600000 in
theorem ref7_Text (x : Sp.Source) (vd vr : Value) (W : World) (hd : DeclsAt W vd x.decls) (hr : RulesAt W vr x.rules) (hs : smallSrc x) (hok : Sp.may x = true → (∀ d ∈ x.decls, txtDecl d) ∧ ∀ r ∈ x.rules, txtRule r) (htot : (Sp.refText x).length ≤ 100000000) :
    Calls Tryz.prog 11 #[.agg (srcC vd vr x).toArray] W fun e w' => e = .returned (.string ⟨(Sp.refText x).toArray⟩) ∧ Below W.heap.size W w' := by
  have HMAY := Lib.hid (fun w (hb : Below W.heap.size W w) => ref7_May x vd vr w (hd.below hb) (hr.below hb) hs)
  have hT : Sp.refText x = if Sp.may x = false then [] else ((if x.pro = [] then [] else 37 :: 123 :: (x.pro ++ [37, 125, 10])) ++ (x.decls.flatMap Sp.refDeclT ++ ([37, 37, 10] ++ (x.rules.flatMap Sp.refRuleT ++ (if x.tail = [] then [] else 37 :: 37 :: x.tail))))) := by
    unfold Sp.refText
    simp only [List.append_assoc]
  rw [hT] at htot ⊢
  clear hT
  obtain ⟨pr, ds, rs, tl⟩ := x
  simp only at hok htot hd hr hs ⊢
  generalize Sp.may ⟨pr, ds, rs, tl⟩ = qm at *
  obtain ⟨hs1, hs2, hs3, hs4, hs5, hs6⟩ := hs
  simp only at hs1 hs2 hs3 hs4
  obtain ⟨fd, hd1, hd2⟩ := hd
  obtain ⟨fr, hr1, hr2⟩ := hr
  obtain ⟨ad, cd, rfl⟩ := hd1.form
  obtain ⟨ar, cr, rfl⟩ := hr1.form
  have HD1 := Lib.hid hd1; have HD2 := Lib.hid hd2; have HR1 := Lib.hid hr1; have HR2 := Lib.hid hr2
  rw [List.length_mapIdx] at *
  rw [List.length_mapIdx] at *
  generalize hm : ds.length = m at *
  generalize hn : rs.length = n at *
  have HM := Lib.hid hm; have HN := Lib.hid hn
  have HBX := Lib.hid ((Below.refl _ W).alloc (Nat.le_refl _) (.cells #[.string ⟨pr.toArray⟩, .slice ad m cd, .slice ar n cr, .string ⟨tl.toArray⟩] 25))
  clear hd1 hd2 hr1 hr2 hm hn hs5 hs6
  show Calls _ _ #[.agg #[.string ⟨pr.toArray⟩, .slice ad m cd, .slice ar n cr, .string ⟨tl.toArray⟩]] _ _
  cases qm with
  | false =>
    clear hok htot
    go_enter Tryz.func11, Tryz.ntmps11
    go_wp2_with fail
    refine (HMAY.out _ HBX.out).mono ?_
    rintro e w' ⟨rfl, hb'⟩
    have HB' := Lib.hid (HBX.out.trans (hb'.mono HBX.out.size))
    clear hb'
    go_wp2_with fail
    go_ret
    exact ⟨rfl, HB'.out⟩
  | true =>
    obtain ⟨hok1, hok2⟩ := hok rfl
    have HO1 := Lib.hid hok1; have HO2 := Lib.hid hok2
    rw [if_neg (by simp)] at htot ⊢
    clear hok hok1 hok2
    generalize hA0 : (if pr = [] then ([] : List UInt8) else 37 :: 123 :: (pr ++ [37, 125, 10])) = A0 at *
    generalize hTT : (if tl = [] then ([] : List UInt8) else 37 :: 37 :: tl) = TT at *
    generalize hT : A0 ++ (ds.flatMap Sp.refDeclT ++ ([37, 37, 10] ++ (rs.flatMap Sp.refRuleT ++ TT))) = T at *
    have HT := Lib.hid hT; have HTT := Lib.hid hTT
    have hT0 := len_le_of hT htot
    clear hT hTT
    go_enter Tryz.func11, Tryz.ntmps11
    go_wp2_with fail
    refine (HMAY.out _ HBX.out).mono ?_
    rintro e w' ⟨rfl, hb'⟩
    have hb0 : Below (W.heap.size + 1) (W.alloc (.cells #[.string ⟨pr.toArray⟩, .slice ad m cd, .slice ar n cr, .string ⟨tl.toArray⟩] 25)) w' := hb'.mono (by simp)
    have hF := (hb0.block W.heap.size (by omega)).trans (heap_last W _)
    have c0 := cell_at (i := 0) hF; have c1 := cell_at (i := 1) hF; have c2 := cell_at (i := 2) hF; have c3 := cell_at (i := 3) hF
    have hl1 := lt_at hF
    have HB0 := Lib.hid hb0
    clear hb' hb0 hF HMAY
    go_upto_if 14 with (fail)
    go_cut [3] (fun s3 wx => s3 = .string ⟨A0.toArray⟩ ∧ wx = w')
    case first =>
      cases pr with
      | nil =>
        go_wp2_with fail
        go_meet
        exact ⟨str_eq (by rw [← hA0]; rfl), rfl⟩
      | cons c u =>
        have hsz1 : u.length + 1 + 5 ≤ 9223372036854775807 := by simp only [List.length_cons] at hs1; omega
        go_wp2_with fail
        go_meet
        exact ⟨str_eq (by rw [← hA0]; simp), rfl⟩
    case rest =>
      obtain ⟨rfl, rfl⟩ := hcut
      clear hA0 hs1
      obtain ⟨T2, hT2⟩ : ∃ T2, T2 = [37, 37, 10] ++ (rs.flatMap Sp.refRuleT ++ TT) := ⟨_, rfl⟩
      have HTT2 := Lib.hid hT2
      rw [← hT2] at HT
      clear hT2
      go_wp2_with fail
      go_loopg [3, 4] m (fun g sv iv wr => ∃ (k : Nat) (acc : List UInt8), k ≤ m ∧ g = m - k ∧ iv = .int .i64 k ∧ sv = .string ⟨acc.toArray⟩ ∧ acc ++ ((ds.drop k).flatMap Sp.refDeclT ++ T2) = T ∧ Below (W.heap.size + 1) (W.alloc (.cells #[.string ⟨pr.toArray⟩, .slice ad m cd, .slice ar n cr, .string ⟨tl.toArray⟩] 25)) wr)
      case atStart => exact ⟨0, A0, Nat.zero_le _, rfl, rfl, rfl, HT.out, HB0.out⟩
      case round =>
        clear c0 c1 c2 c3 hl1 HB0 HT
        obtain ⟨k, acc, hk, rfl, rfl, rfl, hi, hbel⟩ := hrel
        have HI := Lib.hid hi
        have hal : acc.length ≤ 100000000 := by have h := congrArg List.length hi; rw [List.length_append] at h; omega
        have hF := (hbel.block W.heap.size (by omega)).trans (heap_last W _)
        have c0 := cell_at (i := 0) hF; have c1 := cell_at (i := 1) hF; have c2 := cell_at (i := 2) hF; have c3 := cell_at (i := 3) hF
        have hl1 := lt_at hF
        have HB := Lib.hid hbel
        have hk0 : (0 : Int) ≤ (k : Int) := Int.natCast_nonneg _
        have hsz : W.heap.size + 1 ≤ wr.heap.size := by have := HB.out.size; simp at this; omega
        clear hi hF hbel
        by_cases hkn : k < m
        · have hkl : k < ds.length := by have := HM.out; omega
          have hp : ds[k]? = some ds[k] := List.getElem?_eq_getElem hkl
          have hmem : ds[k] ∈ ds := List.getElem_mem hkl
          have hdr : ds.drop k = ds[k] :: ds.drop (k + 1) := List.drop_eq_getElem_cons hkl
          generalize ds[k] = d at *
          obtain ⟨b, off, rfl, hbl, hc⟩ := HD1.out.at (k := k) (idx_row hp)
          have hcc := hc _ (below_box HB.out)
          have hin := HD2.out k d hp
          obtain ⟨hd1, hd2, hd3, hd4⟩ := HO1.out d hmem
          obtain ⟨sv, sc, hsv⟩ := hin.form
          rw [List.length_map] at hsv
          rw [hsv] at hcc hin
          have hi := HI.out
          rw [hdr, List.flatMap_cons, List.append_assoc] at hi
          have hrd : Sp.refDeclT d = Sp.keys.getD (d.kind - 1).toNat [] ++ ((if d.tag = [] then [] else 32 :: 60 :: (d.tag ++ [62])) ++ (d.syms.flatMap Sp.refSymT ++ [10])) := by unfold Sp.refDeclT; simp only [List.append_assoc]
          rw [hrd] at hi
          obtain ⟨dk, dt, dsy, dp⟩ := d
          simp only at hd1 hd2 hd3 hd4 hin hi
          generalize hsn : dsy.length = sn at *
          have HSN := Lib.hid hsn
          have HIN := Lib.hid hin
          have HD4 := Lib.hid hd4
          obtain ⟨T3, hT3⟩ : ∃ T3, T3 = [10] ++ ((ds.drop (k + 1)).flatMap Sp.refDeclT ++ T2) := ⟨_, rfl⟩
          generalize hKY : Sp.keys.getD (dk - 1).toNat [] = KY at hi
          generalize hTG : (if dt = [] then ([] : List UInt8) else 32 :: 60 :: (dt ++ [62])) = TG at hi
          have hi2 : acc ++ (KY ++ (TG ++ (dsy.flatMap Sp.refSymT ++ T3))) = T := by rw [← hi, hT3]; simp only [List.append_assoc]
          have hlk := len_le_of hi2 htot
          have hi3 : (acc ++ KY) ++ (TG ++ (dsy.flatMap Sp.refSymT ++ T3)) = T := by rw [← hi2]; simp only [List.append_assoc]
          have hlt := len_le_of hi3 htot
          have hi4 : ((acc ++ KY) ++ TG) ++ (dsy.flatMap Sp.refSymT ++ T3) = T := by rw [← hi3]; simp only [List.append_assoc]
          have HI4 := Lib.hid hi4
          have HT3 := Lib.hid hT3
          have HKY := Lib.hid hKY
          have HTG := Lib.hid hTG
          have a0 := hcc 0 _ rfl; have a1 := hcc 1 _ rfl; have a2 := hcc 2 _ rfl; have a3 := hcc 3 _ rfl
          simp only [Nat.add_zero] at a0
          have hk1 : (k : Int) < (m : Int) := by omega
          have hlb : b < wr.heap.size := by omega
          clear hc hcc hp hmem hdr hi HI hkl hin hsv hrd hsn hd4 hi2 hi3 hi4 hT3 hKY hTG
          go_upto_region 10 with fail
          go_cut [3] (fun s3 wx => s3 = .string ⟨(acc ++ KY).toArray⟩ ∧ Below (wr.heap.size + 1) (wr.alloc (.cells #[.int .i64 dk, .string ⟨dt.toArray⟩, .slice sv sn sc, .int .i64 dp] 59)) wx)
          case first =>
            have hcs : ∀ w2, Below (wr.heap.size + 1) (wr.alloc (.cells #[.int .i64 dk, .string ⟨dt.toArray⟩, .slice sv sn sc, .int .i64 dp] 59)) w2 → w2.cell? ⟨wr.heap.size, 0, none⟩ = some (.int .i64 dk) := fun w2 h => cell_at (i := 0) ((h.block wr.heap.size (by omega)).trans (heap_last wr _))
            have HCS := Lib.hid hcs
            have hal2 : acc.length + 9 ≤ 9223372036854775807 := by omega
            clear hcs a0 a1 a2 a3 c0 c1 c2 c3 hlk hlt
            rcases key_of dk hd1 hd2 with rfl | rfl | rfl | rfl | rfl | rfl
            · go_region_with ((first
                  | (go_at_call 38; refine (ref7_Keys _).mono ?_; rintro e w' ⟨rfl, rfl⟩)))
              all_goals
                go_wp2_with fail
                go_meet
                exact ⟨str_eq (by rw [← HKY.out]; simp [Sp.keys]), (below_drewN (Below.refl _ _) 1).alloc (by simp) _⟩
            · go_region_with ((first
                  | (go_at_call 38; refine (ref7_Keys _).mono ?_; rintro e w' ⟨rfl, rfl⟩)))
              all_goals
                go_wp2_with fail
                go_meet
                exact ⟨str_eq (by rw [← HKY.out]; simp [Sp.keys]), (below_drewN (Below.refl _ _) 1).alloc (by simp) _⟩
            · go_region_with ((first
                  | (go_at_call 38; refine (ref7_Keys _).mono ?_; rintro e w' ⟨rfl, rfl⟩)))
              all_goals
                go_wp2_with fail
                go_meet
                exact ⟨str_eq (by rw [← HKY.out]; simp [Sp.keys]), (below_drewN (Below.refl _ _) 1).alloc (by simp) _⟩
            · go_region_with ((first
                  | (go_at_call 38; refine (ref7_Keys _).mono ?_; rintro e w' ⟨rfl, rfl⟩)))
              all_goals
                go_wp2_with fail
                go_meet
                exact ⟨str_eq (by rw [← HKY.out]; simp [Sp.keys]), (below_drewN (Below.refl _ _) 1).alloc (by simp) _⟩
            · go_region_with ((first
                  | (go_at_call 38; refine (ref7_Keys _).mono ?_; rintro e w' ⟨rfl, rfl⟩)))
              all_goals
                go_wp2_with fail
                go_meet
                exact ⟨str_eq (by rw [← HKY.out]; simp [Sp.keys]), (below_drewN (Below.refl _ _) 1).alloc (by simp) _⟩
            · go_region_with ((first
                  | (go_at_call 38; refine (ref7_Keys _).mono ?_; rintro e w' ⟨rfl, rfl⟩)))
              all_goals
                go_wp2_with fail
                go_meet
                exact ⟨str_eq (by rw [← HKY.out]; simp [Sp.keys]), (below_drewN (Below.refl _ _) 1).alloc (by simp) _⟩
          case rest =>
            obtain ⟨rfl, hbc⟩ := hcut
            have HBC := Lib.hid hbc
            have hnc : ∀ w2, Below (wr.heap.size + 1) (wr.alloc (.cells #[.int .i64 dk, .string ⟨dt.toArray⟩, .slice sv sn sc, .int .i64 dp] 59)) w2 → Below (W.heap.size + 1) (W.alloc (.cells #[.string ⟨pr.toArray⟩, .slice (some ⟨b, off, none⟩) m cd, .slice ar n cr, .string ⟨tl.toArray⟩] 25)) w2 := fun w2 h => (HB.out.alloc hsz _).trans (h.mono (by omega))
            have HNC := Lib.hid hnc
            have hF1 := (hbc.block wr.heap.size (by omega)).trans (heap_last wr _)
            have hF2 := ((hnc _ hbc).block W.heap.size (by omega)).trans (heap_last W _)
            have e1 := cell_at (i := 1) hF1; have e2 := cell_at (i := 2) hF1
            have f1 := cell_at (i := 1) hF2; have f2 := cell_at (i := 2) hF2; have f3 := cell_at (i := 3) hF2
            have hlc := lt_at hF1; have hld := lt_at hF2
            clear hF1 hF2 hbc hnc a0 a1 a2 a3 c0 c1 c2 c3
            go_upto_if 41 with (fail)
            go_cut [3] (fun s3 wx => s3 = .string ⟨((acc ++ KY) ++ TG).toArray⟩ ∧ wx = wc)
            case first =>
              have hTG := HTG.out
              cases dt with
              | nil =>
                go_wp2_with fail
                go_meet
                exact ⟨str_eq (by rw [← hTG]; simp), rfl⟩
              | cons x xs =>
                rw [if_neg (by simp)] at hTG
                rw [← hTG] at hlt
                simp only [List.length_append, List.length_cons, List.length_nil] at hlt
                have hlt2 : acc.length + KY.length + xs.length + 10 ≤ 9223372036854775807 := by omega
                have HTG2 := Lib.hid hTG
                clear hTG hlt hlk
                go_wp2_with fail
                go_meet
                exact ⟨str_eq (by rw [← HTG2.out]; simp), rfl⟩
            case rest =>
              obtain ⟨rfl, rfl⟩ := hcut
              clear HTG
              go_wp2_with fail
              obtain ⟨wo, hwo⟩ : ∃ wo : World, wo = wr := ⟨_, rfl⟩
              subst hwo
              go_loopg [3, 6] sn (fun g sv' iv wr => ∃ (j : Nat) (acc2 : List UInt8), j ≤ sn ∧ g = sn - j ∧ iv = .int .i64 j ∧ sv' = .string ⟨acc2.toArray⟩ ∧ acc2 ++ ((dsy.drop j).flatMap Sp.refSymT ++ T3) = T ∧ Below (wo.heap.size + 1) (wo.alloc (.cells #[.int .i64 dk, .string ⟨dt.toArray⟩, .slice sv sn sc, .int .i64 dp] 59)) wr)
              case atStart => exact ⟨0, _, Nat.zero_le _, rfl, rfl, rfl, HI4.out, HBC.out⟩
              case round =>
                clear e1 e2 f1 f2 f3 hlc hld HBC HI4 HKY hlk hlt hal
                obtain ⟨j, acc2, hj, rfl, rfl, rfl, hi, hbel⟩ := hrel
                have HI := Lib.hid hi
                have hal : acc2.length ≤ 100000000 := by have h := congrArg List.length hi; rw [List.length_append] at h; omega
                have hF1 := (hbel.block wo.heap.size (by omega)).trans (heap_last wo _)
                have hF2 := ((HNC.out _ hbel).block W.heap.size (by omega)).trans (heap_last W _)
                have e2 := cell_at (i := 2) hF1
                have f1 := cell_at (i := 1) hF2; have f2 := cell_at (i := 2) hF2; have f3 := cell_at (i := 3) hF2
                have hlc := lt_at hF1; have hld := lt_at hF2
                have HBI := Lib.hid hbel
                have hszi : wo.heap.size + 1 ≤ wr.heap.size := by have := hbel.size; simp at this; omega
                have hj0 : (0 : Int) ≤ (j : Int) := Int.natCast_nonneg _
                clear hi hF1 hF2 hbel
                by_cases hjn : j < sn
                · have hjl : j < dsy.length := by have := HSN.out; omega
                  have hp : dsy[j]? = some dsy[j] := List.getElem?_eq_getElem hjl
                  have hmem : dsy[j] ∈ dsy := List.getElem_mem hjl
                  have hdr : dsy.drop j = dsy[j] :: dsy.drop (j + 1) := List.drop_eq_getElem_cons hjl
                  generalize dsy[j] = s at *
                  obtain ⟨hs1', hs2', hs3'⟩ := HD4.out s hmem
                  obtain ⟨b3, off3, rfl, hbl3, hc⟩ := HIN.out.at (k := j) (row := symC s) (by rw [List.getElem?_map, hp]; rfl)
                  have hc' := fun w' (hb : Below W.heap.size W w') => hc w' hb
                  have hcc := hc' _ (below_box (HNC.out _ HBI.out))
                  have HSY := Lib.hid (fun w => ref7_symText s w hs1')
                  have hi := HI.out
                  rw [hdr, List.flatMap_cons, List.append_assoc] at hi
                  have hrs : Sp.refSymT s = 32 :: (Sp.symText s ++ if 0 < s.num then 32 :: Lib.itoa s.num else []) := rfl
                  rw [hrs] at hi
                  have hil := Lib.itoa_length_le s.num (by omega) (by omega)
                  have HDG := Lib.hid (fun w (h : 0 < s.num) => ref_Digits s.num w (by omega) (by omega))
                  generalize Sp.symText s = ST at *
                  have hln := len_le_of hi htot
                  simp only [List.length_cons, List.length_append] at hln
                  obtain ⟨sn0, sl, su, sa⟩ := s
                  simp only at hs2' hs3' hi hil hln HDG
                  have a0 := hcc 0 _ rfl; have a1 := hcc 1 _ rfl; have a2 := hcc 2 _ rfl; have a3 := hcc 3 _ rfl
                  simp only [Nat.add_zero] at a0
                  have hj1 : (j : Int) < (sn : Int) := by omega
                  have hlb3 : b3 < wr.heap.size := by have := HB.out.size; simp at this; omega
                  have hacl : acc2.length + ST.length + 40 ≤ 9223372036854775807 := by omega
                  have HI2 := Lib.hid hi
                  have hks : ∀ w2, Below wr.heap.size wr w2 → (w2.cell? ⟨wo.heap.size, 2, none⟩ = some (.slice (some ⟨b3, off3, none⟩) sn sc) ∧ w2.cell? ⟨b3, off3 + j * 4 + 2, none⟩ = some (.int .i64 su)) := fun w2 h => by
                    have hbe := HBI.out.trans (h.mono hszi)
                    exact ⟨cell_at (i := 2) ((hbe.block wo.heap.size (by omega)).trans (heap_last wo _)), hc' _ (below_box (HNC.out _ hbe)) 2 _ rfl⟩
                  have HKS := Lib.hid hks
                  clear hc hc' hcc hp hmem hdr hi HI hjl hrs hln hks hs1'
                  go_wp2_with fail
                  refine (HSY.out _).mono ?_
                  rintro e w' ⟨rfl, hb'⟩
                  obtain ⟨x1, x2⟩ := HKS.out _ hb'
                  have HBI2 := Lib.hid (HBI.out.trans (hb'.mono hszi))
                  have hly := hb'.size
                  have hlz : wo.heap.size < w'.heap.size := by omega
                  have hlz3 : b3 < w'.heap.size := by omega
                  clear hb' e2 f1 f2 f3 a0 a1 a2 a3
                  by_cases hpos : 0 < su
                  · have HDG2 := Lib.hid (fun w => HDG.out w hpos)
                    rw [if_pos hpos] at HI2
                    generalize Lib.itoa su = IT at *
                    have hacl2 : acc2.length + ST.length + IT.length + 10 ≤ 9223372036854775807 := by omega
                    go_wp2_with fail
                    refine (HDG2.out _).mono ?_
                    rintro e w2 ⟨rfl, hb2⟩
                    have HBI3 := Lib.hid (HBI2.out.trans (hb2.mono (by omega)))
                    clear hb2
                    go_wp2_with fail
                    go_roundg (sn - (j + 1))
                    case measure => omega
                    case rel => exact ⟨j + 1, acc2 ++ 32 :: (ST ++ 32 :: IT), by omega, rfl, by go_num, str_eq (by simp), by have h := HI2.out; simpa using h, HBI3.out⟩
                  · rw [if_neg hpos] at HI2
                    go_wp2_with fail
                    go_roundg (sn - (j + 1))
                    case measure => omega
                    case rel => exact ⟨j + 1, acc2 ++ 32 :: ST, by omega, rfl, by go_num, str_eq (by simp), by have h := HI2.out; simpa using h, HBI2.out⟩
                · obtain rfl : j = sn := by omega
                  have hdn : dsy.drop j = [] := List.drop_of_length_le (by have := HSN.out; omega)
                  have hi := HI.out
                  rw [hdn, List.flatMap_nil, List.nil_append, HT3.out] at hi
                  have HI2 := Lib.hid hi
                  have hal3 : acc2.length + 1 ≤ 9223372036854775807 := by omega
                  clear hi HI hdn
                  go_wp2_with fail
                  go_roundg (m - (k + 1))
                  case measure => omega
                  case rel => exact ⟨k + 1, acc2 ++ [10], by omega, rfl, by go_num, str_eq (by simp), by have h := HI2.out; simpa using h, HNC.out _ HBI.out⟩
        · obtain rfl : m = k := by omega
          have hdn : ds.drop m = [] := List.drop_of_length_le (by have := HM.out; omega)
          have hi := HI.out
          rw [hdn, List.flatMap_nil, List.nil_append, HTT2.out] at hi
          have HI2 := Lib.hid (show (acc ++ [37, 37, 10]) ++ (rs.flatMap Sp.refRuleT ++ TT) = T by rw [← hi]; simp only [List.append_assoc])
          have hal3 : acc.length + 3 ≤ 9223372036854775807 := by omega
          clear hi HI hdn
          go_wp2_with fail
          go_loopg [3, 7] n (fun g sv iv wr => ∃ (k : Nat) (acc : List UInt8), k ≤ n ∧ g = n - k ∧ iv = .int .i64 k ∧ sv = .string ⟨acc.toArray⟩ ∧ acc ++ ((rs.drop k).flatMap Sp.refRuleT ++ TT) = T ∧ Below (W.heap.size + 1) (W.alloc (.cells #[.string ⟨pr.toArray⟩, .slice ad m cd, .slice ar n cr, .string ⟨tl.toArray⟩] 25)) wr)
          case atStart => exact ⟨0, acc ++ [37, 37, 10], Nat.zero_le _, rfl, rfl, str_eq (by simp), HI2.out, HB.out⟩
          case round =>
            clear c0 c1 c2 c3 hl1 HB HI2 hal hal3 hk hkn hk0 hsz
            obtain ⟨k, acc, hk, rfl, rfl, rfl, hi, hbel⟩ := hrel
            have HI := Lib.hid hi
            have hal : acc.length ≤ 100000000 := by have h := congrArg List.length hi; rw [List.length_append] at h; omega
            have hF := (hbel.block W.heap.size (by omega)).trans (heap_last W _)
            have c2 := cell_at (i := 2) hF; have c3 := cell_at (i := 3) hF
            have hl1 := lt_at hF
            have HB := Lib.hid hbel
            have hk0 : (0 : Int) ≤ (k : Int) := Int.natCast_nonneg _
            have hsz : W.heap.size + 1 ≤ wr.heap.size := by have := HB.out.size; simp at this; omega
            clear hi hF hbel
            by_cases hkn : k < n
            · have hkl : k < rs.length := by have := HN.out; omega
              have hp : rs[k]? = some rs[k] := List.getElem?_eq_getElem hkl
              have hmem : rs[k] ∈ rs := List.getElem_mem hkl
              have hdr : rs.drop k = rs[k] :: rs.drop (k + 1) := List.drop_eq_getElem_cons hkl
              generalize rs[k] = r at *
              obtain ⟨b, off, rfl, hbl, hc⟩ := HR1.out.at (k := k) (idx_row hp)
              obtain ⟨fa, ha1, ha2⟩ := HR2.out k r hp
              obtain ⟨aa, ca, hfa⟩ := ha1.form
              rw [List.length_mapIdx] at hfa
              rw [hfa] at ha1 hc
              obtain ⟨hd1, hd2⟩ := HO2.out r hmem
              have hi := HI.out
              rw [hdr, List.flatMap_cons, List.append_assoc] at hi
              have hrr : Sp.refRuleT r = r.left ++ ([32, 58] ++ (Sp.refAltsT 0 r.alts ++ [32, 59, 10])) := by unfold Sp.refRuleT; simp only [List.append_assoc]
              rw [hrr] at hi
              obtain ⟨lf, al, rp⟩ := r
              simp only at hd1 hd2 ha1 ha2 hi hc
              generalize hna : al.length = na at *
              have HNA := Lib.hid hna
              have HA1 := Lib.hid ha1; have HA2 := Lib.hid ha2; have HD2 := Lib.hid hd2
              obtain ⟨T4, hT4⟩ : ∃ T4, T4 = [32, 59, 10] ++ ((rs.drop (k + 1)).flatMap Sp.refRuleT ++ TT) := ⟨_, rfl⟩
              have hi2 : acc ++ (lf ++ ([32, 58] ++ (Sp.refAltsT 0 al ++ T4))) = T := by rw [← hi, hT4]; simp only [List.append_assoc]
              have hln := len_le_of hi2 htot
              have HI2 := Lib.hid (show (acc ++ (lf ++ [32, 58])) ++ (Sp.refAltsT 0 al ++ T4) = T by rw [← hi2]; simp only [List.append_assoc])
              have HT4 := Lib.hid hT4
              have hc' := fun w' (hb : Below W.heap.size W w') => hc w' hb
              have HC := Lib.hid hc'
              have hcc := hc' _ (below_box HB.out)
              have a0 := hcc 0 _ rfl; have a1 := hcc 1 _ rfl
              simp only [Nat.add_zero] at a0
              have hk1 : (k : Int) < (n : Int) := by omega
              have hlb : b < wr.heap.size := by omega
              have hacl : acc.length + lf.length + 10 ≤ 9223372036854775807 := by omega
              clear hc hc' hcc hp hmem hdr hi HI hkl ha1 ha2 hfa hrr hna hd2 hT4 hi2 hln
              go_wp2_with fail
              obtain ⟨wo, hwo⟩ : ∃ wo : World, wo = wr := ⟨_, rfl⟩
              subst hwo
              obtain ⟨ko, hko⟩ : ∃ ko : Nat, ko = k := ⟨_, rfl⟩
              subst hko
              go_loopg [3, 8] na (fun g sv iv wr => ∃ (j : Nat) (acc2 : List UInt8), j ≤ na ∧ g = na - j ∧ iv = .int .i64 j ∧ sv = .string ⟨acc2.toArray⟩ ∧ acc2 ++ (Sp.refAltsT j (al.drop j) ++ T4) = T ∧ Below (W.heap.size + 1) (W.alloc (.cells #[.string ⟨pr.toArray⟩, .slice ad m cd, .slice (some ⟨b, off, none⟩) n cr, .string ⟨tl.toArray⟩] 25)) wr)
              case atStart => exact ⟨0, acc ++ (lf ++ [32, 58]), Nat.zero_le _, rfl, rfl, str_eq (by simp), HI2.out, HB.out⟩
              case round =>
                clear c2 c3 hl1 HB HI2 hal hacl a0 a1 hsz hlb
                obtain ⟨j, acc2, hj, rfl, rfl, rfl, hi, hbel⟩ := hrel
                have HI := Lib.hid hi
                have hal : acc2.length ≤ 100000000 := by have h := congrArg List.length hi; rw [List.length_append] at h; omega
                have hF := (hbel.block W.heap.size (by omega)).trans (heap_last W _)
                have c2 := cell_at (i := 2) hF; have c3 := cell_at (i := 3) hF
                have hl1 := lt_at hF
                have HB := Lib.hid hbel
                have hj0 : (0 : Int) ≤ (j : Int) := Int.natCast_nonneg _
                have hsz : W.heap.size + 1 ≤ wr.heap.size := by have := HB.out.size; simp at this; omega
                have hcc := HC.out _ (below_box HB.out)
                have a1 := hcc 1 _ rfl
                have hlb : b < wr.heap.size := by omega
                clear hi hF hbel hcc
                by_cases hjn : j < na
                · have hjl : j < al.length := by have := HNA.out; omega
                  have hp : al[j]? = some al[j] := List.getElem?_eq_getElem hjl
                  have hmem : al[j] ∈ al := List.getElem_mem hjl
                  have hdr : al.drop j = al[j] :: al.drop (j + 1) := List.drop_eq_getElem_cons hjl
                  generalize al[j] = a at *
                  obtain ⟨hx1, hx2⟩ := HD2.out a hmem
                  obtain ⟨b3, off3, rfl, hbl3, hc⟩ := HA1.out.at (k := j) (idx_row hp)
                  have hcc := hc _ (below_box HB.out)
                  have hin := HA2.out j a hp
                  obtain ⟨pv, pc, hpv⟩ := hin.form
                  rw [List.length_map] at hpv
                  have hi := HI.out
                  rw [hdr, refAltsT_drop, List.append_assoc, List.append_assoc] at hi
                  generalize hSEP : (if j = 0 then ([] : List UInt8) else [32, 124]) = SEP at hi
                  have hlen1 : SEP.length ≤ 2 := by rw [← hSEP]; split <;> simp
                  have hi3 : (acc2 ++ SEP) ++ (Sp.refAltT a ++ (Sp.refAltsT (j + 1) (al.drop (j + 1)) ++ T4)) = T := by rw [← hi]; simp only [List.append_assoc]
                  have hlt := len_le_of hi3 htot
                  rw [List.length_append] at hlt
                  have HTX := Lib.hid (fun w (hb : Below W.heap.size W w) => ref7_altText a (fa j) w (hin.below hb) hx1 hx2 (by omega))
                  rw [hpv] at HTX hcc
                  generalize Sp.refAltT a = AT at *
                  have HI3 := Lib.hid hi3
                  have HSEP := Lib.hid hSEP
                  obtain ⟨aps, ⟨anm, alt, anu, apa⟩, apb⟩ := a
                  have d0 := hcc 0 _ rfl; have d1 := hcc 1 _ rfl; have d2 := hcc 2 _ rfl; have d3 := hcc 3 _ rfl; have d4 := hcc 4 _ rfl; have d5 := hcc 5 _ rfl
                  simp only [Nat.add_zero] at d0
                  have hj1 : (j : Int) < (na : Int) := by omega
                  have hko1 : (ko : Int) < (n : Int) := by omega
                  have hlb3 : b3 < wr.heap.size := by omega
                  have hacl2 : acc2.length + AT.length + 10 ≤ 9223372036854775807 := by omega
                  clear hc hcc hp hmem hdr hi HI hjl hin hpv hi3 hlt hSEP hlen1 hx1
                  by_cases hz : j = 0
                  · have hS : ([] : List UInt8) = SEP := by have h := HSEP.out; rwa [if_pos hz] at h
                    subst hS
                    have hzn : decide (0 < j) = false := by rw [decide_eq_false_iff_not]; omega
                    clear HSEP hz
                    go_wp2_with fail
                    refine (HTX.out _ (below_box HB.out)).mono ?_
                    rintro e w' ⟨rfl, hb'⟩
                    have HB2 := Lib.hid (HB.out.trans (hb'.mono hsz))
                    clear hb'
                    go_wp2_with fail
                    go_roundg (na - (j + 1))
                    case measure => omega
                    case rel => exact ⟨j + 1, acc2 ++ AT, by omega, rfl, by go_num, str_eq (by simp), by have h := HI3.out; simpa using h, HB2.out⟩
                  · have hS : ([32, 124] : List UInt8) = SEP := by have h := HSEP.out; rwa [if_neg hz] at h
                    subst hS
                    have hzp : 0 < j := by omega
                    clear HSEP hz
                    go_wp2_with fail
                    refine (HTX.out _ (below_box HB.out)).mono ?_
                    rintro e w' ⟨rfl, hb'⟩
                    have HB2 := Lib.hid (HB.out.trans (hb'.mono hsz))
                    clear hb'
                    go_wp2_with fail
                    go_roundg (na - (j + 1))
                    case measure => omega
                    case rel => exact ⟨j + 1, acc2 ++ 32 :: 124 :: AT, by omega, rfl, by go_num, str_eq (by simp), by have h := HI3.out; simpa using h, HB2.out⟩
                · obtain rfl : j = na := by omega
                  have hdn : al.drop j = [] := List.drop_of_length_le (by have := HNA.out; omega)
                  have hi := HI.out
                  rw [hdn, Sp.refAltsT, List.nil_append, HT4.out] at hi
                  have HI2 := Lib.hid hi
                  have hal3 : acc2.length + 3 ≤ 9223372036854775807 := by omega
                  have hko1 : (ko : Int) < (n : Int) := by omega
                  clear hi HI hdn
                  go_wp2_with fail
                  go_roundg (n - (ko + 1))
                  case measure => omega
                  case rel => exact ⟨ko + 1, acc2 ++ [32, 59, 10], by omega, rfl, by go_num, str_eq (by simp), by have h := HI2.out; simpa using h, HB.out⟩
            · obtain rfl : n = k := by omega
              have hdn : rs.drop n = [] := List.drop_of_length_le (by have := HN.out; omega)
              have hi := HI.out
              rw [hdn, List.flatMap_nil, List.nil_append] at hi
              have hTT := HTT.out
              have HI2 := Lib.hid hi
              clear hi HI hdn HTT
              cases tl with
              | nil =>
                rw [if_pos rfl] at hTT
                have HTT2 := Lib.hid hTT
                clear hTT
                go_wp2_with fail
                go_ret
                exact ⟨congrArg Ending.returned (str_eq (by rw [← HI2.out, ← HTT2.out]; simp)), below_box HB.out⟩
              | cons x xs =>
                rw [if_neg (by simp)] at hTT
                have hls : xs.length + 1 ≤ 4000 := by simpa using hs2
                have hacl : acc.length + xs.length + 10 ≤ 9223372036854775807 := by omega
                have HTT2 := Lib.hid hTT
                clear hTT
                go_wp2_with fail
                go_ret
                exact ⟨congrArg Ending.returned (str_eq (by rw [← HI2.out, ← HTT2.out]; simp)), below_box HB.out⟩
end Go.Proofs.YthmimcegiihcnaaGreatDoor
