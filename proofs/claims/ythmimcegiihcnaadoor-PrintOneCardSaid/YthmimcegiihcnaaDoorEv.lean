/- Layer 8, the reference: Same. -/
import Derived.Test.YthmimcegiihcnaaDoorEc
import Derived.Test.YthmimcegiihcnaaDoorEq
namespace Go.Proofs.YthmimcegiihcnaaDoor
open Go.RowKit

theorem below_two {W w' : World} {o1 o2 : Obj} (h : Below (W.heap.size + 2) ((W.alloc o1).alloc o2) w') : Below W.heap.size W w' := (((Below.refl _ W).alloc (Nat.le_refl _) o1).alloc (by simp) o2).trans (h.mono (by omega))
theorem heap_fst (w : World) (o1 o2 : Obj) : ((w.alloc o1).alloc o2).heap[w.heap.size]? = some o1 := (Below.heap_alloc _ _ _ (by simp)).trans (heap_last w o1)
theorem two_first {W w' : World} {c1 c2 : Array Value} {t1 t2 : TypeId} (h : Below (W.heap.size + 2) ((W.alloc (.cells c1 t1)).alloc (.cells c2 t2)) w') : w'.heap[W.heap.size]? = some (.cells c1 t1 (0, 0)) ∧ w'.heap[W.heap.size + 1]? = some (.cells c2 t2 (0, 0)) :=
  ⟨(h.block W.heap.size (by omega)).trans ((Below.heap_alloc _ _ _ (by simp)).trans (heap_last W _)), (h.block (W.heap.size + 1) (by omega)).trans (heap_sec W _ _)⟩

set_option maxRecDepth 100000 in
set_option maxHeartbeats 25600000 in
theorem ref7_Same (x y : Sp.Source) (vd vr vd2 vr2 : Value) (W : World) (hd : DeclsAt W vd x.decls) (hr : RulesAt W vr x.rules) (hd2 : DeclsAt W vd2 y.decls) (hr2 : RulesAt W vr2 y.rules) (hs : x.decls.length ≤ 4000 ∧ x.rules.length ≤ 4000 ∧ (∀ d ∈ x.decls, d.syms.length ≤ 4000) ∧ ∀ r ∈ x.rules, r.alts.length ≤ 4000 ∧ ∀ a ∈ r.alts, a.parts.length ≤ 4000) (hs2 : y.decls.length ≤ 4000 ∧ y.rules.length ≤ 4000 ∧ (∀ d ∈ y.decls, d.syms.length ≤ 4000) ∧ ∀ r ∈ y.rules, r.alts.length ≤ 4000 ∧ ∀ a ∈ r.alts, a.parts.length ≤ 4000) :
    Calls Tryd.prog 17 #[.agg (srcC vd vr x).toArray, .agg (srcC vd2 vr2 y).toArray] W fun e w' => e = .returned (.bool (Sp.same x y)) ∧ Below W.heap.size W w' := by
  obtain ⟨hs1, hs3, hs4, hs5⟩ := hs
  obtain ⟨hs21, hs23, hs24, hs25⟩ := hs2
  have hq : Sp.same x y = ((x.pro == y.pro) && ((x.tail == y.tail) && (Sp.all2 Sp.sameDecl x.decls y.decls && Sp.all2 Sp.sameRule x.rules y.rules))) := by
    unfold Sp.same
    simp only [Bool.and_assoc]
  rw [hq]
  obtain ⟨pr, ds, rs, tl⟩ := x
  obtain ⟨pr2, ds2, rs2, tl2⟩ := y
  simp only at hs1 hs3 hs4 hs5 hs21 hs23 hs24 hs25 hd hr hd2 hr2 ⊢
  clear hq
  obtain ⟨fd, hdA, hdB⟩ := hd
  obtain ⟨fr, hrA, hrB⟩ := hr
  obtain ⟨fd2, hdA2, hdB2⟩ := hd2
  obtain ⟨fr2, hrA2, hrB2⟩ := hr2
  obtain ⟨ad, cd, rfl⟩ := hdA.form
  obtain ⟨ar, cr, rfl⟩ := hrA.form
  obtain ⟨ad2, cd2, rfl⟩ := hdA2.form
  obtain ⟨ar2, cr2, rfl⟩ := hrA2.form
  have HDA := Lib.hid hdA; have HDB := Lib.hid hdB; have HRA := Lib.hid hrA; have HRB := Lib.hid hrB
  have HDA2 := Lib.hid hdA2; have HDB2 := Lib.hid hdB2; have HRA2 := Lib.hid hrA2; have HRB2 := Lib.hid hrB2
  rw [List.length_mapIdx] at *
  rw [List.length_mapIdx] at *
  rw [List.length_mapIdx] at *
  rw [List.length_mapIdx] at *
  have HS4 := Lib.hid hs4; have HS5 := Lib.hid hs5; have HS24 := Lib.hid hs24; have HS25 := Lib.hid hs25
  have HB := Lib.hid (fun o1 o2 : Obj => ((Below.refl _ W).alloc (Nat.le_refl _) o1).alloc (by simp) o2)
  clear hdA hdB hrA hrB hdA2 hdB2 hrA2 hrB2 hs4 hs5 hs24 hs25
  generalize hm : ds.length = m at *
  generalize hn : rs.length = n at *
  generalize hm2 : ds2.length = m2 at *
  generalize hn2 : rs2.length = n2 at *
  show Calls _ _ #[.agg #[.string ⟨pr.toArray⟩, .slice ad m cd, .slice ar n cr, .string ⟨tl.toArray⟩], .agg #[.string ⟨pr2.toArray⟩, .slice ad2 m2 cd2, .slice ar2 n2 cr2, .string ⟨tl2.toArray⟩]] _ _
  by_cases hpr : pr = pr2
  rotate_left
  · have e1 : (pr == pr2) = false := by rw [beq_eq_false_iff_ne]; exact hpr
    rw [e1]
    clear hpr hm hn hm2 hn2
    go_enter Tryd.func17, Tryd.ntmps17
    go_wp2_with fail
    go_ret
    exact ⟨ret_bool (by simp), HB.out _ _⟩
  subst hpr
  by_cases htl : tl = tl2
  rotate_left
  · have e1 : (tl == tl2) = false := by rw [beq_eq_false_iff_ne]; exact htl
    rw [e1]
    clear htl hm hn hm2 hn2
    go_enter Tryd.func17, Tryd.ntmps17
    go_wp2_with fail
    go_ret
    exact ⟨ret_bool (by simp), HB.out _ _⟩
  subst htl
  by_cases hmm : m = m2
  rotate_left
  · have e1 : ((m : Int) != (m2 : Int)) = true := by rw [bne_iff_ne]; omega
    rw [Sp.all2_len Sp.sameDecl ds ds2 (by omega)]
    clear hmm hm hn hm2 hn2
    go_enter Tryd.func17, Tryd.ntmps17
    go_wp2_with fail
    go_ret
    exact ⟨ret_bool (by simp), HB.out _ _⟩
  subst hmm
  by_cases hnn : n = n2
  rotate_left
  · have e1 : ((n : Int) != (n2 : Int)) = true := by rw [bne_iff_ne]; omega
    rw [Sp.all2_len Sp.sameRule rs rs2 (by omega)]
    clear hnn hm hn hm2 hn2
    go_enter Tryd.func17, Tryd.ntmps17
    go_wp2_with fail
    go_ret
    exact ⟨ret_bool (by simp), HB.out _ _⟩
  subst hnn
  have HM := Lib.hid hm; have HN := Lib.hid hn; have HM2 := Lib.hid hm2; have HN2 := Lib.hid hn2
  generalize hR2 : Sp.all2 Sp.sameDecl ds ds2 = R2
  generalize hR3 : Sp.all2 Sp.sameRule rs rs2 = R3
  have HQ2 := Lib.hid hR2; have HQ3 := Lib.hid hR3
  clear hm hn hm2 hn2 hR2 hR3
  have hfin : ((pr == pr) && ((tl == tl) && (R2 && R3))) = (R2 && R3) := by simp
  rw [hfin]
  clear hfin
  go_enter Tryd.func17, Tryd.ntmps17
  go_wp2_with fail
  go_loopg [5] m (fun g iv wr => ∃ k : Nat, k ≤ m ∧ g = m - k ∧ iv = .int .i64 k ∧ Sp.all2 Sp.sameDecl (ds.drop k) (ds2.drop k) = R2 ∧ Below (W.heap.size + 2) ((W.alloc (.cells #[.string ⟨pr.toArray⟩, .slice ad m cd, .slice ar n cr, .string ⟨tl.toArray⟩] 29)).alloc (.cells #[.string ⟨pr.toArray⟩, .slice ad2 m cd2, .slice ar2 n cr2, .string ⟨tl.toArray⟩] 29)) wr)
  case atStart => exact ⟨0, Nat.zero_le _, rfl, rfl, HQ2.out, Below.refl _ _⟩
  case round =>
    obtain ⟨k, hk, rfl, rfl, hi, hbel⟩ := hrel
    have HI := Lib.hid hi
    obtain ⟨hF1, hF2⟩ := two_first hbel
    have b1 := cell_at (i := 1) hF1; have b1' := cell_at (i := 1) hF2
    have hl1 := lt_at hF1; have hl2 := lt_at hF2
    have HBR := Lib.hid hbel
    have hk0 : (0 : Int) ≤ (k : Int) := Int.natCast_nonneg _
    have hsz : W.heap.size + 2 ≤ wr.heap.size := by have := hbel.size; simp at this; omega
    clear hi hbel hF1 hF2
    by_cases hkn : k < m
    · have hkl : k < ds.length := by have := HM.out; omega
      have hkl2 : k < ds2.length := by have := HM2.out; omega
      have hp : ds[k]? = some ds[k] := List.getElem?_eq_getElem hkl
      have hp2 : ds2[k]? = some ds2[k] := List.getElem?_eq_getElem hkl2
      have hdr : ds.drop k = ds[k] :: ds.drop (k + 1) := List.drop_eq_getElem_cons hkl
      have hdr2 : ds2.drop k = ds2[k] :: ds2.drop (k + 1) := List.drop_eq_getElem_cons hkl2
      have hsm := HS4.out ds[k] (List.getElem_mem hkl)
      have hsm2 := HS24.out ds2[k] (List.getElem_mem hkl2)
      generalize ds[k] = d at *
      generalize ds2[k] = d2 at *
      obtain ⟨b, off, rfl, hbl, hc⟩ := HDA.out.at (k := k) (idx_row hp)
      obtain ⟨b2, off2, rfl, hbl2, hc2⟩ := HDA2.out.at (k := k) (idx_row hp2)
      have hin := HDB.out k d hp
      have hin2 := HDB2.out k d2 hp2
      obtain ⟨xv, xc, hxv⟩ := hin.form
      obtain ⟨yv, yc, hyv⟩ := hin2.form
      rw [hxv] at hin hc
      rw [hyv] at hin2 hc2
      rw [List.length_map] at hin hc hin2 hc2
      have hi := HI.out
      rw [hdr, hdr2] at hi
      have hi' : (Sp.sameDecl d d2 && Sp.all2 Sp.sameDecl (ds.drop (k + 1)) (ds2.drop (k + 1))) = R2 := hi
      have hsd : Sp.sameDecl d d2 = ((d.kind == d2.kind) && ((d.tag == d2.tag) && Sp.all2 Sp.sameSym d.syms d2.syms)) := by unfold Sp.sameDecl; rw [Bool.and_assoc]
      rw [hsd] at hi'
      obtain ⟨xk, xt, xs, xp⟩ := d
      obtain ⟨yk, yt, ys, yp⟩ := d2
      have HI2 := Lib.hid (show (((xk == yk) && ((xt == yt) && Sp.all2 Sp.sameSym xs ys)) && Sp.all2 Sp.sameDecl (ds.drop (k + 1)) (ds2.drop (k + 1))) = R2 from hi')
      have hsx : xs.length ≤ 4000 := hsm
      have hsy : ys.length ≤ 4000 := hsm2
      simp only at hin hin2 hc hc2
      have HIN := Lib.hid hin; have HIN2 := Lib.hid hin2
      generalize hxn : xs.length = xn at *
      generalize hyn : ys.length = yn at *
      have HXN := Lib.hid hxn; have HYN := Lib.hid hyn
      have hks : ∀ w', Below (W.heap.size + 2) ((W.alloc (.cells #[.string ⟨pr.toArray⟩, .slice (some ⟨b, off, none⟩) m cd, .slice ar n cr, .string ⟨tl.toArray⟩] 29)).alloc (.cells #[.string ⟨pr.toArray⟩, .slice (some ⟨b2, off2, none⟩) m cd2, .slice ar2 n cr2, .string ⟨tl.toArray⟩] 29)) w' → w'.cell? ⟨W.heap.size, 1, none⟩ = some (.slice (some ⟨b, off, none⟩) m cd) ∧ w'.cell? ⟨W.heap.size + 1, 1, none⟩ = some (.slice (some ⟨b2, off2, none⟩) m cd2) ∧ w'.cell? ⟨b, off + k * 4, none⟩ = some (.int .i64 xk) ∧ w'.cell? ⟨b, off + k * 4 + 1, none⟩ = some (.string ⟨xt.toArray⟩) ∧ w'.cell? ⟨b, off + k * 4 + 2, none⟩ = some (.slice xv xn xc) ∧ w'.cell? ⟨b, off + k * 4 + 3, none⟩ = some (.int .i64 xp) ∧ w'.cell? ⟨b2, off2 + k * 4, none⟩ = some (.int .i64 yk) ∧ w'.cell? ⟨b2, off2 + k * 4 + 1, none⟩ = some (.string ⟨yt.toArray⟩) ∧ w'.cell? ⟨b2, off2 + k * 4 + 2, none⟩ = some (.slice yv yn yc) ∧ w'.cell? ⟨b2, off2 + k * 4 + 3, none⟩ = some (.int .i64 yp) := fun w' h => by
        obtain ⟨hF1, hF2⟩ := two_first h
        have hcc := hc _ (below_two h)
        have hcc2 := hc2 _ (below_two h)
        simp only [declC] at hcc hcc2
        exact ⟨cell_at (i := 1) hF1, cell_at (i := 1) hF2, hcc 0 _ rfl, hcc 1 _ rfl, hcc 2 _ rfl, hcc 3 _ rfl, hcc2 0 _ rfl, hcc2 1 _ rfl, hcc2 2 _ rfl, hcc2 3 _ rfl⟩
      have HKS := Lib.hid hks
      have hk1 : (k : Int) < (m : Int) := by omega
      have hlb : b < wr.heap.size := by omega
      have hlb2 : b2 < wr.heap.size := by omega
      clear hc hc2 hp hp2 hdr hdr2 hi hi' hsd HI hks hkl hkl2 hin hin2 hxv hyv hxn hyn hsm hsm2
      go_upto_region 6 with fail
      go_cut [6, 7] (fun s6 s7 wx => ∃ g6 g7 : Nat, s6 = .pointer (some ⟨g6, 0, none⟩) ∧ s7 = .pointer (some ⟨g7, 0, none⟩) ∧ wx.heap[g6]? = some (.cells #[.int .i64 xk, .string ⟨xt.toArray⟩, .slice xv xn xc, .int .i64 xp] 43 (0, 0)) ∧ wx.heap[g7]? = some (.cells #[.int .i64 yk, .string ⟨yt.toArray⟩, .slice yv yn yc, .int .i64 yp] 43 (0, 0)) ∧ Below wr.heap.size wr wx)
      case first =>
        go_wp2_with fail
        go_region_held3 (fun w' => w'.cell? ⟨W.heap.size, 1, none⟩ = some (.slice (some ⟨b, off, none⟩) m cd) ∧ w'.cell? ⟨W.heap.size + 1, 1, none⟩ = some (.slice (some ⟨b2, off2, none⟩) m cd2) ∧ w'.cell? ⟨b, off + k * 4, none⟩ = some (.int .i64 xk) ∧ w'.cell? ⟨b, off + k * 4 + 1, none⟩ = some (.string ⟨xt.toArray⟩) ∧ w'.cell? ⟨b, off + k * 4 + 2, none⟩ = some (.slice xv xn xc) ∧ w'.cell? ⟨b, off + k * 4 + 3, none⟩ = some (.int .i64 xp) ∧ w'.cell? ⟨b2, off2 + k * 4, none⟩ = some (.int .i64 yk) ∧ w'.cell? ⟨b2, off2 + k * 4 + 1, none⟩ = some (.string ⟨yt.toArray⟩) ∧ w'.cell? ⟨b2, off2 + k * 4 + 2, none⟩ = some (.slice yv yn yc) ∧ w'.cell? ⟨b2, off2 + k * 4 + 3, none⟩ = some (.int .i64 yp))
          (first
            | exact HKS.out _ HBR.out
            | exact HKS.out _ (below_drewN HBR.out 1)
            | exact HKS.out _ (below_drewN (HBR.out.alloc hsz _) 1)
            | exact HKS.out _ (below_drewN ((HBR.out.alloc hsz _).alloc (by simp; omega) _) 1)
            | go_keep)
          (fail)
        all_goals
          go_wp2_with fail
          go_meet
          first
            | exact ⟨wr.heap.size, wr.heap.size + 1, rfl, rfl, heap_fst _ _ _, heap_sec _ _ _, below_drewN (((Below.refl _ wr).alloc (Nat.le_refl _) _).alloc (by simp) _) 1⟩
            | exact ⟨wr.heap.size + 1, wr.heap.size, rfl, rfl, heap_sec _ _ _, heap_fst _ _ _, below_drewN (((Below.refl _ wr).alloc (Nat.le_refl _) _).alloc (by simp) _) 1⟩
      case rest =>
        obtain ⟨g6, g7, rfl, rfl, hg6, hg7, hbx⟩ := hcut
        have x0 := cell_at (i := 0) hg6; have x1 := cell_at (i := 1) hg6; have x2 := cell_at (i := 2) hg6
        have y0 := cell_at (i := 0) hg7; have y1 := cell_at (i := 1) hg7; have y2 := cell_at (i := 2) hg7
        have hlg6 := lt_at hg6; have hlg7 := lt_at hg7
        have HG6 := Lib.hid hg6; have HG7 := Lib.hid hg7
        have HNW := Lib.hid (fun (w2 : World) (h : Below wc.heap.size wc w2) => (HBR.out.trans (hbx.mono hsz)).trans (h.mono (Nat.le_trans hsz hbx.size)))
        obtain ⟨hF1, hF2⟩ := two_first (HNW.out _ (Below.refl _ _))
        clear b1 b1' hl1 hl2
        have b1 := cell_at (i := 1) hF1; have b1' := cell_at (i := 1) hF2
        have hl1 := lt_at hF1; have hl2 := lt_at hF2
        clear hg6 hg7 hbx HKS hF1 hF2
        by_cases hkk : xk = yk
        rotate_left
        · have e1 : (xk == yk) = false := by rw [beq_eq_false_iff_ne]; exact hkk
          have e2 : (xk != yk) = true := by rw [bne_iff_ne]; exact hkk
          have HI3 : Hid (false = R2) := Lib.hid (by rw [← HI2.out, e1]; simp)
          clear HI2 hkk
          go_wp2_with fail
          go_ret
          exact ⟨ret_bool (by rw [← HI3.out]; simp), below_two (HNW.out _ (Below.refl _ _))⟩
        subst hkk
        by_cases htt : xt = yt
        rotate_left
        · have e1 : (xt == yt) = false := by rw [beq_eq_false_iff_ne]; exact htt
          have HI3 : Hid (false = R2) := Lib.hid (by rw [← HI2.out, e1]; simp)
          clear HI2 htt
          go_wp2_with fail
          go_ret
          exact ⟨ret_bool (by rw [← HI3.out]; simp), below_two (HNW.out _ (Below.refl _ _))⟩
        subst htt
        by_cases hnn : xn = yn
        rotate_left
        · have e1 : ((xn : Int) != (yn : Int)) = true := by rw [bne_iff_ne]; omega
          have HI3 : Hid (false = R2) := Lib.hid (by rw [← HI2.out, Sp.all2_len Sp.sameSym xs ys (by have h1 := HXN.out; have h2 := HYN.out; omega)]; simp)
          clear HI2 hnn
          go_wp2_with fail
          go_ret
          exact ⟨ret_bool (by rw [← HI3.out]; simp), below_two (HNW.out _ (Below.refl _ _))⟩
        subst hnn
        generalize hR5 : Sp.all2 Sp.sameSym xs ys = R5 at HI2
        have HR5 := Lib.hid hR5
        have HI3 := Lib.hid (show (R5 && Sp.all2 Sp.sameDecl (ds.drop (k + 1)) (ds2.drop (k + 1))) = R2 by rw [← HI2.out]; simp)
        clear HI2 hR5
        go_wp2_with fail
        obtain ⟨ko, hko⟩ : ∃ ko : Nat, ko = k := ⟨_, rfl⟩
        subst hko
        go_loopg [8] xn (fun g iv wr => ∃ j : Nat, j ≤ xn ∧ g = xn - j ∧ iv = .int .i64 j ∧ Sp.all2 Sp.sameSym (xs.drop j) (ys.drop j) = R5 ∧ Below wc.heap.size wc wr)
        case atStart => exact ⟨0, Nat.zero_le _, rfl, rfl, HR5.out, Below.refl _ _⟩
        case round =>
          clear x0 x1 x2 y0 y1 y2 b1 b1' hl1 hl2
          obtain ⟨j, hj, rfl, rfl, hi, hbel⟩ := hrel
          have HI := Lib.hid hi
          have hG6 := (hbel.block g6 hlg6).trans HG6.out
          have hG7 := (hbel.block g7 hlg7).trans HG7.out
          have z6 := cell_at (i := 2) hG6; have z7 := cell_at (i := 2) hG7
          have hlz6 := lt_at hG6; have hlz7 := lt_at hG7
          obtain ⟨hF1, hF2⟩ := two_first (HNW.out _ hbel)
          have b1 := cell_at (i := 1) hF1; have b1' := cell_at (i := 1) hF2
          have hl1 := lt_at hF1; have hl2 := lt_at hF2
          have HBJ := Lib.hid hbel
          have hj0 : (0 : Int) ≤ (j : Int) := Int.natCast_nonneg _
          have hsj : wc.heap.size ≤ wr.heap.size := hbel.size
          clear hi hbel hG6 hG7 hF1 hF2
          by_cases hjn : j < xn
          · have hjl : j < xs.length := by have := HXN.out; omega
            have hjl2 : j < ys.length := by have := HYN.out; omega
            have hp : xs[j]? = some xs[j] := List.getElem?_eq_getElem hjl
            have hp2 : ys[j]? = some ys[j] := List.getElem?_eq_getElem hjl2
            have hdr : xs.drop j = xs[j] :: xs.drop (j + 1) := List.drop_eq_getElem_cons hjl
            have hdr2 : ys.drop j = ys[j] :: ys.drop (j + 1) := List.drop_eq_getElem_cons hjl2
            generalize xs[j] = a at *
            generalize ys[j] = a2 at *
            obtain ⟨b3, off3, rfl, hbl3, hc⟩ := HIN.out.at (k := j) (row := symC a) (by rw [List.getElem?_map, hp]; rfl)
            obtain ⟨b4, off4, rfl, hbl4, hc2⟩ := HIN2.out.at (k := j) (row := symC a2) (by rw [List.getElem?_map, hp2]; rfl)
            have HES := Lib.hid (fun w (_ : Below W.heap.size W w) => ref7_EqSym a a2 w)
            have hi := HI.out
            rw [hdr, hdr2] at hi
            have hi' : (Sp.sameSym a a2 && Sp.all2 Sp.sameSym (xs.drop (j + 1)) (ys.drop (j + 1))) = R5 := hi
            clear hi
            generalize Sp.sameSym a a2 = q at *
            have HI2 := Lib.hid hi'
            obtain ⟨an, al, au, aa⟩ := a
            obtain ⟨an2, al2, au2, aa2⟩ := a2
            have hks : ∀ w', Below wc.heap.size wc w' → w'.cell? ⟨g6, 2, none⟩ = some (.slice (some ⟨b3, off3, none⟩) xn xc) ∧ w'.cell? ⟨g7, 2, none⟩ = some (.slice (some ⟨b4, off4, none⟩) xn yc) ∧ w'.cell? ⟨b3, off3 + j * 4, none⟩ = some (.string ⟨an.toArray⟩) ∧ w'.cell? ⟨b3, off3 + j * 4 + 1, none⟩ = some (.bool al) ∧ w'.cell? ⟨b3, off3 + j * 4 + 2, none⟩ = some (.int .i64 au) ∧ w'.cell? ⟨b3, off3 + j * 4 + 3, none⟩ = some (.int .i64 aa) ∧ w'.cell? ⟨b4, off4 + j * 4, none⟩ = some (.string ⟨an2.toArray⟩) ∧ w'.cell? ⟨b4, off4 + j * 4 + 1, none⟩ = some (.bool al2) ∧ w'.cell? ⟨b4, off4 + j * 4 + 2, none⟩ = some (.int .i64 au2) ∧ w'.cell? ⟨b4, off4 + j * 4 + 3, none⟩ = some (.int .i64 aa2) := fun w' h => by
              have hbw := below_two (HNW.out _ h)
              have hcc := hc _ hbw
              have hcc2 := hc2 _ hbw
              exact ⟨cell_at (i := 2) ((h.block g6 hlg6).trans HG6.out), cell_at (i := 2) ((h.block g7 hlg7).trans HG7.out), hcc 0 _ rfl, hcc 1 _ rfl, hcc 2 _ rfl, hcc 3 _ rfl, hcc2 0 _ rfl, hcc2 1 _ rfl, hcc2 2 _ rfl, hcc2 3 _ rfl⟩
            have HKS2 := Lib.hid hks
            have HCL := Lib.hid (fun w (hb : Below wc.heap.size wc w) => HES.out w (below_two (HNW.out _ hb)))
            have hj1 : (j : Int) < (xn : Int) := by omega
            clear hc hc2 hp hp2 hdr hdr2 hi' HI hks hjl hjl2 HES
            go_wp2_with fail
            go_region_held3 (fun w' => w'.cell? ⟨g6, 2, none⟩ = some (.slice (some ⟨b3, off3, none⟩) xn xc) ∧ w'.cell? ⟨g7, 2, none⟩ = some (.slice (some ⟨b4, off4, none⟩) xn yc) ∧ w'.cell? ⟨b3, off3 + j * 4, none⟩ = some (.string ⟨an.toArray⟩) ∧ w'.cell? ⟨b3, off3 + j * 4 + 1, none⟩ = some (.bool al) ∧ w'.cell? ⟨b3, off3 + j * 4 + 2, none⟩ = some (.int .i64 au) ∧ w'.cell? ⟨b3, off3 + j * 4 + 3, none⟩ = some (.int .i64 aa) ∧ w'.cell? ⟨b4, off4 + j * 4, none⟩ = some (.string ⟨an2.toArray⟩) ∧ w'.cell? ⟨b4, off4 + j * 4 + 1, none⟩ = some (.bool al2) ∧ w'.cell? ⟨b4, off4 + j * 4 + 2, none⟩ = some (.int .i64 au2) ∧ w'.cell? ⟨b4, off4 + j * 4 + 3, none⟩ = some (.int .i64 aa2))
              (first
                | exact HKS2.out _ HBJ.out
                | exact HKS2.out _ (below_drewN HBJ.out 1)
                | exact HKS2.out _ ((below_drewN HBJ.out 1).trans (hb'.mono hsj))
                | go_keep)
              ((first
                | (go_at_call 52; refine (HCL.out _ ?_).mono ?_; (first | exact HBJ.out | exact below_drewN HBJ.out 1); rintro e w' ⟨rfl, hb'⟩)))
            all_goals
              have HBJ2 := Lib.hid (HBJ.out.trans ((below_undrew hb').mono hsj))
              clear hb'
              cases q with
              | false =>
                go_wp2_with fail
                go_ret
                exact ⟨ret_bool (by rw [← HI3.out, ← HI2.out]; simp), below_two (HNW.out _ HBJ2.out)⟩
              | true =>
                go_wp2_with fail
                go_roundg (xn - (j + 1))
                case measure => omega
                case rel => exact ⟨j + 1, by omega, rfl, by go_num, by rw [← HI2.out]; rfl, HBJ2.out⟩
          · obtain rfl : j = xn := by omega
            have hdn : xs.drop j = [] := List.drop_of_length_le (by have := HXN.out; omega)
            have hdn2 : ys.drop j = [] := List.drop_of_length_le (by have := HYN.out; omega)
            have hi := HI.out
            rw [hdn, hdn2] at hi
            have hR5 : true = R5 := hi
            subst hR5
            have hko1 : (ko : Int) < (m : Int) := by omega
            clear hi HI hdn hdn2
            go_wp2_with fail
            go_roundg (m - (ko + 1))
            case measure => omega
            case rel => exact ⟨ko + 1, by omega, rfl, by go_num, by rw [← HI3.out]; simp, HNW.out _ HBJ.out⟩
    · obtain rfl : m = k := by omega
      have hdn : ds.drop m = [] := List.drop_of_length_le (by have := HM.out; omega)
      have hdn2 : ds2.drop m = [] := List.drop_of_length_le (by have := HM2.out; omega)
      have hi := HI.out
      rw [hdn, hdn2] at hi
      have hR2 : true = R2 := hi
      subst hR2
      clear hi HI hdn hdn2
      go_wp2_with fail
      go_loopg [9] n (fun g iv wr => ∃ k : Nat, k ≤ n ∧ g = n - k ∧ iv = .int .i64 k ∧ Sp.all2 Sp.sameRule (rs.drop k) (rs2.drop k) = R3 ∧ Below (W.heap.size + 2) ((W.alloc (.cells #[.string ⟨pr.toArray⟩, .slice ad m cd, .slice ar n cr, .string ⟨tl.toArray⟩] 29)).alloc (.cells #[.string ⟨pr.toArray⟩, .slice ad2 m cd2, .slice ar2 n cr2, .string ⟨tl.toArray⟩] 29)) wr)
      case atStart => exact ⟨0, Nat.zero_le _, rfl, rfl, HQ3.out, HBR.out⟩
      case round =>
        clear b1 b1' hl1 hl2 HBR hkn hk hk0 hsz
        obtain ⟨k, hk, rfl, rfl, hi, hbel⟩ := hrel
        have HI := Lib.hid hi
        obtain ⟨hF1, hF2⟩ := two_first hbel
        have b1 := cell_at (i := 2) hF1; have b1' := cell_at (i := 2) hF2
        have hl1 := lt_at hF1; have hl2 := lt_at hF2
        have HBR := Lib.hid hbel
        have hk0 : (0 : Int) ≤ (k : Int) := Int.natCast_nonneg _
        have hsz : W.heap.size + 2 ≤ wr.heap.size := by have := hbel.size; simp at this; omega
        clear hi hbel hF1 hF2
        by_cases hkn : k < n
        · have hkl : k < rs.length := by have := HN.out; omega
          have hkl2 : k < rs2.length := by have := HN2.out; omega
          have hp : rs[k]? = some rs[k] := List.getElem?_eq_getElem hkl
          have hp2 : rs2[k]? = some rs2[k] := List.getElem?_eq_getElem hkl2
          have hdr : rs.drop k = rs[k] :: rs.drop (k + 1) := List.drop_eq_getElem_cons hkl
          have hdr2 : rs2.drop k = rs2[k] :: rs2.drop (k + 1) := List.drop_eq_getElem_cons hkl2
          obtain ⟨hsm, hsmx⟩ := HS5.out rs[k] (List.getElem_mem hkl)
          obtain ⟨hsm2, hsmy⟩ := HS25.out rs2[k] (List.getElem_mem hkl2)
          generalize rs[k] = r at *
          generalize rs2[k] = r2 at *
          obtain ⟨b, off, rfl, hbl, hc⟩ := HRA.out.at (k := k) (idx_row hp)
          obtain ⟨b2, off2, rfl, hbl2, hc2⟩ := HRA2.out.at (k := k) (idx_row hp2)
          obtain ⟨fa, hia, hib⟩ := HRB.out k r hp
          obtain ⟨fa2, hia2, hib2⟩ := HRB2.out k r2 hp2
          obtain ⟨xv, xc, hxv⟩ := hia.form
          obtain ⟨yv, yc, hyv⟩ := hia2.form
          rw [List.length_mapIdx] at hxv hyv
          rw [hxv] at hia hc
          rw [hyv] at hia2 hc2
          have hi := HI.out
          rw [hdr, hdr2] at hi
          have hi' : (Sp.sameRule r r2 && Sp.all2 Sp.sameRule (rs.drop (k + 1)) (rs2.drop (k + 1))) = R3 := hi
          have hsd : Sp.sameRule r r2 = ((r.left == r2.left) && Sp.all2 Sp.sameAlt r.alts r2.alts) := rfl
          rw [hsd] at hi'
          obtain ⟨xl, xs, xp⟩ := r
          obtain ⟨yl, ys, yp⟩ := r2
          have HI2 := Lib.hid (show ((xl == yl) && Sp.all2 Sp.sameAlt xs ys && Sp.all2 Sp.sameRule (rs.drop (k + 1)) (rs2.drop (k + 1))) = R3 from hi')
          simp only at hia hia2 hc hc2 hib hib2 hsm hsm2 hsmx hsmy
          have HIA := Lib.hid hia; have HIA2 := Lib.hid hia2; have HIB := Lib.hid hib; have HIB2 := Lib.hid hib2
          have HSX := Lib.hid hsmx; have HSY := Lib.hid hsmy
          generalize hxn : xs.length = xn at *
          generalize hyn : ys.length = yn at *
          have HXN := Lib.hid hxn; have HYN := Lib.hid hyn
          have hks : ∀ w', Below (W.heap.size + 2) ((W.alloc (.cells #[.string ⟨pr.toArray⟩, .slice ad m cd, .slice (some ⟨b, off, none⟩) n cr, .string ⟨tl.toArray⟩] 29)).alloc (.cells #[.string ⟨pr.toArray⟩, .slice ad2 m cd2, .slice (some ⟨b2, off2, none⟩) n cr2, .string ⟨tl.toArray⟩] 29)) w' → w'.cell? ⟨W.heap.size, 2, none⟩ = some (.slice (some ⟨b, off, none⟩) n cr) ∧ w'.cell? ⟨W.heap.size + 1, 2, none⟩ = some (.slice (some ⟨b2, off2, none⟩) n cr2) ∧ w'.cell? ⟨b, off + k * 3, none⟩ = some (.string ⟨xl.toArray⟩) ∧ w'.cell? ⟨b, off + k * 3 + 1, none⟩ = some (.slice xv xn xc) ∧ w'.cell? ⟨b, off + k * 3 + 2, none⟩ = some (.int .i64 xp) ∧ w'.cell? ⟨b2, off2 + k * 3, none⟩ = some (.string ⟨yl.toArray⟩) ∧ w'.cell? ⟨b2, off2 + k * 3 + 1, none⟩ = some (.slice yv yn yc) ∧ w'.cell? ⟨b2, off2 + k * 3 + 2, none⟩ = some (.int .i64 yp) := fun w' h => by
            obtain ⟨hF1, hF2⟩ := two_first h
            have hcc := hc _ (below_two h)
            have hcc2 := hc2 _ (below_two h)
            exact ⟨cell_at (i := 2) hF1, cell_at (i := 2) hF2, hcc 0 _ rfl, hcc 1 _ rfl, hcc 2 _ rfl, hcc2 0 _ rfl, hcc2 1 _ rfl, hcc2 2 _ rfl⟩
          have HKS := Lib.hid hks
          have hk1 : (k : Int) < (n : Int) := by omega
          have hlb : b < wr.heap.size := by omega
          have hlb2 : b2 < wr.heap.size := by omega
          clear hc hc2 hp hp2 hdr hdr2 hi hi' hsd HI hks hkl hkl2 hia hia2 hib hib2 hxv hyv hxn hyn hsmx hsmy
          go_upto_region 17 with fail
          go_cut [10, 11] (fun s6 s7 wx => ∃ g6 g7 : Nat, s6 = .pointer (some ⟨g6, 0, none⟩) ∧ s7 = .pointer (some ⟨g7, 0, none⟩) ∧ wx.heap[g6]? = some (.cells #[.string ⟨xl.toArray⟩, .slice xv xn xc, .int .i64 xp] 52 (0, 0)) ∧ wx.heap[g7]? = some (.cells #[.string ⟨yl.toArray⟩, .slice yv yn yc, .int .i64 yp] 52 (0, 0)) ∧ Below wr.heap.size wr wx)
          case first =>
            go_wp2_with fail
            go_region_held3 (fun w' => w'.cell? ⟨W.heap.size, 2, none⟩ = some (.slice (some ⟨b, off, none⟩) n cr) ∧ w'.cell? ⟨W.heap.size + 1, 2, none⟩ = some (.slice (some ⟨b2, off2, none⟩) n cr2) ∧ w'.cell? ⟨b, off + k * 3, none⟩ = some (.string ⟨xl.toArray⟩) ∧ w'.cell? ⟨b, off + k * 3 + 1, none⟩ = some (.slice xv xn xc) ∧ w'.cell? ⟨b, off + k * 3 + 2, none⟩ = some (.int .i64 xp) ∧ w'.cell? ⟨b2, off2 + k * 3, none⟩ = some (.string ⟨yl.toArray⟩) ∧ w'.cell? ⟨b2, off2 + k * 3 + 1, none⟩ = some (.slice yv yn yc) ∧ w'.cell? ⟨b2, off2 + k * 3 + 2, none⟩ = some (.int .i64 yp))
              (first
                | exact HKS.out _ HBR.out
                | exact HKS.out _ (below_drewN HBR.out 1)
                | exact HKS.out _ (below_drewN (HBR.out.alloc hsz _) 1)
                | exact HKS.out _ (below_drewN ((HBR.out.alloc hsz _).alloc (by simp; omega) _) 1)
                | go_keep)
              (fail)
            all_goals
              go_wp2_with fail
              go_meet
              first
                | exact ⟨wr.heap.size, wr.heap.size + 1, rfl, rfl, heap_fst _ _ _, heap_sec _ _ _, below_drewN (((Below.refl _ wr).alloc (Nat.le_refl _) _).alloc (by simp) _) 1⟩
                | exact ⟨wr.heap.size + 1, wr.heap.size, rfl, rfl, heap_sec _ _ _, heap_fst _ _ _, below_drewN (((Below.refl _ wr).alloc (Nat.le_refl _) _).alloc (by simp) _) 1⟩
          case rest =>
            obtain ⟨g6, g7, rfl, rfl, hg6, hg7, hbx⟩ := hcut
            have x0 := cell_at (i := 0) hg6; have x1 := cell_at (i := 1) hg6; have x2 := cell_at (i := 2) hg6
            have y0 := cell_at (i := 0) hg7; have y1 := cell_at (i := 1) hg7; have y2 := cell_at (i := 2) hg7
            have hlg6 := lt_at hg6; have hlg7 := lt_at hg7
            have HG6 := Lib.hid hg6; have HG7 := Lib.hid hg7
            have HNW := Lib.hid (fun (w2 : World) (h : Below wc.heap.size wc w2) => (HBR.out.trans (hbx.mono hsz)).trans (h.mono (Nat.le_trans hsz hbx.size)))
            obtain ⟨hF1, hF2⟩ := two_first (HNW.out _ (Below.refl _ _))
            clear b1 b1' hl1 hl2
            have b1 := cell_at (i := 2) hF1; have b1' := cell_at (i := 2) hF2
            have hl1 := lt_at hF1; have hl2 := lt_at hF2
            clear hg6 hg7 hbx HKS hF1 hF2
            by_cases htt : xl = yl
            rotate_left
            · have e1 : (xl == yl) = false := by rw [beq_eq_false_iff_ne]; exact htt
              have HI3 : Hid (false = R3) := Lib.hid (by rw [← HI2.out, e1]; simp)
              clear HI2 htt
              go_wp2_with fail
              go_ret
              exact ⟨ret_bool (by rw [← HI3.out]; simp), below_two (HNW.out _ (Below.refl _ _))⟩
            subst htt
            by_cases hnn : xn = yn
            rotate_left
            · have e1 : ((xn : Int) != (yn : Int)) = true := by rw [bne_iff_ne]; omega
              have HI3 : Hid (false = R3) := Lib.hid (by rw [← HI2.out, Sp.all2_len Sp.sameAlt xs ys (by have h1 := HXN.out; have h2 := HYN.out; omega)]; simp)
              clear HI2 hnn
              go_wp2_with fail
              go_ret
              exact ⟨ret_bool (by rw [← HI3.out]; simp), below_two (HNW.out _ (Below.refl _ _))⟩
            subst hnn
            generalize hR5 : Sp.all2 Sp.sameAlt xs ys = R5 at HI2
            have HR5 := Lib.hid hR5
            have HI3 := Lib.hid (show (R5 && Sp.all2 Sp.sameRule (rs.drop (k + 1)) (rs2.drop (k + 1))) = R3 by rw [← HI2.out]; simp)
            clear HI2 hR5
            go_wp2_with fail
            obtain ⟨ko, hko⟩ : ∃ ko : Nat, ko = k := ⟨_, rfl⟩
            subst hko
            go_loopg [12] xn (fun g iv wr => ∃ j : Nat, j ≤ xn ∧ g = xn - j ∧ iv = .int .i64 j ∧ Sp.all2 Sp.sameAlt (xs.drop j) (ys.drop j) = R5 ∧ Below wc.heap.size wc wr)
            case atStart => exact ⟨0, Nat.zero_le _, rfl, rfl, HR5.out, Below.refl _ _⟩
            case round =>
              clear x0 x1 x2 y0 y1 y2 b1 b1' hl1 hl2
              obtain ⟨j, hj, rfl, rfl, hi, hbel⟩ := hrel
              have HI := Lib.hid hi
              have hG6 := (hbel.block g6 hlg6).trans HG6.out
              have hG7 := (hbel.block g7 hlg7).trans HG7.out
              have z6 := cell_at (i := 1) hG6; have z7 := cell_at (i := 1) hG7
              have hlz6 := lt_at hG6; have hlz7 := lt_at hG7
              obtain ⟨hF1, hF2⟩ := two_first (HNW.out _ hbel)
              have b1 := cell_at (i := 2) hF1; have b1' := cell_at (i := 2) hF2
              have hl1 := lt_at hF1; have hl2 := lt_at hF2
              have HBJ := Lib.hid hbel
              have hj0 : (0 : Int) ≤ (j : Int) := Int.natCast_nonneg _
              have hsj : wc.heap.size ≤ wr.heap.size := hbel.size
              clear hi hbel hG6 hG7 hF1 hF2
              by_cases hjn : j < xn
              · have hjl : j < xs.length := by have := HXN.out; omega
                have hjl2 : j < ys.length := by have := HYN.out; omega
                have hp : xs[j]? = some xs[j] := List.getElem?_eq_getElem hjl
                have hp2 : ys[j]? = some ys[j] := List.getElem?_eq_getElem hjl2
                have hdr : xs.drop j = xs[j] :: xs.drop (j + 1) := List.drop_eq_getElem_cons hjl
                have hdr2 : ys.drop j = ys[j] :: ys.drop (j + 1) := List.drop_eq_getElem_cons hjl2
                generalize xs[j] = a at *
                generalize ys[j] = a2 at *
                obtain ⟨b3, off3, rfl, hbl3, hc⟩ := HIA.out.at (k := j) (idx_row hp)
                obtain ⟨b4, off4, rfl, hbl4, hc2⟩ := HIA2.out.at (k := j) (idx_row hp2)
                have hin := HIB.out j a hp
                have hin2 := HIB2.out j a2 hp2
                obtain ⟨av, ac, hav⟩ := hin.form
                obtain ⟨av2, ac2, hav2⟩ := hin2.form
                rw [List.length_map] at hav hav2
                rw [hav] at hin hc
                rw [hav2] at hin2 hc2
                have HES := Lib.hid (fun w (hb : Below W.heap.size W w) => ref7_eqAlt a a2 _ _ w (hin.below hb) (hin2.below hb) (HSX.out a (List.mem_of_getElem? hp)) (HSY.out a2 (List.mem_of_getElem? hp2)))
                generalize hanl : a.parts.length = an at *
                generalize hanl2 : a2.parts.length = an2 at *
                clear hin hin2 hav hav2 hanl hanl2
                have hi := HI.out
                rw [hdr, hdr2] at hi
                have hi' : (Sp.sameAlt a a2 && Sp.all2 Sp.sameAlt (xs.drop (j + 1)) (ys.drop (j + 1))) = R5 := hi
                clear hi
                generalize Sp.sameAlt a a2 = q at *
                have HI2 := Lib.hid hi'
                obtain ⟨aps, ⟨am, al, au, aa⟩, ap⟩ := a
                obtain ⟨aps2, ⟨am2, al2, au2, aa2⟩, ap2⟩ := a2
                have hks : ∀ w', Below wc.heap.size wc w' → w'.cell? ⟨g6, 1, none⟩ = some (.slice (some ⟨b3, off3, none⟩) xn xc) ∧ w'.cell? ⟨g7, 1, none⟩ = some (.slice (some ⟨b4, off4, none⟩) xn yc) ∧ w'.cell? ⟨b3, off3 + j * 6, none⟩ = some (.slice av an ac) ∧ w'.cell? ⟨b3, off3 + j * 6 + 1, none⟩ = some (.string ⟨am.toArray⟩) ∧ w'.cell? ⟨b3, off3 + j * 6 + 2, none⟩ = some (.bool al) ∧ w'.cell? ⟨b3, off3 + j * 6 + 3, none⟩ = some (.int .i64 au) ∧ w'.cell? ⟨b3, off3 + j * 6 + 4, none⟩ = some (.int .i64 aa) ∧ w'.cell? ⟨b3, off3 + j * 6 + 5, none⟩ = some (.int .i64 ap) ∧ w'.cell? ⟨b4, off4 + j * 6, none⟩ = some (.slice av2 an2 ac2) ∧ w'.cell? ⟨b4, off4 + j * 6 + 1, none⟩ = some (.string ⟨am2.toArray⟩) ∧ w'.cell? ⟨b4, off4 + j * 6 + 2, none⟩ = some (.bool al2) ∧ w'.cell? ⟨b4, off4 + j * 6 + 3, none⟩ = some (.int .i64 au2) ∧ w'.cell? ⟨b4, off4 + j * 6 + 4, none⟩ = some (.int .i64 aa2) ∧ w'.cell? ⟨b4, off4 + j * 6 + 5, none⟩ = some (.int .i64 ap2) := fun w' h => by
                  have hbw := below_two (HNW.out _ h)
                  have hcc := hc _ hbw
                  have hcc2 := hc2 _ hbw
                  exact ⟨cell_at (i := 1) ((h.block g6 hlg6).trans HG6.out), cell_at (i := 1) ((h.block g7 hlg7).trans HG7.out), hcc 0 _ rfl, hcc 1 _ rfl, hcc 2 _ rfl, hcc 3 _ rfl, hcc 4 _ rfl, hcc 5 _ rfl, hcc2 0 _ rfl, hcc2 1 _ rfl, hcc2 2 _ rfl, hcc2 3 _ rfl, hcc2 4 _ rfl, hcc2 5 _ rfl⟩
                have HKS2 := Lib.hid hks
                have HCL := Lib.hid (fun w (hb : Below wc.heap.size wc w) => HES.out w (below_two (HNW.out _ hb)))
                have hj1 : (j : Int) < (xn : Int) := by omega
                clear hc hc2 hp hp2 hdr hdr2 hi' HI hks hjl hjl2 HES
                go_wp2_with fail
                go_region_held3 (fun w' => w'.cell? ⟨g6, 1, none⟩ = some (.slice (some ⟨b3, off3, none⟩) xn xc) ∧ w'.cell? ⟨g7, 1, none⟩ = some (.slice (some ⟨b4, off4, none⟩) xn yc) ∧ w'.cell? ⟨b3, off3 + j * 6, none⟩ = some (.slice av an ac) ∧ w'.cell? ⟨b3, off3 + j * 6 + 1, none⟩ = some (.string ⟨am.toArray⟩) ∧ w'.cell? ⟨b3, off3 + j * 6 + 2, none⟩ = some (.bool al) ∧ w'.cell? ⟨b3, off3 + j * 6 + 3, none⟩ = some (.int .i64 au) ∧ w'.cell? ⟨b3, off3 + j * 6 + 4, none⟩ = some (.int .i64 aa) ∧ w'.cell? ⟨b3, off3 + j * 6 + 5, none⟩ = some (.int .i64 ap) ∧ w'.cell? ⟨b4, off4 + j * 6, none⟩ = some (.slice av2 an2 ac2) ∧ w'.cell? ⟨b4, off4 + j * 6 + 1, none⟩ = some (.string ⟨am2.toArray⟩) ∧ w'.cell? ⟨b4, off4 + j * 6 + 2, none⟩ = some (.bool al2) ∧ w'.cell? ⟨b4, off4 + j * 6 + 3, none⟩ = some (.int .i64 au2) ∧ w'.cell? ⟨b4, off4 + j * 6 + 4, none⟩ = some (.int .i64 aa2) ∧ w'.cell? ⟨b4, off4 + j * 6 + 5, none⟩ = some (.int .i64 ap2))
                  (first
                    | exact HKS2.out _ HBJ.out
                    | exact HKS2.out _ (below_drewN HBJ.out 1)
                    | exact HKS2.out _ ((below_drewN HBJ.out 1).trans (hb'.mono hsj))
                    | go_keep)
                  ((first
                    | (go_at_call 53; refine (HCL.out _ ?_).mono ?_; (first | exact HBJ.out | exact below_drewN HBJ.out 1); rintro e w' ⟨rfl, hb'⟩)))
                all_goals
                  have HBJ2 := Lib.hid (HBJ.out.trans ((below_undrew hb').mono hsj))
                  clear hb'
                  cases q with
                  | false =>
                    go_wp2_with fail
                    go_ret
                    exact ⟨ret_bool (by rw [← HI3.out, ← HI2.out]; simp), below_two (HNW.out _ HBJ2.out)⟩
                  | true =>
                    go_wp2_with fail
                    go_roundg (xn - (j + 1))
                    case measure => omega
                    case rel => exact ⟨j + 1, by omega, rfl, by go_num, by rw [← HI2.out]; rfl, HBJ2.out⟩
              · obtain rfl : j = xn := by omega
                have hdn : xs.drop j = [] := List.drop_of_length_le (by have := HXN.out; omega)
                have hdn2 : ys.drop j = [] := List.drop_of_length_le (by have := HYN.out; omega)
                have hi := HI.out
                rw [hdn, hdn2] at hi
                have hR5 : true = R5 := hi
                subst hR5
                have hko1 : (ko : Int) < (n : Int) := by omega
                clear hi HI hdn hdn2
                go_wp2_with fail
                go_roundg (n - (ko + 1))
                case measure => omega
                case rel => exact ⟨ko + 1, by omega, rfl, by go_num, by rw [← HI3.out]; simp, HNW.out _ HBJ.out⟩
        · obtain rfl : n = k := by omega
          have hdn : rs.drop n = [] := List.drop_of_length_le (by have := HN.out; omega)
          have hdn2 : rs2.drop n = [] := List.drop_of_length_le (by have := HN2.out; omega)
          have hi := HI.out
          rw [hdn, hdn2] at hi
          have hR3 : true = R3 := hi
          subst hR3
          clear hi HI hdn hdn2
          go_wp2_with fail
          go_ret
          exact ⟨ret_bool (by simp), below_two HBR.out⟩
end Go.Proofs.YthmimcegiihcnaaDoor
