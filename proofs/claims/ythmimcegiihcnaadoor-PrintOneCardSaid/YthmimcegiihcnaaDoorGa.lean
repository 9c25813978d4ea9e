/- The law PrintOne walked: two sources that may be have one text just if they are the same. -/
import Derived.Test.YthmimcegiihcnaaDoorEz
import Derived.Test.YthmimcegiihcnaaDoorEg
import Derived.Test.YthmimcegiihcnaaDoorEj
namespace Go.Proofs.YthmimcegiihcnaaDoor
open Go.RowKit

theorem GrAt.below {W w' : World} {v : Value} {x : Sp.Gr} (h : GrAt W v x) (hb : Below W.heap.size W w') : GrAt w' v x := by
  obtain ⟨rv, lv, iv, e, h1, ⟨f, h2, h3⟩, h4, h5, h6⟩ := h
  exact ⟨rv, lv, iv, e, h1, ⟨f, h2.below hb, fun i row hi => ⟨SlAt.below (h3 i row hi).1 hb, (h3 i row hi).2⟩⟩, SlAt.below h4 hb, SlAt.below h5 hb, h6⟩
/-- A source in a row of them. -/
def SrcIn (w : World) (g i : Nat) (s : Sp.Source) : Prop :=
  ∃ pa pc qa qc, w.cell? ⟨g, i * 4, none⟩ = some (.string ⟨s.pro.toArray⟩) ∧ w.cell? ⟨g, i * 4 + 1, none⟩ = some (.slice pa s.decls.length pc) ∧ w.cell? ⟨g, i * 4 + 2, none⟩ = some (.slice qa s.rules.length qc) ∧ w.cell? ⟨g, i * 4 + 3, none⟩ = some (.string ⟨s.tail.toArray⟩) ∧
    g < w.heap.size ∧ DeclsAt w (.slice pa s.decls.length pc) s.decls ∧ RulesAt w (.slice qa s.rules.length qc) s.rules ∧ tinySrc s
def MadePost2 (X : Sp.Source) (W : World) (e : Ending) (w' : World) : Prop :=
  ∃ pv qv B C, e = .returned (.agg #[.string ⟨X.pro.toArray⟩, pv, qv, .string ⟨X.tail.toArray⟩]) ∧ Below W.heap.size W w' ∧ DeclsOwn B w' pv X.decls ∧ RulesOwn C w' qv X.rules
/-- The i-th of threeS. -/
def threeS (X Y Z : Sp.Source) (i : Nat) : Sp.Source := if i = 0 then X else if i = 1 then Y else Z
theorem text_one_walk (x : Sp.Source) (pa qa : Option Addr) (pc qc : Nat) (W : World) (hd : DeclsAt W (.slice pa x.decls.length pc) x.decls) (hr : RulesAt W (.slice qa x.rules.length qc) x.rules) (ht : tinySrc x) (hg : Gl W) :
    (Calls Tryd.prog 15 #[.agg #[.string ⟨x.pro.toArray⟩, .slice pa x.decls.length pc, .slice qa x.rules.length qc, .string ⟨x.tail.toArray⟩]] W fun e w' => e = .returned (.bool (Sp.may x)) ∧ Below W.heap.size W w') ∧
    Calls Tryd.prog 16 #[.agg #[.string ⟨x.pro.toArray⟩, .slice pa x.decls.length pc, .slice qa x.rules.length qc, .string ⟨x.tail.toArray⟩]] W fun e w' => e = .returned (.string ⟨(Sp.text x).toArray⟩) ∧ Below W.heap.size W w' := by
  have hs := (tiny_small ht).1
  have hT := tiny_text ht
  exact ⟨print_May x _ _ W hd hr hs hg, print_Text x _ _ W hd hr hs (fun hm => tiny_ok ht hm) (by omega) hg⟩
theorem same_one_walk (x y : Sp.Source) (pa qa ua va : Option Addr) (pc qc uc vc : Nat) (W : World) (hd1 : DeclsAt W (.slice pa x.decls.length pc) x.decls) (hr1 : RulesAt W (.slice qa x.rules.length qc) x.rules) (hd2 : DeclsAt W (.slice ua y.decls.length uc) y.decls) (hr2 : RulesAt W (.slice va y.rules.length vc) y.rules) (hx : tinySrc x) (hy : tinySrc y) :
    Calls Tryd.prog 17 #[.agg #[.string ⟨x.pro.toArray⟩, .slice pa x.decls.length pc, .slice qa x.rules.length qc, .string ⟨x.tail.toArray⟩], .agg #[.string ⟨y.pro.toArray⟩, .slice ua y.decls.length uc, .slice va y.rules.length vc, .string ⟨y.tail.toArray⟩]] W fun e w' => e = .returned (.bool (Sp.same x y)) ∧ Below W.heap.size W w' := by
  refine ref7_Same x y _ _ _ _ W hd1 hr1 hd2 hr2 ?_ ?_
  · obtain ⟨_, _, h3, h4, h5, h6⟩ := hx
    exact ⟨by omega, by omega, fun d hd => by have := (h5 d hd).2.1; omega, fun r hr => ⟨by have := (h6 r hr).2.1; omega, fun a ha => by have := ((h6 r hr).2.2 a ha).1; omega⟩⟩
  · obtain ⟨_, _, h3, h4, h5, h6⟩ := hy
    exact ⟨by omega, by omega, fun d hd => by have := (h5 d hd).2.1; omega, fun r hr => ⟨by have := (h6 r hr).2.1; omega, fun a ha => by have := ((h6 r hr).2.2 a ha).1; omega⟩⟩

set_option maxRecDepth 100000 in
set_option maxHeartbeats 25600000 in
theorem law_PrintOne (x : Sp.Gr) (vx : Value) (y : Sp.Gr) (vy : Value) (a : Sp.Source) (vd vr : Value) (W : World) (hx : GrAt W vx x) (hy : GrAt W vy y) (hda : DeclsAt W vd a.decls) (hra : RulesAt W vr a.rules) (ha : bigSrc a) (hg : Gl0 W) :
    Calls Tryd.prog 3 #[vx, vy, .agg (srcC vd vr a).toArray] W fun e w' => e = .returned (.bool true) ∧ Below W.heap.size W w' := by
  have hta : tinySrc (cutSrc cut8N a) := cut_tiny cut8N (by decide) ha
  obtain ⟨a1, c1, hv1⟩ := hda.form
  obtain ⟨a2, c2, hv2⟩ := hra.form
  obtain ⟨pr, ds, rs, tl⟩ := a
  simp only at hv1 hv2
  subst hv1 hv2
  have hx1 := hx
  obtain ⟨rv1, lv1, iv1, rfl, ez1, ⟨rf1, rs1, rt1⟩, li1, ii1, rest1⟩ := hx
  obtain ⟨ra1, rc1, rfl⟩ := rs1.form
  obtain ⟨la1, lc1, rfl⟩ := ints_form li1
  obtain ⟨ia1, ic1, rfl⟩ := ints_form ii1
  clear ez1 rs1 rt1 li1 ii1 rest1
  have hx2 := hy
  obtain ⟨rv2, lv2, iv2, rfl, ez2, ⟨rf2, rs2, rt2⟩, li2, ii2, rest2⟩ := hy
  obtain ⟨ra2, rc2, rfl⟩ := rs2.form
  obtain ⟨la2, lc2, rfl⟩ := ints_form li2
  obtain ⟨ia2, ic2, rfl⟩ := ints_form ii2
  clear ez2 rs2 rt2 li2 ii2 rest2
  obtain ⟨no1, rows1, levels1, inner1, ba1⟩ := x
  obtain ⟨no2, rows2, levels2, inner2, ba2⟩ := y
  simp only [List.length_mapIdx] at *
  generalize hrl1 : rows1.length = rn1 at *
  generalize hll1 : levels1.length = ln1 at *
  generalize hil1 : inner1.length = in1 at *
  generalize hrl2 : rows2.length = rn2 at *
  generalize hll2 : levels2.length = ln2 at *
  generalize hil2 : inner2.length = in2 at *
  generalize hd0 : ds.length = n1 at *
  generalize hr0 : rs.length = n2 at *
  obtain ⟨W3, hW3⟩ : ∃ W3, W3 = (((W.alloc (.cells #[.int .i64 no1, .slice ra1 rn1 rc1, .slice la1 ln1 lc1, .slice ia1 in1 ic1, .bool ba1] 25)).alloc (.cells #[.int .i64 no2, .slice ra2 rn2 rc2, .slice la2 ln2 lc2, .slice ia2 in2 ic2, .bool ba2] 25)).alloc (.cells #[.string ⟨pr.toArray⟩, .slice a1 n1 c1, .slice a2 n2 c2, .string ⟨tl.toArray⟩] 29)) := ⟨_, rfl⟩
  have hs3 : W3.heap.size = W.heap.size + 3 := by rw [hW3]; simp
  have hb3 : Below W.heap.size W W3 := by rw [hW3]; exact (((Below.refl _ W).alloc (Nat.le_refl _) _).alloc (by simp) _).alloc (by simp; omega) _
  have HF := Lib.hid (fun w' (h : Below W3.heap.size W3 w') => (show (w'.cell? ⟨W.heap.size, 0, none⟩ = some (.int .i64 no1) ∧ w'.cell? ⟨W.heap.size, 1, none⟩ = some (.slice ra1 rn1 rc1) ∧ w'.cell? ⟨W.heap.size, 2, none⟩ = some (.slice la1 ln1 lc1) ∧ w'.cell? ⟨W.heap.size, 3, none⟩ = some (.slice ia1 in1 ic1) ∧ w'.cell? ⟨W.heap.size, 4, none⟩ = some (.bool ba1) ∧ w'.cell? ⟨W.heap.size + 1, 0, none⟩ = some (.int .i64 no2) ∧ w'.cell? ⟨W.heap.size + 1, 1, none⟩ = some (.slice ra2 rn2 rc2) ∧ w'.cell? ⟨W.heap.size + 1, 2, none⟩ = some (.slice la2 ln2 lc2) ∧ w'.cell? ⟨W.heap.size + 1, 3, none⟩ = some (.slice ia2 in2 ic2) ∧ w'.cell? ⟨W.heap.size + 1, 4, none⟩ = some (.bool ba2) ∧ w'.cell? ⟨W.heap.size + 2, 0, none⟩ = some (.string ⟨pr.toArray⟩) ∧ w'.cell? ⟨W.heap.size + 2, 1, none⟩ = some (.slice a1 n1 c1) ∧ w'.cell? ⟨W.heap.size + 2, 2, none⟩ = some (.slice a2 n2 c2) ∧ w'.cell? ⟨W.heap.size + 2, 3, none⟩ = some (.string ⟨tl.toArray⟩)) from by
    have h1 : w'.heap[W.heap.size]? = some (.cells #[.int .i64 no1, .slice ra1 rn1 rc1, .slice la1 ln1 lc1, .slice ia1 in1 ic1, .bool ba1] 25 (0, 0)) := (h.block _ (by omega)).trans (by rw [hW3]; exact (Below.heap_alloc _ _ _ (by simp only [World.size_alloc]; omega)).trans ((Below.heap_alloc _ _ _ (by simp)).trans (heap_last W _)))
    have h2 : w'.heap[W.heap.size + 1]? = some (.cells #[.int .i64 no2, .slice ra2 rn2 rc2, .slice la2 ln2 lc2, .slice ia2 in2 ic2, .bool ba2] 25 (0, 0)) := (h.block _ (by omega)).trans (by rw [hW3]; exact (Below.heap_alloc _ _ _ (by simp)).trans (heap_sec W _ _))
    have h3 : w'.heap[W.heap.size + 2]? = some (.cells #[.string ⟨pr.toArray⟩, .slice a1 n1 c1, .slice a2 n2 c2, .string ⟨tl.toArray⟩] 29 (0, 0)) := (h.block _ (by omega)).trans (by rw [hW3]; have h := heap_last ((W.alloc (.cells #[.int .i64 no1, .slice ra1 rn1 rc1, .slice la1 ln1 lc1, .slice ia1 in1 ic1, .bool ba1] 25)).alloc (.cells #[.int .i64 no2, .slice ra2 rn2 rc2, .slice la2 ln2 lc2, .slice ia2 in2 ic2, .bool ba2] 25)) (.cells #[.string ⟨pr.toArray⟩, .slice a1 n1 c1, .slice a2 n2 c2, .string ⟨tl.toArray⟩] 29); simpa using h)
    exact ⟨cell_at (i := 0) h1, cell_at (i := 1) h1, cell_at (i := 2) h1, cell_at (i := 3) h1, cell_at (i := 4) h1, cell_at (i := 0) h2, cell_at (i := 1) h2, cell_at (i := 2) h2, cell_at (i := 3) h2, cell_at (i := 4) h2, cell_at (i := 0) h3, cell_at (i := 1) h3, cell_at (i := 2) h3, cell_at (i := 3) h3⟩))
  have HG := Lib.hid (fun w' (h : Below W.heap.size W w') (h6 : 6 ≤ w'.heap.size) => hg.up h h6)
  have h4 : 4 ≤ W.heap.size := hg.2.1
  have HC1 := Lib.hid (fun w' (h : Below W3.heap.size W3 w') => (show Calls Tryd.prog 13 #[.agg #[.int .i64 no1, .slice ra1 rn1 rc1, .slice la1 ln1 lc1, .slice ia1 in1 ic1, .bool ba1]] w' (MadePost2 (Sp.grSource ⟨no1, rows1, levels1, inner1, ba1⟩) w') from made_Source _ _ w' (hx1.below (hb3.trans (h.mono (by omega))))))
  have HC2 := Lib.hid (fun w' (h : Below W3.heap.size W3 w') => (show Calls Tryd.prog 13 #[.agg #[.int .i64 no2, .slice ra2 rn2 rc2, .slice la2 ln2 lc2, .slice ia2 in2 ic2, .bool ba2]] w' (MadePost2 (Sp.grSource ⟨no2, rows2, levels2, inner2, ba2⟩) w') from made_Source _ _ w' (hx2.below (hb3.trans (h.mono (by omega))))))
  have HC3 := Lib.hid (fun w' (h : Below W3.heap.size W3 w') => (show Calls Tryd.prog 14 #[.agg #[.string ⟨pr.toArray⟩, .slice a1 n1 c1, .slice a2 n2 c2, .string ⟨tl.toArray⟩]] w' (MadePost2 (cutSrc cut8N ⟨pr, ds, rs, tl⟩) w') from by
    have k := cut8_walk ⟨pr, ds, rs, tl⟩ (.slice a1 n1 c1) (.slice a2 n2 c2) w' (hda.below (hb3.trans (h.mono (by omega)))) (hra.below (hb3.trans (h.mono (by omega)))) ha
    exact k.mono fun e w'' ⟨pv, qv, B, h1, h2, h3, h4⟩ => ⟨pv, qv, B, B, h1, h2, h3, h4⟩))
  have hm1 := Sp.grSource_may ⟨no1, rows1, levels1, inner1, ba1⟩
  have hm2 := Sp.grSource_may ⟨no2, rows2, levels2, inner2, ba2⟩
  have ht1 := grSource_tiny ⟨no1, rows1, levels1, inner1, ba1⟩
  have ht2 := grSource_tiny ⟨no2, rows2, levels2, inner2, ba2⟩
  generalize Sp.grSource ⟨no1, rows1, levels1, inner1, ba1⟩ = X at *
  generalize Sp.grSource ⟨no2, rows2, levels2, inner2, ba2⟩ = Y at *
  generalize cutSrc cut8N ⟨pr, ds, rs, tl⟩ = Z at *
  have HB3 := Lib.hid hb3; have HW3 := Lib.hid hW3; have HS3 := HF; have HM0 := Lib.hid (And.intro hm1 hm2); have HTY := Lib.hid (And.intro ht1 (And.intro ht2 hta))
  have HWK := Lib.hid (wakes8 W3 (HG.out W3 hb3 (by omega)))
  clear hx1 hx2 hda hra ha hg hm1 hm2 ht1 ht2 hta hrl1 hll1 hil1 hrl2 hll2 hil2 hd0 hr0 hW3 hb3 HF
  show Calls _ _ #[.agg #[.int .i64 no1, .slice ra1 rn1 rc1, .slice la1 ln1 lc1, .slice ia1 in1 ic1, .bool ba1], .agg #[.int .i64 no2, .slice ra2 rn2 rc2, .slice la2 ln2 lc2, .slice ia2 in2 ic2, .bool ba2], .agg #[.string ⟨pr.toArray⟩, .slice a1 n1 c1, .slice a2 n2 c2, .string ⟨tl.toArray⟩]] _ _
  go_enter Tryd.func3, Tryd.ntmps3
  go_wp2_with fail
  rw [← HW3.out]
  refine HWK.out.mono ?_
  rintro e w1 ⟨rfl, hb1⟩
  have HB1 := Lib.hid hb1
  clear hb1
  go_upto_region 3 with fail
  go_cut [7] (fun s7 wx => ∃ gL, s7 = .slice (some ⟨gL, 0, none⟩) 3 3 ∧ (∀ i, i < 3 → SrcIn wx gL i (threeS X Y Z i)) ∧ 6 ≤ wx.heap.size ∧ Below W.heap.size W wx)
  case first =>
    obtain ⟨xp1, xd1, xr1, xt1⟩ := X
    obtain ⟨xp2, xd2, xr2, xt2⟩ := Y
    obtain ⟨xp3, xd3, xr3, xt3⟩ := Z
    have HL1 := Lib.hid (fun w' (h : Below w1.drew.heap.size w1.drew w') => (show Below W3.heap.size W3 w' from HB1.out.trans ((below_undrew h).mono HB1.out.size)))
    refine wp_region_plan (fun w' : World => (w'.cell? ⟨W.heap.size, 0, none⟩ = some (.int .i64 no1) ∧ w'.cell? ⟨W.heap.size, 1, none⟩ = some (.slice ra1 rn1 rc1) ∧ w'.cell? ⟨W.heap.size, 2, none⟩ = some (.slice la1 ln1 lc1) ∧ w'.cell? ⟨W.heap.size, 3, none⟩ = some (.slice ia1 in1 ic1) ∧ w'.cell? ⟨W.heap.size, 4, none⟩ = some (.bool ba1) ∧ w'.cell? ⟨W.heap.size + 1, 0, none⟩ = some (.int .i64 no2) ∧ w'.cell? ⟨W.heap.size + 1, 1, none⟩ = some (.slice ra2 rn2 rc2) ∧ w'.cell? ⟨W.heap.size + 1, 2, none⟩ = some (.slice la2 ln2 lc2) ∧ w'.cell? ⟨W.heap.size + 1, 3, none⟩ = some (.slice ia2 in2 ic2) ∧ w'.cell? ⟨W.heap.size + 1, 4, none⟩ = some (.bool ba2) ∧ w'.cell? ⟨W.heap.size + 2, 0, none⟩ = some (.string ⟨pr.toArray⟩) ∧ w'.cell? ⟨W.heap.size + 2, 1, none⟩ = some (.slice a1 n1 c1) ∧ w'.cell? ⟨W.heap.size + 2, 2, none⟩ = some (.slice a2 n2 c2) ∧ w'.cell? ⟨W.heap.size + 2, 3, none⟩ = some (.string ⟨tl.toArray⟩))) [6, 7] (.take 0 (.take 2 (.take 4 (.one 1 (.one 3 (.one 5 (.one 6 (.one 7 (.done))))))))) (by kernel_rfl) (by kernel_rfl) (fun _ _ _ _ h => h) ?_
    have hSw := HS3.out _ (HL1.out _ (Below.refl _ _))
    refine wpPlan_takeD (v := ?vg1) rfl rfl hSw (by rfl) ?yg1 ?_
    case yg1 => (intro w hSx; (try dsimp only at hSx); go_simp; first | done | with_reducible rfl | rfl)
    (try simp only [Act.put, List.setIfInBounds_toArray, List.set_cons_zero, List.set_cons_succ])
    refine wpPlan_takeD (v := ?vg2) rfl rfl hSw (by rfl) ?yg2 ?_
    case yg2 => (intro w hSx; (try dsimp only at hSx); go_simp; first | done | with_reducible rfl | rfl)
    (try simp only [Act.put, List.setIfInBounds_toArray, List.set_cons_zero, List.set_cons_succ])
    refine wpPlan_takeD (v := ?vg3) rfl rfl hSw (by rfl) ?yg3 ?_
    case yg3 => (intro w hSx; (try dsimp only at hSx); go_simp; first | done | with_reducible rfl | rfl)
    (try simp only [Act.put, List.setIfInBounds_toArray, List.set_cons_zero, List.set_cons_succ])
    refine wpPlan_run rfl (by rfl) (fun K' hK => ?_)
    (go_simp; go_at_call 13; refine (HC1.out _ (HL1.out _ (Below.refl _ _))).mono ?_; rintro e w2 ⟨pv1, qv1, B1, C1, rfl, hbb, ho1, ho2⟩; obtain ⟨da1, dc1, rfl⟩ := decls_slice ho1; obtain ⟨qa1, qc1, rfl⟩ := rules_slice ho2; have HO1 := Lib.hid (decls_at ho1); have HR1 := Lib.hid (rules_at ho2); have HL2 := Lib.hid (fun w' (h : Below w2.heap.size w2 w') => HL1.out w' (hbb.trans (h.mono hbb.size))); have HBB1 := Lib.hid hbb; clear ho1 ho2 hbb)
    refine hK _ _ (.inr ?_) ?_
    · exact HS3.out _ (HL2.out _ (Below.refl _ _))
    clear hK K' hSw
    (try simp only [Act.put, List.setIfInBounds_toArray, List.set_cons_zero, List.set_cons_succ])
    refine wpPlan_run rfl (by rfl) (fun K' hK => ?_)
    (go_simp; go_at_call 13; refine (HC2.out _ (HL2.out _ (Below.refl _ _))).mono ?_; rintro e w3 ⟨pv2, qv2, B2, C2, rfl, hbb, ho1, ho2⟩; obtain ⟨da2, dc2, rfl⟩ := decls_slice ho1; obtain ⟨qa2, qc2, rfl⟩ := rules_slice ho2; have HO2 := Lib.hid (decls_at ho1); have HR2 := Lib.hid (rules_at ho2); have HL3 := Lib.hid (fun w' (h : Below w3.heap.size w3 w') => HL2.out w' (hbb.trans (h.mono hbb.size))); have HBB2 := Lib.hid hbb; clear ho1 ho2 hbb)
    refine hK _ _ (.inr ?_) ?_
    · exact HS3.out _ (HL3.out _ (Below.refl _ _))
    clear hK K'
    (try simp only [Act.put, List.setIfInBounds_toArray, List.set_cons_zero, List.set_cons_succ])
    refine wpPlan_run rfl (by rfl) (fun K' hK => ?_)
    (go_simp; go_at_call 14; refine (HC3.out _ (HL3.out _ (Below.refl _ _))).mono ?_; rintro e w4 ⟨pv3, qv3, B3, C3, rfl, hbb, ho1, ho2⟩; obtain ⟨da3, dc3, rfl⟩ := decls_slice ho1; obtain ⟨qa3, qc3, rfl⟩ := rules_slice ho2; have HO3 := Lib.hid (decls_at ho1); have HR3 := Lib.hid (rules_at ho2); have HL4 := Lib.hid (fun w' (h : Below w4.heap.size w4 w') => HL3.out w' (hbb.trans (h.mono hbb.size))); have HBB3 := Lib.hid hbb; clear ho1 ho2 hbb)
    refine hK _ _ (.inr ?_) ?_
    · exact HS3.out _ (HL4.out _ (Below.refl _ _))
    clear hK K'
    (try simp only [Act.put, List.setIfInBounds_toArray, List.set_cons_zero, List.set_cons_succ])
    refine wpPlan_run rfl (by rfl) (fun K' hK => ?_)
    go_simp
    refine hK _ _ (.inl rfl) ?_
    clear hK K'
    (try simp only [Act.put, List.setIfInBounds_toArray, List.set_cons_zero, List.set_cons_succ])
    refine wpPlan_run rfl (by rfl) (fun K' hK => ?_)
    go_simp
    refine hK _ _ (.inl rfl) ?_
    clear hK K'
    (try simp only [Act.put, List.setIfInBounds_toArray, List.set_cons_zero, List.set_cons_succ])
    refine wpPlan_done ?_
    go_wp2_with fail
    go_meet
    have hblk := heap_last w4 (.cells #[.string ⟨xp1.toArray⟩, .slice da1 xd1.length dc1, .slice qa1 xr1.length qc1, .string ⟨xt1.toArray⟩, .string ⟨xp2.toArray⟩, .slice da2 xd2.length dc2, .slice qa2 xr2.length qc2, .string ⟨xt2.toArray⟩, .string ⟨xp3.toArray⟩, .slice da3 xd3.length dc3, .slice qa3 xr3.length qc3, .string ⟨xt3.toArray⟩] 29)
    have hb4 : Below w4.heap.size w4 (w4.alloc (.cells #[.string ⟨xp1.toArray⟩, .slice da1 xd1.length dc1, .slice qa1 xr1.length qc1, .string ⟨xt1.toArray⟩, .string ⟨xp2.toArray⟩, .slice da2 xd2.length dc2, .slice qa2 xr2.length qc2, .string ⟨xt2.toArray⟩, .string ⟨xp3.toArray⟩, .slice da3 xd3.length dc3, .slice qa3 xr3.length qc3, .string ⟨xt3.toArray⟩] 29)) := (Below.refl _ _).alloc (Nat.le_refl _) _
    have hb3' := HBB3.out.trans (hb4.mono HBB3.out.size)
    have hb2' := HBB2.out.trans (hb3'.mono HBB2.out.size)
    have hlast := HL4.out _ hb4
    refine ⟨w4.heap.size, rfl, ?_, by have := hlast.size; omega, HB3.out.trans (hlast.mono (by omega))⟩
    intro i hi
    rcases (by omega : i = 0 ∨ i = 1 ∨ i = 2) with rfl | rfl | rfl
    · exact ⟨da1, dc1, qa1, qc1, cell_at (i := 0) hblk, cell_at (i := 1) hblk, cell_at (i := 2) hblk, cell_at (i := 3) hblk, lt_at hblk, HO1.out.below hb2', HR1.out.below hb2', HTY.out.1⟩
    · exact ⟨da2, dc2, qa2, qc2, cell_at (i := 4) hblk, cell_at (i := 5) hblk, cell_at (i := 6) hblk, cell_at (i := 7) hblk, lt_at hblk, HO2.out.below hb3', HR2.out.below hb3', HTY.out.2.1⟩
    · exact ⟨da3, dc3, qa3, qc3, cell_at (i := 8) hblk, cell_at (i := 9) hblk, cell_at (i := 10) hblk, cell_at (i := 11) hblk, lt_at hblk, HO3.out.below hb4, HR3.out.below hb4, HTY.out.2.2⟩
  case rest =>
    obtain ⟨gL, rfl, hsi, h6, hbw⟩ := hcut
    obtain ⟨wl, hwl⟩ : ∃ wl : World, wl = wc := ⟨_, rfl⟩
    subst hwl
    have HSI := Lib.hid hsi; have HBW := Lib.hid hbw
    have HGL := Lib.hid (HG.out wl hbw h6)
    clear HC1 HC2 HC3 HS3 HB1 HWK hsi hbw
    go_wp2_with fail
    go_loopg [8] 3 (fun g iv wr => ∃ i : Nat, i ≤ 3 ∧ g = 3 - i ∧ iv = .int .i64 i ∧ Below wl.heap.size wl wr)
    case atStart => exact ⟨0, by omega, rfl, rfl, Below.refl _ _⟩
    case round =>
      obtain ⟨io, hi, rfl, rfl, hbo⟩ := hrel
      obtain ⟨wo, hwo⟩ : ∃ wo : World, wo = wr := ⟨_, rfl⟩
      subst hwo
      have HBO := Lib.hid hbo
      clear hbo
      have hi0 : (0 : Int) ≤ (io : Int) := Int.natCast_nonneg _
      by_cases hin : io < 3
      · have hi1 : (io : Int) < 3 := by omega
        go_wp2_with fail
        go_loopg [9] io (fun g kv wr => ∃ k : Nat, k ≤ io ∧ g = io - k ∧ kv = .int .i64 k ∧ Below wl.heap.size wl wr)
        case atStart => exact ⟨0, Nat.zero_le _, rfl, rfl, HBO.out⟩
        case round =>
          obtain ⟨k, hk, rfl, rfl, hbk⟩ := hrel
          have HBK := Lib.hid hbk
          clear hbk
          have hk0 : (0 : Int) ≤ (k : Int) := Int.natCast_nonneg _
          by_cases hkn : k < io
          · have hk1 : (k : Int) < (io : Int) := by omega
            have hk3 : (k : Int) < 3 := by omega
            obtain ⟨pa1, pc1, qa1, qc1, cx0, cx1, cx2, cx3, hgl, hdx, hrx, htx⟩ := HSI.out io hin
            obtain ⟨pa2, pc2, qa2, qc2, cy0, cy1, cy2, cy3, _, hdy, hry, hty⟩ := HSI.out k (by omega)
            generalize threeS X Y Z io = X1 at *
            generalize threeS X Y Z k = Y1 at *
            have hq1 := fun w' (h : Below wl.heap.size wl w') => text_one_walk X1 pa1 qa1 pc1 qc1 w' (hdx.below h) (hrx.below h) htx (HGL.out.below h)
            have hq2 := fun w' (h : Below wl.heap.size wl w') => text_one_walk Y1 pa2 qa2 pc2 qc2 w' (hdy.below h) (hry.below h) hty (HGL.out.below h)
            have hq3 := fun w' (h : Below wl.heap.size wl w') => same_one_walk X1 Y1 pa1 qa1 pa2 qa2 pc1 qc1 pc2 qc2 w' (hdx.below h) (hrx.below h) (hdy.below h) (hry.below h) htx hty
            have hto := fun (h1 : Sp.may X1 = true) (h2 : Sp.may Y1 = true) => Sp.text_one h1 h2
            clear hdx hrx hdy hry htx hty
            obtain ⟨p1, dl1, rl1, t1⟩ := X1
            obtain ⟨p2, dl2, rl2, t2⟩ := Y1
            simp only at *
            have HM1 := Lib.hid (fun w' (h : Below wl.heap.size wl w') => (hq1 w' h).1)
            have HT1 := Lib.hid (fun w' (h : Below wl.heap.size wl w') => (hq1 w' h).2)
            have HM2 := Lib.hid (fun w' (h : Below wl.heap.size wl w') => (hq2 w' h).1)
            have HT2 := Lib.hid (fun w' (h : Below wl.heap.size wl w') => (hq2 w' h).2)
            have HE := Lib.hid (fun w' (h : Below wl.heap.size wl w') => hq3 w' h)
            clear hq1 hq2 hq3
            generalize Sp.may ⟨p1, dl1, rl1, t1⟩ = mx at *
            generalize Sp.may ⟨p2, dl2, rl2, t2⟩ = my at *
            generalize Sp.text ⟨p1, dl1, rl1, t1⟩ = tx at *
            generalize Sp.text ⟨p2, dl2, rl2, t2⟩ = ty at *
            generalize Sp.same ⟨p1, dl1, rl1, t1⟩ ⟨p2, dl2, rl2, t2⟩ = sa at *
            generalize dl1.length = m1 at *
            generalize rl1.length = r1 at *
            generalize dl2.length = m2 at *
            generalize rl2.length = r2 at *
            have HS10 := Lib.hid (fun w' (h : Below wl.heap.size wl w') => (show (w'.cell? ⟨gL, io * 4, none⟩ = some (.string ⟨p1.toArray⟩) ∧ w'.cell? ⟨gL, io * 4 + 1, none⟩ = some (.slice pa1 m1 pc1) ∧ w'.cell? ⟨gL, io * 4 + 2, none⟩ = some (.slice qa1 r1 qc1) ∧ w'.cell? ⟨gL, io * 4 + 3, none⟩ = some (.string ⟨t1.toArray⟩) ∧ w'.cell? ⟨gL, k * 4, none⟩ = some (.string ⟨p2.toArray⟩) ∧ w'.cell? ⟨gL, k * 4 + 1, none⟩ = some (.slice pa2 m2 pc2) ∧ w'.cell? ⟨gL, k * 4 + 2, none⟩ = some (.slice qa2 r2 qc2) ∧ w'.cell? ⟨gL, k * 4 + 3, none⟩ = some (.string ⟨t2.toArray⟩)) from ⟨(h.cell (p := ⟨gL, _, none⟩) hgl).trans cx0, (h.cell (p := ⟨gL, _, none⟩) hgl).trans cx1, (h.cell (p := ⟨gL, _, none⟩) hgl).trans cx2, (h.cell (p := ⟨gL, _, none⟩) hgl).trans cx3, (h.cell (p := ⟨gL, _, none⟩) hgl).trans cy0, (h.cell (p := ⟨gL, _, none⟩) hgl).trans cy1, (h.cell (p := ⟨gL, _, none⟩) hgl).trans cy2, (h.cell (p := ⟨gL, _, none⟩) hgl).trans cy3⟩))
            have HK0 := Lib.hid (fun w' (h : Below wr.drew.heap.size wr.drew w') => (show Below wl.heap.size wl w' from HBK.out.trans ((below_undrew h).mono HBK.out.size)))
            clear cx0 cx1 cx2 cx3 cy0 cy1 cy2 cy3
            have HTO := Lib.hid hto
            clear hto
            go_upto_region 10 with fail
            cases mx with
            | false =>
              refine wp_region_plan (fun w' : World => (w'.cell? ⟨gL, io * 4, none⟩ = some (.string ⟨p1.toArray⟩) ∧ w'.cell? ⟨gL, io * 4 + 1, none⟩ = some (.slice pa1 m1 pc1) ∧ w'.cell? ⟨gL, io * 4 + 2, none⟩ = some (.slice qa1 r1 qc1) ∧ w'.cell? ⟨gL, io * 4 + 3, none⟩ = some (.string ⟨t1.toArray⟩) ∧ w'.cell? ⟨gL, k * 4, none⟩ = some (.string ⟨p2.toArray⟩) ∧ w'.cell? ⟨gL, k * 4 + 1, none⟩ = some (.slice pa2 m2 pc2) ∧ w'.cell? ⟨gL, k * 4 + 2, none⟩ = some (.slice qa2 r2 qc2) ∧ w'.cell? ⟨gL, k * 4 + 3, none⟩ = some (.string ⟨t2.toArray⟩))) [] (.take 0 (.take 1 (.take 2 (.take 3 (.one 4 (.take 5 (.take 6 (.take 7 (.take 8 (.take 9 (.one 10 (.take 11 (.take 12 (.take 13 (.take 14 (.take 15 (.take 16 (.take 18 (.take 19 (.take 20 (.take 21 (.take 24 (.take 25 (.take 26 (.take 27 (.take 28 (.take 29 (.take 30 (.take 31 (.one 17 (.one 22 (.take 23 (.one 32 (.take 33 (.take 34 (.done)))))))))))))))))))))))))))))))))))) (by kernel_rfl) (by kernel_rfl) (fun _ _ _ _ h => h) ?_
              have hSw := HS10.out _ (HK0.out _ (Below.refl _ _))
              refine wpPlan_takeD (v := ?va4) rfl rfl hSw (by rfl) ?ya4 ?_
              case ya4 => (intro w hSx; (try dsimp only at hSx); go_simp; first | done | with_reducible rfl | rfl)
              (try simp only [Act.put, List.setIfInBounds_toArray, List.set_cons_zero, List.set_cons_succ])
              refine wpPlan_takeD (v := ?va5) rfl rfl hSw (by rfl) ?ya5 ?_
              case ya5 => (intro w hSx; (try dsimp only at hSx); go_simp; first | done | with_reducible rfl | rfl)
              (try simp only [Act.put, List.setIfInBounds_toArray, List.set_cons_zero, List.set_cons_succ])
              refine wpPlan_takeD (v := ?va6) rfl rfl hSw (by rfl) ?ya6 ?_
              case ya6 => (intro w hSx; (try dsimp only at hSx); go_simp; first | done | with_reducible rfl | rfl)
              (try simp only [Act.put, List.setIfInBounds_toArray, List.set_cons_zero, List.set_cons_succ])
              refine wpPlan_takeD (v := ?va7) rfl rfl hSw (by rfl) ?ya7 ?_
              case ya7 => (intro w hSx; (try dsimp only at hSx); go_simp; first | done | with_reducible rfl | rfl)
              (try simp only [Act.put, List.setIfInBounds_toArray, List.set_cons_zero, List.set_cons_succ])
              refine wpPlan_run rfl (by rfl) (fun K' hK => ?_)
              (go_simp; go_at_call 15; refine (HM1.out _ (HK0.out _ (Below.refl _ _))).mono ?_; rintro e v1 ⟨rfl, hb1⟩; have HK1 := Lib.hid (fun w' (h : Below v1.heap.size v1 w') => HK0.out w' (hb1.trans (h.mono hb1.size))); clear hb1)
              refine hK _ _ (.inr ?_) ?_
              · exact HS10.out _ (HK1.out _ (Below.refl _ _))
              clear hK K' hSw
              have hSw := HS10.out _ (HK1.out _ (Below.refl _ _))
              (try simp only [Act.put, List.setIfInBounds_toArray, List.set_cons_zero, List.set_cons_succ])
              refine wpPlan_takeD (v := ?va8) rfl rfl hSw (by rfl) ?ya8 ?_
              case ya8 => (intro w hSx; (try dsimp only at hSx); go_simp; first | done | with_reducible rfl | rfl)
              (try simp only [Act.put, List.setIfInBounds_toArray, List.set_cons_zero, List.set_cons_succ])
              refine wpPlan_noneD rfl rfl hSw (by rfl) ?_
              (try simp only [Act.put, List.setIfInBounds_toArray, List.set_cons_zero, List.set_cons_succ])
              refine wpPlan_noneD rfl rfl hSw (by rfl) ?_
              (try simp only [Act.put, List.setIfInBounds_toArray, List.set_cons_zero, List.set_cons_succ])
              refine wpPlan_noneD rfl rfl hSw (by rfl) ?_
              (try simp only [Act.put, List.setIfInBounds_toArray, List.set_cons_zero, List.set_cons_succ])
              refine wpPlan_noneD rfl rfl hSw (by rfl) ?_
              (try simp only [Act.put, List.setIfInBounds_toArray, List.set_cons_zero, List.set_cons_succ])
              refine wpPlan_passD rfl rfl (by rfl) hSw ?_
              (try simp only [Act.put, List.setIfInBounds_toArray, List.set_cons_zero, List.set_cons_succ])
              refine wpPlan_takeD (v := ?va9) rfl rfl hSw (by rfl) ?ya9 ?_
              case ya9 => (intro w hSx; (try dsimp only at hSx); go_simp; first | done | with_reducible rfl | rfl)
              (try simp only [Act.put, List.setIfInBounds_toArray, List.set_cons_zero, List.set_cons_succ])
              refine wpPlan_takeD (v := ?va10) rfl rfl hSw (by rfl) ?ya10 ?_
              case ya10 => (intro w hSx; (try dsimp only at hSx); go_simp; first | done | with_reducible rfl | rfl)
              (try simp only [Act.put, List.setIfInBounds_toArray, List.set_cons_zero, List.set_cons_succ])
              refine wpPlan_noneD rfl rfl hSw (by rfl) ?_
              (try simp only [Act.put, List.setIfInBounds_toArray, List.set_cons_zero, List.set_cons_succ])
              refine wpPlan_noneD rfl rfl hSw (by rfl) ?_
              (try simp only [Act.put, List.setIfInBounds_toArray, List.set_cons_zero, List.set_cons_succ])
              refine wpPlan_noneD rfl rfl hSw (by rfl) ?_
              (try simp only [Act.put, List.setIfInBounds_toArray, List.set_cons_zero, List.set_cons_succ])
              refine wpPlan_noneD rfl rfl hSw (by rfl) ?_
              (try simp only [Act.put, List.setIfInBounds_toArray, List.set_cons_zero, List.set_cons_succ])
              refine wpPlan_noneD rfl rfl hSw (by rfl) ?_
              (try simp only [Act.put, List.setIfInBounds_toArray, List.set_cons_zero, List.set_cons_succ])
              refine wpPlan_noneD rfl rfl hSw (by rfl) ?_
              (try simp only [Act.put, List.setIfInBounds_toArray, List.set_cons_zero, List.set_cons_succ])
              refine wpPlan_noneD rfl rfl hSw (by rfl) ?_
              (try simp only [Act.put, List.setIfInBounds_toArray, List.set_cons_zero, List.set_cons_succ])
              refine wpPlan_noneD rfl rfl hSw (by rfl) ?_
              (try simp only [Act.put, List.setIfInBounds_toArray, List.set_cons_zero, List.set_cons_succ])
              refine wpPlan_noneD rfl rfl hSw (by rfl) ?_
              (try simp only [Act.put, List.setIfInBounds_toArray, List.set_cons_zero, List.set_cons_succ])
              refine wpPlan_noneD rfl rfl hSw (by rfl) ?_
              (try simp only [Act.put, List.setIfInBounds_toArray, List.set_cons_zero, List.set_cons_succ])
              refine wpPlan_noneD rfl rfl hSw (by rfl) ?_
              (try simp only [Act.put, List.setIfInBounds_toArray, List.set_cons_zero, List.set_cons_succ])
              refine wpPlan_noneD rfl rfl hSw (by rfl) ?_
              (try simp only [Act.put, List.setIfInBounds_toArray, List.set_cons_zero, List.set_cons_succ])
              refine wpPlan_noneD rfl rfl hSw (by rfl) ?_
              (try simp only [Act.put, List.setIfInBounds_toArray, List.set_cons_zero, List.set_cons_succ])
              refine wpPlan_noneD rfl rfl hSw (by rfl) ?_
              (try simp only [Act.put, List.setIfInBounds_toArray, List.set_cons_zero, List.set_cons_succ])
              refine wpPlan_noneD rfl rfl hSw (by rfl) ?_
              (try simp only [Act.put, List.setIfInBounds_toArray, List.set_cons_zero, List.set_cons_succ])
              refine wpPlan_noneD rfl rfl hSw (by rfl) ?_
              (try simp only [Act.put, List.setIfInBounds_toArray, List.set_cons_zero, List.set_cons_succ])
              refine wpPlan_passD rfl rfl (by rfl) hSw ?_
              (try simp only [Act.put, List.setIfInBounds_toArray, List.set_cons_zero, List.set_cons_succ])
              refine wpPlan_passD rfl rfl (by rfl) hSw ?_
              (try simp only [Act.put, List.setIfInBounds_toArray, List.set_cons_zero, List.set_cons_succ])
              refine wpPlan_noneD rfl rfl hSw (by rfl) ?_
              (try simp only [Act.put, List.setIfInBounds_toArray, List.set_cons_zero, List.set_cons_succ])
              refine wpPlan_passD rfl rfl (by rfl) hSw ?_
              (try simp only [Act.put, List.setIfInBounds_toArray, List.set_cons_zero, List.set_cons_succ])
              refine wpPlan_noneD rfl rfl hSw (by rfl) ?_
              (try simp only [Act.put, List.setIfInBounds_toArray, List.set_cons_zero, List.set_cons_succ])
              refine wpPlan_takeD (v := ?va11) rfl rfl hSw (by rfl) ?ya11 ?_
              case ya11 => (intro w hSx; (try dsimp only at hSx); go_simp; first | done | with_reducible rfl | rfl)
              (try simp only [Act.put, List.setIfInBounds_toArray, List.set_cons_zero, List.set_cons_succ])
              refine wpPlan_done ?_
              go_wp2_with fail
              go_roundg (io - (k + 1))
              case measure => omega
              case rel => exact ⟨k + 1, by omega, rfl, by go_num, HK1.out _ (Below.refl _ _)⟩
            | true =>
              cases my with
              | false =>
                refine wp_region_plan (fun w' : World => (w'.cell? ⟨gL, io * 4, none⟩ = some (.string ⟨p1.toArray⟩) ∧ w'.cell? ⟨gL, io * 4 + 1, none⟩ = some (.slice pa1 m1 pc1) ∧ w'.cell? ⟨gL, io * 4 + 2, none⟩ = some (.slice qa1 r1 qc1) ∧ w'.cell? ⟨gL, io * 4 + 3, none⟩ = some (.string ⟨t1.toArray⟩) ∧ w'.cell? ⟨gL, k * 4, none⟩ = some (.string ⟨p2.toArray⟩) ∧ w'.cell? ⟨gL, k * 4 + 1, none⟩ = some (.slice pa2 m2 pc2) ∧ w'.cell? ⟨gL, k * 4 + 2, none⟩ = some (.slice qa2 r2 qc2) ∧ w'.cell? ⟨gL, k * 4 + 3, none⟩ = some (.string ⟨t2.toArray⟩))) [] (.take 0 (.take 1 (.take 2 (.take 3 (.one 4 (.take 5 (.take 6 (.take 7 (.take 8 (.take 9 (.one 10 (.take 11 (.take 12 (.take 13 (.take 14 (.take 15 (.take 16 (.take 18 (.take 19 (.take 20 (.take 21 (.take 24 (.take 25 (.take 26 (.take 27 (.take 28 (.take 29 (.take 30 (.take 31 (.one 17 (.one 22 (.take 23 (.one 32 (.take 33 (.take 34 (.done)))))))))))))))))))))))))))))))))))) (by kernel_rfl) (by kernel_rfl) (fun _ _ _ _ h => h) ?_
                have hSw := HS10.out _ (HK0.out _ (Below.refl _ _))
                refine wpPlan_takeD (v := ?vb12) rfl rfl hSw (by rfl) ?yb12 ?_
                case yb12 => (intro w hSx; (try dsimp only at hSx); go_simp; first | done | with_reducible rfl | rfl)
                (try simp only [Act.put, List.setIfInBounds_toArray, List.set_cons_zero, List.set_cons_succ])
                refine wpPlan_takeD (v := ?vb13) rfl rfl hSw (by rfl) ?yb13 ?_
                case yb13 => (intro w hSx; (try dsimp only at hSx); go_simp; first | done | with_reducible rfl | rfl)
                (try simp only [Act.put, List.setIfInBounds_toArray, List.set_cons_zero, List.set_cons_succ])
                refine wpPlan_takeD (v := ?vb14) rfl rfl hSw (by rfl) ?yb14 ?_
                case yb14 => (intro w hSx; (try dsimp only at hSx); go_simp; first | done | with_reducible rfl | rfl)
                (try simp only [Act.put, List.setIfInBounds_toArray, List.set_cons_zero, List.set_cons_succ])
                refine wpPlan_takeD (v := ?vb15) rfl rfl hSw (by rfl) ?yb15 ?_
                case yb15 => (intro w hSx; (try dsimp only at hSx); go_simp; first | done | with_reducible rfl | rfl)
                (try simp only [Act.put, List.setIfInBounds_toArray, List.set_cons_zero, List.set_cons_succ])
                refine wpPlan_run rfl (by rfl) (fun K' hK => ?_)
                (go_simp; go_at_call 15; refine (HM1.out _ (HK0.out _ (Below.refl _ _))).mono ?_; rintro e v1 ⟨rfl, hb1⟩; have HK1 := Lib.hid (fun w' (h : Below v1.heap.size v1 w') => HK0.out w' (hb1.trans (h.mono hb1.size))); clear hb1)
                refine hK _ _ (.inr ?_) ?_
                · exact HS10.out _ (HK1.out _ (Below.refl _ _))
                clear hK K' hSw
                have hSw := HS10.out _ (HK1.out _ (Below.refl _ _))
                (try simp only [Act.put, List.setIfInBounds_toArray, List.set_cons_zero, List.set_cons_succ])
                refine wpPlan_takeD (v := ?vb16) rfl rfl hSw (by rfl) ?yb16 ?_
                case yb16 => (intro w hSx; (try dsimp only at hSx); go_simp; first | done | with_reducible rfl | rfl)
                (try simp only [Act.put, List.setIfInBounds_toArray, List.set_cons_zero, List.set_cons_succ])
                refine wpPlan_takeD (v := ?vb17) rfl rfl hSw (by rfl) ?yb17 ?_
                case yb17 => (intro w hSx; (try dsimp only at hSx); go_simp; first | done | with_reducible rfl | rfl)
                (try simp only [Act.put, List.setIfInBounds_toArray, List.set_cons_zero, List.set_cons_succ])
                refine wpPlan_takeD (v := ?vb18) rfl rfl hSw (by rfl) ?yb18 ?_
                case yb18 => (intro w hSx; (try dsimp only at hSx); go_simp; first | done | with_reducible rfl | rfl)
                (try simp only [Act.put, List.setIfInBounds_toArray, List.set_cons_zero, List.set_cons_succ])
                refine wpPlan_takeD (v := ?vb19) rfl rfl hSw (by rfl) ?yb19 ?_
                case yb19 => (intro w hSx; (try dsimp only at hSx); go_simp; first | done | with_reducible rfl | rfl)
                (try simp only [Act.put, List.setIfInBounds_toArray, List.set_cons_zero, List.set_cons_succ])
                refine wpPlan_takeD (v := ?vb20) rfl rfl hSw (by rfl) ?yb20 ?_
                case yb20 => (intro w hSx; (try dsimp only at hSx); go_simp; first | done | with_reducible rfl | rfl)
                (try simp only [Act.put, List.setIfInBounds_toArray, List.set_cons_zero, List.set_cons_succ])
                refine wpPlan_run rfl (by rfl) (fun K' hK => ?_)
                (go_simp; go_at_call 15; refine (HM2.out _ (HK1.out _ (Below.refl _ _))).mono ?_; rintro e v2 ⟨rfl, hb1⟩; have HK2 := Lib.hid (fun w' (h : Below v2.heap.size v2 w') => HK1.out w' (hb1.trans (h.mono hb1.size))); clear hb1)
                refine hK _ _ (.inr ?_) ?_
                · exact HS10.out _ (HK2.out _ (Below.refl _ _))
                clear hK K' hSw
                have hSw := HS10.out _ (HK2.out _ (Below.refl _ _))
                (try simp only [Act.put, List.setIfInBounds_toArray, List.set_cons_zero, List.set_cons_succ])
                refine wpPlan_takeD (v := ?vb21) rfl rfl hSw (by rfl) ?yb21 ?_
                case yb21 => (intro w hSx; (try dsimp only at hSx); go_simp; first | done | with_reducible rfl | rfl)
                (try simp only [Act.put, List.setIfInBounds_toArray, List.set_cons_zero, List.set_cons_succ])
                refine wpPlan_takeD (v := ?vb22) rfl rfl hSw (by rfl) ?yb22 ?_
                case yb22 => (intro w hSx; (try dsimp only at hSx); go_simp; first | done | with_reducible rfl | rfl)
                (try simp only [Act.put, List.setIfInBounds_toArray, List.set_cons_zero, List.set_cons_succ])
                refine wpPlan_noneD rfl rfl hSw (by rfl) ?_
                (try simp only [Act.put, List.setIfInBounds_toArray, List.set_cons_zero, List.set_cons_succ])
                refine wpPlan_noneD rfl rfl hSw (by rfl) ?_
                (try simp only [Act.put, List.setIfInBounds_toArray, List.set_cons_zero, List.set_cons_succ])
                refine wpPlan_noneD rfl rfl hSw (by rfl) ?_
                (try simp only [Act.put, List.setIfInBounds_toArray, List.set_cons_zero, List.set_cons_succ])
                refine wpPlan_noneD rfl rfl hSw (by rfl) ?_
                (try simp only [Act.put, List.setIfInBounds_toArray, List.set_cons_zero, List.set_cons_succ])
                refine wpPlan_noneD rfl rfl hSw (by rfl) ?_
                (try simp only [Act.put, List.setIfInBounds_toArray, List.set_cons_zero, List.set_cons_succ])
                refine wpPlan_noneD rfl rfl hSw (by rfl) ?_
                (try simp only [Act.put, List.setIfInBounds_toArray, List.set_cons_zero, List.set_cons_succ])
                refine wpPlan_noneD rfl rfl hSw (by rfl) ?_
                (try simp only [Act.put, List.setIfInBounds_toArray, List.set_cons_zero, List.set_cons_succ])
                refine wpPlan_noneD rfl rfl hSw (by rfl) ?_
                (try simp only [Act.put, List.setIfInBounds_toArray, List.set_cons_zero, List.set_cons_succ])
                refine wpPlan_noneD rfl rfl hSw (by rfl) ?_
                (try simp only [Act.put, List.setIfInBounds_toArray, List.set_cons_zero, List.set_cons_succ])
                refine wpPlan_noneD rfl rfl hSw (by rfl) ?_
                (try simp only [Act.put, List.setIfInBounds_toArray, List.set_cons_zero, List.set_cons_succ])
                refine wpPlan_noneD rfl rfl hSw (by rfl) ?_
                (try simp only [Act.put, List.setIfInBounds_toArray, List.set_cons_zero, List.set_cons_succ])
                refine wpPlan_noneD rfl rfl hSw (by rfl) ?_
                (try simp only [Act.put, List.setIfInBounds_toArray, List.set_cons_zero, List.set_cons_succ])
                refine wpPlan_noneD rfl rfl hSw (by rfl) ?_
                (try simp only [Act.put, List.setIfInBounds_toArray, List.set_cons_zero, List.set_cons_succ])
                refine wpPlan_noneD rfl rfl hSw (by rfl) ?_
                (try simp only [Act.put, List.setIfInBounds_toArray, List.set_cons_zero, List.set_cons_succ])
                refine wpPlan_noneD rfl rfl hSw (by rfl) ?_
                (try simp only [Act.put, List.setIfInBounds_toArray, List.set_cons_zero, List.set_cons_succ])
                refine wpPlan_noneD rfl rfl hSw (by rfl) ?_
                (try simp only [Act.put, List.setIfInBounds_toArray, List.set_cons_zero, List.set_cons_succ])
                refine wpPlan_passD rfl rfl (by rfl) hSw ?_
                (try simp only [Act.put, List.setIfInBounds_toArray, List.set_cons_zero, List.set_cons_succ])
                refine wpPlan_passD rfl rfl (by rfl) hSw ?_
                (try simp only [Act.put, List.setIfInBounds_toArray, List.set_cons_zero, List.set_cons_succ])
                refine wpPlan_noneD rfl rfl hSw (by rfl) ?_
                (try simp only [Act.put, List.setIfInBounds_toArray, List.set_cons_zero, List.set_cons_succ])
                refine wpPlan_passD rfl rfl (by rfl) hSw ?_
                (try simp only [Act.put, List.setIfInBounds_toArray, List.set_cons_zero, List.set_cons_succ])
                refine wpPlan_noneD rfl rfl hSw (by rfl) ?_
                (try simp only [Act.put, List.setIfInBounds_toArray, List.set_cons_zero, List.set_cons_succ])
                refine wpPlan_takeD (v := ?vb23) rfl rfl hSw (by rfl) ?yb23 ?_
                case yb23 => (intro w hSx; (try dsimp only at hSx); go_simp; first | done | with_reducible rfl | rfl)
                (try simp only [Act.put, List.setIfInBounds_toArray, List.set_cons_zero, List.set_cons_succ])
                refine wpPlan_done ?_
                go_wp2_with fail
                go_roundg (io - (k + 1))
                case measure => omega
                case rel => exact ⟨k + 1, by omega, rfl, by go_num, HK2.out _ (Below.refl _ _)⟩
              | true =>
                have hts := HTO.out rfl rfl
                clear HTO
                cases sa with
                | true =>
                  obtain rfl : tx = ty := by simpa using hts
                  clear hts
                  refine wp_region_plan (fun w' : World => (w'.cell? ⟨gL, io * 4, none⟩ = some (.string ⟨p1.toArray⟩) ∧ w'.cell? ⟨gL, io * 4 + 1, none⟩ = some (.slice pa1 m1 pc1) ∧ w'.cell? ⟨gL, io * 4 + 2, none⟩ = some (.slice qa1 r1 qc1) ∧ w'.cell? ⟨gL, io * 4 + 3, none⟩ = some (.string ⟨t1.toArray⟩) ∧ w'.cell? ⟨gL, k * 4, none⟩ = some (.string ⟨p2.toArray⟩) ∧ w'.cell? ⟨gL, k * 4 + 1, none⟩ = some (.slice pa2 m2 pc2) ∧ w'.cell? ⟨gL, k * 4 + 2, none⟩ = some (.slice qa2 r2 qc2) ∧ w'.cell? ⟨gL, k * 4 + 3, none⟩ = some (.string ⟨t2.toArray⟩))) [] (.take 0 (.take 1 (.take 2 (.take 3 (.one 4 (.take 5 (.take 6 (.take 7 (.take 8 (.take 9 (.one 10 (.take 11 (.take 12 (.take 13 (.take 14 (.take 15 (.take 16 (.take 18 (.take 19 (.take 20 (.take 21 (.take 24 (.take 25 (.take 26 (.take 27 (.take 28 (.take 29 (.take 30 (.take 31 (.one 17 (.one 22 (.take 23 (.one 32 (.take 33 (.take 34 (.done)))))))))))))))))))))))))))))))))))) (by kernel_rfl) (by kernel_rfl) (fun _ _ _ _ h => h) ?_
                  have hSw := HS10.out _ (HK0.out _ (Below.refl _ _))
                  refine wpPlan_takeD (v := ?vc24) rfl rfl hSw (by rfl) ?yc24 ?_
                  case yc24 => (intro w hSx; (try dsimp only at hSx); go_simp; first | done | with_reducible rfl | rfl)
                  (try simp only [Act.put, List.setIfInBounds_toArray, List.set_cons_zero, List.set_cons_succ])
                  refine wpPlan_takeD (v := ?vc25) rfl rfl hSw (by rfl) ?yc25 ?_
                  case yc25 => (intro w hSx; (try dsimp only at hSx); go_simp; first | done | with_reducible rfl | rfl)
                  (try simp only [Act.put, List.setIfInBounds_toArray, List.set_cons_zero, List.set_cons_succ])
                  refine wpPlan_takeD (v := ?vc26) rfl rfl hSw (by rfl) ?yc26 ?_
                  case yc26 => (intro w hSx; (try dsimp only at hSx); go_simp; first | done | with_reducible rfl | rfl)
                  (try simp only [Act.put, List.setIfInBounds_toArray, List.set_cons_zero, List.set_cons_succ])
                  refine wpPlan_takeD (v := ?vc27) rfl rfl hSw (by rfl) ?yc27 ?_
                  case yc27 => (intro w hSx; (try dsimp only at hSx); go_simp; first | done | with_reducible rfl | rfl)
                  (try simp only [Act.put, List.setIfInBounds_toArray, List.set_cons_zero, List.set_cons_succ])
                  refine wpPlan_run rfl (by rfl) (fun K' hK => ?_)
                  (go_simp; go_at_call 15; refine (HM1.out _ (HK0.out _ (Below.refl _ _))).mono ?_; rintro e v1 ⟨rfl, hb1⟩; have HK1 := Lib.hid (fun w' (h : Below v1.heap.size v1 w') => HK0.out w' (hb1.trans (h.mono hb1.size))); clear hb1)
                  refine hK _ _ (.inr ?_) ?_
                  · exact HS10.out _ (HK1.out _ (Below.refl _ _))
                  clear hK K' hSw
                  have hSw := HS10.out _ (HK1.out _ (Below.refl _ _))
                  (try simp only [Act.put, List.setIfInBounds_toArray, List.set_cons_zero, List.set_cons_succ])
                  refine wpPlan_takeD (v := ?vc28) rfl rfl hSw (by rfl) ?yc28 ?_
                  case yc28 => (intro w hSx; (try dsimp only at hSx); go_simp; first | done | with_reducible rfl | rfl)
                  (try simp only [Act.put, List.setIfInBounds_toArray, List.set_cons_zero, List.set_cons_succ])
                  refine wpPlan_takeD (v := ?vc29) rfl rfl hSw (by rfl) ?yc29 ?_
                  case yc29 => (intro w hSx; (try dsimp only at hSx); go_simp; first | done | with_reducible rfl | rfl)
                  (try simp only [Act.put, List.setIfInBounds_toArray, List.set_cons_zero, List.set_cons_succ])
                  refine wpPlan_takeD (v := ?vc30) rfl rfl hSw (by rfl) ?yc30 ?_
                  case yc30 => (intro w hSx; (try dsimp only at hSx); go_simp; first | done | with_reducible rfl | rfl)
                  (try simp only [Act.put, List.setIfInBounds_toArray, List.set_cons_zero, List.set_cons_succ])
                  refine wpPlan_takeD (v := ?vc31) rfl rfl hSw (by rfl) ?yc31 ?_
                  case yc31 => (intro w hSx; (try dsimp only at hSx); go_simp; first | done | with_reducible rfl | rfl)
                  (try simp only [Act.put, List.setIfInBounds_toArray, List.set_cons_zero, List.set_cons_succ])
                  refine wpPlan_takeD (v := ?vc32) rfl rfl hSw (by rfl) ?yc32 ?_
                  case yc32 => (intro w hSx; (try dsimp only at hSx); go_simp; first | done | with_reducible rfl | rfl)
                  (try simp only [Act.put, List.setIfInBounds_toArray, List.set_cons_zero, List.set_cons_succ])
                  refine wpPlan_run rfl (by rfl) (fun K' hK => ?_)
                  (go_simp; go_at_call 15; refine (HM2.out _ (HK1.out _ (Below.refl _ _))).mono ?_; rintro e v2 ⟨rfl, hb1⟩; have HK2 := Lib.hid (fun w' (h : Below v2.heap.size v2 w') => HK1.out w' (hb1.trans (h.mono hb1.size))); clear hb1)
                  refine hK _ _ (.inr ?_) ?_
                  · exact HS10.out _ (HK2.out _ (Below.refl _ _))
                  clear hK K' hSw
                  have hSw := HS10.out _ (HK2.out _ (Below.refl _ _))
                  (try simp only [Act.put, List.setIfInBounds_toArray, List.set_cons_zero, List.set_cons_succ])
                  refine wpPlan_takeD (v := ?vc33) rfl rfl hSw (by rfl) ?yc33 ?_
                  case yc33 => (intro w hSx; (try dsimp only at hSx); go_simp; first | done | with_reducible rfl | rfl)
                  (try simp only [Act.put, List.setIfInBounds_toArray, List.set_cons_zero, List.set_cons_succ])
                  refine wpPlan_takeD (v := ?vc34) rfl rfl hSw (by rfl) ?yc34 ?_
                  case yc34 => (intro w hSx; (try dsimp only at hSx); go_simp; first | done | with_reducible rfl | rfl)
                  (try simp only [Act.put, List.setIfInBounds_toArray, List.set_cons_zero, List.set_cons_succ])
                  refine wpPlan_takeD (v := ?vc35) rfl rfl hSw (by rfl) ?yc35 ?_
                  case yc35 => (intro w hSx; (try dsimp only at hSx); go_simp; first | done | with_reducible rfl | rfl)
                  (try simp only [Act.put, List.setIfInBounds_toArray, List.set_cons_zero, List.set_cons_succ])
                  refine wpPlan_takeD (v := ?vc36) rfl rfl hSw (by rfl) ?yc36 ?_
                  case yc36 => (intro w hSx; (try dsimp only at hSx); go_simp; first | done | with_reducible rfl | rfl)
                  (try simp only [Act.put, List.setIfInBounds_toArray, List.set_cons_zero, List.set_cons_succ])
                  refine wpPlan_takeD (v := ?vc37) rfl rfl hSw (by rfl) ?yc37 ?_
                  case yc37 => (intro w hSx; (try dsimp only at hSx); go_simp; first | done | with_reducible rfl | rfl)
                  (try simp only [Act.put, List.setIfInBounds_toArray, List.set_cons_zero, List.set_cons_succ])
                  refine wpPlan_takeD (v := ?vc38) rfl rfl hSw (by rfl) ?yc38 ?_
                  case yc38 => (intro w hSx; (try dsimp only at hSx); go_simp; first | done | with_reducible rfl | rfl)
                  (try simp only [Act.put, List.setIfInBounds_toArray, List.set_cons_zero, List.set_cons_succ])
                  refine wpPlan_takeD (v := ?vc39) rfl rfl hSw (by rfl) ?yc39 ?_
                  case yc39 => (intro w hSx; (try dsimp only at hSx); go_simp; first | done | with_reducible rfl | rfl)
                  (try simp only [Act.put, List.setIfInBounds_toArray, List.set_cons_zero, List.set_cons_succ])
                  refine wpPlan_takeD (v := ?vc40) rfl rfl hSw (by rfl) ?yc40 ?_
                  case yc40 => (intro w hSx; (try dsimp only at hSx); go_simp; first | done | with_reducible rfl | rfl)
                  (try simp only [Act.put, List.setIfInBounds_toArray, List.set_cons_zero, List.set_cons_succ])
                  refine wpPlan_takeD (v := ?vc41) rfl rfl hSw (by rfl) ?yc41 ?_
                  case yc41 => (intro w hSx; (try dsimp only at hSx); go_simp; first | done | with_reducible rfl | rfl)
                  (try simp only [Act.put, List.setIfInBounds_toArray, List.set_cons_zero, List.set_cons_succ])
                  refine wpPlan_takeD (v := ?vc42) rfl rfl hSw (by rfl) ?yc42 ?_
                  case yc42 => (intro w hSx; (try dsimp only at hSx); go_simp; first | done | with_reducible rfl | rfl)
                  (try simp only [Act.put, List.setIfInBounds_toArray, List.set_cons_zero, List.set_cons_succ])
                  refine wpPlan_takeD (v := ?vc43) rfl rfl hSw (by rfl) ?yc43 ?_
                  case yc43 => (intro w hSx; (try dsimp only at hSx); go_simp; first | done | with_reducible rfl | rfl)
                  (try simp only [Act.put, List.setIfInBounds_toArray, List.set_cons_zero, List.set_cons_succ])
                  refine wpPlan_takeD (v := ?vc44) rfl rfl hSw (by rfl) ?yc44 ?_
                  case yc44 => (intro w hSx; (try dsimp only at hSx); go_simp; first | done | with_reducible rfl | rfl)
                  (try simp only [Act.put, List.setIfInBounds_toArray, List.set_cons_zero, List.set_cons_succ])
                  refine wpPlan_takeD (v := ?vc45) rfl rfl hSw (by rfl) ?yc45 ?_
                  case yc45 => (intro w hSx; (try dsimp only at hSx); go_simp; first | done | with_reducible rfl | rfl)
                  (try simp only [Act.put, List.setIfInBounds_toArray, List.set_cons_zero, List.set_cons_succ])
                  refine wpPlan_takeD (v := ?vc46) rfl rfl hSw (by rfl) ?yc46 ?_
                  case yc46 => (intro w hSx; (try dsimp only at hSx); go_simp; first | done | with_reducible rfl | rfl)
                  (try simp only [Act.put, List.setIfInBounds_toArray, List.set_cons_zero, List.set_cons_succ])
                  refine wpPlan_takeD (v := ?vc47) rfl rfl hSw (by rfl) ?yc47 ?_
                  case yc47 => (intro w hSx; (try dsimp only at hSx); go_simp; first | done | with_reducible rfl | rfl)
                  (try simp only [Act.put, List.setIfInBounds_toArray, List.set_cons_zero, List.set_cons_succ])
                  refine wpPlan_takeD (v := ?vc48) rfl rfl hSw (by rfl) ?yc48 ?_
                  case yc48 => (intro w hSx; (try dsimp only at hSx); go_simp; first | done | with_reducible rfl | rfl)
                  (try simp only [Act.put, List.setIfInBounds_toArray, List.set_cons_zero, List.set_cons_succ])
                  refine wpPlan_takeD (v := ?vc49) rfl rfl hSw (by rfl) ?yc49 ?_
                  case yc49 => (intro w hSx; (try dsimp only at hSx); go_simp; first | done | with_reducible rfl | rfl)
                  (try simp only [Act.put, List.setIfInBounds_toArray, List.set_cons_zero, List.set_cons_succ])
                  refine wpPlan_takeD (v := ?vc50) rfl rfl hSw (by rfl) ?yc50 ?_
                  case yc50 => (intro w hSx; (try dsimp only at hSx); go_simp; first | done | with_reducible rfl | rfl)
                  (try simp only [Act.put, List.setIfInBounds_toArray, List.set_cons_zero, List.set_cons_succ])
                  refine wpPlan_run rfl (by rfl) (fun K' hK => ?_)
                  (go_simp; go_at_call 16; refine (HT1.out _ (HK2.out _ (Below.refl _ _))).mono ?_; rintro e v3 ⟨rfl, hb1⟩; have HK3 := Lib.hid (fun w' (h : Below v3.heap.size v3 w') => HK2.out w' (hb1.trans (h.mono hb1.size))); clear hb1)
                  refine hK _ _ (.inr ?_) ?_
                  · exact HS10.out _ (HK3.out _ (Below.refl _ _))
                  clear hK K' hSw
                  have hSw := HS10.out _ (HK3.out _ (Below.refl _ _))
                  (try simp only [Act.put, List.setIfInBounds_toArray, List.set_cons_zero, List.set_cons_succ])
                  refine wpPlan_run rfl (by rfl) (fun K' hK => ?_)
                  (go_simp; go_at_call 16; refine (HT2.out _ (HK3.out _ (Below.refl _ _))).mono ?_; rintro e v4 ⟨rfl, hb1⟩; have HK4 := Lib.hid (fun w' (h : Below v4.heap.size v4 w') => HK3.out w' (hb1.trans (h.mono hb1.size))); clear hb1)
                  refine hK _ _ (.inr ?_) ?_
                  · exact HS10.out _ (HK4.out _ (Below.refl _ _))
                  clear hK K' hSw
                  have hSw := HS10.out _ (HK4.out _ (Below.refl _ _))
                  (try simp only [Act.put, List.setIfInBounds_toArray, List.set_cons_zero, List.set_cons_succ])
                  refine wpPlan_takeD (v := ?vc51) rfl rfl hSw (by rfl) ?yc51 ?_
                  case yc51 => (intro w hSx; (try dsimp only at hSx); go_simp; first | done | with_reducible rfl | rfl)
                  (try simp only [Act.put, List.setIfInBounds_toArray, List.set_cons_zero, List.set_cons_succ])
                  refine wpPlan_run rfl (by rfl) (fun K' hK => ?_)
                  (go_simp; go_at_call 17; refine (HE.out _ (HK4.out _ (Below.refl _ _))).mono ?_; rintro e v5 ⟨rfl, hb1⟩; have HK5 := Lib.hid (fun w' (h : Below v5.heap.size v5 w') => HK4.out w' (hb1.trans (h.mono hb1.size))); clear hb1)
                  refine hK _ _ (.inr ?_) ?_
                  · exact HS10.out _ (HK5.out _ (Below.refl _ _))
                  clear hK K' hSw
                  have hSw := HS10.out _ (HK5.out _ (Below.refl _ _))
                  (try simp only [Act.put, List.setIfInBounds_toArray, List.set_cons_zero, List.set_cons_succ])
                  refine wpPlan_takeD (v := ?vc52) rfl rfl hSw (by rfl) ?yc52 ?_
                  case yc52 => (intro w hSx; (try dsimp only at hSx); go_simp; first | done | with_reducible rfl | rfl)
                  (try simp only [Act.put, List.setIfInBounds_toArray, List.set_cons_zero, List.set_cons_succ])
                  refine wpPlan_takeD (v := ?vc53) rfl rfl hSw (by rfl) ?yc53 ?_
                  case yc53 => (intro w hSx; (try dsimp only at hSx); go_simp; first | done | with_reducible rfl | rfl)
                  (try simp only [Act.put, List.setIfInBounds_toArray, List.set_cons_zero, List.set_cons_succ])
                  refine wpPlan_done ?_
                  go_wp2_with fail
                  go_roundg (io - (k + 1))
                  case measure => omega
                  case rel => exact ⟨k + 1, by omega, rfl, by go_num, HK5.out _ (Below.refl _ _)⟩
                | false =>
                  have hne : ¬ tx = ty := by simpa using hts
                  have hnb : ¬ (⟨tx.toArray⟩ : ByteArray) = ⟨ty.toArray⟩ := by
                    intro e
                    apply hne
                    have := congrArg (fun b : ByteArray => b.data.toList) e
                    simpa using this
                  refine wp_region_plan (fun w' : World => (w'.cell? ⟨gL, io * 4, none⟩ = some (.string ⟨p1.toArray⟩) ∧ w'.cell? ⟨gL, io * 4 + 1, none⟩ = some (.slice pa1 m1 pc1) ∧ w'.cell? ⟨gL, io * 4 + 2, none⟩ = some (.slice qa1 r1 qc1) ∧ w'.cell? ⟨gL, io * 4 + 3, none⟩ = some (.string ⟨t1.toArray⟩) ∧ w'.cell? ⟨gL, k * 4, none⟩ = some (.string ⟨p2.toArray⟩) ∧ w'.cell? ⟨gL, k * 4 + 1, none⟩ = some (.slice pa2 m2 pc2) ∧ w'.cell? ⟨gL, k * 4 + 2, none⟩ = some (.slice qa2 r2 qc2) ∧ w'.cell? ⟨gL, k * 4 + 3, none⟩ = some (.string ⟨t2.toArray⟩))) [] (.take 0 (.take 1 (.take 2 (.take 3 (.one 4 (.take 5 (.take 6 (.take 7 (.take 8 (.take 9 (.one 10 (.take 11 (.take 12 (.take 13 (.take 14 (.take 15 (.take 16 (.take 18 (.take 19 (.take 20 (.take 21 (.take 24 (.take 25 (.take 26 (.take 27 (.take 28 (.take 29 (.take 30 (.take 31 (.one 17 (.one 22 (.take 23 (.one 32 (.take 33 (.take 34 (.done)))))))))))))))))))))))))))))))))))) (by kernel_rfl) (by kernel_rfl) (fun _ _ _ _ h => h) ?_
                  have hSw := HS10.out _ (HK0.out _ (Below.refl _ _))
                  refine wpPlan_takeD (v := ?vd54) rfl rfl hSw (by rfl) ?yd54 ?_
                  case yd54 => (intro w hSx; (try dsimp only at hSx); go_simp; first | done | with_reducible rfl | rfl)
                  (try simp only [Act.put, List.setIfInBounds_toArray, List.set_cons_zero, List.set_cons_succ])
                  refine wpPlan_takeD (v := ?vd55) rfl rfl hSw (by rfl) ?yd55 ?_
                  case yd55 => (intro w hSx; (try dsimp only at hSx); go_simp; first | done | with_reducible rfl | rfl)
                  (try simp only [Act.put, List.setIfInBounds_toArray, List.set_cons_zero, List.set_cons_succ])
                  refine wpPlan_takeD (v := ?vd56) rfl rfl hSw (by rfl) ?yd56 ?_
                  case yd56 => (intro w hSx; (try dsimp only at hSx); go_simp; first | done | with_reducible rfl | rfl)
                  (try simp only [Act.put, List.setIfInBounds_toArray, List.set_cons_zero, List.set_cons_succ])
                  refine wpPlan_takeD (v := ?vd57) rfl rfl hSw (by rfl) ?yd57 ?_
                  case yd57 => (intro w hSx; (try dsimp only at hSx); go_simp; first | done | with_reducible rfl | rfl)
                  (try simp only [Act.put, List.setIfInBounds_toArray, List.set_cons_zero, List.set_cons_succ])
                  refine wpPlan_run rfl (by rfl) (fun K' hK => ?_)
                  (go_simp; go_at_call 15; refine (HM1.out _ (HK0.out _ (Below.refl _ _))).mono ?_; rintro e v1 ⟨rfl, hb1⟩; have HK1 := Lib.hid (fun w' (h : Below v1.heap.size v1 w') => HK0.out w' (hb1.trans (h.mono hb1.size))); clear hb1)
                  refine hK _ _ (.inr ?_) ?_
                  · exact HS10.out _ (HK1.out _ (Below.refl _ _))
                  clear hK K' hSw
                  have hSw := HS10.out _ (HK1.out _ (Below.refl _ _))
                  (try simp only [Act.put, List.setIfInBounds_toArray, List.set_cons_zero, List.set_cons_succ])
                  refine wpPlan_takeD (v := ?vd58) rfl rfl hSw (by rfl) ?yd58 ?_
                  case yd58 => (intro w hSx; (try dsimp only at hSx); go_simp; first | done | with_reducible rfl | rfl)
                  (try simp only [Act.put, List.setIfInBounds_toArray, List.set_cons_zero, List.set_cons_succ])
                  refine wpPlan_takeD (v := ?vd59) rfl rfl hSw (by rfl) ?yd59 ?_
                  case yd59 => (intro w hSx; (try dsimp only at hSx); go_simp; first | done | with_reducible rfl | rfl)
                  (try simp only [Act.put, List.setIfInBounds_toArray, List.set_cons_zero, List.set_cons_succ])
                  refine wpPlan_takeD (v := ?vd60) rfl rfl hSw (by rfl) ?yd60 ?_
                  case yd60 => (intro w hSx; (try dsimp only at hSx); go_simp; first | done | with_reducible rfl | rfl)
                  (try simp only [Act.put, List.setIfInBounds_toArray, List.set_cons_zero, List.set_cons_succ])
                  refine wpPlan_takeD (v := ?vd61) rfl rfl hSw (by rfl) ?yd61 ?_
                  case yd61 => (intro w hSx; (try dsimp only at hSx); go_simp; first | done | with_reducible rfl | rfl)
                  (try simp only [Act.put, List.setIfInBounds_toArray, List.set_cons_zero, List.set_cons_succ])
                  refine wpPlan_takeD (v := ?vd62) rfl rfl hSw (by rfl) ?yd62 ?_
                  case yd62 => (intro w hSx; (try dsimp only at hSx); go_simp; first | done | with_reducible rfl | rfl)
                  (try simp only [Act.put, List.setIfInBounds_toArray, List.set_cons_zero, List.set_cons_succ])
                  refine wpPlan_run rfl (by rfl) (fun K' hK => ?_)
                  (go_simp; go_at_call 15; refine (HM2.out _ (HK1.out _ (Below.refl _ _))).mono ?_; rintro e v2 ⟨rfl, hb1⟩; have HK2 := Lib.hid (fun w' (h : Below v2.heap.size v2 w') => HK1.out w' (hb1.trans (h.mono hb1.size))); clear hb1)
                  refine hK _ _ (.inr ?_) ?_
                  · exact HS10.out _ (HK2.out _ (Below.refl _ _))
                  clear hK K' hSw
                  have hSw := HS10.out _ (HK2.out _ (Below.refl _ _))
                  (try simp only [Act.put, List.setIfInBounds_toArray, List.set_cons_zero, List.set_cons_succ])
                  refine wpPlan_takeD (v := ?vd63) rfl rfl hSw (by rfl) ?yd63 ?_
                  case yd63 => (intro w hSx; (try dsimp only at hSx); go_simp; first | done | with_reducible rfl | rfl)
                  (try simp only [Act.put, List.setIfInBounds_toArray, List.set_cons_zero, List.set_cons_succ])
                  refine wpPlan_takeD (v := ?vd64) rfl rfl hSw (by rfl) ?yd64 ?_
                  case yd64 => (intro w hSx; (try dsimp only at hSx); go_simp; first | done | with_reducible rfl | rfl)
                  (try simp only [Act.put, List.setIfInBounds_toArray, List.set_cons_zero, List.set_cons_succ])
                  refine wpPlan_takeD (v := ?vd65) rfl rfl hSw (by rfl) ?yd65 ?_
                  case yd65 => (intro w hSx; (try dsimp only at hSx); go_simp; first | done | with_reducible rfl | rfl)
                  (try simp only [Act.put, List.setIfInBounds_toArray, List.set_cons_zero, List.set_cons_succ])
                  refine wpPlan_takeD (v := ?vd66) rfl rfl hSw (by rfl) ?yd66 ?_
                  case yd66 => (intro w hSx; (try dsimp only at hSx); go_simp; first | done | with_reducible rfl | rfl)
                  (try simp only [Act.put, List.setIfInBounds_toArray, List.set_cons_zero, List.set_cons_succ])
                  refine wpPlan_takeD (v := ?vd67) rfl rfl hSw (by rfl) ?yd67 ?_
                  case yd67 => (intro w hSx; (try dsimp only at hSx); go_simp; first | done | with_reducible rfl | rfl)
                  (try simp only [Act.put, List.setIfInBounds_toArray, List.set_cons_zero, List.set_cons_succ])
                  refine wpPlan_takeD (v := ?vd68) rfl rfl hSw (by rfl) ?yd68 ?_
                  case yd68 => (intro w hSx; (try dsimp only at hSx); go_simp; first | done | with_reducible rfl | rfl)
                  (try simp only [Act.put, List.setIfInBounds_toArray, List.set_cons_zero, List.set_cons_succ])
                  refine wpPlan_takeD (v := ?vd69) rfl rfl hSw (by rfl) ?yd69 ?_
                  case yd69 => (intro w hSx; (try dsimp only at hSx); go_simp; first | done | with_reducible rfl | rfl)
                  (try simp only [Act.put, List.setIfInBounds_toArray, List.set_cons_zero, List.set_cons_succ])
                  refine wpPlan_takeD (v := ?vd70) rfl rfl hSw (by rfl) ?yd70 ?_
                  case yd70 => (intro w hSx; (try dsimp only at hSx); go_simp; first | done | with_reducible rfl | rfl)
                  (try simp only [Act.put, List.setIfInBounds_toArray, List.set_cons_zero, List.set_cons_succ])
                  refine wpPlan_takeD (v := ?vd71) rfl rfl hSw (by rfl) ?yd71 ?_
                  case yd71 => (intro w hSx; (try dsimp only at hSx); go_simp; first | done | with_reducible rfl | rfl)
                  (try simp only [Act.put, List.setIfInBounds_toArray, List.set_cons_zero, List.set_cons_succ])
                  refine wpPlan_takeD (v := ?vd72) rfl rfl hSw (by rfl) ?yd72 ?_
                  case yd72 => (intro w hSx; (try dsimp only at hSx); go_simp; first | done | with_reducible rfl | rfl)
                  (try simp only [Act.put, List.setIfInBounds_toArray, List.set_cons_zero, List.set_cons_succ])
                  refine wpPlan_takeD (v := ?vd73) rfl rfl hSw (by rfl) ?yd73 ?_
                  case yd73 => (intro w hSx; (try dsimp only at hSx); go_simp; first | done | with_reducible rfl | rfl)
                  (try simp only [Act.put, List.setIfInBounds_toArray, List.set_cons_zero, List.set_cons_succ])
                  refine wpPlan_takeD (v := ?vd74) rfl rfl hSw (by rfl) ?yd74 ?_
                  case yd74 => (intro w hSx; (try dsimp only at hSx); go_simp; first | done | with_reducible rfl | rfl)
                  (try simp only [Act.put, List.setIfInBounds_toArray, List.set_cons_zero, List.set_cons_succ])
                  refine wpPlan_takeD (v := ?vd75) rfl rfl hSw (by rfl) ?yd75 ?_
                  case yd75 => (intro w hSx; (try dsimp only at hSx); go_simp; first | done | with_reducible rfl | rfl)
                  (try simp only [Act.put, List.setIfInBounds_toArray, List.set_cons_zero, List.set_cons_succ])
                  refine wpPlan_takeD (v := ?vd76) rfl rfl hSw (by rfl) ?yd76 ?_
                  case yd76 => (intro w hSx; (try dsimp only at hSx); go_simp; first | done | with_reducible rfl | rfl)
                  (try simp only [Act.put, List.setIfInBounds_toArray, List.set_cons_zero, List.set_cons_succ])
                  refine wpPlan_takeD (v := ?vd77) rfl rfl hSw (by rfl) ?yd77 ?_
                  case yd77 => (intro w hSx; (try dsimp only at hSx); go_simp; first | done | with_reducible rfl | rfl)
                  (try simp only [Act.put, List.setIfInBounds_toArray, List.set_cons_zero, List.set_cons_succ])
                  refine wpPlan_takeD (v := ?vd78) rfl rfl hSw (by rfl) ?yd78 ?_
                  case yd78 => (intro w hSx; (try dsimp only at hSx); go_simp; first | done | with_reducible rfl | rfl)
                  (try simp only [Act.put, List.setIfInBounds_toArray, List.set_cons_zero, List.set_cons_succ])
                  refine wpPlan_takeD (v := ?vd79) rfl rfl hSw (by rfl) ?yd79 ?_
                  case yd79 => (intro w hSx; (try dsimp only at hSx); go_simp; first | done | with_reducible rfl | rfl)
                  (try simp only [Act.put, List.setIfInBounds_toArray, List.set_cons_zero, List.set_cons_succ])
                  refine wpPlan_takeD (v := ?vd80) rfl rfl hSw (by rfl) ?yd80 ?_
                  case yd80 => (intro w hSx; (try dsimp only at hSx); go_simp; first | done | with_reducible rfl | rfl)
                  (try simp only [Act.put, List.setIfInBounds_toArray, List.set_cons_zero, List.set_cons_succ])
                  refine wpPlan_run rfl (by rfl) (fun K' hK => ?_)
                  (go_simp; go_at_call 16; refine (HT1.out _ (HK2.out _ (Below.refl _ _))).mono ?_; rintro e v3 ⟨rfl, hb1⟩; have HK3 := Lib.hid (fun w' (h : Below v3.heap.size v3 w') => HK2.out w' (hb1.trans (h.mono hb1.size))); clear hb1)
                  refine hK _ _ (.inr ?_) ?_
                  · exact HS10.out _ (HK3.out _ (Below.refl _ _))
                  clear hK K' hSw
                  have hSw := HS10.out _ (HK3.out _ (Below.refl _ _))
                  (try simp only [Act.put, List.setIfInBounds_toArray, List.set_cons_zero, List.set_cons_succ])
                  refine wpPlan_run rfl (by rfl) (fun K' hK => ?_)
                  (go_simp; go_at_call 16; refine (HT2.out _ (HK3.out _ (Below.refl _ _))).mono ?_; rintro e v4 ⟨rfl, hb1⟩; have HK4 := Lib.hid (fun w' (h : Below v4.heap.size v4 w') => HK3.out w' (hb1.trans (h.mono hb1.size))); clear hb1)
                  refine hK _ _ (.inr ?_) ?_
                  · exact HS10.out _ (HK4.out _ (Below.refl _ _))
                  clear hK K' hSw
                  have hSw := HS10.out _ (HK4.out _ (Below.refl _ _))
                  (try simp only [Act.put, List.setIfInBounds_toArray, List.set_cons_zero, List.set_cons_succ])
                  refine wpPlan_takeD (v := ?vd81) rfl rfl hSw (by rfl) ?yd81 ?_
                  case yd81 => (intro w hSx; (try dsimp only at hSx); go_simp; first | done | with_reducible rfl | rfl)
                  (try simp only [Act.put, List.setIfInBounds_toArray, List.set_cons_zero, List.set_cons_succ])
                  refine wpPlan_run rfl (by rfl) (fun K' hK => ?_)
                  (go_simp; go_at_call 17; refine (HE.out _ (HK4.out _ (Below.refl _ _))).mono ?_; rintro e v5 ⟨rfl, hb1⟩; have HK5 := Lib.hid (fun w' (h : Below v5.heap.size v5 w') => HK4.out w' (hb1.trans (h.mono hb1.size))); clear hb1)
                  refine hK _ _ (.inr ?_) ?_
                  · exact HS10.out _ (HK5.out _ (Below.refl _ _))
                  clear hK K' hSw
                  have hSw := HS10.out _ (HK5.out _ (Below.refl _ _))
                  (try simp only [Act.put, List.setIfInBounds_toArray, List.set_cons_zero, List.set_cons_succ])
                  refine wpPlan_takeD (v := ?vd82) rfl rfl hSw (by rfl) ?yd82 ?_
                  case yd82 => (intro w hSx; (try dsimp only at hSx); go_simp; first | done | with_reducible rfl | rfl)
                  (try simp only [Act.put, List.setIfInBounds_toArray, List.set_cons_zero, List.set_cons_succ])
                  refine wpPlan_takeD (v := ?vd83) rfl rfl hSw (by rfl) ?yd83 ?_
                  case yd83 => (intro w hSx; (try dsimp only at hSx); go_simp; first | done | with_reducible rfl | rfl)
                  (try simp only [Act.put, List.setIfInBounds_toArray, List.set_cons_zero, List.set_cons_succ])
                  refine wpPlan_done ?_
                  go_wp2_with fail
                  go_roundg (io - (k + 1))
                  case measure => omega
                  case rel => exact ⟨k + 1, by omega, rfl, by go_num, HK5.out _ (Below.refl _ _)⟩
          · obtain rfl : k = io := by omega
            go_wp2_with fail
            go_roundg (3 - (k + 1))
            case measure => omega
            case rel => exact ⟨k + 1, by omega, rfl, by go_num, HBK.out⟩
      · obtain rfl : io = 3 := by omega
        obtain ⟨pa1, pc1, qa1, qc1, cx0, cx1, cx2, cx3, hgl, hdx, hrx, htx⟩ := HSI.out 0 (by omega)
        obtain ⟨pa2, pc2, qa2, qc2, cy0, cy1, cy2, cy3, _, hdy, hry, hty⟩ := HSI.out 1 (by omega)
        have e0 : threeS X Y Z 0 = X := rfl
        have e1 : threeS X Y Z 1 = Y := rfl
        rw [e0] at cx0 cx1 cx2 cx3 hdx hrx htx
        rw [e1] at cy0 cy1 cy2 cy3 hdy hry hty
        have hq1 := fun w' (h : Below wl.heap.size wl w') => by
          have k := (text_one_walk X pa1 qa1 pc1 qc1 w' (hdx.below h) (hrx.below h) htx (HGL.out.below h)).1
          rw [HM0.out.1] at k
          exact k
        have hq2 := fun w' (h : Below wl.heap.size wl w') => by
          have k := (text_one_walk Y pa2 qa2 pc2 qc2 w' (hdy.below h) (hry.below h) hty (HGL.out.below h)).1
          rw [HM0.out.2] at k
          exact k
        clear hdx hrx htx hdy hry hty e0 e1 HM0 HTY HSI HGL
        obtain ⟨p1, dl1, rl1, t1⟩ := X
        obtain ⟨p2, dl2, rl2, t2⟩ := Y
        simp only at hq1 hq2 cx0 cx1 cx2 cx3 cy0 cy1 cy2 cy3
        generalize dl1.length = m1 at *
        generalize rl1.length = r1 at *
        generalize dl2.length = m2 at *
        generalize rl2.length = r2 at *
        have HM1 := Lib.hid hq1
        have HM2 := Lib.hid hq2
        clear hq1 hq2
        have HQ := Lib.hid (fun w' (h : Below wl.heap.size wl w') => (show w'.cell? ⟨gL, 0, none⟩ = some (.string ⟨p1.toArray⟩) ∧ w'.cell? ⟨gL, 1, none⟩ = some (.slice pa1 m1 pc1) ∧ w'.cell? ⟨gL, 2, none⟩ = some (.slice qa1 r1 qc1) ∧ w'.cell? ⟨gL, 3, none⟩ = some (.string ⟨t1.toArray⟩) ∧ w'.cell? ⟨gL, 4, none⟩ = some (.string ⟨p2.toArray⟩) ∧ w'.cell? ⟨gL, 5, none⟩ = some (.slice pa2 m2 pc2) ∧ w'.cell? ⟨gL, 6, none⟩ = some (.slice qa2 r2 qc2) ∧ w'.cell? ⟨gL, 7, none⟩ = some (.string ⟨t2.toArray⟩) from ⟨(h.cell (p := ⟨gL, _, none⟩) hgl).trans cx0, (h.cell (p := ⟨gL, _, none⟩) hgl).trans cx1, (h.cell (p := ⟨gL, _, none⟩) hgl).trans cx2, (h.cell (p := ⟨gL, _, none⟩) hgl).trans cx3, (h.cell (p := ⟨gL, _, none⟩) hgl).trans cy0, (h.cell (p := ⟨gL, _, none⟩) hgl).trans cy1, (h.cell (p := ⟨gL, _, none⟩) hgl).trans cy2, (h.cell (p := ⟨gL, _, none⟩) hgl).trans cy3⟩))
        obtain ⟨z0, z1, z2, z3, _⟩ := HQ.out _ HBO.out
        have hlw : gL < wo.heap.size := Nat.lt_of_lt_of_le hgl HBO.out.size
        clear cx0 cx1 cx2 cx3 cy0 cy1 cy2 cy3 hin hi
        go_wp2_with fail
        refine (HM1.out _ HBO.out).mono ?_
        rintro e v1 ⟨rfl, hb1⟩
        have HB1 := Lib.hid (HBO.out.trans (hb1.mono HBO.out.size))
        obtain ⟨_, _, _, _, y0, y1, y2, y3⟩ := HQ.out _ HB1.out
        have hlv : gL < v1.heap.size := Nat.lt_of_lt_of_le hgl HB1.out.size
        clear z0 z1 z2 z3 hb1
        go_wp2_with fail
        refine (HM2.out _ HB1.out).mono ?_
        rintro e v2 ⟨rfl, hb2⟩
        go_wp2_with fail
        go_ret
        exact ⟨rfl, HBW.out.trans ((HB1.out.trans (hb2.mono HB1.out.size)).mono HBW.out.size)⟩
end Go.Proofs.YthmimcegiihcnaaDoor
