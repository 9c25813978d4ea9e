import Derived.Test.YtddnomjfcbplpaaGreatDoorZ46
import Derived.Test.YtddnomjfcbplpaaGreatDoorZ40
import Derived.Test.YtddnomjfcbplpaaGreatDoorZ44
namespace Go.Proofs.YtddnomjfcbplpaaGreatDoor
open Go.RowKit Go.Maps
namespace Sp
structure ArgK (M : Nat) (s s' : Mk) (m : Nat) : Prop where
 args : (∀ q ∈ s.prods, q.args.length ≤ M) → ∀ q ∈ s'.prods, q.args.length ≤ M
 more : s.prods.length + m ≤ s'.prods.length
theorem ArgK.trans {M m m' : Nat} {s s1 s2 : Mk} (h : ArgK M s s1 m) (k : ArgK M s1 s2 m') : ArgK M s s2 (m + m') := ⟨fun h0 => k.args (h.args h0), by have := h.more; have := k.more; omega⟩
end Sp


theorem Gl4.below {w w' : World} (h : Gl4 w) (hb : Below w.heap.size w w') : Gl4 w' := by
 obtain ⟨⟨m, hm⟩, hz, ht⟩ := h; have hs := hb.size; exact ⟨⟨m, (hb.cell (p := ⟨0, 0, none⟩) (by show 0 < _; omega)).trans hm⟩, by omega, var?_below hb (by kernel_rfl : Tryz.prog.globalNamed "internal/strconv.uint64pow10" = some 1) (by omega) ht⟩
theorem GrAt_below {W w' : World} {v : Value} {x : Sp.Gr} (h : GrAt W v x) (hb : Below W.heap.size W w') : GrAt w' v x := by
 obtain ⟨rv, lv, iv, e, h1, ⟨f, h2, h3⟩, h4, h5, h6⟩ := h; exact ⟨rv, lv, iv, e, h1, ⟨f, h2.below hb, fun i row hi => ⟨SlAt.below (h3 i row hi).1 hb, (h3 i row hi).2⟩⟩, SlAt.below h4 hb, SlAt.below h5 hb, h6⟩
structure StI (W wr : World) (bs B C : Nat) (dv qv : Value) (ds : List Sp.Decl) (rs : List Sp.Rule) : Prop where
 src : wr.heap[bs]? = some (.cells #[.string ⟨#[]⟩, dv, qv, .string ⟨#[]⟩] 25 (0, 0))
 decls : qK B wr dv ds
 rules : jO C wr qv rs
 bel : Below W.heap.size W wr
 ge : W.heap.size ≤ bs
theorem StI.step {W wr w8 w' : World} {bs B C n c2 g2 bsy : Nat} {da : Option Addr} {dc : Nat} {qv : Value} {ds : List Sp.Decl} {rs : List Sp.Rule} {d : Sp.Decl} {f : Nat → Value} (h : StI W wr bs B C (.slice da n dc) qv ds rs) (hn : n = ds.length)
  (hch : ∀ (i : Nat) (a : Sp.Decl), ds[i]? = some a → symsOwn wr (f i) a) (hk8 : Kp (fun b => b = bs) wr w8) (hk9 : Kp (fun b => b < W.heap.size) wr w8) (kt8 : KpT (fun t => t ≠ 57) wr w8)
  (hsy : w8.ownsRow B 45 4 (.slice (some ⟨bsy, 0, none⟩) 1 1) d.syms.length (d.syms.map symC).flatten)
  (hown : w8.ownsRow B 57 4 (.slice (some ⟨g2, 0, none⟩) (n + 1) c2) (n + 1) ((ds.mapIdx fun i a => xP (f i) a).flatten ++ xP (.slice (some ⟨bsy, 0, none⟩) 1 1) d)) (hw : w' = w8.setCell ⟨bs, 1, none⟩ (.slice (some ⟨g2, 0, none⟩) (n + 1) c2)) :
  StI W w' bs B C (.slice (some ⟨g2, 0, none⟩) (n + 1) c2) qv (ds ++ [d]) rs ∧ KpT (fun t => t ≠ 57 ∧ t ≠ 25) wr w' := by
 have hds : qK B w8 (.slice (some ⟨g2, 0, none⟩) (n + 1) c2) (ds ++ [d]) := by
  rw [hn] at hown ⊢; exact OwnR.snoc hch hown (fun u a h => symsOwn_kp kt8 (by decide) u a h) ⟨_, hsy⟩
 subst hw; have hs := hk8.at h.src rfl; have kt : KpT (fun t => t ≠ 25) w8 (w8.setCell ⟨bs, 1, none⟩ (.slice (some ⟨g2, 0, none⟩) (n + 1) c2)) := KpT.setCell (fun _ _ _ _ h _ => h) hs (by simp) _; have kr := zCS h.rules kt8 (by decide) (by decide) (by decide); refine ⟨⟨zA hs, zBL hds kt (by decide) (by decide), zCS kr kt (by decide) (by decide) (by decide), ?_, h.ge⟩, (kt8.mono (fun _ h => h.1)).trans (kt.mono (fun _ h => h.2))⟩; exact h.bel.trans (Kp.below (hk9.setCell (p := ⟨bs, 1, none⟩) (by have := h.ge; simp only; omega) _) h.bel.size (fun b hb => hb))
theorem StI.keep {W w w' : World} {bs B C : Nat} {dv qv : Value} {ds : List Sp.Decl} {rs : List Sp.Rule} (h : StI W w bs B C dv qv ds rs) (hb : Below w.heap.size w w') : StI W w' bs B C dv qv ds rs :=
 ⟨(hb.block _ (zC h.src)).trans h.src, zBL h.decls (KpT.below (T := fun _ => True) hb) trivial trivial, zCS h.rules (KpT.below (T := fun _ => True) hb) trivial trivial trivial, h.bel.trans (hb.mono h.bel.size), h.ge⟩

theorem cut0_inner2 (x : Sp.zM) : (Sp.xT (xW yA x)).inner ≤ 60000 := by
 have h1 := Sp.zEB (xW yA x)
 have h2 : Sp.gL (xW yA x).rules ≤ (xW yA x).rules.length * (5 * 6) := Sp.partsN_le (fun u hu => by
  obtain ⟨r, _, rfl⟩ := List.mem_map.1 (show u ∈ (x.rules.take 6).map (qN yA) from hu); refine ⟨?_, fun a ha => ?_⟩
  ·show ((r.alts.take 5).map (kX yA)).length ≤ 5
   rw [List.length_map, List.length_take]; omega
  ·obtain ⟨b, _, rfl⟩ := List.mem_map.1 (show a ∈ (r.alts.take 5).map (kX yA) from ha)
   show ((b.parts.take 6).map (jT yA)).length ≤ 6
   rw [List.length_map, List.length_take]
   omega)
 have h3 : (xW yA x).rules.length ≤ 6 := by
  show ((x.rules.take 6).map (qN yA)).length ≤ 6
  rw [List.length_map, List.length_take]; omega
 omega
theorem tiny_inner {x : Sp.zM} (h : tinySrc x) : (Sp.xT x).inner ≤ 60000 := by
 have h1 := Sp.zEB x; have h2 : Sp.gL x.rules ≤ x.rules.length * (20 * 20) := Sp.partsN_le (fun u hu => ⟨(h.2.2.2.2.2 u hu).2.1, fun a ha => ((h.2.2.2.2.2 u hu).2.2 a ha).1⟩); have h3 := h.2.2.2.1; have h4 : x.rules.length * (20 * 20) ≤ 20 * (20 * 20) := Nat.mul_le_mul_right _ h3; omega
def SrcIn (W5 : World) (b k : Nat) : Prop :=
 ∃ (s : Sp.zM) (da ra : Option Addr) (dn dc rn rc : Nat), (∀ w', Below W5.heap.size W5 w' → w'.cell? ⟨b, k * 4, none⟩ = some (.string ⟨s.pro.toArray⟩) ∧ w'.cell? ⟨b, k * 4 + 1, none⟩ = some (.slice da dn dc) ∧ w'.cell? ⟨b, k * 4 + 2, none⟩ = some (.slice ra rn rc) ∧ w'.cell? ⟨b, k * 4 + 3, none⟩ = some (.string ⟨s.tail.toArray⟩)) ∧
  xD W5 (.slice da dn dc) s.decls ∧ xA W5 (.slice ra rn rc) s.rules ∧ xN s ∧ (Sp.xT s).inner ≤ 60000
set_option maxRecDepth 100000 in
set_option maxHeartbeats 6400000 in
theorem law_GramNames (x : Sp.zM) (vd vr : Value) (y : Sp.Gr) (vy : Value) (sym : Int) (W : World) (hdx : xD W vd x.decls) (hrx : xA W vr x.rules) (hx : bigSrc x) (hy : GrAt W vy y) (hw1 : (Lit.int .i64 sym).wf = true) (hg : Gl4 W) :
  Calls Tryz.prog 4 #[.agg (srcC vd vr x).toArray, vy, .int .i64 sym] W fun e w' => e = .returned (.bool true) ∧ Below W.heap.size W w' := by
 obtain ⟨da, dn, dc, rfl⟩ : ∃ a n c, vd = .slice a n c := by
  obtain ⟨fd, h1, _⟩ := hdx; obtain ⟨a, c, h⟩ := h1.form; exact ⟨a, _, c, h⟩
 obtain ⟨ra, rn, rc, rfl⟩ : ∃ a n c, vr = .slice a n c := by
  obtain ⟨fd, h1, _⟩ := hrx; obtain ⟨a, c, h⟩ := h1.form; exact ⟨a, _, c, h⟩
 have hy0 := hy; obtain ⟨yv, lv, iv, rfl, _, ⟨rf, hr1, _⟩, hl, hi, _⟩ := hy; obtain ⟨ya, yc, rfl⟩ := hr1.form; obtain ⟨la, lc, rfl⟩ := zBK hl; obtain ⟨ia, ic, rfl⟩ := zBK hi; rw [List.length_mapIdx] at hy0 ⊢; obtain ⟨yn, hyn⟩ : ∃ n, n = y.rules.length := ⟨_, rfl⟩
 obtain ⟨ln, hln⟩ : ∃ n, n = y.levels.length := ⟨_, rfl⟩
 obtain ⟨inn, hin⟩ : ∃ n, n = y.inner.length := ⟨_, rfl⟩
 rw [← hyn, ← hln, ← hin] at hy0 ⊢; have HCUT := zh (fun (w' : World) (hb : Below W.heap.size W w') => (show Calls Tryz.prog 7 #[.agg #[.string ⟨x.pro.toArray⟩, .slice da dn dc, .slice ra rn rc, .string ⟨x.tail.toArray⟩]] w' (Cut8Post yA x w') from cut0_walk x _ _ w' (hdx.below hb) (hrx.below hb) hx)); have HMAD := zh (fun (w' : World) (hb : Below W.heap.size W w') => (show Calls Tryz.prog 8 #[.agg #[.int .i64 y.nons, .slice ya yn yc, .slice la ln lc, .slice ia inn ic, .bool y.bare]] w' (MadePostS (Sp.xV y) w') from made_SourceS y _ w' (GrAt_below hy0 hb))); have HTI := zh ((tiny_small (cut_tiny yA (by decide) hx)).1); have HIN := zh (cut0_inner2 x); have HTM := zh ((tiny_small (zEF y)).1); have HIM := zh (tiny_inner (zEF y))
 have hsw : -9223372036854775808 ≤ sym ∧ sym ≤ 9223372036854775807 := by
  simp [Lit.wf, IntKind.min, IntKind.max, IntKind.signed, IntKind.bits] at hw1; omega
 have HSW := zh hsw; have HG := zh hg; show Calls _ _ #[.agg #[.string ⟨x.pro.toArray⟩, .slice da dn dc, .slice ra rn rc, .string ⟨x.tail.toArray⟩], _, _] _ _
 obtain ⟨w1, hw1'⟩ : ∃ w1 : World, w1 = (W.alloc (.cells #[.string ⟨x.pro.toArray⟩, .slice da dn dc, .slice ra rn rc, .string ⟨x.tail.toArray⟩] 25)).alloc (.cells #[.int .i64 y.nons, .slice ya yn yc, .slice la ln lc, .slice ia inn ic, .bool y.bare] 32) := ⟨_, rfl⟩
 have hb1 : Below W.heap.size W w1 := by rw [hw1']; exact ((Below.refl _ W).alloc (Nat.le_refl _) _).alloc (by simp) _
 have hx1 : w1.heap[W.heap.size]? = some (.cells #[.string ⟨x.pro.toArray⟩, .slice da dn dc, .slice ra rn rc, .string ⟨x.tail.toArray⟩] 25 (0, 0)) := by rw [hw1']; exact kR (zE W _) _
 have hy1 : w1.heap[W.heap.size + 1]? = some (.cells #[.int .i64 y.nons, .slice ya yn yc, .slice la ln lc, .slice ia inn ic, .bool y.bare] 32 (0, 0)) := by rw [hw1']; exact xJ W _ _
 have HB1 := zh hb1; have HX1 := zh hx1; have HY1 := zh hy1; have HG1 : Hid (Gl4 w1) := zh (hg.below hb1); clear hdx hrx hx hy0 hr1 hl hi hg hb1 hx1 hy1 hw1 hsw hyn hln hin; go_enter Tryz.func4, Tryz.ntmps4
 go_upto_region 1 with fail
 rw [← hw1']; clear hw1'; go_wp2_with fail; refine (wakes9 w1 HG1.out).mono ?_; rintro e w2 ⟨rfl, hb2⟩; have HB2 := zh (HB1.out.trans (hb2.mono HB1.out.size)); have HX2 := zh ((hb2.block _ (zC HX1.out)).trans HX1.out); have HY2 := zh ((hb2.block _ (zC HY1.out)).trans HY1.out)
 have HSK := zh (fun (w' : World) (hb : Below w2.heap.size w2 w') => (show ((w'.cell? ⟨W.heap.size, 0, none⟩ = some (.string ⟨x.pro.toArray⟩) ∧ w'.cell? ⟨W.heap.size, 1, none⟩ = some (.slice da dn dc) ∧ w'.cell? ⟨W.heap.size, 2, none⟩ = some (.slice ra rn rc) ∧ w'.cell? ⟨W.heap.size, 3, none⟩ = some (.string ⟨x.tail.toArray⟩)) ∧ (w'.cell? ⟨W.heap.size + 1, 0, none⟩ = some (.int .i64 y.nons) ∧ w'.cell? ⟨W.heap.size + 1, 1, none⟩ = some (.slice ya yn yc) ∧ w'.cell? ⟨W.heap.size + 1, 2, none⟩ = some (.slice la ln lc) ∧ w'.cell? ⟨W.heap.size + 1, 3, none⟩ = some (.slice ia inn ic) ∧ w'.cell? ⟨W.heap.size + 1, 4, none⟩ = some (.bool y.bare)) ∧ W.heap.size < w'.heap.size ∧ W.heap.size + 1 < w'.heap.size) from by
  have h1 := (hb.block _ (zC HX2.out)).trans HX2.out; have h2 := (hb.block _ (zC HY2.out)).trans HY2.out
  exact ⟨⟨zc 0 h1, zc 1 h1, zc 2 h1, zc 3 h1⟩, ⟨zc 0 h2, zc 1 h2, zc 2 h2, zc 3 h2, zc 4 h2⟩, zC h1, zC h2⟩))
 clear hb2 HX1 HY1 HB1 HG1; go_upto_region 3 with fail
 refine zF (fun w' : World => ((w'.cell? ⟨W.heap.size, 0, none⟩ = some (.string ⟨x.pro.toArray⟩) ∧ w'.cell? ⟨W.heap.size, 1, none⟩ = some (.slice da dn dc) ∧ w'.cell? ⟨W.heap.size, 2, none⟩ = some (.slice ra rn rc) ∧ w'.cell? ⟨W.heap.size, 3, none⟩ = some (.string ⟨x.tail.toArray⟩)) ∧ (w'.cell? ⟨W.heap.size + 1, 0, none⟩ = some (.int .i64 y.nons) ∧ w'.cell? ⟨W.heap.size + 1, 1, none⟩ = some (.slice ya yn yc) ∧ w'.cell? ⟨W.heap.size + 1, 2, none⟩ = some (.slice la ln lc) ∧ w'.cell? ⟨W.heap.size + 1, 3, none⟩ = some (.slice ia inn ic) ∧ w'.cell? ⟨W.heap.size + 1, 4, none⟩ = some (.bool y.bare)) ∧ W.heap.size < w'.heap.size ∧ W.heap.size + 1 < w'.heap.size)) [] (.take 0 (.take 2 (.one 1 (.one 3 (.one 4 (.one 5 (.done))))))) (by kernel_rfl) (by kernel_rfl) (fun _ _ _ _ h => h) ?_; have hSw := HSK.out _ (below_drewN (Below.refl _ w2) 1); iterate 2 (refine zO (v := ?_) rfl rfl hSw (by rfl) ?_ ?_; rotate_left 1; (focus (intro w hSx; (try dsimp only at hSx); go_simp; try rfl)); (try simp only [Act.put, zq0, zq1, zq2]))
 refine zB rfl (by rfl) (fun K' hK => ?_)
 (go_simp; go_at_call 7; refine (HCUT.out _ (below_drewN HB2.out 1)).mono ?_; rintro e w3 ⟨pv, qv, B, rfl, hb3', hdo, hro⟩; rw [show (srcC pv qv (xW yA x)).toArray = #[.string ⟨(xW yA x).pro.toArray⟩, pv, qv, .string ⟨(xW yA x).tail.toArray⟩] from rfl]; have hb3 : Below w2.heap.size w2 w3 := zI hb3'; clear hb3')
 refine hK _ _ (.inr (HSK.out _ hb3)) ?_; clear hK K' hSw; (try simp only [Act.put, zq0, zq1, zq2]); refine zB rfl (by rfl) (fun K' hK => ?_)
 (go_simp; go_at_call 8; refine (HMAD.out _ (HB2.out.trans (hb3.mono HB2.out.size))).mono ?_; rintro e w4 ⟨pv2, qv2, B2, C2, rfl, hb4', hdo2, hro2, _⟩; rw [show (srcC pv2 qv2 (Sp.xV y)).toArray = #[.string ⟨(Sp.xV y).pro.toArray⟩, pv2, qv2, .string ⟨(Sp.xV y).tail.toArray⟩] from rfl]; have hb4 : Below w2.heap.size w2 w4 := hb3.trans (hb4'.mono hb3.size))
 refine hK _ _ (.inr (HSK.out _ hb4)) ?_; clear hK K'; (try simp only [Act.put, zq0, zq1, zq2]); iterate 2 (refine zB rfl (by rfl) (fun K' hK => ?_); go_simp; refine hK _ _ (.inr (HSK.out _ (hb4.alloc hb4.size _))) ?_; clear hK K'; (try simp only [Act.put, zq0, zq1, zq2]))
 refine zH ?_; have hd3 := decls_at hdo; have hr3 := rules_at hro; have hd4 := decls_at hdo2; have hr4 := rules_at hro2
 obtain ⟨pa, pn, pc, rfl⟩ : ∃ a n c, pv = .slice a n c := by
  obtain ⟨fd, h1, _⟩ := hd3; obtain ⟨a, c, h⟩ := h1.form; exact ⟨a, _, c, h⟩
 obtain ⟨qa, qn, qc, rfl⟩ : ∃ a n c, qv = .slice a n c := by
  obtain ⟨fd, h1, _⟩ := hr3; obtain ⟨a, c, h⟩ := h1.form; exact ⟨a, _, c, h⟩
 obtain ⟨pa2, pn2, pc2, rfl⟩ : ∃ a n c, pv2 = .slice a n c := by
  obtain ⟨fd, h1, _⟩ := hd4; obtain ⟨a, c, h⟩ := h1.form; exact ⟨a, _, c, h⟩
 obtain ⟨qa2, qn2, qc2, rfl⟩ : ∃ a n c, qv2 = .slice a n c := by
  obtain ⟨fd, h1, _⟩ := hr4; obtain ⟨a, c, h⟩ := h1.form; exact ⟨a, _, c, h⟩
 obtain ⟨lb, hlb⟩ : ∃ lb, lb = w4.heap.size := ⟨_, rfl⟩
 obtain ⟨w5, hw5⟩ : ∃ w5 : World, w5 = w4.alloc (.cells #[.string ⟨(xW yA x).pro.toArray⟩, .slice pa pn pc, .slice qa qn qc, .string ⟨(xW yA x).tail.toArray⟩, .string ⟨(Sp.xV y).pro.toArray⟩, .slice pa2 pn2 pc2, .slice qa2 qn2 qc2, .string ⟨(Sp.xV y).tail.toArray⟩] 25) := ⟨_, rfl⟩
 rw [← hlb, ← hw5]; have hb45 : Below w4.heap.size w4 w5 := by rw [hw5]; exact (Below.refl _ w4).alloc (Nat.le_refl _) _
 have hl5 : w5.heap[lb]? = some (.cells #[.string ⟨(xW yA x).pro.toArray⟩, .slice pa pn pc, .slice qa qn qc, .string ⟨(xW yA x).tail.toArray⟩, .string ⟨(Sp.xV y).pro.toArray⟩, .slice pa2 pn2 pc2, .slice qa2 qn2 qc2, .string ⟨(Sp.xV y).tail.toArray⟩] 25 (0, 0)) := by rw [hw5, hlb]; exact zE w4 _
 have HB5 : Hid (Below W.heap.size W w5) := zh (HB2.out.trans ((hb4.trans (hb45.mono hb4.size)).mono HB2.out.size)); have hb35 : Below w3.heap.size w3 w5 := hb4'.trans (hb45.mono hb4'.size); have HL5 := zh hl5
 have HSRC : Hid (∀ k < 2, SrcIn w5 lb k) := zh (fun k hk => by
  rcases (by omega : k = 0 ∨ k = 1) with rfl | rfl
  ·refine ⟨xW yA x, pa, qa, pn, pc, qn, qc, fun w' hb => ?_, hd3.below hb35, hr3.below hb35, HTI.out, HIN.out⟩
   have h := (hb.block _ (zC hl5)).trans hl5; exact ⟨zc 0 h, zc 1 h, zc 2 h, zc 3 h⟩
  ·refine ⟨Sp.xV y, pa2, qa2, pn2, pc2, qn2, qc2, fun w' hb => ?_, hd4.below hb45, hr4.below hb45, HTM.out, HIM.out⟩
   have h := (hb.block _ (zC hl5)).trans hl5
   exact ⟨zc 4 h, zc 5 h, zc 6 h, zc 7 h⟩)
 clear hw5 hb45 hl5 hb35 hd3 hr3 hd4 hr4 hdo hro hdo2 hro2 hb3 hb4 hb4' hlb HCUT HMAD HTI HIN HTM HIM HSK HX2 HY2 HB2 HG; go_wp2_with fail; go_loopg [8] 2 (fun q iv wr => ∃ k : Nat, k ≤ 2 ∧ q = 2 - k ∧ iv = .int .i64 (k : Int) ∧ Below w5.heap.size w5 wr)
 case atStart => exact ⟨0, by omega, rfl, rfl, Below.refl _ _⟩
 case round =>
  obtain ⟨k, hk, rfl, rfl, hbr⟩ := hrel; obtain ⟨wo, hwo⟩ : ∃ wo : World, wo = wr := ⟨_, rfl⟩
  subst hwo; have HBR := zh hbr; have hk0 : (0 : Int) ≤ (k : Int) := Int.natCast_nonneg _; by_cases hk2 : k < 2
  ·have hki : (k : Int) < 2 := by omega
   obtain ⟨s, sa, ra2, sn, sc, un, uc, hcs, hds, hrs, hsm, hinn⟩ := HSRC.out k hk2; obtain ⟨c0, c1, c2, c3⟩ := hcs wo hbr; have lbw : lb < wo.heap.size := by have := zC HL5.out; have := hbr.size; omega
   obtain ⟨GG, hGG⟩ : ∃ GG, GG = Sp.qC s := ⟨_, rfl⟩
   have HOF := zh (show Calls Tryz.prog 9 #[.agg #[.string ⟨s.pro.toArray⟩, .slice sa sn sc, .slice ra2 un uc, .string ⟨s.tail.toArray⟩]] wo (ROfPost wo GG) from by rw [hGG]; exact ref_Of s _ _ wo (hds.below hbr) (hrs.below hbr) hsm hinn); have hlen := Sp.refGram_lens (n := 4000) (by omega) (x := s) (fun u hu a ha => ((hsm.2.2.2.2.2 u hu).2.2 a ha).1); have hlit := refGram_lit s; rw [← hGG] at hlen hlit; have HLEN := zh hlen; have HLIT := zh hlit; clear hcs hds hrs hsm hinn hbr hlen hlit hGG; obtain ⟨⟨GT, GN, GP, Gp, Gt⟩, ⟨fe, fa, fn⟩⟩ := GG; go_wp2_with fail; refine HOF.out.mono ?_; rintro e w6 ⟨hb6, gv, rfl, hgo⟩; have hga := hgo.at; obtain ⟨B6, ta, tc, na, nc, pa6, pc6, rfl, _⟩ := hgo; (try simp only at hga); (try simp only); obtain ⟨gb, hgb⟩ : ∃ gb, gb = w6.heap.size := ⟨_, rfl⟩
   obtain ⟨w7, hw7⟩ : ∃ w7 : World, w7 = w6.alloc (.cells #[.slice ta GT.length tc, .slice na GN.length nc, .slice pa6 GP.length pc6, .string ⟨Gp.toArray⟩, .string ⟨Gt.toArray⟩] 39) := ⟨_, rfl⟩
   have hb67 : Below w6.heap.size w6 w7 := by rw [hw7]; exact (Below.refl _ w6).alloc (Nat.le_refl _) _
   have hg7 : w7.heap[gb]? = some (.cells #[.slice ta GT.length tc, .slice na GN.length nc, .slice pa6 GP.length pc6, .string ⟨Gp.toArray⟩, .string ⟨Gt.toArray⟩] 39 (0, 0)) := by rw [hw7, hgb]; exact zE w6 _
   have HB7 : Hid (Below w5.heap.size w5 w7) := zh (HBR.out.trans ((hb6.trans (hb67.mono hb6.size)).mono HBR.out.size)); have HG7 := zh hg7; have hga7 := hga.below hb67; obtain ⟨nl1, nl2, _, _⟩ := HLEN.out; (try simp only at nl1 nl2)
   have HNM : Hid (∀ (q : Int) (w' : World), -9223372036854775808 ≤ q → q ≤ 9223372036854775807 → Below w7.heap.size w7 w' →
     (Calls Tryz.prog 10 #[.agg #[.slice ta GT.length tc, .slice na GN.length nc, .slice pa6 GP.length pc6, .string ⟨Gp.toArray⟩, .string ⟨Gt.toArray⟩], .int .i64 q] w' (fun e w'' => e = .returned (.string ⟨(Sp.j7 ⟨GT, GN, GP, Gp, Gt⟩ q).toArray⟩) ∧ Below w'.heap.size w' w'')) ∧
     Calls Tryz.prog 11 #[.agg #[.slice ta GT.length tc, .slice na GN.length nc, .slice pa6 GP.length pc6, .string ⟨Gp.toArray⟩, .string ⟨Gt.toArray⟩], .int .i64 q] w' (fun e w'' => e = .returned (.string ⟨(Sp.j7 ⟨GT, GN, GP, Gp, Gt⟩ q).toArray⟩) ∧ Below w'.heap.size w' w'')) := zh (fun q w' q1 q2 hb =>
    ⟨zDQ ⟨GT, GN, GP, Gp, Gt⟩ _ q w' ⟨q1, q2⟩ (hga7.below hb) (by simp only; omega) (by simp only; omega) (fun t ht hl => HLIT.out t (List.mem_of_getElem? ht) hl),
     ref_Name9 ⟨GT, GN, GP, Gp, Gt⟩ _ q w' ⟨q1, q2⟩ (hga7.below hb) nl1 nl2 (fun t ht hl => HLIT.out t (List.mem_of_getElem? ht) hl)⟩)
   have HGK := zh (fun (w' : World) (hb : Below w7.heap.size w7 w') => (show (w'.cell? ⟨gb, 0, none⟩ = some (.slice ta GT.length tc) ∧ w'.cell? ⟨gb, 1, none⟩ = some (.slice na GN.length nc) ∧ w'.cell? ⟨gb, 2, none⟩ = some (.slice pa6 GP.length pc6) ∧ w'.cell? ⟨gb, 3, none⟩ = some (.string ⟨Gp.toArray⟩) ∧ w'.cell? ⟨gb, 4, none⟩ = some (.string ⟨Gt.toArray⟩) ∧ gb < w'.heap.size) from by
    have h := (hb.block _ (zC HG7.out)).trans HG7.out
    exact ⟨zc 0 h, zc 1 h, zc 2 h, zc 3 h, zc 4 h, zC h⟩))
   generalize Sp.j7 ⟨GT, GN, GP, Gp, Gt⟩ = NM at HNM; obtain ⟨nt, hnt⟩ : ∃ nt, nt = GT.length := ⟨_, rfl⟩
   obtain ⟨nn, hnn⟩ : ∃ nn, nn = GN.length := ⟨_, rfl⟩
   obtain ⟨np, hnp⟩ : ∃ np, np = GP.length := ⟨_, rfl⟩
   rw [← hnt] at nl1; rw [← hnn] at nl2; rw [← hnt, ← hnn, ← hnp] at HNM HGK ⊢; rw [← hnt, ← hnn, ← hnp] at hw7; clear hga hga7 hb6 hb67 hg7 HG7 HLEN HLIT HOF hnt hnn hnp c0 c1 c2 c3 lbw; go_upto_region 8 with fail
   rw [← hgb, ← hw7]; clear hw7 hgb; by_cases hfe : fe = 0
   ·subst hfe
    go_wp2_with fail; go_loopg [13] (nt + 2) (fun q iv wr => ∃ (j : Nat) (s1 : Int), j ≤ nt + 2 ∧ q = nt + 2 - j ∧ s1 = (j : Int) - 1 ∧ iv = .int .i64 s1 ∧ Below w7.heap.size w7 wr)
    case atStart => exact ⟨0, -1, by omega, rfl, by omega, rfl, Below.refl _ _⟩
    case round =>
     obtain ⟨j, s1, hj, rfl, hs1, rfl, hbj⟩ := hrel; obtain ⟨wj, hwj⟩ : ∃ wj : World, wj = wr := ⟨_, rfl⟩
     subst hwj; have HBJ := zh hbj; have HGJ := zh (fun (w' : World) (hb : Below wj.heap.size wj w') => HGK.out w' (HBJ.out.trans (hb.mono HBJ.out.size))); have HNJ := zh (fun (w' : World) (hb : Below wj.heap.size wj w') (q : Int) (q1 : -9223372036854775808 ≤ q) (q2 : q ≤ 9223372036854775807) => HNM.out q w' q1 q2 (HBJ.out.trans (hb.mono HBJ.out.size))); obtain ⟨g0, g1, g2, g3, g4, lg⟩ := HGK.out wj hbj; clear hbj; have hlo : -1 ≤ s1 := by omega
     have HE1 := zh hs1; by_cases hj2 : j < nt + 2
     ·have hle : s1 ≤ (nt : Int) := by omega
      clear hs1; go_upto_region 12 with fail
      refine zF (fun w' : World => (w'.cell? ⟨gb, 0, none⟩ = some (.slice ta nt tc) ∧ w'.cell? ⟨gb, 1, none⟩ = some (.slice na nn nc) ∧ w'.cell? ⟨gb, 2, none⟩ = some (.slice pa6 np pc6) ∧ w'.cell? ⟨gb, 3, none⟩ = some (.string ⟨Gp.toArray⟩) ∧ w'.cell? ⟨gb, 4, none⟩ = some (.string ⟨Gt.toArray⟩) ∧ gb < w'.heap.size)) [] (.take 0 (.take 1 (.take 3 (.take 4 (.one 2 (.one 5 (.one 6 (.done)))))))) (by kernel_rfl) (by kernel_rfl) (fun _ _ _ _ h => h) ?_; have hSw := HGJ.out _ (below_drewN (Below.refl _ wj) 1); iterate 4 (refine zO (v := ?_) rfl rfl hSw (by rfl) ?_ ?_; rotate_left 1; (focus (intro w hSx; (try dsimp only at hSx); go_simp; try rfl)); (try simp only [Act.put, zq0, zq1, zq2]))
      refine zB rfl (by rfl) (fun K' hK => ?_)
      (go_simp; go_at_call 10; refine ((HNJ.out _ (below_drewN (Below.refl _ wj) 1) s1 (by omega) (by omega)).1).mono ?_; rintro e w11 ⟨rfl, hb11'⟩; have hb11 : Below wj.heap.size wj w11 := zI hb11'; clear hb11')
      refine hK _ _ (.inr (HGJ.out _ hb11)) ?_; clear hK K' hSw; (try simp only [Act.put, zq0, zq1, zq2]); refine zB rfl (by rfl) (fun K' hK => ?_)
      (go_simp; go_at_call 11; refine ((HNJ.out _ hb11 s1 (by omega) (by omega)).2).mono ?_; rintro e w12 ⟨rfl, hb12'⟩; have hb12 : Below wj.heap.size wj w12 := hb11.trans (hb12'.mono hb11.size); clear hb12')
      refine hK _ _ (.inr (HGJ.out _ hb12)) ?_; clear hK K'; (try simp only [Act.put, zq0, zq1, zq2]); refine zB rfl (by rfl) (fun K' hK => ?_); go_simp; refine hK _ _ (.inr (HGJ.out _ hb12)) ?_; clear hK K'; (try simp only [Act.put, zq0, zq1, zq2]); refine zH ?_; have HBN := zh (HBJ.out.trans (hb12.mono HBJ.out.size)); clear hb11 hb12 g0 g1 g2 g3 g4 lg; go_wp2_with fail; go_roundg (nt + 2 - (j + 1))
      case measure => omega
      case rel => exact ⟨j + 1, s1 + 1, by omega, rfl, by have := HE1.out; omega, by first | rfl | go_num, HBN.out⟩
     ·have hle : ¬ s1 ≤ (nt : Int) := by omega
      clear HGJ HNJ hs1; go_wp2_with fail; go_loopg [14] (nn + 2) (fun q iv wr => ∃ (j : Nat) (s1 : Int), j ≤ nn + 2 ∧ q = nn + 2 - j ∧ s1 = (j : Int) + 999 ∧ iv = .int .i64 s1 ∧ Below w7.heap.size w7 wr)
      case atStart => exact ⟨0, 999, by omega, rfl, by omega, rfl, HBJ.out⟩
      case round =>
       clear HBJ g0 g1 g2 g3 g4 lg hle hlo HE1; obtain ⟨i2, s2, hi2, rfl, hs2, rfl, hbj2⟩ := hrel; obtain ⟨wi, hwi⟩ : ∃ wi : World, wi = wr := ⟨_, rfl⟩
       subst hwi; have HBJ := zh hbj2; have HGJ := zh (fun (w' : World) (hb : Below wi.heap.size wi w') => HGK.out w' (HBJ.out.trans (hb.mono HBJ.out.size))); have HNJ := zh (fun (w' : World) (hb : Below wi.heap.size wi w') (q : Int) (q1 : -9223372036854775808 ≤ q) (q2 : q ≤ 9223372036854775807) => HNM.out q w' q1 q2 (HBJ.out.trans (hb.mono HBJ.out.size))); obtain ⟨g0, g1, g2, g3, g4, lg⟩ := HGK.out wi hbj2; have hwn : IntKind.i64.wrap (1000 + (nn : Int)) = 1000 + (nn : Int) := IntWalk.i64_in _ ⟨by omega, by omega⟩; clear hbj2; have hlo : 999 ≤ s2 := by omega
       have HE2 := zh hs2; by_cases hj3 : i2 < nn + 2
       ·have hle : s2 ≤ 1000 + (nn : Int) := by omega
        clear hs2; go_upto_region 17 with fail
        refine zF (fun w' : World => (w'.cell? ⟨gb, 0, none⟩ = some (.slice ta nt tc) ∧ w'.cell? ⟨gb, 1, none⟩ = some (.slice na nn nc) ∧ w'.cell? ⟨gb, 2, none⟩ = some (.slice pa6 np pc6) ∧ w'.cell? ⟨gb, 3, none⟩ = some (.string ⟨Gp.toArray⟩) ∧ w'.cell? ⟨gb, 4, none⟩ = some (.string ⟨Gt.toArray⟩) ∧ gb < w'.heap.size)) [] (.take 0 (.take 1 (.take 3 (.take 4 (.one 2 (.one 5 (.one 6 (.done)))))))) (by kernel_rfl) (by kernel_rfl) (fun _ _ _ _ h => h) ?_; have hSw := HGJ.out _ (below_drewN (Below.refl _ wi) 1); iterate 4 (refine zO (v := ?_) rfl rfl hSw (by rfl) ?_ ?_; rotate_left 1; (focus (intro w hSx; (try dsimp only at hSx); go_simp; try rfl)); (try simp only [Act.put, zq0, zq1, zq2]))
        refine zB rfl (by rfl) (fun K' hK => ?_)
        (go_simp; go_at_call 10; refine ((HNJ.out _ (below_drewN (Below.refl _ wi) 1) s2 (by omega) (by omega)).1).mono ?_; rintro e w11 ⟨rfl, hb11'⟩; have hb11 : Below wi.heap.size wi w11 := zI hb11'; clear hb11')
        refine hK _ _ (.inr (HGJ.out _ hb11)) ?_; clear hK K' hSw; (try simp only [Act.put, zq0, zq1, zq2]); refine zB rfl (by rfl) (fun K' hK => ?_)
        (go_simp; go_at_call 11; refine ((HNJ.out _ hb11 s2 (by omega) (by omega)).2).mono ?_; rintro e w12 ⟨rfl, hb12'⟩; have hb12 : Below wi.heap.size wi w12 := hb11.trans (hb12'.mono hb11.size); clear hb12')
        refine hK _ _ (.inr (HGJ.out _ hb12)) ?_; clear hK K'; (try simp only [Act.put, zq0, zq1, zq2]); refine zB rfl (by rfl) (fun K' hK => ?_); go_simp; refine hK _ _ (.inr (HGJ.out _ hb12)) ?_; clear hK K'; (try simp only [Act.put, zq0, zq1, zq2]); refine zH ?_; have HBN := zh (HBJ.out.trans (hb12.mono HBJ.out.size)); clear hb11 hb12 g0 g1 g2 g3 g4 lg; go_wp2_with fail; go_roundg (nn + 2 - (i2 + 1))
        case measure => omega
        case rel => exact ⟨i2 + 1, s2 + 1, by omega, rfl, by have := HE2.out; omega, by first | rfl | go_num, HBN.out⟩
       ·have hle : ¬ s2 ≤ 1000 + (nn : Int) := by omega
        clear hs2; obtain ⟨hs1', hs2'⟩ := HSW.out; go_upto_region 19 with fail
        refine zF (fun w' : World => (w'.cell? ⟨gb, 0, none⟩ = some (.slice ta nt tc) ∧ w'.cell? ⟨gb, 1, none⟩ = some (.slice na nn nc) ∧ w'.cell? ⟨gb, 2, none⟩ = some (.slice pa6 np pc6) ∧ w'.cell? ⟨gb, 3, none⟩ = some (.string ⟨Gp.toArray⟩) ∧ w'.cell? ⟨gb, 4, none⟩ = some (.string ⟨Gt.toArray⟩) ∧ gb < w'.heap.size)) [] (.take 0 (.take 1 (.take 3 (.take 4 (.one 2 (.one 5 (.one 6 (.done)))))))) (by kernel_rfl) (by kernel_rfl) (fun _ _ _ _ h => h) ?_; have hSw := HGJ.out _ (below_drewN (Below.refl _ wi) 1); iterate 4 (refine zO (v := ?_) rfl rfl hSw (by rfl) ?_ ?_; rotate_left 1; (focus (intro w hSx; (try dsimp only at hSx); go_simp; try rfl)); (try simp only [Act.put, zq0, zq1, zq2]))
        refine zB rfl (by rfl) (fun K' hK => ?_)
        (go_simp; go_at_call 10; refine ((HNJ.out _ (below_drewN (Below.refl _ wi) 1) sym (by omega) (by omega)).1).mono ?_; rintro e w11 ⟨rfl, hb11'⟩; have hb11 : Below wi.heap.size wi w11 := zI hb11'; clear hb11')
        refine hK _ _ (.inr (HGJ.out _ hb11)) ?_; clear hK K' hSw; (try simp only [Act.put, zq0, zq1, zq2]); refine zB rfl (by rfl) (fun K' hK => ?_)
        (go_simp; go_at_call 11; refine ((HNJ.out _ hb11 sym (by omega) (by omega)).2).mono ?_; rintro e w12 ⟨rfl, hb12'⟩; have hb12 : Below wi.heap.size wi w12 := hb11.trans (hb12'.mono hb11.size); clear hb12')
        refine hK _ _ (.inr (HGJ.out _ hb12)) ?_; clear hK K'; (try simp only [Act.put, zq0, zq1, zq2]); refine zB rfl (by rfl) (fun K' hK => ?_); go_simp; refine hK _ _ (.inr (HGJ.out _ hb12)) ?_; clear hK K'; (try simp only [Act.put, zq0, zq1, zq2]); refine zH ?_; have HBN := zh (HBJ.out.trans (hb12.mono HBJ.out.size)); clear hb11 hb12 g0 g1 g2 g3 g4 lg; go_wp2_with fail; go_roundg (2 - (k + 1))
        case measure => omega
        case rel => exact ⟨k + 1, by omega, rfl, by go_num, HB7.out.trans (HBN.out.mono HB7.out.size)⟩
   ·have hfb : (fe != 0) = true := by rw [bne_iff_ne]; exact hfe
    go_wp2_with fail; go_roundg (2 - (k + 1))
    case measure => omega
    case rel => exact ⟨k + 1, by omega, rfl, by go_num, HB7.out⟩
  ·obtain rfl : k = 2 := by omega
   go_wp2_with fail; go_ret; exact ⟨rfl, HB5.out.trans (HBR.out.mono HB5.out.size)⟩
end Go.Proofs.YtddnomjfcbplpaaGreatDoor
