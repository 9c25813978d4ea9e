import Derived.Test.YtddnomjfcbplpaaGreatDoorZ43
namespace Go.Proofs.YtddnomjfcbplpaaGreatDoor
open Go.RowKit Go.Maps

set_option maxRecDepth 100000 in
set_option maxHeartbeats 12800000 in
theorem ref_Of (x : Sp.zM) (vd vr : Value) (W : World) (hd : xD W vd x.decls) (hr : xA W vr x.rules) (hs : xN x) (hin : (Sp.xT x).inner ≤ 60000) :
  Calls Tryz.prog 9 #[.agg (srcC vd vr x).toArray] W (ROfPost W (Sp.qC x)) := by
 obtain ⟨da, dn, dc, rfl⟩ : ∃ a n c, vd = .slice a n c := by
  obtain ⟨fd, h1, _⟩ := hd; obtain ⟨a, c, h⟩ := h1.form; exact ⟨a, _, c, h⟩
 obtain ⟨ra, rn, rc, rfl⟩ : ∃ a n c, vr = .slice a n c := by
  obtain ⟨fd, h1, _⟩ := hr; obtain ⟨a, c, h⟩ := h1.form; exact ⟨a, _, c, h⟩
 have HMAY := zh (fun w (hb : Below W.heap.size W w) => (show Calls Tryz.prog 26 #[.agg #[.string ⟨x.pro.toArray⟩, .slice da dn dc, .slice ra rn rc, .string ⟨x.tail.toArray⟩]] w (fun e w' => e = .returned (.bool (Sp.may x)) ∧ Below w.heap.size w w') from ref7_May x _ _ w (hd.below hb) (hr.below hb) hs)); have HDE := zh hd; have HRU := zh hr; have HSM := zh hs; have HIN0 := zh hin; obtain ⟨w1, hw1⟩ : ∃ w1 : World, w1 = (W.alloc (.cells #[.string ⟨x.pro.toArray⟩, .slice da dn dc, .slice ra rn rc, .string ⟨x.tail.toArray⟩] 25)).alloc (.cells #[.slice none 0 0, .slice none 0 0, .slice none 0 0, .string ⟨#[]⟩, .string ⟨#[]⟩] 39) := ⟨_, rfl⟩
 have hb1 : Below W.heap.size W w1 := by rw [hw1]; exact ((Below.refl _ W).alloc (Nat.le_refl _) _).alloc (by simp) _
 have hx1 : w1.heap[W.heap.size]? = some (.cells #[.string ⟨x.pro.toArray⟩, .slice da dn dc, .slice ra rn rc, .string ⟨x.tail.toArray⟩] 25 (0, 0)) := by rw [hw1]; exact kR (zE W _) _
 have hg1 : w1.heap[W.heap.size + 1]? = some (.cells #[.slice none 0 0, .slice none 0 0, .slice none 0 0, .string ⟨#[]⟩, .string ⟨#[]⟩] 39 (0, 0)) := by rw [hw1]; exact xJ W _ _
 have s0 := zc 0 hx1; have s1 := zc 1 hx1; have s2 := zc 2 hx1; have s3 := zc 3 hx1; have ls := zC hx1; have HB1 := zh hb1; have HX1 := zh hx1; have HG1 := zh hg1; show Calls _ _ #[.agg #[.string ⟨x.pro.toArray⟩, .slice da dn dc, .slice ra rn rc, .string ⟨x.tail.toArray⟩]] _ _
 clear hd hr hs hin hb1 hx1 hg1; go_enter Tryz.func9, Tryz.ntmps9
 go_upto_region 1 with fail
 rw [← hw1]; clear hw1; go_wp2_with fail; refine (HMAY.out _ HB1.out).mono ?_; rintro e w2 ⟨rfl, hb2⟩; have hx2 := (hb2.block _ (zC HX1.out)).trans HX1.out; have hg2 := (hb2.block _ (zC HG1.out)).trans HG1.out; have HX2 := zh hx2; have HG2 := zh hg2; have HB2 := zh (HB1.out.trans (hb2.mono HB1.out.size)); clear hb2 hx2 HX1 HG1 HB1 HMAY s0 s1 s2 s3 ls
 cases hm : Sp.may x with
 | false =>
  have b0 := zc 0 hg2; have b1 := zc 1 hg2; have b2 := zc 2 hg2; have b3 := zc 3 hg2; have b4 := zc 4 hg2; have fz0 := zf 0 hg2; have fz1 := zf 1 hg2; have fz2 := zf 2 hg2; have fz3 := zf 3 hg2; have fz4 := zf 4 hg2; have lg := zC hg2; have E : Hid (Sp.qC x = (Sp.xG, ⟨1, 0, []⟩)) := zh (by unfold Sp.qC; rw [if_pos hm]); clear hg2 hm; go_wp2_with fail; refine vX (g := W.heap.size + 1) (cs := #[.slice none 0 0, .slice none 0 0, .slice none 0 0, .string ⟨#[]⟩, .string ⟨#[]⟩]) (t := 39) (fr := (0, 0)) rfl rfl ?hg rfl Tryz.underlying39 (by kernel_rfl) rfl ?hr
  case hg => exact zA (zA (zA (zA (zA HG2.out))))
  case hr =>
   rw [E.out]; have hbe : Below W.heap.size w2 (((((w2.setCell ⟨W.heap.size + 1, 0, none⟩ (.slice none 0 0)).setCell ⟨W.heap.size + 1, 1, none⟩ (.slice none 0 0)).setCell ⟨W.heap.size + 1, 2, none⟩ (.slice none 0 0)).setCell ⟨W.heap.size + 1, 3, none⟩ (.string ⟨#[]⟩)).setCell ⟨W.heap.size + 1, 4, none⟩ (.string ⟨#[]⟩)) := (((((Below.refl _ w2).setCell (by simp) _).setCell (by simp) _).setCell (by simp) _).setCell (by simp) _).setCell (by simp) _; exact ⟨HB2.out.trans hbe, _, rfl, jS _⟩
 | true =>
  obtain ⟨hgd, hga, hne⟩ := ref_good hm; have HGD := zh hgd; have HGA := zh hga; have HNE := zh hne; clear hgd hga hne hg2; obtain ⟨ib0, hib0, hbz0, hbz1, hbz2⟩ := info_parts zCC
  have hms : (Instr.makeSlice 75 (.int .i64 3) (.int .i64 3)).run Tryz.prog w2 = .ok (.slice (some ⟨w2.heap.size, 0, none⟩) 3 3) (w2.alloc (.cells #[.bool false, .bool false, .bool false] 4)) := by
   have h := run_makeSlice (P := Tryz.prog) (w := w2) 75 4 ib0 (.bool false) Tryz.underlying75 hib0 hbz0 .i64 .i64 3 3 (by omega) (by omega) (by rw [hbz1]; decide) (by rw [hbz2]; decide) (by decide); rw [hbz1, show Int.toNat 3 = 3 from rfl, show madeCells (Value.bool false).cells (3 * 1) = #[.bool false, .bool false, .bool false] from by kernel_rfl] at h; exact h
  go_upto_block 0 with fail
  obtain ⟨w3, hw3⟩ : ∃ w3 : World, w3 = ((w2.alloc (.cells #[.bool false, .bool false, .bool false] 4)).alloc (.cells #[.slice (some ⟨w2.heap.size + 1 + 1, 0, none⟩) 3 3, .slice none 0 0, .slice none 0 0, .string ⟨#[]⟩, .string ⟨#[]⟩, .slice (some ⟨w2.heap.size, 0, none⟩) 3 3, .slice none 0 0, .slice none 0 0, .int .i64 0, .int .i64 0, .string ⟨#[]⟩, .int .i64 0, .int .i64 0] 82)).alloc (.cells #[.string ⟨#[36, 101, 110, 100]⟩, .bool false, .int .i64 0, .int .i64 0, .int .i64 0, .string ⟨#[]⟩, .string ⟨#[101, 114, 114, 111, 114]⟩, .bool false, .int .i64 (-1), .int .i64 0, .int .i64 0, .string ⟨#[]⟩, .string ⟨#[36, 117, 110, 107]⟩, .bool false, .int .i64 (-1), .int .i64 0, .int .i64 0, .string ⟨#[]⟩] 65) := ⟨_, rfl⟩
  rw [← hw3]; have hb3 : Below w2.heap.size w2 w3 := by rw [hw3]; exact (((Below.refl _ w2).alloc (Nat.le_refl _) _).alloc (by simp) _).alloc (by simp; omega) _
  have hS3 : OfS W (w2.heap.size + 1) x (.slice da dn dc) (.slice ra rn rc) Sp.rk0 ⟨.slice (some ⟨w2.heap.size + 1 + 1, 0, none⟩) 3 3, .slice none 0 0, .slice none 0 0, .slice (some ⟨w2.heap.size, 0, none⟩) 3 3, .slice none 0 0, .slice none 0 0⟩ w3 := by
   have hW2 := HB2.out.size; have k1 : w3.heap[w2.heap.size]? = some (.cells #[.bool false, .bool false, .bool false] 4 (0, 0)) := by rw [hw3]; exact kR (kR (zE w2 _) _) _
   have k2 : w3.heap[w2.heap.size + 1]? = some (.cells #[.slice (some ⟨w2.heap.size + 1 + 1, 0, none⟩) 3 3, .slice none 0 0, .slice none 0 0, .string ⟨#[]⟩, .string ⟨#[]⟩, .slice (some ⟨w2.heap.size, 0, none⟩) 3 3, .slice none 0 0, .slice none 0 0, .int .i64 0, .int .i64 0, .string ⟨#[]⟩, .int .i64 0, .int .i64 0] 82 (0, 0)) := by rw [hw3]; exact kR (xJ w2 _ _) _
   have k3 : w3.heap[w2.heap.size + 1 + 1]? = some (.cells #[.string ⟨#[36, 101, 110, 100]⟩, .bool false, .int .i64 0, .int .i64 0, .int .i64 0, .string ⟨#[]⟩, .string ⟨#[101, 114, 114, 111, 114]⟩, .bool false, .int .i64 (-1), .int .i64 0, .int .i64 0, .string ⟨#[]⟩, .string ⟨#[36, 117, 110, 107]⟩, .bool false, .int .i64 (-1), .int .i64 0, .int .i64 0, .string ⟨#[]⟩] 65 (0, 0)) := by rw [hw3]; exact heap_thdR w2 _ _ _
   refine ⟨⟨k2, jY (B := W.heap.size) (size := 6) (n := 3) k3 (by omega) rfl (by decide), jY (B := W.heap.size) (size := 1) (n := 3) k1 (by omega) rfl (by decide), World.ownsRow_nil _ _ _ _, World.ownsRow_nil _ _ _ _, ⟨fun _ => .slice none 0 0, fun _ => .slice none 0 0, World.ownsRow_nil _ _ _ _, fun i p hp => by cases hp⟩, by omega⟩, (hb3.block _ (zC HX2.out)).trans HX2.out, (hb3.block _ (zC HG2.out)).trans HG2.out, HB2.out.trans (hb3.mono HB2.out.size)⟩
  obtain ⟨m, hmm⟩ : ∃ m, m = w2.heap.size + 1 := ⟨_, rfl⟩
  rw [← hmm] at hS3 ⊢; have HS3 := zh hS3; have HRB0 : Sp.RB 3 Sp.rk0 := ⟨⟨rfl, Nat.le_refl _⟩, Nat.le_refl _, Nat.zero_le _, Nat.zero_le _, Nat.zero_le _, Nat.zero_le _, Int.le_refl _, by decide⟩
  clear hw3 hb3 hS3 hms hib0 hbz0 hbz1 hbz2 HX2 HG2 hmm; refine of_decls _ _ HS3.out HDE.out HSM.out HGD.out HRB0 (fun _ _ _ _ h => h) ?_; intro y8 y9 X6 y41 y42 y43 y44 y45 y46 y47 y48 y49 y50 y51 y52 y53 y54 y55 y56 y57 y58 y59 y60 y61 y62 y63 y64 y65 y66 y67 y68 y69 y70 y71 y72 y73 y74 y75 y76 y77 y78 y79 y80 y81 y82 y83 y84 y85 y86 y87 y88 y89 y90 y91 y92 y93 y94 y95 y96 y97 y98 y99 X7 X8 X9 Xa Xb Xc Xd Xe wc r1 v1 st hR1 hS1 hrb1; dsimp only; have HS1 := zh hS1; have HRB1 := zh hrb1; have HR1 := zh hR1; clear hS1 hrb1 hR1 HS3; go_upto_block 4 with fail
  refine of_lefts _ _ HS1.out HRU.out HSM.out HRB1.out (fun _ _ _ _ h => h) ?_; intro Xh Xs Xf Xg Xi Xj Xk Xl Xm Xn Xo Xp Xq Xr Xt Xu Xv Xw Xx Xy Xz Y0 Y1 Y2 Y4 Y5 Y6 Y7 Y8 Y9 Ya Yb Yc Yd Yf Yg Yh Yi Yj Yk Yl Ym wc v2 hS2 hrb2; dsimp only; have HS2 := zh hS2; have HRB2 := zh hrb2; clear hS2 hrb2 HS1 HRB1; go_upto_block 6 with fail
  refine of_names _ _ HS2.out HDE.out HSM.out HRB2.out (fun _ _ _ _ h => h) ?_; intro Y3 Ye Yp Yn Yo Yq Yr Ys Yt Yu Yv Yw Yx Yy Yz Z1 Z2 Z3 Z4 Z5 Z6 Z7 Z8 Z9 Za Zc Zd Ze Zf Zg Zh Zi Zj Zk Zl Zn Zo Zp Zq Zr Zs Zt Zu Zv Zw Zy Zz y192 y193 y194 wc v3 hS3 hrb3; dsimp only; have HS4 := zh hS3; have HRB4 := zh hrb3; clear hS3 hrb3 HS2 HRB2; obtain ⟨r3, hr3⟩ : ∃ r3, r3 = Sp.gK x.decls (Sp.gJ x.rules r1) := ⟨_, rfl⟩
  rw [← hr3] at HS4 HRB4; have HR3 := zh hr3; clear hr3; obtain ⟨w4, hw4⟩ : ∃ w4 : World, w4 = wc := ⟨_, rfl⟩
  subst hw4; obtain ⟨SS, hSS⟩ : ∃ SS, SS = startOf x st := ⟨_, rfl⟩
  have HSS := zh hSS; clear hSS; have hx4 := HS4.out.sbox; have s2 : w4.cell? ⟨W.heap.size, 2, none⟩ = some (.slice ra rn rc) := zc 2 hx4; have ls := zC hx4; clear hx4
  obtain ⟨U, UL, hrl⟩ : ∃ U UL, x.rules = U :: UL := by
   cases h : x.rules with
   | nil => exact absurd h HNE.out
   | cons u l => exact ⟨u, l, rfl⟩
  obtain ⟨bo, oo, c0, lb, hra, hrn⟩ : ∃ bo oo, w4.cell? ⟨bo, oo + 0 * 3, none⟩ = some (.string ⟨U.left.toArray⟩) ∧ bo < w4.heap.size ∧ ra = some ⟨bo, oo, none⟩ ∧ 0 < rn := by
   obtain ⟨fr, h1, _⟩ := HRU.out; obtain ⟨bo, oo, e, hbo, hco⟩ := h1.at (k := 0) (row := qT (fr 0) U) (by rw [List.getElem?_mapIdx, hrl]; rfl); have h := hco w4 HS4.out.bel 0 _ rfl; simp only [Nat.add_zero] at h; refine ⟨bo, oo, h, by have := HS4.out.bel.size; omega, e, ?_⟩; obtain ⟨a, c, hv⟩ := h1.form; simp only [Value.slice.injEq] at hv; rw [hv.2.1, List.length_mapIdx, hrl]; simp
  subst hra; simp only [Nat.zero_mul, Nat.add_zero] at c0; have hrnI : (0 : Int) < (rn : Int) := by omega
  go_upto_region 37 with fail
  go_upto_if 196 with fail
  go_cut [7] (fun c wx => c = .string ⟨SS.toArray⟩ ∧ w4 = wx)
  case first =>
   by_cases hst : st = []
   ·have e : SS = U.left := by rw [HSS.out]; unfold startOf; rw [if_pos hst, hrl]
    subst hst; go_wp2_with fail; go_meet; exact ⟨by rw [e], rfl⟩
   ·have e : SS = st := by rw [HSS.out]; unfold startOf; rw [if_neg hst]
    have hse : st.isEmpty = false := by cases st with
     | nil => exact absurd rfl hst
     | cons a l => rfl
    (try rw [hse]); go_wp2_with fail; go_meet; exact ⟨by rw [e], rfl⟩
  case rest =>
   obtain ⟨rfl, rfl⟩ := hcut
   have hlb : -1 ≤ ixI (Sp.kC r3.lefts SS) ∧ ixI (Sp.kC r3.lefts SS) ≤ 2 ^ 39 := by
    cases hl : Sp.kC r3.lefts SS with
    | none => simp [ixI]
    | some k => have := Sp.rleft_lt hl; have := HRB4.out.lefts; simp only [ixI]; omega
   obtain ⟨ll, hll⟩ : ∃ ll, ll = ixI (Sp.kC r3.lefts SS) := ⟨_, rfl⟩
   rw [← hll] at hlb; have HLL := zh hll; have hwl : IntKind.i64.wrap (1001 + ll) = 1001 + ll := IntWalk.i64_in _ ⟨by omega, by omega⟩; have hmb := HS4.out.mkr.block; unfold yE at hmb; have m2 := zc 2 hmb; have f2 := zf 2 hmb; have lm := zC hmb; clear hmb hll s2 ls c0 lb hrnI hrn; go_wp2_with fail; refine (zBH SS HS4.out.mkr HRB4.out (by omega)).mono ?_; rintro e w' ⟨rfl, rfl⟩; rw [← HLL.out]; go_upto_block 10 with fail
   obtain ⟨wS, hwS⟩ : ∃ wS : World, wS = w4.setCell ⟨m, 2, none⟩ (.slice (some ⟨w4.heap.size + 1, 0, none⟩) 1 1) := ⟨_, rfl⟩
   obtain ⟨w5, hw5⟩ : ∃ w5 : World, w5 = (wS.alloc (.cells #[.int .i64 (1001 + ll)] 3)).alloc (.cells #[.int .i64 0, .slice (some ⟨w4.heap.size, 0, none⟩) 1 1, .int .i64 (-1), .string ⟨#[]⟩, .slice none 0 0, .int .i64 0] 68) := ⟨_, rfl⟩
   rw [← hwS, ← hw5]; have hsS : wS.heap.size = w4.heap.size := by rw [hwS]; simp [World.setCell]
   obtain ⟨kS, fS⟩ : KpT (fun t => t ≠ 82) w4 wS ∧ RFr W.heap.size w4 wS := by rw [hwS]; exact zY.box1 HS4.out.mkr.block HS4.out.mkr.behind 2 _
   have hmS : wS.heap[m]? = some (.cells (yE r3 { v3 with pv := .slice (some ⟨w4.heap.size + 1, 0, none⟩) 1 1 }).toArray 82 (0, 0)) := by rw [hwS]; exact zA HS4.out.mkr.block
   have hb5 : Below wS.heap.size wS w5 := by rw [hw5]; exact ((Below.refl _ wS).alloc (Nat.le_refl _) _).alloc (by simp) _
   have hi5 : w5.heap[w4.heap.size]? = some (.cells #[.int .i64 (1001 + ll)] 3 (0, 0)) := by rw [hw5, ← hsS]; exact kR (zE wS _) _
   have hp5 : w5.heap[w4.heap.size + 1]? = some (.cells #[.int .i64 0, .slice (some ⟨w4.heap.size, 0, none⟩) 1 1, .int .i64 (-1), .string ⟨#[]⟩, .slice none 0 0, .int .i64 0] 68 (0, 0)) := by rw [hw5, ← hsS]; exact xJ wS _ _
   have hB4 := HS4.out.bel.size; have hno : 1000 + 1 + Sp.jZ r3.lefts SS = 1001 + ll := by rw [leftNo_ixI, ← HLL.out]; omega
   have hpo : zZ W.heap.size w5 (.slice (some ⟨w4.heap.size + 1, 0, none⟩) 1 1) [⟨0, [1000 + 1 + Sp.jZ r3.lefts SS], -1, [], [], 0⟩] (fun _ => True) := by
    rw [hno]; refine ⟨fun _ => .slice (some ⟨w4.heap.size, 0, none⟩) 1 1, fun _ => .slice none 0 0, jY (size := 6) (n := 1) hp5 (by omega) rfl (by decide), fun i p hp => ?_⟩; have hp2 := List.mem_of_getElem? hp; simp at hp2; subst hp2; exact ⟨⟨⟨W.heap.size, jY (size := 1) (n := 1) hi5 hB4 rfl (by decide)⟩, 0, World.ownsRow_nil _ _ _ _⟩, fun _ _ => trivial, fun _ _ => trivial⟩
   have hS5 : OfS W m x (.slice da dn dc) (.slice (some ⟨bo, oo, none⟩) rn rc) { r3 with prods := [⟨0, [1000 + 1 + Sp.jZ r3.lefts SS], -1, [], [], 0⟩] } { v3 with pv := .slice (some ⟨w4.heap.size + 1, 0, none⟩) 1 1 } w5 := by
    have h := HS4.out.mkr; exact ⟨⟨(hb5.block m (zC hmS)).trans hmS, zL (zD h.toks kS (by decide)) hb5, zL (zD h.given kS (by decide)) hb5, zL (zD h.types kS (by decide)) hb5, zL (zD h.lefts kS (by decide)) hb5, hpo, h.behind⟩, (hb5.block _ (by rw [hsS]; exact zC HS4.out.sbox)).trans (kS _ _ _ _ HS4.out.sbox (by decide)), (hb5.block _ (by rw [hsS]; exact zC HS4.out.gbox)).trans (kS _ _ _ _ HS4.out.gbox (by decide)), (HS4.out.bel.trans fS.1).trans (hb5.mono (by rw [hsS]; exact hB4))⟩
   have hab : kO 0 0 { r3 with prods := [⟨0, [1000 + 1 + Sp.jZ r3.lefts SS], -1, [], [], 0⟩] } := by
    obtain ⟨q0, q1, q2, q3, q4, q5, q6, q7⟩ := HRB4.out; exact ⟨q0, by simp only; omega, by simp only; omega, by simp only; omega, by simp, by simp only; omega, q6, by simp only; omega⟩
   have hmade : Sp.xT x = Sp.xQ x.rules { r3 with prods := [⟨0, [1000 + 1 + Sp.jZ r3.lefts SS], -1, [], [], 0⟩] } := by
    rw [HSS.out]; exact rmade_eq x r1 st r3 HR1.out HR3.out
   have HS5 := zh hS5; have HAB := zh hab; have HMADE := zh hmade; clear hw5 hwS hsS kS fS hmS hb5 hi5 hp5 hno hpo hS5 hab hmade m2 f2 lm hwl; refine of_alts _ _ HS5.out HRU.out HSM.out HGA.out HAB.out (fun _ _ _ _ h => h) ?_; intro Z0 Zb y213 y214 y215 y216 y217 y218 y219 y220 y221 y222 y223 y224 y225 y226 y227 y228 y229 y230 y231 y232 y233 y234 y235 y236 y237 y238 y239 y240 y241 y242 y243 y244 y245 y246 y247 wc v6 hS6 hrb6; dsimp only; rw [← HMADE.out] at hS6 hrb6; have HIN : Hid ((Sp.xT x).inner ≤ 60000) := HIN0; refine (by assumption : ∀ (a : Act) (w : World), _ → _) _ _ ?_; by_cases hf0 : (Sp.xT x).fault.err = 0
   ·exact of_good _ hS6 hrb6 rfl hm HIN.out hf0 (fun _ _ _ _ h => h) (fun _ _ h => h)
   ·exact of_bad _ hS6 hrb6 rfl hm hf0 (fun _ _ _ _ h => h) (fun _ _ h => h)
end Go.Proofs.YtddnomjfcbplpaaGreatDoor
