import Derived.Test.YtddnomjfcbplpaaGreatDoorZ12
namespace Go.Proofs.YtddnomjfcbplpaaGreatDoor
open Go.RowKit

set_option maxRecDepth 100000 in
set_option maxHeartbeats 12800000 in
theorem made_rows (wm : World) (B0 g4 g5 gr nn vc B Bd n b off cr inn icp : Nat) (rva ia : Option Addr) (pv : Value) (DL : List Sp.Decl) (RL : List Sp.Rule) (has : List Bool) (rows : List (List Int)) (inner : List Int)
  {A0 A2 A6 A8 A9 Aa Ab Ac Ad Ae Af Ag Ah Ai Aj Ak Al Am An Ao Ap Aq Ar As At Au Av Aw Ax Ay Az B1 B3 B4 B5 B7 B8 B9 Ba Bb Bc Be Bf Bg Bh Bi Bj Bk Bl Bm Bn Bo Bp Bq Br Bs Bt Bu Bv Bw Bx By Bz C0 C1 C3 C4 C5 C6 C7 C8 C9 Ca Cb Cc Cd Ce Cf Cg Ch Ci Cj Ck Cl Cm Cn Co Cp Cq Cr Cs Ct Cu Cv Cw Cx Cy Cz D0 D1 D2 D3 D4 D5 D6 D7 D8 D9 Da Db Dc Dd De Df Dg Dh Di Dj Dk Dl Dm Dn Do Dp Dq Dr Ds Dt Du Dv Dw Dx Dy Dz E0 E3 E4 E5 E6 E7 E8 E9 Ea Eb Ec Ed Ee Ef Eg Eh Ei Ej Ek El Em En Eo Ep Eq Er Es Et Eu Ev Ew Ex Ey Ez F0 F1 F2 F3 F4 F5 F6 F7 F8 F9 Fa Fb Fc Fd Fe Ff Fg Fh Fi Fj Fk Fl Fm Fn Fo Fp Fq Fr Fs Ft Fu Fv Fw Fx Fy Fz G0 G1 G2 G3 G4 G5 G6 G7 : Value} (K : Act → World → Prop) (Q : Exit → Act → World → Prop)
  (hn4 : nn ≤ 4) (hn1 : 1 ≤ nn) (hS : wm.heap[g4]? = some (.cells #[.string ⟨#[]⟩, pv, (.slice (some ⟨gr, 0, none⟩) nn vc), .string ⟨#[]⟩] 25 (0, 0))) (hdd : vL Bd wm pv DL) (hr : vS B wm (.slice (some ⟨gr, 0, none⟩) nn vc) RL) (hrl : RL.length = nn) (hhl : has.length = nn) (hsm : ∀ r ∈ RL, r.alts.length = 0)
  (hH : wm.heap[g5]? = some (.cells (has.map Value.bool).toArray 4 (0, 0))) (hg45 : g4 < g5) (hg5B : g5 < B) (hB0 : B0 < g4) (hb : b < g4) (hBm : B ≤ wm.heap.size) (hnr : rows.length = n) (hn63 : n ≤ 2 ^ 63 - 1) (hinn63 : inn ≤ 2 ^ 63 - 1)
  (hx : ∀ w', Below g5 wm w' → w'.cell? ⟨B0, 1, none⟩ = some (.slice rva n cr) ∧ w'.cell? ⟨B0, 3, none⟩ = some (.slice ia inn icp))
  (hrows : ∀ (i : Nat) (row : List Int), rows[i]? = some row → rva = some ⟨b, off, none⟩ ∧ row.length ≤ 2 ^ 63 - 1 ∧ (∀ x ∈ row, (Lit.int .i64 x).wf = true) ∧ ∃ a sc, (∀ w', Below g5 wm w' → w'.cell? ⟨b, off + i, none⟩ = some (.slice a row.length sc)) ∧ ∀ j x, row[j]? = some x → ∃ b3 off3, a = some ⟨b3, off3, none⟩ ∧ b3 < g4 ∧ ∀ w', Below g5 wm w' → w'.cell? ⟨b3, off3 + j, none⟩ = some (.int .i64 x))
  (hinn : ∀ (w : World) (i : Nat), Below g5 wm w → InnAt w ia inn i inner[i]?)
  (hQ : ∀ c (t : Array Value) (a : Act) w, Q (.panic c) ⟨t, a.defers⟩ w → Q (.panic c) a w)
  (hK : ∀ (x7 x8 x9 Mr N3 Nf Un Uo Up Ux V9 Vh Vi Vj Vk Vl Vm Vn Vo Vp Vq Vr Vs Vt Vu Vv Vw Vx Vy Vz W1 W2 W4 W6 W7 W8 W9 Wa Wb Wc Wd We Wf Wg Wh Wi Wj Wk Wl Wm Wn Wo Wp Wq Wr Ws Wt Wu Wv Ww Wx Wy Wz X0 X1 X2 X3 X4 X5 Ms Mt Mu Mv Mw Mx My Mz N1 N2 N4 N5 N6 N7 N8 N9 Na Nb Nc Nd Ng Nh Ni Nj Nk Nl Nm Nn No Np Nr Ns Nt Nu Nv Nw Nx Ny Nz O0 O2 O3 O4 O5 O6 O7 O8 O9 Oa Ob Od Oe Of Og Oh Oi Oj Ol Om On Oq Ot Ou Ov Ow Ox Oy Oz P0 P1 P3 P4 P5 : Value) (wx : World) (RX : List Sp.Rule) (hsx : List Bool), (RX, hsx) = Sp.kZ nn inner 0 (rows.take 9) (RL, has) → wx.heap[g4]? = some (.cells #[.string ⟨#[]⟩, pv, (.slice (some ⟨gr, 0, none⟩) nn vc), .string ⟨#[]⟩] 25 (0, 0)) → vL Bd wx pv DL → vS B wx (.slice (some ⟨gr, 0, none⟩) nn vc) RX → RX.length = nn → hsx.length = nn → wx.heap[g5]? = some (.cells (hsx.map Value.bool).toArray 4 (0, 0)) → (∀ r ∈ RX, r.alts.length ≤ 1000) → Below g5 wm wx → K ⟨#[A0,.pointer (some ⟨B0,0,none⟩),A2,.int .i64 (nn : Int),.pointer (some ⟨g4,0,none⟩),.slice (some ⟨g5,0,none⟩) nn nn,A6,x7,x8,x9,Mr,N3,Nf,Ad,Ae,Af,Ag,Ah,Ai,Aj,Ak,Al,Am,An,Ao,Ap,Aq,Ar,As,At,Au,Av,Aw,Ax,Ay,Az,B1,Un,Uo,Up,Ux,V9,Vh,Vi,Vj,Vk,Vl,Vm,Vn,Vo,Vp,Vq,Vr,Vs,Vt,Vu,Vv,Vw,Vx,Vy,Vz,W1,W2,W4,W6,W7,W8,W9,Wa,Wb,Wc,Wd,We,Wf,Wg,Wh,Wi,Wj,Wk,Wl,Wm,Wn,Wo,Wp,Wq,Wr,Ws,Wt,Wu,Wv,Ww,Wx,Wy,Wz,X0,X1,X2,X3,X4,X5,Ms,Mt,Mu,Mv,Mw,Mx,My,Mz,N1,N2,N4,N5,N6,N7,N8,N9,Na,Nb,Nc,Nd,Ng,Nh,Ni,Nj,Nk,Nl,Nm,Nn,No,Np,Nr,Ns,Nt,Nu,Nv,Nw,Nx,Ny,Nz,O0,O2,O3,O4,O5,O6,O7,O8,O9,Oa,Ob,Od,Oe,Of,Og,Oh,Oi,Oj,Ol,Om,On,Oq,Ot,Ou,Ov,Ow,Ox,Oy,Oz,P0,P1,P3,P4,P5,F0,F1,F2,F3,F4,F5,F6,F7,F8,F9,Fa,Fb,Fc,Fd,Fe,Ff,Fg,Fh,Fi,Fj,Fk,Fl,Fm,Fn,Fo,Fp,Fq,Fr,Fs,Ft,Fu,Fv,Fw,Fx,Fy,Fz,G0,G1,G2,G3,G4,G5,G6,G7], []⟩ wx) :
  Code.wp Tryz.prog (madeBlk 2) (Exit.then K Q) ⟨#[A0,.pointer (some ⟨B0,0,none⟩),A2,.int .i64 (nn : Int),.pointer (some ⟨g4,0,none⟩),.slice (some ⟨g5,0,none⟩) nn nn,A6,.int .i64 0,A8,A9,Aa,Ab,Ac,Ad,Ae,Af,Ag,Ah,Ai,Aj,Ak,Al,Am,An,Ao,Ap,Aq,Ar,As,At,Au,Av,Aw,Ax,Ay,Az,B1,B3,B4,B5,B7,B8,B9,Ba,Bb,Bc,Be,Bf,Bg,Bh,Bi,Bj,Bk,Bl,Bm,Bn,Bo,Bp,Bq,Br,Bs,Bt,Bu,Bv,Bw,Bx,By,Bz,C0,C1,C3,C4,C5,C6,C7,C8,C9,Ca,Cb,Cc,Cd,Ce,Cf,Cg,Ch,Ci,Cj,Ck,Cl,Cm,Cn,Co,Cp,Cq,Cr,Cs,Ct,Cu,Cv,Cw,Cx,Cy,Cz,D0,D1,D2,D3,D4,D5,D6,D7,D8,D9,Da,Db,Dc,Dd,De,Df,Dg,Dh,Di,Dj,Dk,Dl,Dm,Dn,Do,Dp,Dq,Dr,Ds,Dt,Du,Dv,Dw,Dx,Dy,Dz,E0,E3,E4,E5,E6,E7,E8,E9,Ea,Eb,Ec,Ed,Ee,Ef,Eg,Eh,Ei,Ej,Ek,El,Em,En,Eo,Ep,Eq,Er,Es,Et,Eu,Ev,Ew,Ex,Ey,Ez,F0,F1,F2,F3,F4,F5,F6,F7,F8,F9,Fa,Fb,Fc,Fd,Fe,Ff,Fg,Fh,Fi,Fj,Fk,Fl,Fm,Fn,Fo,Fp,Fq,Fr,Fs,Ft,Fu,Fv,Fw,Fx,Fy,Fz,G0,G1,G2,G3,G4,G5,G6,G7], []⟩ wm := by
 obtain ⟨ia0, hia0, haz0, haz1, haz2⟩ := info_parts zDP; obtain ⟨ip0, hip0, hpz0, hpz1, hpz2⟩ := info_parts zCB; generalize hF : Sp.kZ nn inner 0 (rows.take 9) (RL, has) = F at *
 have HS0 := zh hS; have HDD0 := zh hdd; have HR0 := zh hr; have HH0 := zh hH; have HX := zh hx; have HF := zh hF; have HSM := zh hsm; have HRL := zh hrl; have HHL := zh hhl; have HROWS := zh hrows; have HINN := zh hinn; have HNR := zh hnr; have HKK := zh hK; have hM : ∀ a w, Met K a w → K a w := fun _ _ h => h
 clear hS hK hdd hr hH hx hF hsm hrl hhl hrows hinn hnr; conv => arg 2; whnf
 go_wp2_with fail; go_loopg [7] 9 (fun g iv wr => ∃ (k : Nat) (RC : List Sp.Rule) (hs : List Bool), k ≤ n ∧ k ≤ 9 ∧ g = 9 - k ∧ iv = .int .i64 k ∧ wr.heap[g4]? = some (.cells #[.string ⟨#[]⟩, pv, (.slice (some ⟨gr, 0, none⟩) nn vc), .string ⟨#[]⟩] 25 (0, 0)) ∧ vL Bd wr pv DL ∧ vS B wr (.slice (some ⟨gr, 0, none⟩) nn vc) RC ∧ RC.length = nn ∧ hs.length = nn ∧ wr.heap[g5]? = some (.cells (hs.map Value.bool).toArray 4 (0, 0)) ∧ Sp.kZ nn inner k ((rows.take 9).drop k) (RC, hs) = F ∧ (∀ r ∈ RC, r.alts.length ≤ k) ∧ Below g5 wm wr)
 case atStart => exact ⟨0, RL, has, Nat.zero_le _, Nat.zero_le _, rfl, rfl, HS0.out, HDD0.out, HR0.out, HRL.out, HHL.out, HH0.out, HF.out, fun r hr => by rw [HSM.out r hr]; exact Nat.le_refl _, Below.refl _ _⟩
 case round =>
  obtain ⟨k, RC, hs, hk, hk9, rfl, rfl, hS, hdd, hrd, hlen, hhl, hh, hF, hsm, hbel⟩ := hrel; obtain ⟨wo, hwo⟩ : ∃ wo : World, wo = wr := ⟨_, rfl⟩
  subst hwo; obtain ⟨ko, hko⟩ : ∃ ko : Nat, ko = k := ⟨_, rfl⟩
  subst hko; have HS := zh hS; have HRD := zh hrd; have HB := zh hbel; have HDD := zh hdd; have HLEN := zh hlen; have HHS := zh hhl; have HH := zh hh; have HF2 := zh hF; have HSM2 := zh hsm; have hszr : wm.heap.size ≤ wo.heap.size := hbel.size; have hk0 : (0 : Int) ≤ (ko : Int) := Int.natCast_nonneg _; obtain ⟨x1, x3⟩ := HX.out _ hbel; have hlB0 : B0 < wo.heap.size := by omega
  have hlb : b < wo.heap.size := by omega
  clear hS hrd hbel hdd hlen hhl hh hF hsm; by_cases hkn : ko < n ∧ ko < 9
  ·obtain ⟨hks, hkN⟩ := hkn
   have hkl : ko < rows.length := by have := HNR.out; omega
   have hdr : (rows.take 9).drop ko = rows[ko] :: (rows.take 9).drop (ko + 1) := by
    rw [List.drop_eq_getElem_cons (by simp; omega)]; simp
   have hrw := HROWS.out ko _ (List.getElem?_eq_getElem hkl); have hF := HF2.out; rw [hdr] at hF; generalize rows[ko] = row at *
   obtain ⟨rfl, hr63, hrwf, ra, sc, hrc, hrx⟩ := hrw; have y0 := hrc _ HB.out; have hk1 : (ko : Int) < (n : Int) := by omega
   have HRC := zh hrc; have HRX := zh hrx; have HRWF := zh hrwf; clear hrc hrx hdr hkl hrwf
   cases row with
   | nil =>
    have HF3 := zh (show Sp.kZ nn inner (ko + 1) ((rows.take 9).drop (ko + 1)) (RC, hs) = F from hF); clear hF; go_wp2_with fail; go_roundg (9 - (ko + 1))
    case measure => omega
    case rel => exact ⟨ko + 1, RC, hs, by omega, by omega, rfl, by go_num, HS.out, HDD.out, HRD.out, HLEN.out, HHS.out, HH.out, HF3.out, fun r hr => Nat.le_succ_of_le (HSM2.out r hr), HB.out⟩
   | cons x t =>
    unfold Sp.kZ at hF; obtain ⟨b3, off3, rfl, hb3, hz0⟩ := HRX.out 0 x rfl
    have HROW := zh (fun (w' : World) (h : Below g5 wm w') (j : Nat) (y : Int) (hj : (x :: t)[j]? = some y) => (show w'.cell? ⟨b3, off3 + j, none⟩ = some (.int .i64 y) from by
     obtain ⟨b3', off3', e, _, h2⟩ := HRX.out j y hj; simp only [Option.some.injEq, Addr.mk.injEq, and_true] at e; obtain ⟨rfl, rfl⟩ := e
     exact h2 w' h))
    have z0 := hz0 _ HB.out; simp only [Nat.add_zero] at z0; have hxw := HRWF.out x (by simp); obtain ⟨w0, w1⟩ := Sp.kI x nn (by omega); obtain ⟨kk, hkk⟩ : ∃ kk : Nat, Sp.yM x nn = (kk : Int) := ⟨(Sp.yM x nn).toNat, by omega⟩
    have hwi := fun w => zAO x nn w (by omega) (by omega) hxw
    have HWI : Hid (∀ w, Calls Tryz.prog 21 #[.int .i64 x, .int .i64 (nn : Int)] w fun e w' => e = .returned (.int .i64 (kk : Int)) ∧ w = w') := zh (fun w => by rw [← hkk]; exact hwi w); have hkkn : kk < nn := by omega
    have hdt : ((x :: t).drop 1).take 4 = ((x :: t).take 5).drop 1 := by rw [List.drop_take]
    rw [hkk, Int.toNat_natCast] at hF; unfold Sp.altOf Sp.plainRow at hF; rw [hdt] at hF; have HINO := zh (fun w h => HINN.out w ko h); generalize inner[ko]? = o at *
    generalize hrn : (x :: t).length = rn at *
    have hrn1 : 1 ≤ rn := by rw [← hrn]; simp
    have HRN := zh hrn
    have hpl : (Sp.qU nn (Sp.j0 o) 1 (((x :: t).take 5).drop 1)).length ≤ 5 := by
     have h := Sp.zCY nn (Sp.j0 o) 1 (((x :: t).take 5).drop 1); rw [if_pos (Nat.le_refl 1)] at h; have h2 : (((x :: t).take 5).drop 1).length ≤ 4 := by rw [List.length_drop, List.length_take]; omega
     omega
    have HF3 := zh hF; clear hF hwi hkk w0 w1 hdt hz0 hrn hxw; go_upto_block 4 with (first | (go_at_call 21; refine (HWI.out _).mono ?_; rintro e w' ⟨rfl, rfl⟩))
    refine made_syms wo B0 nn ko n b off b3 off3 rn cr sc inn icp ia (x :: t) o _ _ hn1 hn4 HRN.out hrn1 (by omega) HRWF.out hks hn63 hinn63 (by omega) (by omega) (by omega) (fun w' h => ⟨(HX.out w' (HB.out.trans (h.mono (by omega)))).1, HRC.out w' (HB.out.trans (h.mono (by omega))), (HX.out w' (HB.out.trans (h.mono (by omega)))).2⟩) (fun w' h j y hj => HROW.out w' (HB.out.trans (h.mono (by omega))) j y hj) (HINO.out wo HB.out) (fun c t a w h => hQ c t a w h) ?_; intro Xh Xs y64 y65 y66 y67 y68 y69 y70 y71 y72 y73 y74 y75 y76 y77 y78 y79 y80 y81 y82 y83 y84 y85 y86 y87 y88 y89 y90 y91 y92 y93 y94 y95 y96 y97 y98 y99 X7 X8 X9 Xa Xb Xc Xd Xe Xf Xg Xi Xj Xk Xl Xm Xn Xo Xp Xq Xr Xt Xu Xv Xw Xx Xy Xz Y0 Y1 wx v hD hown hbel; dsimp only; generalize Sp.qU nn (Sp.j0 o) 1 (((x :: t).take 5).drop 1) = PP at *
    generalize (((x :: t).take 5).drop 1 |>.all fun x => Sp.vF (Sp.zAK x nn)) = FF at *
    obtain ⟨va, vcc, rfl⟩ := zJ hown; have hbx : Below g5 wm wx := HB.out.trans (hbel.mono (by omega)); obtain ⟨x1', x3'⟩ := HX.out _ hbx; have HIO := zh (HINO.out wx hbx); have HDx := zh hD; have HOx := zh hown; have HBx := zh hbel; have e0 := zc 0 hD; have g0 := zf 0 hD; have hlgx := zC hD; have hszx : wo.heap.size ≤ wx.heap.size := hbel.size; have hlBx : B0 < wx.heap.size := by omega
    clear x1 x3 y0 z0 hD hown hbel hbx hlB0 hlb; go_upto_region 23 with fail
    go_cut [142] from 37 to 172 (fun v142 wc => v142 = .bool (Sp.innEnd o) ∧ wx = wc)
    case first =>
     rcases HIO.out with ⟨rfl, hie⟩ | ⟨v, bi, offi, rfl, rfl, hii, hbi, hvw, hcv⟩
     ·have hii : decide (ko < inn) = false := by rw [decide_eq_false_iff_not]; omega
      have hii2 : ¬ ko < inn := by omega
      go_wp2_with fail; go_meet; exact ⟨rfl, rfl⟩
     ·have cv := hcv _ (Below.refl _ _)
      have hii1 : (ko : Int) < (inn : Int) := by omega
      have HV : Hid (Sp.innEnd (some v) = (v.tmod 2 != 0)) := zh rfl; clear HIO; go_wp2_with fail; go_meet; exact ⟨by rw [HV.out], rfl⟩
    case rest =>
     obtain ⟨rfl, rfl⟩ := hcut; go_upto_if 142 with fail
     go_cut [] from 37 to 172 (fun wc => ∃ v, wc.heap[wo.heap.size]? = some (.cells #[v, .string ⟨#[]⟩, .bool false, .int .i64 0, .int .i64 0, .int .i64 0] 60 (0, 0)) ∧ wc.ownsRow (wo.heap.size + 1) 47 6 v (PP ++ (if Sp.innEnd o = true then [(⟨Sp.xC, Sp.vZ, 0⟩ : Sp.Part)] else [])).length ((PP ++ (if Sp.innEnd o = true then [(⟨Sp.xC, Sp.vZ, 0⟩ : Sp.Part)] else [])).map z6).flatten ∧ Below wo.heap.size wo wc)
     case first =>
      cases hie : Sp.innEnd o with
      | false =>
       go_wp2_with fail; go_meet; exact ⟨_, HDx.out, by rw [if_neg (by rw [hie]; decide), List.append_nil]; exact HOx.out, HBx.out⟩
      | true =>
       go_upto_region 24 with fail
       go_wp2_with (at_builtin; refine wpList_append_lies _ rfl _ _ _ rfl (wo.heap.size + 1) 47 ip0 _ 6 64 Tryz.underlying58 hip0 hpz0 hpz1 hpz2 rfl (by decide) _ _ _ rfl (HOx.out.alloc _) ⟨wx.heap.size, 0, none⟩ 1 1 (z6 ⟨Sp.xC, Sp.vZ, 0⟩) rfl rfl ?c1A ?c2A (by decide) ?c3A ?c4A ?c5A _ rfl ?_)
       case c1A => exact World.news_of_block (cs := (z6 ⟨Sp.xC, Sp.vZ, 0⟩).toArray) (t := 47) (fr := (0, 0)) (zE wx _)
       case c2A => simp [Value.oneCell', z6, symC, Sp.xC]
       case c3A => unfold maxLen; omega
       case c4A => omega
       case c5A => simp only [World.size_alloc]; omega
       intro gg2 cap2 w7 hown1 hgrow hat hlt; have hB7 := ((Below.refl (wo.heap.size + 1) wx).alloc (by omega) (.cells (z6 ⟨Sp.xC, Sp.vZ, 0⟩).toArray 47)).grown hgrow (by simp only [World.size_alloc]; omega) (fun g' hg' => (HOx.out.lt g' hg').1); have hD7 := (hB7.block wo.heap.size (by omega)).trans HDx.out; have v0 := zc 0 hD7; have v1 := zf 0 hD7; have hlg7 := zC hD7; have HD7 := zh hD7; have HB7 := zh hB7; have HO7 := zh hown1; clear hB7 hD7 hown1 hgrow hat e0 g0; go_wp2_with fail; go_meet; refine ⟨_, zA HD7.out, ?_, (HBx.out.trans (HB7.out.mono (by omega))).setCell (p := ⟨wo.heap.size, 0, none⟩) (Nat.le_refl _) _⟩; rw [if_pos hie, List.length_append, List.map_append, List.flatten_append]; have e : (List.map z6 [(⟨Sp.xC, Sp.vZ, 0⟩ : Sp.Part)]).flatten = z6 ⟨Sp.xC, Sp.vZ, 0⟩ := by simp
       rw [e]; exact zR HO7.out HD7.out (by decide) _
     case rest =>
      obtain ⟨v, hD, hown, hbel⟩ := hcut; clear e0 g0 x1' x3' HIO HDx HOx HBx hlgx hszx hlBx; generalize PP ++ (if Sp.innEnd o = true then [(⟨Sp.xC, Sp.vZ, 0⟩ : Sp.Part)] else []) = PS at *
      obtain ⟨va, vcc, rfl⟩ := zJ hown; obtain ⟨wy, hwy⟩ : ∃ wy : World, wy = wc := ⟨_, rfl⟩
      subst hwy; have hszy : wo.heap.size ≤ wy.heap.size := hbel.size; have hhy := (hbel.block g5 (by omega)).trans HH.out; have hkh : kk < hs.length := by have := HHS.out; omega
      have hhk : hs[kk]? = some hs[kk] := List.getElem?_eq_getElem hkh; have hgd : hs.getD kk false = hs[kk] := by rw [List.getD_eq_getElem?_getD, hhk]; rfl
      have hF := HF3.out; rw [hgd] at hF; generalize hs[kk] = hb0 at *
      have c5 : wy.cell? ⟨g5, kk, none⟩ = some (.bool hb0) := by
       simp only [World.cell?, hhy, bind, Option.bind]; simp [hhk]
      have f5 : wy.frozen? ⟨g5, kk, none⟩ = false := frozen_at (i := kk) hhy; have hlg5 := zC hhy; have hkk1 : (kk : Int) < (nn : Int) := by omega
      have hkk0 : (0 : Int) ≤ (kk : Int) := Int.natCast_nonneg _; have HHY := zh hhy; have HDY := zh hD; have HOY := zh hown; have HBY := zh hbel; have HF4 := zh hF; clear hhy hkh hhk hgd hF hD hown hbel HF3; go_upto_region 25 with fail
      go_cut [] from 37 to 172 (fun wc => wy.setCell ⟨g5, kk, none⟩ (.bool (hb0 || FF)) = wc)
      case first =>
       cases hb0 with
       | true => go_wp2_with fail; go_meet; rfl
       | false => go_wp2_with fail; go_meet; rw [Bool.false_or]
      case rest =>
       subst hcut; have hsetb : ∀ u, KpT (· ≠ 4) wy (wy.setCell ⟨g5, kk, none⟩ u) := fun u => KpT.setCell (fun _ _ _ _ h _ => h) HHY.out (by simp) u
       obtain ⟨wz, hwz⟩ : ∃ wz, wz = wy.setCell ⟨g5, kk, none⟩ (.bool (hb0 || FF)) := ⟨_, rfl⟩
       have kz : KpT (· ≠ 4) wo wz := by rw [hwz]; exact (KpT.below HBY.out).trans (hsetb _)
       have HKZ := zh kz; have hSz := kz g4 _ _ _ HS.out (by decide); have hgz : wz.heap[wo.heap.size]? = some (.cells #[.slice va PS.length vcc, .string ⟨#[]⟩, .bool false, .int .i64 0, .int .i64 0, .int .i64 0] 60 (0, 0)) := by rw [hwz]; exact hsetb _ _ _ _ _ HDY.out (by decide)
       have hoz : wz.ownsRow (wo.heap.size + 1) 47 6 (.slice va PS.length vcc) PS.length (PS.map z6).flatten := by rw [hwz]; exact zR HOY.out HHY.out (by decide) _
       have hhz : wz.heap[g5]? = some (.cells ((hs.set kk (hb0 || FF)).map Value.bool).toArray 4 (0, 0)) := by
        rw [hwz, zA HHY.out]; simp [List.map_set]
       have hbz : Below g5 wm wz := by rw [hwz]; exact (HB.out.trans (HBY.out.mono (by omega))).setCell (p := ⟨g5, kk, none⟩) (Nat.le_refl _) _
       have hszz : wo.heap.size < wz.heap.size := zC hgz; rw [← hwz]; obtain ⟨f, h1, h2, h3⟩ := HRD.out; rw [HLEN.out] at h1; have hkr : kk < RC.length := by have := HLEN.out; omega
       have hrk := List.getElem?_eq_getElem hkr; have hsmr := HSM2.out _ (List.getElem_mem hkr); generalize RC[kk] = r at *
       have hfb := altsOwnB_lt (h2 kk r hrk); have h1z := zD h1 kz (by decide); have h2z : ∀ (i : Nat) (r : Sp.Rule), RC[i]? = some r → vK B wz (f i) r := fun i r hi => j8 kz (by decide) (by decide) (h2 i r hi)
       obtain ⟨f', ha1, ha2⟩ := h2z kk r hrk; obtain ⟨ua, uc, hfm⟩ := zJ ha1; have HFM := zh hfm; have HA1 := zh ha1; have HA2 := zh ha2; have HRK := zh hrk; have hc1 := zBQ h1z hrk hkkn; rw [hfm] at hc1 ha1 hfb; obtain ⟨c1, c2⟩ := hc1; generalize hus : r.alts.length = us at *
       have HUS := zh hus; have hlr : gr < wz.heap.size := (h1z.lt gr rfl).2; have hl4 : g4 < wz.heap.size := by omega
       have HO := zh h1z; have HC := zh h2z; have HD3 := zh h3; have HFB := zh (fun c hc => (hfb c hc).2); have HSz := zh hSz; have HDZ := zh hgz; have HOZ := zh hoz; have HHZ := zh hhz; have HBZ := zh hbz; have HOW := zh ha1; have HCC := zh (And.intro c1 c2)
       have HKS := zh (fun (w' : World) (h : Below wz.heap.size wz w') => (show ((w'.cell? ⟨g4, 2, none⟩ = some (.slice (some ⟨gr, 0, none⟩) nn vc) ∧ w'.cell? ⟨gr, kk * 3 + 1, none⟩ = some (.slice ua us uc) ∧ w'.frozen? ⟨gr, kk * 3 + 1, none⟩ = false) ∧ w'.cell? ⟨wo.heap.size, 0, none⟩ = some (.slice va PS.length vcc) ∧ w'.cell? ⟨wo.heap.size, 1, none⟩ = some (.string ⟨#[]⟩) ∧ w'.cell? ⟨wo.heap.size, 2, none⟩ = some (.bool false) ∧ w'.cell? ⟨wo.heap.size, 3, none⟩ = some (.int .i64 0) ∧ w'.cell? ⟨wo.heap.size, 4, none⟩ = some (.int .i64 0) ∧ w'.cell? ⟨wo.heap.size, 5, none⟩ = some (.int .i64 0)) from by
        have hd := (h.block wo.heap.size hszz).trans HDZ.out
        exact ⟨⟨zc 2 ((h.block g4 hl4).trans HSz.out), by rw [h.cell (p := ⟨gr, _, none⟩) hlr]; exact HCC.out.1, by rw [World.frozen?_of_block (h.block gr hlr)]; exact HCC.out.2⟩, zc 0 hd, zc 1 hd, zc 2 hd, zc 3 hd, zc 4 hd, zc 5 hd⟩))
       clear hsetb hwz kz hSz hgz hoz hhz hbz h1 h2 h3 h1z h2z ha1 ha2 hfm hrk hus c1 c2 c5 f5 hfb hkr; go_upto_region 26 with fail
       refine zF (fun w' : World => ((w'.cell? ⟨g4, 2, none⟩ = some (.slice (some ⟨gr, 0, none⟩) nn vc) ∧ w'.cell? ⟨gr, kk * 3 + 1, none⟩ = some (.slice ua us uc) ∧ w'.frozen? ⟨gr, kk * 3 + 1, none⟩ = false) ∧ w'.cell? ⟨wo.heap.size, 0, none⟩ = some (.slice va PS.length vcc) ∧ w'.cell? ⟨wo.heap.size, 1, none⟩ = some (.string ⟨#[]⟩) ∧ w'.cell? ⟨wo.heap.size, 2, none⟩ = some (.bool false) ∧ w'.cell? ⟨wo.heap.size, 3, none⟩ = some (.int .i64 0) ∧ w'.cell? ⟨wo.heap.size, 4, none⟩ = some (.int .i64 0) ∧ w'.cell? ⟨wo.heap.size, 5, none⟩ = some (.int .i64 0))) [14] (.take 0 (.take 1 (.take 2 (.take 3 (.take 4 (.take 5 (.take 6 (.take 7 (.take 8 (.take 9 (.one 10 (.one 11 (.one 12 (.one 13 (.one 14 (.done)))))))))))))))) (by kernel_rfl) (by kernel_rfl) (fun c t a w h => hQ c t a w h) ?_; have hSw := HKS.out _ (below_drewN (Below.refl _ wz) 1); iterate 10 (refine zN (v := ?_) rfl hSw (by rfl) ?_ ?_; rotate_left 1; (focus (intro w hSx; (try dsimp only at hSx); go_simp; try rfl)); (try simp only [Act.put, zq0, zq1, zq2]))
       refine zB rfl (by rfl) (fun K' hK => ?_); go_simp; refine hK _ _ (.inr (HKS.out _ ((zI (Below.refl _ _)).alloc (Nat.le_refl _) _))) ?_; clear hK K' hSw; (try simp only [Act.put, zq0, zq1, zq2]); refine zB rfl (by rfl) (fun K' hK => ?_)
       (refine wp_append_lies _ _ _ _ (by rfl) B 60 ia0 _ 6 72 Tryz.underlying61 hia0 haz0 haz1 haz2 rfl (by omega) _ _ _ (by rfl) (HOW.out.alloc _) ⟨wz.heap.size, 0, none⟩ 1 1 (altC (.slice va PS.length vcc) ⟨PS, Sp.xC, 0⟩) (by rfl) (by rfl) (World.news_of_block (cs := (altC (.slice va PS.length vcc) ⟨PS, Sp.xC, 0⟩).toArray) (t := 60) (fr := (0, 0)) (zE wz _)) (by simp [Value.oneCell', altC, symC, Sp.xC]) (by omega) (by unfold maxLen; omega) (by omega) (by show B ≤ (wz.alloc _).heap.size; simp only [World.size_alloc]; omega) (wz.heap.size + 1) (by simp) ?_; intro gg cap2 w5 hown1 hgrow hat hlt; replace hgrow : (wz.alloc (.cells (altC (.slice va PS.length vcc) ⟨PS, Sp.xC, 0⟩).toArray 60)).grownBy w5 (Value.slice ua us uc).ownBlock := ⟨hgrow.os, hgrow.tape, hgrow.output, hgrow.size, hgrow.block⟩; have hk5 : KpT (· ≠ 60) wz w5 := (KpT.below ((Below.refl _ wz).alloc (Nat.le_refl _) _)).trans (KpT.grown (HOW.out.alloc _) hgrow); have hS5 := hk5 g4 _ _ _ HSz.out (by decide); have v0 := zc 2 hS5; have hr5 := zD HO.out hk5 (by decide); have v1 := zBQ hr5 HRK.out (by omega); rw [HFM.out] at v1; have hlr5 : gr < w5.heap.size := (hr5.lt gr rfl).2; have hlg5 := zC hS5; have hga5 := (hgrow.block wo.heap.size (by simp only [World.size_alloc]; omega) (fun e => by have := HFB.out wo.heap.size e.symm; omega)).trans ((Below.heap_alloc _ _ _ (by omega)).trans HDZ.out); have q0 := zc 0 hga5; have q1 := zc 1 hga5; have q2 := zc 2 hga5; have q3 := zc 3 hga5; have q4 := zc 4 hga5; have q5 := zc 5 hga5)
       refine hK _ _ (.inr (⟨⟨v0, v1⟩, q0, q1, q2, q3, q4, q5⟩)) ?_; clear hK K'; (try simp only [Act.put, zq0, zq1, zq2]); iterate 2 (refine zB rfl (by rfl) (fun K' hK => ?_); go_simp; refine hK _ _ (.inr (⟨⟨v0, v1⟩, q0, q1, q2, q3, q4, q5⟩)) ?_; clear hK K'; (try simp only [Act.put, zq0, zq1, zq2]))
       refine zB rfl (by rfl) (fun K' hK => ?_); go_simp; refine hK _ _ (.inl rfl) ?_; clear hK K'; (try simp only [Act.put, zq0, zq1, zq2]); refine zH ?_; have HG := zh hgrow; have HAT := zh hat; have HO1 := zh hown1; have HK5 := zh hk5; have HR5 := zh hr5; have HS5 := zh hS5; clear hgrow hat hown1 hk5 hr5 hS5 v0 v1 hga5 q0 q1 q2 q3 q4 q5; go_wp2_with fail; go_roundg (9 - (ko + 1))
       case measure => omega
       case rel =>
        have HBW : Below wz.heap.size wz (wz.alloc (.cells (altC (.slice va PS.length vcc) ⟨PS, Sp.xC, 0⟩).toArray 60)) := (Below.refl _ _).alloc (Nat.le_refl _) _; have h := rulesD_add (k := kk) (a := ⟨PS, Sp.xC, 0⟩) (H := wz.heap.size + 1) HO.out HLEN.out HC.out HD3.out HRK.out (by rw [HUS.out]; exact HA1.out) HA2.out HBW ⟨wo.heap.size + 1, HOZ.out.alloc _⟩ (by rw [HFM.out]; exact HG.out) (by rw [HUS.out]; exact HO1.out) (by rw [HFM.out]; exact HAT.out) (by omega); rw [HUS.out] at h; obtain ⟨cu, hgb⟩ := row_block HR5.out; have hset : ∀ u, KpT (· ≠ 63) w5 (w5.setCell ⟨gr, kk * 3 + 1, none⟩ u) := fun u => KpT.setCell (fun _ _ _ _ h _ => h) hgb (by simp) u
        refine ⟨ko + 1, _, _, by omega, by omega, rfl, by go_num, hset _ g4 _ _ _ HS5.out (by decide), vR (hset _) (by decide) (by decide) (h := ?dd), h, by rw [List.length_set]; exact HLEN.out, by rw [List.length_set]; exact HHS.out, hset _ g5 _ _ _ (HK5.out g5 _ _ _ HHZ.out (by decide)) (by decide), ?_, ?_, ?_⟩
        case dd => exact vR (vR HDD.out HKZ.out (by decide) (by decide)) HK5.out (by decide) (by decide)
        ·rw [← HF4.out, Sp.addAlt_set _ kk RC r HRK.out]
        ·intro e he
         rcases List.mem_or_eq_of_mem_set he with he | rfl
         ·have := HSM2.out e he; omega
         ·show (r.alts ++ [_]).length ≤ ko + 1
          have := HUS.out; rw [List.length_append]; simp only [List.length_cons, List.length_nil]; omega
        ·exact ((HBZ.out.trans (HBW.mono (by omega))).grown HG.out (by simp only [World.size_alloc]; omega) (fun g' hg' => by have := (HOW.out.lt g' hg').1; omega)).setCell (p := ⟨gr, _, none⟩) (by have := (HO.out.lt gr rfl).1; show g5 ≤ gr; omega) _
  ·have hfin : (rows.take 9).drop ko = [] := by
    rw [List.drop_eq_nil_iff, List.length_take]; have := HNR.out; omega
   have hFe : (RC, hs) = F := by have h := HF2.out; rw [hfin] at h; exact h
   have HFE := zh hFe; clear hfin hFe; by_cases hks : ko < n
   ·have hkN : decide ((ko : Int) < 9) = false := by rw [decide_eq_false_iff_not]; omega
    have HKN := zh hkn; clear hkn; go_wp2_with fail; exact (HKK.out _ _ _ _ _ _ _ _ _ _ _ _ _ _ _ _ _ _ _ _ _ _ _ _ _ _ _ _ _ _ _ _ _ _ _ _ _ _ _ _ _ _ _ _ _ _ _ _ _ _ _ _ _ _ _ _ _ _ _ _ _ _ _ _ _ _ _ _ _ _ _ _ _ _ _ _ _ _ _ _ _ _ _ _ _ _ _ _ _ _ _ _ _ _ _ _ _ _ _ _ _ _ _ _ _ _ _ _ _ _ _ _ _ _ _ _ _ _ _ _ _ _ _ _ _ _ _ _ _ _ _ _ _ _ _ _ _ _ _ _ _ _ wo RC hs HFE.out HS.out HDD.out HRD.out HLEN.out HHS.out HH.out (fun r hr => by have := HSM2.out r hr; omega) HB.out : K _ _)
   ·have hks' : decide (ko < n) = false := by rw [decide_eq_false_iff_not]; exact hks
    have HKN := zh hkn; clear hkn hks; go_wp2_with fail; exact (HKK.out _ _ _ _ _ _ _ _ _ _ _ _ _ _ _ _ _ _ _ _ _ _ _ _ _ _ _ _ _ _ _ _ _ _ _ _ _ _ _ _ _ _ _ _ _ _ _ _ _ _ _ _ _ _ _ _ _ _ _ _ _ _ _ _ _ _ _ _ _ _ _ _ _ _ _ _ _ _ _ _ _ _ _ _ _ _ _ _ _ _ _ _ _ _ _ _ _ _ _ _ _ _ _ _ _ _ _ _ _ _ _ _ _ _ _ _ _ _ _ _ _ _ _ _ _ _ _ _ _ _ _ _ _ _ _ _ _ _ _ _ _ _ wo RC hs HFE.out HS.out HDD.out HRD.out HLEN.out HHS.out HH.out (fun r hr => by have := HSM2.out r hr; omega) HB.out : K _ _)
end Go.Proofs.YtddnomjfcbplpaaGreatDoor
