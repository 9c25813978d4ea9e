import Derived.Lib.ItoaLen
import Derived.Test.YtddnomjfcbplpaaGreatDoorZ39
namespace Go.Proofs.YtddnomjfcbplpaaGreatDoor
open Go.RowKit Go.Maps

structure OfN (W : World) (m : Nat) (x : Sp.zM) (vd vr : Value) (r : Sp.Rk) (v : RkV) (L : List Sp.Non) (wx : World) : Prop where
 os : OfS W m x vd vr r v wx
 nons : wx.ownsRow W.heap.size 89 2 v.nv L.length (L.map nonC).flatten
 apart : ∀ b, v.nv.ownBlock = some b → v.yv.ownBlock ≠ some b
section
variable {W wx w' wa : World} {m : Nat} {x : Sp.zM} {vd vr : Value} {r : Sp.Rk} {v : RkV} {L : List Sp.Non}
theorem OfN.below (h : OfN W m x vd vr r v L wx) (hb : Below wx.heap.size wx w') : OfN W m x vd vr r v L w' := ⟨h.os.below hb, zL h.nons hb, h.apart⟩
theorem OfN.push {g n c : Nat} {a : Sp.Non} (h : OfN W m x vd vr r v L wx) (k : Kp (fun b => v.nv.ownBlock ≠ some b) wx wa) (kt : KpT (fun t => t ≠ 89) wx wa) (hown : wa.ownsRow W.heap.size 89 2 (.slice (some ⟨g, 0, none⟩) n c) (L.length + 1) ((L.map nonC).flatten ++ nonC a)) (hat : v.nv.ownBlock = some g ∨ wx.heap.size ≤ g) :
  OfN W m x vd vr r { v with nv := .slice (some ⟨g, 0, none⟩) n c } (L ++ [a]) (wa.setCell ⟨m, 1, none⟩ (.slice (some ⟨g, 0, none⟩) n c)) := by
 have hm := kt m _ _ _ h.os.mkr.block (by decide); obtain ⟨k1, k2⟩ := zY.box1 hm h.os.mkr.behind 1 (.slice (some ⟨g, 0, none⟩) n c); have hb : Below W.heap.size wx wa := Kp.below k h.os.bel.size (fun b hb e => by have := (h.nons.lt b e).1; omega); have hty : wa.ownsRow W.heap.size 89 2 v.yv r.types.length (r.types.map typC).flatten := zP h.os.mkr.types k (fun b hb e => h.apart b e hb)
 have hmk : zY (fun _ => True) W.heap.size (wa.setCell ⟨m, 1, none⟩ (.slice (some ⟨g, 0, none⟩) n c)) m r { v with nv := .slice (some ⟨g, 0, none⟩) n c } :=
  ⟨zA hm, zD (zD h.os.mkr.toks kt (by decide)) k1 (by decide), zD (zD h.os.mkr.given kt (by decide)) k1 (by decide), zD hty k1 (by decide), zD (zD h.os.mkr.lefts kt (by decide)) k1 (by decide), (h.os.mkr.prods.kpT kt (by decide) (by decide)).kpT k1 (by decide) (by decide), h.os.mkr.behind⟩
 refine ⟨h.os.step hmk (hb.trans k2.1) ((kt.mono (fun t ht => by rcases ht with rfl | rfl <;> decide)).trans (k1.mono (fun t ht => by rcases ht with rfl | rfl <;> decide))), ?_, ?_⟩
 ·rw [List.length_append, List.map_append, List.flatten_append]
  simp only [List.map_cons, List.map_nil, List.flatten_cons, List.flatten_nil, List.append_nil, List.length_singleton]; exact zD hown k1 (by decide)
 ·intro b hb' e
  have e1 : g = b := by simpa [Value.ownBlock] using hb'
  subst e1; rcases hat with h1 | h1
  ·exact h.apart g h1 e
  ·have := (h.os.mkr.types.lt g e).2
   omega
end
def zCK : Sp.Non := ⟨[36, 97, 99, 99, 101, 112, 116], []⟩
def zCA (types : List (List UInt8 × List UInt8)) (l : List UInt8) : Sp.Non := ⟨l, (Sp.xK types l).getD []⟩
set_option maxRecDepth 100000 in
set_option maxHeartbeats 12800000 in
theorem of_nons {W wm : World} {m : Nat} {x : Sp.zM} {vd vr : Value} {r0 : Sp.Rk} {v0 : RkV}
  {A0 A3 A4 A5 A7 A8 A9 Aa Ab Ac Ad Ae Af Ag Ah Aj Ak Al Am An Ao Ap Aq Ar As At Au Av Aw Ax Ay Az B1 B3 B4 B5 B7 B8 B9 Ba Bb Bc Be Bf Bg Bh Bi Bj Bk Bl Bm Bn Bo Bp Bq Br Bs Bt Bu Bv Bw Bx By Bz C0 C1 C3 C4 C5 C6 C7 C8 C9 Ca Cb Cc Cd Ce Cf Cg Ch Ci Cj Ck Cl Cm Cn Co Cp Cq Cr Cs Ct Cu Cv Cw Cx Cy Cz D0 D1 D2 D3 D4 D5 D6 D7 D8 D9 Da Db Dc Dd De Df Dg Dh Di Dj Dk Dl Dm Dn Do Dp Dq Dr Ds Dt Du Dv Dw Dx Dy Dz E0 E3 E4 E5 E6 E7 E8 E9 Ea Eb Ec Ed Ee Ef Eg Eh Ei Ej Ek El Em En Eo Ep Eq Er Es Et Eu Ev Ew Ex Ey Ez F0 F1 F2 F3 F4 F5 F6 F7 F8 F9 Fa Fb Fc Fd Fe Ff Fg Fh Fi Fj Fk Fl Fm Fn Fo Fp Fq Fr Fs Ft Fu Fv Fw Fx Fy Fz G0 G1 G2 G3 G4 G5 G6 G7 G8 G9 Ga Gb Gc Gd Ge Gf Gg Gh Gi Gj Gk Gm Gn Gq Gs Gu Gv Gw Gx Gy Gz H0 H8 Ha Hb Hc Hd He Hf Hg Hh Hi Hj Hk Hl Hm Hn Ho Hp Hq Hr Hs Ht Hu Hv Hw Hx Hy Hz I0 I1 I2 I3 I4 I5 I6 I7 I8 I9 Ia Ib Ic Id Ie If Ig Ih Ii Ij Ik Il Im In Io Ip Iq Ir Is It Iu Iv Iw Ix Iy Iz J0 J1 J2 J3 J4 J5 J6 J7 J8 J9 Ja Jb Jc Jd Je Jf Jg Jh Ji Jj Jk Jl Jm Jn Jo Jp Jq Jr Js Jt Ju Jv Jw Jx Jy Jz K0 K2 K3 K4 K5 K6 K7 K8 K9 Ka Kb Kc Kd Ke Kf Kg Kh Ki Kj Kk Kl Km Kn Ko Kq Kr Ks Kt Ku Kv Kw Kx Ky Kz L0 L1 L2 L3 L4 L5 L6 L7 L8 L9 La Lb Lc Ld Le Lf Lg Lh Li Lj Ll Lm Ln Lo Lp Lq Lr Ls Lt Lu Lv Lw Lx Ly Lz M0 M1 M2 M3 M4 M5 M6 M7 M8 M9 Ma Mb Mc Md Me Mf Mg Mh Mi Mj Ml Mm Mn Mo Mp Mq : Value} (K : Act → World → Prop) (Q : Exit → Act → World → Prop)
  (hS : OfN W m x vd vr r0 v0 [zCK] wm) (hrb : Sp.RB (2 ^ 38) r0)
  (hQ : ∀ c (t : Array Value) (a : Act) w, Q (.panic c) ⟨t, a.defers⟩ w → Q (.panic c) a w)
  (hK : ∀ (Pd Pp Q0 Rp Rq Rr Rs Rt Ru Rv Rw Ry Rz S0 S1 S2 S3 S4 S5 S6 S7 S9 Sa Sb Sc Sd Se Sf Sg Sh Si Sk Sl Sm Sn So Sq Sr Ss St Su Sw Sx Sy Sz T0 T1 : Value) (wx : World) (v1 : RkV), OfN W m x vd vr r0 v1 (zCK :: r0.lefts.map (zCA r0.types)) wx → K ⟨#[A0,.pointer (some ⟨W.heap.size,0,none⟩),.pointer (some ⟨W.heap.size + 1,0,none⟩),A3,A4,A5,.pointer (some ⟨m,0,none⟩),A7,A8,A9,Aa,Ab,Ac,Ad,Ae,Af,Ag,Ah,Pd,Pp,Q0,Al,Am,An,Ao,Ap,Aq,Ar,As,At,Au,Av,Aw,Ax,Ay,Az,B1,B3,B4,B5,B7,B8,B9,Ba,Bb,Bc,Be,Bf,Bg,Bh,Bi,Bj,Bk,Bl,Bm,Bn,Bo,Bp,Bq,Br,Bs,Bt,Bu,Bv,Bw,Bx,By,Bz,C0,C1,C3,C4,C5,C6,C7,C8,C9,Ca,Cb,Cc,Cd,Ce,Cf,Cg,Ch,Ci,Cj,Ck,Cl,Cm,Cn,Co,Cp,Cq,Cr,Cs,Ct,Cu,Cv,Cw,Cx,Cy,Cz,D0,D1,D2,D3,D4,D5,D6,D7,D8,D9,Da,Db,Dc,Dd,De,Df,Dg,Dh,Di,Dj,Dk,Dl,Dm,Dn,Do,Dp,Dq,Dr,Ds,Dt,Du,Dv,Dw,Dx,Dy,Dz,E0,E3,E4,E5,E6,E7,E8,E9,Ea,Eb,Ec,Ed,Ee,Ef,Eg,Eh,Ei,Ej,Ek,El,Em,En,Eo,Ep,Eq,Er,Es,Et,Eu,Ev,Ew,Ex,Ey,Ez,F0,F1,F2,F3,F4,F5,F6,F7,F8,F9,Fa,Fb,Fc,Fd,Fe,Ff,Fg,Fh,Fi,Fj,Fk,Fl,Fm,Fn,Fo,Fp,Fq,Fr,Fs,Ft,Fu,Fv,Fw,Fx,Fy,Fz,G0,G1,G2,G3,G4,G5,G6,G7,G8,G9,Ga,Gb,Gc,Gd,Ge,Gf,Gg,Gh,Gi,Gj,Gk,Gm,Gn,Gq,Gs,Gu,Gv,Gw,Gx,Gy,Gz,H0,H8,Ha,Hb,Hc,Hd,He,Hf,Hg,Hh,Hi,Hj,Hk,Hl,Hm,Hn,Ho,Hp,Hq,Hr,Hs,Ht,Hu,Hv,Hw,Hx,Hy,Hz,I0,I1,I2,I3,Rp,Rq,Rr,Rs,Rt,Ru,Rv,Rw,Ry,Rz,S0,S1,S2,S3,S4,S5,S6,S7,S9,Sa,Sb,Sc,Sd,Se,Sf,Sg,Sh,Si,Sk,Sl,Sm,Sn,So,Sq,Sr,Ss,St,Su,Sw,Sx,Sy,Sz,T0,T1,Jc,Jd,Je,Jf,Jg,Jh,Ji,Jj,Jk,Jl,Jm,Jn,Jo,Jp,Jq,Jr,Js,Jt,Ju,Jv,Jw,Jx,Jy,Jz,K0,K2,K3,K4,K5,K6,K7,K8,K9,Ka,Kb,Kc,Kd,Ke,Kf,Kg,Kh,Ki,Kj,Kk,Kl,Km,Kn,Ko,Kq,Kr,Ks,Kt,Ku,Kv,Kw,Kx,Ky,Kz,L0,L1,L2,L3,L4,L5,L6,L7,L8,L9,La,Lb,Lc,Ld,Le,Lf,Lg,Lh,Li,Lj,Ll,Lm,Ln,Lo,Lp,Lq,Lr,Ls,Lt,Lu,Lv,Lw,Lx,Ly,Lz,M0,M1,M2,M3,M4,M5,M6,M7,M8,M9,Ma,Mb,Mc,Md,Me,Mf,Mg,Mh,Mi,Mj,Ml,Mm,Mn,Mo,Mp,Mq], []⟩ wx) :
  Code.wp Tryz.prog (ofBlk 14) (Exit.then K Q) ⟨#[A0,.pointer (some ⟨W.heap.size,0,none⟩),.pointer (some ⟨W.heap.size + 1,0,none⟩),A3,A4,A5,.pointer (some ⟨m,0,none⟩),A7,A8,A9,Aa,Ab,Ac,Ad,Ae,Af,Ag,Ah,.int .i64 0,Aj,Ak,Al,Am,An,Ao,Ap,Aq,Ar,As,At,Au,Av,Aw,Ax,Ay,Az,B1,B3,B4,B5,B7,B8,B9,Ba,Bb,Bc,Be,Bf,Bg,Bh,Bi,Bj,Bk,Bl,Bm,Bn,Bo,Bp,Bq,Br,Bs,Bt,Bu,Bv,Bw,Bx,By,Bz,C0,C1,C3,C4,C5,C6,C7,C8,C9,Ca,Cb,Cc,Cd,Ce,Cf,Cg,Ch,Ci,Cj,Ck,Cl,Cm,Cn,Co,Cp,Cq,Cr,Cs,Ct,Cu,Cv,Cw,Cx,Cy,Cz,D0,D1,D2,D3,D4,D5,D6,D7,D8,D9,Da,Db,Dc,Dd,De,Df,Dg,Dh,Di,Dj,Dk,Dl,Dm,Dn,Do,Dp,Dq,Dr,Ds,Dt,Du,Dv,Dw,Dx,Dy,Dz,E0,E3,E4,E5,E6,E7,E8,E9,Ea,Eb,Ec,Ed,Ee,Ef,Eg,Eh,Ei,Ej,Ek,El,Em,En,Eo,Ep,Eq,Er,Es,Et,Eu,Ev,Ew,Ex,Ey,Ez,F0,F1,F2,F3,F4,F5,F6,F7,F8,F9,Fa,Fb,Fc,Fd,Fe,Ff,Fg,Fh,Fi,Fj,Fk,Fl,Fm,Fn,Fo,Fp,Fq,Fr,Fs,Ft,Fu,Fv,Fw,Fx,Fy,Fz,G0,G1,G2,G3,G4,G5,G6,G7,G8,G9,Ga,Gb,Gc,Gd,Ge,Gf,Gg,Gh,Gi,Gj,Gk,Gm,Gn,Gq,Gs,Gu,Gv,Gw,Gx,Gy,Gz,H0,H8,Ha,Hb,Hc,Hd,He,Hf,Hg,Hh,Hi,Hj,Hk,Hl,Hm,Hn,Ho,Hp,Hq,Hr,Hs,Ht,Hu,Hv,Hw,Hx,Hy,Hz,I0,I1,I2,I3,I4,I5,I6,I7,I8,I9,Ia,Ib,Ic,Id,Ie,If,Ig,Ih,Ii,Ij,Ik,Il,Im,In,Io,Ip,Iq,Ir,Is,It,Iu,Iv,Iw,Ix,Iy,Iz,J0,J1,J2,J3,J4,J5,J6,J7,J8,J9,Ja,Jb,Jc,Jd,Je,Jf,Jg,Jh,Ji,Jj,Jk,Jl,Jm,Jn,Jo,Jp,Jq,Jr,Js,Jt,Ju,Jv,Jw,Jx,Jy,Jz,K0,K2,K3,K4,K5,K6,K7,K8,K9,Ka,Kb,Kc,Kd,Ke,Kf,Kg,Kh,Ki,Kj,Kk,Kl,Km,Kn,Ko,Kq,Kr,Ks,Kt,Ku,Kv,Kw,Kx,Ky,Kz,L0,L1,L2,L3,L4,L5,L6,L7,L8,L9,La,Lb,Lc,Ld,Le,Lf,Lg,Lh,Li,Lj,Ll,Lm,Ln,Lo,Lp,Lq,Lr,Ls,Lt,Lu,Lv,Lw,Lx,Ly,Lz,M0,M1,M2,M3,M4,M5,M6,M7,M8,M9,Ma,Mb,Mc,Md,Me,Mf,Mg,Mh,Mi,Mj,Ml,Mm,Mn,Mo,Mp,Mq], []⟩ wm := by
 obtain ⟨in0, hin0, hnz0, hnz1, hnz2⟩ := info_parts info_nonR; obtain ⟨n, hn⟩ : ∃ n, n = r0.lefts.length := ⟨_, rfl⟩
 have hn38 : n ≤ 2 ^ 38 := by rw [hn]; exact hrb.lefts
 have HS0 := zh hS; have HRB := zh hrb; have HNE := zh hn; clear hS hrb hn; have HKK := zh hK; have hM : ∀ a w, Met K a w → K a w := fun _ _ h => h
 clear hK; conv => arg 2; whnf
 go_wp2_with fail; go_loopg [18] n (fun q iv wr => ∃ (k : Nat) (v : RkV), k ≤ n ∧ q = n - k ∧ iv = .int .i64 k ∧ OfN W m x vd vr r0 v (zCK :: (r0.lefts.take k).map (zCA r0.types)) wr)
 case atStart => exact ⟨0, v0, Nat.zero_le _, rfl, rfl, HS0.out⟩
 case round =>
  clear HS0; obtain ⟨k, v, hk, rfl, rfl, hS⟩ := hrel; obtain ⟨wo, hwo⟩ : ∃ wo : World, wo = wr := ⟨_, rfl⟩
  subst hwo; have HS := zh hS; have hk0 : (0 : Int) ≤ (k : Int) := Int.natCast_nonneg _; have hmb := hS.os.mkr.block; have hlf := hS.os.mkr.lefts; rw [← HNE.out] at hlf; obtain ⟨la, lc, hlv⟩ := zJ hlf; unfold yE at hmb; rw [hlv] at hmb hlf; have m7 := zc 7 hmb; have lm := zC hmb; clear hS hmb; by_cases hkn : k < n
  ·have hk1 : (k : Int) < (n : Int) := by omega
   obtain ⟨gl, cl, hv⟩ := yB hlf (by omega); simp only [Value.slice.injEq] at hv; obtain ⟨rfl, _, rfl⟩ := hv; obtain ⟨lf, hlk⟩ : ∃ lf, r0.lefts[k]? = some lf := ⟨_, List.getElem?_eq_getElem (by rw [← HNE.out]; exact hkn)⟩
   have a0 : wo.cell? ⟨gl, k, none⟩ = some (.string ⟨lf.toArray⟩) := jP hlf hlk hkn; have lgl := (hlf.lt gl rfl).2; have HLK := zh hlk; obtain ⟨bd, hbd⟩ : ∃ bd, bd = wo.heap.size := ⟨_, rfl⟩
   obtain ⟨w1, hw1⟩ : ∃ w1, w1 = wo.alloc (.cells #[.string ⟨lf.toArray⟩, .string ⟨#[]⟩] 89) := ⟨_, rfl⟩
   have hb1 : Below wo.heap.size wo w1 := by rw [hw1]; exact (Below.refl _ wo).alloc (Nat.le_refl _) _
   have hx1 : w1.heap[bd]? = some (.cells #[.string ⟨lf.toArray⟩, .string ⟨#[]⟩] 89 (0, 0)) := by rw [hw1, hbd]; exact zE wo _
   have HB1 := zh hb1; have HX := zh hx1; have HBD := zh hbd; obtain ⟨tg, htg⟩ : ∃ tg, tg = (Sp.xK r0.types lf).getD [] := ⟨_, rfl⟩
   have HTG := zh htg; go_upto_region 54 with fail
   rw [← hbd, ← hw1]; have x0 := zc 0 hx1; have x1 := zc 1 hx1; have f1 := zf 1 hx1; have lx := zC hx1; clear hw1 hbd hb1 hx1 a0 lgl hlf hlk hlv m7 lm htg; go_cut [20] from 272 to 315 (fun c wx => c = .int .i64 (ixI (Sp.typeIx r0.types lf)) ∧ w1 = wx)
   case first =>
    go_wp2_with fail; refine (ref_typeOf lf (HS.out.os.mkr.below HB1.out) HRB.out (by omega)).mono ?_; rintro e w' ⟨rfl, rfl⟩; go_wp2_with fail; go_meet; exact ⟨rfl, rfl⟩
   case rest =>
    obtain ⟨rfl, rfl⟩ := hcut; go_upto_if 294 with fail
    go_cut [20] from 272 to 315 (fun _ wx => Below wo.heap.size wo wx ∧ wx.heap[bd]? = some (.cells #[.string ⟨lf.toArray⟩, .string ⟨tg.toArray⟩] 89 (0, 0)))
    case first =>
     have hty := Sp.typeIx_of r0.types lf
     cases ht : Sp.typeIx r0.types lf with
     | none =>
      have e : tg = [] := by rw [HTG.out, hty, ht]; rfl
      subst e; dsimp only [ixI]; clear hty ht; go_wp2_with fail; go_meet; exact ⟨HB1.out, HX.out⟩
     | some t =>
      have htl := Sp.typeIx_lt ht; obtain ⟨⟨pn, pt⟩, hp⟩ : ∃ p, r0.types[t]? = some p := ⟨_, List.getElem?_eq_getElem htl⟩
      have e : tg = pt := by rw [HTG.out, hty, ht]; simp [hp]
      subst e; have hS1 := HS.out.below HB1.out; have hmb := hS1.os.mkr.block; have htr := hS1.os.mkr.types; obtain ⟨tn, htn⟩ : ∃ tn, tn = r0.types.length := ⟨_, rfl⟩
      rw [← htn] at htr htl; obtain ⟨gt, tc, htv⟩ := yB htr (by omega); unfold yE at hmb; rw [htv] at hmb htr; have m6 := zc 6 hmb; have lm := zC hmb; have a1 := yY htr (fun _ => rfl) hp htl (j := 1) (u := .string ⟨tg.toArray⟩) rfl; have lgt := (htr.lt gt rfl).2
      have hne : ¬ gt = bd := fun e => by
       have := (HS.out.os.mkr.types.lt gt (by rw [htv]; rfl)).2; have := HBD.out; omega
      have ht0 : (0 : Int) ≤ (t : Int) := Int.natCast_nonneg _; have ht1 : (t : Int) < (tn : Int) := by omega
      have htnb : tn ≤ 2 ^ 38 := by rw [htn]; exact HRB.out.types
      dsimp only [ixI]; clear hS1 hmb htr htv htn hp hty ht; go_wp2_with fail; go_meet; exact ⟨HB1.out.setCell (by rw [HBD.out]; simp) _, zA HX.out⟩
    case rest =>
     obtain ⟨w2, hw2⟩ : ∃ w2 : World, w2 = wc := ⟨_, rfl⟩
     subst hw2; obtain ⟨hb2, hx2⟩ := hcut; have hS2 := HS.out.below hb2; obtain ⟨na, nc, hnv⟩ := zJ hS2.nons; obtain ⟨nn, hnn⟩ : ∃ nn, nn = (zCK :: (r0.lefts.take k).map (zCA r0.types)).length := ⟨_, rfl⟩
     have hnnb : nn ≤ 2 ^ 39 := by rw [hnn, List.length_cons, List.length_map, List.length_take]; omega
     rw [← hnn] at hnv; have htr := hS2.nons; rw [hnv, ← hnn] at htr; have hmb := hS2.os.mkr.block; unfold yE at hmb; rw [hnv] at hmb; have hne1 : (Value.slice na nn nc).ownBlock ≠ some m := fun e => zG htr hmb (by decide) _ e rfl
     have hne2 : (Value.slice na nn nc).ownBlock ≠ some bd := fun e => by
      have := (HS.out.nons.lt bd (by rw [hnv]; exact e)).2; have := HBD.out; omega
     have HMB := zh hmb; have HX2 := zh hx2; have HTR := zh htr; have HS2 := zh hS2; have HNV := zh hnv; have HNN := zh hnn; have HN1 := zh hne1; have HN2 := zh hne2
     have HSK := zh (fun (w' : World) (kp : Kp (fun b => (Value.slice na nn nc).ownBlock ≠ some b) w2 w') => (show ((w'.cell? ⟨m, 1, none⟩ = some (.slice na nn nc) ∧ w'.frozen? ⟨m, 1, none⟩ = false) ∧ w'.cell? ⟨bd, 0, none⟩ = some (.string ⟨lf.toArray⟩) ∧ w'.cell? ⟨bd, 1, none⟩ = some (.string ⟨tg.toArray⟩) ∧ m < w'.heap.size ∧ bd < w'.heap.size) from by
      have h1 := kp.at HMB.out HN1.out; have h2 := kp.at HX2.out HN2.out
      exact ⟨⟨zc 1 h1, zf 1 h1⟩, zc 0 h2, zc 1 h2, zC h1, zC h2⟩))
     have hBs : W.heap.size ≤ w2.heap.size := hS2.os.bel.size; clear hb2 hx2 hS2 hnv hnn htr hmb hne1 hne2 x0 x1 f1 lx; go_upto_region 57 with fail
     refine zF (fun w' : World => ((w'.cell? ⟨m, 1, none⟩ = some (.slice na nn nc) ∧ w'.frozen? ⟨m, 1, none⟩ = false) ∧ w'.cell? ⟨bd, 0, none⟩ = some (.string ⟨lf.toArray⟩) ∧ w'.cell? ⟨bd, 1, none⟩ = some (.string ⟨tg.toArray⟩) ∧ m < w'.heap.size ∧ bd < w'.heap.size)) [12] (.take 0 (.take 1 (.take 2 (.take 3 (.take 4 (.take 5 (.take 6 (.one 7 (.one 8 (.one 9 (.one 10 (.one 11 (.one 12 (.done)))))))))))))) (by kernel_rfl) (by kernel_rfl) (fun c t a w h => hQ c t a w h) ?_; have hSw := HSK.out _ ((Kp.refl _ w2).drew); iterate 7 (refine zO (v := ?_) rfl rfl hSw (by rfl) ?_ ?_; rotate_left 1; (focus (intro w hSx; (try dsimp only at hSx); go_simp; try rfl)); (try simp only [Act.put, zq0, zq1, zq2]))
     refine zB rfl (by rfl) (fun K' hK => ?_); go_simp; refine hK _ _ (.inr (HSK.out _ (((Kp.refl _ w2).drew).alloc (.cells #[.string ⟨lf.toArray⟩, .string ⟨tg.toArray⟩] 89)))) ?_; clear hK K' hSw; (try simp only [Act.put, zq0, zq1, zq2]); refine zB rfl (by rfl) (fun K' hK => ?_)
     (refine wp_append_lies _ _ _ _ (by rfl) W.heap.size 89 in0 _ 2 32 Tryz.underlying36 hin0 hnz0 hnz1 hnz2 rfl (by omega) _ _ _ (by rfl) (HTR.out.alloc _) ⟨w2.heap.size, 0, none⟩ 1 1 (nonC ⟨lf, tg⟩) (by rfl) (by rfl) (World.news_of_block (cs := (nonC ⟨lf, tg⟩).toArray) (t := 89) (fr := (0, 0)) (zE w2 _)) (by simp [Value.oneCell', nonC]) (by omega) (by unfold maxLen; omega) (by omega) (by show W.heap.size ≤ (w2.alloc (.cells #[.string ⟨lf.toArray⟩, .string ⟨tg.toArray⟩] 89)).heap.size; simp only [World.size_alloc]; omega) _ rfl ?_; intro gg1 cp1 w5 hown1 hgrow1 hat1 hlt1; replace hgrow1 : (w2.alloc (.cells #[.string ⟨lf.toArray⟩, .string ⟨tg.toArray⟩] 89)).grownBy w5 (Value.slice na nn nc).ownBlock := ⟨hgrow1.os, hgrow1.tape, hgrow1.output, hgrow1.size, hgrow1.block⟩; have hk5 : Kp (fun b => (Value.slice na nn nc).ownBlock ≠ some b) w2 w5 := ((Kp.refl _ w2).alloc (.cells #[.string ⟨lf.toArray⟩, .string ⟨tg.toArray⟩] 89)).grown hgrow1 (fun k hk hs => hs hk); have hWle : w2.heap.size ≤ (w2.alloc (.cells #[.string ⟨lf.toArray⟩, .string ⟨tg.toArray⟩] 89)).heap.size := (by simp only [World.size_alloc]; omega))
     refine hK _ _ (.inr (HSK.out _ hk5)) ?_; clear hK K'; (try simp only [Act.put, zq0, zq1, zq2]); iterate 3 (refine zB rfl (by rfl) (fun K' hK => ?_); go_simp; refine hK _ _ (.inr (HSK.out _ hk5)) ?_; clear hK K'; (try simp only [Act.put, zq0, zq1, zq2]))
     refine zB rfl (by rfl) (fun K' hK => ?_)
     (obtain ⟨⟨z1, z2⟩, _, _, hlz, _⟩ := HSK.out _ hk5; go_simp)
     refine hK _ _ (.inl rfl) ?_; clear hK K'; (try simp only [Act.put, zq0, zq1, zq2]); refine zH ?_; have kt5 : KpT (fun t => t ≠ 89) w2 w5 := (KpT.below ((Below.refl _ w2).alloc (Nat.le_refl _) _)).trans (KpT.grown (HTR.out.alloc _) hgrow1); have hS6 := HS2.out.push (a := ⟨lf, tg⟩) (by rw [HNV.out]; exact hk5) kt5 (by rw [← HNN.out]; exact hown1) (by rw [HNV.out]; exact hat1.imp id (fun e => by rw [e]; exact hWle))
     have hL : (zCK :: (r0.lefts.take k).map (zCA r0.types)) ++ [⟨lf, tg⟩] = zCK :: (r0.lefts.take (k + 1)).map (zCA r0.types) := by
      rw [List.take_add_one, HLK.out, List.map_append, HTG.out]; rfl
     rw [hL] at hS6; have HS6 := zh hS6; clear kt5 hL hS6 hown1 hgrow1 hat1 hlt1 hk5 hWle z1 z2 hlz HSK; go_wp2_with fail; go_roundg (n - (k + 1))
     case measure => omega
     case rel => exact ⟨k + 1, _, by omega, rfl, by go_num, HS6.out⟩
  ·obtain rfl : k = n := by omega
   have hS := HS.out; rw [List.take_of_length_le (by rw [HNE.out]; exact Nat.le_refl _)] at hS; have HS1 := zh hS; clear hS hlf; go_wp2_with fail; exact HKK.out _ _ _ _ _ _ _ _ _ _ _ _ _ _ _ _ _ _ _ _ _ _ _ _ _ _ _ _ _ _ _ _ _ _ _ _ _ _ _ _ _ _ _ _ _ _ _ _ v HS1.out
set_option maxRecDepth 100000 in
set_option maxHeartbeats 12800000 in
theorem of_inner {W wm : World} {m : Nat} {x : Sp.zM} {vd vr : Value} {r0 : Sp.Rk} {v0 : RkV} {L : List Sp.Non}
  {A0 A3 A4 A5 A7 A8 A9 Aa Ab Ac Ad Ae Af Ag Ah Ai Aj Ak Am An Ao Ap Aq Ar As At Au Av Aw Ax Ay Az B1 B3 B4 B5 B7 B8 B9 Ba Bb Bc Be Bf Bg Bh Bi Bj Bk Bl Bm Bn Bo Bp Bq Br Bs Bt Bu Bv Bw Bx By Bz C0 C1 C3 C4 C5 C6 C7 C8 C9 Ca Cb Cc Cd Ce Cf Cg Ch Ci Cj Ck Cl Cm Cn Co Cp Cq Cr Cs Ct Cu Cv Cw Cx Cy Cz D0 D1 D2 D3 D4 D5 D6 D7 D8 D9 Da Db Dc Dd De Df Dg Dh Di Dj Dk Dl Dm Dn Do Dp Dq Dr Ds Dt Du Dv Dw Dx Dy Dz E0 E3 E4 E5 E6 E7 E8 E9 Ea Eb Ec Ed Ee Ef Eg Eh Ei Ej Ek El Em En Eo Ep Eq Er Es Et Eu Ev Ew Ex Ey Ez F0 F1 F2 F3 F4 F5 F6 F7 F8 F9 Fa Fb Fc Fd Fe Ff Fg Fh Fi Fj Fk Fl Fm Fn Fo Fp Fq Fr Fs Ft Fu Fv Fw Fx Fy Fz G0 G1 G2 G3 G4 G5 G6 G7 G8 G9 Ga Gb Gc Gd Ge Gf Gg Gh Gi Gj Gk Gm Gn Gq Gs Gu Gv Gw Gx Gy Gz H0 H8 Ha Hb Hc Hd He Hf Hg Hh Hi Hj Hk Hl Hm Hn Ho Hp Hq Hr Hs Ht Hu Hv Hw Hx Hy Hz I0 I1 I2 I3 I4 I5 I6 I7 I8 I9 Ia Ib Ic Id Ie If Ig Ih Ii Ij Ik Il Im In Io Ip Iq Ir Is It Iu Iv Iw Ix Iy Iz J0 J1 J2 J3 J4 J5 J6 J7 J8 J9 Ja Jb Jc Jd Je Jf Jg Jh Ji Jj Jk Jl Jm Jn Jo Jp Jq Jr Js Jt Ju Jv Jw Jx Jy Jz K0 K2 K3 K4 K5 K6 K7 K8 K9 Ka Kb Kc Kd Ke Kf Kg Kh Ki Kj Kk Kl Km Kn Ko Kq Kr Ks Kt Ku Kv Kw Kx Ky Kz L0 L1 L2 L3 L4 L5 L6 L7 L8 L9 La Lb Lc Ld Le Lf Lg Lh Li Lj Ll Lm Ln Lo Lp Lq Lr Ls Lt Lu Lv Lw Lx Ly Lz M0 M1 M2 M3 M4 M5 M6 M7 M8 M9 Ma Mb Mc Md Me Mf Mg Mh Mi Mj Ml Mm Mn Mo Mp Mq : Value} (K : Act → World → Prop) (Q : Exit → Act → World → Prop)
  (hS : OfN W m x vd vr r0 v0 L wm) (hin : r0.inner ≤ 60000) (hLb : L.length ≤ 2 ^ 39)
  (hQ : ∀ c (t : Array Value) (a : Act) w, Q (.panic c) ⟨t, a.defers⟩ w → Q (.panic c) a w)
  (hK : ∀ (Qb T2 T3 T4 T5 T7 T8 T9 Ta Tb Tc Td Te Tf Tg Ti Tj Tk Tl Tm Tn To Tp Tq : Value) (wx : World) (v1 : RkV), OfN W m x vd vr r0 v1 (L ++ Sp.qP r0.inner) wx → K ⟨#[A0,.pointer (some ⟨W.heap.size,0,none⟩),.pointer (some ⟨W.heap.size + 1,0,none⟩),A3,A4,A5,.pointer (some ⟨m,0,none⟩),A7,A8,A9,Aa,Ab,Ac,Ad,Ae,Af,Ag,Ah,Ai,Aj,Ak,Qb,Am,An,Ao,Ap,Aq,Ar,As,At,Au,Av,Aw,Ax,Ay,Az,B1,B3,B4,B5,B7,B8,B9,Ba,Bb,Bc,Be,Bf,Bg,Bh,Bi,Bj,Bk,Bl,Bm,Bn,Bo,Bp,Bq,Br,Bs,Bt,Bu,Bv,Bw,Bx,By,Bz,C0,C1,C3,C4,C5,C6,C7,C8,C9,Ca,Cb,Cc,Cd,Ce,Cf,Cg,Ch,Ci,Cj,Ck,Cl,Cm,Cn,Co,Cp,Cq,Cr,Cs,Ct,Cu,Cv,Cw,Cx,Cy,Cz,D0,D1,D2,D3,D4,D5,D6,D7,D8,D9,Da,Db,Dc,Dd,De,Df,Dg,Dh,Di,Dj,Dk,Dl,Dm,Dn,Do,Dp,Dq,Dr,Ds,Dt,Du,Dv,Dw,Dx,Dy,Dz,E0,E3,E4,E5,E6,E7,E8,E9,Ea,Eb,Ec,Ed,Ee,Ef,Eg,Eh,Ei,Ej,Ek,El,Em,En,Eo,Ep,Eq,Er,Es,Et,Eu,Ev,Ew,Ex,Ey,Ez,F0,F1,F2,F3,F4,F5,F6,F7,F8,F9,Fa,Fb,Fc,Fd,Fe,Ff,Fg,Fh,Fi,Fj,Fk,Fl,Fm,Fn,Fo,Fp,Fq,Fr,Fs,Ft,Fu,Fv,Fw,Fx,Fy,Fz,G0,G1,G2,G3,G4,G5,G6,G7,G8,G9,Ga,Gb,Gc,Gd,Ge,Gf,Gg,Gh,Gi,Gj,Gk,Gm,Gn,Gq,Gs,Gu,Gv,Gw,Gx,Gy,Gz,H0,H8,Ha,Hb,Hc,Hd,He,Hf,Hg,Hh,Hi,Hj,Hk,Hl,Hm,Hn,Ho,Hp,Hq,Hr,Hs,Ht,Hu,Hv,Hw,Hx,Hy,Hz,I0,I1,I2,I3,I4,I5,I6,I7,I8,I9,Ia,Ib,Ic,Id,Ie,If,Ig,Ih,Ii,Ij,Ik,Il,Im,In,Io,Ip,Iq,Ir,Is,It,Iu,Iv,Iw,Ix,Iy,Iz,J0,J1,J2,J3,J4,J5,J6,J7,J8,J9,Ja,Jb,T2,T3,T4,T5,T7,T8,T9,Ta,Tb,Tc,Td,Te,Tf,Tg,Ti,Tj,Tk,Tl,Tm,Tn,To,Tp,Tq,Jz,K0,K2,K3,K4,K5,K6,K7,K8,K9,Ka,Kb,Kc,Kd,Ke,Kf,Kg,Kh,Ki,Kj,Kk,Kl,Km,Kn,Ko,Kq,Kr,Ks,Kt,Ku,Kv,Kw,Kx,Ky,Kz,L0,L1,L2,L3,L4,L5,L6,L7,L8,L9,La,Lb,Lc,Ld,Le,Lf,Lg,Lh,Li,Lj,Ll,Lm,Ln,Lo,Lp,Lq,Lr,Ls,Lt,Lu,Lv,Lw,Lx,Ly,Lz,M0,M1,M2,M3,M4,M5,M6,M7,M8,M9,Ma,Mb,Mc,Md,Me,Mf,Mg,Mh,Mi,Mj,Ml,Mm,Mn,Mo,Mp,Mq], []⟩ wx) :
  Code.wp Tryz.prog (ofBlk 16) (Exit.then K Q) ⟨#[A0,.pointer (some ⟨W.heap.size,0,none⟩),.pointer (some ⟨W.heap.size + 1,0,none⟩),A3,A4,A5,.pointer (some ⟨m,0,none⟩),A7,A8,A9,Aa,Ab,Ac,Ad,Ae,Af,Ag,Ah,Ai,Aj,Ak,.int .i64 1,Am,An,Ao,Ap,Aq,Ar,As,At,Au,Av,Aw,Ax,Ay,Az,B1,B3,B4,B5,B7,B8,B9,Ba,Bb,Bc,Be,Bf,Bg,Bh,Bi,Bj,Bk,Bl,Bm,Bn,Bo,Bp,Bq,Br,Bs,Bt,Bu,Bv,Bw,Bx,By,Bz,C0,C1,C3,C4,C5,C6,C7,C8,C9,Ca,Cb,Cc,Cd,Ce,Cf,Cg,Ch,Ci,Cj,Ck,Cl,Cm,Cn,Co,Cp,Cq,Cr,Cs,Ct,Cu,Cv,Cw,Cx,Cy,Cz,D0,D1,D2,D3,D4,D5,D6,D7,D8,D9,Da,Db,Dc,Dd,De,Df,Dg,Dh,Di,Dj,Dk,Dl,Dm,Dn,Do,Dp,Dq,Dr,Ds,Dt,Du,Dv,Dw,Dx,Dy,Dz,E0,E3,E4,E5,E6,E7,E8,E9,Ea,Eb,Ec,Ed,Ee,Ef,Eg,Eh,Ei,Ej,Ek,El,Em,En,Eo,Ep,Eq,Er,Es,Et,Eu,Ev,Ew,Ex,Ey,Ez,F0,F1,F2,F3,F4,F5,F6,F7,F8,F9,Fa,Fb,Fc,Fd,Fe,Ff,Fg,Fh,Fi,Fj,Fk,Fl,Fm,Fn,Fo,Fp,Fq,Fr,Fs,Ft,Fu,Fv,Fw,Fx,Fy,Fz,G0,G1,G2,G3,G4,G5,G6,G7,G8,G9,Ga,Gb,Gc,Gd,Ge,Gf,Gg,Gh,Gi,Gj,Gk,Gm,Gn,Gq,Gs,Gu,Gv,Gw,Gx,Gy,Gz,H0,H8,Ha,Hb,Hc,Hd,He,Hf,Hg,Hh,Hi,Hj,Hk,Hl,Hm,Hn,Ho,Hp,Hq,Hr,Hs,Ht,Hu,Hv,Hw,Hx,Hy,Hz,I0,I1,I2,I3,I4,I5,I6,I7,I8,I9,Ia,Ib,Ic,Id,Ie,If,Ig,Ih,Ii,Ij,Ik,Il,Im,In,Io,Ip,Iq,Ir,Is,It,Iu,Iv,Iw,Ix,Iy,Iz,J0,J1,J2,J3,J4,J5,J6,J7,J8,J9,Ja,Jb,Jc,Jd,Je,Jf,Jg,Jh,Ji,Jj,Jk,Jl,Jm,Jn,Jo,Jp,Jq,Jr,Js,Jt,Ju,Jv,Jw,Jx,Jy,Jz,K0,K2,K3,K4,K5,K6,K7,K8,K9,Ka,Kb,Kc,Kd,Ke,Kf,Kg,Kh,Ki,Kj,Kk,Kl,Km,Kn,Ko,Kq,Kr,Ks,Kt,Ku,Kv,Kw,Kx,Ky,Kz,L0,L1,L2,L3,L4,L5,L6,L7,L8,L9,La,Lb,Lc,Ld,Le,Lf,Lg,Lh,Li,Lj,Ll,Lm,Ln,Lo,Lp,Lq,Lr,Ls,Lt,Lu,Lv,Lw,Lx,Ly,Lz,M0,M1,M2,M3,M4,M5,M6,M7,M8,M9,Ma,Mb,Mc,Md,Me,Mf,Mg,Mh,Mi,Mj,Ml,Mm,Mn,Mo,Mp,Mq], []⟩ wm := by
 obtain ⟨in0, hin0, hnz0, hnz1, hnz2⟩ := info_parts info_nonR; obtain ⟨n, hn⟩ : ∃ n, n = r0.inner := ⟨_, rfl⟩
 rw [← hn] at hin hK; have HS0 := zh hS; have HNE := zh hn; clear hS hn; have HKK := zh hK; have hM : ∀ a w, Met K a w → K a w := fun _ _ h => h
 clear hK; conv => arg 2; whnf
 go_wp2_with fail; go_loopg [21] n (fun q iv wr => ∃ (i1 : Nat) (v : RkV), 1 ≤ i1 ∧ i1 ≤ n + 1 ∧ q = n + 1 - i1 ∧ iv = .int .i64 (i1 : Int) ∧ OfN W m x vd vr r0 v (L ++ Sp.qP (i1 - 1)) wr)
 case atStart => exact ⟨1, v0, Nat.le_refl _, by omega, by omega, rfl, by rw [show Sp.qP (1 - 1) = [] from rfl, List.append_nil]; exact HS0.out⟩
 case round =>
  clear HS0; obtain ⟨i1, v, hi1, hi2, rfl, rfl, hS⟩ := hrel; obtain ⟨wo, hwo⟩ : ∃ wo : World, wo = wr := ⟨_, rfl⟩
  subst hwo; have HS := zh hS; have hmb := hS.os.mkr.block; unfold yE at hmb; rw [← HNE.out] at hmb; have m12 := zc 12 hmb; have lm := zC hmb; clear hS hmb; by_cases hkn : i1 ≤ n
  ·have hk1 : (i1 : Int) ≤ (n : Int) := by omega
   have hS := HS.out; obtain ⟨na, nc, hnv⟩ := zJ hS.nons; obtain ⟨nn, hnn⟩ : ∃ nn, nn = (L ++ Sp.qP (i1 - 1)).length := ⟨_, rfl⟩
   have hnnb : nn ≤ 2 ^ 39 + 60000 := by rw [hnn, List.length_append, Sp.jR]; omega
   rw [← hnn] at hnv; have htr := hS.nons; rw [hnv, ← hnn] at htr; have hmb := hS.os.mkr.block; unfold yE at hmb; rw [hnv] at hmb; have hne1 : (Value.slice na nn nc).ownBlock ≠ some m := fun e => zG htr hmb (by decide) _ e rfl
   have HMB := zh hmb; have HTR := zh htr; have HNV := zh hnv; have HNN := zh hnn; have HN1 := zh hne1
   have HSB := zh (fun (w' : World) (hb : Below wo.heap.size wo w') => (show ((w'.cell? ⟨m, 1, none⟩ = some (.slice na nn nc) ∧ w'.frozen? ⟨m, 1, none⟩ = false) ∧ m < w'.heap.size) from by
    have h1 := (hb.block _ (zC HMB.out)).trans HMB.out
    exact ⟨⟨zc 1 h1, zf 1 h1⟩, zC h1⟩))
   have HSK := zh (fun (w3 : World) (hb : Below wo.heap.size wo w3) (w' : World) (kp : Kp (fun b => (Value.slice na nn nc).ownBlock ≠ some b) w3 w') => (show ((w'.cell? ⟨m, 1, none⟩ = some (.slice na nn nc) ∧ w'.frozen? ⟨m, 1, none⟩ = false) ∧ m < w'.heap.size) from by
    have h1 := kp.at ((hb.block _ (zC HMB.out)).trans HMB.out) HN1.out
    exact ⟨⟨zc 1 h1, zf 1 h1⟩, zC h1⟩))
   have hBs : W.heap.size ≤ wo.heap.size := hS.os.bel.size
   have hcat : (⟨#[64]⟩ : ByteArray) ++ (⟨(Lib.itoa (i1 : Int)).toArray⟩ : ByteArray) = ⟨(64 :: Lib.itoa (i1 : Int)).toArray⟩ := by
    apply ByteArray.ext
    rw [ByteArray.data_append]; simp
   have hLn : (Lib.itoa (i1 : Int)).length ≤ 21 := Lib.itoa_length_le _ (by omega) (by omega); have hbig : ¬ 9223372036854775807 < 1 + (Lib.itoa (i1 : Int)).length := by omega
   clear hS hnv hnn htr hmb hne1 hLn; go_upto_region 61 with fail
   refine zF (fun w' : World => ((w'.cell? ⟨m, 1, none⟩ = some (.slice na nn nc) ∧ w'.frozen? ⟨m, 1, none⟩ = false) ∧ m < w'.heap.size)) [15] (.take 0 (.take 1 (.take 2 (.take 3 (.take 4 (.take 5 (.take 6 (.one 7 (.one 8 (.one 9 (.one 10 (.one 11 (.one 12 (.one 13 (.one 14 (.one 15 (.done))))))))))))))))) (by kernel_rfl) (by kernel_rfl) (fun c t a w h => hQ c t a w h) ?_; have hSw := HSB.out _ (below_drewN (Below.refl _ wo) 1); iterate 7 (refine zO (v := ?_) rfl rfl hSw (by rfl) ?_ ?_; rotate_left 1; (focus (intro w hSx; (try dsimp only at hSx); go_simp; try rfl)); (try simp only [Act.put, zq0, zq1, zq2]))
   refine zB rfl (by rfl) (fun K' hK => ?_)
   (go_simp; go_at_call 33; refine (ref_Digits (i1 : Int) _ (by omega) (by omega)).mono ?_; rintro e w3 ⟨rfl, hb3'⟩; have hb3 : Below wo.heap.size wo w3 := zI hb3'; have hB3 : W.heap.size ≤ w3.heap.size := Nat.le_trans hBs hb3.size; clear hb3')
   refine hK _ _ (.inr (HSB.out _ hb3)) ?_; clear hK K' hSw; (try simp only [Act.put, zq0, zq1, zq2]); iterate 2 (refine zB rfl (by rfl) (fun K' hK => ?_); go_simp; refine hK _ _ (.inr (HSB.out _ hb3)) ?_; clear hK K'; (try simp only [Act.put, zq0, zq1, zq2]))
   refine zB rfl (by rfl) (fun K' hK => ?_); go_simp; refine hK _ _ (.inr (HSB.out _ (hb3.alloc hb3.size (.cells #[.string ⟨(64 :: Lib.itoa (i1 : Int)).toArray⟩, .string ⟨#[]⟩] 89)))) ?_; clear hK K'; (try simp only [Act.put, zq0, zq1, zq2]); refine zB rfl (by rfl) (fun K' hK => ?_)
   (refine wp_append_lies _ _ _ _ (by rfl) W.heap.size 89 in0 _ 2 32 Tryz.underlying36 hin0 hnz0 hnz1 hnz2 rfl (by omega) _ _ _ (by rfl) ((zL HTR.out hb3).alloc _) ⟨w3.heap.size, 0, none⟩ 1 1 (nonC ⟨64 :: Lib.itoa (i1 : Int), []⟩) (by rfl) (by rfl) (World.news_of_block (cs := (nonC ⟨64 :: Lib.itoa (i1 : Int), []⟩).toArray) (t := 89) (fr := (0, 0)) (zE w3 _)) (by simp [Value.oneCell', nonC]) (by omega) (by unfold maxLen; omega) (by omega) (by show W.heap.size ≤ (w3.alloc (.cells #[.string ⟨(64 :: Lib.itoa (i1 : Int)).toArray⟩, .string ⟨#[]⟩] 89)).heap.size; simp only [World.size_alloc]; omega) _ rfl ?_; intro gg1 cp1 w5 hown1 hgrow1 hat1 hlt1; replace hgrow1 : (w3.alloc (.cells #[.string ⟨(64 :: Lib.itoa (i1 : Int)).toArray⟩, .string ⟨#[]⟩] 89)).grownBy w5 (Value.slice na nn nc).ownBlock := ⟨hgrow1.os, hgrow1.tape, hgrow1.output, hgrow1.size, hgrow1.block⟩; have hk5 : Kp (fun b => (Value.slice na nn nc).ownBlock ≠ some b) w3 w5 := ((Kp.refl _ w3).alloc (.cells #[.string ⟨(64 :: Lib.itoa (i1 : Int)).toArray⟩, .string ⟨#[]⟩] 89)).grown hgrow1 (fun k hk hs => hs hk); have hWle : w3.heap.size ≤ (w3.alloc (.cells #[.string ⟨(64 :: Lib.itoa (i1 : Int)).toArray⟩, .string ⟨#[]⟩] 89)).heap.size := (by simp only [World.size_alloc]; omega))
   refine hK _ _ (.inr (HSK.out _ hb3 _ hk5)) ?_; clear hK K'; (try simp only [Act.put, zq0, zq1, zq2]); iterate 3 (refine zB rfl (by rfl) (fun K' hK => ?_); go_simp; refine hK _ _ (.inr (HSK.out _ hb3 _ hk5)) ?_; clear hK K'; (try simp only [Act.put, zq0, zq1, zq2]))
   refine zB rfl (by rfl) (fun K' hK => ?_)
   (obtain ⟨⟨z1, z2⟩, hlz⟩ := HSK.out _ hb3 _ hk5; go_simp)
   refine hK _ _ (.inl rfl) ?_; clear hK K'; (try simp only [Act.put, zq0, zq1, zq2]); refine zH ?_; have kt5 : KpT (fun t => t ≠ 89) w3 w5 := (KpT.below ((Below.refl _ w3).alloc (Nat.le_refl _) _)).trans (KpT.grown ((zL HTR.out hb3).alloc _) hgrow1); have hS6 := (HS.out.below hb3).push (a := ⟨64 :: Lib.itoa (i1 : Int), []⟩) (by rw [HNV.out]; exact hk5) kt5 (by rw [← HNN.out]; exact hown1) (by rw [HNV.out]; exact hat1.imp id (fun e => by rw [e]; exact hWle))
   have hL : (L ++ Sp.qP (i1 - 1)) ++ [⟨64 :: Lib.itoa (i1 : Int), []⟩] = L ++ Sp.qP (i1 + 1 - 1) := by
    obtain ⟨j, rfl⟩ : ∃ j, i1 = j + 1 := ⟨i1 - 1, by omega⟩
    rw [List.append_assoc]; rfl
   rw [hL] at hS6; have HS6 := zh hS6; clear kt5 hL hS6 hown1 hgrow1 hat1 hlt1 hk5 hWle z1 z2 hlz HSK HSB; go_wp2_with fail; go_roundg (n + 1 - (i1 + 1))
   case measure => omega
   case rel => exact ⟨i1 + 1, _, by omega, by omega, rfl, by go_num, HS6.out⟩
  ·obtain rfl : i1 = n + 1 := by omega
   have hS := HS.out; rw [show n + 1 - 1 = n by omega] at hS; have HS1 := zh hS; have hk1 : ¬ ((n + 1 : Nat) : Int) ≤ (n : Int) := by omega
   clear hS; go_wp2_with fail; exact HKK.out _ _ _ _ _ _ _ _ _ _ _ _ _ _ _ _ _ _ _ _ _ _ _ _ _ v HS1.out
end Go.Proofs.YtddnomjfcbplpaaGreatDoor
