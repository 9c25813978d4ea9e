import Derived.Test.YtddnomjfcbplpaaGreatDoorZ38
namespace Go.Proofs.YtddnomjfcbplpaaGreatDoor
open Go.RowKit Go.Maps

namespace Sp
theorem zDM (N : Nat) : ∀ (l : List Part) (i n : Nat) (r : Rk) (p : Prod), RB n r → RB (n + l.length) (qD N i l (r, p)).1
 | [], _, _, _, _, h => h
 | w :: l, i, n, r, p, h => by
  rw [List.length_cons, show n + (l.length + 1) = n + 1 + l.length by omega]; by_cases hc : w.code = []
  ·rw [gY _ _ _ _ _ _ hc]
   exact zDM N l _ _ _ _ (rsymbol_RB _ h)
  ·by_cases hi : i + 1 = N
   ·rw [gE _ _ _ _ _ _ hc hi]
    exact zDM N l _ _ _ _ (h.mono (by omega))
   ·rw [vE _ _ _ _ _ _ hc hi]
    refine zDM N l _ _ _ _ ?_; obtain ⟨q0, q1, q2, q3, q4, q5, q6, q7⟩ := h; exact ⟨q0, by simp only; omega, by simp only; omega, by simp only; omega, by simp only [List.length_append, List.length_singleton]; omega, by simp only; omega, q6, by simp only; omega⟩
theorem ralt_RB {n : Nat} {r : Rk} (left : List UInt8) (a : Alt) (h : RB n r) : RB (n + a.parts.length + 2) (ralt r left a) := by
 have h1 := zDM a.parts.length a.parts 0 n r ⟨1 + jZ r.lefts left, [], -1, [], [], a.at_⟩ h; have h2 := raltPrec_RB a (vC (qD a.parts.length 0 a.parts (r, ⟨1 + jZ r.lefts left, [], -1, [], [], a.at_⟩)).2.right (qD a.parts.length 0 a.parts (r, ⟨1 + jZ r.lefts left, [], -1, [], [], a.at_⟩)).2.prec) h1; obtain ⟨q0, q1, q2, q3, q4, q5, q6, q7⟩ := h2; unfold ralt; simp only; exact ⟨q0, by simp only; omega, by simp only; omega, by simp only; omega, by simp only [List.length_append, List.length_singleton]; omega, by simp only; omega, q6, by simp only; omega⟩
theorem zCN (u : Rule) (l : List Rule) (r : Rk) : xQ (u :: l) r = xQ l (ralts u.left u.alts r) := rfl
theorem ralts_cons (left : List UInt8) (a : Alt) (l : List Alt) (r : Rk) : ralts left (a :: l) r = ralts left l (ralt r left a) := rfl
end Sp
def GoodA (a : Sp.Alt) : Prop := (∀ w ∈ a.parts, w.code = [] → w.sym.lit = true → ∃ c, w.sym.name = [c]) ∧ (a.prec.lit = true → ∃ c, a.prec.name = [c])
def kO (k j : Nat) (r : Sp.Rk) : Prop := Sp.RB (20000000 + k * 16012000 + j * 4002) r
theorem kO.le {k j : Nat} (h : k ≤ 4000) (hj : j ≤ 4000) : 20000000 + k * 16012000 + j * 4002 ≤ 2 ^ 38 := by omega
theorem kO.up {k j : Nat} {r : Sp.Rk} (left : List UInt8) (a : Sp.Alt) (h : kO k j r) (ha : a.parts.length ≤ 4000) : kO k (j + 1) (Sp.ralt r left a) := by
 unfold kO at *
 exact (Sp.ralt_RB left a h).mono (by omega)
theorem kO.next {k j : Nat} {r : Sp.Rk} (h : kO k j r) (hj : j ≤ 4000) : kO (k + 1) 0 r := by
 unfold kO at *
 exact h.mono (by omega)
set_option maxRecDepth 100000 in
set_option maxHeartbeats 12800000 in
theorem of_alts {W wm : World} {m : Nat} {x : Sp.zM} {vd vr : Value} {r0 : Sp.Rk} {v0 : RkV}
  {A0 A3 A4 A5 A7 A8 A9 Aa Ab Ac Ad Ae Af Ah Ai Aj Ak Al Am An Ao Ap Aq Ar As At Au Av Aw Ax Ay Az B1 B3 B4 B5 B7 B8 B9 Ba Bb Bc Be Bf Bg Bh Bi Bj Bk Bl Bm Bn Bo Bp Bq Br Bs Bt Bu Bv Bw Bx By Bz C0 C1 C3 C4 C5 C6 C7 C8 C9 Ca Cb Cc Cd Ce Cf Cg Ch Ci Cj Ck Cl Cm Cn Co Cp Cq Cr Cs Ct Cu Cv Cw Cx Cy Cz D0 D1 D2 D3 D4 D5 D6 D7 D8 D9 Da Db Dc Dd De Df Dg Dh Di Dj Dk Dl Dm Dn Do Dp Dq Dr Ds Dt Du Dv Dw Dx Dy Dz E0 E3 E4 E5 E6 E7 E8 E9 Ea Eb Ec Ed Ee Ef Eg Eh Ei Ej Ek El Em En Eo Ep Eq Er Es Et Eu Ev Ew Ex Ey Ez F0 F1 F2 F3 F4 F5 F6 F7 F8 F9 Fa Fb Fc Fd Fe Ff Fg Fh Fi Fj Fk Fl Fm Fn Fo Fp Fq Fr Fs Ft Fu Fv Fw Fx Fy Fz G0 G1 G2 G3 G4 G5 G6 G7 G8 G9 Ga Gb Gc Gd Ge Gf Gg Gh Gi Gj Gk Gm Gn Gq Gs Gu Gv Gw Gx Gy Gz H0 H8 Ha Hb Hc Hd He Hf Hg Hh Hi Hj Hk Hl Hm Hn Ho Hp Hq Hr Hs Ht Hu Hv Hw Hx Hy Hz I0 I1 I2 I3 I4 I5 I6 I7 I8 I9 Ia Ib Ic Id Ie If Ig Ih Ii Ij Ik Il Im In Io Ip Iq Ir Is It Iu Iv Iw Ix Iy Iz J0 J1 J2 J3 J4 J5 J6 J7 J8 J9 Ja Jb Jc Jd Je Jf Jg Jh Ji Jj Jk Jl Jm Jn Jo Jp Jq Jr Js Jt Ju Jv Jw Jx Jy Jz K0 K2 K3 K4 K5 K6 K7 K8 K9 Ka Kb Kc Kd Ke Kf Kg Kh Ki Kj Kk Kl Km Kn Ko Kq Kr Ks Kt Ku Kv Kw Kx Ky Kz L0 L1 L2 L3 L4 L5 L6 L7 L8 L9 La Lb Lc Ld Le Lf Lg Lh Li Lj Ll Lm Ln Lo Lp Lq Lr Ls Lt Lu Lv Lw Lx Ly Lz M0 M1 M2 M3 M4 M5 M6 M7 M8 M9 Ma Mb Mc Md Me Mf Mg Mh Mi Mj Ml Mm Mn Mo Mp Mq : Value} (K : Act → World → Prop) (Q : Exit → Act → World → Prop)
  (hS : OfS W m x vd vr r0 v0 wm) (hru : xA W vr x.rules) (hsm : xN x) (hga : ∀ u ∈ x.rules, ∀ a ∈ u.alts, GoodA a) (hrb : kO 0 0 r0)
  (hQ : ∀ c (t : Array Value) (a : Act) w, Q (.panic c) ⟨t, a.defers⟩ w → Q (.panic c) a w)
  (hK : ∀ (Oo P2 Qf Qg Qh Qi Qj Qk Ql Qn Qo Qp Qq Qr Qs Qt Qu Qv Qw Qy Qz R0 R5 R6 R7 R8 R9 Ra Rb Rd Re Rf Rg Rh Ri Rj Rl : Value) (wx : World) (v1 : RkV), OfS W m x vd vr (Sp.xQ x.rules r0) v1 wx → Sp.RB (2 ^ 38) (Sp.xQ x.rules r0) → K ⟨#[A0,.pointer (some ⟨W.heap.size,0,none⟩),.pointer (some ⟨W.heap.size + 1,0,none⟩),A3,A4,A5,.pointer (some ⟨m,0,none⟩),A7,A8,A9,Aa,Ab,Ac,Ad,Ae,Af,Oo,P2,Ai,Aj,Ak,Al,Am,An,Ao,Ap,Aq,Ar,As,At,Au,Av,Aw,Ax,Ay,Az,B1,B3,B4,B5,B7,B8,B9,Ba,Bb,Bc,Be,Bf,Bg,Bh,Bi,Bj,Bk,Bl,Bm,Bn,Bo,Bp,Bq,Br,Bs,Bt,Bu,Bv,Bw,Bx,By,Bz,C0,C1,C3,C4,C5,C6,C7,C8,C9,Ca,Cb,Cc,Cd,Ce,Cf,Cg,Ch,Ci,Cj,Ck,Cl,Cm,Cn,Co,Cp,Cq,Cr,Cs,Ct,Cu,Cv,Cw,Cx,Cy,Cz,D0,D1,D2,D3,D4,D5,D6,D7,D8,D9,Da,Db,Dc,Dd,De,Df,Dg,Dh,Di,Dj,Dk,Dl,Dm,Dn,Do,Dp,Dq,Dr,Ds,Dt,Du,Dv,Dw,Dx,Dy,Dz,E0,E3,E4,E5,E6,E7,E8,E9,Ea,Eb,Ec,Ed,Ee,Ef,Eg,Eh,Ei,Ej,Ek,El,Em,En,Eo,Ep,Eq,Er,Es,Et,Eu,Ev,Ew,Ex,Ey,Ez,F0,F1,F2,F3,F4,F5,F6,F7,F8,F9,Fa,Fb,Fc,Fd,Fe,Ff,Fg,Fh,Fi,Fj,Fk,Fl,Fm,Fn,Fo,Fp,Fq,Fr,Fs,Ft,Fu,Fv,Fw,Fx,Fy,Fz,G0,G1,G2,G3,Qf,Qg,Qh,Qi,Qj,Qk,Ql,Qn,Qo,Qp,Qq,Qr,Qs,Qt,Qu,Qv,Qw,Qy,Qz,R0,R5,R6,R7,R8,R9,Ra,Rb,Rd,Re,Rf,Rg,Rh,Ri,Rj,Rl,Hg,Hh,Hi,Hj,Hk,Hl,Hm,Hn,Ho,Hp,Hq,Hr,Hs,Ht,Hu,Hv,Hw,Hx,Hy,Hz,I0,I1,I2,I3,I4,I5,I6,I7,I8,I9,Ia,Ib,Ic,Id,Ie,If,Ig,Ih,Ii,Ij,Ik,Il,Im,In,Io,Ip,Iq,Ir,Is,It,Iu,Iv,Iw,Ix,Iy,Iz,J0,J1,J2,J3,J4,J5,J6,J7,J8,J9,Ja,Jb,Jc,Jd,Je,Jf,Jg,Jh,Ji,Jj,Jk,Jl,Jm,Jn,Jo,Jp,Jq,Jr,Js,Jt,Ju,Jv,Jw,Jx,Jy,Jz,K0,K2,K3,K4,K5,K6,K7,K8,K9,Ka,Kb,Kc,Kd,Ke,Kf,Kg,Kh,Ki,Kj,Kk,Kl,Km,Kn,Ko,Kq,Kr,Ks,Kt,Ku,Kv,Kw,Kx,Ky,Kz,L0,L1,L2,L3,L4,L5,L6,L7,L8,L9,La,Lb,Lc,Ld,Le,Lf,Lg,Lh,Li,Lj,Ll,Lm,Ln,Lo,Lp,Lq,Lr,Ls,Lt,Lu,Lv,Lw,Lx,Ly,Lz,M0,M1,M2,M3,M4,M5,M6,M7,M8,M9,Ma,Mb,Mc,Md,Me,Mf,Mg,Mh,Mi,Mj,Ml,Mm,Mn,Mo,Mp,Mq], []⟩ wx) :
  Code.wp Tryz.prog (ofBlk 10) (Exit.then K Q) ⟨#[A0,.pointer (some ⟨W.heap.size,0,none⟩),.pointer (some ⟨W.heap.size + 1,0,none⟩),A3,A4,A5,.pointer (some ⟨m,0,none⟩),A7,A8,A9,Aa,Ab,Ac,Ad,Ae,Af,.int .i64 0,Ah,Ai,Aj,Ak,Al,Am,An,Ao,Ap,Aq,Ar,As,At,Au,Av,Aw,Ax,Ay,Az,B1,B3,B4,B5,B7,B8,B9,Ba,Bb,Bc,Be,Bf,Bg,Bh,Bi,Bj,Bk,Bl,Bm,Bn,Bo,Bp,Bq,Br,Bs,Bt,Bu,Bv,Bw,Bx,By,Bz,C0,C1,C3,C4,C5,C6,C7,C8,C9,Ca,Cb,Cc,Cd,Ce,Cf,Cg,Ch,Ci,Cj,Ck,Cl,Cm,Cn,Co,Cp,Cq,Cr,Cs,Ct,Cu,Cv,Cw,Cx,Cy,Cz,D0,D1,D2,D3,D4,D5,D6,D7,D8,D9,Da,Db,Dc,Dd,De,Df,Dg,Dh,Di,Dj,Dk,Dl,Dm,Dn,Do,Dp,Dq,Dr,Ds,Dt,Du,Dv,Dw,Dx,Dy,Dz,E0,E3,E4,E5,E6,E7,E8,E9,Ea,Eb,Ec,Ed,Ee,Ef,Eg,Eh,Ei,Ej,Ek,El,Em,En,Eo,Ep,Eq,Er,Es,Et,Eu,Ev,Ew,Ex,Ey,Ez,F0,F1,F2,F3,F4,F5,F6,F7,F8,F9,Fa,Fb,Fc,Fd,Fe,Ff,Fg,Fh,Fi,Fj,Fk,Fl,Fm,Fn,Fo,Fp,Fq,Fr,Fs,Ft,Fu,Fv,Fw,Fx,Fy,Fz,G0,G1,G2,G3,G4,G5,G6,G7,G8,G9,Ga,Gb,Gc,Gd,Ge,Gf,Gg,Gh,Gi,Gj,Gk,Gm,Gn,Gq,Gs,Gu,Gv,Gw,Gx,Gy,Gz,H0,H8,Ha,Hb,Hc,Hd,He,Hf,Hg,Hh,Hi,Hj,Hk,Hl,Hm,Hn,Ho,Hp,Hq,Hr,Hs,Ht,Hu,Hv,Hw,Hx,Hy,Hz,I0,I1,I2,I3,I4,I5,I6,I7,I8,I9,Ia,Ib,Ic,Id,Ie,If,Ig,Ih,Ii,Ij,Ik,Il,Im,In,Io,Ip,Iq,Ir,Is,It,Iu,Iv,Iw,Ix,Iy,Iz,J0,J1,J2,J3,J4,J5,J6,J7,J8,J9,Ja,Jb,Jc,Jd,Je,Jf,Jg,Jh,Ji,Jj,Jk,Jl,Jm,Jn,Jo,Jp,Jq,Jr,Js,Jt,Ju,Jv,Jw,Jx,Jy,Jz,K0,K2,K3,K4,K5,K6,K7,K8,K9,Ka,Kb,Kc,Kd,Ke,Kf,Kg,Kh,Ki,Kj,Kk,Kl,Km,Kn,Ko,Kq,Kr,Ks,Kt,Ku,Kv,Kw,Kx,Ky,Kz,L0,L1,L2,L3,L4,L5,L6,L7,L8,L9,La,Lb,Lc,Ld,Le,Lf,Lg,Lh,Li,Lj,Ll,Lm,Ln,Lo,Lp,Lq,Lr,Ls,Lt,Lu,Lv,Lw,Lx,Ly,Lz,M0,M1,M2,M3,M4,M5,M6,M7,M8,M9,Ma,Mb,Mc,Md,Me,Mf,Mg,Mh,Mi,Mj,Ml,Mm,Mn,Mo,Mp,Mq], []⟩ wm := by
 obtain ⟨fr, hr1, hr2⟩ := hru; obtain ⟨da, dc, rfl⟩ := hr1.form; rw [List.length_mapIdx] at hr1 hS hK; obtain ⟨n, hn⟩ : ∃ n, n = x.rules.length := ⟨_, rfl⟩
 have hn4 : n ≤ 4000 := by rw [hn]; exact hsm.2.2.2.1
 rw [← hn] at hr1 hS hK; obtain ⟨RR, hRR⟩ : ∃ RR, RR = Sp.xQ x.rules r0 := ⟨_, rfl⟩
 rw [← hRR] at hK; have HS0 := zh hS; have HR1 := zh hr1; have HRA := zh hr2; have HSM := zh hsm; have HRB := zh hrb; have HNE := zh hn; have HR := zh hRR; have HGA := zh hga; clear hS hr1 hr2 hsm hrb hn hRR hga; have HKK := zh hK; have hM : ∀ a w, Met K a w → K a w := fun _ _ h => h
 clear hK; conv => arg 2; whnf
 go_wp2_with fail; go_loopg [16] n (fun q iv wr => ∃ (k : Nat) (r : Sp.Rk) (v : RkV), k ≤ n ∧ q = n - k ∧ iv = .int .i64 k ∧ OfS W m x vd (.slice da n dc) r v wr ∧ kO k 0 r ∧ Sp.xQ (x.rules.drop k) r = RR)
 case atStart => exact ⟨0, r0, v0, Nat.zero_le _, rfl, rfl, HS0.out, HRB.out, HR.out.symm⟩
 case round =>
  clear HS0 HR HRB; obtain ⟨k, r, v, hk, rfl, rfl, hS, hrb, hR⟩ := hrel; obtain ⟨wo, hwo⟩ : ∃ wo : World, wo = wr := ⟨_, rfl⟩
  subst hwo; obtain ⟨ko, hko⟩ : ∃ ko : Nat, ko = k := ⟨_, rfl⟩
  subst hko; have HS := zh hS; have HRB := zh hrb; have HRR := zh hR; have hk0 : (0 : Int) ≤ (ko : Int) := Int.natCast_nonneg _; have s2 : wo.cell? ⟨W.heap.size, 2, none⟩ = some (.slice da n dc) := zc 2 hS.sbox; have ls := zC hS.sbox; clear hS hrb hR; by_cases hkn : ko < n
  ·have hk1 : (ko : Int) < (n : Int) := by omega
   have hkd : ko < x.rules.length := by have := HNE.out; omega
   obtain ⟨⟨ul, ual, ua⟩, hdk, hdr, hmem⟩ := qO hkd; have hsr := HSM.out.2.2.2.2.2 _ hmem; have hgu := HGA.out _ hmem; obtain ⟨bo, oo, rfl, hbo, hco⟩ := HR1.out.at (k := ko) (row := qT (fr ko) ⟨ul, ual, ua⟩) (by rw [List.getElem?_mapIdx, hdk]; rfl); obtain ⟨ga, hal1, hal2⟩ := HRA.out ko _ hdk; obtain ⟨va, ac, huv⟩ := hal1.form; rw [List.length_mapIdx] at huv; simp only at huv hsr hgu; obtain ⟨an, han⟩ : ∃ an, an = ual.length := ⟨_, rfl⟩
   have han4 : an ≤ 4000 := by rw [han]; exact hsr.2.1
   rw [← han] at huv; rw [huv] at hco hal1; have hR := HRR.out; rw [hdr, Sp.zCN] at hR; simp only at hR
   have HCO := zh (fun (w' : World) (hb : Below W.heap.size W w') => (show w'.cell? ⟨bo, oo + ko * 3, none⟩ = some (.string ⟨ul.toArray⟩) ∧ w'.cell? ⟨bo, oo + ko * 3 + 1, none⟩ = some (.slice va an ac) ∧ bo < w'.heap.size from by
    have h := hco w' hb; have g0 := h 0 _ rfl; have g1 := h 1 _ rfl; simp only [Nat.add_zero] at g0
    exact ⟨g0, g1, by have := hb.size; omega⟩))
   have HAL1 := zh hal1; have HAL2 := zh hal2; have HAN := zh han; have HSR := zh hsr; have HGU := zh hgu; obtain ⟨R2, hR2⟩ : ∃ R2, R2 = Sp.ralts ul ual r := ⟨_, rfl⟩
   rw [← hR2] at hR; have HR3 := zh hR; have HRI := zh hR2; clear hco hal1 hal2 han hsr hgu hR hR2 hdr hdk hmem HRR hbo huv; go_wp2_with fail; go_loopg [17] an (fun q iv wr => ∃ (j : Nat) (r3 : Sp.Rk) (v3 : RkV), j ≤ an ∧ q = an - j ∧ iv = .int .i64 j ∧ OfS W m x vd (.slice (some ⟨bo, oo, none⟩) n dc) r3 v3 wr ∧ kO ko j r3 ∧ Sp.ralts ul (ual.drop j) r3 = R2)
   case atStart => exact ⟨0, r, v, Nat.zero_le _, rfl, rfl, HS.out, HRB.out, HRI.out.symm⟩
   case round =>
    obtain ⟨j, r3, v3, hj, rfl, rfl, hS3, hrb3, hR3⟩ := hrel; obtain ⟨wj, hwj⟩ : ∃ wj : World, wj = wr := ⟨_, rfl⟩
    subst hwj; have HS3 := zh hS3; have HRB3 := zh hrb3; have HR4 := zh hR3; have hj0 : (0 : Int) ≤ (j : Int) := Int.natCast_nonneg _; have s2 : wj.cell? ⟨W.heap.size, 2, none⟩ = some (.slice (some ⟨bo, oo, none⟩) n dc) := zc 2 hS3.sbox; have ls := zC hS3.sbox; obtain ⟨c0, c1, lb⟩ := HCO.out wj hS3.bel; clear hS3 hrb3 hR3; by_cases hjn : j < an
    ·have hj1 : (j : Int) < (an : Int) := by omega
     have hjd : j < ual.length := by have := HAN.out; omega
     obtain ⟨⟨aps, ⟨qn, ql, qu, qa⟩, ap⟩, hjk, hjr, hjm⟩ := qO hjd; obtain ⟨ba, oa, rfl, hba, hca⟩ := HAL1.out.at (k := j) (row := altC (ga j) ⟨aps, ⟨qn, ql, qu, qa⟩, ap⟩) (by rw [List.getElem?_mapIdx, hjk]; rfl); have hps := HAL2.out j _ hjk; obtain ⟨pa, pc, hpv⟩ := hps.form; rw [List.length_map] at hpv; simp only at hpv hps; have hsa := HSR.out.2.2 _ hjm; obtain ⟨hg1, hg2⟩ := HGU.out _ hjm; have hR3 := HR4.out; rw [hjr, Sp.ralts_cons] at hR3; have hrb4 := HRB3.out.up ul ⟨aps, ⟨qn, ql, qu, qa⟩, ap⟩ hsa.1; obtain ⟨pn, hpn⟩ : ∃ pn, pn = aps.length := ⟨_, rfl⟩
     rw [← hpn] at hpv
     have HAL := zh (fun (w' : World) (hb : Below wj.heap.size wj w') => (show Calls Tryz.prog 31 #[.pointer (some ⟨m, 0, none⟩), .string ⟨ul.toArray⟩, .agg #[.slice pa pn pc, .string ⟨qn.toArray⟩, .bool ql, .int .i64 qu, .int .i64 qa, .int .i64 ap]] w' (RAltPost W.heap.size m w' (Sp.ralt r3 ul ⟨aps, ⟨qn, ql, qu, qa⟩, ap⟩)) from by
      have h := ref_alt ul ⟨aps, ⟨qn, ql, qu, qa⟩, ap⟩ (ga j) (HS3.out.mkr.below hb) (HS3.out.bel.trans (hb.mono HS3.out.bel.size)) hps hsa.1 HRB3.out (kO.le (by omega) (by omega)) hg1 hg2; rw [hpv] at h
      exact h))
     have HCA := zh hca; have HPV := zh hpv
     have HSK := zh (fun (w' : World) (hb : Below wj.heap.size wj w') => (show (w'.cell? ⟨W.heap.size, 2, none⟩ = some (.slice (some ⟨bo, oo, none⟩) n dc) ∧ w'.cell? ⟨bo, oo + ko * 3, none⟩ = some (.string ⟨ul.toArray⟩) ∧ w'.cell? ⟨bo, oo + ko * 3 + 1, none⟩ = some (.slice (some ⟨ba, oa, none⟩) an ac) ∧ (w'.cell? ⟨ba, oa + j * 6, none⟩ = some (.slice pa pn pc) ∧ w'.cell? ⟨ba, oa + j * 6 + 1, none⟩ = some (.string ⟨qn.toArray⟩) ∧ w'.cell? ⟨ba, oa + j * 6 + 2, none⟩ = some (.bool ql) ∧ w'.cell? ⟨ba, oa + j * 6 + 3, none⟩ = some (.int .i64 qu) ∧ w'.cell? ⟨ba, oa + j * 6 + 4, none⟩ = some (.int .i64 qa) ∧ w'.cell? ⟨ba, oa + j * 6 + 5, none⟩ = some (.int .i64 ap)) ∧ W.heap.size < w'.heap.size ∧ bo < w'.heap.size ∧ ba < w'.heap.size) from by
      have h1 := (HS3.out.below hb).sbox; have hbw := (HS3.out.below hb).bel; obtain ⟨c0, c1, lb⟩ := HCO.out w' hbw; have hcc := HCA.out w' hbw; rw [HPV.out] at hcc; have g0 := hcc 0 _ rfl; have g1 := hcc 1 _ rfl; have g2 := hcc 2 _ rfl; have g3 := hcc 3 _ rfl; have g4 := hcc 4 _ rfl; have g5 := hcc 5 _ rfl; simp only [Nat.add_zero] at g0
      exact ⟨zc 2 h1, c0, c1, ⟨g0, g1, g2, g3, g4, g5⟩, zC h1, lb, by have := hbw.size; omega⟩))
     have HRB4 := zh hrb4; have HR5 := zh hR3; clear hjk hjr hjm hca hps hpv hsa hg1 hg2 hR3 HR4 hrb4 hpn hba; go_upto_region 46 with fail
     refine zF (fun w' : World => (w'.cell? ⟨W.heap.size, 2, none⟩ = some (.slice (some ⟨bo, oo, none⟩) n dc) ∧ w'.cell? ⟨bo, oo + ko * 3, none⟩ = some (.string ⟨ul.toArray⟩) ∧ w'.cell? ⟨bo, oo + ko * 3 + 1, none⟩ = some (.slice (some ⟨ba, oa, none⟩) an ac) ∧ (w'.cell? ⟨ba, oa + j * 6, none⟩ = some (.slice pa pn pc) ∧ w'.cell? ⟨ba, oa + j * 6 + 1, none⟩ = some (.string ⟨qn.toArray⟩) ∧ w'.cell? ⟨ba, oa + j * 6 + 2, none⟩ = some (.bool ql) ∧ w'.cell? ⟨ba, oa + j * 6 + 3, none⟩ = some (.int .i64 qu) ∧ w'.cell? ⟨ba, oa + j * 6 + 4, none⟩ = some (.int .i64 qa) ∧ w'.cell? ⟨ba, oa + j * 6 + 5, none⟩ = some (.int .i64 ap)) ∧ W.heap.size < w'.heap.size ∧ bo < w'.heap.size ∧ ba < w'.heap.size)) [16] (.take 0 (.take 1 (.take 2 (.take 3 (.take 4 (.take 5 (.take 6 (.take 7 (.take 8 (.take 9 (.take 10 (.take 11 (.take 12 (.take 13 (.take 14 (.take 15 (.one 16 (.done)))))))))))))))))) (by kernel_rfl) (by kernel_rfl) (fun c t a w h => hQ c t a w h) ?_; have hSw := HSK.out _ (below_drewN (Below.refl _ wj) 1); iterate 16 (refine zO (v := ?_) rfl rfl hSw (by rfl) ?_ ?_; rotate_left 1; (focus (intro w hSx; (try dsimp only at hSx); go_simp; try rfl)); (try simp only [Act.put, zq0, zq1, zq2]))
     refine zB rfl (by rfl) (fun K' hK => ?_)
     (go_simp; go_at_call 31; refine (HAL.out _ (below_drewN (Below.refl _ wj) 1)).mono ?_; rintro e w5 ⟨rfl, v5, h5, hb5', hk5'⟩; have hb5 : Below W.heap.size wj w5 := zI hb5'; have hk5 : KpT RTA wj w5 := fun b cs t fr hb ht => hk5' b cs t fr hb ht; clear hb5' hk5')
     refine hK _ _ (.inl rfl) ?_; clear hK K' hSw; (try simp only [Act.put, zq0, zq1, zq2]); refine zH ?_; have hS5 := HS3.out.step h5 hb5 (hk5.mono (fun t ht => by unfold RTA RT; rcases ht with rfl | rfl <;> decide)); have HS5 := zh hS5; clear h5 hb5 hk5 hS5 HSK HCA HAL; go_wp2_with fail; go_roundg (an - (j + 1))
     case measure => omega
     case rel => exact ⟨j + 1, _, v5, by omega, rfl, by go_num, HS5.out, HRB4.out, HR5.out⟩
    ·obtain rfl : j = an := by omega
     have hRe : r3 = R2 := by
      have h := HR4.out; rw [List.drop_eq_nil_of_le (by rw [HAN.out]; exact Nat.le_refl _)] at h; exact h
     have HRE := zh hRe; clear hRe HR4; go_wp2_with fail; go_roundg (n - (ko + 1))
     case measure => omega
     case rel => exact ⟨ko + 1, r3, v3, by omega, rfl, by go_num, HS3.out, HRB3.out.next (by omega), by rw [HRE.out]; exact HR3.out⟩
  ·obtain rfl : ko = n := by omega
   have hRe : r = RR := by
    have h := HRR.out; rw [List.drop_eq_nil_of_le (by rw [HNE.out]; exact Nat.le_refl _)] at h; exact h
   subst hRe; have hrb3 : Sp.RB (2 ^ 38) r := Sp.RB.mono HRB.out (kO.le (by omega) (by omega)); have HRB3 := zh hrb3; clear HRR hrb3; go_wp2_with fail; exact HKK.out _ _ _ _ _ _ _ _ _ _ _ _ _ _ _ _ _ _ _ _ _ _ _ _ _ _ _ _ _ _ _ _ _ _ _ _ _ _ v HS.out HRB3.out

namespace Sp

theorem rput_inner (r : Rk) (x : Sym) : (rput r x).1.inner = r.inner := by unfold rput; split <;> rfl
theorem zEA (r : Rk) (x : Sym) : (yP r x).1.inner = r.inner := by
 unfold yP; split
 ·exact rput_inner r x
 ·split
  ·rfl
  ·split <;> rfl
theorem rdeclare_inner (r : Rk) (d : Decl) (x : Sym) : (xO r d x).inner = r.inner := by
 unfold xO; split
 ·split
  ·rfl
  ·split <;> rfl
 ·have h1 : ∀ (r : Rk) (t : Nat), (jX r t d x).inner = r.inner := fun r t => by unfold jX; split <;> rfl
  have h2 : ∀ (r : Rk) (t : Nat), (rnum r t x).inner = r.inner := fun r t => by unfold rnum; split <;> rfl
  have h3 : ∀ (r : Rk) (t : Nat), (rtag r t d x).inner = r.inner := fun r t => by unfold rtag; split <;> rfl
  simp only [h1, h2, h3, rput_inner]
theorem rsym_inner (q : Rk × List UInt8) (d : Decl) (x : Sym) : (rsym q d x).1.inner = q.1.inner := by
 unfold rsym; split
 ·exact rdeclare_inner _ _ _
 ·simp only
  split <;> rfl
theorem rsyms_inner (d : Decl) : ∀ (l : List Sym) (q : Rk × List UInt8), (rsyms d l q).1.inner = q.1.inner
 | [], _ => rfl
 | x :: l, q => (rsyms_inner d l (rsym q d x)).trans (rsym_inner q d x)
theorem rdecls_inner : ∀ (l : List Decl) (q : Rk × List UInt8), (zAX l q).1.inner = q.1.inner
 | [], _ => rfl
 | d :: l, q => by
  rw [zCW, rdecls_inner l, rsyms_inner]; simp only; split <;> rfl
theorem rrule_inner (r : Rk) (u : Rule) : (zAM r u).inner = r.inner := by
 unfold zAM; simp only; split <;> split <;> rfl
theorem rrules_inner : ∀ (l : List Rule) (r : Rk), (gJ l r).inner = r.inner
 | [], _ => rfl
 | u :: l, r => (rrules_inner l (zAM r u)).trans (rrule_inner r u)
theorem zBG (k : Int) : ∀ (l : List Sym) (r : Rk), (kL k l r).inner = r.inner
 | [], _ => rfl
 | x :: l, r => (zBG k l (gC k r x)).trans (by unfold gC; split <;> rfl)
theorem rnames_inner : ∀ (l : List Decl) (r : Rk), (gK l r).inner = r.inner
 | [], _ => rfl
 | d :: l, r => (rnames_inner l _).trans (zBG d.kind d.syms r)
theorem vD (N : Nat) : ∀ (l : List Part) (i : Nat) (r : Rk) (p : Prod), (qD N i l (r, p)).1.inner ≤ r.inner + l.length
 | [], _, _, _ => Nat.le_refl _
 | w :: l, i, r, p => by
  rw [List.length_cons]; by_cases hc : w.code = []
  ·rw [gY _ _ _ _ _ _ hc]
   have := vD N l (i + 1) (yP r w.sym).1 { p with right := p.right ++ [(yP r w.sym).2] }; rw [zEA] at this; omega
  ·by_cases hi : i + 1 = N
   ·rw [gE _ _ _ _ _ _ hc hi]
    have := vD N l (i + 1) r { p with code := w.code, at_ := w.at_ }; omega
   ·rw [vE _ _ _ _ _ _ hc hi]
    refine Nat.le_trans (vD N l (i + 1) _ _) ?_; simp only; omega
theorem raltPrec_inner (r : Rk) (a : Alt) (c : Int) : (qJ r a c).1.inner = r.inner := by
 unfold qJ; split
 ·rfl
 ·split
  ·exact zEA _ _
  ·rfl
theorem ralt_innerLe (r : Rk) (left : List UInt8) (a : Alt) : (ralt r left a).inner ≤ r.inner + a.parts.length := by
 unfold ralt; simp only; rw [raltPrec_inner]; exact vD _ _ _ _ _
def altsN (l : List Alt) : Nat := (l.map fun a => a.parts.length).sum
def gL (l : List Rule) : Nat := (l.map fun u => altsN u.alts).sum
theorem zEC (left : List UInt8) : ∀ (l : List Alt) (r : Rk), (ralts left l r).inner ≤ r.inner + altsN l
 | [], _ => Nat.le_refl _
 | a :: l, r => by
  have h1 := zEC left l (ralt r left a); have h2 := ralt_innerLe r left a; have e : altsN (a :: l) = a.parts.length + altsN l := by unfold altsN; rw [List.map_cons, List.sum_cons]
  rw [ralts_cons, e]; omega
theorem gV : ∀ (l : List Rule) (r : Rk), (xQ l r).inner ≤ r.inner + gL l
 | [], _ => Nat.le_refl _
 | u :: l, r => by
  have h1 := gV l (ralts u.left u.alts r); have h2 := zEC u.left u.alts r; have e : gL (u :: l) = altsN u.alts + gL l := by unfold gL; rw [List.map_cons, List.sum_cons]
  rw [zCN, e]; omega
theorem zEB (x : zM) : (xT x).inner ≤ gL x.rules := by
 unfold xT; simp only; refine Nat.le_trans (gV _ _) ?_; simp only; rw [rnames_inner, rrules_inner, rdecls_inner]; exact Nat.le_of_eq (Nat.zero_add _)
theorem altsN_le {n : Nat} : ∀ {l : List Alt}, (∀ a ∈ l, a.parts.length ≤ n) → altsN l ≤ l.length * n
 | [], _ => by simp [altsN]
 | a :: l, h => by
  have h1 := altsN_le (l := l) (fun b hb => h b (by simp [hb])); have h2 := h a (by simp); have e : altsN (a :: l) = a.parts.length + altsN l := by unfold altsN; rw [List.map_cons, List.sum_cons]
  rw [e, List.length_cons, Nat.succ_mul]; omega
theorem partsN_le {n k : Nat} : ∀ {l : List Rule}, (∀ u ∈ l, u.alts.length ≤ k ∧ ∀ a ∈ u.alts, a.parts.length ≤ n) → gL l ≤ l.length * (k * n)
 | [], _ => by simp [gL]
 | u :: l, h => by
  have h1 := partsN_le (l := l) (fun b hb => h b (by simp [hb])); obtain ⟨h2, h3⟩ := h u (by simp); have h4 := altsN_le h3; have h5 : u.alts.length * n ≤ k * n := Nat.mul_le_mul_right n h2; have e : gL (u :: l) = altsN u.alts + gL l := by unfold gL; rw [List.map_cons, List.sum_cons]
  rw [e, List.length_cons, Nat.succ_mul]; omega
end Sp
namespace Sp

structure Inv (s : Mk) : Prop where
 three : 3 ≤ s.toks.length
 same : s.given.length = s.toks.length
 one : ∃ t, s.toks[1]? = some t ∧ t.name = jE ∧ t.lit = false
 noerr : ∀ (i : Nat) (t : Tok), 3 ≤ i → s.toks[i]? = some t → ¬ (t.name = jE ∧ t.lit = false)
 zero : ∀ (i : Nat) (t : Tok), 3 ≤ i → s.toks[i]? = some t → s.given[i]? = some false → t.num = 0
structure Sim (s : Mk) (r : Rk) : Prop where
 toks : r.toks = s.toks
 given : r.given = s.given
 lefts : r.lefts = s.lefts
 types : ∀ nm, xK r.types nm = xK s.types nm
 ok : r.fault = okFault
def SameL (s s' : Mk) : Prop := s'.lefts = s.lefts ∧ s'.nons = s.nons ∧ s'.prods = s.prods
theorem SameL.trans {a b c : Mk} (h : SameL a b) (k : SameL b c) : SameL a c := ⟨k.1.trans h.1, k.2.1.trans h.2.1, k.2.2.trans h.2.2⟩
structure LInv (s : Mk) : Prop where
 apart : ∀ nm k, kC s.lefts nm = some k → yD s.toks nm false = none
 nons : s.nons = ⟨[36, 97, 99, 99, 101, 112, 116], []⟩ :: s.lefts.map fun l => ⟨l, (xK s.types l).getD []⟩
def Ext (s F : Mk) : Prop := F.lefts = s.lefts ∧ (∀ nm lt k, yD s.toks nm lt = some k → yD F.toks nm lt = some k) ∧ ∀ nm k, kC s.lefts nm = some k → yD F.toks nm false = none
theorem Ext.refl {s : Mk} (h : LInv s) : Ext s s := ⟨rfl, fun _ _ _ h => h, fun nm k hk => h.apart nm k hk⟩
theorem Ext.trans {a b c : Mk} (h : Ext a b) (k : Ext b c) : Ext a c := ⟨k.1.trans h.1, fun nm lt i hi => k.2.1 nm lt i (h.2.1 nm lt i hi), fun nm i hi => k.2.2 nm i (by rw [h.1]; exact hi)⟩
structure Kept (s s' : Mk) (r r' : Rk) : Prop where
 sim : Sim s' r'
 inv : Inv s'
 linv : LInv s'
 ext : Ext s s'
 start : s'.start = s.start
 types : s'.types = s.types
 prods : s'.prods = s.prods
structure PP (a b : Prod) : Prop where
 left : a.left = b.left
 right : a.right = b.right
 code : a.code = b.code
 at_ : a.at_ = b.at_
 prec : a.prec = vC b.right (-1)
 none : b.prec = -1
structure GG (F G : Mk) (L : List Non) (r : Rk) : Prop where
 toks : G.toks = F.toks
 lefts : G.lefts = F.lefts
 given : G.given = F.given
 types : G.types = F.types
 prods : G.prods = r.prods
 nons : G.nons = L ++ qP r.inner
 len : L.length = 1 + F.lefts.length
theorem jR : ∀ n, (qP n).length = n
 | 0 => rfl
 | n + 1 => by unfold qP; simp [jR n]
theorem Kept.trans {s s1 s2 : Mk} {r r1 r2 : Rk} (h : Kept s s1 r r1) (k : Kept s1 s2 r1 r2) : Kept s s2 r r2 := ⟨k.sim, k.inv, k.linv, h.ext.trans k.ext, k.start.trans h.start, k.types.trans h.types, k.prods.trans h.prods⟩
theorem zBX : ∀ (ts : List Tok) (gs : List Bool) (n : Int), (jC n ts gs).length = ts.length
 | [], _, _ => by simp [jC]
 | t :: ts, [], _ => by simp [jC]
 | t :: ts, g :: gs, n => by
  unfold jC; split <;> simp [zBX ts gs]
end Sp
namespace Sp

def PLen (n : Nat) (p : Prod) : Prop := p.right.length ≤ n ∧ p.args.length ≤ n
def PLens (n : Nat) (l : List Prod) : Prop := ∀ p ∈ l, PLen n p
theorem PLens.snoc {n : Nat} {l : List Prod} {p : Prod} (h : PLens n l) (hp : PLen n p) : PLens n (l ++ [p]) := fun q hq => by
 rcases List.mem_append.1 hq with hq | hq
 ·exact h q hq
 ·rw [List.mem_singleton] at hq
  rw [hq]; exact hp
theorem rput_prods (r : Rk) (x : Sym) : (rput r x).1.prods = r.prods := by unfold rput; split <;> rfl
theorem zDY (r : Rk) (x : Sym) : (yP r x).1.prods = r.prods := by
 unfold yP; split
 ·exact rput_prods r x
 ·split
  ·rfl
  ·split <;> rfl
theorem gP (N n : Nat) : ∀ (l : List Part) (i : Nat) (r : Rk) (p : Prod), PLens n r.prods → p.right.length + l.length ≤ n → p.args = [] → PLens n (qD N i l (r, p)).1.prods ∧ (qD N i l (r, p)).2.right.length ≤ n
 | [], _, _, p, h, hp, _ => ⟨h, (by
   have h2 : p.right.length ≤ n := by simpa using hp
   exact h2)⟩
 | w :: l, i, r, p, h, hp, ha => by
  rw [List.length_cons] at hp; by_cases hc : w.code = []
  ·rw [gY _ _ _ _ _ _ hc]
   exact gP N n l _ _ _ (by rw [zDY]; exact h) (by simp only [List.length_append, List.length_singleton]; omega) ha
  ·by_cases hi : i + 1 = N
   ·rw [gE _ _ _ _ _ _ hc hi]
    exact gP N n l _ _ _ h (by simp only; omega) ha
   ·rw [vE _ _ _ _ _ _ hc hi]
    exact gP N n l _ _ _ (h.snoc ⟨by simp, by simp only; omega⟩) (by simp only [List.length_append, List.length_singleton]; omega) ha
theorem raltPrec_prods (r : Rk) (a : Alt) (c : Int) : (qJ r a c).1.prods = r.prods := by
 unfold qJ; split
 ·rfl
 ·split
  ·exact zDY _ _
  ·rfl
theorem ralt_PLens {n : Nat} {r : Rk} (left : List UInt8) (a : Alt) (h : PLens n r.prods) (ha : a.parts.length ≤ n) : PLens n (ralt r left a).prods := by
 obtain ⟨h1, h2⟩ := gP a.parts.length n a.parts 0 r ⟨1 + jZ r.lefts left, [], -1, [], [], a.at_⟩ h (by simpa using ha) rfl; unfold ralt; simp only; rw [raltPrec_prods]; exact h1.snoc ⟨h2, h2⟩
theorem ralts_PLens {n : Nat} (left : List UInt8) : ∀ (l : List Alt) (r : Rk), PLens n r.prods → (∀ a ∈ l, a.parts.length ≤ n) → PLens n (ralts left l r).prods
 | [], _, h, _ => h
 | a :: l, r, h, ha => ralts_PLens left l (ralt r left a) (ralt_PLens left a h (ha a (by simp))) (fun b hb => ha b (by simp [hb]))
theorem zBF {n : Nat} : ∀ (l : List Rule) (r : Rk), PLens n r.prods → (∀ u ∈ l, ∀ a ∈ u.alts, a.parts.length ≤ n) → PLens n (xQ l r).prods
 | [], _, h, _ => h
 | u :: l, r, h, ha => zBF l (ralts u.left u.alts r) (ralts_PLens u.left u.alts r h (ha u (by simp))) (fun b hb => ha b (by simp [hb]))
theorem rmade_PLens {n : Nat} {x : zM} (hn : 1 ≤ n) (h : ∀ u ∈ x.rules, ∀ a ∈ u.alts, a.parts.length ≤ n) : PLens n (xT x).prods := by
 unfold xT; simp only; refine zBF _ _ (fun p hp => ?_) h; rw [List.mem_singleton] at hp; rw [hp]; exact ⟨by simpa using hn, by simp⟩
theorem refGram_lens {n : Nat} {x : zM} (hn : 1 ≤ n) (h : ∀ u ∈ x.rules, ∀ a ∈ u.alts, a.parts.length ≤ n) : (qC x).1.toks.length ≤ 40 ∧ (qC x).1.nons.length ≤ 24 ∧ (qC x).1.prods.length ≤ 60 ∧ ∀ p ∈ (qC x).1.prods, p.right.length ≤ n ∧ p.args.length ≤ n := by
 have h0 : xG.toks.length ≤ 40 ∧ xG.nons.length ≤ 24 ∧ xG.prods.length ≤ 60 ∧ ∀ p ∈ xG.prods, p.right.length ≤ n ∧ p.args.length ≤ n := ⟨by decide, by decide, by decide, fun p hp => by cases hp⟩
 cases hm : may x with
 | false => rw [refGram_none hm]; exact h0
 | true =>
  by_cases hf : (xT x).fault.err = 0
  ·cases hg : zBR (xT x) with
   | true => rw [zAV hm hf hg]; exact h0
   | false =>
    rw [zBT hm hf hg]; have hP := rmade_PLens hn h; unfold zBR at hg; simp only [Bool.or_eq_false_iff, decide_eq_false_iff_not] at hg; obtain ⟨⟨⟨g1, g2⟩, g3⟩, _⟩ := hg; refine ⟨?_, ?_, by simp only; omega, hP⟩
    ·simp only
     unfold qI; rw [List.length_append, zBX, List.length_take, List.length_drop]; omega
    ·simp only
     unfold rnons; rw [List.length_append, List.length_cons, List.length_map, jR]; omega
  ·rw [zAW hm hf]; exact h0
end Sp

theorem one_of_sym {s : Sp.Sym} (h : Sp.kE s = true) (hl : s.lit = true) : ∃ c, s.name = [c] := by
 unfold Sp.kE at h; rw [if_pos hl] at h; generalize s.name = l at *
 match l, h with
 | [c], _ => exact ⟨c, rfl⟩
theorem ref_good {x : Sp.zM} (h : Sp.may x = true) : (∀ d ∈ x.decls, GoodD d) ∧ (∀ u ∈ x.rules, ∀ a ∈ u.alts, GoodA a) ∧ x.rules ≠ [] := by
 unfold Sp.may at h; simp only [Bool.and_eq_true, decide_eq_true_eq, List.all_eq_true] at h; obtain ⟨⟨⟨_, h1⟩, h2⟩, h3⟩ := h; refine ⟨fun d hd => ?_, fun u hu a ha => ?_, fun e => by rw [e] at h1; simp at h1⟩
 ·have h := h2 d hd
  unfold Sp.yF at h; split at h
  ·cases h
  ·rename_i hk
   split at h
   ·cases h
   ·split at h
    ·cases h
    ·refine ⟨by omega, fun y hy hl => ?_⟩
     have hm := List.all_eq_true.1 h y hy; unfold Sp.yH at hm; split at hm
     ·cases hm
     ·rename_i h5
      exact one_of_sym (by cases hs : Sp.kE y; exact absurd (.inl hs) h5; rfl) hl
 ·have h := h3 u hu
  unfold Sp.qL at h; simp only [Bool.and_eq_true, List.all_eq_true] at h; have h4 := h.2 a ha; unfold Sp.qZ at h4; simp only [Bool.and_eq_true, List.all_eq_true] at h4; refine ⟨fun w hw hc hl => ?_, fun hl => ?_⟩
  ·have h5 := h4.2 w hw
   unfold Sp.xH at h5; rw [if_pos hc] at h5; unfold Sp.kW at h5; simp only [Bool.and_eq_true, beq_iff_eq] at h5; exact one_of_sym h5.1 hl
  ·have h5 := h4.1
   simp only [Bool.or_eq_true] at h5; rcases h5 with h5 | h5
   ·unfold Sp.isNone at h5
    simp only [Bool.and_eq_true, beq_iff_eq, Bool.not_eq_true'] at h5; rw [h5.1.2] at hl; cases hl
   ·unfold Sp.kW at h5
    simp only [Bool.and_eq_true, beq_iff_eq] at h5; exact one_of_sym h5.1 hl
end Go.Proofs.YtddnomjfcbplpaaGreatDoor
