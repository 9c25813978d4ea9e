import Derived.Test.YtddnomjfcbplpaaGreatDoorZ33
namespace Go.Proofs.YtddnomjfcbplpaaGreatDoor
open Go.RowKit Go.Maps

namespace Sp
theorem raltGo_RB (N : Nat) : ∀ (l : List Part) (i n : Nat) (r : Rk) (p : Prod), RB n r → RB (n + l.length) (raltGo N i l (r, p)).1
 | [], _, _, _, _, h => h
 | w :: l, i, n, r, p, h => by
  rw [List.length_cons, show n + (l.length + 1) = n + 1 + l.length by omega]
  by_cases hc : w.code = []
  ·rw [raltGo_sym _ _ _ _ _ _ hc]
   exact raltGo_RB N l _ _ _ _ (rsymbol_RB _ h)
  ·by_cases hi : i + 1 = N
   ·rw [raltGo_last _ _ _ _ _ _ hc hi]
    exact raltGo_RB N l _ _ _ _ (h.mono (by omega))
   ·rw [raltGo_inner _ _ _ _ _ _ hc hi]
    refine raltGo_RB N l _ _ _ _ ?_
    obtain ⟨q0, q1, q2, q3, q4, q5, q6, q7⟩ := h
    exact ⟨q0, by simp only; omega, by simp only; omega, by simp only; omega, by simp only [List.length_append, List.length_singleton]; omega, by simp only; omega, q6, by simp only; omega⟩
theorem ralt_RB {n : Nat} {r : Rk} (left : List UInt8) (a : Alt) (h : RB n r) : RB (n + a.parts.length + 2) (ralt r left a) := by
 have h1 := raltGo_RB a.parts.length a.parts 0 n r ⟨1 + leftNo r.lefts left, [], -1, [], [], a.at_⟩ h
 have h2 := raltPrec_RB a (rprecGo (raltGo a.parts.length 0 a.parts (r, ⟨1 + leftNo r.lefts left, [], -1, [], [], a.at_⟩)).2.right (raltGo a.parts.length 0 a.parts (r, ⟨1 + leftNo r.lefts left, [], -1, [], [], a.at_⟩)).2.prec) h1
 obtain ⟨q0, q1, q2, q3, q4, q5, q6, q7⟩ := h2
 unfold ralt
 simp only
 exact ⟨q0, by simp only; omega, by simp only; omega, by simp only; omega, by simp only [List.length_append, List.length_singleton]; omega, by simp only; omega, q6, by simp only; omega⟩
theorem rrulesAlts_cons (u : Rule) (l : List Rule) (r : Rk) : rrulesAlts (u :: l) r = rrulesAlts l (ralts u.left u.alts r) := rfl
theorem ralts_cons (left : List UInt8) (a : Alt) (l : List Alt) (r : Rk) : ralts left (a :: l) r = ralts left l (ralt r left a) := rfl
end Sp
def GoodA (a : Sp.Alt) : Prop := (∀ w ∈ a.parts, w.code = [] → w.sym.lit = true → ∃ c, w.sym.name = [c]) ∧ (a.prec.lit = true → ∃ c, a.prec.name = [c])
def ABoundR (k j : Nat) (r : Sp.Rk) : Prop := Sp.RB (20000000 + k * 16012000 + j * 4002) r
theorem ABoundR.le {k j : Nat} (h : k ≤ 4000) (hj : j ≤ 4000) : 20000000 + k * 16012000 + j * 4002 ≤ 2 ^ 38 := by omega
theorem ABoundR.up {k j : Nat} {r : Sp.Rk} (left : List UInt8) (a : Sp.Alt) (h : ABoundR k j r) (ha : a.parts.length ≤ 4000) : ABoundR k (j + 1) (Sp.ralt r left a) := by
 unfold ABoundR at *
 exact (Sp.ralt_RB left a h).mono (by omega)
theorem ABoundR.next {k j : Nat} {r : Sp.Rk} (h : ABoundR k j r) (hj : j ≤ 4000) : ABoundR (k + 1) 0 r := by
 unfold ABoundR at *
 exact h.mono (by omega)
set_option maxRecDepth 100000 in
set_option maxHeartbeats 12800000 in
theorem of_alts {W wm : World} {m : Nat} {x : Sp.Source} {vd vr : Value} {r0 : Sp.Rk} {v0 : RkV}
  {A0 A3 A4 A5 A7 A8 A9 Aa Ab Ac Ad Ae Af Ah Ai Aj Ak Al Am An Ao Ap Aq Ar As At Au Av Aw Ax Ay Az B0 B1 B3 B4 B5 B6 B7 B8 B9 Ba Bb Bc Bd Be Bf Bg Bh Bi Bj Bk Bl Bm Bn Bo Bp Bq Br Bs Bt Bu Bv Bw Bx By Bz C0 C1 C3 C4 C5 C6 C7 C8 C9 Ca Cb Cc Cd Ce Cf Cg Ch Ci Cj Ck Cl Cm Cn Co Cp Cq Cr Cs Ct Cu Cv Cw Cx Cy Cz D0 D1 D2 D3 D4 D5 D6 D7 D8 D9 Da Db Dc Dd De Df Dg Dh Di Dj Dk Dl Dm Dn Do Dp Dq Dr Ds Dt Du Dv Dw Dx Dy Dz E0 E3 E4 E5 E6 E7 E8 E9 Ea Eb Ec Ed Ee Ef Eg Eh Ei Ej Ek El Em En Eo Ep Eq Er Es Et Eu Ev Ew Ex Ey Ez F0 F1 F2 F3 F4 F5 F6 F7 F8 F9 Fa Fb Fc Fd Fe Ff Fg Fh Fi Fj Fk Fl Fm Fn Fo Fp Fq Fr Fs Ft Fu Fv Fw Fx Fy Fz G0 G1 G2 G3 G4 G5 G6 G7 G8 G9 Ga Gb Gc Gd Ge Gf Gg Gh Gi Gj Gk Gm Gn Gq Gr Gs Gu Gv Gw Gx Gy Gz H0 H8 Ha Hb Hc Hd He Hf Hg Hh Hi Hj Hk Hl Hm Hn Ho Hp Hq Hr Hs Ht Hu Hv Hw Hx Hy Hz I0 I1 I2 I3 I4 I5 I6 I7 I8 I9 Ia Ib Ic Id Ie If Ig Ih Ii Ij Ik Il Im In Io Ip Iq Ir Is It Iu Iv Iw Ix Iy Iz J0 J1 J2 J3 J4 J5 J6 J7 J8 J9 Ja Jb Jc Jd Je Jf Jg Jh Ji Jj Jk Jl Jm Jn Jo Jp Jq Jr Js Jt Ju Jv Jw Jx Jy Jz K0 K2 K3 K4 K5 K6 K7 K8 K9 Ka Kb Kc Kd Ke Kf Kg Kh Ki Kj Kk Kl Km Kn Ko Kq Kr Ks Kt Ku Kv Kw Kx Ky Kz L0 L1 L2 L3 L4 L5 L6 L7 L8 L9 La Lb Lc Ld Le Lf Lg Lh Li Lj Ll Lm Ln Lo Lp Lq Lr Ls Lt Lu Lv Lw Lx Ly Lz M0 M1 M2 M3 M4 M5 M6 M7 M8 M9 Ma Mb Mc Md Me Mf Mg Mh Mi Mj Ml Mm : Value} (K : Act → World → Prop) (Q : Exit → Act → World → Prop)
  (hS : OfS W m x vd vr r0 v0 wm) (hru : RulesAt W vr x.rules) (hsm : smallSrc x) (hga : ∀ u ∈ x.rules, ∀ a ∈ u.alts, GoodA a) (hrb : ABoundR 0 0 r0)
  (hQ : ∀ c (t : Array Value) (a : Act) w, Q (.panic c) ⟨t, a.defers⟩ w → Q (.panic c) a w)
  (hK : ∀ (x16 x17 x213 x214 x215 x216 x217 x218 x219 x220 x221 x222 x223 x224 x225 x226 x227 x228 x229 x230 x231 x232 x233 x234 x235 x236 x237 x238 x239 x240 x241 x242 x243 x244 x245 x246 x247 : Value) (wx : World) (v1 : RkV), OfS W m x vd vr (Sp.rrulesAlts x.rules r0) v1 wx → Sp.RB (2 ^ 38) (Sp.rrulesAlts x.rules r0) → K ⟨#[A0,.pointer (some ⟨W.heap.size,0,none⟩),.pointer (some ⟨W.heap.size + 1,0,none⟩),A3,A4,A5,.pointer (some ⟨m,0,none⟩),A7,A8,A9,Aa,Ab,Ac,Ad,Ae,Af,x16,x17,Ai,Aj,Ak,Al,Am,An,Ao,Ap,Aq,Ar,As,At,Au,Av,Aw,Ax,Ay,Az,B0,B1,B3,B4,B5,B6,B7,B8,B9,Ba,Bb,Bc,Bd,Be,Bf,Bg,Bh,Bi,Bj,Bk,Bl,Bm,Bn,Bo,Bp,Bq,Br,Bs,Bt,Bu,Bv,Bw,Bx,By,Bz,C0,C1,C3,C4,C5,C6,C7,C8,C9,Ca,Cb,Cc,Cd,Ce,Cf,Cg,Ch,Ci,Cj,Ck,Cl,Cm,Cn,Co,Cp,Cq,Cr,Cs,Ct,Cu,Cv,Cw,Cx,Cy,Cz,D0,D1,D2,D3,D4,D5,D6,D7,D8,D9,Da,Db,Dc,Dd,De,Df,Dg,Dh,Di,Dj,Dk,Dl,Dm,Dn,Do,Dp,Dq,Dr,Ds,Dt,Du,Dv,Dw,Dx,Dy,Dz,E0,E3,E4,E5,E6,E7,E8,E9,Ea,Eb,Ec,Ed,Ee,Ef,Eg,Eh,Ei,Ej,Ek,El,Em,En,Eo,Ep,Eq,Er,Es,Et,Eu,Ev,Ew,Ex,Ey,Ez,F0,F1,F2,F3,F4,F5,F6,F7,F8,F9,Fa,Fb,Fc,Fd,Fe,Ff,Fg,Fh,Fi,Fj,Fk,Fl,Fm,Fn,Fo,Fp,Fq,Fr,Fs,Ft,Fu,Fv,Fw,Fx,Fy,Fz,G0,x213,x214,x215,x216,x217,x218,x219,x220,x221,x222,x223,x224,x225,x226,x227,x228,x229,x230,x231,x232,x233,x234,x235,x236,x237,x238,x239,x240,x241,x242,x243,x244,x245,x246,x247,Hc,Hd,He,Hf,Hg,Hh,Hi,Hj,Hk,Hl,Hm,Hn,Ho,Hp,Hq,Hr,Hs,Ht,Hu,Hv,Hw,Hx,Hy,Hz,I0,I1,I2,I3,I4,I5,I6,I7,I8,I9,Ia,Ib,Ic,Id,Ie,If,Ig,Ih,Ii,Ij,Ik,Il,Im,In,Io,Ip,Iq,Ir,Is,It,Iu,Iv,Iw,Ix,Iy,Iz,J0,J1,J2,J3,J4,J5,J6,J7,J8,J9,Ja,Jb,Jc,Jd,Je,Jf,Jg,Jh,Ji,Jj,Jk,Jl,Jm,Jn,Jo,Jp,Jq,Jr,Js,Jt,Ju,Jv,Jw,Jx,Jy,Jz,K0,K2,K3,K4,K5,K6,K7,K8,K9,Ka,Kb,Kc,Kd,Ke,Kf,Kg,Kh,Ki,Kj,Kk,Kl,Km,Kn,Ko,Kq,Kr,Ks,Kt,Ku,Kv,Kw,Kx,Ky,Kz,L0,L1,L2,L3,L4,L5,L6,L7,L8,L9,La,Lb,Lc,Ld,Le,Lf,Lg,Lh,Li,Lj,Ll,Lm,Ln,Lo,Lp,Lq,Lr,Ls,Lt,Lu,Lv,Lw,Lx,Ly,Lz,M0,M1,M2,M3,M4,M5,M6,M7,M8,M9,Ma,Mb,Mc,Md,Me,Mf,Mg,Mh,Mi,Mj,Ml,Mm], []⟩ wx) :
  Code.wp Tryz.prog (ofBlk 10) (Exit.then K Q) ⟨#[A0,.pointer (some ⟨W.heap.size,0,none⟩),.pointer (some ⟨W.heap.size + 1,0,none⟩),A3,A4,A5,.pointer (some ⟨m,0,none⟩),A7,A8,A9,Aa,Ab,Ac,Ad,Ae,Af,.int .i64 0,Ah,Ai,Aj,Ak,Al,Am,An,Ao,Ap,Aq,Ar,As,At,Au,Av,Aw,Ax,Ay,Az,B0,B1,B3,B4,B5,B6,B7,B8,B9,Ba,Bb,Bc,Bd,Be,Bf,Bg,Bh,Bi,Bj,Bk,Bl,Bm,Bn,Bo,Bp,Bq,Br,Bs,Bt,Bu,Bv,Bw,Bx,By,Bz,C0,C1,C3,C4,C5,C6,C7,C8,C9,Ca,Cb,Cc,Cd,Ce,Cf,Cg,Ch,Ci,Cj,Ck,Cl,Cm,Cn,Co,Cp,Cq,Cr,Cs,Ct,Cu,Cv,Cw,Cx,Cy,Cz,D0,D1,D2,D3,D4,D5,D6,D7,D8,D9,Da,Db,Dc,Dd,De,Df,Dg,Dh,Di,Dj,Dk,Dl,Dm,Dn,Do,Dp,Dq,Dr,Ds,Dt,Du,Dv,Dw,Dx,Dy,Dz,E0,E3,E4,E5,E6,E7,E8,E9,Ea,Eb,Ec,Ed,Ee,Ef,Eg,Eh,Ei,Ej,Ek,El,Em,En,Eo,Ep,Eq,Er,Es,Et,Eu,Ev,Ew,Ex,Ey,Ez,F0,F1,F2,F3,F4,F5,F6,F7,F8,F9,Fa,Fb,Fc,Fd,Fe,Ff,Fg,Fh,Fi,Fj,Fk,Fl,Fm,Fn,Fo,Fp,Fq,Fr,Fs,Ft,Fu,Fv,Fw,Fx,Fy,Fz,G0,G1,G2,G3,G4,G5,G6,G7,G8,G9,Ga,Gb,Gc,Gd,Ge,Gf,Gg,Gh,Gi,Gj,Gk,Gm,Gn,Gq,Gr,Gs,Gu,Gv,Gw,Gx,Gy,Gz,H0,H8,Ha,Hb,Hc,Hd,He,Hf,Hg,Hh,Hi,Hj,Hk,Hl,Hm,Hn,Ho,Hp,Hq,Hr,Hs,Ht,Hu,Hv,Hw,Hx,Hy,Hz,I0,I1,I2,I3,I4,I5,I6,I7,I8,I9,Ia,Ib,Ic,Id,Ie,If,Ig,Ih,Ii,Ij,Ik,Il,Im,In,Io,Ip,Iq,Ir,Is,It,Iu,Iv,Iw,Ix,Iy,Iz,J0,J1,J2,J3,J4,J5,J6,J7,J8,J9,Ja,Jb,Jc,Jd,Je,Jf,Jg,Jh,Ji,Jj,Jk,Jl,Jm,Jn,Jo,Jp,Jq,Jr,Js,Jt,Ju,Jv,Jw,Jx,Jy,Jz,K0,K2,K3,K4,K5,K6,K7,K8,K9,Ka,Kb,Kc,Kd,Ke,Kf,Kg,Kh,Ki,Kj,Kk,Kl,Km,Kn,Ko,Kq,Kr,Ks,Kt,Ku,Kv,Kw,Kx,Ky,Kz,L0,L1,L2,L3,L4,L5,L6,L7,L8,L9,La,Lb,Lc,Ld,Le,Lf,Lg,Lh,Li,Lj,Ll,Lm,Ln,Lo,Lp,Lq,Lr,Ls,Lt,Lu,Lv,Lw,Lx,Ly,Lz,M0,M1,M2,M3,M4,M5,M6,M7,M8,M9,Ma,Mb,Mc,Md,Me,Mf,Mg,Mh,Mi,Mj,Ml,Mm], []⟩ wm := by
 obtain ⟨fr, hr1, hr2⟩ := hru
 obtain ⟨da, dc, rfl⟩ := hr1.form
 rw [List.length_mapIdx] at hr1 hS hK
 obtain ⟨n, hn⟩ : ∃ n, n = x.rules.length := ⟨_, rfl⟩
 have hn4 : n ≤ 4000 := by rw [hn]; exact hsm.2.2.2.1
 rw [← hn] at hr1 hS hK
 obtain ⟨RR, hRR⟩ : ∃ RR, RR = Sp.rrulesAlts x.rules r0 := ⟨_, rfl⟩
 rw [← hRR] at hK
 have HS0 := zh hS; have HR1 := zh hr1; have HRA := zh hr2; have HSM := zh hsm; have HRB := zh hrb; have HNE := zh hn; have HR := zh hRR; have HGA := zh hga
 clear hS hr1 hr2 hsm hrb hn hRR hga
 have HKK := zh hK
 have hM : ∀ a w, Met K a w → K a w := fun _ _ h => h
 clear hK
 conv => arg 2; whnf
 go_wp2_with fail
 go_loopg [16] n (fun q iv wr => ∃ (k : Nat) (r : Sp.Rk) (v : RkV), k ≤ n ∧ q = n - k ∧ iv = .int .i64 k ∧ OfS W m x vd (.slice da n dc) r v wr ∧ ABoundR k 0 r ∧ Sp.rrulesAlts (x.rules.drop k) r = RR)
 case atStart => exact ⟨0, r0, v0, Nat.zero_le _, rfl, rfl, HS0.out, HRB.out, HR.out.symm⟩
 case round =>
  clear HS0 HR HRB
  obtain ⟨k, r, v, hk, rfl, rfl, hS, hrb, hR⟩ := hrel
  obtain ⟨wo, hwo⟩ : ∃ wo : World, wo = wr := ⟨_, rfl⟩
  subst hwo
  obtain ⟨ko, hko⟩ : ∃ ko : Nat, ko = k := ⟨_, rfl⟩
  subst hko
  have HS := zh hS; have HRB := zh hrb; have HRR := zh hR
  have hk0 : (0 : Int) ≤ (ko : Int) := Int.natCast_nonneg _
  have s2 : wo.cell? ⟨W.heap.size, 2, none⟩ = some (.slice da n dc) := cell_at (i := 2) hS.sbox
  have ls := lt_at hS.sbox
  clear hS hrb hR
  by_cases hkn : ko < n
  ·have hk1 : (ko : Int) < (n : Int) := by omega
   have hkd : ko < x.rules.length := by have := HNE.out; omega
   obtain ⟨⟨ul, ual, ua⟩, hdk, hdr, hmem⟩ := at_drop hkd
   have hsr := HSM.out.2.2.2.2.2 _ hmem
   have hgu := HGA.out _ hmem
   obtain ⟨bo, oo, rfl, hbo, hco⟩ := HR1.out.at (k := ko) (row := ruleC (fr ko) ⟨ul, ual, ua⟩) (by rw [List.getElem?_mapIdx, hdk]; rfl)
   obtain ⟨ga, hal1, hal2⟩ := HRA.out ko _ hdk
   obtain ⟨va, ac, huv⟩ := hal1.form
   rw [List.length_mapIdx] at huv
   simp only at huv hsr hgu
   obtain ⟨an, han⟩ : ∃ an, an = ual.length := ⟨_, rfl⟩
   have han4 : an ≤ 4000 := by rw [han]; exact hsr.2.1
   rw [← han] at huv
   rw [huv] at hco hal1
   have hR := HRR.out
   rw [hdr, Sp.rrulesAlts_cons] at hR
   simp only at hR
   have HCO := zh (fun (w' : World) (hb : Below W.heap.size W w') => (show w'.cell? ⟨bo, oo + ko * 3, none⟩ = some (.string ⟨ul.toArray⟩) ∧ w'.cell? ⟨bo, oo + ko * 3 + 1, none⟩ = some (.slice va an ac) ∧ bo < w'.heap.size from by
    have h := hco w' hb
    have g0 := h 0 _ rfl; have g1 := h 1 _ rfl
    simp only [Nat.add_zero] at g0
    exact ⟨g0, g1, by have := hb.size; omega⟩))
   have HAL1 := zh hal1; have HAL2 := zh hal2; have HAN := zh han; have HSR := zh hsr; have HGU := zh hgu
   obtain ⟨R2, hR2⟩ : ∃ R2, R2 = Sp.ralts ul ual r := ⟨_, rfl⟩
   rw [← hR2] at hR
   have HR3 := zh hR; have HRI := zh hR2
   clear hco hal1 hal2 han hsr hgu hR hR2 hdr hdk hmem HRR hbo huv
   go_wp2_with fail
   go_loopg [17] an (fun q iv wr => ∃ (j : Nat) (r3 : Sp.Rk) (v3 : RkV), j ≤ an ∧ q = an - j ∧ iv = .int .i64 j ∧ OfS W m x vd (.slice (some ⟨bo, oo, none⟩) n dc) r3 v3 wr ∧ ABoundR ko j r3 ∧ Sp.ralts ul (ual.drop j) r3 = R2)
   case atStart => exact ⟨0, r, v, Nat.zero_le _, rfl, rfl, HS.out, HRB.out, HRI.out.symm⟩
   case round =>
    obtain ⟨j, r3, v3, hj, rfl, rfl, hS3, hrb3, hR3⟩ := hrel
    obtain ⟨wj, hwj⟩ : ∃ wj : World, wj = wr := ⟨_, rfl⟩
    subst hwj
    have HS3 := zh hS3; have HRB3 := zh hrb3; have HR4 := zh hR3
    have hj0 : (0 : Int) ≤ (j : Int) := Int.natCast_nonneg _
    have s2 : wj.cell? ⟨W.heap.size, 2, none⟩ = some (.slice (some ⟨bo, oo, none⟩) n dc) := cell_at (i := 2) hS3.sbox
    have ls := lt_at hS3.sbox
    obtain ⟨c0, c1, lb⟩ := HCO.out wj hS3.bel
    clear hS3 hrb3 hR3
    by_cases hjn : j < an
    ·have hj1 : (j : Int) < (an : Int) := by omega
     have hjd : j < ual.length := by have := HAN.out; omega
     obtain ⟨⟨aps, ⟨qn, ql, qu, qa⟩, ap⟩, hjk, hjr, hjm⟩ := at_drop hjd
     obtain ⟨ba, oa, rfl, hba, hca⟩ := HAL1.out.at (k := j) (row := altC (ga j) ⟨aps, ⟨qn, ql, qu, qa⟩, ap⟩) (by rw [List.getElem?_mapIdx, hjk]; rfl)
     have hps := HAL2.out j _ hjk
     obtain ⟨pa, pc, hpv⟩ := hps.form
     rw [List.length_map] at hpv
     simp only at hpv hps
     have hsa := HSR.out.2.2 _ hjm
     obtain ⟨hg1, hg2⟩ := HGU.out _ hjm
     have hR3 := HR4.out
     rw [hjr, Sp.ralts_cons] at hR3
     have hrb4 := HRB3.out.up ul ⟨aps, ⟨qn, ql, qu, qa⟩, ap⟩ hsa.1
     obtain ⟨pn, hpn⟩ : ∃ pn, pn = aps.length := ⟨_, rfl⟩
     rw [← hpn] at hpv
     have HAL := zh (fun (w' : World) (hb : Below wj.heap.size wj w') => (show Calls Tryz.prog 31 #[.pointer (some ⟨m, 0, none⟩), .string ⟨ul.toArray⟩, .agg #[.slice pa pn pc, .string ⟨qn.toArray⟩, .bool ql, .int .i64 qu, .int .i64 qa, .int .i64 ap]] w' (RAltPost W.heap.size m w' (Sp.ralt r3 ul ⟨aps, ⟨qn, ql, qu, qa⟩, ap⟩)) from by
      have h := ref_alt ul ⟨aps, ⟨qn, ql, qu, qa⟩, ap⟩ (ga j) (HS3.out.mkr.below hb) (HS3.out.bel.trans (hb.mono HS3.out.bel.size)) hps hsa.1 HRB3.out (ABoundR.le (by omega) (by omega)) hg1 hg2
      rw [hpv] at h
      exact h))
     have HCA := zh hca; have HPV := zh hpv
     have HSK := zh (fun (w' : World) (hb : Below wj.heap.size wj w') => (show (w'.cell? ⟨W.heap.size, 2, none⟩ = some (.slice (some ⟨bo, oo, none⟩) n dc) ∧ w'.cell? ⟨bo, oo + ko * 3, none⟩ = some (.string ⟨ul.toArray⟩) ∧ w'.cell? ⟨bo, oo + ko * 3 + 1, none⟩ = some (.slice (some ⟨ba, oa, none⟩) an ac) ∧ (w'.cell? ⟨ba, oa + j * 6, none⟩ = some (.slice pa pn pc) ∧ w'.cell? ⟨ba, oa + j * 6 + 1, none⟩ = some (.string ⟨qn.toArray⟩) ∧ w'.cell? ⟨ba, oa + j * 6 + 2, none⟩ = some (.bool ql) ∧ w'.cell? ⟨ba, oa + j * 6 + 3, none⟩ = some (.int .i64 qu) ∧ w'.cell? ⟨ba, oa + j * 6 + 4, none⟩ = some (.int .i64 qa) ∧ w'.cell? ⟨ba, oa + j * 6 + 5, none⟩ = some (.int .i64 ap)) ∧ W.heap.size < w'.heap.size ∧ bo < w'.heap.size ∧ ba < w'.heap.size) from by
      have h1 := (HS3.out.below hb).sbox
      have hbw := (HS3.out.below hb).bel
      obtain ⟨c0, c1, lb⟩ := HCO.out w' hbw
      have hcc := HCA.out w' hbw
      rw [HPV.out] at hcc
      have g0 := hcc 0 _ rfl; have g1 := hcc 1 _ rfl; have g2 := hcc 2 _ rfl; have g3 := hcc 3 _ rfl; have g4 := hcc 4 _ rfl; have g5 := hcc 5 _ rfl
      simp only [Nat.add_zero] at g0
      exact ⟨cell_at (i := 2) h1, c0, c1, ⟨g0, g1, g2, g3, g4, g5⟩, lt_at h1, lb, by have := hbw.size; omega⟩))
     have HRB4 := zh hrb4; have HR5 := zh hR3
     clear hjk hjr hjm hca hps hpv hsa hg1 hg2 hR3 HR4 hrb4 hpn hba
     go_upto_region 46 with fail
     refine wp_region_plan (fun w' : World => (w'.cell? ⟨W.heap.size, 2, none⟩ = some (.slice (some ⟨bo, oo, none⟩) n dc) ∧ w'.cell? ⟨bo, oo + ko * 3, none⟩ = some (.string ⟨ul.toArray⟩) ∧ w'.cell? ⟨bo, oo + ko * 3 + 1, none⟩ = some (.slice (some ⟨ba, oa, none⟩) an ac) ∧ (w'.cell? ⟨ba, oa + j * 6, none⟩ = some (.slice pa pn pc) ∧ w'.cell? ⟨ba, oa + j * 6 + 1, none⟩ = some (.string ⟨qn.toArray⟩) ∧ w'.cell? ⟨ba, oa + j * 6 + 2, none⟩ = some (.bool ql) ∧ w'.cell? ⟨ba, oa + j * 6 + 3, none⟩ = some (.int .i64 qu) ∧ w'.cell? ⟨ba, oa + j * 6 + 4, none⟩ = some (.int .i64 qa) ∧ w'.cell? ⟨ba, oa + j * 6 + 5, none⟩ = some (.int .i64 ap)) ∧ W.heap.size < w'.heap.size ∧ bo < w'.heap.size ∧ ba < w'.heap.size)) [16] (.take 0 (.take 1 (.take 2 (.take 3 (.take 4 (.take 5 (.take 6 (.take 7 (.take 8 (.take 9 (.take 10 (.take 11 (.take 12 (.take 13 (.take 14 (.take 15 (.one 16 (.done)))))))))))))))))) (by kernel_rfl) (by kernel_rfl) (fun c t a w h => hQ c t a w h) ?_
     have hSw := HSK.out _ (below_drewN (Below.refl _ wj) 1)
     iterate 16 (refine wpPlan_takeD (v := ?_) rfl rfl hSw (by rfl) ?_ ?_; rotate_left 1; (focus (intro w hSx; (try dsimp only at hSx); go_simp; first | done | with_reducible rfl | rfl)); (try simp only [Act.put, zq0, zq1, zq2]))
     refine wpPlan_run rfl (by rfl) (fun K' hK => ?_)
     (go_simp; go_at_call 31; refine (HAL.out _ (below_drewN (Below.refl _ wj) 1)).mono ?_; rintro e w5 ⟨rfl, v5, h5, hb5', hk5'⟩; have hb5 : Below W.heap.size wj w5 := below_undrew hb5'; have hk5 : KpT RTA wj w5 := fun b cs t fr hb ht => hk5' b cs t fr hb ht; clear hb5' hk5')
     refine hK _ _ (.inl rfl) ?_
     clear hK K' hSw
     (try simp only [Act.put, zq0, zq1, zq2])
     refine wpPlan_done ?_
     have hS5 := HS3.out.step h5 hb5 (hk5.mono (fun t ht => by unfold RTA RT; rcases ht with rfl | rfl <;> decide))
     have HS5 := zh hS5
     clear h5 hb5 hk5 hS5 HSK HCA HAL
     go_wp2_with fail
     go_roundg (an - (j + 1))
     case measure => omega
     case rel => exact ⟨j + 1, _, v5, by omega, rfl, by go_num, HS5.out, HRB4.out, HR5.out⟩
    ·obtain rfl : j = an := by omega
     have hRe : r3 = R2 := by
      have h := HR4.out
      rw [List.drop_eq_nil_of_le (by rw [HAN.out]; exact Nat.le_refl _)] at h
      exact h
     have HRE := zh hRe
     clear hRe HR4
     go_wp2_with fail
     go_roundg (n - (ko + 1))
     case measure => omega
     case rel => exact ⟨ko + 1, r3, v3, by omega, rfl, by go_num, HS3.out, HRB3.out.next (by omega), by rw [HRE.out]; exact HR3.out⟩
  ·obtain rfl : ko = n := by omega
   have hRe : r = RR := by
    have h := HRR.out
    rw [List.drop_eq_nil_of_le (by rw [HNE.out]; exact Nat.le_refl _)] at h
    exact h
   subst hRe
   have hrb3 : Sp.RB (2 ^ 38) r := Sp.RB.mono HRB.out (ABoundR.le (by omega) (by omega))
   have HRB3 := zh hrb3
   clear HRR hrb3
   go_wp2_with fail
   exact HKK.out _ _ _ _ _ _ _ _ _ _ _ _ _ _ _ _ _ _ _ _ _ _ _ _ _ _ _ _ _ _ _ _ _ _ _ _ _ _ v HS.out HRB3.out
end Go.Proofs.YtddnomjfcbplpaaGreatDoor
