import Derived.Test.YtddnomjfcbplpaaGreatDoorZ37
namespace Go.Proofs.YtddnomjfcbplpaaGreatDoor
open Go.RowKit Go.Maps

theorem info_strR : (Tryz.prog.info? 9).map (fun i => (i.zero, i.size, i.bytes)) = some (some (.string ⟨#[]⟩), 1, 16) := by kernel_rfl
theorem Sp.rrules_cons (u : Sp.Rule) (l : List Sp.Rule) (r : Sp.Rk) : Sp.gJ (u :: l) r = Sp.gJ l (Sp.zAM r u) := rfl
theorem Sp.rnames_cons (d : Sp.Decl) (l : List Sp.Decl) (r : Sp.Rk) : Sp.gK (d :: l) r = Sp.gK l (Sp.kL d.kind d.syms r) := rfl
theorem Sp.rnamesSyms_cons (k : Int) (s : Sp.Sym) (l : List Sp.Sym) (r : Sp.Rk) : Sp.kL k (s :: l) r = Sp.kL k l (Sp.gC k r s) := rfl
set_option maxRecDepth 100000 in
set_option maxHeartbeats 12800000 in
theorem of_lefts {W wm : World} {m : Nat} {x : Sp.zM} {vd vr : Value} {r0 : Sp.Rk} {v0 : RkV}
  {A0 A3 A4 A5 A7 A8 A9 Aa Ac Ad Ae Af Ag Ah Ai Aj Ak Al Am An Ao Ap Aq Ar As At Au Av Aw Ax Ay Az B1 B3 B4 B5 B7 B8 B9 Ba Bb Bc Be Bf Bg Bh Bi Bj Bk Bl Bm Bn Bo Bp Bq Br Bs Bt Bu Bv Bw Bx By Bz C0 C1 C3 C4 C5 C6 C7 C8 C9 Ca Cb Cc Cd Ce Cf Cg Ch Ci Cj Ck Cl Cm Cn Co Cp Cq Cr Cs Ct Cu Cv Cw Cx Cy Cz D0 D1 D2 D3 D4 D5 D6 D7 D8 D9 Da Db Dc Dd De Df Dg Dh Di Dj Dk Dl Dm Dn Do Dp Dq Dr Ds Dt Du Dv Dw Dx Dy Dz E0 E3 E4 E5 E6 E7 E8 E9 Ea Eb Ec Ed Ee Ef Eg Eh Ei Ej Ek El Em En Eo Ep Eq Er Es Et Eu Ev Ew Ex Ey Ez F0 F1 F2 F3 F4 F5 F6 F7 F8 F9 Fa Fb Fc Fd Fe Ff Fg Fh Fi Fj Fk Fl Fm Fn Fo Fp Fq Fr Fs Ft Fu Fv Fw Fx Fy Fz G0 G1 G2 G3 G4 G5 G6 G7 G8 G9 Ga Gb Gc Gd Ge Gf Gg Gh Gi Gj Gk Gm Gn Gq Gs Gu Gv Gw Gx Gy Gz H0 H8 Ha Hb Hc Hd He Hf Hg Hh Hi Hj Hk Hl Hm Hn Ho Hp Hq Hr Hs Ht Hu Hv Hw Hx Hy Hz I0 I1 I2 I3 I4 I5 I6 I7 I8 I9 Ia Ib Ic Id Ie If Ig Ih Ii Ij Ik Il Im In Io Ip Iq Ir Is It Iu Iv Iw Ix Iy Iz J0 J1 J2 J3 J4 J5 J6 J7 J8 J9 Ja Jb Jc Jd Je Jf Jg Jh Ji Jj Jk Jl Jm Jn Jo Jp Jq Jr Js Jt Ju Jv Jw Jx Jy Jz K0 K2 K3 K4 K5 K6 K7 K8 K9 Ka Kb Kc Kd Ke Kf Kg Kh Ki Kj Kk Kl Km Kn Ko Kq Kr Ks Kt Ku Kv Kw Kx Ky Kz L0 L1 L2 L3 L4 L5 L6 L7 L8 L9 La Lb Lc Ld Le Lf Lg Lh Li Lj Ll Lm Ln Lo Lp Lq Lr Ls Lt Lu Lv Lw Lx Ly Lz M0 M1 M2 M3 M4 M5 M6 M7 M8 M9 Ma Mb Mc Md Me Mf Mg Mh Mi Mj Ml Mm Mn Mo Mp Mq : Value} (K : Act → World → Prop) (Q : Exit → Act → World → Prop)
  (hS : OfS W m x vd vr r0 v0 wm) (hru : xA W vr x.rules) (hsm : xN x) (hrb : Sp.RB 16004003 r0)
  (hQ : ∀ c (t : Array Value) (a : Act) w, Q (.panic c) ⟨t, a.defers⟩ w → Q (.panic c) a w)
  (hK : ∀ (N3 Nf N1 N2 N4 N5 N6 N7 N8 N9 Na Nb Nc Nd Ng Nh Ni Nj Nk Nl Nm Nn No Np Nr Ns Nt Nu Nv Nw Nx Ny Nz O0 O2 O3 O4 O5 O6 O7 O8 O9 : Value) (wx : World) (v1 : RkV), OfS W m x vd vr (Sp.gJ x.rules r0) v1 wx → Sp.RB 16008003 (Sp.gJ x.rules r0) → K ⟨#[A0,.pointer (some ⟨W.heap.size,0,none⟩),.pointer (some ⟨W.heap.size + 1,0,none⟩),A3,A4,A5,.pointer (some ⟨m,0,none⟩),A7,A8,A9,Aa,N3,Nf,Ad,Ae,Af,Ag,Ah,Ai,Aj,Ak,Al,Am,An,Ao,Ap,Aq,Ar,As,At,Au,Av,Aw,Ax,Ay,Az,B1,B3,B4,B5,B7,B8,B9,Ba,Bb,Bc,Be,Bf,Bg,Bh,Bi,Bj,Bk,Bl,Bm,Bn,Bo,Bp,Bq,Br,Bs,Bt,Bu,Bv,Bw,Bx,By,Bz,C0,C1,C3,C4,C5,C6,C7,C8,C9,Ca,Cb,Cc,Cd,Ce,Cf,Cg,Ch,Ci,Cj,Ck,Cl,Cm,Cn,Co,Cp,Cq,Cr,Cs,Ct,Cu,Cv,Cw,Cx,Cy,Cz,D0,D1,D2,D3,D4,N1,N2,N4,N5,N6,N7,N8,N9,Na,Nb,Nc,Nd,Ng,Nh,Ni,Nj,Nk,Nl,Nm,Nn,No,Np,Nr,Ns,Nt,Nu,Nv,Nw,Nx,Ny,Nz,O0,O2,O3,O4,O5,O6,O7,O8,O9,Eb,Ec,Ed,Ee,Ef,Eg,Eh,Ei,Ej,Ek,El,Em,En,Eo,Ep,Eq,Er,Es,Et,Eu,Ev,Ew,Ex,Ey,Ez,F0,F1,F2,F3,F4,F5,F6,F7,F8,F9,Fa,Fb,Fc,Fd,Fe,Ff,Fg,Fh,Fi,Fj,Fk,Fl,Fm,Fn,Fo,Fp,Fq,Fr,Fs,Ft,Fu,Fv,Fw,Fx,Fy,Fz,G0,G1,G2,G3,G4,G5,G6,G7,G8,G9,Ga,Gb,Gc,Gd,Ge,Gf,Gg,Gh,Gi,Gj,Gk,Gm,Gn,Gq,Gs,Gu,Gv,Gw,Gx,Gy,Gz,H0,H8,Ha,Hb,Hc,Hd,He,Hf,Hg,Hh,Hi,Hj,Hk,Hl,Hm,Hn,Ho,Hp,Hq,Hr,Hs,Ht,Hu,Hv,Hw,Hx,Hy,Hz,I0,I1,I2,I3,I4,I5,I6,I7,I8,I9,Ia,Ib,Ic,Id,Ie,If,Ig,Ih,Ii,Ij,Ik,Il,Im,In,Io,Ip,Iq,Ir,Is,It,Iu,Iv,Iw,Ix,Iy,Iz,J0,J1,J2,J3,J4,J5,J6,J7,J8,J9,Ja,Jb,Jc,Jd,Je,Jf,Jg,Jh,Ji,Jj,Jk,Jl,Jm,Jn,Jo,Jp,Jq,Jr,Js,Jt,Ju,Jv,Jw,Jx,Jy,Jz,K0,K2,K3,K4,K5,K6,K7,K8,K9,Ka,Kb,Kc,Kd,Ke,Kf,Kg,Kh,Ki,Kj,Kk,Kl,Km,Kn,Ko,Kq,Kr,Ks,Kt,Ku,Kv,Kw,Kx,Ky,Kz,L0,L1,L2,L3,L4,L5,L6,L7,L8,L9,La,Lb,Lc,Ld,Le,Lf,Lg,Lh,Li,Lj,Ll,Lm,Ln,Lo,Lp,Lq,Lr,Ls,Lt,Lu,Lv,Lw,Lx,Ly,Lz,M0,M1,M2,M3,M4,M5,M6,M7,M8,M9,Ma,Mb,Mc,Md,Me,Mf,Mg,Mh,Mi,Mj,Ml,Mm,Mn,Mo,Mp,Mq], []⟩ wx) :
  Code.wp Tryz.prog (ofBlk 4) (Exit.then K Q) ⟨#[A0,.pointer (some ⟨W.heap.size,0,none⟩),.pointer (some ⟨W.heap.size + 1,0,none⟩),A3,A4,A5,.pointer (some ⟨m,0,none⟩),A7,A8,A9,Aa,.int .i64 0,Ac,Ad,Ae,Af,Ag,Ah,Ai,Aj,Ak,Al,Am,An,Ao,Ap,Aq,Ar,As,At,Au,Av,Aw,Ax,Ay,Az,B1,B3,B4,B5,B7,B8,B9,Ba,Bb,Bc,Be,Bf,Bg,Bh,Bi,Bj,Bk,Bl,Bm,Bn,Bo,Bp,Bq,Br,Bs,Bt,Bu,Bv,Bw,Bx,By,Bz,C0,C1,C3,C4,C5,C6,C7,C8,C9,Ca,Cb,Cc,Cd,Ce,Cf,Cg,Ch,Ci,Cj,Ck,Cl,Cm,Cn,Co,Cp,Cq,Cr,Cs,Ct,Cu,Cv,Cw,Cx,Cy,Cz,D0,D1,D2,D3,D4,D5,D6,D7,D8,D9,Da,Db,Dc,Dd,De,Df,Dg,Dh,Di,Dj,Dk,Dl,Dm,Dn,Do,Dp,Dq,Dr,Ds,Dt,Du,Dv,Dw,Dx,Dy,Dz,E0,E3,E4,E5,E6,E7,E8,E9,Ea,Eb,Ec,Ed,Ee,Ef,Eg,Eh,Ei,Ej,Ek,El,Em,En,Eo,Ep,Eq,Er,Es,Et,Eu,Ev,Ew,Ex,Ey,Ez,F0,F1,F2,F3,F4,F5,F6,F7,F8,F9,Fa,Fb,Fc,Fd,Fe,Ff,Fg,Fh,Fi,Fj,Fk,Fl,Fm,Fn,Fo,Fp,Fq,Fr,Fs,Ft,Fu,Fv,Fw,Fx,Fy,Fz,G0,G1,G2,G3,G4,G5,G6,G7,G8,G9,Ga,Gb,Gc,Gd,Ge,Gf,Gg,Gh,Gi,Gj,Gk,Gm,Gn,Gq,Gs,Gu,Gv,Gw,Gx,Gy,Gz,H0,H8,Ha,Hb,Hc,Hd,He,Hf,Hg,Hh,Hi,Hj,Hk,Hl,Hm,Hn,Ho,Hp,Hq,Hr,Hs,Ht,Hu,Hv,Hw,Hx,Hy,Hz,I0,I1,I2,I3,I4,I5,I6,I7,I8,I9,Ia,Ib,Ic,Id,Ie,If,Ig,Ih,Ii,Ij,Ik,Il,Im,In,Io,Ip,Iq,Ir,Is,It,Iu,Iv,Iw,Ix,Iy,Iz,J0,J1,J2,J3,J4,J5,J6,J7,J8,J9,Ja,Jb,Jc,Jd,Je,Jf,Jg,Jh,Ji,Jj,Jk,Jl,Jm,Jn,Jo,Jp,Jq,Jr,Js,Jt,Ju,Jv,Jw,Jx,Jy,Jz,K0,K2,K3,K4,K5,K6,K7,K8,K9,Ka,Kb,Kc,Kd,Ke,Kf,Kg,Kh,Ki,Kj,Kk,Kl,Km,Kn,Ko,Kq,Kr,Ks,Kt,Ku,Kv,Kw,Kx,Ky,Kz,L0,L1,L2,L3,L4,L5,L6,L7,L8,L9,La,Lb,Lc,Ld,Le,Lf,Lg,Lh,Li,Lj,Ll,Lm,Ln,Lo,Lp,Lq,Lr,Ls,Lt,Lu,Lv,Lw,Lx,Ly,Lz,M0,M1,M2,M3,M4,M5,M6,M7,M8,M9,Ma,Mb,Mc,Md,Me,Mf,Mg,Mh,Mi,Mj,Ml,Mm,Mn,Mo,Mp,Mq], []⟩ wm := by
 obtain ⟨fr, hr1, hr2⟩ := hru; obtain ⟨da, dc, rfl⟩ := hr1.form; rw [List.length_mapIdx] at hr1 hS hK; obtain ⟨n, hn⟩ : ∃ n, n = x.rules.length := ⟨_, rfl⟩
 have hn4 : n ≤ 4000 := by rw [hn]; exact hsm.2.2.2.1
 rw [← hn] at hr1 hS hK; obtain ⟨RR, hRR⟩ : ∃ RR, RR = Sp.gJ x.rules r0 := ⟨_, rfl⟩
 rw [← hRR] at hK; obtain ⟨is0, his0, hsz0, hsz1, hsz2⟩ := info_parts info_strR; have HS0 := zh hS; have HR1 := zh hr1; have HRA := zh hr2; have HSM := zh hsm; have HRB := zh hrb; have HNE := zh hn; have HR := zh hRR; clear hS hr1 hr2 hsm hrb hn hRR; have HKK := zh hK; have hM : ∀ a w, Met K a w → K a w := fun _ _ h => h
 clear hK; conv => arg 2; whnf
 go_wp2_with fail; go_loopg [11] n (fun q iv wr => ∃ (k : Nat) (r : Sp.Rk) (v : RkV), k ≤ n ∧ q = n - k ∧ iv = .int .i64 k ∧ OfS W m x vd (.slice da n dc) r v wr ∧ Sp.RB (16004003 + k) r ∧ Sp.gJ (x.rules.drop k) r = RR)
 case atStart => exact ⟨0, r0, v0, Nat.zero_le _, rfl, rfl, HS0.out, HRB.out, HR.out.symm⟩
 case round =>
  clear HS0 HR HRB; obtain ⟨k, r, v, hk, rfl, rfl, hS, hrb, hR⟩ := hrel; obtain ⟨wo, hwo⟩ : ∃ wo : World, wo = wr := ⟨_, rfl⟩
  subst hwo; have HS := zh hS; have HRB := zh hrb; have HRR := zh hR; have hk0 : (0 : Int) ≤ (k : Int) := Int.natCast_nonneg _; have s2 : wo.cell? ⟨W.heap.size, 2, none⟩ = some (.slice da n dc) := zc 2 hS.sbox; have ls := zC hS.sbox; clear hS hrb hR; by_cases hkn : k < n
  ·have hk1 : (k : Int) < (n : Int) := by omega
   have hkd : k < x.rules.length := by have := HNE.out; omega
   obtain ⟨⟨ul, ual, ua⟩, hdk, hdr, hmem⟩ := qO hkd; obtain ⟨bo, oo, rfl, hbo, hco⟩ := HR1.out.at (k := k) (row := qT (fr k) ⟨ul, ual, ua⟩) (by rw [List.getElem?_mapIdx, hdk]; rfl); obtain ⟨va, vc, huv⟩ := (HRA.out k _ hdk).form; simp only at huv; obtain ⟨un, hun⟩ : ∃ un, un = ual.length := ⟨_, rfl⟩
   rw [← hun] at huv; have hcells := hco wo HS.out.bel; rw [huv] at hcells; clear hun; have hR := HRR.out; rw [hdr, Sp.rrules_cons] at hR; have c0 := hcells 0 _ rfl; have c1 := hcells 1 _ rfl; have c2 := hcells 2 _ rfl; simp only [Nat.add_zero] at c0 c1 c2; have hbl : bo < wo.heap.size := by have := HS.out.bel.size; omega
   have HR2 := zh hR; clear hcells hco hR hdr hdk hmem HRR; obtain ⟨bd, hbd⟩ : ∃ bd, bd = wo.heap.size := ⟨_, rfl⟩
   obtain ⟨w1, hw1⟩ : ∃ w1, w1 = wo.alloc (.cells #[.string ⟨ul.toArray⟩, .slice va un vc, .int .i64 ua] 63) := ⟨_, rfl⟩
   have hb1 : Below wo.heap.size wo w1 := by rw [hw1]; exact (Below.refl _ wo).alloc (Nat.le_refl _) _
   have hd1 : w1.heap[bd]? = some (.cells #[.string ⟨ul.toArray⟩, .slice va un vc, .int .i64 ua] 63 (0, 0)) := by rw [hw1, hbd]; exact zE wo _
   have HS1 := zh (HS.out.below hb1); have HD := zh hd1; go_upto_region 24 with fail
   rw [← hbd, ← hw1]; have d0 := zc 0 hd1; have d2 := zc 2 hd1; have ld := zC hd1; clear hbd hw1 hb1 hd1 c0 c1 c2 hbl hbo s2 ls huv; have hsw1 := HS1.out.bel.size; obtain ⟨fl, hfl⟩ : ∃ fl, fl = Sp.rtok r.toks ul false := ⟨_, rfl⟩
   obtain ⟨r1, hr1⟩ : ∃ r1, r1 = (if (Sp.rtok r.toks ul false).isSome = true then Sp.jA r ua ul else r) := ⟨_, rfl⟩
   have hrule : Sp.zAM r ⟨ul, ual, ua⟩ = if (Sp.kC r1.lefts ul).isNone = true then { r1 with lefts := r1.lefts ++ [ul] } else r1 := by rw [hr1]; rfl
   have hl1 : r1.lefts = r.lefts := by rw [hr1]; split <;> rfl
   have hrb1 : Sp.RB (16004003 + k) r1 := by
    rw [hr1]; split
    ·exact Sp.gW _ _ HRB.out
    ·exact HRB.out
   have hrb5 : Sp.RB (16004003 + k + 1) (Sp.zAM r ⟨ul, ual, ua⟩) := Sp.rrule_RB _ HRB.out; rw [← hfl] at hr1; have HE1 := zh hr1; have HRU := zh hrule; have HL1 := zh hl1; have HRB1 := zh hrb1; have HRB5 := zh hrb5; have HFL := zh hfl; clear hr1 hrule hl1 hrb1 hrb5 hfl; go_upto_region 24 with fail
   go_cut [125] from 108 to 147 (fun c wx => c = .bool fl.isSome ∧ OfS W m x vd (.slice (some ⟨bo, oo, none⟩) n dc) r v wx ∧ wx.heap[bd]? = some (.cells #[.string ⟨ul.toArray⟩, .slice va un vc, .int .i64 ua] 63 (0, 0)))
   case first =>
    go_wp2_with fail; refine (ref_tok ⟨ul, false, 0, 0⟩ HS1.out.mkr HRB.out (by omega)).mono ?_; rintro e w2 ⟨rfl, hb2⟩; simp only; rw [← HFL.out]; have HS2 := zh (HS1.out.below hb2); have HD2 := zh ((hb2.block _ (zC HD.out)).trans HD.out); clear hb2
    cases fl with
    | some t =>
     have ht0 : (0 : Int) ≤ (t : Int) := Int.natCast_nonneg _; dsimp only [ixI]; go_wp2_with fail; go_meet; exact ⟨rfl, HS2.out, HD2.out⟩
    | none =>
     dsimp only [ixI]; go_wp2_with fail; go_meet; exact ⟨rfl, HS2.out, HD2.out⟩
   case rest =>
    obtain ⟨w2, hw2⟩ : ∃ w2 : World, w2 = wc := ⟨_, rfl⟩
    subst hw2; obtain ⟨rfl, hS2, hd2⟩ := hcut; have HS2 := zh hS2; have HD2 := zh hd2; have d0 := zc 0 hd2; have d2 := zc 2 hd2; have ld := zC hd2; clear hS2 hd2; go_upto_if 125 with fail
    go_cut [] from 108 to 147 (fun wx => OfS W m x vd (.slice (some ⟨bo, oo, none⟩) n dc) r1 v wx ∧ wx.heap[bd]? = some (.cells #[.string ⟨ul.toArray⟩, .slice va un vc, .int .i64 ua] 63 (0, 0)))
    case first =>
     cases fl with
     | some t =>
      have e : r1 = Sp.jA r ua ul := by rw [HE1.out]; rfl
      go_wp2_with fail; refine (jU ua ul HS2.out.mkr).mono ?_; rintro e' w3 ⟨rfl, h3, hf3, _⟩; have hS3 := HS2.out.rfr h3 hf3; have hd3 := hf3.at HD2.out (by unfold RT; decide); have HS3 := zh hS3; have HD3 := zh hd3; clear h3 hf3 hS3 hd3; subst e; go_wp2_with fail; go_meet; exact ⟨HS3.out, HD3.out⟩
     | none =>
      have e : r1 = r := by rw [HE1.out]; rfl
      subst e; go_wp2_with fail; go_meet; exact ⟨HS2.out, HD2.out⟩
    case rest =>
     obtain ⟨w3, hw3⟩ : ∃ w3 : World, w3 = wc := ⟨_, rfl⟩
     subst hw3; obtain ⟨hS3, hd3⟩ := hcut; have HS3 := zh hS3; have HD3 := zh hd3; have d0 := zc 0 hd3; have ld := zC hd3; clear hS3 hd3 d2; go_wp2_with fail; refine (zBH ul HS3.out.mkr HRB1.out (by omega)).mono ?_; rintro e w4 ⟨rfl, rfl⟩; have hru := HRU.out
     cases hl : Sp.kC r1.lefts ul with
     | some t =>
      have e : Sp.zAM r ⟨ul, ual, ua⟩ = r1 := by rw [hru, hl]; rfl
      have ht0 : (0 : Int) ≤ (t : Int) := Int.natCast_nonneg _; have HR3 := HR2.out; rw [e] at HR3; dsimp only [ixI]; clear hru hl; go_wp2_with fail; go_roundg (n - (k + 1))
      case measure => omega
      case rel => exact ⟨k + 1, r1, v, by omega, rfl, by go_num, HS3.out, HRB1.out.mono (by omega), HR3⟩
     | none =>
      have e : Sp.zAM r ⟨ul, ual, ua⟩ = { r1 with lefts := r1.lefts ++ [ul] } := by rw [hru, hl]; rfl
      have HR3 := HR2.out; have hrb5 := HRB5.out; rw [e] at HR3 hrb5; have HRB6 := zh hrb5; dsimp only [ixI]; obtain ⟨w4, hw4⟩ : ∃ w4 : World, w4 = w3 := ⟨_, rfl⟩
      subst hw4; have hlf := HS3.out.mkr.lefts; have hmb := HS3.out.mkr.block; obtain ⟨la, lc, hlv⟩ := zJ hlf; obtain ⟨ln, hln⟩ : ∃ ln, ln = r1.lefts.length := ⟨_, rfl⟩
      have hlnb := HRB1.out.lefts; rw [← hln] at hlv hlnb; rw [hlv, ← hln] at hlf; unfold yE at hmb; rw [hlv] at hmb; have hne1 : (Value.slice la ln lc).ownBlock ≠ some m := fun e => zG hlf hmb (by decide) _ e rfl
      have hne2 : (Value.slice la ln lc).ownBlock ≠ some bd := fun e => zG hlf HD3.out (by decide) _ e rfl
      have HMB := zh hmb; have HTR := zh hlf; have HLN := zh hln; have HN1 := zh hne1; have HN2 := zh hne2
      have HSK := zh (fun (w' : World) (kp : Kp (fun b => (Value.slice la ln lc).ownBlock ≠ some b) w4 w') => (show ((w'.cell? ⟨m, 7, none⟩ = some (.slice la ln lc) ∧ w'.frozen? ⟨m, 7, none⟩ = false) ∧ w'.cell? ⟨bd, 0, none⟩ = some (.string ⟨ul.toArray⟩) ∧ m < w'.heap.size ∧ bd < w'.heap.size) from by
       have h1 := kp.at HMB.out HN1.out; have h2 := kp.at HD3.out HN2.out
       exact ⟨⟨zc 7 h1, zf 7 h1⟩, zc 0 h2, zC h1, zC h2⟩))
      have hBs : W.heap.size ≤ w4.heap.size := HS3.out.bel.size; clear hru hl hlf hmb hlv hln hne1 hne2 hrb5; go_upto_region 27 with fail
      refine zF (fun w' : World => ((w'.cell? ⟨m, 7, none⟩ = some (.slice la ln lc) ∧ w'.frozen? ⟨m, 7, none⟩ = false) ∧ w'.cell? ⟨bd, 0, none⟩ = some (.string ⟨ul.toArray⟩) ∧ m < w'.heap.size ∧ bd < w'.heap.size)) [11] (.take 0 (.take 1 (.take 2 (.take 3 (.take 4 (.take 5 (.take 6 (.one 7 (.one 8 (.one 9 (.one 10 (.one 11 (.done))))))))))))) (by kernel_rfl) (by kernel_rfl) (fun c t a w h => hQ c t a w h) ?_; have hSw := HSK.out _ ((Kp.refl _ w4).drew); iterate 7 (refine zO (v := ?_) rfl rfl hSw (by rfl) ?_ ?_; rotate_left 1; (focus (intro w hSx; (try dsimp only at hSx); go_simp; try rfl)); (try simp only [Act.put, zq0, zq1, zq2]))
      refine zB rfl (by rfl) (fun K' hK => ?_); go_simp; refine hK _ _ (.inr (HSK.out _ (((Kp.refl _ w4).drew).alloc (.cells #[.string ⟨ul.toArray⟩] 9)))) ?_; clear hK K' hSw; (try simp only [Act.put, zq0, zq1, zq2]); refine zB rfl (by rfl) (fun K' hK => ?_)
      (refine wp_append_lies _ _ _ _ (by rfl) W.heap.size 9 is0 _ 1 16 Tryz.underlying80 his0 hsz0 hsz1 hsz2 rfl (by omega) _ _ _ (by rfl) (HTR.out.alloc _) ⟨w4.heap.size, 0, none⟩ 1 1 [strV ul] (by rfl) (by rfl) (World.news_of_block (cs := #[.string ⟨ul.toArray⟩]) (t := 9) (fr := (0, 0)) (zE w4 _)) (by simp [Value.oneCell', strV]) (by omega) (by unfold maxLen; omega) (by omega) (by show W.heap.size ≤ (w4.alloc (.cells #[.string ⟨ul.toArray⟩] 9)).heap.size; simp only [World.size_alloc]; omega) _ rfl ?_; intro gg1 cp1 w5 hown1 hgrow1 hat1 hlt1; replace hgrow1 : (w4.alloc (.cells #[.string ⟨ul.toArray⟩] 9)).grownBy w5 (Value.slice la ln lc).ownBlock := ⟨hgrow1.os, hgrow1.tape, hgrow1.output, hgrow1.size, hgrow1.block⟩; have hk5 : Kp (fun b => (Value.slice la ln lc).ownBlock ≠ some b) w4 w5 := ((Kp.refl _ w4).alloc (.cells #[.string ⟨ul.toArray⟩] 9)).grown hgrow1 (fun k hk hs => hs hk))
      refine hK _ _ (.inr (HSK.out _ hk5)) ?_; clear hK K'; (try simp only [Act.put, zq0, zq1, zq2]); iterate 2 (refine zB rfl (by rfl) (fun K' hK => ?_); go_simp; refine hK _ _ (.inr (HSK.out _ hk5)) ?_; clear hK K'; (try simp only [Act.put, zq0, zq1, zq2]))
      refine zB rfl (by rfl) (fun K' hK => ?_)
      (obtain ⟨⟨z1, z2⟩, _, hlz, _⟩ := HSK.out _ hk5; go_simp)
      refine hK _ _ (.inl rfl) ?_; clear hK K'; (try simp only [Act.put, zq0, zq1, zq2]); refine zH ?_; have kt5 : KpT (fun t => t ≠ 9) w4 w5 := (KpT.below ((Below.refl _ w4).alloc (Nat.le_refl _) _)).trans (KpT.grown (HTR.out.alloc _) hgrow1); have hb5 : Below W.heap.size w4 w5 := Kp.below hk5 hBs (fun b hb e => by have := (HTR.out.lt b e).1; omega); obtain ⟨h6, hb6⟩ := HS3.out.mkr.addLeft (p := ul) (by rw [← HLN.out]; exact hown1) kt5 hb5; have km : KpT (fun t => t = 25 ∨ t = 39) w4 (w5.setCell ⟨m, 7, none⟩ (.slice (some ⟨gg1, 0, none⟩) (ln + 1) cp1)) := (kt5.mono (fun t ht => by rcases ht with rfl | rfl <;> decide)).trans ((zY.box1 (kt5 m _ _ _ HS3.out.mkr.block (by decide)) HS3.out.mkr.behind 7 _).1.mono (fun t ht => by rcases ht with rfl | rfl <;> decide)); have hS6 := HS3.out.step h6 hb6 km; have HS6 := zh hS6; clear kt5 hb5 h6 hb6 km hS6 hown1 hgrow1 hat1 hlt1 hk5 z1 z2 hlz HSK; go_wp2_with fail; go_roundg (n - (k + 1))
      case measure => omega
      case rel => exact ⟨k + 1, _, _, by omega, rfl, by go_num, HS6.out, HRB6.out.mono (by omega), HR3⟩
  ·obtain rfl : k = n := by omega
   have hRe : r = RR := by
    have h := HRR.out; rw [List.drop_eq_nil_of_le (by rw [HNE.out]; exact Nat.le_refl _)] at h; exact h
   subst hRe; have hrb3 := HRB.out.mono (show 16004003 + k ≤ 16008003 by omega); have HRB3 := zh hrb3; clear hrb3 HRR; go_wp2_with fail; exact HKK.out _ _ _ _ _ _ _ _ _ _ _ _ _ _ _ _ _ _ _ _ _ _ _ _ _ _ _ _ _ _ _ _ _ _ _ _ _ _ _ _ _ _ _ v HS.out HRB3.out
set_option maxRecDepth 100000 in
set_option maxHeartbeats 12800000 in
theorem of_names {W wm : World} {m : Nat} {x : Sp.zM} {vd vr : Value} {r0 : Sp.Rk} {v0 : RkV}
  {A0 A3 A4 A5 A7 A8 A9 Aa Ab Ac Ae Af Ag Ah Ai Aj Ak Al Am An Ao Ap Aq Ar As At Au Av Aw Ax Ay Az B1 B3 B4 B5 B7 B8 B9 Ba Bb Bc Be Bf Bg Bh Bi Bj Bk Bl Bm Bn Bo Bp Bq Br Bs Bt Bu Bv Bw Bx By Bz C0 C1 C3 C4 C5 C6 C7 C8 C9 Ca Cb Cc Cd Ce Cf Cg Ch Ci Cj Ck Cl Cm Cn Co Cp Cq Cr Cs Ct Cu Cv Cw Cx Cy Cz D0 D1 D2 D3 D4 D5 D6 D7 D8 D9 Da Db Dc Dd De Df Dg Dh Di Dj Dk Dl Dm Dn Do Dp Dq Dr Ds Dt Du Dv Dw Dx Dy Dz E0 E3 E4 E5 E6 E7 E8 E9 Ea Eb Ec Ed Ee Ef Eg Eh Ei Ej Ek El Em En Eo Ep Eq Er Es Et Eu Ev Ew Ex Ey Ez F0 F1 F2 F3 F4 F5 F6 F7 F8 F9 Fa Fb Fc Fd Fe Ff Fg Fh Fi Fj Fk Fl Fm Fn Fo Fp Fq Fr Fs Ft Fu Fv Fw Fx Fy Fz G0 G1 G2 G3 G4 G5 G6 G7 G8 G9 Ga Gb Gc Gd Ge Gf Gg Gh Gi Gj Gk Gm Gn Gq Gs Gu Gv Gw Gx Gy Gz H0 H8 Ha Hb Hc Hd He Hf Hg Hh Hi Hj Hk Hl Hm Hn Ho Hp Hq Hr Hs Ht Hu Hv Hw Hx Hy Hz I0 I1 I2 I3 I4 I5 I6 I7 I8 I9 Ia Ib Ic Id Ie If Ig Ih Ii Ij Ik Il Im In Io Ip Iq Ir Is It Iu Iv Iw Ix Iy Iz J0 J1 J2 J3 J4 J5 J6 J7 J8 J9 Ja Jb Jc Jd Je Jf Jg Jh Ji Jj Jk Jl Jm Jn Jo Jp Jq Jr Js Jt Ju Jv Jw Jx Jy Jz K0 K2 K3 K4 K5 K6 K7 K8 K9 Ka Kb Kc Kd Ke Kf Kg Kh Ki Kj Kk Kl Km Kn Ko Kq Kr Ks Kt Ku Kv Kw Kx Ky Kz L0 L1 L2 L3 L4 L5 L6 L7 L8 L9 La Lb Lc Ld Le Lf Lg Lh Li Lj Ll Lm Ln Lo Lp Lq Lr Ls Lt Lu Lv Lw Lx Ly Lz M0 M1 M2 M3 M4 M5 M6 M7 M8 M9 Ma Mb Mc Md Me Mf Mg Mh Mi Mj Ml Mm Mn Mo Mp Mq : Value} (K : Act → World → Prop) (Q : Exit → Act → World → Prop)
  (hS : OfS W m x vd vr r0 v0 wm) (hd : xD W vd x.decls) (hsm : xN x) (hrb : Sp.RB 16008003 r0)
  (hQ : ∀ c (t : Array Value) (a : Act) w, Q (.panic c) ⟨t, a.defers⟩ w → Q (.panic c) a w)
  (hK : ∀ (Nq O1 Oc Oa Ob Od Oe Of Og Oh Oi Oj Ol Om On Oq Ot Ou Ov Ow Ox Oy Oz P0 P1 P3 P4 P5 P6 P7 P8 P9 Pa Pb Pc Pe Pf Pg Ph Pi Pj Pk Pm Pn Po Pq Pr Ps Pt Pu : Value) (wx : World) (v1 : RkV), OfS W m x vd vr (Sp.gK x.decls r0) v1 wx → Sp.RB 16008003 (Sp.gK x.decls r0) → K ⟨#[A0,.pointer (some ⟨W.heap.size,0,none⟩),.pointer (some ⟨W.heap.size + 1,0,none⟩),A3,A4,A5,.pointer (some ⟨m,0,none⟩),A7,A8,A9,Aa,Ab,Ac,Nq,O1,Oc,Ag,Ah,Ai,Aj,Ak,Al,Am,An,Ao,Ap,Aq,Ar,As,At,Au,Av,Aw,Ax,Ay,Az,B1,B3,B4,B5,B7,B8,B9,Ba,Bb,Bc,Be,Bf,Bg,Bh,Bi,Bj,Bk,Bl,Bm,Bn,Bo,Bp,Bq,Br,Bs,Bt,Bu,Bv,Bw,Bx,By,Bz,C0,C1,C3,C4,C5,C6,C7,C8,C9,Ca,Cb,Cc,Cd,Ce,Cf,Cg,Ch,Ci,Cj,Ck,Cl,Cm,Cn,Co,Cp,Cq,Cr,Cs,Ct,Cu,Cv,Cw,Cx,Cy,Cz,D0,D1,D2,D3,D4,D5,D6,D7,D8,D9,Da,Db,Dc,Dd,De,Df,Dg,Dh,Di,Dj,Dk,Dl,Dm,Dn,Do,Dp,Dq,Dr,Ds,Dt,Du,Dv,Dw,Dx,Dy,Dz,E0,E3,E4,E5,E6,E7,E8,E9,Ea,Oa,Ob,Od,Oe,Of,Og,Oh,Oi,Oj,Ol,Om,On,Oq,Ot,Ou,Ov,Ow,Ox,Oy,Oz,P0,P1,P3,P4,P5,P6,P7,P8,P9,Pa,Pb,Pc,Pe,Pf,Pg,Ph,Pi,Pj,Pk,Pm,Pn,Po,Pq,Pr,Ps,Pt,Pu,Fm,Fn,Fo,Fp,Fq,Fr,Fs,Ft,Fu,Fv,Fw,Fx,Fy,Fz,G0,G1,G2,G3,G4,G5,G6,G7,G8,G9,Ga,Gb,Gc,Gd,Ge,Gf,Gg,Gh,Gi,Gj,Gk,Gm,Gn,Gq,Gs,Gu,Gv,Gw,Gx,Gy,Gz,H0,H8,Ha,Hb,Hc,Hd,He,Hf,Hg,Hh,Hi,Hj,Hk,Hl,Hm,Hn,Ho,Hp,Hq,Hr,Hs,Ht,Hu,Hv,Hw,Hx,Hy,Hz,I0,I1,I2,I3,I4,I5,I6,I7,I8,I9,Ia,Ib,Ic,Id,Ie,If,Ig,Ih,Ii,Ij,Ik,Il,Im,In,Io,Ip,Iq,Ir,Is,It,Iu,Iv,Iw,Ix,Iy,Iz,J0,J1,J2,J3,J4,J5,J6,J7,J8,J9,Ja,Jb,Jc,Jd,Je,Jf,Jg,Jh,Ji,Jj,Jk,Jl,Jm,Jn,Jo,Jp,Jq,Jr,Js,Jt,Ju,Jv,Jw,Jx,Jy,Jz,K0,K2,K3,K4,K5,K6,K7,K8,K9,Ka,Kb,Kc,Kd,Ke,Kf,Kg,Kh,Ki,Kj,Kk,Kl,Km,Kn,Ko,Kq,Kr,Ks,Kt,Ku,Kv,Kw,Kx,Ky,Kz,L0,L1,L2,L3,L4,L5,L6,L7,L8,L9,La,Lb,Lc,Ld,Le,Lf,Lg,Lh,Li,Lj,Ll,Lm,Ln,Lo,Lp,Lq,Lr,Ls,Lt,Lu,Lv,Lw,Lx,Ly,Lz,M0,M1,M2,M3,M4,M5,M6,M7,M8,M9,Ma,Mb,Mc,Md,Me,Mf,Mg,Mh,Mi,Mj,Ml,Mm,Mn,Mo,Mp,Mq], []⟩ wx) :
  Code.wp Tryz.prog (ofBlk 6) (Exit.then K Q) ⟨#[A0,.pointer (some ⟨W.heap.size,0,none⟩),.pointer (some ⟨W.heap.size + 1,0,none⟩),A3,A4,A5,.pointer (some ⟨m,0,none⟩),A7,A8,A9,Aa,Ab,Ac,.int .i64 0,Ae,Af,Ag,Ah,Ai,Aj,Ak,Al,Am,An,Ao,Ap,Aq,Ar,As,At,Au,Av,Aw,Ax,Ay,Az,B1,B3,B4,B5,B7,B8,B9,Ba,Bb,Bc,Be,Bf,Bg,Bh,Bi,Bj,Bk,Bl,Bm,Bn,Bo,Bp,Bq,Br,Bs,Bt,Bu,Bv,Bw,Bx,By,Bz,C0,C1,C3,C4,C5,C6,C7,C8,C9,Ca,Cb,Cc,Cd,Ce,Cf,Cg,Ch,Ci,Cj,Ck,Cl,Cm,Cn,Co,Cp,Cq,Cr,Cs,Ct,Cu,Cv,Cw,Cx,Cy,Cz,D0,D1,D2,D3,D4,D5,D6,D7,D8,D9,Da,Db,Dc,Dd,De,Df,Dg,Dh,Di,Dj,Dk,Dl,Dm,Dn,Do,Dp,Dq,Dr,Ds,Dt,Du,Dv,Dw,Dx,Dy,Dz,E0,E3,E4,E5,E6,E7,E8,E9,Ea,Eb,Ec,Ed,Ee,Ef,Eg,Eh,Ei,Ej,Ek,El,Em,En,Eo,Ep,Eq,Er,Es,Et,Eu,Ev,Ew,Ex,Ey,Ez,F0,F1,F2,F3,F4,F5,F6,F7,F8,F9,Fa,Fb,Fc,Fd,Fe,Ff,Fg,Fh,Fi,Fj,Fk,Fl,Fm,Fn,Fo,Fp,Fq,Fr,Fs,Ft,Fu,Fv,Fw,Fx,Fy,Fz,G0,G1,G2,G3,G4,G5,G6,G7,G8,G9,Ga,Gb,Gc,Gd,Ge,Gf,Gg,Gh,Gi,Gj,Gk,Gm,Gn,Gq,Gs,Gu,Gv,Gw,Gx,Gy,Gz,H0,H8,Ha,Hb,Hc,Hd,He,Hf,Hg,Hh,Hi,Hj,Hk,Hl,Hm,Hn,Ho,Hp,Hq,Hr,Hs,Ht,Hu,Hv,Hw,Hx,Hy,Hz,I0,I1,I2,I3,I4,I5,I6,I7,I8,I9,Ia,Ib,Ic,Id,Ie,If,Ig,Ih,Ii,Ij,Ik,Il,Im,In,Io,Ip,Iq,Ir,Is,It,Iu,Iv,Iw,Ix,Iy,Iz,J0,J1,J2,J3,J4,J5,J6,J7,J8,J9,Ja,Jb,Jc,Jd,Je,Jf,Jg,Jh,Ji,Jj,Jk,Jl,Jm,Jn,Jo,Jp,Jq,Jr,Js,Jt,Ju,Jv,Jw,Jx,Jy,Jz,K0,K2,K3,K4,K5,K6,K7,K8,K9,Ka,Kb,Kc,Kd,Ke,Kf,Kg,Kh,Ki,Kj,Kk,Kl,Km,Kn,Ko,Kq,Kr,Ks,Kt,Ku,Kv,Kw,Kx,Ky,Kz,L0,L1,L2,L3,L4,L5,L6,L7,L8,L9,La,Lb,Lc,Ld,Le,Lf,Lg,Lh,Li,Lj,Ll,Lm,Ln,Lo,Lp,Lq,Lr,Ls,Lt,Lu,Lv,Lw,Lx,Ly,Lz,M0,M1,M2,M3,M4,M5,M6,M7,M8,M9,Ma,Mb,Mc,Md,Me,Mf,Mg,Mh,Mi,Mj,Ml,Mm,Mn,Mo,Mp,Mq], []⟩ wm := by
 obtain ⟨fd, hd1, hd2⟩ := hd; obtain ⟨da, dc, rfl⟩ := hd1.form; rw [List.length_mapIdx] at hd1 hS hK; obtain ⟨n, hn⟩ : ∃ n, n = x.decls.length := ⟨_, rfl⟩
 have hn4 : n ≤ 4000 := by rw [hn]; exact hsm.2.2.1
 rw [← hn] at hd1 hS hK; obtain ⟨RR, hRR⟩ : ∃ RR, RR = Sp.gK x.decls r0 := ⟨_, rfl⟩
 rw [← hRR] at hK; have HS0 := zh hS; have HD1 := zh hd1; have HD2 := zh hd2; have HSM := zh hsm; have HRB := zh hrb; have HNE := zh hn; have HR := zh hRR; clear hS hd1 hd2 hsm hrb hn hRR; have HKK := zh hK; have hM : ∀ a w, Met K a w → K a w := fun _ _ h => h
 clear hK; conv => arg 2; whnf
 go_wp2_with fail; go_loopg [13] n (fun q iv wr => ∃ (k : Nat) (r : Sp.Rk) (v : RkV), k ≤ n ∧ q = n - k ∧ iv = .int .i64 k ∧ OfS W m x (.slice da n dc) vr r v wr ∧ Sp.RB 16008003 r ∧ Sp.gK (x.decls.drop k) r = RR)
 case atStart => exact ⟨0, r0, v0, Nat.zero_le _, rfl, rfl, HS0.out, HRB.out, HR.out.symm⟩
 case round =>
  clear HS0 HR HRB; obtain ⟨k, r, v, hk, rfl, rfl, hS, hrb, hR⟩ := hrel; obtain ⟨wo, hwo⟩ : ∃ wo : World, wo = wr := ⟨_, rfl⟩
  subst hwo; obtain ⟨ko, hko⟩ : ∃ ko : Nat, ko = k := ⟨_, rfl⟩
  subst hko; have HS := zh hS; have HRB := zh hrb; have HRR := zh hR; have hk0 : (0 : Int) ≤ (ko : Int) := Int.natCast_nonneg _; have s1 : wo.cell? ⟨W.heap.size, 1, none⟩ = some (.slice da n dc) := zc 1 hS.sbox; have ls := zC hS.sbox; clear hS hrb hR; by_cases hkn : ko < n
  ·have hk1 : (ko : Int) < (n : Int) := by omega
   have hkd : ko < x.decls.length := by have := HNE.out; omega
   obtain ⟨d, hdk, hdr, hmem⟩ := qO hkd; have hsd := HSM.out.2.2.2.2.1 d hmem; obtain ⟨bo, oo, rfl, hbo, hco⟩ := HD1.out.at (k := ko) (row := xP (fd ko) d) (by rw [List.getElem?_mapIdx, hdk]; rfl); have hsy := HD2.out ko d hdk; obtain ⟨sa, sc, hsv⟩ := hsy.form; rw [List.length_map] at hsv; have hR := HRR.out; rw [hdr, Sp.rnames_cons] at hR; obtain ⟨dk, dt, dsy, dp⟩ := d; simp only at hsv hR hsy hsd hco; obtain ⟨sn, hsn⟩ : ∃ sn, sn = dsy.length := ⟨_, rfl⟩
   have hsn4 : sn ≤ 4000 := by rw [hsn]; exact hsd.2.1
   rw [← hsn] at hsv; rw [hsv] at hsy hco
   have HCO := zh (fun (w' : World) (hb : Below W.heap.size W w') => (show w'.cell? ⟨bo, oo + ko * 4, none⟩ = some (.int .i64 dk) ∧ w'.cell? ⟨bo, oo + ko * 4 + 2, none⟩ = some (.slice sa sn sc) ∧ bo < w'.heap.size from by
    have h := hco w' hb; have g0 := h 0 _ rfl; have g2 := h 2 _ rfl; simp only [Nat.add_zero] at g0
    exact ⟨g0, g2, by have := hb.size; omega⟩))
   have HSY := zh hsy; have HSN := zh hsn; have HR2 := zh hR; clear hco hsv hR hsy hsd hsn hdr hdk hmem HRR hbo; obtain ⟨R2, hR2⟩ : ∃ R2, R2 = Sp.kL dk dsy r := ⟨_, rfl⟩
   have HR3 := HR2; rw [← hR2] at HR3; have HRI := zh hR2; clear hR2 HR2; go_wp2_with fail; go_loopg [14] sn (fun q iv wr => ∃ (j : Nat) (r3 : Sp.Rk) (v3 : RkV), j ≤ sn ∧ q = sn - j ∧ iv = .int .i64 j ∧ OfS W m x (.slice (some ⟨bo, oo, none⟩) n dc) vr r3 v3 wr ∧ Sp.RB 16008003 r3 ∧ Sp.kL dk (dsy.drop j) r3 = R2)
   case atStart => exact ⟨0, r, v, Nat.zero_le _, rfl, rfl, HS.out, HRB.out, HRI.out.symm⟩
   case round =>
    obtain ⟨j, r3, v3, hj, rfl, rfl, hS3, hrb3, hR3⟩ := hrel; obtain ⟨wj, hwj⟩ : ∃ wj : World, wj = wr := ⟨_, rfl⟩
    subst hwj; have HS3 := zh hS3; have HRB3 := zh hrb3; have HR4 := zh hR3; have hj0 : (0 : Int) ≤ (j : Int) := Int.natCast_nonneg _; have s1 : wj.cell? ⟨W.heap.size, 1, none⟩ = some (.slice (some ⟨bo, oo, none⟩) n dc) := zc 1 hS3.sbox; have ls := zC hS3.sbox; obtain ⟨c0, c2, lb⟩ := HCO.out wj hS3.bel; clear hS3 hrb3 hR3; by_cases hjn : j < sn
    ·have hj1 : (j : Int) < (sn : Int) := by omega
     have hjd : j < dsy.length := by have := HSN.out; omega
     obtain ⟨⟨nm, lt, nu, pa⟩, hjk, hjr, hjm⟩ := qO hjd; obtain ⟨bs, os, rfl, hbs, hcs⟩ := HSY.out.at (k := j) (row := symC ⟨nm, lt, nu, pa⟩) (by rw [List.getElem?_map, hjk]; rfl); have hR3 := HR4.out; rw [hjr, Sp.rnamesSyms_cons] at hR3; have hcc := hcs wj HS3.out.bel; have g0 := hcc 0 _ rfl; have g1 := hcc 1 _ rfl; have g2 := hcc 2 _ rfl; have g3 := hcc 3 _ rfl; simp only [Nat.add_zero] at g0; have lbs : bs < wj.heap.size := by have := HS3.out.bel.size; omega
     have HR5 := zh hR3; clear hjk hjr hjm hcs hR3 HR4 hcc hbs; obtain ⟨bx, hbx⟩ : ∃ bx, bx = wj.heap.size := ⟨_, rfl⟩
     obtain ⟨w1, hw1⟩ : ∃ w1, w1 = wj.alloc (.cells #[.string ⟨nm.toArray⟩, .bool lt, .int .i64 nu, .int .i64 pa] 45) := ⟨_, rfl⟩
     have hb1 : Below wj.heap.size wj w1 := by rw [hw1]; exact (Below.refl _ wj).alloc (Nat.le_refl _) _
     have hx1 : w1.heap[bx]? = some (.cells #[.string ⟨nm.toArray⟩, .bool lt, .int .i64 nu, .int .i64 pa] 45 (0, 0)) := by rw [hw1, hbx]; exact zE wj _
     have HS1 := zh (HS3.out.below hb1); have HX := zh hx1; go_upto_region 35 with fail
     rw [← hbx, ← hw1]; clear c0 c2 lb g0 g1 g2 g3 lbs hw1 hbx hb1 s1 ls; have t1 : w1.cell? ⟨W.heap.size, 1, none⟩ = some (.slice (some ⟨bo, oo, none⟩) n dc) := zc 1 HS1.out.sbox; have lt1 := zC HS1.out.sbox; obtain ⟨c0, c2, lb⟩ := HCO.out w1 HS1.out.bel; have x0 := zc 0 hx1; have x3 := zc 3 hx1; have lx := zC hx1; clear hx1; obtain ⟨bb, hbb⟩ : ∃ bb : Bool, bb = (decide (5 ≤ dk) && (Sp.kC r3.lefts nm).isNone) := ⟨_, rfl⟩
     have hst : Sp.gC dk r3 ⟨nm, lt, nu, pa⟩ = if bb = true then Sp.jA r3 pa nm else r3 := by
      rw [hbb]; unfold Sp.gC; simp only [Bool.and_eq_true, decide_eq_true_eq]
     have HBB := zh hbb; have HST := zh hst; clear hbb hst; go_cut [188] from 155 to 194 (fun c wx => c = .bool bb ∧ w1 = wx)
     case first =>
      by_cases h5 : 5 ≤ dk
      ·have e5 : decide (5 ≤ dk) = true := decide_eq_true h5
       go_wp2_with fail; refine (zBH nm HS1.out.mkr HRB3.out (by omega)).mono ?_; rintro e w' ⟨rfl, rfl⟩; have e := HBB.out; rw [e5] at e
       cases ho : Sp.kC r3.lefts nm with
       | some t =>
        have ht0 : (0 : Int) ≤ (t : Int) := Int.natCast_nonneg _; rw [ho] at e; subst e; clear ho; dsimp only [ixI]; go_wp2_with fail; go_meet; exact ⟨rfl, rfl⟩
       | none =>
        rw [ho] at e; subst e; clear ho; dsimp only [ixI]; go_wp2_with fail; go_meet; exact ⟨rfl, rfl⟩
      ·have e5 : decide (5 ≤ dk) = false := decide_eq_false h5
       have e := HBB.out; rw [e5] at e; subst e; go_wp2_with fail; go_meet; exact ⟨rfl, rfl⟩
     case rest =>
      obtain ⟨rfl, rfl⟩ := hcut; have HR6 := HR5.out; rw [HST.out] at HR6
      cases bb with
      | true =>
       rw [if_pos rfl] at HR6; go_wp2_with fail; refine (jU pa nm HS1.out.mkr).mono ?_; rintro e w5 ⟨rfl, h5, hf5, _⟩; have hS5 := HS1.out.rfr h5 hf5; have HS5 := zh hS5; clear h5 hf5 hS5; go_wp2_with fail; go_roundg (sn - (j + 1))
       case measure => omega
       case rel => exact ⟨j + 1, _, v3, by omega, rfl, by go_num, HS5.out, Sp.gW _ _ HRB3.out, HR6⟩
      | false =>
       rw [if_neg (by simp)] at HR6; go_wp2_with fail; go_roundg (sn - (j + 1))
       case measure => omega
       case rel => exact ⟨j + 1, r3, v3, by omega, rfl, by go_num, HS1.out, HRB3.out, HR6⟩
    ·obtain rfl : j = sn := by omega
     have hRe : r3 = R2 := by
      have h := HR4.out; rw [List.drop_eq_nil_of_le (by rw [HSN.out]; exact Nat.le_refl _)] at h; exact h
     have HRE := zh hRe; clear hRe HR4; go_wp2_with fail; go_roundg (n - (ko + 1))
     case measure => omega
     case rel => exact ⟨ko + 1, r3, v3, by omega, rfl, by go_num, HS3.out, HRB3.out, by rw [HRE.out]; exact HR3.out⟩
  ·obtain rfl : ko = n := by omega
   have hRe : r = RR := by
    have h := HRR.out; rw [List.drop_eq_nil_of_le (by rw [HNE.out]; exact Nat.le_refl _)] at h; exact h
   subst hRe; clear HRR; go_wp2_with fail; exact HKK.out _ _ _ _ _ _ _ _ _ _ _ _ _ _ _ _ _ _ _ _ _ _ _ _ _ _ _ _ _ _ _ _ _ _ _ _ _ _ _ _ _ _ _ _ _ _ _ _ _ _ _ v HS.out HRB.out
end Go.Proofs.YtddnomjfcbplpaaGreatDoor
