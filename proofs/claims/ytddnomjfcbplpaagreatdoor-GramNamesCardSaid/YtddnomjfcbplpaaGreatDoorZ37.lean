import Derived.Test.YtddnomjfcbplpaaGreatDoorZ34
import Derived.Test.YtddnomjfcbplpaaGreatDoorZ36
namespace Go.Proofs.YtddnomjfcbplpaaGreatDoor
open Go.RowKit Go.Maps

noncomputable def ofBlk (n : Nat) : Code := (Tryz.f9.body.bind (kU n)).getD .skip
structure OfS (W : World) (m : Nat) (x : Sp.zM) (vd vr : Value) (r : Sp.Rk) (v : RkV) (wx : World) : Prop where
 mkr : zY (fun _ => True) W.heap.size wx m r v
 sbox : wx.heap[W.heap.size]? = some (.cells (srcC vd vr x).toArray 25 (0, 0))
 gbox : wx.heap[W.heap.size + 1]? = some (.cells #[.slice none 0 0, .slice none 0 0, .slice none 0 0, .string ⟨#[]⟩, .string ⟨#[]⟩] 39 (0, 0))
 bel : Below W.heap.size W wx
section
variable {W wx w' : World} {m : Nat} {x : Sp.zM} {vd vr : Value} {r r' : Sp.Rk} {v v' : RkV}
theorem OfS.step (h : OfS W m x vd vr r v wx) (hm : zY (fun _ => True) W.heap.size w' m r' v') (hb : Below W.heap.size wx w') (k : KpT (fun t => t = 25 ∨ t = 39) wx w') : OfS W m x vd vr r' v' w' :=
 ⟨hm, k _ _ _ _ h.sbox (.inl rfl), k _ _ _ _ h.gbox (.inr rfl), h.bel.trans hb⟩
theorem OfS.rfr (h : OfS W m x vd vr r v wx) (hm : zY (fun _ => True) W.heap.size w' m r' v') (hf : RFr W.heap.size wx w') : OfS W m x vd vr r' v' w' :=
 h.step hm hf.1 (hf.2.mono (fun t ht => by unfold RT; rcases ht with rfl | rfl <;> decide))
theorem OfS.below (h : OfS W m x vd vr r v wx) (hb : Below wx.heap.size wx w') : OfS W m x vd vr r v w' :=
 h.rfr (h.mkr.below hb) (RFr.below hb h.bel.size)
end
def GoodD (d : Sp.Decl) : Prop := (1 ≤ d.kind ∧ d.kind ≤ 6) ∧ ∀ s ∈ d.syms, s.lit = true → ∃ c, s.name = [c]
theorem Sp.rsyms_cons (d : Sp.Decl) (s : Sp.Sym) (l : List Sp.Sym) (q : Sp.Rk × List UInt8) : Sp.rsyms d (s :: l) q = Sp.rsyms d l (Sp.rsym q d s) := rfl
theorem Sp.zCW (d : Sp.Decl) (l : List Sp.Decl) (q : Sp.Rk × List UInt8) : Sp.zAX (d :: l) q = Sp.zAX l (Sp.rsyms d d.syms (if 2 ≤ d.kind ∧ d.kind ≤ 4 then { q.1 with level := q.1.level + 1 } else q.1, q.2)) := rfl
theorem Sp.rsym_decl (d : Sp.Decl) (s : Sp.Sym) (q : Sp.Rk × List UInt8) (h : d.kind ≠ 6) : Sp.rsym q d s = (Sp.xO q.1 d s, q.2) := by unfold Sp.rsym; rw [if_pos h]
theorem Sp.rsym_start (d : Sp.Decl) (s : Sp.Sym) (q : Sp.Rk × List UInt8) (h : d.kind = 6) : Sp.rsym q d s = (if q.2 ≠ [] then Sp.jA q.1 s.at_ s.name else q.1, s.name) := by unfold Sp.rsym; rw [if_neg (by simpa using h)]
set_option maxRecDepth 100000 in
set_option maxHeartbeats 12800000 in
theorem of_decls {W wm : World} {m : Nat} {x : Sp.zM} {vd vr : Value} {r0 : Sp.Rk} {v0 : RkV}
  {A0 A3 A4 A5 A9 Aa Ab Ac Ad Ae Af Ag Ah Ai Aj Ak Al Am An Ao Ap Aq Ar As At Au Av Aw Ax Ay Az B1 B3 B4 B5 B7 B8 B9 Ba Bb Bc Be Bf Bg Bh Bi Bj Bk Bl Bm Bn Bo Bp Bq Br Bs Bt Bu Bv Bw Bx By Bz C0 C1 C3 C4 C5 C6 C7 C8 C9 Ca Cb Cc Cd Ce Cf Cg Ch Ci Cj Ck Cl Cm Cn Co Cp Cq Cr Cs Ct Cu Cv Cw Cx Cy Cz D0 D1 D2 D3 D4 D5 D6 D7 D8 D9 Da Db Dc Dd De Df Dg Dh Di Dj Dk Dl Dm Dn Do Dp Dq Dr Ds Dt Du Dv Dw Dx Dy Dz E0 E3 E4 E5 E6 E7 E8 E9 Ea Eb Ec Ed Ee Ef Eg Eh Ei Ej Ek El Em En Eo Ep Eq Er Es Et Eu Ev Ew Ex Ey Ez F0 F1 F2 F3 F4 F5 F6 F7 F8 F9 Fa Fb Fc Fd Fe Ff Fg Fh Fi Fj Fk Fl Fm Fn Fo Fp Fq Fr Fs Ft Fu Fv Fw Fx Fy Fz G0 G1 G2 G3 G4 G5 G6 G7 G8 G9 Ga Gb Gc Gd Ge Gf Gg Gh Gi Gj Gk Gm Gn Gq Gs Gu Gv Gw Gx Gy Gz H0 H8 Ha Hb Hc Hd He Hf Hg Hh Hi Hj Hk Hl Hm Hn Ho Hp Hq Hr Hs Ht Hu Hv Hw Hx Hy Hz I0 I1 I2 I3 I4 I5 I6 I7 I8 I9 Ia Ib Ic Id Ie If Ig Ih Ii Ij Ik Il Im In Io Ip Iq Ir Is It Iu Iv Iw Ix Iy Iz J0 J1 J2 J3 J4 J5 J6 J7 J8 J9 Ja Jb Jc Jd Je Jf Jg Jh Ji Jj Jk Jl Jm Jn Jo Jp Jq Jr Js Jt Ju Jv Jw Jx Jy Jz K0 K2 K3 K4 K5 K6 K7 K8 K9 Ka Kb Kc Kd Ke Kf Kg Kh Ki Kj Kk Kl Km Kn Ko Kq Kr Ks Kt Ku Kv Kw Kx Ky Kz L0 L1 L2 L3 L4 L5 L6 L7 L8 L9 La Lb Lc Ld Le Lf Lg Lh Li Lj Ll Lm Ln Lo Lp Lq Lr Ls Lt Lu Lv Lw Lx Ly Lz M0 M1 M2 M3 M4 M5 M6 M7 M8 M9 Ma Mb Mc Md Me Mf Mg Mh Mi Mj Ml Mm Mn Mo Mp Mq : Value} (K : Act → World → Prop) (Q : Exit → Act → World → Prop)
  (hS : OfS W m x vd vr r0 v0 wm) (hd : xD W vd x.decls) (hsm : xN x) (hgd : ∀ d ∈ x.decls, GoodD d) (hrb : Sp.RB 3 r0)
  (hQ : ∀ c (t : Array Value) (a : Act) w, Q (.panic c) ⟨t, a.defers⟩ w → Q (.panic c) a w)
  (hK : ∀ (x8 x9 Mr V9 Vh Vi Vj Vk Vl Vm Vn Vo Vp Vq Vr Vs Vt Vu Vv Vw Vx Vy Vz W1 W2 W4 W6 W7 W8 W9 Wa Wb Wc Wd We Wf Wg Wh Wi Wj Wk Wl Wm Wn Wo Wp Wq Wr Ws Wt Wu Wv Ww Wx Wy Wz X0 X1 X2 X3 X4 X5 Ms Mt Mu Mv Mw Mx My Mz : Value) (wx : World) (r1 : Sp.Rk) (v1 : RkV) (st : List UInt8), (r1, st) = Sp.zAX x.decls (r0, []) → OfS W m x vd vr r1 v1 wx → Sp.RB 16004003 r1 → K ⟨#[A0,.pointer (some ⟨W.heap.size,0,none⟩),.pointer (some ⟨W.heap.size + 1,0,none⟩),A3,A4,A5,.pointer (some ⟨m,0,none⟩),.string ⟨st.toArray⟩,x8,x9,Mr,Ab,Ac,Ad,Ae,Af,Ag,Ah,Ai,Aj,Ak,Al,Am,An,Ao,Ap,Aq,Ar,As,At,Au,Av,Aw,Ax,Ay,Az,B1,B3,B4,B5,B7,V9,Vh,Vi,Vj,Vk,Vl,Vm,Vn,Vo,Vp,Vq,Vr,Vs,Vt,Vu,Vv,Vw,Vx,Vy,Vz,W1,W2,W4,W6,W7,W8,W9,Wa,Wb,Wc,Wd,We,Wf,Wg,Wh,Wi,Wj,Wk,Wl,Wm,Wn,Wo,Wp,Wq,Wr,Ws,Wt,Wu,Wv,Ww,Wx,Wy,Wz,X0,X1,X2,X3,X4,X5,Ms,Mt,Mu,Mv,Mw,Mx,My,Mz,D5,D6,D7,D8,D9,Da,Db,Dc,Dd,De,Df,Dg,Dh,Di,Dj,Dk,Dl,Dm,Dn,Do,Dp,Dq,Dr,Ds,Dt,Du,Dv,Dw,Dx,Dy,Dz,E0,E3,E4,E5,E6,E7,E8,E9,Ea,Eb,Ec,Ed,Ee,Ef,Eg,Eh,Ei,Ej,Ek,El,Em,En,Eo,Ep,Eq,Er,Es,Et,Eu,Ev,Ew,Ex,Ey,Ez,F0,F1,F2,F3,F4,F5,F6,F7,F8,F9,Fa,Fb,Fc,Fd,Fe,Ff,Fg,Fh,Fi,Fj,Fk,Fl,Fm,Fn,Fo,Fp,Fq,Fr,Fs,Ft,Fu,Fv,Fw,Fx,Fy,Fz,G0,G1,G2,G3,G4,G5,G6,G7,G8,G9,Ga,Gb,Gc,Gd,Ge,Gf,Gg,Gh,Gi,Gj,Gk,Gm,Gn,Gq,Gs,Gu,Gv,Gw,Gx,Gy,Gz,H0,H8,Ha,Hb,Hc,Hd,He,Hf,Hg,Hh,Hi,Hj,Hk,Hl,Hm,Hn,Ho,Hp,Hq,Hr,Hs,Ht,Hu,Hv,Hw,Hx,Hy,Hz,I0,I1,I2,I3,I4,I5,I6,I7,I8,I9,Ia,Ib,Ic,Id,Ie,If,Ig,Ih,Ii,Ij,Ik,Il,Im,In,Io,Ip,Iq,Ir,Is,It,Iu,Iv,Iw,Ix,Iy,Iz,J0,J1,J2,J3,J4,J5,J6,J7,J8,J9,Ja,Jb,Jc,Jd,Je,Jf,Jg,Jh,Ji,Jj,Jk,Jl,Jm,Jn,Jo,Jp,Jq,Jr,Js,Jt,Ju,Jv,Jw,Jx,Jy,Jz,K0,K2,K3,K4,K5,K6,K7,K8,K9,Ka,Kb,Kc,Kd,Ke,Kf,Kg,Kh,Ki,Kj,Kk,Kl,Km,Kn,Ko,Kq,Kr,Ks,Kt,Ku,Kv,Kw,Kx,Ky,Kz,L0,L1,L2,L3,L4,L5,L6,L7,L8,L9,La,Lb,Lc,Ld,Le,Lf,Lg,Lh,Li,Lj,Ll,Lm,Ln,Lo,Lp,Lq,Lr,Ls,Lt,Lu,Lv,Lw,Lx,Ly,Lz,M0,M1,M2,M3,M4,M5,M6,M7,M8,M9,Ma,Mb,Mc,Md,Me,Mf,Mg,Mh,Mi,Mj,Ml,Mm,Mn,Mo,Mp,Mq], []⟩ wx) :
  Code.wp Tryz.prog (ofBlk 0) (Exit.then K Q) ⟨#[A0, .pointer (some ⟨W.heap.size, 0, none⟩), .pointer (some ⟨W.heap.size + 1, 0, none⟩), A3, A4, A5, .pointer (some ⟨m, 0, none⟩), .string ⟨#[]⟩, .int .i64 0, A9, Aa, Ab, Ac, Ad, Ae, Af, Ag, Ah, Ai, Aj, Ak, Al, Am, An, Ao, Ap, Aq, Ar, As, At, Au, Av, Aw, Ax, Ay, Az, B1, B3, B4, B5, B7, B8, B9, Ba, Bb, Bc, Be, Bf, Bg, Bh, Bi, Bj, Bk, Bl, Bm, Bn, Bo, Bp, Bq, Br, Bs, Bt, Bu, Bv, Bw, Bx, By, Bz, C0, C1, C3, C4, C5, C6, C7, C8, C9, Ca, Cb, Cc, Cd, Ce, Cf, Cg, Ch, Ci, Cj, Ck, Cl, Cm, Cn, Co, Cp, Cq, Cr, Cs, Ct, Cu, Cv, Cw, Cx, Cy, Cz, D0, D1, D2, D3, D4, D5, D6, D7, D8, D9, Da, Db, Dc, Dd, De, Df, Dg, Dh, Di, Dj, Dk, Dl, Dm, Dn, Do, Dp, Dq, Dr, Ds, Dt, Du, Dv, Dw, Dx, Dy, Dz, E0, E3, E4, E5, E6, E7, E8, E9, Ea, Eb, Ec, Ed, Ee, Ef, Eg, Eh, Ei, Ej, Ek, El, Em, En, Eo, Ep, Eq, Er, Es, Et, Eu, Ev, Ew, Ex, Ey, Ez, F0, F1, F2, F3, F4, F5, F6, F7, F8, F9, Fa, Fb, Fc, Fd, Fe, Ff, Fg, Fh, Fi, Fj, Fk, Fl, Fm, Fn, Fo, Fp, Fq, Fr, Fs, Ft, Fu, Fv, Fw, Fx, Fy, Fz, G0, G1, G2, G3, G4, G5, G6, G7, G8, G9, Ga, Gb, Gc, Gd, Ge, Gf, Gg, Gh, Gi, Gj, Gk, Gm, Gn, Gq, Gs, Gu, Gv, Gw, Gx, Gy, Gz, H0, H8, Ha, Hb, Hc, Hd, He, Hf, Hg, Hh, Hi, Hj, Hk, Hl, Hm, Hn, Ho, Hp, Hq, Hr, Hs, Ht, Hu, Hv, Hw, Hx, Hy, Hz, I0, I1, I2, I3, I4, I5, I6, I7, I8, I9, Ia, Ib, Ic, Id, Ie, If, Ig, Ih, Ii, Ij, Ik, Il, Im, In, Io, Ip, Iq, Ir, Is, It, Iu, Iv, Iw, Ix, Iy, Iz, J0, J1, J2, J3, J4, J5, J6, J7, J8, J9, Ja, Jb, Jc, Jd, Je, Jf, Jg, Jh, Ji, Jj, Jk, Jl, Jm, Jn, Jo, Jp, Jq, Jr, Js, Jt, Ju, Jv, Jw, Jx, Jy, Jz, K0, K2, K3, K4, K5, K6, K7, K8, K9, Ka, Kb, Kc, Kd, Ke, Kf, Kg, Kh, Ki, Kj, Kk, Kl, Km, Kn, Ko, Kq, Kr, Ks, Kt, Ku, Kv, Kw, Kx, Ky, Kz, L0, L1, L2, L3, L4, L5, L6, L7, L8, L9, La, Lb, Lc, Ld, Le, Lf, Lg, Lh, Li, Lj, Ll, Lm, Ln, Lo, Lp, Lq, Lr, Ls, Lt, Lu, Lv, Lw, Lx, Ly, Lz, M0, M1, M2, M3, M4, M5, M6, M7, M8, M9, Ma, Mb, Mc, Md, Me, Mf, Mg, Mh, Mi, Mj, Ml, Mm, Mn, Mo, Mp, Mq], []⟩ wm := by
 obtain ⟨fd, hd1, hd2⟩ := hd; obtain ⟨da, dc, rfl⟩ := hd1.form; rw [List.length_mapIdx] at hd1 hS hK; obtain ⟨n, hn⟩ : ∃ n, n = x.decls.length := ⟨_, rfl⟩
 have hn4 : n ≤ 4000 := by rw [hn]; exact hsm.2.2.1
 rw [← hn] at hd1 hS hK; obtain ⟨RR, hRR⟩ : ∃ RR, RR = Sp.zAX x.decls (r0, []) := ⟨_, rfl⟩
 rw [← hRR] at hK; have HS0 := zh hS; have HD1 := zh hd1; have HD2 := zh hd2; have HSM := zh hsm; have HGD := zh hgd; have HRB := zh hrb; have HNE := zh hn; have HR := zh hRR; clear hS hd1 hd2 hsm hgd hrb hn hRR; have HKK := zh hK; have hM : ∀ a w, Met K a w → K a w := fun _ _ h => h
 clear hK; conv => arg 2; whnf
 go_wp2_with fail; go_loopg [7, 8] n (fun q v7 iv wr => ∃ (k : Nat) (r : Sp.Rk) (v : RkV) (st : List UInt8), k ≤ n ∧ q = n - k ∧ iv = .int .i64 k ∧ v7 = .string ⟨st.toArray⟩ ∧ OfS W m x (.slice da n dc) vr r v wr ∧ Sp.RB (3 + k * 4001) r ∧ Sp.zAX (x.decls.drop k) (r, st) = RR)
 case atStart => exact ⟨0, r0, v0, [], Nat.zero_le _, rfl, rfl, rfl, HS0.out, HRB.out, HR.out.symm⟩
 case round =>
  clear HS0 HR HRB; obtain ⟨k, r, v, st, hk, rfl, rfl, rfl, hS, hrb, hR⟩ := hrel; obtain ⟨wo, hwo⟩ : ∃ wo : World, wo = wr := ⟨_, rfl⟩
  subst hwo; obtain ⟨ko, hko⟩ : ∃ ko : Nat, ko = k := ⟨_, rfl⟩
  subst hko; have HS := zh hS; have HRB := zh hrb; have HRR := zh hR; have hk0 : (0 : Int) ≤ (ko : Int) := Int.natCast_nonneg _; have s1 : wo.cell? ⟨W.heap.size, 1, none⟩ = some (.slice da n dc) := zc 1 hS.sbox; have ls := zC hS.sbox; clear hS hrb hR; by_cases hkn : ko < n
  ·have hk1 : (ko : Int) < (n : Int) := by omega
   have hkd : ko < x.decls.length := by have := HNE.out; omega
   obtain ⟨d, hdk, hdr, hmem⟩ := qO hkd; have hgd := HGD.out d hmem; have hsd := HSM.out.2.2.2.2.1 d hmem; obtain ⟨bo, oo, rfl, hbo, hco⟩ := HD1.out.at (k := ko) (row := xP (fd ko) d) (by rw [List.getElem?_mapIdx, hdk]; rfl); have hcells := hco wo HS.out.bel; have hsy := HD2.out ko d hdk; obtain ⟨sa, sc, hsv⟩ := hsy.form; rw [List.length_map] at hsv; have hR := HRR.out; rw [hdr, Sp.zCW] at hR; obtain ⟨dk, dt, dsy, dp⟩ := d; simp only at hsv hR hsy hgd hsd; obtain ⟨sn, hsn⟩ : ∃ sn, sn = dsy.length := ⟨_, rfl⟩
   have hsn4 : sn ≤ 4000 := by rw [hsn]; exact hsd.2.1
   rw [← hsn] at hsv; rw [hsv] at hsy hcells; have c0 := hcells 0 _ rfl; have c1 := hcells 1 _ rfl; have c2 := hcells 2 _ rfl; have c3 := hcells 3 _ rfl; simp only [Nat.add_zero] at c0 c1 c2 c3; have hbl : bo < wo.heap.size := by have := HS.out.bel.size; omega
   obtain ⟨⟨hdk1, hdk6⟩, hgs⟩ := hgd; have HGS := zh hgs; have HSY := zh hsy; have HSN := zh hsn; have HR2 := zh hR; clear hcells hco hsv hR hsy hsd hgs hsn hdr hdk hmem HRR; obtain ⟨bd, hbd⟩ : ∃ bd, bd = wo.heap.size := ⟨_, rfl⟩
   obtain ⟨w1, hw1⟩ : ∃ w1, w1 = wo.alloc (.cells #[.int .i64 dk, .string ⟨dt.toArray⟩, .slice sa sn sc, .int .i64 dp] 57) := ⟨_, rfl⟩
   have hb1 : Below wo.heap.size wo w1 := by rw [hw1]; exact (Below.refl _ wo).alloc (Nat.le_refl _) _
   have hd1 : w1.heap[bd]? = some (.cells #[.int .i64 dk, .string ⟨dt.toArray⟩, .slice sa sn sc, .int .i64 dp] 57 (0, 0)) := by rw [hw1, hbd]; exact zE wo _
   have HS1 := zh (HS.out.below hb1); have HD := zh hd1; go_upto_region 10 with fail
   rw [← hbd, ← hw1]; have d0 := zc 0 hd1; have ld := zC hd1; clear hbd hw1 hb1 hd1 c0 c1 c2 c3 hbl hbo s1 ls HS; obtain ⟨r2, hr2⟩ : ∃ r2, r2 = (if 2 ≤ dk ∧ dk ≤ 4 then { r with level := r.level + 1 } else r) := ⟨_, rfl⟩
   rw [← hr2] at HR2
   have hrb2 : Sp.RB (3 + ko * 4001 + 1) r2 := by
    rw [hr2]; split
    ·obtain ⟨q0, q1, q2, q3, q4, q5, q6, q7⟩ := HRB.out
     exact ⟨q0, by simp only; omega, by simp only; omega, by simp only; omega, by simp only; omega, by simp only; omega, by simp only; omega, by simp only; omega⟩
    ·exact HRB.out.mono (by omega)
   have HRB2 := zh hrb2; have HE2 := zh hr2; have hlv := HRB.out.level; clear hrb2 hr2; go_cut [60] from 41 to 107 (fun c wx => c = .bool (decide (2 ≤ dk) && decide (dk ≤ 4)) ∧ w1 = wx)
   case first =>
    by_cases h2 : 2 ≤ dk
    ·have e2 : decide (2 ≤ dk) = true := decide_eq_true h2
     go_wp2_with fail; go_meet; exact ⟨by first | (rw [e2]; rfl) | simp_all, rfl⟩
    ·have e2 : decide (2 ≤ dk) = false := decide_eq_false h2
     go_wp2_with fail; go_meet; exact ⟨by first | (rw [e2]; rfl) | simp_all, rfl⟩
   case rest =>
    obtain ⟨rfl, rfl⟩ := hcut; go_upto_if 60 with fail
    go_cut [] from 41 to 107 (fun wx => OfS W m x (.slice (some ⟨bo, oo, none⟩) n dc) vr r2 v wx ∧ wx.heap[bd]? = some (.cells #[.int .i64 dk, .string ⟨dt.toArray⟩, .slice sa sn sc, .int .i64 dp] 57 (0, 0)))
    case first =>
     by_cases h2 : 2 ≤ dk ∧ dk ≤ 4
     ·have e : r2 = { r with level := r.level + 1 } := by rw [HE2.out, if_pos h2]
      obtain ⟨h2a, h2b⟩ := h2; have e1 : decide (2 ≤ dk) = true := decide_eq_true h2a; have e2 : decide (dk ≤ 4) = true := decide_eq_true h2b; have hmb := HS1.out.mkr.block; unfold yE at hmb; have c11 := zc 11 hmb; have f11 := zf 11 hmb; have lm := zC hmb; obtain ⟨q1, q2⟩ := hlv; have hwl : IntKind.i64.wrap (r.level + 1) = r.level + 1 := IntWalk.i64_in _ ⟨by omega, by omega⟩
      have hst2 : OfS W m x (.slice (some ⟨bo, oo, none⟩) n dc) vr r2 v (w1.setCell ⟨m, 11, none⟩ (.int .i64 (r.level + 1))) := by
       have hbx := zY.box1 HS1.out.mkr.block HS1.out.mkr.behind 11 (.int .i64 (r.level + 1)); refine HS1.out.rfr (HS1.out.mkr.box hbx.1 ?_ ?_ ?_ ?_ ?_ ?_) hbx.2
       ·rw [e]; exact zA HS1.out.mkr.block
       all_goals rw [e]
      have hd2 := (zY.box1 HS1.out.mkr.block HS1.out.mkr.behind 11 (.int .i64 (r.level + 1))).2.at HD.out (by unfold RT; decide); have HST2 := zh hst2; have HD2 := zh hd2; clear hmb hst2 hd2; go_wp2_with fail; go_meet; exact ⟨HST2.out, HD2.out⟩
     ·have e : r2 = r := by rw [HE2.out, if_neg h2]
      have e1 : (decide (2 ≤ dk) && decide (dk ≤ 4)) = false := by rw [← Bool.decide_and]; exact decide_eq_false h2
      subst e; go_wp2_with fail; go_meet; exact ⟨HS1.out, HD.out⟩
    case rest =>
     obtain ⟨w2, hw2⟩ : ∃ w2 : World, w2 = wc := ⟨_, rfl⟩
     subst hw2; obtain ⟨hS2, hd2⟩ := hcut; have HS2 := zh hS2; have HD2 := zh hd2; obtain ⟨R2, hR2⟩ : ∃ R2, R2 = Sp.rsyms ⟨dk, dt, dsy, dp⟩ dsy (r2, st) := ⟨_, rfl⟩
     have HR3 := HR2; rw [← hR2] at HR3; have HRI := zh hR2; clear hS2 hd2 hR2 HR2 HS1 HD d0 ld; go_wp2_with fail; go_loopg [7, 10] sn (fun q v7 iv wr => ∃ (j : Nat) (r3 : Sp.Rk) (v3 : RkV) (s3 : List UInt8), j ≤ sn ∧ q = sn - j ∧ iv = .int .i64 j ∧ v7 = .string ⟨s3.toArray⟩ ∧ OfS W m x (.slice (some ⟨bo, oo, none⟩) n dc) vr r3 v3 wr ∧ wr.heap[bd]? = some (.cells #[.int .i64 dk, .string ⟨dt.toArray⟩, .slice sa sn sc, .int .i64 dp] 57 (0, 0)) ∧ Sp.RB (3 + ko * 4001 + 1 + j) r3 ∧ Sp.rsyms ⟨dk, dt, dsy, dp⟩ (dsy.drop j) (r3, s3) = R2)
     case atStart => exact ⟨0, r2, v, st, Nat.zero_le _, rfl, rfl, rfl, HS2.out, HD2.out, HRB2.out, HRI.out.symm⟩
     case round =>
      obtain ⟨j, r3, v3, s3, hj, rfl, rfl, rfl, hS3, hd3, hrb3, hR3⟩ := hrel; obtain ⟨wj, hwj⟩ : ∃ wj : World, wj = wr := ⟨_, rfl⟩
      subst hwj; have HS3 := zh hS3; have HD3 := zh hd3; have HRB3 := zh hrb3; have HR4 := zh hR3; have hj0 : (0 : Int) ≤ (j : Int) := Int.natCast_nonneg _; have d0 := zc 0 hd3; have d2 := zc 2 hd3; have ld := zC hd3; clear hS3 hd3 hrb3 hR3; by_cases hjn : j < sn
      ·have hj1 : (j : Int) < (sn : Int) := by omega
       have hjd : j < dsy.length := by have := HSN.out; omega
       obtain ⟨⟨nm, lt, nu, pa⟩, hjk, hjr, hjm⟩ := qO hjd; obtain ⟨bs, os, rfl, hbs, hcs⟩ := HSY.out.at (k := j) (row := symC ⟨nm, lt, nu, pa⟩) (by rw [List.getElem?_map, hjk]; rfl); have hR3 := HR4.out; rw [hjr, Sp.rsyms_cons] at hR3; have HG1 := zh (HGS.out _ hjm); have HCS := zh hcs; have hsz := HS3.out.bel.size
       have HSK := zh (fun (w' : World) (hb : Below wj.heap.size wj w') => (show (w'.cell? ⟨bd, 0, none⟩ = some (.int .i64 dk) ∧ w'.cell? ⟨bd, 1, none⟩ = some (.string ⟨dt.toArray⟩) ∧ w'.cell? ⟨bd, 2, none⟩ = some (.slice (some ⟨bs, os, none⟩) sn sc) ∧ w'.cell? ⟨bd, 3, none⟩ = some (.int .i64 dp) ∧ w'.cell? ⟨bs, os + j * 4, none⟩ = some (.string ⟨nm.toArray⟩) ∧ w'.cell? ⟨bs, os + j * 4 + 1, none⟩ = some (.bool lt) ∧ w'.cell? ⟨bs, os + j * 4 + 2, none⟩ = some (.int .i64 nu) ∧ w'.cell? ⟨bs, os + j * 4 + 3, none⟩ = some (.int .i64 pa) ∧ bd < w'.heap.size ∧ bs < w'.heap.size) from by
        have h1 := (hb.block _ (zC HD3.out)).trans HD3.out; have hcc := HCS.out w' (HS3.out.bel.trans (hb.mono hsz)); have g0 := hcc 0 _ rfl; have g1 := hcc 1 _ rfl; have g2 := hcc 2 _ rfl; have g3 := hcc 3 _ rfl; simp only [Nat.add_zero] at g0
        exact ⟨zc 0 h1, zc 1 h1, zc 2 h1, zc 3 h1, g0, g1, g2, g3, zC h1, by have := hb.size; omega⟩))
       have HR5 := zh hR3; clear hjk hjr hjm hcs hR3 HR4; by_cases h6 : dk = 6
       ·have e6 := Sp.rsym_start ⟨dk, dt, dsy, dp⟩ ⟨nm, lt, nu, pa⟩ (r3, s3) h6
        have HR6 := HR5; rw [e6] at HR6; clear e6 HR5; subst h6; by_cases hs3 : s3 = []
        ·subst hs3
         rw [if_neg (by simp)] at HR6; obtain ⟨c0, c1, c2, c3, g0, g1, g2, g3, l1, l2⟩ := HSK.out wj (Below.refl _ _); go_wp2_with fail; go_roundg (sn - (j + 1))
         case measure => omega
         case rel => exact ⟨j + 1, r3, v3, nm, by omega, rfl, by go_num, rfl, HS3.out, HD3.out, HRB3.out.mono (by omega), HR6.out⟩
        ·have hse : (!s3.isEmpty) = true := by cases s3 with
          | nil => exact absurd rfl hs3
          | cons a l => rfl
         rw [if_pos hs3] at HR6; have HFL := zh (fun (w' : World) (hb : Below wj.heap.size wj w') => jU pa nm (HS3.out.mkr.below hb)); go_upto_region 18 with fail
         refine zF (fun w' : World => (w'.cell? ⟨bd, 0, none⟩ = some (.int .i64 6) ∧ w'.cell? ⟨bd, 1, none⟩ = some (.string ⟨dt.toArray⟩) ∧ w'.cell? ⟨bd, 2, none⟩ = some (.slice (some ⟨bs, os, none⟩) sn sc) ∧ w'.cell? ⟨bd, 3, none⟩ = some (.int .i64 dp) ∧ w'.cell? ⟨bs, os + j * 4, none⟩ = some (.string ⟨nm.toArray⟩) ∧ w'.cell? ⟨bs, os + j * 4 + 1, none⟩ = some (.bool lt) ∧ w'.cell? ⟨bs, os + j * 4 + 2, none⟩ = some (.int .i64 nu) ∧ w'.cell? ⟨bs, os + j * 4 + 3, none⟩ = some (.int .i64 pa) ∧ bd < w'.heap.size ∧ bs < w'.heap.size)) [13] (.take 0 (.take 1 (.take 2 (.take 3 (.take 4 (.take 5 (.take 6 (.take 7 (.take 8 (.take 9 (.take 10 (.take 11 (.take 12 (.one 13 (.done))))))))))))))) (by kernel_rfl) (by kernel_rfl) (fun c t a w h => hQ c t a w h) ?_; have hSw := HSK.out _ (below_drewN (Below.refl _ wj) 1); iterate 13 (refine zO (v := ?_) rfl rfl hSw (by rfl) ?_ ?_; rotate_left 1; (focus (intro w hSx; (try dsimp only at hSx); go_simp; try rfl)); (try simp only [Act.put, zq0, zq1, zq2]))
         refine zB rfl (by rfl) (fun K' hK => ?_)
         (go_simp; go_at_call 28; refine (HFL.out _ (below_drewN (Below.refl _ wj) 1)).mono ?_; rintro e w5 ⟨rfl, h5, hf5', _⟩; have hf5 : RFr W.heap.size wj w5 := ⟨zI hf5'.1, hf5'.2⟩; clear hf5')
         refine hK _ _ (.inl rfl) ?_; clear hK K' hSw; (try simp only [Act.put, zq0, zq1, zq2]); refine zH ?_; have hS5 := HS3.out.rfr h5 hf5; have hd5 := hf5.at HD3.out (by unfold RT; decide); have hcc := HCS.out w5 hS5.bel; have g0 := hcc 0 _ rfl; simp only [Nat.add_zero] at g0; have d2 := zc 2 hd5; have ld := zC hd5; have lbs : bs < w5.heap.size := by have := hS5.bel.size; omega
         have HS5 := zh hS5; have HD5 := zh hd5; clear h5 hf5 hS5 hd5 hcc HSK HCS HFL d0; go_wp2_with fail; go_roundg (sn - (j + 1))
         case measure => omega
         case rel => exact ⟨j + 1, _, v3, nm, by omega, rfl, by go_num, rfl, HS5.out, HD5.out, (Sp.gW _ _ HRB3.out).mono (by omega), HR6.out⟩
       ·have h6b : (dk == 6) = false := by rw [beq_eq_false_iff_ne]; exact h6
        have h6n : (dk != 6) = true := by rw [bne_iff_ne]; exact h6
        have HR6 := HR5; rw [Sp.rsym_decl _ _ _ h6] at HR6; have hrb4 := Sp.rdeclare_RB ⟨dk, dt, dsy, dp⟩ ⟨nm, lt, nu, pa⟩ HRB3.out; have HDC := zh (fun (w' : World) (hb : Below wj.heap.size wj w') => (show Calls Tryz.prog 27 #[.pointer (some ⟨m, 0, none⟩), .agg #[.int .i64 dk, .string ⟨dt.toArray⟩, .slice (some ⟨bs, os, none⟩) sn sc, .int .i64 dp], .agg #[.string ⟨nm.toArray⟩, .bool lt, .int .i64 nu, .int .i64 pa]] w' (fun e w'' => e = .returned (.tuple #[]) ∧ gR (fun _ => True) W.heap.size m v3.pv w' (Sp.xO r3 ⟨dk, dt, dsy, dp⟩ ⟨nm, lt, nu, pa⟩) w'') from ref_declare ⟨dk, dt, dsy, dp⟩ (.slice (some ⟨bs, os, none⟩) sn sc) ⟨nm, lt, nu, pa⟩ (HS3.out.mkr.below hb) HRB3.out (by omega) HG1.out ⟨hdk1, hdk6⟩)); have HRB4 := zh hrb4; clear hrb4 HR5; go_upto_region 16 with fail
        refine zF (fun w' : World => (w'.cell? ⟨bd, 0, none⟩ = some (.int .i64 dk) ∧ w'.cell? ⟨bd, 1, none⟩ = some (.string ⟨dt.toArray⟩) ∧ w'.cell? ⟨bd, 2, none⟩ = some (.slice (some ⟨bs, os, none⟩) sn sc) ∧ w'.cell? ⟨bd, 3, none⟩ = some (.int .i64 dp) ∧ w'.cell? ⟨bs, os + j * 4, none⟩ = some (.string ⟨nm.toArray⟩) ∧ w'.cell? ⟨bs, os + j * 4 + 1, none⟩ = some (.bool lt) ∧ w'.cell? ⟨bs, os + j * 4 + 2, none⟩ = some (.int .i64 nu) ∧ w'.cell? ⟨bs, os + j * 4 + 3, none⟩ = some (.int .i64 pa) ∧ bd < w'.heap.size ∧ bs < w'.heap.size)) [7] (.take 0 (.take 1 (.take 2 (.take 3 (.take 4 (.take 5 (.take 6 (.one 7 (.done))))))))) (by kernel_rfl) (by kernel_rfl) (fun c t a w h => hQ c t a w h) ?_; have hSw := HSK.out _ (below_drewN (Below.refl _ wj) 1); iterate 7 (refine zO (v := ?_) rfl rfl hSw (by rfl) ?_ ?_; rotate_left 1; (focus (intro w hSx; (try dsimp only at hSx); go_simp; try rfl)); (try simp only [Act.put, zq0, zq1, zq2]))
        refine zB rfl (by rfl) (fun K' hK => ?_)
        (go_simp; go_at_call 27; refine (HDC.out _ (below_drewN (Below.refl _ wj) 1)).mono ?_; rintro e w5 ⟨rfl, v5, h5, hf5', _⟩; have hf5 : RFr W.heap.size wj w5 := ⟨zI hf5'.1, hf5'.2⟩; clear hf5')
        refine hK _ _ (.inl rfl) ?_; clear hK K' hSw; (try simp only [Act.put, zq0, zq1, zq2]); refine zH ?_; have hS5 := HS3.out.rfr h5 hf5; have hd5 := hf5.at HD3.out (by unfold RT; decide); have HS5 := zh hS5; have HD5 := zh hd5; clear h5 hf5 hS5 hd5 HSK HCS HDC d0 d2 ld; go_wp2_with fail; go_roundg (sn - (j + 1))
        case measure => omega
        case rel => exact ⟨j + 1, _, v5, s3, by omega, rfl, by go_num, rfl, HS5.out, HD5.out, HRB4.out.mono (by omega), HR6.out⟩
      ·obtain rfl : j = sn := by omega
       have hRe : (r3, s3) = R2 := by
        have h := HR4.out; rw [List.drop_eq_nil_of_le (by rw [HSN.out]; exact Nat.le_refl _)] at h; exact h
       have HRE := zh hRe; clear hRe HR4; go_wp2_with fail; go_roundg (n - (ko + 1))
       case measure => omega
       case rel => exact ⟨ko + 1, r3, v3, s3, by omega, rfl, by go_num, rfl, HS3.out, HRB3.out.mono (by omega), by rw [HRE.out]; exact HR3.out⟩
  ·obtain rfl : ko = n := by omega
   have hRe : (r, st) = RR := by
    have h := HRR.out; rw [List.drop_eq_nil_of_le (by rw [HNE.out]; exact Nat.le_refl _)] at h; exact h
   have HRE := zh hRe; have hrb3 := HRB.out.mono (show 3 + ko * 4001 ≤ 16004003 by omega); have HRB3 := zh hrb3; clear hRe hrb3 HRR; go_wp2_with fail; exact HKK.out _ _ _ _ _ _ _ _ _ _ _ _ _ _ _ _ _ _ _ _ _ _ _ _ _ _ _ _ _ _ _ _ _ _ _ _ _ _ _ _ _ _ _ _ _ _ _ _ _ _ _ _ _ _ _ _ _ _ _ _ _ _ _ _ _ _ _ _ _ _ _ r v st HRE.out HS.out HRB3.out
end Go.Proofs.YtddnomjfcbplpaaGreatDoor
