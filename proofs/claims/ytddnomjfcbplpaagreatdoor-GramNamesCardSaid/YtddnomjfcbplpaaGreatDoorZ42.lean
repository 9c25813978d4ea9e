import Derived.Test.YtddnomjfcbplpaaGreatDoorZ41
namespace Go.Proofs.YtddnomjfcbplpaaGreatDoor
open Go.RowKit Go.Maps

theorem OfN.toks {W wx w' : World} {m : Nat} {x : Sp.zM} {vd vr : Value} {r r' : Sp.Rk} {v : RkV} {L : List Sp.Non} (h : OfN W m x vd vr r v L wx) (hm : zY (fun _ => True) W.heap.size w' m r' v) (hf : RFr W.heap.size wx w') (k : KpT (fun t => t ≠ 65) wx w') : OfN W m x vd vr r' v L w' :=
 ⟨h.os.rfr hm hf, zD h.nons k (by decide), h.apart⟩
set_option maxRecDepth 100000 in
set_option maxHeartbeats 12800000 in
theorem of_numbers {W wm : World} {m : Nat} {x : Sp.zM} {vd vr : Value} {r0 : Sp.Rk} {v0 : RkV} {L : List Sp.Non}
  {A0 A3 A4 A5 A7 A8 A9 Aa Ab Ac Ad Ae Af Ag Ah Ai Aj Ak Al Ao Ap Aq Ar As At Au Av Aw Ax Ay Az B1 B3 B4 B5 B7 B8 B9 Ba Bb Bc Be Bf Bg Bh Bi Bj Bk Bl Bm Bn Bo Bp Bq Br Bs Bt Bu Bv Bw Bx By Bz C0 C1 C3 C4 C5 C6 C7 C8 C9 Ca Cb Cc Cd Ce Cf Cg Ch Ci Cj Ck Cl Cm Cn Co Cp Cq Cr Cs Ct Cu Cv Cw Cx Cy Cz D0 D1 D2 D3 D4 D5 D6 D7 D8 D9 Da Db Dc Dd De Df Dg Dh Di Dj Dk Dl Dm Dn Do Dp Dq Dr Ds Dt Du Dv Dw Dx Dy Dz E0 E3 E4 E5 E6 E7 E8 E9 Ea Eb Ec Ed Ee Ef Eg Eh Ei Ej Ek El Em En Eo Ep Eq Er Es Et Eu Ev Ew Ex Ey Ez F0 F1 F2 F3 F4 F5 F6 F7 F8 F9 Fa Fb Fc Fd Fe Ff Fg Fh Fi Fj Fk Fl Fm Fn Fo Fp Fq Fr Fs Ft Fu Fv Fw Fx Fy Fz G0 G1 G2 G3 G4 G5 G6 G7 G8 G9 Ga Gb Gc Gd Ge Gf Gg Gh Gi Gj Gk Gm Gn Gq Gs Gu Gv Gw Gx Gy Gz H0 H8 Ha Hb Hc Hd He Hf Hg Hh Hi Hj Hk Hl Hm Hn Ho Hp Hq Hr Hs Ht Hu Hv Hw Hx Hy Hz I0 I1 I2 I3 I4 I5 I6 I7 I8 I9 Ia Ib Ic Id Ie If Ig Ih Ii Ij Ik Il Im In Io Ip Iq Ir Is It Iu Iv Iw Ix Iy Iz J0 J1 J2 J3 J4 J5 J6 J7 J8 J9 Ja Jb Jc Jd Je Jf Jg Jh Ji Jj Jk Jl Jm Jn Jo Jp Jq Jr Js Jt Ju Jv Jw Jx Jy Jz K0 K2 K3 K4 K5 K6 K7 K8 K9 Ka Kb Kc Kd Ke Kf Kg Kh Ki Kj Kk Kl Km Kn Ko Kq Kr Ks Kt Ku Kv Kw Kx Ky Kz L0 L1 L2 L3 L4 L5 L6 L7 L8 L9 La Lb Lc Ld Le Lf Lg Lh Li Lj Ll Lm Ln Lo Lp Lq Lr Ls Lt Lu Lv Lw Lx Ly Lz M0 M1 M2 M3 M4 M5 M6 M7 M8 M9 Ma Mb Mc Md Me Mf Mg Mh Mi Mj Ml Mm Mn Mo Mp Mq : Value} (K : Act → World → Prop) (Q : Exit → Act → World → Prop)
  (hS : OfN W m x vd vr r0 v0 L wm) (hrb : Sp.RB (2 ^ 38) r0)
  (hQ : ∀ c (t : Array Value) (a : Act) w, Q (.panic c) ⟨t, a.defers⟩ w → Q (.panic c) a w)
  (hK : ∀ (Qm Qx Tr Tt Tu Tv Tw Tx Ty Tz U0 U1 U2 U4 U5 U6 U7 U8 U9 Ua Ub Uc Ud Uf Ug Uh Ui Uj Uk Ul Um : Value) (wx : World), OfN W m x vd vr { r0 with toks := Sp.qI r0 } v0 L wx → K ⟨#[A0,.pointer (some ⟨W.heap.size,0,none⟩),.pointer (some ⟨W.heap.size + 1,0,none⟩),A3,A4,A5,.pointer (some ⟨m,0,none⟩),A7,A8,A9,Aa,Ab,Ac,Ad,Ae,Af,Ag,Ah,Ai,Aj,Ak,Al,Qm,Qx,Ao,Ap,Aq,Ar,As,At,Au,Av,Aw,Ax,Ay,Az,B1,B3,B4,B5,B7,B8,B9,Ba,Bb,Bc,Be,Bf,Bg,Bh,Bi,Bj,Bk,Bl,Bm,Bn,Bo,Bp,Bq,Br,Bs,Bt,Bu,Bv,Bw,Bx,By,Bz,C0,C1,C3,C4,C5,C6,C7,C8,C9,Ca,Cb,Cc,Cd,Ce,Cf,Cg,Ch,Ci,Cj,Ck,Cl,Cm,Cn,Co,Cp,Cq,Cr,Cs,Ct,Cu,Cv,Cw,Cx,Cy,Cz,D0,D1,D2,D3,D4,D5,D6,D7,D8,D9,Da,Db,Dc,Dd,De,Df,Dg,Dh,Di,Dj,Dk,Dl,Dm,Dn,Do,Dp,Dq,Dr,Ds,Dt,Du,Dv,Dw,Dx,Dy,Dz,E0,E3,E4,E5,E6,E7,E8,E9,Ea,Eb,Ec,Ed,Ee,Ef,Eg,Eh,Ei,Ej,Ek,El,Em,En,Eo,Ep,Eq,Er,Es,Et,Eu,Ev,Ew,Ex,Ey,Ez,F0,F1,F2,F3,F4,F5,F6,F7,F8,F9,Fa,Fb,Fc,Fd,Fe,Ff,Fg,Fh,Fi,Fj,Fk,Fl,Fm,Fn,Fo,Fp,Fq,Fr,Fs,Ft,Fu,Fv,Fw,Fx,Fy,Fz,G0,G1,G2,G3,G4,G5,G6,G7,G8,G9,Ga,Gb,Gc,Gd,Ge,Gf,Gg,Gh,Gi,Gj,Gk,Gm,Gn,Gq,Gs,Gu,Gv,Gw,Gx,Gy,Gz,H0,H8,Ha,Hb,Hc,Hd,He,Hf,Hg,Hh,Hi,Hj,Hk,Hl,Hm,Hn,Ho,Hp,Hq,Hr,Hs,Ht,Hu,Hv,Hw,Hx,Hy,Hz,I0,I1,I2,I3,I4,I5,I6,I7,I8,I9,Ia,Ib,Ic,Id,Ie,If,Ig,Ih,Ii,Ij,Ik,Il,Im,In,Io,Ip,Iq,Ir,Is,It,Iu,Iv,Iw,Ix,Iy,Iz,J0,J1,J2,J3,J4,J5,J6,J7,J8,J9,Ja,Jb,Jc,Jd,Je,Jf,Jg,Jh,Ji,Jj,Jk,Jl,Jm,Jn,Jo,Jp,Jq,Jr,Js,Jt,Ju,Jv,Jw,Jx,Jy,Tr,Tt,Tu,Tv,Tw,Tx,Ty,Tz,U0,U1,U2,U4,U5,U6,U7,U8,U9,Ua,Ub,Uc,Ud,Uf,Ug,Uh,Ui,Uj,Uk,Ul,Um,Ku,Kv,Kw,Kx,Ky,Kz,L0,L1,L2,L3,L4,L5,L6,L7,L8,L9,La,Lb,Lc,Ld,Le,Lf,Lg,Lh,Li,Lj,Ll,Lm,Ln,Lo,Lp,Lq,Lr,Ls,Lt,Lu,Lv,Lw,Lx,Ly,Lz,M0,M1,M2,M3,M4,M5,M6,M7,M8,M9,Ma,Mb,Mc,Md,Me,Mf,Mg,Mh,Mi,Mj,Ml,Mm,Mn,Mo,Mp,Mq], []⟩ wx) :
  Code.wp Tryz.prog (ofBlk 18) (Exit.then K Q) ⟨#[A0,.pointer (some ⟨W.heap.size,0,none⟩),.pointer (some ⟨W.heap.size + 1,0,none⟩),A3,A4,A5,.pointer (some ⟨m,0,none⟩),A7,A8,A9,Aa,Ab,Ac,Ad,Ae,Af,Ag,Ah,Ai,Aj,Ak,Al,.int .i64 57346,.int .i64 3,Ao,Ap,Aq,Ar,As,At,Au,Av,Aw,Ax,Ay,Az,B1,B3,B4,B5,B7,B8,B9,Ba,Bb,Bc,Be,Bf,Bg,Bh,Bi,Bj,Bk,Bl,Bm,Bn,Bo,Bp,Bq,Br,Bs,Bt,Bu,Bv,Bw,Bx,By,Bz,C0,C1,C3,C4,C5,C6,C7,C8,C9,Ca,Cb,Cc,Cd,Ce,Cf,Cg,Ch,Ci,Cj,Ck,Cl,Cm,Cn,Co,Cp,Cq,Cr,Cs,Ct,Cu,Cv,Cw,Cx,Cy,Cz,D0,D1,D2,D3,D4,D5,D6,D7,D8,D9,Da,Db,Dc,Dd,De,Df,Dg,Dh,Di,Dj,Dk,Dl,Dm,Dn,Do,Dp,Dq,Dr,Ds,Dt,Du,Dv,Dw,Dx,Dy,Dz,E0,E3,E4,E5,E6,E7,E8,E9,Ea,Eb,Ec,Ed,Ee,Ef,Eg,Eh,Ei,Ej,Ek,El,Em,En,Eo,Ep,Eq,Er,Es,Et,Eu,Ev,Ew,Ex,Ey,Ez,F0,F1,F2,F3,F4,F5,F6,F7,F8,F9,Fa,Fb,Fc,Fd,Fe,Ff,Fg,Fh,Fi,Fj,Fk,Fl,Fm,Fn,Fo,Fp,Fq,Fr,Fs,Ft,Fu,Fv,Fw,Fx,Fy,Fz,G0,G1,G2,G3,G4,G5,G6,G7,G8,G9,Ga,Gb,Gc,Gd,Ge,Gf,Gg,Gh,Gi,Gj,Gk,Gm,Gn,Gq,Gs,Gu,Gv,Gw,Gx,Gy,Gz,H0,H8,Ha,Hb,Hc,Hd,He,Hf,Hg,Hh,Hi,Hj,Hk,Hl,Hm,Hn,Ho,Hp,Hq,Hr,Hs,Ht,Hu,Hv,Hw,Hx,Hy,Hz,I0,I1,I2,I3,I4,I5,I6,I7,I8,I9,Ia,Ib,Ic,Id,Ie,If,Ig,Ih,Ii,Ij,Ik,Il,Im,In,Io,Ip,Iq,Ir,Is,It,Iu,Iv,Iw,Ix,Iy,Iz,J0,J1,J2,J3,J4,J5,J6,J7,J8,J9,Ja,Jb,Jc,Jd,Je,Jf,Jg,Jh,Ji,Jj,Jk,Jl,Jm,Jn,Jo,Jp,Jq,Jr,Js,Jt,Ju,Jv,Jw,Jx,Jy,Jz,K0,K2,K3,K4,K5,K6,K7,K8,K9,Ka,Kb,Kc,Kd,Ke,Kf,Kg,Kh,Ki,Kj,Kk,Kl,Km,Kn,Ko,Kq,Kr,Ks,Kt,Ku,Kv,Kw,Kx,Ky,Kz,L0,L1,L2,L3,L4,L5,L6,L7,L8,L9,La,Lb,Lc,Ld,Le,Lf,Lg,Lh,Li,Lj,Ll,Lm,Ln,Lo,Lp,Lq,Lr,Ls,Lt,Lu,Lv,Lw,Lx,Ly,Lz,M0,M1,M2,M3,M4,M5,M6,M7,M8,M9,Ma,Mb,Mc,Md,Me,Mf,Mg,Mh,Mi,Mj,Ml,Mm,Mn,Mo,Mp,Mq], []⟩ wm := by
 have h3 := hrb.three; have hsm := hrb.same; obtain ⟨n, hn⟩ : ∃ n, n = r0.toks.length := ⟨_, rfl⟩
 have hn38 : n ≤ 2 ^ 38 := by rw [hn]; exact hrb.toks
 obtain ⟨F, hF⟩ : ∃ F, F = Sp.qI r0 := ⟨_, rfl⟩
 rw [← hF] at hK; unfold Sp.qI at hF; rw [← hn] at h3 hsm; have HS0 := zh hS; have HNE := zh hn; have HF := zh hF; have HSM := zh hsm; clear hS hn hF hsm hrb; have HKK := zh hK; have hM : ∀ a w, Met K a w → K a w := fun _ _ h => h
 clear hK; conv => arg 2; whnf
 go_wp2_with fail; go_loopg [22, 23] (n - 3) (fun q nv iv wr => ∃ (k : Nat) (next : Int) (cur : List Sp.Tok), 3 ≤ k ∧ k ≤ n ∧ q = n - k ∧ nv = .int .i64 next ∧ iv = .int .i64 k ∧ OfN W m x vd vr { r0 with toks := cur } v0 L wr ∧ cur.length = n ∧ cur.drop k = r0.toks.drop k ∧ cur.take k ++ Sp.jC next (r0.toks.drop k) (r0.given.drop k) = F ∧ 0 ≤ next ∧ next ≤ 57346 + k)
 case atStart => exact ⟨3, 57346, r0.toks, Nat.le_refl _, h3, rfl, rfl, rfl, HS0.out, HNE.out.symm, rfl, HF.out.symm, by omega, by omega⟩
 case round =>
  clear HS0 HF; obtain ⟨k, next, cur, hk3, hk, rfl, rfl, rfl, hS, hlen, hdrop, hF, hn0, hnk⟩ := hrel; have hmb := hS.os.mkr.block; have ht := hS.os.mkr.toks; have hg := hS.os.mkr.given; simp only at ht hg; obtain ⟨gt, ct, htv⟩ := yB ht (by omega); obtain ⟨gg, cg, hgv⟩ := yB hg (by rw [HSM.out]; omega); unfold yE at hmb; rw [htv] at hmb ht; rw [hgv] at hmb hg; rw [hlen] at ht hmb; rw [HSM.out] at hg hmb; have c0 := zc 0 hmb; have c5 := zc 5 hmb; have lm := zC hmb; have hlt : gt < wr.heap.size := (ht.lt gt rfl).2; have hlg : gg < wr.heap.size := (hg.lt gg rfl).2; rw [hlen] at htv; have HS := zh hS; have HLEN := zh hlen; have HDR := zh hdrop; have HFF := zh hF; have HTV := zh htv; have hk0 : (0 : Int) ≤ (k : Int) := Int.natCast_nonneg _; clear hS hmb htv hgv; by_cases hkn : k < n
  ·have hk1 : (k : Int) < (n : Int) := by omega
   have hkt : k < r0.toks.length := by have := HNE.out; omega
   have hkg : k < r0.given.length := by have := HSM.out; omega
   have e2 := List.getElem?_eq_getElem hkg; have d1 : r0.toks.drop k = r0.toks[k] :: r0.toks.drop (k + 1) := List.drop_eq_getElem_cons hkt; have d2 : r0.given.drop k = r0.given[k] :: r0.given.drop (k + 1) := List.drop_eq_getElem_cons hkg
   have e1 : cur[k]? = some r0.toks[k] := by
    have h := congrArg (fun l => l[0]?) hdrop; simp only [List.getElem?_drop, Nat.add_zero] at h; rw [h]; exact List.getElem?_eq_getElem hkt
   rw [d1, d2] at hF; unfold Sp.jC at hF
   have hdn : cur.drop (k + 1) = r0.toks.drop (k + 1) := by
    have h := congrArg (fun l => l.drop 1) hdrop; simpa [List.drop_drop, Nat.add_comm] using h
   generalize r0.toks[k] = t at *
   generalize r0.given[k] = gk at *
   have ct2 := yY ht (fun _ => rfl) e1 hkn (j := 2) (u := .int .i64 t.num) rfl; have cg2 := jP hg e2 hkn; have ft := ht.frozenAt (k * 6 + 2); have E1 := zh e1; have HDN := zh hdn; obtain ⟨cu, hcu⟩ := yW ht; have HCU := zh hcu; clear hlen hdrop ht hg d1 d2 e2 e1 hdn hkt hkg HDR HFF hcu
   cases gk with
   | true =>
    have HF2 : Hid (cur.take (k + 1) ++ Sp.jC next (r0.toks.drop (k + 1)) (r0.given.drop (k + 1)) = F) := zh (by rw [← hF, List.take_add_one, E1.out]; simp); clear hF; go_wp2_with fail; go_roundg (n - (k + 1))
    case measure => omega
    case rel => exact ⟨k + 1, next, cur, by omega, by omega, rfl, rfl, by go_num, HS.out, HLEN.out, HDN.out, HF2.out, hn0, by omega⟩
   | false =>
    obtain ⟨h5, hf5⟩ := HS.out.os.mkr.tokset (k := k) (off := 2) (t := t) (t' := { t with num := next }) (u := .int .i64 next) HTV.out E1.out (by decide) rfl; have hS5 := HS.out.toks h5 hf5 (KpT.setCell (fun _ _ _ _ h _ => h) HCU.out (by simp) _); have HS5 := zh hS5
    have HF2 : Hid ((cur.set k { t with num := next }).take (k + 1) ++ Sp.jC (next + 1) (r0.toks.drop (k + 1)) (r0.given.drop (k + 1)) = F) := zh (by
     rw [← hF, List.take_add_one, List.take_set_of_le (Nat.le_refl _), List.getElem?_set_self (by have := HLEN.out; omega)]
     simp)
    clear hF h5 hf5 hS5; go_wp2_with fail; go_roundg (n - (k + 1))
    case measure => omega
    case rel =>
     refine ⟨k + 1, next + 1, _, by omega, by omega, rfl, by go_num, by go_num, HS5.out, by rw [List.length_set]; exact HLEN.out, ?_, HF2.out, by omega, by omega⟩; rw [List.drop_set_of_lt (by omega)]; exact HDN.out
  ·obtain rfl : k = n := by omega
   have hFe : cur = F := by
    rw [List.drop_eq_nil_of_le (by rw [HNE.out]; exact Nat.le_refl _), List.take_of_length_le (by rw [hlen]; exact Nat.le_refl _)] at hF; unfold Sp.jC at hF; rw [List.append_nil] at hF; exact hF
   have hS := HS.out; rw [hFe] at hS; have HS1 := zh hS; clear hlen hdrop ht hg hF hFe hS; go_wp2_with fail; exact HKK.out _ _ _ _ _ _ _ _ _ _ _ _ _ _ _ _ _ _ _ _ _ _ _ _ _ _ _ _ _ _ _ _ HS1.out
set_option maxRecDepth 100000 in
set_option maxHeartbeats 12800000 in
theorem of_long {W wm : World} {m : Nat} {x : Sp.zM} {vd vr : Value} {r0 : Sp.Rk} {v0 : RkV} {L : List Sp.Non} {b0 : Bool}
  {A0 A3 A4 A5 A7 A8 A9 Aa Ab Ac Ad Ae Af Ag Ah Ai Aj Ak Al Am An Aq Ar As At Au Av Aw Ax Ay Az B1 B3 B4 B5 B7 B8 B9 Ba Bb Bc Be Bf Bg Bh Bi Bj Bk Bl Bm Bn Bo Bp Bq Br Bs Bt Bu Bv Bw Bx By Bz C0 C1 C3 C4 C5 C6 C7 C8 C9 Ca Cb Cc Cd Ce Cf Cg Ch Ci Cj Ck Cl Cm Cn Co Cp Cq Cr Cs Ct Cu Cv Cw Cx Cy Cz D0 D1 D2 D3 D4 D5 D6 D7 D8 D9 Da Db Dc Dd De Df Dg Dh Di Dj Dk Dl Dm Dn Do Dp Dq Dr Ds Dt Du Dv Dw Dx Dy Dz E0 E3 E4 E5 E6 E7 E8 E9 Ea Eb Ec Ed Ee Ef Eg Eh Ei Ej Ek El Em En Eo Ep Eq Er Es Et Eu Ev Ew Ex Ey Ez F0 F1 F2 F3 F4 F5 F6 F7 F8 F9 Fa Fb Fc Fd Fe Ff Fg Fh Fi Fj Fk Fl Fm Fn Fo Fp Fq Fr Fs Ft Fu Fv Fw Fx Fy Fz G0 G1 G2 G3 G4 G5 G6 G7 G8 G9 Ga Gb Gc Gd Ge Gf Gg Gh Gi Gj Gk Gm Gn Gq Gs Gu Gv Gw Gx Gy Gz H0 H8 Ha Hb Hc Hd He Hf Hg Hh Hi Hj Hk Hl Hm Hn Ho Hp Hq Hr Hs Ht Hu Hv Hw Hx Hy Hz I0 I1 I2 I3 I4 I5 I6 I7 I8 I9 Ia Ib Ic Id Ie If Ig Ih Ii Ij Ik Il Im In Io Ip Iq Ir Is It Iu Iv Iw Ix Iy Iz J0 J1 J2 J3 J4 J5 J6 J7 J8 J9 Ja Jb Jc Jd Je Jf Jg Jh Ji Jj Jk Jl Jm Jn Jo Jp Jq Jr Js Jt Ju Jv Jw Jx Jy Jz K0 K2 K3 K4 K5 K6 K7 K8 K9 Ka Kb Kc Kd Ke Kf Kg Kh Ki Kj Kk Kl Km Kn Ko Kq Kr Ks Kt Ku Kv Kw Kx Ky Kz L0 L1 L2 L3 L4 L5 L6 L7 L8 L9 La Lb Lc Ld Le Lf Lg Lh Li Lj Ll Lm Ln Lo Lp Lq Lr Ls Lt Lu Lv Lw Lx Ly Lz M0 M1 M2 M3 M4 M5 M6 M7 M8 M9 Ma Mb Mc Md Me Mf Mg Mh Mi Mj Ml Mm Mn Mo Mp Mq : Value} (K : Act → World → Prop) (Q : Exit → Act → World → Prop)
  (hS : OfN W m x vd vr r0 v0 L wm) (hpb : r0.prods.length ≤ 2 ^ 39)
  (hQ : ∀ c (t : Array Value) (a : Act) w, Q (.panic c) ⟨t, a.defers⟩ w → Q (.panic c) a w)
  (hK : ∀ (Rm Uq Ur Us Ut Uu Uv Uw Uy Uz V1 V2 V3 V4 V5 V6 V7 V8 Va Vb Vc Vd Ve Vf Vg : Value) (wx : World), Below wm.heap.size wm wx → K ⟨#[A0,.pointer (some ⟨W.heap.size,0,none⟩),.pointer (some ⟨W.heap.size + 1,0,none⟩),A3,A4,A5,.pointer (some ⟨m,0,none⟩),A7,A8,A9,Aa,Ab,Ac,Ad,Ae,Af,Ag,Ah,Ai,Aj,Ak,Al,Am,An,.bool (b0 || r0.prods.any fun p => decide (8 < p.right.length)),Rm,Aq,Ar,As,At,Au,Av,Aw,Ax,Ay,Az,B1,B3,B4,B5,B7,B8,B9,Ba,Bb,Bc,Be,Bf,Bg,Bh,Bi,Bj,Bk,Bl,Bm,Bn,Bo,Bp,Bq,Br,Bs,Bt,Bu,Bv,Bw,Bx,By,Bz,C0,C1,C3,C4,C5,C6,C7,C8,C9,Ca,Cb,Cc,Cd,Ce,Cf,Cg,Ch,Ci,Cj,Ck,Cl,Cm,Cn,Co,Cp,Cq,Cr,Cs,Ct,Cu,Cv,Cw,Cx,Cy,Cz,D0,D1,D2,D3,D4,D5,D6,D7,D8,D9,Da,Db,Dc,Dd,De,Df,Dg,Dh,Di,Dj,Dk,Dl,Dm,Dn,Do,Dp,Dq,Dr,Ds,Dt,Du,Dv,Dw,Dx,Dy,Dz,E0,E3,E4,E5,E6,E7,E8,E9,Ea,Eb,Ec,Ed,Ee,Ef,Eg,Eh,Ei,Ej,Ek,El,Em,En,Eo,Ep,Eq,Er,Es,Et,Eu,Ev,Ew,Ex,Ey,Ez,F0,F1,F2,F3,F4,F5,F6,F7,F8,F9,Fa,Fb,Fc,Fd,Fe,Ff,Fg,Fh,Fi,Fj,Fk,Fl,Fm,Fn,Fo,Fp,Fq,Fr,Fs,Ft,Fu,Fv,Fw,Fx,Fy,Fz,G0,G1,G2,G3,G4,G5,G6,G7,G8,G9,Ga,Gb,Gc,Gd,Ge,Gf,Gg,Gh,Gi,Gj,Gk,Gm,Gn,Gq,Gs,Gu,Gv,Gw,Gx,Gy,Gz,H0,H8,Ha,Hb,Hc,Hd,He,Hf,Hg,Hh,Hi,Hj,Hk,Hl,Hm,Hn,Ho,Hp,Hq,Hr,Hs,Ht,Hu,Hv,Hw,Hx,Hy,Hz,I0,I1,I2,I3,I4,I5,I6,I7,I8,I9,Ia,Ib,Ic,Id,Ie,If,Ig,Ih,Ii,Ij,Ik,Il,Im,In,Io,Ip,Iq,Ir,Is,It,Iu,Iv,Iw,Ix,Iy,Iz,J0,J1,J2,J3,J4,J5,J6,J7,J8,J9,Ja,Jb,Jc,Jd,Je,Jf,Jg,Jh,Ji,Jj,Jk,Jl,Jm,Jn,Jo,Jp,Jq,Jr,Js,Jt,Ju,Jv,Jw,Jx,Jy,Jz,K0,K2,K3,K4,K5,K6,K7,K8,K9,Ka,Kb,Kc,Kd,Ke,Kf,Kg,Kh,Ki,Kj,Kk,Kl,Km,Kn,Ko,Kq,Kr,Ks,Kt,Ku,Kv,Kw,Kx,Ky,Kz,L0,L1,L2,L3,L4,L5,L6,L7,L8,L9,La,Lb,Lc,Ld,Le,Lf,Lg,Lh,Li,Uq,Ur,Us,Ut,Uu,Uv,Uw,Uy,Uz,V1,V2,V3,V4,V5,V6,V7,V8,Va,Vb,Vc,Vd,Ve,Vf,Vg,M8,M9,Ma,Mb,Mc,Md,Me,Mf,Mg,Mh,Mi,Mj,Ml,Mm,Mn,Mo,Mp,Mq], []⟩ wx) :
  Code.wp Tryz.prog (ofBlk 20) (Exit.then K Q) ⟨#[A0,.pointer (some ⟨W.heap.size,0,none⟩),.pointer (some ⟨W.heap.size + 1,0,none⟩),A3,A4,A5,.pointer (some ⟨m,0,none⟩),A7,A8,A9,Aa,Ab,Ac,Ad,Ae,Af,Ag,Ah,Ai,Aj,Ak,Al,Am,An,.bool b0,.int .i64 0,Aq,Ar,As,At,Au,Av,Aw,Ax,Ay,Az,B1,B3,B4,B5,B7,B8,B9,Ba,Bb,Bc,Be,Bf,Bg,Bh,Bi,Bj,Bk,Bl,Bm,Bn,Bo,Bp,Bq,Br,Bs,Bt,Bu,Bv,Bw,Bx,By,Bz,C0,C1,C3,C4,C5,C6,C7,C8,C9,Ca,Cb,Cc,Cd,Ce,Cf,Cg,Ch,Ci,Cj,Ck,Cl,Cm,Cn,Co,Cp,Cq,Cr,Cs,Ct,Cu,Cv,Cw,Cx,Cy,Cz,D0,D1,D2,D3,D4,D5,D6,D7,D8,D9,Da,Db,Dc,Dd,De,Df,Dg,Dh,Di,Dj,Dk,Dl,Dm,Dn,Do,Dp,Dq,Dr,Ds,Dt,Du,Dv,Dw,Dx,Dy,Dz,E0,E3,E4,E5,E6,E7,E8,E9,Ea,Eb,Ec,Ed,Ee,Ef,Eg,Eh,Ei,Ej,Ek,El,Em,En,Eo,Ep,Eq,Er,Es,Et,Eu,Ev,Ew,Ex,Ey,Ez,F0,F1,F2,F3,F4,F5,F6,F7,F8,F9,Fa,Fb,Fc,Fd,Fe,Ff,Fg,Fh,Fi,Fj,Fk,Fl,Fm,Fn,Fo,Fp,Fq,Fr,Fs,Ft,Fu,Fv,Fw,Fx,Fy,Fz,G0,G1,G2,G3,G4,G5,G6,G7,G8,G9,Ga,Gb,Gc,Gd,Ge,Gf,Gg,Gh,Gi,Gj,Gk,Gm,Gn,Gq,Gs,Gu,Gv,Gw,Gx,Gy,Gz,H0,H8,Ha,Hb,Hc,Hd,He,Hf,Hg,Hh,Hi,Hj,Hk,Hl,Hm,Hn,Ho,Hp,Hq,Hr,Hs,Ht,Hu,Hv,Hw,Hx,Hy,Hz,I0,I1,I2,I3,I4,I5,I6,I7,I8,I9,Ia,Ib,Ic,Id,Ie,If,Ig,Ih,Ii,Ij,Ik,Il,Im,In,Io,Ip,Iq,Ir,Is,It,Iu,Iv,Iw,Ix,Iy,Iz,J0,J1,J2,J3,J4,J5,J6,J7,J8,J9,Ja,Jb,Jc,Jd,Je,Jf,Jg,Jh,Ji,Jj,Jk,Jl,Jm,Jn,Jo,Jp,Jq,Jr,Js,Jt,Ju,Jv,Jw,Jx,Jy,Jz,K0,K2,K3,K4,K5,K6,K7,K8,K9,Ka,Kb,Kc,Kd,Ke,Kf,Kg,Kh,Ki,Kj,Kk,Kl,Km,Kn,Ko,Kq,Kr,Ks,Kt,Ku,Kv,Kw,Kx,Ky,Kz,L0,L1,L2,L3,L4,L5,L6,L7,L8,L9,La,Lb,Lc,Ld,Le,Lf,Lg,Lh,Li,Lj,Ll,Lm,Ln,Lo,Lp,Lq,Lr,Ls,Lt,Lu,Lv,Lw,Lx,Ly,Lz,M0,M1,M2,M3,M4,M5,M6,M7,M8,M9,Ma,Mb,Mc,Md,Me,Mf,Mg,Mh,Mi,Mj,Ml,Mm,Mn,Mo,Mp,Mq], []⟩ wm := by
 obtain ⟨n, hn⟩ : ∃ n, n = r0.prods.length := ⟨_, rfl⟩
 rw [← hn] at hpb; obtain ⟨RR, hRR⟩ : ∃ RR, RR = (b0 || r0.prods.any fun p => decide (8 < p.right.length)) := ⟨_, rfl⟩
 rw [← hRR] at hK; obtain ⟨fo, go, hpo, hpc⟩ := hS.os.mkr.prods; obtain ⟨qa, qc, hqv⟩ := zJ hpo; rw [hqv] at hpo; rw [← hn] at hpo hqv; have hmb := hS.os.mkr.block; unfold yE at hmb; rw [hqv] at hmb; have m2 := zc 2 hmb; have lm := zC hmb; have HPO := zh hpo; have HPC := zh hpc; have HNE := zh hn; have HR := zh hRR; clear hS hpo hpc hqv hmb hn hRR; have HKK := zh hK; have hM : ∀ a w, Met K a w → K a w := fun _ _ h => h
 clear hK; conv => arg 2; whnf
 go_wp2_with fail; go_loopg [24, 25] n (fun q bv iv wr => ∃ (k : Nat) (b : Bool), k ≤ n ∧ q = n - k ∧ iv = .int .i64 k ∧ bv = .bool b ∧ wm = wr ∧ (b || (r0.prods.drop k).any fun p => decide (8 < p.right.length)) = RR)
 case atStart => exact ⟨0, b0, Nat.zero_le _, rfl, rfl, rfl, rfl, HR.out.symm⟩
 case round =>
  obtain ⟨k, b, hk, rfl, rfl, rfl, rfl, hR⟩ := hrel; have HRR := zh hR; have hk0 : (0 : Int) ≤ (k : Int) := Int.natCast_nonneg _; clear hR; by_cases hkn : k < n
  ·have hk1 : (k : Int) < (n : Int) := by omega
   have hpo := HPO.out; obtain ⟨gp, cp, hv⟩ := yB hpo (by omega); simp only [Value.slice.injEq] at hv; obtain ⟨rfl, _, rfl⟩ := hv; have hkd : k < r0.prods.length := by have := HNE.out; omega
   obtain ⟨p, hpk, hpr, hpm⟩ := qO hkd; have hR := HRR.out; rw [hpr, List.any_cons] at hR; obtain ⟨⟨⟨bi, hri⟩, _⟩, _⟩ := HPC.out k p hpk; obtain ⟨ra, rc, hrv⟩ := zJ hri; obtain ⟨rn, hrn⟩ : ∃ rn, rn = p.right.length := ⟨_, rfl⟩
   rw [← hrn] at hrv hR
   have a1 : wm.cell? ⟨gp, k * 6 + 1, none⟩ = some (.slice ra rn rc) := by
    rw [hpo.cellAt (k * 6 + 1) (by omega), ← hrv]; refine j1 6 _ (fun r hr' => ?_) k (xF (fo k) (go k) p) (by rw [List.getElem?_mapIdx, hpk]; rfl) 1 _ rfl; obtain ⟨i, hi, rfl⟩ := List.getElem_of_mem hr'; rw [List.getElem_mapIdx]; rfl
   have lgp := (hpo.lt gp rfl).2; have hri2 := hri; clear hpo hpk hpr hpm hri hri2 hrv HRR hkd hrn
   cases b with
   | true =>
    have HR2 : Hid ((true || (r0.prods.drop (k + 1)).any fun p => decide (8 < p.right.length)) = RR) := zh (by rw [← hR]; simp); clear hR; go_wp2_with fail; go_roundg (n - (k + 1))
    case measure => omega
    case rel => exact ⟨k + 1, true, by omega, rfl, by go_num, rfl, rfl, HR2.out⟩
   | false =>
    have HR2 : Hid ((decide (8 < rn) || (r0.prods.drop (k + 1)).any fun p => decide (8 < p.right.length)) = RR) := zh (by rw [← hR]; simp); clear hR; go_wp2_with fail; go_roundg (n - (k + 1))
    case measure => omega
    case rel => exact ⟨k + 1, decide (8 < rn), by omega, rfl, by go_num, by first | rfl | (congr 1; exact decide_eq_decide.2 (by omega)), rfl, HR2.out⟩
  ·obtain rfl : k = n := by omega
   have hb : b = RR := by
    have h := HRR.out; rw [List.drop_eq_nil_of_le (by rw [HNE.out]; exact Nat.le_refl _)] at h; simpa using h
   subst hb; clear HRR; go_wp2_with fail; exact HKK.out _ _ _ _ _ _ _ _ _ _ _ _ _ _ _ _ _ _ _ _ _ _ _ _ _ _ (Below.refl _ _)

def ROfPost (W : World) (g : Sp.Gram × Sp.Fault) (e : Ending) (w' : World) : Prop :=
 Below W.heap.size W w' ∧ ∃ gv, e = .returned (.tuple #[gv, .int .i64 g.2.err, .int .i64 g.2.at_, .string ⟨g.2.name.toArray⟩]) ∧ qE w' gv g.1
section
variable {P : Program} {fn : Func} {R : Ending → World → Prop} {a : Act} {W : World} {g p u x y : Nat} {ty t : TypeId} {cs : Array Value} {fr : Nat × Nat} {d : TypeDesc}
theorem vX (hf : fn.results = #[.cell p ty, .tmp u, .tmp x, .tmp y]) (hp : a.tmps.getD p undef = .pointer (some ⟨g, 0, none⟩)) (hg : W.heap[g]? = some (.cells cs t fr))
  (hd : (match d with | .struct _ | .array _ _ => true | _ => false) = true) (hu : P.underlying ty = some d) (hi : (P.info? ty).map (·.size) = some cs.size)
  (hdef : a.defers = []) (hR : R (.returned (.tuple #[.agg cs, a.tmps.getD u undef, a.tmps.getD x undef, a.tmps.getD y undef])) W) : bodyPost P fn R .ret a W := by
 refine bodyPost_ret ?_ hdef hR; have hl := run_loadVar_row (P := P) W g t ty cs fr d hg hu (by cases d <;> simp_all) hi; have hp' : a.tmps[p]?.getD undef = .pointer (some ⟨g, 0, none⟩) := by simpa using hp
 simp [results, hf, hp', asAddr, hl]
end
theorem heap_thdR (w : World) (a b c : Obj) : (((w.alloc a).alloc b).alloc c).heap[w.heap.size + 1 + 1]? = some c := by
 have h := zE ((w.alloc a).alloc b) c; simp only [World.size_alloc] at h; exact h
def startOf (x : Sp.zM) (st : List UInt8) : List UInt8 := if st = [] then (match x.rules with
  | [] => []
  | u :: _ => u.left) else st
theorem rmade_eq (x : Sp.zM) (r1 : Sp.Rk) (st : List UInt8) (r3 : Sp.Rk) (h1 : (r1, st) = Sp.zAX x.decls (Sp.rk0, [])) (h3 : r3 = Sp.gK x.decls (Sp.gJ x.rules r1)) :
  Sp.xT x = Sp.xQ x.rules { r3 with prods := [⟨0, [1000 + 1 + Sp.jZ r3.lefts (startOf x st)], -1, [], [], 0⟩] } := by
 subst h3; unfold Sp.xT startOf; simp only [← h1]; generalize x.rules = R; cases R <;> rfl
theorem of_last {W w9 wY wF : World} {m : Nat} {x : Sp.zM} {vd vr : Value} {r : Sp.Rk} {v : RkV} {L : List Sp.Non} {c : Array Value} {ta na qa : Option Addr} {tc nc qc : Nat} (hS : OfN W m x vd vr r v L w9) (kY : KpT (fun t => t ≠ 82) w9 wY) (bY : Below W.heap.size w9 wY)
  (hg : wY.heap[W.heap.size + 1]? = some (.cells c 39 (0, 0))) (kF : Kp (fun b => b ≠ W.heap.size + 1) wY wF) (h1 : v.tv = .slice ta r.toks.length tc) (h2 : v.nv = .slice na L.length nc) (h3 : v.pv = .slice qa r.prods.length qc) :
  Below W.heap.size W wF ∧ qE wF (.agg #[.slice ta r.toks.length tc, .slice na L.length nc, .slice qa r.prods.length qc, .string ⟨x.pro.toArray⟩, .string ⟨x.tail.toArray⟩]) ⟨r.toks, L, r.prods, x.pro, x.tail⟩ := by
 have kG : KpT (fun t => t ≠ 39) wY wF := KpT.of_kp kF (fun b cs t fr hb ht e => by
  rw [e, hg] at hb; simp only [Option.some.injEq, Obj.cells.injEq] at hb
  exact ht hb.2.1.symm)
 have hs := Nat.le_trans hS.os.bel.size bY.size; refine ⟨(hS.os.bel.trans bY).trans (Kp.below kF hs (fun b hb => by omega)), W.heap.size, ta, tc, na, nc, qa, qc, rfl, ?_, ?_, ?_⟩
 ·rw [← h1]; exact zD (zD hS.os.mkr.toks kY (by decide)) kG (by decide)
 ·rw [← h2]; exact zD (zD hS.nons kY (by decide)) kG (by decide)
 ·rw [← h3]; exact ((hS.os.mkr.prods.kpT kY (by decide) (by decide)).kpT kG (by decide) (by decide)).own
def endsBlk (n : Nat) : Code → Bool
 | .block i _ => i == n
 | .seq _ b => endsBlk n b
 | .scope c => endsBlk n c
 | _ => false
def gH (n : Nat) : Code → Option Code
 | .block _ c => gH n c
 | .loop c => gH n c
 | .seq a b => if endsBlk n a = true then some b else match gH n a with
  | some c => some c
  | none => gH n b
 | .cond _ a b => match gH n a with
  | some c => some c
  | none => gH n b
 | .scope c => gH n c
 | _ => none
noncomputable def ofRest (n : Nat) : Code := (Tryz.f9.body.bind (gH n)).getD .skip

set_option maxRecDepth 100000 in
set_option maxHeartbeats 12800000 in
theorem of_bad {W w6 : World} {m : Nat} {x : Sp.zM} {da : Option Addr} {dn dc bo oo rn rc : Nat} {r6 : Sp.Rk} {v6 : RkV}
  {A0 A3 A4 A5 A7 A8 A9 Aa Ab Ac Ad Ae Af Ag Ah Ai Aj Ak Al Am An Ao Ap Aq Ar As At Au Av Aw Ax Ay Az B1 B3 B4 B5 B7 B8 B9 Ba Bb Bc Be Bf Bg Bh Bi Bj Bk Bl Bm Bn Bo Bp Bq Br Bs Bt Bu Bv Bw Bx By Bz C0 C1 C3 C4 C5 C6 C7 C8 C9 Ca Cb Cc Cd Ce Cf Cg Ch Ci Cj Ck Cl Cm Cn Co Cp Cq Cr Cs Ct Cu Cv Cw Cx Cy Cz D0 D1 D2 D3 D4 D5 D6 D7 D8 D9 Da Db Dc Dd De Df Dg Dh Di Dj Dk Dl Dm Dn Do Dp Dq Dr Ds Dt Du Dv Dw Dx Dy Dz E0 E3 E4 E5 E6 E7 E8 E9 Ea Eb Ec Ed Ee Ef Eg Eh Ei Ej Ek El Em En Eo Ep Eq Er Es Et Eu Ev Ew Ex Ey Ez F0 F1 F2 F3 F4 F5 F6 F7 F8 F9 Fa Fb Fc Fd Fe Ff Fg Fh Fi Fj Fk Fl Fm Fn Fo Fp Fq Fr Fs Ft Fu Fv Fw Fx Fy Fz G0 G1 G2 G3 G4 G5 G6 G7 G8 G9 Ga Gb Gc Gd Ge Gf Gg Gh Gi Gj Gk Gm Gn Gq Gs Gu Gv Gw Gx Gy Gz H0 H8 Ha Hb Hc Hd He Hf Hg Hh Hi Hj Hk Hl Hm Hn Ho Hp Hq Hr Hs Ht Hu Hv Hw Hx Hy Hz I0 I1 I2 I3 I4 I5 I6 I7 I8 I9 Ia Ib Ic Id Ie If Ig Ih Ii Ij Ik Il Im In Io Ip Iq Ir Is It Iu Iv Iw Ix Iy Iz J0 J1 J2 J3 J4 J5 J6 J7 J8 J9 Ja Jb Jc Jd Je Jf Jg Jh Ji Jj Jk Jl Jm Jn Jo Jp Jq Jr Js Jt Ju Jv Jw Jx Jy Jz K0 K2 K3 K4 K5 K6 K7 K8 K9 Ka Kb Kc Kd Ke Kf Kg Kh Ki Kj Kk Kl Km Kn Ko Kq Kr Ks Kt Ku Kv Kw Kx Ky Kz L0 L1 L2 L3 L4 L5 L6 L7 L8 L9 La Lb Lc Ld Le Lf Lg Lh Li Lj Ll Lm Ln Lo Lp Lq Lr Ls Lt Lu Lv Lw Lx Ly Lz M0 M1 M2 M3 M4 M5 M6 M7 M8 M9 Ma Mb Mc Md Me Mf Mg Mh Mi Mj Ml Mm Mn Mo Mp Mq : Value} (Q : Exit → Act → World → Prop)
  (hS6 : OfS W m x (.slice da dn dc) (.slice (some ⟨bo, oo, none⟩) rn rc) r6 v6 w6) (hrb6 : Sp.RB (2 ^ 38) r6) (hr6 : r6 = Sp.xT x) (hm : Sp.may x = true)
  (hf : ¬ (Sp.xT x).fault.err = 0)
  (hQ : ∀ c (t : Array Value) (a : Act) w, Q (.panic c) ⟨t, a.defers⟩ w → Q (.panic c) a w)
  (hR : ∀ a w, bodyPost Tryz.prog Tryz.f9 (ROfPost W (Sp.qC x)) .ret a w → Q .ret a w) :
  Code.wp Tryz.prog (ofRest 10) Q ⟨#[A0,.pointer (some ⟨W.heap.size,0,none⟩),.pointer (some ⟨W.heap.size + 1,0,none⟩),A3,A4,A5,.pointer (some ⟨m,0,none⟩),A7,A8,A9,Aa,Ab,Ac,Ad,Ae,Af,Ag,Ah,Ai,Aj,Ak,Al,Am,An,Ao,Ap,Aq,Ar,As,At,Au,Av,Aw,Ax,Ay,Az,B1,B3,B4,B5,B7,B8,B9,Ba,Bb,Bc,Be,Bf,Bg,Bh,Bi,Bj,Bk,Bl,Bm,Bn,Bo,Bp,Bq,Br,Bs,Bt,Bu,Bv,Bw,Bx,By,Bz,C0,C1,C3,C4,C5,C6,C7,C8,C9,Ca,Cb,Cc,Cd,Ce,Cf,Cg,Ch,Ci,Cj,Ck,Cl,Cm,Cn,Co,Cp,Cq,Cr,Cs,Ct,Cu,Cv,Cw,Cx,Cy,Cz,D0,D1,D2,D3,D4,D5,D6,D7,D8,D9,Da,Db,Dc,Dd,De,Df,Dg,Dh,Di,Dj,Dk,Dl,Dm,Dn,Do,Dp,Dq,Dr,Ds,Dt,Du,Dv,Dw,Dx,Dy,Dz,E0,E3,E4,E5,E6,E7,E8,E9,Ea,Eb,Ec,Ed,Ee,Ef,Eg,Eh,Ei,Ej,Ek,El,Em,En,Eo,Ep,Eq,Er,Es,Et,Eu,Ev,Ew,Ex,Ey,Ez,F0,F1,F2,F3,F4,F5,F6,F7,F8,F9,Fa,Fb,Fc,Fd,Fe,Ff,Fg,Fh,Fi,Fj,Fk,Fl,Fm,Fn,Fo,Fp,Fq,Fr,Fs,Ft,Fu,Fv,Fw,Fx,Fy,Fz,G0,G1,G2,G3,G4,G5,G6,G7,G8,G9,Ga,Gb,Gc,Gd,Ge,Gf,Gg,Gh,Gi,Gj,Gk,Gm,Gn,Gq,Gs,Gu,Gv,Gw,Gx,Gy,Gz,H0,H8,Ha,Hb,Hc,Hd,He,Hf,Hg,Hh,Hi,Hj,Hk,Hl,Hm,Hn,Ho,Hp,Hq,Hr,Hs,Ht,Hu,Hv,Hw,Hx,Hy,Hz,I0,I1,I2,I3,I4,I5,I6,I7,I8,I9,Ia,Ib,Ic,Id,Ie,If,Ig,Ih,Ii,Ij,Ik,Il,Im,In,Io,Ip,Iq,Ir,Is,It,Iu,Iv,Iw,Ix,Iy,Iz,J0,J1,J2,J3,J4,J5,J6,J7,J8,J9,Ja,Jb,Jc,Jd,Je,Jf,Jg,Jh,Ji,Jj,Jk,Jl,Jm,Jn,Jo,Jp,Jq,Jr,Js,Jt,Ju,Jv,Jw,Jx,Jy,Jz,K0,K2,K3,K4,K5,K6,K7,K8,K9,Ka,Kb,Kc,Kd,Ke,Kf,Kg,Kh,Ki,Kj,Kk,Kl,Km,Kn,Ko,Kq,Kr,Ks,Kt,Ku,Kv,Kw,Kx,Ky,Kz,L0,L1,L2,L3,L4,L5,L6,L7,L8,L9,La,Lb,Lc,Ld,Le,Lf,Lg,Lh,Li,Lj,Ll,Lm,Ln,Lo,Lp,Lq,Lr,Ls,Lt,Lu,Lv,Lw,Lx,Ly,Lz,M0,M1,M2,M3,M4,M5,M6,M7,M8,M9,Ma,Mb,Mc,Md,Me,Mf,Mg,Mh,Mi,Mj,Ml,Mm,Mn,Mo,Mp,Mq], []⟩ w6 := by
 have HRR := zh hR; clear hR; conv => arg 2; whnf
 have HS6 := zh hS6; have HRB6 := zh hrb6; have HR6 := zh hr6; clear hS6 hrb6 hr6; have hmb := HS6.out.mkr.block; unfold yE at hmb; have m1 := zc 1 hmb; have f1 := zf 1 hmb; have m8 := zc 8 hmb; have m9 := zc 9 hmb; have m10 := zc 10 hmb; have lm := zC hmb; obtain ⟨fe, hfe⟩ : ∃ fe, fe = r6.fault.err := ⟨_, rfl⟩
 rw [← hfe] at m8; have HFE := zh hfe; clear hmb hfe; have hf0 : ¬ fe = 0 := by rw [HFE.out, HR6.out]; exact hf
 have hfb : (fe == 0) = false := by rw [beq_eq_false_iff_ne]; exact hf0
 have hfn : (fe != 0) = true := by rw [bne_iff_ne]; exact hf0
 have E : Hid (Sp.qC x = (Sp.xG, r6.fault)) := zh (by
  have h := Sp.zAW hm (by rw [← HR6.out, ← HFE.out]; exact hf0); rw [← HR6.out] at h
  exact h)
 have HSF := zh (fun (w' : World) (kp : Kp (fun b => b ≠ W.heap.size + 1) w6 w') => (show ((w'.cell? ⟨m, 8, none⟩ = some (.int .i64 fe) ∧ w'.cell? ⟨m, 9, none⟩ = some (.int .i64 r6.fault.at_) ∧ w'.cell? ⟨m, 10, none⟩ = some (.string ⟨r6.fault.name.toArray⟩)) ∧ m < w'.heap.size) from by
  have hmk := HS6.out.mkr.block
  have h1 := kp.at hmk (fun e => by
   have h2 := HS6.out.gbox; rw [← e, hmk] at h2; simp only [Option.some.injEq, Obj.cells.injEq] at h2
   exact absurd h2.2.1 (by decide))
  unfold yE at h1; rw [← HFE.out] at h1
  exact ⟨⟨zc 8 h1, zc 9 h1, zc 10 h1⟩, zC h1⟩))
 have hgb := HS6.out.gbox; have b0 := zc 0 hgb; have b1 := zc 1 hgb; have b2 := zc 2 hgb; have b3 := zc 3 hgb; have b4 := zc 4 hgb; have fz0 := zf 0 hgb; have fz1 := zf 1 hgb; have fz2 := zf 2 hgb; have fz3 := zf 3 hgb; have fz4 := zf 4 hgb; have lg := zC hgb; have HGB := zh hgb; clear hgb m9 m10; have HKG : Hid (Kp (fun b => b ≠ W.heap.size + 1) w6 (((((w6.setCell ⟨W.heap.size + 1, 0, none⟩ (.slice none 0 0)).setCell ⟨W.heap.size + 1, 1, none⟩ (.slice none 0 0)).setCell ⟨W.heap.size + 1, 2, none⟩ (.slice none 0 0)).setCell ⟨W.heap.size + 1, 3, none⟩ (.string ⟨#[]⟩)).setCell ⟨W.heap.size + 1, 4, none⟩ (.string ⟨#[]⟩)).drew) := zh ((((((((Kp.refl _ w6).setCell (p := ⟨W.heap.size + 1, 0, none⟩) (by simp) (.slice none 0 0)).setCell (p := ⟨W.heap.size + 1, 1, none⟩) (by simp) (.slice none 0 0)).setCell (p := ⟨W.heap.size + 1, 2, none⟩) (by simp) (.slice none 0 0)).setCell (p := ⟨W.heap.size + 1, 3, none⟩) (by simp) (.string ⟨#[]⟩)).setCell (p := ⟨W.heap.size + 1, 4, none⟩) (by simp) (.string ⟨#[]⟩))).drew); go_upto_region 48 with fail
 refine zF (fun w' : World => ((w'.cell? ⟨m, 8, none⟩ = some (.int .i64 fe) ∧ w'.cell? ⟨m, 9, none⟩ = some (.int .i64 r6.fault.at_) ∧ w'.cell? ⟨m, 10, none⟩ = some (.string ⟨r6.fault.name.toArray⟩)) ∧ m < w'.heap.size)) [] (.take 0 (.take 1 (.take 2 (.take 3 (.take 4 (.take 5 (.take 6 (.take 7 (.take 8 (.take 9 (.take 10 (.take 11 (.take 12 (.one 13 (.one 14 (.one 15 (.one 16 (.done)))))))))))))))))) (by kernel_rfl) (by kernel_rfl) (fun c t a w h => hQ c t a w h) ?_; have hSw := HSF.out _ ((Kp.refl _ w6).drew); iterate 13 (refine zO (v := ?_) rfl rfl hSw (by rfl) ?_ ?_; rotate_left 1; (focus (intro w hSx; (try dsimp only at hSx); go_simp; try rfl)); (try simp only [Act.put, zq0, zq1, zq2]))
 refine zB rfl (by rfl) (fun K' hK => ?_); go_simp; refine hK _ _ (.inr (HSF.out _ HKG.out)) ?_; clear hK K' hSw; (try simp only [Act.put, zq0, zq1, zq2]); iterate 3 (refine zB rfl (by rfl) (fun K' hK => ?_); go_simp; refine hK _ _ (.inr (HSF.out _ HKG.out)) ?_; clear hK K'; (try simp only [Act.put, zq0, zq1, zq2]))
 refine zH ?_; go_wp2_with fail; have HEND : Hid (Below W.heap.size W (((((w6.setCell ⟨W.heap.size + 1, 0, none⟩ (.slice none 0 0)).setCell ⟨W.heap.size + 1, 1, none⟩ (.slice none 0 0)).setCell ⟨W.heap.size + 1, 2, none⟩ (.slice none 0 0)).setCell ⟨W.heap.size + 1, 3, none⟩ (.string ⟨#[]⟩)).setCell ⟨W.heap.size + 1, 4, none⟩ (.string ⟨#[]⟩)).drew) := zh (below_drewN (HS6.out.bel.trans ((((((Below.refl _ w6).setCell (by simp) _).setCell (by simp) _).setCell (by simp) _).setCell (by simp) _).setCell (by simp) _)) 1); obtain rfl : fe = r6.fault.err := HFE.out; refine HRR.out _ _ ?_; refine vX (g := W.heap.size + 1) (cs := #[.slice none 0 0, .slice none 0 0, .slice none 0 0, .string ⟨#[]⟩, .string ⟨#[]⟩]) (t := 39) (fr := (0, 0)) rfl rfl ?hg rfl Tryz.underlying39 (by kernel_rfl) rfl ?hr
 case hg => exact zA (zA (zA (zA (zA HGB.out))))
 case hr =>
  rw [E.out]; exact ⟨HEND.out, _, rfl, jS _⟩
end Go.Proofs.YtddnomjfcbplpaaGreatDoor
