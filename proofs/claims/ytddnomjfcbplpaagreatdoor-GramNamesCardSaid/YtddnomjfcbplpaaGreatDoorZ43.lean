import Derived.Test.YtddnomjfcbplpaaGreatDoorZ42
namespace Go.Proofs.YtddnomjfcbplpaaGreatDoor
open Go.RowKit Go.Maps

set_option maxRecDepth 100000 in
set_option maxHeartbeats 12800000 in
theorem of_end {W w9 : World} {m : Nat} {x : Sp.zM} {da : Option Addr} {dn dc bo oo rn rc : Nat} {r6 : Sp.Rk} {v9 : RkV} {L : List Sp.Non}
  {A0 A3 A4 A5 A7 A8 A9 Aa Ab Ac Ad Ae Af Ag Ah Ai Aj Ak Al Am An Ap Aq Ar As At Au Av Aw Ax Ay Az B1 B3 B4 B5 B7 B8 B9 Ba Bb Bc Be Bf Bg Bh Bi Bj Bk Bl Bm Bn Bo Bp Bq Br Bs Bt Bu Bv Bw Bx By Bz C0 C1 C3 C4 C5 C6 C7 C8 C9 Ca Cb Cc Cd Ce Cf Cg Ch Ci Cj Ck Cl Cm Cn Co Cp Cq Cr Cs Ct Cu Cv Cw Cx Cy Cz D0 D1 D2 D3 D4 D5 D6 D7 D8 D9 Da Db Dc Dd De Df Dg Dh Di Dj Dk Dl Dm Dn Do Dp Dq Dr Ds Dt Du Dv Dw Dx Dy Dz E0 E3 E4 E5 E6 E7 E8 E9 Ea Eb Ec Ed Ee Ef Eg Eh Ei Ej Ek El Em En Eo Ep Eq Er Es Et Eu Ev Ew Ex Ey Ez F0 F1 F2 F3 F4 F5 F6 F7 F8 F9 Fa Fb Fc Fd Fe Ff Fg Fh Fi Fj Fk Fl Fm Fn Fo Fp Fq Fr Fs Ft Fu Fv Fw Fx Fy Fz G0 G1 G2 G3 G4 G5 G6 G7 G8 G9 Ga Gb Gc Gd Ge Gf Gg Gh Gi Gj Gk Gm Gn Gq Gs Gu Gv Gw Gx Gy Gz H0 H8 Ha Hb Hc Hd He Hf Hg Hh Hi Hj Hk Hl Hm Hn Ho Hp Hq Hr Hs Ht Hu Hv Hw Hx Hy Hz I0 I1 I2 I3 I4 I5 I6 I7 I8 I9 Ia Ib Ic Id Ie If Ig Ih Ii Ij Ik Il Im In Io Ip Iq Ir Is It Iu Iv Iw Ix Iy Iz J0 J1 J2 J3 J4 J5 J6 J7 J8 J9 Ja Jb Jc Jd Je Jf Jg Jh Ji Jj Jk Jl Jm Jn Jo Jp Jq Jr Js Jt Ju Jv Jw Jx Jy Jz K0 K2 K3 K4 K5 K6 K7 K8 K9 Ka Kb Kc Kd Ke Kf Kg Kh Ki Kj Kk Kl Km Kn Ko Kq Kr Ks Kt Ku Kv Kw Kx Ky Kz L0 L1 L2 L3 L4 L5 L6 L7 L8 L9 La Lb Lc Ld Le Lf Lg Lh Li Lj Ll Lm Ln Lo Lp Lq Lr Ls Lt Lu Lv Lw Lx Ly Lz M0 M1 M2 M3 M4 M5 M6 M7 M8 M9 Ma Mb Mc Md Me Mf Mg Mh Mi Mj Ml Mm Mn Mo Mp Mq : Value} (Q : Exit → Act → World → Prop)
  (hS : OfN W m x (.slice da dn dc) (.slice (some ⟨bo, oo, none⟩) rn rc) { r6 with toks := Sp.qI r6 } v9 L w9) (hLn : L = Sp.rnons r6) (hr6 : r6 = Sp.xT x) (hm : Sp.may x = true) (hf : (Sp.xT x).fault.err = 0)
  (hQ : ∀ c (t : Array Value) (a : Act) w, Q (.panic c) ⟨t, a.defers⟩ w → Q (.panic c) a w)
  (hR : ∀ a w, bodyPost Tryz.prog Tryz.f9 (ROfPost W (Sp.qC x)) .ret a w → Q .ret a w) :
  Code.wp Tryz.prog (ofRest 20) Q ⟨#[A0,.pointer (some ⟨W.heap.size,0,none⟩),.pointer (some ⟨W.heap.size + 1,0,none⟩),A3,A4,A5,.pointer (some ⟨m,0,none⟩),A7,A8,A9,Aa,Ab,Ac,Ad,Ae,Af,Ag,Ah,Ai,Aj,Ak,Al,Am,An,.bool (Sp.zBR r6),Ap,Aq,Ar,As,At,Au,Av,Aw,Ax,Ay,Az,B1,B3,B4,B5,B7,B8,B9,Ba,Bb,Bc,Be,Bf,Bg,Bh,Bi,Bj,Bk,Bl,Bm,Bn,Bo,Bp,Bq,Br,Bs,Bt,Bu,Bv,Bw,Bx,By,Bz,C0,C1,C3,C4,C5,C6,C7,C8,C9,Ca,Cb,Cc,Cd,Ce,Cf,Cg,Ch,Ci,Cj,Ck,Cl,Cm,Cn,Co,Cp,Cq,Cr,Cs,Ct,Cu,Cv,Cw,Cx,Cy,Cz,D0,D1,D2,D3,D4,D5,D6,D7,D8,D9,Da,Db,Dc,Dd,De,Df,Dg,Dh,Di,Dj,Dk,Dl,Dm,Dn,Do,Dp,Dq,Dr,Ds,Dt,Du,Dv,Dw,Dx,Dy,Dz,E0,E3,E4,E5,E6,E7,E8,E9,Ea,Eb,Ec,Ed,Ee,Ef,Eg,Eh,Ei,Ej,Ek,El,Em,En,Eo,Ep,Eq,Er,Es,Et,Eu,Ev,Ew,Ex,Ey,Ez,F0,F1,F2,F3,F4,F5,F6,F7,F8,F9,Fa,Fb,Fc,Fd,Fe,Ff,Fg,Fh,Fi,Fj,Fk,Fl,Fm,Fn,Fo,Fp,Fq,Fr,Fs,Ft,Fu,Fv,Fw,Fx,Fy,Fz,G0,G1,G2,G3,G4,G5,G6,G7,G8,G9,Ga,Gb,Gc,Gd,Ge,Gf,Gg,Gh,Gi,Gj,Gk,Gm,Gn,Gq,Gs,Gu,Gv,Gw,Gx,Gy,Gz,H0,H8,Ha,Hb,Hc,Hd,He,Hf,Hg,Hh,Hi,Hj,Hk,Hl,Hm,Hn,Ho,Hp,Hq,Hr,Hs,Ht,Hu,Hv,Hw,Hx,Hy,Hz,I0,I1,I2,I3,I4,I5,I6,I7,I8,I9,Ia,Ib,Ic,Id,Ie,If,Ig,Ih,Ii,Ij,Ik,Il,Im,In,Io,Ip,Iq,Ir,Is,It,Iu,Iv,Iw,Ix,Iy,Iz,J0,J1,J2,J3,J4,J5,J6,J7,J8,J9,Ja,Jb,Jc,Jd,Je,Jf,Jg,Jh,Ji,Jj,Jk,Jl,Jm,Jn,Jo,Jp,Jq,Jr,Js,Jt,Ju,Jv,Jw,Jx,Jy,Jz,K0,K2,K3,K4,K5,K6,K7,K8,K9,Ka,Kb,Kc,Kd,Ke,Kf,Kg,Kh,Ki,Kj,Kk,Kl,Km,Kn,Ko,Kq,Kr,Ks,Kt,Ku,Kv,Kw,Kx,Ky,Kz,L0,L1,L2,L3,L4,L5,L6,L7,L8,L9,La,Lb,Lc,Ld,Le,Lf,Lg,Lh,Li,Lj,Ll,Lm,Ln,Lo,Lp,Lq,Lr,Ls,Lt,Lu,Lv,Lw,Lx,Ly,Lz,M0,M1,M2,M3,M4,M5,M6,M7,M8,M9,Ma,Mb,Mc,Md,Me,Mf,Mg,Mh,Mi,Mj,Ml,Mm,Mn,Mo,Mp,Mq], []⟩ w9 := by
 have HRR := zh hR; clear hR; conv => arg 2; whnf
 obtain ⟨ta, tc, htv⟩ := zJ hS.os.mkr.toks; obtain ⟨na, nc, hnv⟩ := zJ hS.nons; obtain ⟨fo, go, hpo, hpc⟩ := hS.os.mkr.prods; obtain ⟨qa, qc, hqv⟩ := zJ hpo; simp only at htv; obtain ⟨tn, htn⟩ : ∃ tn, tn = (Sp.qI r6).length := ⟨_, rfl⟩
 obtain ⟨nn, hnn⟩ : ∃ nn, nn = L.length := ⟨_, rfl⟩
 obtain ⟨pn, hpn⟩ : ∃ pn, pn = r6.prods.length := ⟨_, rfl⟩
 rw [← htn] at htv; rw [← hnn] at hnv; rw [← hpn] at hqv; have hmb := hS.os.mkr.block; unfold yE at hmb; simp only at hmb; rw [htv, hnv, hqv] at hmb; have HMB := zh hmb; have HTV := zh htv; have HNV := zh hnv; have HQV := zh hqv; have HTN := zh htn; have HNN := zh hnn; have HPN := zh hpn; have HLN := zh hLn; have HS11 := zh hS; have HM11 := zh hmb; have HR6 := zh hr6; have HFE := zh hf; clear hmb htv hnv hqv htn hnn hpn hLn hpo hpc hS hr6 hf; have hgb := HS11.out.os.gbox; have b0 := zc 0 hgb; have b1 := zc 1 hgb; have b2 := zc 2 hgb; have b3 := zc 3 hgb; have b4 := zc 4 hgb; have fz0 := zf 0 hgb; have fz1 := zf 1 hgb; have fz2 := zf 2 hgb; have fz3 := zf 3 hgb; have fz4 := zf 4 hgb; have lg := zC hgb; have HGB := zh hgb; clear hgb
 cases hrr : Sp.zBR r6 with
 | true =>
  have E : Hid (Sp.qC x = (Sp.xG, ⟨4, 0, []⟩)) := zh (Sp.zAV hm HFE.out (by rw [← HR6.out]; exact hrr)); clear hrr; go_wp2_with fail; refine HRR.out _ _ ?_; refine vX (g := W.heap.size + 1) (cs := #[.slice none 0 0, .slice none 0 0, .slice none 0 0, .string ⟨#[]⟩, .string ⟨#[]⟩]) (t := 39) (fr := (0, 0)) rfl rfl ?hg rfl Tryz.underlying39 (by kernel_rfl) rfl ?hr
  case hg => exact zA (zA (zA (zA (zA HGB.out))))
  case hr =>
   rw [E.out]; exact ⟨HS11.out.os.bel.trans ((((((Below.refl _ w9).setCell (by simp) _).setCell (by simp) _).setCell (by simp) _).setCell (by simp) _).setCell (by simp) _), _, rfl, jS _⟩
 | false =>
  have E : Hid (Sp.qC x = (⟨Sp.qI r6, Sp.rnons r6, r6.prods, x.pro, x.tail⟩, Sp.okFault)) := zh (by
   have h := Sp.zBT hm HFE.out (by rw [← HR6.out]; exact hrr); rw [← HR6.out] at h
   exact h)
  have m3 := zc 3 HM11.out; have m4 := zc 4 HM11.out; have f3 := zf 3 HM11.out; have f4 := zf 4 HM11.out; have lm := zC HM11.out
  have hne : ¬ W.heap.size = m := fun e => by
   have h2 := HS11.out.os.sbox; rw [e, HM11.out] at h2; simp only [Option.some.injEq, Obj.cells.injEq] at h2; exact absurd h2.2.1 (by decide)
  have HNE2 := zh hne
  have HSX := zh (fun (w' : World) (kp : Kp (fun b => b ≠ m) w9 w') => (show ((w'.cell? ⟨W.heap.size, 0, none⟩ = some (.string ⟨x.pro.toArray⟩) ∧ w'.cell? ⟨W.heap.size, 3, none⟩ = some (.string ⟨x.tail.toArray⟩)) ∧ W.heap.size < w'.heap.size) from by
   have h1 := kp.at HS11.out.os.sbox HNE2.out
   exact ⟨⟨zc 0 h1, zc 3 h1⟩, zC h1⟩))
  clear hrr hne b0 b1 b2 b3 b4 fz0 fz1 fz2 fz3 fz4 lg; go_upto_region 76 with fail
  refine zF (fun w' : World => ((w'.cell? ⟨W.heap.size, 0, none⟩ = some (.string ⟨x.pro.toArray⟩) ∧ w'.cell? ⟨W.heap.size, 3, none⟩ = some (.string ⟨x.tail.toArray⟩)) ∧ W.heap.size < w'.heap.size)) [13] (.take 0 (.take 1 (.take 2 (.take 3 (.take 4 (.take 5 (.one 6 (.one 7 (.one 8 (.one 9 (.one 10 (.one 11 (.one 12 (.one 13 (.done))))))))))))))) (by kernel_rfl) (by kernel_rfl) (fun c t a w h => hQ c t a w h) ?_; have hSw := HSX.out _ ((Kp.refl _ w9).drew); iterate 6 (refine zO (v := ?_) rfl rfl hSw (by rfl) ?_ ?_; rotate_left 1; (focus (intro w hSx; (try dsimp only at hSx); go_simp; try rfl)); (try simp only [Act.put, zq0, zq1, zq2]))
  refine zB rfl (by rfl) (fun K' hK => ?_); go_simp; refine hK _ _ (.inr (HSX.out _ ((Kp.refl _ w9).drew))) ?_; clear hK K' hSw; (try simp only [Act.put, zq0, zq1, zq2]); iterate 2 (refine zB rfl (by rfl) (fun K' hK => ?_); go_simp; refine hK _ _ (.inr (HSX.out _ ((Kp.refl _ w9).drew))) ?_; clear hK K'; (try simp only [Act.put, zq0, zq1, zq2]))
  iterate 4 (refine zB rfl (by rfl) (fun K' hK => ?_); go_simp; refine hK _ _ (.inr (HSX.out _ (((Kp.refl _ w9).setCell (p := ⟨m, 3, none⟩) (by simp) (.string ⟨x.pro.toArray⟩)).drew))) ?_; clear hK K'; (try simp only [Act.put, zq0, zq1, zq2]))
  refine zB rfl (by rfl) (fun K' hK => ?_); go_simp; refine hK _ _ (.inl rfl) ?_; clear hK K'; (try simp only [Act.put, zq0, zq1, zq2]); refine zH ?_; obtain ⟨wY, hwY⟩ : ∃ wY : World, wY = (w9.setCell ⟨m, 3, none⟩ (.string ⟨x.pro.toArray⟩)).setCell ⟨m, 4, none⟩ (.string ⟨x.tail.toArray⟩) := ⟨_, rfl⟩
  go_upto_region 77 with fail
  rw [← hwY]; have zz := zA (i := 4) (v := .string ⟨x.tail.toArray⟩) (zA (i := 3) (v := .string ⟨x.pro.toArray⟩) HM11.out); rw [← hwY] at zz; have kY : KpT (fun t => t ≠ 82) w9 wY := by rw [hwY]; exact KpT.setCell (KpT.setCell (fun _ _ _ _ h _ => h) HM11.out (by simp) _) (zA HM11.out) (by simp) _
  have bY : Below W.heap.size w9 wY := by
   rw [hwY]; have hB := HS11.out.os.mkr.behind; exact Kp.below (S := fun b => b < W.heap.size) (((Kp.refl _ w9).setCell (p := ⟨m, 3, none⟩) (by simp only; omega) _).setCell (p := ⟨m, 4, none⟩) (by simp only; omega) _) HS11.out.os.bel.size (fun b hb => hb)
  have z0 : wY.cell? ⟨m, 0, none⟩ = some (.slice ta tn tc) := zc 0 zz; have z1 : wY.cell? ⟨m, 1, none⟩ = some (.slice na nn nc) := zc 1 zz; have z2 : wY.cell? ⟨m, 2, none⟩ = some (.slice qa pn qc) := zc 2 zz; have z3 : wY.cell? ⟨m, 3, none⟩ = some (.string ⟨x.pro.toArray⟩) := zc 3 zz; have z4 : wY.cell? ⟨m, 4, none⟩ = some (.string ⟨x.tail.toArray⟩) := zc 4 zz; have lmY := zC zz; have hgY := kY _ _ _ _ HGB.out (by decide); have b0 := zc 0 hgY; have b1 := zc 1 hgY; have b2 := zc 2 hgY; have b3 := zc 3 hgY; have b4 := zc 4 hgY; have fz0 := zf 0 hgY; have fz1 := zf 1 hgY; have fz2 := zf 2 hgY; have fz3 := zf 3 hgY; have fz4 := zf 4 hgY; have lg := zC hgY; have HGY := zh hgY; have HKY := zh kY; have HBY := zh bY; clear zz hgY kY bY hwY m3 m4 f3 f4 lm HSX; go_wp2_with fail; refine HRR.out _ _ ?_; refine vX (g := W.heap.size + 1) (cs := #[.slice ta tn tc, .slice na nn nc, .slice qa pn qc, .string ⟨x.pro.toArray⟩, .string ⟨x.tail.toArray⟩]) (t := 39) (fr := (0, 0)) rfl rfl ?hg rfl Tryz.underlying39 (by kernel_rfl) rfl ?hr
  case hg => exact zA (zA (zA (zA (zA HGY.out))))
  case hr =>
   rw [E.out]; have hT := HTN.out; have hN := HNN.out; have hP := HPN.out; have hLL := HLN.out; have hV := HTV.out; have hV2 := HNV.out; have hV3 := HQV.out; rw [hT] at hV; rw [hN] at hV2; rw [hP] at hV3; rw [hT, hN, hP, ← hLL]; obtain ⟨q1, q2⟩ := of_last (wF := (((((wY.setCell ⟨W.heap.size + 1, 0, none⟩ (.slice ta tn tc)).setCell ⟨W.heap.size + 1, 1, none⟩ (.slice na nn nc)).setCell ⟨W.heap.size + 1, 2, none⟩ (.slice qa pn qc)).setCell ⟨W.heap.size + 1, 3, none⟩ (.string ⟨x.pro.toArray⟩)).setCell ⟨W.heap.size + 1, 4, none⟩ (.string ⟨x.tail.toArray⟩)).drew) HS11.out HKY.out HBY.out HGY.out (((((((Kp.refl _ wY).setCell (p := ⟨W.heap.size + 1, 0, none⟩) (by simp) (.slice ta tn tc)).setCell (p := ⟨W.heap.size + 1, 1, none⟩) (by simp) (.slice na nn nc)).setCell (p := ⟨W.heap.size + 1, 2, none⟩) (by simp) (.slice qa pn qc)).setCell (p := ⟨W.heap.size + 1, 3, none⟩) (by simp) (.string ⟨x.pro.toArray⟩)).setCell (p := ⟨W.heap.size + 1, 4, none⟩) (by simp) (.string ⟨x.tail.toArray⟩)).drew) hV hV2 hV3; rw [hT, hN, hP] at q1 q2; exact ⟨q1, _, rfl, q2⟩

set_option maxRecDepth 100000 in
set_option maxHeartbeats 12800000 in
theorem of_good {W w6 : World} {m : Nat} {x : Sp.zM} {da : Option Addr} {dn dc bo oo rn rc : Nat} {r6 : Sp.Rk} {v6 : RkV}
  {A0 A3 A4 A5 A7 A8 A9 Aa Ab Ac Ad Ae Af Ag Ah Ai Aj Ak Al Am An Ao Ap Aq Ar As At Au Av Aw Ax Ay Az B1 B3 B4 B5 B7 B8 B9 Ba Bb Bc Be Bf Bg Bh Bi Bj Bk Bl Bm Bn Bo Bp Bq Br Bs Bt Bu Bv Bw Bx By Bz C0 C1 C3 C4 C5 C6 C7 C8 C9 Ca Cb Cc Cd Ce Cf Cg Ch Ci Cj Ck Cl Cm Cn Co Cp Cq Cr Cs Ct Cu Cv Cw Cx Cy Cz D0 D1 D2 D3 D4 D5 D6 D7 D8 D9 Da Db Dc Dd De Df Dg Dh Di Dj Dk Dl Dm Dn Do Dp Dq Dr Ds Dt Du Dv Dw Dx Dy Dz E0 E3 E4 E5 E6 E7 E8 E9 Ea Eb Ec Ed Ee Ef Eg Eh Ei Ej Ek El Em En Eo Ep Eq Er Es Et Eu Ev Ew Ex Ey Ez F0 F1 F2 F3 F4 F5 F6 F7 F8 F9 Fa Fb Fc Fd Fe Ff Fg Fh Fi Fj Fk Fl Fm Fn Fo Fp Fq Fr Fs Ft Fu Fv Fw Fx Fy Fz G0 G1 G2 G3 G4 G5 G6 G7 G8 G9 Ga Gb Gc Gd Ge Gf Gg Gh Gi Gj Gk Gm Gn Gq Gs Gu Gv Gw Gx Gy Gz H0 H8 Ha Hb Hc Hd He Hf Hg Hh Hi Hj Hk Hl Hm Hn Ho Hp Hq Hr Hs Ht Hu Hv Hw Hx Hy Hz I0 I1 I2 I3 I4 I5 I6 I7 I8 I9 Ia Ib Ic Id Ie If Ig Ih Ii Ij Ik Il Im In Io Ip Iq Ir Is It Iu Iv Iw Ix Iy Iz J0 J1 J2 J3 J4 J5 J6 J7 J8 J9 Ja Jb Jc Jd Je Jf Jg Jh Ji Jj Jk Jl Jm Jn Jo Jp Jq Jr Js Jt Ju Jv Jw Jx Jy Jz K0 K2 K3 K4 K5 K6 K7 K8 K9 Ka Kb Kc Kd Ke Kf Kg Kh Ki Kj Kk Kl Km Kn Ko Kq Kr Ks Kt Ku Kv Kw Kx Ky Kz L0 L1 L2 L3 L4 L5 L6 L7 L8 L9 La Lb Lc Ld Le Lf Lg Lh Li Lj Ll Lm Ln Lo Lp Lq Lr Ls Lt Lu Lv Lw Lx Ly Lz M0 M1 M2 M3 M4 M5 M6 M7 M8 M9 Ma Mb Mc Md Me Mf Mg Mh Mi Mj Ml Mm Mn Mo Mp Mq : Value} (Q : Exit → Act → World → Prop)
  (hS6 : OfS W m x (.slice da dn dc) (.slice (some ⟨bo, oo, none⟩) rn rc) r6 v6 w6) (hrb6 : Sp.RB (2 ^ 38) r6) (hr6 : r6 = Sp.xT x) (hm : Sp.may x = true)
  (hin : (Sp.xT x).inner ≤ 60000) (hf : (Sp.xT x).fault.err = 0)
  (hQ : ∀ c (t : Array Value) (a : Act) w, Q (.panic c) ⟨t, a.defers⟩ w → Q (.panic c) a w)
  (hR : ∀ a w, bodyPost Tryz.prog Tryz.f9 (ROfPost W (Sp.qC x)) .ret a w → Q .ret a w) :
  Code.wp Tryz.prog (ofRest 10) Q ⟨#[A0,.pointer (some ⟨W.heap.size,0,none⟩),.pointer (some ⟨W.heap.size + 1,0,none⟩),A3,A4,A5,.pointer (some ⟨m,0,none⟩),A7,A8,A9,Aa,Ab,Ac,Ad,Ae,Af,Ag,Ah,Ai,Aj,Ak,Al,Am,An,Ao,Ap,Aq,Ar,As,At,Au,Av,Aw,Ax,Ay,Az,B1,B3,B4,B5,B7,B8,B9,Ba,Bb,Bc,Be,Bf,Bg,Bh,Bi,Bj,Bk,Bl,Bm,Bn,Bo,Bp,Bq,Br,Bs,Bt,Bu,Bv,Bw,Bx,By,Bz,C0,C1,C3,C4,C5,C6,C7,C8,C9,Ca,Cb,Cc,Cd,Ce,Cf,Cg,Ch,Ci,Cj,Ck,Cl,Cm,Cn,Co,Cp,Cq,Cr,Cs,Ct,Cu,Cv,Cw,Cx,Cy,Cz,D0,D1,D2,D3,D4,D5,D6,D7,D8,D9,Da,Db,Dc,Dd,De,Df,Dg,Dh,Di,Dj,Dk,Dl,Dm,Dn,Do,Dp,Dq,Dr,Ds,Dt,Du,Dv,Dw,Dx,Dy,Dz,E0,E3,E4,E5,E6,E7,E8,E9,Ea,Eb,Ec,Ed,Ee,Ef,Eg,Eh,Ei,Ej,Ek,El,Em,En,Eo,Ep,Eq,Er,Es,Et,Eu,Ev,Ew,Ex,Ey,Ez,F0,F1,F2,F3,F4,F5,F6,F7,F8,F9,Fa,Fb,Fc,Fd,Fe,Ff,Fg,Fh,Fi,Fj,Fk,Fl,Fm,Fn,Fo,Fp,Fq,Fr,Fs,Ft,Fu,Fv,Fw,Fx,Fy,Fz,G0,G1,G2,G3,G4,G5,G6,G7,G8,G9,Ga,Gb,Gc,Gd,Ge,Gf,Gg,Gh,Gi,Gj,Gk,Gm,Gn,Gq,Gs,Gu,Gv,Gw,Gx,Gy,Gz,H0,H8,Ha,Hb,Hc,Hd,He,Hf,Hg,Hh,Hi,Hj,Hk,Hl,Hm,Hn,Ho,Hp,Hq,Hr,Hs,Ht,Hu,Hv,Hw,Hx,Hy,Hz,I0,I1,I2,I3,I4,I5,I6,I7,I8,I9,Ia,Ib,Ic,Id,Ie,If,Ig,Ih,Ii,Ij,Ik,Il,Im,In,Io,Ip,Iq,Ir,Is,It,Iu,Iv,Iw,Ix,Iy,Iz,J0,J1,J2,J3,J4,J5,J6,J7,J8,J9,Ja,Jb,Jc,Jd,Je,Jf,Jg,Jh,Ji,Jj,Jk,Jl,Jm,Jn,Jo,Jp,Jq,Jr,Js,Jt,Ju,Jv,Jw,Jx,Jy,Jz,K0,K2,K3,K4,K5,K6,K7,K8,K9,Ka,Kb,Kc,Kd,Ke,Kf,Kg,Kh,Ki,Kj,Kk,Kl,Km,Kn,Ko,Kq,Kr,Ks,Kt,Ku,Kv,Kw,Kx,Ky,Kz,L0,L1,L2,L3,L4,L5,L6,L7,L8,L9,La,Lb,Lc,Ld,Le,Lf,Lg,Lh,Li,Lj,Ll,Lm,Ln,Lo,Lp,Lq,Lr,Ls,Lt,Lu,Lv,Lw,Lx,Ly,Lz,M0,M1,M2,M3,M4,M5,M6,M7,M8,M9,Ma,Mb,Mc,Md,Me,Mf,Mg,Mh,Mi,Mj,Ml,Mm,Mn,Mo,Mp,Mq], []⟩ w6 := by
 have HRR := zh hR; clear hR; conv => arg 2; whnf
 have HS6 := zh hS6; have HRB6 := zh hrb6; have HR6 := zh hr6; clear hS6 hrb6 hr6; have HIN0 := zh hin; clear hin; have hmb := HS6.out.mkr.block; unfold yE at hmb; have m1 := zc 1 hmb; have f1 := zf 1 hmb; have m8 := zc 8 hmb; have m9 := zc 9 hmb; have m10 := zc 10 hmb; have lm := zC hmb; obtain ⟨fe, hfe⟩ : ∃ fe, fe = r6.fault.err := ⟨_, rfl⟩
 rw [← hfe] at m8; have HFE := zh hfe; clear hmb hfe; have hf0 : fe = 0 := by rw [HFE.out, HR6.out]; exact hf
 have hfd : decide (fe = 0) = true := decide_eq_true hf0; subst hf0; go_upto_block 14 with fail
 obtain ⟨wT, hwT⟩ : ∃ wT : World, wT = w6.setCell ⟨m, 1, none⟩ (.slice (some ⟨w6.heap.size, 0, none⟩) 1 1) := ⟨_, rfl⟩
 obtain ⟨w7, hw7⟩ : ∃ w7 : World, w7 = wT.alloc (.cells #[.string ⟨#[36, 97, 99, 99, 101, 112, 116]⟩, .string ⟨#[]⟩] 89) := ⟨_, rfl⟩
 rw [← hwT, ← hw7]; have hsT : wT.heap.size = w6.heap.size := by rw [hwT]; simp [World.setCell]
 obtain ⟨kT, fT⟩ : KpT (fun t => t ≠ 82) w6 wT ∧ RFr W.heap.size w6 wT := by rw [hwT]; exact zY.box1 HS6.out.mkr.block HS6.out.mkr.behind 1 _
 have hmT : wT.heap[m]? = some (.cells (yE r6 { v6 with nv := .slice (some ⟨w6.heap.size, 0, none⟩) 1 1 }).toArray 82 (0, 0)) := by rw [hwT]; exact zA HS6.out.mkr.block
 have hb7 : Below wT.heap.size wT w7 := by rw [hw7]; exact (Below.refl _ wT).alloc (Nat.le_refl _) _
 have hn7 : w7.heap[w6.heap.size]? = some (.cells #[.string ⟨#[36, 97, 99, 99, 101, 112, 116]⟩, .string ⟨#[]⟩] 89 (0, 0)) := by rw [hw7, ← hsT]; exact zE wT _
 have hB6 := HS6.out.bel.size
 have hS7 : OfN W m x (.slice da dn dc) (.slice (some ⟨bo, oo, none⟩) rn rc) r6 { v6 with nv := .slice (some ⟨w6.heap.size, 0, none⟩) 1 1 } [zCK] w7 := by
  have h := HS6.out.mkr; refine ⟨⟨⟨(hb7.block m (zC hmT)).trans hmT, zL (zD h.toks kT (by decide)) hb7, zL (zD h.given kT (by decide)) hb7, zL (zD h.types kT (by decide)) hb7, zL (zD h.lefts kT (by decide)) hb7, (h.prods.kpT kT (by decide) (by decide)).below hb7, h.behind⟩, (hb7.block _ (by rw [hsT]; exact zC HS6.out.sbox)).trans (kT _ _ _ _ HS6.out.sbox (by decide)), (hb7.block _ (by rw [hsT]; exact zC HS6.out.gbox)).trans (kT _ _ _ _ HS6.out.gbox (by decide)), (HS6.out.bel.trans fT.1).trans (hb7.mono (by rw [hsT]; exact hB6))⟩, jY (size := 2) (n := 1) hn7 hB6 rfl (by decide), fun b hb e => ?_⟩; have e1 : w6.heap.size = b := by simpa [Value.ownBlock] using hb
  have := (h.types.lt b e).2; omega
 have HS7 := zh hS7; have HIN : Hid (r6.inner ≤ 60000) := zh (by rw [HR6.out]; exact HIN0.out); have HLB : Hid ((zCK :: r6.lefts.map (zCA r6.types)).length ≤ 2 ^ 39) := zh (by rw [List.length_cons, List.length_map]; have := HRB6.out.lefts; omega); have HPB : Hid (r6.prods.length ≤ 2 ^ 39) := zh (by have := HRB6.out.prods; omega); clear hw7 hwT hsT kT fT hmT hb7 hn7 hS7 m1 f1 m8 m9 m10 lm hfd; refine of_nons _ _ HS7.out HRB6.out (fun c t a w h => hQ c t a w h) ?_; intro Zm Zx y20 y272 y273 y274 y275 y276 y277 y278 y279 y280 y281 y282 y283 y284 y285 y286 y287 y288 y289 y290 y291 y292 y293 y294 y295 y296 y297 y298 y299 y300 y301 y302 y303 y304 y305 y306 y307 y308 y309 y310 y311 y312 y313 y314 y315 wc v8 hS8; dsimp only; have HS8 := zh hS8; clear hS8 HS7 HS6; go_upto_block 16 with fail
 refine of_inner _ _ HS8.out HIN.out HLB.out (fun c t a w h => hQ c t a w h) ?_; intro y21 y316 y317 y318 y319 y320 y321 y322 y323 y324 y325 y326 y327 y328 y329 y330 y331 y332 y333 y334 y335 y336 y337 y338 wc v9 hS9; dsimp only; have HS9 := zh hS9; clear hS9 HS8; go_upto_block 18 with fail
 refine of_numbers _ _ HS9.out HRB6.out (fun c t a w h => hQ c t a w h) ?_; intro y22 y23 y339 y340 y341 y342 y343 y344 y345 y346 y347 y348 y349 y350 y351 y352 y353 y354 y355 y356 y357 y358 y359 y360 y361 y362 y363 y364 y365 y366 y367 wc hS10; dsimp only; have HS10 := zh hS10; clear hS10 HS9; obtain ⟨w8, hw8⟩ : ∃ w8 : World, w8 = wc := ⟨_, rfl⟩
 subst hw8; obtain ⟨L, hL⟩ : ∃ L, L = zCK :: r6.lefts.map (zCA r6.types) ++ Sp.qP r6.inner := ⟨_, rfl⟩
 rw [← hL] at HS10; have hLn : L = Sp.rnons r6 := by rw [hL]; rfl
 have hLl : L.length = r6.lefts.length + 1 + r6.inner := by rw [hL, List.length_append, List.length_cons, List.length_map, Sp.jR]
 have htl : (Sp.qI r6).length = r6.toks.length := by
  unfold Sp.qI; rw [List.length_append, Sp.zBX, List.length_take, List.length_drop]; omega
 have hrg : Sp.zBR r6 = ((((decide (40 < (Sp.qI r6).length)) || decide (24 < L.length)) || decide (60 < r6.prods.length)) || r6.prods.any fun p => decide (8 < p.right.length)) := by
  rw [hLl, htl]; (try rfl)
 obtain ⟨ta, tc, htv⟩ := zJ HS10.out.os.mkr.toks; obtain ⟨na, nc, hnv⟩ := zJ HS10.out.nons; obtain ⟨fo, go, hpo, hpc⟩ := HS10.out.os.mkr.prods; obtain ⟨qa, qc, hqv⟩ := zJ hpo; simp only at htv; obtain ⟨tn, htn⟩ : ∃ tn, tn = (Sp.qI r6).length := ⟨_, rfl⟩
 obtain ⟨nn, hnn⟩ : ∃ nn, nn = L.length := ⟨_, rfl⟩
 obtain ⟨pn, hpn⟩ : ∃ pn, pn = r6.prods.length := ⟨_, rfl⟩
 rw [← htn] at htv hrg; rw [← hnn] at hnv hrg; rw [← hpn] at hqv hrg; have hmb := HS10.out.os.mkr.block; unfold yE at hmb; simp only at hmb; rw [htv, hnv, hqv] at hmb; have m0 := zc 0 hmb; have m1 := zc 1 hmb; have m2 := zc 2 hmb; have m3 := zc 3 hmb; have m4 := zc 4 hmb; have f3 := zf 3 hmb; have f4 := zf 4 hmb; have lm := zC hmb; obtain ⟨b0, hb0⟩ : ∃ b0, b0 = ((decide (40 < tn) || decide (24 < nn)) || decide (60 < pn)) := ⟨_, rfl⟩
 rw [← hb0] at hrg; have HB0 := zh hb0; have HRG := zh hrg; have HMB := zh hmb; have HTV := zh htv; have HNV := zh hnv; have HQV := zh hqv; have HTN := zh htn; have HNN := zh hnn; have HPN := zh hpn; have HLN := zh hLn; clear hb0 hrg hmb htv hnv hqv htn hnn hpn hLn hL hLl htl hpo hpc; go_upto_region 69 with fail
 go_cut [24] from 368 to 392 (fun c wx => c = .bool b0 ∧ w8 = wx)
 case first =>
  by_cases h1 : 40 < tn
  ·have e1 : decide (40 < tn) = true := decide_eq_true h1
   have e : b0 = true := by rw [HB0.out, e1]; rfl
   subst e; go_wp2_with fail; go_meet; exact ⟨by first | rfl | (rw [e1]; rfl) | (rw [e1, e2]; rfl) | (rw [e1, e2, e3]; rfl) | (simp; omega) | (simp_all; omega), rfl⟩
  ·have e1 : decide (40 < tn) = false := decide_eq_false h1
   by_cases h2 : 24 < nn
   ·have e2 : decide (24 < nn) = true := decide_eq_true h2
    have e : b0 = true := by rw [HB0.out, e1, e2]; rfl
    subst e; go_wp2_with fail; go_meet; exact ⟨by first | rfl | (rw [e1]; rfl) | (rw [e1, e2]; rfl) | (rw [e1, e2, e3]; rfl) | (simp; omega) | (simp_all; omega), rfl⟩
   ·have e2 : decide (24 < nn) = false := decide_eq_false h2
    by_cases h3 : 60 < pn
    ·have e3 : decide (60 < pn) = true := decide_eq_true h3
     have e : b0 = true := by rw [HB0.out, e1, e2, e3]; rfl
     subst e; go_wp2_with fail; go_meet; exact ⟨by first | rfl | (rw [e1]; rfl) | (rw [e1, e2]; rfl) | (rw [e1, e2, e3]; rfl) | (simp; omega) | (simp_all; omega), rfl⟩
    ·have e3 : decide (60 < pn) = false := decide_eq_false h3
     have e : b0 = false := by rw [HB0.out, e1, e2, e3]; rfl
     subst e; go_wp2_with fail; go_meet; exact ⟨by first | rfl | (rw [e1]; rfl) | (rw [e1, e2]; rfl) | (rw [e1, e2, e3]; rfl) | (simp; omega) | (simp_all; omega), rfl⟩
 case rest =>
  obtain ⟨rfl, rfl⟩ := hcut; go_upto_block 20 with fail
  refine of_long _ _ HS10.out HPB.out (fun c t a w h => hQ c t a w h) ?_; intro y25 y393 y394 y395 y396 y397 y398 y399 y400 y401 y402 y403 y404 y405 y406 y407 y408 y409 y410 y411 y412 y413 y414 y415 y416 wc hb11; dsimp only; rw [← HRG.out]; have HS11 := HS10.out.below hb11; refine (by assumption : ∀ (a : Act) (w : World), _ → _) _ _ ?_; exact of_end _ HS11 HLN.out HR6.out hm hf hQ HRR.out
end Go.Proofs.YtddnomjfcbplpaaGreatDoor
