import Derived.Test.YtddnomjfcbplpaaGreatDoorZ09
namespace Go.Proofs.YtddnomjfcbplpaaGreatDoor
open Go.RowKit

def yA : CutN := ⟨8, 6, 6, 5, 6, 60⟩
set_option maxHeartbeats 800000 in
theorem cut0_sym (s : Sp.Sym) (W : World) :
  Calls Tryz.prog 20 #[symV s] W fun e w' => e = .returned (symV (jN s)) ∧ Below W.heap.size W w' := by
 obtain ⟨nm, lt, nu, pa⟩ := s; show Calls _ _ #[.agg #[.string ⟨nm.toArray⟩, .bool lt, .int .i64 nu, .int .i64 pa]] _ _
 go_enter Tryz.func20, Tryz.ntmps20
 go_wp2_with fail
 go_region_held3 (fun w' => w'.cell? ⟨W.heap.size, 0, none⟩ = some (.string ⟨nm.toArray⟩) ∧ w'.cell? ⟨W.heap.size, 1, none⟩ = some (.bool lt) ∧ w'.cell? ⟨W.heap.size, 2, none⟩ = some (.int .i64 nu) ∧ w'.cell? ⟨W.heap.size, 3, none⟩ = some (.int .i64 pa))
  (go_keep)
  ((first
   | (go_at_call 19; refine (zCR _ 25 _).mono ?_; rintro e w' ⟨rfl, rfl⟩)))
 all_goals
  go_wp2_with fail; refine jH (g := W.heap.size + 1) (cs := (symC (jN ⟨nm, lt, nu, pa⟩)).toArray) (t := 45) (fr := (0, 0)) rfl rfl (xJ W _ _) rfl Tryz.underlying45 (by kernel_rfl) rfl ⟨rfl, ?hb⟩; exact below_drewN (((Below.refl _ W).alloc (Nat.le_refl _) _).alloc (by simp) _) 1

noncomputable def cut0Blk (n : Nat) : Code := (Tryz.f7.body.bind (kU n)).getD .skip

set_option maxRecDepth 100000 in
set_option maxHeartbeats 12800000 in
theorem cut0_parts (W wo wi wm : World) (ko jo g b off b3 off3 n rn pn cr sc pc0 : Nat) (pv0 : Option Addr) (aps : List Sp.Part) (qn : List UInt8) (ql : Bool) (qu qa ap : Int)
  {A0 A2 A3 A4 A5 A6 A8 Ac Ad Ae Af Ag Ah Ai Aj Ak Al Am An Ao Ap Aq Ar As At Au Av Aw Ax Ay Az B1 B3 B4 B5 B7 B8 B9 Ba Bb Bc Be Bf Bg Bh Bi Bj Bk Bl Bm Bn Bo Bp Bq Br Bs Bt Bu Bv Bw Bx By Bz C0 C1 C3 C4 C5 C6 C7 C8 C9 Ca Cb Cc Cd Ce Cf Cg Ch Ci Cj Ck Cl Cm Cn Co Cp Cq Cr Cs Ct Cu Cv Cw Cx Cy Cz D0 D1 D2 D3 D4 D5 D6 D7 D8 D9 Da Db Dc Dd De Df Dg Dh Di Dj Dk Dl Dm Dn Do Dp Dq Dr Ds Dt Du Dv Dw Dx Dy Dz E0 E3 E4 E5 E6 E7 E8 E9 Ea Eb Ec Ed Ee Ef Eg Eh Ei Ej Ek El Em En Eo Ep Eq Er Es Et Eu Ev Ew Ex Ey Ez F0 F1 F2 F3 F4 F5 F6 F7 F8 F9 Fa Fb Fc Fd Fe Ff Fg Fh Fi Fj Fk Fl Fm Fn Fo Fp Fq Fr Fs Ft Fu Fv Fw Fx Fy : Value} (K : Act → World → Prop) (Q : Exit → Act → World → Prop)
  (hin : SlAt W (.slice pv0 pn pc0) 6 (aps.map z6)) (hpn : aps.length = pn)
  (hks : ∀ w', Below (wo.heap.size + 1) wi w' → w'.cell? ⟨W.heap.size, 2, none⟩ = some (.slice (some ⟨b, off, none⟩) n cr) ∧ w'.cell? ⟨b, off + ko * 3 + 1, none⟩ = some (.slice (some ⟨b3, off3, none⟩) rn sc) ∧ w'.cell? ⟨b3, off3 + jo * 6, none⟩ = some (.slice pv0 pn pc0) ∧ w'.cell? ⟨b3, off3 + jo * 6 + 1, none⟩ = some (.string ⟨qn.toArray⟩) ∧ w'.cell? ⟨b3, off3 + jo * 6 + 2, none⟩ = some (.bool ql) ∧ w'.cell? ⟨b3, off3 + jo * 6 + 3, none⟩ = some (.int .i64 qu) ∧ w'.cell? ⟨b3, off3 + jo * 6 + 4, none⟩ = some (.int .i64 qa) ∧ w'.cell? ⟨b3, off3 + jo * 6 + 5, none⟩ = some (.int .i64 ap))
  (hnb : ∀ w', Below (wo.heap.size + 1) wi w' → Below W.heap.size W w') (hMle : wo.heap.size + 1 ≤ wi.heap.size) (hWi : W.heap.size < wo.heap.size) (hbi : b < wo.heap.size) (hb3i : b3 < wo.heap.size) (hbl0 : W.heap.size ≤ wo.heap.size)
  (hko1 : (ko : Int) < (n : Int)) (hjo1 : (jo : Int) < (rn : Int)) (hn63 : n ≤ 2 ^ 63 - 1) (hrn63 : rn ≤ 2 ^ 63 - 1) (hpn63 : pn ≤ 2 ^ 63 - 1)
  (hgw : wi.heap.size ≤ g) (hG : wm.heap[g]? = some (.cells #[(.slice none 0 0), .string ⟨(qn.take 25).toArray⟩, .bool ql, .int .i64 qu, .int .i64 qa, .int .i64 ap] 60 (0, 0))) (hbm : Below wi.heap.size wi wm)
  (hQ : ∀ c (t : Array Value) (a : Act) w, Q (.panic c) ⟨t, a.defers⟩ w → Q (.panic c) a w)
  (hK : ∀ (N3 Nf Ob Od Oe Of Og Oh Oi Oj Ol Om On Oq Ot Ou Ov Ow Ox Oy Oz P0 P1 P3 P4 P5 P6 P7 P8 P9 Pa Pb Pc Pe Pf Pg Ph Pi Pj Pk Pm Pn Po Pq Pr Ps Pt Pu : Value) (wx : World) (v : Value), wx.heap[g]? = some (.cells #[v, .string ⟨(qn.take 25).toArray⟩, .bool ql, .int .i64 qu, .int .i64 qa, .int .i64 ap] 60 (0, 0)) → wx.ownsRow (g + 1) 47 6 v ((aps.take 6).map (jT yA)).length (((aps.take 6).map (jT yA)).map z6).flatten → Below wi.heap.size wi wx → K ⟨#[A0,.pointer (some ⟨W.heap.size,0,none⟩),A2,A3,A4,A5,A6,.int .i64 (ko : Int),A8,.int .i64 (jo : Int),.pointer (some ⟨g,0,none⟩),N3,Nf,Ad,Ae,Af,Ag,Ah,Ai,Aj,Ak,Al,Am,An,Ao,Ap,Aq,Ar,As,At,Au,Av,Aw,Ax,Ay,Az,B1,B3,B4,B5,B7,B8,B9,Ba,Bb,Bc,Be,Bf,Bg,Bh,Bi,Bj,Bk,Bl,Bm,Bn,Bo,Bp,Bq,Br,Bs,Bt,Bu,Bv,Bw,Bx,By,Bz,C0,C1,C3,C4,C5,C6,C7,C8,C9,Ca,Cb,Cc,Cd,Ce,Cf,Cg,Ch,Ci,Cj,Ck,Cl,Cm,Cn,Co,Cp,Cq,Cr,Cs,Ct,Cu,Cv,Cw,Cx,Cy,Cz,D0,D1,D2,D3,D4,D5,D6,D7,D8,D9,Da,Db,Dc,Dd,De,Df,Dg,Dh,Di,Dj,Dk,Dl,Dm,Dn,Do,Dp,Dq,Dr,Ds,Dt,Du,Dv,Dw,Dx,Dy,Dz,E0,E3,E4,E5,E6,E7,E8,E9,Ea,Eb,Ob,Od,Oe,Of,Og,Oh,Oi,Oj,Ol,Om,On,Oq,Ot,Ou,Ov,Ow,Ox,Oy,Oz,P0,P1,P3,P4,P5,P6,P7,P8,P9,Pa,Pb,Pc,Pe,Pf,Pg,Ph,Pi,Pj,Pk,Pm,Pn,Po,Pq,Pr,Ps,Pt,Pu,Fm,Fn,Fo,Fp,Fq,Fr,Fs,Ft,Fu,Fv,Fw,Fx,Fy], []⟩ wx) :
  Code.wp Tryz.prog (cut0Blk 8) (Exit.then K Q) ⟨#[A0,.pointer (some ⟨W.heap.size,0,none⟩),A2,A3,A4,A5,A6,.int .i64 (ko : Int),A8,.int .i64 (jo : Int),.pointer (some ⟨g,0,none⟩),.int .i64 0,Ac,Ad,Ae,Af,Ag,Ah,Ai,Aj,Ak,Al,Am,An,Ao,Ap,Aq,Ar,As,At,Au,Av,Aw,Ax,Ay,Az,B1,B3,B4,B5,B7,B8,B9,Ba,Bb,Bc,Be,Bf,Bg,Bh,Bi,Bj,Bk,Bl,Bm,Bn,Bo,Bp,Bq,Br,Bs,Bt,Bu,Bv,Bw,Bx,By,Bz,C0,C1,C3,C4,C5,C6,C7,C8,C9,Ca,Cb,Cc,Cd,Ce,Cf,Cg,Ch,Ci,Cj,Ck,Cl,Cm,Cn,Co,Cp,Cq,Cr,Cs,Ct,Cu,Cv,Cw,Cx,Cy,Cz,D0,D1,D2,D3,D4,D5,D6,D7,D8,D9,Da,Db,Dc,Dd,De,Df,Dg,Dh,Di,Dj,Dk,Dl,Dm,Dn,Do,Dp,Dq,Dr,Ds,Dt,Du,Dv,Dw,Dx,Dy,Dz,E0,E3,E4,E5,E6,E7,E8,E9,Ea,Eb,Ec,Ed,Ee,Ef,Eg,Eh,Ei,Ej,Ek,El,Em,En,Eo,Ep,Eq,Er,Es,Et,Eu,Ev,Ew,Ex,Ey,Ez,F0,F1,F2,F3,F4,F5,F6,F7,F8,F9,Fa,Fb,Fc,Fd,Fe,Ff,Fg,Fh,Fi,Fj,Fk,Fl,Fm,Fn,Fo,Fp,Fq,Fr,Fs,Ft,Fu,Fv,Fw,Fx,Fy], []⟩ wm := by
 obtain ⟨ip0, hip0, hpz0, hpz1, hpz2⟩ := info_parts zCB; have HIN := zh hin; have HPN := zh hpn; have HKS3 := zh hks; have HNB := zh hnb; have HG := zh hG; have HBM := zh hbm; have hlG := zC hG; have hszm : wi.heap.size ≤ wm.heap.size := hbm.size; have hk0 : (0 : Int) ≤ (ko : Int) := Int.natCast_nonneg _; have hj0 : (0 : Int) ≤ (jo : Int) := Int.natCast_nonneg _; have HKK := zh hK; have hM : ∀ a w, Met K a w → K a w := fun _ _ h => h
 clear hin hpn hks hnb hG hbm hK; conv => arg 2; whnf
 go_wp2_with fail; go_loopg [11] 6 (fun gg iv wr => ∃ (q : Nat) (v : Value), q ≤ pn ∧ q ≤ 6 ∧ gg = 6 - q ∧ iv = .int .i64 q ∧ wr.heap[g]? = some (.cells #[v, .string ⟨(qn.take 25).toArray⟩, .bool ql, .int .i64 qu, .int .i64 qa, .int .i64 ap] 60 (0, 0)) ∧ wr.ownsRow (g + 1) 47 6 v q (((aps.take q).map (jT yA)).map z6).flatten ∧ Below wi.heap.size wi wr)
 case atStart => exact ⟨0, .slice none 0 0, Nat.zero_le _, Nat.zero_le _, rfl, rfl, HG.out, World.ownsRow_nil _ _ _ _, HBM.out⟩
 case round =>
  obtain ⟨q, v, hq, hqx, rfl, rfl, hD, ho, hbel⟩ := hrel; obtain ⟨va, vc, rfl⟩ := zJ ho; obtain ⟨wq, hwq⟩ : ∃ wq : World, wq = wr := ⟨_, rfl⟩
  subst hwq; have HD4 := zh hD; have HOI4 := zh ho; have HBI4 := zh hbel; obtain ⟨b1, a1, y0, _⟩ := HKS3.out _ (hbel.mono hMle); have e0 := zc 0 hD; have g0 := zf 0 hD; have hlg := zC hD; have hszq : wi.heap.size ≤ wq.heap.size := hbel.size; have hl1 : W.heap.size < wq.heap.size := by omega
  have hlb1 : b < wq.heap.size := by omega
  have hlb31 : b3 < wq.heap.size := by omega
  have hq0 : (0 : Int) ≤ (q : Int) := Int.natCast_nonneg _; have hko1 : (ko : Int) < (n : Int) := by omega
  have hjo1 : (jo : Int) < (rn : Int) := by omega
  clear hD ho hbel; by_cases hqn : q < pn ∧ q < 6
  ·obtain ⟨hqs, hqN⟩ := hqn
   have hql : q < aps.length := by have := HPN.out; omega
   have hp := List.getElem?_eq_getElem hql; generalize aps[q] = pt at *
   obtain ⟨b4, off4, rfl, hbl4, hc⟩ := HIN.out.at (k := q) (row := z6 pt) (by rw [List.getElem?_map, hp]; rfl); obtain ⟨psy, xc, xp⟩ := pt; obtain ⟨xn, xl, xu, xa⟩ := psy; have HP4 := zh hp
   obtain ⟨z0, z1, z2, z3, z4, z5⟩ : wq.cell? ⟨b4, off4 + q * 6, none⟩ = some (.string ⟨xn.toArray⟩) ∧ wq.cell? ⟨b4, off4 + q * 6 + 1, none⟩ = some (.bool xl) ∧ wq.cell? ⟨b4, off4 + q * 6 + 2, none⟩ = some (.int .i64 xu) ∧ wq.cell? ⟨b4, off4 + q * 6 + 3, none⟩ = some (.int .i64 xa) ∧ wq.cell? ⟨b4, off4 + q * 6 + 4, none⟩ = some (.string ⟨xc.toArray⟩) ∧ wq.cell? ⟨b4, off4 + q * 6 + 5, none⟩ = some (.int .i64 xp) := by
    have hcc := hc _ (HNB.out _ (HBI4.out.mono hMle)); exact ⟨hcc 0 _ rfl, hcc 1 _ rfl, hcc 2 _ rfl, hcc 3 _ rfl, hcc 4 _ rfl, hcc 5 _ rfl⟩
   have hMq : wq.heap.size + 1 ≤ ((wq.alloc (.cells #[.string ⟨xn.toArray⟩, .bool xl, .int .i64 xu, .int .i64 xa, .string ⟨xc.toArray⟩, .int .i64 xp] 47)).drew).heap.size := by show _ ≤ (wq.alloc _).heap.size; simp
   have HKS5 := zh (fun (w' : World) (h : Below (wq.heap.size + 1) (wq.alloc (.cells #[.string ⟨xn.toArray⟩, .bool xl, .int .i64 xu, .int .i64 xa, .string ⟨xc.toArray⟩, .int .i64 xp] 47)) w') => (show (w'.cell? ⟨g, 0, none⟩ = some (.slice va q vc) ∧ w'.frozen? ⟨g, 0, none⟩ = false) ∧ w'.cell? ⟨wq.heap.size, 0, none⟩ = some (.string ⟨xn.toArray⟩) ∧ w'.cell? ⟨wq.heap.size, 1, none⟩ = some (.bool xl) ∧ w'.cell? ⟨wq.heap.size, 2, none⟩ = some (.int .i64 xu) ∧ w'.cell? ⟨wq.heap.size, 3, none⟩ = some (.int .i64 xa) ∧ w'.cell? ⟨wq.heap.size, 4, none⟩ = some (.string ⟨xc.toArray⟩) ∧ w'.cell? ⟨wq.heap.size, 5, none⟩ = some (.int .i64 xp) from by
    have hD := (h.block g (by omega)).trans ((Below.heap_alloc _ _ _ hlg).trans HD4.out); have hP := (h.block wq.heap.size (by omega)).trans (zE wq _)
    exact ⟨⟨zc 0 hD, zf 0 hD⟩, zc 0 hP, zc 1 hP, zc 2 hP, zc 3 hP, zc 4 hP, zc 5 hP⟩))
   have HOW := zh (fun (w2 : World) (h : Below (wq.heap.size + 1) (wq.alloc (.cells #[.string ⟨xn.toArray⟩, .bool xl, .int .i64 xu, .int .i64 xa, .string ⟨xc.toArray⟩, .int .i64 xp] 47)) w2) => zL HOI4.out (((Below.refl _ wq).alloc (Nat.le_refl _) (.cells #[.string ⟨xn.toArray⟩, .bool xl, .int .i64 xu, .int .i64 xa, .string ⟨xc.toArray⟩, .int .i64 xp] 47)).trans (h.mono (by omega)))); have HBQ := zh (fun (w2 w5 : World) (h : Below (wq.heap.size + 1) (wq.alloc (.cells #[.string ⟨xn.toArray⟩, .bool xl, .int .i64 xu, .int .i64 xa, .string ⟨xc.toArray⟩, .int .i64 xp] 47)) w2) (hg : w2.grownBy w5 (Value.slice va q vc).ownBlock) => (show Below (g + 1) wq w5 from ((((Below.refl _ wq).alloc (by omega) (.cells #[.string ⟨xn.toArray⟩, .bool xl, .int .i64 xu, .int .i64 xa, .string ⟨xc.toArray⟩, .int .i64 xp] 47)).trans (h.mono (by omega))).grown hg (by have := h.size; simp only [World.size_alloc] at this; omega) (fun g' hg' => (HOI4.out.lt g' hg').1)))); have HCS4 := zh (fun w => (show Calls Tryz.prog 20 #[.agg #[.string ⟨xn.toArray⟩, .bool xl, .int .i64 xu, .int .i64 xa]] w (fun e w' => e = .returned (.agg #[.string ⟨(xn.take 25).toArray⟩, .bool xl, .int .i64 xu, .int .i64 xa]) ∧ Below w.heap.size w w') from cut0_sym ⟨xn, xl, xu, xa⟩ w)); have hq1 : (q : Int) < (pn : Int) := by omega
   have hlb4 : b4 < wq.heap.size := by omega
   clear hp hc hql; go_upto_region 23 with fail
   refine zF (fun w' : World => (w'.cell? ⟨g, 0, none⟩ = some (.slice va q vc) ∧ w'.frozen? ⟨g, 0, none⟩ = false) ∧ w'.cell? ⟨wq.heap.size, 0, none⟩ = some (.string ⟨xn.toArray⟩) ∧ w'.cell? ⟨wq.heap.size, 1, none⟩ = some (.bool xl) ∧ w'.cell? ⟨wq.heap.size, 2, none⟩ = some (.int .i64 xu) ∧ w'.cell? ⟨wq.heap.size, 3, none⟩ = some (.int .i64 xa) ∧ w'.cell? ⟨wq.heap.size, 4, none⟩ = some (.string ⟨xc.toArray⟩) ∧ w'.cell? ⟨wq.heap.size, 5, none⟩ = some (.int .i64 xp)) [12, 13, 14] (.take 0 (.take 1 (.take 2 (.take 3 (.take 5 (.take 6 (.take 8 (.take 9 (.one 4 (.one 7 (.one 10 (.one 11 (.one 12 (.one 13 (.one 14 (.done)))))))))))))))) (by kernel_rfl) (by kernel_rfl) (fun c t a w h => hQ c t a w h) ?_; have hSw := HKS5.out _ (below_drewN (Below.refl _ _) 1); iterate 8 (refine zN (v := ?_) rfl hSw (by rfl) ?_ ?_; rotate_left 1; (focus (intro w hSx; (try dsimp only at hSx); go_simp; try rfl)); (try simp only [Act.put, zq0, zq1, zq2]))
   refine zB rfl (by rfl) (fun K' hK => ?_)
   (go_simp; go_at_call 20; refine (HCS4.out _).mono ?_; rintro e w' ⟨rfl, hb'⟩; have hlw : wq.heap.size + 1 ≤ w'.heap.size := Nat.le_trans hMq hb'.size)
   refine hK _ _ (.inr (HKS5.out _ ((zI hb').mono hMq))) ?_; clear hK K' hSw; (try simp only [Act.put, zq0, zq1, zq2]); refine zB rfl (by rfl) (fun K' hK => ?_)
   (go_simp; go_at_call 19; refine (zCR _ 60 _).mono ?_; rintro e w'' ⟨rfl, rfl⟩)
   refine hK _ _ (.inr (HKS5.out _ ((zI hb').mono hMq))) ?_; clear hK K'; (try simp only [Act.put, zq0, zq1, zq2]); refine zB rfl (by rfl) (fun K' hK => ?_); go_simp; refine hK _ _ (.inr (HKS5.out _ ((zI hb').mono hMq))) ?_; clear hK K'; (try simp only [Act.put, zq0, zq1, zq2]); refine zB rfl (by rfl) (fun K' hK => ?_); go_simp; refine hK _ _ (.inr (HKS5.out _ ((((zI hb').mono hMq).alloc (Nat.le_trans hMq hb'.size) _)))) ?_; clear hK K'; (try simp only [Act.put, zq0, zq1, zq2]); refine zB rfl (by rfl) (fun K' hK => ?_)
   (refine wp_append_lies _ _ _ _ (by rfl) (g + 1) 47 ip0 _ 6 64 Tryz.underlying58 hip0 hpz0 hpz1 hpz2 rfl (by omega) _ _ _ (by rfl) ((HOW.out w' ((zI hb').mono hMq)).alloc _) ⟨w'.heap.size, 0, none⟩ 1 1 (z6 (jT yA ⟨⟨xn, xl, xu, xa⟩, xc, xp⟩)) (by rfl) (by rfl) (World.news_of_block (cs := (z6 (jT yA ⟨⟨xn, xl, xu, xa⟩, xc, xp⟩)).toArray) (t := 47) (fr := (0, 0)) (heap_alloc_new w' _)) (by simp [Value.oneCell', z6, symC]) (by omega) (by unfold maxLen; omega) (by omega) (by have h1 := hb'.size; simp only [World.size_alloc]; omega) (w'.heap.size + 1) (by simp) ?_; intro gg cap w5 hown1 hgrow hat hlt; have HW5 := zh (HBQ.out _ _ ((((zI hb').mono hMq).alloc (Nat.le_trans hMq hb'.size) _)) hgrow); have hD5 := (HW5.out.block g (by omega)).trans HD4.out; have p1' := zc 0 hD5; have p2' := zf 0 hD5; have p3' := zC hD5; have HD5 := zh hD5; clear hD5)
   refine hK _ _ (.inl rfl) ?_; clear hK K'; (try simp only [Act.put, zq0, zq1, zq2]); refine zB rfl (by rfl) (fun K' hK => ?_); go_simp; refine hK _ _ (.inl rfl) ?_; clear hK K'; (try simp only [Act.put, zq0, zq1, zq2]); refine zB rfl (by rfl) (fun K' hK => ?_); go_simp; refine hK _ _ (.inl rfl) ?_; clear hK K'; (try simp only [Act.put, zq0, zq1, zq2]); refine zH ?_; have HO1 := zh hown1; clear hown1 hgrow hat hb'; go_wp2_with fail; go_roundg (6 - (q + 1))
   case measure => omega
   case rel =>
    refine ⟨q + 1, _, by omega, by omega, rfl, by go_num, zA HD5.out, ?_, (HBI4.out.trans (HW5.out.mono (by omega))).setCell (p := ⟨g, 0, none⟩) hgw _⟩; rw [flat_snoc z6 aps q _ HP4.out (jT yA)]; exact zR HO1.out HD5.out (by decide) _
  ·have htk : aps.take q = aps.take 6 := by
    rcases (by omega : q = pn ∨ q = 6) with h | h
    ·rw [List.take_of_length_le (by have := HPN.out; omega), List.take_of_length_le (by have := HPN.out; omega)]
    ·rw [h]
   have hlen : ((aps.take 6).map (jT yA)).length = q := by rw [← htk, List.length_map, List.length_take]; have := HPN.out; omega
   have HTK := zh htk; have HLEN := zh hlen; clear htk hlen; by_cases hqs : q < pn
   ·have hqN : decide ((q : Int) < 6) = false := by rw [decide_eq_false_iff_not]; omega
    have HQN := zh hqn; clear hqn; go_wp2_with fail; exact (HKK.out _ _ _ _ _ _ _ _ _ _ _ _ _ _ _ _ _ _ _ _ _ _ _ _ _ _ _ _ _ _ _ _ _ _ _ _ _ _ _ _ _ _ _ _ _ _ _ _ _ _ HD4.out (by rw [HLEN.out, ← HTK.out]; exact HOI4.out) HBI4.out : K _ _)
   ·have hqs' : decide (q < pn) = false := by rw [decide_eq_false_iff_not]; exact hqs
    have HQN := zh hqn; clear hqn hqs; go_wp2_with fail; exact (HKK.out _ _ _ _ _ _ _ _ _ _ _ _ _ _ _ _ _ _ _ _ _ _ _ _ _ _ _ _ _ _ _ _ _ _ _ _ _ _ _ _ _ _ _ _ _ _ _ _ _ _ HD4.out (by rw [HLEN.out, ← HTK.out]; exact HOI4.out) HBI4.out : K _ _)


set_option maxRecDepth 100000 in
set_option maxHeartbeats 25600000 in
theorem cut0_alts (W wo wm0 : World) (ko b off n rn cr sc : Nat) (sv : Option Addr) (fa : Nat → Value) (ras : List Sp.Alt) (rl : List UInt8) (rp : Int)
  {A0 A2 A3 A4 A5 A6 Aa Ab Ac Ad Ae Af Ag Ah Ai Aj Ak Al Am An Ao Ap Aq Ar As At Au Av Aw Ax Ay Az B1 B3 B4 B5 B7 B8 B9 Ba Bb Bc Be Bf Bg Bh Bi Bj Bk Bl Bm Bn Bo Bp Bq Br Bs Bt Bu Bv Bw Bx By Bz C0 C1 C3 C4 C5 C6 C7 C8 C9 Ca Cb Cc Cd Ce Cf Cg Ch Ci Cj Ck Cl Cm Cn Co Cp Cq Cr Cs Ct Cu Cv Cw Cx Cy Cz D0 D1 D2 D3 D4 D5 D6 D7 D8 D9 Da Db Dc Dd De Df Dg Dh Di Dj Dk Dl Dm Dn Do Dp Dq Dr Ds Dt Du Dv Dw Dx Dy Dz E0 E3 E4 E5 E6 E7 E8 E9 Ea Eb Ec Ed Ee Ef Eg Eh Ei Ej Ek El Em En Eo Ep Eq Er Es Et Eu Ev Ew Ex Ey Ez F0 F1 F2 F3 F4 F5 F6 F7 F8 F9 Fa Fb Fc Fd Fe Ff Fg Fh Fi Fj Fk Fl Fm Fn Fo Fp Fq Fr Fs Ft Fu Fv Fw Fx Fy : Value} (K : Act → World → Prop) (Q : Exit → Act → World → Prop)
  (ha1 : SlAt W (.slice sv rn sc) 6 (ras.mapIdx fun i a => altC (fa i) a)) (ha2 : ∀ (i : Nat) (a : Sp.Alt), ras[i]? = some a → SlAt W (fa i) 6 (a.parts.map z6)) (hq3 : ∀ a ∈ ras, bigAlt a) (hrn : ras.length = rn)
  (hks : ∀ w', Below wo.heap.size wo w' → w'.cell? ⟨W.heap.size, 2, none⟩ = some (.slice (some ⟨b, off, none⟩) n cr) ∧ w'.cell? ⟨b, off + ko * 3, none⟩ = some (.string ⟨rl.toArray⟩) ∧ w'.cell? ⟨b, off + ko * 3 + 1, none⟩ = some (.slice sv rn sc) ∧ w'.cell? ⟨b, off + ko * 3 + 2, none⟩ = some (.int .i64 rp))
  (hnb : ∀ w', Below wo.heap.size wo w' → Below W.heap.size W w') (hWo : W.heap.size < wo.heap.size) (hbo : b < wo.heap.size)
  (hko1 : (ko : Int) < (n : Int)) (hn63 : n ≤ 2 ^ 63 - 1) (hrn63 : rn ≤ 2 ^ 63 - 1)
  (hR : wm0.heap[wo.heap.size]? = some (.cells #[.string ⟨(rl.take 25).toArray⟩, (.slice none 0 0), .int .i64 rp] 63 (0, 0))) (hbm : Below wo.heap.size wo wm0)
  (hQ : ∀ c (t : Array Value) (a : Act) w, Q (.panic c) ⟨t, a.defers⟩ w → Q (.panic c) a w)
  (hK : ∀ (x9 Mr N3 Nf N6 N7 N8 N9 Na Nb Nc Nd Ng Nh Ni Nj Nk Nl Nm Nn No Np Nr Ns Nt Nu Nv Nw Nx Ny Nz O0 O2 O3 O4 O5 O6 O7 O8 O9 Oa Ob Od Oe Of Og Oh Oi Oj Ol Om On Oq Ot Ou Ov Ow Ox Oy Oz P0 P1 P3 P4 P5 P6 P7 P8 P9 Pa Pb Pc Pe Pf Pg Ph Pi Pj Pk Pm Pn Po Pq Pr Ps Pt Pu Pv Pw Px Py Pz Q1 : Value) (wx : World) (u : Value), wx.heap[wo.heap.size]? = some (.cells #[.string ⟨(rl.take 25).toArray⟩, u, .int .i64 rp] 63 (0, 0)) → zCM (wo.heap.size + 1) wx u ((ras.take 5).map (kX yA)) → Below wo.heap.size wo wx → K ⟨#[A0,.pointer (some ⟨W.heap.size,0,none⟩),A2,A3,A4,A5,A6,.int .i64 (ko : Int),.pointer (some ⟨wo.heap.size,0,none⟩),x9,Mr,N3,Nf,Ad,Ae,Af,Ag,Ah,Ai,Aj,Ak,Al,Am,An,Ao,Ap,Aq,Ar,As,At,Au,Av,Aw,Ax,Ay,Az,B1,B3,B4,B5,B7,B8,B9,Ba,Bb,Bc,Be,Bf,Bg,Bh,Bi,Bj,Bk,Bl,Bm,Bn,Bo,Bp,Bq,Br,Bs,Bt,Bu,Bv,Bw,Bx,By,Bz,C0,C1,C3,C4,C5,C6,C7,C8,C9,Ca,Cb,Cc,Cd,Ce,Cf,Cg,Ch,Ci,Cj,Ck,Cl,Cm,Cn,Co,Cp,Cq,Cr,Cs,Ct,Cu,Cv,Cw,Cx,Cy,Cz,D0,D1,D2,D3,D4,D5,D6,D7,D8,N6,N7,N8,N9,Na,Nb,Nc,Nd,Ng,Nh,Ni,Nj,Nk,Nl,Nm,Nn,No,Np,Nr,Ns,Nt,Nu,Nv,Nw,Nx,Ny,Nz,O0,O2,O3,O4,O5,O6,O7,O8,O9,Oa,Ob,Od,Oe,Of,Og,Oh,Oi,Oj,Ol,Om,On,Oq,Ot,Ou,Ov,Ow,Ox,Oy,Oz,P0,P1,P3,P4,P5,P6,P7,P8,P9,Pa,Pb,Pc,Pe,Pf,Pg,Ph,Pi,Pj,Pk,Pm,Pn,Po,Pq,Pr,Ps,Pt,Pu,Pv,Pw,Px,Py,Pz,Q1,Fs,Ft,Fu,Fv,Fw,Fx,Fy], []⟩ wx) :
  Code.wp Tryz.prog (cut0Blk 6) (Exit.then K Q) ⟨#[A0,.pointer (some ⟨W.heap.size,0,none⟩),A2,A3,A4,A5,A6,.int .i64 (ko : Int),.pointer (some ⟨wo.heap.size,0,none⟩),.int .i64 0,Aa,Ab,Ac,Ad,Ae,Af,Ag,Ah,Ai,Aj,Ak,Al,Am,An,Ao,Ap,Aq,Ar,As,At,Au,Av,Aw,Ax,Ay,Az,B1,B3,B4,B5,B7,B8,B9,Ba,Bb,Bc,Be,Bf,Bg,Bh,Bi,Bj,Bk,Bl,Bm,Bn,Bo,Bp,Bq,Br,Bs,Bt,Bu,Bv,Bw,Bx,By,Bz,C0,C1,C3,C4,C5,C6,C7,C8,C9,Ca,Cb,Cc,Cd,Ce,Cf,Cg,Ch,Ci,Cj,Ck,Cl,Cm,Cn,Co,Cp,Cq,Cr,Cs,Ct,Cu,Cv,Cw,Cx,Cy,Cz,D0,D1,D2,D3,D4,D5,D6,D7,D8,D9,Da,Db,Dc,Dd,De,Df,Dg,Dh,Di,Dj,Dk,Dl,Dm,Dn,Do,Dp,Dq,Dr,Ds,Dt,Du,Dv,Dw,Dx,Dy,Dz,E0,E3,E4,E5,E6,E7,E8,E9,Ea,Eb,Ec,Ed,Ee,Ef,Eg,Eh,Ei,Ej,Ek,El,Em,En,Eo,Ep,Eq,Er,Es,Et,Eu,Ev,Ew,Ex,Ey,Ez,F0,F1,F2,F3,F4,F5,F6,F7,F8,F9,Fa,Fb,Fc,Fd,Fe,Ff,Fg,Fh,Fi,Fj,Fk,Fl,Fm,Fn,Fo,Fp,Fq,Fr,Fs,Ft,Fu,Fv,Fw,Fx,Fy], []⟩ wm0 := by
 obtain ⟨ia0, hia0, haz0, haz1, haz2⟩ := info_parts zDP; have HA1 := zh ha1; have HA2 := zh ha2; have HQ3 := zh hq3; have HRN := zh hrn; have HKS := zh hks; have HNB := zh hnb; have HR0 := zh hR; have HBM0 := zh hbm; have HKK := zh hK; have hM : ∀ a w, Met K a w → K a w := fun _ _ h => h
 have hk0 : (0 : Int) ≤ (ko : Int) := Int.natCast_nonneg _; have hsz0 := hbm.size; have hnsl : ((ras.take 5).map (kX yA)).length ≤ 5 := by rw [List.length_map, List.length_take]; omega
 generalize hAL : (ras.take 5).map (kX yA) = AL at *
 have HAL := zh hAL; clear ha1 ha2 hq3 hrn hks hnb hR hbm hK hAL; conv => arg 2; whnf
 go_wp2_with fail; go_loopg [9] 5 (fun g iv wr => ∃ (j : Nat) (u : Value), j ≤ rn ∧ j ≤ 5 ∧ g = 5 - j ∧ iv = .int .i64 j ∧ wr.heap[wo.heap.size]? = some (.cells #[.string ⟨(rl.take 25).toArray⟩, u, .int .i64 rp] 63 (0, 0)) ∧ zCM (wo.heap.size + 1) wr u ((ras.take j).map (kX yA)) ∧ Below wo.heap.size wo wr)
 case atStart => exact ⟨0, .slice none 0 0, Nat.zero_le _, Nat.zero_le _, rfl, rfl, HR0.out, OwnR.nil _ _ _ _ _ _, HBM0.out⟩
 case round =>
  obtain ⟨j, u, hj, hjx, rfl, rfl, hD, ho, hbel⟩ := hrel; have HDD := zh hD; have HOI := zh ho; have HBI := zh hbel; obtain ⟨b1, a0, a1, a2⟩ := HKS.out _ hbel; have e0 := zc 0 hD; have e1 := zc 1 hD; have e2 := zc 2 hD; have g2 := zf 1 hD; have hlm := zC hD; have hszj : wo.heap.size ≤ wr.heap.size := hbel.size; have hl1 : W.heap.size < wr.heap.size := by omega
  have hlb1 : b < wr.heap.size := by omega
  have hj0 : (0 : Int) ≤ (j : Int) := Int.natCast_nonneg _; have hko1 : (ko : Int) < (n : Int) := by omega
  clear hD ho hbel; by_cases hjn : j < rn ∧ j < 5
  ·obtain ⟨hjs, hjN⟩ := hjn
   have hjl : j < ras.length := by have := HRN.out; omega
   have hp : ras[j]? = some ras[j] := List.getElem?_eq_getElem hjl; have hq := HQ3.out ras[j] (List.getElem_mem hjl); generalize ras[j] = a at *
   obtain ⟨b3, off3, rfl, hbl3, hc⟩ := HA1.out.at (k := j) (idx_row hp); have hin := HA2.out j a hp; obtain ⟨pv0, pc0, hpv⟩ := hin.form; rw [List.length_map] at hpv; rw [hpv] at hin hc; have HP3 := zh hp; obtain ⟨aps, asym, ap⟩ := a; obtain ⟨qn, ql, qu, qa⟩ := asym; obtain ⟨hq5, hq6, hq7, hq8⟩ := hq; simp only at hin hc hq5 hq6; generalize hpn : aps.length = pn at *
   have HPN := zh hpn; have HIN := zh hin; have HQ6 := zh hq6; unfold maxLen at hq5; have HNX := zh (fun (w2 : World) (h : Below (wo.heap.size + 1) wr w2) => (show Below wo.heap.size wo w2 from HBI.out.trans (h.mono (by omega))))
   have hks3 : ∀ w', Below (wo.heap.size + 1) wr w' → w'.cell? ⟨W.heap.size, 2, none⟩ = some (.slice (some ⟨b, off, none⟩) n cr) ∧ w'.cell? ⟨b, off + ko * 3 + 1, none⟩ = some (.slice (some ⟨b3, off3, none⟩) rn sc) ∧ w'.cell? ⟨b3, off3 + j * 6, none⟩ = some (.slice pv0 pn pc0) ∧ w'.cell? ⟨b3, off3 + j * 6 + 1, none⟩ = some (.string ⟨qn.toArray⟩) ∧ w'.cell? ⟨b3, off3 + j * 6 + 2, none⟩ = some (.bool ql) ∧ w'.cell? ⟨b3, off3 + j * 6 + 3, none⟩ = some (.int .i64 qu) ∧ w'.cell? ⟨b3, off3 + j * 6 + 4, none⟩ = some (.int .i64 qa) ∧ w'.cell? ⟨b3, off3 + j * 6 + 5, none⟩ = some (.int .i64 ap) := fun w' h => by
    obtain ⟨q1, _, q2, _⟩ := HKS.out _ (HNX.out _ h); have hcc := hc _ (HNB.out _ (HNX.out _ h)); exact ⟨q1, q2, hcc 0 _ rfl, hcc 1 _ rfl, hcc 2 _ rfl, hcc 3 _ rfl, hcc 4 _ rfl, hcc 5 _ rfl⟩
   have HKS3 := zh hks3; have HCS := zh (fun w => (show Calls Tryz.prog 20 #[.agg #[.string ⟨qn.toArray⟩, .bool ql, .int .i64 qu, .int .i64 qa]] w (fun e w' => e = .returned (.agg #[.string ⟨(qn.take 25).toArray⟩, .bool ql, .int .i64 qu, .int .i64 qa]) ∧ Below w.heap.size w w') from cut0_sym ⟨qn, ql, qu, qa⟩ w)); have hj1 : (j : Int) < (rn : Int) := by omega
   have hlb3 : b3 < wr.heap.size := by omega
   have hMle : wo.heap.size + 1 ≤ wr.heap.size := by omega
   clear hc hp hin hpv hpn hks3 hjl hq6 hq7 hq8; have HM2 := zh (fun (o : Obj) (w' : World) (h : Below ((wr.alloc o).drew).heap.size ((wr.alloc o).drew) w') => (show Below (wo.heap.size + 1) wr w' from ((Below.refl _ wr).alloc hMle o).trans ((zI h).mono (by show _ ≤ (wr.alloc o).heap.size; simp; omega)))); have HM4 := zh (fun (w' : World) (h : Below ((wr.alloc (.cells #[.slice none 0 0, .string ⟨#[]⟩, .bool false, .int .i64 0, .int .i64 0, .int .i64 0] 60)).drew).heap.size ((wr.alloc (.cells #[.slice none 0 0, .string ⟨#[]⟩, .bool false, .int .i64 0, .int .i64 0, .int .i64 0] 60)).drew) w') => (show w'.heap[wr.heap.size]? = some (.cells #[.slice none 0 0, .string ⟨#[]⟩, .bool false, .int .i64 0, .int .i64 0, .int .i64 0] 60 (0, 0)) from (h.block wr.heap.size (by show _ < (wr.alloc _).heap.size; simp)).trans (zE wr _))); go_upto_region 18 with fail
   go_cut [10] from 112 to 200 (fun s10 wx => ∃ g : Nat, s10 = .pointer (some ⟨g, 0, none⟩) ∧ wr.heap.size ≤ g ∧ wx.heap[g]? = some (.cells #[.slice none 0 0, .string ⟨(qn.take 25).toArray⟩, .bool ql, .int .i64 qu, .int .i64 qa, .int .i64 ap] 60 (0, 0)) ∧ Below wr.heap.size wr wx)
   case first =>
    refine zF (fun w' : World => w'.cell? ⟨W.heap.size, 2, none⟩ = some (.slice (some ⟨b, off, none⟩) n cr) ∧ w'.cell? ⟨b, off + ko * 3 + 1, none⟩ = some (.slice (some ⟨b3, off3, none⟩) rn sc) ∧ w'.cell? ⟨b3, off3 + j * 6, none⟩ = some (.slice pv0 pn pc0) ∧ w'.cell? ⟨b3, off3 + j * 6 + 1, none⟩ = some (.string ⟨qn.toArray⟩) ∧ w'.cell? ⟨b3, off3 + j * 6 + 2, none⟩ = some (.bool ql) ∧ w'.cell? ⟨b3, off3 + j * 6 + 3, none⟩ = some (.int .i64 qu) ∧ w'.cell? ⟨b3, off3 + j * 6 + 4, none⟩ = some (.int .i64 qa) ∧ w'.cell? ⟨b3, off3 + j * 6 + 5, none⟩ = some (.int .i64 ap)) [23] (.take 0 (.take 1 (.take 2 (.take 3 (.take 4 (.take 5 (.take 6 (.take 7 (.take 8 (.take 9 (.take 11 (.take 12 (.take 13 (.take 14 (.take 15 (.take 16 (.take 17 (.take 18 (.take 19 (.take 20 (.two 10 22 (.take 21 (.one 22 (.one 23 (.done)))) (.one 10 (.take 21 (.one 23 (.done))))))))))))))))))))))))) (by kernel_rfl) (by kernel_rfl) (fun c t a w h => hQ c t a w h) ?_; have hSw := HKS3.out _ (below_drewN (Below.refl _ wr) 1); iterate 20 (refine zN (v := ?_) rfl hSw (by rfl) ?_ ?_; rotate_left 1; (focus (intro w hSx; (try dsimp only at hSx); go_simp; try rfl)); (try simp only [Act.put, zq0, zq1, zq2]))
    refine wpPlan_two ?_ ?_
    ·refine zB rfl (by rfl) (fun K' hK => ?_)
     (go_simp; go_at_call 20; refine (HCS.out _).mono ?_; rintro e w' ⟨rfl, hb'⟩)
     refine hK _ _ (.inr (HKS3.out _ ((zI hb').mono hMle))) ?_; clear hK K' hSw; have hSw := HKS3.out _ ((zI hb').mono hMle); (try simp only [Act.put, zq0, zq1, zq2])
     (refine zN (v := ?_) rfl hSw (by rfl) ?_ ?_; rotate_left 1; (focus (intro w hSx; (try dsimp only at hSx); go_simp; try rfl)); (try simp only [Act.put, zq0, zq1, zq2]))
     refine zB rfl (by rfl) (fun K' hK => ?_); go_simp; refine hK _ _ (.inr (HKS3.out _ (((zI hb').mono hMle).alloc (Nat.le_trans hMle hb'.size) _))) ?_; clear hK K' hSw; (try simp only [Act.put, zq0, zq1, zq2]); refine zB rfl (by rfl) (fun K' hK => ?_); go_simp; refine hK _ _ (.inl rfl) ?_; clear hK K'; (try simp only [Act.put, zq0, zq1, zq2]); refine zH ?_; go_wp2_with fail; go_meet; exact ⟨_, rfl, hb'.size, zE w' _, (zI hb').alloc hb'.size _⟩
    ·refine zB rfl (by rfl) (fun K' hK => ?_)
     go_simp; refine hK _ _ (.inr (HKS3.out _ (below_drewN ((Below.refl _ wr).alloc hMle (.cells #[.slice none 0 0, .string ⟨#[]⟩, .bool false, .int .i64 0, .int .i64 0, .int .i64 0] 60)) 1))) ?_; clear hK K' hSw; have hSw := HKS3.out _ (below_drewN ((Below.refl _ wr).alloc hMle (.cells #[.slice none 0 0, .string ⟨#[]⟩, .bool false, .int .i64 0, .int .i64 0, .int .i64 0] 60)) 1); (try simp only [Act.put, zq0, zq1, zq2]); refine zB rfl (by rfl) (fun K' hK => ?_)
     (go_simp; go_at_call 20; refine (HCS.out _).mono ?_; rintro e w' ⟨rfl, hb'⟩; have hF := HM4.out _ hb'; have f0 := zc 0 hF; have f1 := zc 1 hF; have f2 := zc 2 hF; have f3 := zc 3 hF; have f4 := zc 4 hF; have f5 := zc 5 hF; have k0 := zf 0 hF; have k1 := zf 1 hF; have k2 := zf 2 hF; have k3 := zf 3 hF; have k4 := zf 4 hF; have k5 := zf 5 hF; have kl := zC hF; have HF := zh hF; clear hF)
     refine hK _ _ (.inr (HKS3.out _ (HM2.out (.cells #[.slice none 0 0, .string ⟨#[]⟩, .bool false, .int .i64 0, .int .i64 0, .int .i64 0] 60) _ hb'))) ?_; clear hK K' hSw; have hSw := HKS3.out _ (HM2.out (.cells #[.slice none 0 0, .string ⟨#[]⟩, .bool false, .int .i64 0, .int .i64 0, .int .i64 0] 60) _ hb'); (try simp only [Act.put, zq0, zq1, zq2])
     (refine zN (v := ?_) rfl hSw (by rfl) ?_ ?_; rotate_left 1; (focus (intro w hSx; (try dsimp only at hSx); go_simp; try rfl)); (try simp only [Act.put, zq0, zq1, zq2]))
     refine zB rfl (by rfl) (fun K' hK => ?_); go_simp; refine hK _ _ (.inl rfl) ?_; clear hK K' hSw; (try simp only [Act.put, zq0, zq1, zq2]); refine zH ?_; go_wp2_with fail; go_meet; exact ⟨_, rfl, Nat.le_refl _, zA (zA (zA (zA (zA (zA HF.out))))), ((((((((Below.refl _ wr).alloc (Nat.le_refl _) (.cells #[.slice none 0 0, .string ⟨#[]⟩, .bool false, .int .i64 0, .int .i64 0, .int .i64 0] 60)).trans ((zI hb').mono (by show _ ≤ (wr.alloc _).heap.size; simp))).setCell (p := ⟨wr.heap.size, 0, none⟩) (Nat.le_refl _) _).setCell (p := ⟨wr.heap.size, 1, none⟩) (Nat.le_refl _) _).setCell (p := ⟨wr.heap.size, 2, none⟩) (Nat.le_refl _) _).setCell (p := ⟨wr.heap.size, 3, none⟩) (Nat.le_refl _) _).setCell (p := ⟨wr.heap.size, 4, none⟩) (Nat.le_refl _) _).setCell (p := ⟨wr.heap.size, 5, none⟩) (Nat.le_refl _) _⟩
   case rest =>
    obtain ⟨g, rfl, hgw, hG, hbm⟩ := hcut; obtain ⟨wi, hwi⟩ : ∃ wi : World, wi = wr := ⟨_, rfl⟩
    subst hwi; obtain ⟨jo, hjo⟩ : ∃ jo : Nat, jo = j := ⟨_, rfl⟩
    subst hjo; obtain ⟨wm, hwm⟩ : ∃ wm : World, wm = wc := ⟨_, rfl⟩
    subst hwm; have hlG := zC hG; have HG := zh hG; have HBM := zh hbm; have hszm : wi.heap.size ≤ wm.heap.size := hbm.size; have hnpl : ((aps.take 6).map (jT yA)).length ≤ 6 := by rw [List.length_map, List.length_take]; omega
    clear hG hbm e0 e1 e2 g2 hlm a0 a1 a2 b1; go_upto_block 8 with fail
    refine cut0_parts W wo wi wm ko jo g b off b3 off3 n rn pn cr sc pc0 pv0 aps qn ql qu qa ap _ _ HIN.out HPN.out HKS3.out (fun w' h => HNB.out _ (HNX.out _ h)) hMle (by omega) (by omega) (by omega) (by omega) hko1 hj1 (by omega) (by omega) (by omega) hgw HG.out HBM.out (fun c t a w h => hQ c t a w h) ?_; intro Xh Xs Yo Yq Yr Ys Yt Yu Yv Yw Yx Yy Yz Z1 Z2 Z3 Z4 Z5 Z6 Z7 Z8 Z9 Za Zc Zd Ze Zf Zg Zh Zi Zj Zk Zl Zn Zo Zp Zq Zr Zs Zt Zu Zv Zw Zy Zz y192 y193 y194 wc v hD ho hbel; generalize hJ : ((aps.take 6).map (jT yA)).length = q at *
    have HJ := zh hJ; clear hJ; obtain ⟨va, vc, rfl⟩ := zJ ho; have HD4 := zh hD; have HOI4 := zh ho; have HBI4 := zh hbel; have e0 := zc 0 hD; have e1 := zc 1 hD; have e2 := zc 2 hD; have e3 := zc 3 hD; have e4 := zc 4 hD; have e5 := zc 5 hD; have hlg := zC hD; have hszq : wi.heap.size ≤ wc.heap.size := hbel.size; have hDr := (hbel.block wo.heap.size (by omega)).trans HDD.out; have hjl : ((ras.take jo).map (kX yA)).length = jo := by rw [List.length_map, List.length_take]; have := HRN.out; omega
    obtain ⟨f, hf1, hf2⟩ := alts_kp (T := fun _ => True) HOI.out (KpT.below HBI4.out) trivial trivial; rw [hjl] at hf1; obtain ⟨pa, pc, rfl⟩ := zJ hf1; have d1 := zc 1 hDr; have d2 := zf 1 hDr; have d3 := zC hDr; have HDr := zh hDr; generalize hL : (ras.take jo).map (kX yA) = L at *
    have HL := zh hL; have HNWB := zh (HBI.out.trans (hbel.mono hszj)); have hjo1 : (jo : Int) < (rn : Int) := by omega
    clear hL hD ho hbel hDr; go_upto_region 24 with (fail)
    go_wp2_with (at_builtin; refine wpList_append_lies _ rfl _ _ _ rfl (wo.heap.size + 1) 60 ia0 _ 6 72 Tryz.underlying61 hia0 haz0 haz1 haz2 rfl (by decide) _ _ _ rfl (hf1.alloc _) ⟨wc.heap.size, 0, none⟩ 1 1 (altC (.slice va q vc) (kX yA ⟨aps, ⟨qn, ql, qu, qa⟩, ap⟩)) rfl rfl ?c1B ?c2B (by decide) ?c3B ?c4B ?c5B _ rfl ?_)
    case c1B => exact World.news_of_block (cs := (altC (.slice va q vc) (kX yA ⟨aps, ⟨qn, ql, qu, qa⟩, ap⟩)).toArray) (t := 60) (fr := (0, 0)) (heap_alloc_new wc _)
    case c2B => simp [Value.oneCell', altC, symC]
    case c3B => unfold maxLen; omega
    case c4B => omega
    case c5B => simp only [World.size_alloc]; omega
    intro gg cap w5 hown1 hgrow hat hlt; have HBG := zh (((Below.refl (wo.heap.size + 1) wc).alloc (by omega) _).grown hgrow (by simp only [World.size_alloc]; omega) (fun g' hg => (hf1.lt g' hg).1)); have hS5 := (HBG.out.block wo.heap.size (by omega)).trans HDr.out; have v1 := zc 1 hS5; have v2 := zf 1 hS5; have v3 := zC hS5; have HS5 := zh hS5; have HKP := zh ((KpT.below ((Below.refl _ wc).alloc (Nat.le_refl _) _)).trans ((KpT.grown (hf1.alloc _) hgrow)) : KpT (· ≠ 60) wc w5); have HO5 := zh hown1; clear hown1 hgrow hat hS5; go_wp2_with fail; go_roundg (5 - (jo + 1))
    case measure => omega
    case rel =>
     have hlen2 : (ras.take (jo + 1)).map (kX yA) = L ++ [kX yA ⟨aps, ⟨qn, ql, qu, qa⟩, ap⟩] := by rw [List.take_add_one, HP3.out, List.map_append, HL.out]; rfl
     have hkp2 : KpT (fun t => t ≠ 60 ∧ t ≠ 63) wc (w5.setCell ⟨wo.heap.size, 1, none⟩ (.slice (some ⟨gg, 0, none⟩) (jo + 1) cap)) := (HKP.out.mono (fun t h => h.1)).setCell HS5.out (by simp) _; refine ⟨jo + 1, _, by omega, by omega, rfl, by go_num, zA HS5.out, ?_, (HNWB.out.trans (HBG.out.mono (by omega))).setCell (p := ⟨wo.heap.size, 1, none⟩) (Nat.le_refl _) _⟩; rw [hlen2]; refine OwnR.snoc (u := .slice va q vc) hf2 ?_ (qF hkp2 (by decide)) ⟨g + 1, ?_⟩
     ·rw [hjl]
      exact zR HO5.out HS5.out (by decide) _
     ·have h := zD HOI4.out hkp2 (by decide)
      have e : (kX yA ⟨aps, ⟨qn, ql, qu, qa⟩, ap⟩).parts = (aps.take 6).map (jT yA) := rfl; rw [e, HJ.out]; exact h
  ·have htk : (ras.take j).map (kX yA) = AL := by
    rw [← HAL.out]; rcases (by omega : j = rn ∨ j = 5) with h | h
    ·rw [List.take_of_length_le (by have := HRN.out; omega), List.take_of_length_le (by have := HRN.out; omega)]
    ·rw [h]
   have HTK := zh htk; clear htk; by_cases hjs : j < rn
   ·have hjN : decide ((j : Int) < 5) = false := by rw [decide_eq_false_iff_not]; omega
    have HJN := zh hjn; clear hjn; go_wp2_with fail; exact (HKK.out _ _ _ _ _ _ _ _ _ _ _ _ _ _ _ _ _ _ _ _ _ _ _ _ _ _ _ _ _ _ _ _ _ _ _ _ _ _ _ _ _ _ _ _ _ _ _ _ _ _ _ _ _ _ _ _ _ _ _ _ _ _ _ _ _ _ _ _ _ _ _ _ _ _ _ _ _ _ _ _ _ _ _ _ _ _ _ _ _ _ _ _ _ _ _ HDD.out (by rw [← HTK.out]; exact HOI.out) HBI.out : K _ _)
   ·have hjs' : decide (j < rn) = false := by rw [decide_eq_false_iff_not]; exact hjs
    have HJN := zh hjn; clear hjn hjs; go_wp2_with fail; exact (HKK.out _ _ _ _ _ _ _ _ _ _ _ _ _ _ _ _ _ _ _ _ _ _ _ _ _ _ _ _ _ _ _ _ _ _ _ _ _ _ _ _ _ _ _ _ _ _ _ _ _ _ _ _ _ _ _ _ _ _ _ _ _ _ _ _ _ _ _ _ _ _ _ _ _ _ _ _ _ _ _ _ _ _ _ _ _ _ _ _ _ _ _ _ _ _ _ HDD.out (by rw [← HTK.out]; exact HOI.out) HBI.out : K _ _)


set_option maxRecDepth 100000 in
set_option maxHeartbeats 25600000 in
theorem cut0_rules (W wm0 : World) (m n cd cr : Nat) (ad ar : Option Addr) (pv : Value) (fr : Nat → Value) (DL : List Sp.Decl) (rs : List Sp.Rule) (pr tl : List UInt8)
  {A0 A2 A4 A5 A6 A8 A9 Aa Ab Ac Ad Ae Af Ag Ah Ai Aj Ak Al Am An Ao Ap Aq Ar As At Au Av Aw Ax Ay Az B1 B3 B4 B5 B7 B8 B9 Ba Bb Bc Be Bf Bg Bh Bi Bj Bk Bl Bm Bn Bo Bp Bq Br Bs Bt Bu Bv Bw Bx By Bz C0 C1 C3 C4 C5 C6 C7 C8 C9 Ca Cb Cc Cd Ce Cf Cg Ch Ci Cj Ck Cl Cm Cn Co Cp Cq Cr Cs Ct Cu Cv Cw Cx Cy Cz D0 D1 D2 D3 D4 D5 D6 D7 D8 D9 Da Db Dc Dd De Df Dg Dh Di Dj Dk Dl Dm Dn Do Dp Dq Dr Ds Dt Du Dv Dw Dx Dy Dz E0 E3 E4 E5 E6 E7 E8 E9 Ea Eb Ec Ed Ee Ef Eg Eh Ei Ej Ek El Em En Eo Ep Eq Er Es Et Eu Ev Ew Ex Ey Ez F0 F1 F2 F3 F4 F5 F6 F7 F8 F9 Fa Fb Fc Fd Fe Ff Fg Fh Fi Fj Fk Fl Fm Fn Fo Fp Fq Fr Fs Ft Fu Fv Fw Fx Fy : Value} (K : Act → World → Prop) (Q : Exit → Act → World → Prop)
  (hr1 : SlAt W (.slice ar n cr) 3 (rs.mapIdx fun i r => qT (fr i) r)) (hr2 : ∀ (i : Nat) (r : Sp.Rule), rs[i]? = some r → j4 W (fr i) r.alts) (hb5 : ∀ r ∈ rs, bigRule r) (hn : rs.length = n) (hb4 : n ≤ 2 ^ 63 - 1)
  (hS : wm0.heap[W.heap.size + 2]? = some (.cells #[.string ⟨(pr.take 40).toArray⟩, pv, (.slice none 0 0), .string ⟨(tl.take 40).toArray⟩] 25 (0, 0))) (hdo : qK (W.heap.size + 3) wm0 pv DL) (hbel : Below (W.heap.size + 2) ((W.alloc (.cells #[.string ⟨pr.toArray⟩, .slice ad m cd, .slice ar n cr, .string ⟨tl.toArray⟩] 25)).alloc (.cells #[.string ⟨#[]⟩, .slice none 0 0, .slice none 0 0, .string ⟨#[]⟩] 25)) wm0)
  (hQ : ∀ c (t : Array Value) (a : Act) w, Q (.panic c) ⟨t, a.defers⟩ w → Q (.panic c) a w)
  (hK : ∀ (x7 x8 x9 Mr N3 Nf Wt Wu Wv Ww Wx Wy Wz X0 X1 X2 X3 X4 X5 Ms Mt Mu Mv Mw Mx My Mz N1 N2 N4 N5 N6 N7 N8 N9 Na Nb Nc Nd Ng Nh Ni Nj Nk Nl Nm Nn No Np Nr Ns Nt Nu Nv Nw Nx Ny Nz O0 O2 O3 O4 O5 O6 O7 O8 O9 Oa Ob Od Oe Of Og Oh Oi Oj Ol Om On Oq Ot Ou Ov Ow Ox Oy Oz P0 P1 P3 P4 P5 P6 P7 P8 P9 Pa Pb Pc Pe Pf Pg Ph Pi Pj Pk Pm Pn Po Pq Pr Ps Pt Pu Pv Pw Px Py Pz Q1 Q2 Q3 Q4 Q5 Q6 Q7 : Value) (wx : World) (qv : Value), wx.heap[W.heap.size + 2]? = some (.cells #[.string ⟨(pr.take 40).toArray⟩, pv, qv, .string ⟨(tl.take 40).toArray⟩] 25 (0, 0)) → qK (W.heap.size + 3) wx pv DL → jO (W.heap.size + 3) wx qv ((rs.take 6).map (qN yA)) → Below (W.heap.size + 2) ((W.alloc (.cells #[.string ⟨pr.toArray⟩, .slice ad m cd, .slice ar n cr, .string ⟨tl.toArray⟩] 25)).alloc (.cells #[.string ⟨#[]⟩, .slice none 0 0, .slice none 0 0, .string ⟨#[]⟩] 25)) wx → K ⟨#[A0,.pointer (some ⟨W.heap.size,0,none⟩),A2,.pointer (some ⟨W.heap.size + 2,0,none⟩),A4,A5,A6,x7,x8,x9,Mr,N3,Nf,Ad,Ae,Af,Ag,Ah,Ai,Aj,Ak,Al,Am,An,Ao,Ap,Aq,Ar,As,At,Au,Av,Aw,Ax,Ay,Az,B1,B3,B4,B5,B7,B8,B9,Ba,Bb,Bc,Be,Bf,Bg,Bh,Bi,Bj,Bk,Bl,Bm,Bn,Bo,Bp,Bq,Br,Bs,Bt,Bu,Bv,Bw,Bx,By,Bz,C0,C1,C3,C4,C5,C6,C7,C8,C9,Ca,Cb,Cc,Cd,Ce,Cf,Cg,Ch,Ci,Cj,Wt,Wu,Wv,Ww,Wx,Wy,Wz,X0,X1,X2,X3,X4,X5,Ms,Mt,Mu,Mv,Mw,Mx,My,Mz,N1,N2,N4,N5,N6,N7,N8,N9,Na,Nb,Nc,Nd,Ng,Nh,Ni,Nj,Nk,Nl,Nm,Nn,No,Np,Nr,Ns,Nt,Nu,Nv,Nw,Nx,Ny,Nz,O0,O2,O3,O4,O5,O6,O7,O8,O9,Oa,Ob,Od,Oe,Of,Og,Oh,Oi,Oj,Ol,Om,On,Oq,Ot,Ou,Ov,Ow,Ox,Oy,Oz,P0,P1,P3,P4,P5,P6,P7,P8,P9,Pa,Pb,Pc,Pe,Pf,Pg,Ph,Pi,Pj,Pk,Pm,Pn,Po,Pq,Pr,Ps,Pt,Pu,Pv,Pw,Px,Py,Pz,Q1,Q2,Q3,Q4,Q5,Q6,Q7,Fy], []⟩ wx) :
  Code.wp Tryz.prog (cut0Blk 4) (Exit.then K Q) ⟨#[A0,.pointer (some ⟨W.heap.size,0,none⟩),A2,.pointer (some ⟨W.heap.size + 2,0,none⟩),A4,A5,A6,.int .i64 0,A8,A9,Aa,Ab,Ac,Ad,Ae,Af,Ag,Ah,Ai,Aj,Ak,Al,Am,An,Ao,Ap,Aq,Ar,As,At,Au,Av,Aw,Ax,Ay,Az,B1,B3,B4,B5,B7,B8,B9,Ba,Bb,Bc,Be,Bf,Bg,Bh,Bi,Bj,Bk,Bl,Bm,Bn,Bo,Bp,Bq,Br,Bs,Bt,Bu,Bv,Bw,Bx,By,Bz,C0,C1,C3,C4,C5,C6,C7,C8,C9,Ca,Cb,Cc,Cd,Ce,Cf,Cg,Ch,Ci,Cj,Ck,Cl,Cm,Cn,Co,Cp,Cq,Cr,Cs,Ct,Cu,Cv,Cw,Cx,Cy,Cz,D0,D1,D2,D3,D4,D5,D6,D7,D8,D9,Da,Db,Dc,Dd,De,Df,Dg,Dh,Di,Dj,Dk,Dl,Dm,Dn,Do,Dp,Dq,Dr,Ds,Dt,Du,Dv,Dw,Dx,Dy,Dz,E0,E3,E4,E5,E6,E7,E8,E9,Ea,Eb,Ec,Ed,Ee,Ef,Eg,Eh,Ei,Ej,Ek,El,Em,En,Eo,Ep,Eq,Er,Es,Et,Eu,Ev,Ew,Ex,Ey,Ez,F0,F1,F2,F3,F4,F5,F6,F7,F8,F9,Fa,Fb,Fc,Fd,Fe,Ff,Fg,Fh,Fi,Fj,Fk,Fl,Fm,Fn,Fo,Fp,Fq,Fr,Fs,Ft,Fu,Fv,Fw,Fx,Fy], []⟩ wm0 := by
 obtain ⟨ir0, hir0, hrz0, hrz1, hrz2⟩ := info_parts info_ruleE; have HR1 := zh hr1; have HR2 := zh hr2; have HB5 := zh hb5; have HN := zh hn; have HS := zh hS; have HDO := zh hdo; have HB := zh hbel; have HKK := zh hK; have hM : ∀ a w, Met K a w → K a w := fun _ _ h => h
 generalize hRL : (rs.take 6).map (qN yA) = RL at *
 have HRL := zh hRL; clear hr1 hr2 hb5 hn hS hdo hbel hK hRL; conv => arg 2; whnf
 go_wp2_with fail; go_loopg [7] 6 (fun g iv wr => ∃ (k : Nat) (qv : Value), k ≤ n ∧ k ≤ 6 ∧ g = 6 - k ∧ iv = .int .i64 k ∧ wr.heap[W.heap.size + 2]? = some (.cells #[.string ⟨(pr.take 40).toArray⟩, pv, qv, .string ⟨(tl.take 40).toArray⟩] 25 (0, 0)) ∧ qK (W.heap.size + 3) wr pv DL ∧ jO (W.heap.size + 3) wr qv ((rs.take k).map (qN yA)) ∧ Below (W.heap.size + 2) ((W.alloc (.cells #[.string ⟨pr.toArray⟩, .slice ad m cd, .slice ar n cr, .string ⟨tl.toArray⟩] 25)).alloc (.cells #[.string ⟨#[]⟩, .slice none 0 0, .slice none 0 0, .string ⟨#[]⟩] 25)) wr)
 case atStart => exact ⟨0, .slice none 0 0, Nat.zero_le _, Nat.zero_le _, rfl, rfl, HS.out, HDO.out, OwnR.nil _ _ _ _ _ _, HB.out⟩
 case round =>
  obtain ⟨k, qv, hk, hkx, rfl, rfl, hS, hdo, hown, hbel⟩ := hrel; have HS := zh hS; have HO := zh hown; have HB := zh hbel; have HDO := zh hdo; obtain ⟨hF1, hF2⟩ := qX hbel; have b1 := zc 1 hF1; have b2 := zc 2 hF1; have s1 := zc 2 hS; have hl1 := zC hF1; have hl2 := zC hS; have hk0 : (0 : Int) ≤ (k : Int) := Int.natCast_nonneg _; have hsz : W.heap.size + 3 ≤ wr.heap.size := by omega
  clear hS hown hbel hF1 hF2 hdo; by_cases hkn : k < n ∧ k < 6
  ·obtain ⟨hkm, hkN⟩ := hkn
   have hkl : k < rs.length := by have := HN.out; omega
   have hp : rs[k]? = some rs[k] := List.getElem?_eq_getElem hkl; have hq := HB5.out rs[k] (List.getElem_mem hkl); generalize rs[k] = r at *
   obtain ⟨b, off, rfl, hbl, hc⟩ := HR1.out.at (k := k) (idx_row hp); have hin := HR2.out k r hp; obtain ⟨sv, sc, hsv⟩ := hin.form; rw [hsv] at hin hc; have HP := zh hp; obtain ⟨rl, ras, rp⟩ := r; obtain ⟨hq1, hq2, hq3, hq4⟩ := hq; simp only at hin hc hq1 hq2 hq3; obtain ⟨fa, ha1, ha2⟩ := hin; generalize hrn : ras.length = rn at *
   have HRN := zh hrn; have HA1 := zh ha1; have HA2 := zh ha2; have HQ3 := zh hq3; unfold maxLen at hq1 hq2
   have hks : ∀ w', Below (W.heap.size + 2) ((W.alloc (.cells #[.string ⟨pr.toArray⟩, .slice ad m cd, .slice (some ⟨b, off, none⟩) n cr, .string ⟨tl.toArray⟩] 25)).alloc (.cells #[.string ⟨#[]⟩, .slice none 0 0, .slice none 0 0, .string ⟨#[]⟩] 25)) w' → w'.cell? ⟨W.heap.size, 2, none⟩ = some (.slice (some ⟨b, off, none⟩) n cr) ∧ w'.cell? ⟨b, off + k * 3, none⟩ = some (.string ⟨rl.toArray⟩) ∧ w'.cell? ⟨b, off + k * 3 + 1, none⟩ = some (.slice sv rn sc) ∧ w'.cell? ⟨b, off + k * 3 + 2, none⟩ = some (.int .i64 rp) := fun w' h => by
    have hcc := hc _ (j3 h); exact ⟨zc 2 (qX h).1, hcc 0 _ rfl, hcc 1 _ rfl, hcc 2 _ rfl⟩
   have HKS := zh hks; have hk1 : (k : Int) < (n : Int) := by omega
   have hlb : b < wr.heap.size := by omega
   clear hc hp ha1 ha2 hsv hrn hks hkl hq3 hq4; go_upto_region 14 with fail
   go_cut [8] from 87 to 206 (fun s8 wx => s8 = .pointer (some ⟨wr.heap.size, 0, none⟩) ∧ wx = (wr.alloc (.cells #[.string ⟨(rl.take 25).toArray⟩, .slice none 0 0, .int .i64 rp] 63)).drew)
   case first =>
    go_region_held3 (fun w' => w'.cell? ⟨W.heap.size, 2, none⟩ = some (.slice (some ⟨b, off, none⟩) n cr) ∧ w'.cell? ⟨b, off + k * 3, none⟩ = some (.string ⟨rl.toArray⟩) ∧ w'.cell? ⟨b, off + k * 3 + 1, none⟩ = some (.slice sv rn sc) ∧ w'.cell? ⟨b, off + k * 3 + 2, none⟩ = some (.int .i64 rp))
     (first
      | exact HKS.out _ HB.out
      | exact HKS.out _ (below_drewN HB.out 1)
      | exact HKS.out _ (below_drewN (HB.out.alloc (by omega) _) 1)
      | go_keep)
     ((first
      | (go_at_call 19; refine (zCR _ 25 _).mono ?_; rintro e w' ⟨rfl, rfl⟩)))
    all_goals
     go_wp2_with fail; go_meet; exact ⟨rfl, rfl⟩
   case rest =>
    obtain ⟨rfl, rfl⟩ := hcut; obtain ⟨wo, hwo⟩ : ∃ wo : World, wo = wr := ⟨_, rfl⟩
    subst hwo; obtain ⟨ko, hko⟩ : ∃ ko : Nat, ko = k := ⟨_, rfl⟩
    subst hko; go_upto_block 6 with fail
    refine cut0_alts W wo _ ko b off n rn cr sc sv fa ras rl rp _ _ HA1.out HA2.out HQ3.out HRN.out (fun w' h => HKS.out _ (HB.out.trans (h.mono (by omega)))) (fun w' h => j3 (HB.out.trans (h.mono (by omega)))) (by omega) hlb hk1 (by omega) (by omega) (zE _ _) (below_drewN ((Below.refl _ _).alloc (Nat.le_refl _) _) 1) (fun c t a w h => hQ c t a w h) ?_; intro y9 X6 Xh Xs Xk Xl Xm Xn Xo Xp Xq Xr Xt Xu Xv Xw Xx Xy Xz Y0 Y1 Y2 Y4 Y5 Y6 Y7 Y8 Y9 Ya Yb Yc Yd Yf Yg Yh Yi Yj Yk Yl Ym Yn Yo Yq Yr Ys Yt Yu Yv Yw Yx Yy Yz Z1 Z2 Z3 Z4 Z5 Z6 Z7 Z8 Z9 Za Zc Zd Ze Zf Zg Zh Zi Zj Zk Zl Zn Zo Zp Zq Zr Zs Zt Zu Zv Zw Zy Zz y192 y193 y194 y195 y196 y197 y198 y199 y200 wc u hD ho hbel; clear b1 b2 s1 hl1 hl2; generalize hAL : (ras.take 5).map (kX yA) = AL at *
    have hnsl : AL.length ≤ 5 := by rw [← hAL, List.length_map, List.length_take]; omega
    have HAL := zh hAL; clear hAL; obtain ⟨fu, hu1, hu2⟩ := ho; obtain ⟨ua, uc, rfl⟩ := zJ hu1; have HAO := zh (show zCM (wo.heap.size + 1) wc (.slice ua AL.length uc) AL from ⟨fu, hu1, hu2⟩); clear hu1 hu2; generalize hJ : AL.length = j at *
    have HJ := zh hJ; clear hJ; have HDD := zh hD; have HBI := zh hbel; have e0 := zc 0 hD; have e1 := zc 1 hD; have e2 := zc 2 hD; have hlm := zC hD; have hszj : wo.heap.size ≤ wc.heap.size := hbel.size; have hSr := (hbel.block (W.heap.size + 2) (by omega)).trans HS.out; have s1 := zc 2 hSr; have g1 := zf 2 hSr; have hls := zC hSr; have HSr := zh hSr; have hkl : ((rs.take ko).map (qN yA)).length = ko := by rw [List.length_map, List.length_take]; have := HN.out; omega
    obtain ⟨f, hf1, hf2⟩ := zCS (T := fun _ => True) HO.out (KpT.below HBI.out) trivial trivial trivial; rw [hkl] at hf1; obtain ⟨pa, pc, rfl⟩ := zJ hf1; generalize hL : (rs.take ko).map (qN yA) = L at *
    have HL := zh hL; have HNWB := zh (HB.out.trans (hbel.mono (by omega))); have HDO2 := zh (zBL (T := fun _ => True) HDO.out (KpT.below HBI.out) trivial trivial); have hko1 : (ko : Int) < (n : Int) := by omega
    clear hL hD hbel hSr; go_upto_region 25 with (fail)
    go_wp2_with (at_builtin; refine wpList_append_lies _ rfl _ _ _ rfl (W.heap.size + 3) 63 ir0 _ 3 48 Tryz.underlying23 hir0 hrz0 hrz1 hrz2 rfl (by decide) _ _ _ rfl (hf1.alloc _) ⟨wc.heap.size, 0, none⟩ 1 1 (qT (.slice ua j uc) (qN yA ⟨rl, ras, rp⟩)) rfl rfl ?c1R ?c2R (by decide) ?c3R ?c4R ?c5R _ rfl ?_)
    case c1R => exact World.news_of_block (cs := (qT (.slice ua j uc) (qN yA ⟨rl, ras, rp⟩)).toArray) (t := 63) (fr := (0, 0)) (heap_alloc_new wc _)
    case c2R => simp [Value.oneCell', qT]
    case c3R => unfold maxLen; omega
    case c4R => omega
    case c5R => simp only [World.size_alloc]; omega
    intro gg cap w5 hown1 hgrow hat hlt; have HBG := zh (((Below.refl (W.heap.size + 3) wc).alloc (by omega) _).grown hgrow (by simp only [World.size_alloc]; omega) (fun g hg => (hf1.lt g hg).1)); have hS5 := (HBG.out.block (W.heap.size + 2) (by omega)).trans HSr.out; have v1 := zc 2 hS5; have v2 := zf 2 hS5; have v3 := zC hS5; have HS5 := zh hS5; have HKP := zh ((KpT.below ((Below.refl _ wc).alloc (Nat.le_refl _) _)).trans ((KpT.grown (hf1.alloc _) hgrow)) : KpT (· ≠ 63) wc w5); have HO5 := zh hown1; clear hown1 hgrow hat hS5; go_wp2_with fail; go_roundg (6 - (ko + 1))
    case measure => omega
    case rel =>
     have hlen2 : (rs.take (ko + 1)).map (qN yA) = L ++ [qN yA ⟨rl, ras, rp⟩] := by rw [List.take_add_one, HP.out, List.map_append, HL.out]; rfl
     have hkp2 : KpT (fun t => t ≠ 63 ∧ t ≠ 25) wc (w5.setCell ⟨W.heap.size + 2, 2, none⟩ (.slice (some ⟨gg, 0, none⟩) (ko + 1) cap)) := (HKP.out.mono (fun t h => h.1)).setCell HS5.out (by simp) _; refine ⟨ko + 1, _, by omega, by omega, rfl, by go_num, zA HS5.out, zBL HDO2.out hkp2 (by decide) (by decide), ?_, (HNWB.out.trans (HBG.out.mono (by omega))).setCell (p := ⟨W.heap.size + 2, 2, none⟩) (Nat.le_refl _) _⟩; rw [hlen2]; refine OwnR.snoc (u := .slice ua j uc) hf2 ?_ (altsOwn_kp hkp2 (by decide) (by decide)) ⟨wo.heap.size + 1, ?_⟩
     ·rw [hkl]
      exact zR HO5.out HS5.out (by decide) _
     ·have h := alts_kp HAO.out hkp2 (by decide) (by decide)
      have e : (qN yA ⟨rl, ras, rp⟩).alts = AL := HAL.out; rw [e]; exact h
  ·have htk : (rs.take k).map (qN yA) = RL := by
    rw [← HRL.out]; rcases (by omega : k = n ∨ k = 6) with h | h
    ·rw [List.take_of_length_le (by have := HN.out; omega), List.take_of_length_le (by have := HN.out; omega)]
    ·rw [h]
   have HTK := zh htk; clear htk; by_cases hkm : k < n
   ·have hkN : decide ((k : Int) < 6) = false := by rw [decide_eq_false_iff_not]; omega
    have HKN := zh hkn; clear hkn; go_wp2_with fail; exact (HKK.out _ _ _ _ _ _ _ _ _ _ _ _ _ _ _ _ _ _ _ _ _ _ _ _ _ _ _ _ _ _ _ _ _ _ _ _ _ _ _ _ _ _ _ _ _ _ _ _ _ _ _ _ _ _ _ _ _ _ _ _ _ _ _ _ _ _ _ _ _ _ _ _ _ _ _ _ _ _ _ _ _ _ _ _ _ _ _ _ _ _ _ _ _ _ _ _ _ _ _ _ _ _ _ _ _ _ _ _ _ _ _ _ _ _ _ _ _ _ _ _ _ _ _ _ _ _ _ _ HS.out HDO.out (by rw [← HTK.out]; exact HO.out) HB.out : K _ _)
   ·have hkm' : decide (k < n) = false := by rw [decide_eq_false_iff_not]; exact hkm
    have HKN := zh hkn; clear hkn hkm; go_wp2_with fail; exact (HKK.out _ _ _ _ _ _ _ _ _ _ _ _ _ _ _ _ _ _ _ _ _ _ _ _ _ _ _ _ _ _ _ _ _ _ _ _ _ _ _ _ _ _ _ _ _ _ _ _ _ _ _ _ _ _ _ _ _ _ _ _ _ _ _ _ _ _ _ _ _ _ _ _ _ _ _ _ _ _ _ _ _ _ _ _ _ _ _ _ _ _ _ _ _ _ _ _ _ _ _ _ _ _ _ _ _ _ _ _ _ _ _ _ _ _ _ _ _ _ _ _ _ _ _ _ _ _ _ _ HS.out HDO.out (by rw [← HTK.out]; exact HO.out) HB.out : K _ _)
end Go.Proofs.YtddnomjfcbplpaaGreatDoor
