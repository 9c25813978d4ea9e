import Derived.Test.YtddnomjfcbplpaaGreatDoorZ10
namespace Go.Proofs.YtddnomjfcbplpaaGreatDoor
open Go.RowKit

def vK (B : Nat) (w : World) (v : Value) (r : Sp.Rule) : Prop := OwnR altC 60 6 gZ B w v r.alts
abbrev vS (B : Nat) := OwnD qT 63 3 (vK B) B
noncomputable def madeBlk (n : Nat) : Code := (Tryz.f8.body.bind (kU n)).getD .skip
def InnAt (wi : World) (ia : Option Addr) (inn i : Nat) (o : Option Int) : Prop :=
 (o = none ∧ inn ≤ i) ∨ ∃ v bi offi, o = some v ∧ ia = some ⟨bi, offi, none⟩ ∧ i < inn ∧ bi < wi.heap.size ∧ (Lit.int .i64 v).wf = true ∧ ∀ w', Below wi.heap.size wi w' → w'.cell? ⟨bi, offi + i, none⟩ = some (.int .i64 v)

set_option maxRecDepth 100000 in
set_option maxHeartbeats 12800000 in
theorem made_syms (wi : World) (B0 nn i n b off b3 off3 rn cr sc inn icp : Nat) (ia : Option Addr) (rw : List Int) (o : Option Int)
  {A0 A2 A4 A5 A6 A8 Ac Ad Ae Af Ag Ah Ai Aj Ak Al Am An Ao Ap Aq Ar As At Au Av Aw Ax Ay Az B1 B3 B4 B5 B7 B8 B9 Ba Bb Bc Be Bf Bg Bh Bi Bj Bk Bl Bm Bn Bo Bp Bq Br Bs Bt Bu Bv Bw Bx By Bz C0 C1 C3 C4 C5 C6 C7 C8 C9 Ca Cb Cc Cd Ce Cf Cg Ch Ci Cj Ck Cl Cm Cn Co Cp Cq Cr Cs Ct Cu Cv Cw Cx Cy Cz D0 D1 D2 D3 D4 D5 D6 D7 D8 D9 Da Db Dc Dd De Df Dg Dh Di Dj Dk Dl Dm Dn Do Dp Dq Dr Ds Dt Du Dv Dw Dx Dy Dz E0 E3 E4 E5 E6 E7 E8 E9 Ea Eb Ec Ed Ee Ef Eg Eh Ei Ej Ek El Em En Eo Ep Eq Er Es Et Eu Ev Ew Ex Ey Ez F0 F1 F2 F3 F4 F5 F6 F7 F8 F9 Fa Fb Fc Fd Fe Ff Fg Fh Fi Fj Fk Fl Fm Fn Fo Fp Fq Fr Fs Ft Fu Fv Fw Fx Fy Fz G0 G1 G2 G3 G4 G5 G6 G7 : Value} (K : Act → World → Prop) (Q : Exit → Act → World → Prop)
  (hnn : 1 ≤ nn) (hn4 : nn ≤ 4) (hrn : rw.length = rn) (hrn1 : 1 ≤ rn) (hrn63 : rn ≤ 2 ^ 63 - 1) (hwf : ∀ x ∈ rw, (Lit.int .i64 x).wf = true) (hin : i < n) (hn63 : n ≤ 2 ^ 63 - 1) (hinn63 : inn ≤ 2 ^ 63 - 1)
  (hB0 : B0 < wi.heap.size) (hbl : b < wi.heap.size) (hb3l : b3 < wi.heap.size)
  (hks : ∀ w', Below wi.heap.size wi w' → w'.cell? ⟨B0, 1, none⟩ = some (.slice (some ⟨b, off, none⟩) n cr) ∧ w'.cell? ⟨b, off + i, none⟩ = some (.slice (some ⟨b3, off3, none⟩) rn sc) ∧ w'.cell? ⟨B0, 3, none⟩ = some (.slice ia inn icp))
  (hrow : ∀ w', Below wi.heap.size wi w' → ∀ j x, rw[j]? = some x → w'.cell? ⟨b3, off3 + j, none⟩ = some (.int .i64 x))
  (hio : InnAt wi ia inn i o)
  (hQ : ∀ c (t : Array Value) (a : Act) w, Q (.panic c) ⟨t, a.defers⟩ w → Q (.panic c) a w)
  (hK : ∀ (N3 Nf W6 W7 W8 W9 Wa Wb Wc Wd We Wf Wg Wh Wi Wj Wk Wl Wm Wn Wo Wp Wq Wr Ws Wt Wu Wv Ww Wx Wy Wz X0 X1 X2 X3 X4 X5 Ms Mt Mu Mv Mw Mx My Mz N1 N2 N4 N5 N6 N7 N8 N9 Na Nb Nc Nd Ng Nh Ni Nj Nk Nl Nm Nn No : Value) (wx : World) (v : Value), wx.heap[wi.heap.size]? = some (.cells #[v, .string ⟨#[]⟩, .bool false, .int .i64 0, .int .i64 0, .int .i64 0] 60 (0, 0)) → wx.ownsRow (wi.heap.size + 1) 47 6 v (Sp.qU nn (Sp.j0 o) 1 ((rw.take 5).drop 1)).length ((Sp.qU nn (Sp.j0 o) 1 ((rw.take 5).drop 1)).map z6).flatten → Below wi.heap.size wi wx → K ⟨#[A0,.pointer (some ⟨B0,0,none⟩),A2,.int .i64 (nn : Int),A4,A5,A6,.int .i64 (i : Int),A8,.pointer (some ⟨wi.heap.size,0,none⟩),.bool ((rw.take 5).drop 1 |>.all fun x => Sp.vF (Sp.zAK x nn)),N3,Nf,Ad,Ae,Af,Ag,Ah,Ai,Aj,Ak,Al,Am,An,Ao,Ap,Aq,Ar,As,At,Au,Av,Aw,Ax,Ay,Az,B1,B3,B4,B5,B7,B8,B9,Ba,Bb,Bc,Be,Bf,Bg,Bh,Bi,Bj,Bk,Bl,Bm,Bn,Bo,Bp,Bq,Br,Bs,Bt,Bu,Bv,W6,W7,W8,W9,Wa,Wb,Wc,Wd,We,Wf,Wg,Wh,Wi,Wj,Wk,Wl,Wm,Wn,Wo,Wp,Wq,Wr,Ws,Wt,Wu,Wv,Ww,Wx,Wy,Wz,X0,X1,X2,X3,X4,X5,Ms,Mt,Mu,Mv,Mw,Mx,My,Mz,N1,N2,N4,N5,N6,N7,N8,N9,Na,Nb,Nc,Nd,Ng,Nh,Ni,Nj,Nk,Nl,Nm,Nn,No,Dq,Dr,Ds,Dt,Du,Dv,Dw,Dx,Dy,Dz,E0,E3,E4,E5,E6,E7,E8,E9,Ea,Eb,Ec,Ed,Ee,Ef,Eg,Eh,Ei,Ej,Ek,El,Em,En,Eo,Ep,Eq,Er,Es,Et,Eu,Ev,Ew,Ex,Ey,Ez,F0,F1,F2,F3,F4,F5,F6,F7,F8,F9,Fa,Fb,Fc,Fd,Fe,Ff,Fg,Fh,Fi,Fj,Fk,Fl,Fm,Fn,Fo,Fp,Fq,Fr,Fs,Ft,Fu,Fv,Fw,Fx,Fy,Fz,G0,G1,G2,G3,G4,G5,G6,G7], []⟩ wx) :
  Code.wp Tryz.prog (madeBlk 4) (Exit.then K Q) ⟨#[A0,.pointer (some ⟨B0,0,none⟩),A2,.int .i64 (nn : Int),A4,A5,A6,.int .i64 (i : Int),A8,.pointer (some ⟨wi.heap.size,0,none⟩),.bool true,.int .i64 1,Ac,Ad,Ae,Af,Ag,Ah,Ai,Aj,Ak,Al,Am,An,Ao,Ap,Aq,Ar,As,At,Au,Av,Aw,Ax,Ay,Az,B1,B3,B4,B5,B7,B8,B9,Ba,Bb,Bc,Be,Bf,Bg,Bh,Bi,Bj,Bk,Bl,Bm,Bn,Bo,Bp,Bq,Br,Bs,Bt,Bu,Bv,Bw,Bx,By,Bz,C0,C1,C3,C4,C5,C6,C7,C8,C9,Ca,Cb,Cc,Cd,Ce,Cf,Cg,Ch,Ci,Cj,Ck,Cl,Cm,Cn,Co,Cp,Cq,Cr,Cs,Ct,Cu,Cv,Cw,Cx,Cy,Cz,D0,D1,D2,D3,D4,D5,D6,D7,D8,D9,Da,Db,Dc,Dd,De,Df,Dg,Dh,Di,Dj,Dk,Dl,Dm,Dn,Do,Dp,Dq,Dr,Ds,Dt,Du,Dv,Dw,Dx,Dy,Dz,E0,E3,E4,E5,E6,E7,E8,E9,Ea,Eb,Ec,Ed,Ee,Ef,Eg,Eh,Ei,Ej,Ek,El,Em,En,Eo,Ep,Eq,Er,Es,Et,Eu,Ev,Ew,Ex,Ey,Ez,F0,F1,F2,F3,F4,F5,F6,F7,F8,F9,Fa,Fb,Fc,Fd,Fe,Ff,Fg,Fh,Fi,Fj,Fk,Fl,Fm,Fn,Fo,Fp,Fq,Fr,Fs,Ft,Fu,Fv,Fw,Fx,Fy,Fz,G0,G1,G2,G3,G4,G5,G6,G7], []⟩ (wi.alloc (.cells #[.slice none 0 0, .string ⟨#[]⟩, .bool false, .int .i64 0, .int .i64 0, .int .i64 0] 60)) := by
 obtain ⟨ip0, hip0, hpz0, hpz1, hpz2⟩ := info_parts zCB; generalize hPF : Sp.qU nn (Sp.j0 o) 1 ((rw.take 5).drop 1) = PF at *
 generalize hFF : ((rw.take 5).drop 1 |>.all fun x => Sp.vF (Sp.zAK x nn)) = FF at *
 have HRN := zh hrn; have HWF := zh hwf; have HKS := zh hks; have HROW := zh hrow; have HIO := zh hio; have HPF := zh hPF; have HFF := zh hFF; have HKK := zh hK; have hM : ∀ a w, Met K a w → K a w := fun _ _ h => h
 clear hrn hwf hks hrow hio hPF hFF hK; conv => arg 2; whnf
 go_wp2_with fail; go_loopg [10, 11] 5 (fun gg pv iv wr => ∃ (j : Nat) (pl : Bool) (P : List Sp.Part) (v : Value), 1 ≤ j ∧ j ≤ rn ∧ j ≤ 5 ∧ gg = 6 - j ∧ pv = .bool pl ∧ iv = .int .i64 j ∧ wr.heap[wi.heap.size]? = some (.cells #[v, .string ⟨#[]⟩, .bool false, .int .i64 0, .int .i64 0, .int .i64 0] 60 (0, 0)) ∧ wr.ownsRow (wi.heap.size + 1) 47 6 v P.length (P.map z6).flatten ∧ P ++ Sp.qU nn (Sp.j0 o) j ((rw.take 5).drop j) = PF ∧ (pl && ((rw.take 5).drop j).all fun x => Sp.vF (Sp.zAK x nn)) = FF ∧ P.length ≤ 2 * j ∧ Below wi.heap.size wi wr)
 case atStart =>
  refine ⟨1, true, [], .slice none 0 0, Nat.le_refl _, hrn1, by omega, rfl, rfl, rfl, zE wi _, World.ownsRow_nil _ _ _ _, HPF.out, ?_, by simp, (Below.refl _ wi).alloc (Nat.le_refl _) _⟩; rw [Bool.true_and]; exact HFF.out
 case round =>
  obtain ⟨j, pl, P, v, hj1, hjr, hj5, rfl, rfl, rfl, hD, ho, hP, hF, hPl, hbel⟩ := hrel; obtain ⟨va, vc, rfl⟩ := zJ ho; obtain ⟨wq, hwq⟩ : ∃ wq : World, wq = wr := ⟨_, rfl⟩
  subst hwq; have HD4 := zh hD; have HOI := zh ho; have HBI := zh hbel; have HP := zh hP; have HF := zh hF; obtain ⟨k1, k2, k3⟩ := HKS.out _ hbel; have e0 := zc 0 hD; have g0 := zf 0 hD; have hlg := zC hD; have hszq : wi.heap.size ≤ wq.heap.size := hbel.size; have hi0 : (0 : Int) ≤ (i : Int) := Int.natCast_nonneg _; have hj0 : (0 : Int) ≤ (j : Int) := Int.natCast_nonneg _; have hi1 : (i : Int) < (n : Int) := by omega
  have hlB : B0 < wq.heap.size := by omega
  have hlb : b < wq.heap.size := by omega
  have hlb3 : b3 < wq.heap.size := by omega
  clear hD ho hbel hP hF; by_cases hjn : j < rn ∧ j < 5
  ·obtain ⟨hjs, hjN⟩ := hjn
   have hjl : j < rw.length := by have := HRN.out; omega
   have hp := List.getElem?_eq_getElem hjl
   have hdr : (rw.take 5).drop j = rw[j] :: (rw.take 5).drop (j + 1) := by
    rw [List.drop_eq_getElem_cons (by simp; omega)]; simp
   have hxw := HWF.out rw[j] (List.getElem_mem hjl); have hP := HP.out; have hF := HF.out; rw [hdr] at hP hF; rw [List.all_cons] at hF; unfold Sp.qU at hP; generalize rw[j] = x at *
   have a0 := HROW.out _ HBI.out j x hp; have hsm := fun w => made_sym x nn w hnn hn4 hxw
   generalize Sp.zAK x nn = SY at *
   obtain ⟨sn, sl, su, sa⟩ := SY; have HSM := zh (fun w => (show Calls Tryz.prog 24 #[.int .i64 x, .int .i64 (nn : Int)] w (fun e w' => e = .returned (.agg #[.string ⟨sn.toArray⟩, .bool sl, .int .i64 su, .int .i64 sa]) ∧ Below w.heap.size w w') from hsm w)); have hj1' : (j : Int) < (rn : Int) := by omega
   have HPP := zh hP; have HFP := zh hF; clear hdr hp hsm hP hF HP HF hjl hxw; go_upto_region 19 with (first | (go_at_call 24; refine (HSM.out _).mono ?_; rintro e w' ⟨rfl, hb'⟩))
   have hlw : wq.heap.size ≤ w'.heap.size := hb'.size; have HB1 := zh ((hb'.alloc hlw _ : Below wq.heap.size wq (w'.alloc (.cells #[.string ⟨sn.toArray⟩, .bool sl, .int .i64 su, .int .i64 sa] 45)))); have hSy := zE w' (.cells #[.string ⟨sn.toArray⟩, .bool sl, .int .i64 su, .int .i64 sa] 45); have s0 := zc 0 hSy; have s1 := zc 1 hSy; have s2 := zc 2 hSy; have s3 := zc 3 hSy; have hls := zC hSy; obtain ⟨w1, hw1⟩ : ∃ w1, w1 = w'.alloc (.cells #[.string ⟨sn.toArray⟩, .bool sl, .int .i64 su, .int .i64 sa] 45) := ⟨_, rfl⟩
   have HSZ1 : Hid (w1.heap.size = w'.heap.size + 1) := zh (by rw [hw1]; simp); rw [← hw1] at HB1 hSy s0 s1 s2 s3 hls; rw [← hw1]; have HSY := zh hSy; clear hw1 hb' hSy a0 k2 k3 e0 g0; go_cut [10] from 64 to 128 (fun v10 wx => v10 = .bool (pl && Sp.vF ⟨sn, sl, su, sa⟩) ∧ w1 = wx)
   case first =>
    cases pl with
    | false => go_wp2_with fail; go_meet; exact ⟨rfl, rfl⟩
    | true =>
     cases sl with
     | true => go_wp2_with fail; go_meet; exact ⟨rfl, rfl⟩
     | false =>
      have hpe : (Sp.vF ⟨sn, false, su, sa⟩) = (sn == [101, 114, 114, 111, 114]) := rfl; go_wp2_with fail; go_meet; exact ⟨by rw [hpe, Bool.true_and], rfl⟩
   case rest =>
    obtain ⟨rfl, rfl⟩ := hcut; have hszw : wq.heap.size ≤ w1.heap.size := HB1.out.size; have hD1 := (HB1.out.block wi.heap.size (by omega)).trans HD4.out; have e0 := zc 0 hD1; have g0 := zf 0 hD1; have hlg1 := zC hD1; have HD1 := zh hD1; clear hD1; go_upto_region 20 with fail
    go_wp2_with (at_builtin; refine wpList_append_lies _ rfl _ _ _ rfl (wi.heap.size + 1) 47 ip0 _ 6 64 Tryz.underlying58 hip0 hpz0 hpz1 hpz2 rfl (by decide) _ _ _ rfl ((zL HOI.out HB1.out).alloc _) ⟨w1.heap.size, 0, none⟩ 1 1 (z6 ⟨⟨sn, sl, su, sa⟩, [], 0⟩) rfl rfl ?c1A ?c2A (by decide) ?c3A ?c4A ?c5A _ rfl ?_)
    case c1A => exact World.news_of_block (cs := (z6 ⟨⟨sn, sl, su, sa⟩, [], 0⟩).toArray) (t := 47) (fr := (0, 0)) (zE w1 _)
    case c2A => simp [Value.oneCell', z6, symC]
    case c3A => unfold maxLen; omega
    case c4A => omega
    case c5A => simp only [World.size_alloc]; omega
    intro gg cap w5 hown1 hgrow hat hlt; have hB5 := ((HB1.out.mono (by omega : wi.heap.size + 1 ≤ wq.heap.size)).alloc (by omega) _).grown hgrow (by simp only [World.size_alloc]; omega) (fun g' hg' => (HOI.out.lt g' hg').1); have hD5 := (hB5.block wi.heap.size (by omega)).trans HD4.out; have v0 := zc 0 hD5; have v1 := zf 0 hD5; have HD5 := zh hD5; have HB5 := zh hB5; have HO5 := zh hown1; clear hB5 hD5 hown1 hgrow hat e0 g0 s0 s1 s2 s3; go_upto_region 21 with fail
    obtain ⟨w6, hw6⟩ : ∃ w6, w6 = w5.setCell ⟨wi.heap.size, 0, none⟩ (.slice (some ⟨gg, 0, none⟩) (P.length + 1) cap) := ⟨_, rfl⟩
    have hD6 : w6.heap[wi.heap.size]? = some (.cells #[.slice (some ⟨gg, 0, none⟩) (P.length + 1) cap, .string ⟨#[]⟩, .bool false, .int .i64 0, .int .i64 0, .int .i64 0] 60 (0, 0)) := by rw [hw6]; exact zA HD5.out
    have ho6 : w6.ownsRow (wi.heap.size + 1) 47 6 (.slice (some ⟨gg, 0, none⟩) (P.length + 1) cap) (P.length + 1) ((P ++ [(⟨⟨sn, sl, su, sa⟩, [], 0⟩ : Sp.Part)]).map z6).flatten := by
     rw [hw6, List.map_append, List.flatten_append]; have e : (List.map z6 [(⟨⟨sn, sl, su, sa⟩, [], 0⟩ : Sp.Part)]).flatten = z6 (⟨⟨sn, sl, su, sa⟩, [], 0⟩ : Sp.Part) := by simp
     rw [e]; exact zR HO5.out HD5.out (by decide) _
    have hB6 : Below wi.heap.size wi w6 := by
     rw [hw6]; exact (HBI.out.trans (HB5.out.mono (by omega))).setCell (p := ⟨wi.heap.size, 0, none⟩) (Nat.le_refl _) _
    obtain ⟨k1, k2, k3⟩ := HKS.out _ hB6; have hsz6 : wi.heap.size ≤ w6.heap.size := hB6.size; have hB6l : B0 < w6.heap.size := by omega
    rw [← hw6]; have HD6 := zh hD6; have HO6 := zh ho6; have HB6 := zh hB6; clear hw6 hD6 ho6 hB6 v0 v1 HD5 HO5 HB5 HB1 HD1 HSZ1; go_cut [122] from 64 to 128 (fun v122 wx => v122 = .bool (decide (j = 1) && Sp.j0 o) ∧ w6 = wx)
    case first =>
     rcases HIO.out with ⟨rfl, hie⟩ | ⟨v, bi, offi, rfl, rfl, hii, hbi, hvw, hcv⟩
     ·have hii : decide (i < inn) = false := by rw [decide_eq_false_iff_not]; omega
      have hii2 : ¬ i < inn := by omega
      go_wp2_with fail; go_meet; exact ⟨by simp [Sp.j0], rfl⟩
     ·have cv := hcv _ HB6.out
      have hii1 : (i : Int) < (inn : Int) := by omega
      have hbl6 : bi < w6.heap.size := by omega
      by_cases hj : j = 1
      ·subst hj
       have HV : Hid (Sp.j0 (some v) = (v.tmod 3 == 1)) := zh rfl; clear HIO; go_wp2_with fail; go_meet; exact ⟨by rw [HV.out]; rfl, rfl⟩
      ·have hjd : decide (j = 1) = false := by rw [decide_eq_false_iff_not]; exact hj
       have hjb : (j == 1) = false := by rw [beq_eq_false_iff_ne]; exact hj
       have hji : ¬ (j : Int) = 1 := by omega
       have hjib : ((j : Int) == 1) = false := by rw [beq_eq_false_iff_ne]; exact hji
       clear HIO; go_wp2_with fail; go_meet; exact ⟨by rw [hjd]; rfl, rfl⟩
    case rest =>
     obtain ⟨rfl, rfl⟩ := hcut; have e0 := zc 0 HD6.out; have g0 := zf 0 HD6.out; have hlg6 := zC HD6.out
     cases hcv : (decide (j = 1) && Sp.j0 o) with
     | false =>
      go_wp2_with fail; go_roundg (6 - (j + 1))
      case measure => omega
      case rel =>
       refine ⟨j + 1, pl && Sp.vF ⟨sn, sl, su, sa⟩, P ++ [(⟨⟨sn, sl, su, sa⟩, [], 0⟩ : Sp.Part)], _, by omega, by omega, by omega, rfl, rfl, by go_num, HD6.out, by rw [List.length_append]; exact HO6.out, ?_, ?_, by rw [List.length_append]; simp only [List.length_cons, List.length_nil]; omega, HB6.out⟩
       ·have h := HPP.out
        rw [if_neg (by rw [Bool.and_eq_false_iff, decide_eq_false_iff_not] at hcv; rintro ⟨h1, h2⟩; rcases hcv with h3 | h3; exact h3 h1; rw [h2] at h3; cases h3)] at h; rw [← h]; simp
       ·rw [← HFP.out, Bool.and_assoc]
     | true =>
      obtain ⟨hj1e, hinm⟩ := Bool.and_eq_true_iff.1 hcv; have HJ := zh (And.intro (of_decide_eq_true hj1e) hinm); clear hj1e hinm hcv; go_upto_region 22 with fail
      go_wp2_with (at_builtin; refine wpList_append_lies _ rfl _ _ _ rfl (wi.heap.size + 1) 47 ip0 _ 6 64 Tryz.underlying58 hip0 hpz0 hpz1 hpz2 rfl (by decide) _ _ _ rfl (HO6.out.alloc _) ⟨w6.heap.size, 0, none⟩ 1 1 (z6 ⟨Sp.xC, Sp.zCG, 0⟩) rfl rfl ?c1A ?c2A (by decide) ?c3A ?c4A ?c5A _ rfl ?_)
      case c1A => exact World.news_of_block (cs := (z6 ⟨Sp.xC, Sp.zCG, 0⟩).toArray) (t := 47) (fr := (0, 0)) (zE w6 _)
      case c2A => simp [Value.oneCell', z6, symC, Sp.xC]
      case c3A => unfold maxLen; omega
      case c4A => omega
      case c5A => simp only [World.size_alloc]; omega
      intro gg2 cap2 w7 hown1 hgrow hat hlt; have hB7 := ((Below.refl (wi.heap.size + 1) w6).alloc (by omega) (.cells (z6 ⟨Sp.xC, Sp.zCG, 0⟩).toArray 47)).grown hgrow (by simp only [World.size_alloc]; omega) (fun g' hg' => (HO6.out.lt g' hg').1); have hD7 := (hB7.block wi.heap.size (by omega)).trans HD6.out; have v0 := zc 0 hD7; have v1 := zf 0 hD7; have hlg7 := zC hD7; have HD7 := zh hD7; have HB7 := zh hB7; have HO7 := zh hown1; clear hB7 hD7 hown1 hgrow hat e0 g0 k1 k2 k3; go_wp2_with fail; go_roundg (6 - (j + 1))
      case measure => omega
      case rel =>
       refine ⟨j + 1, pl && Sp.vF ⟨sn, sl, su, sa⟩, (P ++ [(⟨⟨sn, sl, su, sa⟩, [], 0⟩ : Sp.Part)]) ++ [(⟨Sp.xC, Sp.zCG, 0⟩ : Sp.Part)], _, by omega, by omega, by omega, rfl, rfl, by go_num, zA HD7.out, ?_, ?_, ?_, by rw [List.length_append, List.length_append]; simp only [List.length_cons, List.length_nil]; omega, (HB6.out.trans (HB7.out.mono (by omega))).setCell (p := ⟨wi.heap.size, 0, none⟩) (Nat.le_refl _) _⟩
       ·have e : (List.map z6 [(⟨Sp.xC, Sp.zCG, 0⟩ : Sp.Part)]).flatten = z6 ⟨Sp.xC, Sp.zCG, 0⟩ := by simp
        have hl : ((P ++ [(⟨⟨sn, sl, su, sa⟩, [], 0⟩ : Sp.Part)]) ++ [(⟨Sp.xC, Sp.zCG, 0⟩ : Sp.Part)]).length = P.length + 1 + 1 := by simp
        have e2 : (List.map z6 [(⟨⟨sn, sl, su, sa⟩, [], 0⟩ : Sp.Part)]).flatten = z6 (⟨⟨sn, sl, su, sa⟩, [], 0⟩ : Sp.Part) := by simp
        rw [hl, List.map_append (l₁ := P ++ [(⟨⟨sn, sl, su, sa⟩, [], 0⟩ : Sp.Part)]), List.flatten_append, e, List.map_append (l₁ := P), List.flatten_append, e2, List.append_assoc]; exact zR HO7.out HD7.out (by decide) _
       ·have h := HPP.out
        rw [if_pos HJ.out] at h; rw [← h]; simp
       ·rw [← HFP.out, Bool.and_assoc]
  ·have hfin : (rw.take 5).drop j = [] := by
    rw [List.drop_eq_nil_iff, List.length_take]; have := HRN.out; omega
   have hP := HP.out; have hF := HF.out; rw [hfin] at hP hF; rw [List.all_nil, Bool.and_true] at hF; rw [show Sp.qU nn (Sp.j0 o) j [] = [] from rfl, List.append_nil] at hP; have HPE := zh hP; have HFE := zh hF; clear hfin hP hF; by_cases hjs : j < rn
   ·have hjN : decide ((j : Int) < 5) = false := by rw [decide_eq_false_iff_not]; omega
    have HJN := zh hjn; clear hjn; go_wp2_with fail; rw [HFE.out]; exact (HKK.out _ _ _ _ _ _ _ _ _ _ _ _ _ _ _ _ _ _ _ _ _ _ _ _ _ _ _ _ _ _ _ _ _ _ _ _ _ _ _ _ _ _ _ _ _ _ _ _ _ _ _ _ _ _ _ _ _ _ _ _ _ _ _ _ _ _ _ _ _ HD4.out (by rw [← HPE.out]; exact HOI.out) HBI.out : K _ _)
   ·have hjs' : decide (j < rn) = false := by rw [decide_eq_false_iff_not]; exact hjs
    have HJN := zh hjn; clear hjn hjs; go_wp2_with fail; rw [HFE.out]; exact (HKK.out _ _ _ _ _ _ _ _ _ _ _ _ _ _ _ _ _ _ _ _ _ _ _ _ _ _ _ _ _ _ _ _ _ _ _ _ _ _ _ _ _ _ _ _ _ _ _ _ _ _ _ _ _ _ _ _ _ _ _ _ _ _ _ _ _ _ _ _ _ HD4.out (by rw [← HPE.out]; exact HOI.out) HBI.out : K _ _)
end Go.Proofs.YtddnomjfcbplpaaGreatDoor
