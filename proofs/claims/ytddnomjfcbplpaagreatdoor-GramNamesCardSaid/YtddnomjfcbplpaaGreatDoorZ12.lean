import Derived.Test.YtddnomjfcbplpaaGreatDoorZ11
namespace Go.Proofs.YtddnomjfcbplpaaGreatDoor
open Go.RowKit

theorem kp_kpT {g : Nat} {w w' : World} {cs : Array Value} {t : TypeId} {fr : Nat × Nat} (h : Kp (fun k => k ≠ g) w w') (hg : w.heap[g]? = some (.cells cs t fr)) : KpT (· ≠ t) w w' := by
 intro b c t' fr' hb ht; refine (h.block b (zC hb) (fun e => ?_)).trans hb; subst e; rw [hg] at hb; simp only [Option.some.injEq, Obj.cells.injEq] at hb; exact ht hb.2.1.symm
theorem kp_below {S : Nat → Prop} {a w w' : World} (h : Kp S a w) (hb : Below a.heap.size w w') : Kp S a w' := ⟨hb.os.trans h.os, hb.tape.trans h.tape, hb.output.trans h.output, Nat.le_trans h.size hb.size, fun b hl hs => (hb.block b hl).trans (h.block b hl hs)⟩
theorem j8 {B : Nat} {T : TypeId → Prop} {w w' : World} (k : KpT T w w') (ht : T 47) (ht2 : T 60) {u : Value} {d : Sp.Rule} (h : vK B w u d) : vK B w' u d := OwnR.kp h k ht2 (qF k ht)
theorem rulesD_kp {B : Nat} {T : TypeId → Prop} {w w' : World} {v : Value} {l : List Sp.Rule} (h : vS B w v l) (k : KpT T w w') (ht : T 47) (ht2 : T 60) (ht3 : T 63) : vS B w' v l :=
 OwnD.kp h k ht3 (fun _ _ h => j8 k ht ht2 h)
theorem vR {B : Nat} {T : TypeId → Prop} {w w' : World} {v : Value} {l : List Sp.Decl} (h : vL B w v l) (k : KpT T w w') (ht : T 45) (ht2 : T 57) : vL B w' v l :=
 OwnD.kp h k ht2 (fun _ _ h => zD h k ht)
theorem altsOwnB_lt {B : Nat} {w : World} {u : Value} {r : Sp.Rule} (h : vK B w u r) : ∀ c, u.ownBlock = some c → B ≤ c ∧ c < w.heap.size := by
 obtain ⟨f, h, _⟩ := h; exact fun c hc => h.lt c hc
theorem altsOwnB_ne {B : Nat} {w w' : World} {u : Value} {r : Sp.Rule} {b : Option Nat} (h : vK B w u r) (hg : w.grownBy w' b) (hne : ∀ c, u.ownBlock = some c → b ≠ some c) (hk : KpT (· ≠ 60) w w') : vK B w' u r := by
 obtain ⟨f, h1, h2⟩ := h; exact ⟨f, zP (S := fun c => b ≠ some c) h1 ((Kp.refl _ w).grown hg (fun k hk hn => hn hk)) hne, fun i a ha => qF hk (by decide) _ _ (h2 i a ha)⟩
theorem zBQ {B : Nat} {w : World} {f : Nat → Value} {gr n vc k : Nat} {RL : List Sp.Rule} {r : Sp.Rule} (ho : w.ownsRow B 63 3 (.slice (some ⟨gr, 0, none⟩) n vc) n (RL.mapIdx fun i r => qT (f i) r).flatten) (hk : RL[k]? = some r) (hkn : k < n) :
  w.cell? ⟨gr, k * 3 + 1, none⟩ = some (f k) ∧ w.frozen? ⟨gr, k * 3 + 1, none⟩ = false := by
 refine ⟨?_, ho.frozenAt _⟩; rw [ho.cellAt (k * 3 + 1) (by omega)]; refine j1 3 _ (fun r hr => ?_) k (qT (f k) r) (by rw [List.getElem?_mapIdx, hk]; rfl) 1 _ rfl; obtain ⟨i, hi⟩ := List.mem_iff_getElem?.1 hr; rw [List.getElem?_mapIdx] at hi; obtain ⟨b, _, rfl⟩ := Option.map_eq_some_iff.1 hi; rfl
theorem row_block {w : World} {B e size g n cap : Nat} {xs : List Value} (h : w.ownsRow B e size (.slice (some ⟨g, 0, none⟩) n cap) n xs) : ∃ cu, w.heap[g]? = some (.cells cu e (0, 0)) := by
 rcases h.2 with ⟨h, _⟩ | ⟨g', _, cu, h, _, hh, _⟩
 ·simp at h
 ·simp only [Value.slice.injEq, Option.some.injEq, Addr.mk.injEq, and_true, true_and] at h
  obtain ⟨rfl, _⟩ := h; exact ⟨cu, hh⟩
theorem rulesD_add {B : Nat} {w0 w1 w5 : World} {f f' : Nat → Value} {gr n vc k gg cap2 H : Nat} {RL : List Sp.Rule} {r : Sp.Rule} {a : Sp.Alt} {pv : Value}
  (ho : w0.ownsRow B 63 3 (.slice (some ⟨gr, 0, none⟩) n vc) n (RL.mapIdx fun i r => qT (f i) r).flatten) (hlen : RL.length = n)
  (hc : ∀ (i : Nat) (r : Sp.Rule), RL[i]? = some r → vK B w0 (f i) r) (hd : distR f RL.length) (hk : RL[k]? = some r)
  (ha1 : w0.ownsRow B 60 6 (f k) r.alts.length (r.alts.mapIdx fun i a => altC (f' i) a).flatten) (ha2 : ∀ (i : Nat) (a : Sp.Alt), r.alts[i]? = some a → gZ w0 (f' i) a)
  (hb : Below w0.heap.size w0 w1) (hp : gZ w1 pv a) (hg : w1.grownBy w5 (f k).ownBlock)
  (ho5 : w5.ownsRow B 60 6 (.slice (some ⟨gg, 0, none⟩) (r.alts.length + 1) cap2) (r.alts.length + 1) ((r.alts.mapIdx fun i a => altC (f' i) a).flatten ++ altC pv a))
  (hat : (f k).ownBlock = some gg ∨ gg = H) (hH : w0.heap.size ≤ H) :
  vS B (w5.setCell ⟨gr, k * 3 + 1, none⟩ (.slice (some ⟨gg, 0, none⟩) (r.alts.length + 1) cap2)) (.slice (some ⟨gr, 0, none⟩) n vc) (RL.set k ⟨r.left, r.alts ++ [a], r.at_⟩) := by
 have hkn := (List.getElem?_eq_some_iff.1 hk).1; have hk5 : KpT (· ≠ 60) w1 w5 := KpT.grown (zL ha1 hb) hg; have hor : w5.ownsRow B 63 3 (.slice (some ⟨gr, 0, none⟩) n vc) n (RL.mapIdx fun i r => qT (f i) r).flatten := zD (zL ho hb) hk5 (by decide); obtain ⟨cu, hgb⟩ := row_block hor; have hst := (hor.stored (k * 3 + 1) (.slice (some ⟨gg, 0, none⟩) (r.alts.length + 1) cap2)).1; have hset : ∀ u, KpT (· ≠ 63) w5 (w5.setCell ⟨gr, k * 3 + 1, none⟩ u) := fun u => KpT.setCell (fun _ _ _ _ h _ => h) hgb (by simp) u
 refine OwnD.upd (f := f) (k := k) (off := 1) (a := r) (u' := .slice (some ⟨gg, 0, none⟩) (r.alts.length + 1) cap2) hd hk (by rw [hlen]; exact hst) (by decide) (fun _ _ => rfl) rfl ?_ ?_ ?_
 ·intro i b hi hbi
  have hil := (List.getElem?_eq_some_iff.1 hbi).1; have e1 : vK B w1 (f i) b := j8 (T := fun _ => True) (KpT.below hb) trivial trivial (hc i b hbi); exact j8 (hset _) (by decide) (by decide) (altsOwnB_ne e1 hg (fun c hc' => hd i k c hil hkn hi hc') hk5)
 ·show OwnR _ _ _ _ _ _ _ _
  refine OwnR.snoc (u := pv) (w := w0) ha2 (zR ho5 hgb (by decide) _) (fun u a h => qF (hset _) (by decide) _ _ (qF hk5 (by decide) _ _ (qF (T := fun _ => True) (KpT.below hb) trivial _ _ h))) (qF (hset _) (by decide) _ _ (qF hk5 (by decide) _ _ hp))
 ·intro c hc'
  simp only [Value.ownBlock, Option.some.injEq] at hc'; subst hc'; rcases hat with h | h
  ·exact .inl h
  ·right
   intro i hi hci; have := ((altsOwnB_lt (hc i _ (List.getElem?_eq_getElem hi))) _ hci).2; omega
set_option maxRecDepth 100000 in
set_option maxHeartbeats 12800000 in
theorem made_start (wm : World) (B0 g4 g5 nn : Nat) (pv : Value)
  {A0 A2 A7 A8 A9 Aa Ab Ac Ad Ae Af Ag Ah Ai Aj Ak Al Am An Ao Ap Aq Ar As At Au Av Aw Ax Ay Az B1 B3 B4 B5 B7 B8 B9 Ba Bb Bc Be Bf Bg Bh Bi Bj Bk Bl Bm Bn Bo Bp Bq Br Bs Bt Bu Bv Bw Bx By Bz C0 C1 C3 C4 C5 C6 C7 C8 C9 Ca Cb Cc Cd Ce Cf Cg Ch Ci Cj Ck Cl Cm Cn Co Cp Cq Cr Cs Ct Cu Cv Cw Cx Cy Cz D0 D1 D2 D3 D4 D5 D6 D7 D8 D9 Da Db Dc Dd De Df Dg Dh Di Dj Dk Dl Dm Dn Do Dp Dq Dr Ds Dt Du Dv Dw Dx Dy Dz E0 E3 E4 E5 E6 E7 E8 E9 Ea Eb Ec Ed Ee Ef Eg Eh Ei Ej Ek El Em En Eo Ep Eq Er Es Et Eu Ev Ew Ex Ey Ez F0 F1 F2 F3 F4 F5 F6 F7 F8 F9 Fa Fb Fc Fd Fe Ff Fg Fh Fi Fj Fk Fl Fm Fn Fo Fp Fq Fr Fs Ft Fu Fv Fw Fx Fy Fz G0 G1 G2 G3 G4 G5 G6 G7 : Value} (K : Act → World → Prop) (Q : Exit → Act → World → Prop)
  (hn4 : nn ≤ 4) (hS : wm.heap[g4]? = some (.cells #[.string ⟨#[]⟩, pv, .slice none 0 0, .string ⟨#[]⟩] 25 (0, 0)))
  (hQ : ∀ c (t : Array Value) (a : Act) w, Q (.panic c) ⟨t, a.defers⟩ w → Q (.panic c) a w)
  (hK : ∀ (x6 Rc Rm Rn Ro Rx S8 Sj Sv T6 Th Ts U3 Ue : Value) (wx : World) (qv : Value), wx.heap[g4]? = some (.cells #[.string ⟨#[]⟩, pv, qv, .string ⟨#[]⟩] 25 (0, 0)) → vS wm.heap.size wx qv (Sp.yK nn) → Kp (fun b => b ≠ g4) wm wx → K ⟨#[A0,.pointer (some ⟨B0,0,none⟩),A2,.int .i64 (nn : Int),.pointer (some ⟨g4,0,none⟩),.slice (some ⟨g5,0,none⟩) nn nn,x6,A7,A8,A9,Aa,Ab,Ac,Ad,Ae,Af,Ag,Ah,Ai,Aj,Ak,Al,Am,An,Rc,Rm,Rn,Ro,Rx,S8,Sj,Sv,T6,Th,Ts,U3,Ue,B3,B4,B5,B7,B8,B9,Ba,Bb,Bc,Be,Bf,Bg,Bh,Bi,Bj,Bk,Bl,Bm,Bn,Bo,Bp,Bq,Br,Bs,Bt,Bu,Bv,Bw,Bx,By,Bz,C0,C1,C3,C4,C5,C6,C7,C8,C9,Ca,Cb,Cc,Cd,Ce,Cf,Cg,Ch,Ci,Cj,Ck,Cl,Cm,Cn,Co,Cp,Cq,Cr,Cs,Ct,Cu,Cv,Cw,Cx,Cy,Cz,D0,D1,D2,D3,D4,D5,D6,D7,D8,D9,Da,Db,Dc,Dd,De,Df,Dg,Dh,Di,Dj,Dk,Dl,Dm,Dn,Do,Dp,Dq,Dr,Ds,Dt,Du,Dv,Dw,Dx,Dy,Dz,E0,E3,E4,E5,E6,E7,E8,E9,Ea,Eb,Ec,Ed,Ee,Ef,Eg,Eh,Ei,Ej,Ek,El,Em,En,Eo,Ep,Eq,Er,Es,Et,Eu,Ev,Ew,Ex,Ey,Ez,F0,F1,F2,F3,F4,F5,F6,F7,F8,F9,Fa,Fb,Fc,Fd,Fe,Ff,Fg,Fh,Fi,Fj,Fk,Fl,Fm,Fn,Fo,Fp,Fq,Fr,Fs,Ft,Fu,Fv,Fw,Fx,Fy,Fz,G0,G1,G2,G3,G4,G5,G6,G7], []⟩ wx) :
  Code.wp Tryz.prog (madeBlk 0) (Exit.then K Q) ⟨#[A0,.pointer (some ⟨B0,0,none⟩),A2,.int .i64 (nn : Int),.pointer (some ⟨g4,0,none⟩),.slice (some ⟨g5,0,none⟩) nn nn,.int .i64 0,A7,A8,A9,Aa,Ab,Ac,Ad,Ae,Af,Ag,Ah,Ai,Aj,Ak,Al,Am,An,Ao,Ap,Aq,Ar,As,At,Au,Av,Aw,Ax,Ay,Az,B1,B3,B4,B5,B7,B8,B9,Ba,Bb,Bc,Be,Bf,Bg,Bh,Bi,Bj,Bk,Bl,Bm,Bn,Bo,Bp,Bq,Br,Bs,Bt,Bu,Bv,Bw,Bx,By,Bz,C0,C1,C3,C4,C5,C6,C7,C8,C9,Ca,Cb,Cc,Cd,Ce,Cf,Cg,Ch,Ci,Cj,Ck,Cl,Cm,Cn,Co,Cp,Cq,Cr,Cs,Ct,Cu,Cv,Cw,Cx,Cy,Cz,D0,D1,D2,D3,D4,D5,D6,D7,D8,D9,Da,Db,Dc,Dd,De,Df,Dg,Dh,Di,Dj,Dk,Dl,Dm,Dn,Do,Dp,Dq,Dr,Ds,Dt,Du,Dv,Dw,Dx,Dy,Dz,E0,E3,E4,E5,E6,E7,E8,E9,Ea,Eb,Ec,Ed,Ee,Ef,Eg,Eh,Ei,Ej,Ek,El,Em,En,Eo,Ep,Eq,Er,Es,Et,Eu,Ev,Ew,Ex,Ey,Ez,F0,F1,F2,F3,F4,F5,F6,F7,F8,F9,Fa,Fb,Fc,Fd,Fe,Ff,Fg,Fh,Fi,Fj,Fk,Fl,Fm,Fn,Fo,Fp,Fq,Fr,Fs,Ft,Fu,Fv,Fw,Fx,Fy,Fz,G0,G1,G2,G3,G4,G5,G6,G7], []⟩ wm := by
 obtain ⟨ir0, hir0, hrz0, hrz1, hrz2⟩ := info_parts info_ruleE; have HS0 := zh hS; have HKK := zh hK; have hM : ∀ a w, Met K a w → K a w := fun _ _ h => h
 have hg4 := zC hS; clear hS hK; conv => arg 2; whnf
 go_wp2_with fail; go_loopg [6] nn (fun g iv wr => ∃ (k : Nat) (qv : Value), k ≤ nn ∧ g = nn - k ∧ iv = .int .i64 k ∧ wr.heap[g4]? = some (.cells #[.string ⟨#[]⟩, pv, qv, .string ⟨#[]⟩] 25 (0, 0)) ∧ vS wm.heap.size wr qv (Sp.yK k) ∧ Kp (fun b => b ≠ g4) wm wr)
 case atStart => exact ⟨0, .slice none 0 0, Nat.zero_le _, rfl, rfl, HS0.out, OwnD.nil _ _ _ _ _ _, Kp.refl _ _⟩
 case round =>
  obtain ⟨k, qv, hk, rfl, rfl, hS, ⟨f, h1, h2, h3⟩, hkp⟩ := hrel; have hsl : (Sp.yK k).length = k := by unfold Sp.yK; simp
  rw [hsl] at h1 h3; obtain ⟨va, vc, rfl⟩ := zJ h1; have HS := zh hS; have HO := zh h1; have HC := zh h2; have HD := zh h3; have HKP := zh hkp; have HSL := zh hsl; have e0 := zc 2 hS; have e1 := zf 2 hS; have hlg := zC hS; have hszr : wm.heap.size ≤ wr.heap.size := hkp.size; have hk0 : (0 : Int) ≤ (k : Int) := Int.natCast_nonneg _; clear hS h1 h2 h3 hkp hsl; by_cases hkn : k < nn
  ·have hk1 : (k : Int) < (nn : Int) := by omega
   have HNO := zh (fun w => made_non (k : Int) w (by omega) (by omega)); have HKS := zh (fun (w' : World) (h : Below wr.heap.size wr w') => (show (w'.cell? ⟨g4, 2, none⟩ = some (.slice va k vc) ∧ w'.frozen? ⟨g4, 2, none⟩ = false) from ⟨zc 2 ((h.block g4 hlg).trans HS.out), zf 2 ((h.block g4 hlg).trans HS.out)⟩)); have HOW := zh (fun (w' : World) (h : Below wr.heap.size wr w') => zL HO.out h); clear e0 e1; go_upto_region 7 with fail
   refine zF (fun w' : World => (w'.cell? ⟨g4, 2, none⟩ = some (.slice va k vc) ∧ w'.frozen? ⟨g4, 2, none⟩ = false)) [8] (.take 0 (.take 1 (.take 2 (.one 3 (.take 4 (.one 5 (.one 6 (.one 7 (.one 8 (.done)))))))))) (by kernel_rfl) (by kernel_rfl) (fun c t a w h => hQ c t a w h) ?_; have hSw := HKS.out _ (below_drewN (Below.refl _ _) 1); iterate 3 (refine zN (v := ?_) rfl hSw (by rfl) ?_ ?_; rotate_left 1; (focus (intro w hSx; (try dsimp only at hSx); go_simp; try rfl)); (try simp only [Act.put, zq0, zq1, zq2]))
   refine zB rfl (by rfl) (fun K' hK => ?_)
   (go_simp; go_at_call 23; refine (HNO.out _).mono ?_; rintro e w' ⟨rfl, hb'⟩; have hlw : wr.heap.size ≤ w'.heap.size := hb'.size)
   refine hK _ _ (.inr (HKS.out _ (zI hb'))) ?_; clear hK K' hSw; have hSw := HKS.out _ (zI hb'); (try simp only [Act.put, zq0, zq1, zq2])
   (refine zN (v := ?_) rfl hSw (by rfl) ?_ ?_; rotate_left 1; (focus (intro w hSx; (try dsimp only at hSx); go_simp; try rfl)); (try simp only [Act.put, zq0, zq1, zq2]))
   refine zB rfl (by rfl) (fun K' hK => ?_); go_simp; refine hK _ _ (.inr (HKS.out _ ((zI hb').alloc hlw _))) ?_; clear hK K' hSw; (try simp only [Act.put, zq0, zq1, zq2]); refine zB rfl (by rfl) (fun K' hK => ?_)
   (refine wp_append_lies _ _ _ _ (by rfl) wm.heap.size 63 ir0 _ 3 48 Tryz.underlying23 hir0 hrz0 hrz1 hrz2 rfl (by omega) _ _ _ (by rfl) ((HOW.out w' (zI hb')).alloc _) ⟨w'.heap.size, 0, none⟩ 1 1 (qT (.slice none 0 0) ⟨Sp.nonN (k : Int), [], 0⟩) (by rfl) (by rfl) (World.news_of_block (cs := (qT (.slice none 0 0) ⟨Sp.nonN (k : Int), [], 0⟩).toArray) (t := 63) (fr := (0, 0)) (heap_alloc_new w' _)) (by simp [Value.oneCell', qT]) (by omega) (by unfold maxLen; omega) (by omega) (by simp only [World.size_alloc]; omega) (w'.heap.size + 1) (by simp) ?_; intro gg cap2 w5 hown1 hgrow hat hlt; have hB5 : Below wm.heap.size wr w5 := (((zI hb').mono hszr).alloc (by omega) _).grown hgrow (by simp only [World.size_alloc]; omega) (fun g' hg' => (HO.out.lt g' hg').1); have hS5 := (hB5.block g4 hg4).trans HS.out; have v0 := zc 2 hS5; have v1 := zf 2 hS5; have hlg5 := zC hS5)
   refine hK _ _ (.inr (⟨v0, v1⟩)) ?_; clear hK K'; (try simp only [Act.put, zq0, zq1, zq2]); refine zB rfl (by rfl) (fun K' hK => ?_); go_simp; refine hK _ _ (.inr (⟨v0, v1⟩)) ?_; clear hK K'; (try simp only [Act.put, zq0, zq1, zq2]); refine zB rfl (by rfl) (fun K' hK => ?_); go_simp; refine hK _ _ (.inl rfl) ?_; clear hK K'; (try simp only [Act.put, zq0, zq1, zq2]); refine zH ?_; have HB5 := zh hB5; have HG := zh hgrow; have HS5 := zh hS5; have HO1 := zh hown1; have HBW := zh (((zI hb').alloc hlw _ : Below wr.heap.size wr (w'.alloc (.cells (qT (.slice none 0 0) ⟨Sp.nonN (k : Int), [], 0⟩).toArray 63)))); clear hB5 hgrow hS5 hown1 hat hb'; go_wp2_with fail; go_roundg (nn - (k + 1))
   case measure => omega
   case rel =>
    have hkr : KpT (· ≠ 63) wr w5 := (KpT.below HBW.out).trans (KpT.grown (HOW.out _ HBW.out) HG.out); have hset : KpT (· ≠ 25) w5 (w5.setCell ⟨g4, 2, none⟩ (.slice (some ⟨gg, 0, none⟩) (k + 1) cap2)) := KpT.setCell (fun _ _ _ _ h _ => h) HS5.out (by simp) _; refine ⟨k + 1, _, by omega, rfl, by go_num, zA HS5.out, ?_, (kp_below HKP.out HB5.out).setCell (p := ⟨g4, 2, none⟩) (by simp) _⟩
    ·rw [show Sp.yK (k + 1) = Sp.yK k ++ [⟨Sp.nonN (k : Int), [], 0⟩] by unfold Sp.yK; rw [List.range_succ, List.map_append]; rfl]
     refine OwnD.snoc (u := .slice none 0 0) (by rw [HSL.out]; exact HD.out) HC.out (by rw [HSL.out]; exact zR HO1.out HS5.out (by decide) _) (fun u a h => j8 hset (by decide) (by decide) (j8 hkr (by decide) (by decide) h)) (OwnR.nil _ _ _ _ _ _) (fun i c hi hc e => by simp [Value.ownBlock] at e)
  ·obtain rfl : k = nn := by omega
   go_wp2_with fail; exact (HKK.out _ _ _ _ _ _ _ _ _ _ _ _ _ _ _ (.slice va k vc) HS.out ⟨f, by rw [HSL.out]; exact HO.out, HC.out, by rw [HSL.out]; exact HD.out⟩ HKP.out : K _ _)
set_option maxRecDepth 100000 in
set_option maxHeartbeats 12800000 in
theorem made_fill (wm : World) (B0 g4 g5 gr nn vc B Bd : Nat) (pv : Value) (DL : List Sp.Decl) (RL : List Sp.Rule) (has : List Bool) (bare : Bool)
  {A0 A2 A6 A7 A8 A9 Aa Ab Ac Ae Af Ag Ah Ai Aj Ak Al Am An Ao Ap Aq Ar As At Au Av Aw Ax Ay Az B1 B3 B4 B5 B7 B8 B9 Ba Bb Bc Be Bf Bg Bh Bi Bj Bk Bl Bm Bn Bo Bp Bq Br Bs Bt Bu Bv Bw Bx By Bz C0 C1 C3 C4 C5 C6 C7 C8 C9 Ca Cb Cc Cd Ce Cf Cg Ch Ci Cj Ck Cl Cm Cn Co Cp Cq Cr Cs Ct Cu Cv Cw Cx Cy Cz D0 D1 D2 D3 D4 D5 D6 D7 D8 D9 Da Db Dc Dd De Df Dg Dh Di Dj Dk Dl Dm Dn Do Dp Dq Dr Ds Dt Du Dv Dw Dx Dy Dz E0 E3 E4 E5 E6 E7 E8 E9 Ea Eb Ec Ed Ee Ef Eg Eh Ei Ej Ek El Em En Eo Ep Eq Er Es Et Eu Ev Ew Ex Ey Ez F0 F1 F2 F3 F4 F5 F6 F7 F8 F9 Fa Fb Fc Fd Fe Ff Fg Fh Fi Fj Fk Fl Fm Fn Fo Fp Fq Fr Fs Ft Fu Fv Fw Fx Fy Fz G0 G1 G2 G3 G4 G5 G6 G7 : Value} (K : Act → World → Prop) (Q : Exit → Act → World → Prop)
  (hn4 : nn ≤ 4) (hS : wm.heap[g4]? = some (.cells #[.string ⟨#[]⟩, pv, (.slice (some ⟨gr, 0, none⟩) nn vc), .string ⟨#[]⟩] 25 (0, 0))) (hdd : vL Bd wm pv DL) (hr : vS B wm (.slice (some ⟨gr, 0, none⟩) nn vc) RL) (hrl : RL.length = nn) (hhl : has.length = nn) (hsm : ∀ r ∈ RL, r.alts.length ≤ 1000)
  (hH : wm.heap[g5]? = some (.cells (has.map Value.bool).toArray 4 (0, 0))) (hg4B : g4 < B) (hg5B : g5 < B) (hB0 : B0 < B) (hBm : B ≤ wm.heap.size)
  (hx : ∀ w', Below B wm w' → w'.cell? ⟨B0, 4, none⟩ = some (.bool bare))
  (hQ : ∀ c (t : Array Value) (a : Act) w, Q (.panic c) ⟨t, a.defers⟩ w → Q (.panic c) a w)
  (hK : ∀ (Nq P6 P7 P8 P9 Pa Pb Pc Pe Pf Pg Ph Pi Pj Pk Pm Pn Po Pq Pr Ps Pt Pu Pv Pw Px Py Pz Q1 Q2 Q3 Q4 Q5 Q6 Q7 Q8 Q9 Qa Qc Qd Qe Qf Qg Qh : Value) (wx : World) , wx.heap[g4]? = some (.cells #[.string ⟨#[]⟩, pv, (.slice (some ⟨gr, 0, none⟩) nn vc), .string ⟨#[]⟩] 25 (0, 0)) → vL Bd wx pv DL → vS B wx (.slice (some ⟨gr, 0, none⟩) nn vc) (Sp.jM bare 0 RL has) → Below B wm wx → K ⟨#[A0,.pointer (some ⟨B0,0,none⟩),A2,.int .i64 (nn : Int),.pointer (some ⟨g4,0,none⟩),.slice (some ⟨g5,0,none⟩) nn nn,A6,A7,A8,A9,Aa,Ab,Ac,Nq,Ae,Af,Ag,Ah,Ai,Aj,Ak,Al,Am,An,Ao,Ap,Aq,Ar,As,At,Au,Av,Aw,Ax,Ay,Az,B1,B3,B4,B5,B7,B8,B9,Ba,Bb,Bc,Be,Bf,Bg,Bh,Bi,Bj,Bk,Bl,Bm,Bn,Bo,Bp,Bq,Br,Bs,Bt,Bu,Bv,Bw,Bx,By,Bz,C0,C1,C3,C4,C5,C6,C7,C8,C9,Ca,Cb,Cc,Cd,Ce,Cf,Cg,Ch,Ci,Cj,Ck,Cl,Cm,Cn,Co,Cp,Cq,Cr,Cs,Ct,Cu,Cv,Cw,Cx,Cy,Cz,D0,D1,D2,D3,D4,D5,D6,D7,D8,D9,Da,Db,Dc,Dd,De,Df,Dg,Dh,Di,Dj,Dk,Dl,Dm,Dn,Do,Dp,Dq,Dr,Ds,Dt,Du,Dv,Dw,Dx,Dy,Dz,E0,E3,E4,E5,E6,E7,E8,E9,Ea,Eb,Ec,Ed,Ee,Ef,Eg,Eh,Ei,Ej,Ek,El,Em,En,Eo,Ep,Eq,Er,Es,Et,Eu,Ev,Ew,Ex,Ey,Ez,P6,P7,P8,P9,Pa,Pb,Pc,Pe,Pf,Pg,Ph,Pi,Pj,Pk,Pm,Pn,Po,Pq,Pr,Ps,Pt,Pu,Pv,Pw,Px,Py,Pz,Q1,Q2,Q3,Q4,Q5,Q6,Q7,Q8,Q9,Qa,Qc,Qd,Qe,Qf,Qg,Qh,G7], []⟩ wx) :
  Code.wp Tryz.prog (madeBlk 6) (Exit.then K Q) ⟨#[A0,.pointer (some ⟨B0,0,none⟩),A2,.int .i64 (nn : Int),.pointer (some ⟨g4,0,none⟩),.slice (some ⟨g5,0,none⟩) nn nn,A6,A7,A8,A9,Aa,Ab,Ac,.int .i64 0,Ae,Af,Ag,Ah,Ai,Aj,Ak,Al,Am,An,Ao,Ap,Aq,Ar,As,At,Au,Av,Aw,Ax,Ay,Az,B1,B3,B4,B5,B7,B8,B9,Ba,Bb,Bc,Be,Bf,Bg,Bh,Bi,Bj,Bk,Bl,Bm,Bn,Bo,Bp,Bq,Br,Bs,Bt,Bu,Bv,Bw,Bx,By,Bz,C0,C1,C3,C4,C5,C6,C7,C8,C9,Ca,Cb,Cc,Cd,Ce,Cf,Cg,Ch,Ci,Cj,Ck,Cl,Cm,Cn,Co,Cp,Cq,Cr,Cs,Ct,Cu,Cv,Cw,Cx,Cy,Cz,D0,D1,D2,D3,D4,D5,D6,D7,D8,D9,Da,Db,Dc,Dd,De,Df,Dg,Dh,Di,Dj,Dk,Dl,Dm,Dn,Do,Dp,Dq,Dr,Ds,Dt,Du,Dv,Dw,Dx,Dy,Dz,E0,E3,E4,E5,E6,E7,E8,E9,Ea,Eb,Ec,Ed,Ee,Ef,Eg,Eh,Ei,Ej,Ek,El,Em,En,Eo,Ep,Eq,Er,Es,Et,Eu,Ev,Ew,Ex,Ey,Ez,F0,F1,F2,F3,F4,F5,F6,F7,F8,F9,Fa,Fb,Fc,Fd,Fe,Ff,Fg,Fh,Fi,Fj,Fk,Fl,Fm,Fn,Fo,Fp,Fq,Fr,Fs,Ft,Fu,Fv,Fw,Fx,Fy,Fz,G0,G1,G2,G3,G4,G5,G6,G7], []⟩ wm := by
 obtain ⟨ia0, hia0, haz0, haz1, haz2⟩ := info_parts zDP; generalize hF : Sp.jM bare 0 RL has = F at *
 have HS0 := zh hS; have HDD0 := zh hdd; have HR0 := zh hr; have HH := zh hH; have HX := zh hx; have HF := zh hF; have HSM := zh hsm; have HRL := zh hrl; have HHL := zh hhl; have HKK := zh hK; have hM : ∀ a w, Met K a w → K a w := fun _ _ h => h
 clear hS hK hdd hr hH hx hF hsm hrl hhl; conv => arg 2; whnf
 go_wp2_with fail; go_loopg [13] nn (fun g iv wr => ∃ (k : Nat) (RC : List Sp.Rule), k ≤ nn ∧ g = nn - k ∧ iv = .int .i64 k ∧ wr.heap[g4]? = some (.cells #[.string ⟨#[]⟩, pv, (.slice (some ⟨gr, 0, none⟩) nn vc), .string ⟨#[]⟩] 25 (0, 0)) ∧ vL Bd wr pv DL ∧ vS B wr (.slice (some ⟨gr, 0, none⟩) nn vc) RC ∧ RC.length = nn ∧ (∀ i, k ≤ i → RC[i]? = RL[i]?) ∧ RC.take k ++ Sp.jM bare k (RL.drop k) (has.drop k) = F ∧ Below B wm wr)
 case atStart => exact ⟨0, RL, Nat.zero_le _, rfl, rfl, HS0.out, HDD0.out, HR0.out, HRL.out, fun _ _ => rfl, by rw [List.take_zero, List.nil_append, List.drop_zero, List.drop_zero]; exact HF.out, Below.refl _ _⟩
 case round =>
  obtain ⟨k, RC, hk, rfl, rfl, hS, hdd, ⟨f, h1, h2, h3⟩, hlen, hsame, hF, hbel⟩ := hrel; rw [hlen] at h1; have HS := zh hS; have HO := zh h1; have HC := zh h2; have HD := zh h3; have HB := zh hbel; have HDD := zh hdd; have HLEN := zh hlen; have HSAME := zh hsame; have HF2 := zh hF; have e0 := zc 2 hS; have hlg := zC hS; have hszr : wm.heap.size ≤ wr.heap.size := hbel.size; have hk0 : (0 : Int) ≤ (k : Int) := Int.natCast_nonneg _; have x4 := HX.out _ hbel; have hh5 := (hbel.block g5 hg5B).trans HH.out; have hlr : gr < wr.heap.size := (h1.lt gr rfl).2; have hlg5 := zC hh5; have hlB0 : B0 < wr.heap.size := by omega
  have HH5 := zh hh5; clear hS h1 h2 h3 hbel hdd hlen hsame hF hh5; by_cases hkn : k < nn
  ·have hk1 : (k : Int) < (nn : Int) := by omega
   have hkl : k < RL.length := by have := HRL.out; omega
   have hrk : RC[k]? = some RL[k] := by rw [HSAME.out k (Nat.le_refl _)]; exact List.getElem?_eq_getElem hkl
   have hkh : k < has.length := by have := HHL.out; omega
   have hhk : has[k]? = some has[k] := List.getElem?_eq_getElem hkh; have hd1 : RL.drop k = RL[k] :: RL.drop (k + 1) := List.drop_eq_getElem_cons hkl; have hd2 : has.drop k = has[k] :: has.drop (k + 1) := List.drop_eq_getElem_cons hkh; have hsmk := HSM.out _ (List.getElem_mem hkl); have hF := HF2.out; rw [hd1, hd2] at hF; unfold Sp.jM at hF; simp only [List.headD_cons, List.tail_cons] at hF; generalize RL[k] = r at *
   generalize has[k] = hb at *
   have c5 : wr.cell? ⟨g5, k, none⟩ = some (.bool hb) := by
    have := HH5.out; simp only [World.cell?, this, bind, Option.bind]; simp [hhk]
   obtain ⟨f', ha1, ha2⟩ := HC.out k r hrk; obtain ⟨ua, uc, hfm⟩ := zJ ha1; have HFM := zh hfm; have HA1 := zh ha1; have HA2 := zh ha2; have HRK := zh hrk; have hc1 := zBQ HO.out hrk hkn; rw [hfm] at hc1 ha1; obtain ⟨c1, c2⟩ := hc1; have HCC := zh (And.intro c1 c2); generalize hus : r.alts.length = us at *
   have HUS := zh hus; have HF3 := zh hF; have hli := fun w => made_lit (k : Int) w (by omega) (by omega)
   generalize Sp.litS (k : Int) = LS at *
   obtain ⟨sn, sl, su, sa⟩ := LS; have HLI := zh (fun w => (show Calls Tryz.prog 25 #[.int .i64 (k : Int)] w (fun e w' => e = .returned (.agg #[.string ⟨sn.toArray⟩, .bool sl, .int .i64 su, .int .i64 sa]) ∧ Below w.heap.size w w') from hli w)); have HKS := zh (fun (w' : World) (h : Below wr.heap.size wr w') => (show (w'.cell? ⟨g4, 2, none⟩ = some (.slice (some ⟨gr, 0, none⟩) nn vc) ∧ w'.cell? ⟨gr, k * 3 + 1, none⟩ = some (.slice ua us uc) ∧ w'.frozen? ⟨gr, k * 3 + 1, none⟩ = false) from ⟨zc 2 ((h.block g4 hlg).trans HS.out), by rw [h.cell (p := ⟨gr, _, none⟩) hlr]; exact HCC.out.1, by rw [World.frozen?_of_block (h.block gr hlr)]; exact HCC.out.2⟩)); have HOW := zh (fun (w' : World) (h : Below wr.heap.size wr w') => zL ha1 h); clear hd1 hd2 hhk hkh hkl hli hF ha1 ha2 hfm hrk hus c2; go_upto_region 30 with fail
   go_cut [197] from 173 to 215 (fun v197 wx => v197 = .bool (decide (us = 0) || (!hb && !bare)) ∧ wr = wx)
   case first =>
    by_cases hus : us = 0
    ·subst hus
     go_wp2_with fail; go_meet; exact ⟨rfl, rfl⟩
    ·have hud : decide (us = 0) = false := by rw [decide_eq_false_iff_not]; exact hus
     have hui : ¬ (us : Int) = 0 := by omega
     have hub : (us == 0) = false := by rw [beq_eq_false_iff_ne]; exact hus
     have huib : ((us : Int) == 0) = false := by rw [beq_eq_false_iff_ne]; exact hui
     cases hb with
     | true =>
      go_wp2_with fail; go_meet; exact ⟨by rw [hud]; rfl, rfl⟩
     | false =>
      cases bare with
      | true =>
       go_wp2_with fail; go_meet; exact ⟨by rw [hud]; rfl, rfl⟩
      | false =>
       go_wp2_with fail; go_meet; exact ⟨by rw [hud]; rfl, rfl⟩
   case rest =>
    obtain ⟨rfl, rfl⟩ := hcut
    cases hcv : (decide (us = 0) || (!hb && !bare)) with
    | false =>
     go_wp2_with fail; go_roundg (nn - (k + 1))
     case measure => omega
     case rel =>
      refine ⟨k + 1, RC, by omega, rfl, by go_num, HS.out, HDD.out, ⟨f, by rw [HLEN.out]; exact HO.out, HC.out, HD.out⟩, HLEN.out, fun i hi => HSAME.out i (by omega), ?_, HB.out⟩; have h := HF3.out
      have hng : ¬ (us = 0 ∨ hb = false ∧ bare = false) := by
       rw [Bool.or_eq_false_iff, decide_eq_false_iff_not] at hcv; rintro (h1 | ⟨h1, h2⟩)
       ·exact hcv.1 h1
       ·have := hcv.2
        rw [h1, h2] at this; cases this
      have h0 : RC.take k ++ (if us = 0 ∨ hb = false ∧ bare = false then ⟨r.left, r.alts ++ [⟨[⟨⟨sn, sl, su, sa⟩, [], 0⟩], Sp.xC, 0⟩], r.at_⟩ else r) :: Sp.jM bare (k + 1) (RL.drop (k + 1)) (has.drop (k + 1)) = F := HF3.out; have h := h0; rw [if_neg hng] at h; rw [List.take_add_one, HRK.out, ← h]; simp
    | true =>
     go_upto_region 31 with fail
     refine zF (fun w' : World => (w'.cell? ⟨g4, 2, none⟩ = some (.slice (some ⟨gr, 0, none⟩) nn vc) ∧ w'.cell? ⟨gr, k * 3 + 1, none⟩ = some (.slice ua us uc) ∧ w'.frozen? ⟨gr, k * 3 + 1, none⟩ = false)) [18] (.take 0 (.take 1 (.take 2 (.take 3 (.take 4 (.take 5 (.take 6 (.take 7 (.take 8 (.take 9 (.one 10 (.take 11 (.one 12 (.take 13 (.one 14 (.one 15 (.one 16 (.one 17 (.one 18 (.done)))))))))))))))))))) (by kernel_rfl) (by kernel_rfl) (fun c t a w h => hQ c t a w h) ?_; have hSw := HKS.out _ (below_drewN (Below.refl _ _) 1); iterate 10 (refine zN (v := ?_) rfl hSw (by rfl) ?_ ?_; rotate_left 1; (focus (intro w hSx; (try dsimp only at hSx); go_simp; try rfl)); (try simp only [Act.put, zq0, zq1, zq2]))
     refine zB rfl (by rfl) (fun K' hK => ?_)
     (go_simp; go_at_call 25; refine (HLI.out _).mono ?_; rintro e w' ⟨rfl, hb'⟩; have hlw : wr.heap.size ≤ w'.heap.size := hb'.size; have hb2 : Below wr.heap.size wr w' := zI hb'; clear hb')
     refine hK _ _ (.inr (HKS.out _ hb2)) ?_; clear hK K' hSw; have hSw := HKS.out _ hb2; (try simp only [Act.put, zq0, zq1, zq2])
     (refine zN (v := ?_) rfl hSw (by rfl) ?_ ?_; rotate_left 1; (focus (intro w hSx; (try dsimp only at hSx); go_simp; try rfl)); (try simp only [Act.put, zq0, zq1, zq2]))
     refine zB rfl (by rfl) (fun K' hK => ?_); go_simp; refine hK _ _ (.inr (HKS.out _ (hb2.alloc hlw (.cells (z6 ⟨⟨sn, sl, su, sa⟩, [], 0⟩).toArray 47)))) ?_; clear hK K' hSw; have hSw := HKS.out _ (hb2.alloc hlw (.cells (z6 ⟨⟨sn, sl, su, sa⟩, [], 0⟩).toArray 47)); (try simp only [Act.put, zq0, zq1, zq2])
     (refine zN (v := ?_) rfl hSw (by rfl) ?_ ?_; rotate_left 1; (focus (intro w hSx; (try dsimp only at hSx); go_simp; try rfl)); (try simp only [Act.put, zq0, zq1, zq2]))
     refine zB rfl (by rfl) (fun K' hK => ?_); go_simp; refine hK _ _ (.inr (HKS.out _ ((hb2.alloc hlw _).alloc (by simp only [World.size_alloc]; omega) _))) ?_; clear hK K' hSw; (try simp only [Act.put, zq0, zq1, zq2]); refine zB rfl (by rfl) (fun K' hK => ?_)
     (refine wp_append_lies _ _ _ _ (by rfl) B 60 ia0 _ 6 72 Tryz.underlying61 hia0 haz0 haz1 haz2 rfl (by omega) _ _ _ (by rfl) (((HOW.out w' hb2).alloc _).alloc _) ⟨w'.heap.size + 1, 0, none⟩ 1 1 (altC (.slice (some ⟨w'.heap.size, 0, none⟩) 1 1) ⟨[⟨⟨sn, sl, su, sa⟩, [], 0⟩], Sp.xC, 0⟩) (by rfl) (by rfl) (World.news_of_block (cs := (altC (.slice (some ⟨w'.heap.size, 0, none⟩) 1 1) ⟨[⟨⟨sn, sl, su, sa⟩, [], 0⟩], Sp.xC, 0⟩).toArray) (t := 60) (fr := (0, 0)) (xJ w' _ _)) (by simp [Value.oneCell', altC, symC, Sp.xC]) (by omega) (by unfold maxLen; omega) (by omega) (by simp only [World.size_alloc]; omega) (w'.heap.size + 2) (by simp) ?_; intro gg cap2 w5 hown1 hgrow hat hlt; have hk5 : KpT (· ≠ 60) wr w5 := (KpT.below (((hb2.alloc hlw _).alloc (by simp only [World.size_alloc]; omega) _))).trans (KpT.grown (((HOW.out w' hb2).alloc _).alloc _) hgrow); have hS5 := hk5 g4 _ _ _ HS.out (by decide); have v0 := zc 2 hS5; have hr5 := zD HO.out hk5 (by decide); have v1 := zBQ hr5 HRK.out (by omega); rw [HFM.out] at v1; have hlr5 : gr < w5.heap.size := (hr5.lt gr rfl).2; have hlg5 := zC hS5)
     refine hK _ _ (.inr (⟨v0, v1⟩)) ?_; clear hK K'; (try simp only [Act.put, zq0, zq1, zq2]); iterate 2 (refine zB rfl (by rfl) (fun K' hK => ?_); go_simp; refine hK _ _ (.inr (⟨v0, v1⟩)) ?_; clear hK K'; (try simp only [Act.put, zq0, zq1, zq2]))
     refine zB rfl (by rfl) (fun K' hK => ?_); go_simp; refine hK _ _ (.inl rfl) ?_; clear hK K'; (try simp only [Act.put, zq0, zq1, zq2]); refine zH ?_; have HG := zh hgrow; have HAT := zh hat; have HO1 := zh hown1; have HK5 := zh hk5; have HR5 := zh hr5; have HS5 := zh hS5; have HBW := zh ((hb2.alloc hlw (.cells (z6 ⟨⟨sn, sl, su, sa⟩, [], 0⟩).toArray 47)).alloc (by simp only [World.size_alloc]; omega) (.cells (altC (.slice (some ⟨w'.heap.size, 0, none⟩) 1 1) ⟨[⟨⟨sn, sl, su, sa⟩, [], 0⟩], Sp.xC, 0⟩).toArray 60) : Below wr.heap.size wr ((w'.alloc (.cells (z6 ⟨⟨sn, sl, su, sa⟩, [], 0⟩).toArray 47)).alloc (.cells (altC (.slice (some ⟨w'.heap.size, 0, none⟩) 1 1) ⟨[⟨⟨sn, sl, su, sa⟩, [], 0⟩], Sp.xC, 0⟩).toArray 60))); clear hgrow hat hown1 hb2 hk5 hr5 hS5 v0 v1; go_wp2_with fail; go_roundg (nn - (k + 1))
     case measure => omega
     case rel =>
      have hp : gZ ((w'.alloc (.cells (z6 ⟨⟨sn, sl, su, sa⟩, [], 0⟩).toArray 47)).alloc (.cells (altC (.slice (some ⟨w'.heap.size, 0, none⟩) 1 1) ⟨[⟨⟨sn, sl, su, sa⟩, [], 0⟩], Sp.xC, 0⟩).toArray 60)) (.slice (some ⟨w'.heap.size, 0, none⟩) 1 1) ⟨[⟨⟨sn, sl, su, sa⟩, [], 0⟩], Sp.xC, 0⟩ :=
       ⟨0, (World.ownsRow_lit (base := 0) (e := 47) (size := 6) w' (z6 ⟨⟨sn, sl, su, sa⟩, [], 0⟩).toArray 1 (Nat.zero_le _) (by decide) rfl).alloc _⟩
      have h := rulesD_add (k := k) (a := ⟨[⟨⟨sn, sl, su, sa⟩, [], 0⟩], Sp.xC, 0⟩) HO.out HLEN.out HC.out HD.out HRK.out (by rw [HUS.out]; exact HA1.out) HA2.out HBW.out hp (by rw [HFM.out]; exact HG.out) (by rw [HUS.out]; exact HO1.out) (by rw [HFM.out]; exact HAT.out) (by omega); rw [HUS.out] at h; obtain ⟨cu, hgb⟩ := row_block HR5.out; have hset : ∀ u, KpT (· ≠ 63) w5 (w5.setCell ⟨gr, k * 3 + 1, none⟩ u) := fun u => KpT.setCell (fun _ _ _ _ h _ => h) hgb (by simp) u
      have hng : us = 0 ∨ hb = false ∧ bare = false := by
       rw [Bool.or_eq_true, decide_eq_true_eq] at hcv; rcases hcv with h | h
       ·exact .inl h
       ·right
        cases hb <;> cases bare <;> simp at h ⊢
      have h0 : RC.take k ++ (if us = 0 ∨ hb = false ∧ bare = false then ⟨r.left, r.alts ++ [⟨[⟨⟨sn, sl, su, sa⟩, [], 0⟩], Sp.xC, 0⟩], r.at_⟩ else r) :: Sp.jM bare (k + 1) (RL.drop (k + 1)) (has.drop (k + 1)) = F := HF3.out; rw [if_pos hng] at h0; refine ⟨k + 1, _, by omega, rfl, by go_num, hset _ g4 _ _ _ HS5.out (by decide), vR (hset _) (by decide) (by decide) (h := ?dd), h, by rw [List.length_set]; exact HLEN.out, fun i hi => ?_, ?_, ?_⟩
      case dd => exact vR HDD.out HK5.out (by decide) (by decide)
      ·rw [List.getElem?_set_ne (by omega)]
       exact HSAME.out i (by omega)
      ·rw [← h0, List.take_add_one, List.take_set_of_le (Nat.le_refl _), List.getElem?_set_self (by have := HLEN.out; omega)]
       simp
      ·exact ((HB.out.trans (HBW.out.mono (by omega))).grown HG.out (by simp only [World.size_alloc]; omega) (fun g' hg' => ((HOW.out _ (Below.refl _ _)).lt g' hg').1)).setCell (p := ⟨gr, _, none⟩) (HO.out.lt gr rfl).1 _
  ·obtain rfl : k = nn := by omega
   have hFe : RC = F := by
    have h := HF2.out; rw [List.take_of_length_le (by rw [HLEN.out]; exact Nat.le_refl _), List.drop_eq_nil_of_le (by rw [HRL.out]; exact Nat.le_refl _)] at h; unfold Sp.jM at h; rw [List.append_nil] at h; exact h
   have HFE := zh hFe; clear hFe; go_wp2_with fail; exact (HKK.out _ _ _ _ _ _ _ _ _ _ _ _ _ _ _ _ _ _ _ _ _ _ _ _ _ _ _ _ _ _ _ _ _ _ _ _ _ _ _ _ _ _ _ _ _ HS.out HDD.out (by rw [← HFE.out]; exact ⟨f, by rw [HLEN.out]; exact HO.out, HC.out, HD.out⟩) HB.out : K _ _)
end Go.Proofs.YtddnomjfcbplpaaGreatDoor
