import Derived.Test.YtddnomjfcbplpaaGreatDoorZ32
namespace Go.Proofs.YtddnomjfcbplpaaGreatDoor
open Go.RowKit Go.Maps

def gR (S : Nat → Prop) (B m : Nat) (pv : Value) (W : World) (r' : Sp.Rk) (w' : World) : Prop := ∃ v', zY S B w' m r' v' ∧ RFr B W w' ∧ v'.pv = pv
set_option maxRecDepth 100000 in
set_option maxHeartbeats 6400000 in
theorem ref_put {S : Nat → Prop} {B N : Nat} {W : World} {m : Nat} {r : Sp.Rk} {v : RkV} (x : Sp.Sym) (h : zY S B W m r v) (hr : Sp.RB N r) (hN : N < 2 ^ 40) (hx1 : x.lit = true → ∃ c, x.name = [c]) :
  Calls Tryz.prog 51 #[.pointer (some ⟨m, 0, none⟩), symV x] W fun e w' => e = .returned (.int .i64 ((Sp.rput r x).2 : Int)) ∧ gR S B m v.pv W (Sp.rput r x).1 w' := by
 obtain ⟨nm, lt, nu, pa⟩ := x; show Calls _ _ #[_, .agg #[.string ⟨nm.toArray⟩, .bool lt, .int .i64 nu, .int .i64 pa]] _ _
 simp only at hx1; have HX1 := zh hx1; clear hx1; obtain ⟨w1, hw1⟩ : ∃ w1 : World, w1 = W.alloc (.cells #[.string ⟨nm.toArray⟩, .bool lt, .int .i64 nu, .int .i64 pa] 45) := ⟨_, rfl⟩
 have hbw : Below W.heap.size W w1 := by rw [hw1]; exact (Below.refl _ W).alloc (Nat.le_refl _) _
 have hx : w1.heap[W.heap.size]? = some (.cells #[.string ⟨nm.toArray⟩, .bool lt, .int .i64 nu, .int .i64 pa] 45 (0, 0)) := by rw [hw1]; exact zE W _
 have HBW := zh hbw; have HH := zh (h.below hbw); have HX := zh hx; have HRB := zh hr; have hB := h.size; have x0 := zc 0 hx; have x1 := zc 1 hx; have x2 := zc 2 hx; have x3 := zc 3 hx; have hlx := zC hx; clear h hr hbw hx; go_enter Tryz.func51, Tryz.ntmps51
 go_upto_region 1 with fail
 rw [← hw1]; clear hw1; go_wp2_with fail; refine (ref_tok ⟨nm, lt, nu, pa⟩ HH.out HRB.out (by omega)).mono ?_; rintro e w2 ⟨rfl, hb2⟩; have HX2 := zh ((hb2.block _ (zC HX.out)).trans HX.out); have HH2 := zh (HH.out.below hb2); have HB2 := zh (HBW.out.trans (hb2.mono HBW.out.size)); clear hb2 HX HH HBW x0 x1 x2 x3 hlx
 cases ho : Sp.rtok r.toks nm lt with
 | some t =>
  have ht0 : (0 : Int) ≤ (t : Int) := Int.natCast_nonneg _; dsimp only [ixI]; go_wp2_with fail; go_ret; have e : Sp.rput r ⟨nm, lt, nu, pa⟩ = (r, t) := by unfold Sp.rput; simp only [ho]
  rw [e]; exact ⟨zW rfl, v, HH2.out, RFr.below HB2.out hB, rfl⟩
 | none =>
  dsimp only [ixI]; obtain ⟨tn, htn⟩ : ∃ tn : Int, tn = if lt = true then Sp.byte0 nm else 0 := ⟨_, rfl⟩
  obtain ⟨F, hF⟩ : ∃ F, F = if lt = true ∧ (Sp.zAU r.toks tn).isSome = true then Sp.gN r.fault pa nm else r.fault := ⟨_, rfl⟩
  have hput : Sp.rput r ⟨nm, lt, nu, pa⟩ = (⟨r.toks ++ [⟨nm, lt, tn, 0, 0, []⟩], r.given ++ [lt], r.types, r.lefts, r.prods, F, r.level, r.inner⟩, r.toks.length) := by
   unfold Sp.rput; simp only [ho]; rw [hF, htn]
  have HPUT := zh hput; have HTN := zh htn; have HF := zh hF; clear hput htn hF ho; have y0 := zc 0 HX2.out; have y1 := zc 1 HX2.out; have y2 := zc 2 HX2.out; have y3 := zc 3 HX2.out; have ly := zC HX2.out; go_upto_if 19 with fail
  go_cut [] (fun wx => zY S B wx m ⟨r.toks, r.given, r.types, r.lefts, r.prods, F, r.level, r.inner⟩ v ∧ RFr B W wx ∧ w2.heap.size ≤ wx.heap.size ∧ wx.heap[W.heap.size]? = some (.cells #[.string ⟨nm.toArray⟩, .bool lt, .int .i64 nu, .int .i64 pa] 45 (0, 0)) ∧ wx.heap[w2.heap.size]? = some (.cells (tokC ⟨nm, lt, tn, 0, 0, []⟩).toArray 65 (0, 0)))
  case first =>
   cases lt with
   | false =>
    go_wp2_with fail; go_meet; have e1 : tn = 0 := HTN.out; have e2 : F = r.fault := by rw [HF.out]; rfl
    subst e1 e2; have hb3 : Below w2.heap.size w2 (w2.alloc (.cells (tokC ⟨nm, false, 0, 0, 0, []⟩).toArray 65)) := (Below.refl _ w2).alloc (Nat.le_refl _) _; exact ⟨HH2.out.below hb3, RFr.below (HB2.out.trans (hb3.mono HB2.out.size)) hB, hb3.size, (hb3.block _ (zC HX2.out)).trans HX2.out, zE w2 _⟩
   | true =>
    obtain ⟨c, rfl⟩ := HX1.out rfl; have e1 : tn = (c.toNat : Int) := HTN.out; subst e1; go_upto_region 7 with fail
    rw [byte_wrap]; obtain ⟨w3, hw3⟩ : ∃ w3 : World, w3 = w2.alloc (.cells #[.string ⟨#[c]⟩, .bool true, .int .i64 (c.toNat : Int), .int .i64 0, .int .i64 0, .string ⟨#[]⟩] 65) := ⟨_, rfl⟩
    rw [← hw3]; have hb3 : Below w2.heap.size w2 w3 := by rw [hw3]; exact (Below.refl _ w2).alloc (Nat.le_refl _) _
    have hk3 : w3.heap[w2.heap.size]? = some (.cells (tokC ⟨[c], true, (c.toNat : Int), 0, 0, []⟩).toArray 65 (0, 0)) := by rw [hw3]; exact zE w2 _
    have hx3 := (hb3.block _ (zC HX2.out)).trans HX2.out; have HB3 := zh hb3; have HK3 := zh hk3; have HX3 := zh hx3; have HH3 := zh (HH2.out.below hb3); have A2 := zc 2 hk3; have A0 := zc 0 hx3; have A3 := zc 3 hx3; have lk := zC hk3; have lx := zC hx3; simp only [tokC] at A2; clear hw3 hb3 hk3 hx3 y0 y1 y2 y3 ly; go_wp2_with fail; refine (ref_owner (c.toNat : Int) HH3.out HRB.out (by omega)).mono ?_; rintro e w' ⟨rfl, rfl⟩
    cases ho : Sp.zAU r.toks (c.toNat : Int) with
    | some k =>
     have e2 : F = Sp.gN r.fault pa [c] := by rw [HF.out, ho]; rfl
     subst e2; have hk0 : (0 : Int) ≤ (k : Int) := Int.natCast_nonneg _; dsimp only [ixI]; clear ho; go_wp2_with fail; refine (jU pa [c] HH3.out).mono ?_; rintro e w4 ⟨rfl, h4, hf4, hk4⟩; go_wp2_with fail; go_meet; exact ⟨h4, (RFr.below (HB2.out.trans (HB3.out.mono HB2.out.size)) hB).trans hf4, Nat.le_trans HB3.out.size hf4.size, hf4.at HX3.out (by unfold RT; decide), hk4 _ _ _ _ HK3.out (by decide)⟩
    | none =>
     have e2 : F = r.fault := by rw [HF.out, ho]; rfl
     subst e2; dsimp only [ixI]; clear ho; go_wp2_with fail; go_meet; exact ⟨HH3.out, RFr.below (HB2.out.trans (HB3.out.mono HB2.out.size)) hB, HB3.out.size, HX3.out, HK3.out⟩
  case rest =>
   obtain ⟨w3, hw3⟩ : ∃ w3 : World, w3 = wc := ⟨_, rfl⟩
   subst hw3; obtain ⟨h3, hf3, hs3, hx3, hk3⟩ := hcut; obtain ⟨n, hn⟩ : ∃ n, n = r.toks.length := ⟨_, rfl⟩
   have hsame := HRB.out.same; have hth := HRB.out.three; have hle := HRB.out.toks; rw [← hn] at hsame hth hle; have ht := h3.toks; have hb := h3.block; unfold yE at hb; simp only at ht hb; rw [← hn] at ht; obtain ⟨gt, ct, htv⟩ := yB ht (by omega); rw [htv] at ht hb; have hlm := zC hb; have hmt : ¬ m = gt := fun e => (zG ht hb (by decide) gt rfl) e.symm
   have hgt := (ht.lt gt rfl)
   generalize hg7 : w2.heap.size = g7 at *
   have hkt : ¬ g7 = gt := by
    have := (HH2.out.toks.lt gt (by rw [htv]; rfl)).2; omega
   have HSK := zh (fun (w' : World) (k : Kp (fun b => b ≠ gt) w3 w') => (show ((w'.cell? ⟨m, 0, none⟩ = some (.slice (some ⟨gt, 0, none⟩) n ct) ∧ w'.frozen? ⟨m, 0, none⟩ = false) ∧ (w'.cell? ⟨g7, 0, none⟩ = some (.string ⟨nm.toArray⟩) ∧ w'.cell? ⟨g7, 1, none⟩ = some (.bool lt) ∧ w'.cell? ⟨g7, 2, none⟩ = some (.int .i64 tn) ∧ w'.cell? ⟨g7, 3, none⟩ = some (.int .i64 0) ∧ w'.cell? ⟨g7, 4, none⟩ = some (.int .i64 0) ∧ w'.cell? ⟨g7, 5, none⟩ = some (.string ⟨#[]⟩)) ∧ m < w'.heap.size ∧ g7 < w'.heap.size) from by
    have k1 := (k.block m hlm hmt).trans hb; have k2 := (k.block g7 (zC hk3) hkt).trans hk3
    exact ⟨⟨zc 0 k1, zf 0 k1⟩, ⟨zc 0 k2, zc 1 k2, zc 2 k2, zc 3 k2, zc 4 k2, zc 5 k2⟩, zC k1, zC k2⟩))
   have HTR := zh ht; have HH3 := zh h3; have HF3 := zh hf3; have HX3 := zh hx3; have HN := zh hn; have HSA := zh hsame; have HTV := zh htv; obtain ⟨it0, hit0, htz0, htz1, htz2⟩ := info_parts info_tokE; obtain ⟨ib0, hib0, hbz0, hbz1, hbz2⟩ := info_parts zCC; have hBs : B ≤ w3.heap.size := by omega
   clear ht hb hk3 h3 hf3 hx3 hn hsame htv y0 y1 y2 y3 ly; go_upto_region 9 with fail
   refine zF (fun w' : World => ((w'.cell? ⟨m, 0, none⟩ = some (.slice (some ⟨gt, 0, none⟩) n ct) ∧ w'.frozen? ⟨m, 0, none⟩ = false) ∧ (w'.cell? ⟨g7, 0, none⟩ = some (.string ⟨nm.toArray⟩) ∧ w'.cell? ⟨g7, 1, none⟩ = some (.bool lt) ∧ w'.cell? ⟨g7, 2, none⟩ = some (.int .i64 tn) ∧ w'.cell? ⟨g7, 3, none⟩ = some (.int .i64 0) ∧ w'.cell? ⟨g7, 4, none⟩ = some (.int .i64 0) ∧ w'.cell? ⟨g7, 5, none⟩ = some (.string ⟨#[]⟩)) ∧ m < w'.heap.size ∧ g7 < w'.heap.size)) [12] (.take 0 (.take 1 (.take 2 (.take 3 (.take 4 (.take 5 (.take 6 (.one 7 (.one 8 (.one 9 (.one 10 (.one 11 (.one 12 (.done)))))))))))))) (by kernel_rfl) (by kernel_rfl) (fun _ _ _ _ h => h) ?_; have hSw := HSK.out _ ((Kp.refl _ w3).drew); iterate 7 (refine zO (v := ?_) rfl rfl hSw (by rfl) ?_ ?_; rotate_left 1; (focus (intro w hSx; (try dsimp only at hSx); go_simp; try rfl)); (try simp only [Act.put, zq0, zq1, zq2]))
   refine zB rfl (by rfl) (fun K' hK => ?_); go_simp; refine hK _ _ (.inr (HSK.out _ (((Kp.refl _ w3).drew).alloc (.cells (tokC ⟨nm, lt, tn, 0, 0, []⟩).toArray 65)))) ?_; clear hK K' hSw; (try simp only [Act.put, zq0, zq1, zq2]); refine zB rfl (by rfl) (fun K' hK => ?_)
   (refine wp_append_lies _ _ _ _ (by rfl) B 65 it0 _ 6 64 Tryz.underlying35 hit0 htz0 htz1 htz2 rfl (by omega) _ _ _ (by rfl) (HTR.out.alloc _) ⟨w3.heap.size, 0, none⟩ 1 1 (tokC ⟨nm, lt, tn, 0, 0, []⟩) (by rfl) (by rfl) (World.news_of_block (cs := (tokC ⟨nm, lt, tn, 0, 0, []⟩).toArray) (t := 65) (fr := (0, 0)) (zE w3 _)) (by simp [Value.oneCell', tokC]) (by omega) (by unfold maxLen; omega) (by omega) (by show B ≤ (w3.alloc (.cells (tokC ⟨nm, lt, tn, 0, 0, []⟩).toArray 65)).heap.size; simp only [World.size_alloc]; omega) _ rfl ?_; intro gg1 cp1 w5 hown1 hgrow1 hat1 hlt1; replace hgrow1 : (w3.alloc (.cells (tokC ⟨nm, lt, tn, 0, 0, []⟩).toArray 65)).grownBy w5 (Value.slice (some ⟨gt, 0, none⟩) n ct).ownBlock := ⟨hgrow1.os, hgrow1.tape, hgrow1.output, hgrow1.size, hgrow1.block⟩; have hk5 : Kp (fun b => b ≠ gt) w3 w5 := ((Kp.refl _ w3).alloc (.cells (tokC ⟨nm, lt, tn, 0, 0, []⟩).toArray 65)).grown hgrow1 (fun k hk hs => hs (Option.some.inj hk).symm))
   refine hK _ _ (.inr (HSK.out _ hk5)) ?_; clear hK K'; (try simp only [Act.put, zq0, zq1, zq2]); iterate 3 (refine zB rfl (by rfl) (fun K' hK => ?_); go_simp; refine hK _ _ (.inr (HSK.out _ hk5)) ?_; clear hK K'; (try simp only [Act.put, zq0, zq1, zq2]))
   refine zB rfl (by rfl) (fun K' hK => ?_)
   (obtain ⟨⟨z1, z2⟩, _, hl8, _⟩ := HSK.out _ hk5; go_simp)
   refine hK _ _ (.inl rfl) ?_; clear hK K'; (try simp only [Act.put, zq0, zq1, zq2]); refine zH ?_; have kt5 : KpT (fun t => t ≠ 65) w3 w5 := (KpT.below ((Below.refl _ w3).alloc (Nat.le_refl _) _)).trans (KpT.grown (HTR.out.alloc _) hgrow1); have hb5 : Below B w3 w5 := Kp.below hk5 hBs (fun b hb e => by omega); obtain ⟨h6, hf6⟩ := HH3.out.addTok (t := ⟨nm, lt, tn, 0, 0, []⟩) (by simp only; rw [← HN.out]; exact hown1) kt5 hb5; obtain ⟨w6, hw6⟩ : ∃ w6 : World, w6 = w5.setCell ⟨m, 0, none⟩ (.slice (some ⟨gg1, 0, none⟩) (n + 1) cp1) := ⟨_, rfl⟩
   rw [← hw6] at h6 hf6 ⊢; have hx6 := hf6.at HX3.out (by unfold RT; decide); have hg := h6.given; have hb := h6.block; unfold yE at hb; simp only at hg hb; rw [HSA.out] at hg; obtain ⟨gg, cg, hgv⟩ := yB hg (by omega); rw [hgv] at hg hb; have hmg : ¬ m = gg := fun e => (zG hg hb (by decide) gg rfl) e.symm
   have hxg : ¬ W.heap.size = gg := fun e => (zG hg hx6 (by decide) gg rfl) e.symm
   have hgl := (hg.lt gg rfl)
   have HSK2 := zh (fun (w' : World) (k : Kp (fun b => b ≠ gg) w6 w') => (show ((w'.cell? ⟨m, 5, none⟩ = some (.slice (some ⟨gg, 0, none⟩) n cg) ∧ w'.frozen? ⟨m, 5, none⟩ = false) ∧ w'.cell? ⟨W.heap.size, 1, none⟩ = some (.bool lt) ∧ m < w'.heap.size ∧ W.heap.size < w'.heap.size) from by
    have k1 := (k.block m (zC hb) hmg).trans hb; have k2 := (k.block W.heap.size (zC hx6) hxg).trans hx6
    exact ⟨⟨zc 5 k1, zf 5 k1⟩, zc 1 k2, zC k1, zC k2⟩))
   have HGR := zh hg; have HH6 := zh h6; have HF6 := zh (HF3.out.trans hf6); have HGV := zh hgv; have hBs6 : B ≤ w6.heap.size := by have := hf6.size; omega
   clear hw6 kt5 hb5 hown1 hgrow1 hat1 hlt1 hk5 h6 hf6 hx6 hg hb hgv HSK HTR HH3 HF3 z1 z2 hl8; go_upto_region 10 with fail
   refine zF (fun w' : World => ((w'.cell? ⟨m, 5, none⟩ = some (.slice (some ⟨gg, 0, none⟩) n cg) ∧ w'.frozen? ⟨m, 5, none⟩ = false) ∧ w'.cell? ⟨W.heap.size, 1, none⟩ = some (.bool lt) ∧ m < w'.heap.size ∧ W.heap.size < w'.heap.size)) [11] (.take 0 (.take 1 (.take 2 (.take 3 (.take 4 (.take 5 (.take 6 (.one 7 (.one 8 (.one 9 (.one 10 (.one 11 (.done))))))))))))) (by kernel_rfl) (by kernel_rfl) (fun _ _ _ _ h => h) ?_; have hSw := HSK2.out _ ((Kp.refl _ w6).drew); iterate 7 (refine zO (v := ?_) rfl rfl hSw (by rfl) ?_ ?_; rotate_left 1; (focus (intro w hSx; (try dsimp only at hSx); go_simp; try rfl)); (try simp only [Act.put, zq0, zq1, zq2]))
   refine zB rfl (by rfl) (fun K' hK => ?_); go_simp; refine hK _ _ (.inr (HSK2.out _ (((Kp.refl _ w6).drew).alloc (.cells #[.bool lt] 4)))) ?_; clear hK K' hSw; (try simp only [Act.put, zq0, zq1, zq2]); refine zB rfl (by rfl) (fun K' hK => ?_)
   (refine wp_append_lies _ _ _ _ (by rfl) B 4 ib0 _ 1 1 Tryz.underlying75 hib0 hbz0 hbz1 hbz2 rfl (by omega) _ _ _ (by rfl) (HGR.out.alloc _) ⟨w6.heap.size, 0, none⟩ 1 1 [.bool lt] (by rfl) (by rfl) (World.news_of_block (cs := #[.bool lt]) (t := 4) (fr := (0, 0)) (zE w6 _)) (by simp [Value.oneCell']) (by omega) (by unfold maxLen; omega) (by omega) (by show B ≤ (w6.alloc (.cells #[.bool lt] 4)).heap.size; simp only [World.size_alloc]; omega) _ rfl ?_; intro gg2 cp2 w7 hown2 hgrow2 hat2 hlt2; replace hgrow2 : (w6.alloc (.cells #[.bool lt] 4)).grownBy w7 (Value.slice (some ⟨gg, 0, none⟩) n cg).ownBlock := ⟨hgrow2.os, hgrow2.tape, hgrow2.output, hgrow2.size, hgrow2.block⟩; have hk7 : Kp (fun b => b ≠ gg) w6 w7 := ((Kp.refl _ w6).alloc (.cells #[.bool lt] 4)).grown hgrow2 (fun k hk hs => hs (Option.some.inj hk).symm))
   refine hK _ _ (.inr (HSK2.out _ hk7)) ?_; clear hK K'; (try simp only [Act.put, zq0, zq1, zq2]); iterate 2 (refine zB rfl (by rfl) (fun K' hK => ?_); go_simp; refine hK _ _ (.inr (HSK2.out _ hk7)) ?_; clear hK K'; (try simp only [Act.put, zq0, zq1, zq2]))
   refine zB rfl (by rfl) (fun K' hK => ?_)
   (obtain ⟨⟨z1, z2⟩, _, hl8, _⟩ := HSK2.out _ hk7; go_simp)
   refine hK _ _ (.inl rfl) ?_; clear hK K'; (try simp only [Act.put, zq0, zq1, zq2]); refine zH ?_; have kt7 : KpT (fun t => t ≠ 4) w6 w7 := (KpT.below ((Below.refl _ w6).alloc (Nat.le_refl _) _)).trans (KpT.grown (HGR.out.alloc _) hgrow2); have hb7 : Below B w6 w7 := Kp.below hk7 hBs6 (fun b hb e => by omega); obtain ⟨h8, hf8⟩ := HH6.out.addGiven (b := lt) (by simp only; rw [HSA.out]; exact hown2) kt7 hb7; obtain ⟨w8, hw8⟩ : ∃ w8 : World, w8 = w7.setCell ⟨m, 5, none⟩ (.slice (some ⟨gg2, 0, none⟩) (n + 1) cp2) := ⟨_, rfl⟩
   rw [← hw8] at h8 hf8 ⊢; have hb := h8.block; unfold yE at hb; simp only at hb; have c0 := zc 0 hb; have lm := zC hb; have HF8 := zh (HF6.out.trans hf8); have HH8 := zh h8; have hn40 : n < 2 ^ 40 := by omega
   clear hw8 kt7 hb7 hown2 hgrow2 hat2 hlt2 hk7 h8 hf8 hb HSK2 HGR HH6 HF6 z1 z2 hl8; go_wp2_with fail; go_ret; rw [HPUT.out]; exact ⟨zW (by simp only; rw [← HN.out]), _, HH8.out, HF8.out, rfl⟩
theorem gR.mono {S : Nat → Prop} {B m : Nat} {pv : Value} {W w1 w' : World} {r' : Sp.Rk} (h : gR S B m pv w1 r' w') (hb : RFr B W w1) : gR S B m pv W r' w' := by
 obtain ⟨v', h1, h2, h3⟩ := h; exact ⟨v', h1, hb.trans h2, h3⟩
set_option maxRecDepth 100000 in
set_option maxHeartbeats 6400000 in
theorem ref_symbol {S : Nat → Prop} {B N : Nat} {W : World} {m : Nat} {r : Sp.Rk} {v : RkV} (x : Sp.Sym) (h : zY S B W m r v) (hr : Sp.RB N r) (hN : N < 2 ^ 40) (hx1 : x.lit = true → ∃ c, x.name = [c]) :
  Calls Tryz.prog 53 #[.pointer (some ⟨m, 0, none⟩), symV x] W fun e w' => e = .returned (.int .i64 (Sp.yP r x).2) ∧ gR S B m v.pv W (Sp.yP r x).1 w' := by
 obtain ⟨nm, lt, nu, pa⟩ := x; show Calls _ _ #[_, .agg #[.string ⟨nm.toArray⟩, .bool lt, .int .i64 nu, .int .i64 pa]] _ _
 simp only at hx1; have HX1 := zh hx1; clear hx1; obtain ⟨w1, hw1⟩ : ∃ w1 : World, w1 = W.alloc (.cells #[.string ⟨nm.toArray⟩, .bool lt, .int .i64 nu, .int .i64 pa] 45) := ⟨_, rfl⟩
 have hbw : Below W.heap.size W w1 := by rw [hw1]; exact (Below.refl _ W).alloc (Nat.le_refl _) _
 have hx : w1.heap[W.heap.size]? = some (.cells #[.string ⟨nm.toArray⟩, .bool lt, .int .i64 nu, .int .i64 pa] 45 (0, 0)) := by rw [hw1]; exact zE W _
 have hB := h.size; have HF1 := zh (RFr.below hbw hB); have HH := zh (h.below hbw); have HX := zh hx; have HRB := zh hr; have x0 := zc 0 hx; have x1 := zc 1 hx; have x2 := zc 2 hx; have x3 := zc 3 hx; have hlx := zC hx; clear h hr hbw hx; go_enter Tryz.func53, Tryz.ntmps53
 go_upto_region 1 with fail
 rw [← hw1]; clear hw1
 cases lt with
 | true =>
  have e : Sp.yP r ⟨nm, true, nu, pa⟩ = ((Sp.rput r ⟨nm, true, nu, pa⟩).1, ((Sp.rput r ⟨nm, true, nu, pa⟩).2 : Int)) := rfl; have hp := ref_put ⟨nm, true, nu, pa⟩ HH.out HRB.out hN HX1.out; have E := zh e; have HP := zh hp; clear e hp; go_wp2_with fail; refine HP.out.mono ?_; rintro e w2 ⟨rfl, h2⟩; have H2 := zh h2; clear h2 x0 x1 x2 x3; go_wp2_with fail; go_ret; rw [E.out]; exact ⟨zW rfl, H2.out.mono HF1.out⟩
 | false =>
  go_wp2_with fail; refine (zBH nm HH.out HRB.out (by omega)).mono ?_; rintro e w2 ⟨rfl, rfl⟩
  cases hl : Sp.kC r.lefts nm with
  | some k =>
   have E : Hid (Sp.yP r ⟨nm, false, nu, pa⟩ = (r, 1000 + 1 + (k : Int))) := zh (by unfold Sp.yP; simp [hl]); have hk0 : (0 : Int) ≤ (k : Int) := Int.natCast_nonneg _; have hkl := Sp.rleft_lt hl; have hle := HRB.out.lefts; have hw : IntKind.i64.wrap (1001 + (k : Int)) = 1001 + (k : Int) := IntWalk.i64_in _ ⟨by omega, by omega⟩; dsimp only [ixI]; clear hl; go_wp2_with fail; go_ret; rw [E.out]; exact ⟨zW (by simp only; omega), v, HH.out, HF1.out, rfl⟩
  | none =>
   dsimp only [ixI]; go_wp2_with fail; refine (ref_tok ⟨nm, false, nu, pa⟩ HH.out HRB.out (by omega)).mono ?_; rintro e w2 ⟨rfl, hb2⟩; have HX2 := zh ((hb2.block _ (zC HX.out)).trans HX.out); have HH2 := zh (HH.out.below hb2); have HF2 := zh (HF1.out.trans (RFr.below hb2 HH.out.size)); clear hb2 HX HH HF1 x0 x1 x2 x3 hlx
   cases ht : Sp.rtok r.toks nm false with
   | some t =>
    have E : Hid (Sp.yP r ⟨nm, false, nu, pa⟩ = (r, (t : Int))) := zh (by unfold Sp.yP; simp [hl, ht]); have ht0 : (0 : Int) ≤ (t : Int) := Int.natCast_nonneg _; dsimp only [ixI]; clear hl ht; go_wp2_with fail; go_ret; rw [E.out]; exact ⟨zW rfl, v, HH2.out, HF2.out, rfl⟩
   | none =>
    have E : Hid (Sp.yP r ⟨nm, false, nu, pa⟩ = (Sp.jA r pa nm, 0)) := zh (by unfold Sp.yP; simp [hl, ht]); have y0 := zc 0 HX2.out; have y3 := zc 3 HX2.out; have ly := zC HX2.out; dsimp only [ixI]; clear hl ht; go_wp2_with fail; refine (jU pa nm HH2.out).mono ?_; rintro e w4 ⟨rfl, h4, hf4, _⟩; have H4 := zh h4; have HF4 := zh hf4; clear h4 hf4; go_wp2_with fail; go_ret; rw [E.out]; exact ⟨zW rfl, v, H4.out, HF2.out.trans HF4.out, rfl⟩
end Go.Proofs.YtddnomjfcbplpaaGreatDoor
