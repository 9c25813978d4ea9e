/- The document's maker: declare. -/
import Derived.Test.YtphdfbmmjkccgaaDoorZ12
namespace Go.Proofs.YtphdfbmmjkccgaaDoor
open Go.RowKit Go.Maps

theorem info_nonR : (Tryd.prog.info? 99).map (fun i => (i.zero, i.size, i.bytes)) = some (some (.agg #[.string ⟨#[]⟩, .string ⟨#[]⟩]), 2, 32) := by kernel_rfl
theorem Sp.rdeclare5 (r : Sp.Rk) (d : Sp.Decl) (x : Sp.Sym) (h : d.kind = 5) : Sp.rdeclare r d x = match Sp.typeOf r.types x.name with
    | none => { r with types := r.types ++ [(x.name, d.tag)] }
    | some t => if t ≠ d.tag then Sp.rfail r x.at_ x.name else r := by
  unfold Sp.rdeclare
  rw [if_pos h]
  cases Sp.typeOf r.types x.name <;> rfl
theorem Sp.rdeclareT (r : Sp.Rk) (d : Sp.Decl) (x : Sp.Sym) (h : d.kind ≠ 5) : Sp.rdeclare r d x = Sp.rtag (Sp.rnum (Sp.rlevel (Sp.rput r x).1 (Sp.rput r x).2 d x) (Sp.rput r x).2 x) (Sp.rput r x).2 d x := by unfold Sp.rdeclare; rw [if_neg h]
theorem Sp.getD_of {toks : List Sp.Tok} {t : Nat} {k : Sp.Tok} (h : toks[t]? = some k) : toks.getD t Sp.noTok = k := by rw [List.getD_eq_getElem?_getD, h]; rfl
set_option maxRecDepth 100000 in
set_option maxHeartbeats 12800000 in
theorem ref_declare {S : Nat → Prop} {B N0 : Nat} {W : World} {m : Nat} {r : Sp.Rk} {v : RkV} (d : Sp.Decl) (dsv : Value) (x : Sp.Sym) (h : RefAt S B W m r v) (hr : Sp.RB N0 r) (hN : N0 + 1 < 2 ^ 40) (hx1 : x.lit = true → ∃ c, x.name = [c]) (hdk : 1 ≤ d.kind ∧ d.kind ≤ 6) :
    Calls Tryd.prog 38 #[.pointer (some ⟨m, 0, none⟩), .agg (declC dsv d).toArray, symV x] W fun e w' => e = .returned (.tuple #[]) ∧ RefPost S B m v.pv W (Sp.rdeclare r d x) w' := by
  obtain ⟨nm, lt, nu, pa⟩ := x
  obtain ⟨dk, dt, dsy, dp⟩ := d
  show Calls _ _ #[_, .agg #[.int .i64 dk, .string ⟨dt.toArray⟩, dsv, .int .i64 dp], .agg #[.string ⟨nm.toArray⟩, .bool lt, .int .i64 nu, .int .i64 pa]] _ _
  simp only at hx1 hdk
  obtain ⟨hdk1, hdk2⟩ := hdk
  have HX1 := Lib.hid hx1
  clear hx1
  obtain ⟨w1, hw1⟩ : ∃ w1 : World, w1 = (W.alloc (.cells #[.int .i64 dk, .string ⟨dt.toArray⟩, dsv, .int .i64 dp] 51)).alloc (.cells #[.string ⟨nm.toArray⟩, .bool lt, .int .i64 nu, .int .i64 pa] 40) := ⟨_, rfl⟩
  have hbw : Below W.heap.size W w1 := by rw [hw1]; exact ((Below.refl _ W).alloc (Nat.le_refl _) _).alloc (by simp) _
  have hd : w1.heap[W.heap.size]? = some (.cells #[.int .i64 dk, .string ⟨dt.toArray⟩, dsv, .int .i64 dp] 51 (0, 0)) := by rw [hw1]; exact heap_old (heap_last W _) _
  have hx : w1.heap[W.heap.size + 1]? = some (.cells #[.string ⟨nm.toArray⟩, .bool lt, .int .i64 nu, .int .i64 pa] 40 (0, 0)) := by rw [hw1]; exact heap_sec W _ _
  have hB := h.size
  have HF1 := Lib.hid (RFr.below hbw hB); have HH := Lib.hid (h.below hbw); have HX := Lib.hid hx; have HD := Lib.hid hd; have HRB := Lib.hid hr
  have x0 := cell_at (i := 0) hx; have x1 := cell_at (i := 1) hx; have x2 := cell_at (i := 2) hx; have x3 := cell_at (i := 3) hx
  have d0 := cell_at (i := 0) hd; have d1 := cell_at (i := 1) hd
  have hlx := lt_at hx; have hld := lt_at hd
  clear h hr hbw hx hd
  go_enter Tryd.func38, Tryd.ntmps38
  go_upto_region 1 with fail
  rw [← hw1]
  clear hw1
  by_cases h5 : dk = 5
  · have HE := Lib.hid (Sp.rdeclare5 r ⟨dk, dt, dsy, dp⟩ ⟨nm, lt, nu, pa⟩ h5)
    subst h5
    go_wp2_with fail
    refine (ref_typeOf nm HH.out HRB.out (by omega)).mono ?_
    rintro e w2 ⟨rfl, rfl⟩
    have hty := Sp.typeIx_of r.types nm
    cases hl : Sp.typeIx r.types nm with
    | none =>
      rw [hl] at hty
      have E : Hid (Sp.rdeclare r ⟨5, dt, dsy, dp⟩ ⟨nm, lt, nu, pa⟩ = { r with types := r.types ++ [(nm, dt)] }) := Lib.hid (by rw [HE.out]; simp only [hty]; rfl)
      clear hty hl HE
      dsimp only [ixI]
      have ht := HH.out.types; have hb := HH.out.block
      obtain ⟨N, hn⟩ : ∃ N, N = r.types.length := ⟨_, rfl⟩
      have hle := HRB.out.types
      rw [← hn] at ht hle
      unfold rkCells at hb
      obtain ⟨ya, y0, htv⟩ := ownsRowS_some ht
      rw [htv] at ht hb
      have hmt : (Value.slice ya N y0).ownBlock ≠ some m := fun e => (row_ne_cells ht hb (by decide) m e) rfl
      have hxt : (Value.slice ya N y0).ownBlock ≠ some (W.heap.size + 1) := fun e => (row_ne_cells ht HX.out (by decide) _ e) rfl
      have hdt : (Value.slice ya N y0).ownBlock ≠ some W.heap.size := fun e => (row_ne_cells ht HD.out (by decide) _ e) rfl
      have HSK := Lib.hid (fun (w' : World) (k : Kp (fun b => (Value.slice ya N y0).ownBlock ≠ some b) w1 w') => (show ((w'.cell? ⟨m, 6, none⟩ = some (.slice ya N y0) ∧ w'.frozen? ⟨m, 6, none⟩ = false) ∧ w'.cell? ⟨W.heap.size + 1, 0, none⟩ = some (.string ⟨nm.toArray⟩) ∧ w'.cell? ⟨W.heap.size, 1, none⟩ = some (.string ⟨dt.toArray⟩) ∧ m < w'.heap.size ∧ W.heap.size + 1 < w'.heap.size ∧ W.heap.size < w'.heap.size) from by
        have k1 := (k.block m (lt_at hb) hmt).trans hb
        have k2 := (k.block _ (lt_at HX.out) hxt).trans HX.out
        have k3 := (k.block _ (lt_at HD.out) hdt).trans HD.out
        exact ⟨⟨cell_at (i := 6) k1, frozen_at (i := 6) k1⟩, cell_at (i := 0) k2, cell_at (i := 1) k3, lt_at k1, lt_at k2, lt_at k3⟩))
      have HTR := Lib.hid ht; have HNN := Lib.hid hn
      have hBs : B ≤ w1.heap.size := HH.out.size
      obtain ⟨it0, hit0, htz0, htz1, htz2⟩ := info_parts info_nonR
      clear ht hb hn htv hmt hxt hdt
      go_upto_region 4 with fail
      refine wp_region_plan (fun w' : World => ((w'.cell? ⟨m, 6, none⟩ = some (.slice ya N y0) ∧ w'.frozen? ⟨m, 6, none⟩ = false) ∧ w'.cell? ⟨W.heap.size + 1, 0, none⟩ = some (.string ⟨nm.toArray⟩) ∧ w'.cell? ⟨W.heap.size, 1, none⟩ = some (.string ⟨dt.toArray⟩) ∧ m < w'.heap.size ∧ W.heap.size + 1 < w'.heap.size ∧ W.heap.size < w'.heap.size)) [14] (.take 0 (.take 1 (.take 2 (.take 3 (.take 4 (.take 5 (.take 6 (.take 7 (.take 8 (.take 9 (.one 10 (.one 11 (.one 12 (.one 13 (.one 14 (.done)))))))))))))))) (by kernel_rfl) (by kernel_rfl) (fun _ _ _ _ h => h) ?_
      have hSw := HSK.out _ ((Kp.refl _ w1).drew)
      refine wpPlan_takeD (v := ?va1) rfl rfl hSw (by rfl) ?ya1 ?_
      case ya1 => (intro w hSx; (try dsimp only at hSx); go_simp; first | done | with_reducible rfl | rfl)
      (try simp only [Act.put, List.setIfInBounds_toArray, List.set_cons_zero, List.set_cons_succ])
      refine wpPlan_takeD (v := ?va2) rfl rfl hSw (by rfl) ?ya2 ?_
      case ya2 => (intro w hSx; (try dsimp only at hSx); go_simp; first | done | with_reducible rfl | rfl)
      (try simp only [Act.put, List.setIfInBounds_toArray, List.set_cons_zero, List.set_cons_succ])
      refine wpPlan_takeD (v := ?va3) rfl rfl hSw (by rfl) ?ya3 ?_
      case ya3 => (intro w hSx; (try dsimp only at hSx); go_simp; first | done | with_reducible rfl | rfl)
      (try simp only [Act.put, List.setIfInBounds_toArray, List.set_cons_zero, List.set_cons_succ])
      refine wpPlan_takeD (v := ?va4) rfl rfl hSw (by rfl) ?ya4 ?_
      case ya4 => (intro w hSx; (try dsimp only at hSx); go_simp; first | done | with_reducible rfl | rfl)
      (try simp only [Act.put, List.setIfInBounds_toArray, List.set_cons_zero, List.set_cons_succ])
      refine wpPlan_takeD (v := ?va5) rfl rfl hSw (by rfl) ?ya5 ?_
      case ya5 => (intro w hSx; (try dsimp only at hSx); go_simp; first | done | with_reducible rfl | rfl)
      (try simp only [Act.put, List.setIfInBounds_toArray, List.set_cons_zero, List.set_cons_succ])
      refine wpPlan_takeD (v := ?va6) rfl rfl hSw (by rfl) ?ya6 ?_
      case ya6 => (intro w hSx; (try dsimp only at hSx); go_simp; first | done | with_reducible rfl | rfl)
      (try simp only [Act.put, List.setIfInBounds_toArray, List.set_cons_zero, List.set_cons_succ])
      refine wpPlan_takeD (v := ?va7) rfl rfl hSw (by rfl) ?ya7 ?_
      case ya7 => (intro w hSx; (try dsimp only at hSx); go_simp; first | done | with_reducible rfl | rfl)
      (try simp only [Act.put, List.setIfInBounds_toArray, List.set_cons_zero, List.set_cons_succ])
      refine wpPlan_takeD (v := ?va8) rfl rfl hSw (by rfl) ?ya8 ?_
      case ya8 => (intro w hSx; (try dsimp only at hSx); go_simp; first | done | with_reducible rfl | rfl)
      (try simp only [Act.put, List.setIfInBounds_toArray, List.set_cons_zero, List.set_cons_succ])
      refine wpPlan_takeD (v := ?va9) rfl rfl hSw (by rfl) ?ya9 ?_
      case ya9 => (intro w hSx; (try dsimp only at hSx); go_simp; first | done | with_reducible rfl | rfl)
      (try simp only [Act.put, List.setIfInBounds_toArray, List.set_cons_zero, List.set_cons_succ])
      refine wpPlan_takeD (v := ?va10) rfl rfl hSw (by rfl) ?ya10 ?_
      case ya10 => (intro w hSx; (try dsimp only at hSx); go_simp; first | done | with_reducible rfl | rfl)
      (try simp only [Act.put, List.setIfInBounds_toArray, List.set_cons_zero, List.set_cons_succ])
      refine wpPlan_run rfl (by rfl) (fun K' hK => ?_)
      go_simp
      refine hK _ _ (.inr ?_) ?_
      · exact HSK.out _ (((Kp.refl _ w1).drew).alloc (.cells (typC (nm, dt)).toArray 99))
      clear hK K' hSw
      (try simp only [Act.put, List.setIfInBounds_toArray, List.set_cons_zero, List.set_cons_succ])
      refine wpPlan_run rfl (by rfl) (fun K' hK => ?_)
      (refine wp_append_lies _ _ _ _ (by rfl) B 99 it0 _ 2 32 Tryd.underlying55 hit0 htz0 htz1 htz2 rfl (by omega) _ _ _ (by rfl) (HTR.out.alloc _) ⟨w1.heap.size, 0, none⟩ 1 1 (typC (nm, dt)) (by rfl) (by rfl) (World.news_of_block (cs := (typC (nm, dt)).toArray) (t := 99) (fr := (0, 0)) (heap_last w1 _)) (by simp [Value.oneCell', typC]) (by omega) (by unfold maxLen; omega) (by omega) (by show B ≤ (w1.alloc (.cells (typC (nm, dt)).toArray 99)).heap.size; simp only [World.size_alloc]; omega) _ rfl ?_; intro gg1 cp1 w5 hown1 hgrow1 hat1 hlt1; replace hgrow1 : (w1.alloc (.cells (typC (nm, dt)).toArray 99)).grownBy w5 (Value.slice ya N y0).ownBlock := ⟨hgrow1.os, hgrow1.tape, hgrow1.output, hgrow1.size, hgrow1.block⟩; have hk5 : Kp (fun b => (Value.slice ya N y0).ownBlock ≠ some b) w1 w5 := ((Kp.refl _ w1).alloc (.cells (typC (nm, dt)).toArray 99)).grown hgrow1 (fun k hk hs => hs hk))
      refine hK _ _ (.inr ?_) ?_
      · exact HSK.out _ hk5
      clear hK K'
      (try simp only [Act.put, List.setIfInBounds_toArray, List.set_cons_zero, List.set_cons_succ])
      refine wpPlan_run rfl (by rfl) (fun K' hK => ?_)
      go_simp
      refine hK _ _ (.inr ?_) ?_
      · exact HSK.out _ hk5
      clear hK K'
      (try simp only [Act.put, List.setIfInBounds_toArray, List.set_cons_zero, List.set_cons_succ])
      refine wpPlan_run rfl (by rfl) (fun K' hK => ?_)
      go_simp
      refine hK _ _ (.inr ?_) ?_
      · exact HSK.out _ hk5
      clear hK K'
      (try simp only [Act.put, List.setIfInBounds_toArray, List.set_cons_zero, List.set_cons_succ])
      refine wpPlan_run rfl (by rfl) (fun K' hK => ?_)
      (obtain ⟨⟨z1, z2⟩, _, _, hl8, _⟩ := HSK.out _ hk5; go_simp)
      refine hK _ _ (.inl rfl) ?_
      clear hK K'
      (try simp only [Act.put, List.setIfInBounds_toArray, List.set_cons_zero, List.set_cons_succ])
      refine wpPlan_done ?_
      have kt5 : KpT (fun t => t ≠ 99) w1 w5 := (KpT.below ((Below.refl _ w1).alloc (Nat.le_refl _) _)).trans (KpT.grown (HTR.out.alloc _) hgrow1)
      have hb5 : Below B w1 w5 := Kp.below hk5 hBs (fun b hb e => by have := (HTR.out.lt b e).1; omega)
      obtain ⟨h6, hf6⟩ := HH.out.addType (p := (nm, dt)) (by rw [← HNN.out]; exact hown1) kt5 hb5
      have H6 := Lib.hid h6; have HF6 := Lib.hid hf6
      clear kt5 hb5 hown1 hgrow1 hat1 hlt1 hk5 h6 hf6 HSK HTR z1 z2 hl8
      go_wp2_with fail
      refine bodyPost_ret (results_none rfl _ _ _) rfl ?_
      rw [E.out]
      exact ⟨rfl, _, H6.out, HF1.out.trans HF6.out, rfl⟩
    | some k =>
      have hkl := Sp.typeIx_lt hl
      obtain ⟨p, hp⟩ : ∃ p, r.types[k]? = some p := ⟨_, List.getElem?_eq_getElem hkl⟩
      rw [hl] at hty
      simp only [Option.bind_some, hp, Option.map_some] at hty
      obtain ⟨pn, pt⟩ := p
      have E : Hid (Sp.rdeclare r ⟨5, dt, dsy, dp⟩ ⟨nm, lt, nu, pa⟩ = if pt ≠ dt then Sp.rfail r pa nm else r) := Lib.hid (by rw [HE.out]; simp only [hty])
      dsimp only [ixI]
      have ht := HH.out.types; have hb := HH.out.block
      obtain ⟨N, hn⟩ : ∃ N, N = r.types.length := ⟨_, rfl⟩
      have hle := HRB.out.types
      rw [← hn] at ht hle hkl
      unfold rkCells at hb
      obtain ⟨gt, y0, htv⟩ := own_form ht (by omega)
      rw [htv] at ht hb
      have a1 := row_cell ht (fun _ => rfl) hp hkl (j := 1) (u := .string ⟨pt.toArray⟩) rfl
      have c6 := cell_at (i := 6) hb
      have hlm := lt_at hb
      have hlt := (ht.lt gt rfl).2
      have hk0 : (0 : Int) ≤ (k : Int) := Int.natCast_nonneg _
      have hk1 : (k : Int) < (N : Int) := by omega
      clear ht hb htv hn hty hl hp HE
      by_cases hpt : pt = dt
      · subst hpt
        have E2 : Hid (Sp.rdeclare r ⟨5, pt, dsy, dp⟩ ⟨nm, lt, nu, pa⟩ = r) := Lib.hid (by rw [E.out, if_neg (by simp)])
        go_wp2_with fail
        go_quiet (fail)
        go_wp2_with fail
        refine bodyPost_ret (results_none rfl _ _ _) rfl ?_
        rw [E2.out]
        exact ⟨rfl, v, HH.out.below (below_drewN (Below.refl _ _) _), HF1.out.trans (RFr.below (below_drewN (Below.refl _ _) _) HH.out.size), rfl⟩
      · have E2 : Hid (Sp.rdeclare r ⟨5, dt, dsy, dp⟩ ⟨nm, lt, nu, pa⟩ = Sp.rfail r pa nm) := Lib.hid (by rw [E.out, if_pos hpt])
        have hpb : (pt == dt) = false := by rw [beq_eq_false_iff_ne]; exact hpt
        have hpn : (pt != dt) = true := by rw [bne_iff_ne]; exact hpt
        go_wp2_with fail
        go_quiet (fail)
        go_wp2_with fail
        refine (ref_fail pa nm (HH.out.below (below_drewN (Below.refl _ _) _))).mono ?_
        rintro e w4 ⟨rfl, h4, hf4, _⟩
        have H4 := Lib.hid h4; have HF4 := Lib.hid hf4
        clear h4 hf4
        go_wp2_with fail
        refine bodyPost_ret (results_none rfl _ _ _) rfl ?_
        rw [E2.out]
        exact ⟨rfl, v, H4.out, (HF1.out.trans (RFr.below (below_drewN (Below.refl _ _) _) HH.out.size)).trans HF4.out, rfl⟩
  · have HE := Lib.hid (Sp.rdeclareT r ⟨dk, dt, dsy, dp⟩ ⟨nm, lt, nu, pa⟩ h5)
    have h5d : decide (dk = 5) = false := decide_eq_false h5
    have h5b : (dk == 5) = false := by rw [beq_eq_false_iff_ne]; exact h5
    go_wp2_with fail
    refine (ref_put ⟨nm, lt, nu, pa⟩ HH.out HRB.out (by omega) HX1.out).mono ?_
    rintro e w2 ⟨rfl, v1, hp2, hf2, hpv⟩
    have hrb2 := Sp.rput_RB ⟨nm, lt, nu, pa⟩ HRB.out
    have htl := (Sp.rput_lt (r := r) ⟨nm, lt, nu, pa⟩).1
    obtain ⟨r1, hr1⟩ : ∃ r1, r1 = (Sp.rput r ⟨nm, lt, nu, pa⟩).1 := ⟨_, rfl⟩
    obtain ⟨t, ht⟩ : ∃ t, t = (Sp.rput r ⟨nm, lt, nu, pa⟩).2 := ⟨_, rfl⟩
    rw [← hr1] at hp2 hrb2 htl
    rw [← ht] at htl ⊢
    rw [← hr1, ← ht] at HE
    obtain ⟨k0, hk0⟩ : ∃ k0, r1.toks[t]? = some k0 := ⟨_, List.getElem?_eq_getElem htl⟩
    have hx2 := hf2.at HX.out (by unfold RT; decide)
    have hd2 := hf2.at HD.out (by unfold RT; decide)
    obtain ⟨n, hn⟩ : ∃ n, n = r1.toks.length := ⟨_, rfl⟩
    have hto := hp2.toks; have hb := hp2.block
    rw [← hn] at hto htl
    unfold rkCells at hb
    obtain ⟨gt, ct, htv⟩ := own_form hto (by omega)
    rw [htv] at hto hb
    have hle := hrb2.toks
    rw [← hn] at hle
    have c0 := cell_at (i := 0) hb
    have lm := lt_at hb
    have x0 := cell_at (i := 0) hx2; have x1 := cell_at (i := 1) hx2; have x2 := cell_at (i := 2) hx2; have x3 := cell_at (i := 3) hx2
    have d0 := cell_at (i := 0) hd2; have d1 := cell_at (i := 1) hd2
    have lx := lt_at hx2; have ld := lt_at hd2
    have lgt := (hto.lt gt rfl).2
    have ht0 : (0 : Int) ≤ (t : Int) := Int.natCast_nonneg _
    have ht1 : (t : Int) < (n : Int) := by omega
    have HP2 := Lib.hid hp2; have HF2 := Lib.hid (HF1.out.trans hf2); have HRB2 := Lib.hid hrb2; have HX2 := Lib.hid hx2; have HD2 := Lib.hid hd2; have HK0 := Lib.hid hk0; have HTV := Lib.hid htv; have HPV := Lib.hid hpv; have HNN := Lib.hid hn
    clear hp2 hf2 hrb2 hx2 hd2 hk0 htv hto hb hpv hn hr1 ht HX HD HF1 HH hlx hld
    obtain ⟨kn, kl, ku, kv, ka, kg⟩ := k0
    have HGD := Lib.hid (Sp.getD_of HK0.out)
    go_upto_if 61 with fail
    go_cut [] (fun wx => RefAt S B wx m (Sp.rlevel r1 t ⟨dk, dt, dsy, dp⟩ ⟨nm, lt, nu, pa⟩) v1 ∧ RFr B w2 wx)
    case first =>
      by_cases h1 : dk = 1
      · have E : Hid (Sp.rlevel r1 t ⟨dk, dt, dsy, dp⟩ ⟨nm, lt, nu, pa⟩ = r1) := Lib.hid (by unfold Sp.rlevel; rw [if_neg (by simpa using h1)])
        subst h1
        go_wp2_with fail
        go_meet
        rw [E.out]
        exact ⟨HP2.out, RFr.below (Below.refl _ _) HP2.out.size⟩
      · have h1b : (dk == 1) = false := by rw [beq_eq_false_iff_ne]; exact h1
        have h1n : (dk != 1) = true := by rw [bne_iff_ne]; exact h1
        obtain ⟨F, hF⟩ : ∃ F, F = if 0 < kv then Sp.failF r1.fault pa nm else r1.fault := ⟨_, rfl⟩
        obtain ⟨lv, hlv⟩ : ∃ lv, lv = r1.level := ⟨_, rfl⟩
        have E : Hid (Sp.rlevel r1 t ⟨dk, dt, dsy, dp⟩ ⟨nm, lt, nu, pa⟩ = ⟨(r1.toks.set t ⟨kn, kl, ku, lv, ka, kg⟩).set t ⟨kn, kl, ku, lv, dk - 1, kg⟩, r1.given, r1.types, r1.lefts, r1.prods, F, r1.level, r1.inner⟩) := Lib.hid (by
          unfold Sp.rlevel Sp.rmod
          rw [if_pos (by simpa using h1), HGD.out, hF, hlv, List.set_set])
        have hto := HP2.out.toks
        rw [HTV.out, ← HNN.out] at hto
        have a3 := row_cell hto (fun _ => rfl) HK0.out htl (j := 3) (u := .int .i64 kv) rfl
        have HF := Lib.hid hF; have HLV := Lib.hid hlv
        clear hto hF hlv
        go_upto_if 66 with fail
        go_cut [] (fun wx => RefAt S B wx m ⟨r1.toks, r1.given, r1.types, r1.lefts, r1.prods, F, r1.level, r1.inner⟩ v1 ∧ RFr B w2 wx)
        case first =>
          by_cases hk : 0 < kv
          · have e : F = Sp.failF r1.fault pa nm := by rw [HF.out, if_pos hk]
            subst e
            go_wp2_with fail
            refine (ref_fail pa nm HP2.out).mono ?_
            rintro e w4 ⟨rfl, h4, hf4, _⟩
            have H4 := Lib.hid h4; have HF4 := Lib.hid hf4
            clear h4 hf4
            go_wp2_with fail
            go_meet
            exact ⟨H4.out, HF4.out⟩
          · have e : F = r1.fault := by rw [HF.out, if_neg hk]
            subst e
            have hkd : decide (0 < kv) = false := decide_eq_false hk
            go_wp2_with fail
            go_meet
            exact ⟨HP2.out, RFr.below (Below.refl _ _) HP2.out.size⟩
        case rest =>
          obtain ⟨w3, hw3⟩ : ∃ w3 : World, w3 = wc := ⟨_, rfl⟩
          subst hw3
          obtain ⟨h3, hf3⟩ := hcut
          have hx3 := hf3.at HX2.out (by unfold RT; decide)
          have hd3 := hf3.at HD2.out (by unfold RT; decide)
          have hb := h3.block
          unfold rkCells at hb
          simp only at hb
          rw [← HLV.out] at hb
          have hto := h3.toks
          rw [HTV.out] at hto
          simp only at hto
          rw [← HNN.out] at hto
          have hmt : ¬ m = gt := fun e => (row_ne_cells hto hb (by decide) gt rfl) e.symm
          have hdt : ¬ W.heap.size = gt := fun e => (row_ne_cells hto hd3 (by decide) gt rfl) e.symm
          have HSK := Lib.hid (fun (w' : World) (k : Kp (fun b => b ≠ gt) w3 w') => (show (w'.cell? ⟨m, 11, none⟩ = some (.int .i64 lv) ∧ w'.cell? ⟨W.heap.size, 0, none⟩ = some (.int .i64 dk) ∧ m < w'.heap.size ∧ W.heap.size < w'.heap.size) from by
            have k1 := (k.block m (lt_at hb) hmt).trans hb
            have k2 := (k.block _ (lt_at hd3) hdt).trans hd3
            exact ⟨cell_at (i := 11) k1, cell_at (i := 0) k2, lt_at k1, lt_at k2⟩))
          have b3 := row_cell hto (fun _ => rfl) HK0.out htl (j := 3) (u := .int .i64 kv) rfl
          have b4 := row_cell hto (fun _ => rfl) HK0.out htl (j := 4) (u := .int .i64 ka) rfl
          have g3 := hto.frozenAt (t * 6 + 3); have g4 := hto.frozenAt (t * 6 + 4)
          have lgt3 := (hto.lt gt rfl).2
          have hw1 : IntKind.i64.wrap (dk - 1) = dk - 1 := IntWalk.i64_in _ ⟨by omega, by omega⟩
          have H3 := Lib.hid h3; have HF3 := Lib.hid hf3
          clear h3 hf3 hx3 hd3 hb hto hmt hdt a3
          go_upto_region 12 with fail
          refine wp_region_plan (fun w' : World => (w'.cell? ⟨m, 11, none⟩ = some (.int .i64 lv) ∧ w'.cell? ⟨W.heap.size, 0, none⟩ = some (.int .i64 dk) ∧ m < w'.heap.size ∧ W.heap.size < w'.heap.size)) [14] (.take 0 (.take 1 (.take 2 (.take 3 (.take 4 (.take 5 (.take 6 (.take 7 (.take 8 (.one 9 (.one 10 (.one 11 (.one 12 (.one 13 (.one 14 (.done)))))))))))))))) (by kernel_rfl) (by kernel_rfl) (fun _ _ _ _ h => h) ?_
          have hSw := HSK.out _ ((Kp.refl _ w3).drew)
          refine wpPlan_takeD (v := ?vb11) rfl rfl hSw (by rfl) ?yb11 ?_
          case yb11 => (intro w hSx; (try dsimp only at hSx); go_simp; first | done | with_reducible rfl | rfl)
          (try simp only [Act.put, List.setIfInBounds_toArray, List.set_cons_zero, List.set_cons_succ])
          refine wpPlan_takeD (v := ?vb12) rfl rfl hSw (by rfl) ?yb12 ?_
          case yb12 => (intro w hSx; (try dsimp only at hSx); go_simp; first | done | with_reducible rfl | rfl)
          (try simp only [Act.put, List.setIfInBounds_toArray, List.set_cons_zero, List.set_cons_succ])
          refine wpPlan_takeD (v := ?vb13) rfl rfl hSw (by rfl) ?yb13 ?_
          case yb13 => (intro w hSx; (try dsimp only at hSx); go_simp; first | done | with_reducible rfl | rfl)
          (try simp only [Act.put, List.setIfInBounds_toArray, List.set_cons_zero, List.set_cons_succ])
          refine wpPlan_takeD (v := ?vb14) rfl rfl hSw (by rfl) ?yb14 ?_
          case yb14 => (intro w hSx; (try dsimp only at hSx); go_simp; first | done | with_reducible rfl | rfl)
          (try simp only [Act.put, List.setIfInBounds_toArray, List.set_cons_zero, List.set_cons_succ])
          refine wpPlan_takeD (v := ?vb15) rfl rfl hSw (by rfl) ?yb15 ?_
          case yb15 => (intro w hSx; (try dsimp only at hSx); go_simp; first | done | with_reducible rfl | rfl)
          (try simp only [Act.put, List.setIfInBounds_toArray, List.set_cons_zero, List.set_cons_succ])
          refine wpPlan_takeD (v := ?vb16) rfl rfl hSw (by rfl) ?yb16 ?_
          case yb16 => (intro w hSx; (try dsimp only at hSx); go_simp; first | done | with_reducible rfl | rfl)
          (try simp only [Act.put, List.setIfInBounds_toArray, List.set_cons_zero, List.set_cons_succ])
          refine wpPlan_takeD (v := ?vb17) rfl rfl hSw (by rfl) ?yb17 ?_
          case yb17 => (intro w hSx; (try dsimp only at hSx); go_simp; first | done | with_reducible rfl | rfl)
          (try simp only [Act.put, List.setIfInBounds_toArray, List.set_cons_zero, List.set_cons_succ])
          refine wpPlan_takeD (v := ?vb18) rfl rfl hSw (by rfl) ?yb18 ?_
          case yb18 => (intro w hSx; (try dsimp only at hSx); go_simp; first | done | with_reducible rfl | rfl)
          (try simp only [Act.put, List.setIfInBounds_toArray, List.set_cons_zero, List.set_cons_succ])
          refine wpPlan_takeD (v := ?vb19) rfl rfl hSw (by rfl) ?yb19 ?_
          case yb19 => (intro w hSx; (try dsimp only at hSx); go_simp; first | done | with_reducible rfl | rfl)
          (try simp only [Act.put, List.setIfInBounds_toArray, List.set_cons_zero, List.set_cons_succ])
          refine wpPlan_run rfl (by rfl) (fun K' hK => ?_)
          go_simp
          refine hK _ _ (.inr ?_) ?_
          · exact HSK.out _ ((Kp.refl _ w3).drew)
          clear hK K' hSw
          (try simp only [Act.put, List.setIfInBounds_toArray, List.set_cons_zero, List.set_cons_succ])
          refine wpPlan_run rfl (by rfl) (fun K' hK => ?_)
          go_simp
          refine hK _ _ (.inr ?_) ?_
          · exact HSK.out _ ((Kp.refl _ w3).drew)
          clear hK K'
          (try simp only [Act.put, List.setIfInBounds_toArray, List.set_cons_zero, List.set_cons_succ])
          refine wpPlan_run rfl (by rfl) (fun K' hK => ?_)
          go_simp
          refine hK _ _ (.inr ?_) ?_
          · exact HSK.out _ (((Kp.refl _ w3).drew).setCell (p := ⟨gt, t * 6 + 3, none⟩) (by simp) (.int .i64 lv))
          clear hK K'
          (try simp only [Act.put, List.setIfInBounds_toArray, List.set_cons_zero, List.set_cons_succ])
          refine wpPlan_run rfl (by rfl) (fun K' hK => ?_)
          go_simp
          refine hK _ _ (.inr ?_) ?_
          · exact HSK.out _ (((Kp.refl _ w3).drew).setCell (p := ⟨gt, t * 6 + 3, none⟩) (by simp) (.int .i64 lv))
          clear hK K'
          (try simp only [Act.put, List.setIfInBounds_toArray, List.set_cons_zero, List.set_cons_succ])
          refine wpPlan_run rfl (by rfl) (fun K' hK => ?_)
          go_simp
          refine hK _ _ (.inr ?_) ?_
          · exact HSK.out _ (((Kp.refl _ w3).drew).setCell (p := ⟨gt, t * 6 + 3, none⟩) (by simp) (.int .i64 lv))
          clear hK K'
          (try simp only [Act.put, List.setIfInBounds_toArray, List.set_cons_zero, List.set_cons_succ])
          refine wpPlan_run rfl (by rfl) (fun K' hK => ?_)
          go_simp
          refine hK _ _ (.inl rfl) ?_
          clear hK K'
          (try simp only [Act.put, List.setIfInBounds_toArray, List.set_cons_zero, List.set_cons_succ])
          refine wpPlan_done ?_
          obtain ⟨h5, hf5⟩ := H3.out.tokset (k := t) (off := 3) (t := ⟨kn, kl, ku, kv, ka, kg⟩) (t' := ⟨kn, kl, ku, lv, ka, kg⟩) (u := .int .i64 lv) HTV.out HK0.out (by decide) rfl
          have hk5 : (r1.toks.set t ⟨kn, kl, ku, lv, ka, kg⟩)[t]? = some ⟨kn, kl, ku, lv, ka, kg⟩ := by rw [List.getElem?_set_self (by rw [← HNN.out]; exact htl)]
          obtain ⟨h6, hf6⟩ := h5.tokset (k := t) (off := 4) (t := ⟨kn, kl, ku, lv, ka, kg⟩) (t' := ⟨kn, kl, ku, lv, dk - 1, kg⟩) (u := .int .i64 (dk - 1)) HTV.out hk5 (by decide) rfl
          have H6 := Lib.hid h6; have HF6 := Lib.hid ((HF3.out.trans hf5).trans hf6)
          clear h5 hf5 hk5 h6 hf6 HSK H3 HF3 b3 b4 g3 g4
          go_wp2_with fail
          go_meet
          rw [E.out]
          exact ⟨H6.out.below (below_drewN (Below.refl _ _) 1), HF6.out.trans (RFr.below (below_drewN (Below.refl _ _) 1) H6.out.size)⟩
    case rest =>
      obtain ⟨w3, hw3⟩ : ∃ w3 : World, w3 = wc := ⟨_, rfl⟩
      subst hw3
      obtain ⟨h3, hf3⟩ := hcut
      obtain ⟨r3, hr3⟩ : ∃ r3, r3 = Sp.rlevel r1 t ⟨dk, dt, dsy, dp⟩ ⟨nm, lt, nu, pa⟩ := ⟨_, rfl⟩
      rw [← hr3] at h3
      rw [← hr3] at HE
      have hrb3 : Sp.RB (N0 + 1) r3 := by rw [hr3]; exact Sp.rlevel_RB _ _ _ HRB2.out
      have hl3 : r3.toks.length = n := by
        rw [hr3, HNN.out]
        unfold Sp.rlevel Sp.rmod
        split <;> simp
      have hx3 := hf3.at HX2.out (by unfold RT; decide)
      have hd3 := hf3.at HD2.out (by unfold RT; decide)
      obtain ⟨k3, hk3⟩ : ∃ k3, r3.toks[t]? = some k3 := ⟨_, List.getElem?_eq_getElem (by rw [hl3]; exact htl)⟩
      obtain ⟨jn, jl, ju, jv, ja, jg⟩ := k3
      have H3 := Lib.hid h3; have HF3 := Lib.hid (HF2.out.trans hf3); have HX3 := Lib.hid hx3; have HD3 := Lib.hid hd3; have HK3 := Lib.hid hk3; have HRB3 := Lib.hid hrb3; have HL3 := Lib.hid hl3
      have x0 := cell_at (i := 0) hx3; have x1 := cell_at (i := 1) hx3; have x2 := cell_at (i := 2) hx3; have x3 := cell_at (i := 3) hx3
      have d0 := cell_at (i := 0) hd3; have d1 := cell_at (i := 1) hd3
      have lx := lt_at hx3; have ld := lt_at hd3
      clear h3 hf3 hr3 hrb3 hl3 hx3 hd3 hk3 HX2 HD2 HF2 HK0 HGD HRB2 HP2 c0 lm lgt
      go_upto_if 88 with fail
      go_cut [] (fun wx => RefAt S B wx m (Sp.rnum r3 t ⟨nm, lt, nu, pa⟩) v1 ∧ RFr B w3 wx)
      case first =>
        by_cases hnu : 0 < nu
        · obtain ⟨b2, hb2⟩ : ∃ b2 : Bool, b2 = decide ((t = 1 ∨ r3.given.getD t false = true) ∨ (Sp.rowner r3.toks nu).isSome = true) := ⟨_, rfl⟩
          have E : Hid (Sp.rnum r3 t ⟨nm, lt, nu, pa⟩ = ⟨r3.toks.set t ⟨jn, jl, nu, jv, ja, jg⟩, r3.given.set t true, r3.types, r3.lefts, r3.prods, if b2 = true then Sp.failF r3.fault pa nm else r3.fault, r3.level, r3.inner⟩) := Lib.hid (by
            unfold Sp.rnum Sp.rmod
            rw [if_pos (by simpa using hnu), Sp.getD_of HK3.out, hb2]
            simp only [decide_eq_true_eq])
          have hsm := HRB3.out.same
          have hle3 := HRB3.out.toks
          obtain ⟨gb, hgb⟩ : ∃ gb, r3.given[t]? = some gb := ⟨_, List.getElem?_eq_getElem (by rw [hsm, HL3.out]; exact htl)⟩
          have hgd : r3.given.getD t false = gb := by rw [List.getD_eq_getElem?_getD, hgb]; rfl
          rw [hgd] at hb2
          have hgi := H3.out.given; have hb := H3.out.block; have hto := H3.out.toks
          rw [hsm, HL3.out] at hgi
          rw [HL3.out] at hto
          rw [HTV.out] at hto
          unfold rkCells at hb
          obtain ⟨gg, cg, hgv⟩ := own_form hgi (by omega)
          rw [hgv] at hgi hb
          have cg2 := row_cell1 hgi hgb htl
          have fg := hgi.frozenAt t
          have c5 := cell_at (i := 5) hb
          have lm := lt_at hb
          have lgg := (hgi.lt gg rfl).2
          have e2 := row_cell hto (fun _ => rfl) HK3.out htl (j := 2) (u := .int .i64 ju) rfl
          have f2 := hto.frozenAt (t * 6 + 2)
          have lgt := (hto.lt gt rfl).2
          have hgne : ¬ gg = gt := fun e => by
            obtain ⟨cu, hcu⟩ := row_block2 hto
            exact (row_ne_cells hgi hcu (by decide) gg rfl) e
          have HB2 := Lib.hid hb2; have HGV := Lib.hid hgv
          clear hsm hgb hgd hgi hto hb hgv hb2
          go_upto_region 14 with fail
          go_cut [106] (fun c wx => c = .bool b2 ∧ w3 = wx)
          case first =>
            by_cases h1 : t = 1
            · have e : b2 = true := by rw [HB2.out]; simp [h1]
              subst e
              subst h1
              go_wp2_with fail
              go_meet
              exact ⟨rfl, rfl⟩
            · have h1d : decide ((t : Int) = 1) = false := decide_eq_false (by omega)
              have h1b : ((t : Int) == 1) = false := by rw [beq_eq_false_iff_ne]; omega
              cases gb with
              | true =>
                have e : b2 = true := by rw [HB2.out]; simp
                subst e
                go_wp2_with fail
                go_meet
                exact ⟨rfl, rfl⟩
              | false =>
                have e : b2 = (Sp.rowner r3.toks nu).isSome := by rw [HB2.out]; simp [h1]
                go_wp2_with fail
                refine (ref_owner nu H3.out HRB3.out (by omega)).mono ?_
                rintro e' w' ⟨rfl, rfl⟩
                cases ho : Sp.rowner r3.toks nu with
                | some k =>
                  have hk0 : (0 : Int) ≤ (k : Int) := Int.natCast_nonneg _
                  rw [ho] at e
                  subst e
                  clear ho
                  dsimp only [ixI]
                  go_wp2_with fail
                  go_meet
                  exact ⟨rfl, rfl⟩
                | none =>
                  rw [ho] at e
                  subst e
                  clear ho
                  dsimp only [ixI]
                  go_wp2_with fail
                  go_meet
                  exact ⟨rfl, rfl⟩
          case rest =>
            obtain ⟨rfl, rfl⟩ := hcut
            obtain ⟨F, hF⟩ : ∃ F, F = if b2 = true then Sp.failF r3.fault pa nm else r3.fault := ⟨_, rfl⟩
            rw [← hF] at E
            have HF := Lib.hid hF
            clear hF
            go_upto_if 106 with fail
            go_cut [] (fun wx => RefAt S B wx m ⟨r3.toks, r3.given, r3.types, r3.lefts, r3.prods, F, r3.level, r3.inner⟩ v1 ∧ RFr B w3 wx)
            case first =>
              cases b2 with
              | true =>
                have e : F = Sp.failF r3.fault pa nm := by rw [HF.out]; rfl
                subst e
                go_wp2_with fail
                refine (ref_fail pa nm H3.out).mono ?_
                rintro e w4 ⟨rfl, h4, hf4, _⟩
                have H4 := Lib.hid h4; have HF4 := Lib.hid hf4
                clear h4 hf4
                go_wp2_with fail
                go_meet
                exact ⟨H4.out, HF4.out⟩
              | false =>
                have e : F = r3.fault := by rw [HF.out]; rfl
                subst e
                go_wp2_with fail
                go_meet
                exact ⟨H3.out, RFr.below (Below.refl _ _) H3.out.size⟩
            case rest =>
              obtain ⟨w4, hw4⟩ : ∃ w4 : World, w4 = wc := ⟨_, rfl⟩
              subst hw4
              obtain ⟨h4, hf4⟩ := hcut
              have hx4 := hf4.at HX3.out (by unfold RT; decide)
              have x2 := cell_at (i := 2) hx4
              have lx := lt_at hx4
              have hb := h4.block; have hgi := h4.given; have hto := h4.toks
              have hsm := HRB3.out.same
              unfold rkCells at hb
              simp only at hb hgi hto
              rw [hsm, HL3.out, HGV.out] at hgi
              rw [HL3.out, HTV.out] at hto
              rw [HGV.out] at hb
              have c5 := cell_at (i := 5) hb
              have lm := lt_at hb
              have lgg := (hgi.lt gg rfl).2; have lgt := (hto.lt gt rfl).2
              obtain ⟨gb4, hgb4⟩ : ∃ gb, r3.given[t]? = some gb := ⟨_, List.getElem?_eq_getElem (by rw [hsm, HL3.out]; exact htl)⟩
              have cg2 := row_cell1 hgi hgb4 htl
              have fg := hgi.frozenAt t
              have e2 := row_cell hto (fun _ => rfl) HK3.out htl (j := 2) (u := .int .i64 ju) rfl
              have f2 := hto.frozenAt (t * 6 + 2)
              have hmgt : ¬ m = gt := fun e => (row_ne_cells hto hb (by decide) gt rfl) e.symm
              obtain ⟨h5, hf5⟩ := h4.tokset (k := t) (off := 2) (t := ⟨jn, jl, ju, jv, ja, jg⟩) (t' := ⟨jn, jl, nu, jv, ja, jg⟩) (u := .int .i64 nu) HTV.out HK3.out (by decide) rfl
              obtain ⟨h6, hf6⟩ := h5.givenset (k := t) true HGV.out
              have H6 := Lib.hid h6; have HF6 := Lib.hid ((hf4.trans hf5).trans hf6)
              clear h4 hf4 hx4 hb hgi hto hsm hgb4 h5 hf5 h6 hf6
              go_wp2_with fail
              go_meet
              rw [E.out]
              exact ⟨H6.out, HF6.out⟩
        · have E : Hid (Sp.rnum r3 t ⟨nm, lt, nu, pa⟩ = r3) := Lib.hid (by unfold Sp.rnum; rw [if_neg (by simpa using hnu)])
          have hnd : decide (0 < nu) = false := decide_eq_false hnu
          go_wp2_with fail
          go_meet
          rw [E.out]
          exact ⟨H3.out, RFr.below (Below.refl _ _) H3.out.size⟩
      case rest =>
        obtain ⟨w4, hw4⟩ : ∃ w4 : World, w4 = wc := ⟨_, rfl⟩
        subst hw4
        obtain ⟨h4, hf4⟩ := hcut
        obtain ⟨r4, hr4⟩ : ∃ r4, r4 = Sp.rnum r3 t ⟨nm, lt, nu, pa⟩ := ⟨_, rfl⟩
        rw [← hr4] at h4
        rw [← hr4] at HE
        have hl4 : r4.toks.length = n := by
          rw [hr4, ← HL3.out]
          unfold Sp.rnum Sp.rmod
          split <;> simp
        have hx4 := hf4.at HX3.out (by unfold RT; decide)
        have hd4 := hf4.at HD3.out (by unfold RT; decide)
        obtain ⟨k4, hk4⟩ : ∃ k4, r4.toks[t]? = some k4 := ⟨_, List.getElem?_eq_getElem (by rw [hl4]; exact htl)⟩
        obtain ⟨jn, jl, ju, jv, ja, jg⟩ := k4
        have hto := h4.toks
        rw [hl4, HTV.out] at hto
        have e5 := row_cell hto (fun _ => rfl) hk4 htl (j := 5) (u := .string ⟨jg.toArray⟩) rfl
        have f5 := hto.frozenAt (t * 6 + 5)
        have lgt := (hto.lt gt rfl).2
        have H4 := Lib.hid h4; have HF4 := Lib.hid (HF3.out.trans hf4); have HX4 := Lib.hid hx4; have HD4 := Lib.hid hd4; have HK4 := Lib.hid hk4
        have x0 := cell_at (i := 0) hx4; have x3 := cell_at (i := 3) hx4
        have d1 := cell_at (i := 1) hd4
        have lx := lt_at hx4; have ld := lt_at hd4
        clear h4 hf4 hr4 hl4 hx4 hd4 hk4 hto HX3 HD3 HF3 HK3 HRB3 HL3 H3 x1 x2 d0
        by_cases hdt : dt = []
        · have E : Hid (Sp.rtag r4 t ⟨dk, dt, dsy, dp⟩ ⟨nm, lt, nu, pa⟩ = r4) := Lib.hid (by unfold Sp.rtag; rw [if_neg (by simpa using hdt)])
          subst hdt
          go_wp2_with fail
          refine bodyPost_end (results_none rfl _ _ _) rfl ?_
          rw [HE.out, E.out]
          exact ⟨rfl, v1, H4.out, HF4.out, HPV.out⟩
        · have hde : dt.isEmpty = false := by cases dt with
            | nil => exact absurd rfl hdt
            | cons a l => rfl
          obtain ⟨F, hF⟩ : ∃ F, F = if jg ≠ [] ∧ jg ≠ dt then Sp.failF r4.fault pa nm else r4.fault := ⟨_, rfl⟩
          have E : Hid (Sp.rtag r4 t ⟨dk, dt, dsy, dp⟩ ⟨nm, lt, nu, pa⟩ = ⟨r4.toks.set t ⟨jn, jl, ju, jv, ja, dt⟩, r4.given, r4.types, r4.lefts, r4.prods, F, r4.level, r4.inner⟩) := Lib.hid (by
            unfold Sp.rtag Sp.rmod
            rw [if_pos (by simpa using hdt), Sp.getD_of HK4.out, hF])
          have HF := Lib.hid hF
          clear hF
          obtain ⟨b3, hb3⟩ : ∃ b3 : Bool, b3 = decide (jg ≠ [] ∧ jg ≠ dt) := ⟨_, rfl⟩
          have HB3 := Lib.hid hb3
          clear hb3
          go_upto_region 19 with fail
          go_cut [140] (fun c wx => c = .bool b3 ∧ Below w4.heap.size w4 wx)
          case first =>
            by_cases hj : jg = []
            · have e : b3 = false := by rw [HB3.out]; simp [hj]
              subst e
              subst hj
              go_quiet (fail)
              go_wp2_with fail
              go_meet
              exact ⟨rfl, below_drewN (Below.refl _ _) _⟩
            · have hje : jg.isEmpty = false := by cases jg with
                | nil => exact absurd rfl hj
                | cons a l => rfl
              by_cases hjt : jg = dt
              · have e : b3 = false := by rw [HB3.out]; simp [hjt]
                subst e
                subst hjt
                go_quiet (fail)
                go_wp2_with fail
                go_meet
                exact ⟨rfl, below_drewN (Below.refl _ _) _⟩
              · have e : b3 = true := by rw [HB3.out]; simp [hj, hjt]
                subst e
                have hjb : (jg == dt) = false := by rw [beq_eq_false_iff_ne]; exact hjt
                have hjn : (jg != dt) = true := by rw [bne_iff_ne]; exact hjt
                go_quiet (fail)
                go_wp2_with fail
                go_meet
                exact ⟨rfl, below_drewN (Below.refl _ _) _⟩
          case rest =>
            obtain ⟨w5, hw5⟩ : ∃ w5 : World, w5 = wc := ⟨_, rfl⟩
            subst hw5
            obtain ⟨rfl, hb5⟩ := hcut
            have H5 := Lib.hid (H4.out.below hb5)
            have HF5 := Lib.hid (HF4.out.trans (RFr.below hb5 H4.out.size))
            have hx5 := (hb5.block _ (lt_at HX4.out)).trans HX4.out
            have hd5 := (hb5.block _ (lt_at HD4.out)).trans HD4.out
            have HX5 := Lib.hid hx5; have HD5 := Lib.hid hd5
            have x0 := cell_at (i := 0) hx5; have x3 := cell_at (i := 3) hx5
            have lx := lt_at hx5
            have d1 := cell_at (i := 1) hd5
            have ld := lt_at hd5
            clear hb5 H4 HF4 HX4 HD4 hx5 hd5 e5 f5 lgt
            go_upto_if 140 with fail
            go_cut [] (fun wx => RefAt S B wx m ⟨r4.toks, r4.given, r4.types, r4.lefts, r4.prods, F, r4.level, r4.inner⟩ v1 ∧ RFr B w5 wx)
            case first =>
              cases b3 with
              | true =>
                have e : F = Sp.failF r4.fault pa nm := by rw [HF.out, if_pos (of_decide_eq_true HB3.out.symm)]
                subst e
                go_wp2_with fail
                refine (ref_fail pa nm H5.out).mono ?_
                rintro e w6 ⟨rfl, h6, hf6, _⟩
                have H6 := Lib.hid h6; have HF6 := Lib.hid hf6
                clear h6 hf6
                go_wp2_with fail
                go_meet
                exact ⟨H6.out, HF6.out⟩
              | false =>
                have e : F = r4.fault := by rw [HF.out, if_neg (of_decide_eq_false HB3.out.symm)]
                subst e
                go_wp2_with fail
                go_meet
                exact ⟨H5.out, RFr.below (Below.refl _ _) H5.out.size⟩
            case rest =>
              obtain ⟨w6, hw6⟩ : ∃ w6 : World, w6 = wc := ⟨_, rfl⟩
              subst hw6
              obtain ⟨h6, hf6⟩ := hcut
              have hd6 := hf6.at HD5.out (by unfold RT; decide)
              have d1 := cell_at (i := 1) hd6
              have ld := lt_at hd6
              have hl6 := (List.getElem?_eq_some_iff.1 HK4.out).1
              have hto := h6.toks
              rw [HTV.out] at hto
              simp only at hto
              obtain ⟨n6, hn6⟩ : ∃ n6, n6 = r4.toks.length := ⟨_, rfl⟩
              rw [← hn6] at hto hl6
              have hnn : n6 = n := by
                rcases hto.2 with ⟨e0, _⟩ | ⟨_, _, _, e0, _⟩
                · simp at e0
                · simp only [Value.slice.injEq] at e0
                  omega
              subst hnn
              have e5 := row_cell hto (fun _ => rfl) HK4.out htl (j := 5) (u := .string ⟨jg.toArray⟩) rfl
              have f5 := hto.frozenAt (t * 6 + 5)
              have lgt := (hto.lt gt rfl).2
              obtain ⟨h7, hf7⟩ := h6.tokset (k := t) (off := 5) (t := ⟨jn, jl, ju, jv, ja, jg⟩) (t' := ⟨jn, jl, ju, jv, ja, dt⟩) (u := .string ⟨dt.toArray⟩) HTV.out HK4.out (by decide) rfl
              have H7 := Lib.hid h7; have HF7 := Lib.hid ((HF5.out.trans hf6).trans hf7)
              clear h6 hf6 hd6 hto h7 hf7 hn6 hl6
              go_wp2_with fail
              refine bodyPost_end (results_none rfl _ _ _) rfl ?_
              rw [HE.out, E.out]
              exact ⟨rfl, v1, H7.out, HF7.out, HPV.out⟩
end Go.Proofs.YtphdfbmmjkccgaaDoor
