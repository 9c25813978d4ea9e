/- read.reader: rule. -/
import Derived.Test.YtphdfbmmjkccgaaDoorZ11
namespace Go.Proofs.YtphdfbmmjkccgaaDoor
open Go.RowKit Go.Maps

set_option maxRecDepth 100000 in
set_option maxHeartbeats 12800000 in
theorem reader_rule {B F : Nat} {W : World} {m : Nat} {ws : List Sp.Word} {s : Sp.RdS} {v : RdV} (h : ReaderAt B W m ws s v) (hbad : s.bad = false) (hrl : s.rules.length ≤ s.i) (hF : s.ws.length < F) :
    Calls Tryd.prog 20 #[.pointer (some ⟨m, 0, none⟩)] W (RdRulePost B W m ws s v (Sp.readRuleC F s.ws)) := by
  obtain ⟨x, l, hx⟩ := h.ends.cons
  have lm := lt_at h.block
  generalize hRR : Sp.readRuleC F s.ws = RR
  have hRR2 := hRR
  rw [hx, Sp.readRuleC_cons] at hRR2
  have HR := Lib.hid hRR2; have HH := Lib.hid h; have HBAD := Lib.hid hbad; have HX := Lib.hid hx; have HF := Lib.hid hF; have HRL := Lib.hid hrl
  have H1 := Lib.hid (reader_is 1 [] h)
  have HM := Lib.hid (fun (b : Bool) (n : Nat) => reader_must b (h.below (below_drewN (Below.refl _ W) n)) hbad)
  cases hb1 : Sp.isW 1 [] s.ws with
  | false =>
    have hR := HR.out
    rw [if_pos (by rw [hx, Sp.isW_any, beq_eq_false_iff_ne] at hb1; exact hb1), ← hx] at hR
    have HR2 := Lib.hid hR
    rw [hb1] at H1
    clear hRR hRR2 hR HR h hbad hx hF hb1 hrl
    go_enter Tryd.func20, Tryd.ntmps20
    go_wp2_with fail
    refine H1.out.mono ?_
    rintro e w' ⟨rfl, n, rfl⟩
    go_wp2_with fail
    refine (HM.out false n).mono ?_
    rintro e w5 ⟨rfl, h5, hf5⟩
    have H5 := Lib.hid h5; have HF5 := Lib.hid (BoxFr.trans (BoxFr.below (below_drewN (Below.refl _ W) n) HH.out.size) hf5)
    clear h5 hf5 HM
    go_wp2_with fail
    refine bodyPost_ret (results_none rfl _ _ _) rfl ?_
    exact ⟨s.i, s.rules, v.rv, rfl, Nat.le_refl _, HRL.out, by rw [← HR2.out]; trivial, by rw [← HR2.out]; exact H5.out, HF5.out.rd⟩
  | true =>
    have hk1 : x.kind = 1 := by rw [hx] at hb1; exact Sp.isW_kind hb1
    have hk : x.kind ≠ 10 := by omega
    have hR := HR.out
    rw [if_neg (by simpa using hk1)] at hR
    have HR2 := Lib.hid hR; have HK := Lib.hid hk
    rw [hb1] at H1
    obtain ⟨gw, cap, hv, hg, hi, a0, a1, a2⟩ := h.words.cells (h.head hx)
    clear hRR hRR2 hR HR hF hb1 hk1 hrl a0
    go_enter Tryd.func20, Tryd.ntmps20
    go_wp2_with fail
    refine H1.out.mono ?_
    rintro e w' ⟨rfl, n, rfl⟩
    go_wp2_with fail
    refine (HM.out true n).mono ?_
    rintro e w1 ⟨rfl, h1, hf1⟩
    have hf01 := BoxFr.trans (BoxFr.below (below_drewN (Below.refl _ W) n) h.size) hf1
    have hwr := HH.out.words.kp hf01.2 (by unfold BoxT; decide)
    obtain ⟨gw2, cap2, hv2, hg2, hi2, a0, a1, a2⟩ := hwr.cells (HH.out.head hx)
    rw [hv] at hv2
    simp only [Value.slice.injEq, Option.some.injEq, Addr.mk.injEq, and_true, true_and] at hv2
    obtain ⟨rfl, rfl⟩ := hv2
    have hmb := h1.block
    unfold rdCells at hmb
    rw [hv] at hmb
    have c0 : w1.cell? ⟨m, 0, none⟩ = some (.slice (some ⟨gw, 0, none⟩) ws.length cap) := cell_at (i := 0) hmb
    have c1 : w1.cell? ⟨m, 1, none⟩ = some (.int .i64 (s.i : Int)) := cell_at (i := 1) hmb
    have lm1 := lt_at hmb
    have hlt := h.lt
    have hsm := h.small
    have H11 := Lib.hid h1; have HF01 := Lib.hid hf01
    clear hwr hmb h1 hf1 hf01 h hbad hx HM H1 lm hv a0 hg
    go_upto_region 1 with fail
    go_region
    go_upto_region 2 with fail
    obtain ⟨X, hX⟩ : ∃ X, X = w1.heap.size := ⟨_, rfl⟩
    obtain ⟨w2, hw2⟩ : ∃ w2 : World, w2 = (w1.alloc (.cells #[.string ⟨x.text.toArray⟩, .slice none 0 0, .int .i64 x.at_] 37)).drew := ⟨_, rfl⟩
    rw [← hX, ← hw2]
    have hb2 : Below w1.heap.size w1 w2 := by rw [hw2]; exact ((Below.refl _ w1).alloc (Nat.le_refl _) _).drew
    have hxb : w2.heap[X]? = some (.cells #[.string ⟨x.text.toArray⟩, .slice none 0 0, .int .i64 x.at_] 37 (0, 0)) := by rw [hw2, hX]; exact heap_last w1 _
    have hr2 := H11.out.below hb2
    have hmb := hr2.block
    unfold rdCells at hmb
    have b1 : w2.cell? ⟨m, 1, none⟩ = some (.int .i64 (s.i : Int)) := cell_at (i := 1) hmb
    have f1 : w2.frozen? ⟨m, 1, none⟩ = false := frozen_at (i := 1) hmb
    have lm := lt_at hmb
    have hw : IntKind.i64.wrap ((s.i : Int) + 1) = (s.i : Int) + 1 := IntWalk.i64_in _ ⟨by omega, by omega⟩
    obtain ⟨hs3, hf3⟩ := hr2.step (s := { s with bad := !true }) (l := l) HX.out HK.out
    have hxge : W.heap.size ≤ X := by rw [hX]; exact HF01.out.size
    have hst3 : RuleR B W m ws s (({ s with bad := !true } : Sp.RdS).next) ⟨x.text, [], x.at_⟩ (.slice none 0 0) v X (w2.setCell ⟨m, 1, none⟩ (.int .i64 ((s.i : Int) + 1))) :=
      ⟨HH.out, hs3, (HF01.out.trans (BoxFr.below hb2 H11.out.size)).trans hf3, hf3.at hxb (by unfold BoxT; decide), OwnR.nil _ _ _ _ _ _, rfl, rfl, rfl, rfl, by unfold Sp.RdS.next; simp, by unfold Sp.RdS.next; simp, hxge⟩
    have HST3 := Lib.hid hst3
    have hml : m < W.heap.size := lt_at HH.out.block
    clear hX hw2 hb2 hxb hr2 hmb hs3 hf3 hst3 hg2 H11 HF01 c0 c1 lm1 a1 a2
    go_upto_region 3 with fail
    clear hw b1 f1 lm
    obtain ⟨w3, hw3⟩ : ∃ w3 : World, w3 = w2.setCell ⟨m, 1, none⟩ (.int .i64 ((s.i : Int) + 1)) := ⟨_, rfl⟩
    rw [← hw3] at HST3 ⊢
    clear hw3
    obtain ⟨s1, hs1⟩ : ∃ s1 : Sp.RdS, s1 = (({ s with bad := !true } : Sp.RdS).next) := ⟨_, rfl⟩
    rw [← hs1] at HST3
    have hwl : s1.ws = l := by rw [hs1]; unfold Sp.RdS.next; simp only; rw [HX.out]; rfl
    have hbd : s1.bad = false := by rw [hs1]; rfl
    have hil : s.i + 1 = s1.i := by rw [hs1]; rfl
    have H2 := Lib.hid (reader_is 6 [58] HST3.out.rd)
    have HM := Lib.hid (fun (b : Bool) (n : Nat) => reader_must b (HST3.out.rd.below (below_drewN (Below.refl _ w3) n)) hbd)
    have HWL := Lib.hid hwl; have HIL := Lib.hid hil
    clear hs1 hbd hil
    cases hb2 : Sp.isW 6 [58] s1.ws with
    | false =>
      have hR := HR2.out
      rw [hwl] at hb2
      rw [if_neg (by rw [hb2]; decide)] at hR
      have HR3 := Lib.hid hR
      rw [hwl, hb2] at H2
      clear hR HR2 hwl hb2
      go_wp2_with fail
      refine H2.out.mono ?_
      rintro e w' ⟨rfl, n3, rfl⟩
      go_wp2_with fail
      refine (HM.out false n3).mono ?_
      rintro e w5 ⟨rfl, h5, hf5⟩
      have hst5 := (HST3.out.below (below_drewN (Below.refl _ w3) n3)).step h5 hf5 rfl rfl rfl rfl (Nat.le_refl _)
      have HST5 := Lib.hid hst5
      clear h5 hf5 HM hst5
      go_wp2_with fail
      refine bodyPost_ret (results_none rfl _ _ _) rfl ?_
      refine ⟨s1.i, s.rules, v.rv, rfl, by have := HIL.out; omega, by have := HIL.out; have := HRL.out; omega, by rw [← HR3.out]; trivial, ?_, HST5.out.fr.rd⟩
      have e := HST5.out.state (r := RR.rest) (b := RR.bd) (by rw [← HR3.out]; exact HWL.out.symm) (by rw [← HR3.out]; rfl)
      rw [show ({ s with i := s1.i, ws := RR.rest, bad := RR.bd, rules := s.rules } : Sp.RdS) = { s with i := s1.i, ws := RR.rest, bad := RR.bd } from rfl, e]
      exact HST5.out.rd
    | true =>
      have hR := HR2.out
      rw [hwl] at hb2
      rw [if_pos hb2] at hR
      obtain ⟨RA, hRA⟩ : ∃ RA, RA = Sp.readAlts F (l.drop 1) [] := ⟨_, rfl⟩
      rw [← hRA] at hR
      have HR3 := Lib.hid hR; have HRA := Lib.hid hRA
      rw [hwl, hb2] at H2
      obtain ⟨y, l1, hy⟩ := (show Sp.WEnd l from by rw [← hwl]; exact HST3.out.rd.ends).cons
      have hky : y.kind ≠ 10 := by rw [hy] at hb2; exact Sp.isW_ten hb2 (by decide)
      have hFl : l1.length < F := by
        have h1 := HF.out
        rw [HX.out, hy] at h1
        simp only [List.length_cons] at h1
        omega
      rw [hy] at hRA
      have HRA := Lib.hid (show RA = Sp.readAlts F l1 [] from hRA)
      have HY := Lib.hid (show s1.ws = y :: l1 from by rw [hwl, hy]); have HKY := Lib.hid hky; have HFL := Lib.hid hFl
      clear hR HR2 hwl hb2 hRA hy hky hFl HF
      go_wp2_with fail
      refine H2.out.mono ?_
      rintro e w' ⟨rfl, n3, rfl⟩
      go_wp2_with fail
      refine (HM.out true n3).mono ?_
      rintro e w5 ⟨rfl, h5, hf5⟩
      have hst5 := (HST3.out.below (below_drewN (Below.refl _ w3) n3)).step h5 hf5 rfl rfl rfl rfl (Nat.le_refl _)
      have HST5 := Lib.hid hst5
      clear h5 hf5 HM hst5 HST3 H2
      go_upto_block 0 with fail
      refine rule_alts _ _ _ _ _ _ _ _ _ _ _ _ _ _ _ _ _ _ _ _ _ _ _ _ _ _ _ _ _ _ _ _ _ _ _ _ _ _ _ _ _ _ _ _ _ _ _ _ _ _ _ _ _ _ _ _ _ _ _ _ _ _ _ _ _ _ _ _ _ _ _ _ _ _ _ _ _ _ _ _ _ _ _ _ _ _ _ _ _ _ _ _ _ _ _ _ _ _ _ _ _ _ _ _ _ _ _ _ _ _ HST5.out rfl HY.out HKY.out HFL.out HRA.out (fun _ _ _ _ h => h) ?_
      intro y3 y44 y45 y46 y47 y48 y49 y50 y51 y52 y53 y54 y55 y56 y57 y58 y59 y60 y61 y62 y63 y64 y65 y66 y67 y68 y69 y70 y71 y72 y73 y74 wc s2 al av hst hfin
      dsimp only
      obtain ⟨w2, hw2⟩ : ∃ w2 : World, w2 = wc := ⟨_, rfl⟩
      subst hw2
      obtain ⟨fo, hro, hrc⟩ := hst.rd.rules
      obtain ⟨rr, rcr, hrv⟩ := ownsRowS_some hro
      obtain ⟨nr, hnr⟩ : ∃ nr, nr = s2.rules.length := ⟨_, rfl⟩
      rw [← hnr] at hrv
      rw [hrv, ← hnr] at hro
      obtain ⟨na, hna⟩ : ∃ na, na = al.length := ⟨_, rfl⟩
      obtain ⟨ra, rc, rfl⟩ : ∃ ra rc, av = .slice ra na rc := by
        obtain ⟨f', h1, _⟩ := hst.alts
        obtain ⟨ra, rc, e⟩ := ownsRowS_some h1
        exact ⟨ra, rc, by rw [hna]; exact e⟩
      have hap : (Value.slice rr nr rcr).ownBlock ≠ some X := by
        intro e
        obtain ⟨f', h1, _⟩ := hst.old.rules
        rw [hrv] at h1
        have := (h1.lt X e).2
        have := hst.xge
        omega
      have HST := Lib.hid hst; have HRO := Lib.hid hro; have HRC := Lib.hid hrc; have HRV := Lib.hid hrv; have HAP := Lib.hid hap; have HFIN := Lib.hid hfin; have HNE := Lib.hid hnr
      have HNR : Hid (nr ≤ 4001) := Lib.hid (by
        have h1 := HRL.out; have h2 := hst.rd.lt; have h3 := hst.rd.small; have h4 := hst.ge; have h5 := hst.er
        rw [hnr, h5]; omega)
      have hBle : B ≤ w2.heap.size := hst.rd.size
      have HSK9 := Lib.hid (fun (w' : World) (kp : Kp (fun b => (Value.slice rr nr rcr).ownBlock ≠ some b) w2 w') => (show ((w'.cell? ⟨m, 5, none⟩ = some (.slice rr nr rcr) ∧ w'.frozen? ⟨m, 5, none⟩ = false) ∧ (w'.cell? ⟨X, 0, none⟩ = some (.string ⟨x.text.toArray⟩) ∧ w'.cell? ⟨X, 1, none⟩ = some (.slice ra na rc) ∧ w'.cell? ⟨X, 2, none⟩ = some (.int .i64 x.at_)) ∧ m < w'.heap.size ∧ X < w'.heap.size) from by
        have hmk := HST.out.rd.block
        have h1 := kp.at hmk (fun e => row_ne_cells HRO.out hmk (by decide) _ e rfl)
        unfold rdCells at h1
        rw [HRV.out] at h1
        have h2 := kp.at HST.out.xbox HAP.out
        unfold ruleC at h2
        exact ⟨⟨cell_at (i := 5) h1, frozen_at (i := 5) h1⟩, ⟨cell_at (i := 0) h2, cell_at (i := 1) h2, cell_at (i := 2) h2⟩, lt_at h1, lt_at h2⟩))
      obtain ⟨ir0, hir0, hrz0, hrz1, hrz2⟩ := info_parts info_ruleE
      clear hst hro hrc hrv hap hfin hnr hna HST5 HRA HFL
      go_upto_region 9 with fail
      refine wp_region_plan (fun w' : World => ((w'.cell? ⟨m, 5, none⟩ = some (.slice rr nr rcr) ∧ w'.frozen? ⟨m, 5, none⟩ = false) ∧ (w'.cell? ⟨X, 0, none⟩ = some (.string ⟨x.text.toArray⟩) ∧ w'.cell? ⟨X, 1, none⟩ = some (.slice ra na rc) ∧ w'.cell? ⟨X, 2, none⟩ = some (.int .i64 x.at_)) ∧ m < w'.heap.size ∧ X < w'.heap.size)) [12] (.take 0 (.take 1 (.take 2 (.take 3 (.take 4 (.take 5 (.take 6 (.one 7 (.one 8 (.one 9 (.one 10 (.one 11 (.one 12 (.done)))))))))))))) (by kernel_rfl) (by kernel_rfl) (fun _ _ _ _ h => h) ?_
      have hSw := HSK9.out _ ((Kp.refl _ w2).drew)
      refine wpPlan_takeD (v := ?vb1) rfl rfl hSw (by rfl) ?yb1 ?_
      case yb1 => (intro w hSx; (try dsimp only at hSx); go_simp; first | done | with_reducible rfl | rfl)
      (try simp only [Act.put, List.setIfInBounds_toArray, List.set_cons_zero, List.set_cons_succ])
      refine wpPlan_takeD (v := ?vb2) rfl rfl hSw (by rfl) ?yb2 ?_
      case yb2 => (intro w hSx; (try dsimp only at hSx); go_simp; first | done | with_reducible rfl | rfl)
      (try simp only [Act.put, List.setIfInBounds_toArray, List.set_cons_zero, List.set_cons_succ])
      refine wpPlan_takeD (v := ?vb3) rfl rfl hSw (by rfl) ?yb3 ?_
      case yb3 => (intro w hSx; (try dsimp only at hSx); go_simp; first | done | with_reducible rfl | rfl)
      (try simp only [Act.put, List.setIfInBounds_toArray, List.set_cons_zero, List.set_cons_succ])
      refine wpPlan_takeD (v := ?vb4) rfl rfl hSw (by rfl) ?yb4 ?_
      case yb4 => (intro w hSx; (try dsimp only at hSx); go_simp; first | done | with_reducible rfl | rfl)
      (try simp only [Act.put, List.setIfInBounds_toArray, List.set_cons_zero, List.set_cons_succ])
      refine wpPlan_takeD (v := ?vb5) rfl rfl hSw (by rfl) ?yb5 ?_
      case yb5 => (intro w hSx; (try dsimp only at hSx); go_simp; first | done | with_reducible rfl | rfl)
      (try simp only [Act.put, List.setIfInBounds_toArray, List.set_cons_zero, List.set_cons_succ])
      refine wpPlan_takeD (v := ?vb6) rfl rfl hSw (by rfl) ?yb6 ?_
      case yb6 => (intro w hSx; (try dsimp only at hSx); go_simp; first | done | with_reducible rfl | rfl)
      (try simp only [Act.put, List.setIfInBounds_toArray, List.set_cons_zero, List.set_cons_succ])
      refine wpPlan_takeD (v := ?vb7) rfl rfl hSw (by rfl) ?yb7 ?_
      case yb7 => (intro w hSx; (try dsimp only at hSx); go_simp; first | done | with_reducible rfl | rfl)
      (try simp only [Act.put, List.setIfInBounds_toArray, List.set_cons_zero, List.set_cons_succ])
      refine wpPlan_run rfl (by rfl) (fun K' hK => ?_)
      go_simp
      refine hK _ _ (.inr ?_) ?_
      · exact HSK9.out _ (((Kp.refl _ w2).drew).alloc (.cells #[.string ⟨x.text.toArray⟩, .slice ra na rc, .int .i64 x.at_] 37))
      clear hK K' hSw
      (try simp only [Act.put, List.setIfInBounds_toArray, List.set_cons_zero, List.set_cons_succ])
      refine wpPlan_run rfl (by rfl) (fun K' hK => ?_)
      (refine wp_append_lies _ _ _ _ (by rfl) B 37 ir0 _ 3 48 Tryd.underlying27 hir0 hrz0 hrz1 hrz2 rfl (by decide) _ _ _ (by rfl) (HRO.out.alloc _) ⟨w2.heap.size, 0, none⟩ 1 1 (ruleC (.slice ra na rc) ⟨x.text, al, x.at_⟩) (by rfl) (by rfl) (World.news_of_block (cs := #[.string ⟨x.text.toArray⟩, .slice ra na rc, .int .i64 x.at_]) (t := 37) (fr := (0, 0)) (heap_last w2 _)) (by simp [Value.oneCell', ruleC]) (by decide) (by have := HNR.out; unfold maxLen; omega) (by have := HNR.out; omega) (by show B ≤ (w2.alloc (.cells #[.string ⟨x.text.toArray⟩, .slice ra na rc, .int .i64 x.at_] 37)).heap.size; simp only [World.size_alloc]; omega) _ rfl ?_; intro g2 c3 w8 hown2 hgrow2 hat2 hlt2; replace hgrow2 : (w2.alloc (.cells #[.string ⟨x.text.toArray⟩, .slice ra na rc, .int .i64 x.at_] 37)).grownBy w8 (Value.slice rr nr rcr).ownBlock := ⟨hgrow2.os, hgrow2.tape, hgrow2.output, hgrow2.size, hgrow2.block⟩; have hk8 : Kp (fun b => (Value.slice rr nr rcr).ownBlock ≠ some b) w2 w8 := ((Kp.refl _ w2).alloc (.cells #[.string ⟨x.text.toArray⟩, .slice ra na rc, .int .i64 x.at_] 37)).grown hgrow2 (fun k hk hs => hs hk); have kt8 : KpT (fun t => t ≠ 37) w2 w8 := (KpT.below ((Below.refl _ w2).alloc (Nat.le_refl _) (.cells #[.string ⟨x.text.toArray⟩, .slice ra na rc, .int .i64 x.at_] 37))).trans (KpT.grown (HRO.out.alloc _) hgrow2))
      refine hK _ _ (.inr ?_) ?_
      · exact HSK9.out _ hk8
      clear hK K'
      (try simp only [Act.put, List.setIfInBounds_toArray, List.set_cons_zero, List.set_cons_succ])
      refine wpPlan_run rfl (by rfl) (fun K' hK => ?_)
      go_simp
      refine hK _ _ (.inr ?_) ?_
      · exact HSK9.out _ hk8
      clear hK K'
      (try simp only [Act.put, List.setIfInBounds_toArray, List.set_cons_zero, List.set_cons_succ])
      refine wpPlan_run rfl (by rfl) (fun K' hK => ?_)
      go_simp
      refine hK _ _ (.inr ?_) ?_
      · exact HSK9.out _ hk8
      clear hK K'
      (try simp only [Act.put, List.setIfInBounds_toArray, List.set_cons_zero, List.set_cons_succ])
      refine wpPlan_run rfl (by rfl) (fun K' hK => ?_)
      go_simp
      refine hK _ _ (.inr ?_) ?_
      · exact HSK9.out _ hk8
      clear hK K'
      (try simp only [Act.put, List.setIfInBounds_toArray, List.set_cons_zero, List.set_cons_succ])
      refine wpPlan_run rfl (by rfl) (fun K' hK => ?_)
      (obtain ⟨⟨z1, z2⟩, _, hlz, _⟩ := HSK9.out _ hk8; go_simp)
      refine hK _ _ (.inl rfl) ?_
      clear hK K'
      (try simp only [Act.put, List.setIfInBounds_toArray, List.set_cons_zero, List.set_cons_succ])
      refine wpPlan_done ?_
      have hown9 : RulesOwn B w8 (.slice (some ⟨g2, 0, none⟩) (nr + 1) c3) (s2.rules ++ [⟨x.text, al, x.at_⟩]) := OwnR.snoc (w := w2) HRC.out (by rw [← HNE.out]; exact hown2) (fun u' a' h' => altsOwn_kp kt8 (by decide) (by decide) u' a' h') ⟨_, alts_kp HST.out.alts kt8 (by decide) (by decide)⟩
      have hB8 : Below B w2 w8 := Kp.below hk8 hBle (fun b hb e => by have := (HRO.out.lt b e).1; omega)
      obtain ⟨h9, hf9⟩ := HST.out.rd.moreRule hown9 kt8 hB8
      obtain ⟨w9, hw9⟩ : ∃ w9 : World, w9 = w8.setCell ⟨m, 5, none⟩ (.slice (some ⟨g2, 0, none⟩) (nr + 1) c3) := ⟨_, rfl⟩
      rw [← hw9] at h9 hf9 ⊢
      have HF9 := Lib.hid (HST.out.fr.rd.trans hf9)
      obtain ⟨v9, hv9⟩ : ∃ v9 : RdV, v9 = { v with rv := .slice (some ⟨g2, 0, none⟩) (nr + 1) c3 } := ⟨_, rfl⟩
      obtain ⟨s9, hs9⟩ : ∃ s9 : Sp.RdS, s9 = { s2 with rules := s2.rules ++ [⟨x.text, al, x.at_⟩] } := ⟨_, rfl⟩
      rw [← hv9, ← hs9] at h9
      have HV9 := Lib.hid hv9
      have hi9 : s9.i = s2.i := by rw [hs9]
      have hw9s : s9.ws = s2.ws := by rw [hs9]
      have hb9 : s9.bad = s2.bad := by rw [hs9]
      have hln9 : (s2.rules ++ [(⟨x.text, al, x.at_⟩ : Sp.Rule)]).length ≤ s2.i := by
        have h1 := HRL.out; have h4 := HST.out.ge; have h5 := HST.out.er
        rw [List.length_append, List.length_singleton, h5]; omega
      have hst9 : ∀ (j : Nat) (r : List Sp.Word) (b : Bool), ({ s with i := j, ws := r, bad := b, rules := s2.rules ++ [⟨x.text, al, x.at_⟩] } : Sp.RdS) = { s9 with i := j, ws := r, bad := b } := by
        intro j r b
        rw [hs9, ← HST.out.state rfl rfl]
      have hir : s.rules = s2.rules := HST.out.er.symm
      have H9 := Lib.hid h9; have HI9 := Lib.hid hi9; have HLN9 := Lib.hid hln9; have HS9 := Lib.hid hst9; have HGE := Lib.hid HST.out.ge; have HIR := Lib.hid hir
      have hmb := h9.block
      unfold rdCells at hmb
      rw [hb9] at hmb
      have b1 : w9.cell? ⟨m, 1, none⟩ = some (.int .i64 (s9.i : Int)) := cell_at (i := 1) hmb
      have f1 : w9.frozen? ⟨m, 1, none⟩ = false := frozen_at (i := 1) hmb
      have b2 : w9.cell? ⟨m, 2, none⟩ = some (.bool s2.bad) := cell_at (i := 2) hmb
      have lm := lt_at hmb
      have HBD := Lib.hid hb9; have HW9 := Lib.hid hw9s
      clear hw9 h9 hf9 hv9 hs9 hi9 hw9s hb9 hln9 hst9 hmb hown9 hB8 hown2 hk8 kt8 hgrow2 hat2 hlt2 z1 z2 hlz HSK9 HRO HRC HAP HRV hir
      have HP1 := Lib.hid (reader_is 1 [] H9.out)
      have HBL := Lib.hid (fun n => H9.out.below (below_drewN (Below.refl _ w9) n))
      rcases HFIN.out with ⟨hbt, hra⟩ | ⟨hbf, hra⟩
      · have hR := HR3.out
        rw [hra] at hR
        have HR4 := Lib.hid hR
        rw [hbt] at b2
        have HB9 := Lib.hid (HBD.out.trans hbt)
        clear hR HR3 HFIN hra
        have HP10 := Lib.hid (fun n => reader_is 10 [] (HBL.out n))
        have HMB := Lib.hid (fun (b : Bool) (n : Nat) => reader_must_bad b (HBL.out n) HB9.out)
        generalize Sp.isW 1 [] s9.ws = p1 at *
        generalize Sp.isW 10 [] s9.ws = p10 at *
        have hfinish : ∀ w', (ReaderAt B w' m ws s9 v9 ∧ ∃ n, BoxFr B (w9.drewN n) w') → RdRulePost B W m ws s v RR (.returned (.tuple #[])) w' := by
          rintro w' ⟨k1, n, k2⟩
          refine ⟨s9.i, s2.rules ++ [⟨x.text, al, x.at_⟩], v9.rv, rfl, by rw [HI9.out]; have := HGE.out; omega, by rw [HI9.out]; exact HLN9.out, by rw [← HR4.out]; trivial, ?_, ?_⟩
          · rw [HS9.out, ← HR4.out]
            have e : ({ s9 with i := s9.i, ws := (Sp.Rd.bad s2.ws : Sp.Rd Sp.Rule).rest, bad := (Sp.Rd.bad s2.ws : Sp.Rd Sp.Rule).bd } : Sp.RdS) = s9 := by
              have h1 := HB9.out; have h2 := HW9.out
              obtain ⟨i1, w1, b1, p1, d1, r1, t1⟩ := s9
              simp only at h1 h2
              subst h1 h2
              rfl
            rw [e, show ({ v with rv := v9.rv } : RdV) = v9 from by rw [HV9.out]]
            exact k1
          · exact HF9.out.trans ((BoxFr.below (below_drewN (Below.refl _ w9) n) H9.out.size).trans k2).rd
        have HFI := Lib.hid hfinish
        clear hfinish
        go_wp2_with fail
        refine HP1.out.mono ?_
        rintro e w' ⟨rfl, n1, rfl⟩
        cases p1
        · go_wp2_with fail
          refine (HP10.out _).mono ?_
          rintro e w' ⟨rfl, n2, rfl⟩
          go_wp2_with fail
          refine (HMB.out p10 _).mono ?_
          rintro e w' ⟨rfl, k1, k2⟩
          have HK1 := Lib.hid (HFI.out _ ⟨k1, _, k2⟩)
          clear k1 k2
          go_wp2_with fail
          refine bodyPost_end (results_none rfl _ _ _) rfl ?_
          exact HK1.out
        · go_wp2_with fail
          refine (HMB.out true _).mono ?_
          rintro e w' ⟨rfl, k1, k2⟩
          have HK1 := Lib.hid (HFI.out _ ⟨k1, _, k2⟩)
          clear k1 k2
          go_wp2_with fail
          refine bodyPost_end (results_none rfl _ _ _) rfl ?_
          exact HK1.out
      · have hR := HR3.out
        rw [hra] at hR
        simp only at hR
        rw [← HW9.out] at hR
        have HR4 := Lib.hid hR
        rw [hbf] at b2
        have HB9 := Lib.hid (HBD.out.trans hbf)
        have HP6 := Lib.hid (reader_is 6 [59] H9.out)
        have HP1 := Lib.hid (fun n => reader_is 1 [] (HBL.out n))
        have HP10 := Lib.hid (fun n => reader_is 10 [] (HBL.out n))
        have HMB := Lib.hid (fun (b : Bool) (n : Nat) => reader_must b (HBL.out n) HB9.out)
        clear hR HR3 HFIN hra
        cases hp6 : Sp.isW 6 [59] s9.ws with
        | true =>
          obtain ⟨z, l9, hz⟩ := H9.out.ends.cons
          have hkz : z.kind ≠ 10 := by rw [hz] at hp6; exact Sp.isW_ten hp6 (by decide)
          have hlt9 := H9.out.lt
          have hsm9 := H9.out.small
          have hw : IntKind.i64.wrap ((s9.i : Int) + 1) = (s9.i : Int) + 1 := IntWalk.i64_in _ ⟨by omega, by omega⟩
          have hR := HR4.out
          rw [if_pos hp6] at hR
          have HR5 := Lib.hid hR
          rw [hp6] at HP6
          have HSP := Lib.hid (fun n => (HBL.out n).step hz hkz)
          clear hR HR4 hp6 hz hkz hlt9 HP1 HP10 HMB
          go_wp2_with fail
          refine HP6.out.mono ?_
          rintro e w' ⟨rfl, n1, rfl⟩
          have HSQ := Lib.hid (HSP.out n1)
          obtain ⟨w10, hw10⟩ : ∃ w10 : World, w10 = w9.drewN n1 := ⟨_, rfl⟩
          have b1' : w10.cell? ⟨m, 1, none⟩ = some (.int .i64 (s9.i : Int)) := by rw [hw10]; exact b1
          have f1' : w10.frozen? ⟨m, 1, none⟩ = false := by rw [hw10]; exact f1
          have lm' : m < w10.heap.size := by rw [hw10]; exact lm
          have HF10 := Lib.hid (show BoxFr B w9 w10 from by rw [hw10]; exact BoxFr.below (below_drewN (Below.refl _ w9) n1) H9.out.size)
          rw [← hw10] at HSQ ⊢
          clear hw10 b1 f1 b2 lm HSP
          go_wp2_with fail
          obtain ⟨k1, k2⟩ := HSQ.out
          refine bodyPost_ret (results_none rfl _ _ _) rfl ?_
          refine ⟨s9.i + 1, s2.rules ++ [⟨x.text, al, x.at_⟩], v9.rv, rfl, by rw [HI9.out]; have := HGE.out; omega, by rw [HI9.out]; have := HLN9.out; omega, by rw [← HR5.out]; simp only; rw [HIR.out], ?_, ?_⟩
          · rw [HS9.out, ← HR5.out]
            have e : ({ s9 with i := s9.i + 1, ws := (Sp.Rd.ok (⟨x.text, al, x.at_⟩ : Sp.Rule) (s9.ws.drop 1)).rest, bad := (Sp.Rd.ok (⟨x.text, al, x.at_⟩ : Sp.Rule) (s9.ws.drop 1)).bd } : Sp.RdS) = s9.next := by
              have h1 := HB9.out
              obtain ⟨i1, w1, b1, p1, d1, r1, t1⟩ := s9
              simp only at h1
              subst h1
              rfl
            rw [e, show ({ v with rv := v9.rv } : RdV) = v9 from by rw [HV9.out]]
            exact k1
          · exact HF9.out.trans (HF10.out.trans k2).rd
        | false =>
          have hR := HR4.out
          rw [if_neg (by rw [hp6]; decide)] at hR
          have HR5 := Lib.hid hR
          rw [hp6] at HP6
          clear hR HR4 hp6
          generalize hq1 : Sp.isW 1 [] s9.ws = p1 at *
          generalize hq10 : Sp.isW 10 [] s9.ws = p10 at *
          clear hq1 hq10
          have hfinish : ∀ (p : Bool) w', p = (p1 || p10) → (ReaderAt B w' m ws { s9 with bad := !p } v9 ∧ ∃ n, BoxFr B (w9.drewN n) w') → RdRulePost B W m ws s v RR (.returned (.tuple #[])) w' := by
            rintro p w' hp ⟨k1, n, k2⟩
            have hfr : RdFr B W w' := HF9.out.trans ((BoxFr.below (below_drewN (Below.refl _ w9) n) H9.out.size).trans k2).rd
            have hR := HR5.out
            rw [← hp] at hR
            cases p
            · rw [if_neg (by decide)] at hR
              refine ⟨s9.i, s2.rules ++ [⟨x.text, al, x.at_⟩], v9.rv, rfl, by rw [HI9.out]; have := HGE.out; omega, by rw [HI9.out]; exact HLN9.out, by rw [← hR]; trivial, ?_, hfr⟩
              rw [HS9.out, ← hR, show ({ v with rv := v9.rv } : RdV) = v9 from by rw [HV9.out]]
              exact k1
            · rw [if_pos rfl] at hR
              refine ⟨s9.i, s2.rules ++ [⟨x.text, al, x.at_⟩], v9.rv, rfl, by rw [HI9.out]; have := HGE.out; omega, by rw [HI9.out]; exact HLN9.out, by rw [← hR]; simp only; rw [HIR.out], ?_, hfr⟩
              rw [HS9.out, ← hR, show ({ v with rv := v9.rv } : RdV) = v9 from by rw [HV9.out]]
              exact k1
          have HFI := Lib.hid hfinish
          clear hfinish HR5
          go_wp2_with fail
          refine HP6.out.mono ?_
          rintro e w' ⟨rfl, n0, rfl⟩
          go_wp2_with fail
          refine (HP1.out n0).mono ?_
          rintro e w' ⟨rfl, n1, rfl⟩
          cases p1
          · go_wp2_with fail
            refine (HP10.out _).mono ?_
            rintro e w' ⟨rfl, n2, rfl⟩
            go_wp2_with fail
            refine (HMB.out p10 _).mono ?_
            rintro e w' ⟨rfl, k1, k2⟩
            have HK1 := Lib.hid (HFI.out p10 _ (by simp) ⟨k1, _, k2⟩)
            clear k1 k2
            go_wp2_with fail
            refine bodyPost_end (results_none rfl _ _ _) rfl ?_
            exact HK1.out
          · go_wp2_with fail
            refine (HMB.out true _).mono ?_
            rintro e w' ⟨rfl, k1, k2⟩
            have HK1 := Lib.hid (HFI.out true _ (by simp) ⟨k1, _, k2⟩)
            clear k1 k2
            go_wp2_with fail
            refine bodyPost_end (results_none rfl _ _ _) rfl ?_
            exact HK1.out
end Go.Proofs.YtphdfbmmjkccgaaDoor
