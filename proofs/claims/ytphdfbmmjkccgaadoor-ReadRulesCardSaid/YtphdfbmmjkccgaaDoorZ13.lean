/- read.reader: decl. -/
import Derived.Deep.CutBlock
import Derived.Test.YtphdfbmmjkccgaaDoorZ12
namespace Go.Proofs.YtphdfbmmjkccgaaDoor
open Go.RowKit Go.Maps

theorem four_set {w : World} {b : Nat} {t : TypeId} {c0 c1 c2 c3 : Value} (h : w.heap[b]? = some (.cells #[c0, c1, c2, c3] t (0, 0))) (a0 a1 a2 a3 : Value) :
    ((((w.setCell ⟨b, 0, none⟩ a0).setCell ⟨b, 1, none⟩ a1).setCell ⟨b, 2, none⟩ a2).setCell ⟨b, 3, none⟩ a3).heap[b]? = some (.cells #[a0, a1, a2, a3] t (0, 0)) := by
  rw [heap_setCell_at (heap_setCell_at (heap_setCell_at (heap_setCell_at h)))]
  rfl
theorem four_below {W w : World} {B b : Nat} {t : TypeId} {cs : Array Value} {fr : Nat × Nat} (_h : w.heap[b]? = some (.cells cs t fr)) (hb : Below B W w) (hB : B ≤ b) (a0 a1 a2 a3 : Value) :
    Below B W ((((w.setCell ⟨b, 0, none⟩ a0).setCell ⟨b, 1, none⟩ a1).setCell ⟨b, 2, none⟩ a2).setCell ⟨b, 3, none⟩ a3) := by
  have k : Kp (fun k => k ≠ b) w ((((w.setCell ⟨b, 0, none⟩ a0).setCell ⟨b, 1, none⟩ a1).setCell ⟨b, 2, none⟩ a2).setCell ⟨b, 3, none⟩ a3) := ((((Kp.refl _ w).setCell (by simp) _).setCell (by simp) _).setCell (by simp) _).setCell (by simp) _
  exact hb.trans (Kp.below k (by have := lt_at _h; omega) (fun c hc => by omega))
set_option maxRecDepth 100000 in
set_option maxHeartbeats 25600000 in
theorem reader_decl {B : Nat} {W : World} {m : Nat} {ws : List Sp.Word} {s : Sp.RdS} {v : RdV} {x : Sp.Word} {l : List Sp.Word} (h : ReaderAt B W m ws s v) (hbad : s.bad = false) (hdl : s.decls.length ≤ s.i) (hgood : ∀ w ∈ ws, Sp.GoodW w) (hx : s.ws = x :: l) (hk : x.kind ≠ 10) :
    Calls Tryd.prog 35 #[.pointer (some ⟨m, 0, none⟩)] W (RdDeclPost B W m ws s v (Sp.readDecl (Sp.rdKind x.text) x.at_ l)) := by
  generalize hRR : Sp.readDecl (Sp.rdKind x.text) x.at_ l = RR
  have HR := Lib.hid hRR; have HH := Lib.hid h; have HBAD := Lib.hid hbad; have HX := Lib.hid hx; have HK := Lib.hid hk; have HDL := Lib.hid hdl; have HGOOD := Lib.hid hgood
  obtain ⟨w1, hw1⟩ : ∃ w1 : World, w1 = W.alloc (.cells #[.pointer (some ⟨m, 0, none⟩)] 72) := ⟨_, rfl⟩
  have hb1 : Below W.heap.size W w1 := by rw [hw1]; exact (Below.refl _ W).alloc (Nat.le_refl _) _
  have hrb : w1.heap[W.heap.size]? = some (.cells #[.pointer (some ⟨m, 0, none⟩)] 72 (0, 0)) := by rw [hw1]; exact heap_last W _
  obtain ⟨gw, cap, hv, hg, hi, a0, a1, a2⟩ := (h.below hb1).words.cells (h.head hx)
  have hmb := (h.below hb1).block
  unfold rdCells at hmb
  rw [hv] at hmb
  have HRB := Lib.hid hrb; have HMB := Lib.hid hmb; have HA1 := Lib.hid a1; have HA2 := Lib.hid a2; have HG := Lib.hid hg; have HB1 := Lib.hid hb1
  have HSK := Lib.hid (fun (w' : World) (hb : Below w1.heap.size w1 w') => (show ((w'.cell? ⟨W.heap.size, 0, none⟩ = some (.pointer (some ⟨m, 0, none⟩)) ∧ w'.cell? ⟨m, 0, none⟩ = some (.slice (some ⟨gw, 0, none⟩) ws.length cap) ∧ w'.cell? ⟨m, 1, none⟩ = some (.int .i64 (s.i : Int)) ∧ w'.cell? ⟨gw, s.i * 3 + 1, none⟩ = some (.string ⟨x.text.toArray⟩) ∧ w'.cell? ⟨gw, s.i * 3 + 2, none⟩ = some (.int .i64 x.at_)) ∧ W.heap.size < w'.heap.size ∧ m < w'.heap.size ∧ gw < w'.heap.size) from by
    have h1 := (hb.block _ (lt_at HRB.out)).trans HRB.out
    have h2 := (hb.block _ (lt_at HMB.out)).trans HMB.out
    exact ⟨⟨cell_at (i := 0) h1, cell_at (i := 0) h2, cell_at (i := 1) h2, (hb.cell (p := ⟨gw, s.i * 3 + 1, none⟩) HG.out).trans HA1.out, (hb.cell (p := ⟨gw, s.i * 3 + 2, none⟩) HG.out).trans HA2.out⟩, lt_at h1, lt_at h2, Nat.lt_of_lt_of_le HG.out hb.size⟩))
  have hlt := h.lt
  have hsm := h.small
  clear hRR h hbad hx hk hdl hgood hb1 hrb hv hg hi a0 a1 a2 hmb
  go_enter Tryd.func35, Tryd.ntmps35
  go_upto_region 1 with fail
  rw [← hw1]
  clear hw1
  go_cut [2] (fun c2 wx => ∃ D, c2 = .pointer (some ⟨D, 0, none⟩) ∧ W.heap.size < D ∧ Below w1.heap.size w1 wx ∧ wx.heap[D]? = some (.cells #[.int .i64 (Sp.rdKind x.text), .string ⟨#[]⟩, .slice none 0 0, .int .i64 x.at_] 51 (0, 0)))
  case first =>
    refine wp_region_plan (fun w' : World => ((w'.cell? ⟨W.heap.size, 0, none⟩ = some (.pointer (some ⟨m, 0, none⟩)) ∧ w'.cell? ⟨m, 0, none⟩ = some (.slice (some ⟨gw, 0, none⟩) ws.length cap) ∧ w'.cell? ⟨m, 1, none⟩ = some (.int .i64 (s.i : Int)) ∧ w'.cell? ⟨gw, s.i * 3 + 1, none⟩ = some (.string ⟨x.text.toArray⟩) ∧ w'.cell? ⟨gw, s.i * 3 + 2, none⟩ = some (.int .i64 x.at_)) ∧ W.heap.size < w'.heap.size ∧ m < w'.heap.size ∧ gw < w'.heap.size)) [25] (.take 0 (.take 1 (.take 2 (.take 3 (.take 4 (.take 5 (.take 6 (.take 7 (.take 8 (.take 9 (.take 10 (.take 12 (.take 13 (.take 14 (.take 15 (.take 16 (.take 17 (.take 18 (.take 19 (.take 20 (.take 21 (.take 22 (.two 11 24 (.take 23 (.one 24 (.one 25 (.done)))) (.one 11 (.take 23 (.one 25 (.done))))))))))))))))))))))))))) (by kernel_rfl) (by kernel_rfl) (fun _ _ _ _ h => h) ?_
    have hSw := HSK.out _ (below_drewN (Below.refl _ w1) 1)
    refine wpPlan_takeD (v := ?va1) rfl rfl hSw (by rfl) ?ya1 ?_
    case ya1 => (intro w hSx; (try dsimp only at hSx); go_simp; first | done | with_reducible rfl | rfl)
    (try simp only [Act.put, List.setIfInBounds_toArray, List.set_cons_zero, List.set_cons_succ])
    refine wpPlan_takeD (v := ?va2) rfl rfl hSw (by rfl) ?ya2 ?_
    case ya2 => (intro w hSx; (try dsimp only at hSx); go_simp; first | done | with_reducible rfl | rfl)
    (try simp only [Act.put, List.setIfInBounds_toArray, List.set_cons_zero, List.set_cons_succ])
    refine wpPlan_takeD (v := ?va3) rfl rfl hSw (by rfl) ?ya3 ?_
    case ya3 => (intro w hSx; (try dsimp only at hSx); go_simp; first | done | with_reducible rfl | rfl)
    (try simp only [Act.put, List.setIfInBounds_toArray, List.set_cons_zero, List.set_cons_succ])
    refine wpPlan_takeD (v := ?va4) rfl rfl hSw (by rfl) ?ya4 ?_
    case ya4 => (intro w hSx; (try dsimp only at hSx); go_simp; first | done | with_reducible rfl | rfl)
    (try simp only [Act.put, List.setIfInBounds_toArray, List.set_cons_zero, List.set_cons_succ])
    refine wpPlan_takeD (v := ?va5) rfl rfl hSw (by rfl) ?ya5 ?_
    case ya5 => (intro w hSx; (try dsimp only at hSx); go_simp; first | done | with_reducible rfl | rfl)
    (try simp only [Act.put, List.setIfInBounds_toArray, List.set_cons_zero, List.set_cons_succ])
    refine wpPlan_takeD (v := ?va6) rfl rfl hSw (by rfl) ?ya6 ?_
    case ya6 => (intro w hSx; (try dsimp only at hSx); go_simp; first | done | with_reducible rfl | rfl)
    (try simp only [Act.put, List.setIfInBounds_toArray, List.set_cons_zero, List.set_cons_succ])
    refine wpPlan_takeD (v := ?va7) rfl rfl hSw (by rfl) ?ya7 ?_
    case ya7 => (intro w hSx; (try dsimp only at hSx); go_simp; first | done | with_reducible rfl | rfl)
    (try simp only [Act.put, List.setIfInBounds_toArray, List.set_cons_zero, List.set_cons_succ])
    refine wpPlan_takeD (v := ?va8) rfl rfl hSw (by rfl) ?ya8 ?_
    case ya8 => (intro w hSx; (try dsimp only at hSx); go_simp; first | done | with_reducible rfl | rfl)
    (try simp only [Act.put, List.setIfInBounds_toArray, List.set_cons_zero, List.set_cons_succ])
    refine wpPlan_takeD (v := ?va9) rfl rfl hSw (by rfl) ?ya9 ?_
    case ya9 => (intro w hSx; (try dsimp only at hSx); go_simp; first | done | with_reducible rfl | rfl)
    (try simp only [Act.put, List.setIfInBounds_toArray, List.set_cons_zero, List.set_cons_succ])
    refine wpPlan_takeD (v := ?va10) rfl rfl hSw (by rfl) ?ya10 ?_
    case ya10 => (intro w hSx; (try dsimp only at hSx); go_simp; first | done | with_reducible rfl | rfl)
    (try simp only [Act.put, List.setIfInBounds_toArray, List.set_cons_zero, List.set_cons_succ])
    refine wpPlan_takeD (v := ?va11) rfl rfl hSw (by rfl) ?ya11 ?_
    case ya11 => (intro w hSx; (try dsimp only at hSx); go_simp; first | done | with_reducible rfl | rfl)
    (try simp only [Act.put, List.setIfInBounds_toArray, List.set_cons_zero, List.set_cons_succ])
    refine wpPlan_takeD (v := ?va12) rfl rfl hSw (by rfl) ?ya12 ?_
    case ya12 => (intro w hSx; (try dsimp only at hSx); go_simp; first | done | with_reducible rfl | rfl)
    (try simp only [Act.put, List.setIfInBounds_toArray, List.set_cons_zero, List.set_cons_succ])
    refine wpPlan_takeD (v := ?va13) rfl rfl hSw (by rfl) ?ya13 ?_
    case ya13 => (intro w hSx; (try dsimp only at hSx); go_simp; first | done | with_reducible rfl | rfl)
    (try simp only [Act.put, List.setIfInBounds_toArray, List.set_cons_zero, List.set_cons_succ])
    refine wpPlan_takeD (v := ?va14) rfl rfl hSw (by rfl) ?ya14 ?_
    case ya14 => (intro w hSx; (try dsimp only at hSx); go_simp; first | done | with_reducible rfl | rfl)
    (try simp only [Act.put, List.setIfInBounds_toArray, List.set_cons_zero, List.set_cons_succ])
    refine wpPlan_takeD (v := ?va15) rfl rfl hSw (by rfl) ?ya15 ?_
    case ya15 => (intro w hSx; (try dsimp only at hSx); go_simp; first | done | with_reducible rfl | rfl)
    (try simp only [Act.put, List.setIfInBounds_toArray, List.set_cons_zero, List.set_cons_succ])
    refine wpPlan_takeD (v := ?va16) rfl rfl hSw (by rfl) ?ya16 ?_
    case ya16 => (intro w hSx; (try dsimp only at hSx); go_simp; first | done | with_reducible rfl | rfl)
    (try simp only [Act.put, List.setIfInBounds_toArray, List.set_cons_zero, List.set_cons_succ])
    refine wpPlan_takeD (v := ?va17) rfl rfl hSw (by rfl) ?ya17 ?_
    case ya17 => (intro w hSx; (try dsimp only at hSx); go_simp; first | done | with_reducible rfl | rfl)
    (try simp only [Act.put, List.setIfInBounds_toArray, List.set_cons_zero, List.set_cons_succ])
    refine wpPlan_takeD (v := ?va18) rfl rfl hSw (by rfl) ?ya18 ?_
    case ya18 => (intro w hSx; (try dsimp only at hSx); go_simp; first | done | with_reducible rfl | rfl)
    (try simp only [Act.put, List.setIfInBounds_toArray, List.set_cons_zero, List.set_cons_succ])
    refine wpPlan_takeD (v := ?va19) rfl rfl hSw (by rfl) ?ya19 ?_
    case ya19 => (intro w hSx; (try dsimp only at hSx); go_simp; first | done | with_reducible rfl | rfl)
    (try simp only [Act.put, List.setIfInBounds_toArray, List.set_cons_zero, List.set_cons_succ])
    refine wpPlan_takeD (v := ?va20) rfl rfl hSw (by rfl) ?ya20 ?_
    case ya20 => (intro w hSx; (try dsimp only at hSx); go_simp; first | done | with_reducible rfl | rfl)
    (try simp only [Act.put, List.setIfInBounds_toArray, List.set_cons_zero, List.set_cons_succ])
    refine wpPlan_takeD (v := ?va21) rfl rfl hSw (by rfl) ?ya21 ?_
    case ya21 => (intro w hSx; (try dsimp only at hSx); go_simp; first | done | with_reducible rfl | rfl)
    (try simp only [Act.put, List.setIfInBounds_toArray, List.set_cons_zero, List.set_cons_succ])
    refine wpPlan_takeD (v := ?va22) rfl rfl hSw (by rfl) ?ya22 ?_
    case ya22 => (intro w hSx; (try dsimp only at hSx); go_simp; first | done | with_reducible rfl | rfl)
    (try simp only [Act.put, List.setIfInBounds_toArray, List.set_cons_zero, List.set_cons_succ])
    refine wpPlan_two ?_ ?_
    · refine wpPlan_run rfl (by rfl) (fun K' hK => ?_)
      (go_simp; go_at_call 34; refine (reader_kind x.text _).mono ?_; rintro e w3 ⟨rfl, hb3'⟩; have hb3 : Below w1.heap.size w1 w3 := below_undrew hb3'; clear hb3')
      refine hK _ _ (.inr ?_) ?_
      · exact HSK.out _ hb3
      clear hK K' hSw
      have hSw := HSK.out _ hb3
      (try simp only [Act.put, List.setIfInBounds_toArray, List.set_cons_zero, List.set_cons_succ])
      refine wpPlan_takeD (v := ?va23) rfl rfl hSw (by rfl) ?ya23 ?_
      case ya23 => (intro w hSx; (try dsimp only at hSx); go_simp; first | done | with_reducible rfl | rfl)
      (try simp only [Act.put, List.setIfInBounds_toArray, List.set_cons_zero, List.set_cons_succ])
      refine wpPlan_run rfl (by rfl) (fun K' hK => ?_)
      go_simp
      refine hK _ _ (.inr ?_) ?_
      · exact HSK.out _ (hb3.alloc (hb3.size) (.cells #[.int .i64 0, .string ⟨#[]⟩, .slice none 0 0, .int .i64 0] 51))
      clear hK K' hSw
      (try simp only [Act.put, List.setIfInBounds_toArray, List.set_cons_zero, List.set_cons_succ])
      refine wpPlan_run rfl (by rfl) (fun K' hK => ?_)
      go_simp
      refine hK _ _ (.inl rfl) ?_
      clear hK K'
      (try simp only [Act.put, List.setIfInBounds_toArray, List.set_cons_zero, List.set_cons_succ])
      refine wpPlan_done ?_
      go_wp2_with fail
      go_meet
      exact ⟨w3.heap.size, rfl, by have := hb3.size; have := lt_at HRB.out; omega, hb3.alloc hb3.size _, heap_last w3 _⟩
    · refine wpPlan_run rfl (by rfl) (fun K' hK => ?_)
      go_simp
      refine hK _ _ (.inr ?_) ?_
      · exact HSK.out _ (below_drewN ((Below.refl _ w1).alloc (Nat.le_refl _) (.cells #[.int .i64 0, .string ⟨#[]⟩, .slice none 0 0, .int .i64 0] 51)) 1)
      clear hK K' hSw
      have hSw := HSK.out _ (below_drewN ((Below.refl _ w1).alloc (Nat.le_refl _) (.cells #[.int .i64 0, .string ⟨#[]⟩, .slice none 0 0, .int .i64 0] 51)) 1)
      (try simp only [Act.put, List.setIfInBounds_toArray, List.set_cons_zero, List.set_cons_succ])
      refine wpPlan_run rfl (by rfl) (fun K' hK => ?_)
      (go_simp; go_at_call 34; refine (reader_kind x.text _).mono ?_; rintro e w3 ⟨rfl, hb3'⟩; have hb3 : Below w1.heap.size w1 w3 := ((Below.refl _ w1).alloc (Nat.le_refl _) (.cells #[.int .i64 0, .string ⟨#[]⟩, .slice none 0 0, .int .i64 0] 51)).trans ((show Below (w1.heap.size + 1) (w1.alloc (.cells #[.int .i64 0, .string ⟨#[]⟩, .slice none 0 0, .int .i64 0] 51)) w3 from below_undrew (by simpa using hb3')).mono (by omega)); have hdz : w3.heap[w1.heap.size]? = some (.cells #[.int .i64 0, .string ⟨#[]⟩, .slice none 0 0, .int .i64 0] 51 (0, 0)) := (hb3'.block w1.heap.size (by simp)).trans (heap_last w1 _); have z0 := cell_at (i := 0) hdz; have y0 := frozen_at (i := 0) hdz; have z1 := cell_at (i := 1) hdz; have y1 := frozen_at (i := 1) hdz; have z2 := cell_at (i := 2) hdz; have y2 := frozen_at (i := 2) hdz; have z3 := cell_at (i := 3) hdz; have y3 := frozen_at (i := 3) hdz; have hlz := lt_at hdz; clear hb3')
      refine hK _ _ (.inr ?_) ?_
      · exact HSK.out _ hb3
      clear hK K' hSw
      have hSw := HSK.out _ hb3
      (try simp only [Act.put, List.setIfInBounds_toArray, List.set_cons_zero, List.set_cons_succ])
      refine wpPlan_takeD (v := ?va24) rfl rfl hSw (by rfl) ?ya24 ?_
      case ya24 => (intro w hSx; (try dsimp only at hSx); go_simp; first | done | with_reducible rfl | rfl)
      (try simp only [Act.put, List.setIfInBounds_toArray, List.set_cons_zero, List.set_cons_succ])
      refine wpPlan_run rfl (by rfl) (fun K' hK => ?_)
      go_simp
      refine hK _ _ (.inl rfl) ?_
      clear hK K' hSw
      (try simp only [Act.put, List.setIfInBounds_toArray, List.set_cons_zero, List.set_cons_succ])
      refine wpPlan_done ?_
      go_wp2_with fail
      go_meet
      exact ⟨w1.heap.size, rfl, lt_at HRB.out, four_below hdz hb3 (Nat.le_refl _) _ _ _ _, (four_set hdz _ _ _ _)⟩
  case rest =>
    obtain ⟨w2, hw2⟩ : ∃ w2 : World, w2 = wc := ⟨_, rfl⟩
    subst hw2
    obtain ⟨D, rfl, hWD, hb12, hdb⟩ := hcut
    have hr2 := HH.out.below (HB1.out.trans (hb12.mono (by have := HB1.out.size; omega)))
    have hrb := (hb12.block _ (lt_at HRB.out)).trans HRB.out
    have hmb := hr2.block
    unfold rdCells at hmb
    have r0 : w2.cell? ⟨W.heap.size, 0, none⟩ = some (.pointer (some ⟨m, 0, none⟩)) := cell_at (i := 0) hrb
    have b1 : w2.cell? ⟨m, 1, none⟩ = some (.int .i64 (s.i : Int)) := cell_at (i := 1) hmb
    have f1 : w2.frozen? ⟨m, 1, none⟩ = false := frozen_at (i := 1) hmb
    have lr := lt_at hrb
    have lm := lt_at hmb
    have hw : IntKind.i64.wrap ((s.i : Int) + 1) = (s.i : Int) + 1 := IntWalk.i64_in _ ⟨by omega, by omega⟩
    obtain ⟨hs3, hf3⟩ := hr2.step HX.out HK.out
    obtain ⟨k, hk⟩ : ∃ k, k = Sp.rdKind x.text := ⟨_, rfl⟩
    rw [← hk] at hdb HR
    have hst3 : DeclR B W m ws s s.next ⟨k, [], [], x.at_⟩ (.slice none 0 0) v D (w2.setCell ⟨m, 1, none⟩ (.int .i64 ((s.i : Int) + 1))) :=
      ⟨HH.out, hs3, (BoxFr.below (HB1.out.trans (hb12.mono (by have := HB1.out.size; omega))) HH.out.size).trans hf3, hf3.at hrb (by unfold BoxT; decide), hf3.at hdb (by unfold BoxT; decide), World.ownsRow_nil _ _ _ _, rfl, rfl, rfl, rfl, by unfold Sp.RdS.next; simp, by unfold Sp.RdS.next; simp, hWD⟩
    have HST3 := Lib.hid hst3
    clear hb12 hdb hr2 hrb hmb hs3 hf3 hst3 HMB HA1 HA2 HG HSK hk
    go_upto_region 3 with fail
    clear hw b1 f1 r0 lr lm hlt hsm
    obtain ⟨w3, hw3⟩ : ∃ w3 : World, w3 = w2.setCell ⟨m, 1, none⟩ (.int .i64 ((s.i : Int) + 1)) := ⟨_, rfl⟩
    rw [← hw3] at HST3 ⊢
    clear hw3
    obtain ⟨s1, hs1⟩ : ∃ s1 : Sp.RdS, s1 = s.next := ⟨_, rfl⟩
    rw [← hs1] at HST3
    have HW1 := Lib.hid (show s1.ws = l from by rw [hs1]; unfold Sp.RdS.next; simp only; rw [HX.out]; rfl)
    have HBD := Lib.hid (show s1.bad = false from by rw [hs1]; exact HBAD.out)
    have HI1 := Lib.hid (show s.i + 1 = s1.i from by rw [hs1]; rfl)
    clear hs1
    have hdb := HST3.out.dbox
    have d0 : w3.cell? ⟨D, 0, none⟩ = some (.int .i64 k) := cell_at (i := 0) hdb
    have ld := lt_at hdb
    clear hdb
    obtain ⟨y, l2, hy⟩ := (show Sp.WEnd l from by rw [← HW1.out]; exact HST3.out.rd.ends).cons
    by_cases hk6 : k = 6
    · subst hk6
      have hR := HR.out
      unfold Sp.readDecl at hR
      rw [if_pos rfl, hy] at hR
      simp only at hR
      have HR2 := Lib.hid hR; have HY := Lib.hid (show s1.ws = y :: l2 from by rw [HW1.out, hy])
      have HP := Lib.hid (fun (w' : World) (hb : Below w3.heap.size w3 w') => reader_is 1 [] (HST3.out.rd.below hb))
      have HMU := Lib.hid (fun (b : Bool) (w' : World) (hb : Below w3.heap.size w3 w') => reader_must b (HST3.out.rd.below hb) HBD.out)
      have HS4 := Lib.hid (fun (w' : World) (hb : BoxFr B w3 w') => (show (w'.cell? ⟨W.heap.size, 0, none⟩ = some (.pointer (some ⟨m, 0, none⟩)) ∧ W.heap.size < w'.heap.size) from by
        have h1 := hb.at HST3.out.rbox (by unfold BoxT; decide)
        exact ⟨cell_at (i := 0) h1, lt_at h1⟩))
      have hBw := HST3.out.rd.size
      cases hp : Sp.isW 1 [] s1.ws with
      | false =>
        have hR := HR2.out
        rw [if_neg (by rw [HY.out, Sp.isW_any, beq_eq_false_iff_ne] at hp; exact hp), ← HY.out] at hR
        have HR3 := Lib.hid hR
        rw [hp] at HP
        clear hR HR2 HR hp hy
        go_upto_region 4 with fail
        refine wp_region_plan (fun w' : World => (w'.cell? ⟨W.heap.size, 0, none⟩ = some (.pointer (some ⟨m, 0, none⟩)) ∧ W.heap.size < w'.heap.size)) [3] (.take 0 (.take 1 (.one 2 (.one 3 (.done))))) (by kernel_rfl) (by kernel_rfl) (fun _ _ _ _ h => h) ?_
        have hSw := HS4.out _ (BoxFr.below (below_drewN (Below.refl _ w3) 1) hBw)
        refine wpPlan_takeD (v := ?vd25) rfl rfl hSw (by rfl) ?yd25 ?_
        case yd25 => (intro w hSx; (try dsimp only at hSx); go_simp; first | done | with_reducible rfl | rfl)
        (try simp only [Act.put, List.setIfInBounds_toArray, List.set_cons_zero, List.set_cons_succ])
        refine wpPlan_takeD (v := ?vd26) rfl rfl hSw (by rfl) ?yd26 ?_
        case yd26 => (intro w hSx; (try dsimp only at hSx); go_simp; first | done | with_reducible rfl | rfl)
        (try simp only [Act.put, List.setIfInBounds_toArray, List.set_cons_zero, List.set_cons_succ])
        refine wpPlan_run rfl (by rfl) (fun K' hK => ?_)
        (go_simp; go_at_call 19; refine (HP.out _ (below_drewN (Below.refl _ w3) 1)).mono ?_; rintro e w4 ⟨rfl, n4, rfl⟩; have hb4 : Below w3.heap.size w3 (w3.drewN (1 + n4)) := below_drewN (Below.refl _ w3) (1 + n4))
        refine hK _ _ (.inr ?_) ?_
        · exact HS4.out _ (BoxFr.below (below_drewN (below_drewN (Below.refl _ w3) 1) n4) hBw)
        clear hK K' hSw
        (try simp only [Act.put, List.setIfInBounds_toArray, List.set_cons_zero, List.set_cons_succ])
        refine wpPlan_run rfl (by rfl) (fun K' hK => ?_)
        (go_simp; go_at_call 33; refine (HMU.out false _ hb4).mono ?_; rintro e w5 ⟨rfl, h5, hf5⟩; have H5 := Lib.hid h5; have HF5 := Lib.hid ((BoxFr.below hb4 hBw).trans hf5); clear h5 hf5 hb4)
        refine hK _ _ (.inl rfl) ?_
        clear hK K'
        (try simp only [Act.put, List.setIfInBounds_toArray, List.set_cons_zero, List.set_cons_succ])
        refine wpPlan_done ?_
        have hst5 := HST3.out.step H5.out HF5.out rfl rfl rfl rfl (Nat.le_refl _)
        obtain ⟨sv, hst5⟩ : ∃ sv, DeclR B W m ws s _ _ sv v D w5 := ⟨_, hst5⟩
        have HST5 := Lib.hid hst5
        clear hst5 HF5 H5 HP HMU HS4 d0 ld
        have hrow := HST5.out.row
        obtain ⟨ra, rc, hsv⟩ := ownsRowS_some hrow
        obtain ⟨ns, hns⟩ : ∃ ns, ns = (⟨6, [], [], x.at_⟩ : Sp.Decl).syms.length := ⟨_, rfl⟩
        rw [← hns] at hsv hrow
        subst hsv
        have HROW := Lib.hid hrow
        obtain ⟨fo, hro, hrc⟩ := HST5.out.rd.decls
        obtain ⟨rr, rcr, hrv⟩ := ownsRowS_some hro
        obtain ⟨nr, hnr⟩ : ∃ nr, nr = ({ s1 with bad := !false } : Sp.RdS).decls.length := ⟨_, rfl⟩
        rw [← hnr] at hrv
        rw [hrv, ← hnr] at hro
        have hap : (Value.slice rr nr rcr).ownBlock ≠ some D := by
          intro e
          obtain ⟨f', h1, _⟩ := HST5.out.old.decls
          rw [hrv] at h1
          have := (h1.lt D e).2
          have := HST5.out.dge
          omega
        have HRO := Lib.hid hro; have HRC := Lib.hid hrc; have HRV := Lib.hid hrv; have HAP := Lib.hid hap; have HNE := Lib.hid hnr; have HNS := Lib.hid hns
        have HNR : Hid (nr ≤ 4001) := Lib.hid (by
          have h1 := HDL.out; have h2 := HST5.out.rd.lt; have h3 := HST5.out.rd.small; have h4 := HST5.out.ge; have h5 := HST5.out.ed
          rw [hnr, h5]; omega)
        have hBle : B ≤ w5.heap.size := HST5.out.rd.size
        have HSK9 := Lib.hid (fun (w' : World) (kp : Kp (fun b => (Value.slice rr nr rcr).ownBlock ≠ some b) w5 w') => (show ((w'.cell? ⟨W.heap.size, 0, none⟩ = some (.pointer (some ⟨m, 0, none⟩)) ∧ w'.cell? ⟨m, 4, none⟩ = some (.slice rr nr rcr) ∧ w'.frozen? ⟨m, 4, none⟩ = false) ∧ (w'.cell? ⟨D, 0, none⟩ = some (.int .i64 6) ∧ w'.cell? ⟨D, 1, none⟩ = some (.string ⟨#[]⟩) ∧ w'.cell? ⟨D, 2, none⟩ = some (.slice ra ns rc) ∧ w'.cell? ⟨D, 3, none⟩ = some (.int .i64 x.at_)) ∧ W.heap.size < w'.heap.size ∧ m < w'.heap.size ∧ D < w'.heap.size) from by
          have hmk := HST5.out.rd.block
          have h1 := kp.at hmk (fun e => row_ne_cells HRO.out hmk (by decide) _ e rfl)
          unfold rdCells at h1
          rw [HRV.out] at h1
          have h2 := kp.at HST5.out.dbox HAP.out
          unfold declC at h2
          have h3 := kp.at HST5.out.rbox (fun e => row_ne_cells HRO.out HST5.out.rbox (by decide) _ e rfl)
          exact ⟨⟨cell_at (i := 0) h3, cell_at (i := 4) h1, frozen_at (i := 4) h1⟩, ⟨cell_at (i := 0) h2, cell_at (i := 1) h2, cell_at (i := 2) h2, cell_at (i := 3) h2⟩, lt_at h3, lt_at h1, lt_at h2⟩))
        obtain ⟨ir0, hir0, hrz0, hrz1, hrz2⟩ := info_parts info_declE
        clear hrow hro hrc hrv hap hnr hns
        go_upto_region 6 with fail
        refine wp_region_plan (fun w' : World => ((w'.cell? ⟨W.heap.size, 0, none⟩ = some (.pointer (some ⟨m, 0, none⟩)) ∧ w'.cell? ⟨m, 4, none⟩ = some (.slice rr nr rcr) ∧ w'.frozen? ⟨m, 4, none⟩ = false) ∧ (w'.cell? ⟨D, 0, none⟩ = some (.int .i64 6) ∧ w'.cell? ⟨D, 1, none⟩ = some (.string ⟨#[]⟩) ∧ w'.cell? ⟨D, 2, none⟩ = some (.slice ra ns rc) ∧ w'.cell? ⟨D, 3, none⟩ = some (.int .i64 x.at_)) ∧ W.heap.size < w'.heap.size ∧ m < w'.heap.size ∧ D < w'.heap.size)) [12] (.take 0 (.take 1 (.take 2 (.take 3 (.take 4 (.take 5 (.take 6 (.one 7 (.one 8 (.one 9 (.one 10 (.one 11 (.one 12 (.done)))))))))))))) (by kernel_rfl) (by kernel_rfl) (fun _ _ _ _ h => h) ?_
        have hSw := HSK9.out _ ((Kp.refl _ w5).drew)
        refine wpPlan_takeD (v := ?ve27) rfl rfl hSw (by rfl) ?ye27 ?_
        case ye27 => (intro w hSx; (try dsimp only at hSx); go_simp; first | done | with_reducible rfl | rfl)
        (try simp only [Act.put, List.setIfInBounds_toArray, List.set_cons_zero, List.set_cons_succ])
        refine wpPlan_takeD (v := ?ve28) rfl rfl hSw (by rfl) ?ye28 ?_
        case ye28 => (intro w hSx; (try dsimp only at hSx); go_simp; first | done | with_reducible rfl | rfl)
        (try simp only [Act.put, List.setIfInBounds_toArray, List.set_cons_zero, List.set_cons_succ])
        refine wpPlan_takeD (v := ?ve29) rfl rfl hSw (by rfl) ?ye29 ?_
        case ye29 => (intro w hSx; (try dsimp only at hSx); go_simp; first | done | with_reducible rfl | rfl)
        (try simp only [Act.put, List.setIfInBounds_toArray, List.set_cons_zero, List.set_cons_succ])
        refine wpPlan_takeD (v := ?ve30) rfl rfl hSw (by rfl) ?ye30 ?_
        case ye30 => (intro w hSx; (try dsimp only at hSx); go_simp; first | done | with_reducible rfl | rfl)
        (try simp only [Act.put, List.setIfInBounds_toArray, List.set_cons_zero, List.set_cons_succ])
        refine wpPlan_takeD (v := ?ve31) rfl rfl hSw (by rfl) ?ye31 ?_
        case ye31 => (intro w hSx; (try dsimp only at hSx); go_simp; first | done | with_reducible rfl | rfl)
        (try simp only [Act.put, List.setIfInBounds_toArray, List.set_cons_zero, List.set_cons_succ])
        refine wpPlan_takeD (v := ?ve32) rfl rfl hSw (by rfl) ?ye32 ?_
        case ye32 => (intro w hSx; (try dsimp only at hSx); go_simp; first | done | with_reducible rfl | rfl)
        (try simp only [Act.put, List.setIfInBounds_toArray, List.set_cons_zero, List.set_cons_succ])
        refine wpPlan_takeD (v := ?ve33) rfl rfl hSw (by rfl) ?ye33 ?_
        case ye33 => (intro w hSx; (try dsimp only at hSx); go_simp; first | done | with_reducible rfl | rfl)
        (try simp only [Act.put, List.setIfInBounds_toArray, List.set_cons_zero, List.set_cons_succ])
        refine wpPlan_run rfl (by rfl) (fun K' hK => ?_)
        go_simp
        refine hK _ _ (.inr ?_) ?_
        · exact HSK9.out _ (((Kp.refl _ w5).drew).alloc (.cells #[.int .i64 6, .string ⟨#[]⟩, .slice ra ns rc, .int .i64 x.at_] 51))
        clear hK K' hSw
        (try simp only [Act.put, List.setIfInBounds_toArray, List.set_cons_zero, List.set_cons_succ])
        refine wpPlan_run rfl (by rfl) (fun K' hK => ?_)
        (refine wp_append_lies _ _ _ _ (by rfl) B 51 ir0 _ 4 56 Tryd.underlying26 hir0 hrz0 hrz1 hrz2 rfl (by decide) _ _ _ (by rfl) (HRO.out.alloc _) ⟨w5.heap.size, 0, none⟩ 1 1 (declC (.slice ra ns rc) ⟨6, [], [], x.at_⟩) (by rfl) (by rfl) (World.news_of_block (cs := #[.int .i64 6, .string ⟨#[]⟩, .slice ra ns rc, .int .i64 x.at_]) (t := 51) (fr := (0, 0)) (heap_last w5 _)) (by simp [Value.oneCell', declC]) (by decide) (by have := HNR.out; unfold maxLen; omega) (by have := HNR.out; omega) (by show B ≤ (w5.alloc (.cells #[.int .i64 6, .string ⟨#[]⟩, .slice ra ns rc, .int .i64 x.at_] 51)).heap.size; simp only [World.size_alloc]; omega) _ rfl ?_; intro g2 c3 w8 hown2 hgrow2 hat2 hlt2; replace hgrow2 : (w5.alloc (.cells #[.int .i64 6, .string ⟨#[]⟩, .slice ra ns rc, .int .i64 x.at_] 51)).grownBy w8 (Value.slice rr nr rcr).ownBlock := ⟨hgrow2.os, hgrow2.tape, hgrow2.output, hgrow2.size, hgrow2.block⟩; have hk8 : Kp (fun b => (Value.slice rr nr rcr).ownBlock ≠ some b) w5 w8 := ((Kp.refl _ w5).alloc (.cells #[.int .i64 6, .string ⟨#[]⟩, .slice ra ns rc, .int .i64 x.at_] 51)).grown hgrow2 (fun k hk hs => hs hk); have kt8 : KpT (fun t => t ≠ 51) w5 w8 := (KpT.below ((Below.refl _ w5).alloc (Nat.le_refl _) (.cells #[.int .i64 6, .string ⟨#[]⟩, .slice ra ns rc, .int .i64 x.at_] 51))).trans (KpT.grown (HRO.out.alloc _) hgrow2))
        refine hK _ _ (.inr ?_) ?_
        · exact HSK9.out _ hk8
        clear hK K'
        (try simp only [Act.put, List.setIfInBounds_toArray, List.set_cons_zero, List.set_cons_succ])
        refine wpPlan_run rfl (by rfl) (fun K' hK => ?_)
        go_simp
        refine hK _ _ (.inr ?_) ?_
        · exact HSK9.out _ hk8
        clear hK K'
        (try simp only [Act.put, List.setIfInBounds_toArray, List.set_cons_zero, List.set_cons_succ])
        refine wpPlan_run rfl (by rfl) (fun K' hK => ?_)
        go_simp
        refine hK _ _ (.inr ?_) ?_
        · exact HSK9.out _ hk8
        clear hK K'
        (try simp only [Act.put, List.setIfInBounds_toArray, List.set_cons_zero, List.set_cons_succ])
        refine wpPlan_run rfl (by rfl) (fun K' hK => ?_)
        go_simp
        refine hK _ _ (.inr ?_) ?_
        · exact HSK9.out _ hk8
        clear hK K'
        (try simp only [Act.put, List.setIfInBounds_toArray, List.set_cons_zero, List.set_cons_succ])
        refine wpPlan_run rfl (by rfl) (fun K' hK => ?_)
        (obtain ⟨⟨_, z1, z2⟩, _, _, hlz, _⟩ := HSK9.out _ hk8; go_simp)
        refine hK _ _ (.inl rfl) ?_
        clear hK K'
        (try simp only [Act.put, List.setIfInBounds_toArray, List.set_cons_zero, List.set_cons_succ])
        refine wpPlan_done ?_
        have hown9 : DeclsOwn B w8 (.slice (some ⟨g2, 0, none⟩) (nr + 1) c3) (({ s1 with bad := !false } : Sp.RdS).decls ++ [⟨6, [], [], x.at_⟩]) := OwnR.snoc (w := w5) HRC.out (by rw [← HNE.out]; exact hown2) (fun u' a' h' => symsOwn_kp kt8 (by decide) u' a' h') ⟨_, ownsRow_kpT (by rw [← HNS.out]; exact HROW.out) kt8 (by decide)⟩
        have hB8 : Below B w5 w8 := Kp.below hk8 hBle (fun b hb e => by have := (HRO.out.lt b e).1; omega)
        obtain ⟨h9, hf9⟩ := HST5.out.rd.moreDecl hown9 kt8 hB8
        have HF9 := Lib.hid (HST5.out.fr.rd.trans hf9)
        have H9 := Lib.hid h9
        clear h9 hf9 hown9 hB8 hown2 hk8 kt8 hgrow2 hat2 hlt2 z1 z2 hlz HSK9 HRO HRC HAP
        go_wp2_with fail
        refine bodyPost_ret (results_none rfl _ _ _) rfl ?_
        refine ⟨s1.i, s1.decls ++ [⟨6, [], [], x.at_⟩], .slice (some ⟨g2, 0, none⟩) (nr + 1) c3, rfl, by have := HI1.out; omega, ?_, by rw [← HR3.out]; trivial, ?_, HF9.out⟩
        rotate_left
        · have e : ({ s with i := s1.i, ws := RR.rest, bad := RR.bd, decls := s1.decls ++ [⟨6, [], [], x.at_⟩] } : Sp.RdS) = { ({ s1 with bad := !false } : Sp.RdS) with decls := s1.decls ++ [⟨6, [], [], x.at_⟩] } := by
            rw [← HR3.out, ← HST5.out.state rfl rfl]
            rfl
          rw [e]
          exact H9.out
        · have h1 := HDL.out; have h5 := HST5.out.ed; have h6 := HI1.out
          simp only at h5
          rw [List.length_append, List.length_singleton, h5]; omega
      | true =>
        have hky1 : y.kind = 1 := by rw [HY.out] at hp; exact Sp.isW_kind hp
        have hR := HR2.out
        rw [if_pos hky1] at hR
        have HR3 := Lib.hid hR; have HKY := Lib.hid (show y.kind ≠ 10 by omega)
        rw [hp] at HP
        clear hR HR2 HR hp hy hky1
        go_upto_region 4 with fail
        refine wp_region_plan (fun w' : World => (w'.cell? ⟨W.heap.size, 0, none⟩ = some (.pointer (some ⟨m, 0, none⟩)) ∧ W.heap.size < w'.heap.size)) [3] (.take 0 (.take 1 (.one 2 (.one 3 (.done))))) (by kernel_rfl) (by kernel_rfl) (fun _ _ _ _ h => h) ?_
        have hSw := HS4.out _ (BoxFr.below (below_drewN (Below.refl _ w3) 1) hBw)
        refine wpPlan_takeD (v := ?ve34) rfl rfl hSw (by rfl) ?ye34 ?_
        case ye34 => (intro w hSx; (try dsimp only at hSx); go_simp; first | done | with_reducible rfl | rfl)
        (try simp only [Act.put, List.setIfInBounds_toArray, List.set_cons_zero, List.set_cons_succ])
        refine wpPlan_takeD (v := ?ve35) rfl rfl hSw (by rfl) ?ye35 ?_
        case ye35 => (intro w hSx; (try dsimp only at hSx); go_simp; first | done | with_reducible rfl | rfl)
        (try simp only [Act.put, List.setIfInBounds_toArray, List.set_cons_zero, List.set_cons_succ])
        refine wpPlan_run rfl (by rfl) (fun K' hK => ?_)
        (go_simp; go_at_call 19; refine (HP.out _ (below_drewN (Below.refl _ w3) 1)).mono ?_; rintro e w4 ⟨rfl, n4, rfl⟩; have hb4 : Below w3.heap.size w3 (w3.drewN (1 + n4)) := below_drewN (Below.refl _ w3) (1 + n4))
        refine hK _ _ (.inr ?_) ?_
        · exact HS4.out _ (BoxFr.below (below_drewN (below_drewN (Below.refl _ w3) 1) n4) hBw)
        clear hK K' hSw
        (try simp only [Act.put, List.setIfInBounds_toArray, List.set_cons_zero, List.set_cons_succ])
        refine wpPlan_run rfl (by rfl) (fun K' hK => ?_)
        (go_simp; go_at_call 33; refine (HMU.out true _ hb4).mono ?_; rintro e w5 ⟨rfl, h5, hf5⟩; have H5 := Lib.hid h5; have HF5 := Lib.hid ((BoxFr.below hb4 hBw).trans hf5); clear h5 hf5 hb4)
        refine hK _ _ (.inl rfl) ?_
        clear hK K'
        (try simp only [Act.put, List.setIfInBounds_toArray, List.set_cons_zero, List.set_cons_succ])
        refine wpPlan_done ?_
        have hst5 := HST3.out.step H5.out HF5.out rfl rfl rfl rfl (Nat.le_refl _)
        have HST5 := Lib.hid hst5
        clear hst5 HF5 H5 HP HMU HS4 d0 ld
        obtain ⟨s2, hs2⟩ : ∃ s2 : Sp.RdS, s2 = ({ s1 with bad := !true } : Sp.RdS) := ⟨_, rfl⟩
        rw [← hs2] at HST5
        have HY2 := Lib.hid (show s2.ws = y :: l2 from by rw [hs2]; exact HY.out)
        have HB2 := Lib.hid (show s2.bad = false from by rw [hs2]; rfl)
        have HI2 := Lib.hid (show s2.i = s1.i from by rw [hs2])
        clear hs2
        have HSY := Lib.hid (fun (w' : World) (hb : Below w5.heap.size w5 w') => (show Calls Tryd.prog 62 #[.pointer (some ⟨m, 0, none⟩)] w' (fun e w'' => e = .returned (.agg #[.string ⟨y.text.toArray⟩, .bool (y.kind == 2), .int .i64 0, .int .i64 y.at_]) ∧ ReaderAt B w'' m ws s2.next v ∧ BoxFr B w' w'') from reader_sym (HST5.out.rd.below hb) HY2.out HKY.out))
        have HSK := Lib.hid (fun (w' : World) (hb : KpT (fun t => t = 51 ∨ t = 72) w5 w') => (show ((w'.cell? ⟨W.heap.size, 0, none⟩ = some (.pointer (some ⟨m, 0, none⟩)) ∧ w'.cell? ⟨D, 2, none⟩ = some (.slice none 0 0) ∧ w'.frozen? ⟨D, 2, none⟩ = false) ∧ W.heap.size < w'.heap.size ∧ D < w'.heap.size) from by
          have h1 := hb _ _ _ _ HST5.out.rbox (.inr rfl)
          have h2 := hb _ _ _ _ HST5.out.dbox (.inl rfl)
          exact ⟨⟨cell_at (i := 0) h1, cell_at (i := 2) h2, frozen_at (i := 2) h2⟩, lt_at h1, lt_at h2⟩))
        have hWle := HST5.out.fr.size
        obtain ⟨is0, his0, hsz0, hsz1, hsz2⟩ := info_parts info_symE
        go_upto_region 5 with fail
        refine wp_region_plan (fun w' : World => ((w'.cell? ⟨W.heap.size, 0, none⟩ = some (.pointer (some ⟨m, 0, none⟩)) ∧ w'.cell? ⟨D, 2, none⟩ = some (.slice none 0 0) ∧ w'.frozen? ⟨D, 2, none⟩ = false) ∧ W.heap.size < w'.heap.size ∧ D < w'.heap.size)) [7] (.take 0 (.take 1 (.take 2 (.one 3 (.one 4 (.one 5 (.one 6 (.one 7 (.done))))))))) (by kernel_rfl) (by kernel_rfl) (fun _ _ _ _ h => h) ?_
        have hSw := HSK.out _ (show KpT (fun t => t = 51 ∨ t = 72) w5 (w5.drew) from fun _ _ _ _ h _ => h)
        refine wpPlan_takeD (v := ?vf36) rfl rfl hSw (by rfl) ?yf36 ?_
        case yf36 => (intro w hSx; (try dsimp only at hSx); go_simp; first | done | with_reducible rfl | rfl)
        (try simp only [Act.put, List.setIfInBounds_toArray, List.set_cons_zero, List.set_cons_succ])
        refine wpPlan_takeD (v := ?vf37) rfl rfl hSw (by rfl) ?yf37 ?_
        case yf37 => (intro w hSx; (try dsimp only at hSx); go_simp; first | done | with_reducible rfl | rfl)
        (try simp only [Act.put, List.setIfInBounds_toArray, List.set_cons_zero, List.set_cons_succ])
        refine wpPlan_takeD (v := ?vf38) rfl rfl hSw (by rfl) ?yf38 ?_
        case yf38 => (intro w hSx; (try dsimp only at hSx); go_simp; first | done | with_reducible rfl | rfl)
        (try simp only [Act.put, List.setIfInBounds_toArray, List.set_cons_zero, List.set_cons_succ])
        refine wpPlan_run rfl (by rfl) (fun K' hK => ?_)
        (go_simp; go_at_call 62; refine (HSY.out _ (below_drewN (Below.refl _ w5) 1)).mono ?_; rintro e w6 ⟨rfl, h6, hf6'⟩; have hf6 : BoxFr B w5 w6 := ⟨below_undrew hf6'.1, hf6'.2⟩; have H6 := Lib.hid h6; have HF6 := Lib.hid hf6; have hk3 : KpT (fun t => t = 51 ∨ t = 72) w5 w6 := hf6.2.mono (fun t ht => by unfold BoxT; rcases ht with rfl | rfl <;> decide); have hsz6 := hf6.size; clear hf6' h6 hf6)
        refine hK _ _ (.inr ?_) ?_
        · exact HSK.out _ hk3
        clear hK K' hSw
        (try simp only [Act.put, List.setIfInBounds_toArray, List.set_cons_zero, List.set_cons_succ])
        refine wpPlan_run rfl (by rfl) (fun K' hK => ?_)
        go_simp
        refine hK _ _ (.inr ?_) ?_
        · exact HSK.out _ (hk3.alloc (.cells #[.string ⟨y.text.toArray⟩, .bool (y.kind == 2), .int .i64 0, .int .i64 y.at_] 40))
        clear hK K'
        (try simp only [Act.put, List.setIfInBounds_toArray, List.set_cons_zero, List.set_cons_succ])
        refine wpPlan_run rfl (by rfl) (fun K' hK => ?_)
        (refine wp_append_lies _ _ _ _ (by rfl) W.heap.size 40 is0 _ 4 40 Tryd.underlying49 his0 hsz0 hsz1 hsz2 rfl (by decide) _ _ _ (by rfl) (World.ownsRow_nil _ _ _ _) ⟨w6.heap.size, 0, none⟩ 1 1 (symC (Sp.rdSym y)) (by rfl) (by rfl) (World.news_of_block (cs := #[.string ⟨y.text.toArray⟩, .bool (y.kind == 2), .int .i64 0, .int .i64 y.at_]) (t := 40) (fr := (0, 0)) (heap_last w6 _)) (by simp [Value.oneCell', symC]) (by decide) (by unfold maxLen; omega) (by omega) (by show W.heap.size ≤ (w6.alloc (.cells #[.string ⟨y.text.toArray⟩, .bool (y.kind == 2), .int .i64 0, .int .i64 y.at_] 40)).heap.size; simp only [World.size_alloc]; omega) _ rfl ?_; intro g1 c1 w8 hown1 hgrow1 hat1 hlt1; replace hgrow1 : (w6.alloc (.cells #[.string ⟨y.text.toArray⟩, .bool (y.kind == 2), .int .i64 0, .int .i64 y.at_] 40)).grownBy w8 (Value.slice none 0 0).ownBlock := ⟨hgrow1.os, hgrow1.tape, hgrow1.output, hgrow1.size, hgrow1.block⟩; have hk8 : Kp (fun b => (Value.slice none 0 0).ownBlock ≠ some b) w6 w8 := ((Kp.refl _ w6).alloc (.cells #[.string ⟨y.text.toArray⟩, .bool (y.kind == 2), .int .i64 0, .int .i64 y.at_] 40)).grown hgrow1 (fun k hk hs => hs hk); have kt8 : KpT (fun t => t ≠ 40) w6 w8 := (KpT.below ((Below.refl _ w6).alloc (Nat.le_refl _) (.cells #[.string ⟨y.text.toArray⟩, .bool (y.kind == 2), .int .i64 0, .int .i64 y.at_] 40))).trans (KpT.grown (World.ownsRow_nil _ W.heap.size 40 4) hgrow1))
        refine hK _ _ (.inr ?_) ?_
        · exact HSK.out _ (hk3.trans (kt8.mono (fun t ht => by rcases ht with rfl | rfl <;> decide)))
        clear hK K'
        (try simp only [Act.put, List.setIfInBounds_toArray, List.set_cons_zero, List.set_cons_succ])
        refine wpPlan_run rfl (by rfl) (fun K' hK => ?_)
        go_simp
        refine hK _ _ (.inr ?_) ?_
        · exact HSK.out _ (hk3.trans (kt8.mono (fun t ht => by rcases ht with rfl | rfl <;> decide)))
        clear hK K'
        (try simp only [Act.put, List.setIfInBounds_toArray, List.set_cons_zero, List.set_cons_succ])
        refine wpPlan_run rfl (by rfl) (fun K' hK => ?_)
        (obtain ⟨⟨_, z1, z2⟩, _, hlz⟩ := HSK.out _ (hk3.trans (kt8.mono (fun t ht => by rcases ht with rfl | rfl <;> decide))); go_simp)
        refine hK _ _ (.inl rfl) ?_
        clear hK K'
        (try simp only [Act.put, List.setIfInBounds_toArray, List.set_cons_zero, List.set_cons_succ])
        refine wpPlan_done ?_
        have hst7 := (HST5.out.step H6.out HF6.out rfl rfl rfl rfl (by unfold Sp.RdS.next; simp)).push (q := Sp.rdSym y) (by have := HI2.out; have := HI1.out; unfold Sp.RdS.next; simp only; simp; omega) hk8 kt8 hown1
        obtain ⟨w7, hw7⟩ : ∃ w7 : World, w7 = w8.setCell ⟨D, 2, none⟩ (.slice (some ⟨g1, 0, none⟩) 1 c1) := ⟨_, rfl⟩
        obtain ⟨sv, hst7⟩ : ∃ sv, DeclR B W m ws s s2.next ⟨6, [], [Sp.rdSym y], x.at_⟩ sv v D w7 := ⟨_, by rw [hw7]; exact hst7⟩
        have HST7 := Lib.hid hst7
        (try simp only [Nat.zero_add])
        rw [← hw7]
        have HW7 := Lib.hid (show s2.next.ws = l2 from by unfold Sp.RdS.next; simp only; rw [HY2.out]; rfl)
        have HI7 := Lib.hid (show s2.next.i = s1.i + 1 from by unfold Sp.RdS.next; simp only; rw [HI2.out])
        obtain ⟨s7, hs7⟩ : ∃ s7 : Sp.RdS, s7 = s2.next := ⟨_, rfl⟩
        have HB7 := Lib.hid (show s7.bad = false from by rw [hs7]; exact HB2.out)
        rw [← hs7] at HST7 HW7 HI7
        clear hst7 hw7 hown1 hk8 kt8 hat1 hgrow1 hlt1 hk3 HSK HSY H6 HF6 HST5 z1 z2 hlz hs7
        have hrow := HST7.out.row
        obtain ⟨ra, rc, hsv⟩ := ownsRowS_some hrow
        obtain ⟨ns, hns⟩ : ∃ ns, ns = (⟨6, [], [Sp.rdSym y], x.at_⟩ : Sp.Decl).syms.length := ⟨_, rfl⟩
        rw [← hns] at hsv hrow
        subst hsv
        have HROW := Lib.hid hrow
        obtain ⟨fo, hro, hrc⟩ := HST7.out.rd.decls
        obtain ⟨rr, rcr, hrv⟩ := ownsRowS_some hro
        obtain ⟨nr, hnr⟩ : ∃ nr, nr = s7.decls.length := ⟨_, rfl⟩
        rw [← hnr] at hrv
        rw [hrv, ← hnr] at hro
        have hap : (Value.slice rr nr rcr).ownBlock ≠ some D := by
          intro e
          obtain ⟨f', h1, _⟩ := HST7.out.old.decls
          rw [hrv] at h1
          have := (h1.lt D e).2
          have := HST7.out.dge
          omega
        have HRO := Lib.hid hro; have HRC := Lib.hid hrc; have HRV := Lib.hid hrv; have HAP := Lib.hid hap; have HNE := Lib.hid hnr; have HNS := Lib.hid hns
        have HNR : Hid (nr ≤ 4001) := Lib.hid (by
          have h1 := HDL.out; have h2 := HST7.out.rd.lt; have h3 := HST7.out.rd.small; have h4 := HST7.out.ge; have h5 := HST7.out.ed
          rw [hnr, h5]; omega)
        have hBle : B ≤ w7.heap.size := HST7.out.rd.size
        have HSK9 := Lib.hid (fun (w' : World) (kp : Kp (fun b => (Value.slice rr nr rcr).ownBlock ≠ some b) w7 w') => (show ((w'.cell? ⟨W.heap.size, 0, none⟩ = some (.pointer (some ⟨m, 0, none⟩)) ∧ w'.cell? ⟨m, 4, none⟩ = some (.slice rr nr rcr) ∧ w'.frozen? ⟨m, 4, none⟩ = false) ∧ (w'.cell? ⟨D, 0, none⟩ = some (.int .i64 6) ∧ w'.cell? ⟨D, 1, none⟩ = some (.string ⟨#[]⟩) ∧ w'.cell? ⟨D, 2, none⟩ = some (.slice ra ns rc) ∧ w'.cell? ⟨D, 3, none⟩ = some (.int .i64 x.at_)) ∧ W.heap.size < w'.heap.size ∧ m < w'.heap.size ∧ D < w'.heap.size) from by
          have hmk := HST7.out.rd.block
          have h1 := kp.at hmk (fun e => row_ne_cells HRO.out hmk (by decide) _ e rfl)
          unfold rdCells at h1
          rw [HRV.out] at h1
          have h2 := kp.at HST7.out.dbox HAP.out
          unfold declC at h2
          have h3 := kp.at HST7.out.rbox (fun e => row_ne_cells HRO.out HST7.out.rbox (by decide) _ e rfl)
          exact ⟨⟨cell_at (i := 0) h3, cell_at (i := 4) h1, frozen_at (i := 4) h1⟩, ⟨cell_at (i := 0) h2, cell_at (i := 1) h2, cell_at (i := 2) h2, cell_at (i := 3) h2⟩, lt_at h3, lt_at h1, lt_at h2⟩))
        obtain ⟨ir0, hir0, hrz0, hrz1, hrz2⟩ := info_parts info_declE
        clear hrow hro hrc hrv hap hnr hns
        go_upto_region 6 with fail
        refine wp_region_plan (fun w' : World => ((w'.cell? ⟨W.heap.size, 0, none⟩ = some (.pointer (some ⟨m, 0, none⟩)) ∧ w'.cell? ⟨m, 4, none⟩ = some (.slice rr nr rcr) ∧ w'.frozen? ⟨m, 4, none⟩ = false) ∧ (w'.cell? ⟨D, 0, none⟩ = some (.int .i64 6) ∧ w'.cell? ⟨D, 1, none⟩ = some (.string ⟨#[]⟩) ∧ w'.cell? ⟨D, 2, none⟩ = some (.slice ra ns rc) ∧ w'.cell? ⟨D, 3, none⟩ = some (.int .i64 x.at_)) ∧ W.heap.size < w'.heap.size ∧ m < w'.heap.size ∧ D < w'.heap.size)) [12] (.take 0 (.take 1 (.take 2 (.take 3 (.take 4 (.take 5 (.take 6 (.one 7 (.one 8 (.one 9 (.one 10 (.one 11 (.one 12 (.done)))))))))))))) (by kernel_rfl) (by kernel_rfl) (fun _ _ _ _ h => h) ?_
        have hSw := HSK9.out _ ((Kp.refl _ w7).drew)
        refine wpPlan_takeD (v := ?vg39) rfl rfl hSw (by rfl) ?yg39 ?_
        case yg39 => (intro w hSx; (try dsimp only at hSx); go_simp; first | done | with_reducible rfl | rfl)
        (try simp only [Act.put, List.setIfInBounds_toArray, List.set_cons_zero, List.set_cons_succ])
        refine wpPlan_takeD (v := ?vg40) rfl rfl hSw (by rfl) ?yg40 ?_
        case yg40 => (intro w hSx; (try dsimp only at hSx); go_simp; first | done | with_reducible rfl | rfl)
        (try simp only [Act.put, List.setIfInBounds_toArray, List.set_cons_zero, List.set_cons_succ])
        refine wpPlan_takeD (v := ?vg41) rfl rfl hSw (by rfl) ?yg41 ?_
        case yg41 => (intro w hSx; (try dsimp only at hSx); go_simp; first | done | with_reducible rfl | rfl)
        (try simp only [Act.put, List.setIfInBounds_toArray, List.set_cons_zero, List.set_cons_succ])
        refine wpPlan_takeD (v := ?vg42) rfl rfl hSw (by rfl) ?yg42 ?_
        case yg42 => (intro w hSx; (try dsimp only at hSx); go_simp; first | done | with_reducible rfl | rfl)
        (try simp only [Act.put, List.setIfInBounds_toArray, List.set_cons_zero, List.set_cons_succ])
        refine wpPlan_takeD (v := ?vg43) rfl rfl hSw (by rfl) ?yg43 ?_
        case yg43 => (intro w hSx; (try dsimp only at hSx); go_simp; first | done | with_reducible rfl | rfl)
        (try simp only [Act.put, List.setIfInBounds_toArray, List.set_cons_zero, List.set_cons_succ])
        refine wpPlan_takeD (v := ?vg44) rfl rfl hSw (by rfl) ?yg44 ?_
        case yg44 => (intro w hSx; (try dsimp only at hSx); go_simp; first | done | with_reducible rfl | rfl)
        (try simp only [Act.put, List.setIfInBounds_toArray, List.set_cons_zero, List.set_cons_succ])
        refine wpPlan_takeD (v := ?vg45) rfl rfl hSw (by rfl) ?yg45 ?_
        case yg45 => (intro w hSx; (try dsimp only at hSx); go_simp; first | done | with_reducible rfl | rfl)
        (try simp only [Act.put, List.setIfInBounds_toArray, List.set_cons_zero, List.set_cons_succ])
        refine wpPlan_run rfl (by rfl) (fun K' hK => ?_)
        go_simp
        refine hK _ _ (.inr ?_) ?_
        · exact HSK9.out _ (((Kp.refl _ w7).drew).alloc (.cells #[.int .i64 6, .string ⟨#[]⟩, .slice ra ns rc, .int .i64 x.at_] 51))
        clear hK K' hSw
        (try simp only [Act.put, List.setIfInBounds_toArray, List.set_cons_zero, List.set_cons_succ])
        refine wpPlan_run rfl (by rfl) (fun K' hK => ?_)
        (refine wp_append_lies _ _ _ _ (by rfl) B 51 ir0 _ 4 56 Tryd.underlying26 hir0 hrz0 hrz1 hrz2 rfl (by decide) _ _ _ (by rfl) (HRO.out.alloc _) ⟨w7.heap.size, 0, none⟩ 1 1 (declC (.slice ra ns rc) ⟨6, [], [Sp.rdSym y], x.at_⟩) (by rfl) (by rfl) (World.news_of_block (cs := #[.int .i64 6, .string ⟨#[]⟩, .slice ra ns rc, .int .i64 x.at_]) (t := 51) (fr := (0, 0)) (heap_last w7 _)) (by simp [Value.oneCell', declC]) (by decide) (by have := HNR.out; unfold maxLen; omega) (by have := HNR.out; omega) (by show B ≤ (w7.alloc (.cells #[.int .i64 6, .string ⟨#[]⟩, .slice ra ns rc, .int .i64 x.at_] 51)).heap.size; simp only [World.size_alloc]; omega) _ rfl ?_; intro g2 c3 w8 hown2 hgrow2 hat2 hlt2; replace hgrow2 : (w7.alloc (.cells #[.int .i64 6, .string ⟨#[]⟩, .slice ra ns rc, .int .i64 x.at_] 51)).grownBy w8 (Value.slice rr nr rcr).ownBlock := ⟨hgrow2.os, hgrow2.tape, hgrow2.output, hgrow2.size, hgrow2.block⟩; have hk8 : Kp (fun b => (Value.slice rr nr rcr).ownBlock ≠ some b) w7 w8 := ((Kp.refl _ w7).alloc (.cells #[.int .i64 6, .string ⟨#[]⟩, .slice ra ns rc, .int .i64 x.at_] 51)).grown hgrow2 (fun k hk hs => hs hk); have kt8 : KpT (fun t => t ≠ 51) w7 w8 := (KpT.below ((Below.refl _ w7).alloc (Nat.le_refl _) (.cells #[.int .i64 6, .string ⟨#[]⟩, .slice ra ns rc, .int .i64 x.at_] 51))).trans (KpT.grown (HRO.out.alloc _) hgrow2))
        refine hK _ _ (.inr ?_) ?_
        · exact HSK9.out _ hk8
        clear hK K'
        (try simp only [Act.put, List.setIfInBounds_toArray, List.set_cons_zero, List.set_cons_succ])
        refine wpPlan_run rfl (by rfl) (fun K' hK => ?_)
        go_simp
        refine hK _ _ (.inr ?_) ?_
        · exact HSK9.out _ hk8
        clear hK K'
        (try simp only [Act.put, List.setIfInBounds_toArray, List.set_cons_zero, List.set_cons_succ])
        refine wpPlan_run rfl (by rfl) (fun K' hK => ?_)
        go_simp
        refine hK _ _ (.inr ?_) ?_
        · exact HSK9.out _ hk8
        clear hK K'
        (try simp only [Act.put, List.setIfInBounds_toArray, List.set_cons_zero, List.set_cons_succ])
        refine wpPlan_run rfl (by rfl) (fun K' hK => ?_)
        go_simp
        refine hK _ _ (.inr ?_) ?_
        · exact HSK9.out _ hk8
        clear hK K'
        (try simp only [Act.put, List.setIfInBounds_toArray, List.set_cons_zero, List.set_cons_succ])
        refine wpPlan_run rfl (by rfl) (fun K' hK => ?_)
        (obtain ⟨⟨_, z1, z2⟩, _, _, hlz, _⟩ := HSK9.out _ hk8; go_simp)
        refine hK _ _ (.inl rfl) ?_
        clear hK K'
        (try simp only [Act.put, List.setIfInBounds_toArray, List.set_cons_zero, List.set_cons_succ])
        refine wpPlan_done ?_
        have hown9 : DeclsOwn B w8 (.slice (some ⟨g2, 0, none⟩) (nr + 1) c3) (s7.decls ++ [⟨6, [], [Sp.rdSym y], x.at_⟩]) := OwnR.snoc (w := w7) HRC.out (by rw [← HNE.out]; exact hown2) (fun u' a' h' => symsOwn_kp kt8 (by decide) u' a' h') ⟨_, ownsRow_kpT (by rw [← HNS.out]; exact HROW.out) kt8 (by decide)⟩
        have hB8 : Below B w7 w8 := Kp.below hk8 hBle (fun b hb e => by have := (HRO.out.lt b e).1; omega)
        obtain ⟨h9, hf9⟩ := HST7.out.rd.moreDecl hown9 kt8 hB8
        have HF9 := Lib.hid (HST7.out.fr.rd.trans hf9)
        have H9 := Lib.hid h9
        clear h9 hf9 hown9 hB8 hown2 hk8 kt8 hgrow2 hat2 hlt2 z1 z2 hlz HSK9 HRO HRC HAP
        go_wp2_with fail
        refine bodyPost_ret (results_none rfl _ _ _) rfl ?_
        refine ⟨s7.i, s7.decls ++ [⟨6, [], [Sp.rdSym y], x.at_⟩], .slice (some ⟨g2, 0, none⟩) (nr + 1) c3, rfl, by have := HI1.out; have := HI7.out; omega, ?_, by rw [← HR3.out]; simp only; rw [HST7.out.ed], ?_, HF9.out⟩
        rotate_left
        · have e : ({ s with i := s7.i, ws := RR.rest, bad := RR.bd, decls := s7.decls ++ [⟨6, [], [Sp.rdSym y], x.at_⟩] } : Sp.RdS) = { s7 with decls := s7.decls ++ [⟨6, [], [Sp.rdSym y], x.at_⟩] } := by
            rw [← HR3.out, ← HST7.out.state HW7.out.symm HB7.out.symm]
            rfl
          rw [e]
          exact H9.out
        · have h1 := HDL.out; have h5 := HST7.out.ed; have h6 := HI1.out; have h7 := HI7.out
          rw [List.length_append, List.length_singleton, h5]; omega
    · have hR := HR.out
      unfold Sp.readDecl at hR
      rw [if_neg hk6] at hR
      have HR2 := Lib.hid hR
      have hkb6 : (k == 6) = false := by rw [beq_eq_false_iff_ne]; exact hk6
      have hkd6 : decide (k = 6) = false := decide_eq_false hk6
      have HY := Lib.hid (show s1.ws = y :: l2 from by rw [HW1.out, hy])
      have HYL := Lib.hid hy
      have HP := Lib.hid (reader_is 4 [] HST3.out.rd)
      have HBL := Lib.hid (fun n => HST3.out.below (below_drewN (Below.refl _ w3) n))
      have hrb := HST3.out.rbox
      have r0 : w3.cell? ⟨W.heap.size, 0, none⟩ = some (.pointer (some ⟨m, 0, none⟩)) := cell_at (i := 0) hrb
      have lr := lt_at hrb
      have hBw := HST3.out.rd.size
      clear hR HR hy hrb
      obtain ⟨p4, hp4⟩ : ∃ p4, p4 = Sp.isW 4 [] s1.ws := ⟨_, rfl⟩
      rw [← hp4] at HP
      have HP4 := Lib.hid hp4
      clear hp4
      go_upto_if 63 with (go_at_call 19; refine HP.out.mono ?_; rintro e w' ⟨rfl, n4, rfl⟩)
      obtain ⟨w4, hw4⟩ : ∃ w4 : World, w4 = w3.drewN n4 := ⟨_, rfl⟩
      have hst4 := HBL.out n4
      rw [← hw4] at hst4 ⊢
      have HST4 := Lib.hid hst4
      clear hw4 hst4 d0 ld r0 lr HBL HP
      go_cut [] (fun wx => ∃ (s2 : Sp.RdS) (tag : List UInt8), DeclR B W m ws s s2 ⟨k, tag, [], x.at_⟩ (.slice none 0 0) v D wx ∧ s2.bad = false ∧ Sp.tagGo l = (tag, s2.ws) ∧ s1.i ≤ s2.i)
      case first =>
        cases p4 with
        | false =>
          have hp := HP4.out
          rw [HY.out, Sp.isW_any] at hp
          have hyk := hp.symm
          rw [beq_eq_false_iff_ne] at hyk
          have HTG := Lib.hid (show Sp.tagGo l = ([], s1.ws) from by rw [HYL.out, Sp.tagGo_cons, if_neg hyk, HY.out])
          clear hp hyk
          go_wp2_with fail
          go_meet
          exact ⟨s1, [], HST4.out, HBD.out, HTG.out, Nat.le_refl _⟩
        | true =>
          have hp := HP4.out
          rw [HY.out, Sp.isW_any] at hp
          have hyk := hp.symm
          rw [beq_iff_eq] at hyk
          have HTG := Lib.hid (show Sp.tagGo l = (y.text, l2) from by rw [HYL.out, Sp.tagGo_cons, if_pos hyk])
          have HKY := Lib.hid (show y.kind ≠ 10 by omega)
          obtain ⟨gw2, cap2, hv2, hg2, hi2, a0, a1, a2⟩ := HST4.out.rd.words.cells (HST4.out.rd.head HY.out)
          have hmb := HST4.out.rd.block
          unfold rdCells at hmb
          rw [hv2] at hmb
          have HMB := Lib.hid hmb; have HA1 := Lib.hid a1; have HG := Lib.hid hg2
          have HSK := Lib.hid (fun (w' : World) (hb : Below w4.heap.size w4 w') => (show ((w'.cell? ⟨W.heap.size, 0, none⟩ = some (.pointer (some ⟨m, 0, none⟩)) ∧ w'.cell? ⟨m, 0, none⟩ = some (.slice (some ⟨gw2, 0, none⟩) ws.length cap2) ∧ w'.cell? ⟨m, 1, none⟩ = some (.int .i64 (s1.i : Int)) ∧ w'.cell? ⟨gw2, s1.i * 3 + 1, none⟩ = some (.string ⟨y.text.toArray⟩) ∧ w'.cell? ⟨D, 1, none⟩ = some (.string ⟨#[]⟩) ∧ w'.frozen? ⟨D, 1, none⟩ = false) ∧ W.heap.size < w'.heap.size ∧ m < w'.heap.size ∧ gw2 < w'.heap.size ∧ D < w'.heap.size) from by
            have h1 := (hb.block _ (lt_at HST4.out.rbox)).trans HST4.out.rbox
            have h2 := (hb.block _ (lt_at HMB.out)).trans HMB.out
            have h3 := (hb.block _ (lt_at HST4.out.dbox)).trans HST4.out.dbox
            exact ⟨⟨cell_at (i := 0) h1, cell_at (i := 0) h2, cell_at (i := 1) h2, (hb.cell (p := ⟨gw2, s1.i * 3 + 1, none⟩) HG.out).trans HA1.out, cell_at (i := 1) h3, frozen_at (i := 1) h3⟩, lt_at h1, lt_at h2, Nat.lt_of_lt_of_le HG.out hb.size, lt_at h3⟩))
          have hlt := HST4.out.rd.lt
          have hsm := HST4.out.rd.small
          clear hp hyk hv2 hg2 hi2 a0 a1 a2 hmb
          go_upto_region 8 with fail
          refine wp_region_plan (fun w' : World => ((w'.cell? ⟨W.heap.size, 0, none⟩ = some (.pointer (some ⟨m, 0, none⟩)) ∧ w'.cell? ⟨m, 0, none⟩ = some (.slice (some ⟨gw2, 0, none⟩) ws.length cap2) ∧ w'.cell? ⟨m, 1, none⟩ = some (.int .i64 (s1.i : Int)) ∧ w'.cell? ⟨gw2, s1.i * 3 + 1, none⟩ = some (.string ⟨y.text.toArray⟩) ∧ w'.cell? ⟨D, 1, none⟩ = some (.string ⟨#[]⟩) ∧ w'.frozen? ⟨D, 1, none⟩ = false) ∧ W.heap.size < w'.heap.size ∧ m < w'.heap.size ∧ gw2 < w'.heap.size ∧ D < w'.heap.size)) [12] (.take 0 (.take 1 (.take 2 (.take 3 (.take 4 (.take 5 (.take 6 (.take 7 (.take 8 (.take 9 (.take 10 (.take 11 (.one 12 (.done)))))))))))))) (by kernel_rfl) (by kernel_rfl) (fun _ _ _ _ h => h) ?_
          have hSw := HSK.out _ (below_drewN (Below.refl _ w4) 1)
          refine wpPlan_takeD (v := ?vh46) rfl rfl hSw (by rfl) ?yh46 ?_
          case yh46 => (intro w hSx; (try dsimp only at hSx); go_simp; first | done | with_reducible rfl | rfl)
          (try simp only [Act.put, List.setIfInBounds_toArray, List.set_cons_zero, List.set_cons_succ])
          refine wpPlan_takeD (v := ?vh47) rfl rfl hSw (by rfl) ?yh47 ?_
          case yh47 => (intro w hSx; (try dsimp only at hSx); go_simp; first | done | with_reducible rfl | rfl)
          (try simp only [Act.put, List.setIfInBounds_toArray, List.set_cons_zero, List.set_cons_succ])
          refine wpPlan_takeD (v := ?vh48) rfl rfl hSw (by rfl) ?yh48 ?_
          case yh48 => (intro w hSx; (try dsimp only at hSx); go_simp; first | done | with_reducible rfl | rfl)
          (try simp only [Act.put, List.setIfInBounds_toArray, List.set_cons_zero, List.set_cons_succ])
          refine wpPlan_takeD (v := ?vh49) rfl rfl hSw (by rfl) ?yh49 ?_
          case yh49 => (intro w hSx; (try dsimp only at hSx); go_simp; first | done | with_reducible rfl | rfl)
          (try simp only [Act.put, List.setIfInBounds_toArray, List.set_cons_zero, List.set_cons_succ])
          refine wpPlan_takeD (v := ?vh50) rfl rfl hSw (by rfl) ?yh50 ?_
          case yh50 => (intro w hSx; (try dsimp only at hSx); go_simp; first | done | with_reducible rfl | rfl)
          (try simp only [Act.put, List.setIfInBounds_toArray, List.set_cons_zero, List.set_cons_succ])
          refine wpPlan_takeD (v := ?vh51) rfl rfl hSw (by rfl) ?yh51 ?_
          case yh51 => (intro w hSx; (try dsimp only at hSx); go_simp; first | done | with_reducible rfl | rfl)
          (try simp only [Act.put, List.setIfInBounds_toArray, List.set_cons_zero, List.set_cons_succ])
          refine wpPlan_takeD (v := ?vh52) rfl rfl hSw (by rfl) ?yh52 ?_
          case yh52 => (intro w hSx; (try dsimp only at hSx); go_simp; first | done | with_reducible rfl | rfl)
          (try simp only [Act.put, List.setIfInBounds_toArray, List.set_cons_zero, List.set_cons_succ])
          refine wpPlan_takeD (v := ?vh53) rfl rfl hSw (by rfl) ?yh53 ?_
          case yh53 => (intro w hSx; (try dsimp only at hSx); go_simp; first | done | with_reducible rfl | rfl)
          (try simp only [Act.put, List.setIfInBounds_toArray, List.set_cons_zero, List.set_cons_succ])
          refine wpPlan_takeD (v := ?vh54) rfl rfl hSw (by rfl) ?yh54 ?_
          case yh54 => (intro w hSx; (try dsimp only at hSx); go_simp; first | done | with_reducible rfl | rfl)
          (try simp only [Act.put, List.setIfInBounds_toArray, List.set_cons_zero, List.set_cons_succ])
          refine wpPlan_takeD (v := ?vh55) rfl rfl hSw (by rfl) ?yh55 ?_
          case yh55 => (intro w hSx; (try dsimp only at hSx); go_simp; first | done | with_reducible rfl | rfl)
          (try simp only [Act.put, List.setIfInBounds_toArray, List.set_cons_zero, List.set_cons_succ])
          refine wpPlan_takeD (v := ?vh56) rfl rfl hSw (by rfl) ?yh56 ?_
          case yh56 => (intro w hSx; (try dsimp only at hSx); go_simp; first | done | with_reducible rfl | rfl)
          (try simp only [Act.put, List.setIfInBounds_toArray, List.set_cons_zero, List.set_cons_succ])
          refine wpPlan_takeD (v := ?vh57) rfl rfl hSw (by rfl) ?yh57 ?_
          case yh57 => (intro w hSx; (try dsimp only at hSx); go_simp; first | done | with_reducible rfl | rfl)
          (try simp only [Act.put, List.setIfInBounds_toArray, List.set_cons_zero, List.set_cons_succ])
          refine wpPlan_run rfl (by rfl) (fun K' hK => ?_)
          (obtain ⟨⟨_, _, _, _, z1, z2⟩, _, _, _, hlz⟩ := HSK.out _ (show Below w4.heap.size w4 w4.drew from below_drewN (Below.refl _ w4) 1); go_simp)
          refine hK _ _ (.inl rfl) ?_
          clear hK K' hSw
          (try simp only [Act.put, List.setIfInBounds_toArray, List.set_cons_zero, List.set_cons_succ])
          refine wpPlan_done ?_
          have hst5 := (HST4.out.set 1 (.string ⟨y.text.toArray⟩) (d' := ⟨k, y.text, [], x.at_⟩) rfl rfl).below (below_drewN (Below.refl _ _) 1)
          obtain ⟨w5, hw5⟩ : ∃ w5 : World, w5 = (w4.setCell ⟨D, 1, none⟩ (.string ⟨y.text.toArray⟩)).drew := ⟨_, rfl⟩
          replace hst5 : DeclR B W m ws s s1 ⟨k, y.text, [], x.at_⟩ (.slice none 0 0) v D w5 := by rw [hw5]; exact hst5
          rw [← hw5]
          have hmb := hst5.rd.block
          unfold rdCells at hmb
          have hrb := hst5.rbox
          have r0 : w5.cell? ⟨W.heap.size, 0, none⟩ = some (.pointer (some ⟨m, 0, none⟩)) := cell_at (i := 0) hrb
          have b1 : w5.cell? ⟨m, 1, none⟩ = some (.int .i64 (s1.i : Int)) := cell_at (i := 1) hmb
          have f1 : w5.frozen? ⟨m, 1, none⟩ = false := frozen_at (i := 1) hmb
          have lm := lt_at hmb
          have lr := lt_at hrb
          have hw : IntKind.i64.wrap ((s1.i : Int) + 1) = (s1.i : Int) + 1 := IntWalk.i64_in _ ⟨by omega, by omega⟩
          obtain ⟨hs6, hf6⟩ := hst5.rd.step HY.out HKY.out
          have hst6 := hst5.step hs6 hf6 rfl rfl rfl rfl (by unfold Sp.RdS.next; simp)
          have HST6 := Lib.hid hst6
          clear hw5 hst5 hmb hrb hs6 hf6 hst6 HSK z1 z2 hlz
          go_wp2_with fail
          go_meet
          exact ⟨s1.next, y.text, HST6.out, HBD.out, by rw [HTG.out]; unfold Sp.RdS.next; simp only; rw [HY.out]; rfl, by unfold Sp.RdS.next; simp⟩
      case rest =>
        obtain ⟨w5, hw5⟩ : ∃ w5 : World, w5 = wc := ⟨_, rfl⟩
        subst hw5
        obtain ⟨s2, tag, hst5, hb2, htg, hi2⟩ := hcut
        have HST5 := Lib.hid hst5; have HB2 := Lib.hid hb2; have HI2 := Lib.hid hi2
        have hR := HR2.out
        rw [htg] at hR
        simp only at hR
        have HR3 := Lib.hid hR
        obtain ⟨b, hb⟩ : ∃ b : Bool, b = ((k != 5) || !tag.isEmpty) := ⟨_, rfl⟩
        have HB := Lib.hid hb
        have hrb := hst5.rbox; have hdb := hst5.dbox
        have r0 : w5.cell? ⟨W.heap.size, 0, none⟩ = some (.pointer (some ⟨m, 0, none⟩)) := cell_at (i := 0) hrb
        have d0 : w5.cell? ⟨D, 0, none⟩ = some (.int .i64 k) := cell_at (i := 0) hdb
        have d1 : w5.cell? ⟨D, 1, none⟩ = some (.string ⟨tag.toArray⟩) := cell_at (i := 1) hdb
        have lr := lt_at hrb; have ld := lt_at hdb
        have HMU := Lib.hid (fun (b : Bool) => reader_must b hst5.rd hb2)
        clear hst5 hb2 htg hi2 hR HR2 hb hrb hdb HST4 HST3 HP4 HY HYL
        go_upto_region 10 with fail
        go_cut [93] (fun c wx => c = .bool (!b) ∧ DeclR B W m ws s { s2 with bad := !b } ⟨k, tag, [], x.at_⟩ (.slice none 0 0) v D wx)
        case first =>
          have hfin : ∀ w', (ReaderAt B w' m ws { s2 with bad := !b } v ∧ BoxFr B w5 w') → DeclR B W m ws s { s2 with bad := !b } ⟨k, tag, [], x.at_⟩ (.slice none 0 0) v D w' := fun w' ⟨h1, h2⟩ => HST5.out.step h1 h2 rfl rfl rfl rfl (Nat.le_refl _)
          have HFI := Lib.hid hfin
          clear hfin
          by_cases hk5 : k = 5
          · subst hk5
            cases tag with
            | nil =>
              have hbe : b = false := by rw [HB.out]; rfl
              subst hbe
              go_wp2_with fail
              refine (HMU.out false).mono ?_
              rintro e w' ⟨rfl, h6, hf6⟩
              have HH6 := Lib.hid (HFI.out _ ⟨h6, hf6⟩)
              clear h6 hf6
              go_wp2_with fail
              go_meet
              exact ⟨rfl, HH6.out⟩
            | cons t0 t1 =>
              have hbe : b = true := by rw [HB.out]; rfl
              subst hbe
              go_wp2_with fail
              refine (HMU.out true).mono ?_
              rintro e w' ⟨rfl, h6, hf6⟩
              have HH6 := Lib.hid (HFI.out _ ⟨h6, hf6⟩)
              clear h6 hf6
              go_wp2_with fail
              go_meet
              exact ⟨rfl, HH6.out⟩
          · have hkb : (k != 5) = true := by rw [bne_iff_ne]; exact hk5
            have hkd : decide (k = 5) = false := decide_eq_false hk5
            have hke : (k == 5) = false := by rw [beq_eq_false_iff_ne]; exact hk5
            have hbe : b = true := by rw [HB.out, hkb]; rfl
            subst hbe
            go_wp2_with fail
            refine (HMU.out true).mono ?_
            rintro e w' ⟨rfl, h6, hf6⟩
            have HH6 := Lib.hid (HFI.out _ ⟨h6, hf6⟩)
            clear h6 hf6
            go_wp2_with fail
            go_meet
            exact ⟨rfl, HH6.out⟩
        case rest =>
          obtain ⟨w6, hw6⟩ : ∃ w6 : World, w6 = wc := ⟨_, rfl⟩
          subst hw6
          obtain ⟨rfl, hst6⟩ := hcut
          have HST6 := Lib.hid hst6
          clear hst6 HST5 HMU r0 d0 d1 lr ld
          cases b with
          | false =>
            have hkt : k = 5 ∧ tag = [] := by
              have := HB.out.symm
              rw [Bool.or_eq_false_iff, bne_eq_false_iff_eq, Bool.not_eq_false', List.isEmpty_iff] at this
              exact this
            have hR := HR3.out
            rw [if_pos hkt] at hR
            have HR4 := Lib.hid hR
            clear hR HR3 hkt
            go_wp2_with fail
            refine bodyPost_ret (results_none rfl _ _ _) rfl ?_
            refine ⟨s2.i, s.decls, v.dv, rfl, by have := HI1.out; have := HI2.out; omega, by have := HDL.out; have := HI1.out; have := HI2.out; omega, by rw [← HR4.out]; trivial, ?_, HST6.out.fr.rd⟩
            rw [show ({ s with i := s2.i, ws := RR.rest, bad := RR.bd, decls := s.decls } : Sp.RdS) = { s2 with bad := !false } from by rw [← HST6.out.state rfl rfl, ← HR4.out]; rfl]
            exact HST6.out.rd
          | true =>
            have hkt : ¬ (k = 5 ∧ tag = []) := by
              rintro ⟨h1, h2⟩
              have := HB.out
              rw [h1, h2] at this
              exact absurd this (by decide)
            have hR := HR3.out
            rw [if_neg hkt] at hR
            have HR4 := Lib.hid hR
            obtain ⟨s3, hs3⟩ : ∃ s3 : Sp.RdS, s3 = ({ s2 with bad := !true } : Sp.RdS) := ⟨_, rfl⟩
            rw [← hs3] at HST6
            have HB3 := Lib.hid (show s3.bad = false from by rw [hs3]; rfl)
            have HI3 := Lib.hid (show s3.i = s2.i from by rw [hs3])
            have HW3 := Lib.hid (show s3.ws = s2.ws from by rw [hs3])
            clear hs3 hR HR3 hkt
            have HMAY := Lib.hid (fun (w' : World) (hb : Below w6.heap.size w6 w') => decl_may (HST6.out.below hb))
            have HMU := Lib.hid (fun (b : Bool) (w' : World) (hb : Below w6.heap.size w6 w') => reader_must b (HST6.out.rd.below hb) HB3.out)
            have HS12 := Lib.hid (fun (w' : World) (hb : BoxFr B w6 w') => (show (w'.cell? ⟨W.heap.size, 0, none⟩ = some (.pointer (some ⟨m, 0, none⟩)) ∧ W.heap.size < w'.heap.size) from by
              have h1 := hb.at HST6.out.rbox (by unfold BoxT; decide)
              exact ⟨cell_at (i := 0) h1, lt_at h1⟩))
            have hBw6 := HST6.out.rd.size
            cases hsh : Sp.symHere k s3.ws with
            | false =>
              have hR := HR4.out
              rw [← HW3.out, Sp.syms_stop _ _ hsh, if_pos rfl] at hR
              have HR5 := Lib.hid hR
              simp only [hsh] at HMAY
              clear hR HR4 hsh
              go_upto_region 12 with fail
              refine wp_region_plan (fun w' : World => (w'.cell? ⟨W.heap.size, 0, none⟩ = some (.pointer (some ⟨m, 0, none⟩)) ∧ W.heap.size < w'.heap.size)) [4] (.take 0 (.take 1 (.one 2 (.one 3 (.one 4 (.done)))))) (by kernel_rfl) (by kernel_rfl) (fun _ _ _ _ h => h) ?_
              have hSw := HS12.out _ (BoxFr.below (below_drewN (Below.refl _ w6) 1) hBw6)
              refine wpPlan_takeD (v := ?vk58) rfl rfl hSw (by rfl) ?yk58 ?_
              case yk58 => (intro w hSx; (try dsimp only at hSx); go_simp; first | done | with_reducible rfl | rfl)
              (try simp only [Act.put, List.setIfInBounds_toArray, List.set_cons_zero, List.set_cons_succ])
              refine wpPlan_takeD (v := ?vk59) rfl rfl hSw (by rfl) ?yk59 ?_
              case yk59 => (intro w hSx; (try dsimp only at hSx); go_simp; first | done | with_reducible rfl | rfl)
              (try simp only [Act.put, List.setIfInBounds_toArray, List.set_cons_zero, List.set_cons_succ])
              refine wpPlan_run rfl (by rfl) (fun K' hK => ?_)
              (go_simp; go_at_call 63; refine (HMAY.out _ (below_drewN (Below.refl _ w6) 1)).mono ?_; rintro e w4 ⟨rfl, n4, rfl⟩; have hb4 : Below w6.heap.size w6 (w6.drewN (1 + n4)) := below_drewN (Below.refl _ w6) (1 + n4))
              refine hK _ _ (.inr ?_) ?_
              · exact HS12.out _ (BoxFr.below (below_drewN (below_drewN (Below.refl _ w6) 1) n4) hBw6)
              clear hK K' hSw
              (try simp only [Act.put, List.setIfInBounds_toArray, List.set_cons_zero, List.set_cons_succ])
              refine wpPlan_run rfl (by rfl) (fun K' hK => ?_)
              (go_simp; go_at_call 33; refine (HMU.out false _ hb4).mono ?_; rintro e w7 ⟨rfl, h5, hf5⟩; have H5 := Lib.hid h5; have HF5 := Lib.hid ((BoxFr.below hb4 hBw6).trans hf5); clear h5 hf5 hb4)
              refine hK _ _ (.inr ?_) ?_
              · exact HS12.out _ HF5.out
              clear hK K'
              (try simp only [Act.put, List.setIfInBounds_toArray, List.set_cons_zero, List.set_cons_succ])
              refine wpPlan_run rfl (by rfl) (fun K' hK => ?_)
              go_simp
              refine hK _ _ (.inl rfl) ?_
              clear hK K'
              (try simp only [Act.put, List.setIfInBounds_toArray, List.set_cons_zero, List.set_cons_succ])
              refine wpPlan_done ?_
              have hst8 := HST6.out.step H5.out HF5.out rfl rfl rfl rfl (Nat.le_refl _)
              have HST8 := Lib.hid hst8
              clear hst8 H5 HF5 HMAY HMU HS12
              go_wp2_with fail
              refine bodyPost_ret (results_none rfl _ _ _) rfl ?_
              refine ⟨s3.i, s.decls, v.dv, rfl, by have := HI1.out; have := HI2.out; have := HI3.out; omega, by have := HDL.out; have := HI1.out; have := HI2.out; have := HI3.out; omega, by rw [← HR5.out]; trivial, ?_, HST8.out.fr.rd⟩
              rw [show ({ s with i := s3.i, ws := RR.rest, bad := RR.bd, decls := s.decls } : Sp.RdS) = { s3 with bad := !false } from by rw [← HST8.out.state rfl rfl, ← HR5.out]; rfl]
              exact HST8.out.rd
            | true =>
              have hne := Sp.syms_ne k s3.ws hsh
              have hR := HR4.out
              rw [← HW3.out, if_neg hne] at hR
              have HR5 := Lib.hid hR
              simp only [hsh] at HMAY
              clear hR HR4 hsh hne
              go_upto_region 12 with fail
              refine wp_region_plan (fun w' : World => (w'.cell? ⟨W.heap.size, 0, none⟩ = some (.pointer (some ⟨m, 0, none⟩)) ∧ W.heap.size < w'.heap.size)) [4] (.take 0 (.take 1 (.one 2 (.one 3 (.one 4 (.done)))))) (by kernel_rfl) (by kernel_rfl) (fun _ _ _ _ h => h) ?_
              have hSw := HS12.out _ (BoxFr.below (below_drewN (Below.refl _ w6) 1) hBw6)
              refine wpPlan_takeD (v := ?vk60) rfl rfl hSw (by rfl) ?yk60 ?_
              case yk60 => (intro w hSx; (try dsimp only at hSx); go_simp; first | done | with_reducible rfl | rfl)
              (try simp only [Act.put, List.setIfInBounds_toArray, List.set_cons_zero, List.set_cons_succ])
              refine wpPlan_takeD (v := ?vk61) rfl rfl hSw (by rfl) ?yk61 ?_
              case yk61 => (intro w hSx; (try dsimp only at hSx); go_simp; first | done | with_reducible rfl | rfl)
              (try simp only [Act.put, List.setIfInBounds_toArray, List.set_cons_zero, List.set_cons_succ])
              refine wpPlan_run rfl (by rfl) (fun K' hK => ?_)
              (go_simp; go_at_call 63; refine (HMAY.out _ (below_drewN (Below.refl _ w6) 1)).mono ?_; rintro e w4 ⟨rfl, n4, rfl⟩; have hb4 : Below w6.heap.size w6 (w6.drewN (1 + n4)) := below_drewN (Below.refl _ w6) (1 + n4))
              refine hK _ _ (.inr ?_) ?_
              · exact HS12.out _ (BoxFr.below (below_drewN (below_drewN (Below.refl _ w6) 1) n4) hBw6)
              clear hK K' hSw
              (try simp only [Act.put, List.setIfInBounds_toArray, List.set_cons_zero, List.set_cons_succ])
              refine wpPlan_run rfl (by rfl) (fun K' hK => ?_)
              (go_simp; go_at_call 33; refine (HMU.out true _ hb4).mono ?_; rintro e w7 ⟨rfl, h5, hf5⟩; have H5 := Lib.hid h5; have HF5 := Lib.hid ((BoxFr.below hb4 hBw6).trans hf5); clear h5 hf5 hb4)
              refine hK _ _ (.inr ?_) ?_
              · exact HS12.out _ HF5.out
              clear hK K'
              (try simp only [Act.put, List.setIfInBounds_toArray, List.set_cons_zero, List.set_cons_succ])
              refine wpPlan_run rfl (by rfl) (fun K' hK => ?_)
              go_simp
              refine hK _ _ (.inl rfl) ?_
              clear hK K'
              (try simp only [Act.put, List.setIfInBounds_toArray, List.set_cons_zero, List.set_cons_succ])
              refine wpPlan_done ?_
              have hst8 := HST6.out.step H5.out HF5.out rfl rfl rfl rfl (Nat.le_refl _)
              have HST8 := Lib.hid hst8
              clear hst8 H5 HF5 HMAY HMU HS12
              go_upto_block 0 with fail
              refine decl_syms _ _ _ _ _ _ _ _ _ _ _ _ _ _ _ _ _ _ _ _ _ _ _ _ _ _ _ _ _ _ _ _ _ _ _ _ _ _ _ _ _ _ _ _ _ _ _ _ _ _ _ _ _ _ _ _ _ _ _ _ _ _ _ _ _ _ _ _ _ _ _ _ _ _ _ _ _ _ _ _ _ _ _ _ _ _ _ _ _ _ _ _ _ _ _ _ _ _ _ _ _ _ _ _ _ _ _ _ _ _ _ _ _ _ _ _ _ _ _ _ _ _ _ _ _ _ _ _ _ _ _ _ _ _ _ _ _ _ _ _ _ _ _ _ _ _ _ _ _ _ _ _ _ _ _ HST8.out rfl HGOOD.out (fun _ _ _ _ h => h) ?_
              intro y4 y100 y101 y102 y103 y104 y105 y106 y107 y108 y109 y110 y111 y112 y113 y114 y115 y116 y117 y118 y119 y120 y121 y122 y123 y124 y125 y126 y127 y128 y129 y130 y131 y132 y133 y134 y135 y136 y137 y138 y139 y140 y141 y142 y143 y144 wc s9 sy sv9 hst9 hb9 hi9 hrs
              dsimp only
              have HST9 := Lib.hid hst9; have HB9 := Lib.hid hb9
              have hR := HR5.out
              rw [show Sp.rdSyms k s3.ws = (sy, s9.ws) from hrs] at hR
              simp only at hR
              have HR6 := Lib.hid hR
              have HI9 := Lib.hid (show s3.i ≤ s9.i from hi9)
              clear hst9 hb9 hrs hR HR5 hi9
              obtain ⟨w7, hw7⟩ : ∃ w7 : World, w7 = wc := ⟨_, rfl⟩
              subst hw7
              have hrow := HST9.out.row
              obtain ⟨ra, rc, hsv⟩ := ownsRowS_some hrow
              obtain ⟨ns, hns⟩ : ∃ ns, ns = (⟨k, tag, sy, x.at_⟩ : Sp.Decl).syms.length := ⟨_, rfl⟩
              rw [← hns] at hsv hrow
              subst hsv
              have HROW := Lib.hid hrow
              obtain ⟨fo, hro, hrc⟩ := HST9.out.rd.decls
              obtain ⟨rr, rcr, hrv⟩ := ownsRowS_some hro
              obtain ⟨nr, hnr⟩ : ∃ nr, nr = s9.decls.length := ⟨_, rfl⟩
              rw [← hnr] at hrv
              rw [hrv, ← hnr] at hro
              have hap : (Value.slice rr nr rcr).ownBlock ≠ some D := by
                intro e
                obtain ⟨f', h1, _⟩ := HST9.out.old.decls
                rw [hrv] at h1
                have := (h1.lt D e).2
                have := HST9.out.dge
                omega
              have HRO := Lib.hid hro; have HRC := Lib.hid hrc; have HRV := Lib.hid hrv; have HAP := Lib.hid hap; have HNE := Lib.hid hnr; have HNS := Lib.hid hns
              have HNR : Hid (nr ≤ 4001) := Lib.hid (by
                have h1 := HDL.out; have h2 := HST9.out.rd.lt; have h3 := HST9.out.rd.small; have h4 := HST9.out.ge; have h5 := HST9.out.ed
                rw [hnr, h5]; omega)
              have hBle : B ≤ w7.heap.size := HST9.out.rd.size
              have HSK9 := Lib.hid (fun (w' : World) (kp : Kp (fun b => (Value.slice rr nr rcr).ownBlock ≠ some b) w7 w') => (show ((w'.cell? ⟨W.heap.size, 0, none⟩ = some (.pointer (some ⟨m, 0, none⟩)) ∧ w'.cell? ⟨m, 4, none⟩ = some (.slice rr nr rcr) ∧ w'.frozen? ⟨m, 4, none⟩ = false) ∧ (w'.cell? ⟨D, 0, none⟩ = some (.int .i64 k) ∧ w'.cell? ⟨D, 1, none⟩ = some (.string ⟨tag.toArray⟩) ∧ w'.cell? ⟨D, 2, none⟩ = some (.slice ra ns rc) ∧ w'.cell? ⟨D, 3, none⟩ = some (.int .i64 x.at_)) ∧ W.heap.size < w'.heap.size ∧ m < w'.heap.size ∧ D < w'.heap.size) from by
                have hmk := HST9.out.rd.block
                have h1 := kp.at hmk (fun e => row_ne_cells HRO.out hmk (by decide) _ e rfl)
                unfold rdCells at h1
                rw [HRV.out] at h1
                have h2 := kp.at HST9.out.dbox HAP.out
                unfold declC at h2
                have h3 := kp.at HST9.out.rbox (fun e => row_ne_cells HRO.out HST9.out.rbox (by decide) _ e rfl)
                exact ⟨⟨cell_at (i := 0) h3, cell_at (i := 4) h1, frozen_at (i := 4) h1⟩, ⟨cell_at (i := 0) h2, cell_at (i := 1) h2, cell_at (i := 2) h2, cell_at (i := 3) h2⟩, lt_at h3, lt_at h1, lt_at h2⟩))
              obtain ⟨ir0, hir0, hrz0, hrz1, hrz2⟩ := info_parts info_declE
              clear hrow hro hrc hrv hap hnr hns
              go_upto_region 19 with fail
              refine wp_region_plan (fun w' : World => ((w'.cell? ⟨W.heap.size, 0, none⟩ = some (.pointer (some ⟨m, 0, none⟩)) ∧ w'.cell? ⟨m, 4, none⟩ = some (.slice rr nr rcr) ∧ w'.frozen? ⟨m, 4, none⟩ = false) ∧ (w'.cell? ⟨D, 0, none⟩ = some (.int .i64 k) ∧ w'.cell? ⟨D, 1, none⟩ = some (.string ⟨tag.toArray⟩) ∧ w'.cell? ⟨D, 2, none⟩ = some (.slice ra ns rc) ∧ w'.cell? ⟨D, 3, none⟩ = some (.int .i64 x.at_)) ∧ W.heap.size < w'.heap.size ∧ m < w'.heap.size ∧ D < w'.heap.size)) [12] (.take 0 (.take 1 (.take 2 (.take 3 (.take 4 (.take 5 (.take 6 (.one 7 (.one 8 (.one 9 (.one 10 (.one 11 (.one 12 (.done)))))))))))))) (by kernel_rfl) (by kernel_rfl) (fun _ _ _ _ h => h) ?_
              have hSw := HSK9.out _ ((Kp.refl _ w7).drew)
              refine wpPlan_takeD (v := ?vl62) rfl rfl hSw (by rfl) ?yl62 ?_
              case yl62 => (intro w hSx; (try dsimp only at hSx); go_simp; first | done | with_reducible rfl | rfl)
              (try simp only [Act.put, List.setIfInBounds_toArray, List.set_cons_zero, List.set_cons_succ])
              refine wpPlan_takeD (v := ?vl63) rfl rfl hSw (by rfl) ?yl63 ?_
              case yl63 => (intro w hSx; (try dsimp only at hSx); go_simp; first | done | with_reducible rfl | rfl)
              (try simp only [Act.put, List.setIfInBounds_toArray, List.set_cons_zero, List.set_cons_succ])
              refine wpPlan_takeD (v := ?vl64) rfl rfl hSw (by rfl) ?yl64 ?_
              case yl64 => (intro w hSx; (try dsimp only at hSx); go_simp; first | done | with_reducible rfl | rfl)
              (try simp only [Act.put, List.setIfInBounds_toArray, List.set_cons_zero, List.set_cons_succ])
              refine wpPlan_takeD (v := ?vl65) rfl rfl hSw (by rfl) ?yl65 ?_
              case yl65 => (intro w hSx; (try dsimp only at hSx); go_simp; first | done | with_reducible rfl | rfl)
              (try simp only [Act.put, List.setIfInBounds_toArray, List.set_cons_zero, List.set_cons_succ])
              refine wpPlan_takeD (v := ?vl66) rfl rfl hSw (by rfl) ?yl66 ?_
              case yl66 => (intro w hSx; (try dsimp only at hSx); go_simp; first | done | with_reducible rfl | rfl)
              (try simp only [Act.put, List.setIfInBounds_toArray, List.set_cons_zero, List.set_cons_succ])
              refine wpPlan_takeD (v := ?vl67) rfl rfl hSw (by rfl) ?yl67 ?_
              case yl67 => (intro w hSx; (try dsimp only at hSx); go_simp; first | done | with_reducible rfl | rfl)
              (try simp only [Act.put, List.setIfInBounds_toArray, List.set_cons_zero, List.set_cons_succ])
              refine wpPlan_takeD (v := ?vl68) rfl rfl hSw (by rfl) ?yl68 ?_
              case yl68 => (intro w hSx; (try dsimp only at hSx); go_simp; first | done | with_reducible rfl | rfl)
              (try simp only [Act.put, List.setIfInBounds_toArray, List.set_cons_zero, List.set_cons_succ])
              refine wpPlan_run rfl (by rfl) (fun K' hK => ?_)
              go_simp
              refine hK _ _ (.inr ?_) ?_
              · exact HSK9.out _ (((Kp.refl _ w7).drew).alloc (.cells #[.int .i64 k, .string ⟨tag.toArray⟩, .slice ra ns rc, .int .i64 x.at_] 51))
              clear hK K' hSw
              (try simp only [Act.put, List.setIfInBounds_toArray, List.set_cons_zero, List.set_cons_succ])
              refine wpPlan_run rfl (by rfl) (fun K' hK => ?_)
              (refine wp_append_lies _ _ _ _ (by rfl) B 51 ir0 _ 4 56 Tryd.underlying26 hir0 hrz0 hrz1 hrz2 rfl (by decide) _ _ _ (by rfl) (HRO.out.alloc _) ⟨w7.heap.size, 0, none⟩ 1 1 (declC (.slice ra ns rc) ⟨k, tag, sy, x.at_⟩) (by rfl) (by rfl) (World.news_of_block (cs := #[.int .i64 k, .string ⟨tag.toArray⟩, .slice ra ns rc, .int .i64 x.at_]) (t := 51) (fr := (0, 0)) (heap_last w7 _)) (by simp [Value.oneCell', declC]) (by decide) (by have := HNR.out; unfold maxLen; omega) (by have := HNR.out; omega) (by show B ≤ (w7.alloc (.cells #[.int .i64 k, .string ⟨tag.toArray⟩, .slice ra ns rc, .int .i64 x.at_] 51)).heap.size; simp only [World.size_alloc]; omega) _ rfl ?_; intro g2 c3 w8 hown2 hgrow2 hat2 hlt2; replace hgrow2 : (w7.alloc (.cells #[.int .i64 k, .string ⟨tag.toArray⟩, .slice ra ns rc, .int .i64 x.at_] 51)).grownBy w8 (Value.slice rr nr rcr).ownBlock := ⟨hgrow2.os, hgrow2.tape, hgrow2.output, hgrow2.size, hgrow2.block⟩; have hk8 : Kp (fun b => (Value.slice rr nr rcr).ownBlock ≠ some b) w7 w8 := ((Kp.refl _ w7).alloc (.cells #[.int .i64 k, .string ⟨tag.toArray⟩, .slice ra ns rc, .int .i64 x.at_] 51)).grown hgrow2 (fun k hk hs => hs hk); have kt8 : KpT (fun t => t ≠ 51) w7 w8 := (KpT.below ((Below.refl _ w7).alloc (Nat.le_refl _) (.cells #[.int .i64 k, .string ⟨tag.toArray⟩, .slice ra ns rc, .int .i64 x.at_] 51))).trans (KpT.grown (HRO.out.alloc _) hgrow2))
              refine hK _ _ (.inr ?_) ?_
              · exact HSK9.out _ hk8
              clear hK K'
              (try simp only [Act.put, List.setIfInBounds_toArray, List.set_cons_zero, List.set_cons_succ])
              refine wpPlan_run rfl (by rfl) (fun K' hK => ?_)
              go_simp
              refine hK _ _ (.inr ?_) ?_
              · exact HSK9.out _ hk8
              clear hK K'
              (try simp only [Act.put, List.setIfInBounds_toArray, List.set_cons_zero, List.set_cons_succ])
              refine wpPlan_run rfl (by rfl) (fun K' hK => ?_)
              go_simp
              refine hK _ _ (.inr ?_) ?_
              · exact HSK9.out _ hk8
              clear hK K'
              (try simp only [Act.put, List.setIfInBounds_toArray, List.set_cons_zero, List.set_cons_succ])
              refine wpPlan_run rfl (by rfl) (fun K' hK => ?_)
              go_simp
              refine hK _ _ (.inr ?_) ?_
              · exact HSK9.out _ hk8
              clear hK K'
              (try simp only [Act.put, List.setIfInBounds_toArray, List.set_cons_zero, List.set_cons_succ])
              refine wpPlan_run rfl (by rfl) (fun K' hK => ?_)
              (obtain ⟨⟨_, z1, z2⟩, _, _, hlz, _⟩ := HSK9.out _ hk8; go_simp)
              refine hK _ _ (.inl rfl) ?_
              clear hK K'
              (try simp only [Act.put, List.setIfInBounds_toArray, List.set_cons_zero, List.set_cons_succ])
              refine wpPlan_done ?_
              have hown9 : DeclsOwn B w8 (.slice (some ⟨g2, 0, none⟩) (nr + 1) c3) (s9.decls ++ [⟨k, tag, sy, x.at_⟩]) := OwnR.snoc (w := w7) HRC.out (by rw [← HNE.out]; exact hown2) (fun u' a' h' => symsOwn_kp kt8 (by decide) u' a' h') ⟨_, ownsRow_kpT (by rw [← HNS.out]; exact HROW.out) kt8 (by decide)⟩
              have hB8 : Below B w7 w8 := Kp.below hk8 hBle (fun b hb e => by have := (HRO.out.lt b e).1; omega)
              obtain ⟨h9, hf9⟩ := HST9.out.rd.moreDecl hown9 kt8 hB8
              have HF9 := Lib.hid (HST9.out.fr.rd.trans hf9)
              have H9 := Lib.hid h9
              clear h9 hf9 hown9 hB8 hown2 hk8 kt8 hgrow2 hat2 hlt2 z1 z2 hlz HSK9 HRO HRC HAP
              go_wp2_with fail
              refine bodyPost_end (results_none rfl _ _ _) rfl ?_
              refine ⟨s9.i, s9.decls ++ [⟨k, tag, sy, x.at_⟩], .slice (some ⟨g2, 0, none⟩) (nr + 1) c3, rfl, by have := HI1.out; have := HI2.out; have := HI3.out; have := HI9.out; omega, ?_, by rw [← HR6.out]; simp only; rw [HST9.out.ed], ?_, HF9.out⟩
              rotate_left
              · have e : ({ s with i := s9.i, ws := RR.rest, bad := RR.bd, decls := s9.decls ++ [⟨k, tag, sy, x.at_⟩] } : Sp.RdS) = { s9 with decls := s9.decls ++ [⟨k, tag, sy, x.at_⟩] } := by
                  rw [← HR6.out, ← HST9.out.state rfl HB9.out.symm]
                  rfl
                rw [e]
                exact H9.out
              · have h1 := HDL.out; have h5 := HST9.out.ed; have h6 := HI1.out; have h7 := HI2.out; have h8 := HI3.out; have h9 := HI9.out
                rw [List.length_append, List.length_singleton, h5]; omega
end Go.Proofs.YtphdfbmmjkccgaaDoor
