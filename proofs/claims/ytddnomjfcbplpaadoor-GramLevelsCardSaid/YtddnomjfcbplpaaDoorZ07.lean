/- gram's maker: symbol. -/
import Derived.Test.YtddnomjfcbplpaaDoorZ06
namespace Go.Proofs.YtddnomjfcbplpaaDoor
open Go.RowKit Go.Maps

theorem Sp.nonIx_le {lefts : List (List UInt8)} {nm : List UInt8} {k : Nat} (h : Sp.nonIx lefts nm = some k) : 1 ≤ k ∧ k ≤ lefts.length := by
  unfold Sp.nonIx at h
  obtain ⟨h1, x, h2, _⟩ := Sp.findIx_some h
  have := (List.getElem?_eq_some_iff.1 h2).1
  omega
theorem Sp.nonIx_getD {lefts : List (List UInt8)} {nm : List UInt8} : (Sp.nonIx lefts nm).getD 0 ≤ lefts.length := by
  cases h : Sp.nonIx lefts nm with
  | none => simp
  | some k => exact (Sp.nonIx_le h).2
set_option maxRecDepth 100000 in
set_option maxHeartbeats 6400000 in
theorem maker_symbol {B : Nat} {W : World} {m : Nat} {x : Sp.Source} {s : Sp.Mk} {v : MkV} {e0 at0 : Int} {nm0 : List UInt8} (y : Sp.Sym) (h : MakerAt B W m x s v e0 at0 nm0) (hl62 : s.lefts.length ≤ 2 ^ 62) (hy : y.name.length ≤ maxLen) :
    Calls Tryd.prog 76 #[.pointer (some ⟨m, 0, none⟩), symV y] W fun e w' => e = .returned (.int .i64 (Sp.symNo s y)) ∧ Below W.heap.size W w' := by
  have hy1 : True := trivial
  obtain ⟨nm, lt, nu, pa⟩ := y
  simp only at hy hy1
  have hb := h.block
  unfold mkCells at hb
  have hl := lt_at hb
  have htm := h.tmap
  generalize hbt : v.bt = bt at *
  obtain ⟨kl, hkl⟩ := sym_key (b := lt) hy
  have HH := Lib.hid h
  have hHS1 : ∀ (ov : Int) (ob : Bool), (match Sp.tokIx s.toks nm lt with
      | some k => ((k : Int), true)
      | none => ((0 : Int), false)) = (ov, ob) → ∀ w', Below (W.heap.size + 1) (W.alloc (.cells #[.string ⟨nm.toArray⟩, .bool lt, .int .i64 nu, .int .i64 pa] 26)) w' → (w'.cell? ⟨m, 9, none⟩ = some (.map (some bt)) ∧ w'.cell? ⟨W.heap.size, 0, none⟩ = some (.string ⟨nm.toArray⟩) ∧ w'.cell? ⟨W.heap.size, 1, none⟩ = some (.bool lt) ∧ w'.cell? ⟨W.heap.size, 2, none⟩ = some (.int .i64 nu) ∧ w'.cell? ⟨W.heap.size, 3, none⟩ = some (.int .i64 pa) ∧ (Instr.lookup 80 (.map (some bt)) (.agg #[.string ⟨nm.toArray⟩, .bool lt]) true).run Tryd.prog w' = .ok (.tuple #[.int .i64 ov, .bool ob]) w') := by
    intro ov ob hob w' hw'
    have hbx := (hw'.block W.heap.size (by omega)).trans (heap_last W _)
    have hbm := (hw'.block m (by omega)).trans ((Below.heap_alloc _ _ _ hl).trans hb)
    have hk := (htm.block ((hw'.block bt (by have := htm.lt; omega)).trans (Below.heap_alloc _ _ _ htm.lt))).look true key_law Tryd.underlying80 (zero_int w') hkl
    refine ⟨cell_at (i := 9) hbm, cell_at (i := 0) hbx, cell_at (i := 1) hbx, cell_at (i := 2) hbx, cell_at (i := 3) hbx, ?_⟩
    rw [hk]
    have e : tokL s.toks (.agg #[.string ⟨nm.toArray⟩, .bool lt]) = (Sp.tokIx s.toks nm lt).map fun (k : Nat) => Value.int .i64 (k : Int) := rfl
    rw [e]
    cases ho : Sp.tokIx s.toks nm lt with
    | some k => rw [ho] at hob; simp only [Prod.mk.injEq] at hob; obtain ⟨rfl, rfl⟩ := hob; rfl
    | none => rw [ho] at hob; simp only [Prod.mk.injEq] at hob; obtain ⟨rfl, rfl⟩ := hob; rfl
  have HKY := Lib.hid (fun w => (show Calls Tryd.prog 72 #[.agg #[.string ⟨nm.toArray⟩, .bool lt, .int .i64 nu, .int .i64 pa]] w (fun e w' => e = .returned (.agg #[.string ⟨nm.toArray⟩, .bool lt]) ∧ Below w.heap.size w w') from gram_keyOf ⟨nm, lt, nu, pa⟩ w))
  have hnm := h.nmap
  generalize hbn : v.bn = bn at *
  obtain ⟨kl2, hkl2⟩ := str_key hy
  unfold Sp.symNo
  simp only
  show Calls _ _ #[_, .agg #[.string ⟨nm.toArray⟩, .bool lt, .int .i64 nu, .int .i64 pa]] _ _
  cases ho : Sp.tokIx s.toks nm lt with
  | some k =>
    rw [ho] at hHS1
    have HS1 := Lib.hid (hHS1 _ _ rfl)
    clear hHS1 htm hb h hnm
    go_enter Tryd.func76, Tryd.ntmps76
    go_wp2_with fail
    refine wp_region_plan (fun w' : World => (w'.cell? ⟨m, 9, none⟩ = some (.map (some bt)) ∧ w'.cell? ⟨W.heap.size, 0, none⟩ = some (.string ⟨nm.toArray⟩) ∧ w'.cell? ⟨W.heap.size, 1, none⟩ = some (.bool lt) ∧ w'.cell? ⟨W.heap.size, 2, none⟩ = some (.int .i64 nu) ∧ w'.cell? ⟨W.heap.size, 3, none⟩ = some (.int .i64 pa) ∧ (Instr.lookup 80 (.map (some bt)) (.agg #[.string ⟨nm.toArray⟩, .bool lt]) true).run Tryd.prog w' = .ok (.tuple #[.int .i64 (k : Int), .bool true]) w')) [] (.take 0 (.take 1 (.take 2 (.take 3 (.take 4 (.one 5 (.take 6 (.take 7 (.take 8 (.take 9 (.one 10 (.one 11 (.done))))))))))))) (by kernel_rfl) (by kernel_rfl) (fun _ _ _ _ h => h) ?_
    have hSw := HS1.out _ (below_drewN (Below.refl _ _) 1)
    refine wpPlan_take (v := ?vs36) rfl hSw (by rfl) ?ys36 ?_
    case ys36 => (intro w hSx; (try dsimp only at hSx); go_simp; first | done | with_reducible rfl | rfl)
    (try simp only [Act.put, List.setIfInBounds_toArray, List.set_cons_zero, List.set_cons_succ])
    refine wpPlan_take (v := ?vs37) rfl hSw (by rfl) ?ys37 ?_
    case ys37 => (intro w hSx; (try dsimp only at hSx); go_simp; first | done | with_reducible rfl | rfl)
    (try simp only [Act.put, List.setIfInBounds_toArray, List.set_cons_zero, List.set_cons_succ])
    refine wpPlan_take (v := ?vs38) rfl hSw (by rfl) ?ys38 ?_
    case ys38 => (intro w hSx; (try dsimp only at hSx); go_simp; first | done | with_reducible rfl | rfl)
    (try simp only [Act.put, List.setIfInBounds_toArray, List.set_cons_zero, List.set_cons_succ])
    refine wpPlan_take (v := ?vs39) rfl hSw (by rfl) ?ys39 ?_
    case ys39 => (intro w hSx; (try dsimp only at hSx); go_simp; first | done | with_reducible rfl | rfl)
    (try simp only [Act.put, List.setIfInBounds_toArray, List.set_cons_zero, List.set_cons_succ])
    refine wpPlan_take (v := ?vs40) rfl hSw (by rfl) ?ys40 ?_
    case ys40 => (intro w hSx; (try dsimp only at hSx); go_simp; first | done | with_reducible rfl | rfl)
    (try simp only [Act.put, List.setIfInBounds_toArray, List.set_cons_zero, List.set_cons_succ])
    refine wpPlan_run rfl (by rfl) (fun K' hK => ?_)
    (go_simp; go_at_call 72; refine (HKY.out _).mono ?_; rintro e w1 ⟨rfl, hb1⟩; have HB1 := Lib.hid (show Below (W.heap.size + 1) (W.alloc (.cells #[.string ⟨nm.toArray⟩, .bool lt, .int .i64 nu, .int .i64 pa] 26)) w1 from (below_undrew hb1).mono (by show _ ≤ (W.alloc _).heap.size; simp)); clear hb1)
    refine hK _ _ (.inr ?_) ?_
    · exact HS1.out _ HB1.out
    clear hK K' hSw
    have hSw := HS1.out _ HB1.out
    (try simp only [Act.put, List.setIfInBounds_toArray, List.set_cons_zero, List.set_cons_succ])
    refine wpPlan_take (v := ?vs41) rfl hSw (by rfl) ?ys41 ?_
    case ys41 => (intro w hSx; (try dsimp only at hSx); go_simp; first | done | with_reducible rfl | rfl)
    (try simp only [Act.put, List.setIfInBounds_toArray, List.set_cons_zero, List.set_cons_succ])
    refine wpPlan_take (v := ?vs42) rfl hSw (by rfl) ?ys42 ?_
    case ys42 => (intro w hSx; (try dsimp only at hSx); go_simp; first | done | with_reducible rfl | rfl)
    (try simp only [Act.put, List.setIfInBounds_toArray, List.set_cons_zero, List.set_cons_succ])
    refine wpPlan_take (v := ?vs43) rfl hSw (by rfl) ?ys43 ?_
    case ys43 => (intro w hSx; (try dsimp only at hSx); go_simp; first | done | with_reducible rfl | rfl)
    (try simp only [Act.put, List.setIfInBounds_toArray, List.set_cons_zero, List.set_cons_succ])
    refine wpPlan_take (v := ?vs44) rfl hSw (by rfl) ?ys44 ?_
    case ys44 => (intro w hSx; (try dsimp only at hSx); go_simp; first | done | with_reducible rfl | rfl)
    (try simp only [Act.put, List.setIfInBounds_toArray, List.set_cons_zero, List.set_cons_succ])
    refine wpPlan_run rfl (by rfl) (fun K' hK => ?_)
    go_simp
    refine hK _ _ (.inr ?_) ?_
    · exact HS1.out _ HB1.out
    clear hK K' hSw
    (try simp only [Act.put, List.setIfInBounds_toArray, List.set_cons_zero, List.set_cons_succ])
    refine wpPlan_run rfl (by rfl) (fun K' hK => ?_)
    go_simp
    refine hK _ _ (.inr ?_) ?_
    · exact HS1.out _ HB1.out
    clear hK K'
    (try simp only [Act.put, List.setIfInBounds_toArray, List.set_cons_zero, List.set_cons_succ])
    refine wpPlan_done ?_
    go_wp2_with fail
    go_ret
    exact ⟨ret_int rfl, below_box HB1.out⟩
  | none =>
    rw [ho] at hHS1
    have HS1 := Lib.hid (hHS1 _ _ rfl)
    have hle := Sp.nonIx_getD (lefts := s.lefts) (nm := nm)
    have HS2 : Hid (∀ w', Below (W.heap.size + 1) (W.alloc (.cells #[.string ⟨nm.toArray⟩, .bool lt, .int .i64 nu, .int .i64 pa] 26)) w' → (w'.cell? ⟨m, 11, none⟩ = some (.map (some bn)) ∧ w'.cell? ⟨W.heap.size, 0, none⟩ = some (.string ⟨nm.toArray⟩) ∧ (Instr.lookup 82 (.map (some bn)) (.string ⟨nm.toArray⟩) false).run Tryd.prog w' = .ok (.int .i64 ((Sp.nonIx s.lefts nm).getD 0 : Nat)) w')) := Lib.hid (fun w' hw' => by
      have hbx := (hw'.block W.heap.size (by omega)).trans (heap_last W _)
      have hbm := (hw'.block m (by omega)).trans ((Below.heap_alloc _ _ _ hl).trans hb)
      have hk := (hnm.block ((hw'.block bn (by have := hnm.lt; omega)).trans (Below.heap_alloc _ _ _ hnm.lt))).look false str_law Tryd.underlying82 (zero_int w') hkl2
      refine ⟨cell_at (i := 11) hbm, cell_at (i := 0) hbx, ?_⟩
      rw [hk]
      have e : nonL s.lefts (.string ⟨nm.toArray⟩) = (Sp.nonIx s.lefts nm).map fun (k : Nat) => Value.int .i64 (k : Int) := rfl
      rw [e]
      cases Sp.nonIx s.lefts nm <;> rfl)
    generalize (Sp.nonIx s.lefts nm).getD 0 = nv at *
    clear hHS1 htm hb h hnm
    go_enter Tryd.func76, Tryd.ntmps76
    go_wp2_with fail
    refine wp_region_plan (fun w' : World => (w'.cell? ⟨m, 9, none⟩ = some (.map (some bt)) ∧ w'.cell? ⟨W.heap.size, 0, none⟩ = some (.string ⟨nm.toArray⟩) ∧ w'.cell? ⟨W.heap.size, 1, none⟩ = some (.bool lt) ∧ w'.cell? ⟨W.heap.size, 2, none⟩ = some (.int .i64 nu) ∧ w'.cell? ⟨W.heap.size, 3, none⟩ = some (.int .i64 pa) ∧ (Instr.lookup 80 (.map (some bt)) (.agg #[.string ⟨nm.toArray⟩, .bool lt]) true).run Tryd.prog w' = .ok (.tuple #[.int .i64 0, .bool false]) w')) [] (.take 0 (.take 1 (.take 2 (.take 3 (.take 4 (.one 5 (.take 6 (.take 7 (.take 8 (.take 9 (.one 10 (.one 11 (.done))))))))))))) (by kernel_rfl) (by kernel_rfl) (fun _ _ _ _ h => h) ?_
    have hSw := HS1.out _ (below_drewN (Below.refl _ _) 1)
    refine wpPlan_take (v := ?vt45) rfl hSw (by rfl) ?yt45 ?_
    case yt45 => (intro w hSx; (try dsimp only at hSx); go_simp; first | done | with_reducible rfl | rfl)
    (try simp only [Act.put, List.setIfInBounds_toArray, List.set_cons_zero, List.set_cons_succ])
    refine wpPlan_take (v := ?vt46) rfl hSw (by rfl) ?yt46 ?_
    case yt46 => (intro w hSx; (try dsimp only at hSx); go_simp; first | done | with_reducible rfl | rfl)
    (try simp only [Act.put, List.setIfInBounds_toArray, List.set_cons_zero, List.set_cons_succ])
    refine wpPlan_take (v := ?vt47) rfl hSw (by rfl) ?yt47 ?_
    case yt47 => (intro w hSx; (try dsimp only at hSx); go_simp; first | done | with_reducible rfl | rfl)
    (try simp only [Act.put, List.setIfInBounds_toArray, List.set_cons_zero, List.set_cons_succ])
    refine wpPlan_take (v := ?vt48) rfl hSw (by rfl) ?yt48 ?_
    case yt48 => (intro w hSx; (try dsimp only at hSx); go_simp; first | done | with_reducible rfl | rfl)
    (try simp only [Act.put, List.setIfInBounds_toArray, List.set_cons_zero, List.set_cons_succ])
    refine wpPlan_take (v := ?vt49) rfl hSw (by rfl) ?yt49 ?_
    case yt49 => (intro w hSx; (try dsimp only at hSx); go_simp; first | done | with_reducible rfl | rfl)
    (try simp only [Act.put, List.setIfInBounds_toArray, List.set_cons_zero, List.set_cons_succ])
    refine wpPlan_run rfl (by rfl) (fun K' hK => ?_)
    (go_simp; go_at_call 72; refine (HKY.out _).mono ?_; rintro e w1 ⟨rfl, hb1⟩; have HB1 := Lib.hid (show Below (W.heap.size + 1) (W.alloc (.cells #[.string ⟨nm.toArray⟩, .bool lt, .int .i64 nu, .int .i64 pa] 26)) w1 from (below_undrew hb1).mono (by show _ ≤ (W.alloc _).heap.size; simp)); clear hb1)
    refine hK _ _ (.inr ?_) ?_
    · exact HS1.out _ HB1.out
    clear hK K' hSw
    have hSw := HS1.out _ HB1.out
    (try simp only [Act.put, List.setIfInBounds_toArray, List.set_cons_zero, List.set_cons_succ])
    refine wpPlan_take (v := ?vt50) rfl hSw (by rfl) ?yt50 ?_
    case yt50 => (intro w hSx; (try dsimp only at hSx); go_simp; first | done | with_reducible rfl | rfl)
    (try simp only [Act.put, List.setIfInBounds_toArray, List.set_cons_zero, List.set_cons_succ])
    refine wpPlan_take (v := ?vt51) rfl hSw (by rfl) ?yt51 ?_
    case yt51 => (intro w hSx; (try dsimp only at hSx); go_simp; first | done | with_reducible rfl | rfl)
    (try simp only [Act.put, List.setIfInBounds_toArray, List.set_cons_zero, List.set_cons_succ])
    refine wpPlan_take (v := ?vt52) rfl hSw (by rfl) ?yt52 ?_
    case yt52 => (intro w hSx; (try dsimp only at hSx); go_simp; first | done | with_reducible rfl | rfl)
    (try simp only [Act.put, List.setIfInBounds_toArray, List.set_cons_zero, List.set_cons_succ])
    refine wpPlan_take (v := ?vt53) rfl hSw (by rfl) ?yt53 ?_
    case yt53 => (intro w hSx; (try dsimp only at hSx); go_simp; first | done | with_reducible rfl | rfl)
    (try simp only [Act.put, List.setIfInBounds_toArray, List.set_cons_zero, List.set_cons_succ])
    refine wpPlan_run rfl (by rfl) (fun K' hK => ?_)
    go_simp
    refine hK _ _ (.inr ?_) ?_
    · exact HS1.out _ HB1.out
    clear hK K' hSw
    (try simp only [Act.put, List.setIfInBounds_toArray, List.set_cons_zero, List.set_cons_succ])
    refine wpPlan_run rfl (by rfl) (fun K' hK => ?_)
    go_simp
    refine hK _ _ (.inr ?_) ?_
    · exact HS1.out _ HB1.out
    clear hK K'
    (try simp only [Act.put, List.setIfInBounds_toArray, List.set_cons_zero, List.set_cons_succ])
    refine wpPlan_done ?_
    go_upto_region 4 with fail
    refine wp_region_plan (fun w' : World => (w'.cell? ⟨m, 11, none⟩ = some (.map (some bn)) ∧ w'.cell? ⟨W.heap.size, 0, none⟩ = some (.string ⟨nm.toArray⟩) ∧ (Instr.lookup 82 (.map (some bn)) (.string ⟨nm.toArray⟩) false).run Tryd.prog w' = .ok (.int .i64 (nv : Int)) w')) [] (.take 0 (.take 1 (.take 2 (.take 3 (.take 4 (.take 5 (.take 6 (.take 7 (.one 8 (.done)))))))))) (by kernel_rfl) (by kernel_rfl) (fun _ _ _ _ h => h) ?_
    have hSw := HS2.out _ (below_drewN HB1.out 1)
    refine wpPlan_take (v := ?vn28) rfl hSw (by rfl) ?yn28 ?_
    case yn28 => (intro w hSx; (try dsimp only at hSx); go_simp; first | done | with_reducible rfl | rfl)
    (try simp only [Act.put, List.setIfInBounds_toArray, List.set_cons_zero, List.set_cons_succ])
    refine wpPlan_take (v := ?vn29) rfl hSw (by rfl) ?yn29 ?_
    case yn29 => (intro w hSx; (try dsimp only at hSx); go_simp; first | done | with_reducible rfl | rfl)
    (try simp only [Act.put, List.setIfInBounds_toArray, List.set_cons_zero, List.set_cons_succ])
    refine wpPlan_take (v := ?vn30) rfl hSw (by rfl) ?yn30 ?_
    case yn30 => (intro w hSx; (try dsimp only at hSx); go_simp; first | done | with_reducible rfl | rfl)
    (try simp only [Act.put, List.setIfInBounds_toArray, List.set_cons_zero, List.set_cons_succ])
    refine wpPlan_take (v := ?vn31) rfl hSw (by rfl) ?yn31 ?_
    case yn31 => (intro w hSx; (try dsimp only at hSx); go_simp; first | done | with_reducible rfl | rfl)
    (try simp only [Act.put, List.setIfInBounds_toArray, List.set_cons_zero, List.set_cons_succ])
    refine wpPlan_take (v := ?vn32) rfl hSw (by rfl) ?yn32 ?_
    case yn32 => (intro w hSx; (try dsimp only at hSx); go_simp; first | done | with_reducible rfl | rfl)
    (try simp only [Act.put, List.setIfInBounds_toArray, List.set_cons_zero, List.set_cons_succ])
    refine wpPlan_take (v := ?vn33) rfl hSw (by rfl) ?yn33 ?_
    case yn33 => (intro w hSx; (try dsimp only at hSx); go_simp; first | done | with_reducible rfl | rfl)
    (try simp only [Act.put, List.setIfInBounds_toArray, List.set_cons_zero, List.set_cons_succ])
    refine wpPlan_take (v := ?vn34) rfl hSw (by rfl) ?yn34 ?_
    case yn34 => (intro w hSx; (try dsimp only at hSx); go_simp; first | done | with_reducible rfl | rfl)
    (try simp only [Act.put, List.setIfInBounds_toArray, List.set_cons_zero, List.set_cons_succ])
    refine wpPlan_take (v := ?vn35) rfl hSw (by rfl) ?yn35 ?_
    case yn35 => (intro w hSx; (try dsimp only at hSx); go_simp; first | done | with_reducible rfl | rfl)
    (try simp only [Act.put, List.setIfInBounds_toArray, List.set_cons_zero, List.set_cons_succ])
    refine wpPlan_run rfl (by rfl) (fun K' hK => ?_)
    go_simp
    refine hK _ _ (.inr ?_) ?_
    · exact HS2.out _ (below_drewN HB1.out 1)
    clear hK K' hSw
    (try simp only [Act.put, List.setIfInBounds_toArray, List.set_cons_zero, List.set_cons_succ])
    refine wpPlan_done ?_
    go_wp2_with fail
    go_ret
    exact ⟨ret_int (IntWalk.i64_in _ ⟨by omega, by omega⟩), below_box (below_drewN HB1.out 1)⟩
end Go.Proofs.YtddnomjfcbplpaaDoor
