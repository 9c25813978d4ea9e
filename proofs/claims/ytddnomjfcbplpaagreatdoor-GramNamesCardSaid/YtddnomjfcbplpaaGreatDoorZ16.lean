import Derived.Test.YtddnomjfcbplpaaGreatDoorZ15
namespace Go.Proofs.YtddnomjfcbplpaaGreatDoor
open Go.RowKit Go.Maps

theorem Sp.nonIx_le {lefts : List (List UInt8)} {nm : List UInt8} {k : Nat} (h : Sp.yO lefts nm = some k) : 1 ≤ k ∧ k ≤ lefts.length := by
 unfold Sp.yO at h; obtain ⟨h1, x, h2, _⟩ := Sp.zDD h; have := (List.getElem?_eq_some_iff.1 h2).1; omega
theorem Sp.nonIx_getD {lefts : List (List UInt8)} {nm : List UInt8} : (Sp.yO lefts nm).getD 0 ≤ lefts.length := by
 cases h : Sp.yO lefts nm with
 | none => simp
 | some k => exact (Sp.nonIx_le h).2
set_option maxRecDepth 100000 in
set_option maxHeartbeats 6400000 in
theorem maker_symbol {B : Nat} {W : World} {m : Nat} {x : Sp.zM} {s : Sp.Mk} {v : MkV} {e0 at0 : Int} {nm0 : List UInt8} (y : Sp.Sym) (h : zS B W m x s v e0 at0 nm0) (hl62 : s.lefts.length ≤ 2 ^ 62) (hy : y.name.length ≤ maxLen) :
  Calls Tryz.prog 86 #[.pointer (some ⟨m, 0, none⟩), symV y] W fun e w' => e = .returned (.int .i64 (Sp.zAL s y)) ∧ Below W.heap.size W w' := by
 have hy1 : True := trivial; obtain ⟨nm, lt, nu, pa⟩ := y; simp only at hy hy1; have hb := h.block; unfold zX at hb; have hl := zC hb; have htm := h.tmap; generalize hbt : v.bt = bt at *
 obtain ⟨kl, hkl⟩ := zBO (b := lt) hy; have HH := zh h
 have hHS1 : ∀ (ov : Int) (ob : Bool), (match Sp.yD s.toks nm lt with
   | some k => ((k : Int), true)
   | none => ((0 : Int), false)) = (ov, ob) → ∀ w', Below (W.heap.size + 1) (W.alloc (.cells #[.string ⟨nm.toArray⟩, .bool lt, .int .i64 nu, .int .i64 pa] 45)) w' → (w'.cell? ⟨m, 9, none⟩ = some (.map (some bt)) ∧ w'.cell? ⟨W.heap.size, 0, none⟩ = some (.string ⟨nm.toArray⟩) ∧ w'.cell? ⟨W.heap.size, 1, none⟩ = some (.bool lt) ∧ w'.cell? ⟨W.heap.size, 2, none⟩ = some (.int .i64 nu) ∧ w'.cell? ⟨W.heap.size, 3, none⟩ = some (.int .i64 pa) ∧ (Instr.lookup 95 (.map (some bt)) (.agg #[.string ⟨nm.toArray⟩, .bool lt]) true).run Tryz.prog w' = .ok (.tuple #[.int .i64 ov, .bool ob]) w') := by
  intro ov ob hob w' hw'; have hbx := (hw'.block W.heap.size (by omega)).trans (zE W _); have hbm := (hw'.block m (by omega)).trans ((Below.heap_alloc _ _ _ hl).trans hb); have hk := (htm.block ((hw'.block bt (by have := htm.lt; omega)).trans (Below.heap_alloc _ _ _ htm.lt))).look true zAP Tryz.underlying95 (kQ w') hkl; refine ⟨zc 9 hbm, zc 0 hbx, zc 1 hbx, zc 2 hbx, zc 3 hbx, ?_⟩; rw [hk]; have e : tokL s.toks (.agg #[.string ⟨nm.toArray⟩, .bool lt]) = (Sp.yD s.toks nm lt).map fun (k : Nat) => Value.int .i64 (k : Int) := rfl
  rw [e]
  cases ho : Sp.yD s.toks nm lt with
  | some k => rw [ho] at hob; simp only [Prod.mk.injEq] at hob; obtain ⟨rfl, rfl⟩ := hob; rfl
  | none => rw [ho] at hob; simp only [Prod.mk.injEq] at hob; obtain ⟨rfl, rfl⟩ := hob; rfl
 have HKY := zh (fun w => (show Calls Tryz.prog 82 #[.agg #[.string ⟨nm.toArray⟩, .bool lt, .int .i64 nu, .int .i64 pa]] w (fun e w' => e = .returned (.agg #[.string ⟨nm.toArray⟩, .bool lt]) ∧ Below w.heap.size w w') from zAE ⟨nm, lt, nu, pa⟩ w)); have hnm := h.nmap; generalize hbn : v.bn = bn at *
 obtain ⟨kl2, hkl2⟩ := zBP hy; unfold Sp.zAL; simp only; show Calls _ _ #[_, .agg #[.string ⟨nm.toArray⟩, .bool lt, .int .i64 nu, .int .i64 pa]] _ _
 cases ho : Sp.yD s.toks nm lt with
 | some k =>
  rw [ho] at hHS1; have HS1 := zh (hHS1 _ _ rfl); clear hHS1 htm hb h hnm; go_enter Tryz.func86, Tryz.ntmps86
  go_wp2_with fail; refine zF (fun w' : World => (w'.cell? ⟨m, 9, none⟩ = some (.map (some bt)) ∧ w'.cell? ⟨W.heap.size, 0, none⟩ = some (.string ⟨nm.toArray⟩) ∧ w'.cell? ⟨W.heap.size, 1, none⟩ = some (.bool lt) ∧ w'.cell? ⟨W.heap.size, 2, none⟩ = some (.int .i64 nu) ∧ w'.cell? ⟨W.heap.size, 3, none⟩ = some (.int .i64 pa) ∧ (Instr.lookup 95 (.map (some bt)) (.agg #[.string ⟨nm.toArray⟩, .bool lt]) true).run Tryz.prog w' = .ok (.tuple #[.int .i64 (k : Int), .bool true]) w')) [] (.take 0 (.take 1 (.take 2 (.take 3 (.take 4 (.one 5 (.take 6 (.take 7 (.take 8 (.take 9 (.one 10 (.one 11 (.done))))))))))))) (by kernel_rfl) (by kernel_rfl) (fun _ _ _ _ h => h) ?_; have hSw := HS1.out _ (below_drewN (Below.refl _ _) 1); iterate 5 (refine zN (v := ?_) rfl hSw (by rfl) ?_ ?_; rotate_left 1; (focus (intro w hSx; (try dsimp only at hSx); go_simp; try rfl)); (try simp only [Act.put, zq0, zq1, zq2]))
  refine zB rfl (by rfl) (fun K' hK => ?_)
  (go_simp; go_at_call 82; refine (HKY.out _).mono ?_; rintro e w1 ⟨rfl, hb1⟩; have HB1 := zh (show Below (W.heap.size + 1) (W.alloc (.cells #[.string ⟨nm.toArray⟩, .bool lt, .int .i64 nu, .int .i64 pa] 45)) w1 from (zI hb1).mono (by show _ ≤ (W.alloc _).heap.size; simp)); clear hb1)
  refine hK _ _ (.inr (HS1.out _ HB1.out)) ?_; clear hK K' hSw; have hSw := HS1.out _ HB1.out; (try simp only [Act.put, zq0, zq1, zq2]); iterate 4 (refine zN (v := ?_) rfl hSw (by rfl) ?_ ?_; rotate_left 1; (focus (intro w hSx; (try dsimp only at hSx); go_simp; try rfl)); (try simp only [Act.put, zq0, zq1, zq2]))
  refine zB rfl (by rfl) (fun K' hK => ?_); go_simp; refine hK _ _ (.inr (HS1.out _ HB1.out)) ?_; clear hK K' hSw; (try simp only [Act.put, zq0, zq1, zq2]); refine zB rfl (by rfl) (fun K' hK => ?_); go_simp; refine hK _ _ (.inr (HS1.out _ HB1.out)) ?_; clear hK K'; (try simp only [Act.put, zq0, zq1, zq2]); refine zH ?_; go_wp2_with fail; go_ret; exact ⟨zW rfl, zT HB1.out⟩
 | none =>
  rw [ho] at hHS1; have HS1 := zh (hHS1 _ _ rfl); have hle := Sp.nonIx_getD (lefts := s.lefts) (nm := nm)
  have HS2 : Hid (∀ w', Below (W.heap.size + 1) (W.alloc (.cells #[.string ⟨nm.toArray⟩, .bool lt, .int .i64 nu, .int .i64 pa] 45)) w' → (w'.cell? ⟨m, 11, none⟩ = some (.map (some bn)) ∧ w'.cell? ⟨W.heap.size, 0, none⟩ = some (.string ⟨nm.toArray⟩) ∧ (Instr.lookup 96 (.map (some bn)) (.string ⟨nm.toArray⟩) false).run Tryz.prog w' = .ok (.int .i64 ((Sp.yO s.lefts nm).getD 0 : Nat)) w')) := zh (fun w' hw' => by
   have hbx := (hw'.block W.heap.size (by omega)).trans (zE W _); have hbm := (hw'.block m (by omega)).trans ((Below.heap_alloc _ _ _ hl).trans hb); have hk := (hnm.block ((hw'.block bn (by have := hnm.lt; omega)).trans (Below.heap_alloc _ _ _ hnm.lt))).look false vB Tryz.underlying96 (kQ w') hkl2; refine ⟨zc 11 hbm, zc 0 hbx, ?_⟩; rw [hk]; have e : nonL s.lefts (.string ⟨nm.toArray⟩) = (Sp.yO s.lefts nm).map fun (k : Nat) => Value.int .i64 (k : Int) := rfl
   rw [e]
   cases Sp.yO s.lefts nm <;> rfl)
  generalize (Sp.yO s.lefts nm).getD 0 = nv at *
  clear hHS1 htm hb h hnm; go_enter Tryz.func86, Tryz.ntmps86
  go_wp2_with fail; refine zF (fun w' : World => (w'.cell? ⟨m, 9, none⟩ = some (.map (some bt)) ∧ w'.cell? ⟨W.heap.size, 0, none⟩ = some (.string ⟨nm.toArray⟩) ∧ w'.cell? ⟨W.heap.size, 1, none⟩ = some (.bool lt) ∧ w'.cell? ⟨W.heap.size, 2, none⟩ = some (.int .i64 nu) ∧ w'.cell? ⟨W.heap.size, 3, none⟩ = some (.int .i64 pa) ∧ (Instr.lookup 95 (.map (some bt)) (.agg #[.string ⟨nm.toArray⟩, .bool lt]) true).run Tryz.prog w' = .ok (.tuple #[.int .i64 0, .bool false]) w')) [] (.take 0 (.take 1 (.take 2 (.take 3 (.take 4 (.one 5 (.take 6 (.take 7 (.take 8 (.take 9 (.one 10 (.one 11 (.done))))))))))))) (by kernel_rfl) (by kernel_rfl) (fun _ _ _ _ h => h) ?_; have hSw := HS1.out _ (below_drewN (Below.refl _ _) 1); iterate 5 (refine zN (v := ?_) rfl hSw (by rfl) ?_ ?_; rotate_left 1; (focus (intro w hSx; (try dsimp only at hSx); go_simp; try rfl)); (try simp only [Act.put, zq0, zq1, zq2]))
  refine zB rfl (by rfl) (fun K' hK => ?_)
  (go_simp; go_at_call 82; refine (HKY.out _).mono ?_; rintro e w1 ⟨rfl, hb1⟩; have HB1 := zh (show Below (W.heap.size + 1) (W.alloc (.cells #[.string ⟨nm.toArray⟩, .bool lt, .int .i64 nu, .int .i64 pa] 45)) w1 from (zI hb1).mono (by show _ ≤ (W.alloc _).heap.size; simp)); clear hb1)
  refine hK _ _ (.inr (HS1.out _ HB1.out)) ?_; clear hK K' hSw; have hSw := HS1.out _ HB1.out; (try simp only [Act.put, zq0, zq1, zq2]); iterate 4 (refine zN (v := ?_) rfl hSw (by rfl) ?_ ?_; rotate_left 1; (focus (intro w hSx; (try dsimp only at hSx); go_simp; try rfl)); (try simp only [Act.put, zq0, zq1, zq2]))
  refine zB rfl (by rfl) (fun K' hK => ?_); go_simp; refine hK _ _ (.inr (HS1.out _ HB1.out)) ?_; clear hK K' hSw; (try simp only [Act.put, zq0, zq1, zq2]); refine zB rfl (by rfl) (fun K' hK => ?_); go_simp; refine hK _ _ (.inr (HS1.out _ HB1.out)) ?_; clear hK K'; (try simp only [Act.put, zq0, zq1, zq2]); refine zH ?_; go_upto_region 4 with fail
  refine zF (fun w' : World => (w'.cell? ⟨m, 11, none⟩ = some (.map (some bn)) ∧ w'.cell? ⟨W.heap.size, 0, none⟩ = some (.string ⟨nm.toArray⟩) ∧ (Instr.lookup 96 (.map (some bn)) (.string ⟨nm.toArray⟩) false).run Tryz.prog w' = .ok (.int .i64 (nv : Int)) w')) [] (.take 0 (.take 1 (.take 2 (.take 3 (.take 4 (.take 5 (.take 6 (.take 7 (.one 8 (.done)))))))))) (by kernel_rfl) (by kernel_rfl) (fun _ _ _ _ h => h) ?_; have hSw := HS2.out _ (below_drewN HB1.out 1); iterate 8 (refine zN (v := ?_) rfl hSw (by rfl) ?_ ?_; rotate_left 1; (focus (intro w hSx; (try dsimp only at hSx); go_simp; try rfl)); (try simp only [Act.put, zq0, zq1, zq2]))
  refine zB rfl (by rfl) (fun K' hK => ?_); go_simp; refine hK _ _ (.inr (HS2.out _ (below_drewN HB1.out 1))) ?_; clear hK K' hSw; (try simp only [Act.put, zq0, zq1, zq2]); refine zH ?_; go_wp2_with fail; go_ret; exact ⟨zW (IntWalk.i64_in _ ⟨by omega, by omega⟩), zT (below_drewN HB1.out 1)⟩
end Go.Proofs.YtddnomjfcbplpaaGreatDoor
