import Derived.Deep.AppendLies
import Derived.Deep.DeepCutAuto
import Derived.Test.YtddnomjfcbplpaaGreatDoorZ18
namespace Go.Proofs.YtddnomjfcbplpaaGreatDoor
open Go.RowKit Go.Maps

theorem info_tokE : (Tryz.prog.info? 65).map (fun i => (i.zero, i.size, i.bytes)) = some (some (.agg #[.string ⟨#[]⟩, .bool false, .int .i64 0, .int .i64 0, .int .i64 0, .string ⟨#[]⟩]), 6, 64) := by kernel_rfl
theorem zCC : (Tryz.prog.info? 4).map (fun i => (i.zero, i.size, i.bytes)) = some (some (.bool false), 1, 1) := by kernel_rfl
theorem yW {w : World} {B e size g n cap : Nat} {xs : List Value} (h : w.ownsRow B e size (.slice (some ⟨g, 0, none⟩) n cap) n xs) : ∃ cu, w.heap[g]? = some (.cells cu e (0, 0)) := by
 rcases h.2 with ⟨h, _⟩ | ⟨g', _, cu, h, _, hh, _⟩
 ·simp at h
 ·simp only [Value.slice.injEq, Option.some.injEq, Addr.mk.injEq, and_true, true_and] at h
  obtain ⟨rfl, _⟩ := h; exact ⟨cu, hh⟩
def AddPost (B m : Nat) (x : Sp.zM) (v : MkV) (W : World) (e0 at0 : Int) (nm0 : List UInt8) (r : Sp.Mk × Nat) (e : Ending) (w' : World) : Prop :=
 e = .returned (.int .i64 (r.2 : Int)) ∧ ∃ v', zS B w' m x r.1 v' e0 at0 nm0 ∧ MkFr m v v' W w' ∧ v'.dv = v.dv ∧ v'.rv = v.rv
def AddW (B m n : Nat) (x : Sp.zM) (s : Sp.Mk) (v : MkV) (e0 at0 : Int) (nm0 : List UInt8) (t : Sp.Tok) (gt gg : Nat) (w2 wx : World) : Prop :=
 ∃ g1 c1 g2 c2 : Nat, wx.heap[m]? = some (.cells (zX x s { v with tv := .slice (some ⟨g1, 0, none⟩) (n + 1) c1, gv := .slice (some ⟨g2, 0, none⟩) (n + 1) c2 } e0 at0 nm0).toArray 99 (0, 0)) ∧
  wx.ownsRow B 65 6 (.slice (some ⟨g1, 0, none⟩) (n + 1) c1) (n + 1) ((s.toks.map tokC).flatten ++ tokC t) ∧ wx.ownsRow B 4 1 (.slice (some ⟨g2, 0, none⟩) (n + 1) c2) (n + 1) (s.given.map Value.bool ++ [.bool t.lit]) ∧
  Kp (fun b => b ≠ gt ∧ b ≠ gg ∧ b ≠ m) w2 wx ∧ (g1 = gt ∨ w2.heap.size ≤ g1) ∧ (g2 = gg ∨ w2.heap.size ≤ g2)
theorem add_post {B m n : Nat} {x : Sp.zM} {s : Sp.Mk} {v : MkV} {e0 at0 : Int} {nm0 : List UInt8} {t : Sp.Tok} {gt gg g1 c1 g2 c2 : Nat} {w2 w6 : World} (h : zS B w2 m x s v e0 at0 nm0) (hmt : m ≠ gt) (hmg : m ≠ gg) (k : Kp (fun b => b ≠ gt ∧ b ≠ gg) w2 w6)
  (h1 : w6.ownsRow B 65 6 (.slice (some ⟨g1, 0, none⟩) (n + 1) c1) (n + 1) ((s.toks.map tokC).flatten ++ tokC t)) (h2 : w6.ownsRow B 4 1 (.slice (some ⟨g2, 0, none⟩) (n + 1) c2) (n + 1) (s.given.map Value.bool ++ [.bool t.lit])) (a1 : g1 = gt ∨ w2.heap.size ≤ g1) (a2 : g2 = gg ∨ w2.heap.size ≤ g2) :
  AddW B m n x s v e0 at0 nm0 t gt gg w2 ((w6.setCell ⟨m, 4, none⟩ (.slice (some ⟨g1, 0, none⟩) (n + 1) c1)).setCell ⟨m, 10, none⟩ (.slice (some ⟨g2, 0, none⟩) (n + 1) c2)) := by
 have hb := (k.block m (zC h.block) ⟨hmt, hmg⟩).trans h.block; unfold zX at hb; have hb1 := zA (i := 4) (v := .slice (some ⟨g1, 0, none⟩) (n + 1) c1) hb; have hb2 := zA (i := 10) (v := .slice (some ⟨g2, 0, none⟩) (n + 1) c2) hb1; refine ⟨g1, c1, g2, c2, hb2, zR (zR h1 hb (by decide) _) hb1 (by decide) _, zR (zR h2 hb (by decide) _) hb1 (by decide) _, ?_, a1, a2⟩; exact ((k.mono (fun b _ hn => ⟨hn.1, hn.2.1⟩)).setCell (p := ⟨m, 4, none⟩) (fun hn => hn.2.2 rfl) _).setCell (p := ⟨m, 10, none⟩) (fun hn => hn.2.2 rfl) _
set_option maxRecDepth 100000 in
set_option maxHeartbeats 12800000 in
theorem maker_add {B : Nat} {W : World} {m : Nat} {x : Sp.zM} {s : Sp.Mk} {v : MkV} {e0 at0 : Int} {nm0 : List UInt8} (y : Sp.Sym) (h : zS B W m x s v e0 at0 nm0) (hn40 : s.toks.length ≤ 2 ^ 40) (hy : y.name.length ≤ maxLen) (hy1 : y.lit = true → ∃ c, y.name = [c]) :
  Calls Tryz.prog 85 #[.pointer (some ⟨m, 0, none⟩), symV y] W (AddPost B m x v W e0 at0 nm0 (Sp.addTok s y)) := by
 obtain ⟨nm, lt, nu, pa⟩ := y; simp only at hy hy1; have hb := h.block; unfold zX at hb; have hl := zC hb; have htm := h.tmap; generalize hbt : v.bt = bt at *
 obtain ⟨kl, hkl⟩ := zBO (b := lt) hy; have HH := zh h
 have hHS1 : ∀ (ov : Int) (ob : Bool), (match Sp.yD s.toks nm lt with
   | some k => ((k : Int), true)
   | none => ((0 : Int), false)) = (ov, ob) → ∀ w', Below (W.heap.size + 1) (W.alloc (.cells #[.string ⟨nm.toArray⟩, .bool lt, .int .i64 nu, .int .i64 pa] 45)) w' → (w'.cell? ⟨m, 9, none⟩ = some (.map (some bt)) ∧ w'.cell? ⟨W.heap.size, 0, none⟩ = some (.string ⟨nm.toArray⟩) ∧ w'.cell? ⟨W.heap.size, 1, none⟩ = some (.bool lt) ∧ w'.cell? ⟨W.heap.size, 2, none⟩ = some (.int .i64 nu) ∧ w'.cell? ⟨W.heap.size, 3, none⟩ = some (.int .i64 pa) ∧ (Instr.lookup 95 (.map (some bt)) (.agg #[.string ⟨nm.toArray⟩, .bool lt]) true).run Tryz.prog w' = .ok (.tuple #[.int .i64 ov, .bool ob]) w') := by
  intro ov ob hob w' hw'; have hbx := (hw'.block W.heap.size (by omega)).trans (zE W _); have hbm := (hw'.block m (by omega)).trans ((Below.heap_alloc _ _ _ hl).trans hb); have hk := (htm.block ((hw'.block bt (by have := htm.lt; omega)).trans (Below.heap_alloc _ _ _ htm.lt))).look true zAP Tryz.underlying95 (kQ w') hkl; refine ⟨zc 9 hbm, zc 0 hbx, zc 1 hbx, zc 2 hbx, zc 3 hbx, ?_⟩; rw [hk]; have e : tokL s.toks (.agg #[.string ⟨nm.toArray⟩, .bool lt]) = (Sp.yD s.toks nm lt).map fun (k : Nat) => Value.int .i64 (k : Int) := rfl
  rw [e]
  cases ho : Sp.yD s.toks nm lt with
  | some k => rw [ho] at hob; simp only [Prod.mk.injEq] at hob; obtain ⟨rfl, rfl⟩ := hob; rfl
  | none => rw [ho] at hob; simp only [Prod.mk.injEq] at hob; obtain ⟨rfl, rfl⟩ := hob; rfl
 have HKY := zh (fun w => (show Calls Tryz.prog 82 #[.agg #[.string ⟨nm.toArray⟩, .bool lt, .int .i64 nu, .int .i64 pa]] w (fun e w' => e = .returned (.agg #[.string ⟨nm.toArray⟩, .bool lt]) ∧ Below w.heap.size w w') from zAE ⟨nm, lt, nu, pa⟩ w)); show Calls _ _ #[_, .agg #[.string ⟨nm.toArray⟩, .bool lt, .int .i64 nu, .int .i64 pa]] _ _
 cases ho : Sp.yD s.toks nm lt with
 | some k =>
  rw [ho] at hHS1; have HS1 := zh (hHS1 _ _ rfl); clear hHS1 htm hb h; go_enter Tryz.func85, Tryz.ntmps85
  go_wp2_with fail; refine zF (fun w' : World => (w'.cell? ⟨m, 9, none⟩ = some (.map (some bt)) ∧ w'.cell? ⟨W.heap.size, 0, none⟩ = some (.string ⟨nm.toArray⟩) ∧ w'.cell? ⟨W.heap.size, 1, none⟩ = some (.bool lt) ∧ w'.cell? ⟨W.heap.size, 2, none⟩ = some (.int .i64 nu) ∧ w'.cell? ⟨W.heap.size, 3, none⟩ = some (.int .i64 pa) ∧ (Instr.lookup 95 (.map (some bt)) (.agg #[.string ⟨nm.toArray⟩, .bool lt]) true).run Tryz.prog w' = .ok (.tuple #[.int .i64 (k : Int), .bool true]) w')) [] (.take 0 (.take 1 (.take 2 (.take 3 (.take 4 (.one 5 (.take 6 (.take 7 (.take 8 (.take 9 (.one 10 (.one 11 (.done))))))))))))) (by kernel_rfl) (by kernel_rfl) (fun _ _ _ _ h => h) ?_; have hSw := HS1.out _ (below_drewN (Below.refl _ _) 1); iterate 5 (refine zN (v := ?_) rfl hSw (by rfl) ?_ ?_; rotate_left 1; (focus (intro w hSx; (try dsimp only at hSx); go_simp; try rfl)); (try simp only [Act.put, zq0, zq1, zq2]))
  refine zB rfl (by rfl) (fun K' hK => ?_)
  (go_simp; go_at_call 82; refine (HKY.out _).mono ?_; rintro e w1 ⟨rfl, hb1⟩; have HB1 := zh (show Below (W.heap.size + 1) (W.alloc (.cells #[.string ⟨nm.toArray⟩, .bool lt, .int .i64 nu, .int .i64 pa] 45)) w1 from (zI hb1).mono (by show _ ≤ (W.alloc _).heap.size; simp)); clear hb1)
  refine hK _ _ (.inr (HS1.out _ HB1.out)) ?_; clear hK K' hSw; have hSw := HS1.out _ HB1.out; (try simp only [Act.put, zq0, zq1, zq2]); iterate 4 (refine zN (v := ?_) rfl hSw (by rfl) ?_ ?_; rotate_left 1; (focus (intro w hSx; (try dsimp only at hSx); go_simp; try rfl)); (try simp only [Act.put, zq0, zq1, zq2]))
  refine zB rfl (by rfl) (fun K' hK => ?_); go_simp; refine hK _ _ (.inr (HS1.out _ HB1.out)) ?_; clear hK K' hSw; (try simp only [Act.put, zq0, zq1, zq2]); refine zB rfl (by rfl) (fun K' hK => ?_); go_simp; refine hK _ _ (.inr (HS1.out _ HB1.out)) ?_; clear hK K'; (try simp only [Act.put, zq0, zq1, zq2]); refine zH ?_; go_wp2_with fail; go_ret; have hat : Sp.addTok s ⟨nm, lt, nu, pa⟩ = (s, k) := by unfold Sp.addTok; simp only [ho]
  rw [hat]; unfold AddPost; exact ⟨zW rfl, v, zDO HH.out HB1.out, MkFr.below v (zT HB1.out), rfl, rfl⟩
 | none =>
  rw [ho] at hHS1; have HS1 := zh (hHS1 _ _ rfl); clear hHS1 htm hb h; obtain ⟨tn, htn⟩ : ∃ tn : Int, tn = if lt = true then Sp.byte0 nm else 0 := ⟨_, rfl⟩
  have HTN := zh htn; clear htn; go_enter Tryz.func85, Tryz.ntmps85
  go_wp2_with fail; refine zF (fun w' : World => (w'.cell? ⟨m, 9, none⟩ = some (.map (some bt)) ∧ w'.cell? ⟨W.heap.size, 0, none⟩ = some (.string ⟨nm.toArray⟩) ∧ w'.cell? ⟨W.heap.size, 1, none⟩ = some (.bool lt) ∧ w'.cell? ⟨W.heap.size, 2, none⟩ = some (.int .i64 nu) ∧ w'.cell? ⟨W.heap.size, 3, none⟩ = some (.int .i64 pa) ∧ (Instr.lookup 95 (.map (some bt)) (.agg #[.string ⟨nm.toArray⟩, .bool lt]) true).run Tryz.prog w' = .ok (.tuple #[.int .i64 0, .bool false]) w')) [] (.take 0 (.take 1 (.take 2 (.take 3 (.take 4 (.one 5 (.take 6 (.take 7 (.take 8 (.take 9 (.one 10 (.one 11 (.done))))))))))))) (by kernel_rfl) (by kernel_rfl) (fun _ _ _ _ h => h) ?_; have hSw := HS1.out _ (below_drewN (Below.refl _ _) 1); iterate 5 (refine zN (v := ?_) rfl hSw (by rfl) ?_ ?_; rotate_left 1; (focus (intro w hSx; (try dsimp only at hSx); go_simp; try rfl)); (try simp only [Act.put, zq0, zq1, zq2]))
  refine zB rfl (by rfl) (fun K' hK => ?_)
  (go_simp; go_at_call 82; refine (HKY.out _).mono ?_; rintro e w1 ⟨rfl, hb1⟩; have HB1 := zh (show Below (W.heap.size + 1) (W.alloc (.cells #[.string ⟨nm.toArray⟩, .bool lt, .int .i64 nu, .int .i64 pa] 45)) w1 from (zI hb1).mono (by show _ ≤ (W.alloc _).heap.size; simp)); clear hb1)
  refine hK _ _ (.inr (HS1.out _ HB1.out)) ?_; clear hK K' hSw; have hSw := HS1.out _ HB1.out; (try simp only [Act.put, zq0, zq1, zq2]); iterate 4 (refine zN (v := ?_) rfl hSw (by rfl) ?_ ?_; rotate_left 1; (focus (intro w hSx; (try dsimp only at hSx); go_simp; try rfl)); (try simp only [Act.put, zq0, zq1, zq2]))
  refine zB rfl (by rfl) (fun K' hK => ?_); go_simp; refine hK _ _ (.inr (HS1.out _ HB1.out)) ?_; clear hK K' hSw; (try simp only [Act.put, zq0, zq1, zq2]); refine zB rfl (by rfl) (fun K' hK => ?_); go_simp; refine hK _ _ (.inr (HS1.out _ HB1.out)) ?_; clear hK K'; (try simp only [Act.put, zq0, zq1, zq2]); refine zH ?_; obtain ⟨_, z0, z1, z2, z3, _⟩ := HS1.out _ HB1.out; have hlw : W.heap.size < w1.heap.size := by have := HB1.out.size; rw [World.size_alloc] at this; omega
  go_upto_if 26 with fail
  go_cut [] (fun wx => wx.heap[w1.heap.size]? = some (.cells (tokC ⟨nm, lt, tn, 0, 0, []⟩).toArray 65 (0, 0)) ∧ Below w1.heap.size w1 wx)
  case first =>
   cases lt with
   | false =>
    have e : tn = 0 := HTN.out; subst e; go_wp2_with fail; go_meet; exact ⟨zE w1 _, (Below.refl _ _).alloc (Nat.le_refl _) _⟩
   | true =>
    obtain ⟨c, rfl⟩ := hy1 rfl; have e : tn = (c.toNat : Int) := HTN.out; subst e; go_wp2_with fail; go_meet; exact ⟨by rw [byte_wrap]; exact zE w1 _, (Below.refl _ _).alloc (Nat.le_refl _) _⟩
  case rest =>
   obtain ⟨hT, hbT⟩ := hcut; obtain ⟨w2, hw2⟩ : ∃ w2 : World, w2 = wc := ⟨_, rfl⟩
   subst hw2; have hbx : Below (W.heap.size + 1) (W.alloc (.cells #[.string ⟨nm.toArray⟩, .bool lt, .int .i64 nu, .int .i64 pa] 45)) w2 := HB1.out.trans (hbT.mono (by omega)); have hMK := zDO HH.out hbx; obtain ⟨gt, ct, htv⟩ := yB hMK.toks (by have := hMK.three; omega); obtain ⟨gg, cg, hgv⟩ := yB hMK.given (by have := hMK.three; have := hMK.same; omega); have hsame := hMK.same; rw [hsame] at hgv; have hb := hMK.block; have ht := hMK.toks; have hg := hMK.given; unfold zX at hb; rw [htv] at hb ht; rw [hgv] at hb hg; rw [hsame] at hg; have hgt : gt < W.heap.size := (HH.out.toks.lt gt (by rw [htv]; rfl)).2; have hgg : gg < W.heap.size := (HH.out.given.lt gg (by rw [hgv]; rfl)).2; have hmt : m ≠ gt := fun e => (zG ht hb (by decide) gt rfl) e.symm
   have hmg : m ≠ gg := fun e => (zG hg hb (by decide) gg rfl) e.symm
   have hbs := (hbx.block W.heap.size (by omega)).trans (zE W _); generalize hn : s.toks.length = n at *
   generalize hg7 : w1.heap.size = g7 at *
   have hsz : g7 < w2.heap.size := zC hT
   have HSK := zh (fun (w' : World) (k : Kp (fun b => b ≠ gt ∧ b ≠ gg) w2 w') => (show ((w'.cell? ⟨m, 4, none⟩ = some (.slice (some ⟨gt, 0, none⟩) n ct) ∧ w'.frozen? ⟨m, 4, none⟩ = false ∧ w'.cell? ⟨m, 10, none⟩ = some (.slice (some ⟨gg, 0, none⟩) n cg) ∧ w'.frozen? ⟨m, 10, none⟩ = false) ∧ w'.cell? ⟨W.heap.size, 1, none⟩ = some (.bool lt) ∧ w'.cell? ⟨g7, 0, none⟩ = some (.string ⟨nm.toArray⟩) ∧ w'.cell? ⟨g7, 1, none⟩ = some (.bool lt) ∧ w'.cell? ⟨g7, 2, none⟩ = some (.int .i64 tn) ∧ w'.cell? ⟨g7, 3, none⟩ = some (.int .i64 0) ∧ w'.cell? ⟨g7, 4, none⟩ = some (.int .i64 0) ∧ w'.cell? ⟨g7, 5, none⟩ = some (.string ⟨#[]⟩)) from by
    have k1 := (k.block m (zC hb) ⟨hmt, hmg⟩).trans hb; have k2 := (k.block W.heap.size (zC hbs) ⟨by omega, by omega⟩).trans hbs; have k3 := (k.block g7 hsz ⟨by omega, by omega⟩).trans hT
    exact ⟨⟨zc 4 k1, zf 4 k1, zc 10 k1, zf 10 k1⟩, zc 1 k2, zc 0 k3, zc 1 k3, zc 2 k3, zc 3 k3, zc 4 k3, zc 5 k3⟩))
   have HMK := zh hMK; have HTR := zh ht; have HGR := zh hg; have HBX := zh hbx; have HN := zh hn; have HTV := zh htv; have HGV := zh hgv; have hlm : m < w2.heap.size := zC hb; clear hMK ht hg hb hbs hbx hT hbT z0 z1 z2 z3 hsame htv hgv hn HS1; obtain ⟨it0, hit0, htz0, htz1, htz2⟩ := info_parts info_tokE; obtain ⟨ib0, hib0, hbz0, hbz1, hbz2⟩ := info_parts zCC; have hBs : B ≤ w2.heap.size := by have := HMK.out.behind.1; omega
   go_upto_region 7 with fail
   go_cut [] (fun wx => AddW B m n x s v e0 at0 nm0 ⟨nm, lt, tn, 0, 0, []⟩ gt gg w2 wx)
   case first =>
    refine wp_region_planU (fun w' : World => ((w'.cell? ⟨m, 4, none⟩ = some (.slice (some ⟨gt, 0, none⟩) n ct) ∧ w'.frozen? ⟨m, 4, none⟩ = false ∧ w'.cell? ⟨m, 10, none⟩ = some (.slice (some ⟨gg, 0, none⟩) n cg) ∧ w'.frozen? ⟨m, 10, none⟩ = false) ∧ w'.cell? ⟨W.heap.size, 1, none⟩ = some (.bool lt) ∧ w'.cell? ⟨g7, 0, none⟩ = some (.string ⟨nm.toArray⟩) ∧ w'.cell? ⟨g7, 1, none⟩ = some (.bool lt) ∧ w'.cell? ⟨g7, 2, none⟩ = some (.int .i64 tn) ∧ w'.cell? ⟨g7, 3, none⟩ = some (.int .i64 0) ∧ w'.cell? ⟨g7, 4, none⟩ = some (.int .i64 0) ∧ w'.cell? ⟨g7, 5, none⟩ = some (.string ⟨#[]⟩))) [21, 22, 23, 24] (.take 0 (.free 1 (.take 2 (.take 3 (.take 4 (.take 5 (.take 6 (.take 7 (.take 10 (.take 11 (.take 12 (.take 13 (.take 14 (.take 15 (.two 8 16 (.two 9 16 (.one 16 (.one 17 (.one 18 (.one 19 (.one 20 (.one 21 (.one 22 (.one 23 (.one 24 (.done)))))))))) (.one 9 (.one 17 (.one 18 (.one 19 (.one 20 (.one 21 (.one 22 (.one 23 (.one 24 (.done))))))))))) (.one 8 (.one 9 (.one 17 (.one 18 (.one 19 (.one 20 (.one 21 (.one 22 (.one 23 (.one 24 (.done)))))))))))))))))))))))))) (by kernel_rfl) (by kernel_rfl) (fun _ _ _ _ h => h) ?_; have hSw := HSK.out _ ((Kp.refl _ w2).drew); refine yT (v := ?vz28) rfl hSw (by rfl) ?yz28 ?_
    case yz28 => (intro w hSx; (try dsimp only at hSx); go_simp; try rfl)
    (try simp only [Act.put, zq0, zq1, zq2]); refine wpPlanU_free (v := ?vz29) rfl (by rfl) ?yz29 ?_
    case yz29 => (intro w _; go_simp; first | done | with_reducible rfl | rfl)
    (try simp only [Act.put, zq0, zq1, zq2]); refine yT (v := ?vz30) rfl hSw (by rfl) ?yz30 ?_
    case yz30 => (intro w hSx; (try dsimp only at hSx); go_simp; try rfl)
    (try simp only [Act.put, zq0, zq1, zq2]); refine yT (v := ?vz31) rfl hSw (by rfl) ?yz31 ?_
    case yz31 => (intro w hSx; (try dsimp only at hSx); go_simp; try rfl)
    (try simp only [Act.put, zq0, zq1, zq2]); refine yT (v := ?vz32) rfl hSw (by rfl) ?yz32 ?_
    case yz32 => (intro w hSx; (try dsimp only at hSx); go_simp; try rfl)
    (try simp only [Act.put, zq0, zq1, zq2]); refine yT (v := ?vz33) rfl hSw (by rfl) ?yz33 ?_
    case yz33 => (intro w hSx; (try dsimp only at hSx); go_simp; try rfl)
    (try simp only [Act.put, zq0, zq1, zq2]); refine yT (v := ?vz34) rfl hSw (by rfl) ?yz34 ?_
    case yz34 => (intro w hSx; (try dsimp only at hSx); go_simp; try rfl)
    (try simp only [Act.put, zq0, zq1, zq2]); refine yT (v := ?vz35) rfl hSw (by rfl) ?yz35 ?_
    case yz35 => (intro w hSx; (try dsimp only at hSx); go_simp; try rfl)
    (try simp only [Act.put, zq0, zq1, zq2]); refine yT (v := ?vz36) rfl hSw (by rfl) ?yz36 ?_
    case yz36 => (intro w hSx; (try dsimp only at hSx); go_simp; try rfl)
    (try simp only [Act.put, zq0, zq1, zq2]); refine yT (v := ?vz37) rfl hSw (by rfl) ?yz37 ?_
    case yz37 => (intro w hSx; (try dsimp only at hSx); go_simp; try rfl)
    (try simp only [Act.put, zq0, zq1, zq2]); refine yT (v := ?vz38) rfl hSw (by rfl) ?yz38 ?_
    case yz38 => (intro w hSx; (try dsimp only at hSx); go_simp; try rfl)
    (try simp only [Act.put, zq0, zq1, zq2]); refine yT (v := ?vz39) rfl hSw (by rfl) ?yz39 ?_
    case yz39 => (intro w hSx; (try dsimp only at hSx); go_simp; try rfl)
    (try simp only [Act.put, zq0, zq1, zq2]); refine yT (v := ?vz40) rfl hSw (by rfl) ?yz40 ?_
    case yz40 => (intro w hSx; (try dsimp only at hSx); go_simp; try rfl)
    (try simp only [Act.put, zq0, zq1, zq2]); refine yT (v := ?vz41) rfl hSw (by rfl) ?yz41 ?_
    case yz41 => (intro w hSx; (try dsimp only at hSx); go_simp; try rfl)
    (try simp only [Act.put, zq0, zq1, zq2]); refine wpPlanU_two ?_ ?_
    ·refine zV rfl (by rfl) (fun K' hK => ?_)
     go_simp; refine hK _ _ (.inr (HSK.out _ (((Kp.refl _ w2).drew).alloc _))) ?_; clear hK K' hSw; (try simp only [Act.put, zq0, zq1, zq2]); refine wpPlanU_two ?_ ?_
     ·refine zV rfl (by rfl) (fun K' hK => ?_)
      (refine wp_append_lies _ _ _ _ (by rfl) B 65 it0 _ 6 64 Tryz.underlying35 hit0 htz0 htz1 htz2 rfl (by omega) _ _ _ (by rfl) (HTR.out.alloc _) ⟨w2.heap.size, 0, none⟩ 1 1 (tokC ⟨nm, lt, tn, 0, 0, []⟩) (by rfl) (by rfl) (World.news_of_block (cs := (tokC ⟨nm, lt, tn, 0, 0, []⟩).toArray) (t := 65) (fr := (0, 0)) (zE w2 _)) (by simp [Value.oneCell', tokC]) (by omega) (by unfold maxLen; omega) (by omega) (by show B ≤ (w2.alloc (.cells (tokC ⟨nm, lt, tn, 0, 0, []⟩).toArray 65)).heap.size; simp only [World.size_alloc]; omega) _ rfl ?_; intro gg1 cp1 w5 hown1 hgrow1 hat1 hlt1; replace hgrow1 : (w2.alloc (.cells (tokC ⟨nm, lt, tn, 0, 0, []⟩).toArray 65)).grownBy w5 (Value.slice (some ⟨gt, 0, none⟩) n ct).ownBlock := ⟨hgrow1.os, hgrow1.tape, hgrow1.output, hgrow1.size, hgrow1.block⟩; have hk9 : Kp (fun b => b ≠ gt ∧ b ≠ gg) w2 w5 := ((Kp.refl _ w2).alloc (.cells (tokC ⟨nm, lt, tn, 0, 0, []⟩).toArray 65)).grown hgrow1 (fun k hk hs => hs.1 (Option.some.inj hk).symm); have hWle : w2.heap.size ≤ (w2.alloc (.cells (tokC ⟨nm, lt, tn, 0, 0, []⟩).toArray 65)).heap.size := (by simp only [World.size_alloc]; omega); have hs5 : w2.heap.size + 1 ≤ w5.heap.size := (by have := hgrow1.size; simp only [World.size_alloc] at this; omega))
      refine hK _ _ (.inr (HSK.out _ hk9)) ?_; clear hK K'; (try simp only [Act.put, zq0, zq1, zq2]); refine zV rfl (by rfl) (fun K' hK => ?_); go_simp; refine hK _ _ (.inr (HSK.out _ (hk9.alloc _))) ?_; clear hK K'; (try simp only [Act.put, zq0, zq1, zq2]); refine zV rfl (by rfl) (fun K' hK => ?_)
      (refine wp_append_lies _ _ _ _ (by rfl) B 4 ib0 _ 1 1 Tryz.underlying75 hib0 hbz0 hbz1 hbz2 rfl (by omega) _ _ _ (by rfl) ((zD (HGR.out.alloc _) (KpT.grown (HTR.out.alloc _) hgrow1) (by decide)).alloc _) ⟨w5.heap.size, 0, none⟩ 1 1 [.bool lt] (by rfl) (by rfl) (World.news_of_block (cs := #[.bool lt]) (t := 4) (fr := (0, 0)) (zE w5 _)) (by simp [Value.oneCell']) (by omega) (by unfold maxLen; omega) (by omega) (by show B ≤ (w5.alloc (.cells #[.bool lt] 4)).heap.size; first | (simp only [World.size_alloc]; omega) | omega) _ rfl ?_; intro gg2 cp2 w6 hown2 hgrow2 hat2 hlt2; replace hgrow2 : (w5.alloc (.cells #[.bool lt] 4)).grownBy w6 (Value.slice (some ⟨gg, 0, none⟩) n cg).ownBlock := ⟨hgrow2.os, hgrow2.tape, hgrow2.output, hgrow2.size, hgrow2.block⟩; have hk17 : Kp (fun b => b ≠ gt ∧ b ≠ gg) w2 w6 := (hk9.alloc (.cells #[.bool lt] 4)).grown hgrow2 (fun k hk hs => hs.2 (Option.some.inj hk).symm); have hfin : w6.ownsRow B 65 6 (.slice (some ⟨gg1, 0, none⟩) (n + 1) cp1) (n + 1) ((s.toks.map tokC).flatten ++ tokC ⟨nm, lt, tn, 0, 0, []⟩) := zD (hown1.alloc _) (KpT.grown ((zD (HGR.out.alloc _) (KpT.grown (HTR.out.alloc _) hgrow1) (by decide)).alloc _) hgrow2) (by decide))
      refine hK _ _ (.inr (HSK.out _ hk17)) ?_; clear hK K'; (try simp only [Act.put, zq0, zq1, zq2]); refine zV rfl (by rfl) (fun K' hK => ?_); go_simp; refine hK _ _ (.inr (HSK.out _ hk17)) ?_; clear hK K'; (try simp only [Act.put, zq0, zq1, zq2]); refine zV rfl (by rfl) (fun K' hK => ?_); go_simp; refine hK _ _ (.inr (HSK.out _ hk17)) ?_; clear hK K'; (try simp only [Act.put, zq0, zq1, zq2]); refine zV rfl (by rfl) (fun K' hK => ?_); go_simp; refine hK _ _ (.inr (HSK.out _ hk17)) ?_; clear hK K'; (try simp only [Act.put, zq0, zq1, zq2]); refine zV rfl (by rfl) (fun K' hK => ?_)
      (obtain ⟨⟨A4, A5, Aa, Ab⟩, _⟩ := HSK.out _ hk17; have hlm6 : m < w6.heap.size := Nat.lt_of_lt_of_le hlm hk17.size; go_simp)
      refine hK _ _ (.inl rfl) ?_; clear hK K'; (try simp only [Act.put, zq0, zq1, zq2]); refine zV rfl (by rfl) (fun K' hK => ?_); go_simp; refine hK _ _ (.inl rfl) ?_; clear hK K'; (try simp only [Act.put, zq0, zq1, zq2]); refine zV rfl (by rfl) (fun K' hK => ?_); go_simp; refine hK _ _ (.inl rfl) ?_; clear hK K'; (try simp only [Act.put, zq0, zq1, zq2]); refine zV rfl (by rfl) (fun K' hK => ?_); go_simp; refine hK _ _ (.inl rfl) ?_; clear hK K'; (try simp only [Act.put, zq0, zq1, zq2]); refine zBN ?_; go_wp2_with fail; go_meet; exact add_post HMK.out hmt hmg hk17 hfin hown2 (hat1.imp (fun e => (Option.some.inj e).symm) (fun e => by rw [e]; exact hWle)) (hat2.imp (fun e => (Option.some.inj e).symm) (fun e => by rw [e]; first | omega | (simp only [World.size_alloc]; omega)))
     ·refine zV rfl (by rfl) (fun K' hK => ?_)
      go_simp; refine hK _ _ (.inr (HSK.out _ ((((Kp.refl _ w2).drew).alloc _).alloc _))) ?_; clear hK K'; (try simp only [Act.put, zq0, zq1, zq2]); refine zV rfl (by rfl) (fun K' hK => ?_)
      (refine wp_append_lies _ _ _ _ (by rfl) B 65 it0 _ 6 64 Tryz.underlying35 hit0 htz0 htz1 htz2 rfl (by omega) _ _ _ (by rfl) ((HTR.out.alloc _).alloc _) ⟨w2.heap.size, 0, none⟩ 1 1 (tokC ⟨nm, lt, tn, 0, 0, []⟩) (by rfl) (by rfl) (World.news_of_block (cs := (tokC ⟨nm, lt, tn, 0, 0, []⟩).toArray) (t := 65) (fr := (0, 0)) ((Below.heap_alloc _ _ _ (by simp)).trans (zE w2 _))) (by simp [Value.oneCell', tokC]) (by omega) (by unfold maxLen; omega) (by omega) (by show B ≤ ((w2.alloc (.cells (tokC ⟨nm, lt, tn, 0, 0, []⟩).toArray 65)).alloc (.cells #[.bool lt] 4)).heap.size; simp only [World.size_alloc]; omega) _ rfl ?_; intro gg1 cp1 w5 hown1 hgrow1 hat1 hlt1; replace hgrow1 : ((w2.alloc (.cells (tokC ⟨nm, lt, tn, 0, 0, []⟩).toArray 65)).alloc (.cells #[.bool lt] 4)).grownBy w5 (Value.slice (some ⟨gt, 0, none⟩) n ct).ownBlock := ⟨hgrow1.os, hgrow1.tape, hgrow1.output, hgrow1.size, hgrow1.block⟩; have hk9 : Kp (fun b => b ≠ gt ∧ b ≠ gg) w2 w5 := (((Kp.refl _ w2).alloc (.cells (tokC ⟨nm, lt, tn, 0, 0, []⟩).toArray 65)).alloc (.cells #[.bool lt] 4)).grown hgrow1 (fun k hk hs => hs.1 (Option.some.inj hk).symm); have hWle : w2.heap.size ≤ ((w2.alloc (.cells (tokC ⟨nm, lt, tn, 0, 0, []⟩).toArray 65)).alloc (.cells #[.bool lt] 4)).heap.size := (by simp only [World.size_alloc]; omega); have hs5 : w2.heap.size + 1 ≤ w5.heap.size := (by have := hgrow1.size; simp only [World.size_alloc] at this; omega))
      refine hK _ _ (.inr (HSK.out _ hk9)) ?_; clear hK K'; (try simp only [Act.put, zq0, zq1, zq2]); refine zV rfl (by rfl) (fun K' hK => ?_)
      (refine wp_append_lies _ _ _ _ (by rfl) B 4 ib0 _ 1 1 Tryz.underlying75 hib0 hbz0 hbz1 hbz2 rfl (by omega) _ _ _ (by rfl) (zD ((HGR.out.alloc _).alloc _) (KpT.grown ((HTR.out.alloc _).alloc _) hgrow1) (by decide)) ⟨w2.heap.size + 1, 0, none⟩ 1 1 [.bool lt] (by rfl) (by rfl) (World.news_of_block (cs := #[.bool lt]) (t := 4) (fr := (0, 0)) ((hgrow1.block (w2.heap.size + 1) (by simp) (fun e => by have h2 : w2.heap.size + 1 = gt := Option.some.inj e; omega)).trans (xJ w2 _ _))) (by simp [Value.oneCell']) (by omega) (by unfold maxLen; omega) (by omega) (by show B ≤ w5.heap.size; first | (simp only [World.size_alloc]; omega) | omega) _ rfl ?_; intro gg2 cp2 w6 hown2 hgrow2 hat2 hlt2; replace hgrow2 : w5.grownBy w6 (Value.slice (some ⟨gg, 0, none⟩) n cg).ownBlock := ⟨hgrow2.os, hgrow2.tape, hgrow2.output, hgrow2.size, hgrow2.block⟩; have hk17 : Kp (fun b => b ≠ gt ∧ b ≠ gg) w2 w6 := (hk9).grown hgrow2 (fun k hk hs => hs.2 (Option.some.inj hk).symm); have hfin : w6.ownsRow B 65 6 (.slice (some ⟨gg1, 0, none⟩) (n + 1) cp1) (n + 1) ((s.toks.map tokC).flatten ++ tokC ⟨nm, lt, tn, 0, 0, []⟩) := zD hown1 (KpT.grown (zD ((HGR.out.alloc _).alloc _) (KpT.grown ((HTR.out.alloc _).alloc _) hgrow1) (by decide)) hgrow2) (by decide))
      refine hK _ _ (.inr (HSK.out _ hk17)) ?_; clear hK K'; (try simp only [Act.put, zq0, zq1, zq2]); refine zV rfl (by rfl) (fun K' hK => ?_); go_simp; refine hK _ _ (.inr (HSK.out _ hk17)) ?_; clear hK K'; (try simp only [Act.put, zq0, zq1, zq2]); refine zV rfl (by rfl) (fun K' hK => ?_); go_simp; refine hK _ _ (.inr (HSK.out _ hk17)) ?_; clear hK K'; (try simp only [Act.put, zq0, zq1, zq2]); refine zV rfl (by rfl) (fun K' hK => ?_); go_simp; refine hK _ _ (.inr (HSK.out _ hk17)) ?_; clear hK K'; (try simp only [Act.put, zq0, zq1, zq2]); refine zV rfl (by rfl) (fun K' hK => ?_)
      (obtain ⟨⟨A4, A5, Aa, Ab⟩, _⟩ := HSK.out _ hk17; have hlm6 : m < w6.heap.size := Nat.lt_of_lt_of_le hlm hk17.size; go_simp)
      refine hK _ _ (.inl rfl) ?_; clear hK K'; (try simp only [Act.put, zq0, zq1, zq2]); refine zV rfl (by rfl) (fun K' hK => ?_); go_simp; refine hK _ _ (.inl rfl) ?_; clear hK K'; (try simp only [Act.put, zq0, zq1, zq2]); refine zV rfl (by rfl) (fun K' hK => ?_); go_simp; refine hK _ _ (.inl rfl) ?_; clear hK K'; (try simp only [Act.put, zq0, zq1, zq2]); refine zV rfl (by rfl) (fun K' hK => ?_); go_simp; refine hK _ _ (.inl rfl) ?_; clear hK K'; (try simp only [Act.put, zq0, zq1, zq2]); refine zBN ?_; go_wp2_with fail; go_meet; exact add_post HMK.out hmt hmg hk17 hfin hown2 (hat1.imp (fun e => (Option.some.inj e).symm) (fun e => by rw [e]; exact hWle)) (hat2.imp (fun e => (Option.some.inj e).symm) (fun e => by rw [e]; first | omega | (simp only [World.size_alloc]; omega)))
    ·refine zV rfl (by rfl) (fun K' hK => ?_)
     go_simp; refine hK _ _ (.inr (HSK.out _ (((Kp.refl _ w2).drew).alloc _))) ?_; clear hK K' hSw; (try simp only [Act.put, zq0, zq1, zq2]); refine zV rfl (by rfl) (fun K' hK => ?_); go_simp; refine hK _ _ (.inr (HSK.out _ ((((Kp.refl _ w2).drew).alloc _).alloc _))) ?_; clear hK K'; (try simp only [Act.put, zq0, zq1, zq2]); refine zV rfl (by rfl) (fun K' hK => ?_)
     (refine wp_append_lies _ _ _ _ (by rfl) B 65 it0 _ 6 64 Tryz.underlying35 hit0 htz0 htz1 htz2 rfl (by omega) _ _ _ (by rfl) ((HTR.out.alloc _).alloc _) ⟨w2.heap.size + 1, 0, none⟩ 1 1 (tokC ⟨nm, lt, tn, 0, 0, []⟩) (by rfl) (by rfl) (World.news_of_block (cs := (tokC ⟨nm, lt, tn, 0, 0, []⟩).toArray) (t := 65) (fr := (0, 0)) (xJ w2 _ _)) (by simp [Value.oneCell', tokC]) (by omega) (by unfold maxLen; omega) (by omega) (by show B ≤ ((w2.alloc (.cells #[.bool lt] 4)).alloc (.cells (tokC ⟨nm, lt, tn, 0, 0, []⟩).toArray 65)).heap.size; simp only [World.size_alloc]; omega) _ rfl ?_; intro gg1 cp1 w5 hown1 hgrow1 hat1 hlt1; replace hgrow1 : ((w2.alloc (.cells #[.bool lt] 4)).alloc (.cells (tokC ⟨nm, lt, tn, 0, 0, []⟩).toArray 65)).grownBy w5 (Value.slice (some ⟨gt, 0, none⟩) n ct).ownBlock := ⟨hgrow1.os, hgrow1.tape, hgrow1.output, hgrow1.size, hgrow1.block⟩; have hk9 : Kp (fun b => b ≠ gt ∧ b ≠ gg) w2 w5 := (((Kp.refl _ w2).alloc (.cells #[.bool lt] 4)).alloc (.cells (tokC ⟨nm, lt, tn, 0, 0, []⟩).toArray 65)).grown hgrow1 (fun k hk hs => hs.1 (Option.some.inj hk).symm); have hWle : w2.heap.size ≤ ((w2.alloc (.cells #[.bool lt] 4)).alloc (.cells (tokC ⟨nm, lt, tn, 0, 0, []⟩).toArray 65)).heap.size := (by simp only [World.size_alloc]; omega); have hs5 : w2.heap.size + 1 ≤ w5.heap.size := (by have := hgrow1.size; simp only [World.size_alloc] at this; omega))
     refine hK _ _ (.inr (HSK.out _ hk9)) ?_; clear hK K'; (try simp only [Act.put, zq0, zq1, zq2]); refine zV rfl (by rfl) (fun K' hK => ?_)
     (refine wp_append_lies _ _ _ _ (by rfl) B 4 ib0 _ 1 1 Tryz.underlying75 hib0 hbz0 hbz1 hbz2 rfl (by omega) _ _ _ (by rfl) (zD ((HGR.out.alloc _).alloc _) (KpT.grown ((HTR.out.alloc _).alloc _) hgrow1) (by decide)) ⟨w2.heap.size, 0, none⟩ 1 1 [.bool lt] (by rfl) (by rfl) (World.news_of_block (cs := #[.bool lt]) (t := 4) (fr := (0, 0)) ((hgrow1.block w2.heap.size (by simp only [World.size_alloc]; omega) (fun e => by have h2 : w2.heap.size = gt := Option.some.inj e; omega)).trans ((Below.heap_alloc _ _ _ (by simp)).trans (zE w2 _)))) (by simp [Value.oneCell']) (by omega) (by unfold maxLen; omega) (by omega) (by show B ≤ w5.heap.size; first | (simp only [World.size_alloc]; omega) | omega) _ rfl ?_; intro gg2 cp2 w6 hown2 hgrow2 hat2 hlt2; replace hgrow2 : w5.grownBy w6 (Value.slice (some ⟨gg, 0, none⟩) n cg).ownBlock := ⟨hgrow2.os, hgrow2.tape, hgrow2.output, hgrow2.size, hgrow2.block⟩; have hk17 : Kp (fun b => b ≠ gt ∧ b ≠ gg) w2 w6 := (hk9).grown hgrow2 (fun k hk hs => hs.2 (Option.some.inj hk).symm); have hfin : w6.ownsRow B 65 6 (.slice (some ⟨gg1, 0, none⟩) (n + 1) cp1) (n + 1) ((s.toks.map tokC).flatten ++ tokC ⟨nm, lt, tn, 0, 0, []⟩) := zD hown1 (KpT.grown (zD ((HGR.out.alloc _).alloc _) (KpT.grown ((HTR.out.alloc _).alloc _) hgrow1) (by decide)) hgrow2) (by decide))
     refine hK _ _ (.inr (HSK.out _ hk17)) ?_; clear hK K'; (try simp only [Act.put, zq0, zq1, zq2]); refine zV rfl (by rfl) (fun K' hK => ?_); go_simp; refine hK _ _ (.inr (HSK.out _ hk17)) ?_; clear hK K'; (try simp only [Act.put, zq0, zq1, zq2]); refine zV rfl (by rfl) (fun K' hK => ?_); go_simp; refine hK _ _ (.inr (HSK.out _ hk17)) ?_; clear hK K'; (try simp only [Act.put, zq0, zq1, zq2]); refine zV rfl (by rfl) (fun K' hK => ?_); go_simp; refine hK _ _ (.inr (HSK.out _ hk17)) ?_; clear hK K'; (try simp only [Act.put, zq0, zq1, zq2]); refine zV rfl (by rfl) (fun K' hK => ?_)
     (obtain ⟨⟨A4, A5, Aa, Ab⟩, _⟩ := HSK.out _ hk17; have hlm6 : m < w6.heap.size := Nat.lt_of_lt_of_le hlm hk17.size; go_simp)
     refine hK _ _ (.inl rfl) ?_; clear hK K'; (try simp only [Act.put, zq0, zq1, zq2]); refine zV rfl (by rfl) (fun K' hK => ?_); go_simp; refine hK _ _ (.inl rfl) ?_; clear hK K'; (try simp only [Act.put, zq0, zq1, zq2]); refine zV rfl (by rfl) (fun K' hK => ?_); go_simp; refine hK _ _ (.inl rfl) ?_; clear hK K'; (try simp only [Act.put, zq0, zq1, zq2]); refine zV rfl (by rfl) (fun K' hK => ?_); go_simp; refine hK _ _ (.inl rfl) ?_; clear hK K'; (try simp only [Act.put, zq0, zq1, zq2]); refine zBN ?_; go_wp2_with fail; go_meet; exact add_post HMK.out hmt hmg hk17 hfin hown2 (hat1.imp (fun e => (Option.some.inj e).symm) (fun e => by rw [e]; exact hWle)) (hat2.imp (fun e => (Option.some.inj e).symm) (fun e => by rw [e]; first | omega | (simp only [World.size_alloc]; omega)))
   case rest =>
    obtain ⟨g1, c1, g2, c2, hb, h1, h2, hk, a1, a2⟩ := hcut; obtain ⟨w3, hw3⟩ : ∃ w3 : World, w3 = wc := ⟨_, rfl⟩
    subst hw3; have hbs2 := (HBX.out.block W.heap.size (by omega)).trans (zE W _); have hbs3 := (hk.block W.heap.size (zC hbs2) ⟨by omega, by omega, by omega⟩).trans hbs2; have hbtl : v.bt < W.heap.size := HH.out.tmap.lt
    have hmbt : ∀ b, (∃ es c, w2.heap[b]? = some (.map es c)) → b ≠ gt ∧ b ≠ gg ∧ b ≠ m := by
     rintro b ⟨es, c, hy⟩; refine ⟨?_, ?_, ?_⟩
     ·rintro rfl
      obtain ⟨cu, hcu⟩ := yW HTR.out; rw [hcu] at hy; cases hy
     ·rintro rfl
      obtain ⟨cu, hcu⟩ := yW HGR.out; rw [hcu] at hy; cases hy
     ·rintro rfl
      rw [HMK.out.block] at hy; cases hy
    have htm3 := HMK.out.tmap.block (hk.block _ HMK.out.tmap.lt (hmbt _ HMK.out.tmap.isMap)); rw [hbt, HN.out] at htm3; have hbu := hb; unfold zX at hbu; simp only [hbt] at hbu
    have HS8 := zh (fun (w' : World) (h : Below w3.heap.size w3 w') => (show (w'.cell? ⟨m, 9, none⟩ = some (.map (some bt)) ∧ w'.cell? ⟨m, 4, none⟩ = some (.slice (some ⟨g1, 0, none⟩) (n + 1) c1) ∧ w'.cell? ⟨W.heap.size, 0, none⟩ = some (.string ⟨nm.toArray⟩) ∧ w'.cell? ⟨W.heap.size, 1, none⟩ = some (.bool lt) ∧ w'.cell? ⟨W.heap.size, 2, none⟩ = some (.int .i64 nu) ∧ w'.cell? ⟨W.heap.size, 3, none⟩ = some (.int .i64 pa)) from by
     have k1 := (h.block m (zC hb)).trans hbu; have k2 := (h.block W.heap.size (zC hbs3)).trans hbs3
     exact ⟨zc 9 k1, zc 4 k1, zc 0 k2, zc 1 k2, zc 2 k2, zc 3 k2⟩))
    have HTM3 := zh htm3; have HB3 := zh hb; have H1 := zh h1; have H2 := zh h2; have HK3 := zh hk; have HA := zh (And.intro a1 a2); have hlm3 : m < w3.heap.size := zC hb; clear htm3 hb hbu h1 h2 hk a1 a2 hbs2 hbs3 hmbt; have hwn : IntKind.i64.wrap (n : Int) = (n : Int) := IntWalk.i64_in _ ⟨by omega, by omega⟩; go_upto_region 8 with fail
    refine zF (fun w' : World => (w'.cell? ⟨m, 9, none⟩ = some (.map (some bt)) ∧ w'.cell? ⟨m, 4, none⟩ = some (.slice (some ⟨g1, 0, none⟩) (n + 1) c1) ∧ w'.cell? ⟨W.heap.size, 0, none⟩ = some (.string ⟨nm.toArray⟩) ∧ w'.cell? ⟨W.heap.size, 1, none⟩ = some (.bool lt) ∧ w'.cell? ⟨W.heap.size, 2, none⟩ = some (.int .i64 nu) ∧ w'.cell? ⟨W.heap.size, 3, none⟩ = some (.int .i64 pa))) [13] (.take 0 (.take 1 (.take 2 (.take 3 (.take 4 (.take 6 (.take 7 (.take 8 (.take 9 (.take 10 (.take 11 (.take 12 (.one 5 (.one 13 (.done))))))))))))))) (by kernel_rfl) (by kernel_rfl) (fun _ _ _ _ h => h) ?_; have hSw := HS8.out _ (below_drewN (Below.refl _ w3) 1); iterate 12 (refine zN (v := ?_) rfl hSw (by rfl) ?_ ?_; rotate_left 1; (focus (intro w hSx; (try dsimp only at hSx); go_simp; try rfl)); (try simp only [Act.put, zq0, zq1, zq2]))
    refine zB rfl (by rfl) (fun K' hK => ?_)
    (go_simp; go_at_call 82; refine (HKY.out _).mono ?_; rintro e w4 ⟨rfl, hb4⟩; have hb34 : Below w3.heap.size w3 w4 := zI hb4; obtain ⟨w5, hr5, hm5, hg5⟩ := (show xE Tryz.prog 94 w4 bt n (tokL s.toks) from HTM3.out.block (hb34.block _ HTM3.out.lt)).update (val := .int .i64 (n : Int)) zAP Tryz.underlying95 (by unfold maxLen; omega) hkl (tokL (s.toks ++ [⟨nm, lt, tn, 0, 0, []⟩])) (by have h := (tokL_snoc (t := ⟨nm, lt, tn, 0, 0, []⟩) HMK.out.three ho).1; rw [HN.out] at h; exact h) (tokL_snoc (t := ⟨nm, lt, tn, 0, 0, []⟩) HMK.out.three ho).2)
    refine hK _ _ (.inr (HS8.out _ hb34)) ?_; clear hK K' hSw; (try simp only [Act.put, zq0, zq1, zq2]); refine zB rfl (by rfl) (fun K' hK => ?_); go_simp; refine hK _ _ (.inl rfl) ?_; clear hK K'; (try simp only [Act.put, zq0, zq1, zq2]); refine zH ?_
    have hm5b := (hg5.block m (by have := hb34.size; omega) (fun e => by
     have hbtm : m = bt := Option.some.inj e; obtain ⟨es, c, hy⟩ := HTM3.out.isMap; rw [← hbtm, HB3.out] at hy
     cases hy)).trans ((hb34.block m hlm3).trans HB3.out)
    have hm5u := hm5b; unfold zX at hm5u; have v4 := zc 4 hm5u; have hlm5 := zC hm5b; have HM5 := zh hm5; have HG5 := zh hg5; have HB34 := zh hb34; have HM5B := zh hm5b; clear hm5 hg5 hb34 hm5b hm5u hb4 hr5; go_wp2_with fail; go_ret
    have hat : Sp.addTok s ⟨nm, lt, nu, pa⟩ = ({ s with toks := s.toks ++ [⟨nm, lt, tn, 0, 0, []⟩], given := s.given ++ [lt] }, n) := by
     unfold Sp.addTok; simp only [ho]; rw [← HTN.out, HN.out]
    rw [hat]; unfold AddPost; refine ⟨zW ?_, ?_⟩
    ·first | rfl | exact hwn
    ·have hk23 : Kp (fun b => b ≠ gt ∧ b ≠ gg ∧ b ≠ m) w2 w4 := ⟨HB34.out.os.trans HK3.out.os, HB34.out.tape.trans HK3.out.tape, HB34.out.output.trans HK3.out.output, Nat.le_trans HK3.out.size HB34.out.size, fun b hb hs => (HB34.out.block b (Nat.lt_of_lt_of_le hb HK3.out.size)).trans (HK3.out.block b hb hs)⟩
     have hk25 : Kp (fun b => (b ≠ gt ∧ b ≠ gg ∧ b ≠ m) ∧ b ≠ bt) w2 w5 := (hk23.mono (fun b _ h => h.1)).grown HG5.out (fun k hk hs => hs.2 (Option.some.inj hk).symm); have hk35 : Kp (fun b => b ≠ bt) w3 w5 := (Kp.of_below HB34.out (fun _ hb _ => hb)).grown HG5.out (fun k hk hs => hs (Option.some.inj hk).symm); have hbm := HMK.out.block; obtain ⟨cut, hct⟩ := yW HTR.out; obtain ⟨cug, hcg⟩ := yW HGR.out; have hbt2 : ∃ es c, w2.heap[bt]? = some (.map es c) := by have h := HMK.out.tmap.isMap; rw [hbt] at h; exact h
     have hrow : ∀ {B' e size n' : Nat} {u : Value} {xs : List Value}, w2.ownsRow B' e size u n' xs → 65 ≠ e → 4 ≠ e → 99 ≠ e → w5.ownsRow B' e size u n' xs := fun h e1 e2 e3 =>
      zP h hk25 (fun b hb => ⟨⟨zG h hct e1 b hb, zG h hcg e2 b hb, zG h hbm e3 b hb⟩, xR h hbt2 b hb⟩)
     have hmap : ∀ b, (∃ es c, w2.heap[b]? = some (.map es c)) → b ≠ bt → b < w2.heap.size → w5.heap[b]? = w2.heap[b]? := by
      rintro b ⟨es, c, hy⟩ hne hlt; refine hk25.block b hlt ⟨⟨?_, ?_, ?_⟩, hne⟩
      ·rintro rfl; rw [hct] at hy; cases hy
      ·rintro rfl; rw [hcg] at hy; cases hy
      ·rintro rfl; rw [hbm] at hy; cases hy
     obtain ⟨f, g, p1, p2⟩ := HMK.out.prods; have hap := HMK.out.apart; refine ⟨{ v with tv := .slice (some ⟨g1, 0, none⟩) (n + 1) c1, gv := .slice (some ⟨g2, 0, none⟩) (n + 1) c2 }, ⟨HM5B.out, ?_, ?_, hrow HMK.out.nons (by decide) (by decide) (by decide), ⟨f, g, hrow p1 (by decide) (by decide) (by decide), fun i p hp => ?_⟩, ?_, HMK.out.nmap.block (hmap _ HMK.out.nmap.isMap (by rw [← hbt]; exact fun e => hap.1 e.symm) HMK.out.nmap.lt), HMK.out.ymap.block (hmap _ HMK.out.ymap.isMap (by rw [← hbt]; exact fun e => hap.2.1 e.symm) HMK.out.ymap.lt), HMK.out.behind, hap, ?_, ?_⟩, ⟨?_, ?_⟩, rfl, rfl⟩
     ·show World.ownsRow _ _ _ _ _ _ _
      have e : (List.map tokC [(⟨nm, lt, tn, 0, 0, []⟩ : Sp.Tok)]).flatten = tokC ⟨nm, lt, tn, 0, 0, []⟩ := by simp
      rw [List.length_append, HN.out, List.map_append, List.flatten_append, e]; exact zP H1.out hk35 (xR H1.out HTM3.out.isMap)
     ·show World.ownsRow _ _ _ _ _ _ _
      rw [List.length_append, HMK.out.same, HN.out, List.map_append]; exact zP H2.out hk35 (xR H2.out HTM3.out.isMap)
     ·obtain ⟨⟨b, k1⟩, c, k2⟩ := p2 i p hp
      exact ⟨⟨b, hrow k1 (by decide) (by decide) (by decide)⟩, c, hrow k2 (by decide) (by decide) (by decide)⟩
     ·show xE _ _ _ _ _ _
      rw [List.length_append, HN.out, hbt]; exact HM5.out
     ·show (s.given ++ [lt]).length = (s.toks ++ [_]).length
      rw [List.length_append, List.length_append, HMK.out.same]; rfl
     ·show 3 ≤ (s.toks ++ [_]).length
      rw [List.length_append]; have := HMK.out.three; omega
     ·have hbW : Below W.heap.size W w2 := zT HBX.out
      exact jK hbW (hk25.mono (fun b _ hn => ⟨⟨fun e => hn (.inr (.inl (by rw [HTV.out, e]; rfl))), fun e => hn (.inr (.inr (.inr (.inr (.inl (by rw [HGV.out, e]; rfl)))))), fun e => hn (.inl e)⟩, fun e => hn (.inr (.inr (.inr (.inr (.inr (.inl (by rw [hbt]; exact e)))))))⟩))
     ·have hsW : W.heap.size ≤ w2.heap.size := (zT HBX.out).size
      rintro b (h | h | h | h | h | h | h | h)
      ·exact .inl (.inl h)
      ·have e : g1 = b := Option.some.inj h
       rcases HA.out.1 with e1 | e1
       ·exact .inl (.inr (.inl (by rw [HTV.out, ← e, e1]; rfl)))
       ·exact .inr (by omega)
      ·exact .inl (.inr (.inr (.inl h)))
      ·exact .inl (.inr (.inr (.inr (.inl h))))
      ·have e : g2 = b := Option.some.inj h
       rcases HA.out.2 with e1 | e1
       ·exact .inl (.inr (.inr (.inr (.inr (.inl (by rw [HGV.out, ← e, e1]; rfl))))))
       ·exact .inr (by omega)
      ·exact .inl (.inr (.inr (.inr (.inr (.inr (.inl h))))))
      ·exact .inl (.inr (.inr (.inr (.inr (.inr (.inr (.inl h)))))))
      ·exact .inl (.inr (.inr (.inr (.inr (.inr (.inr (.inr h)))))))
end Go.Proofs.YtddnomjfcbplpaaGreatDoor
