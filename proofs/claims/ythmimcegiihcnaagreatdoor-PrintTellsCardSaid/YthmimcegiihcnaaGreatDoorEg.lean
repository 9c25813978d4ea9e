/- PrintTells: the law walked. -/
import Derived.Test.YthmimcegiihcnaaGreatDoorEd
import Derived.Test.YthmimcegiihcnaaGreatDoorEv
import Derived.Test.YthmimcegiihcnaaGreatDoorEt
import Derived.Test.YthmimcegiihcnaaGreatDoorDl
namespace Go.Proofs.YthmimcegiihcnaaGreatDoor
namespace Sp
theorem all2_refl {α : Type} {f : α → α → Bool} (hf : ∀ a, f a a = true) : ∀ l : List α, all2 f l l = true
  | [] => rfl
  | a :: l => by simp [all2, hf a, all2_refl hf l]
theorem sameSym_refl (a : Sym) : sameSym a a = true := by simp [sameSym]
theorem samePart_refl (a : Part) : samePart a a = true := by simp [samePart, sameSym_refl]
theorem sameAlt_refl (a : Alt) : sameAlt a a = true := by simp [sameAlt, sameSym_refl, all2_refl samePart_refl]
theorem sameDecl_refl (a : Decl) : sameDecl a a = true := by simp [sameDecl, all2_refl sameSym_refl]
theorem sameRule_refl (a : Rule) : sameRule a a = true := by simp [sameRule, all2_refl sameAlt_refl]
theorem same_refl (a : Source) : same a a = true := by simp [same, all2_refl sameDecl_refl, all2_refl sameRule_refl]
theorem quotable_ne {s : Sym} (h : isSym s = true) : s.lit = true → s.name ≠ [] := by
  intro hl
  unfold isSym at h
  rw [if_pos hl] at h
  intro e
  rw [e] at h
  simp [quotable] at h
end Sp
open Go.RowKit

theorem txt_decl {d : Sp.Decl} (hm : Sp.mayDecl d = true) (hl : d.syms.length ≤ 4000) : txtDecl d := by
  unfold Sp.mayDecl at hm
  split at hm
  · simp at hm
  · rename_i h1
    split at hm
    · simp at hm
    · split at hm
      · simp at hm
      · refine ⟨by omega, by omega, hl, fun s hs => ?_⟩
        have h := List.all_eq_true.1 hm s hs
        unfold Sp.maySym at h
        split at h
        · simp at h
        · rename_i h3
          split at h
          · simp at h
          · rename_i h4
            have hi : Sp.isSym s = true := by
              by_cases k : Sp.isSym s = true
              · exact k
              · exact absurd (.inl (by simpa using k)) h3
            refine ⟨Sp.quotable_ne hi, ?_, ?_⟩
            · by_cases k : s.num = 0
              · omega
              · by_cases k2 : s.num < 1
                · exact absurd ⟨k, .inr (.inr (.inl k2))⟩ h4
                · omega
            · by_cases k : s.num = 0
              · omega
              · by_cases k2 : 50000 < s.num
                · exact absurd ⟨k, .inr (.inr (.inr k2))⟩ h4
                · omega
theorem txt_alt {a : Sp.Alt} (hm : Sp.mayAlt a = true) : txtAlt a := by
  unfold Sp.mayAlt at hm
  simp only [Bool.and_eq_true, Bool.or_eq_true] at hm
  refine ⟨fun p hp hc => ?_, fun hn => ?_⟩
  · have h := List.all_eq_true.1 hm.2 p hp
    unfold Sp.mayPart at h
    rw [if_pos hc] at h
    unfold Sp.isBare at h
    simp only [Bool.and_eq_true] at h
    exact Sp.quotable_ne h.1
  · rcases hm.1 with h | h
    · rw [h] at hn; simp at hn
    · unfold Sp.isBare at h
      simp only [Bool.and_eq_true] at h
      exact Sp.quotable_ne h.1
theorem txt_src {x : Sp.Source} (ht : tinySrc x) (hm : Sp.may x = true) : (∀ d ∈ x.decls, txtDecl d) ∧ ∀ r ∈ x.rules, txtRule r := by
  obtain ⟨_, _, _, _, h5, h6⟩ := ht
  unfold Sp.may at hm
  simp only [Bool.and_eq_true, List.all_eq_true] at hm
  refine ⟨fun d hd => txt_decl (hm.1.2 d hd) (by have := (h5 d hd).2.1; omega), fun r hr => ⟨by have := (h6 r hr).2.1; omega, fun a ha => ⟨?_, by have := ((h6 r hr).2.2 a ha).1; omega⟩⟩⟩
  have h := hm.2 r hr
  unfold Sp.mayRule at h
  simp only [Bool.and_eq_true, List.all_eq_true] at h
  exact txt_alt (h.2 a ha)

/-- What the two sides say of a source that is small, wherever it still reads so. -/
structure SrcCalls (x : Sp.Source) (vd vr : Value) (W : World) : Prop where
  may : Calls Tryz.prog 8 #[.agg (srcC vd vr x).toArray] W fun e w' => e = .returned (.bool (Sp.may x)) ∧ Below W.heap.size W w'
  rmay : Calls Tryz.prog 9 #[.agg (srcC vd vr x).toArray] W fun e w' => e = .returned (.bool (Sp.may x)) ∧ Below W.heap.size W w'
  text : Calls Tryz.prog 10 #[.agg (srcC vd vr x).toArray] W fun e w' => e = .returned (.string ⟨(Sp.text x).toArray⟩) ∧ Below W.heap.size W w'
  rtext : Calls Tryz.prog 11 #[.agg (srcC vd vr x).toArray] W fun e w' => e = .returned (.string ⟨(Sp.text x).toArray⟩) ∧ Below W.heap.size W w'
theorem src_calls {x : Sp.Source} {vd vr : Value} {W : World} (hd : DeclsAt W vd x.decls) (hr : RulesAt W vr x.rules) (ht : tinySrc x) (hg : Gl W) : SrcCalls x vd vr W := by
  have hs := (tiny_small ht).1
  have hT := tiny_text ht
  refine ⟨print_May x vd vr W hd hr hs hg, ref7_May x vd vr W hd hr hs, print_Text x vd vr W hd hr hs (fun hm => tiny_ok ht hm) (by omega) hg, ?_⟩
  have h := ref7_Text x vd vr W hd hr hs (fun hm => txt_src ht hm) (by rw [Sp.refText_eq]; omega)
  rw [Sp.refText_eq] at h
  exact h
theorem same_calls {x y : Sp.Source} {d1 r1 d2 r2 : Value} {W : World} (hd1 : DeclsAt W d1 x.decls) (hr1 : RulesAt W r1 x.rules) (hd2 : DeclsAt W d2 y.decls) (hr2 : RulesAt W r2 y.rules) (hx : tinySrc x) (hy : tinySrc y) :
    (Calls Tryz.prog 12 #[.agg (srcC d1 r1 x).toArray, .agg (srcC d2 r2 y).toArray] W fun e w' => e = .returned (.bool (Sp.same x y)) ∧ Below W.heap.size W w') ∧
    Calls Tryz.prog 13 #[.agg (srcC d1 r1 x).toArray, .agg (srcC d2 r2 y).toArray] W fun e w' => e = .returned (.bool (Sp.same x y)) ∧ Below W.heap.size W w' := by
  refine ⟨print_Same x y d1 r1 d2 r2 W hd1 hr1 hd2 hr2 (tiny_small hx).2 (tiny_small hy).2, ref7_Same x y d1 r1 d2 r2 W hd1 hr1 hd2 hr2 ?_ ?_⟩
  · obtain ⟨_, _, h3, h4, h5, h6⟩ := hx
    exact ⟨by omega, by omega, fun d hd => by have := (h5 d hd).2.1; omega, fun r hr => ⟨by have := (h6 r hr).2.1; omega, fun a ha => by have := ((h6 r hr).2.2 a ha).1; omega⟩⟩
  · obtain ⟨_, _, h3, h4, h5, h6⟩ := hy
    exact ⟨by omega, by omega, fun d hd => by have := (h5 d hd).2.1; omega, fun r hr => ⟨by have := (h6 r hr).2.1; omega, fun a ha => by have := ((h6 r hr).2.2 a ha).1; omega⟩⟩
/-- What a cut hands back. -/
def CutPost2 (X : Sp.Source) (W : World) (e : Ending) (w' : World) : Prop :=
  ∃ pv qv B, e = .returned (.agg #[.string ⟨X.pro.toArray⟩, pv, qv, .string ⟨X.tail.toArray⟩]) ∧ Below W.heap.size W w' ∧ DeclsOwn B w' pv X.decls ∧ RulesOwn B w' qv X.rules
theorem decls_slice {B : Nat} {w : World} {v : Value} {l : List Sp.Decl} (h : DeclsOwn B w v l) : ∃ a cap, v = .slice a l.length cap := by
  obtain ⟨f, hf, _⟩ := h
  exact ownsRowS_some hf
theorem rules_slice {B : Nat} {w : World} {v : Value} {l : List Sp.Rule} (h : RulesOwn B w v l) : ∃ a cap, v = .slice a l.length cap := by
  obtain ⟨f, hf, _⟩ := h
  exact ownsRowS_some hf
/-- What is asked of the library's variables in a world that holds little else. -/
def Gl0 (w : World) : Prop := (∃ m : Int, w.cell? ⟨0, 0, none⟩ = some (.int .i64 m)) ∧ 4 ≤ w.heap.size ∧ Lib.TabIs Tryz.prog w "internal/strconv.uint64pow10" .u64 Lib.pow10Tab
theorem Gl0.up {w w' : World} (h : Gl0 w) (hb : Below w.heap.size w w') (h6 : 6 ≤ w'.heap.size) : Gl w' := by
  obtain ⟨⟨m, hm⟩, hz, ht⟩ := h
  exact ⟨⟨m, (hb.cell (p := ⟨0, 0, none⟩) (by show 0 < _; omega)).trans hm⟩, h6, var?_below hb (by kernel_rfl : Tryz.prog.globalNamed "internal/strconv.uint64pow10" = some 1) (by omega) ht⟩
/-- Behind both stores: two blocks of sources, and all else as it was. -/
theorem eight_post {W W2 w2 w3 wx : World} {B1 B3 : Nat} {pv qv uv vv : Value} {d1 d2 : List Sp.Decl} {r1 r2 : List Sp.Rule} {e0 e1 e2 e3 f0 f1 f2 f3 : Value} {cs1 cs2 : List Value} (hl1 : cs1.length = 4) (hl2 : cs2.length = 4)
    (hF : ∀ w', Below W2.heap.size W2 w' → w'.heap[W.heap.size]? = some (.cells cs1.toArray 25 (0, 0)) ∧ w'.heap[W.heap.size + 1]? = some (.cells cs2.toArray 25 (0, 0)))
    (ho1 : DeclsOwn B1 w2 pv d1) (ho2 : RulesOwn B1 w2 qv r1) (ho3 : DeclsOwn B3 w3 uv d2) (ho4 : RulesOwn B3 w3 vv r2) (hb2 : Below W.heap.size W W2) (hb3 : Below w2.heap.size w2 w3) (hL : Below W2.heap.size W2 w3)
    (hwx : wx = (((((((w3.setCell ⟨W.heap.size, 0, none⟩ e0).setCell ⟨W.heap.size, 1, none⟩ e1).setCell ⟨W.heap.size, 2, none⟩ e2).setCell ⟨W.heap.size, 3, none⟩ e3).setCell ⟨W.heap.size + 1, 0, none⟩ f0).setCell ⟨W.heap.size + 1, 1, none⟩ f1).setCell ⟨W.heap.size + 1, 2, none⟩ f2).setCell ⟨W.heap.size + 1, 3, none⟩ f3) :
    wx.heap[W.heap.size]? = some (.cells #[e0, e1, e2, e3] 25 (0, 0)) ∧ wx.heap[W.heap.size + 1]? = some (.cells #[f0, f1, f2, f3] 25 (0, 0)) ∧ DeclsAt wx pv d1 ∧ RulesAt wx qv r1 ∧ DeclsAt wx uv d2 ∧ RulesAt wx vv r2 ∧ Below W.heap.size W wx := by
  obtain ⟨h1, h2⟩ := hF w3 hL
  obtain ⟨b0, b1, b2, b3, rfl⟩ := four cs1 hl1
  obtain ⟨c0, c1, c2, c3, rfl⟩ := four cs2 hl2
  have g2 : ∀ i u (w : World) (c : Array Value), w.heap[W.heap.size + 1]? = some (.cells c 25 (0, 0)) → (w.setCell ⟨W.heap.size, i, none⟩ u).heap[W.heap.size + 1]? = some (.cells c 25 (0, 0)) := fun i u w c h => by rw [Below.heap_setCell _ _ _ _ (by simp)]; exact h
  have g1 : ∀ i u (w : World) (c : Array Value), w.heap[W.heap.size]? = some (.cells c 25 (0, 0)) → (w.setCell ⟨W.heap.size + 1, i, none⟩ u).heap[W.heap.size]? = some (.cells c 25 (0, 0)) := fun i u w c h => by rw [Below.heap_setCell _ _ _ _ (by simp)]; exact h
  have k1 := heap_setCell_at (i := 0) (v := e0) h1
  have k2 := heap_setCell_at (i := 1) (v := e1) k1
  have k3 := heap_setCell_at (i := 2) (v := e2) k2
  have k4 := heap_setCell_at (i := 3) (v := e3) k3
  have m1 := g2 0 e0 _ _ h2
  have m2 := g2 1 e1 _ _ m1
  have m3 := g2 2 e2 _ _ m2
  have m4 := g2 3 e3 _ _ m3
  have m5 := heap_setCell_at (i := 0) (v := f0) m4
  have m6 := heap_setCell_at (i := 1) (v := f1) m5
  have m7 := heap_setCell_at (i := 2) (v := f2) m6
  have m8 := heap_setCell_at (i := 3) (v := f3) m7
  have k8 := g1 3 f3 _ _ (g1 2 f2 _ _ (g1 1 f1 _ _ (g1 0 f0 _ _ k4)))
  have hK : KpT (· ≠ 25) w3 wx := by
    rw [hwx]
    exact ((((((((KpT.below (Below.refl _ w3)).setCell h1 (by simp) _).setCell k1 (by simp) _).setCell k2 (by simp) _).setCell k3 (by simp) _).setCell m4 (by simp) _).setCell m5 (by simp) _).setCell m6 (by simp) _).setCell m7 (by simp) _
  have hK2 : KpT (· ≠ 25) w2 wx := (KpT.below hb3).trans hK
  have hBW : Below W.heap.size W w3 := hb2.trans (hL.mono hb2.size)
  refine ⟨?_, ?_, decls_at (decls_kp ho1 hK2 (by decide) (by decide)), rules_at (rules_kp ho2 hK2 (by decide) (by decide) (by decide)), decls_at (decls_kp ho3 hK (by decide) (by decide)), rules_at (rules_kp ho4 hK (by decide) (by decide) (by decide)), ?_⟩
  · rw [hwx, k8]; rfl
  · rw [hwx, m8]; rfl
  · rw [hwx]
    exact (((((((hBW.setCell (p := ⟨W.heap.size, 0, none⟩) (Nat.le_refl _) _).setCell (p := ⟨W.heap.size, 1, none⟩) (Nat.le_refl _) _).setCell (p := ⟨W.heap.size, 2, none⟩) (Nat.le_refl _) _).setCell (p := ⟨W.heap.size, 3, none⟩) (Nat.le_refl _) _).setCell (p := ⟨W.heap.size + 1, 0, none⟩) (Nat.le_succ _) _).setCell (p := ⟨W.heap.size + 1, 1, none⟩) (Nat.le_succ _) _).setCell (p := ⟨W.heap.size + 1, 2, none⟩) (Nat.le_succ _) _).setCell (p := ⟨W.heap.size + 1, 3, none⟩) (Nat.le_succ _) _

set_option maxRecDepth 100000 in
set_option maxHeartbeats 12800000 in
theorem law_PrintTells (x : Sp.Source) (vd vr : Value) (y : Sp.Source) (ud ur : Value) (W : World) (hdx : DeclsAt W vd x.decls) (hrx : RulesAt W vr x.rules) (hx : bigSrc x) (hdy : DeclsAt W ud y.decls) (hry : RulesAt W ur y.rules) (hy : bigSrc y) (hg : Gl0 W) :
    Calls Tryz.prog 3 #[.agg (srcC vd vr x).toArray, .agg (srcC ud ur y).toArray] W fun e w' => e = .returned (.bool true) ∧ Below W.heap.size W w' := by
  have htx : tinySrc (cutSrc cut8N x) := cut_tiny cut8N (by decide) hx
  have hty : tinySrc (cutSrc cut8N y) := cut_tiny cut8N (by decide) hy
  obtain ⟨a1, c1, hv1⟩ := hdx.form
  obtain ⟨a2, c2, hv2⟩ := hrx.form
  obtain ⟨a3, c3, hv3⟩ := hdy.form
  obtain ⟨a4, c4, hv4⟩ := hry.form
  obtain ⟨pr, ds, rs, tl⟩ := x
  obtain ⟨pr2, ds2, rs2, tl2⟩ := y
  simp only at hv1 hv2 hv3 hv4
  subst hv1 hv2 hv3 hv4
  obtain ⟨W2, hW2⟩ : ∃ W2, W2 = (W.alloc (.cells #[.string ⟨pr.toArray⟩, .slice a1 ds.length c1, .slice a2 rs.length c2, .string ⟨tl.toArray⟩] 25)).alloc (.cells #[.string ⟨pr2.toArray⟩, .slice a3 ds2.length c3, .slice a4 rs2.length c4, .string ⟨tl2.toArray⟩] 25) := ⟨_, rfl⟩
  have hs2 : W2.heap.size = W.heap.size + 2 := by rw [hW2]; simp
  have hb2 : Below W.heap.size W W2 := by rw [hW2]; exact ((Below.refl _ W).alloc (Nat.le_refl _) _).alloc (by simp) _
  have HF := Lib.hid (fun w' (h : Below W2.heap.size W2 w') => (show w'.heap[W.heap.size]? = some (.cells [.string ⟨pr.toArray⟩, .slice a1 ds.length c1, .slice a2 rs.length c2, .string ⟨tl.toArray⟩].toArray 25 (0, 0)) ∧ w'.heap[W.heap.size + 1]? = some (.cells [.string ⟨pr2.toArray⟩, .slice a3 ds2.length c3, .slice a4 rs2.length c4, .string ⟨tl2.toArray⟩].toArray 25 (0, 0)) from by
    refine ⟨(h.block _ (by omega)).trans ?_, (h.block _ (by omega)).trans ?_⟩
    · rw [hW2]; exact (Below.heap_alloc _ _ _ (by simp)).trans (heap_last W _)
    · rw [hW2]; exact heap_sec W _ _))
  have HG := Lib.hid (fun w' (h : Below W.heap.size W w') (h6 : 6 ≤ w'.heap.size) => hg.up h h6)
  have h4 : 4 ≤ W.heap.size := hg.2.1
  have HC1 := Lib.hid (fun w' (h : Below W2.heap.size W2 w') => (show Calls Tryz.prog 7 #[.agg #[.string ⟨pr.toArray⟩, .slice a1 ds.length c1, .slice a2 rs.length c2, .string ⟨tl.toArray⟩]] w' (CutPost2 (cutSrc cut8N ⟨pr, ds, rs, tl⟩) w') from cut8_walk ⟨pr, ds, rs, tl⟩ _ _ w' (hdx.below (hb2.trans (h.mono (by omega)))) (hrx.below (hb2.trans (h.mono (by omega)))) hx))
  have HC2 := Lib.hid (fun w' (h : Below W2.heap.size W2 w') => (show Calls Tryz.prog 7 #[.agg #[.string ⟨pr2.toArray⟩, .slice a3 ds2.length c3, .slice a4 rs2.length c4, .string ⟨tl2.toArray⟩]] w' (CutPost2 (cutSrc cut8N ⟨pr2, ds2, rs2, tl2⟩) w') from cut8_walk ⟨pr2, ds2, rs2, tl2⟩ _ _ w' (hdy.below (hb2.trans (h.mono (by omega)))) (hry.below (hb2.trans (h.mono (by omega)))) hy))
  generalize cutSrc cut8N ⟨pr, ds, rs, tl⟩ = X at *
  generalize cutSrc cut8N ⟨pr2, ds2, rs2, tl2⟩ = Y at *
  have HB2 := Lib.hid hb2; have HW2 := Lib.hid hW2; have HTX := Lib.hid htx; have HTY := Lib.hid hty
  clear hdx hrx hdy hry hx hy htx hty
  generalize ds.length = n1 at *
  generalize rs.length = n2 at *
  generalize ds2.length = n3 at *
  generalize rs2.length = n4 at *
  have HW := Lib.hid (wakes8 W2 (HG.out W2 hb2 (by omega)))
  clear hW2 hb2 hg
  obtain ⟨p1, d1, r1, t1⟩ := X
  obtain ⟨p2, d2, r2, t2⟩ := Y
  have HS3 := Lib.hid (fun w' (h : Below W2.heap.size W2 w') => (show w'.cell? ⟨W.heap.size, 0, none⟩ = some (.string ⟨pr.toArray⟩) ∧ w'.frozen? ⟨W.heap.size, 0, none⟩ = false ∧ w'.cell? ⟨W.heap.size, 1, none⟩ = some (.slice a1 n1 c1) ∧ w'.frozen? ⟨W.heap.size, 1, none⟩ = false ∧ w'.cell? ⟨W.heap.size, 2, none⟩ = some (.slice a2 n2 c2) ∧ w'.frozen? ⟨W.heap.size, 2, none⟩ = false ∧ w'.cell? ⟨W.heap.size, 3, none⟩ = some (.string ⟨tl.toArray⟩) ∧ w'.frozen? ⟨W.heap.size, 3, none⟩ = false ∧ w'.cell? ⟨W.heap.size + 1, 0, none⟩ = some (.string ⟨pr2.toArray⟩) ∧ w'.frozen? ⟨W.heap.size + 1, 0, none⟩ = false ∧ w'.cell? ⟨W.heap.size + 1, 1, none⟩ = some (.slice a3 n3 c3) ∧ w'.frozen? ⟨W.heap.size + 1, 1, none⟩ = false ∧ w'.cell? ⟨W.heap.size + 1, 2, none⟩ = some (.slice a4 n4 c4) ∧ w'.frozen? ⟨W.heap.size + 1, 2, none⟩ = false ∧ w'.cell? ⟨W.heap.size + 1, 3, none⟩ = some (.string ⟨tl2.toArray⟩) ∧ w'.frozen? ⟨W.heap.size + 1, 3, none⟩ = false from by
    obtain ⟨h1, h2⟩ := HF.out w' h
    exact ⟨cell_at (i := 0) h1, frozen_at (i := 0) h1, cell_at (i := 1) h1, frozen_at (i := 1) h1, cell_at (i := 2) h1, frozen_at (i := 2) h1, cell_at (i := 3) h1, frozen_at (i := 3) h1, cell_at (i := 0) h2, frozen_at (i := 0) h2, cell_at (i := 1) h2, frozen_at (i := 1) h2, cell_at (i := 2) h2, frozen_at (i := 2) h2, cell_at (i := 3) h2, frozen_at (i := 3) h2⟩))
  show Calls _ _ #[.agg #[.string ⟨pr.toArray⟩, .slice a1 n1 c1, .slice a2 n2 c2, .string ⟨tl.toArray⟩], .agg #[.string ⟨pr2.toArray⟩, .slice a3 n3 c3, .slice a4 n4 c4, .string ⟨tl2.toArray⟩]] _ _
  go_enter Tryz.func3, Tryz.ntmps3
  go_wp2_with fail
  rw [← HW2.out]
  refine HW.out.mono ?_
  rintro e w1 ⟨rfl, hb1⟩
  have HB1 := Lib.hid hb1
  clear hb1
  go_upto_region 3 with fail
  go_cut [] (fun wx => ∃ pa pc qa qc ua uc va vc, wx.heap[W.heap.size]? = some (.cells #[.string ⟨p1.toArray⟩, .slice pa d1.length pc, .slice qa r1.length qc, .string ⟨t1.toArray⟩] 25 (0, 0)) ∧ wx.heap[W.heap.size + 1]? = some (.cells #[.string ⟨p2.toArray⟩, .slice ua d2.length uc, .slice va r2.length vc, .string ⟨t2.toArray⟩] 25 (0, 0)) ∧ DeclsAt wx (.slice pa d1.length pc) d1 ∧ RulesAt wx (.slice qa r1.length qc) r1 ∧ DeclsAt wx (.slice ua d2.length uc) d2 ∧ RulesAt wx (.slice va r2.length vc) r2 ∧ Below W.heap.size W wx)
  case first =>
    have HL1 := Lib.hid (fun w' (h : Below w1.drew.heap.size w1.drew w') => (show Below W2.heap.size W2 w' from HB1.out.trans ((below_undrew h).mono HB1.out.size)))
    refine wp_region_plan (fun w' : World => w'.cell? ⟨W.heap.size, 0, none⟩ = some (.string ⟨pr.toArray⟩) ∧ w'.frozen? ⟨W.heap.size, 0, none⟩ = false ∧ w'.cell? ⟨W.heap.size, 1, none⟩ = some (.slice a1 n1 c1) ∧ w'.frozen? ⟨W.heap.size, 1, none⟩ = false ∧ w'.cell? ⟨W.heap.size, 2, none⟩ = some (.slice a2 n2 c2) ∧ w'.frozen? ⟨W.heap.size, 2, none⟩ = false ∧ w'.cell? ⟨W.heap.size, 3, none⟩ = some (.string ⟨tl.toArray⟩) ∧ w'.frozen? ⟨W.heap.size, 3, none⟩ = false ∧ w'.cell? ⟨W.heap.size + 1, 0, none⟩ = some (.string ⟨pr2.toArray⟩) ∧ w'.frozen? ⟨W.heap.size + 1, 0, none⟩ = false ∧ w'.cell? ⟨W.heap.size + 1, 1, none⟩ = some (.slice a3 n3 c3) ∧ w'.frozen? ⟨W.heap.size + 1, 1, none⟩ = false ∧ w'.cell? ⟨W.heap.size + 1, 2, none⟩ = some (.slice a4 n4 c4) ∧ w'.frozen? ⟨W.heap.size + 1, 2, none⟩ = false ∧ w'.cell? ⟨W.heap.size + 1, 3, none⟩ = some (.string ⟨tl2.toArray⟩) ∧ w'.frozen? ⟨W.heap.size + 1, 3, none⟩ = false) [4, 5] (.take 0 (.two 1 2 (.one 2 (.one 3 (.one 4 (.one 5 (.done))))) (.one 1 (.one 3 (.one 4 (.one 5 (.done))))))) (by kernel_rfl) (by kernel_rfl) (fun _ _ _ _ h => h) ?_
    have hSw := HS3.out _ (HL1.out _ (Below.refl _ _))
    refine wpPlan_take (v := ?vg31) rfl hSw (by rfl) ?yg31 ?_
    case yg31 => (intro w hSx; (try dsimp only at hSx); go_simp; first | done | with_reducible rfl | rfl)
    (try simp only [Act.put, List.setIfInBounds_toArray, List.set_cons_zero, List.set_cons_succ])
    refine wpPlan_two ?_ ?_
    · refine wpPlan_run rfl (by rfl) (fun K' hK => ?_)
      (go_simp; go_at_call 7; refine (HC1.out _ (HL1.out _ (Below.refl _ _))).mono ?_; rintro e w2 ⟨pv, qv, B1, rfl, hb2, ho1, ho2⟩; obtain ⟨pa, pc, rfl⟩ := decls_slice ho1; obtain ⟨qa, qc, rfl⟩ := rules_slice ho2; have HO1 := Lib.hid ho1; have HO2 := Lib.hid ho2; have HL2 := Lib.hid (fun w' (h : Below w2.heap.size w2 w') => HL1.out w' (hb2.trans (h.mono hb2.size))); have HBB := Lib.hid hb2; clear ho1 ho2 hb2)
      refine hK _ _ (.inr ?_) ?_
      · exact HS3.out _ (HL2.out _ (Below.refl _ _))
      clear hK K' hSw
      (try simp only [Act.put, List.setIfInBounds_toArray, List.set_cons_zero, List.set_cons_succ])
      refine wpPlan_run rfl (by rfl) (fun K' hK => ?_)
      (obtain ⟨z0, z1, z2, z3, z4, z5, z6, z7, z8, z9, z10, z11, z12, z13, z14, z15⟩ := HS3.out _ (HL2.out _ (Below.refl _ _)); go_simp)
      refine hK _ _ (.inr ?_) ?_
      · exact HS3.out _ (HL2.out _ (Below.refl _ _))
      clear hK K'
      (try simp only [Act.put, List.setIfInBounds_toArray, List.set_cons_zero, List.set_cons_succ])
      refine wpPlan_run rfl (by rfl) (fun K' hK => ?_)
      (go_simp; go_at_call 7; refine (HC2.out _ (HL2.out _ (Below.refl _ _))).mono ?_; rintro e w3 ⟨uv, vv, B3, rfl, hb3, ho3, ho4⟩; obtain ⟨ua, uc, rfl⟩ := decls_slice ho3; obtain ⟨va, vc, rfl⟩ := rules_slice ho4; have HO3 := Lib.hid ho3; have HO4 := Lib.hid ho4; have HL3 := Lib.hid (fun w' (h : Below w3.heap.size w3 w') => HL2.out w' (hb3.trans (h.mono hb3.size))); have HB3 := Lib.hid hb3; obtain ⟨z0, z1, z2, z3, z4, z5, z6, z7, z8, z9, z10, z11, z12, z13, z14, z15⟩ := HS3.out _ (HL3.out w3 (Below.refl _ _)); have hl3 : W.heap.size + 1 < w3.heap.size := (by have := (HL3.out w3 (Below.refl _ _)).size; omega); clear ho3 ho4 hb3)
      refine hK _ _ (.inr ?_) ?_
      · exact HS3.out _ (HL3.out _ (Below.refl _ _))
      clear hK K'
      (try simp only [Act.put, List.setIfInBounds_toArray, List.set_cons_zero, List.set_cons_succ])
      refine wpPlan_run rfl (by rfl) (fun K' hK => ?_)
      go_simp
      refine hK _ _ (.inl rfl) ?_
      clear hK K'
      (try simp only [Act.put, List.setIfInBounds_toArray, List.set_cons_zero, List.set_cons_succ])
      refine wpPlan_run rfl (by rfl) (fun K' hK => ?_)
      go_simp
      refine hK _ _ (.inl rfl) ?_
      clear hK K'
      (try simp only [Act.put, List.setIfInBounds_toArray, List.set_cons_zero, List.set_cons_succ])
      refine wpPlan_done ?_
      go_wp2_with fail
      go_meet
      exact ⟨_, _, _, _, _, _, _, _, eight_post rfl rfl HF.out HO1.out HO2.out HO3.out HO4.out HB2.out HB3.out (HL3.out w3 (Below.refl _ _)) rfl⟩
    · refine wpPlan_run rfl (by rfl) (fun K' hK => ?_)
      (obtain ⟨z0, z1, z2, z3, z4, z5, z6, z7, z8, z9, z10, z11, z12, z13, z14, z15⟩ := HS3.out _ (HL1.out _ (Below.refl _ _)); go_simp)
      refine hK _ _ (.inr ?_) ?_
      · exact HS3.out _ (HL1.out _ (Below.refl _ _))
      clear hK K' hSw
      (try simp only [Act.put, List.setIfInBounds_toArray, List.set_cons_zero, List.set_cons_succ])
      refine wpPlan_run rfl (by rfl) (fun K' hK => ?_)
      (go_simp; go_at_call 7; refine (HC1.out _ (HL1.out _ (Below.refl _ _))).mono ?_; rintro e w2 ⟨pv, qv, B1, rfl, hb2, ho1, ho2⟩; obtain ⟨pa, pc, rfl⟩ := decls_slice ho1; obtain ⟨qa, qc, rfl⟩ := rules_slice ho2; have HO1 := Lib.hid ho1; have HO2 := Lib.hid ho2; have HL2 := Lib.hid (fun w' (h : Below w2.heap.size w2 w') => HL1.out w' (hb2.trans (h.mono hb2.size))); have HBB := Lib.hid hb2; clear ho1 ho2 hb2)
      refine hK _ _ (.inr ?_) ?_
      · exact HS3.out _ (HL2.out _ (Below.refl _ _))
      clear hK K'
      (try simp only [Act.put, List.setIfInBounds_toArray, List.set_cons_zero, List.set_cons_succ])
      refine wpPlan_run rfl (by rfl) (fun K' hK => ?_)
      (go_simp; go_at_call 7; refine (HC2.out _ (HL2.out _ (Below.refl _ _))).mono ?_; rintro e w3 ⟨uv, vv, B3, rfl, hb3, ho3, ho4⟩; obtain ⟨ua, uc, rfl⟩ := decls_slice ho3; obtain ⟨va, vc, rfl⟩ := rules_slice ho4; have HO3 := Lib.hid ho3; have HO4 := Lib.hid ho4; have HL3 := Lib.hid (fun w' (h : Below w3.heap.size w3 w') => HL2.out w' (hb3.trans (h.mono hb3.size))); have HB3 := Lib.hid hb3; obtain ⟨z0, z1, z2, z3, z4, z5, z6, z7, z8, z9, z10, z11, z12, z13, z14, z15⟩ := HS3.out _ (HL3.out w3 (Below.refl _ _)); have hl3 : W.heap.size + 1 < w3.heap.size := (by have := (HL3.out w3 (Below.refl _ _)).size; omega); clear ho3 ho4 hb3)
      refine hK _ _ (.inr ?_) ?_
      · exact HS3.out _ (HL3.out _ (Below.refl _ _))
      clear hK K'
      (try simp only [Act.put, List.setIfInBounds_toArray, List.set_cons_zero, List.set_cons_succ])
      refine wpPlan_run rfl (by rfl) (fun K' hK => ?_)
      go_simp
      refine hK _ _ (.inl rfl) ?_
      clear hK K'
      (try simp only [Act.put, List.setIfInBounds_toArray, List.set_cons_zero, List.set_cons_succ])
      refine wpPlan_run rfl (by rfl) (fun K' hK => ?_)
      go_simp
      refine hK _ _ (.inl rfl) ?_
      clear hK K'
      (try simp only [Act.put, List.setIfInBounds_toArray, List.set_cons_zero, List.set_cons_succ])
      refine wpPlan_done ?_
      go_wp2_with fail
      go_meet
      exact ⟨_, _, _, _, _, _, _, _, eight_post rfl rfl HF.out HO1.out HO2.out HO3.out HO4.out HB2.out HB3.out (HL3.out w3 (Below.refl _ _)) rfl⟩
  case rest =>
    obtain ⟨pa, pc, qa, qc, ua, uc, va, vc, hP1, hP2, hd1, hr1, hd2, hr2, hbw⟩ := hcut
    have hgc := HG.out wc hbw (by have := lt_at hP2; omega)
    have HBW := Lib.hid hbw
    have HM1 := Lib.hid (fun w' (h : Below wc.heap.size wc w') => (show Calls Tryz.prog 8 #[.agg #[.string ⟨p1.toArray⟩, .slice pa d1.length pc, .slice qa r1.length qc, .string ⟨t1.toArray⟩]] w' (fun e w'' => e = .returned (.bool (Sp.may ⟨p1, d1, r1, t1⟩)) ∧ Below w'.heap.size w' w'') from (src_calls (hd1.below h) (hr1.below h) HTX.out (hgc.below h)).may))
    have HM2 := Lib.hid (fun w' (h : Below wc.heap.size wc w') => (show Calls Tryz.prog 9 #[.agg #[.string ⟨p1.toArray⟩, .slice pa d1.length pc, .slice qa r1.length qc, .string ⟨t1.toArray⟩]] w' (fun e w'' => e = .returned (.bool (Sp.may ⟨p1, d1, r1, t1⟩)) ∧ Below w'.heap.size w' w'') from (src_calls (hd1.below h) (hr1.below h) HTX.out (hgc.below h)).rmay))
    have HT1 := Lib.hid (fun w' (h : Below wc.heap.size wc w') => (show Calls Tryz.prog 10 #[.agg #[.string ⟨p1.toArray⟩, .slice pa d1.length pc, .slice qa r1.length qc, .string ⟨t1.toArray⟩]] w' (fun e w'' => e = .returned (.string ⟨(Sp.text ⟨p1, d1, r1, t1⟩).toArray⟩) ∧ Below w'.heap.size w' w'') from (src_calls (hd1.below h) (hr1.below h) HTX.out (hgc.below h)).text))
    have HT2 := Lib.hid (fun w' (h : Below wc.heap.size wc w') => (show Calls Tryz.prog 11 #[.agg #[.string ⟨p1.toArray⟩, .slice pa d1.length pc, .slice qa r1.length qc, .string ⟨t1.toArray⟩]] w' (fun e w'' => e = .returned (.string ⟨(Sp.text ⟨p1, d1, r1, t1⟩).toArray⟩) ∧ Below w'.heap.size w' w'') from (src_calls (hd1.below h) (hr1.below h) HTX.out (hgc.below h)).rtext))
    have HE1 := Lib.hid (fun w' (h : Below wc.heap.size wc w') => (show Calls Tryz.prog 12 #[.agg #[.string ⟨p1.toArray⟩, .slice pa d1.length pc, .slice qa r1.length qc, .string ⟨t1.toArray⟩], .agg #[.string ⟨p2.toArray⟩, .slice ua d2.length uc, .slice va r2.length vc, .string ⟨t2.toArray⟩]] w' (fun e w'' => e = .returned (.bool (Sp.same ⟨p1, d1, r1, t1⟩ ⟨p2, d2, r2, t2⟩)) ∧ Below w'.heap.size w' w'') from (same_calls (hd1.below h) (hr1.below h) (hd2.below h) (hr2.below h) HTX.out HTY.out).1))
    have HE2 := Lib.hid (fun w' (h : Below wc.heap.size wc w') => (show Calls Tryz.prog 13 #[.agg #[.string ⟨p1.toArray⟩, .slice pa d1.length pc, .slice qa r1.length qc, .string ⟨t1.toArray⟩], .agg #[.string ⟨p2.toArray⟩, .slice ua d2.length uc, .slice va r2.length vc, .string ⟨t2.toArray⟩]] w' (fun e w'' => e = .returned (.bool (Sp.same ⟨p1, d1, r1, t1⟩ ⟨p2, d2, r2, t2⟩)) ∧ Below w'.heap.size w' w'') from (same_calls (hd1.below h) (hr1.below h) (hd2.below h) (hr2.below h) HTX.out HTY.out).2))
    have HE3 := Lib.hid (fun w' (h : Below wc.heap.size wc w') => (show Calls Tryz.prog 12 #[.agg #[.string ⟨p1.toArray⟩, .slice pa d1.length pc, .slice qa r1.length qc, .string ⟨t1.toArray⟩], .agg #[.string ⟨p1.toArray⟩, .slice pa d1.length pc, .slice qa r1.length qc, .string ⟨t1.toArray⟩]] w' (fun e w'' => e = .returned (.bool true) ∧ Below w'.heap.size w' w'') from (by have k := (same_calls (hd1.below h) (hr1.below h) (hd1.below h) (hr1.below h) HTX.out HTX.out).1; rw [Sp.same_refl] at k; exact k)))
    have HK0 := Lib.hid (fun w' (h : Below wc.drew.heap.size wc.drew w') => (show Below wc.heap.size wc w' from below_undrew h))
    generalize Sp.may ⟨p1, d1, r1, t1⟩ = am at *
    generalize Sp.text ⟨p1, d1, r1, t1⟩ = at_ at *
    generalize Sp.same ⟨p1, d1, r1, t1⟩ ⟨p2, d2, r2, t2⟩ = as_ at *
    generalize d1.length = m1 at *
    generalize r1.length = m2 at *
    generalize d2.length = m3 at *
    generalize r2.length = m4 at *
    have HS4 := Lib.hid (fun w' (h : Below wc.heap.size wc w') => (show w'.cell? ⟨W.heap.size, 0, none⟩ = some (.string ⟨p1.toArray⟩) ∧ w'.cell? ⟨W.heap.size, 1, none⟩ = some (.slice pa m1 pc) ∧ w'.cell? ⟨W.heap.size, 2, none⟩ = some (.slice qa m2 qc) ∧ w'.cell? ⟨W.heap.size, 3, none⟩ = some (.string ⟨t1.toArray⟩) ∧ w'.cell? ⟨W.heap.size + 1, 0, none⟩ = some (.string ⟨p2.toArray⟩) ∧ w'.cell? ⟨W.heap.size + 1, 1, none⟩ = some (.slice ua m3 uc) ∧ w'.cell? ⟨W.heap.size + 1, 2, none⟩ = some (.slice va m4 vc) ∧ w'.cell? ⟨W.heap.size + 1, 3, none⟩ = some (.string ⟨t2.toArray⟩) from by
      have h1 := (h.block W.heap.size (lt_at hP1)).trans hP1
      have h2 := (h.block (W.heap.size + 1) (lt_at hP2)).trans hP2
      exact ⟨cell_at (i := 0) h1, cell_at (i := 1) h1, cell_at (i := 2) h1, cell_at (i := 3) h1, cell_at (i := 0) h2, cell_at (i := 1) h2, cell_at (i := 2) h2, cell_at (i := 3) h2⟩))
    have hl1 := lt_at hP1; have hl2 := lt_at hP2
    clear hP1 hP2 hd1 hr1 hd2 hr2 hbw hgc HC1 HC2 HS3 HF HB1
    go_upto_region 4 with fail
    refine wp_region_plan (fun w' : World => w'.cell? ⟨W.heap.size, 0, none⟩ = some (.string ⟨p1.toArray⟩) ∧ w'.cell? ⟨W.heap.size, 1, none⟩ = some (.slice pa m1 pc) ∧ w'.cell? ⟨W.heap.size, 2, none⟩ = some (.slice qa m2 qc) ∧ w'.cell? ⟨W.heap.size, 3, none⟩ = some (.string ⟨t1.toArray⟩) ∧ w'.cell? ⟨W.heap.size + 1, 0, none⟩ = some (.string ⟨p2.toArray⟩) ∧ w'.cell? ⟨W.heap.size + 1, 1, none⟩ = some (.slice ua m3 uc) ∧ w'.cell? ⟨W.heap.size + 1, 2, none⟩ = some (.slice va m4 vc) ∧ w'.cell? ⟨W.heap.size + 1, 3, none⟩ = some (.string ⟨t2.toArray⟩)) [] (.take 0 (.take 2 (.one 1 (.one 3 (.take 4 (.take 5 (.take 6 (.take 8 (.one 7 (.one 9 (.take 10 (.take 11 (.take 12 (.take 13 (.take 14 (.take 16 (.take 17 (.one 15 (.one 18 (.take 19 (.take 20 (.take 21 (.take 22 (.take 23 (.one 24 (.take 25 (.one 26 (.done)))))))))))))))))))))))))))) (by kernel_rfl) (by kernel_rfl) (fun _ _ _ _ h => h) ?_
    have hSw := HS4.out _ (HK0.out _ (Below.refl _ _))
    refine wpPlan_take (v := ?vg42) rfl hSw (by rfl) ?yg42 ?_
    case yg42 => (intro w hSx; (try dsimp only at hSx); go_simp; first | done | with_reducible rfl | rfl)
    (try simp only [Act.put, List.setIfInBounds_toArray, List.set_cons_zero, List.set_cons_succ])
    refine wpPlan_take (v := ?vg43) rfl hSw (by rfl) ?yg43 ?_
    case yg43 => (intro w hSx; (try dsimp only at hSx); go_simp; first | done | with_reducible rfl | rfl)
    (try simp only [Act.put, List.setIfInBounds_toArray, List.set_cons_zero, List.set_cons_succ])
    refine wpPlan_run rfl (by rfl) (fun K' hK => ?_)
    (go_simp; go_at_call 8; refine (HM1.out _ (HK0.out _ (Below.refl _ _))).mono ?_; rintro e v1 ⟨rfl, hb1⟩; have HK1 := Lib.hid (fun w' (h : Below v1.heap.size v1 w') => HK0.out w' (hb1.trans (h.mono hb1.size))); clear hb1)
    refine hK _ _ (.inr ?_) ?_
    · exact HS4.out _ (HK1.out _ (Below.refl _ _))
    clear hK K' hSw
    have hSw := HS4.out _ (HK1.out _ (Below.refl _ _))
    (try simp only [Act.put, List.setIfInBounds_toArray, List.set_cons_zero, List.set_cons_succ])
    refine wpPlan_run rfl (by rfl) (fun K' hK => ?_)
    (go_simp; go_at_call 9; refine (HM2.out _ (HK1.out _ (Below.refl _ _))).mono ?_; rintro e v2 ⟨rfl, hb2⟩; have HK2 := Lib.hid (fun w' (h : Below v2.heap.size v2 w') => HK1.out w' (hb2.trans (h.mono hb2.size))); clear hb2)
    refine hK _ _ (.inr ?_) ?_
    · exact HS4.out _ (HK2.out _ (Below.refl _ _))
    clear hK K' hSw
    have hSw := HS4.out _ (HK2.out _ (Below.refl _ _))
    (try simp only [Act.put, List.setIfInBounds_toArray, List.set_cons_zero, List.set_cons_succ])
    refine wpPlan_take (v := ?vg44) rfl hSw (by rfl) ?yg44 ?_
    case yg44 => (intro w hSx; (try dsimp only at hSx); go_simp; first | done | with_reducible rfl | rfl)
    (try simp only [Act.put, List.setIfInBounds_toArray, List.set_cons_zero, List.set_cons_succ])
    refine wpPlan_take (v := ?vg45) rfl hSw (by rfl) ?yg45 ?_
    case yg45 => (intro w hSx; (try dsimp only at hSx); go_simp; first | done | with_reducible rfl | rfl)
    (try simp only [Act.put, List.setIfInBounds_toArray, List.set_cons_zero, List.set_cons_succ])
    refine wpPlan_take (v := ?vg46) rfl hSw (by rfl) ?yg46 ?_
    case yg46 => (intro w hSx; (try dsimp only at hSx); go_simp; first | done | with_reducible rfl | rfl)
    (try simp only [Act.put, List.setIfInBounds_toArray, List.set_cons_zero, List.set_cons_succ])
    refine wpPlan_take (v := ?vg47) rfl hSw (by rfl) ?yg47 ?_
    case yg47 => (intro w hSx; (try dsimp only at hSx); go_simp; first | done | with_reducible rfl | rfl)
    (try simp only [Act.put, List.setIfInBounds_toArray, List.set_cons_zero, List.set_cons_succ])
    refine wpPlan_run rfl (by rfl) (fun K' hK => ?_)
    (go_simp; go_at_call 10; refine (HT1.out _ (HK2.out _ (Below.refl _ _))).mono ?_; rintro e v3 ⟨rfl, hb3⟩; have HK3 := Lib.hid (fun w' (h : Below v3.heap.size v3 w') => HK2.out w' (hb3.trans (h.mono hb3.size))); clear hb3)
    refine hK _ _ (.inr ?_) ?_
    · exact HS4.out _ (HK3.out _ (Below.refl _ _))
    clear hK K' hSw
    have hSw := HS4.out _ (HK3.out _ (Below.refl _ _))
    (try simp only [Act.put, List.setIfInBounds_toArray, List.set_cons_zero, List.set_cons_succ])
    refine wpPlan_run rfl (by rfl) (fun K' hK => ?_)
    (go_simp; go_at_call 11; refine (HT2.out _ (HK3.out _ (Below.refl _ _))).mono ?_; rintro e v4 ⟨rfl, hb4⟩; have HK4 := Lib.hid (fun w' (h : Below v4.heap.size v4 w') => HK3.out w' (hb4.trans (h.mono hb4.size))); clear hb4)
    refine hK _ _ (.inr ?_) ?_
    · exact HS4.out _ (HK4.out _ (Below.refl _ _))
    clear hK K' hSw
    have hSw := HS4.out _ (HK4.out _ (Below.refl _ _))
    (try simp only [Act.put, List.setIfInBounds_toArray, List.set_cons_zero, List.set_cons_succ])
    refine wpPlan_take (v := ?vg48) rfl hSw (by rfl) ?yg48 ?_
    case yg48 => (intro w hSx; (try dsimp only at hSx); go_simp; first | done | with_reducible rfl | rfl)
    (try simp only [Act.put, List.setIfInBounds_toArray, List.set_cons_zero, List.set_cons_succ])
    refine wpPlan_take (v := ?vg49) rfl hSw (by rfl) ?yg49 ?_
    case yg49 => (intro w hSx; (try dsimp only at hSx); go_simp; first | done | with_reducible rfl | rfl)
    (try simp only [Act.put, List.setIfInBounds_toArray, List.set_cons_zero, List.set_cons_succ])
    refine wpPlan_take (v := ?vg410) rfl hSw (by rfl) ?yg410 ?_
    case yg410 => (intro w hSx; (try dsimp only at hSx); go_simp; first | done | with_reducible rfl | rfl)
    (try simp only [Act.put, List.setIfInBounds_toArray, List.set_cons_zero, List.set_cons_succ])
    refine wpPlan_take (v := ?vg411) rfl hSw (by rfl) ?yg411 ?_
    case yg411 => (intro w hSx; (try dsimp only at hSx); go_simp; first | done | with_reducible rfl | rfl)
    (try simp only [Act.put, List.setIfInBounds_toArray, List.set_cons_zero, List.set_cons_succ])
    refine wpPlan_take (v := ?vg412) rfl hSw (by rfl) ?yg412 ?_
    case yg412 => (intro w hSx; (try dsimp only at hSx); go_simp; first | done | with_reducible rfl | rfl)
    (try simp only [Act.put, List.setIfInBounds_toArray, List.set_cons_zero, List.set_cons_succ])
    refine wpPlan_take (v := ?vg413) rfl hSw (by rfl) ?yg413 ?_
    case yg413 => (intro w hSx; (try dsimp only at hSx); go_simp; first | done | with_reducible rfl | rfl)
    (try simp only [Act.put, List.setIfInBounds_toArray, List.set_cons_zero, List.set_cons_succ])
    refine wpPlan_take (v := ?vg414) rfl hSw (by rfl) ?yg414 ?_
    case yg414 => (intro w hSx; (try dsimp only at hSx); go_simp; first | done | with_reducible rfl | rfl)
    (try simp only [Act.put, List.setIfInBounds_toArray, List.set_cons_zero, List.set_cons_succ])
    refine wpPlan_run rfl (by rfl) (fun K' hK => ?_)
    (go_simp; go_at_call 12; refine (HE1.out _ (HK4.out _ (Below.refl _ _))).mono ?_; rintro e v5 ⟨rfl, hb5⟩; have HK5 := Lib.hid (fun w' (h : Below v5.heap.size v5 w') => HK4.out w' (hb5.trans (h.mono hb5.size))); clear hb5)
    refine hK _ _ (.inr ?_) ?_
    · exact HS4.out _ (HK5.out _ (Below.refl _ _))
    clear hK K' hSw
    have hSw := HS4.out _ (HK5.out _ (Below.refl _ _))
    (try simp only [Act.put, List.setIfInBounds_toArray, List.set_cons_zero, List.set_cons_succ])
    refine wpPlan_run rfl (by rfl) (fun K' hK => ?_)
    (go_simp; go_at_call 13; refine (HE2.out _ (HK5.out _ (Below.refl _ _))).mono ?_; rintro e v6 ⟨rfl, hb6⟩; have HK6 := Lib.hid (fun w' (h : Below v6.heap.size v6 w') => HK5.out w' (hb6.trans (h.mono hb6.size))); clear hb6)
    refine hK _ _ (.inr ?_) ?_
    · exact HS4.out _ (HK6.out _ (Below.refl _ _))
    clear hK K' hSw
    have hSw := HS4.out _ (HK6.out _ (Below.refl _ _))
    (try simp only [Act.put, List.setIfInBounds_toArray, List.set_cons_zero, List.set_cons_succ])
    refine wpPlan_take (v := ?vg415) rfl hSw (by rfl) ?yg415 ?_
    case yg415 => (intro w hSx; (try dsimp only at hSx); go_simp; first | done | with_reducible rfl | rfl)
    (try simp only [Act.put, List.setIfInBounds_toArray, List.set_cons_zero, List.set_cons_succ])
    refine wpPlan_take (v := ?vg416) rfl hSw (by rfl) ?yg416 ?_
    case yg416 => (intro w hSx; (try dsimp only at hSx); go_simp; first | done | with_reducible rfl | rfl)
    (try simp only [Act.put, List.setIfInBounds_toArray, List.set_cons_zero, List.set_cons_succ])
    refine wpPlan_take (v := ?vg417) rfl hSw (by rfl) ?yg417 ?_
    case yg417 => (intro w hSx; (try dsimp only at hSx); go_simp; first | done | with_reducible rfl | rfl)
    (try simp only [Act.put, List.setIfInBounds_toArray, List.set_cons_zero, List.set_cons_succ])
    refine wpPlan_take (v := ?vg418) rfl hSw (by rfl) ?yg418 ?_
    case yg418 => (intro w hSx; (try dsimp only at hSx); go_simp; first | done | with_reducible rfl | rfl)
    (try simp only [Act.put, List.setIfInBounds_toArray, List.set_cons_zero, List.set_cons_succ])
    refine wpPlan_take (v := ?vg419) rfl hSw (by rfl) ?yg419 ?_
    case yg419 => (intro w hSx; (try dsimp only at hSx); go_simp; first | done | with_reducible rfl | rfl)
    (try simp only [Act.put, List.setIfInBounds_toArray, List.set_cons_zero, List.set_cons_succ])
    refine wpPlan_run rfl (by rfl) (fun K' hK => ?_)
    (go_simp; go_at_call 12; refine (HE3.out _ (HK6.out _ (Below.refl _ _))).mono ?_; rintro e v7 ⟨rfl, hb7⟩; have HK7 := Lib.hid (fun w' (h : Below v7.heap.size v7 w') => HK6.out w' (hb7.trans (h.mono hb7.size))); clear hb7)
    refine hK _ _ (.inr ?_) ?_
    · exact HS4.out _ (HK7.out _ (Below.refl _ _))
    clear hK K' hSw
    have hSw := HS4.out _ (HK7.out _ (Below.refl _ _))
    (try simp only [Act.put, List.setIfInBounds_toArray, List.set_cons_zero, List.set_cons_succ])
    refine wpPlan_take (v := ?vg420) rfl hSw (by rfl) ?yg420 ?_
    case yg420 => (intro w hSx; (try dsimp only at hSx); go_simp; first | done | with_reducible rfl | rfl)
    (try simp only [Act.put, List.setIfInBounds_toArray, List.set_cons_zero, List.set_cons_succ])
    refine wpPlan_run rfl (by rfl) (fun K' hK => ?_)
    go_simp
    refine hK _ _ (.inr ?_) ?_
    · exact HS4.out _ (HK7.out _ (Below.refl _ _))
    clear hK K' hSw
    (try simp only [Act.put, List.setIfInBounds_toArray, List.set_cons_zero, List.set_cons_succ])
    refine wpPlan_done ?_
    go_wp2_with fail
    go_ret
    exact ⟨rfl, HBW.out.trans ((HK7.out _ (Below.refl _ _)).mono HBW.out.size)⟩
end Go.Proofs.YthmimcegiihcnaaGreatDoor
