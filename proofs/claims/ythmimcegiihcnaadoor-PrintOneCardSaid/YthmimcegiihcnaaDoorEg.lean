/- PrintTells: the law walked. -/
import Derived.Test.YthmimcegiihcnaaDoorEd
import Derived.Test.YthmimcegiihcnaaDoorEv
import Derived.Test.YthmimcegiihcnaaDoorEt
import Derived.Test.YthmimcegiihcnaaDoorDl
namespace Go.Proofs.YthmimcegiihcnaaDoor
namespace Sp
theorem all2_refl {α : Type} {f : α → α → Bool} (hf : ∀ a, f a a = true) : ∀ l : List α, all2 f l l = true
  | [] => rfl
  | a :: l => by simp [all2, hf a, all2_refl hf l]
theorem sameSym_refl (a : Sym) : sameSym a a = true := by simp [sameSym]
theorem samePart_refl (a : Part) : samePart a a = true := by simp [samePart, sameSym_refl]
theorem sameAlt_refl (a : Alt) : sameAlt a a = true := by simp [sameAlt, sameSym_refl, all2_refl samePart_refl]
theorem sameDecl_refl (a : Decl) : sameDecl a a = true := by simp [sameDecl, all2_refl sameSym_refl]
theorem sameRule_refl (a : Rule) : sameRule a a = true := by simp [sameRule, all2_refl sameAlt_refl]
theorem same_refl (a : Source) : same a a = true := by simp [same, all2_refl sameDecl_refl, all2_refl sameRule_refl]
theorem quotable_ne {s : Sym} (h : isSym s = true) : s.lit = true → s.name ≠ [] := by
  intro hl
  unfold isSym at h
  rw [if_pos hl] at h
  intro e
  rw [e] at h
  simp [quotable] at h
end Sp
open Go.RowKit

theorem txt_decl {d : Sp.Decl} (hm : Sp.mayDecl d = true) (hl : d.syms.length ≤ 4000) : txtDecl d := by
  unfold Sp.mayDecl at hm
  split at hm
  · simp at hm
  · rename_i h1
    split at hm
    · simp at hm
    · split at hm
      · simp at hm
      · refine ⟨by omega, by omega, hl, fun s hs => ?_⟩
        have h := List.all_eq_true.1 hm s hs
        unfold Sp.maySym at h
        split at h
        · simp at h
        · rename_i h3
          split at h
          · simp at h
          · rename_i h4
            have hi : Sp.isSym s = true := by
              by_cases k : Sp.isSym s = true
              · exact k
              · exact absurd (.inl (by simpa using k)) h3
            refine ⟨Sp.quotable_ne hi, ?_, ?_⟩
            · by_cases k : s.num = 0
              · omega
              · by_cases k2 : s.num < 1
                · exact absurd ⟨k, .inr (.inr (.inl k2))⟩ h4
                · omega
            · by_cases k : s.num = 0
              · omega
              · by_cases k2 : 50000 < s.num
                · exact absurd ⟨k, .inr (.inr (.inr k2))⟩ h4
                · omega
theorem txt_alt {a : Sp.Alt} (hm : Sp.mayAlt a = true) : txtAlt a := by
  unfold Sp.mayAlt at hm
  simp only [Bool.and_eq_true, Bool.or_eq_true] at hm
  refine ⟨fun p hp hc => ?_, fun hn => ?_⟩
  · have h := List.all_eq_true.1 hm.2 p hp
    unfold Sp.mayPart at h
    rw [if_pos hc] at h
    unfold Sp.isBare at h
    simp only [Bool.and_eq_true] at h
    exact Sp.quotable_ne h.1
  · rcases hm.1 with h | h
    · rw [h] at hn; simp at hn
    · unfold Sp.isBare at h
      simp only [Bool.and_eq_true] at h
      exact Sp.quotable_ne h.1
theorem txt_src {x : Sp.Source} (ht : tinySrc x) (hm : Sp.may x = true) : (∀ d ∈ x.decls, txtDecl d) ∧ ∀ r ∈ x.rules, txtRule r := by
  obtain ⟨_, _, _, _, h5, h6⟩ := ht
  unfold Sp.may at hm
  simp only [Bool.and_eq_true, List.all_eq_true] at hm
  refine ⟨fun d hd => txt_decl (hm.1.2 d hd) (by have := (h5 d hd).2.1; omega), fun r hr => ⟨by have := (h6 r hr).2.1; omega, fun a ha => ⟨?_, by have := ((h6 r hr).2.2 a ha).1; omega⟩⟩⟩
  have h := hm.2 r hr
  unfold Sp.mayRule at h
  simp only [Bool.and_eq_true, List.all_eq_true] at h
  exact txt_alt (h.2 a ha)

theorem same_calls {x y : Sp.Source} {d1 r1 d2 r2 : Value} {W : World} (hd1 : DeclsAt W d1 x.decls) (hr1 : RulesAt W r1 x.rules) (hd2 : DeclsAt W d2 y.decls) (hr2 : RulesAt W r2 y.rules) (hx : tinySrc x) (hy : tinySrc y) :
    (Calls Tryd.prog 34 #[.agg (srcC d1 r1 x).toArray, .agg (srcC d2 r2 y).toArray] W fun e w' => e = .returned (.bool (Sp.same x y)) ∧ Below W.heap.size W w') ∧
    Calls Tryd.prog 17 #[.agg (srcC d1 r1 x).toArray, .agg (srcC d2 r2 y).toArray] W fun e w' => e = .returned (.bool (Sp.same x y)) ∧ Below W.heap.size W w' := by
  refine ⟨print_Same x y d1 r1 d2 r2 W hd1 hr1 hd2 hr2 (tiny_small hx).2 (tiny_small hy).2, ref7_Same x y d1 r1 d2 r2 W hd1 hr1 hd2 hr2 ?_ ?_⟩
  · obtain ⟨_, _, h3, h4, h5, h6⟩ := hx
    exact ⟨by omega, by omega, fun d hd => by have := (h5 d hd).2.1; omega, fun r hr => ⟨by have := (h6 r hr).2.1; omega, fun a ha => by have := ((h6 r hr).2.2 a ha).1; omega⟩⟩
  · obtain ⟨_, _, h3, h4, h5, h6⟩ := hy
    exact ⟨by omega, by omega, fun d hd => by have := (h5 d hd).2.1; omega, fun r hr => ⟨by have := (h6 r hr).2.1; omega, fun a ha => by have := ((h6 r hr).2.2 a ha).1; omega⟩⟩
/-- What a cut hands back. -/
def CutPost2 (X : Sp.Source) (W : World) (e : Ending) (w' : World) : Prop :=
  ∃ pv qv B, e = .returned (.agg #[.string ⟨X.pro.toArray⟩, pv, qv, .string ⟨X.tail.toArray⟩]) ∧ Below W.heap.size W w' ∧ DeclsOwn B w' pv X.decls ∧ RulesOwn B w' qv X.rules
theorem decls_slice {B : Nat} {w : World} {v : Value} {l : List Sp.Decl} (h : DeclsOwn B w v l) : ∃ a cap, v = .slice a l.length cap := by
  obtain ⟨f, hf, _⟩ := h
  exact ownsRowS_some hf
theorem rules_slice {B : Nat} {w : World} {v : Value} {l : List Sp.Rule} (h : RulesOwn B w v l) : ∃ a cap, v = .slice a l.length cap := by
  obtain ⟨f, hf, _⟩ := h
  exact ownsRowS_some hf
/-- What is asked of the library's variables in a world that holds little else. -/
def Gl0 (w : World) : Prop := (∃ m : Int, w.cell? ⟨0, 0, none⟩ = some (.int .i64 m)) ∧ 4 ≤ w.heap.size ∧ Lib.TabIs Tryd.prog w "internal/strconv.uint64pow10" .u64 Lib.pow10Tab
theorem Gl0.up {w w' : World} (h : Gl0 w) (hb : Below w.heap.size w w') (h6 : 6 ≤ w'.heap.size) : Gl w' := by
  obtain ⟨⟨m, hm⟩, hz, ht⟩ := h
  exact ⟨⟨m, (hb.cell (p := ⟨0, 0, none⟩) (by show 0 < _; omega)).trans hm⟩, h6, var?_below hb (by kernel_rfl : Tryd.prog.globalNamed "internal/strconv.uint64pow10" = some 1) (by omega) ht⟩
/-- Behind both stores: two blocks of sources, and all else as it was. -/
theorem eight_post {W W2 w2 w3 wx : World} {B1 B3 : Nat} {pv qv uv vv : Value} {d1 d2 : List Sp.Decl} {r1 r2 : List Sp.Rule} {e0 e1 e2 e3 f0 f1 f2 f3 : Value} {cs1 cs2 : List Value} (hl1 : cs1.length = 4) (hl2 : cs2.length = 4)
    (hF : ∀ w', Below W2.heap.size W2 w' → w'.heap[W.heap.size]? = some (.cells cs1.toArray 29 (0, 0)) ∧ w'.heap[W.heap.size + 1]? = some (.cells cs2.toArray 29 (0, 0)))
    (ho1 : DeclsOwn B1 w2 pv d1) (ho2 : RulesOwn B1 w2 qv r1) (ho3 : DeclsOwn B3 w3 uv d2) (ho4 : RulesOwn B3 w3 vv r2) (hb2 : Below W.heap.size W W2) (hb3 : Below w2.heap.size w2 w3) (hL : Below W2.heap.size W2 w3)
    (hwx : wx = (((((((w3.setCell ⟨W.heap.size, 0, none⟩ e0).setCell ⟨W.heap.size, 1, none⟩ e1).setCell ⟨W.heap.size, 2, none⟩ e2).setCell ⟨W.heap.size, 3, none⟩ e3).setCell ⟨W.heap.size + 1, 0, none⟩ f0).setCell ⟨W.heap.size + 1, 1, none⟩ f1).setCell ⟨W.heap.size + 1, 2, none⟩ f2).setCell ⟨W.heap.size + 1, 3, none⟩ f3) :
    wx.heap[W.heap.size]? = some (.cells #[e0, e1, e2, e3] 29 (0, 0)) ∧ wx.heap[W.heap.size + 1]? = some (.cells #[f0, f1, f2, f3] 29 (0, 0)) ∧ DeclsAt wx pv d1 ∧ RulesAt wx qv r1 ∧ DeclsAt wx uv d2 ∧ RulesAt wx vv r2 ∧ Below W.heap.size W wx := by
  obtain ⟨h1, h2⟩ := hF w3 hL
  obtain ⟨b0, b1, b2, b3, rfl⟩ := four cs1 hl1
  obtain ⟨c0, c1, c2, c3, rfl⟩ := four cs2 hl2
  have g2 : ∀ i u (w : World) (c : Array Value), w.heap[W.heap.size + 1]? = some (.cells c 29 (0, 0)) → (w.setCell ⟨W.heap.size, i, none⟩ u).heap[W.heap.size + 1]? = some (.cells c 29 (0, 0)) := fun i u w c h => by rw [Below.heap_setCell _ _ _ _ (by simp)]; exact h
  have g1 : ∀ i u (w : World) (c : Array Value), w.heap[W.heap.size]? = some (.cells c 29 (0, 0)) → (w.setCell ⟨W.heap.size + 1, i, none⟩ u).heap[W.heap.size]? = some (.cells c 29 (0, 0)) := fun i u w c h => by rw [Below.heap_setCell _ _ _ _ (by simp)]; exact h
  have k1 := heap_setCell_at (i := 0) (v := e0) h1
  have k2 := heap_setCell_at (i := 1) (v := e1) k1
  have k3 := heap_setCell_at (i := 2) (v := e2) k2
  have k4 := heap_setCell_at (i := 3) (v := e3) k3
  have m1 := g2 0 e0 _ _ h2
  have m2 := g2 1 e1 _ _ m1
  have m3 := g2 2 e2 _ _ m2
  have m4 := g2 3 e3 _ _ m3
  have m5 := heap_setCell_at (i := 0) (v := f0) m4
  have m6 := heap_setCell_at (i := 1) (v := f1) m5
  have m7 := heap_setCell_at (i := 2) (v := f2) m6
  have m8 := heap_setCell_at (i := 3) (v := f3) m7
  have k8 := g1 3 f3 _ _ (g1 2 f2 _ _ (g1 1 f1 _ _ (g1 0 f0 _ _ k4)))
  have hK : KpT (· ≠ 29) w3 wx := by
    rw [hwx]
    exact ((((((((KpT.below (Below.refl _ w3)).setCell h1 (by simp) _).setCell k1 (by simp) _).setCell k2 (by simp) _).setCell k3 (by simp) _).setCell m4 (by simp) _).setCell m5 (by simp) _).setCell m6 (by simp) _).setCell m7 (by simp) _
  have hK2 : KpT (· ≠ 29) w2 wx := (KpT.below hb3).trans hK
  have hBW : Below W.heap.size W w3 := hb2.trans (hL.mono hb2.size)
  refine ⟨?_, ?_, decls_at (decls_kp ho1 hK2 (by decide) (by decide)), rules_at (rules_kp ho2 hK2 (by decide) (by decide) (by decide)), decls_at (decls_kp ho3 hK (by decide) (by decide)), rules_at (rules_kp ho4 hK (by decide) (by decide) (by decide)), ?_⟩
  · rw [hwx, k8]; rfl
  · rw [hwx, m8]; rfl
  · rw [hwx]
    exact (((((((hBW.setCell (p := ⟨W.heap.size, 0, none⟩) (Nat.le_refl _) _).setCell (p := ⟨W.heap.size, 1, none⟩) (Nat.le_refl _) _).setCell (p := ⟨W.heap.size, 2, none⟩) (Nat.le_refl _) _).setCell (p := ⟨W.heap.size, 3, none⟩) (Nat.le_refl _) _).setCell (p := ⟨W.heap.size + 1, 0, none⟩) (Nat.le_succ _) _).setCell (p := ⟨W.heap.size + 1, 1, none⟩) (Nat.le_succ _) _).setCell (p := ⟨W.heap.size + 1, 2, none⟩) (Nat.le_succ _) _).setCell (p := ⟨W.heap.size + 1, 3, none⟩) (Nat.le_succ _) _

end Go.Proofs.YthmimcegiihcnaaDoor
