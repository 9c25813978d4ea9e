/- Layer 27: the source of the law's own; its wakes. Layer 27: the wakes. Plain law of SubstRange: 72 grammars, looked at one by one. No program in sight. -/
import Derived.Test.YtphdfbmmjkccgaaDoorZ22
import Derived.Test.YtphdfbmmjkccgaaDoorZ11
import Derived.Test.YtphdfbmmjkccgaaDoorZ06
import Derived.KernelRfl
namespace Go.Proofs.YtphdfbmmjkccgaaDoor
open Go.RowKit Go.Maps

theorem below_allocs : ∀ (l : List Obj) (v : World), Below v.heap.size v (l.foldl World.alloc v)
  | [], v => Below.refl _ v
  | a :: l, v => ((Below.refl _ v).alloc (Nat.le_refl _) a).trans ((below_allocs l (v.alloc a)).mono (by simp))
theorem heap_allocs : ∀ (l : List Obj) (w : World) (k : Nat), k < l.length → (l.foldl World.alloc w).heap[w.heap.size + k]? = l[k]?
  | [], w, k, h => by simp at h
  | o :: l, w, 0, _ => by
    have h := (below_allocs l (w.alloc o)).block w.heap.size (by simp)
    show (l.foldl World.alloc (w.alloc o)).heap[w.heap.size]? = some o
    exact h.trans (heap_last w o)
  | o :: l, w, k + 1, h => by
    have := heap_allocs l (w.alloc o) k (by simpa using h)
    rw [World.size_alloc] at this
    rw [show w.heap.size + (k + 1) = w.heap.size + 1 + k by omega]
    exact this
theorem one_small {c : List UInt8} (hl : c.length ≤ 4000) (tags : Bool) : smallSrc (Sp.oneSrc c tags) := by
  refine ⟨by simp [Sp.oneSrc], by simp [Sp.oneSrc], by cases tags <;> simp [Sp.oneSrc], by simp [Sp.oneSrc], ?_, ?_⟩
  · cases tags
    · intro d hd; simp [Sp.oneSrc] at hd
    · intro d hd
      simp only [Sp.oneSrc, if_true, List.mem_cons, List.not_mem_nil, or_false] at hd
      rcases hd with rfl | rfl | rfl <;> exact ⟨by simp, by simp, fun s hs => by simp only [List.mem_cons, List.not_mem_nil, or_false] at hs; subst hs; simp [smallSym, Sp.symX]⟩
  · intro r hr
    simp only [Sp.oneSrc, List.mem_cons, List.not_mem_nil, or_false] at hr
    rcases hr with rfl | rfl
    · refine ⟨by simp, by simp, fun a ha => ?_⟩
      simp only [List.mem_cons, List.not_mem_nil, or_false] at ha
      subst ha
      refine ⟨by simp, fun p hp => ?_, by simp [smallSym, Sp.noSymO]⟩
      simp only [List.mem_cons, List.not_mem_nil, or_false] at hp
      rcases hp with rfl | rfl | rfl | rfl <;> simp [smallPart, smallSym, Sp.symPart, Sp.codePart, Sp.symX, Sp.noSymO] <;> first | omega | done
    · refine ⟨by simp, by simp, fun a ha => ?_⟩
      simp only [List.mem_cons, List.not_mem_nil, or_false] at ha
      subst ha
      exact ⟨by simp, fun p hp => by simp at hp, by simp [smallSym, Sp.noSymO]⟩
set_option maxRecDepth 100000 in
set_option maxHeartbeats 6400000 in
theorem law27_one (l : List UInt8) (tags : Bool) (W : World) (hend : Sp.endAt (123 :: l) 0 = ((123 :: l).length : Int)) (hl : (123 :: l).length ≤ 4000) :
    Calls Tryd.prog 23 #[.string ⟨(123 :: l).toArray⟩, .bool tags] W fun e w' => Below W.heap.size W w' ∧ W.heap.size + 2 ≤ w'.heap.size ∧ ∃ gv, e = .returned (.tuple #[gv, .bool true]) ∧ GramOwn w' gv (Sp.oneGram (123 :: l) tags) := by
  have HE := Lib.hid hend
  obtain ⟨C, hC⟩ : ∃ C : ByteArray, C = ⟨(123 :: l).toArray⟩ := ⟨_, rfl⟩
  rw [← hC]
  have HC := Lib.hid hC
  clear hC hend
  cases tags with
  | false =>
    obtain ⟨w5, hw5⟩ : ∃ w5 : World, w5 = (((((((W.alloc (.cells #[.slice none 0 0, .slice none 0 0, .slice none 0 0, .string ⟨#[]⟩, .string ⟨#[]⟩] 58)).alloc (.cells #[.string ⟨#[120]⟩, .bool true, .int .i64 0, .int .i64 0, .string ⟨#[]⟩, .int .i64 0] 44)).alloc (.cells #[.string ⟨#[120]⟩, .bool true, .int .i64 0, .int .i64 0, .string ⟨#[]⟩, .int .i64 0, .string ⟨#[98]⟩, .bool false, .int .i64 0, .int .i64 0, .string ⟨#[]⟩, .int .i64 0, .string ⟨#[120]⟩, .bool true, .int .i64 0, .int .i64 0, .string ⟨#[]⟩, .int .i64 0, .string ⟨#[]⟩, .bool false, .int .i64 0, .int .i64 0, .string C, .int .i64 70] 44)).alloc (.cells #[.slice (some ⟨W.heap.size + 1 + 1, 0, none⟩) 4 4, .string ⟨#[]⟩, .bool false, .int .i64 0, .int .i64 0, .int .i64 0] 42)).alloc (.cells #[.slice none 0 0, .string ⟨#[]⟩, .bool false, .int .i64 0, .int .i64 0, .int .i64 0] 42)).alloc (.cells #[.string ⟨#[97]⟩, .slice (some ⟨W.heap.size + 1 + 1 + 1, 0, none⟩) 1 1, .int .i64 0, .string ⟨#[98]⟩, .slice (some ⟨W.heap.size + 1 + 1 + 1 + 1, 0, none⟩) 1 1, .int .i64 0] 37)).alloc (.cells #[.string ⟨#[]⟩, .slice none 0 0, .slice (some ⟨W.heap.size + 1 + 1 + 1 + 1 + 1, 0, none⟩) 2 2, .string ⟨#[]⟩] 29)) := ⟨_, rfl⟩
    have hH : ∀ k o, ([.cells #[.slice none 0 0, .slice none 0 0, .slice none 0 0, .string ⟨#[]⟩, .string ⟨#[]⟩] 58, .cells #[.string ⟨#[120]⟩, .bool true, .int .i64 0, .int .i64 0, .string ⟨#[]⟩, .int .i64 0] 44, .cells #[.string ⟨#[120]⟩, .bool true, .int .i64 0, .int .i64 0, .string ⟨#[]⟩, .int .i64 0, .string ⟨#[98]⟩, .bool false, .int .i64 0, .int .i64 0, .string ⟨#[]⟩, .int .i64 0, .string ⟨#[120]⟩, .bool true, .int .i64 0, .int .i64 0, .string ⟨#[]⟩, .int .i64 0, .string ⟨#[]⟩, .bool false, .int .i64 0, .int .i64 0, .string C, .int .i64 70] 44, .cells #[.slice (some ⟨W.heap.size + 1 + 1, 0, none⟩) 4 4, .string ⟨#[]⟩, .bool false, .int .i64 0, .int .i64 0, .int .i64 0] 42, .cells #[.slice none 0 0, .string ⟨#[]⟩, .bool false, .int .i64 0, .int .i64 0, .int .i64 0] 42, .cells #[.string ⟨#[97]⟩, .slice (some ⟨W.heap.size + 1 + 1 + 1, 0, none⟩) 1 1, .int .i64 0, .string ⟨#[98]⟩, .slice (some ⟨W.heap.size + 1 + 1 + 1 + 1, 0, none⟩) 1 1, .int .i64 0] 37, .cells #[.string ⟨#[]⟩, .slice none 0 0, .slice (some ⟨W.heap.size + 1 + 1 + 1 + 1 + 1, 0, none⟩) 2 2, .string ⟨#[]⟩] 29] : List Obj)[k]? = some o → w5.heap[W.heap.size + k]? = some o := fun k o h => by
      rw [hw5]
      exact (heap_allocs [.cells #[.slice none 0 0, .slice none 0 0, .slice none 0 0, .string ⟨#[]⟩, .string ⟨#[]⟩] 58, .cells #[.string ⟨#[120]⟩, .bool true, .int .i64 0, .int .i64 0, .string ⟨#[]⟩, .int .i64 0] 44, .cells #[.string ⟨#[120]⟩, .bool true, .int .i64 0, .int .i64 0, .string ⟨#[]⟩, .int .i64 0, .string ⟨#[98]⟩, .bool false, .int .i64 0, .int .i64 0, .string ⟨#[]⟩, .int .i64 0, .string ⟨#[120]⟩, .bool true, .int .i64 0, .int .i64 0, .string ⟨#[]⟩, .int .i64 0, .string ⟨#[]⟩, .bool false, .int .i64 0, .int .i64 0, .string C, .int .i64 70] 44, .cells #[.slice (some ⟨W.heap.size + 1 + 1, 0, none⟩) 4 4, .string ⟨#[]⟩, .bool false, .int .i64 0, .int .i64 0, .int .i64 0] 42, .cells #[.slice none 0 0, .string ⟨#[]⟩, .bool false, .int .i64 0, .int .i64 0, .int .i64 0] 42, .cells #[.string ⟨#[97]⟩, .slice (some ⟨W.heap.size + 1 + 1 + 1, 0, none⟩) 1 1, .int .i64 0, .string ⟨#[98]⟩, .slice (some ⟨W.heap.size + 1 + 1 + 1 + 1, 0, none⟩) 1 1, .int .i64 0] 37, .cells #[.string ⟨#[]⟩, .slice none 0 0, .slice (some ⟨W.heap.size + 1 + 1 + 1 + 1 + 1, 0, none⟩) 2 2, .string ⟨#[]⟩] 29] W k (List.getElem?_eq_some_iff.1 h).1).trans h
    have hb5 : Below W.heap.size W w5 := by rw [hw5]; exact below_allocs [.cells #[.slice none 0 0, .slice none 0 0, .slice none 0 0, .string ⟨#[]⟩, .string ⟨#[]⟩] 58, .cells #[.string ⟨#[120]⟩, .bool true, .int .i64 0, .int .i64 0, .string ⟨#[]⟩, .int .i64 0] 44, .cells #[.string ⟨#[120]⟩, .bool true, .int .i64 0, .int .i64 0, .string ⟨#[]⟩, .int .i64 0, .string ⟨#[98]⟩, .bool false, .int .i64 0, .int .i64 0, .string ⟨#[]⟩, .int .i64 0, .string ⟨#[120]⟩, .bool true, .int .i64 0, .int .i64 0, .string ⟨#[]⟩, .int .i64 0, .string ⟨#[]⟩, .bool false, .int .i64 0, .int .i64 0, .string C, .int .i64 70] 44, .cells #[.slice (some ⟨W.heap.size + 1 + 1, 0, none⟩) 4 4, .string ⟨#[]⟩, .bool false, .int .i64 0, .int .i64 0, .int .i64 0] 42, .cells #[.slice none 0 0, .string ⟨#[]⟩, .bool false, .int .i64 0, .int .i64 0, .int .i64 0] 42, .cells #[.string ⟨#[97]⟩, .slice (some ⟨W.heap.size + 1 + 1 + 1, 0, none⟩) 1 1, .int .i64 0, .string ⟨#[98]⟩, .slice (some ⟨W.heap.size + 1 + 1 + 1 + 1, 0, none⟩) 1 1, .int .i64 0] 37, .cells #[.string ⟨#[]⟩, .slice none 0 0, .slice (some ⟨W.heap.size + 1 + 1 + 1 + 1 + 1, 0, none⟩) 2 2, .string ⟨#[]⟩] 29] W
    have hCe : C = ⟨(123 :: l).toArray⟩ := HC.out
    have hrul : RulesAt w5 (.slice (some ⟨W.heap.size + 1 + 1 + 1 + 1 + 1, 0, none⟩) 2 2) (Sp.oneSrc (123 :: l) false).rules := by
      refine ⟨fun i => if i = 0 then .slice (some ⟨W.heap.size + 1 + 1 + 1, 0, none⟩) 1 1 else .slice (some ⟨W.heap.size + 1 + 1 + 1 + 1, 0, none⟩) 1 1, slAt_block _ 3 (fun r hr => by simp [Sp.oneSrc, ruleC] at hr; rcases hr with rfl | rfl <;> rfl) (hH 5 _ rfl) (by simp [Sp.oneSrc, maxLen]), fun i r hr => ?_⟩
      rcases i with _ | _ | i
      · simp [Sp.oneSrc] at hr; subst hr
        refine ⟨fun _ => .slice (some ⟨W.heap.size + 1 + 1, 0, none⟩) 4 4, slAt_block _ 6 (fun r hr => by simp [altC] at hr; subst hr; rfl) (hH 3 _ rfl) (by simp [maxLen]), fun j a ha => ?_⟩
        rcases j with _ | j
        · simp at ha; subst ha
          refine slAt_block (e := 44) ([Sp.symPart Sp.symX, Sp.symPart ⟨[98], false, 0, 0⟩, Sp.symPart Sp.symX, Sp.codePart (123 :: l) 70].map partC) 6 (fun r hr => by obtain ⟨q, _, rfl⟩ := List.mem_map.1 hr; rfl) ?_ (by simp [maxLen])
          have h2 := hH 2 _ rfl
          rw [hCe] at h2
          exact h2
        · simp at ha
      · simp [Sp.oneSrc] at hr; subst hr
        refine ⟨fun _ => .slice none 0 0, slAt_block _ 6 (fun r hr => by simp [altC] at hr; subst hr; rfl) (hH 4 _ rfl) (by simp [maxLen]), fun j a ha => ?_⟩
        rcases j with _ | j
        · simp at ha; subst ha
          exact .inl ⟨rfl, none, 0, rfl⟩
        · simp at ha
      · simp [Sp.oneSrc] at hr
    have hdec : DeclsAt w5 (.slice none 0 0) (Sp.oneSrc (123 :: l) false).decls := decls_none w5
    have hG := hH 0 _ rfl
    have hS : w5.heap[W.heap.size + 1 + 1 + 1 + 1 + 1 + 1]? = _ := hH 6 _ rfl
    have HGR := Lib.hid (show Calls Tryd.prog 13 #[.agg #[.string ⟨#[]⟩, .slice none 0 0, .slice (some ⟨W.heap.size + 1 + 1 + 1 + 1 + 1, 0, none⟩) 2 2, .string ⟨#[]⟩]] w5 (fun e w' => Below w5.heap.size w5 w' ∧ ∃ gv, e = .returned (.tuple #[gv, .bool true]) ∧ GramOwn w' gv (Sp.oneGram (123 :: l) false)) from by
      have h := ref16_Grammar (Sp.oneSrc (123 :: l) false) _ _ w5 hdec hrul (one_small hl false) (Sp.one_inner l false)
      rw [Sp.one_gram l false HE.out] at h
      exact h)
    have HG5 := Lib.hid hG; have HB5 := Lib.hid hb5
    have s0 := cell_at (i := 0) hS; have s1 := cell_at (i := 1) hS; have s2 := cell_at (i := 2) hS; have s3 := cell_at (i := 3) hS
    have ls := lt_at hS
    clear hH hb5 hrul hdec hG hS hCe
    go_enter Tryd.func23, Tryd.ntmps23
    go_upto_region 5 with fail
    rw [← hw5]
    clear hw5
    go_wp2_with fail
    refine HGR.out.mono ?_
    rintro e w6 ⟨hb6, gv, rfl, hgo⟩
    have hgo2 := hgo
    obtain ⟨B6, ta, tc, na, nc, pa, pc, rfl, _⟩ := hgo
    have hg6 := (hb6.block _ (lt_at HG5.out)).trans HG5.out
    rw [Nat.add_zero] at hg6
    have HG6 := Lib.hid hg6; have HGO := Lib.hid hgo2; have HB6 := Lib.hid (HB5.out.trans (hb6.mono HB5.out.size))
    have b0 := cell_at (i := 0) hg6; have b1 := cell_at (i := 1) hg6; have b2 := cell_at (i := 2) hg6; have b3 := cell_at (i := 3) hg6; have b4 := cell_at (i := 4) hg6
    have z0 := frozen_at (i := 0) hg6; have z1 := frozen_at (i := 1) hg6; have z2 := frozen_at (i := 2) hg6; have z3 := frozen_at (i := 3) hg6; have z4 := frozen_at (i := 4) hg6
    have lg := lt_at hg6
    have hsz6 : W.heap.size + 2 ≤ w6.heap.size := by have := hb6.size; omega
    have HSZ6 := Lib.hid hsz6
    clear hsz6 hb6 hgo2 hg6 HGR s0 s1 s2 s3 ls
    go_wp2_with fail
    refine ret_cell_tmp1 (g := W.heap.size) rfl rfl (heap_setCell_at (heap_setCell_at (heap_setCell_at (heap_setCell_at (heap_setCell_at HG6.out))))) rfl Tryd.underlying58 (by kernel_rfl) rfl ?_
    refine ⟨HB6.out.trans ((((((Below.refl _ w6).setCell (by simp) _).setCell (by simp) _).setCell (by simp) _).setCell (by simp) _).setCell (by simp) _), by simp only [World.size_setCell]; exact HSZ6.out, _, rfl, HGO.out.kp HG6.out ?_⟩
    exact (((((Kp.refl _ w6).setCell (by simp) _).setCell (by simp) _).setCell (by simp) _).setCell (by simp) _).setCell (by simp) _
  | true =>
    obtain ⟨w5, hw5⟩ : ∃ w5 : World, w5 = (((((((((((W.alloc (.cells #[.slice none 0 0, .slice none 0 0, .slice none 0 0, .string ⟨#[]⟩, .string ⟨#[]⟩] 58)).alloc (.cells #[.string ⟨#[120]⟩, .bool true, .int .i64 0, .int .i64 0, .string ⟨#[]⟩, .int .i64 0] 44)).alloc (.cells #[.string ⟨#[120]⟩, .bool true, .int .i64 0, .int .i64 0, .string ⟨#[]⟩, .int .i64 0, .string ⟨#[98]⟩, .bool false, .int .i64 0, .int .i64 0, .string ⟨#[]⟩, .int .i64 0, .string ⟨#[120]⟩, .bool true, .int .i64 0, .int .i64 0, .string ⟨#[]⟩, .int .i64 0, .string ⟨#[]⟩, .bool false, .int .i64 0, .int .i64 0, .string C, .int .i64 70] 44)).alloc (.cells #[.slice (some ⟨W.heap.size + 1 + 1, 0, none⟩) 4 4, .string ⟨#[]⟩, .bool false, .int .i64 0, .int .i64 0, .int .i64 0] 42)).alloc (.cells #[.slice none 0 0, .string ⟨#[]⟩, .bool false, .int .i64 0, .int .i64 0, .int .i64 0] 42)).alloc (.cells #[.string ⟨#[97]⟩, .slice (some ⟨W.heap.size + 1 + 1 + 1, 0, none⟩) 1 1, .int .i64 0, .string ⟨#[98]⟩, .slice (some ⟨W.heap.size + 1 + 1 + 1 + 1, 0, none⟩) 1 1, .int .i64 0] 37)).alloc (.cells #[.string ⟨#[]⟩, .slice (some ⟨W.heap.size + 1 + 1 + 1 + 1 + 1 + 1 + 1 + 1 + 1 + 1, 0, none⟩) 3 3, .slice (some ⟨W.heap.size + 1 + 1 + 1 + 1 + 1, 0, none⟩) 2 2, .string ⟨#[]⟩] 29)).alloc (.cells #[.string ⟨#[120]⟩, .bool true, .int .i64 0, .int .i64 0] 40)).alloc (.cells #[.string ⟨#[98]⟩, .bool false, .int .i64 0, .int .i64 0] 40)).alloc (.cells #[.string ⟨#[97]⟩, .bool false, .int .i64 0, .int .i64 0] 40)).alloc (.cells #[.int .i64 1, .string ⟨#[118]⟩, .slice (some ⟨W.heap.size + 1 + 1 + 1 + 1 + 1 + 1 + 1, 0, none⟩) 1 1, .int .i64 0, .int .i64 5, .string ⟨#[119]⟩, .slice (some ⟨W.heap.size + 1 + 1 + 1 + 1 + 1 + 1 + 1 + 1, 0, none⟩) 1 1, .int .i64 0, .int .i64 5, .string ⟨#[117]⟩, .slice (some ⟨W.heap.size + 1 + 1 + 1 + 1 + 1 + 1 + 1 + 1 + 1, 0, none⟩) 1 1, .int .i64 0] 51)) := ⟨_, rfl⟩
    have hH : ∀ k o, ([.cells #[.slice none 0 0, .slice none 0 0, .slice none 0 0, .string ⟨#[]⟩, .string ⟨#[]⟩] 58, .cells #[.string ⟨#[120]⟩, .bool true, .int .i64 0, .int .i64 0, .string ⟨#[]⟩, .int .i64 0] 44, .cells #[.string ⟨#[120]⟩, .bool true, .int .i64 0, .int .i64 0, .string ⟨#[]⟩, .int .i64 0, .string ⟨#[98]⟩, .bool false, .int .i64 0, .int .i64 0, .string ⟨#[]⟩, .int .i64 0, .string ⟨#[120]⟩, .bool true, .int .i64 0, .int .i64 0, .string ⟨#[]⟩, .int .i64 0, .string ⟨#[]⟩, .bool false, .int .i64 0, .int .i64 0, .string C, .int .i64 70] 44, .cells #[.slice (some ⟨W.heap.size + 1 + 1, 0, none⟩) 4 4, .string ⟨#[]⟩, .bool false, .int .i64 0, .int .i64 0, .int .i64 0] 42, .cells #[.slice none 0 0, .string ⟨#[]⟩, .bool false, .int .i64 0, .int .i64 0, .int .i64 0] 42, .cells #[.string ⟨#[97]⟩, .slice (some ⟨W.heap.size + 1 + 1 + 1, 0, none⟩) 1 1, .int .i64 0, .string ⟨#[98]⟩, .slice (some ⟨W.heap.size + 1 + 1 + 1 + 1, 0, none⟩) 1 1, .int .i64 0] 37, .cells #[.string ⟨#[]⟩, .slice (some ⟨W.heap.size + 1 + 1 + 1 + 1 + 1 + 1 + 1 + 1 + 1 + 1, 0, none⟩) 3 3, .slice (some ⟨W.heap.size + 1 + 1 + 1 + 1 + 1, 0, none⟩) 2 2, .string ⟨#[]⟩] 29, .cells #[.string ⟨#[120]⟩, .bool true, .int .i64 0, .int .i64 0] 40, .cells #[.string ⟨#[98]⟩, .bool false, .int .i64 0, .int .i64 0] 40, .cells #[.string ⟨#[97]⟩, .bool false, .int .i64 0, .int .i64 0] 40, .cells #[.int .i64 1, .string ⟨#[118]⟩, .slice (some ⟨W.heap.size + 1 + 1 + 1 + 1 + 1 + 1 + 1, 0, none⟩) 1 1, .int .i64 0, .int .i64 5, .string ⟨#[119]⟩, .slice (some ⟨W.heap.size + 1 + 1 + 1 + 1 + 1 + 1 + 1 + 1, 0, none⟩) 1 1, .int .i64 0, .int .i64 5, .string ⟨#[117]⟩, .slice (some ⟨W.heap.size + 1 + 1 + 1 + 1 + 1 + 1 + 1 + 1 + 1, 0, none⟩) 1 1, .int .i64 0] 51] : List Obj)[k]? = some o → w5.heap[W.heap.size + k]? = some o := fun k o h => by
      rw [hw5]
      exact (heap_allocs [.cells #[.slice none 0 0, .slice none 0 0, .slice none 0 0, .string ⟨#[]⟩, .string ⟨#[]⟩] 58, .cells #[.string ⟨#[120]⟩, .bool true, .int .i64 0, .int .i64 0, .string ⟨#[]⟩, .int .i64 0] 44, .cells #[.string ⟨#[120]⟩, .bool true, .int .i64 0, .int .i64 0, .string ⟨#[]⟩, .int .i64 0, .string ⟨#[98]⟩, .bool false, .int .i64 0, .int .i64 0, .string ⟨#[]⟩, .int .i64 0, .string ⟨#[120]⟩, .bool true, .int .i64 0, .int .i64 0, .string ⟨#[]⟩, .int .i64 0, .string ⟨#[]⟩, .bool false, .int .i64 0, .int .i64 0, .string C, .int .i64 70] 44, .cells #[.slice (some ⟨W.heap.size + 1 + 1, 0, none⟩) 4 4, .string ⟨#[]⟩, .bool false, .int .i64 0, .int .i64 0, .int .i64 0] 42, .cells #[.slice none 0 0, .string ⟨#[]⟩, .bool false, .int .i64 0, .int .i64 0, .int .i64 0] 42, .cells #[.string ⟨#[97]⟩, .slice (some ⟨W.heap.size + 1 + 1 + 1, 0, none⟩) 1 1, .int .i64 0, .string ⟨#[98]⟩, .slice (some ⟨W.heap.size + 1 + 1 + 1 + 1, 0, none⟩) 1 1, .int .i64 0] 37, .cells #[.string ⟨#[]⟩, .slice (some ⟨W.heap.size + 1 + 1 + 1 + 1 + 1 + 1 + 1 + 1 + 1 + 1, 0, none⟩) 3 3, .slice (some ⟨W.heap.size + 1 + 1 + 1 + 1 + 1, 0, none⟩) 2 2, .string ⟨#[]⟩] 29, .cells #[.string ⟨#[120]⟩, .bool true, .int .i64 0, .int .i64 0] 40, .cells #[.string ⟨#[98]⟩, .bool false, .int .i64 0, .int .i64 0] 40, .cells #[.string ⟨#[97]⟩, .bool false, .int .i64 0, .int .i64 0] 40, .cells #[.int .i64 1, .string ⟨#[118]⟩, .slice (some ⟨W.heap.size + 1 + 1 + 1 + 1 + 1 + 1 + 1, 0, none⟩) 1 1, .int .i64 0, .int .i64 5, .string ⟨#[119]⟩, .slice (some ⟨W.heap.size + 1 + 1 + 1 + 1 + 1 + 1 + 1 + 1, 0, none⟩) 1 1, .int .i64 0, .int .i64 5, .string ⟨#[117]⟩, .slice (some ⟨W.heap.size + 1 + 1 + 1 + 1 + 1 + 1 + 1 + 1 + 1, 0, none⟩) 1 1, .int .i64 0] 51] W k (List.getElem?_eq_some_iff.1 h).1).trans h
    have hb5 : Below W.heap.size W w5 := by rw [hw5]; exact below_allocs [.cells #[.slice none 0 0, .slice none 0 0, .slice none 0 0, .string ⟨#[]⟩, .string ⟨#[]⟩] 58, .cells #[.string ⟨#[120]⟩, .bool true, .int .i64 0, .int .i64 0, .string ⟨#[]⟩, .int .i64 0] 44, .cells #[.string ⟨#[120]⟩, .bool true, .int .i64 0, .int .i64 0, .string ⟨#[]⟩, .int .i64 0, .string ⟨#[98]⟩, .bool false, .int .i64 0, .int .i64 0, .string ⟨#[]⟩, .int .i64 0, .string ⟨#[120]⟩, .bool true, .int .i64 0, .int .i64 0, .string ⟨#[]⟩, .int .i64 0, .string ⟨#[]⟩, .bool false, .int .i64 0, .int .i64 0, .string C, .int .i64 70] 44, .cells #[.slice (some ⟨W.heap.size + 1 + 1, 0, none⟩) 4 4, .string ⟨#[]⟩, .bool false, .int .i64 0, .int .i64 0, .int .i64 0] 42, .cells #[.slice none 0 0, .string ⟨#[]⟩, .bool false, .int .i64 0, .int .i64 0, .int .i64 0] 42, .cells #[.string ⟨#[97]⟩, .slice (some ⟨W.heap.size + 1 + 1 + 1, 0, none⟩) 1 1, .int .i64 0, .string ⟨#[98]⟩, .slice (some ⟨W.heap.size + 1 + 1 + 1 + 1, 0, none⟩) 1 1, .int .i64 0] 37, .cells #[.string ⟨#[]⟩, .slice (some ⟨W.heap.size + 1 + 1 + 1 + 1 + 1 + 1 + 1 + 1 + 1 + 1, 0, none⟩) 3 3, .slice (some ⟨W.heap.size + 1 + 1 + 1 + 1 + 1, 0, none⟩) 2 2, .string ⟨#[]⟩] 29, .cells #[.string ⟨#[120]⟩, .bool true, .int .i64 0, .int .i64 0] 40, .cells #[.string ⟨#[98]⟩, .bool false, .int .i64 0, .int .i64 0] 40, .cells #[.string ⟨#[97]⟩, .bool false, .int .i64 0, .int .i64 0] 40, .cells #[.int .i64 1, .string ⟨#[118]⟩, .slice (some ⟨W.heap.size + 1 + 1 + 1 + 1 + 1 + 1 + 1, 0, none⟩) 1 1, .int .i64 0, .int .i64 5, .string ⟨#[119]⟩, .slice (some ⟨W.heap.size + 1 + 1 + 1 + 1 + 1 + 1 + 1 + 1, 0, none⟩) 1 1, .int .i64 0, .int .i64 5, .string ⟨#[117]⟩, .slice (some ⟨W.heap.size + 1 + 1 + 1 + 1 + 1 + 1 + 1 + 1 + 1, 0, none⟩) 1 1, .int .i64 0] 51] W
    have hCe : C = ⟨(123 :: l).toArray⟩ := HC.out
    have hrul : RulesAt w5 (.slice (some ⟨W.heap.size + 1 + 1 + 1 + 1 + 1, 0, none⟩) 2 2) (Sp.oneSrc (123 :: l) true).rules := by
      refine ⟨fun i => if i = 0 then .slice (some ⟨W.heap.size + 1 + 1 + 1, 0, none⟩) 1 1 else .slice (some ⟨W.heap.size + 1 + 1 + 1 + 1, 0, none⟩) 1 1, slAt_block _ 3 (fun r hr => by simp [Sp.oneSrc, ruleC] at hr; rcases hr with rfl | rfl <;> rfl) (hH 5 _ rfl) (by simp [Sp.oneSrc, maxLen]), fun i r hr => ?_⟩
      rcases i with _ | _ | i
      · simp [Sp.oneSrc] at hr; subst hr
        refine ⟨fun _ => .slice (some ⟨W.heap.size + 1 + 1, 0, none⟩) 4 4, slAt_block _ 6 (fun r hr => by simp [altC] at hr; subst hr; rfl) (hH 3 _ rfl) (by simp [maxLen]), fun j a ha => ?_⟩
        rcases j with _ | j
        · simp at ha; subst ha
          refine slAt_block (e := 44) ([Sp.symPart Sp.symX, Sp.symPart ⟨[98], false, 0, 0⟩, Sp.symPart Sp.symX, Sp.codePart (123 :: l) 70].map partC) 6 (fun r hr => by obtain ⟨q, _, rfl⟩ := List.mem_map.1 hr; rfl) ?_ (by simp [maxLen])
          have h2 := hH 2 _ rfl
          rw [hCe] at h2
          exact h2
        · simp at ha
      · simp [Sp.oneSrc] at hr; subst hr
        refine ⟨fun _ => .slice none 0 0, slAt_block _ 6 (fun r hr => by simp [altC] at hr; subst hr; rfl) (hH 4 _ rfl) (by simp [maxLen]), fun j a ha => ?_⟩
        rcases j with _ | j
        · simp at ha; subst ha
          exact .inl ⟨rfl, none, 0, rfl⟩
        · simp at ha
      · simp [Sp.oneSrc] at hr
    have hdec : DeclsAt w5 (.slice (some ⟨W.heap.size + 1 + 1 + 1 + 1 + 1 + 1 + 1 + 1 + 1 + 1, 0, none⟩) 3 3) (Sp.oneSrc (123 :: l) true).decls := by
      refine ⟨fun i => if i = 0 then .slice (some ⟨W.heap.size + 1 + 1 + 1 + 1 + 1 + 1 + 1, 0, none⟩) 1 1 else if i = 1 then .slice (some ⟨W.heap.size + 1 + 1 + 1 + 1 + 1 + 1 + 1 + 1, 0, none⟩) 1 1 else .slice (some ⟨W.heap.size + 1 + 1 + 1 + 1 + 1 + 1 + 1 + 1 + 1, 0, none⟩) 1 1, slAt_block _ 4 (fun r hr => by simp [Sp.oneSrc, declC] at hr; rcases hr with rfl | rfl | rfl <;> rfl) (hH 10 _ rfl) (by simp [Sp.oneSrc, maxLen]), fun i d hd => ?_⟩
      rcases i with _ | _ | _ | i
      · simp [Sp.oneSrc] at hd; subst hd; exact slAt_block [symC Sp.symX] 4 (fun r hr => by simp at hr; subst hr; rfl) (hH 7 _ rfl) (by simp [maxLen])
      · simp [Sp.oneSrc] at hd; subst hd; exact slAt_block [symC ⟨[98], false, 0, 0⟩] 4 (fun r hr => by simp at hr; subst hr; rfl) (hH 8 _ rfl) (by simp [maxLen])
      · simp [Sp.oneSrc] at hd; subst hd; exact slAt_block [symC ⟨[97], false, 0, 0⟩] 4 (fun r hr => by simp at hr; subst hr; rfl) (hH 9 _ rfl) (by simp [maxLen])
      · simp [Sp.oneSrc] at hd
    have hG := hH 0 _ rfl
    have hS : w5.heap[W.heap.size + 1 + 1 + 1 + 1 + 1 + 1]? = _ := hH 6 _ rfl
    have HGR := Lib.hid (show Calls Tryd.prog 13 #[.agg #[.string ⟨#[]⟩, .slice (some ⟨W.heap.size + 1 + 1 + 1 + 1 + 1 + 1 + 1 + 1 + 1 + 1, 0, none⟩) 3 3, .slice (some ⟨W.heap.size + 1 + 1 + 1 + 1 + 1, 0, none⟩) 2 2, .string ⟨#[]⟩]] w5 (fun e w' => Below w5.heap.size w5 w' ∧ ∃ gv, e = .returned (.tuple #[gv, .bool true]) ∧ GramOwn w' gv (Sp.oneGram (123 :: l) true)) from by
      have h := ref16_Grammar (Sp.oneSrc (123 :: l) true) _ _ w5 hdec hrul (one_small hl true) (Sp.one_inner l true)
      rw [Sp.one_gram l true HE.out] at h
      exact h)
    have HG5 := Lib.hid hG; have HB5 := Lib.hid hb5
    have s0 := cell_at (i := 0) hS; have s1 := cell_at (i := 1) hS; have s2 := cell_at (i := 2) hS; have s3 := cell_at (i := 3) hS
    have ls := lt_at hS
    clear hH hb5 hrul hdec hG hS hCe
    go_enter Tryd.func23, Tryd.ntmps23
    go_upto_region 5 with fail
    rw [← hw5]
    clear hw5
    go_wp2_with fail
    refine HGR.out.mono ?_
    rintro e w6 ⟨hb6, gv, rfl, hgo⟩
    have hgo2 := hgo
    obtain ⟨B6, ta, tc, na, nc, pa, pc, rfl, _⟩ := hgo
    have hg6 := (hb6.block _ (lt_at HG5.out)).trans HG5.out
    rw [Nat.add_zero] at hg6
    have HG6 := Lib.hid hg6; have HGO := Lib.hid hgo2; have HB6 := Lib.hid (HB5.out.trans (hb6.mono HB5.out.size))
    have b0 := cell_at (i := 0) hg6; have b1 := cell_at (i := 1) hg6; have b2 := cell_at (i := 2) hg6; have b3 := cell_at (i := 3) hg6; have b4 := cell_at (i := 4) hg6
    have z0 := frozen_at (i := 0) hg6; have z1 := frozen_at (i := 1) hg6; have z2 := frozen_at (i := 2) hg6; have z3 := frozen_at (i := 3) hg6; have z4 := frozen_at (i := 4) hg6
    have lg := lt_at hg6
    have hsz6 : W.heap.size + 2 ≤ w6.heap.size := by have := hb6.size; omega
    have HSZ6 := Lib.hid hsz6
    clear hsz6 hb6 hgo2 hg6 HGR s0 s1 s2 s3 ls
    go_wp2_with fail
    refine ret_cell_tmp1 (g := W.heap.size) rfl rfl (heap_setCell_at (heap_setCell_at (heap_setCell_at (heap_setCell_at (heap_setCell_at HG6.out))))) rfl Tryd.underlying58 (by kernel_rfl) rfl ?_
    refine ⟨HB6.out.trans ((((((Below.refl _ w6).setCell (by simp) _).setCell (by simp) _).setCell (by simp) _).setCell (by simp) _).setCell (by simp) _), by simp only [World.size_setCell]; exact HSZ6.out, _, rfl, HGO.out.kp HG6.out ?_⟩
    exact (((((Kp.refl _ w6).setCell (by simp) _).setCell (by simp) _).setCell (by simp) _).setCell (by simp) _).setCell (by simp) _
end Go.Proofs.YtphdfbmmjkccgaaDoor

namespace Go.Proofs.YtphdfbmmjkccgaaDoor
open Go.RowKit Go.Maps

theorem oneOwn {w : World} {gv : Value} {c : List UInt8} {b : Bool} (h : GramOwn w gv (Sp.oneGram c b)) : ∃ ta tc na nc pa pc, gv = .agg #[.slice ta 4 tc, .slice na 3 nc, .slice pa 3 pc, .string ⟨#[]⟩, .string ⟨#[]⟩] ∧ GramAt w (.agg #[.slice ta 4 tc, .slice na 3 nc, .slice pa 3 pc, .string ⟨#[]⟩, .string ⟨#[]⟩]) (Sp.oneGram c b) := by
  have h2 := h.at
  obtain ⟨B, ta, tc, na, nc, pa, pc, rfl, _⟩ := h
  exact ⟨ta, tc, na, nc, pa, pc, rfl, h2⟩
theorem one_body {w : World} {gv : Value} {c : List UInt8} {b : Bool} (h : GramAt w gv (Sp.oneGram c b)) (hg : Gl w) (hc : c.length ≤ 4000) {t : List UInt8} {fe fa : Int} {fn : List UInt8} (he : Sp.subBody (Sp.oneGram c b) 1 = (t, ⟨fe, fa, fn⟩)) :
    Calls Tryd.prog 14 #[gv, .int .i64 1] w fun e w' => e = .returned (.tuple #[.string ⟨t.toArray⟩, .agg #[.int .i64 fe, .int .i64 fa, .string ⟨fn.toArray⟩]]) ∧ Below w.heap.size w w' := by
  have hk := subst_Body (Sp.oneGram c b) gv 1 w h hg (by decide) (by simp [Sp.oneGram]) (by simp [Sp.oneGram]) (by simp [Sp.oneGram]) (Sp.one_good c b hc).1 (Sp.one_good c b hc).2
  rw [he] at hk
  exact hk
set_option maxRecDepth 100000 in
set_option maxHeartbeats 6400000 in
theorem wakes27 (w0 : World) (hg : Gl4 w0) :
    Calls Tryd.prog 12 #[] w0 fun e w' => e = .returned (.bool true) ∧ Below w0.heap.size w0 w' := by
  have HG := Lib.hid hg
  have hs0 : 4 ≤ w0.heap.size := hg.2.1
  have HO1 := Lib.hid (fun w => (show Calls Tryd.prog 23 #[.string ⟨#[123, 36, 36, 32, 61, 32, 36, 49, 32, 43, 32, 36, 60, 110, 62, 50, 125]⟩, .bool true] w (fun e w' => Below w.heap.size w w' ∧ w.heap.size + 2 ≤ w'.heap.size ∧ ∃ gv, e = .returned (.tuple #[gv, .bool true]) ∧ GramOwn w' gv (Sp.oneGram (123 :: Sp.wakeC) true)) from law27_one Sp.wakeC true w Sp.wake_end (by decide)))
  have HO2 := Lib.hid (fun w => (show Calls Tryd.prog 23 #[.string ⟨#[123, 36, 52, 125]⟩, .bool false] w (fun e w' => Below w.heap.size w w' ∧ w.heap.size + 2 ≤ w'.heap.size ∧ ∃ gv, e = .returned (.tuple #[gv, .bool true]) ∧ GramOwn w' gv (Sp.oneGram [123, 36, 52, 125] false)) from law27_one [36, 52, 125] false w Sp.wake_end4 (by decide)))
  clear hg
  go_enter Tryd.func12, Tryd.ntmps12
  go_wp2_with fail
  refine (HO1.out _).mono ?_
  rintro e w1 ⟨hb1, hsz1, gv, rfl, hgo⟩
  obtain ⟨ta, tc, na, nc, pa, pc, rfl, hga⟩ := oneOwn hgo
  obtain ⟨w2, hw2⟩ : ∃ w2 : World, w2 = w1.alloc (.cells #[.slice ta 4 tc, .slice na 3 nc, .slice pa 3 pc, .string ⟨#[]⟩, .string ⟨#[]⟩] 58) := ⟨_, rfl⟩
  have hb12 : Below w1.heap.size w1 w2 := by rw [hw2]; exact (Below.refl _ w1).alloc (Nat.le_refl _) _
  have h2 : w2.heap[w1.heap.size]? = some (.cells #[.slice ta 4 tc, .slice na 3 nc, .slice pa 3 pc, .string ⟨#[]⟩, .string ⟨#[]⟩] 58 (0, 0)) := by rw [hw2]; exact heap_last w1 _
  have hb2 : Below w0.heap.size w0 w2 := hb1.trans (hb12.mono hb1.size)
  have HGL : Hid (∀ w, Below w2.heap.size w2 w → Gl w) := Lib.hid (fun w hb => HG.out.up (hb2.trans (hb.mono hb2.size)) (by have := hb.size; have := lt_at h2; omega))
  have HGA := Lib.hid (hga.below hb12); have H2 := Lib.hid h2; have HB2 := Lib.hid hb2
  have g0 := cell_at (i := 0) h2; have g1 := cell_at (i := 1) h2; have g2 := cell_at (i := 2) h2; have g3 := cell_at (i := 3) h2; have g4 := cell_at (i := 4) h2
  have lg := lt_at h2
  clear hb1 hsz1 hgo hga hb12 h2 hb2
  go_upto_region 2 with fail
  rw [← hw2]
  generalize hgb : w1.heap.size = gb at *
  clear hw2 hgb
  have HB1 := Lib.hid (one_body HGA.out (HGL.out _ (Below.refl _ _)) (by decide) Sp.wake_body)
  go_wp2_with fail
  refine HB1.out.mono ?_
  rintro e w3 ⟨rfl, hb3⟩
  obtain ⟨T, hT⟩ : ∃ T : ByteArray, T = ⟨Sp.wakeT.toArray⟩ := ⟨_, rfl⟩
  rw [← hT]
  have HT := Lib.hid hT
  clear hT
  obtain ⟨w4, hw4⟩ : ∃ w4 : World, w4 = w3.alloc (.cells #[.int .i64 0, .int .i64 0, .string ⟨#[]⟩] 32) := ⟨_, rfl⟩
  have hb4 : Below w2.heap.size w2 w4 := by rw [hw4]; exact hb3.alloc hb3.size _
  have h4 : w4.heap[w3.heap.size]? = some (.cells #[.int .i64 0, .int .i64 0, .string ⟨#[]⟩] 32 (0, 0)) := by rw [hw4]; exact heap_last w3 _
  have HB4 := Lib.hid hb4; have H4 := Lib.hid h4
  clear hb3 hb4 h4 g0 g1 g2 g3 g4 lg HB1
  go_upto_region 3 with fail
  rw [← hw4]
  generalize hfb : w3.heap.size = fb at *
  clear hw4 hfb
  go_wp2_with fail
  refine (HO2.out _).mono ?_
  rintro e w5 ⟨hb5, _, gv2, rfl, hgo2⟩
  obtain ⟨ta2, tc2, na2, nc2, pa2, pc2, rfl, hga2⟩ := oneOwn hgo2
  obtain ⟨w6, hw6⟩ : ∃ w6 : World, w6 = w5.alloc (.cells #[.slice ta2 4 tc2, .slice na2 3 nc2, .slice pa2 3 pc2, .string ⟨#[]⟩, .string ⟨#[]⟩] 58) := ⟨_, rfl⟩
  have hb56 : Below w5.heap.size w5 w6 := by rw [hw6]; exact (Below.refl _ w5).alloc (Nat.le_refl _) _
  have h6 : w6.heap[w5.heap.size]? = some (.cells #[.slice ta2 4 tc2, .slice na2 3 nc2, .slice pa2 3 pc2, .string ⟨#[]⟩, .string ⟨#[]⟩] 58 (0, 0)) := by rw [hw6]; exact heap_last w5 _
  have hb46 : Below w4.heap.size w4 w6 := hb5.trans (hb56.mono hb5.size)
  have HB6 := Lib.hid (HB4.out.trans (hb46.mono HB4.out.size))
  have HGA2 := Lib.hid (hga2.below hb56)
  have HF6 := Lib.hid ((hb46.block _ (lt_at H4.out)).trans H4.out)
  have g0 := cell_at (i := 0) h6; have g1 := cell_at (i := 1) h6; have g2 := cell_at (i := 2) h6; have g3 := cell_at (i := 3) h6; have g4 := cell_at (i := 4) h6
  have lg := lt_at h6
  clear hb5 hgo2 hga2 hb56 hb46 h6 HO2 HO1
  go_upto_region 4 with fail
  rw [← hw6]
  generalize hgb2 : w5.heap.size = gb2 at *
  clear hw6 hgb2
  have HB2b := Lib.hid (one_body HGA2.out (HGL.out _ HB6.out) (by decide) Sp.wake_body4)
  go_wp2_with fail
  refine HB2b.out.mono ?_
  rintro e w7 ⟨rfl, hb7⟩
  obtain ⟨w8, hw8⟩ : ∃ w8 : World, w8 = w7.alloc (.cells #[.int .i64 6, .int .i64 70, .string ⟨#[36, 52]⟩] 32) := ⟨_, rfl⟩
  have hb8 : Below w6.heap.size w6 w8 := by rw [hw8]; exact hb7.alloc hb7.size _
  have h8 : w8.heap[w7.heap.size]? = some (.cells #[.int .i64 6, .int .i64 70, .string ⟨#[36, 52]⟩] 32 (0, 0)) := by rw [hw8]; exact heap_last w7 _
  have HB8 := Lib.hid (HB6.out.trans (hb8.mono HB6.out.size)); have H8 := Lib.hid h8
  have HF8 := Lib.hid ((hb8.block _ (lt_at HF6.out)).trans HF6.out)
  have hg8 := (HB8.out.block _ (lt_at H2.out)).trans H2.out
  have HGA8 := Lib.hid (HGA.out.below HB8.out)
  clear hb7 hb8 h8 g0 g1 g2 g3 g4 lg HB2b HF6 HGA2 HB6
  have g0 := cell_at (i := 0) hg8; have g1 := cell_at (i := 1) hg8; have g2 := cell_at (i := 2) hg8; have g3 := cell_at (i := 3) hg8; have g4 := cell_at (i := 4) hg8
  have lg := lt_at hg8
  clear hg8
  go_upto_region 5 with fail
  rw [← hw8, show (⟨([36, 52] : List UInt8).toArray⟩ : ByteArray) = ⟨#[36, 52]⟩ from rfl]
  generalize hfb2 : w7.heap.size = fb2 at *
  clear hw8 hfb2
  have HAL := Lib.hid (show Calls Tryd.prog 15 #[.agg #[.slice ta 4 tc, .slice na 3 nc, .slice pa 3 pc, .string ⟨#[]⟩, .string ⟨#[]⟩]] w8 (fun e w' => Below w8.heap.size w8 w' ∧ ∃ lv, e = .returned (.tuple #[lv, .agg #[.int .i64 0, .int .i64 0, .string ⟨#[]⟩]]) ∧ w'.ownsRow w8.heap.size 9 1 lv 3 [.string ⟨#[]⟩, .string T, .string ⟨#[]⟩]) from by
    have h := subst_All (Sp.oneGram (123 :: Sp.wakeC) true) _ w8 HGA8.out (HGL.out _ HB8.out) (by simp [Sp.oneGram]) (by simp [Sp.oneGram]) (by simp [Sp.oneGram]) (Sp.one_good _ true (by decide)).1 (Sp.one_good _ true (by decide)).2
    rw [Sp.wake_all] at h
    rw [HT.out]
    exact h)
  go_wp2_with fail
  refine HAL.out.mono ?_
  rintro e w9 ⟨hb9, lv, rfl, hrow⟩
  obtain ⟨lb, lcap, rfl, hl0, hl1, hl2, hllb⟩ : ∃ lb lcap, lv = .slice (some ⟨lb, 0, none⟩) 3 lcap ∧ w9.cell? ⟨lb, 0, none⟩ = some (.string ⟨#[]⟩) ∧ w9.cell? ⟨lb, 1, none⟩ = some (.string T) ∧ w9.cell? ⟨lb, 2, none⟩ = some (.string ⟨#[]⟩) ∧ lb < w9.heap.size := by
    rcases hrow.2 with ⟨_, h0⟩ | ⟨b, cap, cur, rfl, _⟩
    · simp at h0
    · have hsl : SlAt w9 (.slice (some ⟨b, 0, none⟩) 3 cap) 1 [[.string ⟨#[]⟩], [.string T], [.string ⟨#[]⟩]] := slAt_of_owns (base := w8.heap.size) (e := 9) (n := 3) _ (fun r hr => by simp only [List.mem_cons, List.not_mem_nil, or_false] at hr; rcases hr with rfl | rfl | rfl <;> rfl) rfl hrow
      obtain ⟨b0, o0, e0, hbl, hc⟩ := hsl.at (k := 0) (row := [.string ⟨#[]⟩]) rfl
      obtain ⟨b1, o1, e1, _, hc1⟩ := hsl.at (k := 1) (row := [.string T]) rfl
      obtain ⟨b2, o2, e2, _, hc2⟩ := hsl.at (k := 2) (row := [.string ⟨#[]⟩]) rfl
      simp only [Option.some.injEq, Addr.mk.injEq, and_true] at e0 e1 e2
      obtain ⟨rfl, rfl⟩ := e0
      obtain ⟨rfl, rfl⟩ := e1
      obtain ⟨rfl, rfl⟩ := e2
      have h0 := hc w9 (Below.refl _ _) 0 _ rfl; have h1 := hc1 w9 (Below.refl _ _) 0 _ rfl; have h2 := hc2 w9 (Below.refl _ _) 0 _ rfl
      exact ⟨_, cap, rfl, by simpa using h0, by simpa using h1, by simpa using h2, hbl⟩
  obtain ⟨w10, hw10⟩ : ∃ w10 : World, w10 = w9.alloc (.cells #[.int .i64 0, .int .i64 0, .string ⟨#[]⟩] 32) := ⟨_, rfl⟩
  have hb10 : Below w8.heap.size w8 w10 := by rw [hw10]; exact hb9.alloc hb9.size _
  have h10 : w10.heap[w9.heap.size]? = some (.cells #[.int .i64 0, .int .i64 0, .string ⟨#[]⟩] 32 (0, 0)) := by rw [hw10]; exact heap_last w9 _
  have hb910 : Below w9.heap.size w9 w10 := by rw [hw10]; exact (Below.refl _ w9).alloc (Nat.le_refl _) _
  have r0 := (hb910.cell (p := ⟨lb, 0, none⟩) hllb).trans hl0; have r1 := (hb910.cell (p := ⟨lb, 1, none⟩) hllb).trans hl1; have r2 := (hb910.cell (p := ⟨lb, 2, none⟩) hllb).trans hl2
  have hllb10 : lb < w10.heap.size := by have := hb910.size; omega
  have HB10 := Lib.hid ((HB2.out.trans (HB8.out.mono HB2.out.size)).trans (hb10.mono (Nat.le_trans HB2.out.size HB8.out.size)))
  have hf10 := (hb10.block _ (lt_at HF8.out)).trans HF8.out
  have hq10 := (hb10.block _ (lt_at H8.out)).trans H8.out
  have e0 := cell_at (i := 0) hf10; have e1 := cell_at (i := 1) hf10; have e2 := cell_at (i := 2) hf10
  have q0 := cell_at (i := 0) hq10; have q1 := cell_at (i := 1) hq10; have q2 := cell_at (i := 2) hq10
  have k0 := cell_at (i := 0) h10; have k1 := cell_at (i := 1) h10; have k2 := cell_at (i := 2) h10
  have lf := lt_at hf10; have lq := lt_at hq10; have lk := lt_at h10
  clear hb9 hb10 h10 hb910 hl0 hl1 hl2 hllb hf10 hq10 hrow g0 g1 g2 g3 g4 lg HAL
  go_upto_region 6 with fail
  rw [← hw10]
  generalize hfb3 : w9.heap.size = fb3 at *
  clear hw10 hfb3
  have HT2 : Hid (T = ⟨#[123, 121, 121, 86, 65, 76, 46, 117, 32, 61, 32, 121, 121, 68, 111, 108, 108, 97, 114, 91, 49, 93, 46, 118, 32, 43, 32, 121, 121, 68, 111, 108, 108, 97, 114, 91, 50, 93, 46, 110, 125]⟩) := Lib.hid HT.out
  have hT2 := HT2.out
  go_wp2_with fail
  refine (ref_EqFaultG 6 70 6 70 [36, 52] [36, 52] _).mono ?_
  rintro e w11 ⟨rfl, hb11⟩
  rw [show decide (((6 : Int) = 6 ∧ (70 : Int) = 70) ∧ ([36, 52] : List UInt8) = [36, 52]) = true by simp]
  have c0 := (hb11.cell (p := ⟨lb, 0, none⟩) hllb10).trans r0; have c1 := (hb11.cell (p := ⟨lb, 1, none⟩) hllb10).trans r1; have c2 := (hb11.cell (p := ⟨lb, 2, none⟩) hllb10).trans r2
  have m0 := (hb11.cell (p := ⟨fb3, 0, none⟩) lk).trans k0
  have hll11 : lb < w11.heap.size := by have := hb11.size; omega
  have hlk11 : fb3 < w11.heap.size := by have := hb11.size; omega
  have HB11 := Lib.hid (HB10.out.trans (hb11.mono HB10.out.size))
  clear hb11 r0 r1 r2 e0 e1 e2 q0 q1 q2 k0 k1 k2 lf lq lk hllb10
  go_wp2_with fail
  go_ret
  exact ⟨rfl, HB11.out⟩
end Go.Proofs.YtphdfbmmjkccgaaDoor

namespace Go.Proofs.YtphdfbmmjkccgaaDoor
namespace Sp

def rgCode (n : Nat) : List UInt8 := 123 :: 32 :: 36 :: (Go.Lib.itoa (n : Int) ++ [32, 125])
def rgAlt (n a : Nat) : Alt := ⟨List.replicate a (symPart symX) ++ [codePart (rgCode n) 33, symPart symX, codePart [123, 32, 36, 49, 32, 125] 44], noSymO, 0⟩
def rgSrc (n a : Nat) : Source := ⟨[], [], [⟨[97], [rgAlt n a], 0⟩], []⟩
def rgGram (n a : Nat) : Gram := (refGram (rgSrc n a)).1
def rgText (n : Nat) : List UInt8 := [123, 32, 121, 121, 68, 111, 108, 108, 97, 114, 91] ++ Go.Lib.itoa (n : Int) ++ [93, 32, 125]
def rgEnd : List UInt8 := [123, 32, 121, 121, 68, 111, 108, 108, 97, 114, 91, 49, 93, 32, 125]
def rgBad (n a : Nat) : Bool := decide (n < 1 ∨ a < n)
def rgFault (n : Nat) : Fault := ⟨6, 33, 36 :: Go.Lib.itoa (n : Int)⟩
def rgGood (g : Gram) : Bool :=
  g.toks.all (fun t => decide (t.tag.length ≤ 4000)) && g.nons.all (fun t => decide (t.tag.length ≤ 4000)) &&
  g.prods.all (fun x => decide (0 ≤ x.left) && decide (x.left < (g.nons.length : Int)) && x.args.all (fun a => decide (0 ≤ a) && decide (1000 ≤ a → a - 1000 < (g.nons.length : Int)) && decide (a < 1000 → a < (g.toks.length : Int))) && decide (x.code.length ≤ 4000) && decide (x.args.length ≤ 4000))
/-- What is to be looked at. -/
def rgOk (n a : Nat) : Bool :=
  decide ((refGram (rgSrc n a)).2.err = 0) && decide ((rmade (rgSrc n a)).inner ≤ 60000) && decide ((rgGram n a).toks.length ≤ 100) && decide ((rgGram n a).nons.length ≤ 100) && decide ((rgGram n a).prods.length ≤ 100) && rgGood (rgGram n a) &&
  decide (subBody (rgGram n a) 2 = (rgEnd, ⟨0, 0, []⟩)) &&
  decide (subBody (rgGram n a) 1 = if rgBad n a = true then ([], rgFault n) else (rgText n, ⟨0, 0, []⟩)) &&
  decide (subAll (rgGram n a) = if rgBad n a = true then ([], rgFault n) else ([[], rgText n, rgEnd], ⟨0, 0, []⟩)) && decide ((rgCode n).length ≤ 20)
theorem rg_all0 : ∀ n < 12, ∀ a < 6, rgOk n a = true := by decide +kernel
structure RgOk (n a : Nat) : Prop where
  fine : (refGram (rgSrc n a)).2.err = 0
  inner : (rmade (rgSrc n a)).inner ≤ 60000
  toks : (rgGram n a).toks.length ≤ 100
  nons : (rgGram n a).nons.length ≤ 100
  prods : (rgGram n a).prods.length ≤ 100
  tags : GoodTg (rgGram n a)
  good : ∀ x ∈ (rgGram n a).prods, GoodPr (rgGram n a) x
  body2 : subBody (rgGram n a) 2 = (rgEnd, ⟨0, 0, []⟩)
  body1 : subBody (rgGram n a) 1 = if rgBad n a = true then ([], rgFault n) else (rgText n, ⟨0, 0, []⟩)
  all : subAll (rgGram n a) = if rgBad n a = true then ([], rgFault n) else ([[], rgText n, rgEnd], ⟨0, 0, []⟩)
  code : (rgCode n).length ≤ 20
theorem rg_all {n a : Nat} (hn : n < 12) (ha : a < 6) : RgOk n a := by
  have h := rg_all0 n hn a ha
  unfold rgOk rgGood at h
  simp only [Bool.and_eq_true, decide_eq_true_eq, List.all_eq_true] at h
  obtain ⟨⟨⟨⟨⟨⟨⟨⟨⟨h1, h2⟩, h3⟩, h4⟩, h5⟩, ⟨⟨h6, h7⟩, h8⟩⟩, h9⟩, h10⟩, h11⟩, h12⟩ := h
  exact ⟨h1, h2, h3, h4, h5, ⟨h6, h7⟩, fun x hx => ⟨(h8 x hx).1.1.1, fun y hy => ⟨((h8 x hx).1.1.2 y hy).1.1, ((h8 x hx).1.1.2 y hy).1.2, ((h8 x hx).1.1.2 y hy).2⟩, (h8 x hx).1.2, (h8 x hx).2⟩, h9, h10, h11, h12⟩
end Sp
end Go.Proofs.YtphdfbmmjkccgaaDoor
