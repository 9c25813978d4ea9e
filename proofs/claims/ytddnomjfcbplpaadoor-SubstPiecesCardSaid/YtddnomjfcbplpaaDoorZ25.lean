/- SubstFar: the walk. -/
import Derived.Test.YtddnomjfcbplpaaDoorZ24
import Derived.Test.YtddnomjfcbplpaaDoorZ09
namespace Go.Proofs.YtddnomjfcbplpaaDoor
open Go.RowKit Go.Maps

theorem gl4_of_gl {w : World} (h : Gl w) : Gl4 w := ⟨h.1, by have := h.2.1; omega, h.2.2⟩
theorem far_small (n : Nat) (first : Bool) (hn : n < 3000) : smallSrc (Sp.farSrc n first) := by
  have h := Sp.far_all n hn
  unfold Sp.farOk at h
  simp only [Bool.and_eq_true, decide_eq_true_eq] at h
  have hl := h.2
  have ha : smallAlt (Sp.farAlt n) := ⟨by simp [Sp.farAlt], fun p hp => by
    simp only [Sp.farAlt, List.mem_cons, List.not_mem_nil, or_false] at hp
    subst hp
    exact ⟨by simp [Sp.codePart, Sp.noSymO], by show (Sp.farCode n).length ≤ 4000; omega⟩, by simp [Sp.farAlt, Sp.noSymO]⟩
  have hb : smallAlt Sp.fiveAlt := ⟨by simp [Sp.fiveAlt], fun p hp => by
    simp only [Sp.fiveAlt, List.mem_cons, List.not_mem_nil, or_false] at hp
    subst hp
    exact ⟨by simp [Sp.codePart, Sp.noSymO], by simp [Sp.codePart]⟩, by simp [Sp.fiveAlt, Sp.noSymO]⟩
  refine ⟨by simp [Sp.farSrc], by simp [Sp.farSrc], by simp [Sp.farSrc], by simp [Sp.farSrc], fun d hd => by simp [Sp.farSrc] at hd, fun r hr => ?_⟩
  simp only [Sp.farSrc, List.mem_cons, List.not_mem_nil, or_false] at hr
  subst hr
  refine ⟨by simp, by cases first <;> simp, fun a hx => ?_⟩
  cases first
  · simp only [Bool.false_eq_true, if_false, List.mem_cons, List.not_mem_nil, or_false] at hx
    rcases hx with rfl | rfl
    · exact ha
    · exact hb
  · simp only [if_true, List.mem_cons, List.not_mem_nil, or_false] at hx
    rcases hx with rfl | rfl
    · exact hb
    · exact ha
set_option maxRecDepth 100000 in
set_option maxHeartbeats 6400000 in
theorem law_SubstFar (n0 : Int) (first : Bool) (W : World) (hw1 : (Lit.int .i64 n0).wf = true) (hg : Gl4 W) :
    Calls Tryd.prog 6 #[.int .i64 n0, .bool first] W fun e w' => e = .returned (.bool true) ∧ Below W.heap.size W w' := by
  have HG := Lib.hid hg
  have HWI := Lib.hid (fun w => (show Calls Tryd.prog 8 #[.int .i64 n0, .int .i64 3000] w (fun e w' => e = .returned (.int .i64 (n0 % 3000)) ∧ w = w') from made_Within n0 3000 w (by decide) (by decide) hw1))
  obtain ⟨m, hm0⟩ : ∃ m : Nat, n0 % 3000 = (m : Int) := ⟨(n0 % 3000).toNat, by have := Int.emod_nonneg n0 (b := 3000) (by decide); omega⟩
  have hm : m < 3000 := by have := Int.emod_lt_of_pos n0 (b := 3000) (by decide); omega
  rw [hm0] at HWI
  have HWK := Lib.hid (wakes27 W hg)
  clear hm0 hw1 hg
  go_enter Tryd.func6, Tryd.ntmps6
  go_wp2_with fail
  refine HWK.out.mono ?_
  rintro e w2 ⟨rfl, hb2⟩
  have HB2 := Lib.hid hb2
  clear hb2 HWK
  go_wp2_with fail
  refine (HWI.out _).mono ?_
  rintro e w2' ⟨rfl, rfl⟩
  go_wp2_with fail
  refine (ref_Digits (m : Int) _ (by omega) (by omega)).mono ?_
  rintro e w3 ⟨rfl, hb3⟩
  have HB3 := Lib.hid (HB2.out.trans (hb3.mono HB2.out.size))
  obtain ⟨it, hit⟩ : ∃ it, it = Lib.itoa (m : Int) := ⟨_, rfl⟩
  have hil : it.length ≤ 21 := by rw [hit]; exact Lib.itoa_length_le _ (by omega) (by omega)
  rw [← hit]
  have hz1 : ¬ 9223372036854775807 < 2 + it.length := by omega
  have hz2 : ¬ 9223372036854775807 < 2 + it.length + 1 := by omega
  have hz3 : ¬ 9223372036854775807 < 1 + it.length := by omega
  have HIT := Lib.hid hit
  clear hb3 HB2 HWI hit
  obtain ⟨C, hC⟩ : ∃ C : ByteArray, C = (⟨#[123, 36]⟩ : ByteArray) ++ (⟨it.toArray⟩ : ByteArray) ++ (⟨#[125]⟩ : ByteArray) := ⟨_, rfl⟩
  have HC : Hid (C = ⟨(Sp.farCode m).toArray⟩) := Lib.hid (by
    rw [hC]
    apply ByteArray.ext
    rw [ByteArray.data_append, ByteArray.data_append]
    unfold Sp.farCode
    rw [← HIT.out]
    simp)
  go_upto_region 6 with fail
  rw [← hC]
  clear hC
  by_cases h9 : 999 < m
  · have h9i : (999 : Int) < (m : Int) := by omega
    cases first with
    | false =>
      have hBody : ∃ w5 : World, w5 = (((((((w3.alloc (.cells #[.string ⟨#[]⟩, .bool false, .int .i64 0, .int .i64 0, .string C, .int .i64 11] 63)).alloc (.cells #[.slice (some ⟨w3.heap.size, 0, none⟩) 1 1, .string ⟨#[]⟩, .bool false, .int .i64 0, .int .i64 0, .int .i64 0] 28)).alloc (.cells #[.string ⟨#[]⟩, .bool false, .int .i64 0, .int .i64 0, .string ⟨#[123, 36, 53, 125]⟩, .int .i64 22] 63)).alloc (.cells #[.slice (some ⟨w3.heap.size + 1 + 1, 0, none⟩) 1 1, .string ⟨#[]⟩, .bool false, .int .i64 0, .int .i64 0, .int .i64 0] 28)).alloc (.cells #[.slice (some ⟨w3.heap.size, 0, none⟩) 1 1, .string ⟨#[]⟩, .bool false, .int .i64 0, .int .i64 0, .int .i64 0, .slice (some ⟨w3.heap.size + 1 + 1, 0, none⟩) 1 1, .string ⟨#[]⟩, .bool false, .int .i64 0, .int .i64 0, .int .i64 0] 28)).alloc (.cells #[.string ⟨#[97]⟩, .slice (some ⟨w3.heap.size + 1 + 1 + 1 + 1, 0, none⟩) 2 2, .int .i64 0] 31)).alloc (.cells #[.string ⟨#[97]⟩, .slice (some ⟨w3.heap.size + 1 + 1 + 1 + 1, 0, none⟩) 2 2, .int .i64 0] 31)) := ⟨_, rfl⟩
      obtain ⟨w5, hw5⟩ := hBody
      have hH : ∀ k o, ([.cells #[.string ⟨#[]⟩, .bool false, .int .i64 0, .int .i64 0, .string C, .int .i64 11] 63, .cells #[.slice (some ⟨w3.heap.size, 0, none⟩) 1 1, .string ⟨#[]⟩, .bool false, .int .i64 0, .int .i64 0, .int .i64 0] 28, .cells #[.string ⟨#[]⟩, .bool false, .int .i64 0, .int .i64 0, .string ⟨#[123, 36, 53, 125]⟩, .int .i64 22] 63, .cells #[.slice (some ⟨w3.heap.size + 1 + 1, 0, none⟩) 1 1, .string ⟨#[]⟩, .bool false, .int .i64 0, .int .i64 0, .int .i64 0] 28, .cells #[.slice (some ⟨w3.heap.size, 0, none⟩) 1 1, .string ⟨#[]⟩, .bool false, .int .i64 0, .int .i64 0, .int .i64 0, .slice (some ⟨w3.heap.size + 1 + 1, 0, none⟩) 1 1, .string ⟨#[]⟩, .bool false, .int .i64 0, .int .i64 0, .int .i64 0] 28, .cells #[.string ⟨#[97]⟩, .slice (some ⟨w3.heap.size + 1 + 1 + 1 + 1, 0, none⟩) 2 2, .int .i64 0] 31, .cells #[.string ⟨#[97]⟩, .slice (some ⟨w3.heap.size + 1 + 1 + 1 + 1, 0, none⟩) 2 2, .int .i64 0] 31] : List Obj)[k]? = some o → w5.heap[w3.heap.size + k]? = some o := fun k o h => by
        rw [hw5]
        exact (heap_allocs [.cells #[.string ⟨#[]⟩, .bool false, .int .i64 0, .int .i64 0, .string C, .int .i64 11] 63, .cells #[.slice (some ⟨w3.heap.size, 0, none⟩) 1 1, .string ⟨#[]⟩, .bool false, .int .i64 0, .int .i64 0, .int .i64 0] 28, .cells #[.string ⟨#[]⟩, .bool false, .int .i64 0, .int .i64 0, .string ⟨#[123, 36, 53, 125]⟩, .int .i64 22] 63, .cells #[.slice (some ⟨w3.heap.size + 1 + 1, 0, none⟩) 1 1, .string ⟨#[]⟩, .bool false, .int .i64 0, .int .i64 0, .int .i64 0] 28, .cells #[.slice (some ⟨w3.heap.size, 0, none⟩) 1 1, .string ⟨#[]⟩, .bool false, .int .i64 0, .int .i64 0, .int .i64 0, .slice (some ⟨w3.heap.size + 1 + 1, 0, none⟩) 1 1, .string ⟨#[]⟩, .bool false, .int .i64 0, .int .i64 0, .int .i64 0] 28, .cells #[.string ⟨#[97]⟩, .slice (some ⟨w3.heap.size + 1 + 1 + 1 + 1, 0, none⟩) 2 2, .int .i64 0] 31, .cells #[.string ⟨#[97]⟩, .slice (some ⟨w3.heap.size + 1 + 1 + 1 + 1, 0, none⟩) 2 2, .int .i64 0] 31] w3 k (List.getElem?_eq_some_iff.1 h).1).trans h
      have hb5 : Below w3.heap.size w3 w5 := by rw [hw5]; exact below_allocs [.cells #[.string ⟨#[]⟩, .bool false, .int .i64 0, .int .i64 0, .string C, .int .i64 11] 63, .cells #[.slice (some ⟨w3.heap.size, 0, none⟩) 1 1, .string ⟨#[]⟩, .bool false, .int .i64 0, .int .i64 0, .int .i64 0] 28, .cells #[.string ⟨#[]⟩, .bool false, .int .i64 0, .int .i64 0, .string ⟨#[123, 36, 53, 125]⟩, .int .i64 22] 63, .cells #[.slice (some ⟨w3.heap.size + 1 + 1, 0, none⟩) 1 1, .string ⟨#[]⟩, .bool false, .int .i64 0, .int .i64 0, .int .i64 0] 28, .cells #[.slice (some ⟨w3.heap.size, 0, none⟩) 1 1, .string ⟨#[]⟩, .bool false, .int .i64 0, .int .i64 0, .int .i64 0, .slice (some ⟨w3.heap.size + 1 + 1, 0, none⟩) 1 1, .string ⟨#[]⟩, .bool false, .int .i64 0, .int .i64 0, .int .i64 0] 28, .cells #[.string ⟨#[97]⟩, .slice (some ⟨w3.heap.size + 1 + 1 + 1 + 1, 0, none⟩) 2 2, .int .i64 0] 31, .cells #[.string ⟨#[97]⟩, .slice (some ⟨w3.heap.size + 1 + 1 + 1 + 1, 0, none⟩) 2 2, .int .i64 0] 31] w3
      have hCe : C = ⟨(Sp.farCode m).toArray⟩ := HC.out
      have hPA : SlAt w5 (.slice (some ⟨w3.heap.size, 0, none⟩) 1 1) 6 ((Sp.farAlt m).parts.map partC) := by
        refine slAt_block (e := 63) ([Sp.codePart (Sp.farCode m) 11].map partC) 6 (fun r hr => by obtain ⟨q, _, rfl⟩ := List.mem_map.1 hr; rfl) ?_ (by simp [maxLen])
        have h2 := hH 0 _ rfl
        rw [hCe] at h2
        exact h2
      have hPB : SlAt w5 (.slice (some ⟨w3.heap.size + 1 + 1, 0, none⟩) 1 1) 6 (Sp.fiveAlt.parts.map partC) := slAt_block (e := 63) ([Sp.codePart [123, 36, 53, 125] 22].map partC) 6 (fun r hr => by obtain ⟨q, _, rfl⟩ := List.mem_map.1 hr; rfl) (hH 2 _ rfl) (by simp [maxLen])
      have hrul : RulesAt w5 (.slice (some ⟨w3.heap.size + 1 + 1 + 1 + 1 + 1 + 1, 0, none⟩) 1 1) (Sp.farSrc m false).rules := by
        refine ⟨fun _ => .slice (some ⟨w3.heap.size + 1 + 1 + 1 + 1, 0, none⟩) 2 2, slAt_block _ 3 (fun r hr => by simp [Sp.farSrc, ruleC] at hr; subst hr; rfl) (hH 6 _ rfl) (by simp [Sp.farSrc, maxLen]), fun i u hu => ?_⟩
        rcases i with _ | i
        · have hu2 : u = ⟨[97], [Sp.farAlt m, Sp.fiveAlt], 0⟩ := by simpa [Sp.farSrc] using hu.symm
          subst hu2
          refine ⟨fun j => if j = 0 then .slice (some ⟨w3.heap.size, 0, none⟩) 1 1 else .slice (some ⟨w3.heap.size + 1 + 1, 0, none⟩) 1 1, slAt_block _ 6 (fun r hr => by simp [altC] at hr; rcases hr with rfl | rfl <;> rfl) (hH 4 _ rfl) (by simp [maxLen]), fun j a ha => ?_⟩
          rcases j with _ | _ | j
          · have ha2 : a = Sp.farAlt m := by simpa using ha.symm
            subst ha2
            exact hPA
          · have ha2 : a = Sp.fiveAlt := by simpa using ha.symm
            subst ha2
            exact hPB
          · simp at ha
        · simp [Sp.farSrc] at hu
      have HGR := Lib.hid (show Calls Tryd.prog 16 #[.agg #[.string ⟨#[]⟩, .slice none 0 0, .slice (some ⟨w3.heap.size + 1 + 1 + 1 + 1 + 1 + 1, 0, none⟩) 1 1, .string ⟨#[]⟩]] w5 (fun e w' => Below w5.heap.size w5 w' ∧ ∃ gv, e = .returned (.tuple #[gv, .bool true]) ∧ GramOwn w' gv (Sp.farGram m false)) from by
        have h := ref16_Grammar (Sp.farSrc m false) _ _ w5 (decls_none w5) hrul (far_small m false hm) (Sp.far_inner m false)
        rw [Sp.far_gram m false hm] at h
        exact h)
      have HB5 := Lib.hid (HB3.out.trans (hb5.mono HB3.out.size))
      have hsz5 : W.heap.size + 2 ≤ w5.heap.size := by have := lt_at (hH 3 _ rfl); have := HB3.out.size; omega
      clear hH hb5 hrul hPA hPB hCe
      go_upto_region 14 with fail
      go_wp2_with fail
      rw [← hw5]
      clear hw5
      refine HGR.out.mono ?_
      rintro e w6 ⟨hb6, gv, rfl, hgo⟩
      have hga := hgo.at
      obtain ⟨B6, ta, tc, na, nc, pa, pc, rfl, _⟩ := hgo
      obtain ⟨w7, hw7⟩ : ∃ w7 : World, w7 = w6.alloc (.cells #[.slice ta (Sp.farGram m false).toks.length tc, .slice na (Sp.farGram m false).nons.length nc, .slice pa (Sp.farGram m false).prods.length pc, .string ⟨(Sp.farGram m false).pro.toArray⟩, .string ⟨(Sp.farGram m false).tail.toArray⟩] 46) := ⟨_, rfl⟩
      have hb7 : Below w5.heap.size w5 w7 := by rw [hw7]; exact hb6.alloc hb6.size _
      have hb67 : Below w6.heap.size w6 w7 := by rw [hw7]; exact (Below.refl _ w6).alloc (Nat.le_refl _) _
      have h7 : w7.heap[w6.heap.size]? = some (.cells #[.slice ta (Sp.farGram m false).toks.length tc, .slice na (Sp.farGram m false).nons.length nc, .slice pa (Sp.farGram m false).prods.length pc, .string ⟨(Sp.farGram m false).pro.toArray⟩, .string ⟨(Sp.farGram m false).tail.toArray⟩] 46 (0, 0)) := by rw [hw7]; exact heap_last w6 _
      have HB7 := Lib.hid (HB5.out.trans (hb7.mono HB5.out.size))
      have hgl7 : Gl w7 := HG.out.up HB7.out (by have := hb7.size; have := HG.out.2.1; omega)
      have HAL := Lib.hid (show Calls Tryd.prog 17 _ w7 (fun e w' => Below w7.heap.size w7 w' ∧ ∃ lv, e = .returned (.tuple #[lv, faultV (Sp.farRes m false)]) ∧ w'.ownsRow w7.heap.size 9 1 lv 0 []) from by
        have h := subst_All (Sp.farGram m false) _ w7 (hga.below hb67) hgl7 (by simp [Sp.farGram]) (by simp [Sp.farGram]) (by simp [Sp.farGram]) (Sp.far_good m false hm).1 (Sp.far_good m false hm).2
        rw [Sp.far_sub m false hm] at h
        exact h)
      have g0 := cell_at (i := 0) h7; have g1 := cell_at (i := 1) h7; have g2 := cell_at (i := 2) h7; have g3 := cell_at (i := 3) h7; have g4 := cell_at (i := 4) h7
      have lg := lt_at h7
      clear hb6 hga hb7 hb67 h7 hgl7 HGR
      go_upto_region 15 with fail
      rw [← hw7]
      clear hw7
      go_wp2_with fail
      refine HAL.out.mono ?_
      rintro e w8 ⟨hb8, lv, rfl, hrow⟩
      obtain ⟨la, lc, rfl⟩ := ownsRowS_some hrow
      rw [show faultV (Sp.farRes m false) = .agg #[.int .i64 6, .int .i64 11, .string ⟨([] : List UInt8).toArray⟩] from by unfold Sp.farRes Sp.farName faultV; rw [if_neg (by simp), if_pos h9]]
      have hb9 : Below w8.heap.size w8 (w8.alloc (.cells #[.int .i64 6, .int .i64 11, .string ⟨([] : List UInt8).toArray⟩] 49)) := (Below.refl _ w8).alloc (Nat.le_refl _) _
      obtain ⟨w9, hw9⟩ : ∃ w9 : World, w9 = w8.alloc (.cells #[.int .i64 6, .int .i64 11, .string ⟨([] : List UInt8).toArray⟩] 49) := ⟨_, rfl⟩
      have h9' : w9.heap[w8.heap.size]? = some (.cells #[.int .i64 6, .int .i64 11, .string ⟨([] : List UInt8).toArray⟩] 49 (0, 0)) := by rw [hw9]; exact heap_last w8 _
      rw [← hw9] at hb9
      have HB9 := Lib.hid (HB7.out.trans ((hb8.trans (hb9.mono hb8.size)).mono HB7.out.size))
      have q0 := cell_at (i := 0) h9'; have q1 := cell_at (i := 1) h9'; have q2 := cell_at (i := 2) h9'
      have lq := lt_at h9'
      clear hb8 hb9 h9' hrow g0 g1 g2 g3 g4 lg HAL
      go_upto_region 16 with fail
      rw [← hw9]
      generalize hfb : w8.heap.size = fb at *
      clear hw9 hfb
      go_wp2_with fail
      refine (ref_EqFaultG 6 11 6 11 [] [] _).mono ?_
      rintro e w11 ⟨rfl, hb11⟩
      rw [show decide (((6 : Int) = 6 ∧ (11 : Int) = 11) ∧ ([] : List UInt8) = []) = true by simp]
      have HB11 := Lib.hid (HB9.out.trans (hb11.mono HB9.out.size))
      clear hb11 q0 q1 q2 lq
      go_wp2_with fail
      go_ret
      exact ⟨rfl, HB11.out⟩
    | true =>
      have hBody : ∃ w5 : World, w5 = ((((((((w3.alloc (.cells #[.string ⟨#[]⟩, .bool false, .int .i64 0, .int .i64 0, .string C, .int .i64 11] 63)).alloc (.cells #[.slice (some ⟨w3.heap.size, 0, none⟩) 1 1, .string ⟨#[]⟩, .bool false, .int .i64 0, .int .i64 0, .int .i64 0] 28)).alloc (.cells #[.string ⟨#[]⟩, .bool false, .int .i64 0, .int .i64 0, .string ⟨#[123, 36, 53, 125]⟩, .int .i64 22] 63)).alloc (.cells #[.slice (some ⟨w3.heap.size + 1 + 1, 0, none⟩) 1 1, .string ⟨#[]⟩, .bool false, .int .i64 0, .int .i64 0, .int .i64 0] 28)).alloc (.cells #[.slice (some ⟨w3.heap.size, 0, none⟩) 1 1, .string ⟨#[]⟩, .bool false, .int .i64 0, .int .i64 0, .int .i64 0, .slice (some ⟨w3.heap.size + 1 + 1, 0, none⟩) 1 1, .string ⟨#[]⟩, .bool false, .int .i64 0, .int .i64 0, .int .i64 0] 28)).alloc (.cells #[.string ⟨#[97]⟩, .slice (some ⟨w3.heap.size + 1 + 1 + 1 + 1 + 1 + 1, 0, none⟩) 2 2, .int .i64 0] 31)).alloc (.cells #[.slice (some ⟨w3.heap.size + 1 + 1, 0, none⟩) 1 1, .string ⟨#[]⟩, .bool false, .int .i64 0, .int .i64 0, .int .i64 0, .slice (some ⟨w3.heap.size, 0, none⟩) 1 1, .string ⟨#[]⟩, .bool false, .int .i64 0, .int .i64 0, .int .i64 0] 28)).alloc (.cells #[.string ⟨#[97]⟩, .slice (some ⟨w3.heap.size + 1 + 1 + 1 + 1 + 1 + 1, 0, none⟩) 2 2, .int .i64 0] 31)) := ⟨_, rfl⟩
      obtain ⟨w5, hw5⟩ := hBody
      have hH : ∀ k o, ([.cells #[.string ⟨#[]⟩, .bool false, .int .i64 0, .int .i64 0, .string C, .int .i64 11] 63, .cells #[.slice (some ⟨w3.heap.size, 0, none⟩) 1 1, .string ⟨#[]⟩, .bool false, .int .i64 0, .int .i64 0, .int .i64 0] 28, .cells #[.string ⟨#[]⟩, .bool false, .int .i64 0, .int .i64 0, .string ⟨#[123, 36, 53, 125]⟩, .int .i64 22] 63, .cells #[.slice (some ⟨w3.heap.size + 1 + 1, 0, none⟩) 1 1, .string ⟨#[]⟩, .bool false, .int .i64 0, .int .i64 0, .int .i64 0] 28, .cells #[.slice (some ⟨w3.heap.size, 0, none⟩) 1 1, .string ⟨#[]⟩, .bool false, .int .i64 0, .int .i64 0, .int .i64 0, .slice (some ⟨w3.heap.size + 1 + 1, 0, none⟩) 1 1, .string ⟨#[]⟩, .bool false, .int .i64 0, .int .i64 0, .int .i64 0] 28, .cells #[.string ⟨#[97]⟩, .slice (some ⟨w3.heap.size + 1 + 1 + 1 + 1 + 1 + 1, 0, none⟩) 2 2, .int .i64 0] 31, .cells #[.slice (some ⟨w3.heap.size + 1 + 1, 0, none⟩) 1 1, .string ⟨#[]⟩, .bool false, .int .i64 0, .int .i64 0, .int .i64 0, .slice (some ⟨w3.heap.size, 0, none⟩) 1 1, .string ⟨#[]⟩, .bool false, .int .i64 0, .int .i64 0, .int .i64 0] 28, .cells #[.string ⟨#[97]⟩, .slice (some ⟨w3.heap.size + 1 + 1 + 1 + 1 + 1 + 1, 0, none⟩) 2 2, .int .i64 0] 31] : List Obj)[k]? = some o → w5.heap[w3.heap.size + k]? = some o := fun k o h => by
        rw [hw5]
        exact (heap_allocs [.cells #[.string ⟨#[]⟩, .bool false, .int .i64 0, .int .i64 0, .string C, .int .i64 11] 63, .cells #[.slice (some ⟨w3.heap.size, 0, none⟩) 1 1, .string ⟨#[]⟩, .bool false, .int .i64 0, .int .i64 0, .int .i64 0] 28, .cells #[.string ⟨#[]⟩, .bool false, .int .i64 0, .int .i64 0, .string ⟨#[123, 36, 53, 125]⟩, .int .i64 22] 63, .cells #[.slice (some ⟨w3.heap.size + 1 + 1, 0, none⟩) 1 1, .string ⟨#[]⟩, .bool false, .int .i64 0, .int .i64 0, .int .i64 0] 28, .cells #[.slice (some ⟨w3.heap.size, 0, none⟩) 1 1, .string ⟨#[]⟩, .bool false, .int .i64 0, .int .i64 0, .int .i64 0, .slice (some ⟨w3.heap.size + 1 + 1, 0, none⟩) 1 1, .string ⟨#[]⟩, .bool false, .int .i64 0, .int .i64 0, .int .i64 0] 28, .cells #[.string ⟨#[97]⟩, .slice (some ⟨w3.heap.size + 1 + 1 + 1 + 1 + 1 + 1, 0, none⟩) 2 2, .int .i64 0] 31, .cells #[.slice (some ⟨w3.heap.size + 1 + 1, 0, none⟩) 1 1, .string ⟨#[]⟩, .bool false, .int .i64 0, .int .i64 0, .int .i64 0, .slice (some ⟨w3.heap.size, 0, none⟩) 1 1, .string ⟨#[]⟩, .bool false, .int .i64 0, .int .i64 0, .int .i64 0] 28, .cells #[.string ⟨#[97]⟩, .slice (some ⟨w3.heap.size + 1 + 1 + 1 + 1 + 1 + 1, 0, none⟩) 2 2, .int .i64 0] 31] w3 k (List.getElem?_eq_some_iff.1 h).1).trans h
      have hb5 : Below w3.heap.size w3 w5 := by rw [hw5]; exact below_allocs [.cells #[.string ⟨#[]⟩, .bool false, .int .i64 0, .int .i64 0, .string C, .int .i64 11] 63, .cells #[.slice (some ⟨w3.heap.size, 0, none⟩) 1 1, .string ⟨#[]⟩, .bool false, .int .i64 0, .int .i64 0, .int .i64 0] 28, .cells #[.string ⟨#[]⟩, .bool false, .int .i64 0, .int .i64 0, .string ⟨#[123, 36, 53, 125]⟩, .int .i64 22] 63, .cells #[.slice (some ⟨w3.heap.size + 1 + 1, 0, none⟩) 1 1, .string ⟨#[]⟩, .bool false, .int .i64 0, .int .i64 0, .int .i64 0] 28, .cells #[.slice (some ⟨w3.heap.size, 0, none⟩) 1 1, .string ⟨#[]⟩, .bool false, .int .i64 0, .int .i64 0, .int .i64 0, .slice (some ⟨w3.heap.size + 1 + 1, 0, none⟩) 1 1, .string ⟨#[]⟩, .bool false, .int .i64 0, .int .i64 0, .int .i64 0] 28, .cells #[.string ⟨#[97]⟩, .slice (some ⟨w3.heap.size + 1 + 1 + 1 + 1 + 1 + 1, 0, none⟩) 2 2, .int .i64 0] 31, .cells #[.slice (some ⟨w3.heap.size + 1 + 1, 0, none⟩) 1 1, .string ⟨#[]⟩, .bool false, .int .i64 0, .int .i64 0, .int .i64 0, .slice (some ⟨w3.heap.size, 0, none⟩) 1 1, .string ⟨#[]⟩, .bool false, .int .i64 0, .int .i64 0, .int .i64 0] 28, .cells #[.string ⟨#[97]⟩, .slice (some ⟨w3.heap.size + 1 + 1 + 1 + 1 + 1 + 1, 0, none⟩) 2 2, .int .i64 0] 31] w3
      have hCe : C = ⟨(Sp.farCode m).toArray⟩ := HC.out
      have hPA : SlAt w5 (.slice (some ⟨w3.heap.size, 0, none⟩) 1 1) 6 ((Sp.farAlt m).parts.map partC) := by
        refine slAt_block (e := 63) ([Sp.codePart (Sp.farCode m) 11].map partC) 6 (fun r hr => by obtain ⟨q, _, rfl⟩ := List.mem_map.1 hr; rfl) ?_ (by simp [maxLen])
        have h2 := hH 0 _ rfl
        rw [hCe] at h2
        exact h2
      have hPB : SlAt w5 (.slice (some ⟨w3.heap.size + 1 + 1, 0, none⟩) 1 1) 6 (Sp.fiveAlt.parts.map partC) := slAt_block (e := 63) ([Sp.codePart [123, 36, 53, 125] 22].map partC) 6 (fun r hr => by obtain ⟨q, _, rfl⟩ := List.mem_map.1 hr; rfl) (hH 2 _ rfl) (by simp [maxLen])
      have hrul : RulesAt w5 (.slice (some ⟨w3.heap.size + 1 + 1 + 1 + 1 + 1 + 1 + 1, 0, none⟩) 1 1) (Sp.farSrc m true).rules := by
        refine ⟨fun _ => .slice (some ⟨w3.heap.size + 1 + 1 + 1 + 1 + 1 + 1, 0, none⟩) 2 2, slAt_block _ 3 (fun r hr => by simp [Sp.farSrc, ruleC] at hr; subst hr; rfl) (hH 7 _ rfl) (by simp [Sp.farSrc, maxLen]), fun i u hu => ?_⟩
        rcases i with _ | i
        · have hu2 : u = ⟨[97], [Sp.fiveAlt, Sp.farAlt m], 0⟩ := by simpa [Sp.farSrc] using hu.symm
          subst hu2
          refine ⟨fun j => if j = 0 then .slice (some ⟨w3.heap.size + 1 + 1, 0, none⟩) 1 1 else .slice (some ⟨w3.heap.size, 0, none⟩) 1 1, slAt_block _ 6 (fun r hr => by simp [altC] at hr; rcases hr with rfl | rfl <;> rfl) (hH 6 _ rfl) (by simp [maxLen]), fun j a ha => ?_⟩
          rcases j with _ | _ | j
          · have ha2 : a = Sp.fiveAlt := by simpa using ha.symm
            subst ha2
            exact hPB
          · have ha2 : a = Sp.farAlt m := by simpa using ha.symm
            subst ha2
            exact hPA
          · simp at ha
        · simp [Sp.farSrc] at hu
      have HGR := Lib.hid (show Calls Tryd.prog 16 #[.agg #[.string ⟨#[]⟩, .slice none 0 0, .slice (some ⟨w3.heap.size + 1 + 1 + 1 + 1 + 1 + 1 + 1, 0, none⟩) 1 1, .string ⟨#[]⟩]] w5 (fun e w' => Below w5.heap.size w5 w' ∧ ∃ gv, e = .returned (.tuple #[gv, .bool true]) ∧ GramOwn w' gv (Sp.farGram m true)) from by
        have h := ref16_Grammar (Sp.farSrc m true) _ _ w5 (decls_none w5) hrul (far_small m true hm) (Sp.far_inner m true)
        rw [Sp.far_gram m true hm] at h
        exact h)
      have HB5 := Lib.hid (HB3.out.trans (hb5.mono HB3.out.size))
      have hsz5 : W.heap.size + 2 ≤ w5.heap.size := by have := lt_at (hH 3 _ rfl); have := HB3.out.size; omega
      clear hH hb5 hrul hPA hPB hCe
      go_upto_region 14 with fail
      go_wp2_with fail
      rw [← hw5]
      clear hw5
      refine HGR.out.mono ?_
      rintro e w6 ⟨hb6, gv, rfl, hgo⟩
      have hga := hgo.at
      obtain ⟨B6, ta, tc, na, nc, pa, pc, rfl, _⟩ := hgo
      obtain ⟨w7, hw7⟩ : ∃ w7 : World, w7 = w6.alloc (.cells #[.slice ta (Sp.farGram m true).toks.length tc, .slice na (Sp.farGram m true).nons.length nc, .slice pa (Sp.farGram m true).prods.length pc, .string ⟨(Sp.farGram m true).pro.toArray⟩, .string ⟨(Sp.farGram m true).tail.toArray⟩] 46) := ⟨_, rfl⟩
      have hb7 : Below w5.heap.size w5 w7 := by rw [hw7]; exact hb6.alloc hb6.size _
      have hb67 : Below w6.heap.size w6 w7 := by rw [hw7]; exact (Below.refl _ w6).alloc (Nat.le_refl _) _
      have h7 : w7.heap[w6.heap.size]? = some (.cells #[.slice ta (Sp.farGram m true).toks.length tc, .slice na (Sp.farGram m true).nons.length nc, .slice pa (Sp.farGram m true).prods.length pc, .string ⟨(Sp.farGram m true).pro.toArray⟩, .string ⟨(Sp.farGram m true).tail.toArray⟩] 46 (0, 0)) := by rw [hw7]; exact heap_last w6 _
      have HB7 := Lib.hid (HB5.out.trans (hb7.mono HB5.out.size))
      have hgl7 : Gl w7 := HG.out.up HB7.out (by have := hb7.size; have := HG.out.2.1; omega)
      have HAL := Lib.hid (show Calls Tryd.prog 17 _ w7 (fun e w' => Below w7.heap.size w7 w' ∧ ∃ lv, e = .returned (.tuple #[lv, faultV (Sp.farRes m true)]) ∧ w'.ownsRow w7.heap.size 9 1 lv 0 []) from by
        have h := subst_All (Sp.farGram m true) _ w7 (hga.below hb67) hgl7 (by simp [Sp.farGram]) (by simp [Sp.farGram]) (by simp [Sp.farGram]) (Sp.far_good m true hm).1 (Sp.far_good m true hm).2
        rw [Sp.far_sub m true hm] at h
        exact h)
      have g0 := cell_at (i := 0) h7; have g1 := cell_at (i := 1) h7; have g2 := cell_at (i := 2) h7; have g3 := cell_at (i := 3) h7; have g4 := cell_at (i := 4) h7
      have lg := lt_at h7
      clear hb6 hga hb7 hb67 h7 hgl7 HGR
      go_upto_region 15 with fail
      rw [← hw7]
      clear hw7
      go_wp2_with fail
      refine HAL.out.mono ?_
      rintro e w8 ⟨hb8, lv, rfl, hrow⟩
      obtain ⟨la, lc, rfl⟩ := ownsRowS_some hrow
      rw [show faultV (Sp.farRes m true) = .agg #[.int .i64 6, .int .i64 22, .string ⟨([36, 53] : List UInt8).toArray⟩] from rfl]
      have hb9 : Below w8.heap.size w8 (w8.alloc (.cells #[.int .i64 6, .int .i64 22, .string ⟨([36, 53] : List UInt8).toArray⟩] 49)) := (Below.refl _ w8).alloc (Nat.le_refl _) _
      obtain ⟨w9, hw9⟩ : ∃ w9 : World, w9 = w8.alloc (.cells #[.int .i64 6, .int .i64 22, .string ⟨([36, 53] : List UInt8).toArray⟩] 49) := ⟨_, rfl⟩
      have h9' : w9.heap[w8.heap.size]? = some (.cells #[.int .i64 6, .int .i64 22, .string ⟨([36, 53] : List UInt8).toArray⟩] 49 (0, 0)) := by rw [hw9]; exact heap_last w8 _
      rw [← hw9] at hb9
      have HB9 := Lib.hid (HB7.out.trans ((hb8.trans (hb9.mono hb8.size)).mono HB7.out.size))
      have q0 := cell_at (i := 0) h9'; have q1 := cell_at (i := 1) h9'; have q2 := cell_at (i := 2) h9'
      have lq := lt_at h9'
      clear hb8 hb9 h9' hrow g0 g1 g2 g3 g4 lg HAL
      go_upto_region 16 with fail
      rw [← hw9]
      generalize hfb : w8.heap.size = fb at *
      clear hw9 hfb
      go_wp2_with fail
      refine (ref_EqFaultG 6 22 6 22 [36, 53] [36, 53] _).mono ?_
      rintro e w11 ⟨rfl, hb11⟩
      rw [show decide (((6 : Int) = 6 ∧ (22 : Int) = 22) ∧ ([36, 53] : List UInt8) = [36, 53]) = true by simp]
      have HB11 := Lib.hid (HB9.out.trans (hb11.mono HB9.out.size))
      clear hb11 q0 q1 q2 lq
      go_wp2_with fail
      go_ret
      exact ⟨rfl, HB11.out⟩
  · have h9i : ¬ (999 : Int) < (m : Int) := by omega
    cases first with
    | false =>
      have hBody : ∃ w5 : World, w5 = (((((((w3.alloc (.cells #[.string ⟨#[]⟩, .bool false, .int .i64 0, .int .i64 0, .string C, .int .i64 11] 63)).alloc (.cells #[.slice (some ⟨w3.heap.size, 0, none⟩) 1 1, .string ⟨#[]⟩, .bool false, .int .i64 0, .int .i64 0, .int .i64 0] 28)).alloc (.cells #[.string ⟨#[]⟩, .bool false, .int .i64 0, .int .i64 0, .string ⟨#[123, 36, 53, 125]⟩, .int .i64 22] 63)).alloc (.cells #[.slice (some ⟨w3.heap.size + 1 + 1, 0, none⟩) 1 1, .string ⟨#[]⟩, .bool false, .int .i64 0, .int .i64 0, .int .i64 0] 28)).alloc (.cells #[.slice (some ⟨w3.heap.size, 0, none⟩) 1 1, .string ⟨#[]⟩, .bool false, .int .i64 0, .int .i64 0, .int .i64 0, .slice (some ⟨w3.heap.size + 1 + 1, 0, none⟩) 1 1, .string ⟨#[]⟩, .bool false, .int .i64 0, .int .i64 0, .int .i64 0] 28)).alloc (.cells #[.string ⟨#[97]⟩, .slice (some ⟨w3.heap.size + 1 + 1 + 1 + 1, 0, none⟩) 2 2, .int .i64 0] 31)).alloc (.cells #[.string ⟨#[97]⟩, .slice (some ⟨w3.heap.size + 1 + 1 + 1 + 1, 0, none⟩) 2 2, .int .i64 0] 31)) := ⟨_, rfl⟩
      obtain ⟨w5, hw5⟩ := hBody
      have hH : ∀ k o, ([.cells #[.string ⟨#[]⟩, .bool false, .int .i64 0, .int .i64 0, .string C, .int .i64 11] 63, .cells #[.slice (some ⟨w3.heap.size, 0, none⟩) 1 1, .string ⟨#[]⟩, .bool false, .int .i64 0, .int .i64 0, .int .i64 0] 28, .cells #[.string ⟨#[]⟩, .bool false, .int .i64 0, .int .i64 0, .string ⟨#[123, 36, 53, 125]⟩, .int .i64 22] 63, .cells #[.slice (some ⟨w3.heap.size + 1 + 1, 0, none⟩) 1 1, .string ⟨#[]⟩, .bool false, .int .i64 0, .int .i64 0, .int .i64 0] 28, .cells #[.slice (some ⟨w3.heap.size, 0, none⟩) 1 1, .string ⟨#[]⟩, .bool false, .int .i64 0, .int .i64 0, .int .i64 0, .slice (some ⟨w3.heap.size + 1 + 1, 0, none⟩) 1 1, .string ⟨#[]⟩, .bool false, .int .i64 0, .int .i64 0, .int .i64 0] 28, .cells #[.string ⟨#[97]⟩, .slice (some ⟨w3.heap.size + 1 + 1 + 1 + 1, 0, none⟩) 2 2, .int .i64 0] 31, .cells #[.string ⟨#[97]⟩, .slice (some ⟨w3.heap.size + 1 + 1 + 1 + 1, 0, none⟩) 2 2, .int .i64 0] 31] : List Obj)[k]? = some o → w5.heap[w3.heap.size + k]? = some o := fun k o h => by
        rw [hw5]
        exact (heap_allocs [.cells #[.string ⟨#[]⟩, .bool false, .int .i64 0, .int .i64 0, .string C, .int .i64 11] 63, .cells #[.slice (some ⟨w3.heap.size, 0, none⟩) 1 1, .string ⟨#[]⟩, .bool false, .int .i64 0, .int .i64 0, .int .i64 0] 28, .cells #[.string ⟨#[]⟩, .bool false, .int .i64 0, .int .i64 0, .string ⟨#[123, 36, 53, 125]⟩, .int .i64 22] 63, .cells #[.slice (some ⟨w3.heap.size + 1 + 1, 0, none⟩) 1 1, .string ⟨#[]⟩, .bool false, .int .i64 0, .int .i64 0, .int .i64 0] 28, .cells #[.slice (some ⟨w3.heap.size, 0, none⟩) 1 1, .string ⟨#[]⟩, .bool false, .int .i64 0, .int .i64 0, .int .i64 0, .slice (some ⟨w3.heap.size + 1 + 1, 0, none⟩) 1 1, .string ⟨#[]⟩, .bool false, .int .i64 0, .int .i64 0, .int .i64 0] 28, .cells #[.string ⟨#[97]⟩, .slice (some ⟨w3.heap.size + 1 + 1 + 1 + 1, 0, none⟩) 2 2, .int .i64 0] 31, .cells #[.string ⟨#[97]⟩, .slice (some ⟨w3.heap.size + 1 + 1 + 1 + 1, 0, none⟩) 2 2, .int .i64 0] 31] w3 k (List.getElem?_eq_some_iff.1 h).1).trans h
      have hb5 : Below w3.heap.size w3 w5 := by rw [hw5]; exact below_allocs [.cells #[.string ⟨#[]⟩, .bool false, .int .i64 0, .int .i64 0, .string C, .int .i64 11] 63, .cells #[.slice (some ⟨w3.heap.size, 0, none⟩) 1 1, .string ⟨#[]⟩, .bool false, .int .i64 0, .int .i64 0, .int .i64 0] 28, .cells #[.string ⟨#[]⟩, .bool false, .int .i64 0, .int .i64 0, .string ⟨#[123, 36, 53, 125]⟩, .int .i64 22] 63, .cells #[.slice (some ⟨w3.heap.size + 1 + 1, 0, none⟩) 1 1, .string ⟨#[]⟩, .bool false, .int .i64 0, .int .i64 0, .int .i64 0] 28, .cells #[.slice (some ⟨w3.heap.size, 0, none⟩) 1 1, .string ⟨#[]⟩, .bool false, .int .i64 0, .int .i64 0, .int .i64 0, .slice (some ⟨w3.heap.size + 1 + 1, 0, none⟩) 1 1, .string ⟨#[]⟩, .bool false, .int .i64 0, .int .i64 0, .int .i64 0] 28, .cells #[.string ⟨#[97]⟩, .slice (some ⟨w3.heap.size + 1 + 1 + 1 + 1, 0, none⟩) 2 2, .int .i64 0] 31, .cells #[.string ⟨#[97]⟩, .slice (some ⟨w3.heap.size + 1 + 1 + 1 + 1, 0, none⟩) 2 2, .int .i64 0] 31] w3
      have hCe : C = ⟨(Sp.farCode m).toArray⟩ := HC.out
      have hPA : SlAt w5 (.slice (some ⟨w3.heap.size, 0, none⟩) 1 1) 6 ((Sp.farAlt m).parts.map partC) := by
        refine slAt_block (e := 63) ([Sp.codePart (Sp.farCode m) 11].map partC) 6 (fun r hr => by obtain ⟨q, _, rfl⟩ := List.mem_map.1 hr; rfl) ?_ (by simp [maxLen])
        have h2 := hH 0 _ rfl
        rw [hCe] at h2
        exact h2
      have hPB : SlAt w5 (.slice (some ⟨w3.heap.size + 1 + 1, 0, none⟩) 1 1) 6 (Sp.fiveAlt.parts.map partC) := slAt_block (e := 63) ([Sp.codePart [123, 36, 53, 125] 22].map partC) 6 (fun r hr => by obtain ⟨q, _, rfl⟩ := List.mem_map.1 hr; rfl) (hH 2 _ rfl) (by simp [maxLen])
      have hrul : RulesAt w5 (.slice (some ⟨w3.heap.size + 1 + 1 + 1 + 1 + 1 + 1, 0, none⟩) 1 1) (Sp.farSrc m false).rules := by
        refine ⟨fun _ => .slice (some ⟨w3.heap.size + 1 + 1 + 1 + 1, 0, none⟩) 2 2, slAt_block _ 3 (fun r hr => by simp [Sp.farSrc, ruleC] at hr; subst hr; rfl) (hH 6 _ rfl) (by simp [Sp.farSrc, maxLen]), fun i u hu => ?_⟩
        rcases i with _ | i
        · have hu2 : u = ⟨[97], [Sp.farAlt m, Sp.fiveAlt], 0⟩ := by simpa [Sp.farSrc] using hu.symm
          subst hu2
          refine ⟨fun j => if j = 0 then .slice (some ⟨w3.heap.size, 0, none⟩) 1 1 else .slice (some ⟨w3.heap.size + 1 + 1, 0, none⟩) 1 1, slAt_block _ 6 (fun r hr => by simp [altC] at hr; rcases hr with rfl | rfl <;> rfl) (hH 4 _ rfl) (by simp [maxLen]), fun j a ha => ?_⟩
          rcases j with _ | _ | j
          · have ha2 : a = Sp.farAlt m := by simpa using ha.symm
            subst ha2
            exact hPA
          · have ha2 : a = Sp.fiveAlt := by simpa using ha.symm
            subst ha2
            exact hPB
          · simp at ha
        · simp [Sp.farSrc] at hu
      have HGR := Lib.hid (show Calls Tryd.prog 16 #[.agg #[.string ⟨#[]⟩, .slice none 0 0, .slice (some ⟨w3.heap.size + 1 + 1 + 1 + 1 + 1 + 1, 0, none⟩) 1 1, .string ⟨#[]⟩]] w5 (fun e w' => Below w5.heap.size w5 w' ∧ ∃ gv, e = .returned (.tuple #[gv, .bool true]) ∧ GramOwn w' gv (Sp.farGram m false)) from by
        have h := ref16_Grammar (Sp.farSrc m false) _ _ w5 (decls_none w5) hrul (far_small m false hm) (Sp.far_inner m false)
        rw [Sp.far_gram m false hm] at h
        exact h)
      have HB5 := Lib.hid (HB3.out.trans (hb5.mono HB3.out.size))
      have hsz5 : W.heap.size + 2 ≤ w5.heap.size := by have := lt_at (hH 3 _ rfl); have := HB3.out.size; omega
      clear hH hb5 hrul hPA hPB hCe
      go_upto_region 14 with fail
      go_wp2_with fail
      rw [← hw5]
      clear hw5
      refine HGR.out.mono ?_
      rintro e w6 ⟨hb6, gv, rfl, hgo⟩
      have hga := hgo.at
      obtain ⟨B6, ta, tc, na, nc, pa, pc, rfl, _⟩ := hgo
      obtain ⟨w7, hw7⟩ : ∃ w7 : World, w7 = w6.alloc (.cells #[.slice ta (Sp.farGram m false).toks.length tc, .slice na (Sp.farGram m false).nons.length nc, .slice pa (Sp.farGram m false).prods.length pc, .string ⟨(Sp.farGram m false).pro.toArray⟩, .string ⟨(Sp.farGram m false).tail.toArray⟩] 46) := ⟨_, rfl⟩
      have hb7 : Below w5.heap.size w5 w7 := by rw [hw7]; exact hb6.alloc hb6.size _
      have hb67 : Below w6.heap.size w6 w7 := by rw [hw7]; exact (Below.refl _ w6).alloc (Nat.le_refl _) _
      have h7 : w7.heap[w6.heap.size]? = some (.cells #[.slice ta (Sp.farGram m false).toks.length tc, .slice na (Sp.farGram m false).nons.length nc, .slice pa (Sp.farGram m false).prods.length pc, .string ⟨(Sp.farGram m false).pro.toArray⟩, .string ⟨(Sp.farGram m false).tail.toArray⟩] 46 (0, 0)) := by rw [hw7]; exact heap_last w6 _
      have HB7 := Lib.hid (HB5.out.trans (hb7.mono HB5.out.size))
      have hgl7 : Gl w7 := HG.out.up HB7.out (by have := hb7.size; have := HG.out.2.1; omega)
      have HAL := Lib.hid (show Calls Tryd.prog 17 _ w7 (fun e w' => Below w7.heap.size w7 w' ∧ ∃ lv, e = .returned (.tuple #[lv, faultV (Sp.farRes m false)]) ∧ w'.ownsRow w7.heap.size 9 1 lv 0 []) from by
        have h := subst_All (Sp.farGram m false) _ w7 (hga.below hb67) hgl7 (by simp [Sp.farGram]) (by simp [Sp.farGram]) (by simp [Sp.farGram]) (Sp.far_good m false hm).1 (Sp.far_good m false hm).2
        rw [Sp.far_sub m false hm] at h
        exact h)
      have g0 := cell_at (i := 0) h7; have g1 := cell_at (i := 1) h7; have g2 := cell_at (i := 2) h7; have g3 := cell_at (i := 3) h7; have g4 := cell_at (i := 4) h7
      have lg := lt_at h7
      clear hb6 hga hb7 hb67 h7 hgl7 HGR
      go_upto_region 15 with fail
      rw [← hw7]
      clear hw7
      go_wp2_with fail
      refine HAL.out.mono ?_
      rintro e w8 ⟨hb8, lv, rfl, hrow⟩
      obtain ⟨la, lc, rfl⟩ := ownsRowS_some hrow
      rw [show faultV (Sp.farRes m false) = .agg #[.int .i64 6, .int .i64 11, .string ⟨((36 :: it) : List UInt8).toArray⟩] from by unfold Sp.farRes Sp.farName faultV; rw [if_neg (by simp), if_neg h9, ← HIT.out]]
      have hb9 : Below w8.heap.size w8 (w8.alloc (.cells #[.int .i64 6, .int .i64 11, .string ⟨((36 :: it) : List UInt8).toArray⟩] 49)) := (Below.refl _ w8).alloc (Nat.le_refl _) _
      obtain ⟨w9, hw9⟩ : ∃ w9 : World, w9 = w8.alloc (.cells #[.int .i64 6, .int .i64 11, .string ⟨((36 :: it) : List UInt8).toArray⟩] 49) := ⟨_, rfl⟩
      have h9' : w9.heap[w8.heap.size]? = some (.cells #[.int .i64 6, .int .i64 11, .string ⟨((36 :: it) : List UInt8).toArray⟩] 49 (0, 0)) := by rw [hw9]; exact heap_last w8 _
      rw [← hw9] at hb9
      have HB9 := Lib.hid (HB7.out.trans ((hb8.trans (hb9.mono hb8.size)).mono HB7.out.size))
      have q0 := cell_at (i := 0) h9'; have q1 := cell_at (i := 1) h9'; have q2 := cell_at (i := 2) h9'
      have lq := lt_at h9'
      clear hb8 hb9 h9' hrow g0 g1 g2 g3 g4 lg HAL
      go_upto_region 16 with fail
      rw [← hw9]
      generalize hfb : w8.heap.size = fb at *
      clear hw9 hfb
      go_wp2_with fail
      rw [show (⟨#[36]⟩ : ByteArray) ++ (⟨it.toArray⟩ : ByteArray) = ⟨(36 :: it).toArray⟩ from by apply ByteArray.ext; rw [ByteArray.data_append]; simp]
      refine (ref_EqFaultG 6 11 6 11 (36 :: it) (36 :: it) _).mono ?_
      rintro e w11 ⟨rfl, hb11⟩
      rw [show decide (((6 : Int) = 6 ∧ (11 : Int) = 11) ∧ ((36 :: it) : List UInt8) = (36 :: it)) = true by simp]
      have HB11 := Lib.hid (HB9.out.trans (hb11.mono HB9.out.size))
      clear hb11 q0 q1 q2 lq
      go_wp2_with fail
      go_ret
      exact ⟨rfl, HB11.out⟩
    | true =>
      have hBody : ∃ w5 : World, w5 = ((((((((w3.alloc (.cells #[.string ⟨#[]⟩, .bool false, .int .i64 0, .int .i64 0, .string C, .int .i64 11] 63)).alloc (.cells #[.slice (some ⟨w3.heap.size, 0, none⟩) 1 1, .string ⟨#[]⟩, .bool false, .int .i64 0, .int .i64 0, .int .i64 0] 28)).alloc (.cells #[.string ⟨#[]⟩, .bool false, .int .i64 0, .int .i64 0, .string ⟨#[123, 36, 53, 125]⟩, .int .i64 22] 63)).alloc (.cells #[.slice (some ⟨w3.heap.size + 1 + 1, 0, none⟩) 1 1, .string ⟨#[]⟩, .bool false, .int .i64 0, .int .i64 0, .int .i64 0] 28)).alloc (.cells #[.slice (some ⟨w3.heap.size, 0, none⟩) 1 1, .string ⟨#[]⟩, .bool false, .int .i64 0, .int .i64 0, .int .i64 0, .slice (some ⟨w3.heap.size + 1 + 1, 0, none⟩) 1 1, .string ⟨#[]⟩, .bool false, .int .i64 0, .int .i64 0, .int .i64 0] 28)).alloc (.cells #[.string ⟨#[97]⟩, .slice (some ⟨w3.heap.size + 1 + 1 + 1 + 1 + 1 + 1, 0, none⟩) 2 2, .int .i64 0] 31)).alloc (.cells #[.slice (some ⟨w3.heap.size + 1 + 1, 0, none⟩) 1 1, .string ⟨#[]⟩, .bool false, .int .i64 0, .int .i64 0, .int .i64 0, .slice (some ⟨w3.heap.size, 0, none⟩) 1 1, .string ⟨#[]⟩, .bool false, .int .i64 0, .int .i64 0, .int .i64 0] 28)).alloc (.cells #[.string ⟨#[97]⟩, .slice (some ⟨w3.heap.size + 1 + 1 + 1 + 1 + 1 + 1, 0, none⟩) 2 2, .int .i64 0] 31)) := ⟨_, rfl⟩
      obtain ⟨w5, hw5⟩ := hBody
      have hH : ∀ k o, ([.cells #[.string ⟨#[]⟩, .bool false, .int .i64 0, .int .i64 0, .string C, .int .i64 11] 63, .cells #[.slice (some ⟨w3.heap.size, 0, none⟩) 1 1, .string ⟨#[]⟩, .bool false, .int .i64 0, .int .i64 0, .int .i64 0] 28, .cells #[.string ⟨#[]⟩, .bool false, .int .i64 0, .int .i64 0, .string ⟨#[123, 36, 53, 125]⟩, .int .i64 22] 63, .cells #[.slice (some ⟨w3.heap.size + 1 + 1, 0, none⟩) 1 1, .string ⟨#[]⟩, .bool false, .int .i64 0, .int .i64 0, .int .i64 0] 28, .cells #[.slice (some ⟨w3.heap.size, 0, none⟩) 1 1, .string ⟨#[]⟩, .bool false, .int .i64 0, .int .i64 0, .int .i64 0, .slice (some ⟨w3.heap.size + 1 + 1, 0, none⟩) 1 1, .string ⟨#[]⟩, .bool false, .int .i64 0, .int .i64 0, .int .i64 0] 28, .cells #[.string ⟨#[97]⟩, .slice (some ⟨w3.heap.size + 1 + 1 + 1 + 1 + 1 + 1, 0, none⟩) 2 2, .int .i64 0] 31, .cells #[.slice (some ⟨w3.heap.size + 1 + 1, 0, none⟩) 1 1, .string ⟨#[]⟩, .bool false, .int .i64 0, .int .i64 0, .int .i64 0, .slice (some ⟨w3.heap.size, 0, none⟩) 1 1, .string ⟨#[]⟩, .bool false, .int .i64 0, .int .i64 0, .int .i64 0] 28, .cells #[.string ⟨#[97]⟩, .slice (some ⟨w3.heap.size + 1 + 1 + 1 + 1 + 1 + 1, 0, none⟩) 2 2, .int .i64 0] 31] : List Obj)[k]? = some o → w5.heap[w3.heap.size + k]? = some o := fun k o h => by
        rw [hw5]
        exact (heap_allocs [.cells #[.string ⟨#[]⟩, .bool false, .int .i64 0, .int .i64 0, .string C, .int .i64 11] 63, .cells #[.slice (some ⟨w3.heap.size, 0, none⟩) 1 1, .string ⟨#[]⟩, .bool false, .int .i64 0, .int .i64 0, .int .i64 0] 28, .cells #[.string ⟨#[]⟩, .bool false, .int .i64 0, .int .i64 0, .string ⟨#[123, 36, 53, 125]⟩, .int .i64 22] 63, .cells #[.slice (some ⟨w3.heap.size + 1 + 1, 0, none⟩) 1 1, .string ⟨#[]⟩, .bool false, .int .i64 0, .int .i64 0, .int .i64 0] 28, .cells #[.slice (some ⟨w3.heap.size, 0, none⟩) 1 1, .string ⟨#[]⟩, .bool false, .int .i64 0, .int .i64 0, .int .i64 0, .slice (some ⟨w3.heap.size + 1 + 1, 0, none⟩) 1 1, .string ⟨#[]⟩, .bool false, .int .i64 0, .int .i64 0, .int .i64 0] 28, .cells #[.string ⟨#[97]⟩, .slice (some ⟨w3.heap.size + 1 + 1 + 1 + 1 + 1 + 1, 0, none⟩) 2 2, .int .i64 0] 31, .cells #[.slice (some ⟨w3.heap.size + 1 + 1, 0, none⟩) 1 1, .string ⟨#[]⟩, .bool false, .int .i64 0, .int .i64 0, .int .i64 0, .slice (some ⟨w3.heap.size, 0, none⟩) 1 1, .string ⟨#[]⟩, .bool false, .int .i64 0, .int .i64 0, .int .i64 0] 28, .cells #[.string ⟨#[97]⟩, .slice (some ⟨w3.heap.size + 1 + 1 + 1 + 1 + 1 + 1, 0, none⟩) 2 2, .int .i64 0] 31] w3 k (List.getElem?_eq_some_iff.1 h).1).trans h
      have hb5 : Below w3.heap.size w3 w5 := by rw [hw5]; exact below_allocs [.cells #[.string ⟨#[]⟩, .bool false, .int .i64 0, .int .i64 0, .string C, .int .i64 11] 63, .cells #[.slice (some ⟨w3.heap.size, 0, none⟩) 1 1, .string ⟨#[]⟩, .bool false, .int .i64 0, .int .i64 0, .int .i64 0] 28, .cells #[.string ⟨#[]⟩, .bool false, .int .i64 0, .int .i64 0, .string ⟨#[123, 36, 53, 125]⟩, .int .i64 22] 63, .cells #[.slice (some ⟨w3.heap.size + 1 + 1, 0, none⟩) 1 1, .string ⟨#[]⟩, .bool false, .int .i64 0, .int .i64 0, .int .i64 0] 28, .cells #[.slice (some ⟨w3.heap.size, 0, none⟩) 1 1, .string ⟨#[]⟩, .bool false, .int .i64 0, .int .i64 0, .int .i64 0, .slice (some ⟨w3.heap.size + 1 + 1, 0, none⟩) 1 1, .string ⟨#[]⟩, .bool false, .int .i64 0, .int .i64 0, .int .i64 0] 28, .cells #[.string ⟨#[97]⟩, .slice (some ⟨w3.heap.size + 1 + 1 + 1 + 1 + 1 + 1, 0, none⟩) 2 2, .int .i64 0] 31, .cells #[.slice (some ⟨w3.heap.size + 1 + 1, 0, none⟩) 1 1, .string ⟨#[]⟩, .bool false, .int .i64 0, .int .i64 0, .int .i64 0, .slice (some ⟨w3.heap.size, 0, none⟩) 1 1, .string ⟨#[]⟩, .bool false, .int .i64 0, .int .i64 0, .int .i64 0] 28, .cells #[.string ⟨#[97]⟩, .slice (some ⟨w3.heap.size + 1 + 1 + 1 + 1 + 1 + 1, 0, none⟩) 2 2, .int .i64 0] 31] w3
      have hCe : C = ⟨(Sp.farCode m).toArray⟩ := HC.out
      have hPA : SlAt w5 (.slice (some ⟨w3.heap.size, 0, none⟩) 1 1) 6 ((Sp.farAlt m).parts.map partC) := by
        refine slAt_block (e := 63) ([Sp.codePart (Sp.farCode m) 11].map partC) 6 (fun r hr => by obtain ⟨q, _, rfl⟩ := List.mem_map.1 hr; rfl) ?_ (by simp [maxLen])
        have h2 := hH 0 _ rfl
        rw [hCe] at h2
        exact h2
      have hPB : SlAt w5 (.slice (some ⟨w3.heap.size + 1 + 1, 0, none⟩) 1 1) 6 (Sp.fiveAlt.parts.map partC) := slAt_block (e := 63) ([Sp.codePart [123, 36, 53, 125] 22].map partC) 6 (fun r hr => by obtain ⟨q, _, rfl⟩ := List.mem_map.1 hr; rfl) (hH 2 _ rfl) (by simp [maxLen])
      have hrul : RulesAt w5 (.slice (some ⟨w3.heap.size + 1 + 1 + 1 + 1 + 1 + 1 + 1, 0, none⟩) 1 1) (Sp.farSrc m true).rules := by
        refine ⟨fun _ => .slice (some ⟨w3.heap.size + 1 + 1 + 1 + 1 + 1 + 1, 0, none⟩) 2 2, slAt_block _ 3 (fun r hr => by simp [Sp.farSrc, ruleC] at hr; subst hr; rfl) (hH 7 _ rfl) (by simp [Sp.farSrc, maxLen]), fun i u hu => ?_⟩
        rcases i with _ | i
        · have hu2 : u = ⟨[97], [Sp.fiveAlt, Sp.farAlt m], 0⟩ := by simpa [Sp.farSrc] using hu.symm
          subst hu2
          refine ⟨fun j => if j = 0 then .slice (some ⟨w3.heap.size + 1 + 1, 0, none⟩) 1 1 else .slice (some ⟨w3.heap.size, 0, none⟩) 1 1, slAt_block _ 6 (fun r hr => by simp [altC] at hr; rcases hr with rfl | rfl <;> rfl) (hH 6 _ rfl) (by simp [maxLen]), fun j a ha => ?_⟩
          rcases j with _ | _ | j
          · have ha2 : a = Sp.fiveAlt := by simpa using ha.symm
            subst ha2
            exact hPB
          · have ha2 : a = Sp.farAlt m := by simpa using ha.symm
            subst ha2
            exact hPA
          · simp at ha
        · simp [Sp.farSrc] at hu
      have HGR := Lib.hid (show Calls Tryd.prog 16 #[.agg #[.string ⟨#[]⟩, .slice none 0 0, .slice (some ⟨w3.heap.size + 1 + 1 + 1 + 1 + 1 + 1 + 1, 0, none⟩) 1 1, .string ⟨#[]⟩]] w5 (fun e w' => Below w5.heap.size w5 w' ∧ ∃ gv, e = .returned (.tuple #[gv, .bool true]) ∧ GramOwn w' gv (Sp.farGram m true)) from by
        have h := ref16_Grammar (Sp.farSrc m true) _ _ w5 (decls_none w5) hrul (far_small m true hm) (Sp.far_inner m true)
        rw [Sp.far_gram m true hm] at h
        exact h)
      have HB5 := Lib.hid (HB3.out.trans (hb5.mono HB3.out.size))
      have hsz5 : W.heap.size + 2 ≤ w5.heap.size := by have := lt_at (hH 3 _ rfl); have := HB3.out.size; omega
      clear hH hb5 hrul hPA hPB hCe
      go_upto_region 14 with fail
      go_wp2_with fail
      rw [← hw5]
      clear hw5
      refine HGR.out.mono ?_
      rintro e w6 ⟨hb6, gv, rfl, hgo⟩
      have hga := hgo.at
      obtain ⟨B6, ta, tc, na, nc, pa, pc, rfl, _⟩ := hgo
      obtain ⟨w7, hw7⟩ : ∃ w7 : World, w7 = w6.alloc (.cells #[.slice ta (Sp.farGram m true).toks.length tc, .slice na (Sp.farGram m true).nons.length nc, .slice pa (Sp.farGram m true).prods.length pc, .string ⟨(Sp.farGram m true).pro.toArray⟩, .string ⟨(Sp.farGram m true).tail.toArray⟩] 46) := ⟨_, rfl⟩
      have hb7 : Below w5.heap.size w5 w7 := by rw [hw7]; exact hb6.alloc hb6.size _
      have hb67 : Below w6.heap.size w6 w7 := by rw [hw7]; exact (Below.refl _ w6).alloc (Nat.le_refl _) _
      have h7 : w7.heap[w6.heap.size]? = some (.cells #[.slice ta (Sp.farGram m true).toks.length tc, .slice na (Sp.farGram m true).nons.length nc, .slice pa (Sp.farGram m true).prods.length pc, .string ⟨(Sp.farGram m true).pro.toArray⟩, .string ⟨(Sp.farGram m true).tail.toArray⟩] 46 (0, 0)) := by rw [hw7]; exact heap_last w6 _
      have HB7 := Lib.hid (HB5.out.trans (hb7.mono HB5.out.size))
      have hgl7 : Gl w7 := HG.out.up HB7.out (by have := hb7.size; have := HG.out.2.1; omega)
      have HAL := Lib.hid (show Calls Tryd.prog 17 _ w7 (fun e w' => Below w7.heap.size w7 w' ∧ ∃ lv, e = .returned (.tuple #[lv, faultV (Sp.farRes m true)]) ∧ w'.ownsRow w7.heap.size 9 1 lv 0 []) from by
        have h := subst_All (Sp.farGram m true) _ w7 (hga.below hb67) hgl7 (by simp [Sp.farGram]) (by simp [Sp.farGram]) (by simp [Sp.farGram]) (Sp.far_good m true hm).1 (Sp.far_good m true hm).2
        rw [Sp.far_sub m true hm] at h
        exact h)
      have g0 := cell_at (i := 0) h7; have g1 := cell_at (i := 1) h7; have g2 := cell_at (i := 2) h7; have g3 := cell_at (i := 3) h7; have g4 := cell_at (i := 4) h7
      have lg := lt_at h7
      clear hb6 hga hb7 hb67 h7 hgl7 HGR
      go_upto_region 15 with fail
      rw [← hw7]
      clear hw7
      go_wp2_with fail
      refine HAL.out.mono ?_
      rintro e w8 ⟨hb8, lv, rfl, hrow⟩
      obtain ⟨la, lc, rfl⟩ := ownsRowS_some hrow
      rw [show faultV (Sp.farRes m true) = .agg #[.int .i64 6, .int .i64 22, .string ⟨([36, 53] : List UInt8).toArray⟩] from rfl]
      have hb9 : Below w8.heap.size w8 (w8.alloc (.cells #[.int .i64 6, .int .i64 22, .string ⟨([36, 53] : List UInt8).toArray⟩] 49)) := (Below.refl _ w8).alloc (Nat.le_refl _) _
      obtain ⟨w9, hw9⟩ : ∃ w9 : World, w9 = w8.alloc (.cells #[.int .i64 6, .int .i64 22, .string ⟨([36, 53] : List UInt8).toArray⟩] 49) := ⟨_, rfl⟩
      have h9' : w9.heap[w8.heap.size]? = some (.cells #[.int .i64 6, .int .i64 22, .string ⟨([36, 53] : List UInt8).toArray⟩] 49 (0, 0)) := by rw [hw9]; exact heap_last w8 _
      rw [← hw9] at hb9
      have HB9 := Lib.hid (HB7.out.trans ((hb8.trans (hb9.mono hb8.size)).mono HB7.out.size))
      have q0 := cell_at (i := 0) h9'; have q1 := cell_at (i := 1) h9'; have q2 := cell_at (i := 2) h9'
      have lq := lt_at h9'
      clear hb8 hb9 h9' hrow g0 g1 g2 g3 g4 lg HAL
      go_upto_region 16 with fail
      rw [← hw9]
      generalize hfb : w8.heap.size = fb at *
      clear hw9 hfb
      go_wp2_with fail
      refine (ref_EqFaultG 6 22 6 22 [36, 53] [36, 53] _).mono ?_
      rintro e w11 ⟨rfl, hb11⟩
      rw [show decide (((6 : Int) = 6 ∧ (22 : Int) = 22) ∧ ([36, 53] : List UInt8) = [36, 53]) = true by simp]
      have HB11 := Lib.hid (HB9.out.trans (hb11.mono HB9.out.size))
      clear hb11 q0 q1 q2 lq
      go_wp2_with fail
      go_ret
      exact ⟨rfl, HB11.out⟩
end Go.Proofs.YtddnomjfcbplpaaDoor
