/- SubstRange: the walk. -/
import Derived.Test.YtphdfbmmjkccgaaDoorZ23
import Derived.Test.YtphdfbmmjkccgaaDoorZ09
namespace Go.Proofs.YtphdfbmmjkccgaaDoor
open Go.RowKit Go.Maps

theorem gl4_of_gl3 {w : World} (h : Gl w) : Gl4 w := ⟨h.1, by have := h.2.1; omega, h.2.2⟩
theorem rg_small (n a : Nat) (hn : (Sp.rgCode n).length ≤ 20) (ha : a < 6) : smallSrc (Sp.rgSrc n a) := by
  have h : smallAlt (Sp.rgAlt n a) := by
    refine ⟨by simp [Sp.rgAlt]; omega, fun p hp => ?_, by simp [Sp.rgAlt, Sp.noSymO]⟩
    unfold Sp.rgAlt at hp
    rcases List.mem_append.1 hp with h | h
    · obtain rfl := (List.mem_replicate.1 h).2
      simp [smallPart, Sp.symPart, Sp.symX]
    · simp only [List.mem_cons, List.not_mem_nil, or_false] at h
      rcases h with rfl | rfl | rfl
      · exact ⟨by simp [Sp.codePart, Sp.noSymO], by show (Sp.rgCode n).length ≤ 4000; omega⟩
      · simp [smallPart, Sp.symPart, Sp.symX]
      · simp [smallPart, Sp.codePart, Sp.noSymO]
  refine ⟨by simp [Sp.rgSrc], by simp [Sp.rgSrc], by simp [Sp.rgSrc], by simp [Sp.rgSrc], fun d hd => by simp [Sp.rgSrc] at hd, fun r hr => ?_⟩
  simp only [Sp.rgSrc, List.mem_cons, List.not_mem_nil, or_false] at hr
  subst hr
  refine ⟨by simp, by simp, fun a hx => ?_⟩
  simp only [List.mem_cons, List.not_mem_nil, or_false] at hx
  subst hx
  exact h
theorem rcat (a b : List UInt8) : (⟨a.toArray⟩ : ByteArray) ++ (⟨b.toArray⟩ : ByteArray) = ⟨(a ++ b).toArray⟩ := by
  apply ByteArray.ext
  rw [ByteArray.data_append]
  simp
set_option maxRecDepth 100000 in
set_option maxHeartbeats 6400000 in
theorem law_SubstRange (n0 a0 : Int) (W : World) (hw1 : (Lit.int .i64 n0).wf = true) (hw2 : (Lit.int .i64 a0).wf = true) (hg : Gl4 W) :
    Calls Tryd.prog 5 #[.int .i64 n0, .int .i64 a0] W fun e w' => e = .returned (.bool true) ∧ Below W.heap.size W w' := by
  obtain ⟨ip0, hip0, hpz0, hpz1, hpz2⟩ := info_parts info_partE
  have HG := Lib.hid hg
  have hs4 : 4 ≤ W.heap.size := hg.2.1
  have HW1 := Lib.hid (fun w => (show Calls Tryd.prog 7 #[.int .i64 n0, .int .i64 12] w (fun e w' => e = .returned (.int .i64 (n0 % 12)) ∧ w = w') from made_Within n0 12 w (by decide) (by decide) hw1))
  have HW2 := Lib.hid (fun w => (show Calls Tryd.prog 7 #[.int .i64 a0, .int .i64 6] w (fun e w' => e = .returned (.int .i64 (a0 % 6)) ∧ w = w') from made_Within a0 6 w (by decide) (by decide) hw2))
  obtain ⟨m, hm0⟩ : ∃ m : Nat, n0 % 12 = (m : Int) := ⟨(n0 % 12).toNat, by have := Int.emod_nonneg n0 (b := 12) (by decide); omega⟩
  have hm : m < 12 := by have := Int.emod_lt_of_pos n0 (b := 12) (by decide); omega
  obtain ⟨a, ha0⟩ : ∃ a : Nat, a0 % 6 = (a : Int) := ⟨(a0 % 6).toNat, by have := Int.emod_nonneg a0 (b := 6) (by decide); omega⟩
  have ha : a < 6 := by have := Int.emod_lt_of_pos a0 (b := 6) (by decide); omega
  rw [hm0] at HW1
  rw [ha0] at HW2
  have HWK := Lib.hid (wakes27 W hg)
  obtain ⟨it, hit⟩ : ∃ it, it = Lib.itoa (m : Int) := ⟨_, rfl⟩
  have hil : it.length ≤ 21 := by rw [hit]; exact Lib.itoa_length_le _ (by omega) (by omega)
  have hil0 : 1 ≤ it.length + 1 := by omega
  have HDI := Lib.hid (fun w => (show Calls Tryd.prog 8 #[.int .i64 (m : Int)] w (fun e w' => e = .returned (.string ⟨it.toArray⟩) ∧ Below w.heap.size w w') from by rw [hit]; exact ref_Digits (m : Int) w (by omega) (by omega)))
  have HIT := Lib.hid hit
  obtain ⟨k1, k2, k3, k4, k5, k6, k7, k8, k9, k10, k11⟩ := Sp.rg_all hm ha
  obtain ⟨G, hG⟩ : ∃ G, G = Sp.rgGram m a := ⟨_, rfl⟩
  rw [← hG] at k3 k4 k5 k6 k7 k8 k9 k10
  have HGG := Lib.hid hG; have HFI := Lib.hid k1; have HIN := Lib.hid k2; have HTG := Lib.hid k6; have HPR := Lib.hid k7; have HBD2 := Lib.hid k8; have HBD1 := Lib.hid k9; have HBDA := Lib.hid k10; have HCL := Lib.hid k11
  clear hm0 ha0 hw1 hw2 hg hit hG k1 k2 k6 k7 k8 k9 k10 k11
  go_enter Tryd.func5, Tryd.ntmps5
  go_wp2_with fail
  refine HWK.out.mono ?_
  rintro e w2 ⟨rfl, hb2⟩
  go_wp2_with fail
  refine (HW1.out _).mono ?_
  rintro e w2' ⟨rfl, rfl⟩
  go_wp2_with fail
  refine (HW2.out _).mono ?_
  rintro e w2' ⟨rfl, rfl⟩
  obtain ⟨w4, hw4⟩ : ∃ w4 : World, w4 = w2.alloc (.cells #[.string ⟨#[120]⟩, .bool true, .int .i64 0, .int .i64 0, .string ⟨#[]⟩, .int .i64 0] 44) := ⟨_, rfl⟩
  have hb4 : Below w2.heap.size w2 w4 := by rw [hw4]; exact (Below.refl _ w2).alloc (Nat.le_refl _) _
  have h4 : w4.heap[w2.heap.size]? = some (.cells #[.string ⟨#[120]⟩, .bool true, .int .i64 0, .int .i64 0, .string ⟨#[]⟩, .int .i64 0] 44 (0, 0)) := by rw [hw4]; exact heap_last w2 _
  go_upto_block 0 with fail
  rw [← hw4]
  obtain ⟨xb, hxb⟩ : ∃ xb, xb = w2.heap.size := ⟨_, rfl⟩
  rw [← hxb] at h4
  rw [← hxb]
  have HB4 := Lib.hid (hb2.trans (hb4.mono hb2.size))
  have HX0 := Lib.hid (fun (w' : World) (hb : Below w4.heap.size w4 w') => (show (w'.cell? ⟨xb, 0, none⟩ = some (.string ⟨#[120]⟩) ∧ w'.cell? ⟨xb, 1, none⟩ = some (.bool true) ∧ w'.cell? ⟨xb, 2, none⟩ = some (.int .i64 0) ∧ w'.cell? ⟨xb, 3, none⟩ = some (.int .i64 0) ∧ w'.cell? ⟨xb, 4, none⟩ = some (.string ⟨#[]⟩) ∧ w'.cell? ⟨xb, 5, none⟩ = some (.int .i64 0) ∧ xb < w'.heap.size) from by
    have k := (hb.block _ (lt_at h4)).trans h4
    exact ⟨cell_at (i := 0) k, cell_at (i := 1) k, cell_at (i := 2) k, cell_at (i := 3) k, cell_at (i := 4) k, cell_at (i := 5) k, lt_at k⟩))
  clear hw4 hb4 h4 hb2 HWK hxb HW1 HW2
  go_cut [6] (fun v6 wx => wx.ownsRow w4.heap.size 44 6 v6 a (List.replicate a (partC (Sp.symPart Sp.symX))).flatten ∧ Below w4.heap.size w4 wx)
  case first =>
    go_wp2_with fail
    go_loopg [6, 7] 6 (fun q v6 iv wr => ∃ k : Nat, k ≤ a ∧ q = 6 - k ∧ iv = .int .i64 (k : Int) ∧ wr.ownsRow w4.heap.size 44 6 v6 k (List.replicate k (partC (Sp.symPart Sp.symX))).flatten ∧ Below w4.heap.size w4 wr)
    case atStart => exact ⟨0, by omega, rfl, rfl, World.ownsRow_nil _ _ _ _, Below.refl _ _⟩
    case round =>
      obtain ⟨k, hka, rfl, rfl, how, hbr⟩ := hrel
      obtain ⟨wo, hwo⟩ : ∃ wo : World, wo = wr := ⟨_, rfl⟩
      subst hwo
      have HOW := Lib.hid how; have HBR := Lib.hid hbr
      have hsz : w4.heap.size ≤ wo.heap.size := hbr.size
      clear how hbr
      by_cases hk1 : k < a
      · have hki : (k : Int) < (a : Int) := by omega
        obtain ⟨x0, x1, x2, x3, x4, x5, lx⟩ := HX0.out _ HBR.out
        go_wp2_with (at_builtin; refine wpList_append_lies _ rfl _ _ _ rfl w4.heap.size 44 ip0 _ 6 64 Tryd.underlying38 hip0 hpz0 hpz1 hpz2 rfl (by decide) _ _ _ rfl (HOW.out.alloc _) ⟨wo.heap.size, 0, none⟩ 1 1 (partC (Sp.symPart Sp.symX)) rfl rfl ?c1A ?c2A (by decide) ?c3A ?c4A ?c5A _ rfl ?_)
        case c1A => exact World.news_of_block (cs := (partC (Sp.symPart Sp.symX)).toArray) (t := 44) (fr := (0, 0)) (heap_last wo _)
        case c2A => simp [Value.oneCell', partC, symC]
        case c3A => unfold maxLen; omega
        case c4A => omega
        case c5A => simp only [World.size_alloc]; omega
        intro gg cap w5 hown1 hgrow hat hlt
        have HB5 := Lib.hid ((HBR.out.alloc hsz _).grown hgrow (by simp only [World.size_alloc]; omega) (fun g' hg' => (HOW.out.lt g' hg').1))
        have HO5 := Lib.hid hown1
        clear hown1 hgrow hat hlt x0 x1 x2 x3 x4 x5 lx
        go_wp2_with fail
        go_roundg (6 - (k + 1))
        case measure => omega
        case rel =>
          refine ⟨k + 1, by omega, rfl, by go_num, ?_, HB5.out⟩
          rw [List.replicate_succ', List.flatten_append]
          have e : [partC (Sp.symPart Sp.symX)].flatten = partC (Sp.symPart Sp.symX) := by simp
          rw [e]
          exact HO5.out
      · obtain rfl : k = a := by omega
        go_wp2_with fail
        go_meet
        exact ⟨HOW.out, HBR.out⟩
  case rest =>
    obtain ⟨how, hbc⟩ := hcut
    obtain ⟨w5, hw5⟩ : ∃ w5 : World, w5 = wc := ⟨_, rfl⟩
    subst hw5
    have HB5 := Lib.hid hbc
    have HOW := Lib.hid (fun (w' : World) (h : Below w5.heap.size w5 w') => ownsRow_below how h)
    have HS10 := Lib.hid (fun (w' : World) (hb : Below w5.heap.size w5 w') => HX0.out w' (HB5.out.trans (hb.mono HB5.out.size)))
    have hz1 : ¬ 9223372036854775807 < 3 + it.length := by omega
    have hz2 : ¬ 9223372036854775807 < 3 + it.length + 2 := by omega
    clear how hbc HX0
    go_upto_region 10 with fail
    refine wp_region_plan (fun w' : World => (w'.cell? ⟨xb, 0, none⟩ = some (.string ⟨#[120]⟩) ∧ w'.cell? ⟨xb, 1, none⟩ = some (.bool true) ∧ w'.cell? ⟨xb, 2, none⟩ = some (.int .i64 0) ∧ w'.cell? ⟨xb, 3, none⟩ = some (.int .i64 0) ∧ w'.cell? ⟨xb, 4, none⟩ = some (.string ⟨#[]⟩) ∧ w'.cell? ⟨xb, 5, none⟩ = some (.int .i64 0) ∧ xb < w'.heap.size)) [9, 10] (.take 0 (.take 1 (.take 6 (.take 7 (.one 2 (.take 3 (.take 4 (.take 5 (.one 8 (.one 9 (.one 10 (.done)))))))))))) (by kernel_rfl) (by kernel_rfl) (fun _ _ _ _ h => h) ?_
    have hSw := HS10.out _ (below_drewN (Below.refl _ w5) 1)
    refine wpPlan_takeD (v := ?va1) rfl rfl hSw (by rfl) ?ya1 ?_
    case ya1 => (intro w hSx; (try dsimp only at hSx); go_simp; first | done | with_reducible rfl | rfl)
    (try simp only [Act.put, List.setIfInBounds_toArray, List.set_cons_zero, List.set_cons_succ])
    refine wpPlan_takeD (v := ?va2) rfl rfl hSw (by rfl) ?ya2 ?_
    case ya2 => (intro w hSx; (try dsimp only at hSx); go_simp; first | done | with_reducible rfl | rfl)
    (try simp only [Act.put, List.setIfInBounds_toArray, List.set_cons_zero, List.set_cons_succ])
    refine wpPlan_takeD (v := ?va3) rfl rfl hSw (by rfl) ?ya3 ?_
    case ya3 => (intro w hSx; (try dsimp only at hSx); go_simp; first | done | with_reducible rfl | rfl)
    (try simp only [Act.put, List.setIfInBounds_toArray, List.set_cons_zero, List.set_cons_succ])
    refine wpPlan_takeD (v := ?va4) rfl rfl hSw (by rfl) ?ya4 ?_
    case ya4 => (intro w hSx; (try dsimp only at hSx); go_simp; first | done | with_reducible rfl | rfl)
    (try simp only [Act.put, List.setIfInBounds_toArray, List.set_cons_zero, List.set_cons_succ])
    refine wpPlan_run rfl (by rfl) (fun K' hK => ?_)
    (go_simp; go_at_call 8; refine (HDI.out _).mono ?_; rintro e wd ⟨rfl, hbd⟩)
    refine hK _ _ (.inr ?_) ?_
    · exact HS10.out _ (below_undrew hbd)
    clear hK K' hSw
    have hSw := HS10.out _ (below_undrew hbd)
    (try simp only [Act.put, List.setIfInBounds_toArray, List.set_cons_zero, List.set_cons_succ])
    refine wpPlan_takeD (v := ?va5) rfl rfl hSw (by rfl) ?ya5 ?_
    case ya5 => (intro w hSx; (try dsimp only at hSx); go_simp; first | done | with_reducible rfl | rfl)
    (try simp only [Act.put, List.setIfInBounds_toArray, List.set_cons_zero, List.set_cons_succ])
    refine wpPlan_takeD (v := ?va6) rfl rfl hSw (by rfl) ?ya6 ?_
    case ya6 => (intro w hSx; (try dsimp only at hSx); go_simp; first | done | with_reducible rfl | rfl)
    (try simp only [Act.put, List.setIfInBounds_toArray, List.set_cons_zero, List.set_cons_succ])
    refine wpPlan_takeD (v := ?va7) rfl rfl hSw (by rfl) ?ya7 ?_
    case ya7 => (intro w hSx; (try dsimp only at hSx); go_simp; first | done | with_reducible rfl | rfl)
    (try simp only [Act.put, List.setIfInBounds_toArray, List.set_cons_zero, List.set_cons_succ])
    refine wpPlan_run rfl (by rfl) (fun K' hK => ?_)
    go_simp
    refine hK _ _ (.inr ?_) ?_
    · exact HS10.out _ ((below_undrew hbd).alloc hbd.size _)
    clear hK K' hSw
    (try simp only [Act.put, List.setIfInBounds_toArray, List.set_cons_zero, List.set_cons_succ])
    refine wpPlan_run rfl (by rfl) (fun K' hK => ?_)
    (refine wp_append_lies _ _ _ _ (by rfl) w4.heap.size 44 ip0 _ 6 64 Tryd.underlying38 hip0 hpz0 hpz1 hpz2 rfl (by omega) _ _ _ (by rfl) ((HOW.out wd (below_undrew hbd)).alloc _) ⟨wd.heap.size, 0, none⟩ 3 3 [.string ⟨#[]⟩, .bool false, .int .i64 0, .int .i64 0, .string (⟨#[123, 32, 36]⟩ ++ ⟨it.toArray⟩ ++ ⟨#[32, 125]⟩ : ByteArray), .int .i64 33, .string ⟨#[120]⟩, .bool true, .int .i64 0, .int .i64 0, .string ⟨#[]⟩, .int .i64 0, .string ⟨#[]⟩, .bool false, .int .i64 0, .int .i64 0, .string ⟨#[123, 32, 36, 49, 32, 125]⟩, .int .i64 44] (by rfl) (by rfl) (World.news_of_block (cs := ([.string ⟨#[]⟩, .bool false, .int .i64 0, .int .i64 0, .string (⟨#[123, 32, 36]⟩ ++ ⟨it.toArray⟩ ++ ⟨#[32, 125]⟩ : ByteArray), .int .i64 33, .string ⟨#[120]⟩, .bool true, .int .i64 0, .int .i64 0, .string ⟨#[]⟩, .int .i64 0, .string ⟨#[]⟩, .bool false, .int .i64 0, .int .i64 0, .string ⟨#[123, 32, 36, 49, 32, 125]⟩, .int .i64 44] : List Value).toArray) (t := 44) (fr := (0, 0)) (heap_last wd _)) (by simp [Value.oneCell']) (by omega) (by unfold maxLen; omega) (by omega) (by have := (below_undrew hbd).size; have := HB5.out.size; simp only [World.size_alloc]; omega) (wd.heap.size + 1) (by simp) ?_; intro gg cap w6 hown hgrow hat hlt)
    refine hK _ _ (.inl rfl) ?_
    clear hK K'
    (try simp only [Act.put, List.setIfInBounds_toArray, List.set_cons_zero, List.set_cons_succ])
    refine wpPlan_run rfl (by rfl) (fun K' hK => ?_)
    go_simp
    refine hK _ _ (.inl rfl) ?_
    clear hK K'
    (try simp only [Act.put, List.setIfInBounds_toArray, List.set_cons_zero, List.set_cons_succ])
    refine wpPlan_done ?_
    have hb45 := HB5.out
    have hbd' := below_undrew hbd
    have hb6 : Below w4.heap.size w4 w6 := ((hb45.trans (hbd'.mono hb45.size)).alloc (Nat.le_trans hb45.size hbd'.size) _).grown hgrow (by have := hb45.size; have := hbd'.size; simp only [World.size_alloc]; omega) (fun g' hg' => ((HOW.out wd hbd').lt g' hg').1)
    obtain ⟨w7, hw7⟩ : ∃ w7 : World, w7 = (w6.alloc (.cells #[.slice (some ⟨gg, 0, none⟩) (a + 3) cap, .string ⟨#[]⟩, .bool false, .int .i64 0, .int .i64 0, .int .i64 0] 42)).alloc (.cells #[.string ⟨#[97]⟩, .slice (some ⟨w6.heap.size, 0, none⟩) 1 1, .int .i64 0] 37) := ⟨_, rfl⟩
    have hb67 : Below w6.heap.size w6 w7 := by rw [hw7]; exact ((Below.refl _ w6).alloc (Nat.le_refl _) _).alloc (by simp) _
    have h70 : w7.heap[w6.heap.size]? = some (.cells #[.slice (some ⟨gg, 0, none⟩) (a + 3) cap, .string ⟨#[]⟩, .bool false, .int .i64 0, .int .i64 0, .int .i64 0] 42 (0, 0)) := by rw [hw7]; exact heap_old (heap_last w6 _) _
    have h71 : w7.heap[w6.heap.size + 1]? = some (.cells #[.string ⟨#[97]⟩, .slice (some ⟨w6.heap.size, 0, none⟩) 1 1, .int .i64 0] 37 (0, 0)) := by rw [hw7]; exact heap_sec w6 _ _
    have hpar : SlAt w7 (.slice (some ⟨gg, 0, none⟩) (a + 3) cap) 6 ((Sp.rgAlt m a).parts.map partC) := by
      refine slAt_of_owns (base := w4.heap.size) (e := 44) (n := a + 3) _ (fun r hr => by obtain ⟨q, _, rfl⟩ := List.mem_map.1 hr; rfl) (by simp [Sp.rgAlt]) ?_
      have h := ownsRow_below hown hb67
      have e : ((Sp.rgAlt m a).parts.map partC).flatten = (List.replicate a (partC (Sp.symPart Sp.symX))).flatten ++ [.string ⟨#[]⟩, .bool false, .int .i64 0, .int .i64 0, .string (⟨#[123, 32, 36]⟩ ++ ⟨it.toArray⟩ ++ ⟨#[32, 125]⟩ : ByteArray), .int .i64 33, .string ⟨#[120]⟩, .bool true, .int .i64 0, .int .i64 0, .string ⟨#[]⟩, .int .i64 0, .string ⟨#[]⟩, .bool false, .int .i64 0, .int .i64 0, .string ⟨#[123, 32, 36, 49, 32, 125]⟩, .int .i64 44] := by
        unfold Sp.rgAlt
        rw [List.map_append, List.map_replicate, List.flatten_append]
        congr 1
        have ec : (⟨#[123, 32, 36]⟩ ++ ⟨it.toArray⟩ ++ ⟨#[32, 125]⟩ : ByteArray) = ⟨(Sp.rgCode m).toArray⟩ := by
          rw [show (⟨#[123, 32, 36]⟩ : ByteArray) = ⟨([123, 32, 36] : List UInt8).toArray⟩ from rfl, show (⟨#[32, 125]⟩ : ByteArray) = ⟨([32, 125] : List UInt8).toArray⟩ from rfl, rcat, rcat]
          unfold Sp.rgCode
          rw [← HIT.out]
          simp
        rw [ec]
        rfl
      rw [e]
      exact h
    have hrul : RulesAt w7 (.slice (some ⟨w6.heap.size + 1, 0, none⟩) 1 1) (Sp.rgSrc m a).rules := by
      refine ⟨fun _ => .slice (some ⟨w6.heap.size, 0, none⟩) 1 1, slAt_block _ 3 (fun r hr => by simp [Sp.rgSrc, ruleC] at hr; subst hr; rfl) h71 (by simp [Sp.rgSrc, maxLen]), fun i u hu => ?_⟩
      rcases i with _ | i
      · have hu2 : u = ⟨[97], [Sp.rgAlt m a], 0⟩ := by simpa [Sp.rgSrc] using hu.symm
        subst hu2
        refine ⟨fun _ => .slice (some ⟨gg, 0, none⟩) (a + 3) cap, slAt_block _ 6 (fun r hr => by simp [altC] at hr; subst hr; rfl) h70 (by simp [maxLen]), fun j b hb => ?_⟩
        rcases j with _ | j
        · have hb2 : b = Sp.rgAlt m a := by simpa using hb.symm
          subst hb2
          exact hpar
        · simp at hb
      · simp [Sp.rgSrc] at hu
    have HGR := Lib.hid (show Calls Tryd.prog 13 #[.agg #[.string ⟨#[]⟩, .slice none 0 0, .slice (some ⟨w6.heap.size + 1, 0, none⟩) 1 1, .string ⟨#[]⟩]] w7 (fun e w' => Below w7.heap.size w7 w' ∧ ∃ gv, e = .returned (.tuple #[gv, .bool true]) ∧ GramOwn w' gv G) from by
      have h := ref16_Grammar (Sp.rgSrc m a) _ _ w7 (decls_none w7) hrul (rg_small m a HCL.out ha) HIN.out
      rw [HFI.out] at h
      rw [HGG.out]
      exact h)
    have HB7 := Lib.hid (HB4.out.trans ((hb6.trans (hb67.mono hb6.size)).mono HB4.out.size))
    have hsz7 : W.heap.size + 2 ≤ w7.heap.size := by have := lt_at h71; have := hb6.size; have := HB4.out.size; omega
    clear hb45 hbd' hbd hown hgrow hat hlt hb6 hb67 h70 h71 hpar hrul
    go_wp2_with fail
    rw [← hw7]
    clear hw7
    refine HGR.out.mono ?_
    rintro e w8 ⟨hb8, gv, rfl, hgo⟩
    have hga := hgo.at
    obtain ⟨B8, ta, tc, na, nc, pa, pc, rfl, _⟩ := hgo
    obtain ⟨w9, hw9⟩ : ∃ w9 : World, w9 = w8.alloc (.cells #[.slice ta G.toks.length tc, .slice na G.nons.length nc, .slice pa G.prods.length pc, .string ⟨G.pro.toArray⟩, .string ⟨G.tail.toArray⟩] 58) := ⟨_, rfl⟩
    have hb9 : Below w7.heap.size w7 w9 := by rw [hw9]; exact hb8.alloc hb8.size _
    have hb89 : Below w8.heap.size w8 w9 := by rw [hw9]; exact (Below.refl _ w8).alloc (Nat.le_refl _) _
    have h9 : w9.heap[w8.heap.size]? = some (.cells #[.slice ta G.toks.length tc, .slice na G.nons.length nc, .slice pa G.prods.length pc, .string ⟨G.pro.toArray⟩, .string ⟨G.tail.toArray⟩] 58 (0, 0)) := by rw [hw9]; exact heap_last w8 _
    have HB9 := Lib.hid (HB7.out.trans (hb9.mono HB7.out.size))
    have HGL : Hid (∀ w, Below w9.heap.size w9 w → Gl w) := Lib.hid (fun w hb => HG.out.up (HB9.out.trans (hb.mono HB9.out.size)) (by have := hb.size; have := hb9.size; omega))
    have HGA := Lib.hid (hga.below hb89); have HG9 := Lib.hid h9
    have g0 := cell_at (i := 0) h9; have g1 := cell_at (i := 1) h9; have g2 := cell_at (i := 2) h9; have g3 := cell_at (i := 3) h9; have g4 := cell_at (i := 4) h9
    have lg := lt_at h9
    clear hb8 hga hb9 hb89 h9 HGR
    go_upto_region 12 with fail
    rw [← hw9]
    generalize hgb : w8.heap.size = gb at *
    clear hw9 hgb
    have HNM : Hid ((⟨#[36]⟩ : ByteArray) ++ (⟨it.toArray⟩ : ByteArray) = ⟨(36 :: it).toArray⟩) := Lib.hid (by rw [show (⟨#[36]⟩ : ByteArray) = ⟨([36] : List UInt8).toArray⟩ from rfl, rcat]; rfl)
    have hz3 : ¬ 9223372036854775807 < 1 + it.length := by omega
    have hz4 : ¬ 9223372036854775807 < 11 + it.length := by omega
    have hz5 : ¬ 9223372036854775807 < 11 + it.length + 3 := by omega
    by_cases hc1 : m < 1
    · have hc1i : (m : Int) < 1 := by omega
      have HBO := Lib.hid (show Calls Tryd.prog 14 #[.agg #[.slice ta G.toks.length tc, .slice na G.nons.length nc, .slice pa G.prods.length pc, .string ⟨G.pro.toArray⟩, .string ⟨G.tail.toArray⟩], .int .i64 1] w9 (fun e w' => e = .returned (.tuple #[.string ⟨#[]⟩, .agg #[.int .i64 6, .int .i64 33, .string ⟨(36 :: it).toArray⟩]]) ∧ Below w9.heap.size w9 w') from by
        have h := subst_Body G _ 1 w9 HGA.out (HGL.out _ (Below.refl _ _)) (by decide) (by omega) (by omega) (by omega) HTG.out HPR.out
        rw [HBD1.out, if_pos (by unfold Sp.rgBad; exact decide_eq_true (.inl hc1))] at h
        unfold Sp.rgFault at h; rw [← HIT.out] at h
        exact h)
      have HAL := Lib.hid (fun (w : World) (hb : Below w9.heap.size w9 w) => (show Calls Tryd.prog 15 #[.agg #[.slice ta G.toks.length tc, .slice na G.nons.length nc, .slice pa G.prods.length pc, .string ⟨G.pro.toArray⟩, .string ⟨G.tail.toArray⟩]] w (fun e w' => Below w.heap.size w w' ∧ ∃ lv, e = .returned (.tuple #[lv, .agg #[.int .i64 6, .int .i64 33, .string ⟨(36 :: it).toArray⟩]]) ∧ w'.ownsRow w.heap.size 9 1 lv 0 []) from by
        have h := subst_All G _ w (HGA.out.below hb) (HGL.out _ hb) (by omega) (by omega) (by omega) HTG.out HPR.out
        rw [HBDA.out, if_pos (by unfold Sp.rgBad; exact decide_eq_true (.inl hc1))] at h
        unfold Sp.rgFault at h; rw [← HIT.out] at h
        exact h))
      have HB2 := Lib.hid (fun (w : World) (hb : Below w9.heap.size w9 w) => (show Calls Tryd.prog 14 #[.agg #[.slice ta G.toks.length tc, .slice na G.nons.length nc, .slice pa G.prods.length pc, .string ⟨G.pro.toArray⟩, .string ⟨G.tail.toArray⟩], .int .i64 2] w (fun e w' => e = .returned (.tuple #[.string ⟨#[123, 32, 121, 121, 68, 111, 108, 108, 97, 114, 91, 49, 93, 32, 125]⟩, .agg #[.int .i64 0, .int .i64 0, .string ⟨#[]⟩]]) ∧ Below w.heap.size w w') from by
        have h := subst_Body G _ 2 w (HGA.out.below hb) (HGL.out _ hb) (by decide) (by omega) (by omega) (by omega) HTG.out HPR.out
        rw [HBD2.out] at h
        exact h))
      go_wp2_with fail
      refine HBO.out.mono ?_
      rintro e w10 ⟨rfl, hb10⟩
      obtain ⟨w11, hw11⟩ : ∃ w11 : World, w11 = w10.alloc (.cells #[.int .i64 6, .int .i64 33, .string ⟨(36 :: it).toArray⟩] 32) := ⟨_, rfl⟩
      have hb11 : Below w9.heap.size w9 w11 := by rw [hw11]; exact hb10.alloc hb10.size _
      have h11 : w11.heap[w10.heap.size]? = some (.cells #[.int .i64 6, .int .i64 33, .string ⟨(36 :: it).toArray⟩] 32 (0, 0)) := by rw [hw11]; exact heap_last w10 _
      have HB11 := Lib.hid hb11; have H11 := Lib.hid h11
      have hg11 := (hb11.block _ (lt_at HG9.out)).trans HG9.out
      clear hb10 hb11 h11 g0 g1 g2 g3 g4 lg HBO
      have g0 := cell_at (i := 0) hg11; have g1 := cell_at (i := 1) hg11; have g2 := cell_at (i := 2) hg11; have g3 := cell_at (i := 3) hg11; have g4 := cell_at (i := 4) hg11
      have lg := lt_at hg11
      clear hg11
      go_upto_region 13 with fail
      rw [← hw11]
      generalize hf1 : w10.heap.size = f1 at *
      clear hw11 hf1
      go_wp2_with fail
      refine (HAL.out _ HB11.out).mono ?_
      rintro e w12 ⟨hb12, lv, rfl, hrow⟩
      obtain ⟨la, lc, rfl⟩ := ownsRowS_some hrow
      obtain ⟨w13, hw13⟩ : ∃ w13 : World, w13 = w12.alloc (.cells #[.int .i64 6, .int .i64 33, .string ⟨(36 :: it).toArray⟩] 32) := ⟨_, rfl⟩
      have hb1213 : Below w12.heap.size w12 w13 := by rw [hw13]; exact (Below.refl _ w12).alloc (Nat.le_refl _) _
      have hb1113 : Below w11.heap.size w11 w13 := hb12.trans (hb1213.mono hb12.size)
      have h13 : w13.heap[w12.heap.size]? = some (.cells #[.int .i64 6, .int .i64 33, .string ⟨(36 :: it).toArray⟩] 32 (0, 0)) := by rw [hw13]; exact heap_last w12 _
      have HB13 := Lib.hid (HB11.out.trans (hb1113.mono HB11.out.size)); have H13 := Lib.hid h13
      have HF1 := Lib.hid ((hb1113.block _ (lt_at H11.out)).trans H11.out)
      have hg13 := (HB13.out.block _ (lt_at HG9.out)).trans HG9.out
      clear hb12 hb1213 hb1113 h13 hrow g0 g1 g2 g3 g4 lg HAL
      have g0 := cell_at (i := 0) hg13; have g1 := cell_at (i := 1) hg13; have g2 := cell_at (i := 2) hg13; have g3 := cell_at (i := 3) hg13; have g4 := cell_at (i := 4) hg13
      have lg := lt_at hg13
      clear hg13
      go_upto_region 14 with fail
      rw [← hw13]
      generalize hf2 : w12.heap.size = f2 at *
      clear hw13 hf2
      go_wp2_with fail
      refine (HB2.out _ HB13.out).mono ?_
      rintro e w14 ⟨rfl, hb14⟩
      obtain ⟨w15, hw15⟩ : ∃ w15 : World, w15 = w14.alloc (.cells #[.int .i64 0, .int .i64 0, .string ⟨#[]⟩] 32) := ⟨_, rfl⟩
      have hb15 : Below w13.heap.size w13 w15 := by rw [hw15]; exact hb14.alloc hb14.size _
      have h15 : w15.heap[w14.heap.size]? = some (.cells #[.int .i64 0, .int .i64 0, .string ⟨#[]⟩] 32 (0, 0)) := by rw [hw15]; exact heap_last w14 _
      have hq1 := (hb15.block _ (lt_at HF1.out)).trans HF1.out
      have hq2 := (hb15.block _ (lt_at H13.out)).trans H13.out
      have HB15 := Lib.hid (HB9.out.trans ((HB13.out.trans (hb15.mono HB13.out.size)).mono HB9.out.size))
      have r0 := cell_at (i := 0) h15; have r1 := cell_at (i := 1) h15; have r2 := cell_at (i := 2) h15
      have lr := lt_at h15
      have HS18 := Lib.hid (fun (w' : World) (hb : Below w15.heap.size w15 w') => (show (w'.cell? ⟨f1, 0, none⟩ = some (.int .i64 6) ∧ w'.cell? ⟨f1, 1, none⟩ = some (.int .i64 33) ∧ w'.cell? ⟨f1, 2, none⟩ = some (.string ⟨(36 :: it).toArray⟩) ∧ f1 < w'.heap.size ∧ w'.cell? ⟨f2, 0, none⟩ = some (.int .i64 6) ∧ w'.cell? ⟨f2, 1, none⟩ = some (.int .i64 33) ∧ w'.cell? ⟨f2, 2, none⟩ = some (.string ⟨(36 :: it).toArray⟩) ∧ f2 < w'.heap.size) from by
        have k1 := (hb.block _ (lt_at hq1)).trans hq1; have k2 := (hb.block _ (lt_at hq2)).trans hq2
        exact ⟨cell_at (i := 0) k1, cell_at (i := 1) k1, cell_at (i := 2) k1, lt_at k1, cell_at (i := 0) k2, cell_at (i := 1) k2, cell_at (i := 2) k2, lt_at k2⟩))
      clear hb14 hb15 h15 hq1 hq2 g0 g1 g2 g3 g4 lg HB2 HF1 HB11
      go_upto_region 15 with fail
      rw [← hw15]
      generalize hf3 : w14.heap.size = f3 at *
      clear hw15 hf3
      go_upto_region 18 with fail
      clear r0 r1 r2 lr
      refine wp_region_plan (fun w' : World => (w'.cell? ⟨f1, 0, none⟩ = some (.int .i64 6) ∧ w'.cell? ⟨f1, 1, none⟩ = some (.int .i64 33) ∧ w'.cell? ⟨f1, 2, none⟩ = some (.string ⟨(36 :: it).toArray⟩) ∧ f1 < w'.heap.size ∧ w'.cell? ⟨f2, 0, none⟩ = some (.int .i64 6) ∧ w'.cell? ⟨f2, 1, none⟩ = some (.int .i64 33) ∧ w'.cell? ⟨f2, 2, none⟩ = some (.string ⟨(36 :: it).toArray⟩) ∧ f2 < w'.heap.size)) [] (.take 0 (.take 1 (.take 2 (.take 3 (.take 4 (.one 5 (.take 6 (.one 7 (.take 8 (.take 9 (.take 10 (.take 11 (.take 12 (.take 13 (.take 14 (.take 15 (.take 16 (.one 17 (.take 18 (.one 19 (.take 20 (.take 21 (.done))))))))))))))))))))))) (by kernel_rfl) (by kernel_rfl) (fun _ _ _ _ h => h) ?_
      have hSw := HS18.out _ (below_drewN (Below.refl _ w15) 1)
      refine wpPlan_takeD (v := ?vb8) rfl rfl hSw (by rfl) ?yb8 ?_
      case yb8 => (intro w hSx; (try dsimp only at hSx); go_simp; first | done | with_reducible rfl | rfl)
      (try simp only [Act.put, List.setIfInBounds_toArray, List.set_cons_zero, List.set_cons_succ])
      refine wpPlan_takeD (v := ?vb9) rfl rfl hSw (by rfl) ?yb9 ?_
      case yb9 => (intro w hSx; (try dsimp only at hSx); go_simp; first | done | with_reducible rfl | rfl)
      (try simp only [Act.put, List.setIfInBounds_toArray, List.set_cons_zero, List.set_cons_succ])
      refine wpPlan_takeD (v := ?vb10) rfl rfl hSw (by rfl) ?yb10 ?_
      case yb10 => (intro w hSx; (try dsimp only at hSx); go_simp; first | done | with_reducible rfl | rfl)
      (try simp only [Act.put, List.setIfInBounds_toArray, List.set_cons_zero, List.set_cons_succ])
      refine wpPlan_takeD (v := ?vb11) rfl rfl hSw (by rfl) ?yb11 ?_
      case yb11 => (intro w hSx; (try dsimp only at hSx); go_simp; first | done | with_reducible rfl | rfl)
      (try simp only [Act.put, List.setIfInBounds_toArray, List.set_cons_zero, List.set_cons_succ])
      refine wpPlan_takeD (v := ?vb12) rfl rfl hSw (by rfl) ?yb12 ?_
      case yb12 => (intro w hSx; (try dsimp only at hSx); go_simp; first | done | with_reducible rfl | rfl)
      (try simp only [Act.put, List.setIfInBounds_toArray, List.set_cons_zero, List.set_cons_succ])
      refine wpPlan_run rfl (by rfl) (fun K' hK => ?_)
      (go_simp; go_at_call 8; refine (HDI.out _).mono ?_; rintro e d1 ⟨rfl, hbd1⟩)
      refine hK _ _ (.inr ?_) ?_
      · exact HS18.out _ (below_undrew hbd1)
      clear hK K' hSw
      have hSw := HS18.out _ (below_undrew hbd1)
      (try simp only [Act.put, List.setIfInBounds_toArray, List.set_cons_zero, List.set_cons_succ])
      refine wpPlan_takeD (v := ?vb13) rfl rfl hSw (by rfl) ?yb13 ?_
      case yb13 => (intro w hSx; (try dsimp only at hSx); go_simp; first | done | with_reducible rfl | rfl)
      (try simp only [Act.put, List.setIfInBounds_toArray, List.set_cons_zero, List.set_cons_succ])
      refine wpPlan_run rfl (by rfl) (fun K' hK => ?_)
      (go_simp; rw [HNM.out]; go_at_call 16; refine (ref_EqFaultG 6 33 6 33 (36 :: it) (36 :: it) _).mono ?_; rintro e d2 ⟨rfl, hbd2⟩; rw [show decide (((6 : Int) = 6 ∧ (33 : Int) = 33) ∧ (36 :: it) = (36 :: it)) = true by simp])
      refine hK _ _ (.inr ?_) ?_
      · exact HS18.out _ ((below_undrew hbd1).trans (hbd2.mono hbd1.size))
      clear hK K' hSw
      have hSw := HS18.out _ ((below_undrew hbd1).trans (hbd2.mono hbd1.size))
      (try simp only [Act.put, List.setIfInBounds_toArray, List.set_cons_zero, List.set_cons_succ])
      refine wpPlan_takeD (v := ?vb14) rfl rfl hSw (by rfl) ?yb14 ?_
      case yb14 => (intro w hSx; (try dsimp only at hSx); go_simp; first | done | with_reducible rfl | rfl)
      (try simp only [Act.put, List.setIfInBounds_toArray, List.set_cons_zero, List.set_cons_succ])
      refine wpPlan_takeD (v := ?vb15) rfl rfl hSw (by rfl) ?yb15 ?_
      case yb15 => (intro w hSx; (try dsimp only at hSx); go_simp; first | done | with_reducible rfl | rfl)
      (try simp only [Act.put, List.setIfInBounds_toArray, List.set_cons_zero, List.set_cons_succ])
      refine wpPlan_takeD (v := ?vb16) rfl rfl hSw (by rfl) ?yb16 ?_
      case yb16 => (intro w hSx; (try dsimp only at hSx); go_simp; first | done | with_reducible rfl | rfl)
      (try simp only [Act.put, List.setIfInBounds_toArray, List.set_cons_zero, List.set_cons_succ])
      refine wpPlan_takeD (v := ?vb17) rfl rfl hSw (by rfl) ?yb17 ?_
      case yb17 => (intro w hSx; (try dsimp only at hSx); go_simp; first | done | with_reducible rfl | rfl)
      (try simp only [Act.put, List.setIfInBounds_toArray, List.set_cons_zero, List.set_cons_succ])
      refine wpPlan_takeD (v := ?vb18) rfl rfl hSw (by rfl) ?yb18 ?_
      case yb18 => (intro w hSx; (try dsimp only at hSx); go_simp; first | done | with_reducible rfl | rfl)
      (try simp only [Act.put, List.setIfInBounds_toArray, List.set_cons_zero, List.set_cons_succ])
      refine wpPlan_takeD (v := ?vb19) rfl rfl hSw (by rfl) ?yb19 ?_
      case yb19 => (intro w hSx; (try dsimp only at hSx); go_simp; first | done | with_reducible rfl | rfl)
      (try simp only [Act.put, List.setIfInBounds_toArray, List.set_cons_zero, List.set_cons_succ])
      refine wpPlan_takeD (v := ?vb20) rfl rfl hSw (by rfl) ?yb20 ?_
      case yb20 => (intro w hSx; (try dsimp only at hSx); go_simp; first | done | with_reducible rfl | rfl)
      (try simp only [Act.put, List.setIfInBounds_toArray, List.set_cons_zero, List.set_cons_succ])
      refine wpPlan_takeD (v := ?vb21) rfl rfl hSw (by rfl) ?yb21 ?_
      case yb21 => (intro w hSx; (try dsimp only at hSx); go_simp; first | done | with_reducible rfl | rfl)
      (try simp only [Act.put, List.setIfInBounds_toArray, List.set_cons_zero, List.set_cons_succ])
      refine wpPlan_takeD (v := ?vb22) rfl rfl hSw (by rfl) ?yb22 ?_
      case yb22 => (intro w hSx; (try dsimp only at hSx); go_simp; first | done | with_reducible rfl | rfl)
      (try simp only [Act.put, List.setIfInBounds_toArray, List.set_cons_zero, List.set_cons_succ])
      refine wpPlan_run rfl (by rfl) (fun K' hK => ?_)
      (go_simp; go_at_call 8; refine (HDI.out _).mono ?_; rintro e d3 ⟨rfl, hbd3⟩)
      refine hK _ _ (.inr ?_) ?_
      · exact HS18.out _ (((below_undrew hbd1).trans (hbd2.mono hbd1.size)).trans (hbd3.mono ((below_undrew hbd1).trans (hbd2.mono hbd1.size)).size))
      clear hK K' hSw
      have hSw := HS18.out _ (((below_undrew hbd1).trans (hbd2.mono hbd1.size)).trans (hbd3.mono ((below_undrew hbd1).trans (hbd2.mono hbd1.size)).size))
      (try simp only [Act.put, List.setIfInBounds_toArray, List.set_cons_zero, List.set_cons_succ])
      refine wpPlan_takeD (v := ?vb23) rfl rfl hSw (by rfl) ?yb23 ?_
      case yb23 => (intro w hSx; (try dsimp only at hSx); go_simp; first | done | with_reducible rfl | rfl)
      (try simp only [Act.put, List.setIfInBounds_toArray, List.set_cons_zero, List.set_cons_succ])
      refine wpPlan_run rfl (by rfl) (fun K' hK => ?_)
      (go_simp; rw [HNM.out]; go_at_call 16; refine (ref_EqFaultG 6 33 6 33 (36 :: it) (36 :: it) _).mono ?_; rintro e d4 ⟨rfl, hbd4⟩; rw [show decide (((6 : Int) = 6 ∧ (33 : Int) = 33) ∧ (36 :: it) = (36 :: it)) = true by simp])
      refine hK _ _ (.inr ?_) ?_
      · exact HS18.out _ ((((below_undrew hbd1).trans (hbd2.mono hbd1.size)).trans (hbd3.mono ((below_undrew hbd1).trans (hbd2.mono hbd1.size)).size)).trans (hbd4.mono (((below_undrew hbd1).trans (hbd2.mono hbd1.size)).trans (hbd3.mono ((below_undrew hbd1).trans (hbd2.mono hbd1.size)).size)).size))
      clear hK K' hSw
      have hSw := HS18.out _ ((((below_undrew hbd1).trans (hbd2.mono hbd1.size)).trans (hbd3.mono ((below_undrew hbd1).trans (hbd2.mono hbd1.size)).size)).trans (hbd4.mono (((below_undrew hbd1).trans (hbd2.mono hbd1.size)).trans (hbd3.mono ((below_undrew hbd1).trans (hbd2.mono hbd1.size)).size)).size))
      (try simp only [Act.put, List.setIfInBounds_toArray, List.set_cons_zero, List.set_cons_succ])
      refine wpPlan_takeD (v := ?vb24) rfl rfl hSw (by rfl) ?yb24 ?_
      case yb24 => (intro w hSx; (try dsimp only at hSx); go_simp; first | done | with_reducible rfl | rfl)
      (try simp only [Act.put, List.setIfInBounds_toArray, List.set_cons_zero, List.set_cons_succ])
      refine wpPlan_takeD (v := ?vb25) rfl rfl hSw (by rfl) ?yb25 ?_
      case yb25 => (intro w hSx; (try dsimp only at hSx); go_simp; first | done | with_reducible rfl | rfl)
      (try simp only [Act.put, List.setIfInBounds_toArray, List.set_cons_zero, List.set_cons_succ])
      refine wpPlan_done ?_
      have HB16 := Lib.hid (HB15.out.trans (((((below_undrew hbd1).trans (hbd2.mono hbd1.size)).trans (hbd3.mono ((below_undrew hbd1).trans (hbd2.mono hbd1.size)).size)).trans (hbd4.mono (((below_undrew hbd1).trans (hbd2.mono hbd1.size)).trans (hbd3.mono ((below_undrew hbd1).trans (hbd2.mono hbd1.size)).size)).size)).mono HB15.out.size))
      go_wp2_with fail
      go_ret
      exact ⟨rfl, HB16.out⟩
    · have hc1i : ¬ (m : Int) < 1 := by omega
      by_cases hc2 : a < m
      · have hc2i : (a : Int) < (m : Int) := by omega
        have HBO := Lib.hid (show Calls Tryd.prog 14 #[.agg #[.slice ta G.toks.length tc, .slice na G.nons.length nc, .slice pa G.prods.length pc, .string ⟨G.pro.toArray⟩, .string ⟨G.tail.toArray⟩], .int .i64 1] w9 (fun e w' => e = .returned (.tuple #[.string ⟨#[]⟩, .agg #[.int .i64 6, .int .i64 33, .string ⟨(36 :: it).toArray⟩]]) ∧ Below w9.heap.size w9 w') from by
          have h := subst_Body G _ 1 w9 HGA.out (HGL.out _ (Below.refl _ _)) (by decide) (by omega) (by omega) (by omega) HTG.out HPR.out
          rw [HBD1.out, if_pos (by unfold Sp.rgBad; exact decide_eq_true (.inr hc2))] at h
          unfold Sp.rgFault at h; rw [← HIT.out] at h
          exact h)
        have HAL := Lib.hid (fun (w : World) (hb : Below w9.heap.size w9 w) => (show Calls Tryd.prog 15 #[.agg #[.slice ta G.toks.length tc, .slice na G.nons.length nc, .slice pa G.prods.length pc, .string ⟨G.pro.toArray⟩, .string ⟨G.tail.toArray⟩]] w (fun e w' => Below w.heap.size w w' ∧ ∃ lv, e = .returned (.tuple #[lv, .agg #[.int .i64 6, .int .i64 33, .string ⟨(36 :: it).toArray⟩]]) ∧ w'.ownsRow w.heap.size 9 1 lv 0 []) from by
          have h := subst_All G _ w (HGA.out.below hb) (HGL.out _ hb) (by omega) (by omega) (by omega) HTG.out HPR.out
          rw [HBDA.out, if_pos (by unfold Sp.rgBad; exact decide_eq_true (.inr hc2))] at h
          unfold Sp.rgFault at h; rw [← HIT.out] at h
          exact h))
        have HB2 := Lib.hid (fun (w : World) (hb : Below w9.heap.size w9 w) => (show Calls Tryd.prog 14 #[.agg #[.slice ta G.toks.length tc, .slice na G.nons.length nc, .slice pa G.prods.length pc, .string ⟨G.pro.toArray⟩, .string ⟨G.tail.toArray⟩], .int .i64 2] w (fun e w' => e = .returned (.tuple #[.string ⟨#[123, 32, 121, 121, 68, 111, 108, 108, 97, 114, 91, 49, 93, 32, 125]⟩, .agg #[.int .i64 0, .int .i64 0, .string ⟨#[]⟩]]) ∧ Below w.heap.size w w') from by
          have h := subst_Body G _ 2 w (HGA.out.below hb) (HGL.out _ hb) (by decide) (by omega) (by omega) (by omega) HTG.out HPR.out
          rw [HBD2.out] at h
          exact h))
        go_wp2_with fail
        refine HBO.out.mono ?_
        rintro e w10 ⟨rfl, hb10⟩
        obtain ⟨w11, hw11⟩ : ∃ w11 : World, w11 = w10.alloc (.cells #[.int .i64 6, .int .i64 33, .string ⟨(36 :: it).toArray⟩] 32) := ⟨_, rfl⟩
        have hb11 : Below w9.heap.size w9 w11 := by rw [hw11]; exact hb10.alloc hb10.size _
        have h11 : w11.heap[w10.heap.size]? = some (.cells #[.int .i64 6, .int .i64 33, .string ⟨(36 :: it).toArray⟩] 32 (0, 0)) := by rw [hw11]; exact heap_last w10 _
        have HB11 := Lib.hid hb11; have H11 := Lib.hid h11
        have hg11 := (hb11.block _ (lt_at HG9.out)).trans HG9.out
        clear hb10 hb11 h11 g0 g1 g2 g3 g4 lg HBO
        have g0 := cell_at (i := 0) hg11; have g1 := cell_at (i := 1) hg11; have g2 := cell_at (i := 2) hg11; have g3 := cell_at (i := 3) hg11; have g4 := cell_at (i := 4) hg11
        have lg := lt_at hg11
        clear hg11
        go_upto_region 13 with fail
        rw [← hw11]
        generalize hf1 : w10.heap.size = f1 at *
        clear hw11 hf1
        go_wp2_with fail
        refine (HAL.out _ HB11.out).mono ?_
        rintro e w12 ⟨hb12, lv, rfl, hrow⟩
        obtain ⟨la, lc, rfl⟩ := ownsRowS_some hrow
        obtain ⟨w13, hw13⟩ : ∃ w13 : World, w13 = w12.alloc (.cells #[.int .i64 6, .int .i64 33, .string ⟨(36 :: it).toArray⟩] 32) := ⟨_, rfl⟩
        have hb1213 : Below w12.heap.size w12 w13 := by rw [hw13]; exact (Below.refl _ w12).alloc (Nat.le_refl _) _
        have hb1113 : Below w11.heap.size w11 w13 := hb12.trans (hb1213.mono hb12.size)
        have h13 : w13.heap[w12.heap.size]? = some (.cells #[.int .i64 6, .int .i64 33, .string ⟨(36 :: it).toArray⟩] 32 (0, 0)) := by rw [hw13]; exact heap_last w12 _
        have HB13 := Lib.hid (HB11.out.trans (hb1113.mono HB11.out.size)); have H13 := Lib.hid h13
        have HF1 := Lib.hid ((hb1113.block _ (lt_at H11.out)).trans H11.out)
        have hg13 := (HB13.out.block _ (lt_at HG9.out)).trans HG9.out
        clear hb12 hb1213 hb1113 h13 hrow g0 g1 g2 g3 g4 lg HAL
        have g0 := cell_at (i := 0) hg13; have g1 := cell_at (i := 1) hg13; have g2 := cell_at (i := 2) hg13; have g3 := cell_at (i := 3) hg13; have g4 := cell_at (i := 4) hg13
        have lg := lt_at hg13
        clear hg13
        go_upto_region 14 with fail
        rw [← hw13]
        generalize hf2 : w12.heap.size = f2 at *
        clear hw13 hf2
        go_wp2_with fail
        refine (HB2.out _ HB13.out).mono ?_
        rintro e w14 ⟨rfl, hb14⟩
        obtain ⟨w15, hw15⟩ : ∃ w15 : World, w15 = w14.alloc (.cells #[.int .i64 0, .int .i64 0, .string ⟨#[]⟩] 32) := ⟨_, rfl⟩
        have hb15 : Below w13.heap.size w13 w15 := by rw [hw15]; exact hb14.alloc hb14.size _
        have h15 : w15.heap[w14.heap.size]? = some (.cells #[.int .i64 0, .int .i64 0, .string ⟨#[]⟩] 32 (0, 0)) := by rw [hw15]; exact heap_last w14 _
        have hq1 := (hb15.block _ (lt_at HF1.out)).trans HF1.out
        have hq2 := (hb15.block _ (lt_at H13.out)).trans H13.out
        have HB15 := Lib.hid (HB9.out.trans ((HB13.out.trans (hb15.mono HB13.out.size)).mono HB9.out.size))
        have r0 := cell_at (i := 0) h15; have r1 := cell_at (i := 1) h15; have r2 := cell_at (i := 2) h15
        have lr := lt_at h15
        have HS18 := Lib.hid (fun (w' : World) (hb : Below w15.heap.size w15 w') => (show (w'.cell? ⟨f1, 0, none⟩ = some (.int .i64 6) ∧ w'.cell? ⟨f1, 1, none⟩ = some (.int .i64 33) ∧ w'.cell? ⟨f1, 2, none⟩ = some (.string ⟨(36 :: it).toArray⟩) ∧ f1 < w'.heap.size ∧ w'.cell? ⟨f2, 0, none⟩ = some (.int .i64 6) ∧ w'.cell? ⟨f2, 1, none⟩ = some (.int .i64 33) ∧ w'.cell? ⟨f2, 2, none⟩ = some (.string ⟨(36 :: it).toArray⟩) ∧ f2 < w'.heap.size) from by
          have k1 := (hb.block _ (lt_at hq1)).trans hq1; have k2 := (hb.block _ (lt_at hq2)).trans hq2
          exact ⟨cell_at (i := 0) k1, cell_at (i := 1) k1, cell_at (i := 2) k1, lt_at k1, cell_at (i := 0) k2, cell_at (i := 1) k2, cell_at (i := 2) k2, lt_at k2⟩))
        clear hb14 hb15 h15 hq1 hq2 g0 g1 g2 g3 g4 lg HB2 HF1 HB11
        go_upto_region 15 with fail
        rw [← hw15]
        generalize hf3 : w14.heap.size = f3 at *
        clear hw15 hf3
        go_upto_region 18 with fail
        clear r0 r1 r2 lr
        refine wp_region_plan (fun w' : World => (w'.cell? ⟨f1, 0, none⟩ = some (.int .i64 6) ∧ w'.cell? ⟨f1, 1, none⟩ = some (.int .i64 33) ∧ w'.cell? ⟨f1, 2, none⟩ = some (.string ⟨(36 :: it).toArray⟩) ∧ f1 < w'.heap.size ∧ w'.cell? ⟨f2, 0, none⟩ = some (.int .i64 6) ∧ w'.cell? ⟨f2, 1, none⟩ = some (.int .i64 33) ∧ w'.cell? ⟨f2, 2, none⟩ = some (.string ⟨(36 :: it).toArray⟩) ∧ f2 < w'.heap.size)) [] (.take 0 (.take 1 (.take 2 (.take 3 (.take 4 (.one 5 (.take 6 (.one 7 (.take 8 (.take 9 (.take 10 (.take 11 (.take 12 (.take 13 (.take 14 (.take 15 (.take 16 (.one 17 (.take 18 (.one 19 (.take 20 (.take 21 (.done))))))))))))))))))))))) (by kernel_rfl) (by kernel_rfl) (fun _ _ _ _ h => h) ?_
        have hSw := HS18.out _ (below_drewN (Below.refl _ w15) 1)
        refine wpPlan_takeD (v := ?vc26) rfl rfl hSw (by rfl) ?yc26 ?_
        case yc26 => (intro w hSx; (try dsimp only at hSx); go_simp; first | done | with_reducible rfl | rfl)
        (try simp only [Act.put, List.setIfInBounds_toArray, List.set_cons_zero, List.set_cons_succ])
        refine wpPlan_takeD (v := ?vc27) rfl rfl hSw (by rfl) ?yc27 ?_
        case yc27 => (intro w hSx; (try dsimp only at hSx); go_simp; first | done | with_reducible rfl | rfl)
        (try simp only [Act.put, List.setIfInBounds_toArray, List.set_cons_zero, List.set_cons_succ])
        refine wpPlan_takeD (v := ?vc28) rfl rfl hSw (by rfl) ?yc28 ?_
        case yc28 => (intro w hSx; (try dsimp only at hSx); go_simp; first | done | with_reducible rfl | rfl)
        (try simp only [Act.put, List.setIfInBounds_toArray, List.set_cons_zero, List.set_cons_succ])
        refine wpPlan_takeD (v := ?vc29) rfl rfl hSw (by rfl) ?yc29 ?_
        case yc29 => (intro w hSx; (try dsimp only at hSx); go_simp; first | done | with_reducible rfl | rfl)
        (try simp only [Act.put, List.setIfInBounds_toArray, List.set_cons_zero, List.set_cons_succ])
        refine wpPlan_takeD (v := ?vc30) rfl rfl hSw (by rfl) ?yc30 ?_
        case yc30 => (intro w hSx; (try dsimp only at hSx); go_simp; first | done | with_reducible rfl | rfl)
        (try simp only [Act.put, List.setIfInBounds_toArray, List.set_cons_zero, List.set_cons_succ])
        refine wpPlan_run rfl (by rfl) (fun K' hK => ?_)
        (go_simp; go_at_call 8; refine (HDI.out _).mono ?_; rintro e d1 ⟨rfl, hbd1⟩)
        refine hK _ _ (.inr ?_) ?_
        · exact HS18.out _ (below_undrew hbd1)
        clear hK K' hSw
        have hSw := HS18.out _ (below_undrew hbd1)
        (try simp only [Act.put, List.setIfInBounds_toArray, List.set_cons_zero, List.set_cons_succ])
        refine wpPlan_takeD (v := ?vc31) rfl rfl hSw (by rfl) ?yc31 ?_
        case yc31 => (intro w hSx; (try dsimp only at hSx); go_simp; first | done | with_reducible rfl | rfl)
        (try simp only [Act.put, List.setIfInBounds_toArray, List.set_cons_zero, List.set_cons_succ])
        refine wpPlan_run rfl (by rfl) (fun K' hK => ?_)
        (go_simp; rw [HNM.out]; go_at_call 16; refine (ref_EqFaultG 6 33 6 33 (36 :: it) (36 :: it) _).mono ?_; rintro e d2 ⟨rfl, hbd2⟩; rw [show decide (((6 : Int) = 6 ∧ (33 : Int) = 33) ∧ (36 :: it) = (36 :: it)) = true by simp])
        refine hK _ _ (.inr ?_) ?_
        · exact HS18.out _ ((below_undrew hbd1).trans (hbd2.mono hbd1.size))
        clear hK K' hSw
        have hSw := HS18.out _ ((below_undrew hbd1).trans (hbd2.mono hbd1.size))
        (try simp only [Act.put, List.setIfInBounds_toArray, List.set_cons_zero, List.set_cons_succ])
        refine wpPlan_takeD (v := ?vc32) rfl rfl hSw (by rfl) ?yc32 ?_
        case yc32 => (intro w hSx; (try dsimp only at hSx); go_simp; first | done | with_reducible rfl | rfl)
        (try simp only [Act.put, List.setIfInBounds_toArray, List.set_cons_zero, List.set_cons_succ])
        refine wpPlan_takeD (v := ?vc33) rfl rfl hSw (by rfl) ?yc33 ?_
        case yc33 => (intro w hSx; (try dsimp only at hSx); go_simp; first | done | with_reducible rfl | rfl)
        (try simp only [Act.put, List.setIfInBounds_toArray, List.set_cons_zero, List.set_cons_succ])
        refine wpPlan_takeD (v := ?vc34) rfl rfl hSw (by rfl) ?yc34 ?_
        case yc34 => (intro w hSx; (try dsimp only at hSx); go_simp; first | done | with_reducible rfl | rfl)
        (try simp only [Act.put, List.setIfInBounds_toArray, List.set_cons_zero, List.set_cons_succ])
        refine wpPlan_takeD (v := ?vc35) rfl rfl hSw (by rfl) ?yc35 ?_
        case yc35 => (intro w hSx; (try dsimp only at hSx); go_simp; first | done | with_reducible rfl | rfl)
        (try simp only [Act.put, List.setIfInBounds_toArray, List.set_cons_zero, List.set_cons_succ])
        refine wpPlan_takeD (v := ?vc36) rfl rfl hSw (by rfl) ?yc36 ?_
        case yc36 => (intro w hSx; (try dsimp only at hSx); go_simp; first | done | with_reducible rfl | rfl)
        (try simp only [Act.put, List.setIfInBounds_toArray, List.set_cons_zero, List.set_cons_succ])
        refine wpPlan_takeD (v := ?vc37) rfl rfl hSw (by rfl) ?yc37 ?_
        case yc37 => (intro w hSx; (try dsimp only at hSx); go_simp; first | done | with_reducible rfl | rfl)
        (try simp only [Act.put, List.setIfInBounds_toArray, List.set_cons_zero, List.set_cons_succ])
        refine wpPlan_takeD (v := ?vc38) rfl rfl hSw (by rfl) ?yc38 ?_
        case yc38 => (intro w hSx; (try dsimp only at hSx); go_simp; first | done | with_reducible rfl | rfl)
        (try simp only [Act.put, List.setIfInBounds_toArray, List.set_cons_zero, List.set_cons_succ])
        refine wpPlan_takeD (v := ?vc39) rfl rfl hSw (by rfl) ?yc39 ?_
        case yc39 => (intro w hSx; (try dsimp only at hSx); go_simp; first | done | with_reducible rfl | rfl)
        (try simp only [Act.put, List.setIfInBounds_toArray, List.set_cons_zero, List.set_cons_succ])
        refine wpPlan_takeD (v := ?vc40) rfl rfl hSw (by rfl) ?yc40 ?_
        case yc40 => (intro w hSx; (try dsimp only at hSx); go_simp; first | done | with_reducible rfl | rfl)
        (try simp only [Act.put, List.setIfInBounds_toArray, List.set_cons_zero, List.set_cons_succ])
        refine wpPlan_run rfl (by rfl) (fun K' hK => ?_)
        (go_simp; go_at_call 8; refine (HDI.out _).mono ?_; rintro e d3 ⟨rfl, hbd3⟩)
        refine hK _ _ (.inr ?_) ?_
        · exact HS18.out _ (((below_undrew hbd1).trans (hbd2.mono hbd1.size)).trans (hbd3.mono ((below_undrew hbd1).trans (hbd2.mono hbd1.size)).size))
        clear hK K' hSw
        have hSw := HS18.out _ (((below_undrew hbd1).trans (hbd2.mono hbd1.size)).trans (hbd3.mono ((below_undrew hbd1).trans (hbd2.mono hbd1.size)).size))
        (try simp only [Act.put, List.setIfInBounds_toArray, List.set_cons_zero, List.set_cons_succ])
        refine wpPlan_takeD (v := ?vc41) rfl rfl hSw (by rfl) ?yc41 ?_
        case yc41 => (intro w hSx; (try dsimp only at hSx); go_simp; first | done | with_reducible rfl | rfl)
        (try simp only [Act.put, List.setIfInBounds_toArray, List.set_cons_zero, List.set_cons_succ])
        refine wpPlan_run rfl (by rfl) (fun K' hK => ?_)
        (go_simp; rw [HNM.out]; go_at_call 16; refine (ref_EqFaultG 6 33 6 33 (36 :: it) (36 :: it) _).mono ?_; rintro e d4 ⟨rfl, hbd4⟩; rw [show decide (((6 : Int) = 6 ∧ (33 : Int) = 33) ∧ (36 :: it) = (36 :: it)) = true by simp])
        refine hK _ _ (.inr ?_) ?_
        · exact HS18.out _ ((((below_undrew hbd1).trans (hbd2.mono hbd1.size)).trans (hbd3.mono ((below_undrew hbd1).trans (hbd2.mono hbd1.size)).size)).trans (hbd4.mono (((below_undrew hbd1).trans (hbd2.mono hbd1.size)).trans (hbd3.mono ((below_undrew hbd1).trans (hbd2.mono hbd1.size)).size)).size))
        clear hK K' hSw
        have hSw := HS18.out _ ((((below_undrew hbd1).trans (hbd2.mono hbd1.size)).trans (hbd3.mono ((below_undrew hbd1).trans (hbd2.mono hbd1.size)).size)).trans (hbd4.mono (((below_undrew hbd1).trans (hbd2.mono hbd1.size)).trans (hbd3.mono ((below_undrew hbd1).trans (hbd2.mono hbd1.size)).size)).size))
        (try simp only [Act.put, List.setIfInBounds_toArray, List.set_cons_zero, List.set_cons_succ])
        refine wpPlan_takeD (v := ?vc42) rfl rfl hSw (by rfl) ?yc42 ?_
        case yc42 => (intro w hSx; (try dsimp only at hSx); go_simp; first | done | with_reducible rfl | rfl)
        (try simp only [Act.put, List.setIfInBounds_toArray, List.set_cons_zero, List.set_cons_succ])
        refine wpPlan_takeD (v := ?vc43) rfl rfl hSw (by rfl) ?yc43 ?_
        case yc43 => (intro w hSx; (try dsimp only at hSx); go_simp; first | done | with_reducible rfl | rfl)
        (try simp only [Act.put, List.setIfInBounds_toArray, List.set_cons_zero, List.set_cons_succ])
        refine wpPlan_done ?_
        have HB16 := Lib.hid (HB15.out.trans (((((below_undrew hbd1).trans (hbd2.mono hbd1.size)).trans (hbd3.mono ((below_undrew hbd1).trans (hbd2.mono hbd1.size)).size)).trans (hbd4.mono (((below_undrew hbd1).trans (hbd2.mono hbd1.size)).trans (hbd3.mono ((below_undrew hbd1).trans (hbd2.mono hbd1.size)).size)).size)).mono HB15.out.size))
        go_wp2_with fail
        go_ret
        exact ⟨rfl, HB16.out⟩
      · have hc2i : ¬ (a : Int) < (m : Int) := by omega
        obtain ⟨X, hX⟩ : ∃ X : ByteArray, X = ⟨(Sp.rgText m).toArray⟩ := ⟨_, rfl⟩
        have HX := Lib.hid hX
        have HXC : Hid ((⟨#[123, 32, 121, 121, 68, 111, 108, 108, 97, 114, 91]⟩ : ByteArray) ++ (⟨it.toArray⟩ : ByteArray) ++ (⟨#[93, 32, 125]⟩ : ByteArray) = X) := Lib.hid (by
          rw [hX, show (⟨#[123, 32, 121, 121, 68, 111, 108, 108, 97, 114, 91]⟩ : ByteArray) = ⟨([123, 32, 121, 121, 68, 111, 108, 108, 97, 114, 91] : List UInt8).toArray⟩ from rfl, show (⟨#[93, 32, 125]⟩ : ByteArray) = ⟨([93, 32, 125] : List UInt8).toArray⟩ from rfl, rcat, rcat]
          unfold Sp.rgText
          rw [← HIT.out])
        clear hX
        have HBO := Lib.hid (show Calls Tryd.prog 14 #[.agg #[.slice ta G.toks.length tc, .slice na G.nons.length nc, .slice pa G.prods.length pc, .string ⟨G.pro.toArray⟩, .string ⟨G.tail.toArray⟩], .int .i64 1] w9 (fun e w' => e = .returned (.tuple #[.string X, .agg #[.int .i64 0, .int .i64 0, .string ⟨#[]⟩]]) ∧ Below w9.heap.size w9 w') from by
          have h := subst_Body G _ 1 w9 HGA.out (HGL.out _ (Below.refl _ _)) (by decide) (by omega) (by omega) (by omega) HTG.out HPR.out
          rw [HBD1.out, if_neg (by unfold Sp.rgBad; simp; omega)] at h
          rw [HX.out]
          exact h)
        have HAL := Lib.hid (fun (w : World) (hb : Below w9.heap.size w9 w) => (show Calls Tryd.prog 15 #[.agg #[.slice ta G.toks.length tc, .slice na G.nons.length nc, .slice pa G.prods.length pc, .string ⟨G.pro.toArray⟩, .string ⟨G.tail.toArray⟩]] w (fun e w' => Below w.heap.size w w' ∧ ∃ lv, e = .returned (.tuple #[lv, .agg #[.int .i64 0, .int .i64 0, .string ⟨#[]⟩]]) ∧ w'.ownsRow w.heap.size 9 1 lv 3 [.string ⟨#[]⟩, .string X, .string ⟨Sp.rgEnd.toArray⟩]) from by
          have h := subst_All G _ w (HGA.out.below hb) (HGL.out _ hb) (by omega) (by omega) (by omega) HTG.out HPR.out
          rw [HBDA.out, if_neg (by unfold Sp.rgBad; simp; omega)] at h
          rw [HX.out]
          exact h))
        have HB2 := Lib.hid (fun (w : World) (hb : Below w9.heap.size w9 w) => (show Calls Tryd.prog 14 #[.agg #[.slice ta G.toks.length tc, .slice na G.nons.length nc, .slice pa G.prods.length pc, .string ⟨G.pro.toArray⟩, .string ⟨G.tail.toArray⟩], .int .i64 2] w (fun e w' => e = .returned (.tuple #[.string ⟨#[123, 32, 121, 121, 68, 111, 108, 108, 97, 114, 91, 49, 93, 32, 125]⟩, .agg #[.int .i64 0, .int .i64 0, .string ⟨#[]⟩]]) ∧ Below w.heap.size w w') from by
          have h := subst_Body G _ 2 w (HGA.out.below hb) (HGL.out _ hb) (by decide) (by omega) (by omega) (by omega) HTG.out HPR.out
          rw [HBD2.out] at h
          exact h))
        go_wp2_with fail
        refine HBO.out.mono ?_
        rintro e w10 ⟨rfl, hb10⟩
        obtain ⟨w11, hw11⟩ : ∃ w11 : World, w11 = w10.alloc (.cells #[.int .i64 0, .int .i64 0, .string ⟨#[]⟩] 32) := ⟨_, rfl⟩
        have hb11 : Below w9.heap.size w9 w11 := by rw [hw11]; exact hb10.alloc hb10.size _
        have h11 : w11.heap[w10.heap.size]? = some (.cells #[.int .i64 0, .int .i64 0, .string ⟨#[]⟩] 32 (0, 0)) := by rw [hw11]; exact heap_last w10 _
        have HB11 := Lib.hid hb11; have H11 := Lib.hid h11
        have hg11 := (hb11.block _ (lt_at HG9.out)).trans HG9.out
        clear hb10 hb11 h11 g0 g1 g2 g3 g4 lg HBO
        have g0 := cell_at (i := 0) hg11; have g1 := cell_at (i := 1) hg11; have g2 := cell_at (i := 2) hg11; have g3 := cell_at (i := 3) hg11; have g4 := cell_at (i := 4) hg11
        have lg := lt_at hg11
        clear hg11
        go_upto_region 13 with fail
        rw [← hw11]
        generalize hf1 : w10.heap.size = f1 at *
        clear hw11 hf1
        go_wp2_with fail
        refine (HAL.out _ HB11.out).mono ?_
        rintro e w12 ⟨hb12, lv, rfl, hrow⟩
        obtain ⟨lb, lcap, rfl, hl1, hllb⟩ : ∃ lb lcap, lv = .slice (some ⟨lb, 0, none⟩) 3 lcap ∧ w12.cell? ⟨lb, 1, none⟩ = some (.string X) ∧ lb < w12.heap.size := by
          rcases hrow.2 with ⟨_, h0⟩ | ⟨b, cap, cur, rfl, _⟩
          · simp at h0
          · have hsl : SlAt w12 (.slice (some ⟨b, 0, none⟩) 3 cap) 1 [[.string ⟨#[]⟩], [.string X], [.string ⟨Sp.rgEnd.toArray⟩]] := slAt_of_owns (base := w11.heap.size) (e := 9) (n := 3) _ (fun r hr => by simp only [List.mem_cons, List.not_mem_nil, or_false] at hr; rcases hr with rfl | rfl | rfl <;> rfl) rfl hrow
            obtain ⟨b1, o1, e1, hbl, hc1⟩ := hsl.at (k := 1) (row := [.string X]) rfl
            simp only [Option.some.injEq, Addr.mk.injEq, and_true] at e1
            obtain ⟨rfl, rfl⟩ := e1
            have h1 := hc1 w12 (Below.refl _ _) 0 _ rfl
            exact ⟨_, cap, rfl, by simpa using h1, hbl⟩
        obtain ⟨w13, hw13⟩ : ∃ w13 : World, w13 = w12.alloc (.cells #[.int .i64 0, .int .i64 0, .string ⟨#[]⟩] 32) := ⟨_, rfl⟩
        have hb1213 : Below w12.heap.size w12 w13 := by rw [hw13]; exact (Below.refl _ w12).alloc (Nat.le_refl _) _
        have hb1113 : Below w11.heap.size w11 w13 := hb12.trans (hb1213.mono hb12.size)
        have h13 : w13.heap[w12.heap.size]? = some (.cells #[.int .i64 0, .int .i64 0, .string ⟨#[]⟩] 32 (0, 0)) := by rw [hw13]; exact heap_last w12 _
        have HB13 := Lib.hid (HB11.out.trans (hb1113.mono HB11.out.size)); have H13 := Lib.hid h13
        have HF1 := Lib.hid ((hb1113.block _ (lt_at H11.out)).trans H11.out)
        have hg13 := (HB13.out.block _ (lt_at HG9.out)).trans HG9.out
        have HL1 := Lib.hid ((hb1213.cell (p := ⟨lb, 1, none⟩) hllb).trans hl1)
        have HLL : Hid (lb < w13.heap.size) := Lib.hid (by have := hb1213.size; omega)
        clear hl1 hllb
        clear hb12 hb1213 hb1113 h13 hrow g0 g1 g2 g3 g4 lg HAL
        have g0 := cell_at (i := 0) hg13; have g1 := cell_at (i := 1) hg13; have g2 := cell_at (i := 2) hg13; have g3 := cell_at (i := 3) hg13; have g4 := cell_at (i := 4) hg13
        have lg := lt_at hg13
        clear hg13
        go_upto_region 14 with fail
        rw [← hw13]
        generalize hf2 : w12.heap.size = f2 at *
        clear hw13 hf2
        go_wp2_with fail
        refine (HB2.out _ HB13.out).mono ?_
        rintro e w14 ⟨rfl, hb14⟩
        obtain ⟨w15, hw15⟩ : ∃ w15 : World, w15 = w14.alloc (.cells #[.int .i64 0, .int .i64 0, .string ⟨#[]⟩] 32) := ⟨_, rfl⟩
        have hb15 : Below w13.heap.size w13 w15 := by rw [hw15]; exact hb14.alloc hb14.size _
        have h15 : w15.heap[w14.heap.size]? = some (.cells #[.int .i64 0, .int .i64 0, .string ⟨#[]⟩] 32 (0, 0)) := by rw [hw15]; exact heap_last w14 _
        have hq1 := (hb15.block _ (lt_at HF1.out)).trans HF1.out
        have hq2 := (hb15.block _ (lt_at H13.out)).trans H13.out
        have HB15 := Lib.hid (HB9.out.trans ((HB13.out.trans (hb15.mono HB13.out.size)).mono HB9.out.size))
        have r0 := cell_at (i := 0) h15; have r1 := cell_at (i := 1) h15; have r2 := cell_at (i := 2) h15
        have lr := lt_at h15
        have hl15 := (hb15.cell (p := ⟨lb, 1, none⟩) HLL.out).trans HL1.out
        have hll15 : lb < w15.heap.size := by have := hb15.size; have := HLL.out; omega
        have q0 := cell_at (i := 0) hq1; have q1 := cell_at (i := 1) hq1; have q2 := cell_at (i := 2) hq1
        have s0 := cell_at (i := 0) hq2; have s1 := cell_at (i := 1) hq2; have s2 := cell_at (i := 2) hq2
        have lq := lt_at hq1; have ls := lt_at hq2
        clear hb14 hb15 h15 hq1 hq2 g0 g1 g2 g3 g4 lg HB2 HF1 HB11
        go_upto_region 15 with fail
        rw [← hw15]
        generalize hf3 : w14.heap.size = f3 at *
        clear hw15 hf3
        go_upto_region 19 with fail
        clear r0 r1 r2 lr
        go_wp2_with fail
        refine (HDI.out _).mono ?_
        rintro e w16 ⟨rfl, hb16⟩
        have c0 := (hb16.cell (p := ⟨f1, 0, none⟩) lq).trans q0
        have c1 := (hb16.cell (p := ⟨f2, 0, none⟩) ls).trans s0
        have c2 := (hb16.cell (p := ⟨lb, 1, none⟩) hll15).trans hl15
        have lq16 : f1 < w16.heap.size := by have := hb16.size; omega
        have ls16 : f2 < w16.heap.size := by have := hb16.size; omega
        have ll16 : lb < w16.heap.size := by have := hb16.size; omega
        have HB16 := Lib.hid (HB15.out.trans (hb16.mono HB15.out.size))
        have hxc := HXC.out
        clear hb16 q0 q1 q2 s0 s1 s2 lq ls hl15 hll15
        go_wp2_with fail
        go_ret
        exact ⟨rfl, HB16.out⟩
end Go.Proofs.YtphdfbmmjkccgaaDoor
