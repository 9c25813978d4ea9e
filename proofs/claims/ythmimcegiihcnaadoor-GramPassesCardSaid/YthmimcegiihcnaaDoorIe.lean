/- The walk of GramPasses. -/
import Derived.Test.YthmimcegiihcnaaDoorId
namespace Go.Proofs.YthmimcegiihcnaaDoor
open Go.RowKit Go.Maps

set_option maxHeartbeats 1600000 in
theorem ref_Within9 (i : Int) (n : Nat) (w : World) (hn : 0 < n) (hb : n ≤ 60000) (hi : (Lit.int .i64 i).wf = true) :
    Calls Tryd.prog 23 #[.int .i64 i, .int .i64 n] w fun e w' => e = .returned (.int .i64 (i % (n : Int))) ∧ w = w' := by
  have h1 := Int.tmod_lt_of_pos i (b := (n : Int)) (by omega)
  have h2 : -(n : Int) < i.tmod n := by
    by_cases hi : 0 ≤ i
    · have := Int.tmod_nonneg (n : Int) hi; omega
    · have := Int.tmod_lt_of_pos (-i) (b := (n : Int)) (by omega)
      rw [Int.neg_tmod] at this; omega
  have h3 : i % (n : Int) = if i.tmod n < 0 then i.tmod n + n else i.tmod n := by
    have e1 := Int.mul_tdiv_add_tmod i n
    split
    · refine Int.emod_eq_of_lt (a := i.tmod n + n) (b := (n : Int)) (by omega) (by omega) ▸ ?_
      conv => lhs; rw [← e1]
      rw [Int.mul_add_emod_self_left, Int.add_emod_right]
    · refine Int.emod_eq_of_lt (a := i.tmod n) (b := (n : Int)) (by omega) (by omega) ▸ ?_
      conv => lhs; rw [← e1]
      rw [Int.mul_add_emod_self_left]
  generalize i % (n : Int) = N at *
  have HN := Lib.hid h3
  clear h3
  go_enter Tryd.func23, Tryd.ntmps23
  go_wp2
  all_goals (go_ret; have h3 := HN.out; refine ⟨ret_int ?_, rfl⟩)
  · rw [if_pos (by omega)] at h3
    rw [h3]
  · rw [if_neg (by omega)] at h3
    rw [h3]

theorem owns_block {w : World} {b B size n : Nat} {e : TypeId} {cs : Array Value} (h : w.heap[b]? = some (.cells cs e (0, 0))) (hb : B ≤ b) (hl : cs.size = n * size) (hm : n ≤ maxLen) : w.ownsRow B e size (.slice (some ⟨b, 0, none⟩) n n) n cs.toList :=
  ⟨by simpa using hl, .inr ⟨b, n, cs, rfl, hb, h, Nat.le_refl _, hm, hl, List.take_of_length_le (by rw [Array.length_toList, hl]; exact Nat.le_refl _)⟩⟩
def partsL (d : Bool) (low : Int) : List Sp.Part := [⟨⟨[120], true, 0, 0⟩, [], 0⟩] ++ (if d then [⟨⟨[110, 111, 98, 111, 100, 121], false, 0, low⟩, [], low⟩] else [])
/-- The source as it is made: its box, its one rule, its one alternative, the parts. -/
structure PassSt (B : Nat) (w : World) (bs br ba : Nat) (dv pv : Value) (ds : List Sp.Decl) (ps : List Sp.Part) : Prop where
  src : w.heap[bs]? = some (.cells #[.string ⟨#[]⟩, dv, .slice (some ⟨br, 0, none⟩) 1 1, .string ⟨#[]⟩] 29 (0, 0))
  rule : w.heap[br]? = some (.cells #[.string ⟨#[97]⟩, .slice (some ⟨ba, 0, none⟩) 1 1, .int .i64 0] 52 (0, 0))
  alt : w.heap[ba]? = some (.cells #[pv, .string ⟨#[]⟩, .bool false, .int .i64 0, .int .i64 0, .int .i64 0] 49 (0, 0))
  parts : w.ownsRow B 46 6 pv ps.length (ps.map partC).flatten
  decls : DeclsOwn B w dv ds
  ge : B ≤ bs ∧ B ≤ br ∧ B ≤ ba
theorem PassSt.rules {B : Nat} {w : World} {bs br ba : Nat} {dv pv : Value} {ds : List Sp.Decl} {ps : List Sp.Part} (h : PassSt B w bs br ba dv pv ds ps) :
    RulesOwn B w (.slice (some ⟨br, 0, none⟩) 1 1) [⟨[97], [⟨ps, ⟨[], false, 0, 0⟩, 0⟩], 0⟩] := by
  refine ⟨fun _ => .slice (some ⟨ba, 0, none⟩) 1 1, owns_block h.rule h.ge.2.1 rfl (by decide), fun i r hr => ?_⟩
  obtain ⟨rfl, rfl⟩ := one_at hr
  refine ⟨B, fun _ => pv, owns_block h.alt h.ge.2.2 rfl (by decide), fun i a ha => ?_⟩
  obtain ⟨rfl, rfl⟩ := one_at ha
  exact ⟨B, h.parts⟩
theorem KpT.of_kp {T : TypeId → Prop} {S : Nat → Prop} {w w' : World} (k : Kp S w w') (h : ∀ b cs t fr, w.heap[b]? = some (.cells cs t fr) → T t → S b) : KpT T w w' := fun b cs t fr hb ht => (k.block b (lt_at hb) (h b cs t fr hb ht)).trans hb
/-- A part more. -/
theorem PassSt.addPart {B : Nat} {w w8 w' : World} {bs br ba : Nat} {pv pv' : Value} {ps : List Sp.Part} {p : Sp.Part} (h : PassSt B w bs br ba (.slice none 0 0) pv [] ps) (hk : Kp (fun b => b = bs ∨ b = br ∨ b = ba) w w8) (hown : w8.ownsRow B 46 6 pv' (ps.length + 1) ((ps.map partC).flatten ++ partC p)) (hw : w' = w8.setCell ⟨ba, 0, none⟩ pv') :
    PassSt B w' bs br ba (.slice none 0 0) pv' [] (ps ++ [p]) := by
  subst hw
  have hne1 : bs ≠ ba := by
    rintro rfl
    have := h.src.symm.trans h.alt
    simp at this
  have hne2 : br ≠ ba := by
    rintro rfl
    have := h.rule.symm.trans h.alt
    simp at this
  have hal := hk.at h.alt (.inr (.inr rfl))
  refine ⟨(Below.heap_setCell _ _ _ _ hne1).trans (hk.at h.src (.inl rfl)), (Below.heap_setCell _ _ _ _ hne2).trans (hk.at h.rule (.inr (.inl rfl))), heap_setCell_at hal, ?_, OwnR.nil _ _ _ _ _ _, h.ge⟩
  have e : ((ps ++ [p]).map partC).flatten = (ps.map partC).flatten ++ partC p := by simp
  rw [e, List.length_append]
  exact ownsRow_kpT hown (KpT.setCell (T := fun t => t = 46) (fun _ _ _ _ h _ => h) hal (by decide) _) rfl
/-- The source, its rows. -/
structure PassS2 (B : Nat) (w : World) (bs : Nat) (dv rv : Value) (ds : List Sp.Decl) (rs : List Sp.Rule) : Prop where
  src : w.heap[bs]? = some (.cells #[.string ⟨#[]⟩, dv, rv, .string ⟨#[]⟩] 29 (0, 0))
  decls : DeclsOwn B w dv ds
  rules : RulesOwn B w rv rs
  ge : B ≤ bs
theorem PassS2.setDecls {B : Nat} {w w8 w' : World} {bs : Nat} {dv dv' rv : Value} {ds ds' : List Sp.Decl} {rs : List Sp.Rule} (h : PassS2 B w bs dv rv ds rs) (k : Kp (fun b => b = bs) w w8) (hr : RulesOwn B w8 rv rs) (hd : DeclsOwn B w8 dv' ds') (hw : w' = w8.setCell ⟨bs, 1, none⟩ dv') : PassS2 B w' bs dv' rv ds' rs := by
  subst hw
  have hs := k.at h.src rfl
  have kt : KpT (fun t => t ≠ 29) w8 (w8.setCell ⟨bs, 1, none⟩ dv') := KpT.setCell (fun _ _ _ _ h _ => h) hs (by simp) _
  exact ⟨heap_setCell_at hs, decls_kp hd kt (by decide) (by decide), rules_kp hr kt (by decide) (by decide) (by decide), h.ge⟩
theorem PassS2.setRules {B : Nat} {w w8 w' : World} {bs : Nat} {dv rv rv' : Value} {ds : List Sp.Decl} {rs rs' : List Sp.Rule} (h : PassS2 B w bs dv rv ds rs) (k : Kp (fun b => b = bs) w w8) (hd : DeclsOwn B w8 dv ds) (hr : RulesOwn B w8 rv' rs') (hw : w' = w8.setCell ⟨bs, 2, none⟩ rv') : PassS2 B w' bs dv rv' ds rs' := by
  subst hw
  have hs := k.at h.src rfl
  have kt : KpT (fun t => t ≠ 29) w8 (w8.setCell ⟨bs, 2, none⟩ rv') := KpT.setCell (fun _ _ _ _ h _ => h) hs (by simp) _
  exact ⟨heap_setCell_at hs, decls_kp hd kt (by decide) (by decide), rules_kp hr kt (by decide) (by decide) (by decide), h.ge⟩
def ruleD (d : Bool) (low : Int) : Sp.Rule := ⟨[97], [⟨partsL d low, ⟨[], false, 0, 0⟩, 0⟩], 0⟩
def rulesB (b d : Bool) (low : Int) : List Sp.Rule := [ruleD d low] ++ (if b then [⟨Sp.errName, [Sp.emptyAlt], low + 2⟩] else [])
def declsC (c : Bool) (low : Int) : List Sp.Decl := if c then [⟨5, [116], [⟨[122, 122], false, 0, low + 1⟩], 0⟩] else []
def declsA (c a : Bool) (low : Int) : List Sp.Decl := declsC c low ++ (if a then [⟨4, [], [⟨[112], true, 0, 0⟩, ⟨[112], true, 0, low + 3⟩], 0⟩] else [])
theorem PassSt.two {B : Nat} {w : World} {bs br ba : Nat} {dv pv : Value} {ds : List Sp.Decl} {ps : List Sp.Part} (h : PassSt B w bs br ba dv pv ds ps) : PassS2 B w bs dv (.slice (some ⟨br, 0, none⟩) 1 1) ds [⟨[97], [⟨ps, ⟨[], false, 0, 0⟩, 0⟩], 0⟩] := ⟨h.src, h.decls, h.rules, h.ge.1⟩
theorem pass_small (a b c d : Bool) (low : Int) : smallSrc (Sp.passSrc a b c d low) := by
  cases a <;> cases b <;> cases c <;> cases d <;> simp [smallSrc, Sp.passSrc, smallDecl, smallRule, smallAlt, smallPart, smallSym, Sp.emptyAlt, Sp.errName]
set_option maxRecDepth 100000 in
set_option maxHeartbeats 12800000 in
theorem law_GramPasses (a b c d : Bool) (low0 : Int) (W : World) (hlw : (Lit.int .i64 low0).wf = true) (hg : Gl4 W) :
    Calls Tryd.prog 9 #[.bool a, .bool b, .bool c, .bool d, .int .i64 low0] W fun e w' => e = .returned (.bool true) ∧ Below W.heap.size W w' := by
  obtain ⟨low, hlow⟩ : ∃ low, low = low0 % 1000 := ⟨_, rfl⟩
  have hl0 : 0 ≤ low := by rw [hlow]; exact Int.emod_nonneg _ (by decide)
  have hl1 : low < 1000 := by rw [hlow]; exact Int.emod_lt_of_pos _ (by decide)
  have HG := Lib.hid hg; have HLW := Lib.hid hlw; have HLOW := Lib.hid hlow
  obtain ⟨ip0, hip0, hpz0, hpz1, hpz2⟩ := info_parts info_partE
  clear hg hlw hlow
  go_enter Tryd.func9, Tryd.ntmps9
  go_wp2_with fail
  refine (wakes9 W HG.out).mono ?_
  rintro e w1 ⟨rfl, hb1⟩
  go_wp2_with fail
  refine (ref_Within9 low0 1000 w1 (by decide) (by decide) HLW.out).mono ?_
  rintro e w1' ⟨rfl, rfl⟩
  rw [show low0 % ((1000 : Nat) : Int) = low from HLOW.out.symm]
  go_wp2_with fail
  refine (law9_lit [120] 0 w1).mono ?_
  rintro e w2 ⟨rfl, hb2⟩
  go_wp2_with fail
  refine (law9_part [120] true 0 0 w2).mono ?_
  rintro e w3 ⟨rfl, hb3⟩
  have HB3 : Hid (Below W.heap.size W w3) := Lib.hid ((hb1.trans (hb2.mono hb1.size)).trans (hb3.mono (Nat.le_trans hb1.size hb2.size)))
  clear hb1 hb2 hb3
  go_upto_if 26 with fail
  obtain ⟨w, hw4⟩ : ∃ w : World, w = (((w3.alloc (.cells #[.string ⟨#[120]⟩, .bool true, .int .i64 0, .int .i64 0, .string ⟨#[]⟩, .int .i64 0] 46)).alloc (.cells #[.slice (some ⟨w3.heap.size, 0, none⟩) 1 1, .string ⟨#[]⟩, .bool false, .int .i64 0, .int .i64 0, .int .i64 0] 49)).alloc (.cells #[.string ⟨#[97]⟩, .slice (some ⟨w3.heap.size + 1, 0, none⟩) 1 1, .int .i64 0] 52)).alloc (.cells #[.string ⟨#[]⟩, .slice none 0 0, .slice (some ⟨w3.heap.size + 1 + 1, 0, none⟩) 1 1, .string ⟨#[]⟩] 29) := ⟨_, rfl⟩
  rw [← hw4]
  have P4 : PassSt W.heap.size w (w3.heap.size + 1 + 1 + 1) (w3.heap.size + 1 + 1) (w3.heap.size + 1) (.slice none 0 0) (.slice (some ⟨w3.heap.size, 0, none⟩) 1 1) [] [⟨⟨[120], true, 0, 0⟩, [], 0⟩] := by
    have hsz := HB3.out.size
    obtain ⟨q0, q1, q2⟩ := three_c (W := w3) (w' := w) (c1 := #[.string ⟨#[120]⟩, .bool true, .int .i64 0, .int .i64 0, .string ⟨#[]⟩, .int .i64 0]) (c2 := #[.slice (some ⟨w3.heap.size, 0, none⟩) 1 1, .string ⟨#[]⟩, .bool false, .int .i64 0, .int .i64 0, .int .i64 0]) (c3 := #[.string ⟨#[97]⟩, .slice (some ⟨w3.heap.size + 1, 0, none⟩) 1 1, .int .i64 0]) (t1 := 46) (t2 := 49) (t3 := 52) (by rw [hw4]; exact (Below.refl _ _).alloc (by simp) _)
    refine ⟨?_, q2, q1, owns_block q0 hsz rfl (by decide), OwnR.nil _ _ _ _ _ _, by omega, by omega, by omega⟩
    rw [hw4]
    have h := heap_last (((w3.alloc (.cells #[.string ⟨#[120]⟩, .bool true, .int .i64 0, .int .i64 0, .string ⟨#[]⟩, .int .i64 0] 46)).alloc (.cells #[.slice (some ⟨w3.heap.size, 0, none⟩) 1 1, .string ⟨#[]⟩, .bool false, .int .i64 0, .int .i64 0, .int .i64 0] 49)).alloc (.cells #[.string ⟨#[97]⟩, .slice (some ⟨w3.heap.size + 1, 0, none⟩) 1 1, .int .i64 0] 52)) (.cells #[.string ⟨#[]⟩, .slice none 0 0, .slice (some ⟨w3.heap.size + 1 + 1, 0, none⟩) 1 1, .string ⟨#[]⟩] 29)
    simp only [World.size_alloc] at h
    exact h
  have HBW : Hid (Below W.heap.size W w) := Lib.hid (by rw [hw4]; exact (HB3.out.trans ((three_below w3 _ _ _).mono HB3.out.size)).alloc (by have := HB3.out.size; simp; omega) _)
  have HBS : Hid (W.heap.size + 3 ≤ w3.heap.size + 1 + 1 + 1) := Lib.hid (by have := HB3.out.size; omega)
  clear hw4 HB3
  generalize w3.heap.size + 1 + 1 + 1 = bs at P4 HBS ⊢
  generalize w3.heap.size + 1 + 1 = br at P4 ⊢
  generalize w3.heap.size + 1 = ba at P4 ⊢
  generalize w3.heap.size = bp at P4 ⊢
  have HP4 := Lib.hid P4
  clear P4
  go_cut [] (fun wx => ∃ dv rv, PassS2 W.heap.size wx bs dv rv [] [ruleD d low] ∧ Below W.heap.size W wx)
  case first =>
    cases d with
    | false =>
      go_wp2_with fail
      go_meet
      exact ⟨_, _, HP4.out.two, HBW.out⟩
    | true =>
      have HSK : Hid (∀ w', Kp (fun b => b = bs ∨ b = br ∨ b = ba) w w' → ((w'.cell? ⟨bs, 2, none⟩ = some (.slice (some ⟨br, 0, none⟩) 1 1)) ∧ w'.cell? ⟨br, 1, none⟩ = some (.slice (some ⟨ba, 0, none⟩) 1 1) ∧ (w'.cell? ⟨ba, 0, none⟩ = some (.slice (some ⟨bp, 0, none⟩) 1 1) ∧ w'.frozen? ⟨ba, 0, none⟩ = false) ∧ bs < w'.heap.size ∧ br < w'.heap.size ∧ ba < w'.heap.size)) := Lib.hid (fun w' k => by
        have q0 := k.at HP4.out.src (.inl rfl); have q1 := k.at HP4.out.rule (.inr (.inl rfl)); have q2 := k.at HP4.out.alt (.inr (.inr rfl))
        exact ⟨cell_at (i := 2) q0, cell_at (i := 1) q1, ⟨cell_at (i := 0) q2, frozen_at (i := 0) q2⟩, lt_at q0, lt_at q1, lt_at q2⟩)
      have HPA : Hid (w.ownsRow W.heap.size 46 6 (.slice (some ⟨bp, 0, none⟩) 1 1) 1 (partC ⟨⟨[120], true, 0, 0⟩, [], 0⟩)) := Lib.hid HP4.out.parts
      have HWS := Lib.hid HBW.out.size
      have HNB : Hid (¬ (bp = bs ∨ bp = br ∨ bp = ba)) := Lib.hid (by
        rintro (rfl | rfl | rfl)
        · exact row_ne_cells HPA.out HP4.out.src (by decide) _ rfl rfl
        · exact row_ne_cells HPA.out HP4.out.rule (by decide) _ rfl rfl
        · exact row_ne_cells HPA.out HP4.out.alt (by decide) _ rfl rfl)
      go_upto_region 6 with fail
      refine wp_region_plan (fun w' : World => ((w'.cell? ⟨bs, 2, none⟩ = some (.slice (some ⟨br, 0, none⟩) 1 1)) ∧ w'.cell? ⟨br, 1, none⟩ = some (.slice (some ⟨ba, 0, none⟩) 1 1) ∧ (w'.cell? ⟨ba, 0, none⟩ = some (.slice (some ⟨bp, 0, none⟩) 1 1) ∧ w'.frozen? ⟨ba, 0, none⟩ = false) ∧ bs < w'.heap.size ∧ br < w'.heap.size ∧ ba < w'.heap.size)) [20] (.take 0 (.take 1 (.take 2 (.take 3 (.take 4 (.take 5 (.take 6 (.take 7 (.take 8 (.take 9 (.take 10 (.take 11 (.take 12 (.take 13 (.one 14 (.one 15 (.one 16 (.one 17 (.one 18 (.one 19 (.one 20 (.done)))))))))))))))))))))) (by kernel_rfl) (by kernel_rfl) (fun _ _ _ _ h => h) ?_
      have hSw := HSK.out _ ((Kp.refl _ w).drew)
      refine wpPlan_take (v := ?va1) rfl hSw (by rfl) ?ya1 ?_
      case ya1 => (intro w hSx; (try dsimp only at hSx); go_simp; first | done | with_reducible rfl | rfl)
      (try simp only [Act.put, List.setIfInBounds_toArray, List.set_cons_zero, List.set_cons_succ])
      refine wpPlan_take (v := ?va2) rfl hSw (by rfl) ?ya2 ?_
      case ya2 => (intro w hSx; (try dsimp only at hSx); go_simp; first | done | with_reducible rfl | rfl)
      (try simp only [Act.put, List.setIfInBounds_toArray, List.set_cons_zero, List.set_cons_succ])
      refine wpPlan_take (v := ?va3) rfl hSw (by rfl) ?ya3 ?_
      case ya3 => (intro w hSx; (try dsimp only at hSx); go_simp; first | done | with_reducible rfl | rfl)
      (try simp only [Act.put, List.setIfInBounds_toArray, List.set_cons_zero, List.set_cons_succ])
      refine wpPlan_take (v := ?va4) rfl hSw (by rfl) ?ya4 ?_
      case ya4 => (intro w hSx; (try dsimp only at hSx); go_simp; first | done | with_reducible rfl | rfl)
      (try simp only [Act.put, List.setIfInBounds_toArray, List.set_cons_zero, List.set_cons_succ])
      refine wpPlan_take (v := ?va5) rfl hSw (by rfl) ?ya5 ?_
      case ya5 => (intro w hSx; (try dsimp only at hSx); go_simp; first | done | with_reducible rfl | rfl)
      (try simp only [Act.put, List.setIfInBounds_toArray, List.set_cons_zero, List.set_cons_succ])
      refine wpPlan_take (v := ?va6) rfl hSw (by rfl) ?ya6 ?_
      case ya6 => (intro w hSx; (try dsimp only at hSx); go_simp; first | done | with_reducible rfl | rfl)
      (try simp only [Act.put, List.setIfInBounds_toArray, List.set_cons_zero, List.set_cons_succ])
      refine wpPlan_take (v := ?va7) rfl hSw (by rfl) ?ya7 ?_
      case ya7 => (intro w hSx; (try dsimp only at hSx); go_simp; first | done | with_reducible rfl | rfl)
      (try simp only [Act.put, List.setIfInBounds_toArray, List.set_cons_zero, List.set_cons_succ])
      refine wpPlan_take (v := ?va8) rfl hSw (by rfl) ?ya8 ?_
      case ya8 => (intro w hSx; (try dsimp only at hSx); go_simp; first | done | with_reducible rfl | rfl)
      (try simp only [Act.put, List.setIfInBounds_toArray, List.set_cons_zero, List.set_cons_succ])
      refine wpPlan_take (v := ?va9) rfl hSw (by rfl) ?ya9 ?_
      case ya9 => (intro w hSx; (try dsimp only at hSx); go_simp; first | done | with_reducible rfl | rfl)
      (try simp only [Act.put, List.setIfInBounds_toArray, List.set_cons_zero, List.set_cons_succ])
      refine wpPlan_take (v := ?va10) rfl hSw (by rfl) ?ya10 ?_
      case ya10 => (intro w hSx; (try dsimp only at hSx); go_simp; first | done | with_reducible rfl | rfl)
      (try simp only [Act.put, List.setIfInBounds_toArray, List.set_cons_zero, List.set_cons_succ])
      refine wpPlan_take (v := ?va11) rfl hSw (by rfl) ?ya11 ?_
      case ya11 => (intro w hSx; (try dsimp only at hSx); go_simp; first | done | with_reducible rfl | rfl)
      (try simp only [Act.put, List.setIfInBounds_toArray, List.set_cons_zero, List.set_cons_succ])
      refine wpPlan_take (v := ?va12) rfl hSw (by rfl) ?ya12 ?_
      case ya12 => (intro w hSx; (try dsimp only at hSx); go_simp; first | done | with_reducible rfl | rfl)
      (try simp only [Act.put, List.setIfInBounds_toArray, List.set_cons_zero, List.set_cons_succ])
      refine wpPlan_take (v := ?va13) rfl hSw (by rfl) ?ya13 ?_
      case ya13 => (intro w hSx; (try dsimp only at hSx); go_simp; first | done | with_reducible rfl | rfl)
      (try simp only [Act.put, List.setIfInBounds_toArray, List.set_cons_zero, List.set_cons_succ])
      refine wpPlan_take (v := ?va14) rfl hSw (by rfl) ?ya14 ?_
      case ya14 => (intro w hSx; (try dsimp only at hSx); go_simp; first | done | with_reducible rfl | rfl)
      (try simp only [Act.put, List.setIfInBounds_toArray, List.set_cons_zero, List.set_cons_succ])
      refine wpPlan_run rfl (by rfl) (fun K' hK => ?_)
      (go_simp; go_at_call 24; refine (law9_name [110, 111, 98, 111, 100, 121] low _).mono ?_; rintro e w5 ⟨rfl, hb5⟩; have hb5' : Below w.heap.size w w5 := below_undrew hb5)
      refine hK _ _ (.inr ?_) ?_
      · exact HSK.out _ (Kp.of_below hb5' (fun _ hk _ => hk))
      clear hK K' hSw
      (try simp only [Act.put, List.setIfInBounds_toArray, List.set_cons_zero, List.set_cons_succ])
      refine wpPlan_run rfl (by rfl) (fun K' hK => ?_)
      (go_simp; go_at_call 26; refine (law9_part [110, 111, 98, 111, 100, 121] false 0 low _).mono ?_; rintro e w6 ⟨rfl, hb6⟩; have hb6' : Below w.heap.size w w6 := hb5'.trans (hb6.mono hb5'.size))
      refine hK _ _ (.inr ?_) ?_
      · exact HSK.out _ (Kp.of_below hb6' (fun _ hk _ => hk))
      clear hK K'
      (try simp only [Act.put, List.setIfInBounds_toArray, List.set_cons_zero, List.set_cons_succ])
      refine wpPlan_run rfl (by rfl) (fun K' hK => ?_)
      go_simp
      refine hK _ _ (.inr ?_) ?_
      · exact HSK.out _ (Kp.of_below (hb6'.alloc hb6'.size _) (fun _ hk _ => hk))
      clear hK K'
      (try simp only [Act.put, List.setIfInBounds_toArray, List.set_cons_zero, List.set_cons_succ])
      refine wpPlan_run rfl (by rfl) (fun K' hK => ?_)
      (refine wp_append_lies _ _ _ _ (by rfl) W.heap.size 46 ip0 _ 6 64 Tryd.underlying47 hip0 hpz0 hpz1 hpz2 rfl (by decide) _ _ _ (by rfl) ((ownsRow_below HPA.out hb6').alloc _) ⟨w6.heap.size, 0, none⟩ 1 1 (partC ⟨⟨[110, 111, 98, 111, 100, 121], false, 0, low⟩, [], low⟩) (by rfl) (by rfl) (World.news_of_block (cs := #[.string ⟨#[110, 111, 98, 111, 100, 121]⟩, .bool false, .int .i64 0, .int .i64 low, .string ⟨#[]⟩, .int .i64 low]) (t := 46) (fr := (0, 0)) (heap_alloc_new w6 _)) (by simp [Value.oneCell', partC, symC]) (by decide) (by decide) (by decide) (by have := hb6'.size; have := HWS.out; simp only [World.size_alloc]; omega) _ rfl ?_; intro g2 c2 w8 hown2 hgrow2 hat2 hlt2; have hk8 : Kp (fun b => b = bs ∨ b = br ∨ b = ba) w w8 := (((Kp.of_below hb6' (fun _ hk _ => hk)) : Kp (fun b => b = bs ∨ b = br ∨ b = ba) w w6).alloc _).grown hgrow2 (fun k hk hs => by cases hk; exact HNB.out hs))
      refine hK _ _ (.inr ?_) ?_
      · exact HSK.out _ hk8
      clear hK K'
      (try simp only [Act.put, List.setIfInBounds_toArray, List.set_cons_zero, List.set_cons_succ])
      refine wpPlan_run rfl (by rfl) (fun K' hK => ?_)
      (obtain ⟨_, _, _, _, _, hl8⟩ := HSK.out _ hk8; go_simp)
      refine hK _ _ (.inr ?_) ?_
      · exact HSK.out _ hk8
      clear hK K'
      (try simp only [Act.put, List.setIfInBounds_toArray, List.set_cons_zero, List.set_cons_succ])
      refine wpPlan_run rfl (by rfl) (fun K' hK => ?_)
      go_simp
      refine hK _ _ (.inr ?_) ?_
      · exact HSK.out _ hk8
      clear hK K'
      (try simp only [Act.put, List.setIfInBounds_toArray, List.set_cons_zero, List.set_cons_succ])
      refine wpPlan_run rfl (by rfl) (fun K' hK => ?_)
      (obtain ⟨_, _, ⟨z1, z2⟩, _, _, hl8⟩ := HSK.out _ hk8; go_simp)
      refine hK _ _ (.inl rfl) ?_
      clear hK K'
      (try simp only [Act.put, List.setIfInBounds_toArray, List.set_cons_zero, List.set_cons_succ])
      refine wpPlan_done ?_
      go_wp2_with fail
      go_meet
      refine ⟨_, _, (HP4.out.addPart hk8 hown2 rfl).two, ?_⟩
      have hk9 : Kp (fun b => b < W.heap.size) w w8 := (((Kp.of_below hb6' (fun _ hk _ => hk)) : Kp (fun b => b < W.heap.size) w w6).alloc _).grown hgrow2 (fun k hk hs => by cases hk; exact Nat.not_lt.2 (HPA.out.lt bp rfl).1 hs)
      exact HBW.out.trans (Kp.below (hk9.setCell (p := ⟨ba, 0, none⟩) (by have := HP4.out.ge.2.2; simp only; omega) _) HBW.out.size (fun b hb => hb))
  case rest =>
    clear HP4 HBW
    obtain ⟨dv, rv, hps, hbw⟩ := hcut
    obtain ⟨w, hw⟩ : ∃ w : World, w = wc := ⟨_, rfl⟩
    subst hw
    have HP := Lib.hid hps; have HBW := Lib.hid hbw
    obtain ⟨id0, hid0, hdz0, hdz1, hdz2⟩ := info_parts info_declE
    have hwa1 : IntKind.i64.wrap (low + 1) = low + 1 := IntWalk.i64_in _ ⟨by omega, by omega⟩
    have hwa3 : IntKind.i64.wrap (low + 3) = low + 3 := IntWalk.i64_in _ ⟨by clear hwa1; omega, by clear hwa1; omega⟩
    have hwa2 : IntKind.i64.wrap (low + 2) = low + 2 := IntWalk.i64_in _ ⟨by clear hwa1 hwa3; omega, by clear hwa1 hwa3; omega⟩
    have HA1 := Lib.hid hwa1; have HA2 := Lib.hid hwa2; have HA3 := Lib.hid hwa3
    clear hps hbw hwa1 hwa2 hwa3
    go_upto_if 47 with fail
    go_cut [] (fun wx => ∃ dv, PassS2 W.heap.size wx bs dv rv (declsC c low) [ruleD d low] ∧ Below W.heap.size W wx)
    case first =>
      cases c with
      | false =>
        go_wp2_with fail
        go_meet
        exact ⟨_, by simpa [declsC, declsA] using HP.out, HBW.out⟩
      | true =>
        obtain ⟨f, ho, hch⟩ := HP.out.decls
        obtain ⟨n, hn⟩ : ∃ n, n = ([] : List Sp.Decl).length := ⟨_, rfl⟩
        have hn1 : n ≤ 0 := by rw [hn]; exact Nat.le_refl _
        rw [← hn] at ho
        obtain ⟨da, dc, rfl⟩ := ownsRowS_some ho
        have HO := Lib.hid ho; have HCH := Lib.hid hch; have HN := Lib.hid hn
        have HSK : Hid (∀ w', Kp (fun b => b = bs) w w' → ((w'.cell? ⟨bs, 1, none⟩ = some (.slice da n dc) ∧ w'.frozen? ⟨bs, 1, none⟩ = false) ∧ bs < w'.heap.size)) := Lib.hid (fun w' k => by
          have q0 := k.at HP.out.src rfl
          exact ⟨⟨cell_at (i := 1) q0, frozen_at (i := 1) q0⟩, lt_at q0⟩)
        have HWS := Lib.hid HBW.out.size
        have HNB : Hid (∀ k, (Value.slice da n dc).ownBlock = some k → k ≠ bs) := Lib.hid (row_ne_cells HO.out HP.out.src (by decide))
        have HLO : Hid (∀ k, (Value.slice da n dc).ownBlock = some k → ¬ k < W.heap.size) := Lib.hid (fun k hk => Nat.not_lt.2 (HO.out.lt k hk).1)
        have hwa1 := HA1.out
        clear ho hch hn
        go_upto_region 8 with fail
        refine wp_region_plan (fun w' : World => ((w'.cell? ⟨bs, 1, none⟩ = some (.slice da n dc) ∧ w'.frozen? ⟨bs, 1, none⟩ = false) ∧ bs < w'.heap.size)) [10] (.take 0 (.take 1 (.take 2 (.take 3 (.one 4 (.one 5 (.one 6 (.one 7 (.one 8 (.one 9 (.one 10 (.done)))))))))))) (by kernel_rfl) (by kernel_rfl) (fun _ _ _ _ h => h) ?_
        have hSw := HSK.out _ ((Kp.refl _ w).drew)
        refine wpPlan_take (v := ?vb15) rfl hSw (by rfl) ?yb15 ?_
        case yb15 => (intro w hSx; (try dsimp only at hSx); go_simp; first | done | with_reducible rfl | rfl)
        (try simp only [Act.put, List.setIfInBounds_toArray, List.set_cons_zero, List.set_cons_succ])
        refine wpPlan_take (v := ?vb16) rfl hSw (by rfl) ?yb16 ?_
        case yb16 => (intro w hSx; (try dsimp only at hSx); go_simp; first | done | with_reducible rfl | rfl)
        (try simp only [Act.put, List.setIfInBounds_toArray, List.set_cons_zero, List.set_cons_succ])
        refine wpPlan_take (v := ?vb17) rfl hSw (by rfl) ?yb17 ?_
        case yb17 => (intro w hSx; (try dsimp only at hSx); go_simp; first | done | with_reducible rfl | rfl)
        (try simp only [Act.put, List.setIfInBounds_toArray, List.set_cons_zero, List.set_cons_succ])
        refine wpPlan_take (v := ?vb18) rfl hSw (by rfl) ?yb18 ?_
        case yb18 => (intro w hSx; (try dsimp only at hSx); go_simp; first | done | with_reducible rfl | rfl)
        (try simp only [Act.put, List.setIfInBounds_toArray, List.set_cons_zero, List.set_cons_succ])
        refine wpPlan_run rfl (by rfl) (fun K' hK => ?_)
        (go_simp; go_at_call 24; refine (law9_name [122, 122] (low + 1) _).mono ?_; rintro e w5 ⟨rfl, hb5⟩; have hb5' : Below w.heap.size w w5 := below_undrew hb5)
        refine hK _ _ (.inr ?_) ?_
        · exact HSK.out _ (Kp.of_below hb5' (fun _ hk _ => hk))
        clear hK K' hSw
        (try simp only [Act.put, List.setIfInBounds_toArray, List.set_cons_zero, List.set_cons_succ])
        refine wpPlan_run rfl (by rfl) (fun K' hK => ?_)
        go_simp
        refine hK _ _ (.inr ?_) ?_
        · exact HSK.out _ (Kp.of_below (hb5'.alloc hb5'.size _) (fun _ hk _ => hk))
        clear hK K'
        (try simp only [Act.put, List.setIfInBounds_toArray, List.set_cons_zero, List.set_cons_succ])
        refine wpPlan_run rfl (by rfl) (fun K' hK => ?_)
        go_simp
        refine hK _ _ (.inr ?_) ?_
        · exact HSK.out _ (Kp.of_below (hb5'.alloc hb5'.size _) (fun _ hk _ => hk))
        clear hK K'
        (try simp only [Act.put, List.setIfInBounds_toArray, List.set_cons_zero, List.set_cons_succ])
        refine wpPlan_run rfl (by rfl) (fun K' hK => ?_)
        go_simp
        refine hK _ _ (.inr ?_) ?_
        · exact HSK.out _ (Kp.of_below ((hb5'.alloc hb5'.size _).alloc (by have := hb5'.size; simp only [World.size_alloc]; omega) _) (fun _ hk _ => hk))
        clear hK K'
        (try simp only [Act.put, List.setIfInBounds_toArray, List.set_cons_zero, List.set_cons_succ])
        refine wpPlan_run rfl (by rfl) (fun K' hK => ?_)
        (refine wp_append_lies _ _ _ _ (by rfl) W.heap.size 43 id0 _ 4 56 Tryd.underlying26 hid0 hdz0 hdz1 hdz2 rfl (by decide) _ _ _ (by rfl) (((ownsRow_below HO.out hb5').alloc _).alloc _) ⟨w5.heap.size + 1, 0, none⟩ 1 1 (declC (.slice (some ⟨w5.heap.size, 0, none⟩) 1 1) ⟨5, [116], [⟨[122, 122], false, 0, low + 1⟩], 0⟩) (by rfl) (by rfl) (World.news_of_block (cs := #[.int .i64 5, .string ⟨#[116]⟩, .slice (some ⟨w5.heap.size, 0, none⟩) 1 1, .int .i64 0]) (t := 43) (fr := (0, 0)) (heap_sec w5 _ _)) (by simp [Value.oneCell', declC]) (by omega) (by unfold maxLen; omega) (by omega) (by have := hb5'.size; have := HWS.out; simp only [World.size_alloc]; omega) _ rfl ?_; intro g2 c2 w8 hown2 hgrow2 hat2 hlt2; have hk8 : Kp (fun b => b = bs) w w8 := (((((Kp.of_below hb5' (fun _ hk _ => hk)) : Kp (fun b => b = bs) w w5).alloc _).alloc _)).grown hgrow2 (fun k hk hs => HNB.out k hk hs); have kt8 : KpT (fun t => t ≠ 43) w w8 := (KpT.below ((hb5'.alloc hb5'.size _).alloc (by have := hb5'.size; simp only [World.size_alloc]; omega) _)).trans (KpT.grown (((ownsRow_below HO.out hb5').alloc _).alloc _) hgrow2); have hsy8 := ownsRow_kpT (owns_block (B := W.heap.size) (size := 4) (n := 1) (heap_old (heap_last w5 _) _) (by have := hb5'.size; have := HWS.out; omega) rfl (by decide)) (KpT.grown (((ownsRow_below HO.out hb5').alloc _).alloc _) hgrow2) (by decide))
        refine hK _ _ (.inr ?_) ?_
        · exact HSK.out _ hk8
        clear hK K'
        (try simp only [Act.put, List.setIfInBounds_toArray, List.set_cons_zero, List.set_cons_succ])
        refine wpPlan_run rfl (by rfl) (fun K' hK => ?_)
        go_simp
        refine hK _ _ (.inr ?_) ?_
        · exact HSK.out _ hk8
        clear hK K'
        (try simp only [Act.put, List.setIfInBounds_toArray, List.set_cons_zero, List.set_cons_succ])
        refine wpPlan_run rfl (by rfl) (fun K' hK => ?_)
        (obtain ⟨⟨z1, z2⟩, hl8⟩ := HSK.out _ hk8; go_simp)
        refine hK _ _ (.inl rfl) ?_
        clear hK K'
        (try simp only [Act.put, List.setIfInBounds_toArray, List.set_cons_zero, List.set_cons_succ])
        refine wpPlan_done ?_
        go_wp2_with fail
        go_meet
        have hds : DeclsOwn W.heap.size w8 (.slice (some ⟨g2, 0, none⟩) (n + 1) c2) (([] : List Sp.Decl) ++ [⟨5, [116], [⟨[122, 122], false, 0, low + 1⟩], 0⟩]) := by
          have hown3 := hown2
          rw [HN.out] at hown3 ⊢
          exact OwnR.snoc HCH.out hown3 (fun u a h => symsOwn_kp kt8 (by decide) u a h) ⟨_, hsy8⟩
        have hrs := rules_kp HP.out.rules kt8 (by decide) (by decide) (by decide)
        refine ⟨.slice (some ⟨g2, 0, none⟩) (n + 1) c2, ?_, ?_⟩
        · have h := HP.out.setDecls hk8 hrs hds rfl
          simpa [declsC, declsA] using h
        · have hk9 : Kp (fun b => b < W.heap.size) w w8 := (((((Kp.of_below hb5' (fun _ hk _ => hk)) : Kp (fun b => b < W.heap.size) w w5).alloc _).alloc _)).grown hgrow2 (fun k hk hs => HLO.out k hk hs)
          exact HBW.out.trans (Kp.below (hk9.setCell (p := ⟨bs, 1, none⟩) (by have := HP.out.ge; simp only; omega) _) HBW.out.size (fun b hb => hb))

    case rest =>
      clear HP HBW
      obtain ⟨dv, hps, hbw⟩ := hcut
      obtain ⟨w, hw⟩ : ∃ w : World, w = wc := ⟨_, rfl⟩
      subst hw
      have HP := Lib.hid hps; have HBW := Lib.hid hbw
      clear hps hbw
      go_upto_if 58 with fail
      go_cut [] (fun wx => ∃ rv, PassS2 W.heap.size wx bs dv rv (declsC c low) (rulesB b d low) ∧ Below W.heap.size W wx)
      case first =>
        cases b with
        | false =>
          go_wp2_with fail
          go_meet
          exact ⟨_, by simpa [rulesB] using HP.out, HBW.out⟩
        | true =>
          obtain ⟨f, ho, hch⟩ := HP.out.rules
          obtain ⟨da, dc, rfl⟩ := ownsRowS_some ho
          have HO : Hid (w.ownsRow W.heap.size 52 3 (.slice da 1 dc) 1 (([ruleD d low].mapIdx fun i a => ruleC (f i) a).flatten)) := Lib.hid ho
          have HCH := Lib.hid hch
          have q0 := HP.out.src
          have c2 := cell_at (i := 2) q0
          have f2 := frozen_at (i := 2) q0
          have lb := lt_at q0
          have HWS := Lib.hid HBW.out.size
          have HNB : Hid (∀ k, (Value.slice da 1 dc).ownBlock = some k → k ≠ bs) := Lib.hid (row_ne_cells HO.out HP.out.src (by decide))
          have HLO : Hid (∀ k, (Value.slice da 1 dc).ownBlock = some k → ¬ k < W.heap.size) := Lib.hid (fun k hk => Nat.not_lt.2 (HO.out.lt k hk).1)
          have HSK : Hid (∀ w', Kp (fun b => b = bs) w w' → (w'.cell? ⟨bs, 2, none⟩ = some (.slice da 1 dc) ∧ w'.frozen? ⟨bs, 2, none⟩ = false) ∧ bs < w'.heap.size) := Lib.hid (fun w' k => by
            have q0 := k.at HP.out.src rfl
            exact ⟨⟨cell_at (i := 2) q0, frozen_at (i := 2) q0⟩, lt_at q0⟩)
          obtain ⟨ir0, hir0, hrz0, hrz1, hrz2⟩ := info_parts info_ruleE
          have hwa2 := HA2.out
          clear ho hch q0
          go_wp2_with (at_builtin; refine wpList_append_lies _ rfl _ _ 27 rfl W.heap.size 52 ir0 _ 3 48 Tryd.underlying27 hir0 hrz0 hrz1 hrz2 rfl (by decide) _ _ _ rfl ((HO.out.alloc _).alloc _) ⟨w.heap.size + 1, 0, none⟩ 1 1 (ruleC (.slice (some ⟨w.heap.size, 0, none⟩) 1 1) ⟨Sp.errName, [Sp.emptyAlt], low + 2⟩) rfl rfl (World.news_of_block (cs := #[.string ⟨#[101, 114, 114, 111, 114]⟩, .slice (some ⟨w.heap.size, 0, none⟩) 1 1, .int .i64 (low + 2)]) (t := 52) (fr := (0, 0)) (heap_sec w _ _)) (by simp [Value.oneCell', ruleC]) (by decide) (by unfold maxLen; decide) (by decide) (by have := HWS.out; simp only [World.size_alloc]; omega) _ rfl ?_; intro g2 c2' w8 hown2 hgrow2 hat2 hlt2; have hk8 : Kp (fun b => b = bs) w w8 := (((Kp.refl _ w).alloc _).alloc _).grown hgrow2 (fun k hk hs => HNB.out k hk hs); obtain ⟨⟨z1, z2⟩, hl8⟩ := HSK.out _ hk8; have HKK8 := Lib.hid hk8)
          go_meet
          have kg : KpT (fun t => t ≠ 52) _ w8 := KpT.grown ((HO.out.alloc _).alloc _) hgrow2
          have kt8 : KpT (fun t => t ≠ 52) w w8 := (KpT.below (((Below.refl _ w).alloc (Nat.le_refl _) _).alloc (by simp) _)).trans kg
          have hal8 := ownsRow_kpT (owns_block (B := W.heap.size) (size := 6) (n := 1) (heap_old (heap_last w (.cells #[.slice none 0 0, .string ⟨#[]⟩, .bool false, .int .i64 0, .int .i64 0, .int .i64 0] 49)) _) HWS.out rfl (by decide)) kg (by decide)
          have hrs : RulesOwn W.heap.size w8 (.slice (some ⟨g2, 0, none⟩) 2 c2') ([ruleD d low] ++ [⟨Sp.errName, [Sp.emptyAlt], low + 2⟩]) :=
            OwnR.snoc HCH.out hown2 (fun u a h => altsOwn_kp kt8 (by decide) (by decide) u a h) ⟨W.heap.size, fun _ => .slice none 0 0, hal8, fun i a ha => by
              obtain ⟨rfl, rfl⟩ := one_at ha
              exact ⟨0, World.ownsRow_nil _ _ _ _⟩⟩
          have hk9 : Kp (fun b => b < W.heap.size) w w8 := (((Kp.refl _ w).alloc _).alloc _).grown hgrow2 (fun k hk hs => HLO.out k hk hs)
          refine ⟨.slice (some ⟨g2, 0, none⟩) 2 c2', ?_, ?_⟩
          · have h := HP.out.setRules hk8 (decls_kp HP.out.decls kt8 (by decide) (by decide)) hrs rfl
            simpa [rulesB] using h
          · exact HBW.out.trans (Kp.below (hk9.setCell (p := ⟨bs, 2, none⟩) (by have := HP.out.ge; simp only; omega) _) HBW.out.size (fun b hb => hb))
      case rest =>
        clear HP HBW
        obtain ⟨rv, hps, hbw⟩ := hcut
        obtain ⟨w, hw⟩ : ∃ w : World, w = wc := ⟨_, rfl⟩
        subst hw
        have HP := Lib.hid hps; have HBW := Lib.hid hbw
        clear hps hbw
        go_upto_if 69 with fail
        go_cut [] (fun wx => ∃ dv, PassS2 W.heap.size wx bs dv rv (declsA c a low) (rulesB b d low) ∧ Below W.heap.size W wx)
        case first =>
          cases a with
          | false =>
            go_wp2_with fail
            go_meet
            exact ⟨_, by simpa [declsC, declsA] using HP.out, HBW.out⟩
          | true =>
            obtain ⟨f, ho, hch⟩ := HP.out.decls
            obtain ⟨n, hn⟩ : ∃ n, n = (declsC c low).length := ⟨_, rfl⟩
            have hn1 : n ≤ 1 := by rw [hn]; cases c <;> simp [declsC]
            rw [← hn] at ho
            obtain ⟨da, dc, rfl⟩ := ownsRowS_some ho
            have HO := Lib.hid ho; have HCH := Lib.hid hch; have HN := Lib.hid hn
            have HSK : Hid (∀ w', Kp (fun b => b = bs) w w' → ((w'.cell? ⟨bs, 1, none⟩ = some (.slice da n dc) ∧ w'.frozen? ⟨bs, 1, none⟩ = false) ∧ bs < w'.heap.size)) := Lib.hid (fun w' k => by
              have q0 := k.at HP.out.src rfl
              exact ⟨⟨cell_at (i := 1) q0, frozen_at (i := 1) q0⟩, lt_at q0⟩)
            have HWS := Lib.hid HBW.out.size
            have HNB : Hid (∀ k, (Value.slice da n dc).ownBlock = some k → k ≠ bs) := Lib.hid (row_ne_cells HO.out HP.out.src (by decide))
            have HLO : Hid (∀ k, (Value.slice da n dc).ownBlock = some k → ¬ k < W.heap.size) := Lib.hid (fun k hk => Nat.not_lt.2 (HO.out.lt k hk).1)
            have hwa3 := HA3.out
            clear ho hch hn
            go_upto_region 12 with fail
            refine wp_region_plan (fun w' : World => ((w'.cell? ⟨bs, 1, none⟩ = some (.slice da n dc) ∧ w'.frozen? ⟨bs, 1, none⟩ = false) ∧ bs < w'.heap.size)) [11] (.take 0 (.take 1 (.take 3 (.take 4 (.one 2 (.one 5 (.one 6 (.one 7 (.one 8 (.one 9 (.one 10 (.one 11 (.done))))))))))))) (by kernel_rfl) (by kernel_rfl) (fun _ _ _ _ h => h) ?_
            have hSw := HSK.out _ ((Kp.refl _ w).drew)
            refine wpPlan_take (v := ?vc19) rfl hSw (by rfl) ?yc19 ?_
            case yc19 => (intro w hSx; (try dsimp only at hSx); go_simp; first | done | with_reducible rfl | rfl)
            (try simp only [Act.put, List.setIfInBounds_toArray, List.set_cons_zero, List.set_cons_succ])
            refine wpPlan_take (v := ?vc20) rfl hSw (by rfl) ?yc20 ?_
            case yc20 => (intro w hSx; (try dsimp only at hSx); go_simp; first | done | with_reducible rfl | rfl)
            (try simp only [Act.put, List.setIfInBounds_toArray, List.set_cons_zero, List.set_cons_succ])
            refine wpPlan_take (v := ?vc21) rfl hSw (by rfl) ?yc21 ?_
            case yc21 => (intro w hSx; (try dsimp only at hSx); go_simp; first | done | with_reducible rfl | rfl)
            (try simp only [Act.put, List.setIfInBounds_toArray, List.set_cons_zero, List.set_cons_succ])
            refine wpPlan_take (v := ?vc22) rfl hSw (by rfl) ?yc22 ?_
            case yc22 => (intro w hSx; (try dsimp only at hSx); go_simp; first | done | with_reducible rfl | rfl)
            (try simp only [Act.put, List.setIfInBounds_toArray, List.set_cons_zero, List.set_cons_succ])
            refine wpPlan_run rfl (by rfl) (fun K' hK => ?_)
            (go_simp; go_at_call 27; refine (law9_lit [112] 0 _).mono ?_; rintro e w5 ⟨rfl, hb5⟩; have hb5' : Below w.heap.size w w5 := below_undrew hb5)
            refine hK _ _ (.inr ?_) ?_
            · exact HSK.out _ (Kp.of_below hb5' (fun _ hk _ => hk))
            clear hK K' hSw
            (try simp only [Act.put, List.setIfInBounds_toArray, List.set_cons_zero, List.set_cons_succ])
            refine wpPlan_run rfl (by rfl) (fun K' hK => ?_)
            (go_simp; go_at_call 27; refine (law9_lit [112] (low + 3) _).mono ?_; rintro e w6 ⟨rfl, hb6⟩; have hb6' : Below w.heap.size w w6 := hb5'.trans (hb6.mono hb5'.size))
            refine hK _ _ (.inr ?_) ?_
            · exact HSK.out _ (Kp.of_below hb6' (fun _ hk _ => hk))
            clear hK K'
            (try simp only [Act.put, List.setIfInBounds_toArray, List.set_cons_zero, List.set_cons_succ])
            refine wpPlan_run rfl (by rfl) (fun K' hK => ?_)
            go_simp
            refine hK _ _ (.inr ?_) ?_
            · exact HSK.out _ (Kp.of_below (hb6'.alloc hb6'.size _) (fun _ hk _ => hk))
            clear hK K'
            (try simp only [Act.put, List.setIfInBounds_toArray, List.set_cons_zero, List.set_cons_succ])
            refine wpPlan_run rfl (by rfl) (fun K' hK => ?_)
            go_simp
            refine hK _ _ (.inr ?_) ?_
            · exact HSK.out _ (Kp.of_below (hb6'.alloc hb6'.size _) (fun _ hk _ => hk))
            clear hK K'
            (try simp only [Act.put, List.setIfInBounds_toArray, List.set_cons_zero, List.set_cons_succ])
            refine wpPlan_run rfl (by rfl) (fun K' hK => ?_)
            go_simp
            refine hK _ _ (.inr ?_) ?_
            · exact HSK.out _ (Kp.of_below ((hb6'.alloc hb6'.size _).alloc (by have := hb6'.size; simp only [World.size_alloc]; omega) _) (fun _ hk _ => hk))
            clear hK K'
            (try simp only [Act.put, List.setIfInBounds_toArray, List.set_cons_zero, List.set_cons_succ])
            refine wpPlan_run rfl (by rfl) (fun K' hK => ?_)
            (refine wp_append_lies _ _ _ _ (by rfl) W.heap.size 43 id0 _ 4 56 Tryd.underlying26 hid0 hdz0 hdz1 hdz2 rfl (by decide) _ _ _ (by rfl) (((ownsRow_below HO.out hb6').alloc _).alloc _) ⟨w6.heap.size + 1, 0, none⟩ 1 1 (declC (.slice (some ⟨w6.heap.size, 0, none⟩) 2 2) ⟨4, [], [⟨[112], true, 0, 0⟩, ⟨[112], true, 0, low + 3⟩], 0⟩) (by rfl) (by rfl) (World.news_of_block (cs := #[.int .i64 4, .string ⟨#[]⟩, .slice (some ⟨w6.heap.size, 0, none⟩) 2 2, .int .i64 0]) (t := 43) (fr := (0, 0)) (heap_sec w6 _ _)) (by simp [Value.oneCell', declC]) (by omega) (by unfold maxLen; omega) (by omega) (by have := hb6'.size; have := HWS.out; simp only [World.size_alloc]; omega) _ rfl ?_; intro g2 c2 w8 hown2 hgrow2 hat2 hlt2; have hk8 : Kp (fun b => b = bs) w w8 := (((((Kp.of_below hb6' (fun _ hk _ => hk)) : Kp (fun b => b = bs) w w6).alloc _).alloc _)).grown hgrow2 (fun k hk hs => HNB.out k hk hs); have kt8 : KpT (fun t => t ≠ 43) w w8 := (KpT.below ((hb6'.alloc hb6'.size _).alloc (by have := hb6'.size; simp only [World.size_alloc]; omega) _)).trans (KpT.grown (((ownsRow_below HO.out hb6').alloc _).alloc _) hgrow2); have hsy8 := ownsRow_kpT (owns_block (B := W.heap.size) (size := 4) (n := 2) (heap_old (heap_last w6 _) _) (by have := hb6'.size; have := HWS.out; omega) rfl (by decide)) (KpT.grown (((ownsRow_below HO.out hb6').alloc _).alloc _) hgrow2) (by decide))
            refine hK _ _ (.inr ?_) ?_
            · exact HSK.out _ hk8
            clear hK K'
            (try simp only [Act.put, List.setIfInBounds_toArray, List.set_cons_zero, List.set_cons_succ])
            refine wpPlan_run rfl (by rfl) (fun K' hK => ?_)
            go_simp
            refine hK _ _ (.inr ?_) ?_
            · exact HSK.out _ hk8
            clear hK K'
            (try simp only [Act.put, List.setIfInBounds_toArray, List.set_cons_zero, List.set_cons_succ])
            refine wpPlan_run rfl (by rfl) (fun K' hK => ?_)
            (obtain ⟨⟨z1, z2⟩, hl8⟩ := HSK.out _ hk8; go_simp)
            refine hK _ _ (.inl rfl) ?_
            clear hK K'
            (try simp only [Act.put, List.setIfInBounds_toArray, List.set_cons_zero, List.set_cons_succ])
            refine wpPlan_done ?_
            go_wp2_with fail
            go_meet
            have hds : DeclsOwn W.heap.size w8 (.slice (some ⟨g2, 0, none⟩) (n + 1) c2) ((declsC c low) ++ [⟨4, [], [⟨[112], true, 0, 0⟩, ⟨[112], true, 0, low + 3⟩], 0⟩]) := by
              have hown3 := hown2
              rw [HN.out] at hown3 ⊢
              exact OwnR.snoc HCH.out hown3 (fun u a h => symsOwn_kp kt8 (by decide) u a h) ⟨_, hsy8⟩
            have hrs := rules_kp HP.out.rules kt8 (by decide) (by decide) (by decide)
            refine ⟨.slice (some ⟨g2, 0, none⟩) (n + 1) c2, ?_, ?_⟩
            · have h := HP.out.setDecls hk8 hrs hds rfl
              simpa [declsC, declsA] using h
            · have hk9 : Kp (fun b => b < W.heap.size) w w8 := (((((Kp.of_below hb6' (fun _ hk _ => hk)) : Kp (fun b => b < W.heap.size) w w6).alloc _).alloc _)).grown hgrow2 (fun k hk hs => HLO.out k hk hs)
              exact HBW.out.trans (Kp.below (hk9.setCell (p := ⟨bs, 1, none⟩) (by have := HP.out.ge; simp only; omega) _) HBW.out.size (fun b hb => hb))

        case rest =>
          clear HP HBW
          obtain ⟨dv, hps, hbw⟩ := hcut
          obtain ⟨w, hw⟩ : ∃ w : World, w = wc := ⟨_, rfl⟩
          subst hw
          have q0 := hps.src
          have c0 := cell_at (i := 0) q0; have c1 := cell_at (i := 1) q0; have c2 := cell_at (i := 2) q0; have c3 := cell_at (i := 3) q0
          have lb := lt_at q0
          have hof := gram_Of (Sp.passSrc a b c d low) dv rv w (decls_at hps.decls) (rules_at hps.rules) (pass_small a b c d low) (HG.out.up hbw (by have := HG.out.2.1; have := HBS.out; omega))
          have hpl := Sp.pass_law a b c d low
          obtain ⟨R, hR⟩ : ∃ R, R = Sp.gramOf (Sp.passSrc a b c d low) := ⟨_, rfl⟩
          rw [← hR] at hof hpl
          obtain ⟨G, F⟩ := R
          simp only at hpl
          subst hpl
          have HOF := Lib.hid hof; have HBW := Lib.hid hbw
          clear hof hbw hR q0 hps
          go_wp2_with fail
          refine HOF.out.mono ?_
          rintro e w2 ⟨hb2, gv, rfl, hgo⟩
          obtain ⟨B, ta, tc, na, nc, pa, pc, rfl, _⟩ := hgo
          have HEND : Hid (∀ wa, Below w2.heap.size w2 wa → ∀ wb, Below wa.heap.size wa wb → Below W.heap.size W wb) := Lib.hid (fun wa ha wb hb => ((HBW.out.trans (hb2.mono HBW.out.size)).trans (ha.mono (Nat.le_trans HBW.out.size hb2.size))).trans (hb.mono (Nat.le_trans (Nat.le_trans HBW.out.size hb2.size) ha.size)))
          have hwa1 := HA1.out; have hwa2 := HA2.out; have hwa3 := HA3.out
          clear c0 c1 c2 c3 lb hb2
          cases a with
          | true =>
            rw [show faultV (G, Sp.passFault true b c d low).2 = .agg #[.int .i64 3, .int .i64 (low + 3), .string ⟨#[112]⟩] from rfl]
            go_wp2_with fail
            refine (ref_EqFaultG 3 (low + 3) 3 (low + 3) [112] [112] _).mono ?_
            rintro e w3 ⟨rfl, hb3⟩
            rw [show decide (((3 : Int) = 3 ∧ low + 3 = low + 3) ∧ ([112] : List UInt8) = [112]) = true by simp]
            go_wp2_with fail
            go_ret
            exact ⟨rfl, HEND.out _ (((Below.refl _ w2).alloc (Nat.le_refl _) _).alloc (by simp) _) _ hb3⟩
          | false =>
            cases b with
            | true =>
              rw [show faultV (G, Sp.passFault false true c d low).2 = .agg #[.int .i64 3, .int .i64 (low + 2), .string ⟨#[101, 114, 114, 111, 114]⟩] from rfl]
              go_wp2_with fail
              refine (ref_EqFaultG 3 (low + 2) 3 (low + 2) [101, 114, 114, 111, 114] [101, 114, 114, 111, 114] _).mono ?_
              rintro e w3 ⟨rfl, hb3⟩
              rw [show decide (((3 : Int) = 3 ∧ low + 2 = low + 2) ∧ ([101, 114, 114, 111, 114] : List UInt8) = [101, 114, 114, 111, 114]) = true by simp]
              go_wp2_with fail
              go_ret
              exact ⟨rfl, HEND.out _ (((Below.refl _ w2).alloc (Nat.le_refl _) _).alloc (by simp) _) _ hb3⟩
            | false =>
              cases c with
              | true =>
                rw [show faultV (G, Sp.passFault false false true d low).2 = .agg #[.int .i64 3, .int .i64 (low + 1), .string ⟨#[122, 122]⟩] from rfl]
                go_wp2_with fail
                refine (ref_EqFaultG 3 (low + 1) 3 (low + 1) [122, 122] [122, 122] _).mono ?_
                rintro e w3 ⟨rfl, hb3⟩
                rw [show decide (((3 : Int) = 3 ∧ low + 1 = low + 1) ∧ ([122, 122] : List UInt8) = [122, 122]) = true by simp]
                go_wp2_with fail
                go_ret
                exact ⟨rfl, HEND.out _ (((Below.refl _ w2).alloc (Nat.le_refl _) _).alloc (by simp) _) _ hb3⟩
              | false =>
                cases d with
                | true =>
                  rw [show faultV (G, Sp.passFault false false false true low).2 = .agg #[.int .i64 3, .int .i64 low, .string ⟨#[110, 111, 98, 111, 100, 121]⟩] from rfl]
                  go_wp2_with fail
                  refine (ref_EqFaultG 3 (low) 3 (low) [110, 111, 98, 111, 100, 121] [110, 111, 98, 111, 100, 121] _).mono ?_
                  rintro e w3 ⟨rfl, hb3⟩
                  rw [show decide (((3 : Int) = 3 ∧ low = low) ∧ ([110, 111, 98, 111, 100, 121] : List UInt8) = [110, 111, 98, 111, 100, 121]) = true by simp]
                  go_wp2_with fail
                  go_ret
                  exact ⟨rfl, HEND.out _ (((Below.refl _ w2).alloc (Nat.le_refl _) _).alloc (by simp) _) _ hb3⟩
                | false =>
                  rw [show faultV (G, Sp.passFault false false false false low).2 = .agg #[.int .i64 0, .int .i64 0, .string ⟨#[]⟩] from rfl]
                  go_wp2_with fail
                  go_ret
                  exact ⟨rfl, HEND.out _ (((Below.refl _ w2).alloc (Nat.le_refl _) _).alloc (by simp) _) _ (Below.refl _ _)⟩
end Go.Proofs.YthmimcegiihcnaaDoor
