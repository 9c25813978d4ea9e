/- The walk of GramLimits. -/
import Derived.Test.YthmimcegiihcnaaDoorIg
namespace Go.Proofs.YthmimcegiihcnaaDoor
open Go.RowKit Go.Maps

theorem lim_eta (wh n : Nat) : Sp.limSrc wh n = ⟨[], (Sp.limSrc wh n).decls, (Sp.limSrc wh n).rules, []⟩ := by
  rcases wh with _ | _ | _ | k <;> rfl
theorem itoa_small_all : ((List.range 66).all fun i => decide ((Lib.itoa (i : Int)).length ≤ 3990)) = true := by decide +kernel
theorem itoa_small {i : Nat} (h : i < 66) : (Lib.itoa (i : Int)).length ≤ 3990 := of_decide_eq_true (List.all_eq_true.1 itoa_small_all i (List.mem_range.2 h))
theorem emptyAlt_small : smallAlt Sp.emptyAlt := ⟨by simp [Sp.emptyAlt], by simp [Sp.emptyAlt], by simp [Sp.emptyAlt]⟩
theorem lim_small (wh n : Nat) (h1 : 1 ≤ n) (hn : n ≤ 64) : smallSrc (Sp.limSrc wh n) := by
  rcases wh with _ | _ | _ | k
  · refine ⟨by simp [Sp.limSrc], by simp [Sp.limSrc], by simp [Sp.limSrc], by simp [Sp.limSrc], ?_, ?_⟩
    · intro d hd
      simp only [Sp.limSrc, List.mem_singleton] at hd
      subst hd
      refine ⟨by simp, by simp; omega, ?_⟩
      intro s hs
      obtain ⟨i, hi, rfl⟩ := List.mem_map.1 hs
      rw [List.mem_range] at hi
      have := itoa_small (i := i) (by omega)
      show (116 :: Lib.itoa (i : Int)).length ≤ 4000
      rw [List.length_cons]
      omega
    · intro r hr
      simp only [Sp.limSrc, List.mem_singleton] at hr
      subst hr
      refine ⟨by simp, by simp, ?_⟩
      intro a ha
      rw [List.mem_singleton] at ha
      subst ha
      exact emptyAlt_small
  · refine ⟨by simp [Sp.limSrc], by simp [Sp.limSrc], by simp [Sp.limSrc], by simp [Sp.limSrc]; omega, by simp [Sp.limSrc], ?_⟩
    intro r hr
    simp only [Sp.limSrc] at hr
    rcases List.mem_cons.1 hr with rfl | hr
    · refine ⟨by simp, by simp, ?_⟩
      intro a ha
      rw [List.mem_singleton] at ha
      subst ha
      exact emptyAlt_small
    · obtain ⟨i, hi, rfl⟩ := List.mem_map.1 hr
      rw [List.mem_range] at hi
      have := itoa_small (i := i + 1) (by omega)
      refine ⟨by show (97 :: Lib.itoa ((i + 1 : Nat) : Int)).length ≤ 4000; rw [List.length_cons]; omega, by simp, ?_⟩
      intro a ha
      rw [List.mem_singleton] at ha
      subst ha
      exact emptyAlt_small
  · refine ⟨by simp [Sp.limSrc], by simp [Sp.limSrc], by simp [Sp.limSrc], by simp [Sp.limSrc], by simp [Sp.limSrc], ?_⟩
    intro r hr
    simp only [Sp.limSrc, List.mem_singleton] at hr
    subst hr
    refine ⟨by simp, by simp; omega, ?_⟩
    intro a ha
    obtain rfl := List.eq_of_mem_replicate ha
    exact emptyAlt_small
  · refine ⟨by simp [Sp.limSrc], by simp [Sp.limSrc], by simp [Sp.limSrc], by simp [Sp.limSrc], by simp [Sp.limSrc], ?_⟩
    intro r hr
    simp only [Sp.limSrc, List.mem_singleton] at hr
    subst hr
    refine ⟨by simp, by simp, ?_⟩
    intro a ha
    simp only [List.mem_cons, List.not_mem_nil, or_false] at ha
    rcases ha with rfl | rfl
    · exact emptyAlt_small
    · refine ⟨by simp; omega, ?_, by simp⟩
      intro p hp
      obtain rfl := List.eq_of_mem_replicate hp
      exact ⟨by simp, by simp⟩
def limSyms (k : Nat) : List Sp.Sym := (List.range k).map fun (i : Nat) => ⟨116 :: Lib.itoa (i : Int), false, 0, 0⟩
theorem PassSt.kp0 {B : Nat} {w w' : World} {bs br ba : Nat} (h : PassSt B w bs br ba (.slice none 0 0) (.slice none 0 0) [] []) (k : Kp (fun b => b = bs ∨ b = br ∨ b = ba) w w') : PassSt B w' bs br ba (.slice none 0 0) (.slice none 0 0) [] [] :=
  ⟨k.at h.src (.inl rfl), k.at h.rule (.inr (.inl rfl)), k.at h.alt (.inr (.inr rfl)), World.ownsRow_nil _ _ _ _, OwnR.nil _ _ _ _ _ _, h.ge⟩
/-- A declaration whose symbols grow. -/
structure LimD (W wr : World) (bs br ba bd k : Nat) (sv : Value) : Prop where
  st : PassSt W.heap.size wr bs br ba (.slice none 0 0) (.slice none 0 0) [] []
  box : wr.heap[bd]? = some (.cells #[.int .i64 1, .string ⟨#[]⟩, sv, .int .i64 0] 43 (0, 0))
  syms : wr.ownsRow W.heap.size 40 4 sv k ((limSyms k).map symC).flatten
  bel : Below W.heap.size W wr
  ge : W.heap.size ≤ bd
theorem limSyms_snoc (k : Nat) : limSyms (k + 1) = limSyms k ++ [⟨116 :: Lib.itoa (k : Int), false, 0, 0⟩] := by
  unfold limSyms
  rw [List.range_succ, List.map_append]
  rfl
theorem LimD.step {W wr w8 w' : World} {bs br ba bd k : Nat} {sv sv' : Value} (h : LimD W wr bs br ba bd k sv) (hk8 : Kp (fun b => b = bd ∨ b = bs ∨ b = br ∨ b = ba) wr w8) (hk9 : Kp (fun b => b < W.heap.size) wr w8) (hown : w8.ownsRow W.heap.size 40 4 sv' (k + 1) (((limSyms k).map symC).flatten ++ symC ⟨116 :: Lib.itoa (k : Int), false, 0, 0⟩)) (hw : w' = w8.setCell ⟨bd, 2, none⟩ sv') : LimD W w' bs br ba bd (k + 1) sv' := by
  subst hw
  have hb := hk8.at h.box (.inl rfl)
  have hne : ∀ c, (∃ cs t fr, wr.heap[c]? = some (.cells cs t fr) ∧ t ≠ 43) → c ≠ bd := by
    rintro c ⟨cs, t, fr, hc, ht⟩ rfl
    rw [h.box] at hc
    simp at hc
    exact ht hc.2.1.symm
  have n1 := hne bs ⟨_, _, _, h.st.src, by decide⟩
  have n2 := hne br ⟨_, _, _, h.st.rule, by decide⟩
  have n3 := hne ba ⟨_, _, _, h.st.alt, by decide⟩
  have kk : Kp (fun b => b = bs ∨ b = br ∨ b = ba) wr (w8.setCell ⟨bd, 2, none⟩ sv') := (hk8.mono (fun _ _ h => .inr h)).setCell (p := ⟨bd, 2, none⟩) (by rintro (e | e | e); exact n1 e.symm; exact n2 e.symm; exact n3 e.symm) _
  refine ⟨h.st.kp0 kk, heap_setCell_at hb, ?_, h.bel.trans (Kp.below (hk9.setCell (p := ⟨bd, 2, none⟩) (by have := h.ge; simp only; omega) _) h.bel.size (fun b hb => hb)), h.ge⟩
  rw [limSyms_snoc, List.map_append, List.flatten_append]
  simp only [List.map_cons, List.map_nil, List.flatten_cons, List.flatten_nil, List.append_nil]
  exact ownsRow_kpT hown (KpT.setCell (T := fun t => t = 40) (fun _ _ _ _ h _ => h) hb (by decide) _) rfl
theorem LimD.done {W wr w' : World} {bs br ba bd k : Nat} {sa : Option Addr} {sc : Nat} (h : LimD W wr bs br ba bd k (.slice sa k sc)) (hw : w' = (wr.setCell ⟨bs, 1, none⟩ (.slice (some ⟨wr.heap.size, 0, none⟩) 1 1)).alloc (.cells #[.int .i64 1, .string ⟨#[]⟩, .slice sa k sc, .int .i64 0] 43)) :
    PassS2 W.heap.size w' bs (.slice (some ⟨wr.heap.size, 0, none⟩) 1 1) (.slice (some ⟨br, 0, none⟩) 1 1) [⟨1, [], limSyms k, 0⟩] [⟨[97], [Sp.emptyAlt], 0⟩] ∧ Below W.heap.size W w' := by
  obtain ⟨w2, hw2⟩ : ∃ w2 : World, w2 = wr.setCell ⟨bs, 1, none⟩ (.slice (some ⟨wr.heap.size, 0, none⟩) 1 1) := ⟨_, rfl⟩
  have hsz : w2.heap.size = wr.heap.size := by rw [hw2]; simp [World.setCell]
  have kt : KpT (fun t => t ≠ 29) wr w2 := by rw [hw2]; exact KpT.setCell (fun _ _ _ _ h _ => h) h.st.src (by simp) _
  have hs2 : w2.heap[bs]? = some (.cells #[.string ⟨#[]⟩, .slice (some ⟨wr.heap.size, 0, none⟩) 1 1, .slice (some ⟨br, 0, none⟩) 1 1, .string ⟨#[]⟩] 29 (0, 0)) := by rw [hw2]; exact heap_setCell_at h.st.src
  rw [← hw2] at hw
  have kt' := kt.alloc (.cells #[.int .i64 1, .string ⟨#[]⟩, .slice sa k sc, .int .i64 0] 43)
  rw [← hw] at kt'
  have hnew : w'.heap[wr.heap.size]? = some (.cells #[.int .i64 1, .string ⟨#[]⟩, .slice sa k sc, .int .i64 0] 43 (0, 0)) := by
    rw [hw, ← hsz]
    exact heap_last w2 _
  have hk : Kp (fun b => b < W.heap.size) wr w' := by
    rw [hw, hw2]
    exact ((Kp.refl _ wr).setCell (p := ⟨bs, 1, none⟩) (by have := h.st.ge.1; simp only; omega) _).alloc _
  refine ⟨⟨?_, ⟨fun _ => .slice sa k sc, owns_block hnew h.bel.size rfl (by decide), fun i d hd => ?_⟩, rules_kp h.st.rules kt' (by decide) (by decide) (by decide), h.st.ge.1⟩, h.bel.trans (Kp.below hk h.bel.size (fun b hb => hb))⟩
  · rw [hw]
    exact heap_old hs2 _
  · obtain ⟨rfl, rfl⟩ := one_at hd
    refine ⟨W.heap.size, ?_⟩
    have hl : (limSyms k).length = k := by unfold limSyms; simp
    rw [hl]
    exact ownsRow_kpT h.syms kt' (by decide)
/-- A rule whose alternatives grow. -/
structure LimA (W wr : World) (bs br k : Nat) (av : Value) : Prop where
  src : wr.heap[bs]? = some (.cells #[.string ⟨#[]⟩, .slice none 0 0, .slice (some ⟨br, 0, none⟩) 1 1, .string ⟨#[]⟩] 29 (0, 0))
  rule : wr.heap[br]? = some (.cells #[.string ⟨#[97]⟩, av, .int .i64 0] 52 (0, 0))
  alts : AltsOwn W.heap.size wr av (List.replicate k Sp.emptyAlt)
  bel : Below W.heap.size W wr
  ge : W.heap.size ≤ bs ∧ W.heap.size ≤ br
theorem LimA.two {W wr : World} {bs br k : Nat} {av : Value} (h : LimA W wr bs br k av) : PassS2 W.heap.size wr bs (.slice none 0 0) (.slice (some ⟨br, 0, none⟩) 1 1) [] [⟨[97], List.replicate k Sp.emptyAlt, 0⟩] := by
  refine ⟨h.src, OwnR.nil _ _ _ _ _ _, ⟨fun _ => av, owns_block h.rule h.ge.2 rfl (by decide), fun i r hr => ?_⟩, h.ge.1⟩
  obtain ⟨rfl, rfl⟩ := one_at hr
  exact ⟨W.heap.size, h.alts⟩
/-- Rules as they grow. -/
def limRules (k : Nat) : List Sp.Rule := ⟨[97], [Sp.emptyAlt], 0⟩ :: (List.range (k - 1)).map fun (i : Nat) => ⟨97 :: Lib.itoa ((i + 1 : Nat) : Int), [Sp.emptyAlt], 0⟩
theorem limRules_len {k : Nat} (h : 1 ≤ k) : (limRules k).length = k := by
  unfold limRules
  rw [List.length_cons, List.length_map, List.length_range]
  omega
theorem limRules_snoc {k : Nat} (h : 1 ≤ k) : limRules (k + 1) = limRules k ++ [⟨97 :: Lib.itoa (k : Int), [Sp.emptyAlt], 0⟩] := by
  obtain ⟨j, rfl⟩ : ∃ j, k = j + 1 := ⟨k - 1, by omega⟩
  unfold limRules
  rw [show j + 1 + 1 - 1 = j + 1 by omega, show j + 1 - 1 = j by omega, List.range_succ, List.map_append]
  rfl
structure LimR (W wr : World) (bs k : Nat) (rv : Value) : Prop where
  st : PassS2 W.heap.size wr bs (.slice none 0 0) rv [] (limRules k)
  bel : Below W.heap.size W wr
theorem LimR.step {W wr w8 w' : World} {bs k al : Nat} {rv rv' : Value} {f : Nat → Value} (h : LimR W wr bs k rv) (h1 : 1 ≤ k) (hch : ∀ (i : Nat) (a : Sp.Rule), (limRules k)[i]? = some a → altsOwn wr (f i) a) (hk8 : Kp (fun b => b = bs) wr w8) (hk9 : Kp (fun b => b < W.heap.size) wr w8) (kt8 : KpT (fun t => t ≠ 52) wr w8) (hal : w8.heap[al]? = some (.cells #[.slice none 0 0, .string ⟨#[]⟩, .bool false, .int .i64 0, .int .i64 0, .int .i64 0] 49 (0, 0))) (hge : W.heap.size ≤ al)
    (hown : w8.ownsRow W.heap.size 52 3 rv' (k + 1) (((limRules k).mapIdx fun i a => ruleC (f i) a).flatten ++ ruleC (.slice (some ⟨al, 0, none⟩) 1 1) ⟨97 :: Lib.itoa (k : Int), [Sp.emptyAlt], 0⟩)) (hw : w' = w8.setCell ⟨bs, 2, none⟩ rv') : LimR W w' bs (k + 1) rv' := by
  have hl := limRules_len h1
  have hrs : RulesOwn W.heap.size w8 rv' (limRules k ++ [⟨97 :: Lib.itoa (k : Int), [Sp.emptyAlt], 0⟩]) :=
    OwnR.snoc (u := .slice (some ⟨al, 0, none⟩) 1 1) hch (by rw [hl]; exact hown) (fun u a h => altsOwn_kp kt8 (by decide) (by decide) u a h) ⟨W.heap.size, fun _ => .slice none 0 0, owns_block hal hge rfl (by decide), fun i a ha => by
      obtain ⟨rfl, rfl⟩ := one_at ha
      exact ⟨0, World.ownsRow_nil _ _ _ _⟩⟩
  rw [← limRules_snoc h1] at hrs
  refine ⟨h.st.setRules hk8 (OwnR.nil _ _ _ _ _ _) hrs hw, ?_⟩
  subst hw
  exact h.bel.trans (Kp.below (hk9.setCell (p := ⟨bs, 2, none⟩) (by have := h.st.ge; simp only; omega) _) h.bel.size (fun b hb => hb))
/-- Parts as they grow, on their own. -/
structure LimP (W wr : World) (bs br ba k : Nat) (pv : Value) : Prop where
  st : PassSt W.heap.size wr bs br ba (.slice none 0 0) (.slice none 0 0) [] []
  parts : wr.ownsRow W.heap.size 46 6 pv k ((List.replicate k (⟨⟨[97], false, 0, 0⟩, [], 0⟩ : Sp.Part)).map partC).flatten
  bel : Below W.heap.size W wr
theorem LimP.done {W wr w8 w' : World} {bs br ba k : Nat} {pv av : Value} (h : LimP W wr bs br ba k pv) (hk8 : Kp (fun b => b = bs ∨ b = br) wr w8) (hk9 : Kp (fun b => b < W.heap.size) wr w8) (kt8 : KpT (fun t => t ≠ 49) wr w8)
    (hown : w8.ownsRow W.heap.size 49 6 av 2 (#[.slice none 0 0, .string ⟨#[]⟩, .bool false, .int .i64 0, .int .i64 0, .int .i64 0].toList ++ altC pv ⟨List.replicate k ⟨⟨[97], false, 0, 0⟩, [], 0⟩, ⟨[], false, 0, 0⟩, 0⟩)) (hw : w' = w8.setCell ⟨br, 1, none⟩ av) :
    PassS2 W.heap.size w' bs (.slice none 0 0) (.slice (some ⟨br, 0, none⟩) 1 1) [] [⟨[97], [Sp.emptyAlt, ⟨List.replicate k ⟨⟨[97], false, 0, 0⟩, [], 0⟩, ⟨[], false, 0, 0⟩, 0⟩], 0⟩] ∧ Below W.heap.size W w' := by
  subst hw
  have hne : bs ≠ br := by
    rintro rfl
    have := h.st.src.symm.trans h.st.rule
    simp at this
  have hru := hk8.at h.st.rule (.inr rfl)
  have ktr : KpT (fun t => t ≠ 52) w8 (w8.setCell ⟨br, 1, none⟩ av) := KpT.setCell (fun _ _ _ _ h _ => h) hru (by simp) _
  have hpa := ownsRow_kpT h.parts kt8 (by decide)
  have hal : AltsOwn W.heap.size w8 av ([Sp.emptyAlt] ++ [⟨List.replicate k ⟨⟨[97], false, 0, 0⟩, [], 0⟩, ⟨[], false, 0, 0⟩, 0⟩]) :=
    OwnR.snoc (w := w8) (l := [Sp.emptyAlt]) (f := fun _ => .slice none 0 0) (u := pv) (fun i a ha => by
      obtain ⟨rfl, rfl⟩ := one_at ha
      exact ⟨0, World.ownsRow_nil _ _ _ _⟩) hown (fun u a h => h) ⟨W.heap.size, by
        show w8.ownsRow _ _ _ _ (List.replicate k _).length _
        rw [List.length_replicate]
        exact hpa⟩
  refine ⟨⟨(Below.heap_setCell _ _ _ _ hne).trans (hk8.at h.st.src (.inl rfl)), OwnR.nil _ _ _ _ _ _, ⟨fun _ => av, owns_block (heap_setCell_at hru) h.st.ge.2.1 rfl (by decide), fun i r hr => ?_⟩, h.st.ge.1⟩, h.bel.trans (Kp.below (hk9.setCell (p := ⟨br, 1, none⟩) (by have := h.st.ge.2.1; simp only; omega) _) h.bel.size (fun b hb => hb))⟩
  obtain ⟨rfl, rfl⟩ := one_at hr
  exact ⟨W.heap.size, alts_kp hal ktr (by decide) (by decide)⟩
set_option maxRecDepth 100000 in
set_option maxHeartbeats 12800000 in
theorem law_GramLimits (n0 which0 : Int) (W : World) (hw1 : (Lit.int .i64 n0).wf = true) (hw2 : (Lit.int .i64 which0).wf = true) (hg : Gl4 W) :
    Calls Tryd.prog 8 #[.int .i64 n0, .int .i64 which0] W fun e w' => e = .returned (.bool true) ∧ Below W.heap.size W w' := by
  obtain ⟨m, hm⟩ : ∃ m : Nat, n0 % ((64 : Nat) : Int) = (m : Int) := ⟨(n0 % 64).toNat, by have := Int.emod_nonneg n0 (b := 64) (by decide); omega⟩
  obtain ⟨wh, hwh⟩ : ∃ wh : Nat, which0 % ((4 : Nat) : Int) = (wh : Int) := ⟨(which0 % 4).toNat, by have := Int.emod_nonneg which0 (b := 4) (by decide); omega⟩
  have hm64 : m < 64 := by have := Int.emod_lt_of_pos n0 (b := 64) (by decide); omega
  have hwh4 : wh < 4 := by have := Int.emod_lt_of_pos which0 (b := 4) (by decide); omega
  have hadd : IntKind.i64.wrap (1 + (m : Int)) = ((m + 1 : Nat) : Int) := by
    rw [show ((m + 1 : Nat) : Int) = 1 + (m : Int) by omega]
    exact IntWalk.i64_in _ ⟨by omega, by omega⟩
  have HG := Lib.hid hg; have HW1 := Lib.hid hw1; have HW2 := Lib.hid hw2; have HM := Lib.hid hm; have HWH := Lib.hid hwh
  clear hg hw1 hw2 hm hwh
  go_enter Tryd.func8, Tryd.ntmps8
  go_wp2_with fail
  refine (wakes9 W HG.out).mono ?_
  rintro e w1 ⟨rfl, hb1⟩
  go_wp2_with fail
  refine (ref_Within9 n0 64 w1 (by decide) (by decide) HW1.out).mono ?_
  rintro e w1' ⟨rfl, rfl⟩
  rw [HM.out]
  go_wp2_with fail
  refine (ref_Within9 which0 4 _ (by decide) (by decide) HW2.out).mono ?_
  rintro e w ⟨rfl, hw⟩
  rw [HWH.out]
  have P4 : PassSt W.heap.size w (w1.heap.size + 1 + 1 + 1) (w1.heap.size + 1 + 1) w1.heap.size (.slice none 0 0) (.slice none 0 0) [] [] := by
    have hsz := hb1.size
    obtain ⟨q0, q1, q2⟩ := three_c (W := w1) (w' := w) (c1 := #[.slice none 0 0, .string ⟨#[]⟩, .bool false, .int .i64 0, .int .i64 0, .int .i64 0]) (c2 := #[.string ⟨#[97]⟩, .slice (some ⟨w1.heap.size, 0, none⟩) 1 1, .int .i64 0]) (c3 := #[.string ⟨#[97]⟩, .slice (some ⟨w1.heap.size, 0, none⟩) 1 1, .int .i64 0]) (t1 := 49) (t2 := 52) (t3 := 52) (by rw [← hw]; exact (Below.refl _ _).alloc (by simp) _)
    refine ⟨?_, q2, q0, World.ownsRow_nil _ _ _ _, OwnR.nil _ _ _ _ _ _, by omega, by omega, by omega⟩
    rw [← hw]
    have h := heap_last (((w1.alloc (.cells #[.slice none 0 0, .string ⟨#[]⟩, .bool false, .int .i64 0, .int .i64 0, .int .i64 0] 49)).alloc (.cells #[.string ⟨#[97]⟩, .slice (some ⟨w1.heap.size, 0, none⟩) 1 1, .int .i64 0] 52)).alloc (.cells #[.string ⟨#[97]⟩, .slice (some ⟨w1.heap.size, 0, none⟩) 1 1, .int .i64 0] 52)) (.cells #[.string ⟨#[]⟩, .slice none 0 0, .slice (some ⟨w1.heap.size + 1 + 1, 0, none⟩) 1 1, .string ⟨#[]⟩] 29)
    simp only [World.size_alloc] at h
    exact h
  have HBW : Hid (Below W.heap.size W w) := Lib.hid (by rw [← hw]; exact (hb1.trans ((three_below w1 _ _ _).mono hb1.size)).alloc (by have := hb1.size; simp; omega) _)
  have HBS : Hid (W.heap.size + 3 ≤ w1.heap.size + 1 + 1 + 1) := Lib.hid (by have := hb1.size; omega)
  clear hw hb1
  generalize w1.heap.size + 1 + 1 + 1 = bs at P4 HBS ⊢
  generalize w1.heap.size + 1 + 1 = br at P4 ⊢
  generalize w1.heap.size + 1 = bo at ⊢
  generalize w1.heap.size = ba at P4 ⊢
  have HP4 := Lib.hid P4
  clear P4
  go_upto_block 0 with fail
  go_cut [7] (fun s7 wx => s7 = .bool (Sp.limOk wh (m + 1)) ∧ (∃ dv rv, PassS2 W.heap.size wx bs dv rv (Sp.limSrc wh (m + 1)).decls (Sp.limSrc wh (m + 1)).rules) ∧ Below W.heap.size W wx)
  case first =>
    have hcs : wh = 0 ∨ wh = 1 ∨ wh = 2 ∨ wh = 3 := by omega
    clear HWH hwh4
    rcases hcs with rfl | rfl | rfl | rfl
    · go_wp2_with fail
      obtain ⟨bd, hbd⟩ : ∃ bd, bd = w.heap.size := ⟨_, rfl⟩
      go_loopg [9] (m + 1) (fun q iv wr => ∃ (k : Nat) (sv : Value), k ≤ m + 1 ∧ q = m + 1 - k ∧ iv = .int .i64 k ∧ LimD W wr bs br ba w.heap.size k sv)
      case atStart =>
        have hb := HBW.out
        refine ⟨0, .slice none 0 0, by omega, rfl, rfl, ?_, heap_last w _, World.ownsRow_nil _ _ _ _, hb.alloc hb.size _, hb.size⟩
        exact HP4.out.kp0 ((Kp.refl _ w).alloc _)
      case round =>
        obtain ⟨k, sv, hk, rfl, rfl, hst⟩ := hrel
        have HST := Lib.hid hst
        by_cases hkn : k < m + 1
        · obtain ⟨sa, sc, rfl⟩ := ownsRowS_some hst.syms
          obtain ⟨bd, hbd⟩ : ∃ bd, bd = w.heap.size := ⟨_, rfl⟩
          have HO := Lib.hid hst.syms
          have HWS := Lib.hid hst.bel.size
          obtain ⟨is0, his0, hsz0, hsz1, hsz2⟩ := info_parts info_symE
          have HSK : Hid (∀ w', Kp (fun b => b = w.heap.size) wr w' → ((w'.cell? ⟨w.heap.size, 2, none⟩ = some (.slice sa k sc) ∧ w'.frozen? ⟨w.heap.size, 2, none⟩ = false) ∧ w.heap.size < w'.heap.size)) := Lib.hid (fun w' k => by
            have q0 := k.at HST.out.box rfl
            exact ⟨⟨cell_at (i := 2) q0, frozen_at (i := 2) q0⟩, lt_at q0⟩)
          have HNB : Hid (∀ c, (Value.slice sa k sc).ownBlock = some c → ¬ (c = w.heap.size ∨ c = bs ∨ c = br ∨ c = ba)) := Lib.hid (fun c hc hs => by
            rcases hs with rfl | rfl | rfl | rfl
            · exact row_ne_cells HO.out HST.out.box (by decide) _ hc rfl
            · exact row_ne_cells HO.out HST.out.st.src (by decide) _ hc rfl
            · exact row_ne_cells HO.out HST.out.st.rule (by decide) _ hc rfl
            · exact row_ne_cells HO.out HST.out.st.alt (by decide) _ hc rfl)
          have hkI : (k : Int) < (m : Int) + 1 := by omega
          have hk0 : (0 : Int) ≤ (k : Int) := by omega
          have hbig : ¬ 9223372036854775807 < 1 + (Lib.itoa (k : Int)).length := by
            have := itoa_small (i := k) (by omega)
            omega
          clear hst hbd
          go_upto_region 20 with fail
          refine wp_region_plan (fun w' : World => ((w'.cell? ⟨w.heap.size, 2, none⟩ = some (.slice sa k sc) ∧ w'.frozen? ⟨w.heap.size, 2, none⟩ = false) ∧ w.heap.size < w'.heap.size)) [9] (.take 0 (.take 1 (.take 2 (.one 3 (.one 4 (.one 5 (.one 6 (.one 7 (.one 8 (.one 9 (.done))))))))))) (by kernel_rfl) (by kernel_rfl) (fun _ _ _ _ h => h) ?_
          have hSw := HSK.out _ ((Kp.refl _ wr).drew)
          refine wpPlan_take (v := ?va1) rfl hSw (by rfl) ?ya1 ?_
          case ya1 => (intro w hSx; (try dsimp only at hSx); go_simp; first | done | with_reducible rfl | rfl)
          (try simp only [Act.put, List.setIfInBounds_toArray, List.set_cons_zero, List.set_cons_succ])
          refine wpPlan_take (v := ?va2) rfl hSw (by rfl) ?ya2 ?_
          case ya2 => (intro w hSx; (try dsimp only at hSx); go_simp; first | done | with_reducible rfl | rfl)
          (try simp only [Act.put, List.setIfInBounds_toArray, List.set_cons_zero, List.set_cons_succ])
          refine wpPlan_take (v := ?va3) rfl hSw (by rfl) ?ya3 ?_
          case ya3 => (intro w hSx; (try dsimp only at hSx); go_simp; first | done | with_reducible rfl | rfl)
          (try simp only [Act.put, List.setIfInBounds_toArray, List.set_cons_zero, List.set_cons_succ])
          refine wpPlan_run rfl (by rfl) (fun K' hK => ?_)
          (go_simp; go_at_call 21; refine (ref_Digits (k : Int) _ (by omega) (by omega)).mono ?_; rintro e w5 ⟨rfl, hb5⟩; have hb5' : Below wr.heap.size wr w5 := below_undrew hb5)
          refine hK _ _ (.inr ?_) ?_
          · exact HSK.out _ (Kp.of_below hb5' (fun _ hk _ => hk))
          clear hK K' hSw
          (try simp only [Act.put, List.setIfInBounds_toArray, List.set_cons_zero, List.set_cons_succ])
          refine wpPlan_run rfl (by rfl) (fun K' hK => ?_)
          go_simp
          refine hK _ _ (.inr ?_) ?_
          · exact HSK.out _ (Kp.of_below hb5' (fun _ hk _ => hk))
          clear hK K'
          (try simp only [Act.put, List.setIfInBounds_toArray, List.set_cons_zero, List.set_cons_succ])
          refine wpPlan_run rfl (by rfl) (fun K' hK => ?_)
          (go_simp; go_at_call 24; refine (law9_name (116 :: Lib.itoa (k : Int)) 0 _).mono ?_; rintro e w6 ⟨rfl, hb6⟩; have hb6' : Below wr.heap.size wr w6 := hb5'.trans (hb6.mono hb5'.size))
          refine hK _ _ (.inr ?_) ?_
          · exact HSK.out _ (Kp.of_below hb6' (fun _ hk _ => hk))
          clear hK K'
          (try simp only [Act.put, List.setIfInBounds_toArray, List.set_cons_zero, List.set_cons_succ])
          refine wpPlan_run rfl (by rfl) (fun K' hK => ?_)
          go_simp
          refine hK _ _ (.inr ?_) ?_
          · exact HSK.out _ (Kp.of_below (hb6'.alloc hb6'.size _) (fun _ hk _ => hk))
          clear hK K'
          (try simp only [Act.put, List.setIfInBounds_toArray, List.set_cons_zero, List.set_cons_succ])
          refine wpPlan_run rfl (by rfl) (fun K' hK => ?_)
          (refine wp_append_lies _ _ _ _ (by rfl) W.heap.size 40 is0 _ 4 40 Tryd.underlying41 his0 hsz0 hsz1 hsz2 rfl (by decide) _ _ _ (by rfl) ((ownsRow_below HO.out hb6').alloc _) ⟨w6.heap.size, 0, none⟩ 1 1 (symC ⟨116 :: Lib.itoa (k : Int), false, 0, 0⟩) (by rfl) (by rfl) (World.news_of_block (cs := (symC ⟨116 :: Lib.itoa (k : Int), false, 0, 0⟩).toArray) (t := 40) (fr := (0, 0)) (heap_alloc_new w6 _)) (by simp [Value.oneCell', symC]) (by omega) (by unfold maxLen; omega) (by omega) (by have := hb6'.size; have := HWS.out; simp only [World.size_alloc]; omega) _ rfl ?_; intro g2 c2 w8 hown2 hgrow2 hat2 hlt2; have hk8 : Kp (fun b => b = w.heap.size ∨ b = bs ∨ b = br ∨ b = ba) wr w8 := (((Kp.of_below hb6' (fun _ hk _ => hk)) : Kp (fun b => b = w.heap.size ∨ b = bs ∨ b = br ∨ b = ba) wr w6).alloc _).grown hgrow2 (fun k hk hs => HNB.out k hk hs))
          refine hK _ _ (.inr ?_) ?_
          · exact HSK.out _ (hk8.mono (fun _ _ h => .inl h))
          clear hK K'
          (try simp only [Act.put, List.setIfInBounds_toArray, List.set_cons_zero, List.set_cons_succ])
          refine wpPlan_run rfl (by rfl) (fun K' hK => ?_)
          go_simp
          refine hK _ _ (.inr ?_) ?_
          · exact HSK.out _ (hk8.mono (fun _ _ h => .inl h))
          clear hK K'
          (try simp only [Act.put, List.setIfInBounds_toArray, List.set_cons_zero, List.set_cons_succ])
          refine wpPlan_run rfl (by rfl) (fun K' hK => ?_)
          (obtain ⟨⟨z1, z2⟩, hl8⟩ := HSK.out _ (hk8.mono (fun _ _ h => .inl h)); go_simp)
          refine hK _ _ (.inl rfl) ?_
          clear hK K'
          (try simp only [Act.put, List.setIfInBounds_toArray, List.set_cons_zero, List.set_cons_succ])
          refine wpPlan_done ?_
          go_wp2_with fail
          go_roundg (m + 1 - (k + 1))
          case measure => omega
          case rel =>
            refine ⟨k + 1, .slice (some ⟨g2, 0, none⟩) (k + 1) c2, by omega, rfl, by go_num, ?_⟩
            have hk9 : Kp (fun b => b < W.heap.size) wr w8 := (((Kp.of_below hb6' (fun _ hk _ => hk)) : Kp (fun b => b < W.heap.size) wr w6).alloc _).grown hgrow2 (fun c hc hs => Nat.not_lt.2 (HO.out.lt c hc).1 hs)
            exact HST.out.step hk8 hk9 hown2 rfl
        · obtain rfl : k = m + 1 := by omega
          obtain ⟨sa, sc, rfl⟩ := ownsRowS_some hst.syms
          have q0 := hst.box
          have c0 := cell_at (i := 0) q0; have c1 := cell_at (i := 1) q0; have c2 := cell_at (i := 2) q0; have c3 := cell_at (i := 3) q0
          have lb := lt_at q0
          have q1 := hst.st.src
          have d1 := cell_at (i := 1) q1
          have f1 := frozen_at (i := 1) q1
          have lc := lt_at q1
          have hkI : ¬ ((m : Int) + 1 < (m : Int) + 1) := by omega
          have hkI2 : ¬ (((m + 1 : Nat) : Int) < (m : Int) + 1) := by omega
          clear hst q0 q1 hk hkn
          by_cases h37 : m + 1 ≤ 37
          · have h37' : (m : Int) + 1 ≤ 37 := by omega
            have H37 := Lib.hid h37
            clear h37
            go_wp2_with fail
            go_meet
            obtain ⟨h1, h2⟩ := HST.out.done rfl
            exact ⟨by rw [show Sp.limOk 0 (m + 1) = true from decide_eq_true H37.out], ⟨_, _, h1⟩, h2⟩
          · have h37' : ¬ (m : Int) + 1 ≤ 37 := by omega
            have H37 := Lib.hid h37
            clear h37
            go_wp2_with fail
            go_meet
            obtain ⟨h1, h2⟩ := HST.out.done rfl
            exact ⟨by rw [show Sp.limOk 0 (m + 1) = false from decide_eq_false H37.out], ⟨_, _, h1⟩, h2⟩
    · go_wp2_with fail
      go_loopg [10] m (fun q iv wr => ∃ (k : Nat) (rv : Value), 1 ≤ k ∧ k ≤ m + 1 ∧ q = m + 1 - k ∧ iv = .int .i64 k ∧ LimR W wr bs k rv)
      case atStart =>
        exact ⟨1, _, by omega, by omega, by omega, rfl, HP4.out.two, HBW.out⟩
      case round =>
        obtain ⟨k, rv, hk1, hk, rfl, rfl, hst⟩ := hrel
        have HST := Lib.hid hst
        by_cases hkn : k < m + 1
        · obtain ⟨f, ho, hch⟩ := hst.st.rules
          rw [limRules_len hk1] at ho
          obtain ⟨ra, rc, rfl⟩ := ownsRowS_some ho
          have HWS := Lib.hid hst.bel.size
          obtain ⟨ir0, hir0, hrz0, hrz1, hrz2⟩ := info_parts info_ruleE
          have HO := Lib.hid ho; have HCH := Lib.hid hch
          have HSK : Hid (∀ w', Kp (fun b => b = bs) wr w' → ((w'.cell? ⟨bs, 2, none⟩ = some (.slice ra k rc) ∧ w'.frozen? ⟨bs, 2, none⟩ = false) ∧ bs < w'.heap.size)) := Lib.hid (fun w' kp => by
            have q0 := kp.at HST.out.st.src rfl
            exact ⟨⟨cell_at (i := 2) q0, frozen_at (i := 2) q0⟩, lt_at q0⟩)
          have HNB : Hid (∀ c, (Value.slice ra k rc).ownBlock = some c → c ≠ bs) := Lib.hid (fun c hc => row_ne_cells HO.out HST.out.st.src (by decide) c hc)
          have HLO : Hid (∀ c, (Value.slice ra k rc).ownBlock = some c → ¬ c < W.heap.size) := Lib.hid (fun c hc => Nat.not_lt.2 (HO.out.lt c hc).1)
          have hkI : (k : Int) < (m : Int) + 1 := by omega
          have hk64 : k < 64 := by omega
          have hbig : ¬ 9223372036854775807 < 1 + (Lib.itoa (k : Int)).length := by
            have := itoa_small (i := k) (by omega)
            omega
          have HK1 := Lib.hid hk1
          clear hst ho hch hk1
          go_upto_block 6 with fail
          go_cut [] from 78 to 93 (fun wx => ∃ rv, LimR W wx bs (k + 1) rv)
          case first =>
            go_upto_region 27 with fail
            refine wp_region_plan (fun w' : World => ((w'.cell? ⟨bs, 2, none⟩ = some (.slice ra k rc) ∧ w'.frozen? ⟨bs, 2, none⟩ = false) ∧ bs < w'.heap.size)) [11] (.take 0 (.take 1 (.take 2 (.take 5 (.two 3 6 (.take 4 (.one 6 (.one 7 (.one 8 (.one 9 (.one 10 (.one 11 (.done)))))))) (.one 3 (.one 4 (.one 7 (.one 8 (.one 9 (.one 10 (.one 11 (.done))))))))))))) (by kernel_rfl) (by kernel_rfl) (fun _ _ _ _ h => h) ?_
            have hSw := HSK.out _ ((Kp.refl _ wr).drew)
            refine wpPlan_take (v := ?vd12) rfl hSw (by rfl) ?yd12 ?_
            case yd12 => (intro w hSx; (try dsimp only at hSx); go_simp; first | done | with_reducible rfl | rfl)
            (try simp only [Act.put, List.setIfInBounds_toArray, List.set_cons_zero, List.set_cons_succ])
            refine wpPlan_take (v := ?vd13) rfl hSw (by rfl) ?yd13 ?_
            case yd13 => (intro w hSx; (try dsimp only at hSx); go_simp; first | done | with_reducible rfl | rfl)
            (try simp only [Act.put, List.setIfInBounds_toArray, List.set_cons_zero, List.set_cons_succ])
            refine wpPlan_take (v := ?vd14) rfl hSw (by rfl) ?yd14 ?_
            case yd14 => (intro w hSx; (try dsimp only at hSx); go_simp; first | done | with_reducible rfl | rfl)
            (try simp only [Act.put, List.setIfInBounds_toArray, List.set_cons_zero, List.set_cons_succ])
            refine wpPlan_take (v := ?vd15) rfl hSw (by rfl) ?yd15 ?_
            case yd15 => (intro w hSx; (try dsimp only at hSx); go_simp; first | done | with_reducible rfl | rfl)
            (try simp only [Act.put, List.setIfInBounds_toArray, List.set_cons_zero, List.set_cons_succ])
            refine wpPlan_two ?_ ?_
            · refine wpPlan_run rfl (by rfl) (fun K' hK => ?_)
              (go_simp; go_at_call 21; refine (ref_Digits (k : Int) _ (by omega) (by omega)).mono ?_; rintro e w5 ⟨rfl, hb5⟩; have hb5' : Below wr.heap.size wr w5 := below_undrew hb5)
              refine hK _ _ (.inr ?_) ?_
              · exact HSK.out _ (Kp.of_below hb5' (fun _ hk _ => hk))
              clear hK K' hSw
              have hSw := HSK.out _ (Kp.of_below hb5' (fun _ hk _ => hk))
              (try simp only [Act.put, List.setIfInBounds_toArray, List.set_cons_zero, List.set_cons_succ])
              refine wpPlan_take (v := ?vd16) rfl hSw (by rfl) ?yd16 ?_
              case yd16 => (intro w hSx; (try dsimp only at hSx); go_simp; first | done | with_reducible rfl | rfl)
              (try simp only [Act.put, List.setIfInBounds_toArray, List.set_cons_zero, List.set_cons_succ])
              refine wpPlan_run rfl (by rfl) (fun K' hK => ?_)
              go_simp
              refine hK _ _ (.inr ?_) ?_
              · exact HSK.out _ (Kp.of_below (hb5'.alloc hb5'.size _) (fun _ hk _ => hk))
              clear hK K' hSw
              (try simp only [Act.put, List.setIfInBounds_toArray, List.set_cons_zero, List.set_cons_succ])
              have hb6' : Below wr.heap.size wr (w5.alloc (.cells #[.slice none 0 0, .string ⟨#[]⟩, .bool false, .int .i64 0, .int .i64 0, .int .i64 0] 49)) := hb5'.alloc hb5'.size _
              have hal6 : (w5.alloc (.cells #[.slice none 0 0, .string ⟨#[]⟩, .bool false, .int .i64 0, .int .i64 0, .int .i64 0] 49)).heap[w5.heap.size]? = some (.cells #[.slice none 0 0, .string ⟨#[]⟩, .bool false, .int .i64 0, .int .i64 0, .int .i64 0] 49 (0, 0)) := heap_alloc_new w5 _
              refine wpPlan_run rfl (by rfl) (fun K' hK => ?_)
              go_simp
              refine hK _ _ (.inr ?_) ?_
              · exact HSK.out _ (Kp.of_below hb6' (fun _ hk _ => hk))
              clear hK K'
              (try simp only [Act.put, List.setIfInBounds_toArray, List.set_cons_zero, List.set_cons_succ])
              refine wpPlan_run rfl (by rfl) (fun K' hK => ?_)
              go_simp
              refine hK _ _ (.inr ?_) ?_
              · exact HSK.out _ ((Kp.of_below hb6' (fun _ hk _ => hk)).alloc _)
              clear hK K'
              (try simp only [Act.put, List.setIfInBounds_toArray, List.set_cons_zero, List.set_cons_succ])
              refine wpPlan_run rfl (by rfl) (fun K' hK => ?_)
              (refine wp_append_lies _ _ _ _ (by rfl) W.heap.size 52 ir0 _ 3 48 Tryd.underlying27 hir0 hrz0 hrz1 hrz2 rfl (by decide) _ _ _ (by rfl) ((ownsRow_below HO.out hb6').alloc _) ⟨w5.heap.size + 1, 0, none⟩ 1 1 (ruleC (.slice (some ⟨w5.heap.size, 0, none⟩) 1 1) ⟨97 :: Lib.itoa (k : Int), [Sp.emptyAlt], 0⟩) (by rfl) (by rfl) (World.news_of_block (cs := #[.string ⟨(97 :: Lib.itoa (k : Int)).toArray⟩, .slice (some ⟨w5.heap.size, 0, none⟩) 1 1, .int .i64 0]) (t := 52) (fr := (0, 0)) (heap_sec w5 _ _)) (by simp [Value.oneCell', ruleC]) (by omega) (by unfold maxLen; omega) (by omega) (by have q1 := hb6'.size; have q2 := HWS.out; (try simp only [World.size_alloc] at q1); simp only [World.size_alloc]; omega) _ rfl ?_; intro g2 c2 w8 hown2 hgrow2 hat2 hlt2; have hk8 : Kp (fun b => b = bs) wr w8 := (((Kp.of_below hb6' (fun _ hk _ => hk)) : Kp (fun b => b = bs) wr (w5.alloc (.cells #[.slice none 0 0, .string ⟨#[]⟩, .bool false, .int .i64 0, .int .i64 0, .int .i64 0] 49))).alloc _).grown hgrow2 (fun c hc hs => HNB.out c hc hs); have hk9 : Kp (fun b => b < W.heap.size) wr w8 := (((Kp.of_below hb6' (fun _ hk _ => hk)) : Kp (fun b => b < W.heap.size) wr (w5.alloc (.cells #[.slice none 0 0, .string ⟨#[]⟩, .bool false, .int .i64 0, .int .i64 0, .int .i64 0] 49))).alloc _).grown hgrow2 (fun c hc hs => HLO.out c hc hs); have kg : KpT (fun t => t ≠ 52) (w5.alloc (.cells #[.slice none 0 0, .string ⟨#[]⟩, .bool false, .int .i64 0, .int .i64 0, .int .i64 0] 49)) w8 := (KpT.below ((Below.refl _ _).alloc (Nat.le_refl _) _)).trans (KpT.grown ((ownsRow_below HO.out hb6').alloc _) hgrow2); have kt8 : KpT (fun t => t ≠ 52) wr w8 := (KpT.below hb6').trans kg; have hal8 := kg _ _ _ _ hal6 (by decide))
              refine hK _ _ (.inr ?_) ?_
              · exact HSK.out _ hk8
              clear hK K'
              (try simp only [Act.put, List.setIfInBounds_toArray, List.set_cons_zero, List.set_cons_succ])
              refine wpPlan_run rfl (by rfl) (fun K' hK => ?_)
              go_simp
              refine hK _ _ (.inr ?_) ?_
              · exact HSK.out _ hk8
              clear hK K'
              (try simp only [Act.put, List.setIfInBounds_toArray, List.set_cons_zero, List.set_cons_succ])
              refine wpPlan_run rfl (by rfl) (fun K' hK => ?_)
              (obtain ⟨⟨z1, z2⟩, hl8⟩ := HSK.out _ hk8; go_simp)
              refine hK _ _ (.inl rfl) ?_
              clear hK K'
              (try simp only [Act.put, List.setIfInBounds_toArray, List.set_cons_zero, List.set_cons_succ])
              refine wpPlan_done ?_
              go_wp2_with fail
              go_meet
              exact ⟨_, HST.out.step HK1.out HCH.out hk8 hk9 kt8 hal8 (by have := hb5'.size; have := HWS.out; omega) hown2 rfl⟩
            · refine wpPlan_run rfl (by rfl) (fun K' hK => ?_)
              go_simp
              refine hK _ _ (.inr ?_) ?_
              · exact HSK.out _ (((Kp.refl _ wr).drew).alloc _)
              clear hK K' hSw
              (try simp only [Act.put, List.setIfInBounds_toArray, List.set_cons_zero, List.set_cons_succ])
              refine wpPlan_run rfl (by rfl) (fun K' hK => ?_)
              (go_simp; go_at_call 21; refine (ref_Digits (k : Int) _ (by omega) (by omega)).mono ?_; rintro e w6 ⟨rfl, hb5⟩; have hb6' : Below wr.heap.size wr w6 := ((Below.refl _ wr).alloc (Nat.le_refl _) _).trans ((below_undrew hb5).mono (by simp)); have hal6 : w6.heap[wr.heap.size]? = some (.cells #[.slice none 0 0, .string ⟨#[]⟩, .bool false, .int .i64 0, .int .i64 0, .int .i64 0] 49 (0, 0)) := (hb5.block _ (by simp)).trans (heap_alloc_new wr _))
              refine hK _ _ (.inr ?_) ?_
              · exact HSK.out _ (Kp.of_below hb6' (fun _ hk _ => hk))
              clear hK K'
              (try simp only [Act.put, List.setIfInBounds_toArray, List.set_cons_zero, List.set_cons_succ])
              refine wpPlan_run rfl (by rfl) (fun K' hK => ?_)
              go_simp
              refine hK _ _ (.inr ?_) ?_
              · exact HSK.out _ (Kp.of_below hb6' (fun _ hk _ => hk))
              clear hK K'
              (try simp only [Act.put, List.setIfInBounds_toArray, List.set_cons_zero, List.set_cons_succ])
              refine wpPlan_run rfl (by rfl) (fun K' hK => ?_)
              go_simp
              refine hK _ _ (.inr ?_) ?_
              · exact HSK.out _ (Kp.of_below hb6' (fun _ hk _ => hk))
              clear hK K'
              (try simp only [Act.put, List.setIfInBounds_toArray, List.set_cons_zero, List.set_cons_succ])
              refine wpPlan_run rfl (by rfl) (fun K' hK => ?_)
              go_simp
              refine hK _ _ (.inr ?_) ?_
              · exact HSK.out _ ((Kp.of_below hb6' (fun _ hk _ => hk)).alloc _)
              clear hK K'
              (try simp only [Act.put, List.setIfInBounds_toArray, List.set_cons_zero, List.set_cons_succ])
              refine wpPlan_run rfl (by rfl) (fun K' hK => ?_)
              (refine wp_append_lies _ _ _ _ (by rfl) W.heap.size 52 ir0 _ 3 48 Tryd.underlying27 hir0 hrz0 hrz1 hrz2 rfl (by decide) _ _ _ (by rfl) ((ownsRow_below HO.out hb6').alloc _) ⟨w6.heap.size, 0, none⟩ 1 1 (ruleC (.slice (some ⟨wr.heap.size, 0, none⟩) 1 1) ⟨97 :: Lib.itoa (k : Int), [Sp.emptyAlt], 0⟩) (by rfl) (by rfl) (World.news_of_block (cs := #[.string ⟨(97 :: Lib.itoa (k : Int)).toArray⟩, .slice (some ⟨wr.heap.size, 0, none⟩) 1 1, .int .i64 0]) (t := 52) (fr := (0, 0)) (heap_alloc_new w6 _)) (by simp [Value.oneCell', ruleC]) (by omega) (by unfold maxLen; omega) (by omega) (by have q1 := hb6'.size; have q2 := HWS.out; (try simp only [World.size_alloc] at q1); simp only [World.size_alloc]; omega) _ rfl ?_; intro g2 c2 w8 hown2 hgrow2 hat2 hlt2; have hk8 : Kp (fun b => b = bs) wr w8 := (((Kp.of_below hb6' (fun _ hk _ => hk)) : Kp (fun b => b = bs) wr w6).alloc _).grown hgrow2 (fun c hc hs => HNB.out c hc hs); have hk9 : Kp (fun b => b < W.heap.size) wr w8 := (((Kp.of_below hb6' (fun _ hk _ => hk)) : Kp (fun b => b < W.heap.size) wr w6).alloc _).grown hgrow2 (fun c hc hs => HLO.out c hc hs); have kg : KpT (fun t => t ≠ 52) w6 w8 := (KpT.below ((Below.refl _ w6).alloc (Nat.le_refl _) _)).trans (KpT.grown ((ownsRow_below HO.out hb6').alloc _) hgrow2); have kt8 : KpT (fun t => t ≠ 52) wr w8 := (KpT.below hb6').trans kg; have hal8 := kg _ _ _ _ hal6 (by decide))
              refine hK _ _ (.inr ?_) ?_
              · exact HSK.out _ hk8
              clear hK K'
              (try simp only [Act.put, List.setIfInBounds_toArray, List.set_cons_zero, List.set_cons_succ])
              refine wpPlan_run rfl (by rfl) (fun K' hK => ?_)
              go_simp
              refine hK _ _ (.inr ?_) ?_
              · exact HSK.out _ hk8
              clear hK K'
              (try simp only [Act.put, List.setIfInBounds_toArray, List.set_cons_zero, List.set_cons_succ])
              refine wpPlan_run rfl (by rfl) (fun K' hK => ?_)
              (obtain ⟨⟨z1, z2⟩, hl8⟩ := HSK.out _ hk8; go_simp)
              refine hK _ _ (.inl rfl) ?_
              clear hK K'
              (try simp only [Act.put, List.setIfInBounds_toArray, List.set_cons_zero, List.set_cons_succ])
              refine wpPlan_done ?_
              go_wp2_with fail
              go_meet
              exact ⟨_, HST.out.step HK1.out HCH.out hk8 hk9 kt8 hal8 HWS.out hown2 rfl⟩
          case rest =>
            obtain ⟨rv2, hst2⟩ := hcut
            have HST2 := Lib.hid hst2
            clear hst2
            go_wp2_with fail
            go_roundg (m + 1 - (k + 1))
            case measure => omega
            case rel =>
              exact ⟨k + 1, rv2, by omega, by omega, rfl, by go_num, HST2.out⟩
        · obtain rfl : k = m + 1 := by omega
          have hkI : ¬ ((m : Int) + 1 < (m : Int) + 1) := by omega
          have hkI2 : ¬ (((m + 1 : Nat) : Int) < (m : Int) + 1) := by omega
          have h1 := HST.out.st
          have h2 := HST.out.bel
          have HH1 := Lib.hid h1; have HH2 := Lib.hid h2
          clear hst hk hkn hk1 h1 h2
          by_cases h23 : m + 1 ≤ 23
          · have h23' : (m : Int) + 1 ≤ 23 := by omega
            have H23 := Lib.hid h23
            clear h23
            go_wp2_with fail
            go_meet
            have h1 := HH1.out; have h2 := HH2.out
            exact ⟨by rw [show Sp.limOk 1 (m + 1) = true from decide_eq_true H23.out], ⟨_, _, h1⟩, h2⟩
          · have h23' : ¬ (m : Int) + 1 ≤ 23 := by omega
            have H23 := Lib.hid h23
            clear h23
            go_wp2_with fail
            go_meet
            have h1 := HH1.out; have h2 := HH2.out
            exact ⟨by rw [show Sp.limOk 1 (m + 1) = false from decide_eq_false H23.out], ⟨_, _, h1⟩, h2⟩
    · go_wp2_with fail
      go_loopg [11] m (fun q iv wr => ∃ (k : Nat) (av : Value), 1 ≤ k ∧ k ≤ m + 1 ∧ q = m + 1 - k ∧ iv = .int .i64 k ∧ LimA W wr bs br k av)
      case atStart =>
        refine ⟨1, .slice (some ⟨ba, 0, none⟩) 1 1, by omega, by omega, by omega, rfl, HP4.out.src, HP4.out.rule, ⟨fun _ => .slice none 0 0, owns_block HP4.out.alt HP4.out.ge.2.2 rfl (by decide), fun i a ha => ?_⟩, HBW.out, HP4.out.ge.1, HP4.out.ge.2.1⟩
        obtain ⟨rfl, rfl⟩ := one_at ha
        exact ⟨0, World.ownsRow_nil _ _ _ _⟩
      case round =>
        obtain ⟨k, av, hk1, hk, rfl, rfl, hst⟩ := hrel
        have HST := Lib.hid hst
        by_cases hkn : k < m + 1
        · obtain ⟨f, ho, hch⟩ := hst.alts
          rw [List.length_replicate] at ho
          obtain ⟨aa, ac, rfl⟩ := ownsRowS_some ho
          have HO := Lib.hid ho; have HCH := Lib.hid hch
          have HWS := Lib.hid hst.bel.size
          obtain ⟨ia0, hia0, haz0, haz1, haz2⟩ := info_parts info_altE
          have HSK : Hid (∀ w', Kp (fun b => b = bs ∨ b = br) wr w' → ((w'.cell? ⟨bs, 2, none⟩ = some (.slice (some ⟨br, 0, none⟩) 1 1)) ∧ (w'.cell? ⟨br, 1, none⟩ = some (.slice aa k ac) ∧ w'.frozen? ⟨br, 1, none⟩ = false) ∧ bs < w'.heap.size ∧ br < w'.heap.size)) := Lib.hid (fun w' k => by
            have q0 := k.at HST.out.src (.inl rfl); have q1 := k.at HST.out.rule (.inr rfl)
            exact ⟨cell_at (i := 2) q0, ⟨cell_at (i := 1) q1, frozen_at (i := 1) q1⟩, lt_at q0, lt_at q1⟩)
          have HNB : Hid (∀ c, (Value.slice aa k ac).ownBlock = some c → ¬ (c = bs ∨ c = br)) := Lib.hid (fun c hc hs => by
            rcases hs with rfl | rfl
            · exact row_ne_cells HO.out HST.out.src (by decide) _ hc rfl
            · exact row_ne_cells HO.out HST.out.rule (by decide) _ hc rfl)
          have hkI : (k : Int) < (m : Int) + 1 := by omega
          clear hst ho hch
          go_upto_region 33 with fail
          refine wp_region_plan (fun w' : World => ((w'.cell? ⟨bs, 2, none⟩ = some (.slice (some ⟨br, 0, none⟩) 1 1)) ∧ (w'.cell? ⟨br, 1, none⟩ = some (.slice aa k ac) ∧ w'.frozen? ⟨br, 1, none⟩ = false) ∧ bs < w'.heap.size ∧ br < w'.heap.size)) [12] (.take 0 (.take 1 (.take 2 (.take 3 (.take 4 (.take 5 (.take 6 (.take 7 (.one 8 (.one 9 (.one 10 (.one 11 (.one 12 (.done)))))))))))))) (by kernel_rfl) (by kernel_rfl) (fun _ _ _ _ h => h) ?_
          have hSw := HSK.out _ ((Kp.refl _ wr).drew)
          refine wpPlan_take (v := ?vc4) rfl hSw (by rfl) ?yc4 ?_
          case yc4 => (intro w hSx; (try dsimp only at hSx); go_simp; first | done | with_reducible rfl | rfl)
          (try simp only [Act.put, List.setIfInBounds_toArray, List.set_cons_zero, List.set_cons_succ])
          refine wpPlan_take (v := ?vc5) rfl hSw (by rfl) ?yc5 ?_
          case yc5 => (intro w hSx; (try dsimp only at hSx); go_simp; first | done | with_reducible rfl | rfl)
          (try simp only [Act.put, List.setIfInBounds_toArray, List.set_cons_zero, List.set_cons_succ])
          refine wpPlan_take (v := ?vc6) rfl hSw (by rfl) ?yc6 ?_
          case yc6 => (intro w hSx; (try dsimp only at hSx); go_simp; first | done | with_reducible rfl | rfl)
          (try simp only [Act.put, List.setIfInBounds_toArray, List.set_cons_zero, List.set_cons_succ])
          refine wpPlan_take (v := ?vc7) rfl hSw (by rfl) ?yc7 ?_
          case yc7 => (intro w hSx; (try dsimp only at hSx); go_simp; first | done | with_reducible rfl | rfl)
          (try simp only [Act.put, List.setIfInBounds_toArray, List.set_cons_zero, List.set_cons_succ])
          refine wpPlan_take (v := ?vc8) rfl hSw (by rfl) ?yc8 ?_
          case yc8 => (intro w hSx; (try dsimp only at hSx); go_simp; first | done | with_reducible rfl | rfl)
          (try simp only [Act.put, List.setIfInBounds_toArray, List.set_cons_zero, List.set_cons_succ])
          refine wpPlan_take (v := ?vc9) rfl hSw (by rfl) ?yc9 ?_
          case yc9 => (intro w hSx; (try dsimp only at hSx); go_simp; first | done | with_reducible rfl | rfl)
          (try simp only [Act.put, List.setIfInBounds_toArray, List.set_cons_zero, List.set_cons_succ])
          refine wpPlan_take (v := ?vc10) rfl hSw (by rfl) ?yc10 ?_
          case yc10 => (intro w hSx; (try dsimp only at hSx); go_simp; first | done | with_reducible rfl | rfl)
          (try simp only [Act.put, List.setIfInBounds_toArray, List.set_cons_zero, List.set_cons_succ])
          refine wpPlan_take (v := ?vc11) rfl hSw (by rfl) ?yc11 ?_
          case yc11 => (intro w hSx; (try dsimp only at hSx); go_simp; first | done | with_reducible rfl | rfl)
          (try simp only [Act.put, List.setIfInBounds_toArray, List.set_cons_zero, List.set_cons_succ])
          refine wpPlan_run rfl (by rfl) (fun K' hK => ?_)
          go_simp
          refine hK _ _ (.inr ?_) ?_
          · exact HSK.out _ (((Kp.refl _ wr).drew).alloc _)
          clear hK K' hSw
          (try simp only [Act.put, List.setIfInBounds_toArray, List.set_cons_zero, List.set_cons_succ])
          refine wpPlan_run rfl (by rfl) (fun K' hK => ?_)
          (refine wp_append_lies _ _ _ _ (by rfl) W.heap.size 49 ia0 _ 6 72 Tryd.underlying50 hia0 haz0 haz1 haz2 rfl (by decide) _ _ _ (by rfl) (HO.out.alloc _) ⟨wr.heap.size, 0, none⟩ 1 1 (altC (.slice none 0 0) Sp.emptyAlt) (by rfl) (by rfl) (World.news_of_block (cs := #[.slice none 0 0, .string ⟨#[]⟩, .bool false, .int .i64 0, .int .i64 0, .int .i64 0]) (t := 49) (fr := (0, 0)) (heap_alloc_new wr _)) (by simp [Value.oneCell', altC, Sp.emptyAlt, symC]) (by omega) (by unfold maxLen; omega) (by omega) (by have := HWS.out; show W.heap.size ≤ (World.alloc wr _).heap.size; rw [World.size_alloc]; omega) _ rfl ?_; intro g2 c2 w8 hown2 hgrow2 hat2 hlt2; replace hgrow2 : (wr.alloc (.cells #[.slice none 0 0, .string ⟨#[]⟩, .bool false, .int .i64 0, .int .i64 0, .int .i64 0] 49)).grownBy w8 (Value.slice aa k ac).ownBlock := ⟨hgrow2.os, hgrow2.tape, hgrow2.output, hgrow2.size, hgrow2.block⟩; have hk8 : Kp (fun b => b = bs ∨ b = br) wr w8 := ((Kp.refl _ wr).alloc _).grown hgrow2 (fun k hk hs => HNB.out k hk hs))
          refine hK _ _ (.inr ?_) ?_
          · exact HSK.out _ hk8
          clear hK K'
          (try simp only [Act.put, List.setIfInBounds_toArray, List.set_cons_zero, List.set_cons_succ])
          refine wpPlan_run rfl (by rfl) (fun K' hK => ?_)
          (obtain ⟨_, _, _, hl8⟩ := HSK.out _ hk8; go_simp)
          refine hK _ _ (.inr ?_) ?_
          · exact HSK.out _ hk8
          clear hK K'
          (try simp only [Act.put, List.setIfInBounds_toArray, List.set_cons_zero, List.set_cons_succ])
          refine wpPlan_run rfl (by rfl) (fun K' hK => ?_)
          go_simp
          refine hK _ _ (.inr ?_) ?_
          · exact HSK.out _ hk8
          clear hK K'
          (try simp only [Act.put, List.setIfInBounds_toArray, List.set_cons_zero, List.set_cons_succ])
          refine wpPlan_run rfl (by rfl) (fun K' hK => ?_)
          (obtain ⟨_, ⟨z1, z2⟩, _, hl8⟩ := HSK.out _ hk8; go_simp)
          refine hK _ _ (.inl rfl) ?_
          clear hK K'
          (try simp only [Act.put, List.setIfInBounds_toArray, List.set_cons_zero, List.set_cons_succ])
          refine wpPlan_done ?_
          go_wp2_with fail
          go_roundg (m + 1 - (k + 1))
          case measure => omega
          case rel =>
            refine ⟨k + 1, .slice (some ⟨g2, 0, none⟩) (k + 1) c2, by omega, by omega, rfl, by go_num, ?_⟩
            have kt8 : KpT (fun t => t ≠ 49) wr w8 := (KpT.below ((Below.refl _ wr).alloc (Nat.le_refl _) _)).trans (KpT.grown (HO.out.alloc _) hgrow2)
            have hk9 : Kp (fun b => b < W.heap.size) wr w8 := ((Kp.refl _ wr).alloc _).grown hgrow2 (fun c hc hs => Nat.not_lt.2 (HO.out.lt c hc).1 hs)
            have hne : bs ≠ br := by
              rintro rfl
              have := HST.out.src.symm.trans HST.out.rule
              simp at this
            have hru := hk8.at HST.out.rule (.inr rfl)
            have hal : AltsOwn W.heap.size w8 (.slice (some ⟨g2, 0, none⟩) (k + 1) c2) (List.replicate (k + 1) Sp.emptyAlt) := by
              rw [List.replicate_succ']
              refine OwnR.snoc (u := .slice none 0 0) HCH.out ?_ (fun u a h => partsOwn_kp kt8 (by decide) u a h) ⟨0, World.ownsRow_nil _ _ _ _⟩
              rw [List.length_replicate]
              exact hown2
            have ktr : KpT (fun t => t ≠ 52) w8 (w8.setCell ⟨br, 1, none⟩ (.slice (some ⟨g2, 0, none⟩) (k + 1) c2)) := KpT.setCell (fun _ _ _ _ h _ => h) hru (by simp) _
            exact ⟨(Below.heap_setCell _ _ _ _ hne).trans (hk8.at HST.out.src (.inl rfl)), heap_setCell_at hru, alts_kp hal ktr (by decide) (by decide), HST.out.bel.trans (Kp.below (hk9.setCell (p := ⟨br, 1, none⟩) (by have := HST.out.ge.2; simp only; omega) _) HST.out.bel.size (fun b hb => hb)), HST.out.ge⟩
        · obtain rfl : k = m + 1 := by omega
          have hkI : ¬ ((m : Int) + 1 < (m : Int) + 1) := by omega
          have hkI2 : ¬ (((m + 1 : Nat) : Int) < (m : Int) + 1) := by omega
          clear hst hk hkn hk1
          by_cases h59 : m + 1 ≤ 59
          · have h59' : (m : Int) + 1 ≤ 59 := by omega
            have H59 := Lib.hid h59
            clear h59
            go_wp2_with fail
            go_meet
            exact ⟨by rw [show Sp.limOk 2 (m + 1) = true from decide_eq_true H59.out], ⟨_, _, HST.out.two⟩, HST.out.bel⟩
          · have h59' : ¬ (m : Int) + 1 ≤ 59 := by omega
            have H59 := Lib.hid h59
            clear h59
            go_wp2_with fail
            go_meet
            exact ⟨by rw [show Sp.limOk 2 (m + 1) = false from decide_eq_false H59.out], ⟨_, _, HST.out.two⟩, HST.out.bel⟩
    · go_wp2_with fail
      go_loopg [12, 13] (m + 1) (fun q pv iv wr => ∃ (k : Nat), k ≤ m + 1 ∧ q = m + 1 - k ∧ iv = .int .i64 k ∧ LimP W wr bs br ba k pv)
      case atStart =>
        exact ⟨0, by omega, rfl, rfl, HP4.out, World.ownsRow_nil _ _ _ _, HBW.out⟩
      case round =>
        obtain ⟨k, hk, rfl, rfl, hst⟩ := hrel
        have HST := Lib.hid hst
        obtain ⟨pa, pc, rfl⟩ := ownsRowS_some hst.parts
        by_cases hkn : k < m + 1
        · have HO := Lib.hid hst.parts
          have HWS := Lib.hid hst.bel.size
          obtain ⟨ip0, hip0, hpz0, hpz1, hpz2⟩ := info_parts info_partE
          have HNB : Hid (∀ c, (Value.slice pa k pc).ownBlock = some c → ¬ (c = bs ∨ c = br ∨ c = ba)) := Lib.hid (fun c hc hs => by
            rcases hs with rfl | rfl | rfl
            · exact row_ne_cells HO.out HST.out.st.src (by decide) _ hc rfl
            · exact row_ne_cells HO.out HST.out.st.rule (by decide) _ hc rfl
            · exact row_ne_cells HO.out HST.out.st.alt (by decide) _ hc rfl)
          have hkI : (k : Int) < (m : Int) + 1 := by omega
          clear hst
          go_wp2_with fail
          refine (law9_name [97] 0 _).mono ?_
          rintro e w5 ⟨rfl, hb5⟩
          go_wp2_with fail
          refine (law9_part [97] false 0 0 _).mono ?_
          rintro e w6 ⟨rfl, hb6⟩
          have HB6 : Hid (Below wr.heap.size wr w6) := Lib.hid (hb5.trans (hb6.mono hb5.size))
          clear hb5 hb6
          go_wp2_with (at_builtin; refine wpList_append_lies _ rfl _ _ 47 rfl W.heap.size 46 ip0 _ 6 64 Tryd.underlying47 hip0 hpz0 hpz1 hpz2 rfl (by decide) _ _ _ rfl ((ownsRow_below HO.out HB6.out).alloc _) ⟨w6.heap.size, 0, none⟩ 1 1 (partC ⟨⟨[97], false, 0, 0⟩, [], 0⟩) rfl rfl (World.news_of_block (cs := #[.string ⟨#[97]⟩, .bool false, .int .i64 0, .int .i64 0, .string ⟨#[]⟩, .int .i64 0]) (t := 46) (fr := (0, 0)) (heap_alloc_new w6 _)) (by simp [Value.oneCell', partC, symC]) (by omega) (by unfold maxLen; omega) (by omega) (by have := HB6.out.size; have := HWS.out; simp only [World.size_alloc]; omega) _ rfl ?_; intro g2 c2' w8 hown2 hgrow2 hat2 hlt2; have HGR := Lib.hid hgrow2; have HOW := Lib.hid hown2; clear hgrow2 hown2 hat2)
          go_roundg (m + 1 - (k + 1))
          case measure => omega
          case rel =>
            have hk8 : Kp (fun b => b = bs ∨ b = br ∨ b = ba) wr w8 := (((Kp.of_below HB6.out (fun _ hk _ => hk)) : Kp (fun b => b = bs ∨ b = br ∨ b = ba) wr w6).alloc _).grown HGR.out (fun c hc hs => HNB.out c hc hs)
            have hk9 : Kp (fun b => b < W.heap.size) wr w8 := (((Kp.of_below HB6.out (fun _ hk _ => hk)) : Kp (fun b => b < W.heap.size) wr w6).alloc _).grown HGR.out (fun c hc hs => Nat.not_lt.2 (HO.out.lt c hc).1 hs)
            refine ⟨k + 1, by omega, rfl, by go_num, HST.out.st.kp0 hk8, ?_, HST.out.bel.trans (Kp.below hk9 HST.out.bel.size (fun b hb => hb))⟩
            rw [List.replicate_succ', List.map_append, List.flatten_append]
            simp only [List.map_cons, List.map_nil, List.flatten_cons, List.flatten_nil, List.append_nil]
            exact HOW.out
        · obtain rfl : k = m + 1 := by omega
          have hkI : ¬ ((m : Int) + 1 < (m : Int) + 1) := by omega
          have hkI2 : ¬ (((m + 1 : Nat) : Int) < (m : Int) + 1) := by omega
          have HWS := Lib.hid hst.bel.size
          obtain ⟨ia0, hia0, haz0, haz1, haz2⟩ := info_parts info_altE
          have HOA := Lib.hid (owns_block (B := W.heap.size) (size := 6) (n := 1) hst.st.alt hst.st.ge.2.2 rfl (by decide))
          have HSK : Hid (∀ w', Kp (fun b => b = bs ∨ b = br) wr w' → ((w'.cell? ⟨bs, 2, none⟩ = some (.slice (some ⟨br, 0, none⟩) 1 1)) ∧ (w'.cell? ⟨br, 1, none⟩ = some (.slice (some ⟨ba, 0, none⟩) 1 1) ∧ w'.frozen? ⟨br, 1, none⟩ = false) ∧ bs < w'.heap.size ∧ br < w'.heap.size)) := Lib.hid (fun w' k => by
            have q0 := k.at HST.out.st.src (.inl rfl); have q1 := k.at HST.out.st.rule (.inr rfl)
            exact ⟨cell_at (i := 2) q0, ⟨cell_at (i := 1) q1, frozen_at (i := 1) q1⟩, lt_at q0, lt_at q1⟩)
          have HNE : Hid (¬ (ba = bs ∨ ba = br)) := Lib.hid (by
            rintro (rfl | rfl)
            · have := HST.out.st.src.symm.trans HST.out.st.alt
              simp at this
            · have := HST.out.st.rule.symm.trans HST.out.st.alt
              simp at this)
          clear hst hk hkn
          go_upto_region 13 with fail
          refine wp_region_plan (fun w' : World => ((w'.cell? ⟨bs, 2, none⟩ = some (.slice (some ⟨br, 0, none⟩) 1 1)) ∧ (w'.cell? ⟨br, 1, none⟩ = some (.slice (some ⟨ba, 0, none⟩) 1 1) ∧ w'.frozen? ⟨br, 1, none⟩ = false) ∧ bs < w'.heap.size ∧ br < w'.heap.size)) [13] (.take 0 (.take 1 (.take 2 (.take 3 (.take 4 (.take 5 (.take 6 (.take 7 (.take 8 (.one 9 (.one 10 (.one 11 (.one 12 (.one 13 (.done))))))))))))))) (by kernel_rfl) (by kernel_rfl) (fun _ _ _ _ h => h) ?_
          have hSw := HSK.out _ ((Kp.refl _ wr).drew)
          refine wpPlan_take (v := ?ve17) rfl hSw (by rfl) ?ye17 ?_
          case ye17 => (intro w hSx; (try dsimp only at hSx); go_simp; first | done | with_reducible rfl | rfl)
          (try simp only [Act.put, List.setIfInBounds_toArray, List.set_cons_zero, List.set_cons_succ])
          refine wpPlan_take (v := ?ve18) rfl hSw (by rfl) ?ye18 ?_
          case ye18 => (intro w hSx; (try dsimp only at hSx); go_simp; first | done | with_reducible rfl | rfl)
          (try simp only [Act.put, List.setIfInBounds_toArray, List.set_cons_zero, List.set_cons_succ])
          refine wpPlan_take (v := ?ve19) rfl hSw (by rfl) ?ye19 ?_
          case ye19 => (intro w hSx; (try dsimp only at hSx); go_simp; first | done | with_reducible rfl | rfl)
          (try simp only [Act.put, List.setIfInBounds_toArray, List.set_cons_zero, List.set_cons_succ])
          refine wpPlan_take (v := ?ve20) rfl hSw (by rfl) ?ye20 ?_
          case ye20 => (intro w hSx; (try dsimp only at hSx); go_simp; first | done | with_reducible rfl | rfl)
          (try simp only [Act.put, List.setIfInBounds_toArray, List.set_cons_zero, List.set_cons_succ])
          refine wpPlan_take (v := ?ve21) rfl hSw (by rfl) ?ye21 ?_
          case ye21 => (intro w hSx; (try dsimp only at hSx); go_simp; first | done | with_reducible rfl | rfl)
          (try simp only [Act.put, List.setIfInBounds_toArray, List.set_cons_zero, List.set_cons_succ])
          refine wpPlan_take (v := ?ve22) rfl hSw (by rfl) ?ye22 ?_
          case ye22 => (intro w hSx; (try dsimp only at hSx); go_simp; first | done | with_reducible rfl | rfl)
          (try simp only [Act.put, List.setIfInBounds_toArray, List.set_cons_zero, List.set_cons_succ])
          refine wpPlan_take (v := ?ve23) rfl hSw (by rfl) ?ye23 ?_
          case ye23 => (intro w hSx; (try dsimp only at hSx); go_simp; first | done | with_reducible rfl | rfl)
          (try simp only [Act.put, List.setIfInBounds_toArray, List.set_cons_zero, List.set_cons_succ])
          refine wpPlan_take (v := ?ve24) rfl hSw (by rfl) ?ye24 ?_
          case ye24 => (intro w hSx; (try dsimp only at hSx); go_simp; first | done | with_reducible rfl | rfl)
          (try simp only [Act.put, List.setIfInBounds_toArray, List.set_cons_zero, List.set_cons_succ])
          refine wpPlan_take (v := ?ve25) rfl hSw (by rfl) ?ye25 ?_
          case ye25 => (intro w hSx; (try dsimp only at hSx); go_simp; first | done | with_reducible rfl | rfl)
          (try simp only [Act.put, List.setIfInBounds_toArray, List.set_cons_zero, List.set_cons_succ])
          refine wpPlan_run rfl (by rfl) (fun K' hK => ?_)
          go_simp
          refine hK _ _ (.inr ?_) ?_
          · exact HSK.out _ (((Kp.refl _ wr).drew).alloc _)
          clear hK K' hSw
          (try simp only [Act.put, List.setIfInBounds_toArray, List.set_cons_zero, List.set_cons_succ])
          refine wpPlan_run rfl (by rfl) (fun K' hK => ?_)
          (refine wp_append_lies _ _ _ _ (by rfl) W.heap.size 49 ia0 _ 6 72 Tryd.underlying50 hia0 haz0 haz1 haz2 rfl (by decide) _ _ _ (by rfl) (HOA.out.alloc _) ⟨wr.heap.size, 0, none⟩ 1 1 (altC (.slice pa (m + 1) pc) ⟨List.replicate (m + 1) ⟨⟨[97], false, 0, 0⟩, [], 0⟩, ⟨[], false, 0, 0⟩, 0⟩) (by rfl) (by rfl) (World.news_of_block (cs := #[.slice pa (m + 1) pc, .string ⟨#[]⟩, .bool false, .int .i64 0, .int .i64 0, .int .i64 0]) (t := 49) (fr := (0, 0)) (heap_alloc_new wr _)) (by simp [Value.oneCell', altC, symC]) (by decide) (by decide) (by decide) (by have := HWS.out; show W.heap.size ≤ (World.alloc wr _).heap.size; rw [World.size_alloc]; omega) _ rfl ?_; intro g2 c2 w8 hown2 hgrow2 hat2 hlt2; replace hgrow2 : (wr.alloc (.cells #[.slice pa (m + 1) pc, .string ⟨#[]⟩, .bool false, .int .i64 0, .int .i64 0, .int .i64 0] 49)).grownBy w8 (Value.slice (some ⟨ba, 0, none⟩) 1 1).ownBlock := ⟨hgrow2.os, hgrow2.tape, hgrow2.output, hgrow2.size, hgrow2.block⟩; have hk8 : Kp (fun b => b = bs ∨ b = br) wr w8 := ((Kp.refl _ wr).alloc _).grown hgrow2 (fun k hk hs => by cases hk; exact HNE.out hs))
          refine hK _ _ (.inr ?_) ?_
          · exact HSK.out _ hk8
          clear hK K'
          (try simp only [Act.put, List.setIfInBounds_toArray, List.set_cons_zero, List.set_cons_succ])
          refine wpPlan_run rfl (by rfl) (fun K' hK => ?_)
          (obtain ⟨_, _, _, hl8⟩ := HSK.out _ hk8; go_simp)
          refine hK _ _ (.inr ?_) ?_
          · exact HSK.out _ hk8
          clear hK K'
          (try simp only [Act.put, List.setIfInBounds_toArray, List.set_cons_zero, List.set_cons_succ])
          refine wpPlan_run rfl (by rfl) (fun K' hK => ?_)
          go_simp
          refine hK _ _ (.inr ?_) ?_
          · exact HSK.out _ hk8
          clear hK K'
          (try simp only [Act.put, List.setIfInBounds_toArray, List.set_cons_zero, List.set_cons_succ])
          refine wpPlan_run rfl (by rfl) (fun K' hK => ?_)
          (obtain ⟨_, ⟨z1, z2⟩, _, hl8⟩ := HSK.out _ hk8; go_simp)
          refine hK _ _ (.inl rfl) ?_
          clear hK K'
          (try simp only [Act.put, List.setIfInBounds_toArray, List.set_cons_zero, List.set_cons_succ])
          refine wpPlan_done ?_
          have hk9 : Kp (fun b => b < W.heap.size) wr w8 := ((Kp.refl _ wr).alloc _).grown hgrow2 (fun c hc hs => by cases hc; exact Nat.not_lt.2 HST.out.st.ge.2.2 hs)
          have kt8 : KpT (fun t => t ≠ 49) wr w8 := (KpT.below ((Below.refl _ wr).alloc (Nat.le_refl _) _)).trans (KpT.grown (HOA.out.alloc _) hgrow2)
          have HDN := Lib.hid (fun w' hw => HST.out.done (w' := w') hk8 hk9 kt8 hown2 hw)
          clear hk8 hk9 kt8 hown2 hgrow2 hat2
          by_cases h8 : m + 1 ≤ 8
          · have h8' : (m : Int) + 1 ≤ 8 := by omega
            have H8 := Lib.hid h8
            clear h8
            go_wp2_with fail
            go_meet
            obtain ⟨h1, h2⟩ := HDN.out _ rfl
            exact ⟨by rw [show Sp.limOk 3 (m + 1) = true from decide_eq_true H8.out], ⟨_, _, h1⟩, h2⟩
          · have h8' : ¬ (m : Int) + 1 ≤ 8 := by omega
            have H8 := Lib.hid h8
            clear h8
            go_wp2_with fail
            go_meet
            obtain ⟨h1, h2⟩ := HDN.out _ rfl
            exact ⟨by rw [show Sp.limOk 3 (m + 1) = false from decide_eq_false H8.out], ⟨_, _, h1⟩, h2⟩
  case rest =>
    obtain ⟨rfl, ⟨dv, rv, hps⟩, hbw⟩ := hcut
    obtain ⟨w, hw⟩ : ∃ w : World, w = wc := ⟨_, rfl⟩
    subst hw
    have q0 := hps.src
    have c0 := cell_at (i := 0) q0; have c1 := cell_at (i := 1) q0; have c2 := cell_at (i := 2) q0; have c3 := cell_at (i := 3) q0
    have lb := lt_at q0
    have hof := gram_Of ⟨[], (Sp.limSrc wh (m + 1)).decls, (Sp.limSrc wh (m + 1)).rules, []⟩ dv rv w (decls_at hps.decls) (rules_at hps.rules) (by rw [← lim_eta]; exact lim_small wh (m + 1) (by omega) (by omega)) (HG.out.up hbw (by have := HG.out.2.1; have := HBS.out; omega))
    have hll := Sp.lim_law wh (m + 1) hwh4 ⟨by omega, by omega⟩
    unfold Sp.limCheck at hll
    simp only at hll
    obtain ⟨⟨G, F⟩, hR⟩ : ∃ R, R = Sp.gramOf ⟨[], (Sp.limSrc wh (m + 1)).decls, (Sp.limSrc wh (m + 1)).rules, []⟩ := ⟨_, rfl⟩
    rw [← hR] at hof
    rw [← lim_eta] at hR
    rw [← hR] at hll
    have HOF := Lib.hid hof; have HBW2 := Lib.hid hbw; have HLL := Lib.hid hll
    clear hof hbw hR q0 hps hll
    go_wp2_with fail
    refine HOF.out.mono ?_
    rintro e w2 ⟨hb2, gv, rfl, hgo⟩
    obtain ⟨B, ta, tc, na, nc, pa, pc, rfl, _⟩ := hgo
    have HEND : Hid (∀ wa, Below w2.heap.size w2 wa → ∀ wb, Below wa.heap.size wa wb → Below W.heap.size W wb) := Lib.hid (fun wa ha wb hb => ((HBW2.out.trans (hb2.mono HBW2.out.size)).trans (ha.mono (Nat.le_trans HBW2.out.size hb2.size))).trans (hb.mono (Nat.le_trans (Nat.le_trans HBW2.out.size hb2.size) ha.size)))
    clear c0 c1 c2 c3 lb hb2
    cases hok : Sp.limOk wh (m + 1) with
    | true =>
      have hll := HLL.out
      rw [hok, if_pos rfl] at hll
      simp only [Bool.and_eq_true, decide_eq_true_eq] at hll
      obtain ⟨he, hp⟩ := hll
      obtain ⟨fe, fa, fn⟩ := F
      simp only at he
      subst he
      have hp2 : (2 : Int) ≤ (G.prods.length : Int) := by omega
      clear hok hp HLL
      rw [show faultV (G, (⟨0, fa, fn⟩ : Sp.Fault)).2 = .agg #[.int .i64 0, .int .i64 fa, .string ⟨fn.toArray⟩] from rfl]
      go_wp2_with fail
      go_ret
      exact ⟨rfl, HEND.out _ (((Below.refl _ w2).alloc (Nat.le_refl _) _).alloc (by simp) _) _ (Below.refl _ _)⟩
    | false =>
      have hll := HLL.out
      rw [hok, if_neg (by simp), decide_eq_true_eq] at hll
      obtain ⟨rfl, rfl⟩ := Prod.mk.inj hll
      clear hok hll HLL
      rw [show Sp.noGram.toks.length = 0 from rfl, show Sp.noGram.nons.length = 0 from rfl, show Sp.noGram.prods.length = 0 from rfl]
      rw [show faultV (Sp.noGram, (⟨4, 0, []⟩ : Sp.Fault)).2 = .agg #[.int .i64 4, .int .i64 0, .string ⟨#[]⟩] from rfl]
      go_wp2_with fail
      refine (ref_EqFaultG 4 0 4 0 [] [] _).mono ?_
      rintro e w3 ⟨rfl, hb3⟩
      rw [show decide (((4 : Int) = 4 ∧ (0 : Int) = 0) ∧ ([] : List UInt8) = []) = true by simp]
      obtain ⟨r0, _⟩ := two_firstc (hb3.mono (by simp))
      have k0 := cell_at (i := 0) r0; have k2 := cell_at (i := 2) r0
      have lk := lt_at r0
      have HB3 := Lib.hid hb3
      clear r0 hb3
      go_wp2_with fail
      go_ret
      exact ⟨rfl, HEND.out _ (((Below.refl _ w2).alloc (Nat.le_refl _) _).alloc (by simp) _) _ HB3.out⟩
end Go.Proofs.YthmimcegiihcnaaDoor
