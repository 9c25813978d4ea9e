/- Layer 8: what the document fixes (wakes). -/
import Derived.Test.YthmimcegiihcnaaDoorDi
import Derived.Test.YthmimcegiihcnaaDoorDk
namespace Go.Proofs.YthmimcegiihcnaaDoor
open Go.RowKit

theorem slAt_block {w : World} {b : Nat} {e : TypeId} (rows : List (List Value)) (size : Nat) (hrows : ∀ r ∈ rows, r.length = size) (h : w.heap[b]? = some (.cells rows.flatten.toArray e (0, 0))) (hm : rows.length ≤ maxLen) : SlAt w (.slice (some ⟨b, 0, none⟩) rows.length rows.length) size rows := by
  have hl : rows.flatten.length = rows.length * size := by
    clear h hm
    induction rows with
    | nil => simp
    | cons r rows ih => rw [List.flatten_cons, List.length_append, ih (fun x hx => hrows x (by simp [hx])), hrows r (by simp), List.length_cons, Nat.succ_mul, Nat.add_comm]
  exact slAt_of_owns (base := 0) (e := e) rows hrows rfl ⟨hl, .inr ⟨b, rows.length, _, rfl, Nat.zero_le _, h, Nat.le_refl _, hm, by simpa using hl, by rw [List.toList_toArray]; exact List.take_of_length_le (by rw [hl]; exact Nat.le_refl _)⟩⟩
/-- A rule of one alternative of one byte in quotes. -/
def oneRule (lf nm : List UInt8) : Sp.Rule := ⟨lf, [⟨[⟨⟨nm, true, 0, 0⟩, [], 0⟩], ⟨[], false, 0, 0⟩, 0⟩], 0⟩
theorem rules_one {w : World} {bp ba br : Nat} {lf nm : List UInt8}
    (hp : w.heap[bp]? = some (.cells #[.string ⟨nm.toArray⟩, .bool true, .int .i64 0, .int .i64 0, .string ⟨#[]⟩, .int .i64 0] 46 (0, 0)))
    (ha : w.heap[ba]? = some (.cells #[.slice (some ⟨bp, 0, none⟩) 1 1, .string ⟨#[]⟩, .bool false, .int .i64 0, .int .i64 0, .int .i64 0] 49 (0, 0)))
    (hr : w.heap[br]? = some (.cells #[.string ⟨lf.toArray⟩, .slice (some ⟨ba, 0, none⟩) 1 1, .int .i64 0] 52 (0, 0))) :
    RulesAt w (.slice (some ⟨br, 0, none⟩) 1 1) [oneRule lf nm] := by
  refine ⟨fun _ => .slice (some ⟨ba, 0, none⟩) 1 1, slAt_block [ruleC (.slice (some ⟨ba, 0, none⟩) 1 1) (oneRule lf nm)] 3 (by intro r hr; simp only [List.mem_singleton] at hr; subst hr; rfl) hr (show 1 ≤ maxLen by decide), ?_⟩
  intro i r hi
  cases i with
  | succ i => simp at hi
  | zero =>
    cases hi
    refine ⟨fun _ => .slice (some ⟨bp, 0, none⟩) 1 1, slAt_block [altC (.slice (some ⟨bp, 0, none⟩) 1 1) ⟨[⟨⟨nm, true, 0, 0⟩, [], 0⟩], ⟨[], false, 0, 0⟩, 0⟩] 6 (by intro r hr; simp only [List.mem_singleton] at hr; subst hr; rfl) ha (show 1 ≤ maxLen by decide), ?_⟩
    intro i a hi
    cases i with
    | succ i => simp [oneRule] at hi
    | zero =>
      cases hi
      exact slAt_block [partC ⟨⟨nm, true, 0, 0⟩, [], 0⟩] 6 (by intro r hr; simp only [List.mem_singleton] at hr; subst hr; rfl) hp (show 1 ≤ maxLen by decide)
theorem decls_none (w : World) : DeclsAt w (.slice none 0 0) [] := ⟨fun _ => .nilFunc, .inl ⟨rfl, none, 0, rfl⟩, by simp⟩
theorem rules_none (w : World) : RulesAt w (.slice none 0 0) [] := ⟨fun _ => .nilFunc, .inl ⟨rfl, none, 0, rfl⟩, by simp⟩
theorem oneRule_ok (lf nm : List UInt8) (h1 : lf.length ≤ 4000) (h2 : nm.length ≤ 4000) (h3 : nm ≠ []) : okRule (oneRule lf nm) ∧ smallRule (oneRule lf nm) ∧ smallR (oneRule lf nm) := by
  refine ⟨⟨h1, by simp [oneRule], ?_⟩, ⟨h1, by simp [oneRule], ?_⟩, ⟨by simp [oneRule], ?_⟩⟩
  · intro a ha
    simp only [oneRule, List.mem_singleton] at ha
    subst ha
    refine ⟨by simp, ?_, fun h => absurd (show true = false from h) (by simp)⟩
    intro p hp
    simp only [List.mem_singleton] at hp
    subst hp
    exact ⟨by simp, fun _ => ⟨h2, fun _ => h3, by simp, by simp⟩⟩
  · intro a ha
    simp only [oneRule, List.mem_singleton] at ha
    subst ha
    refine ⟨by simp, ?_, by simp⟩
    intro p hp
    simp only [List.mem_singleton] at hp
    subst hp
    exact ⟨h2, by simp⟩
  · intro a ha
    simp only [oneRule, List.mem_singleton] at ha
    subst ha
    simp

def wakeSrc : Sp.Source := ⟨[], [], [oneRule [97] [120]], []⟩
def noSrc : Sp.Source := ⟨[], [], [], []⟩
theorem wake_text : Sp.text wakeSrc = [37, 37, 10, 97, 32, 58, 32, 39, 120, 39, 32, 59, 10] := by kernel_rfl
theorem wake_may : Sp.may wakeSrc = true := by kernel_rfl
theorem no_may : Sp.may noSrc = false := by kernel_rfl
theorem no_text : Sp.text noSrc = [] := by kernel_rfl
theorem wake_same : Sp.same wakeSrc wakeSrc = true := by kernel_rfl
theorem wake_diff : Sp.same wakeSrc noSrc = false := by kernel_rfl
theorem wake_small : smallSrc wakeSrc ∧ smallSame wakeSrc := by
  obtain ⟨_, h2, h3⟩ := oneRule_ok [97] [120] (by decide) (by decide) (by simp)
  refine ⟨⟨by decide, by decide, by decide, by decide, by simp [wakeSrc], ?_⟩, ⟨by decide, by decide, by simp [wakeSrc], ?_⟩⟩ <;> (intro r hr; simp only [wakeSrc, List.mem_singleton] at hr; subst hr; assumption)
theorem no_small : smallSrc noSrc ∧ smallSame noSrc := by
  refine ⟨⟨by decide, by decide, by decide, by decide, by simp [noSrc], by simp [noSrc]⟩, ⟨by decide, by decide, by simp [noSrc], by simp [noSrc]⟩⟩

set_option maxRecDepth 100000 in
set_option maxHeartbeats 6400000 in
theorem wakes8 (w : World) (hg : Gl w) :
    Calls Tryd.prog 12 #[] w fun e w' => e = .returned (.bool true) ∧ Below w.heap.size w w' := by
  obtain ⟨w4, hw4⟩ : ∃ w4, w4 = (((w.alloc (.cells #[.string ⟨#[120]⟩, .bool true, .int .i64 0, .int .i64 0, .string ⟨#[]⟩, .int .i64 0] 46)).alloc (.cells #[.slice (some ⟨w.heap.size, 0, none⟩) 1 1, .string ⟨#[]⟩, .bool false, .int .i64 0, .int .i64 0, .int .i64 0] 49)).alloc (.cells #[.string ⟨#[97]⟩, .slice (some ⟨w.heap.size + 1, 0, none⟩) 1 1, .int .i64 0] 52)).alloc (.cells #[.string ⟨#[]⟩, .slice none 0 0, .slice (some ⟨w.heap.size + 1 + 1, 0, none⟩) 1 1, .string ⟨#[]⟩] 29) := ⟨_, rfl⟩
  have hs4 : w4.heap.size = w.heap.size + 4 := by rw [hw4]; simp
  have hb04 : Below w.heap.size w w4 := by rw [hw4]; exact ((((Below.refl _ w).alloc (Nat.le_refl _) _).alloc (by simp) _).alloc (by simp; omega) _).alloc (by simp; omega) _
  have hP : w4.heap[w.heap.size]? = some (.cells #[.string ⟨#[120]⟩, .bool true, .int .i64 0, .int .i64 0, .string ⟨#[]⟩, .int .i64 0] 46 (0, 0)) := by rw [hw4]; exact heap_old (heap_old (heap_old (heap_last w _) _) _) _
  have hA : w4.heap[w.heap.size + 1]? = some (.cells #[.slice (some ⟨w.heap.size, 0, none⟩) 1 1, .string ⟨#[]⟩, .bool false, .int .i64 0, .int .i64 0, .int .i64 0] 49 (0, 0)) := by rw [hw4]; exact heap_old (heap_old (heap_two w _ _) _) _
  have hR : w4.heap[w.heap.size + 1 + 1]? = some (.cells #[.string ⟨#[97]⟩, .slice (some ⟨w.heap.size + 1, 0, none⟩) 1 1, .int .i64 0] 52 (0, 0)) := by
    rw [hw4]
    have h := heap_two (w.alloc (.cells #[.string ⟨#[120]⟩, .bool true, .int .i64 0, .int .i64 0, .string ⟨#[]⟩, .int .i64 0] 46)) (.cells #[.slice (some ⟨w.heap.size, 0, none⟩) 1 1, .string ⟨#[]⟩, .bool false, .int .i64 0, .int .i64 0, .int .i64 0] 49) (.cells #[.string ⟨#[97]⟩, .slice (some ⟨w.heap.size + 1, 0, none⟩) 1 1, .int .i64 0] 52)
    rw [World.size_alloc] at h
    exact heap_old h _
  have hS : w4.heap[w.heap.size + 1 + 1 + 1]? = some (.cells #[.string ⟨#[]⟩, .slice none 0 0, .slice (some ⟨w.heap.size + 1 + 1, 0, none⟩) 1 1, .string ⟨#[]⟩] 29 (0, 0)) := by
    rw [hw4]
    have h := heap_two ((w.alloc (.cells #[.string ⟨#[120]⟩, .bool true, .int .i64 0, .int .i64 0, .string ⟨#[]⟩, .int .i64 0] 46)).alloc (.cells #[.slice (some ⟨w.heap.size, 0, none⟩) 1 1, .string ⟨#[]⟩, .bool false, .int .i64 0, .int .i64 0, .int .i64 0] 49)) (.cells #[.string ⟨#[97]⟩, .slice (some ⟨w.heap.size + 1, 0, none⟩) 1 1, .int .i64 0] 52) (.cells #[.string ⟨#[]⟩, .slice none 0 0, .slice (some ⟨w.heap.size + 1 + 1, 0, none⟩) 1 1, .string ⟨#[]⟩] 29)
    simp only [World.size_alloc] at h
    exact h
  have hRA := rules_one (lf := [97]) (nm := [120]) hP hA hR
  have hg4 := hg.below hb04
  have HTX := Lib.hid (fun W' (hW : Below w4.heap.size w4 W') => (show Calls Tryd.prog 16 #[.agg #[.string ⟨#[]⟩, .slice none 0 0, .slice (some ⟨w.heap.size + 1 + 1, 0, none⟩) 1 1, .string ⟨#[]⟩]] W' (fun e w'' => e = .returned (.string ⟨#[37, 37, 10, 97, 32, 58, 32, 39, 120, 39, 32, 59, 10]⟩) ∧ Below W'.heap.size W' w'') from by
    have h := print_Text wakeSrc (.slice none 0 0) (.slice (some ⟨w.heap.size + 1 + 1, 0, none⟩) 1 1) W' (decls_none W') (hRA.below hW) wake_small.1 (fun _ => ⟨by simp [wakeSrc], by intro r hr; simp only [wakeSrc, List.mem_singleton] at hr; subst hr; exact (oneRule_ok [97] [120] (by decide) (by decide) (by simp)).1⟩) (by rw [wake_text]; decide) (hg4.below hW)
    rw [wake_text] at h
    exact h))
  have HMX := Lib.hid (fun W' (hW : Below w4.heap.size w4 W') => (show Calls Tryd.prog 15 #[.agg #[.string ⟨#[]⟩, .slice none 0 0, .slice (some ⟨w.heap.size + 1 + 1, 0, none⟩) 1 1, .string ⟨#[]⟩]] W' (fun e w'' => e = .returned (.bool true) ∧ Below W'.heap.size W' w'') from by
    have h := print_May wakeSrc (.slice none 0 0) (.slice (some ⟨w.heap.size + 1 + 1, 0, none⟩) 1 1) W' (decls_none W') (hRA.below hW) wake_small.1 (hg4.below hW)
    rw [wake_may] at h
    exact h))
  have HM0 := Lib.hid (fun W' (hW : Below w4.heap.size w4 W') => (show Calls Tryd.prog 15 #[.agg #[.string ⟨#[]⟩, .slice none 0 0, .slice none 0 0, .string ⟨#[]⟩]] W' (fun e w'' => e = .returned (.bool false) ∧ Below W'.heap.size W' w'') from by
    have h := print_May noSrc (.slice none 0 0) (.slice none 0 0) W' (decls_none W') (rules_none W') no_small.1 (hg4.below hW)
    rw [no_may] at h
    exact h))
  have HT0 := Lib.hid (fun W' (hW : Below w4.heap.size w4 W') => (show Calls Tryd.prog 16 #[.agg #[.string ⟨#[]⟩, .slice none 0 0, .slice none 0 0, .string ⟨#[]⟩]] W' (fun e w'' => e = .returned (.string ⟨#[]⟩) ∧ Below W'.heap.size W' w'') from by
    have h := print_Text noSrc (.slice none 0 0) (.slice none 0 0) W' (decls_none W') (rules_none W') no_small.1 (fun h => absurd (no_may.symm.trans h) (by decide)) (by rw [no_text]; decide) (hg4.below hW)
    rw [no_text] at h
    exact h))
  have HSX := Lib.hid (fun W' (hW : Below w4.heap.size w4 W') => (show Calls Tryd.prog 34 #[.agg #[.string ⟨#[]⟩, .slice none 0 0, .slice (some ⟨w.heap.size + 1 + 1, 0, none⟩) 1 1, .string ⟨#[]⟩], .agg #[.string ⟨#[]⟩, .slice none 0 0, .slice (some ⟨w.heap.size + 1 + 1, 0, none⟩) 1 1, .string ⟨#[]⟩]] W' (fun e w'' => e = .returned (.bool true) ∧ Below W'.heap.size W' w'') from by
    have h := print_Same wakeSrc wakeSrc (.slice none 0 0) (.slice (some ⟨w.heap.size + 1 + 1, 0, none⟩) 1 1) (.slice none 0 0) (.slice (some ⟨w.heap.size + 1 + 1, 0, none⟩) 1 1) W' (decls_none W') (hRA.below hW) (decls_none W') (hRA.below hW) wake_small.2 wake_small.2
    rw [wake_same] at h
    exact h))
  have HSD := Lib.hid (fun W' (hW : Below w4.heap.size w4 W') => (show Calls Tryd.prog 34 #[.agg #[.string ⟨#[]⟩, .slice none 0 0, .slice (some ⟨w.heap.size + 1 + 1, 0, none⟩) 1 1, .string ⟨#[]⟩], .agg #[.string ⟨#[]⟩, .slice none 0 0, .slice none 0 0, .string ⟨#[]⟩]] W' (fun e w'' => e = .returned (.bool false) ∧ Below W'.heap.size W' w'') from by
    have h := print_Same wakeSrc noSrc (.slice none 0 0) (.slice (some ⟨w.heap.size + 1 + 1, 0, none⟩) 1 1) (.slice none 0 0) (.slice none 0 0) W' (decls_none W') (hRA.below hW) (decls_none W') (rules_none W') wake_small.2 no_small.2
    rw [wake_diff] at h
    exact h))
  have HW4 := Lib.hid hw4
  have HS := Lib.hid hS
  have HB04 := Lib.hid hb04
  clear hP hA hR hS hRA hg4 hb04 hw4
  go_enter Tryd.func12, Tryd.ntmps12
  go_wp2_with fail
  rw [← HW4.out]
  refine (HTX.out w4 (Below.refl _ _)).mono ?_
  rintro e w5 ⟨rfl, hb5⟩
  have HB5 := Lib.hid hb5
  have hF5 := (HB5.out.block (w.heap.size + 1 + 1 + 1) (by omega)).trans HS.out
  have s50 := cell_at (i := 0) hF5
  have s51 := cell_at (i := 1) hF5
  have s52 := cell_at (i := 2) hF5
  have s53 := cell_at (i := 3) hF5
  have l5 := lt_at hF5
  clear hb5 hF5
  go_wp2_with fail
  refine (HMX.out w5 HB5.out).mono ?_
  rintro e w6 ⟨rfl, hb6⟩
  have HB6 := Lib.hid (HB5.out.trans (hb6.mono HB5.out.size))
  have hF6 := (HB6.out.block (w.heap.size + 1 + 1 + 1) (by omega)).trans HS.out
  have s60 := cell_at (i := 0) hF6
  have s61 := cell_at (i := 1) hF6
  have s62 := cell_at (i := 2) hF6
  have s63 := cell_at (i := 3) hF6
  have l6 := lt_at hF6
  clear hb6 hF6
  go_wp2_with fail
  refine (HM0.out w6 HB6.out).mono ?_
  rintro e w7 ⟨rfl, hb7⟩
  have HB7 := Lib.hid (HB6.out.trans (hb7.mono HB6.out.size))
  have hF7 := (HB7.out.block (w.heap.size + 1 + 1 + 1) (by omega)).trans HS.out
  have s70 := cell_at (i := 0) hF7
  have s71 := cell_at (i := 1) hF7
  have s72 := cell_at (i := 2) hF7
  have s73 := cell_at (i := 3) hF7
  have l7 := lt_at hF7
  clear hb7 hF7
  go_wp2_with fail
  refine (HT0.out w7 HB7.out).mono ?_
  rintro e w8 ⟨rfl, hb8⟩
  have HB8 := Lib.hid (HB7.out.trans (hb8.mono HB7.out.size))
  have hF8 := (HB8.out.block (w.heap.size + 1 + 1 + 1) (by omega)).trans HS.out
  have s80 := cell_at (i := 0) hF8
  have s81 := cell_at (i := 1) hF8
  have s82 := cell_at (i := 2) hF8
  have s83 := cell_at (i := 3) hF8
  have l8 := lt_at hF8
  clear hb8 hF8
  go_wp2_with fail
  refine (HSX.out w8 HB8.out).mono ?_
  rintro e w9 ⟨rfl, hb9⟩
  have HB9 := Lib.hid (HB8.out.trans (hb9.mono HB8.out.size))
  have hF9 := (HB9.out.block (w.heap.size + 1 + 1 + 1) (by omega)).trans HS.out
  have s90 := cell_at (i := 0) hF9
  have s91 := cell_at (i := 1) hF9
  have s92 := cell_at (i := 2) hF9
  have s93 := cell_at (i := 3) hF9
  have l9 := lt_at hF9
  clear hb9 hF9
  go_wp2_with fail
  refine (HSD.out w9 HB9.out).mono ?_
  rintro e w10 ⟨rfl, hb10⟩
  have HB10 := Lib.hid (HB9.out.trans (hb10.mono HB9.out.size))
  have hF10 := (HB10.out.block (w.heap.size + 1 + 1 + 1) (by omega)).trans HS.out
  have s100 := cell_at (i := 0) hF10
  have s101 := cell_at (i := 1) hF10
  have s102 := cell_at (i := 2) hF10
  have s103 := cell_at (i := 3) hF10
  have l10 := lt_at hF10
  clear hb10 hF10
  go_wp2_with fail
  go_ret
  exact ⟨rfl, HB04.out.trans (HB10.out.mono (by omega))⟩
end Go.Proofs.YthmimcegiihcnaaDoor
