import Derived.Test.YtddnomjfcbplpaaGreatDoorZ29
import Derived.Test.YtddnomjfcbplpaaGreatDoorZ30
namespace Go.Proofs.YtddnomjfcbplpaaGreatDoor
open Go.RowKit Go.Maps

def symP : Sp.Sym := ⟨[43], true, 0, 0⟩
def partE : Sp.Part := ⟨⟨[101], false, 0, 0⟩, [], 0⟩
def partP : Sp.Part := ⟨⟨[43], true, 0, 0⟩, [], 0⟩
def partX : Sp.Part := ⟨⟨[120], true, 0, 0⟩, [], 0⟩
def altA : Sp.Alt := ⟨[partE, partP, partE], ⟨[], false, 0, 0⟩, 0⟩
def altB : Sp.Alt := ⟨[partX], ⟨[], false, 0, 0⟩, 0⟩
def wakeG : Sp.Gram := ⟨[⟨[36, 101, 110, 100], false, 0, 0, 0, []⟩, ⟨Sp.jE, false, -1, 0, 0, []⟩, ⟨[36, 117, 110, 107], false, -1, 0, 0, []⟩, ⟨[43], true, 43, 1, 1, []⟩, ⟨[120], true, 120, 0, 0, []⟩], [⟨[36, 97, 99, 99, 101, 112, 116], []⟩, ⟨[101], []⟩], [⟨0, [1001], -1, [], [], 0⟩, ⟨1, [1001, 3, 1001], 3, [], [1001, 3, 1001], 0⟩, ⟨1, [4], 4, [], [4], 0⟩], [], []⟩
theorem wakeGram_small : xN Sp.vA := by
 refine ⟨by decide, by decide, by decide, by decide, ?_, ?_⟩
 ·intro d hd
  simp only [Sp.vA, List.mem_singleton] at hd; subst hd; refine ⟨by simp, by simp, ?_⟩; intro s hs; simp only [List.mem_singleton] at hs; subst hs; show (1 : Nat) ≤ 4000
  omega
 ·intro r hr
  simp only [Sp.vA, List.mem_singleton] at hr; subst hr; refine ⟨by simp, by simp, ?_⟩; intro a ha; simp only [List.mem_cons, List.not_mem_nil, or_false] at ha; rcases ha with rfl | rfl
  ·refine ⟨by simp, ?_, by simp⟩
   intro p hp; simp only [List.mem_cons, List.not_mem_nil, or_false] at hp; rcases hp with rfl | rfl | rfl <;> exact ⟨by simp, by simp⟩
  ·refine ⟨by simp, ?_, by simp⟩
   intro p hp; simp only [List.mem_cons, List.not_mem_nil, or_false] at hp; subst hp; exact ⟨by simp, by simp⟩
theorem ofPost_none {W w' : World} {f : Sp.Fault} {e : Ending} (h : OfPost W (Sp.xG, f) e w') : Below W.heap.size W w' ∧ ∃ ta tc na nc pa pc, e = .returned (.tuple #[.agg #[.slice ta 0 tc, .slice na 0 nc, .slice pa 0 pc, .string ⟨#[]⟩, .string ⟨#[]⟩], .agg #[.int .i64 f.err, .int .i64 f.at_, .string ⟨f.name.toArray⟩]]) := by
 obtain ⟨hb, gv, he, B, ta, tc, na, nc, pa, pc, rfl, _⟩ := h; exact ⟨hb, ta, tc, na, nc, pa, pc, he⟩
theorem none_small : xN ⟨[], [], [], []⟩ := ⟨by decide, by decide, by decide, by decide, by simp, by simp⟩
theorem zBE {w : World} {e : TypeId} (rows : List (List Value)) (size : Nat) (hrows : ∀ r ∈ rows, r.length = size) (hm : rows.length ≤ maxLen) : SlAt (w.alloc (.cells rows.flatten.toArray e)) (.slice (some ⟨w.heap.size, 0, none⟩) rows.length rows.length) size rows :=
 slAt_block rows size hrows (zE w _) hm
theorem one_at {α : Type} {x y : α} {i : Nat} (h : [x][i]? = some y) : i = 0 ∧ x = y := by
 cases i with
 | zero => exact ⟨rfl, by simpa using h⟩
 | succ i => simp at h
theorem two_at {α : Type} {x z y : α} {i : Nat} (h : [x, z][i]? = some y) : (i = 0 ∧ x = y) ∨ (i = 1 ∧ z = y) := by
 rcases i with _ | _ | i
 ·left; exact ⟨rfl, by simpa using h⟩
 ·right; exact ⟨rfl, by simpa using h⟩
 ·simp at h
def wk (B : Nat) : Nat → Value → World → Prop
 | 0, v, _ => v = .agg #[.string ⟨#[43]⟩, .bool true, .int .i64 0, .int .i64 0]
 | 1, v, w => ∃ a c, v = .slice a 1 c ∧ SlAt w (.slice a 1 c) 4 [symC symP]
 | 2, v, w => ∃ a c, v = .agg #[.int .i64 2, .string ⟨#[]⟩, .slice a 1 c, .int .i64 0] ∧ SlAt w (.slice a 1 c) 4 [symC symP]
 | 3, v, w => ∃ a c, v = .slice a 1 c ∧ xD w (.slice a 1 c) Sp.vA.decls
 | 4, v, _ => v = .agg #[.string ⟨#[101]⟩, .bool false, .int .i64 0, .int .i64 0, .string ⟨#[]⟩, .int .i64 0]
 | 5, v, _ => v = .agg #[.string ⟨#[43]⟩, .bool true, .int .i64 0, .int .i64 0, .string ⟨#[]⟩, .int .i64 0]
 | 6, v, _ => v = .agg #[.string ⟨#[101]⟩, .bool false, .int .i64 0, .int .i64 0, .string ⟨#[]⟩, .int .i64 0]
 | 7, v, w => ∃ a c, v = .slice a 3 c ∧ SlAt w (.slice a 3 c) 6 [z6 partE, z6 partP, z6 partE]
 | 8, v, w => ∃ a c, v = .agg #[.slice a 3 c, .string ⟨#[]⟩, .bool false, .int .i64 0, .int .i64 0, .int .i64 0] ∧ SlAt w (.slice a 3 c) 6 [z6 partE, z6 partP, z6 partE]
 | 9, v, _ => v = .agg #[.string ⟨#[120]⟩, .bool true, .int .i64 0, .int .i64 0, .string ⟨#[]⟩, .int .i64 0]
 | 10, v, w => ∃ a c, v = .slice a 1 c ∧ SlAt w (.slice a 1 c) 6 [z6 partX]
 | 11, v, w => ∃ a c, v = .agg #[.slice a 1 c, .string ⟨#[]⟩, .bool false, .int .i64 0, .int .i64 0, .int .i64 0] ∧ SlAt w (.slice a 1 c) 6 [z6 partX]
 | 12, v, w => ∃ a c, v = .slice a 2 c ∧ j4 w (.slice a 2 c) [altA, altB]
 | 13, v, w => ∃ a c, v = .agg #[.string ⟨#[101]⟩, .slice a 2 c, .int .i64 0] ∧ j4 w (.slice a 2 c) [altA, altB]
 | 14, v, w => ∃ a c, v = .slice a 1 c ∧ xA w (.slice a 1 c) Sp.vA.rules
 | 15, v, w => ∃ a c a' c', v = .agg #[.string ⟨#[]⟩, .slice a 1 c, .slice a' 1 c', .string ⟨#[]⟩] ∧ xD w (.slice a 1 c) Sp.vA.decls ∧ xA w (.slice a' 1 c') Sp.vA.rules
 | 16, v, w => ∃ gv, v = .tuple #[gv, j2 ⟨0, 0, []⟩] ∧ qE w gv wakeG
 | 17, v, w => ∃ gv, v = .tuple #[gv, j2 ⟨0, 0, []⟩] ∧ qE w gv wakeG
 | 18, v, w => qE w v wakeG
 | 19, v, _ => v = j2 ⟨0, 0, []⟩
 | 20, v, w => ∃ b, v = .pointer (some ⟨b, 0, none⟩) ∧ B ≤ b ∧ w.heap[b]? = some (.cells #[.slice none 0 0, .slice none 0 0, .slice none 0 0, .string ⟨#[]⟩, .string ⟨#[]⟩] 39 (0, 0))
 | 21, v, w => ∃ b, v = .pointer (some ⟨b, 0, none⟩) ∧ B ≤ b ∧ w.heap[b]? = some (.cells #[.int .i64 0, .int .i64 0, .string ⟨#[]⟩] 52 (0, 0))
 | _, _, _ => True
theorem wk_below {B i : Nat} {v : Value} {w w' : World} (h : wk B i v w) (hb : Below w.heap.size w w') : wk B i v w' := by
 rcases i with _ | _ | _ | _ | _ | _ | _ | _ | _ | _ | _ | _ | _ | _ | _ | _ | _ | _ | _ | _ | _ | _ | i
 ·exact h
 ·obtain ⟨a, c, e, h⟩ := h; exact ⟨a, c, e, h.below hb⟩
 ·obtain ⟨a, c, e, h⟩ := h; exact ⟨a, c, e, h.below hb⟩
 ·obtain ⟨a, c, e, h⟩ := h; exact ⟨a, c, e, h.below hb⟩
 ·exact h
 ·exact h
 ·exact h
 ·obtain ⟨a, c, e, h⟩ := h; exact ⟨a, c, e, h.below hb⟩
 ·obtain ⟨a, c, e, h⟩ := h; exact ⟨a, c, e, h.below hb⟩
 ·exact h
 ·obtain ⟨a, c, e, h⟩ := h; exact ⟨a, c, e, h.below hb⟩
 ·obtain ⟨a, c, e, h⟩ := h; exact ⟨a, c, e, h.below hb⟩
 ·obtain ⟨a, c, e, h⟩ := h; exact ⟨a, c, e, h.below hb⟩
 ·obtain ⟨a, c, e, h⟩ := h; exact ⟨a, c, e, h.below hb⟩
 ·obtain ⟨a, c, e, h⟩ := h; exact ⟨a, c, e, h.below hb⟩
 ·obtain ⟨a, c, a', c', e, h, k⟩ := h; exact ⟨a, c, a', c', e, h.below hb, k.below hb⟩
 ·obtain ⟨g, e, h⟩ := h; exact ⟨g, e, h.below hb⟩
 ·obtain ⟨g, e, h⟩ := h; exact ⟨g, e, h.below hb⟩
 ·exact qE.below h hb
 ·exact h
 ·obtain ⟨b, e, h1, h⟩ := h; exact ⟨b, e, h1, (hb.block _ (zC h)).trans h⟩
 ·obtain ⟨b, e, h1, h⟩ := h; exact ⟨b, e, h1, (hb.block _ (zC h)).trans h⟩
 ·exact h
def wkSlot (i : Nat) : Nat := ([15, 16, 17, 18, 19, 20, 21, 22, 23, 24, 25, 26, 27, 28, 29, 30, 31, 14, 32, 33, 4, 5] : List Nat).getD i 99
theorem wkSlot_ne {i j : Nat} (hi : i < 22) (hj : j < 22) (h : j ≠ i) : wkSlot j ≠ wkSlot i := by
 have h1 : ((List.range 22).all fun i => (List.range 22).all fun j => decide (j ≠ i → wkSlot j ≠ wkSlot i)) = true := by decide +kernel
 exact of_decide_eq_true (List.all_eq_true.1 (List.all_eq_true.1 h1 i (List.mem_range.2 hi)) j (List.mem_range.2 hj)) h
def WakeI (W0 : World) (L : Nat → Bool) (V : Nat → Value) (w : World) : Prop :=
 Below W0.heap.size W0 w ∧ (L 22 = false → ∀ i, i < 22 → L i = true → wk W0.heap.size i (V (wkSlot i)) w) ∧
  (L 22 = true → ∃ b4 b5 cs, V 4 = .pointer (some ⟨b4, 0, none⟩) ∧ V 5 = .pointer (some ⟨b5, 0, none⟩) ∧ W0.heap.size ≤ b4 ∧ W0.heap.size ≤ b5 ∧ qE w (.agg cs) wakeG ∧ w.heap[b4]? = some (.cells cs 39 (0, 0)) ∧ (∃ gv, V 14 = .tuple #[gv, j2 ⟨0, 0, []⟩]) ∧ (L 19 = true → V 33 = j2 ⟨0, 0, []⟩) ∧
   (L 23 = false → w.heap[b5]? = some (.cells #[.int .i64 0, .int .i64 0, .string ⟨#[]⟩] 52 (0, 0))) ∧ (L 23 = true → w.heap[b5]? = some (.cells #[.int .i64 0, .int .i64 0, .string ⟨#[]⟩] 52 (0, 0))))
theorem yU {W0 w w' : World} {L : Nat → Bool} {V : Nat → Value} {i : Nat} {v : Value} (hi : i < 22) (h : WakeI W0 L V w) (h22 : L 22 = false ∧ L i = false) (hb : Below w.heap.size w w') (hv : wk W0.heap.size i v w') : WakeI W0 (updL L i) (updV V (wkSlot i) v) w' := by
 obtain ⟨h1, h2, _⟩ := h; have e22 : updL L i 22 = L 22 := by unfold updL; rw [if_neg (by omega)]
 refine ⟨h1.trans (hb.mono h1.size), fun _ j hj hL => ?_, fun h => by rw [e22, h22.1] at h; cases h⟩; by_cases hij : j = i
 ·subst hij
  unfold updV; rw [if_pos rfl]; exact hv
 ·unfold updV
  rw [if_neg (wkSlot_ne hi hj hij)]; refine wk_below (h2 h22.1 j hj ?_) hb; unfold updL at hL; rwa [if_neg hij] at hL
set_option maxRecDepth 100000 in
set_option maxHeartbeats 12800000 in
theorem wakes9 (w0 : World) (hg : Gl4 w0) :
  Calls Tryz.prog 5 #[] w0 fun e w' => e = .returned (.bool true) ∧ Below w0.heap.size w0 w' := by
 have HG := zh hg; clear hg; go_enter Tryz.func5, Tryz.ntmps5
 go_wp2_with fail; refine (law9_name [101] 0 _).mono ?_; rintro e w1 ⟨rfl, hb1⟩; go_wp2_with fail; refine (law9_part [101] false 0 0 _).mono ?_; rintro e w2 ⟨rfl, hb2⟩; go_wp2_with fail; refine (law9_lit [43] 0 _).mono ?_; rintro e w3 ⟨rfl, hb3⟩; go_wp2_with fail; refine (law9_part [43] true 0 0 _).mono ?_; rintro e w4 ⟨rfl, hb4⟩; go_wp2_with fail; refine (law9_lit [120] 0 _).mono ?_; rintro e w5 ⟨rfl, hb5⟩; go_wp2_with fail; refine (law9_part [120] true 0 0 _).mono ?_; rintro e w6 ⟨rfl, hb6⟩; have HB6 : Hid (Below w0.heap.size w0 w6) := zh ((((((hb1.trans (hb2.mono hb1.size)).trans (hb3.mono (Nat.le_trans hb1.size hb2.size))).trans (hb4.mono (Nat.le_trans hb1.size (Nat.le_trans hb2.size hb3.size)))).trans (hb5.mono (Nat.le_trans hb1.size (Nat.le_trans hb2.size (Nat.le_trans hb3.size hb4.size))))).trans (hb6.mono (Nat.le_trans hb1.size (Nat.le_trans hb2.size (Nat.le_trans hb3.size (Nat.le_trans hb4.size hb5.size))))))); clear hb1 hb2 hb3 hb4 hb5 hb6; go_upto_region 2 with fail
 obtain ⟨w7, hw7⟩ : ∃ w7 : World, w7 = ((w6.alloc (.cells #[.string ⟨#[101]⟩, .bool false, .int .i64 0, .int .i64 0, .string ⟨#[]⟩, .int .i64 0] 47)).alloc (.cells #[.string ⟨#[43]⟩, .bool true, .int .i64 0, .int .i64 0, .string ⟨#[]⟩, .int .i64 0] 47)).alloc (.cells #[.string ⟨#[120]⟩, .bool true, .int .i64 0, .int .i64 0, .string ⟨#[]⟩, .int .i64 0] 47) := ⟨_, rfl⟩
 rw [← hw7]; have h3 := three_c (W := w6) (w' := w7) (c1 := #[.string ⟨#[101]⟩, .bool false, .int .i64 0, .int .i64 0, .string ⟨#[]⟩, .int .i64 0]) (c2 := #[.string ⟨#[43]⟩, .bool true, .int .i64 0, .int .i64 0, .string ⟨#[]⟩, .int .i64 0]) (c3 := #[.string ⟨#[120]⟩, .bool true, .int .i64 0, .int .i64 0, .string ⟨#[]⟩, .int .i64 0]) (t1 := 47) (t2 := 47) (t3 := 47) (by rw [hw7]; exact Below.refl _ _); have H1 := zh h3.1; have H2 := zh h3.2.1; have H3 := zh h3.2.2; have HB7 : Hid (Below w0.heap.size w0 w7) := zh (by rw [hw7]; exact HB6.out.trans ((j6 w6 _ _ _).mono HB6.out.size)); have h7s : w7.heap.size = w6.heap.size + 3 := by rw [hw7]; simp
 have hGL : Hid (∀ w, Below w7.heap.size w7 w → Gl w) := zh (fun w hb => HG.out.up (HB7.out.trans (hb.mono HB7.out.size)) (by have := HG.out.2.1; have := HB6.out.size; have := hb.size; omega)); clear h3 hw7 h7s; refine wp_region_vals [15, 16, 17, 18, 19, 20, 21, 22, 23, 24, 25, 26, 27, 28, 29, 30, 31, 14, 32, 33, 4, 5] (WakeI w7) (by kernel_rfl) (by kernel_rfl) ?hstep ?hend (fun _ => undef) (by simp only [putV, Act.put, zq0, zq1, zq2]) ⟨below_drewN (Below.refl _ w7) 1, fun _ i _ h => (by cases h), fun h => (by cases h)⟩
 case hstep =>
  intro L V w i hi hL hw1 hw2 hI; have hi24 : i < 24 := hi; have hcase : i = 0 ∨ i = 1 ∨ i = 2 ∨ i = 3 ∨ i = 4 ∨ i = 5 ∨ i = 6 ∨ i = 7 ∨ i = 8 ∨ i = 9 ∨ i = 10 ∨ i = 11 ∨ i = 12 ∨ i = 13 ∨ i = 14 ∨ i = 15 ∨ i = 16 ∨ i = 17 ∨ i = 18 ∨ i = 19 ∨ i = 20 ∨ i = 21 ∨ i = 22 ∨ i = 23 := by omega
  clear hi hi24; have hpre := hI.2.1; rcases hcase with rfl | rfl | rfl | rfl | rfl | rfl | rfl | rfl | rfl | rfl | rfl | rfl | rfl | rfl | rfl | rfl | rfl | rfl | rfl | rfl | rfl | rfl | rfl | rfl
  ·-- operation 0
   have h22 : L 22 = false := by
    cases h : L 22 with
    | false => rfl
    | true => exact absurd (hw2 22 0 (by kernel_rfl) h) (z8 hL)
   have HI := zh hI; have HL := zh (And.intro h22 hL); clear hI hpre hL h22 hw1 hw2; refine z7 rfl (fun K' hK => ?_); simp only [putV, Act.put, zq0, zq1, zq2]
   (go_simp; go_at_call 14; refine (law9_lit [43] 0 w).mono ?_; rintro e w' ⟨rfl, hb'⟩; dsimp only)
   refine hK _ _ ⟨updV V 15 (.agg #[.string ⟨#[43]⟩, .bool true, .int .i64 0, .int .i64 0]), ?_, yU (v := .agg #[.string ⟨#[43]⟩, .bool true, .int .i64 0, .int .i64 0]) (by omega) HI.out HL.out hb' rfl⟩; first | (simp only [putV, Act.put, zq0, zq1, zq2, updV, Nat.reduceEqDiff, if_true, if_false, reduceIte]; done) | (simp only [putV, Act.put, zq0, zq1, zq2, updV, Nat.reduceEqDiff, if_true, if_false, reduceIte]; rfl)
  ·-- operation 1
   have h22 : L 22 = false := by
    cases h : L 22 with
    | false => rfl
    | true => exact absurd (hw2 22 1 (by kernel_rfl) h) (z8 hL)
   have q0 := hpre h22 0 (by omega) (hw1 0 (by kernel_rfl)); have e15 : V 15 = .agg #[.string ⟨#[43]⟩, .bool true, .int .i64 0, .int .i64 0] := q0; clear q0; have HI := zh hI; have HL := zh (And.intro h22 hL); clear hI hpre hL h22 hw1 hw2; refine z7 rfl (fun K' hK => ?_); simp only [putV, Act.put, zq0, zq1, zq2]; go_simp; refine hK _ _ ⟨updV V 16 (.slice (some ⟨w.heap.size, 0, none⟩) 1 1), ?_, yU (v := .slice (some ⟨w.heap.size, 0, none⟩) 1 1) (by omega) HI.out HL.out ((Below.refl _ w).alloc (Nat.le_refl _) _) ⟨_, _, rfl, zBE [symC symP] 4 (by simp [symC]) (by simp [maxLen])⟩⟩; first | (simp only [putV, Act.put, zq0, zq1, zq2, updV, Nat.reduceEqDiff, if_true, if_false, reduceIte, e15]; done) | (simp only [putV, Act.put, zq0, zq1, zq2, updV, Nat.reduceEqDiff, if_true, if_false, reduceIte, e15]; rfl)
  ·-- operation 2
   have h22 : L 22 = false := by
    cases h : L 22 with
    | false => rfl
    | true => exact absurd (hw2 22 2 (by kernel_rfl) h) (z8 hL)
   have q1 := hpre h22 1 (by omega) (hw1 1 (by kernel_rfl)); obtain ⟨a1, c1, e16, hs1⟩ := q1; replace e16 : V 16 = _ := e16; have HS1 := zh hs1; clear hs1; have HI := zh hI; have HL := zh (And.intro h22 hL); clear hI hpre hL h22 hw1 hw2; refine z7 rfl (fun K' hK => ?_); simp only [putV, Act.put, zq0, zq1, zq2]; go_simp; refine hK _ _ ⟨updV V 17 (.agg #[.int .i64 2, .string ⟨#[]⟩, .slice a1 1 c1, .int .i64 0]), ?_, yU (v := .agg #[.int .i64 2, .string ⟨#[]⟩, .slice a1 1 c1, .int .i64 0]) (by omega) HI.out HL.out (Below.refl _ _) ⟨_, _, rfl, HS1.out⟩⟩; first | (simp only [putV, Act.put, zq0, zq1, zq2, updV, Nat.reduceEqDiff, if_true, if_false, reduceIte, e16]; done) | (simp only [putV, Act.put, zq0, zq1, zq2, updV, Nat.reduceEqDiff, if_true, if_false, reduceIte, e16]; rfl)
  ·-- operation 3
   have h22 : L 22 = false := by
    cases h : L 22 with
    | false => rfl
    | true => exact absurd (hw2 22 3 (by kernel_rfl) h) (z8 hL)
   have q2 := hpre h22 2 (by omega) (hw1 2 (by kernel_rfl)); obtain ⟨a1, c1, e17, hs1⟩ := q2; replace e17 : V 17 = _ := e17; have HS1 := zh hs1; clear hs1; have HI := zh hI; have HL := zh (And.intro h22 hL); clear hI hpre hL h22 hw1 hw2; refine z7 rfl (fun K' hK => ?_); simp only [putV, Act.put, zq0, zq1, zq2]; go_simp
   refine hK _ _ ⟨updV V 18 (.slice (some ⟨w.heap.size, 0, none⟩) 1 1), ?_, yU (v := .slice (some ⟨w.heap.size, 0, none⟩) 1 1) (by omega) HI.out HL.out ((Below.refl _ w).alloc (Nat.le_refl _) _) ⟨_, _, rfl, fun _ => .slice a1 1 c1, zBE [xP (.slice a1 1 c1) ⟨2, [], [symP], 0⟩] 4 (by simp [xP]) (by simp [maxLen]), fun i d hd => by
     obtain ⟨rfl, rfl⟩ := one_at hd
     exact HS1.out.below ((Below.refl _ w).alloc (Nat.le_refl _) _)⟩⟩
   first | (simp only [putV, Act.put, zq0, zq1, zq2, updV, Nat.reduceEqDiff, if_true, if_false, reduceIte, e17]; done) | (simp only [putV, Act.put, zq0, zq1, zq2, updV, Nat.reduceEqDiff, if_true, if_false, reduceIte, e17]; rfl)
  ·-- operation 4
   have h22 : L 22 = false := by
    cases h : L 22 with
    | false => rfl
    | true => exact absurd (hw2 22 4 (by kernel_rfl) h) (z8 hL)
   have hbw := hI.1; have k0 := (hbw.block (w6.heap.size) (zC H1.out)).trans H1.out; have c0 := zc 0 k0; have c1 := zc 1 k0; have c2 := zc 2 k0; have c3 := zc 3 k0; have c4 := zc 4 k0; have c5 := zc 5 k0; have hl0 := zC k0; clear k0 hbw; have HI := zh hI; have HL := zh (And.intro h22 hL); clear hI hpre hL h22 hw1 hw2; refine z7 rfl (fun K' hK => ?_); simp only [putV, Act.put, zq0, zq1, zq2]; go_simp; refine hK _ _ ⟨updV V 19 (.agg #[.string ⟨#[101]⟩, .bool false, .int .i64 0, .int .i64 0, .string ⟨#[]⟩, .int .i64 0]), ?_, yU (v := .agg #[.string ⟨#[101]⟩, .bool false, .int .i64 0, .int .i64 0, .string ⟨#[]⟩, .int .i64 0]) (by omega) HI.out HL.out (Below.refl _ _) rfl⟩; first | (simp only [putV, Act.put, zq0, zq1, zq2, updV, Nat.reduceEqDiff, if_true, if_false, reduceIte]; done) | (simp only [putV, Act.put, zq0, zq1, zq2, updV, Nat.reduceEqDiff, if_true, if_false, reduceIte]; rfl)
  ·-- operation 5
   have h22 : L 22 = false := by
    cases h : L 22 with
    | false => rfl
    | true => exact absurd (hw2 22 5 (by kernel_rfl) h) (z8 hL)
   have hbw := hI.1; have k0 := (hbw.block (w6.heap.size + 1) (zC H2.out)).trans H2.out; have c0 := zc 0 k0; have c1 := zc 1 k0; have c2 := zc 2 k0; have c3 := zc 3 k0; have c4 := zc 4 k0; have c5 := zc 5 k0; have hl0 := zC k0; clear k0 hbw; have HI := zh hI; have HL := zh (And.intro h22 hL); clear hI hpre hL h22 hw1 hw2; refine z7 rfl (fun K' hK => ?_); simp only [putV, Act.put, zq0, zq1, zq2]; go_simp; refine hK _ _ ⟨updV V 20 (.agg #[.string ⟨#[43]⟩, .bool true, .int .i64 0, .int .i64 0, .string ⟨#[]⟩, .int .i64 0]), ?_, yU (v := .agg #[.string ⟨#[43]⟩, .bool true, .int .i64 0, .int .i64 0, .string ⟨#[]⟩, .int .i64 0]) (by omega) HI.out HL.out (Below.refl _ _) rfl⟩; first | (simp only [putV, Act.put, zq0, zq1, zq2, updV, Nat.reduceEqDiff, if_true, if_false, reduceIte]; done) | (simp only [putV, Act.put, zq0, zq1, zq2, updV, Nat.reduceEqDiff, if_true, if_false, reduceIte]; rfl)
  ·-- operation 6
   have h22 : L 22 = false := by
    cases h : L 22 with
    | false => rfl
    | true => exact absurd (hw2 22 6 (by kernel_rfl) h) (z8 hL)
   have hbw := hI.1; have k0 := (hbw.block (w6.heap.size) (zC H1.out)).trans H1.out; have c0 := zc 0 k0; have c1 := zc 1 k0; have c2 := zc 2 k0; have c3 := zc 3 k0; have c4 := zc 4 k0; have c5 := zc 5 k0; have hl0 := zC k0; clear k0 hbw; have HI := zh hI; have HL := zh (And.intro h22 hL); clear hI hpre hL h22 hw1 hw2; refine z7 rfl (fun K' hK => ?_); simp only [putV, Act.put, zq0, zq1, zq2]; go_simp; refine hK _ _ ⟨updV V 21 (.agg #[.string ⟨#[101]⟩, .bool false, .int .i64 0, .int .i64 0, .string ⟨#[]⟩, .int .i64 0]), ?_, yU (v := .agg #[.string ⟨#[101]⟩, .bool false, .int .i64 0, .int .i64 0, .string ⟨#[]⟩, .int .i64 0]) (by omega) HI.out HL.out (Below.refl _ _) rfl⟩; first | (simp only [putV, Act.put, zq0, zq1, zq2, updV, Nat.reduceEqDiff, if_true, if_false, reduceIte]; done) | (simp only [putV, Act.put, zq0, zq1, zq2, updV, Nat.reduceEqDiff, if_true, if_false, reduceIte]; rfl)
  ·-- operation 7
   have h22 : L 22 = false := by
    cases h : L 22 with
    | false => rfl
    | true => exact absurd (hw2 22 7 (by kernel_rfl) h) (z8 hL)
   have q4 := hpre h22 4 (by omega) (hw1 4 (by kernel_rfl)); have q5 := hpre h22 5 (by omega) (hw1 5 (by kernel_rfl)); have q6 := hpre h22 6 (by omega) (hw1 6 (by kernel_rfl)); have e19 : V 19 = .agg #[.string ⟨#[101]⟩, .bool false, .int .i64 0, .int .i64 0, .string ⟨#[]⟩, .int .i64 0] := q4; have e20 : V 20 = .agg #[.string ⟨#[43]⟩, .bool true, .int .i64 0, .int .i64 0, .string ⟨#[]⟩, .int .i64 0] := q5; have e21 : V 21 = .agg #[.string ⟨#[101]⟩, .bool false, .int .i64 0, .int .i64 0, .string ⟨#[]⟩, .int .i64 0] := q6; clear q4 q5 q6; have HI := zh hI; have HL := zh (And.intro h22 hL); clear hI hpre hL h22 hw1 hw2; refine z7 rfl (fun K' hK => ?_); simp only [putV, Act.put, zq0, zq1, zq2]; go_simp; refine hK _ _ ⟨updV V 22 (.slice (some ⟨w.heap.size, 0, none⟩) 3 3), ?_, yU (v := .slice (some ⟨w.heap.size, 0, none⟩) 3 3) (by omega) HI.out HL.out ((Below.refl _ w).alloc (Nat.le_refl _) _) ⟨_, _, rfl, zBE [z6 partE, z6 partP, z6 partE] 6 (by simp [z6, symC]) (by simp [maxLen])⟩⟩; first | (simp only [putV, Act.put, zq0, zq1, zq2, updV, Nat.reduceEqDiff, if_true, if_false, reduceIte, e19, e20, e21]; done) | (simp only [putV, Act.put, zq0, zq1, zq2, updV, Nat.reduceEqDiff, if_true, if_false, reduceIte, e19, e20, e21]; rfl)
  ·-- operation 8
   have h22 : L 22 = false := by
    cases h : L 22 with
    | false => rfl
    | true => exact absurd (hw2 22 8 (by kernel_rfl) h) (z8 hL)
   have q7 := hpre h22 7 (by omega) (hw1 7 (by kernel_rfl)); obtain ⟨a1, c1, e22, hs1⟩ := q7; replace e22 : V 22 = _ := e22; have HS1 := zh hs1; clear hs1; have HI := zh hI; have HL := zh (And.intro h22 hL); clear hI hpre hL h22 hw1 hw2; refine z7 rfl (fun K' hK => ?_); simp only [putV, Act.put, zq0, zq1, zq2]; go_simp; refine hK _ _ ⟨updV V 23 (.agg #[.slice a1 3 c1, .string ⟨#[]⟩, .bool false, .int .i64 0, .int .i64 0, .int .i64 0]), ?_, yU (v := .agg #[.slice a1 3 c1, .string ⟨#[]⟩, .bool false, .int .i64 0, .int .i64 0, .int .i64 0]) (by omega) HI.out HL.out (Below.refl _ _) ⟨_, _, rfl, HS1.out⟩⟩; first | (simp only [putV, Act.put, zq0, zq1, zq2, updV, Nat.reduceEqDiff, if_true, if_false, reduceIte, e22]; done) | (simp only [putV, Act.put, zq0, zq1, zq2, updV, Nat.reduceEqDiff, if_true, if_false, reduceIte, e22]; rfl)
  ·-- operation 9
   have h22 : L 22 = false := by
    cases h : L 22 with
    | false => rfl
    | true => exact absurd (hw2 22 9 (by kernel_rfl) h) (z8 hL)
   have hbw := hI.1; have k0 := (hbw.block (w6.heap.size + 1 + 1) (zC H3.out)).trans H3.out; have c0 := zc 0 k0; have c1 := zc 1 k0; have c2 := zc 2 k0; have c3 := zc 3 k0; have c4 := zc 4 k0; have c5 := zc 5 k0; have hl0 := zC k0; clear k0 hbw; have HI := zh hI; have HL := zh (And.intro h22 hL); clear hI hpre hL h22 hw1 hw2; refine z7 rfl (fun K' hK => ?_); simp only [putV, Act.put, zq0, zq1, zq2]; go_simp; refine hK _ _ ⟨updV V 24 (.agg #[.string ⟨#[120]⟩, .bool true, .int .i64 0, .int .i64 0, .string ⟨#[]⟩, .int .i64 0]), ?_, yU (v := .agg #[.string ⟨#[120]⟩, .bool true, .int .i64 0, .int .i64 0, .string ⟨#[]⟩, .int .i64 0]) (by omega) HI.out HL.out (Below.refl _ _) rfl⟩; first | (simp only [putV, Act.put, zq0, zq1, zq2, updV, Nat.reduceEqDiff, if_true, if_false, reduceIte]; done) | (simp only [putV, Act.put, zq0, zq1, zq2, updV, Nat.reduceEqDiff, if_true, if_false, reduceIte]; rfl)
  ·-- operation 10
   have h22 : L 22 = false := by
    cases h : L 22 with
    | false => rfl
    | true => exact absurd (hw2 22 10 (by kernel_rfl) h) (z8 hL)
   have q9 := hpre h22 9 (by omega) (hw1 9 (by kernel_rfl)); have e24 : V 24 = .agg #[.string ⟨#[120]⟩, .bool true, .int .i64 0, .int .i64 0, .string ⟨#[]⟩, .int .i64 0] := q9; clear q9; have HI := zh hI; have HL := zh (And.intro h22 hL); clear hI hpre hL h22 hw1 hw2; refine z7 rfl (fun K' hK => ?_); simp only [putV, Act.put, zq0, zq1, zq2]; go_simp; refine hK _ _ ⟨updV V 25 (.slice (some ⟨w.heap.size, 0, none⟩) 1 1), ?_, yU (v := .slice (some ⟨w.heap.size, 0, none⟩) 1 1) (by omega) HI.out HL.out ((Below.refl _ w).alloc (Nat.le_refl _) _) ⟨_, _, rfl, zBE [z6 partX] 6 (by simp [z6, symC]) (by simp [maxLen])⟩⟩; first | (simp only [putV, Act.put, zq0, zq1, zq2, updV, Nat.reduceEqDiff, if_true, if_false, reduceIte, e24]; done) | (simp only [putV, Act.put, zq0, zq1, zq2, updV, Nat.reduceEqDiff, if_true, if_false, reduceIte, e24]; rfl)
  ·-- operation 11
   have h22 : L 22 = false := by
    cases h : L 22 with
    | false => rfl
    | true => exact absurd (hw2 22 11 (by kernel_rfl) h) (z8 hL)
   have q10 := hpre h22 10 (by omega) (hw1 10 (by kernel_rfl)); obtain ⟨a1, c1, e25, hs1⟩ := q10; replace e25 : V 25 = _ := e25; have HS1 := zh hs1; clear hs1; have HI := zh hI; have HL := zh (And.intro h22 hL); clear hI hpre hL h22 hw1 hw2; refine z7 rfl (fun K' hK => ?_); simp only [putV, Act.put, zq0, zq1, zq2]; go_simp; refine hK _ _ ⟨updV V 26 (.agg #[.slice a1 1 c1, .string ⟨#[]⟩, .bool false, .int .i64 0, .int .i64 0, .int .i64 0]), ?_, yU (v := .agg #[.slice a1 1 c1, .string ⟨#[]⟩, .bool false, .int .i64 0, .int .i64 0, .int .i64 0]) (by omega) HI.out HL.out (Below.refl _ _) ⟨_, _, rfl, HS1.out⟩⟩; first | (simp only [putV, Act.put, zq0, zq1, zq2, updV, Nat.reduceEqDiff, if_true, if_false, reduceIte, e25]; done) | (simp only [putV, Act.put, zq0, zq1, zq2, updV, Nat.reduceEqDiff, if_true, if_false, reduceIte, e25]; rfl)
  ·-- operation 12
   have h22 : L 22 = false := by
    cases h : L 22 with
    | false => rfl
    | true => exact absurd (hw2 22 12 (by kernel_rfl) h) (z8 hL)
   have q8 := hpre h22 8 (by omega) (hw1 8 (by kernel_rfl)); have q11 := hpre h22 11 (by omega) (hw1 11 (by kernel_rfl)); obtain ⟨a1, c1, e23, hs1⟩ := q8; replace e23 : V 23 = _ := e23; obtain ⟨a2, c2, e26, hs2⟩ := q11; replace e26 : V 26 = _ := e26; have HS1 := zh hs1; have HS2 := zh hs2; clear hs1 hs2; have HI := zh hI; have HL := zh (And.intro h22 hL); clear hI hpre hL h22 hw1 hw2; refine z7 rfl (fun K' hK => ?_); simp only [putV, Act.put, zq0, zq1, zq2]; go_simp
   refine hK _ _ ⟨updV V 27 (.slice (some ⟨w.heap.size, 0, none⟩) 2 2), ?_, yU (v := .slice (some ⟨w.heap.size, 0, none⟩) 2 2) (by omega) HI.out HL.out ((Below.refl _ w).alloc (Nat.le_refl _) _) ⟨_, _, rfl, fun i => if i = 0 then .slice a1 3 c1 else .slice a2 1 c2, zBE [altC (.slice a1 3 c1) altA, altC (.slice a2 1 c2) altB] 6 (by simp [altC, symC]) (by simp [maxLen]), fun i a ha => by
     rcases two_at ha with ⟨rfl, rfl⟩ | ⟨rfl, rfl⟩
     ·exact HS1.out.below ((Below.refl _ w).alloc (Nat.le_refl _) _)
     ·exact HS2.out.below ((Below.refl _ w).alloc (Nat.le_refl _) _)⟩⟩
   first | (simp only [putV, Act.put, zq0, zq1, zq2, updV, Nat.reduceEqDiff, if_true, if_false, reduceIte, e23, e26]; done) | (simp only [putV, Act.put, zq0, zq1, zq2, updV, Nat.reduceEqDiff, if_true, if_false, reduceIte, e23, e26]; rfl)
  ·-- operation 13
   have h22 : L 22 = false := by
    cases h : L 22 with
    | false => rfl
    | true => exact absurd (hw2 22 13 (by kernel_rfl) h) (z8 hL)
   have q12 := hpre h22 12 (by omega) (hw1 12 (by kernel_rfl)); obtain ⟨a1, c1, e27, hs1⟩ := q12; replace e27 : V 27 = _ := e27; have HS1 := zh hs1; clear hs1; have HI := zh hI; have HL := zh (And.intro h22 hL); clear hI hpre hL h22 hw1 hw2; refine z7 rfl (fun K' hK => ?_); simp only [putV, Act.put, zq0, zq1, zq2]; go_simp; refine hK _ _ ⟨updV V 28 (.agg #[.string ⟨#[101]⟩, .slice a1 2 c1, .int .i64 0]), ?_, yU (v := .agg #[.string ⟨#[101]⟩, .slice a1 2 c1, .int .i64 0]) (by omega) HI.out HL.out (Below.refl _ _) ⟨_, _, rfl, HS1.out⟩⟩; first | (simp only [putV, Act.put, zq0, zq1, zq2, updV, Nat.reduceEqDiff, if_true, if_false, reduceIte, e27]; done) | (simp only [putV, Act.put, zq0, zq1, zq2, updV, Nat.reduceEqDiff, if_true, if_false, reduceIte, e27]; rfl)
  ·-- operation 14
   have h22 : L 22 = false := by
    cases h : L 22 with
    | false => rfl
    | true => exact absurd (hw2 22 14 (by kernel_rfl) h) (z8 hL)
   have q13 := hpre h22 13 (by omega) (hw1 13 (by kernel_rfl)); obtain ⟨a1, c1, e28, hs1⟩ := q13; replace e28 : V 28 = _ := e28; have HS1 := zh hs1; clear hs1; have HI := zh hI; have HL := zh (And.intro h22 hL); clear hI hpre hL h22 hw1 hw2; refine z7 rfl (fun K' hK => ?_); simp only [putV, Act.put, zq0, zq1, zq2]; go_simp
   refine hK _ _ ⟨updV V 29 (.slice (some ⟨w.heap.size, 0, none⟩) 1 1), ?_, yU (v := .slice (some ⟨w.heap.size, 0, none⟩) 1 1) (by omega) HI.out HL.out ((Below.refl _ w).alloc (Nat.le_refl _) _) ⟨_, _, rfl, fun _ => .slice a1 2 c1, zBE [qT (.slice a1 2 c1) ⟨[101], [altA, altB], 0⟩] 3 (by simp [qT]) (by simp [maxLen]), fun i d hd => by
     obtain ⟨rfl, rfl⟩ := one_at hd
     exact HS1.out.below ((Below.refl _ w).alloc (Nat.le_refl _) _)⟩⟩
   first | (simp only [putV, Act.put, zq0, zq1, zq2, updV, Nat.reduceEqDiff, if_true, if_false, reduceIte, e28]; done) | (simp only [putV, Act.put, zq0, zq1, zq2, updV, Nat.reduceEqDiff, if_true, if_false, reduceIte, e28]; rfl)
  ·-- operation 15
   have h22 : L 22 = false := by
    cases h : L 22 with
    | false => rfl
    | true => exact absurd (hw2 22 15 (by kernel_rfl) h) (z8 hL)
   have q3 := hpre h22 3 (by omega) (hw1 3 (by kernel_rfl)); have q14 := hpre h22 14 (by omega) (hw1 14 (by kernel_rfl)); obtain ⟨a1, c1, e18, hs1⟩ := q3; replace e18 : V 18 = _ := e18; obtain ⟨a2, c2, e29, hs2⟩ := q14; replace e29 : V 29 = _ := e29; have HS1 := zh hs1; have HS2 := zh hs2; clear hs1 hs2; have HI := zh hI; have HL := zh (And.intro h22 hL); clear hI hpre hL h22 hw1 hw2; refine z7 rfl (fun K' hK => ?_); simp only [putV, Act.put, zq0, zq1, zq2]; go_simp; refine hK _ _ ⟨updV V 30 (.agg #[.string ⟨#[]⟩, .slice a1 1 c1, .slice a2 1 c2, .string ⟨#[]⟩]), ?_, yU (v := .agg #[.string ⟨#[]⟩, .slice a1 1 c1, .slice a2 1 c2, .string ⟨#[]⟩]) (by omega) HI.out HL.out (Below.refl _ _) ⟨_, _, _, _, rfl, HS1.out, HS2.out⟩⟩; first | (simp only [putV, Act.put, zq0, zq1, zq2, updV, Nat.reduceEqDiff, if_true, if_false, reduceIte, e18, e29]; done) | (simp only [putV, Act.put, zq0, zq1, zq2, updV, Nat.reduceEqDiff, if_true, if_false, reduceIte, e18, e29]; rfl)
  ·-- operation 16
   have h22 : L 22 = false := by
    cases h : L 22 with
    | false => rfl
    | true => exact absurd (hw2 22 16 (by kernel_rfl) h) (z8 hL)
   have q15 := hpre h22 15 (by omega) (hw1 15 (by kernel_rfl)); obtain ⟨a1, c1, a2, c2, e30, hs1, hs2⟩ := q15; replace e30 : V 30 = _ := e30; have HS1 := zh hs1; have HS2 := zh hs2; have hgl := hGL.out w hI.1; clear hs1 hs2; have HI := zh hI; have HL := zh (And.intro h22 hL); clear hI hpre hL h22 hw1 hw2; refine z7 rfl (fun K' hK => ?_); simp only [putV, Act.put, zq0, zq1, zq2]
   (go_simp; go_at_call 15; refine (gram_Of Sp.vA (.slice a1 1 c1) (.slice a2 1 c2) w HS1.out HS2.out wakeGram_small hgl).mono ?_; rw [Sp.wake_gram]; rintro e w' ⟨hb', gv, rfl, hgo⟩; dsimp only)
   refine hK _ _ ⟨updV V 31 (.tuple #[gv, j2 ⟨0, 0, []⟩]), ?_, yU (v := .tuple #[gv, j2 ⟨0, 0, []⟩]) (by omega) HI.out HL.out hb' ⟨_, rfl, hgo⟩⟩; first | (simp only [putV, Act.put, zq0, zq1, zq2, updV, Nat.reduceEqDiff, if_true, if_false, reduceIte, e30]; done) | (simp only [putV, Act.put, zq0, zq1, zq2, updV, Nat.reduceEqDiff, if_true, if_false, reduceIte, e30]; rfl)
  ·-- operation 17
   have h22 : L 22 = false := by
    cases h : L 22 with
    | false => rfl
    | true => exact absurd (hw2 22 17 (by kernel_rfl) h) (z8 hL)
   have q16 := hpre h22 16 (by omega) (hw1 16 (by kernel_rfl)); obtain ⟨gv, e31, hs1⟩ := q16; replace e31 : V 31 = _ := e31; have HS1 := zh hs1; clear hs1; have HI := zh hI; have HL := zh (And.intro h22 hL); clear hI hpre hL h22 hw1 hw2; refine z7 rfl (fun K' hK => ?_); simp only [putV, Act.put, zq0, zq1, zq2]; go_simp; refine hK _ _ ⟨updV V 14 (.tuple #[gv, j2 ⟨0, 0, []⟩]), ?_, yU (v := .tuple #[gv, j2 ⟨0, 0, []⟩]) (by omega) HI.out HL.out (Below.refl _ _) ⟨_, rfl, HS1.out⟩⟩; first | (simp only [putV, Act.put, zq0, zq1, zq2, updV, Nat.reduceEqDiff, if_true, if_false, reduceIte, e31]; done) | (simp only [putV, Act.put, zq0, zq1, zq2, updV, Nat.reduceEqDiff, if_true, if_false, reduceIte, e31]; rfl)
  ·-- operation 18
   have h22 : L 22 = false := by
    cases h : L 22 with
    | false => rfl
    | true => exact absurd (hw2 22 18 (by kernel_rfl) h) (z8 hL)
   have q17 := hpre h22 17 (by omega) (hw1 17 (by kernel_rfl)); obtain ⟨gv, e14, hs1⟩ := q17; replace e14 : V 14 = _ := e14; have HS1 := zh hs1; clear hs1; have HI := zh hI; have HL := zh (And.intro h22 hL); clear hI hpre hL h22 hw1 hw2; refine z7 rfl (fun K' hK => ?_); simp only [putV, Act.put, zq0, zq1, zq2]; go_simp; refine hK _ _ ⟨updV V 32 (gv), ?_, yU (v := gv) (by omega) HI.out HL.out (Below.refl _ _) HS1.out⟩; first | (simp only [putV, Act.put, zq0, zq1, zq2, updV, Nat.reduceEqDiff, if_true, if_false, reduceIte, e14]; done) | (simp only [putV, Act.put, zq0, zq1, zq2, updV, Nat.reduceEqDiff, if_true, if_false, reduceIte, e14]; rfl)
  ·-- operation 19
   cases h22 : L 22 with
   | false =>
    have q17 := hpre h22 17 (by omega) (hw1 17 (by kernel_rfl)); obtain ⟨gv, e14', _⟩ := q17; have e14 : V 14 = .tuple #[gv, .agg #[.int .i64 0, .int .i64 0, .string ⟨#[]⟩]] := e14'; clear e14'; have HI := zh hI; have HL := zh (And.intro h22 hL); clear hI hpre hL h22 hw1 hw2; refine z7 rfl (fun K' hK => ?_); simp only [putV, Act.put, zq0, zq1, zq2]; go_simp; refine hK _ _ ⟨updV V 33 (j2 ⟨0, 0, []⟩), ?_, yU (v := j2 ⟨0, 0, []⟩) (by omega) HI.out HL.out (Below.refl _ _) rfl⟩; first | (simp only [putV, Act.put, zq0, zq1, zq2, updV, Nat.reduceEqDiff, if_true, if_false, reduceIte, e14]; done) | (simp only [putV, Act.put, zq0, zq1, zq2, updV, Nat.reduceEqDiff, if_true, if_false, reduceIte, e14]; rfl)
   | true =>
    obtain ⟨b4, b5, cs, p4, p5, l4, l5, hgo, hb4, ⟨gv, e14'⟩, _, h23a, h23b⟩ := hI.2.2 h22; have e14 : V 14 = .tuple #[gv, .agg #[.int .i64 0, .int .i64 0, .string ⟨#[]⟩]] := e14'; have HI : Hid (WakeI w7 (updL L 19) (updV V 33 (j2 ⟨0, 0, []⟩)) w) := zh (by exact ⟨hI.1, fun h => (by rw [updL_ne L rfl, h22] at h; cases h), fun _ => ⟨b4, b5, cs, (by rw [updV_ne _ _ rfl]; exact p4), (by rw [updV_ne _ _ rfl]; exact p5), l4, l5, hgo, hb4, ⟨gv, (by rw [updV_ne _ _ rfl]; exact e14')⟩, fun _ => updV_eq _ _ _, fun h => h23a (by rw [updL_ne L rfl] at h; exact h), fun h => h23b (by rw [updL_ne L rfl] at h; exact h)⟩⟩); clear hI hL h22 hw1 hw2 p4 p5 hgo hb4 h23a h23b e14'; refine z7 rfl (fun K' hK => ?_); simp only [putV, Act.put, zq0, zq1, zq2]; go_simp; refine hK _ _ ⟨updV V 33 (j2 ⟨0, 0, []⟩), ?_, HI.out⟩; first | (simp only [putV, Act.put, zq0, zq1, zq2, updV, Nat.reduceEqDiff, if_true, if_false, reduceIte, e14]; done) | (simp only [putV, Act.put, zq0, zq1, zq2, updV, Nat.reduceEqDiff, if_true, if_false, reduceIte, e14]; rfl)
  ·-- operation 20
   have h22 : L 22 = false := by
    cases h : L 22 with
    | false => rfl
    | true => exact absurd (hw2 22 20 (by kernel_rfl) h) (z8 hL)
   have hbW := hI.1.size; have HI := zh hI; have HL := zh (And.intro h22 hL); clear hI hpre hL h22 hw1 hw2; refine z7 rfl (fun K' hK => ?_); simp only [putV, Act.put, zq0, zq1, zq2]; go_simp; refine hK _ _ ⟨updV V 4 (.pointer (some ⟨w.heap.size, 0, none⟩)), ?_, yU (v := .pointer (some ⟨w.heap.size, 0, none⟩)) (by omega) HI.out HL.out ((Below.refl _ w).alloc (Nat.le_refl _) _) ⟨_, rfl, hbW, zE w _⟩⟩; first | (simp only [putV, Act.put, zq0, zq1, zq2, updV, Nat.reduceEqDiff, if_true, if_false, reduceIte]; done) | (simp only [putV, Act.put, zq0, zq1, zq2, updV, Nat.reduceEqDiff, if_true, if_false, reduceIte]; rfl)
  ·-- operation 21
   have h22 : L 22 = false := by
    cases h : L 22 with
    | false => rfl
    | true => exact absurd (hw2 22 21 (by kernel_rfl) h) (z8 hL)
   have hbW := hI.1.size; have HI := zh hI; have HL := zh (And.intro h22 hL); clear hI hpre hL h22 hw1 hw2; refine z7 rfl (fun K' hK => ?_); simp only [putV, Act.put, zq0, zq1, zq2]; go_simp; refine hK _ _ ⟨updV V 5 (.pointer (some ⟨w.heap.size, 0, none⟩)), ?_, yU (v := .pointer (some ⟨w.heap.size, 0, none⟩)) (by omega) HI.out HL.out ((Below.refl _ w).alloc (Nat.le_refl _) _) ⟨_, rfl, hbW, zE w _⟩⟩; first | (simp only [putV, Act.put, zq0, zq1, zq2, updV, Nat.reduceEqDiff, if_true, if_false, reduceIte]; done) | (simp only [putV, Act.put, zq0, zq1, zq2, updV, Nat.reduceEqDiff, if_true, if_false, reduceIte]; rfl)
  ·-- operation 22
   have q14 := hpre hL 17 (by omega) (hw1 17 (by kernel_rfl)); have q18 : qE w (V 32) wakeG := hpre hL 18 (by omega) (hw1 18 (by kernel_rfl)); obtain ⟨b4, p4, l4, hb4⟩ := hpre hL 20 (by omega) (hw1 20 (by kernel_rfl)); obtain ⟨b5, p5, l5, hb5⟩ := hpre hL 21 (by omega) (hw1 21 (by kernel_rfl)); have h19 : L 19 = true → V 33 = j2 ⟨0, 0, []⟩ := fun h => hpre hL 19 (by omega) h
   have h23 : L 23 = false := by
    cases h : L 23 with
    | false => rfl
    | true => exact absurd (hw2 23 22 (by kernel_rfl) h) (z8 hL)
   obtain ⟨B, ta, tc, na, nc, pa, pc, e32, _⟩ := id q18
   have hne : b4 ≠ b5 := by
    rintro rfl; rw [hb4] at hb5; simp at hb5
   replace p4 : V 4 = .pointer (some ⟨b4, 0, none⟩) := p4
   have HI : Hid (WakeI w7 (updL L 22) V (((((w.setCell ⟨b4, 0, none⟩ (.slice ta 5 tc)).setCell ⟨b4, 1, none⟩ (.slice na 2 nc)).setCell ⟨b4, 2, none⟩ (.slice pa 3 pc)).setCell ⟨b4, 3, none⟩ (.string ⟨#[]⟩)).setCell ⟨b4, 4, none⟩ (.string ⟨#[]⟩))) := zh (by
    have k : Kp (fun b => b ≠ b4) w (((((w.setCell ⟨b4, 0, none⟩ (.slice ta 5 tc)).setCell ⟨b4, 1, none⟩ (.slice na 2 nc)).setCell ⟨b4, 2, none⟩ (.slice pa 3 pc)).setCell ⟨b4, 3, none⟩ (.string ⟨#[]⟩)).setCell ⟨b4, 4, none⟩ (.string ⟨#[]⟩)) := (((((Kp.refl _ w).setCell (p := ⟨b4, 0, none⟩) (by simp) _).setCell (p := ⟨b4, 1, none⟩) (by simp) _).setCell (p := ⟨b4, 2, none⟩) (by simp) _).setCell (p := ⟨b4, 3, none⟩) (by simp) _).setCell (p := ⟨b4, 4, none⟩) (by simp) _; have hbn : (((((w.setCell ⟨b4, 0, none⟩ (.slice ta 5 tc)).setCell ⟨b4, 1, none⟩ (.slice na 2 nc)).setCell ⟨b4, 2, none⟩ (.slice pa 3 pc)).setCell ⟨b4, 3, none⟩ (.string ⟨#[]⟩)).setCell ⟨b4, 4, none⟩ (.string ⟨#[]⟩)).heap[b4]? = some (.cells #[.slice ta 5 tc, .slice na 2 nc, .slice pa 3 pc, .string ⟨#[]⟩, .string ⟨#[]⟩] 39 (0, 0)) := zA (zA (zA (zA (zA hb4)))); generalize (((((w.setCell ⟨b4, 0, none⟩ (.slice ta 5 tc)).setCell ⟨b4, 1, none⟩ (.slice na 2 nc)).setCell ⟨b4, 2, none⟩ (.slice pa 3 pc)).setCell ⟨b4, 3, none⟩ (.string ⟨#[]⟩)).setCell ⟨b4, 4, none⟩ (.string ⟨#[]⟩)) = w' at k hbn; have kt : KpT (fun t => t ≠ 39) w w' := fun b cs t fr hb ht => (k.block b (zC hb) (by rintro rfl; rw [hb4] at hb; simp at hb; exact ht hb.2.1.symm)).trans hb
    have hgo := q18.kpT kt (by decide) (by decide) (by decide) (by decide); rw [e32] at hgo; refine ⟨hI.1.trans (Kp.below k hI.1.size (fun b hlt => by show b ≠ b4; omega)), fun h => (by rw [updL_eq] at h; cases h), fun _ => ⟨b4, b5, _, p4, p5, l4, l5, hgo, hbn, ?_, fun h => h19 (by rw [updL_ne L rfl] at h; exact h), fun _ => (k.block b5 (zC hb5) hne.symm).trans hb5, fun h => (by rw [updL_ne L rfl, h23] at h; cases h)⟩⟩; obtain ⟨gv, e, _⟩ := q14
    exact ⟨gv, e⟩)
   have c0 := zc 0 hb4; have c1 := zc 1 hb4; have c2 := zc 2 hb4; have c3 := zc 3 hb4; have c4 := zc 4 hb4; have f0 := zf 0 hb4; have f1 := zf 1 hb4; have f2 := zf 2 hb4; have f3 := zf 3 hb4; have f4 := zf 4 hb4; have lb := zC hb4; replace e32 : V 32 = .agg #[.slice ta 5 tc, .slice na 2 nc, .slice pa 3 pc, .string ⟨#[]⟩, .string ⟨#[]⟩] := e32; clear hI hpre hL hw1 hw2 q14 q18 hb4 hb5 h19 h23 p5 hne; refine z7 rfl (fun K' hK => ?_); simp only [putV, Act.put, zq0, zq1, zq2]; go_simp; refine hK _ _ ⟨V, ?_, HI.out⟩; first | (simp only [putV, Act.put, zq0, zq1, zq2, p4, e32]; done) | (simp only [putV, Act.put, zq0, zq1, zq2, p4, e32]; rfl)
  ·-- operation 23
   have h22 := hw1 22 (by kernel_rfl); obtain ⟨b4, b5, cs, p4, p5, l4, l5, hgo, hb4, h14, h19, h23a, _⟩ := hI.2.2 h22; have hb5 := h23a hL; have e33 := h19 (hw1 19 (by kernel_rfl))
   have hne : b4 ≠ b5 := by
    rintro rfl; rw [hb4] at hb5; simp at hb5
   have HI : Hid (WakeI w7 (updL L 23) V (((w.setCell ⟨b5, 0, none⟩ (.int .i64 0)).setCell ⟨b5, 1, none⟩ (.int .i64 0)).setCell ⟨b5, 2, none⟩ (.string ⟨#[]⟩))) := zh (by
    have k : Kp (fun b => b ≠ b5) w (((w.setCell ⟨b5, 0, none⟩ (.int .i64 0)).setCell ⟨b5, 1, none⟩ (.int .i64 0)).setCell ⟨b5, 2, none⟩ (.string ⟨#[]⟩)) := (((Kp.refl _ w).setCell (p := ⟨b5, 0, none⟩) (by simp) _).setCell (p := ⟨b5, 1, none⟩) (by simp) _).setCell (p := ⟨b5, 2, none⟩) (by simp) _; have hbn : (((w.setCell ⟨b5, 0, none⟩ (.int .i64 0)).setCell ⟨b5, 1, none⟩ (.int .i64 0)).setCell ⟨b5, 2, none⟩ (.string ⟨#[]⟩)).heap[b5]? = some (.cells #[.int .i64 0, .int .i64 0, .string ⟨#[]⟩] 52 (0, 0)) := zA (zA (zA hb5)); generalize (((w.setCell ⟨b5, 0, none⟩ (.int .i64 0)).setCell ⟨b5, 1, none⟩ (.int .i64 0)).setCell ⟨b5, 2, none⟩ (.string ⟨#[]⟩)) = w' at k hbn; have kt : KpT (fun t => t ≠ 52) w w' := fun b cs t fr hb ht => (k.block b (zC hb) (by rintro rfl; rw [hb5] at hb; simp at hb; exact ht hb.2.1.symm)).trans hb
    exact ⟨hI.1.trans (Kp.below k hI.1.size (fun b hlt => by show b ≠ b5; omega)), fun h => (by rw [updL_ne L rfl, h22] at h; cases h), fun _ => ⟨b4, b5, cs, p4, p5, l4, l5, hgo.kpT kt (by decide) (by decide) (by decide) (by decide), (k.block b4 (zC hb4) hne).trans hb4, h14, fun _ => e33, fun h => (by rw [updL_eq] at h; cases h), fun _ => hbn⟩⟩)
   have c0 := zc 0 hb5; have c1 := zc 1 hb5; have c2 := zc 2 hb5; have f0 := zf 0 hb5; have f1 := zf 1 hb5; have f2 := zf 2 hb5; have lb := zC hb5; replace e33 : V 33 = .agg #[.int .i64 0, .int .i64 0, .string ⟨#[]⟩] := e33; clear hI hpre hL hw1 hw2 h22 hb4 hb5 h19 h23a p4 hne hgo h14; refine z7 rfl (fun K' hK => ?_); simp only [putV, Act.put, zq0, zq1, zq2]; go_simp; refine hK _ _ ⟨V, ?_, HI.out⟩; first | (simp only [putV, Act.put, zq0, zq1, zq2, p5, e33]; done) | (simp only [putV, Act.put, zq0, zq1, zq2, p5, e33]; rfl)
 case hend =>
  intro L V w hL hI; obtain ⟨b4, b5, cs, p4, p5, l4, l5, hgo, hb4, _, _, _, h23⟩ := hI.2.2 (hL 22 (by decide)); have hb5 := h23 (hL 23 (by decide)); have HB8 := zh (HB7.out.trans (hI.1.mono HB7.out.size)); have hgl := hGL.out w hI.1; obtain ⟨B, ta, tc, na, nc, pa, pc, ecs, _⟩ := id hgo; replace ecs := Value.agg.inj ecs; replace ecs : cs = #[.slice ta 5 tc, .slice na 2 nc, .slice pa 3 pc, .string ⟨#[]⟩, .string ⟨#[]⟩] := ecs; subst ecs; have HGO := zh hgo; have HB4 := zh hb4; have HB5 := zh hb5; have HGL8 := zh hgl; simp only [putV, Act.put, zq0, zq1, zq2, p4, p5]; clear hL hI hgo hb4 hb5 h23 hgl p4 p5; go_wp2_with fail; refine (gram_Of ⟨[], [], [], []⟩ (.slice none 0 0) (.slice none 0 0) w (decls_none _) (rules_none _) none_small HGL8.out).mono ?_; rw [Sp.wake_none]; intro e w8 hpo; obtain ⟨hb8, ta2, tc2, na2, nc2, pa2, pc2, rfl⟩ := ofPost_none hpo; clear hpo; dsimp only; have hk4 := (hb8.block b4 (zC HB4.out)).trans HB4.out; have hk5 := (hb8.block b5 (zC HB5.out)).trans HB5.out; have HGO8 := zh (HGO.out.below hb8); have HB48 := zh hk4; have hga := HGO8.out.at; obtain ⟨tv, nv, pv, ev, ht, hn, f, g', hp, hpi⟩ := hga; replace ev := Value.agg.inj ev; simp only [Array.mk.injEq, List.cons.injEq] at ev; obtain ⟨rfl, rfl, rfl, ev'⟩ := ev; clear ev'; obtain ⟨bt, ot, rfl, htb, htc⟩ := ht.at (k := 3) (row := tokC ⟨[43], true, 43, 1, 1, []⟩) (by rfl); obtain ⟨bp, op, rfl, hpb, hpc⟩ := hp.at (k := 1) (row := xF (f 1) (g' 1) ⟨1, [1001, 3, 1001], 3, [], [1001, 3, 1001], 0⟩) (by rfl); obtain ⟨bp', op', ebp, _, hpc2⟩ := hp.at (k := 2) (row := xF (f 2) (g' 2) ⟨1, [4], 4, [], [4], 0⟩) (by rfl); simp only [Option.some.injEq, Addr.mk.injEq, and_true] at ebp; obtain ⟨rfl, rfl⟩ := ebp; have hi1 := (hpi 1 ⟨1, [1001, 3, 1001], 3, [], [1001, 3, 1001], 0⟩ (by rfl)).1; obtain ⟨fa, fc, hf1⟩ := SlAt.form hi1; replace hf1 : f 1 = .slice fa 3 fc := hf1; have t2 := htc w8 (Below.refl _ _) 2 _ rfl; have t3 := htc w8 (Below.refl _ _) 3 _ rfl; have r1 := hpc w8 (Below.refl _ _) 1 _ rfl; have r2 := hpc w8 (Below.refl _ _) 2 _ rfl; have r3 := hpc2 w8 (Below.refl _ _) 2 _ rfl; simp only [Nat.reduceMul] at t2 t3 r1 r2 r3; rw [hf1] at r1 hi1; have c0 := zc 0 hk5; have k0 := zc 0 hk4; have k1 := zc 1 hk4; have k2 := zc 2 hk4; have k3 := zc 3 hk4; have k4 := zc 4 hk4; have l4' := zC hk4; have l5' := zC hk5; have HI1 := zh hi1; have HBB8 := zh hb8; clear ht hn hp hpi htc hpc hpc2 hi1 hf1 hk4 hk5 hb8; go_wp2_with fail; obtain ⟨w9, hw9⟩ : ∃ w9 : World, w9 = ((w8.alloc (.cells #[.slice ta2 0 tc2, .slice na2 0 nc2, .slice pa2 0 pc2, .string ⟨#[]⟩, .string ⟨#[]⟩] 39)).alloc (.cells #[.int .i64 1, .int .i64 0, .string ⟨#[]⟩] 52)).alloc (.cells #[.int .i64 1001, .int .i64 3, .int .i64 1001] 3) := ⟨_, rfl⟩
  rw [← hw9]; have h9 := three_c (W := w8) (w' := w9) (c1 := #[.slice ta2 0 tc2, .slice na2 0 nc2, .slice pa2 0 pc2, .string ⟨#[]⟩, .string ⟨#[]⟩]) (c2 := #[.int .i64 1, .int .i64 0, .string ⟨#[]⟩]) (c3 := #[.int .i64 1001, .int .i64 3, .int .i64 1001]) (t1 := 39) (t2 := 52) (t3 := 3) (by rw [hw9]; exact Below.refl _ _); have hb9 : Below w8.heap.size w8 w9 := by rw [hw9]; exact j6 w8 _ _ _
  refine (ref_EqInts _ _ [1001, 3, 1001] [1001, 3, 1001] w9 (SlAt.below HI1.out hb9) (slAt_block [intC 1001, intC 3, intC 1001] 1 (by simp [intC]) h9.2.2 (by simp [maxLen])) (by decide) (by decide)).mono ?_; rintro e w10 ⟨rfl, nn, hw10⟩; rw [show decide (([1001, 3, 1001] : List Int) = [1001, 3, 1001]) = true by decide]; have hb10 : Below w8.heap.size w8 w10 := by rw [hw10]; exact below_drewN hb9 nn
  have HBK10 : Hid (Below w8.heap.size w8 w10 ∧ w10.heap[b4]? = some (.cells #[.slice (some ⟨bt, ot, none⟩) 5 tc, .slice na 2 nc, .slice (some ⟨bp, op, none⟩) 3 pc, .string ⟨#[]⟩, .string ⟨#[]⟩] 39 (0, 0)) ∧ True) := zh ⟨hb10, (hb10.block b4 (zC HB48.out)).trans HB48.out, trivial⟩; replace r2 := (hb10.cell (p := ⟨bp, _, none⟩) hpb).trans r2; replace r3 := (hb10.cell (p := ⟨bp, _, none⟩) hpb).trans r3; have hpb10 := Nat.lt_of_lt_of_le hpb hb10.size; clear r1 c0 k0 k1 k2 k3 k4 t2 t3 h9 hb9 hw9 hw10 hb10 l4' l5' htb hpb; have k0 := zc 0 (HBK10.out.2.1); have k1 := zc 1 (HBK10.out.2.1); have k2 := zc 2 (HBK10.out.2.1); have k3 := zc 3 (HBK10.out.2.1); have k4 := zc 4 (HBK10.out.2.1); have l4' := zC HBK10.out.2.1; go_wp2_with fail
  refine (zDQ wakeG _ 4 w10 (by omega) (HGO8.out.at.below HBK10.out.1) (by decide) (by decide) (by
   intro t ht hl; cases ht
   exact ⟨120, rfl⟩)).mono ?_
  rintro e w11 ⟨rfl, hb11⟩; rw [show Sp.j7 wakeG 4 = [39, 120, 39] from by decide +kernel]; have HBK11 : Hid (Below w8.heap.size w8 w11 ∧ w11.heap[b4]? = some (.cells #[.slice (some ⟨bt, ot, none⟩) 5 tc, .slice na 2 nc, .slice (some ⟨bp, op, none⟩) 3 pc, .string ⟨#[]⟩, .string ⟨#[]⟩] 39 (0, 0)) ∧ True) := zh ⟨HBK10.out.1.trans (hb11.mono HBK10.out.1.size), (hb11.block b4 (zC HBK10.out.2.1)).trans HBK10.out.2.1, trivial⟩; clear k0 k1 k2 k3 k4 l4' hb11; have k0 := zc 0 (HBK11.out.2.1); have k1 := zc 1 (HBK11.out.2.1); have k2 := zc 2 (HBK11.out.2.1); have k3 := zc 3 (HBK11.out.2.1); have k4 := zc 4 (HBK11.out.2.1); have l4' := zC HBK11.out.2.1; go_wp2_with fail
  refine (zDQ wakeG _ 1001 w11 (by omega) (HGO8.out.at.below HBK11.out.1) (by decide) (by decide) (by
   intro t ht hl
   exact absurd ht (by rw [show wakeG.toks[(1001 : Int).toNat]? = none from by decide +kernel]; simp))).mono ?_
  rintro e w12 ⟨rfl, hb12⟩; rw [show Sp.j7 wakeG 1001 = [101] from by decide +kernel]; have HBK12 : Hid (Below w8.heap.size w8 w12 ∧ w12.heap[b4]? = some (.cells #[.slice (some ⟨bt, ot, none⟩) 5 tc, .slice na 2 nc, .slice (some ⟨bp, op, none⟩) 3 pc, .string ⟨#[]⟩, .string ⟨#[]⟩] 39 (0, 0)) ∧ True) := zh ⟨HBK11.out.1.trans (hb12.mono HBK11.out.1.size), (hb12.block b4 (zC HBK11.out.2.1)).trans HBK11.out.2.1, trivial⟩; clear k0 k1 k2 k3 k4 l4' hb12; have k0 := zc 0 (HBK12.out.2.1); have k1 := zc 1 (HBK12.out.2.1); have k2 := zc 2 (HBK12.out.2.1); have k3 := zc 3 (HBK12.out.2.1); have k4 := zc 4 (HBK12.out.2.1); have l4' := zC HBK12.out.2.1; go_wp2_with fail
  refine (zDQ wakeG _ 5 w12 (by omega) (HGO8.out.at.below HBK12.out.1) (by decide) (by decide) (by
   intro t ht hl
   exact absurd ht (by rw [show wakeG.toks[(5 : Int).toNat]? = none from by decide +kernel]; simp))).mono ?_
  rintro e w13 ⟨rfl, hb13⟩; rw [show Sp.j7 wakeG 5 = [] from by decide +kernel]; have HBK13 : Hid (Below w8.heap.size w8 w13 ∧ w13.heap[b4]? = some (.cells #[.slice (some ⟨bt, ot, none⟩) 5 tc, .slice na 2 nc, .slice (some ⟨bp, op, none⟩) 3 pc, .string ⟨#[]⟩, .string ⟨#[]⟩] 39 (0, 0)) ∧ True) := zh ⟨HBK12.out.1.trans (hb13.mono HBK12.out.1.size), (hb13.block b4 (zC HBK12.out.2.1)).trans HBK12.out.2.1, trivial⟩; clear k0 k1 k2 k3 k4 l4' hb13; have k0 := zc 0 (HBK13.out.2.1); have k1 := zc 1 (HBK13.out.2.1); have k2 := zc 2 (HBK13.out.2.1); have k3 := zc 3 (HBK13.out.2.1); have k4 := zc 4 (HBK13.out.2.1); have l4' := zC HBK13.out.2.1; go_wp2_with fail; go_ret; exact ⟨rfl, HB8.out.trans ((HBB8.out.mono HB8.out.size).trans (HBK13.out.1.mono (Nat.le_trans HB8.out.size HBB8.out.size)))⟩
end Go.Proofs.YtddnomjfcbplpaaGreatDoor
