import Derived.Deep.RegionWith
import Derived.Test.YtddnomjfcbplpaaGreatDoorZ04
namespace Go.Proofs.YtddnomjfcbplpaaGreatDoor
open Go.RowKit Go.ChangeShapes Go.WideShapes Go.Deep

def z6 (p : Sp.Part) : List Value := symC p.sym ++ [.string ⟨p.code.toArray⟩, .int .i64 p.at_]
def partV (p : Sp.Part) : Value := .agg (z6 p).toArray
def zDL (p : Sp.Part) : Prop := p.sym.name.length ≤ 4000 ∧ p.code.length ≤ 4000

set_option maxRecDepth 100000 in
set_option maxHeartbeats 3200000 in
theorem print_part (p : Sp.Part) (W : World) (hs : zDL p) (hg : Gl W) :
  Calls Tryz.prog 99 #[partV p] W fun e w' => e = .returned (.bool (Sp.xH p)) ∧ Below W.heap.size W w' := by
 obtain ⟨hs1, hs2⟩ := hs; have HBa := zh (fun w => print_bare p.sym w hs1); have HEm := zh (fun w => print_empty p.sym w); have HG := zh (fun o : Obj => hg.alloc o); have HB := zh (fun o : Obj => (Below.refl _ W).alloc (Nat.le_refl _) o); obtain ⟨⟨nm, lt, nu, pa⟩, cd, pb⟩ := p; simp only at hs1 hs2; show Calls _ _ #[.agg #[.string ⟨nm.toArray⟩, .bool lt, .int .i64 nu, .int .i64 pa, .string ⟨cd.toArray⟩, .int .i64 pb]] _ _
 have hq : Sp.xH ⟨⟨nm, lt, nu, pa⟩, cd, pb⟩ = if cd = [] then Sp.kW ⟨nm, lt, nu, pa⟩ else Sp.isNone ⟨nm, lt, nu, pa⟩ && decide (Sp.zAG cd 0 = (cd.length : Int)) := rfl
 by_cases hc : cd = []
 ·subst hc
  rw [hq, if_pos rfl]; clear hq HEm HG; go_enter Tryz.func99, Tryz.ntmps99
  go_wp2_with fail; refine (HBa.out _).mono ?_; rintro e w' ⟨rfl, hb⟩; have HB' := zh ((HB.out _).trans (hb.mono (by simp))); clear hb; go_wp2_with fail; go_ret; exact ⟨rfl, HB'.out⟩
 ·rw [hq, if_neg hc]
  obtain ⟨c, u, rfl⟩ : ∃ c u, cd = c :: u := by cases cd with | nil => exact absurd rfl hc | cons c u => exact ⟨c, u, rfl⟩
  have hne : (c :: u).isEmpty = false := rfl; have HE := zh (fun w hw => body_End ⟨(c :: u).toArray⟩ 0 w (by rw [Lib.size_eq]; show (c :: u).length < _; omega) hw); have hT : (⟨(c :: u).toArray⟩ : ByteArray).data.toList = c :: u := rfl; rw [hT] at HE; have hsz : (⟨(c :: u).toArray⟩ : ByteArray).size = u.length + 1 := by rw [Lib.size_eq]; rfl
  have hdec : decide (Sp.zAG (c :: u) 0 = ((c :: u).length : Int)) = (Sp.zAG (c :: u) 0 == ((u.length + 1 : Nat) : Int)) := rfl; rw [hdec]; generalize Sp.zAG (c :: u) 0 = E at HE; generalize Sp.isNone ⟨nm, lt, nu, pa⟩ = q at HEm; clear hq hc hT hdec HBa
  have hcs : ∀ w2, Below (W.heap.size + 1) (W.alloc (.cells #[.string ⟨nm.toArray⟩, .bool lt, .int .i64 nu, .int .i64 pa, .string ⟨(c :: u).toArray⟩, .int .i64 pb] 47)) w2 →
    w2.cell? ⟨W.heap.size, 0, none⟩ = some (.string ⟨nm.toArray⟩) ∧ w2.cell? ⟨W.heap.size, 1, none⟩ = some (.bool lt) ∧ w2.cell? ⟨W.heap.size, 2, none⟩ = some (.int .i64 nu) ∧ w2.cell? ⟨W.heap.size, 3, none⟩ = some (.int .i64 pa) ∧ w2.cell? ⟨W.heap.size, 4, none⟩ = some (.string ⟨(c :: u).toArray⟩) ∧ Below (W.heap.size + 1) (W.alloc (.cells #[.string ⟨nm.toArray⟩, .bool lt, .int .i64 nu, .int .i64 pa, .string ⟨(c :: u).toArray⟩, .int .i64 pb] 47)) w2 := fun w2 h => by
   have hF := (h.block W.heap.size (by omega)).trans (zE W _); exact ⟨zc 0 hF, zc 1 hF, zc 2 hF, zc 3 hF, zc 4 hF, h⟩
  have hself := hcs _ (Below.refl _ _); have hselfd := hcs _ (below_drewN (Below.refl _ _) 1); have HEm' := zh (fun W' (hW' : Below (W.heap.size + 1) (W.alloc (.cells #[.string ⟨nm.toArray⟩, .bool lt, .int .i64 nu, .int .i64 pa, .string ⟨(c :: u).toArray⟩, .int .i64 pb] 47)) W') => (HEm.out W').mono fun e w'' (h : e = .returned (.bool q) ∧ Below W'.heap.size W' w'') => And.intro h.1 (hcs w'' (hW'.trans (h.2.mono (by have := hW'.size; simp at this; omega))))); have HE' := zh (fun W' (hW' : Below (W.heap.size + 1) (W.alloc (.cells #[.string ⟨nm.toArray⟩, .bool lt, .int .i64 nu, .int .i64 pa, .string ⟨(c :: u).toArray⟩, .int .i64 pb] 47)) W') => (HE.out W' ((HG.out _).below (hW'.mono (by simp)))).mono fun e w'' (h : e = .returned (.int .i64 E) ∧ ∃ n, w'' = W'.drewN n) => And.intro h.1 (hcs w'' (by obtain ⟨n, hn⟩ := h.2; rw [hn]; exact below_drewN hW' n))); have HS1 := zh hself; have HS2 := zh hselfd; clear hcs HEm HE hself hselfd; have HFIN : Hid (∀ w2, Below (W.heap.size + 1) (W.alloc (.cells #[.string ⟨nm.toArray⟩, .bool lt, .int .i64 nu, .int .i64 pa, .string ⟨(c :: u).toArray⟩, .int .i64 pb] 47)) w2 → Below W.heap.size W w2) := zh (fun w2 h => (HB.out _).trans (h.mono (by omega)))
  cases q with
  | false =>
   go_enter Tryz.func99, Tryz.ntmps99
   go_wp2_with fail; first
   | (go_region_with (first
     | (go_at_call 95; refine (HEm'.out _ ?_).mono ?_; (first | assumption | exact HS2.out.2.2.2.2.2 | exact HS1.out.2.2.2.2.2); rintro e w' ⟨rfl, d1, d2, d3, d4, d5, d6⟩)
     | (go_at_call 108; refine (HE'.out _ ?_).mono ?_; (first | assumption | exact HS2.out.2.2.2.2.2 | exact HS1.out.2.2.2.2.2); rintro e w' ⟨rfl, d1, d2, d3, d4, d5, d6⟩)))
   | fail
   all_goals (go_wp2_with fail; go_ret; exact ⟨rfl, HFIN.out _ d6⟩)
  | true =>
   go_enter Tryz.func99, Tryz.ntmps99
   go_wp2_with fail; first
   | (go_region_with (first
     | (go_at_call 95; refine (HEm'.out _ ?_).mono ?_; (first | assumption | exact HS2.out.2.2.2.2.2 | exact HS1.out.2.2.2.2.2); rintro e w' ⟨rfl, d1, d2, d3, d4, d5, d6⟩)
     | (go_at_call 108; refine (HE'.out _ ?_).mono ?_; (first | assumption | exact HS2.out.2.2.2.2.2 | exact HS1.out.2.2.2.2.2); rintro e w' ⟨rfl, d1, d2, d3, d4, d5, d6⟩)))
   | fail
   all_goals (go_wp2_with fail; go_ret; exact ⟨zK (by simp), HFIN.out _ d6⟩)

set_option maxHeartbeats 800000 in
theorem print_alt1 (p : Sp.Part) (W : World) (hs : zDL p) (hg : Gl W) :
  Calls Tryz.prog 98 #[partV p] W fun e w' => e = .returned (.bool (!Sp.xH p)) ∧ Below W.heap.size W w' := by
 have HP := zh (fun w hw => print_part p w hs hw); have HB := zh (fun o : Obj => (Below.refl _ W).alloc (Nat.le_refl _) o); have HG := zh (fun o : Obj => hg.alloc o); generalize Sp.xH p = q at HP; obtain ⟨⟨nm, lt, nu, pa⟩, cd, pb⟩ := p; clear hs; show Calls _ _ #[.agg #[.string ⟨nm.toArray⟩, .bool lt, .int .i64 nu, .int .i64 pa, .string ⟨cd.toArray⟩, .int .i64 pb]] _ _
 go_enter Tryz.func98, Tryz.ntmps98
 go_wp2_with fail; refine (HP.out _ (HG.out _)).mono ?_; rintro e w' ⟨rfl, hb⟩; have HB' := zh ((HB.out _).trans (hb.mono (by simp))); clear hb; go_wp2_with fail; go_ret; exact ⟨rfl, HB'.out⟩

def altC (v : Value) (a : Sp.Alt) : List Value := v :: (symC a.prec ++ [.int .i64 a.at_])
def zBD (a : Sp.Alt) : Prop := a.parts.length ≤ 4000 ∧ (∀ p ∈ a.parts, zDL p) ∧ a.prec.name.length ≤ 4000
theorem zDT {α : Type} (f : α → Bool) (g : Nat → Bool) : ∀ (l : List α) (n : Nat), n = l.length → (∀ i x, l[i]? = some x → g i = !f x) → (List.range n).any g = !l.all f := by
 intro l n hn hg; subst hn; rw [Bool.eq_iff_iff, List.any_eq_true]; simp only [List.mem_range, Bool.not_eq_true', List.all_eq_false]; constructor
 ·rintro ⟨i, hi, h⟩
  refine ⟨l[i], List.getElem_mem hi, ?_⟩; rw [hg i l[i] (List.getElem?_eq_getElem hi)] at h; simpa using h
 ·rintro ⟨x, hx, h⟩
  obtain ⟨i, hi, rfl⟩ := List.getElem_of_mem hx; refine ⟨i, hi, ?_⟩; rw [hg i l[i] (List.getElem?_eq_getElem hi)]; simpa using h
theorem parts_bad (ps : List Sp.Part) (v : Value) (w : World) (hsl : SlAt w v 6 (ps.map z6)) (hl : ps.length ≤ 4000) (hs : ∀ p ∈ ps, zDL p) (hg : Gl w) :
  Calls Tryz.prog 97 #[v, .func (.func 98) #[] #[]] w fun e w' => e = .returned (.bool (!ps.all Sp.xH)) ∧ Below w.heap.size w w' := by
 have h := contains_Part v (ps.map z6) (fun i => !((ps[i]?.map Sp.xH).getD true)) w hsl (by
  intro row hr; simp only [List.mem_map] at hr; obtain ⟨p, _, rfl⟩ := hr
  rfl) (by rw [List.length_map]; omega) (fun i row hr W hW => by
   rw [List.getElem?_map] at hr; obtain ⟨p, hp, rfl⟩ := Option.map_eq_some_iff.1 hr; have h1 := print_alt1 p W (hs p (List.mem_of_getElem? hp)) (hg.below hW); simp only [hp, Option.map_some, Option.getD_some]
   exact h1)
 rw [List.length_map, zDT Sp.xH _ ps _ rfl (fun i x hx => by simp [hx])] at h; exact h

set_option maxRecDepth 100000 in
set_option maxHeartbeats 3200000 in
theorem print_alt (a : Sp.Alt) (v : Value) (W : World) (hsl : SlAt W v 6 (a.parts.map z6)) (hs : zBD a) (hg : Gl W) :
  Calls Tryz.prog 81 #[.agg (altC v a).toArray] W fun e w' => e = .returned (.bool (Sp.qZ a)) ∧ Below W.heap.size W w' := by
 obtain ⟨hs1, hs2, hs3⟩ := hs; have HE := zh (fun w => print_empty a.prec w); have HBa := zh (fun w => print_bare a.prec w hs3); have HC := zh (fun w' (hb : Below W.heap.size W w') => parts_bad a.parts v w' (hsl.below hb) hs1 hs2 (hg.below hb)); have HB := zh (fun o : Obj => (Below.refl _ W).alloc (Nat.le_refl _) o); have hq : Sp.qZ a = ((Sp.isNone a.prec || Sp.kW a.prec) && a.parts.all Sp.xH) := rfl; rw [hq]; generalize Sp.isNone a.prec = q1 at HE; generalize Sp.kW a.prec = q2 at HBa; generalize a.parts.all Sp.xH = q3 at HC; obtain ⟨ps, ⟨nm, lt, nu, pa⟩, pb⟩ := a; clear hq hs1 hs2 hs3; obtain ⟨av, cap, rfl⟩ := hsl.form; generalize (ps.map z6).length = n at *
 clear hsl; show Calls _ _ #[.agg #[.slice av n cap, .string ⟨nm.toArray⟩, .bool lt, .int .i64 nu, .int .i64 pa, .int .i64 pb]] _ _
 go_enter Tryz.func81, Tryz.ntmps81
 go_wp2_with fail; refine (HE.out _).mono ?_; rintro e w1 ⟨rfl, hb1⟩; have hF1 := (hb1.block W.heap.size (by simp)).trans (zE W _); have HB1 := zh ((HB.out _).trans (hb1.mono (by simp))); have hs1 := hb1.size; simp only [World.size_alloc] at hs1; have hl1 : W.heap.size < w1.heap.size := by omega
 have c0 := zc 0 hF1; have c1 := zc 1 hF1; have c2 := zc 2 hF1; have c3 := zc 3 hF1; have c4 := zc 4 hF1; have HF1 := zh hF1; clear hb1 hF1
 cases q1 with
 | true =>
  go_wp2_with fail; refine (HC.out _ HB1.out).mono ?_; rintro e w2 ⟨rfl, hb2⟩; have HB2 := zh (HB1.out.trans (hb2.mono HB1.out.size)); clear hb2; go_wp2_with fail; go_ret; exact ⟨zK (by simp), HB2.out⟩
 | false =>
  go_wp2_with fail; refine (HBa.out _).mono ?_; rintro e w2 ⟨rfl, hb2⟩; have hF2 := (hb2.block W.heap.size (by omega)).trans HF1.out; have HB2 := zh (HB1.out.trans (hb2.mono HB1.out.size)); have d0 := zc 0 hF2; have hl2 : W.heap.size < w2.heap.size := zC hF2; clear hb2 hF2
  cases q2 with
  | false =>
   go_wp2_with fail; go_ret; exact ⟨rfl, HB2.out⟩
  | true =>
   go_wp2_with fail; refine (HC.out _ HB2.out).mono ?_; rintro e w3 ⟨rfl, hb3⟩; have HB3 := zh (HB2.out.trans (hb3.mono HB2.out.size)); clear hb3; go_wp2_with fail; go_ret; exact ⟨zK (by simp), HB3.out⟩

set_option maxHeartbeats 800000 in
theorem print_rule1 (a : Sp.Alt) (v : Value) (W : World) (hsl : SlAt W v 6 (a.parts.map z6)) (hs : zBD a) (hg : Gl W) :
  Calls Tryz.prog 80 #[.agg (altC v a).toArray] W fun e w' => e = .returned (.bool (!Sp.qZ a)) ∧ Below W.heap.size W w' := by
 have HP := zh (fun w' (hb : Below W.heap.size W w') => print_alt a v w' (hsl.below hb) hs (hg.below hb)); have HB := zh (fun o : Obj => (Below.refl _ W).alloc (Nat.le_refl _) o); generalize Sp.qZ a = q at HP; obtain ⟨ps, ⟨nm, lt, nu, pa⟩, pb⟩ := a; obtain ⟨av, cap, rfl⟩ := hsl.form; generalize (ps.map z6).length = n at *
 clear hs hsl; show Calls _ _ #[.agg #[.slice av n cap, .string ⟨nm.toArray⟩, .bool lt, .int .i64 nu, .int .i64 pa, .int .i64 pb]] _ _
 go_enter Tryz.func80, Tryz.ntmps80
 go_wp2_with fail; refine (HP.out _ (HB.out _)).mono ?_; rintro e w' ⟨rfl, hb⟩; have HB' := zh ((HB.out _).trans (hb.mono (by simp))); clear hb; go_wp2_with fail; go_ret; exact ⟨rfl, HB'.out⟩

def j4 (w : World) (v : Value) (al : List Sp.Alt) : Prop := ∃ f : Nat → Value, SlAt w v 6 (al.mapIdx fun i a => altC (f i) a) ∧ ∀ (i : Nat) (a : Sp.Alt), al[i]? = some a → SlAt w (f i) 6 (a.parts.map z6)
theorem j4.below {w w' : World} {v : Value} {al : List Sp.Alt} (h : j4 w v al) (hb : Below w.heap.size w w') : j4 w' v al := by
 obtain ⟨f, h1, h2⟩ := h; exact ⟨f, h1.below hb, fun i a ha => (h2 i a ha).below hb⟩
theorem alts_bad (al : List Sp.Alt) (v : Value) (w : World) (hsl : j4 w v al) (hl : al.length ≤ 4000) (hs : ∀ a ∈ al, zBD a) (hg : Gl w) :
  Calls Tryz.prog 79 #[v, .func (.func 80) #[] #[]] w fun e w' => e = .returned (.bool (!al.all Sp.qZ)) ∧ Below w.heap.size w w' := by
 obtain ⟨f, h1, h2⟩ := hsl
 have h := contains_Alt v _ (fun i => !((al[i]?.map Sp.qZ).getD true)) w h1 (by
  intro row hr; rw [List.mem_iff_getElem?] at hr; obtain ⟨i, hi⟩ := hr; rw [List.getElem?_mapIdx] at hi; obtain ⟨a, _, rfl⟩ := Option.map_eq_some_iff.1 hi
  rfl) (by rw [List.length_mapIdx]; omega) (fun i row hr W hW => by
   rw [List.getElem?_mapIdx] at hr; obtain ⟨a, ha, rfl⟩ := Option.map_eq_some_iff.1 hr; have h3 := print_rule1 a (f i) W ((h2 i a ha).below hW) (hs a (List.mem_of_getElem? ha)) (hg.below hW); simp only [ha, Option.map_some, Option.getD_some]
   exact h3)
 rw [List.length_mapIdx, zDT Sp.qZ _ al _ rfl (fun i x hx => by simp [hx])] at h; exact h

def qT (v : Value) (r : Sp.Rule) : List Value := [.string ⟨r.left.toArray⟩, v, .int .i64 r.at_]
def zDK (r : Sp.Rule) : Prop := r.left.length ≤ 4000 ∧ r.alts.length ≤ 4000 ∧ ∀ a ∈ r.alts, zBD a
theorem j4.form {w : World} {v : Value} {al : List Sp.Alt} (h : j4 w v al) : ∃ a cap, v = .slice a al.length cap := by
 obtain ⟨f, h1, _⟩ := h; obtain ⟨a, cap, hv⟩ := h1.form; rw [List.length_mapIdx] at hv; exact ⟨a, cap, hv⟩

set_option maxHeartbeats 1600000 in
theorem print_rule (r : Sp.Rule) (v : Value) (W : World) (hsl : j4 W v r.alts) (hs : zDK r) (hg : Gl W) :
  Calls Tryz.prog 63 #[.agg (qT v r).toArray] W fun e w' => e = .returned (.bool (Sp.qL r)) ∧ Below W.heap.size W w' := by
 obtain ⟨hs1, hs2, hs3⟩ := hs; have HN := zh (fun w => body_Name ⟨r.left.toArray⟩ w (by rw [Lib.size_eq]; show r.left.length < _; omega)); have HT : (⟨r.left.toArray⟩ : ByteArray).data.toList = r.left := rfl; rw [HT] at HN; have HC := zh (fun w' (hb : Below W.heap.size W w') => alts_bad r.alts v w' (hsl.below hb) hs2 hs3 (hg.below hb)); have HB := zh (fun o : Obj => (Below.refl _ W).alloc (Nat.le_refl _) o); have hq : Sp.qL r = (Sp.xI r.left && decide (0 < r.alts.length) && r.alts.all Sp.qZ) := rfl; rw [hq]; obtain ⟨av, cap, rfl⟩ := hsl.form; generalize Sp.xI r.left = q1 at HN; generalize r.alts.all Sp.qZ = q3 at HC; generalize hn : r.alts.length = n at *
 obtain ⟨lf, al, pb⟩ := r; clear hq hs1 hs3 hsl hn HT; show Calls _ _ #[.agg #[.string ⟨lf.toArray⟩, .slice av n cap, .int .i64 pb]] _ _
 cases q1 with
 | false =>
  go_enter Tryz.func63, Tryz.ntmps63
  go_wp2_with (go_at_call 76; refine (HN.out _).mono ?_; rintro e w' ⟨rfl, rfl⟩)
  go_ret; exact ⟨rfl, HB.out _⟩
 | true =>
  by_cases h0 : n = 0
  ·subst h0
   go_enter Tryz.func63, Tryz.ntmps63
   go_wp2_with (go_at_call 76; refine (HN.out _).mono ?_; rintro e w' ⟨rfl, rfl⟩)
   go_ret; exact ⟨rfl, HB.out _⟩
  ·have hp : (0 : Int) < (n : Int) := by omega
   have hd : decide (0 < n) = true := by rw [decide_eq_true_iff]; omega
   rw [hd]; clear hd; go_enter Tryz.func63, Tryz.ntmps63
   go_wp2_with (go_at_call 76; refine (HN.out _).mono ?_; rintro e w' ⟨rfl, rfl⟩)
   refine (HC.out _ (HB.out _)).mono ?_; rintro e w2 ⟨rfl, hb2⟩; have HB2 := zh ((HB.out _).trans (hb2.mono (by simp))); clear hb2; go_wp2_with fail; go_ret; exact ⟨zK (by simp), HB2.out⟩

set_option maxHeartbeats 800000 in
theorem print_May2 (r : Sp.Rule) (v : Value) (W : World) (hsl : j4 W v r.alts) (hs : zDK r) (hg : Gl W) :
  Calls Tryz.prog 62 #[.agg (qT v r).toArray] W fun e w' => e = .returned (.bool (!Sp.qL r)) ∧ Below W.heap.size W w' := by
 have HP := zh (fun w' (hb : Below W.heap.size W w') => print_rule r v w' (hsl.below hb) hs (hg.below hb)); have HB := zh (fun o : Obj => (Below.refl _ W).alloc (Nat.le_refl _) o); generalize Sp.qL r = q at HP; obtain ⟨lf, al, pb⟩ := r; obtain ⟨av, cap, rfl⟩ := hsl.form; generalize al.length = n at *
 clear hs hsl; show Calls _ _ #[.agg #[.string ⟨lf.toArray⟩, .slice av n cap, .int .i64 pb]] _ _
 go_enter Tryz.func62, Tryz.ntmps62
 go_wp2_with fail; refine (HP.out _ (HB.out _)).mono ?_; rintro e w' ⟨rfl, hb⟩; have HB' := zh ((HB.out _).trans (hb.mono (by simp))); clear hb; go_wp2_with fail; go_ret; exact ⟨rfl, HB'.out⟩

def xA (w : World) (v : Value) (rs : List Sp.Rule) : Prop := ∃ f : Nat → Value, SlAt w v 3 (rs.mapIdx fun i r => qT (f i) r) ∧ ∀ (i : Nat) (r : Sp.Rule), rs[i]? = some r → j4 w (f i) r.alts
theorem xA.below {w w' : World} {v : Value} {rs : List Sp.Rule} (h : xA w v rs) (hb : Below w.heap.size w w') : xA w' v rs := by
 obtain ⟨f, h1, h2⟩ := h; exact ⟨f, h1.below hb, fun i a ha => (h2 i a ha).below hb⟩
theorem xA.form {w : World} {v : Value} {rs : List Sp.Rule} (h : xA w v rs) : ∃ a cap, v = .slice a rs.length cap := by
 obtain ⟨f, h1, _⟩ := h; obtain ⟨a, cap, hv⟩ := h1.form; rw [List.length_mapIdx] at hv; exact ⟨a, cap, hv⟩
theorem rules_bad (rs : List Sp.Rule) (v : Value) (w : World) (hsl : xA w v rs) (hl : rs.length ≤ 4000) (hs : ∀ r ∈ rs, zDK r) (hg : Gl w) :
  Calls Tryz.prog 61 #[v, .func (.func 62) #[] #[]] w fun e w' => e = .returned (.bool (!rs.all Sp.qL)) ∧ Below w.heap.size w w' := by
 obtain ⟨f, h1, h2⟩ := hsl
 have h := contains_Rule v _ (fun i => !((rs[i]?.map Sp.qL).getD true)) w h1 (by
  intro row hr; rw [List.mem_iff_getElem?] at hr; obtain ⟨i, hi⟩ := hr; rw [List.getElem?_mapIdx] at hi; obtain ⟨a, _, rfl⟩ := Option.map_eq_some_iff.1 hi
  rfl) (by rw [List.length_mapIdx]; omega) (fun i row hr W hW => by
   rw [List.getElem?_mapIdx] at hr; obtain ⟨a, ha, rfl⟩ := Option.map_eq_some_iff.1 hr; have h3 := print_May2 a (f i) W ((h2 i a ha).below hW) (hs a (List.mem_of_getElem? ha)) (hg.below hW); simp only [ha, Option.map_some, Option.getD_some]
   exact h3)
 rw [List.length_mapIdx, zDT Sp.qL _ rs _ rfl (fun i x hx => by simp [hx])] at h; exact h

def xP (v : Value) (d : Sp.Decl) : List Value := [.int .i64 d.kind, .string ⟨d.tag.toArray⟩, v, .int .i64 d.at_]
set_option maxHeartbeats 800000 in
theorem print_May1 (d : Sp.Decl) (v : Value) (W : World) (hsl : SlAt W v 4 (d.syms.map symC)) (hs : zBC d) :
  Calls Tryz.prog 59 #[.agg (xP v d).toArray] W fun e w' => e = .returned (.bool (!Sp.yF d)) ∧ Below W.heap.size W w' := by
 have HP := zh (fun w' (hb : Below W.heap.size W w') => print_decl d v w' (hsl.below hb) hs); have HB := zh (fun o : Obj => (Below.refl _ W).alloc (Nat.le_refl _) o); generalize Sp.yF d = q at HP; obtain ⟨kd, tg, sy, pa⟩ := d; obtain ⟨av, cap, rfl⟩ := hsl.form; generalize (sy.map symC).length = n at *
 clear hs hsl; show Calls _ _ #[.agg #[.int .i64 kd, .string ⟨tg.toArray⟩, .slice av n cap, .int .i64 pa]] _ _
 go_enter Tryz.func59, Tryz.ntmps59
 go_wp2_with fail; refine (HP.out _ (HB.out _)).mono ?_; rintro e w' ⟨rfl, hb⟩; have HB' := zh ((HB.out _).trans (hb.mono (by simp))); clear hb; go_wp2_with fail; go_ret; exact ⟨rfl, HB'.out⟩

def xD (w : World) (v : Value) (ds : List Sp.Decl) : Prop := ∃ f : Nat → Value, SlAt w v 4 (ds.mapIdx fun i d => xP (f i) d) ∧ ∀ (i : Nat) (d : Sp.Decl), ds[i]? = some d → SlAt w (f i) 4 (d.syms.map symC)
theorem xD.below {w w' : World} {v : Value} {ds : List Sp.Decl} (h : xD w v ds) (hb : Below w.heap.size w w') : xD w' v ds := by
 obtain ⟨f, h1, h2⟩ := h; exact ⟨f, h1.below hb, fun i a ha => (h2 i a ha).below hb⟩
theorem xD.form {w : World} {v : Value} {ds : List Sp.Decl} (h : xD w v ds) : ∃ a cap, v = .slice a ds.length cap := by
 obtain ⟨f, h1, _⟩ := h; obtain ⟨a, cap, hv⟩ := h1.form; rw [List.length_mapIdx] at hv; exact ⟨a, cap, hv⟩
theorem decls_bad (ds : List Sp.Decl) (v : Value) (w : World) (hsl : xD w v ds) (hl : ds.length ≤ 4000) (hs : ∀ d ∈ ds, zBC d) :
  Calls Tryz.prog 58 #[v, .func (.func 59) #[] #[]] w fun e w' => e = .returned (.bool (!ds.all Sp.yF)) ∧ Below w.heap.size w w' := by
 obtain ⟨f, h1, h2⟩ := hsl
 have h := contains_Decl v _ (fun i => !((ds[i]?.map Sp.yF).getD true)) w h1 (by
  intro row hr; rw [List.mem_iff_getElem?] at hr; obtain ⟨i, hi⟩ := hr; rw [List.getElem?_mapIdx] at hi; obtain ⟨a, _, rfl⟩ := Option.map_eq_some_iff.1 hi
  rfl) (by rw [List.length_mapIdx]; omega) (fun i row hr W hW => by
   rw [List.getElem?_mapIdx] at hr; obtain ⟨a, ha, rfl⟩ := Option.map_eq_some_iff.1 hr; have h3 := print_May1 a (f i) W ((h2 i a ha).below hW) (hs a (List.mem_of_getElem? ha)); simp only [ha, Option.map_some, Option.getD_some]
   exact h3)
 rw [List.length_mapIdx, zDT Sp.yF _ ds _ rfl (fun i x hx => by simp [hx])] at h; exact h

def srcC (vd vr : Value) (x : Sp.zM) : List Value := [.string ⟨x.pro.toArray⟩, vd, vr, .string ⟨x.tail.toArray⟩]
def xN (x : Sp.zM) : Prop := x.pro.length ≤ 4000 ∧ x.tail.length ≤ 4000 ∧ x.decls.length ≤ 4000 ∧ x.rules.length ≤ 4000 ∧ (∀ d ∈ x.decls, zBC d) ∧ ∀ r ∈ x.rules, zDK r
theorem zDU (s sub : ByteArray) (w : World) (hs : s.size < 4294967281) (hg : Gl w) :
  Calls Tryz.prog 57 #[.string s, .string sub] w fun e w' => e = .returned (.bool (decide (0 ≤ Lib.index s.data.toList sub.data.toList))) ∧ ∃ n, w' = w.drewN n := by
 obtain ⟨m, hm⟩ := hg.1; exact (Tryz.strings_Contains s sub m w hs hm).mono fun _ _ ⟨h1, h2⟩ => ⟨h1, 0, h2⟩

set_option maxRecDepth 100000 in
set_option maxHeartbeats 3200000 in
theorem print_May (x : Sp.zM) (vd vr : Value) (W : World) (hd : xD W vd x.decls) (hr : xA W vr x.rules) (hs : xN x) (hg : Gl W) :
  Calls Tryz.prog 37 #[.agg (srcC vd vr x).toArray] W fun e w' => e = .returned (.bool (Sp.may x)) ∧ Below W.heap.size W w' := by
 obtain ⟨hs1, hs2, hs3, hs4, hs5, hs6⟩ := hs; have HC := zh (fun w hw => zDU ⟨x.pro.toArray⟩ ⟨#[37, 125]⟩ w (by rw [Lib.size_eq]; show x.pro.length < _; omega) hw); have HT : (⟨x.pro.toArray⟩ : ByteArray).data.toList = x.pro := rfl; have HT2 : (⟨#[37, 125]⟩ : ByteArray).data.toList = [37, 125] := rfl; rw [HT, HT2] at HC; have HD := zh (fun w' (hb : Below W.heap.size W w') => decls_bad x.decls vd w' (hd.below hb) hs3 hs5); have HR := zh (fun w' (hb : Below W.heap.size W w') => rules_bad x.rules vr w' (hr.below hb) hs4 hs6 (hg.below hb)); have HB := zh (fun o : Obj => (Below.refl _ W).alloc (Nat.le_refl _) o); have HG := zh (fun o : Obj => hg.alloc o); have hq : Sp.may x = (!decide (0 ≤ Lib.index x.pro [37, 125]) && decide (0 < x.rules.length) && x.decls.all Sp.yF && x.rules.all Sp.qL) := rfl; rw [hq]; obtain ⟨ad, cd, rfl⟩ := hd.form; obtain ⟨ar, cr, rfl⟩ := hr.form; generalize decide (0 ≤ Lib.index x.pro [37, 125]) = q1 at HC; generalize x.decls.all Sp.yF = q3 at HD; generalize x.rules.all Sp.qL = q4 at HR; generalize hn : x.rules.length = n at *
 generalize hm : x.decls.length = m at *
 obtain ⟨pr, ds, rs, tl⟩ := x; clear hq hs1 hs2 hs3 hs5 hs6 hd hr hn hm HT HT2; show Calls _ _ #[.agg #[.string ⟨pr.toArray⟩, .slice ad m cd, .slice ar n cr, .string ⟨tl.toArray⟩]] _ _
 cases q1 with
 | true =>
  go_enter Tryz.func37, Tryz.ntmps37
  go_wp2_with fail; refine (HC.out _ (HG.out _)).mono ?_; rintro e w1 ⟨rfl, nn, rfl⟩; go_wp2_with fail; go_ret; exact ⟨rfl, below_drewN (HB.out _) _⟩
 | false =>
  by_cases h0 : n = 0
  ·subst h0
   go_enter Tryz.func37, Tryz.ntmps37
   go_wp2_with fail; refine (HC.out _ (HG.out _)).mono ?_; rintro e w1 ⟨rfl, nn, rfl⟩; go_wp2_with fail; go_ret; exact ⟨rfl, below_drewN (HB.out _) _⟩
  ·have hp : (0 : Int) < (n : Int) := by omega
   have hdd : decide (0 < n) = true := by rw [decide_eq_true_iff]; omega
   rw [hdd]; clear hdd; go_enter Tryz.func37, Tryz.ntmps37
   go_wp2_with fail; refine (HC.out _ (HG.out _)).mono ?_; rintro e w1 ⟨rfl, nn, rfl⟩; go_wp2_with fail; refine (HD.out _ (below_drewN (HB.out _) _)).mono ?_; rintro e w2 ⟨rfl, hb2⟩; have hF2 := (hb2.block W.heap.size (by simp)).trans (zE W _); have HB2 := zh ((below_drewN (HB.out _) nn).trans (hb2.mono (by simp))); have c2 := zc 2 hF2; have hl2 : W.heap.size < w2.heap.size := zC hF2; clear hb2 hF2
   cases q3 with
   | false =>
    go_wp2_with fail; go_ret; exact ⟨rfl, HB2.out⟩
   | true =>
    go_wp2_with fail; refine (HR.out _ HB2.out).mono ?_; rintro e w3 ⟨rfl, hb3⟩; have HB3 := zh (HB2.out.trans (hb3.mono HB2.out.size)); clear hb3; go_wp2_with fail; go_ret; exact ⟨zK (by simp), HB3.out⟩


section
variable {H : Type} {enc : TypeId × Value → H} {w : World} {base : Nat} {spare : Nat → Bool} {held : Bool}
theorem vP {S E : TypeId} (size : Nat) (hS : Tryz.prog.underlying S = some (.slice E)) (hE : Tryz.prog.cellsOf E = size) {T : Type} [Inhabited T] (rowOf : T → List Value) (good : T → Prop)
  (hrow : ∀ t, (rowOf t).length = size) (hpos : 0 < size)
  (helem : ∀ (n : Nat) (cs : List Value) (y : DataW H × List MemPlace), DataW.trod enc Tryz.prog w base spare held n E cs = some y → ∃ t, cs = rowOf t ∧ good t)
  {fuel : Nat} {cs : List Value} {x : DataW H × List MemPlace} (h : DataW.trod enc Tryz.prog w base spare held fuel S cs = some x) :
  ∃ (v : Value) (ts : List T), cs = [v] ∧ SlAt w v size (ts.map rowOf) ∧ ts.length ≤ maxLen ∧ ∀ t ∈ ts, good t := by
 rcases open_slice hS h with ⟨h0, _⟩ | ⟨a, len, cap, m, n, D, Pl, hcs, hb, hl, hm, hmm, hx, hi⟩
 ·exact ⟨_, [], h0, .inl ⟨rfl, none, 0, rfl⟩, by simp, by simp⟩
 ·have hlm : len ≤ m := by rw [hmm]; split <;> omega
  have key : ∀ i, ∃ t : T, i < len → (∀ j u, (rowOf t)[j]? = some u → w.cell? (a.add (i * size + j)) = some u) ∧ good t := by
   intro i; by_cases hil : i < len
   ·obtain ⟨cs', hc, ht'⟩ := hi i (by omega)
    rw [hE] at hc; obtain ⟨t, rfl, hg⟩ := helem _ _ _ ht'; obtain ⟨_, hcl, hat⟩ := World.cells?_some hc; refine ⟨t, fun _ => ⟨fun j u hu => ?_, hg⟩⟩; have hj : j < size := by rw [← hrow t]; exact (List.getElem?_eq_some_iff.1 hu).1
    rw [← Go.Deep.add_add, hat j hj, hu]
   ·exact ⟨default, fun h => absurd h hil⟩
  obtain ⟨f, hf⟩ := Classical.axiomOfChoice key; refine ⟨_, (List.range len).map f, hcs, ?_, by simp; omega, ?_⟩
  ·by_cases hz : len = 0
   ·subst hz
    exact .inl ⟨rfl, _, _, rfl⟩
   ·obtain ⟨b, off, spot⟩ := a
    obtain ⟨A0, hu0⟩ : ∃ u, (rowOf (f 0))[0]? = some u := ⟨_, List.getElem?_eq_getElem (by rw [hrow]; exact hpos)⟩
    have h0 := (hf 0 (by omega)).1 0 _ hu0; have hsp : spot = none := by simpa [Addr.add] using World.cell?_spot h0
    subst hsp; refine .inr ⟨b, off, cap, by simp, ?_, fun i r hr j u hu => ?_⟩
    ·have := lt_at_cell h0
     simpa [Addr.add] using this
    ·simp only [List.map_map, List.getElem?_map, Option.map_eq_some_iff] at hr
     obtain ⟨i', hi', rfl⟩ := hr; obtain ⟨hil, rfl⟩ := List.getElem?_eq_some_iff.1 hi'; simp only [List.length_range] at hil; simp only [List.getElem_range, Function.comp] at hu; have := (hf i hil).1 j u hu; rw [show (⟨b, off, none⟩ : Addr).add (i * size + j) = ⟨b, off + i * size + j, none⟩ by unfold Addr.add; split <;> simp_all [Nat.add_assoc]] at this; exact this
  ·intro p hp
   simp only [List.mem_map, List.mem_range] at hp; obtain ⟨i, hi, rfl⟩ := hp; exact (hf i hi).2

theorem zBW : Tryz.prog.cellsOf 3 = 1 := by kernel_rfl
theorem one_str : Tryz.prog.cellsOf 9 = 1 := by kernel_rfl
theorem one_bool : Tryz.prog.cellsOf 4 = 1 := by kernel_rfl
theorem zDS : Tryz.prog.cellsOf 45 = 4 := by kernel_rfl
theorem cells_part : Tryz.prog.cellsOf 47 = 6 := by kernel_rfl
theorem cells_alt : Tryz.prog.cellsOf 60 = 6 := by kernel_rfl
theorem cells_rule : Tryz.prog.cellsOf 63 = 3 := by kernel_rfl
theorem cells_decl : Tryz.prog.cellsOf 57 = 4 := by kernel_rfl
theorem cells_source : Tryz.prog.cellsOf 25 = 4 := by kernel_rfl
theorem one_syms : Tryz.prog.cellsOf 55 = 1 := by kernel_rfl
theorem one_parts : Tryz.prog.cellsOf 58 = 1 := by kernel_rfl
theorem one_alts : Tryz.prog.cellsOf 61 = 1 := by kernel_rfl
theorem one_rules : Tryz.prog.cellsOf 23 = 1 := by kernel_rfl
theorem one_decls : Tryz.prog.cellsOf 22 = 1 := by kernel_rfl

theorem six {α : Type} (l : List α) (h : l.length = 6) : ∃ a b c d e f, l = [a, b, c, d, e, f] := by
 rcases l with _ | ⟨a, _ | ⟨b, _ | ⟨c, _ | ⟨d, _ | ⟨e, _ | ⟨f, _ | ⟨g, l⟩⟩⟩⟩⟩⟩⟩ <;> simp at h
 exact ⟨a, b, c, d, e, f, rfl⟩
theorem three {α : Type} (l : List α) (h : l.length = 3) : ∃ a b c, l = [a, b, c] := by
 rcases l with _ | ⟨a, _ | ⟨b, _ | ⟨c, _ | ⟨d, l⟩⟩⟩⟩ <;> simp at h
 exact ⟨a, b, c, rfl⟩

def i64ok (n : Int) : Prop := -9223372036854775808 ≤ n ∧ n ≤ 9223372036854775807
theorem zAD {n : Int} (h : (Lit.int .i64 n).wf = true) : i64ok n := by
 simpa [i64ok, Lit.wf, IntKind.min, IntKind.max, IntKind.signed, IntKind.bits] using h
def bigSym (s : Sp.Sym) : Prop := s.name.length ≤ maxLen ∧ i64ok s.num ∧ i64ok s.at_
theorem open_sym {n : Nat} {cs : List Value} {y : DataW H × List MemPlace} (h : DataW.trod enc Tryz.prog w base spare held n 45 cs = some y) : ∃ t, cs = symC t ∧ bigSym t := by
 obtain ⟨ys, n', _, _, hlen, hyl, hf⟩ := DataW.trod_struct Tryz.underlying45 h; rw [zDS] at hlen; obtain ⟨c0, c1, c2, c3, rfl⟩ := four cs hlen; obtain ⟨y0, y1, y2, y3, rfl⟩ := four ys (by simpa using hyl); have g0 := hf 0 _ rfl; have g1 := hf 1 _ rfl; have g2 := hf 2 _ rfl; have g3 := hf 3 _ rfl; change DataW.trod enc Tryz.prog w base spare held n' 9 (([c0, c1, c2, c3].drop 0).take (Tryz.prog.cellsOf 9)) = _ at g0; change DataW.trod enc Tryz.prog w base spare held n' 4 (([c0, c1, c2, c3].drop 1).take (Tryz.prog.cellsOf 4)) = _ at g1; change DataW.trod enc Tryz.prog w base spare held n' 3 (([c0, c1, c2, c3].drop 2).take (Tryz.prog.cellsOf 3)) = _ at g2; change DataW.trod enc Tryz.prog w base spare held n' 3 (([c0, c1, c2, c3].drop 3).take (Tryz.prog.cellsOf 3)) = _ at g3; rw [one_str] at g0; rw [one_bool] at g1; rw [zBW] at g2 g3; obtain ⟨s0, e0, _, l0⟩ := DataW.trod_string Tryz.underlying9 g0; obtain ⟨b1, e1, _⟩ := DataW.trod_bool Tryz.underlying4 g1; obtain ⟨z2, e2, _, w2⟩ := DataW.trod_int Tryz.underlying3 g2; obtain ⟨z3, e3, _, w3⟩ := DataW.trod_int Tryz.underlying3 g3; obtain rfl : c0 = _ := by simpa using e0
 obtain rfl : c1 = _ := by simpa using e1
 obtain rfl : c2 = _ := by simpa using e2
 obtain rfl : c3 = _ := by simpa using e3
 exact ⟨⟨s0.data.toList, b1, z2, z3⟩, by unfold symC; rw [str_eta], by rw [← gS rfl]; exact l0, zAD w2, zAD w3⟩
def bigPart (p : Sp.Part) : Prop := bigSym p.sym ∧ p.code.length ≤ maxLen ∧ i64ok p.at_
theorem open_part {n : Nat} {cs : List Value} {y : DataW H × List MemPlace} (h : DataW.trod enc Tryz.prog w base spare held n 47 cs = some y) : ∃ t, cs = z6 t ∧ bigPart t := by
 obtain ⟨ys, n', _, _, hlen, hyl, hf⟩ := DataW.trod_struct Tryz.underlying47 h; rw [cells_part] at hlen; obtain ⟨c0, c1, c2, c3, c4, c5, rfl⟩ := six cs hlen; obtain ⟨y0, y1, y2, rfl⟩ := three ys (by simpa using hyl); have g0 := hf 0 _ rfl; have g1 := hf 1 _ rfl; have g2 := hf 2 _ rfl; change DataW.trod enc Tryz.prog w base spare held n' 45 (([c0, c1, c2, c3, c4, c5].drop 0).take (Tryz.prog.cellsOf 45)) = _ at g0; change DataW.trod enc Tryz.prog w base spare held n' 9 (([c0, c1, c2, c3, c4, c5].drop 4).take (Tryz.prog.cellsOf 9)) = _ at g1; change DataW.trod enc Tryz.prog w base spare held n' 3 (([c0, c1, c2, c3, c4, c5].drop 5).take (Tryz.prog.cellsOf 3)) = _ at g2; rw [zDS] at g0; rw [one_str] at g1; rw [zBW] at g2; obtain ⟨s0, e0, l0⟩ := open_sym g0; obtain ⟨s1, e1, _, l1⟩ := DataW.trod_string Tryz.underlying9 g1; obtain ⟨z2, e2, _, w2⟩ := DataW.trod_int Tryz.underlying3 g2; obtain rfl : c4 = _ := by simpa using e1
 obtain rfl : c5 = _ := by simpa using e2
 have e0' : [c0, c1, c2, c3] = symC s0 := e0; unfold symC at e0'; simp only [List.cons.injEq, and_true] at e0'; obtain ⟨rfl, rfl, rfl, rfl⟩ := e0'; exact ⟨⟨s0, s1.data.toList, z2⟩, by unfold z6 symC; rw [str_eta]; rfl, l0, by rw [← gS rfl]; exact l1, zAD w2⟩

instance : Inhabited Sp.Sym := ⟨⟨[], false, 0, 0⟩⟩
instance : Inhabited Sp.Part := ⟨⟨default, [], 0⟩⟩
instance : Inhabited Sp.Alt := ⟨⟨[], default, 0⟩⟩
instance : Inhabited Sp.Rule := ⟨⟨[], [], 0⟩⟩
instance : Inhabited Sp.Decl := ⟨⟨0, [], [], 0⟩⟩
instance : Inhabited (Sp.Alt × Value) := ⟨(default, .bool false)⟩
instance : Inhabited (Sp.Rule × Value) := ⟨(default, .bool false)⟩
instance : Inhabited (Sp.Decl × Value) := ⟨(default, .bool false)⟩
def bigAlt (a : Sp.Alt) : Prop := a.parts.length ≤ maxLen ∧ (∀ p ∈ a.parts, bigPart p) ∧ bigSym a.prec ∧ i64ok a.at_
def bigRule (r : Sp.Rule) : Prop := r.left.length ≤ maxLen ∧ r.alts.length ≤ maxLen ∧ (∀ a ∈ r.alts, bigAlt a) ∧ i64ok r.at_
def bigDecl (d : Sp.Decl) : Prop := i64ok d.kind ∧ d.tag.length ≤ maxLen ∧ d.syms.length ≤ maxLen ∧ (∀ s ∈ d.syms, bigSym s) ∧ i64ok d.at_
def bigSrc (x : Sp.zM) : Prop := x.pro.length ≤ maxLen ∧ x.decls.length ≤ maxLen ∧ (∀ d ∈ x.decls, bigDecl d) ∧ x.rules.length ≤ maxLen ∧ (∀ r ∈ x.rules, bigRule r) ∧ x.tail.length ≤ maxLen
theorem zDN {α : Type} (row : Value → α → List Value) (ts : List (α × Value)) : ts.map (fun t => row t.2 t.1) = (ts.map (·.1)).mapIdx (fun i a => row ((ts[i]?.map (·.2)).getD (.bool false)) a) := by
 apply List.ext_getElem?
 intro i; rw [List.getElem?_mapIdx, List.getElem?_map, List.getElem?_map]; cases h : ts[i]? <;> simp
theorem open_alt {n : Nat} {cs : List Value} {y : DataW H × List MemPlace} (h : DataW.trod enc Tryz.prog w base spare held n 60 cs = some y) : ∃ t : Sp.Alt × Value, cs = altC t.2 t.1 ∧ (SlAt w t.2 6 (t.1.parts.map z6) ∧ bigAlt t.1) := by
 obtain ⟨ys, n', _, _, hlen, hyl, hf⟩ := DataW.trod_struct Tryz.underlying60 h; rw [cells_alt] at hlen; obtain ⟨c0, c1, c2, c3, c4, c5, rfl⟩ := six cs hlen; obtain ⟨y0, y1, y2, rfl⟩ := three ys (by simpa using hyl); have g0 := hf 0 _ rfl; have g1 := hf 1 _ rfl; have g2 := hf 2 _ rfl; change DataW.trod enc Tryz.prog w base spare held n' 58 (([c0, c1, c2, c3, c4, c5].drop 0).take (Tryz.prog.cellsOf 58)) = _ at g0; change DataW.trod enc Tryz.prog w base spare held n' 45 (([c0, c1, c2, c3, c4, c5].drop 1).take (Tryz.prog.cellsOf 45)) = _ at g1; change DataW.trod enc Tryz.prog w base spare held n' 3 (([c0, c1, c2, c3, c4, c5].drop 5).take (Tryz.prog.cellsOf 3)) = _ at g2; rw [one_parts] at g0; rw [zDS] at g1; rw [zBW] at g2; obtain ⟨v, ps, e0, hsl, hml, hps⟩ := vP 6 Tryz.underlying58 cells_part z6 bigPart (fun _ => rfl) (by omega) (fun _ _ _ h => open_part h) g0; obtain ⟨s1, e1, l1⟩ := open_sym g1; obtain ⟨z2, e2, _, w2⟩ := DataW.trod_int Tryz.underlying3 g2; obtain rfl : c0 = v := by simpa using e0
 obtain rfl : c5 = _ := by simpa using e2
 have e1' : [c1, c2, c3, c4] = symC s1 := e1; unfold symC at e1'; simp only [List.cons.injEq, and_true] at e1'; obtain ⟨rfl, rfl, rfl, rfl⟩ := e1'; exact ⟨(⟨ps, s1, z2⟩, c0), rfl, hsl, hml, hps, l1, zAD w2⟩
theorem open_alts {fuel : Nat} {cs : List Value} {x : DataW H × List MemPlace} (h : DataW.trod enc Tryz.prog w base spare held fuel 61 cs = some x) :
  ∃ (v : Value) (al : List Sp.Alt), cs = [v] ∧ j4 w v al ∧ al.length ≤ maxLen ∧ ∀ a ∈ al, bigAlt a := by
 obtain ⟨v, ts, e0, hsl, hml, hts⟩ := vP 6 Tryz.underlying61 cells_alt (fun t : Sp.Alt × Value => altC t.2 t.1) _ (fun _ => rfl) (by omega) (fun _ _ _ h => open_alt h) h; refine ⟨v, ts.map (·.1), e0, ⟨_, by rw [← zDN altC ts]; exact hsl, fun i a ha => ?_⟩, by simpa using hml, fun a ha => ?_⟩
 ·rw [List.getElem?_map] at ha
  obtain ⟨t, ht, rfl⟩ := Option.map_eq_some_iff.1 ha; rw [ht]; exact (hts t (List.mem_of_getElem? ht)).1
 ·obtain ⟨t, ht, rfl⟩ := List.mem_map.1 ha
  exact (hts t ht).2
theorem open_rule {n : Nat} {cs : List Value} {y : DataW H × List MemPlace} (h : DataW.trod enc Tryz.prog w base spare held n 63 cs = some y) : ∃ t : Sp.Rule × Value, cs = qT t.2 t.1 ∧ (j4 w t.2 t.1.alts ∧ bigRule t.1) := by
 obtain ⟨ys, n', _, _, hlen, hyl, hf⟩ := DataW.trod_struct Tryz.underlying63 h; rw [cells_rule] at hlen; obtain ⟨c0, c1, c2, rfl⟩ := three cs hlen; obtain ⟨y0, y1, y2, rfl⟩ := three ys (by simpa using hyl); have g0 := hf 0 _ rfl; have g1 := hf 1 _ rfl; have g2 := hf 2 _ rfl; change DataW.trod enc Tryz.prog w base spare held n' 9 (([c0, c1, c2].drop 0).take (Tryz.prog.cellsOf 9)) = _ at g0; change DataW.trod enc Tryz.prog w base spare held n' 61 (([c0, c1, c2].drop 1).take (Tryz.prog.cellsOf 61)) = _ at g1; change DataW.trod enc Tryz.prog w base spare held n' 3 (([c0, c1, c2].drop 2).take (Tryz.prog.cellsOf 3)) = _ at g2; rw [one_str] at g0; rw [one_alts] at g1; rw [zBW] at g2; obtain ⟨s0, e0, _, l0⟩ := DataW.trod_string Tryz.underlying9 g0; obtain ⟨v, al, e1, hal, hml, hb⟩ := open_alts g1; obtain ⟨z2, e2, _, w2⟩ := DataW.trod_int Tryz.underlying3 g2; obtain rfl : c0 = _ := by simpa using e0
 obtain rfl : c1 = v := by simpa using e1
 obtain rfl : c2 = _ := by simpa using e2
 exact ⟨(⟨s0.data.toList, al, z2⟩, c1), by show _ = [Value.string ⟨s0.data.toList.toArray⟩, c1, .int .i64 z2]; rw [str_eta], hal, by show s0.data.toList.length ≤ _; rw [← gS rfl]; exact l0, hml, hb, zAD w2⟩
theorem open_rules {fuel : Nat} {cs : List Value} {x : DataW H × List MemPlace} (h : DataW.trod enc Tryz.prog w base spare held fuel 23 cs = some x) :
  ∃ (v : Value) (rs : List Sp.Rule), cs = [v] ∧ xA w v rs ∧ rs.length ≤ maxLen ∧ ∀ r ∈ rs, bigRule r := by
 obtain ⟨v, ts, e0, hsl, hml, hts⟩ := vP 3 Tryz.underlying23 cells_rule (fun t : Sp.Rule × Value => qT t.2 t.1) _ (fun _ => rfl) (by omega) (fun _ _ _ h => open_rule h) h; refine ⟨v, ts.map (·.1), e0, ⟨_, by rw [← zDN qT ts]; exact hsl, fun i a ha => ?_⟩, by simpa using hml, fun a ha => ?_⟩
 ·rw [List.getElem?_map] at ha
  obtain ⟨t, ht, rfl⟩ := Option.map_eq_some_iff.1 ha; rw [ht]; exact (hts t (List.mem_of_getElem? ht)).1
 ·obtain ⟨t, ht, rfl⟩ := List.mem_map.1 ha
  exact (hts t ht).2
theorem open_decl {n : Nat} {cs : List Value} {y : DataW H × List MemPlace} (h : DataW.trod enc Tryz.prog w base spare held n 57 cs = some y) : ∃ t : Sp.Decl × Value, cs = xP t.2 t.1 ∧ (SlAt w t.2 4 (t.1.syms.map symC) ∧ bigDecl t.1) := by
 obtain ⟨ys, n', _, _, hlen, hyl, hf⟩ := DataW.trod_struct Tryz.underlying57 h; rw [cells_decl] at hlen; obtain ⟨c0, c1, c2, c3, rfl⟩ := four cs hlen; obtain ⟨y0, y1, y2, y3, rfl⟩ := four ys (by simpa using hyl); have g0 := hf 0 _ rfl; have g1 := hf 1 _ rfl; have g2 := hf 2 _ rfl; have g3 := hf 3 _ rfl; change DataW.trod enc Tryz.prog w base spare held n' 3 (([c0, c1, c2, c3].drop 0).take (Tryz.prog.cellsOf 3)) = _ at g0; change DataW.trod enc Tryz.prog w base spare held n' 9 (([c0, c1, c2, c3].drop 1).take (Tryz.prog.cellsOf 9)) = _ at g1; change DataW.trod enc Tryz.prog w base spare held n' 55 (([c0, c1, c2, c3].drop 2).take (Tryz.prog.cellsOf 55)) = _ at g2; change DataW.trod enc Tryz.prog w base spare held n' 3 (([c0, c1, c2, c3].drop 3).take (Tryz.prog.cellsOf 3)) = _ at g3; rw [zBW] at g0 g3; rw [one_str] at g1; rw [one_syms] at g2; obtain ⟨z0, e0, _, w0⟩ := DataW.trod_int Tryz.underlying3 g0; obtain ⟨s1, e1, _, l1⟩ := DataW.trod_string Tryz.underlying9 g1; obtain ⟨v, ss, e2, hsl, hml, hss⟩ := vP 4 Tryz.underlying55 zDS symC bigSym (fun _ => rfl) (by omega) (fun _ _ _ h => open_sym h) g2; obtain ⟨z3, e3, _, w3⟩ := DataW.trod_int Tryz.underlying3 g3; obtain rfl : c0 = _ := by simpa using e0
 obtain rfl : c1 = _ := by simpa using e1
 obtain rfl : c2 = v := by simpa using e2
 obtain rfl : c3 = _ := by simpa using e3
 exact ⟨(⟨z0, s1.data.toList, ss, z3⟩, c2), by show _ = [Value.int .i64 z0, .string ⟨s1.data.toList.toArray⟩, c2, .int .i64 z3]; rw [str_eta], hsl, zAD w0, by show s1.data.toList.length ≤ _; rw [← gS rfl]; exact l1, hml, hss, zAD w3⟩
theorem open_decls {fuel : Nat} {cs : List Value} {x : DataW H × List MemPlace} (h : DataW.trod enc Tryz.prog w base spare held fuel 22 cs = some x) :
  ∃ (v : Value) (ds : List Sp.Decl), cs = [v] ∧ xD w v ds ∧ ds.length ≤ maxLen ∧ ∀ d ∈ ds, bigDecl d := by
 obtain ⟨v, ts, e0, hsl, hml, hts⟩ := vP 4 Tryz.underlying22 cells_decl (fun t : Sp.Decl × Value => xP t.2 t.1) _ (fun _ => rfl) (by omega) (fun _ _ _ h => open_decl h) h; refine ⟨v, ts.map (·.1), e0, ⟨_, by rw [← zDN xP ts]; exact hsl, fun i a ha => ?_⟩, by simpa using hml, fun a ha => ?_⟩
 ·rw [List.getElem?_map] at ha
  obtain ⟨t, ht, rfl⟩ := Option.map_eq_some_iff.1 ha; rw [ht]; exact (hts t (List.mem_of_getElem? ht)).1
 ·obtain ⟨t, ht, rfl⟩ := List.mem_map.1 ha
  exact (hts t ht).2
theorem open_source {fuel : Nat} {cs : List Value} {y : DataW H × List MemPlace} (h : DataW.trod enc Tryz.prog w base spare held fuel 25 cs = some y) :
  ∃ (x : Sp.zM) (vd vr : Value), cs = srcC vd vr x ∧ xD w vd x.decls ∧ xA w vr x.rules ∧ bigSrc x := by
 obtain ⟨ys, n', _, _, hlen, hyl, hf⟩ := DataW.trod_struct Tryz.underlying25 h; rw [cells_source] at hlen; obtain ⟨c0, c1, c2, c3, rfl⟩ := four cs hlen; obtain ⟨y0, y1, y2, y3, rfl⟩ := four ys (by simpa using hyl); have g0 := hf 0 _ rfl; have g1 := hf 1 _ rfl; have g2 := hf 2 _ rfl; have g3 := hf 3 _ rfl; change DataW.trod enc Tryz.prog w base spare held n' 9 (([c0, c1, c2, c3].drop 0).take (Tryz.prog.cellsOf 9)) = _ at g0; change DataW.trod enc Tryz.prog w base spare held n' 22 (([c0, c1, c2, c3].drop 1).take (Tryz.prog.cellsOf 22)) = _ at g1; change DataW.trod enc Tryz.prog w base spare held n' 23 (([c0, c1, c2, c3].drop 2).take (Tryz.prog.cellsOf 23)) = _ at g2; change DataW.trod enc Tryz.prog w base spare held n' 9 (([c0, c1, c2, c3].drop 3).take (Tryz.prog.cellsOf 9)) = _ at g3; rw [one_str] at g0 g3; rw [one_decls] at g1; rw [one_rules] at g2; obtain ⟨s0, e0, _, l0⟩ := DataW.trod_string Tryz.underlying9 g0; obtain ⟨vd, dl, e1, hd, hdl, hdb⟩ := open_decls g1; obtain ⟨vr, rl, e2, hr, hrl, hrb⟩ := open_rules g2; obtain ⟨s3, e3, _, l3⟩ := DataW.trod_string Tryz.underlying9 g3; obtain rfl : c0 = _ := by simpa using e0
 obtain rfl : c1 = vd := by simpa using e1
 obtain rfl : c2 = vr := by simpa using e2
 obtain rfl : c3 = _ := by simpa using e3
 exact ⟨⟨s0.data.toList, dl, rl, s3.data.toList⟩, c1, c2, by show _ = [Value.string ⟨s0.data.toList.toArray⟩, c1, c2, .string ⟨s3.data.toList.toArray⟩]; rw [str_eta, str_eta], hd, hr, by show s0.data.toList.length ≤ _; rw [← gS rfl]; exact l0, hdl, hdb, hrl, hrb, by show s3.data.toList.length ≤ _; rw [← gS rfl]; exact l3⟩
end
end Go.Proofs.YtddnomjfcbplpaaGreatDoor
