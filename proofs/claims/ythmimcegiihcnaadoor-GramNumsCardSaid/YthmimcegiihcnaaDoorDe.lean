/- Layer 8: the walk of print.May. -/
import Derived.Test.YthmimcegiihcnaaDoorDc
import Derived.Test.YthmimcegiihcnaaDoorDd
namespace Go.Proofs.YthmimcegiihcnaaDoor
open Go.RowKit

def declC (v : Value) (d : Sp.Decl) : List Value := [.int .i64 d.kind, .string ⟨d.tag.toArray⟩, v, .int .i64 d.at_]
set_option maxHeartbeats 800000 in
theorem print_May1 (d : Sp.Decl) (v : Value) (W : World) (hsl : SlAt W v 4 (d.syms.map symC)) (hs : smallDecl d) :
    Calls Tryd.prog 42 #[.agg (declC v d).toArray] W fun e w' => e = .returned (.bool (!Sp.mayDecl d)) ∧ Below W.heap.size W w' := by
  have HP := Lib.hid (fun w' (hb : Below W.heap.size W w') => print_decl d v w' (hsl.below hb) hs)
  have HB := Lib.hid (fun o : Obj => (Below.refl _ W).alloc (Nat.le_refl _) o)
  generalize Sp.mayDecl d = q at HP
  obtain ⟨kd, tg, sy, pa⟩ := d
  obtain ⟨av, cap, rfl⟩ := hsl.form
  generalize (sy.map symC).length = n at *
  clear hs hsl
  show Calls _ _ #[.agg #[.int .i64 kd, .string ⟨tg.toArray⟩, .slice av n cap, .int .i64 pa]] _ _
  go_enter Tryd.func42, Tryd.ntmps42
  go_wp2_with fail
  refine (HP.out _ (HB.out _)).mono ?_
  rintro e w' ⟨rfl, hb⟩
  have HB' := Lib.hid ((HB.out _).trans (hb.mono (by simp)))
  clear hb
  go_wp2_with fail
  go_ret
  exact ⟨rfl, HB'.out⟩

/-- A slice of declarations, read through. -/
def DeclsAt (w : World) (v : Value) (ds : List Sp.Decl) : Prop := ∃ f : Nat → Value, SlAt w v 4 (ds.mapIdx fun i d => declC (f i) d) ∧ ∀ (i : Nat) (d : Sp.Decl), ds[i]? = some d → SlAt w (f i) 4 (d.syms.map symC)
theorem DeclsAt.below {w w' : World} {v : Value} {ds : List Sp.Decl} (h : DeclsAt w v ds) (hb : Below w.heap.size w w') : DeclsAt w' v ds := by
  obtain ⟨f, h1, h2⟩ := h
  exact ⟨f, h1.below hb, fun i a ha => (h2 i a ha).below hb⟩
theorem DeclsAt.form {w : World} {v : Value} {ds : List Sp.Decl} (h : DeclsAt w v ds) : ∃ a cap, v = .slice a ds.length cap := by
  obtain ⟨f, h1, _⟩ := h
  obtain ⟨a, cap, hv⟩ := h1.form
  rw [List.length_mapIdx] at hv
  exact ⟨a, cap, hv⟩
theorem decls_bad (ds : List Sp.Decl) (v : Value) (w : World) (hsl : DeclsAt w v ds) (hl : ds.length ≤ 4000) (hs : ∀ d ∈ ds, smallDecl d) :
    Calls Tryd.prog 41 #[v, .func (.func 42) #[] #[]] w fun e w' => e = .returned (.bool (!ds.all Sp.mayDecl)) ∧ Below w.heap.size w w' := by
  obtain ⟨f, h1, h2⟩ := hsl
  have h := contains_Decl v _ (fun i => !((ds[i]?.map Sp.mayDecl).getD true)) w h1 (by
    intro row hr
    rw [List.mem_iff_getElem?] at hr
    obtain ⟨i, hi⟩ := hr
    rw [List.getElem?_mapIdx] at hi
    obtain ⟨a, _, rfl⟩ := Option.map_eq_some_iff.1 hi
    rfl) (by rw [List.length_mapIdx]; omega) (fun i row hr W hW => by
      rw [List.getElem?_mapIdx] at hr
      obtain ⟨a, ha, rfl⟩ := Option.map_eq_some_iff.1 hr
      have h3 := print_May1 a (f i) W ((h2 i a ha).below hW) (hs a (List.mem_of_getElem? ha))
      simp only [ha, Option.map_some, Option.getD_some]
      exact h3)
  rw [List.length_mapIdx, any_range Sp.mayDecl _ ds _ rfl (fun i x hx => by simp [hx])] at h
  exact h

/-! ### Sources -/
def srcC (vd vr : Value) (x : Sp.Source) : List Value := [.string ⟨x.pro.toArray⟩, vd, vr, .string ⟨x.tail.toArray⟩]
def smallSrc (x : Sp.Source) : Prop := x.pro.length ≤ 4000 ∧ x.tail.length ≤ 4000 ∧ x.decls.length ≤ 4000 ∧ x.rules.length ≤ 4000 ∧ (∀ d ∈ x.decls, smallDecl d) ∧ ∀ r ∈ x.rules, smallRule r
theorem strings_Contains_gl (s sub : ByteArray) (w : World) (hs : s.size < 4294967281) (hg : Gl w) :
    Calls Tryd.prog 40 #[.string s, .string sub] w fun e w' => e = .returned (.bool (decide (0 ≤ Lib.index s.data.toList sub.data.toList))) ∧ ∃ n, w' = w.drewN n := by
  obtain ⟨m, hm⟩ := hg.1
  exact (Tryd.strings_Contains s sub m w hs hm).mono fun _ _ ⟨h1, h2⟩ => ⟨h1, 0, h2⟩

set_option maxRecDepth 100000 in
set_option maxHeartbeats 3200000 in
theorem print_May (x : Sp.Source) (vd vr : Value) (W : World) (hd : DeclsAt W vd x.decls) (hr : RulesAt W vr x.rules) (hs : smallSrc x) (hg : Gl W) :
    Calls Tryd.prog 15 #[.agg (srcC vd vr x).toArray] W fun e w' => e = .returned (.bool (Sp.may x)) ∧ Below W.heap.size W w' := by
  obtain ⟨hs1, hs2, hs3, hs4, hs5, hs6⟩ := hs
  have HC := Lib.hid (fun w hw => strings_Contains_gl ⟨x.pro.toArray⟩ ⟨#[37, 125]⟩ w (by rw [Lib.size_eq]; show x.pro.length < _; omega) hw)
  have HT : (⟨x.pro.toArray⟩ : ByteArray).data.toList = x.pro := rfl
  have HT2 : (⟨#[37, 125]⟩ : ByteArray).data.toList = [37, 125] := rfl
  rw [HT, HT2] at HC
  have HD := Lib.hid (fun w' (hb : Below W.heap.size W w') => decls_bad x.decls vd w' (hd.below hb) hs3 hs5)
  have HR := Lib.hid (fun w' (hb : Below W.heap.size W w') => rules_bad x.rules vr w' (hr.below hb) hs4 hs6 (hg.below hb))
  have HB := Lib.hid (fun o : Obj => (Below.refl _ W).alloc (Nat.le_refl _) o)
  have HG := Lib.hid (fun o : Obj => hg.alloc o)
  have hq : Sp.may x = (!decide (0 ≤ Lib.index x.pro [37, 125]) && decide (0 < x.rules.length) && x.decls.all Sp.mayDecl && x.rules.all Sp.mayRule) := rfl
  rw [hq]
  obtain ⟨ad, cd, rfl⟩ := hd.form
  obtain ⟨ar, cr, rfl⟩ := hr.form
  generalize decide (0 ≤ Lib.index x.pro [37, 125]) = q1 at HC
  generalize x.decls.all Sp.mayDecl = q3 at HD
  generalize x.rules.all Sp.mayRule = q4 at HR
  generalize hn : x.rules.length = n at *
  generalize hm : x.decls.length = m at *
  obtain ⟨pr, ds, rs, tl⟩ := x
  clear hq hs1 hs2 hs3 hs5 hs6 hd hr hn hm HT HT2
  show Calls _ _ #[.agg #[.string ⟨pr.toArray⟩, .slice ad m cd, .slice ar n cr, .string ⟨tl.toArray⟩]] _ _
  cases q1 with
  | true =>
    go_enter Tryd.func15, Tryd.ntmps15
    go_wp2_with fail
    refine (HC.out _ (HG.out _)).mono ?_
    rintro e w1 ⟨rfl, nn, rfl⟩
    go_wp2_with fail
    go_ret
    exact ⟨rfl, below_drewN (HB.out _) _⟩
  | false =>
    by_cases h0 : n = 0
    · subst h0
      go_enter Tryd.func15, Tryd.ntmps15
      go_wp2_with fail
      refine (HC.out _ (HG.out _)).mono ?_
      rintro e w1 ⟨rfl, nn, rfl⟩
      go_wp2_with fail
      go_ret
      exact ⟨rfl, below_drewN (HB.out _) _⟩
    · have hp : (0 : Int) < (n : Int) := by omega
      have hdd : decide (0 < n) = true := by rw [decide_eq_true_iff]; omega
      rw [hdd]
      clear hdd
      go_enter Tryd.func15, Tryd.ntmps15
      go_wp2_with fail
      refine (HC.out _ (HG.out _)).mono ?_
      rintro e w1 ⟨rfl, nn, rfl⟩
      go_wp2_with fail
      refine (HD.out _ (below_drewN (HB.out _) _)).mono ?_
      rintro e w2 ⟨rfl, hb2⟩
      have hF2 := (hb2.block W.heap.size (by simp)).trans (heap_last W _)
      have HB2 := Lib.hid ((below_drewN (HB.out _) nn).trans (hb2.mono (by simp)))
      have c2 := cell_at (i := 2) hF2
      have hl2 : W.heap.size < w2.heap.size := lt_at hF2
      clear hb2 hF2
      cases q3 with
      | false =>
        go_wp2_with fail
        go_ret
        exact ⟨rfl, HB2.out⟩
      | true =>
        go_wp2_with fail
        refine (HR.out _ HB2.out).mono ?_
        rintro e w3 ⟨rfl, hb3⟩
        have HB3 := Lib.hid (HB2.out.trans (hb3.mono HB2.out.size))
        clear hb3
        go_wp2_with fail
        go_ret
        exact ⟨ret_bool (by simp), HB3.out⟩
end Go.Proofs.YthmimcegiihcnaaDoor
