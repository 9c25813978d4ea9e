/- Layer 8: the walk of print.Text. -/
import Derived.Test.YthmimcegiihcnaaDoorDe
import Derived.Test.YthmimcegiihcnaaDoorDh
import Derived.Test.YthmimcegiihcnaaDoorBY
import Derived.Lib.ItoaLen
namespace Go.Proofs.YthmimcegiihcnaaDoor
open Go.RowKit

theorem symWords_small (s : Sp.Sym) (h : okSym s) : ∀ w ∈ Sp.symWords s, w.length ≤ 5000 := by
  obtain ⟨h1, h2, h3, h4⟩ := h
  intro w hw
  unfold Sp.symWords at hw
  split at hw
  · simp only [List.mem_singleton] at hw
    subst hw
    have := Sp.quoteText_len (s.name.headD 0)
    omega
  split at hw
  · simp only [List.mem_singleton] at hw
    subst hw
    omega
  · simp only [List.mem_cons, List.not_mem_nil, or_false] at hw
    rcases hw with rfl | rfl
    · omega
    · have := Lib.itoa_length_le s.num h3 h4; omega
theorem declWords_small (d : Sp.Decl) (h : okDecl d) : (Sp.declWords d).length ≤ 100000000 ∧ ∀ w ∈ Sp.declWords d, w.length ≤ 5000 := by
  obtain ⟨h1, h2, h3, h4, h5⟩ := h
  have hf := flatWords_len d.syms
  unfold Sp.declWords
  constructor
  · have : (if d.tag = [] then ([] : List (List UInt8)) else [60 :: (d.tag ++ [62])]).length ≤ 1 := by split <;> simp
    simp only [List.length_append, List.length_cons]
    omega
  · intro w hw
    simp only [List.mem_append, List.mem_cons, List.mem_flatMap] at hw
    rcases hw with (rfl | hw) | ⟨s, hs, hw⟩
    · have : ∀ j : Nat, (Sp.keys.getD j []).length ≤ 5000 := by
        intro j
        rcases j with _ | _ | _ | _ | _ | _ | _ | j <;> simp [Sp.keys]
      exact this _
    · split at hw
      · simp at hw
      · simp only [List.mem_singleton] at hw
        subst hw
        simp
        omega
    · exact symWords_small s (h5 s hs) w hw
theorem ruleWords_small (r : Sp.Rule) (h : okRule r) : (Sp.ruleWords r).length ≤ 100000000 ∧ ∀ w ∈ Sp.ruleWords r, w.length ≤ 5000 := by
  obtain ⟨h1, h2, h3⟩ := h
  have hl := altsWords_len r.alts 0 h3
  have key : ∀ (l : List Sp.Alt) (k : Nat), (∀ a ∈ l, okAlt a) → ∀ w ∈ Sp.altsWords k l, w.length ≤ 5000 := by
    intro l
    induction l with
    | nil => intro k _ w hw; simp [Sp.altsWords] at hw
    | cons a l ih =>
      intro k h w hw
      obtain ⟨a1, a2, a3⟩ := h a (by simp)
      have hw' : w ∈ ((if k = 0 then [58] else [124]) :: Sp.altWords a) ++ Sp.altsWords (k + 1) l := hw
      rw [List.mem_append] at hw'
      rcases hw' with hw' | hw'
      · simp only [List.mem_cons] at hw'
        rcases hw' with rfl | hw'
        · split <;> simp
        · unfold Sp.altWords at hw'
          rw [List.mem_append] at hw'
          rcases hw' with hw' | hw'
          case inr =>
            split at hw'
            · simp at hw'
            · rename_i hno
              simp only [List.mem_cons] at hw'
              rcases hw' with rfl | hw'
              · simp
              · exact symWords_small _ (a3 (by simpa using hno)) w hw'
          rw [List.mem_flatMap] at hw'
          obtain ⟨p, hp, hw'⟩ := hw'
          obtain ⟨p1, p2⟩ := a2 p hp
          unfold Sp.partWords at hw'
          split at hw'
          · rename_i hc
            exact symWords_small _ (p2 hc) w hw'
          · simp only [List.mem_singleton] at hw'
            subst hw'
            omega
      · exact ih (k + 1) (fun x hx => h x (by simp [hx])) w hw'
  unfold Sp.ruleWords
  constructor
  · simp only [List.length_append, List.length_cons, List.length_nil]
    omega
  · intro w hw
    simp only [List.mem_append, List.mem_cons, List.not_mem_nil, or_false] at hw
    rcases hw with rfl | hw | rfl
    · omega
    · exact key r.alts 0 h3 w hw
    · simp

theorem strC_flat : ∀ ws : List (List UInt8), (ws.map strC).flatten = strsC ws
  | [] => rfl
  | a :: l => by
    have ih := strC_flat l
    simp only [List.map_cons, List.flatten_cons, ih]
    rfl
theorem strs_slAt {w : World} {base : Nat} {v : Value} (ws : List (List UInt8)) (h : w.ownsRow base 9 1 v ws.length (strsC ws)) : ∃ a cap, v = .slice a ws.length cap ∧ ws.length ≤ cap ∧ SlAt w v 1 (ws.map strC) := by
  have hs : SlAt w v 1 (ws.map strC) := slAt_of_owns (base := base) (e := 9) (n := ws.length) (ws.map strC) (by simp [strC]) (by simp) (by
    have e := strC_flat ws
    rw [e]
    exact h)
  rcases h.2 with ⟨rfl, h0⟩ | ⟨g, cap, cur, rfl, _, _, hc, _⟩
  · exact ⟨_, _, by rw [h0], by omega, hs⟩
  · exact ⟨_, _, rfl, hc, hs⟩
/-- The words of a declaration, joined. -/
theorem decl_joined (d : Sp.Decl) (h : okDecl d) (v : Value) (W : World) (hv : ∃ base, W.ownsRow base 9 1 v (Sp.declWords d).length (strsC (Sp.declWords d))) :
    Calls Tryd.prog 48 #[v, .string ⟨#[32]⟩] W fun e w' => e = .returned (.string ⟨(Sp.joinSp (Sp.declWords d)).toArray⟩) ∧ Below W.heap.size W w' := by
  obtain ⟨base, hv⟩ := hv
  obtain ⟨a, cap, rfl, hc, hs⟩ := strs_slAt _ hv
  obtain ⟨h1, h2⟩ := declWords_small d h
  exact strings_Join a cap _ W hs hc h1 h2
theorem rule_joined (r : Sp.Rule) (h : okRule r) (v : Value) (W : World) (hv : ∃ base, W.ownsRow base 9 1 v (Sp.ruleWords r).length (strsC (Sp.ruleWords r))) :
    Calls Tryd.prog 48 #[v, .string ⟨#[32]⟩] W fun e w' => e = .returned (.string ⟨(Sp.joinSp (Sp.ruleWords r)).toArray⟩) ∧ Below W.heap.size W w' := by
  obtain ⟨base, hv⟩ := hv
  obtain ⟨a, cap, rfl, hc, hs⟩ := strs_slAt _ hv
  obtain ⟨h1, h2⟩ := ruleWords_small r h
  exact strings_Join a cap _ W hs hc h1 h2
/-- WriteString, behind bytes. -/
theorem write_bytes (N : Nat) (acc : List UInt8) (s : ByteArray) (W : World) (hb : Lib.IsBuilder 101 5 N N (Lib.byteCells acc) W) (hl : acc.length + s.size ≤ 140737488355328) (hN : N ≤ W.heap.size) :
    Calls Tryd.prog 47 #[.pointer (some ⟨N, 0, none⟩), .string s] W fun e w' => e = .returned (.tuple #[.int .i64 s.size, .nilIface]) ∧ Lib.IsBuilder 101 5 N N (Lib.byteCells (acc ++ s.data.toList)) w' ∧ Below N W w' :=
  (Tryd.Builder_WriteString N N (Lib.byteCells acc) s W hb (by rw [Lib.byteCells_length]; exact hl) hN).mono fun _ _ ⟨h1, h2, h3⟩ => ⟨h1, .inr (by
    have e : Lib.byteCells (acc ++ s.data.toList) = Lib.byteCells acc ++ Lib.strCells s := by rw [Lib.byteCells_append]; congr 1
    rw [e]; exact h2), h3⟩

theorem ret_strl {a b : List UInt8} (h : a = b) : Ending.returned (.string ⟨a.toArray⟩) = .returned (.string ⟨b.toArray⟩) := by rw [h]
def declT (d : Sp.Decl) : List UInt8 := Sp.joinSp (Sp.declWords d) ++ [10]
def ruleT (r : Sp.Rule) : List UInt8 := Sp.joinSp (Sp.ruleWords r) ++ [10]
theorem flat_take {α β : Type} (f : α → List β) (l : List α) (k : Nat) : ((l.take k).flatMap f).length ≤ (l.flatMap f).length := by
  conv => rhs; rw [← List.take_append_drop k l, List.flatMap_append, List.length_append]
  omega

set_option maxRecDepth 100000 in
set_option maxHeartbeats 12800000 in
theorem print_Text (x : Sp.Source) (vd vr : Value) (W : World) (hd : DeclsAt W vd x.decls) (hr : RulesAt W vr x.rules) (hs : smallSrc x) (hok : Sp.may x = true → (∀ d ∈ x.decls, okDecl d) ∧ ∀ r ∈ x.rules, okRule r) (htot : (Sp.text x).length ≤ 100000000000000) (hg : Gl W) :
    Calls Tryd.prog 16 #[.agg (srcC vd vr x).toArray] W fun e w' => e = .returned (.string ⟨(Sp.text x).toArray⟩) ∧ Below W.heap.size W w' := by
  have HM := Lib.hid (fun w' (hb : Below W.heap.size W w') => print_May x vd vr w' (hd.below hb) (hr.below hb) hs (hg.below hb))
  have HB := Lib.hid (fun o : Obj => (Below.refl _ W).alloc (Nat.le_refl _) o)
  cases hm : Sp.may x with
  | false =>
    have ht : Sp.text x = [] := by unfold Sp.text; rw [if_pos hm]
    rw [hm] at HM
    rw [ht]
    obtain ⟨pr, ds, rs, tl⟩ := x
    obtain ⟨ad, cd, rfl⟩ := hd.form
    obtain ⟨ar, cr, rfl⟩ := hr.form
    clear hok htot hs hd hr hm ht
    generalize ds.length = n1 at *
    generalize rs.length = n2 at *
    have HM' : Hid (∀ w', Below W.heap.size W w' → Calls Tryd.prog 15 #[.agg #[.string ⟨pr.toArray⟩, .slice ad n1 cd, .slice ar n2 cr, .string ⟨tl.toArray⟩]] w' fun e w'' => e = .returned (.bool false) ∧ Below w'.heap.size w' w'') := HM
    clear HM
    show Calls _ _ #[.agg #[.string ⟨pr.toArray⟩, .slice ad n1 cd, .slice ar n2 cr, .string ⟨tl.toArray⟩]] _ _
    go_enter Tryd.func16, Tryd.ntmps16
    go_wp2_with fail
    refine (HM'.out _ (HB.out _)).mono ?_
    rintro e w1 ⟨rfl, hb1⟩
    have HB1 := Lib.hid ((HB.out _).trans (hb1.mono (by simp)))
    clear hb1
    go_wp2_with fail
    go_ret
    exact ⟨rfl, HB1.out⟩
  | true =>
    rw [hm] at HM
    obtain ⟨hok1, hok2⟩ := hok hm
    have ht : Sp.text x = (if x.pro = [] then [] else 37 :: 123 :: (x.pro ++ [37, 125, 10])) ++ x.decls.flatMap declT ++ [37, 37, 10] ++ x.rules.flatMap ruleT ++ (if x.tail = [] then [] else 37 :: 37 :: x.tail) := by unfold Sp.text; rw [if_neg (by rw [hm]; simp)]; rfl
    rw [ht] at htot ⊢
    obtain ⟨pr, ds, rs, tl⟩ := x
    obtain ⟨hs1, hs2, hs3, hs4, _, _⟩ := hs
    simp only at hok1 hok2 htot hs1 hs2 hs3 hs4 hd hr ⊢
    have HOK1 := Lib.hid hok1; have HOK2 := Lib.hid hok2
    obtain ⟨ad, cd, rfl⟩ := hd.form
    obtain ⟨ar, cr, rfl⟩ := hr.form
    obtain ⟨fd, hd1, hd2⟩ := hd
    obtain ⟨fr, hr1, hr2⟩ := hr
    have HD1 := Lib.hid hd1; have HD2 := Lib.hid hd2; have HR1 := Lib.hid hr1; have HR2 := Lib.hid hr2
    simp only [List.length_append, List.length_cons, List.length_nil] at htot
    generalize hP0 : (if pr = [] then ([] : List UInt8) else 37 :: 123 :: (pr ++ [37, 125, 10])) = P0 at htot ⊢
    have HP0 := Lib.hid hP0
    generalize hTL : (if tl = [] then ([] : List UInt8) else 37 :: 37 :: tl) = TL at htot ⊢
    have HTL := Lib.hid hTL
    clear hok hm ht hok1 hok2 hd1 hd2 hr1 hr2 hP0 hTL
    have HM' : Hid (∀ w', Below W.heap.size W w' → Calls Tryd.prog 15 #[.agg #[.string ⟨pr.toArray⟩, .slice ad ds.length cd, .slice ar rs.length cr, .string ⟨tl.toArray⟩]] w' fun e w'' => e = .returned (.bool true) ∧ Below w'.heap.size w' w'') := HM
    clear HM
    show Calls _ _ #[.agg #[.string ⟨pr.toArray⟩, .slice ad ds.length cd, .slice ar rs.length cr, .string ⟨tl.toArray⟩]] _ _
    go_enter Tryd.func16, Tryd.ntmps16
    go_wp2_with fail
    refine (HM'.out _ (HB.out _)).mono ?_
    rintro e w1 ⟨rfl, hb1⟩
    have HB1 := Lib.hid ((HB.out _).trans (hb1.mono (by simp)))
    have hF1 := (hb1.block W.heap.size (by simp)).trans (heap_last W _)
    have x0 := cell_at (i := 0) hF1; have x1 := cell_at (i := 1) hF1
    have hl1 := lt_at hF1
    have HF1 := Lib.hid hF1
    clear hb1 hF1
    by_cases hpr : pr = []
    · subst hpr
      have hP0 : P0 = [] := by rw [← HP0.out, if_pos rfl]
      have hbx : (w1.alloc (.cells #[.pointer none, .slice none 0 0] 101)).heap[W.heap.size]? = some (.cells #[.string ⟨([] : List UInt8).toArray⟩, .slice ad ds.length cd, .slice ar rs.length cr, .string ⟨tl.toArray⟩] 29 (0, 0)) := heap_old HF1.out _
      have HBX0 := Lib.hid hbx
      have hbd0 : Lib.IsBuilder 101 5 w1.heap.size w1.heap.size (Lib.byteCells P0) (w1.alloc (.cells #[.pointer none, .slice none 0 0] 101)) := by rw [hP0]; exact Lib.fresh_isBuilder _ _ _
      have HBD0 := Lib.hid hbd0
      have HBL0 := Lib.hid (HB1.out.alloc HB1.out.size (.cells #[.pointer none, .slice none 0 0] 101))
      clear hbx hbd0 hP0
      go_wp2_with fail
      go_loopw [22] (fun iv wr => ∃ k : Nat, k ≤ ds.length ∧ iv = .int .i64 k ∧ w1.heap.size < wr.heap.size ∧ Hid (Lib.IsBuilder 101 5 w1.heap.size w1.heap.size (Lib.byteCells (P0 ++ (ds.take k).flatMap declT)) wr) ∧ Hid (Below W.heap.size W wr) ∧ Hid (wr.heap[W.heap.size]? = some (.cells #[.string ⟨([] : List UInt8).toArray⟩, .slice ad ds.length cd, .slice ar rs.length cr, .string ⟨tl.toArray⟩] 29 (0, 0)))) (fun iv _ => ds.length - (intOf iv).toNat)
      case atStart => exact ⟨0, Nat.zero_le _, rfl, (by simp), Lib.hid (by rw [show P0 ++ (ds.take 0).flatMap declT = P0 by simp]; exact HBD0.out), HBL0, HBX0⟩
      case round =>
        obtain ⟨k, hk, rfl, hlk, HBD, HBL, HBX⟩ := hrel
        have hk0 : (0 : Int) ≤ (k : Int) := Int.natCast_nonneg _
        have hszk := HBL.out.size
        have hlx := lt_at HBX.out
        have hfk := flat_take declT ds k
        by_cases hkn : k < ds.length
        · have hpx : ds[k]? = some ds[k] := List.getElem?_eq_getElem hkn
          have hokx := HOK1.out _ (List.mem_of_getElem? hpx)
          generalize ds[k] = d at hpx hokx
          obtain ⟨b, off, cap', hv, hb, hc⟩ := HD1.out.some (by intro h; have := congrArg List.length h; simp at this; rw [this] at hkn; simp at hkn)
          rw [List.length_mapIdx] at hv
          obtain ⟨rfl, rfl⟩ : ad = some ⟨b, off, none⟩ ∧ cd = cap' := by simpa using hv
          have hcc := fun j u (h : (declC (fd k) d)[j]? = some u) => (HBL.out.cell (p := ⟨b, _, none⟩) hb).trans (hc k (declC (fd k) d) (by simp [hpx]) j u h)
          have hsub := HD2.out k d hpx
          have hW1 : W.heap.size ≤ (wr.alloc (.cells (declC (fd k) d).toArray 43)).heap.size := by simp; omega
          have hcall := print_declared d (fd k) (wr.alloc (.cells (declC (fd k) d).toArray 43)) (hsub.below (HBL.out.alloc hszk _)) hokx ((hg.below HBL.out).alloc _)
          obtain ⟨aa, ca, hfk2⟩ := hsub.form
          rw [List.length_map] at hfk2
          rw [hfk2] at hcc hcall
          have hjl := joinSp_len 5000 (Sp.declWords d) (declWords_small d hokx).2
          have hjl2 := (declWords_small d hokx).1
          have HJ := Lib.hid (fun vv W' hv' => decl_joined d hokx vv W' hv')
          generalize hJ : Sp.joinSp (Sp.declWords d) = J at HJ hjl
          have HJE := Lib.hid hJ
          have hJL : J.length ≤ 600000000000 := by
            have := Nat.mul_le_mul_right 5001 hjl2
            omega
          have hsJ : (⟨J.toArray⟩ : ByteArray).size = J.length := Lib.size_eq _
          have HCALL := Lib.hid hcall
          have HPX := Lib.hid hpx
          have hk1 : (k : Int) < (ds.length : Int) := by omega
          obtain ⟨kd, tg, sy, pd⟩ := d
          have a0 := hcc 0 _ rfl
          have a1 := hcc 1 _ rfl
          have a2 := hcc 2 _ rfl
          have a3 := hcc 3 _ rfl
          simp only [Nat.add_zero] at a0
          clear hv hcc hc hpx hsub hcall hfk2 hJ hjl hjl2 hokx
          go_wp2_with fail
          refine HCALL.out.mono ?_
          rintro e w3 ⟨vv, rfl, ho3, hb3⟩
          have HB3 := Lib.hid (((Below.refl _ wr).alloc (Nat.le_refl _) _).trans (hb3.mono (by simp)))
          have HO3 := Lib.hid ho3
          clear ho3 hb3
          go_wp2_with fail
          refine (HJ.out vv _ ⟨_, HO3.out⟩).mono ?_
          rintro e w4 ⟨rfl, hb4⟩
          have HB4 := Lib.hid (HB3.out.trans (hb4.mono HB3.out.size))
          have hs4 := HB4.out.size
          have HW := Lib.hid (write_bytes w1.heap.size (P0 ++ (ds.take k).flatMap declT) (⟨J.toArray⟩ ++ ⟨#[10]⟩) w4 (isBuilder_below HBD.out HB4.out) (by rw [ByteArray.size_append, hsJ]; simp only [List.length_append, List.length_cons, List.length_nil]; show _ + (J.length + 1) ≤ _; omega) (by omega))
          clear hb4 hsJ
          go_wp2_with fail
          refine HW.out.mono ?_
          rintro e w5 ⟨rfl, hbd5, hb5⟩
          have hs5 := hb5.size
          have HBD5 := Lib.hid hbd5
          have HX5 := Lib.hid ((hb5.block W.heap.size hl1).trans ((HB4.out.block W.heap.size hlx).trans HBX.out))
          have HBL5 := Lib.hid ((HBL.out.trans (HB4.out.mono hszk)).trans (hb5.mono (by omega)))
          clear hbd5 hb5
          go_wp2_with fail
          refine ⟨⟨k + 1, by omega, by go_num, by omega, Lib.hid ?_, HBL5, HX5⟩, by simp [intOf]; omega⟩
          have e : P0 ++ (ds.take (k + 1)).flatMap declT = (P0 ++ (ds.take k).flatMap declT) ++ (⟨J.toArray⟩ ++ ⟨#[10]⟩ : ByteArray).data.toList := by
            rw [List.take_add_one, HPX.out, ← HJE.out]
            simp [List.flatMap_append, declT]
          rw [e]
          exact HBD5.out
        · obtain rfl : k = ds.length := by omega
          rw [List.take_length] at HBD hfk
          have x2 := cell_at (i := 2) HBX.out
          have HWM := Lib.hid (write_bytes w1.heap.size (P0 ++ ds.flatMap declT) ⟨#[37, 37, 10]⟩ wr HBD.out (by rw [List.length_append]; show P0.length + (ds.flatMap declT).length + 3 ≤ _; omega) (by omega))
          go_wp2_with fail
          refine HWM.out.mono ?_
          rintro e w6 ⟨rfl, hbd6, hb6⟩
          have hs6 := hb6.size
          have HBDM := Lib.hid hbd6
          have HBLM := Lib.hid (HBL.out.trans (hb6.mono (by omega)))
          have hF6 := (hb6.block W.heap.size hl1).trans HBX.out
          have HBXM := Lib.hid hF6
          have m2 := cell_at (i := 2) hF6
          have hl6 := lt_at hF6
          have hl61 : w1.heap.size < w6.heap.size := by omega
          clear hbd6 hb6 hF6 hfk hlx hlk
          go_wp2_with fail
          go_loopw [36] (fun iv wr => ∃ k : Nat, k ≤ rs.length ∧ iv = .int .i64 k ∧ w1.heap.size < wr.heap.size ∧ Hid (Lib.IsBuilder 101 5 w1.heap.size w1.heap.size (Lib.byteCells ((P0 ++ ds.flatMap declT ++ [37, 37, 10]) ++ (rs.take k).flatMap ruleT)) wr) ∧ Hid (Below W.heap.size W wr) ∧ Hid (wr.heap[W.heap.size]? = some (.cells #[.string ⟨([] : List UInt8).toArray⟩, .slice ad ds.length cd, .slice ar rs.length cr, .string ⟨tl.toArray⟩] 29 (0, 0)))) (fun iv _ => rs.length - (intOf iv).toNat)
          case atStart => exact ⟨0, Nat.zero_le _, rfl, (by omega), Lib.hid (by rw [show (P0 ++ ds.flatMap declT ++ [37, 37, 10]) ++ (rs.take 0).flatMap ruleT = (P0 ++ ds.flatMap declT ++ [37, 37, 10]) by simp]; exact HBDM.out), HBLM, HBXM⟩
          case round =>
            obtain ⟨k, hk, rfl, hlk, HBD, HBL, HBX⟩ := hrel
            have hk0 : (0 : Int) ≤ (k : Int) := Int.natCast_nonneg _
            have hszk := HBL.out.size
            have hlx := lt_at HBX.out
            have hfk := flat_take ruleT rs k
            by_cases hkn : k < rs.length
            · have hpx : rs[k]? = some rs[k] := List.getElem?_eq_getElem hkn
              have hokx := HOK2.out _ (List.mem_of_getElem? hpx)
              generalize rs[k] = d at hpx hokx
              obtain ⟨b, off, cap', hv, hb, hc⟩ := HR1.out.some (by intro h; have := congrArg List.length h; simp at this; rw [this] at hkn; simp at hkn)
              rw [List.length_mapIdx] at hv
              obtain ⟨rfl, rfl⟩ : ar = some ⟨b, off, none⟩ ∧ cr = cap' := by simpa using hv
              have hcc := fun j u (h : (ruleC (fr k) d)[j]? = some u) => (HBL.out.cell (p := ⟨b, _, none⟩) hb).trans (hc k (ruleC (fr k) d) (by simp [hpx]) j u h)
              have hsub := HR2.out k d hpx
              have hW1 : W.heap.size ≤ (wr.alloc (.cells (ruleC (fr k) d).toArray 52)).heap.size := by simp; omega
              have hcall := print_ruled d (fr k) (wr.alloc (.cells (ruleC (fr k) d).toArray 52)) (hsub.below (HBL.out.alloc hszk _)) hokx ((hg.below HBL.out).alloc _)
              obtain ⟨aa, ca, hfk2⟩ := hsub.form
              rw [hfk2] at hcc hcall
              have hjl := joinSp_len 5000 (Sp.ruleWords d) (ruleWords_small d hokx).2
              have hjl2 := (ruleWords_small d hokx).1
              have HJ := Lib.hid (fun vv W' hv' => rule_joined d hokx vv W' hv')
              generalize hJ : Sp.joinSp (Sp.ruleWords d) = J at HJ hjl
              have HJE := Lib.hid hJ
              have hJL : J.length ≤ 600000000000 := by
                have := Nat.mul_le_mul_right 5001 hjl2
                omega
              have hsJ : (⟨J.toArray⟩ : ByteArray).size = J.length := Lib.size_eq _
              have HCALL := Lib.hid hcall
              have HPX := Lib.hid hpx
              have hk1 : (k : Int) < (rs.length : Int) := by omega
              obtain ⟨lf, al, pd⟩ := d
              have a0 := hcc 0 _ rfl
              have a1 := hcc 1 _ rfl
              have a2 := hcc 2 _ rfl
              simp only [Nat.add_zero] at a0
              clear hv hcc hc hpx hsub hcall hfk2 hJ hjl hjl2 hokx
              go_wp2_with fail
              refine HCALL.out.mono ?_
              rintro e w3 ⟨vv, rfl, ho3, hb3⟩
              have HB3 := Lib.hid (((Below.refl _ wr).alloc (Nat.le_refl _) _).trans (hb3.mono (by simp)))
              have HO3 := Lib.hid ho3
              clear ho3 hb3
              go_wp2_with fail
              refine (HJ.out vv _ ⟨_, HO3.out⟩).mono ?_
              rintro e w4 ⟨rfl, hb4⟩
              have HB4 := Lib.hid (HB3.out.trans (hb4.mono HB3.out.size))
              have hs4 := HB4.out.size
              have HW := Lib.hid (write_bytes w1.heap.size ((P0 ++ ds.flatMap declT ++ [37, 37, 10]) ++ (rs.take k).flatMap ruleT) (⟨J.toArray⟩ ++ ⟨#[10]⟩) w4 (isBuilder_below HBD.out HB4.out) (by rw [ByteArray.size_append, hsJ]; simp only [List.length_append, List.length_cons, List.length_nil]; show _ + (J.length + 1) ≤ _; omega) (by omega))
              clear hb4 hsJ
              go_wp2_with fail
              refine HW.out.mono ?_
              rintro e w5 ⟨rfl, hbd5, hb5⟩
              have hs5 := hb5.size
              have HBD5 := Lib.hid hbd5
              have HX5 := Lib.hid ((hb5.block W.heap.size hl1).trans ((HB4.out.block W.heap.size hlx).trans HBX.out))
              have HBL5 := Lib.hid ((HBL.out.trans (HB4.out.mono hszk)).trans (hb5.mono (by omega)))
              clear hbd5 hb5
              go_wp2_with fail
              refine ⟨⟨k + 1, by omega, by go_num, by omega, Lib.hid ?_, HBL5, HX5⟩, by simp [intOf]; omega⟩
              have e : (P0 ++ ds.flatMap declT ++ [37, 37, 10]) ++ (rs.take (k + 1)).flatMap ruleT = ((P0 ++ ds.flatMap declT ++ [37, 37, 10]) ++ (rs.take k).flatMap ruleT) ++ (⟨J.toArray⟩ ++ ⟨#[10]⟩ : ByteArray).data.toList := by
                rw [List.take_add_one, HPX.out, ← HJE.out]
                simp [List.flatMap_append, ruleT]
              rw [e]
              exact HBD5.out
            · obtain rfl : k = rs.length := by omega
              rw [List.take_length] at HBD hfk
              have x3 := cell_at (i := 3) HBX.out
              by_cases htl : tl = []
              · subst htl
                have hTL : TL = [] := by rw [← HTL.out, if_pos rfl]
                go_wp2_with fail
                refine (Tryd.Builder_String_any w1.heap.size w1.heap.size (P0 ++ ds.flatMap declT ++ [37, 37, 10] ++ rs.flatMap ruleT) _ HBD.out (by omega)).mono ?_
                rintro e w6 ⟨rfl, hb6⟩
                have HB6 := Lib.hid (HBL.out.trans (hb6.mono (by omega)))
                clear hb6
                go_wp2_with fail
                go_ret
                rw [hTL]
                exact ⟨ret_strl (by simp), HB6.out⟩
              · obtain ⟨c, u, rfl⟩ : ∃ c u, tl = c :: u := by cases tl with | nil => exact absurd rfl htl | cons c u => exact ⟨c, u, rfl⟩
                have hne2 : (c :: u).isEmpty = false := rfl
                have hTL : TL = (⟨#[37, 37]⟩ ++ ⟨(c :: u).toArray⟩ : ByteArray).data.toList := by rw [← HTL.out, if_neg htl]; simp
                have HTLE := Lib.hid hTL
                have hul : u.length + 1 ≤ 4000 := hs2
                have HW := Lib.hid (write_bytes w1.heap.size (P0 ++ ds.flatMap declT ++ [37, 37, 10] ++ rs.flatMap ruleT) (⟨#[37, 37]⟩ ++ ⟨(c :: u).toArray⟩) wr HBD.out (by rw [ByteArray.size_append, Lib.size_eq ⟨(c :: u).toArray⟩]; simp only [List.length_append, List.length_cons, List.length_nil]; show _ + (2 + (u.length + 1)) ≤ _; omega) (by omega))
                clear hTL htl
                go_wp2_with fail
                refine HW.out.mono ?_
                rintro e w6 ⟨rfl, hbd6, hb6⟩
                have hs6 := hb6.size
                have HBD6 := Lib.hid hbd6
                have HB6 := Lib.hid (HBL.out.trans (hb6.mono (by omega)))
                clear hbd6 hb6
                go_wp2_with fail
                refine (Tryd.Builder_String_any w1.heap.size w1.heap.size _ _ HBD6.out (by omega)).mono ?_
                rintro e w7 ⟨rfl, hb7⟩
                have HB7 := Lib.hid (HB6.out.trans (hb7.mono (by omega)))
                clear hb7
                go_wp2_with fail
                go_ret
                exact ⟨ret_strl (by rw [HTLE.out]; simp), HB7.out⟩
    · obtain ⟨c0, u0, rfl⟩ : ∃ c u, pr = c :: u := by cases pr with | nil => exact absurd rfl hpr | cons c u => exact ⟨c, u, rfl⟩
      have hne1 : (c0 :: u0).isEmpty = false := rfl
      have hul0 : u0.length + 1 ≤ 4000 := hs1
      have hP0 : (⟨#[37, 123]⟩ ++ ⟨(c0 :: u0).toArray⟩ ++ ⟨#[37, 125, 10]⟩ : ByteArray).data.toList = P0 := by rw [← HP0.out, if_neg hpr]; simp
      have hsz0 : (⟨#[37, 123]⟩ ++ ⟨(c0 :: u0).toArray⟩ ++ ⟨#[37, 125, 10]⟩ : ByteArray).size ≤ 5000 := by rw [ByteArray.size_append, ByteArray.size_append, Lib.size_eq ⟨(c0 :: u0).toArray⟩]; show 2 + (u0.length + 1) + 3 ≤ _; omega
      have hw0 := write_bytes w1.heap.size [] (⟨#[37, 123]⟩ ++ ⟨(c0 :: u0).toArray⟩ ++ ⟨#[37, 125, 10]⟩) (w1.alloc (.cells #[.pointer none, .slice none 0 0] 101)) (Lib.fresh_isBuilder _ _ _) (by show 0 + _ ≤ _; omega) (by simp)
      rw [hP0] at hw0
      have HW0 := Lib.hid hw0
      clear hw0 hP0 hsz0 hpr
      go_wp2_with fail
      refine HW0.out.mono ?_
      rintro e wb ⟨rfl, hbdb, hbb⟩
      have HBD0 := Lib.hid (show Lib.IsBuilder 101 5 w1.heap.size w1.heap.size (Lib.byteCells P0) wb from hbdb)
      have hFb := (hbb.block W.heap.size hl1).trans (heap_old HF1.out _)
      have b1 := cell_at (i := 1) hFb
      have hlbb := lt_at hFb
      have hsb := hbb.size
      simp only [World.size_alloc] at hsb
      have HBX0 := Lib.hid hFb
      have HBL0 := Lib.hid ((HB1.out.alloc HB1.out.size _).trans (hbb.mono HB1.out.size))
      clear hbdb hbb hFb
      go_wp2_with fail
      go_loopw [22] (fun iv wr => ∃ k : Nat, k ≤ ds.length ∧ iv = .int .i64 k ∧ w1.heap.size < wr.heap.size ∧ Hid (Lib.IsBuilder 101 5 w1.heap.size w1.heap.size (Lib.byteCells (P0 ++ (ds.take k).flatMap declT)) wr) ∧ Hid (Below W.heap.size W wr) ∧ Hid (wr.heap[W.heap.size]? = some (.cells #[.string ⟨(c0 :: u0).toArray⟩, .slice ad ds.length cd, .slice ar rs.length cr, .string ⟨tl.toArray⟩] 29 (0, 0)))) (fun iv _ => ds.length - (intOf iv).toNat)
      case atStart => exact ⟨0, Nat.zero_le _, rfl, (by omega), Lib.hid (by rw [show P0 ++ (ds.take 0).flatMap declT = P0 by simp]; exact HBD0.out), HBL0, HBX0⟩
      case round =>
        obtain ⟨k, hk, rfl, hlk, HBD, HBL, HBX⟩ := hrel
        have hk0 : (0 : Int) ≤ (k : Int) := Int.natCast_nonneg _
        have hszk := HBL.out.size
        have hlx := lt_at HBX.out
        have hfk := flat_take declT ds k
        by_cases hkn : k < ds.length
        · have hpx : ds[k]? = some ds[k] := List.getElem?_eq_getElem hkn
          have hokx := HOK1.out _ (List.mem_of_getElem? hpx)
          generalize ds[k] = d at hpx hokx
          obtain ⟨b, off, cap', hv, hb, hc⟩ := HD1.out.some (by intro h; have := congrArg List.length h; simp at this; rw [this] at hkn; simp at hkn)
          rw [List.length_mapIdx] at hv
          obtain ⟨rfl, rfl⟩ : ad = some ⟨b, off, none⟩ ∧ cd = cap' := by simpa using hv
          have hcc := fun j u (h : (declC (fd k) d)[j]? = some u) => (HBL.out.cell (p := ⟨b, _, none⟩) hb).trans (hc k (declC (fd k) d) (by simp [hpx]) j u h)
          have hsub := HD2.out k d hpx
          have hW1 : W.heap.size ≤ (wr.alloc (.cells (declC (fd k) d).toArray 43)).heap.size := by simp; omega
          have hcall := print_declared d (fd k) (wr.alloc (.cells (declC (fd k) d).toArray 43)) (hsub.below (HBL.out.alloc hszk _)) hokx ((hg.below HBL.out).alloc _)
          obtain ⟨aa, ca, hfk2⟩ := hsub.form
          rw [List.length_map] at hfk2
          rw [hfk2] at hcc hcall
          have hjl := joinSp_len 5000 (Sp.declWords d) (declWords_small d hokx).2
          have hjl2 := (declWords_small d hokx).1
          have HJ := Lib.hid (fun vv W' hv' => decl_joined d hokx vv W' hv')
          generalize hJ : Sp.joinSp (Sp.declWords d) = J at HJ hjl
          have HJE := Lib.hid hJ
          have hJL : J.length ≤ 600000000000 := by
            have := Nat.mul_le_mul_right 5001 hjl2
            omega
          have hsJ : (⟨J.toArray⟩ : ByteArray).size = J.length := Lib.size_eq _
          have HCALL := Lib.hid hcall
          have HPX := Lib.hid hpx
          have hk1 : (k : Int) < (ds.length : Int) := by omega
          obtain ⟨kd, tg, sy, pd⟩ := d
          have a0 := hcc 0 _ rfl
          have a1 := hcc 1 _ rfl
          have a2 := hcc 2 _ rfl
          have a3 := hcc 3 _ rfl
          simp only [Nat.add_zero] at a0
          clear hv hcc hc hpx hsub hcall hfk2 hJ hjl hjl2 hokx
          go_wp2_with fail
          refine HCALL.out.mono ?_
          rintro e w3 ⟨vv, rfl, ho3, hb3⟩
          have HB3 := Lib.hid (((Below.refl _ wr).alloc (Nat.le_refl _) _).trans (hb3.mono (by simp)))
          have HO3 := Lib.hid ho3
          clear ho3 hb3
          go_wp2_with fail
          refine (HJ.out vv _ ⟨_, HO3.out⟩).mono ?_
          rintro e w4 ⟨rfl, hb4⟩
          have HB4 := Lib.hid (HB3.out.trans (hb4.mono HB3.out.size))
          have hs4 := HB4.out.size
          have HW := Lib.hid (write_bytes w1.heap.size (P0 ++ (ds.take k).flatMap declT) (⟨J.toArray⟩ ++ ⟨#[10]⟩) w4 (isBuilder_below HBD.out HB4.out) (by rw [ByteArray.size_append, hsJ]; simp only [List.length_append, List.length_cons, List.length_nil]; show _ + (J.length + 1) ≤ _; omega) (by omega))
          clear hb4 hsJ
          go_wp2_with fail
          refine HW.out.mono ?_
          rintro e w5 ⟨rfl, hbd5, hb5⟩
          have hs5 := hb5.size
          have HBD5 := Lib.hid hbd5
          have HX5 := Lib.hid ((hb5.block W.heap.size hl1).trans ((HB4.out.block W.heap.size hlx).trans HBX.out))
          have HBL5 := Lib.hid ((HBL.out.trans (HB4.out.mono hszk)).trans (hb5.mono (by omega)))
          clear hbd5 hb5
          go_wp2_with fail
          refine ⟨⟨k + 1, by omega, by go_num, by omega, Lib.hid ?_, HBL5, HX5⟩, by simp [intOf]; omega⟩
          have e : P0 ++ (ds.take (k + 1)).flatMap declT = (P0 ++ (ds.take k).flatMap declT) ++ (⟨J.toArray⟩ ++ ⟨#[10]⟩ : ByteArray).data.toList := by
            rw [List.take_add_one, HPX.out, ← HJE.out]
            simp [List.flatMap_append, declT]
          rw [e]
          exact HBD5.out
        · obtain rfl : k = ds.length := by omega
          rw [List.take_length] at HBD hfk
          have x2 := cell_at (i := 2) HBX.out
          have HWM := Lib.hid (write_bytes w1.heap.size (P0 ++ ds.flatMap declT) ⟨#[37, 37, 10]⟩ wr HBD.out (by rw [List.length_append]; show P0.length + (ds.flatMap declT).length + 3 ≤ _; omega) (by omega))
          go_wp2_with fail
          refine HWM.out.mono ?_
          rintro e w6 ⟨rfl, hbd6, hb6⟩
          have hs6 := hb6.size
          have HBDM := Lib.hid hbd6
          have HBLM := Lib.hid (HBL.out.trans (hb6.mono (by omega)))
          have hF6 := (hb6.block W.heap.size hl1).trans HBX.out
          have HBXM := Lib.hid hF6
          have m2 := cell_at (i := 2) hF6
          have hl6 := lt_at hF6
          have hl61 : w1.heap.size < w6.heap.size := by omega
          clear hbd6 hb6 hF6 hfk hlx hlk
          go_wp2_with fail
          go_loopw [36] (fun iv wr => ∃ k : Nat, k ≤ rs.length ∧ iv = .int .i64 k ∧ w1.heap.size < wr.heap.size ∧ Hid (Lib.IsBuilder 101 5 w1.heap.size w1.heap.size (Lib.byteCells ((P0 ++ ds.flatMap declT ++ [37, 37, 10]) ++ (rs.take k).flatMap ruleT)) wr) ∧ Hid (Below W.heap.size W wr) ∧ Hid (wr.heap[W.heap.size]? = some (.cells #[.string ⟨(c0 :: u0).toArray⟩, .slice ad ds.length cd, .slice ar rs.length cr, .string ⟨tl.toArray⟩] 29 (0, 0)))) (fun iv _ => rs.length - (intOf iv).toNat)
          case atStart => exact ⟨0, Nat.zero_le _, rfl, (by omega), Lib.hid (by rw [show (P0 ++ ds.flatMap declT ++ [37, 37, 10]) ++ (rs.take 0).flatMap ruleT = (P0 ++ ds.flatMap declT ++ [37, 37, 10]) by simp]; exact HBDM.out), HBLM, HBXM⟩
          case round =>
            obtain ⟨k, hk, rfl, hlk, HBD, HBL, HBX⟩ := hrel
            have hk0 : (0 : Int) ≤ (k : Int) := Int.natCast_nonneg _
            have hszk := HBL.out.size
            have hlx := lt_at HBX.out
            have hfk := flat_take ruleT rs k
            by_cases hkn : k < rs.length
            · have hpx : rs[k]? = some rs[k] := List.getElem?_eq_getElem hkn
              have hokx := HOK2.out _ (List.mem_of_getElem? hpx)
              generalize rs[k] = d at hpx hokx
              obtain ⟨b, off, cap', hv, hb, hc⟩ := HR1.out.some (by intro h; have := congrArg List.length h; simp at this; rw [this] at hkn; simp at hkn)
              rw [List.length_mapIdx] at hv
              obtain ⟨rfl, rfl⟩ : ar = some ⟨b, off, none⟩ ∧ cr = cap' := by simpa using hv
              have hcc := fun j u (h : (ruleC (fr k) d)[j]? = some u) => (HBL.out.cell (p := ⟨b, _, none⟩) hb).trans (hc k (ruleC (fr k) d) (by simp [hpx]) j u h)
              have hsub := HR2.out k d hpx
              have hW1 : W.heap.size ≤ (wr.alloc (.cells (ruleC (fr k) d).toArray 52)).heap.size := by simp; omega
              have hcall := print_ruled d (fr k) (wr.alloc (.cells (ruleC (fr k) d).toArray 52)) (hsub.below (HBL.out.alloc hszk _)) hokx ((hg.below HBL.out).alloc _)
              obtain ⟨aa, ca, hfk2⟩ := hsub.form
              rw [hfk2] at hcc hcall
              have hjl := joinSp_len 5000 (Sp.ruleWords d) (ruleWords_small d hokx).2
              have hjl2 := (ruleWords_small d hokx).1
              have HJ := Lib.hid (fun vv W' hv' => rule_joined d hokx vv W' hv')
              generalize hJ : Sp.joinSp (Sp.ruleWords d) = J at HJ hjl
              have HJE := Lib.hid hJ
              have hJL : J.length ≤ 600000000000 := by
                have := Nat.mul_le_mul_right 5001 hjl2
                omega
              have hsJ : (⟨J.toArray⟩ : ByteArray).size = J.length := Lib.size_eq _
              have HCALL := Lib.hid hcall
              have HPX := Lib.hid hpx
              have hk1 : (k : Int) < (rs.length : Int) := by omega
              obtain ⟨lf, al, pd⟩ := d
              have a0 := hcc 0 _ rfl
              have a1 := hcc 1 _ rfl
              have a2 := hcc 2 _ rfl
              simp only [Nat.add_zero] at a0
              clear hv hcc hc hpx hsub hcall hfk2 hJ hjl hjl2 hokx
              go_wp2_with fail
              refine HCALL.out.mono ?_
              rintro e w3 ⟨vv, rfl, ho3, hb3⟩
              have HB3 := Lib.hid (((Below.refl _ wr).alloc (Nat.le_refl _) _).trans (hb3.mono (by simp)))
              have HO3 := Lib.hid ho3
              clear ho3 hb3
              go_wp2_with fail
              refine (HJ.out vv _ ⟨_, HO3.out⟩).mono ?_
              rintro e w4 ⟨rfl, hb4⟩
              have HB4 := Lib.hid (HB3.out.trans (hb4.mono HB3.out.size))
              have hs4 := HB4.out.size
              have HW := Lib.hid (write_bytes w1.heap.size ((P0 ++ ds.flatMap declT ++ [37, 37, 10]) ++ (rs.take k).flatMap ruleT) (⟨J.toArray⟩ ++ ⟨#[10]⟩) w4 (isBuilder_below HBD.out HB4.out) (by rw [ByteArray.size_append, hsJ]; simp only [List.length_append, List.length_cons, List.length_nil]; show _ + (J.length + 1) ≤ _; omega) (by omega))
              clear hb4 hsJ
              go_wp2_with fail
              refine HW.out.mono ?_
              rintro e w5 ⟨rfl, hbd5, hb5⟩
              have hs5 := hb5.size
              have HBD5 := Lib.hid hbd5
              have HX5 := Lib.hid ((hb5.block W.heap.size hl1).trans ((HB4.out.block W.heap.size hlx).trans HBX.out))
              have HBL5 := Lib.hid ((HBL.out.trans (HB4.out.mono hszk)).trans (hb5.mono (by omega)))
              clear hbd5 hb5
              go_wp2_with fail
              refine ⟨⟨k + 1, by omega, by go_num, by omega, Lib.hid ?_, HBL5, HX5⟩, by simp [intOf]; omega⟩
              have e : (P0 ++ ds.flatMap declT ++ [37, 37, 10]) ++ (rs.take (k + 1)).flatMap ruleT = ((P0 ++ ds.flatMap declT ++ [37, 37, 10]) ++ (rs.take k).flatMap ruleT) ++ (⟨J.toArray⟩ ++ ⟨#[10]⟩ : ByteArray).data.toList := by
                rw [List.take_add_one, HPX.out, ← HJE.out]
                simp [List.flatMap_append, ruleT]
              rw [e]
              exact HBD5.out
            · obtain rfl : k = rs.length := by omega
              rw [List.take_length] at HBD hfk
              have x3 := cell_at (i := 3) HBX.out
              by_cases htl : tl = []
              · subst htl
                have hTL : TL = [] := by rw [← HTL.out, if_pos rfl]
                go_wp2_with fail
                refine (Tryd.Builder_String_any w1.heap.size w1.heap.size (P0 ++ ds.flatMap declT ++ [37, 37, 10] ++ rs.flatMap ruleT) _ HBD.out (by omega)).mono ?_
                rintro e w6 ⟨rfl, hb6⟩
                have HB6 := Lib.hid (HBL.out.trans (hb6.mono (by omega)))
                clear hb6
                go_wp2_with fail
                go_ret
                rw [hTL]
                exact ⟨ret_strl (by simp), HB6.out⟩
              · obtain ⟨c, u, rfl⟩ : ∃ c u, tl = c :: u := by cases tl with | nil => exact absurd rfl htl | cons c u => exact ⟨c, u, rfl⟩
                have hne2 : (c :: u).isEmpty = false := rfl
                have hTL : TL = (⟨#[37, 37]⟩ ++ ⟨(c :: u).toArray⟩ : ByteArray).data.toList := by rw [← HTL.out, if_neg htl]; simp
                have HTLE := Lib.hid hTL
                have hul : u.length + 1 ≤ 4000 := hs2
                have HW := Lib.hid (write_bytes w1.heap.size (P0 ++ ds.flatMap declT ++ [37, 37, 10] ++ rs.flatMap ruleT) (⟨#[37, 37]⟩ ++ ⟨(c :: u).toArray⟩) wr HBD.out (by rw [ByteArray.size_append, Lib.size_eq ⟨(c :: u).toArray⟩]; simp only [List.length_append, List.length_cons, List.length_nil]; show _ + (2 + (u.length + 1)) ≤ _; omega) (by omega))
                clear hTL htl
                go_wp2_with fail
                refine HW.out.mono ?_
                rintro e w6 ⟨rfl, hbd6, hb6⟩
                have hs6 := hb6.size
                have HBD6 := Lib.hid hbd6
                have HB6 := Lib.hid (HBL.out.trans (hb6.mono (by omega)))
                clear hbd6 hb6
                go_wp2_with fail
                refine (Tryd.Builder_String_any w1.heap.size w1.heap.size _ _ HBD6.out (by omega)).mono ?_
                rintro e w7 ⟨rfl, hb7⟩
                have HB7 := Lib.hid (HB6.out.trans (hb7.mono (by omega)))
                clear hb7
                go_wp2_with fail
                go_ret
                exact ⟨ret_strl (by rw [HTLE.out]; simp), HB7.out⟩
end Go.Proofs.YthmimcegiihcnaaDoor
