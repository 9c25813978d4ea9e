/- subst.dotted, tag, Body: the text of a production's action. -/
import Derived.Test.YtphdfbmmjkccgaaDoorZ03
import Derived.Test.YtphdfbmmjkccgaaDoorZ04
import Derived.Test.YtphdfbmmjkccgaaDoorZ06
import Derived.Test.YtphdfbmmjkccgaaDoorZ05
import Derived.Test.YtphdfbmmjkccgaaDoorZ09
namespace Go.Proofs.YtphdfbmmjkccgaaDoor
open Go.RowKit Go.Maps

theorem ret_strl2 {a b : ByteArray} (h : a = b) : Ending.returned (.string a) = .returned (.string b) := by rw [h]
set_option maxHeartbeats 1600000 in
theorem subst_dotted (a b : List UInt8) (w : World) (ha : a.length ≤ 4000) (hb : b.length ≤ 4000) :
    Calls Tryd.prog 27 #[.string ⟨a.toArray⟩, .string ⟨b.toArray⟩] w fun e w' => e = .returned (.string ⟨(Sp.dotted a b).toArray⟩) ∧ Below w.heap.size w w' := by
  cases a with
  | cons c l =>
    have e : Sp.dotted (c :: l) b = 46 :: c :: l := by unfold Sp.dotted; rw [if_pos (by simp)]
    rw [e]
    have hs : ¬ 9223372036854775807 < (⟨#[46]⟩ : ByteArray).size + (⟨(c :: l).toArray⟩ : ByteArray).size := by rw [Lib.size_eq ⟨(c :: l).toArray⟩]; show ¬ 9223372036854775807 < 1 + (c :: l).length; omega
    go_enter Tryd.func27, Tryd.ntmps27
    go_wp2_with fail
    go_ret
    refine ⟨ret_strl2 ?_, Below.refl _ _⟩
    apply ByteArray.ext
    rw [ByteArray.data_append]
    simp
  | nil =>
    cases b with
    | nil =>
      go_enter Tryd.func27, Tryd.ntmps27
      go_wp2_with fail
      go_ret
      exact ⟨rfl, Below.refl _ _⟩
    | cons c l =>
      have e : Sp.dotted [] (c :: l) = 46 :: c :: l := by unfold Sp.dotted; rw [if_neg (by simp), if_pos (by simp)]
      rw [e]
      have hs : ¬ 9223372036854775807 < (⟨#[46]⟩ : ByteArray).size + (⟨(c :: l).toArray⟩ : ByteArray).size := by rw [Lib.size_eq ⟨(c :: l).toArray⟩]; show ¬ 9223372036854775807 < 1 + (c :: l).length; omega
      go_enter Tryd.func27, Tryd.ntmps27
      go_wp2_with fail
      go_ret
      refine ⟨ret_strl2 ?_, Below.refl _ _⟩
      apply ByteArray.ext
      rw [ByteArray.data_append]
      simp
set_option maxHeartbeats 1600000 in
theorem subst_tag (g : Sp.Gram) (gv : Value) (s : Int) (W : World) (hg : GramAt W gv g) (hl1 : g.toks.length ≤ 2 ^ 40) (hl2 : g.nons.length ≤ 2 ^ 40) (h0 : 0 ≤ s) (h1 : 1000 ≤ s → s - 1000 < (g.nons.length : Int)) (h2 : s < 1000 → s < (g.toks.length : Int)) :
    Calls Tryd.prog 29 #[gv, .int .i64 s] W fun e w' => e = .returned (.string ⟨(Sp.symTag g s).toArray⟩) ∧ Below W.heap.size W w' := by
  obtain ⟨tv, nv, pv, rfl, ht, hn, hp⟩ := hg
  obtain ⟨ta, tc, htv⟩ := ht.form
  obtain ⟨na, nc, hnv⟩ := hn.form
  obtain ⟨f, g', hp1, _⟩ := hp
  obtain ⟨pa, pc, hpv⟩ := hp1.form
  subst htv hnv hpv
  rw [List.length_map] at ht hn ⊢
  obtain ⟨toks, nons, prods, pro, tl⟩ := g
  simp only [List.length_map, List.length_mapIdx] at *
  clear hp1
  obtain ⟨nt, hnt⟩ : ∃ nt, nt = toks.length := ⟨_, rfl⟩
  obtain ⟨nn, hnn⟩ : ∃ nn, nn = nons.length := ⟨_, rfl⟩
  rw [← hnt] at ht hl1 h2 ⊢
  rw [← hnn] at hn hl2 h1 ⊢
  by_cases hs : 1000 ≤ s
  · obtain ⟨k, rfl⟩ : ∃ k : Nat, s = 1000 + (k : Int) := ⟨(s - 1000).toNat, by omega⟩
    have hk : k < nons.length := by have := h1 hs; omega
    obtain ⟨t, hta⟩ : ∃ t, nons[k]? = some t := ⟨_, List.getElem?_eq_getElem hk⟩
    obtain ⟨b, off, rfl, hb, hc⟩ := hn.at (k := k) (row := nonC t) (by rw [List.getElem?_map, hta]; rfl)
    have hc' := hc (W.alloc (.cells #[.slice ta nt tc, .slice (some ⟨b, off, none⟩) nn nc, .slice pa prods.length pc, .string ⟨pro.toArray⟩, .string ⟨tl.toArray⟩] 58)) ((Below.refl _ W).alloc (Nat.le_refl _) _)
    have c1 := hc' 1 _ rfl
    have hR : Hid (Sp.symTag ⟨toks, nons, prods, pro, tl⟩ (1000 + (k : Int)) = t.tag) := Lib.hid (by
      unfold Sp.symTag Sp.nonTag
      rw [if_pos hs, show (1000 + (k : Int) - 1000).toNat = k by omega]
      simp only [hta, Option.map_some, Option.getD_some])
    have hsub : IntKind.i64.wrap (1000 + (k : Int) - 1000) = (k : Int) := by rw [show 1000 + (k : Int) - 1000 = (k : Int) by omega]; exact IntWalk.i64_in _ ⟨by omega, by omega⟩
    have hk3 : (k : Int) < (nn : Int) := by omega
    have hk0 : (0 : Int) ≤ (k : Int) := Int.natCast_nonneg _
    clear hc hc' hnt hnn ht hn hta h1 h2 hk
    obtain ⟨nm, tg⟩ := t
    go_enter Tryd.func29, Tryd.ntmps29
    go_wp2_with fail
    go_ret
    exact ⟨by rw [hR.out]; rfl, (Below.refl _ W).alloc (Nat.le_refl _) _⟩
  · obtain ⟨k, rfl⟩ : ∃ k : Nat, s = (k : Int) := ⟨s.toNat, by omega⟩
    have hk : k < toks.length := by have := h2 (by omega); omega
    obtain ⟨t, hta⟩ : ∃ t, toks[k]? = some t := ⟨_, List.getElem?_eq_getElem hk⟩
    obtain ⟨b, off, rfl, hb, hc⟩ := ht.at (k := k) (row := tokC t) (by rw [List.getElem?_map, hta]; rfl)
    have hc' := hc (W.alloc (.cells #[.slice (some ⟨b, off, none⟩) nt tc, .slice na nn nc, .slice pa prods.length pc, .string ⟨pro.toArray⟩, .string ⟨tl.toArray⟩] 58)) ((Below.refl _ W).alloc (Nat.le_refl _) _)
    have c5 := hc' 5 _ rfl
    have hR : Hid (Sp.symTag ⟨toks, nons, prods, pro, tl⟩ (k : Int) = t.tag) := Lib.hid (by
      unfold Sp.symTag
      rw [if_neg hs, show (k : Int).toNat = k by omega]
      simp only [hta, Option.map_some, Option.getD_some])
    have hk3 : (k : Int) < (nt : Int) := by omega
    clear hc hc' hnt hnn ht hn hta h1 h2 hk
    obtain ⟨nm, lt, nu, lv, asc, tg⟩ := t
    go_enter Tryd.func29, Tryd.ntmps29
    go_wp2_with fail
    go_ret
    exact ⟨by rw [hR.out]; rfl, (Below.refl _ W).alloc (Nat.le_refl _) _⟩
set_option maxRecDepth 100000 in
set_option maxHeartbeats 12800000 in
theorem subst_Body (g : Sp.Gram) (gv : Value) (p : Int) (W : World) (hg : GramAt W gv g) (hgl : Gl W) (hpw : -9223372036854775808 ≤ p ∧ p ≤ 9223372036854775807) (hl1 : g.toks.length ≤ 2 ^ 40) (hl2 : g.nons.length ≤ 2 ^ 40) (hl3 : g.prods.length ≤ 2 ^ 40) (hT : Sp.GoodTg g) (hpr : ∀ x ∈ g.prods, Sp.GoodPr g x) :
    Calls Tryd.prog 14 #[gv, .int .i64 p] W fun e w' => e = .returned (.tuple #[.string ⟨(Sp.subBody g p).1.toArray⟩, faultV (Sp.subBody g p).2]) ∧ Below W.heap.size W w' := by
  have hg0 := hg
  obtain ⟨tv, nv, pv, rfl, ht, hn, hp⟩ := hg
  obtain ⟨ta, tc, htv⟩ := ht.form
  obtain ⟨na, nc, hnv⟩ := hn.form
  obtain ⟨f, f', hp1, hp2⟩ := hp
  obtain ⟨pa, pc, hpv⟩ := hp1.form
  subst htv hnv hpv
  rw [List.length_map] at ht hn
  rw [List.length_map, List.length_map, List.length_mapIdx] at hg0 ⊢
  rw [List.length_mapIdx] at hp1
  obtain ⟨hpw1, hpw2⟩ := hpw
  have hB := fun x (hx : x ∈ g.prods) => hpr x hx
  obtain ⟨RES, hRES⟩ : ∃ r, r = Sp.subBody g p := ⟨_, rfl⟩
  rw [← hRES]
  have HRES := Lib.hid hRES; have HG0 := Lib.hid hg0; have HGL := Lib.hid hgl; have HTG := Lib.hid hT; have HN := Lib.hid hn
  clear hRES hg0 hgl hT hpr hn ht
  obtain ⟨nt, hnt⟩ : ∃ nt, nt = g.toks.length := ⟨_, rfl⟩
  obtain ⟨nn, hnn⟩ : ∃ nn, nn = g.nons.length := ⟨_, rfl⟩
  obtain ⟨np, hnp⟩ : ∃ np, np = g.prods.length := ⟨_, rfl⟩
  obtain ⟨pro, hpro⟩ : ∃ q, q = g.pro := ⟨_, rfl⟩
  obtain ⟨tl, htl⟩ : ∃ q, q = g.tail := ⟨_, rfl⟩
  rw [← hnn] at HN
  rw [← hnt, ← hnn, ← hnp, ← hpro, ← htl] at HG0 ⊢
  rw [← hnp] at hp1 hl3
  rw [← hnt] at hl1
  rw [← hnn] at hl2
  have HNT := Lib.hid hnt; have HNN := Lib.hid hnn; have HNP := Lib.hid hnp
  clear hnt hnn hnp hpro htl
  obtain ⟨wA, hwA⟩ : ∃ wA : World, wA = (W.alloc (.cells #[.slice ta nt tc, .slice na nn nc, .slice pa np pc, .string ⟨pro.toArray⟩, .string ⟨tl.toArray⟩] 58)).alloc (.cells #[.int .i64 0, .int .i64 0, .string ⟨#[]⟩] 32) := ⟨_, rfl⟩
  have hbA : Below W.heap.size W wA := by rw [hwA]; exact ((Below.refl _ W).alloc (Nat.le_refl _) _).alloc (by simp) _
  have hgA : wA.heap[W.heap.size]? = some (.cells #[.slice ta nt tc, .slice na nn nc, .slice pa np pc, .string ⟨pro.toArray⟩, .string ⟨tl.toArray⟩] 58 (0, 0)) := by rw [hwA]; exact heap_old (heap_last W _) _
  have hfA : wA.heap[W.heap.size + 1]? = some (.cells #[.int .i64 0, .int .i64 0, .string ⟨#[]⟩] 32 (0, 0)) := by rw [hwA]; exact heap_sec W _ _
  have hsA : wA.heap.size = W.heap.size + 1 + 1 := by rw [hwA]; simp
  have HBA := Lib.hid hbA; have HGA := Lib.hid hgA; have HFA := Lib.hid hfA; have HSA := Lib.hid hsA
  have g0 := cell_at (i := 0) hgA; have g1 := cell_at (i := 1) hgA; have g2 := cell_at (i := 2) hgA
  have lg := lt_at hgA; have lf := lt_at hfA
  have e0 := cell_at (i := 0) hfA; have e1 := cell_at (i := 1) hfA; have e2 := cell_at (i := 2) hfA
  have z0 := frozen_at (i := 0) hfA; have z1 := frozen_at (i := 1) hfA; have z2 := frozen_at (i := 2) hfA
  clear hbA hgA hfA hsA
  -- nothing is there
  by_cases hin : p < 0 ∨ (np : Int) ≤ p
  · have hR : RES = ([], ⟨0, 0, []⟩) := by
      rw [HRES.out]
      unfold Sp.subBody
      rw [if_pos (by rw [← HNP.out]; exact hin)]
    subst hR
    clear hp1 hp2 hB
    go_enter Tryd.func14, Tryd.ntmps14
    go_upto_region 1 with fail
    rw [← hwA]
    clear hwA
    by_cases hlt : p < 0
    · have hb0 : decide (p < 0) = true := decide_eq_true hlt
      go_wp2_with fail
      refine ret_tmp_cell (g := W.heap.size + 1) rfl rfl (heap_setCell_at (heap_setCell_at (heap_setCell_at HFA.out))) rfl Tryd.underlying32 (by kernel_rfl) rfl ?_
      exact ⟨rfl, HBA.out.trans ((((Below.refl _ wA).setCell (by simp) _).setCell (by simp) _).setCell (by simp) _)⟩
    · have hb0 : decide (p < 0) = false := decide_eq_false hlt
      have hge : (np : Int) ≤ p := by omega
      go_wp2_with fail
      refine ret_tmp_cell (g := W.heap.size + 1) rfl rfl (heap_setCell_at (heap_setCell_at (heap_setCell_at HFA.out))) rfl Tryd.underlying32 (by kernel_rfl) rfl ?_
      exact ⟨rfl, HBA.out.trans ((((Below.refl _ wA).setCell (by simp) _).setCell (by simp) _).setCell (by simp) _)⟩
  · obtain ⟨k, rfl⟩ : ∃ k : Nat, p = (k : Int) := ⟨p.toNat, by omega⟩
    have hk : k < g.prods.length := by have := HNP.out; omega
    obtain ⟨x, hx⟩ : ∃ x, g.prods[k]? = some x := ⟨_, List.getElem?_eq_getElem hk⟩
    have hR : RES = Sp.subProd g x := by
      rw [HRES.out]
      unfold Sp.subBody
      rw [if_neg (by rw [← HNP.out]; exact hin), show (k : Int).toNat = k by omega]
      simp only [hx]
    obtain ⟨hi1, hi2⟩ := hp2 k x hx
    have hgx := hB x (List.mem_of_getElem? hx)
    obtain ⟨pb, po, rfl, hpb, hpc⟩ := hp1.at (k := k) (row := prodC (f k) (f' k) x) (by rw [List.getElem?_mapIdx, hx]; rfl)
    obtain ⟨ra, rc, hrv⟩ := ints_form hi1
    obtain ⟨aa, ac, hav⟩ := ints_form hi2
    rw [hrv, hav] at hpc
    rw [hav] at hi2
    have hpcA := hpc wA HBA.out
    have hkI : ¬ (np : Int) ≤ (k : Int) := by omega
    have hk0 : (0 : Int) ≤ (k : Int) := Int.natCast_nonneg _
    have hk1 : (k : Int) < (np : Int) := by omega
    have HAR := Lib.hid hi2; have HGX := Lib.hid hgx
    clear hp1 hp2 hB hin hx hi1 hi2 hgx HRES hrv hav hpc HNP hk
    obtain ⟨pl, rt, pp, code, args, pat⟩ := x
    obtain ⟨an, han⟩ : ∃ an, an = args.length := ⟨_, rfl⟩
    obtain ⟨rn, hrn⟩ : ∃ rn, rn = rt.length := ⟨_, rfl⟩
    simp only at HAR hpcA
    rw [← han] at HAR hpcA
    rw [← hrn] at hpcA
    have HAN := Lib.hid han
    clear han hrn
    have p0 := hpcA 0 _ rfl; have p1 := hpcA 1 _ rfl; have p2 := hpcA 2 _ rfl; have p3 := hpcA 3 _ rfl; have p4 := hpcA 4 _ rfl; have p5 := hpcA 5 _ rfl
    simp only [Nat.add_zero] at p0
    have lpb : pb < wA.heap.size := by have := HBA.out.size; omega
    clear hpcA hpb
    go_enter Tryd.func14, Tryd.ntmps14
    go_upto_region 1 with fail
    rw [← hwA]
    clear hwA
    cases hcd : code with
    | nil =>
      subst hcd
      have hR2 : RES = ([], ⟨0, 0, []⟩) := by rw [hR]; rfl
      subst hR2
      clear hR
      go_wp2_with fail
      refine ret_tmp_cell (g := W.heap.size + 1) rfl rfl (heap_setCell_at (heap_setCell_at (heap_setCell_at HFA.out))) rfl Tryd.underlying32 (by kernel_rfl) rfl ?_
      exact ⟨rfl, HBA.out.trans ((((Below.refl _ wA).setCell (by simp) _).setCell (by simp) _).setCell (by simp) _)⟩
    | cons cd0 cdl =>
      have hne : (!code.isEmpty) = true := by rw [hcd]; rfl
      have hne2 : code.isEmpty = false := by rw [hcd]; rfl
      have hcn : code ≠ [] := by rw [hcd]; simp
      clear hcd
      have hcl : code.length ≤ 4000 := HGX.out.2.2.1
      obtain ⟨w1, hw1⟩ : ∃ w1 : World, w1 = wA.alloc (.cells #[.int .i64 pl, .slice ra rn rc, .int .i64 pp, .string ⟨code.toArray⟩, .slice aa an ac, .int .i64 pat] 84) := ⟨_, rfl⟩
      have hb1 : Below wA.heap.size wA w1 := by rw [hw1]; exact (Below.refl _ wA).alloc (Nat.le_refl _) _
      have hx1 : w1.heap[W.heap.size + 1 + 1]? = some (.cells #[.int .i64 pl, .slice ra rn rc, .int .i64 pp, .string ⟨code.toArray⟩, .slice aa an ac, .int .i64 pat] 84 (0, 0)) := by rw [hw1, ← HSA.out]; exact heap_last wA _
      have HB1 := Lib.hid (HBA.out.trans (hb1.mono HBA.out.size)); have HX1 := Lib.hid hx1
      have HG1 := Lib.hid ((hb1.block _ (lt_at HGA.out)).trans HGA.out); have HF1 := Lib.hid ((hb1.block _ (lt_at HFA.out)).trans HFA.out)
      go_upto_region 4 with fail
      rw [HSA.out, ← hw1]
      have q3 := cell_at (i := 3) hx1
      have lq := lt_at hx1
      obtain ⟨⟨PS, ce⟩, hcut⟩ : ∃ q, q = Sp.cut code := ⟨_, rfl⟩
      have hcg := Sp.cut_good code
      have hcb : ce = 0 → PS.length ≤ 2 * code.length + 1 ∧ ∀ q ∈ PS, q.text.length ≤ code.length ∧ q.tag.length ≤ code.length := fun e => Sp.cut_bounds code PS (by rw [← hcut, e])
      rw [← hcut] at hcg
      have HCUT := Lib.hid (show Calls Tryd.prog 25 #[.string ⟨code.toArray⟩] w1 (CutPost (PS, ce) w1) from by
        rw [hcut]
        exact body_Cut ⟨code.toArray⟩ w1 (by rw [Lib.size_eq]; show code.length < _; omega) (HGL.out.below HB1.out))
      have hR2 : RES = if ce ≠ 0 then ([], ⟨ce, pat, []⟩) else Sp.subRes pat (Sp.subGo g ⟨pl, rt, pp, code, args, pat⟩ PS []) := by
        rw [hR]
        unfold Sp.subProd
        rw [if_neg hcn]
        simp only [← hcut]
      clear hR hcut hw1 hb1 hx1 HGA HFA HBA g0 g1 g2 lg lf e0 e1 e2 z0 z1 z2 p0 p1 p2 p3 p4 p5 lpb hne hne2 hcn
      go_wp2_with fail
      refine HCUT.out.mono ?_
      rintro e w2 ⟨pv, rfl, hown, hb2⟩
      simp only at hown
      have hG2 := (hb2.block _ (lt_at HG1.out)).trans HG1.out; have hF2 := (hb2.block _ (lt_at HF1.out)).trans HF1.out; have hX2 := (hb2.block _ (lt_at HX1.out)).trans HX1.out
      have HB2 := Lib.hid (HB1.out.trans (hb2.mono HB1.out.size))
      have HG2 := Lib.hid hG2; have HF2 := Lib.hid hF2; have HX2 := Lib.hid hX2
      have HSF := Lib.hid (fun (w' : World) (hb : Below w2.heap.size w2 w') => (show (w'.cell? ⟨W.heap.size + 1 + 1, 5, none⟩ = some (.int .i64 pat) ∧ (w'.frozen? ⟨W.heap.size + 1, 0, none⟩ = false ∧ w'.frozen? ⟨W.heap.size + 1, 1, none⟩ = false ∧ w'.frozen? ⟨W.heap.size + 1, 2, none⟩ = false) ∧ (w'.cell? ⟨W.heap.size + 1, 0, none⟩ = some (.int .i64 0) ∧ w'.cell? ⟨W.heap.size + 1, 1, none⟩ = some (.int .i64 0) ∧ w'.cell? ⟨W.heap.size + 1, 2, none⟩ = some (.string ⟨#[]⟩)) ∧ W.heap.size + 1 + 1 < w'.heap.size ∧ W.heap.size + 1 < w'.heap.size) from by
        have h1 := (hb.block _ (lt_at HX2.out)).trans HX2.out
        have h2 := (hb.block _ (lt_at HF2.out)).trans HF2.out
        exact ⟨cell_at (i := 5) h1, ⟨frozen_at (i := 0) h2, frozen_at (i := 1) h2, frozen_at (i := 2) h2⟩, ⟨cell_at (i := 0) h2, cell_at (i := 1) h2, cell_at (i := 2) h2⟩, lt_at h1, lt_at h2⟩))
      have hsl : SlAt w2 pv 4 (PS.map pieceC) := slAt_of_owns (base := w1.heap.size) (e := 92) (n := PS.length) (PS.map pieceC) (fun r hr => by obtain ⟨q, _, rfl⟩ := List.mem_map.1 hr; rfl) (by simp) (by rw [← List.flatMap_def]; exact hown)
      clear hb2 hG2 hF2 hX2 hown HCUT q3 lq HX1 HG1 HF1
      by_cases hce : ce = 0
      · subst hce
        rw [if_neg (by simp)] at hR2
        obtain ⟨hpn, hpt⟩ := hcb rfl
        clear hcb
        obtain ⟨R, hR3⟩ : ∃ R, R = Sp.subGo g ⟨pl, rt, pp, code, args, pat⟩ PS [] := ⟨_, rfl⟩
        rw [← hR3] at hR2
        have HR2 := Lib.hid hR2; have HR3 := Lib.hid hR3
        obtain ⟨n, hn⟩ : ∃ n, n = PS.length := ⟨_, rfl⟩
        obtain ⟨sa, sc, hsv⟩ := hsl.form
        rw [List.length_map, ← hn] at hsv
        subst hsv
        have HSL := Lib.hid hsl; have HNE := Lib.hid hn; have HPT := Lib.hid hpt; have HCG := Lib.hid hcg
        have hn8 : n ≤ 8001 := by omega
        clear hR2 hR3 hsl hpt hcg hpn hn
        obtain ⟨N, hN⟩ : ∃ N, N = w2.heap.size := ⟨_, rfl⟩
        have HNN2 := Lib.hid hN
        go_upto_region 8 with fail
        rw [← hN]
        have hbd0 : Lib.IsBuilder 90 5 N N (Lib.byteCells []) (w2.alloc (.cells #[.pointer none, .slice none 0 0] 90)) := by rw [hN]; exact Lib.fresh_isBuilder _ _ _
        obtain ⟨w3, hw3⟩ : ∃ w3 : World, w3 = w2.alloc (.cells #[.pointer none, .slice none 0 0] 90) := ⟨_, rfl⟩
        have hb3 : Below N w2 w3 := by rw [hw3, hN]; exact (Below.refl _ w2).alloc (Nat.le_refl _) _
        have hs3 : N < w3.heap.size := by rw [hw3, hN]; simp
        rw [← hw3] at hbd0 ⊢
        have HBD0 := Lib.hid hbd0; have HB3 := Lib.hid hb3
        clear hbd0 hb3 hw3 hN
        go_wp2_with fail
        go_loopg [51] n (fun q iv wr => ∃ (k : Nat) (acc : List UInt8), k ≤ n ∧ q = n - k ∧ iv = .int .i64 (k : Int) ∧ Lib.IsBuilder 90 5 N N (Lib.byteCells acc) wr ∧ Below N w2 wr ∧ N < wr.heap.size ∧ acc.length ≤ 4100 * k ∧ Sp.subGo g ⟨pl, rt, pp, code, args, pat⟩ (PS.drop k) acc = R)
        case atStart => exact ⟨0, [], Nat.zero_le _, rfl, rfl, HBD0.out, HB3.out, hs3, by simp, HR3.out.symm⟩
        case round =>
          clear HBD0 HB3 HR3 hs3
          obtain ⟨k2, acc, hk2, rfl, rfl, hbd, hbr, hNr, hacc, hR⟩ := hrel
          obtain ⟨wo, hwo⟩ : ∃ wo : World, wo = wr := ⟨_, rfl⟩
          subst hwo
          have hko : (0 : Int) ≤ (k2 : Int) := Int.natCast_nonneg _
          have HBD := Lib.hid hbd; have HBR := Lib.hid hbr; have HR := Lib.hid hR
          have hbr2 : Below w2.heap.size w2 wo := by rw [← HNN2.out]; exact hbr
          have HBR2 := Lib.hid hbr2
          clear hbd hbr hR hbr2
          by_cases hkn : k2 < n
          · have hki : (k2 : Int) < (n : Int) := by omega
            have hkl : k2 < PS.length := by have := HNE.out; omega
            obtain ⟨c, hcd⟩ : ∃ c, PS[k2]? = some c := ⟨_, List.getElem?_eq_getElem hkl⟩
            have hdr : PS.drop k2 = c :: PS.drop (k2 + 1) := by
              rw [List.drop_eq_getElem_cons hkl]
              rw [List.getElem?_eq_getElem hkl] at hcd
              rw [Option.some.inj hcd]
            obtain ⟨hct, hctg⟩ := HPT.out c (List.mem_of_getElem? hcd)
            obtain ⟨hck, hcn0, hcn9⟩ := HCG.out c (List.mem_of_getElem? hcd)
            obtain ⟨sb, so, rfl, hsb, hsc⟩ := HSL.out.at (k := k2) (row := pieceC c) (by rw [List.getElem?_map, hcd]; rfl)
            have hsc' := hsc wo HBR2.out
            have a0 := hsc' 0 _ rfl; have a1 := hsc' 1 _ rfl; have a2 := hsc' 2 _ rfl; have a3 := hsc' 3 _ rfl
            simp only [Nat.add_zero] at a0
            have lsb : sb < wo.heap.size := by have := HBR2.out.size; omega
            have HRR := HR.out
            rw [hdr] at HRR
            have HR4 := Lib.hid HRR
            clear hsc hsc' hcd hdr hkl HRR HR
            obtain ⟨kd, tx, cn, tg⟩ := c
            simp only at a0 a1 a2 a3 hct hctg hck hcn0 hcn9
            obtain ⟨cb, hcbx⟩ : ∃ cb, cb = wo.heap.size := ⟨_, rfl⟩
            obtain ⟨w4, hw4⟩ : ∃ w4 : World, w4 = wo.alloc (.cells #[.int .i64 kd, .string ⟨tx.toArray⟩, .int .i64 cn, .string ⟨tg.toArray⟩] 92) := ⟨_, rfl⟩
            have hb4 : Below wo.heap.size wo w4 := by rw [hw4]; exact (Below.refl _ wo).alloc (Nat.le_refl _) _
            have hc4 : w4.heap[cb]? = some (.cells #[.int .i64 kd, .string ⟨tx.toArray⟩, .int .i64 cn, .string ⟨tg.toArray⟩] 92 (0, 0)) := by rw [hw4, hcbx]; exact heap_last wo _
            go_upto_region 11 with fail
            rw [← hcbx, ← hw4]
            have HBR4 := Lib.hid (HBR.out.trans (hb4.mono (Nat.le_of_lt hNr)))
            have HBW4 : Hid (Below w2.heap.size w2 w4) := Lib.hid (HBR2.out.trans (hb4.mono HBR2.out.size))
            have HBD4 := Lib.hid (isBuilder_below HBD.out hb4)
            have hN4 : N < w4.heap.size := by have := hb4.size; omega
            have HC4 := Lib.hid hc4
            have k0 := cell_at (i := 0) hc4; have k1 := cell_at (i := 1) hc4
            have lk := lt_at hc4
            clear a0 a1 a2 a3 lsb hw4 hb4 hc4 hcbx HBD HBR HBR2 hsb
            have hacc9 : acc.length ≤ 32804100 := by omega
            rcases hck with rfl | rfl | rfl
            · have hR := HR4.out
              rw [Sp.subGo_text _ _ _ _ _ rfl] at hR
              have HR := Lib.hid hR
              have hWR := Lib.hid (write_bytes N acc ⟨tx.toArray⟩ w4 HBD4.out (by rw [Lib.size_eq]; show acc.length + tx.length ≤ _; omega) (by omega))
              clear hR HR4
              go_wp2_with fail
              refine hWR.out.mono ?_
              rintro e w6 ⟨rfl, hbd6, hb6⟩
              have HBD6 := Lib.hid hbd6; have HBR6 := Lib.hid (HBR4.out.trans hb6)
              have hN6 : N < w6.heap.size := by have := hb6.size; omega
              clear hbd6 hb6 hWR k0 k1 lk
              go_wp2_with fail
              go_roundg (n - (k2 + 1))
              case measure => omega
              case rel => exact ⟨k2 + 1, acc ++ tx, by omega, rfl, by go_num, HBD6.out, HBR6.out, hN6, by rw [List.length_append]; omega, HR.out⟩
            · have hR := HR4.out
              rw [Sp.subGo_whole _ _ _ _ _ rfl] at hR
              have hgx := HGX.out
              obtain ⟨⟨hl0, hll⟩, _⟩ := hgx
              simp only at hl0 hll hR
              obtain ⟨lk2, rfl⟩ : ∃ lk2 : Nat, pl = (lk2 : Int) := ⟨pl.toNat, by omega⟩
              have hlk : lk2 < g.nons.length := by omega
              have hlkI : (lk2 : Int) < (nn : Int) := by have := HNN.out; omega
              have hlk0 : (0 : Int) ≤ (lk2 : Int) := Int.natCast_nonneg _
              obtain ⟨no2, hno⟩ : ∃ q, g.nons[lk2]? = some q := ⟨_, List.getElem?_eq_getElem hlk⟩
              obtain ⟨nb, nof, rfl, hnb, hnc⟩ := HN.out.at (k := lk2) (row := nonC no2) (by rw [List.getElem?_map, hno]; rfl)
              have hnt : Sp.nonTag g (lk2 : Int) = no2.tag := by unfold Sp.nonTag; rw [show (lk2 : Int).toNat = lk2 by omega, hno]; rfl
              have htl2 : no2.tag.length ≤ 4000 := HTG.out.2 no2 (List.mem_of_getElem? hno)
              rw [hnt] at hR
              obtain ⟨nnm, nt2⟩ := no2
              simp only at hR htl2
              obtain ⟨DT, hdt⟩ : ∃ DT, DT = Sp.dotted tg nt2 := ⟨_, rfl⟩
              rw [← hdt] at hR
              have hDl : DT.length ≤ 4001 := by rw [hdt]; exact Sp.dotted_le (by omega) htl2
              replace hdt := hdt.symm
              have HR := Lib.hid hR; have HNC := Lib.hid hnc
              have HS15 := Lib.hid (fun (w' : World) (hb : Below w4.heap.size w4 w') => (show ((w'.cell? ⟨cb, 3, none⟩ = some (.string ⟨tg.toArray⟩) ∧ w'.cell? ⟨W.heap.size, 1, none⟩ = some (.slice (some ⟨nb, nof, none⟩) nn nc) ∧ w'.cell? ⟨W.heap.size + 1 + 1, 0, none⟩ = some (.int .i64 (lk2 : Int)) ∧ w'.cell? ⟨nb, nof + lk2 * 2 + 1, none⟩ = some (.string ⟨nt2.toArray⟩)) ∧ cb < w'.heap.size ∧ W.heap.size < w'.heap.size ∧ W.heap.size + 1 + 1 < w'.heap.size ∧ nb < w'.heap.size) from by
                have h1 := (hb.block _ (lt_at HC4.out)).trans HC4.out
                have hbw := HBW4.out.trans (hb.mono HBW4.out.size)
                have h2 := (hbw.block _ (lt_at HG2.out)).trans HG2.out
                have h3 := (hbw.block _ (lt_at HX2.out)).trans HX2.out
                have h4 := HNC.out w' (HB2.out.trans (hbw.mono HB2.out.size)) 1 _ rfl
                exact ⟨⟨cell_at (i := 3) h1, cell_at (i := 1) h2, cell_at (i := 0) h3, h4⟩, lt_at h1, lt_at h2, lt_at h3, by have := HB2.out.size; have := hbw.size; omega⟩))
              have hz0 : ¬ 9223372036854775807 < (⟨#[121, 121, 86, 65, 76]⟩ : ByteArray).size + (⟨DT.toArray⟩ : ByteArray).size := by rw [Lib.size_eq ⟨DT.toArray⟩]; show ¬ 9223372036854775807 < 5 + DT.length; omega
              have hz1 : ¬ 9223372036854775807 < 5 + DT.length := by omega
              clear hR HR4 hnc hnt hno hlk hl0 hll hnb
              go_upto_region 15 with fail
              refine wp_region_plan (fun w' : World => ((w'.cell? ⟨cb, 3, none⟩ = some (.string ⟨tg.toArray⟩) ∧ w'.cell? ⟨W.heap.size, 1, none⟩ = some (.slice (some ⟨nb, nof, none⟩) nn nc) ∧ w'.cell? ⟨W.heap.size + 1 + 1, 0, none⟩ = some (.int .i64 (lk2 : Int)) ∧ w'.cell? ⟨nb, nof + lk2 * 2 + 1, none⟩ = some (.string ⟨nt2.toArray⟩)) ∧ cb < w'.heap.size ∧ W.heap.size < w'.heap.size ∧ W.heap.size + 1 + 1 < w'.heap.size ∧ nb < w'.heap.size)) [11] (.take 0 (.take 1 (.take 2 (.take 3 (.take 4 (.take 5 (.take 6 (.take 7 (.take 8 (.one 9 (.one 10 (.one 11 (.done))))))))))))) (by kernel_rfl) (by kernel_rfl) (fun _ _ _ _ h => h) ?_
              have hSw := HS15.out _ (below_drewN (Below.refl _ w4) 1)
              refine wpPlan_takeD (v := ?vb18) rfl rfl hSw (by rfl) ?yb18 ?_
              case yb18 => (intro w hSx; (try dsimp only at hSx); go_simp; first | done | with_reducible rfl | rfl)
              (try simp only [Act.put, List.setIfInBounds_toArray, List.set_cons_zero, List.set_cons_succ])
              refine wpPlan_takeD (v := ?vb19) rfl rfl hSw (by rfl) ?yb19 ?_
              case yb19 => (intro w hSx; (try dsimp only at hSx); go_simp; first | done | with_reducible rfl | rfl)
              (try simp only [Act.put, List.setIfInBounds_toArray, List.set_cons_zero, List.set_cons_succ])
              refine wpPlan_takeD (v := ?vb20) rfl rfl hSw (by rfl) ?yb20 ?_
              case yb20 => (intro w hSx; (try dsimp only at hSx); go_simp; first | done | with_reducible rfl | rfl)
              (try simp only [Act.put, List.setIfInBounds_toArray, List.set_cons_zero, List.set_cons_succ])
              refine wpPlan_takeD (v := ?vb21) rfl rfl hSw (by rfl) ?yb21 ?_
              case yb21 => (intro w hSx; (try dsimp only at hSx); go_simp; first | done | with_reducible rfl | rfl)
              (try simp only [Act.put, List.setIfInBounds_toArray, List.set_cons_zero, List.set_cons_succ])
              refine wpPlan_takeD (v := ?vb22) rfl rfl hSw (by rfl) ?yb22 ?_
              case yb22 => (intro w hSx; (try dsimp only at hSx); go_simp; first | done | with_reducible rfl | rfl)
              (try simp only [Act.put, List.setIfInBounds_toArray, List.set_cons_zero, List.set_cons_succ])
              refine wpPlan_takeD (v := ?vb23) rfl rfl hSw (by rfl) ?yb23 ?_
              case yb23 => (intro w hSx; (try dsimp only at hSx); go_simp; first | done | with_reducible rfl | rfl)
              (try simp only [Act.put, List.setIfInBounds_toArray, List.set_cons_zero, List.set_cons_succ])
              refine wpPlan_takeD (v := ?vb24) rfl rfl hSw (by rfl) ?yb24 ?_
              case yb24 => (intro w hSx; (try dsimp only at hSx); go_simp; first | done | with_reducible rfl | rfl)
              (try simp only [Act.put, List.setIfInBounds_toArray, List.set_cons_zero, List.set_cons_succ])
              refine wpPlan_takeD (v := ?vb25) rfl rfl hSw (by rfl) ?yb25 ?_
              case yb25 => (intro w hSx; (try dsimp only at hSx); go_simp; first | done | with_reducible rfl | rfl)
              (try simp only [Act.put, List.setIfInBounds_toArray, List.set_cons_zero, List.set_cons_succ])
              refine wpPlan_takeD (v := ?vb26) rfl rfl hSw (by rfl) ?yb26 ?_
              case yb26 => (intro w hSx; (try dsimp only at hSx); go_simp; first | done | with_reducible rfl | rfl)
              (try simp only [Act.put, List.setIfInBounds_toArray, List.set_cons_zero, List.set_cons_succ])
              refine wpPlan_run rfl (by rfl) (fun K' hK => ?_)
              (go_simp; go_at_call 27; refine (subst_dotted tg nt2 _ (by omega) (by omega)).mono ?_; rintro e w5 ⟨rfl, hb5'⟩; have hb5 : Below w4.heap.size w4 w5 := below_undrew hb5'; clear hb5'; have HDT : Hid (Sp.dotted tg nt2 = DT) := Lib.hid hdt; rw [hdt])
              refine hK _ _ (.inr ?_) ?_
              · exact HS15.out _ hb5
              clear hK K' hSw
              (try simp only [Act.put, List.setIfInBounds_toArray, List.set_cons_zero, List.set_cons_succ])
              refine wpPlan_run rfl (by rfl) (fun K' hK => ?_)
              go_simp
              refine hK _ _ (.inr ?_) ?_
              · exact HS15.out _ hb5
              clear hK K'
              (try simp only [Act.put, List.setIfInBounds_toArray, List.set_cons_zero, List.set_cons_succ])
              refine wpPlan_run rfl (by rfl) (fun K' hK => ?_)
              (go_simp; go_at_call 26; refine (write_bytes N acc _ _ (isBuilder_below HBD4.out hb5) (by rw [ByteArray.size_append, Lib.size_eq ⟨DT.toArray⟩]; show acc.length + (5 + DT.length) ≤ _; omega) (by have := hb5.size; omega)).mono ?_; rintro e w6 ⟨rfl, hbd6, hb6⟩)
              refine hK _ _ (.inl rfl) ?_
              clear hK K'
              (try simp only [Act.put, List.setIfInBounds_toArray, List.set_cons_zero, List.set_cons_succ])
              refine wpPlan_done ?_
              have HBD6 := Lib.hid hbd6; have HBR6 := Lib.hid (HBR4.out.trans ((hb5.mono (Nat.le_of_lt hN4)).trans hb6))
              have hN6 : N < w6.heap.size := by have := hb6.size; have := hb5.size; omega
              clear hbd6 hb6 hb5 HS15 k0 k1 lk hdt HDT
              go_wp2_with fail
              go_roundg (n - (k2 + 1))
              case measure => omega
              case rel => exact ⟨k2 + 1, acc ++ (Sp.yyVal ++ DT), by omega, rfl, by go_num, by simpa [Sp.yyVal] using HBD6.out, HBR6.out, hN6, by rw [List.length_append, List.length_append]; show acc.length + (5 + DT.length) ≤ _; omega, HR.out⟩
            · have hgl4 : Gl w4 := HGL.out.below (HB2.out.trans (HBW4.out.mono HB2.out.size))
              have hit := Lib.itoa_length_le cn (by omega) (by omega)
              have HIT := Lib.hid (strconv_Itoa_gl cn (by omega) (by omega) w4 hgl4)
              obtain ⟨it, hitv⟩ : ∃ it, it = Lib.itoa cn := ⟨_, rfl⟩
              rw [← hitv] at hit HIT
              have HITV := Lib.hid hitv
              clear hgl4 hitv
              have k2c := cell_at (i := 2) HC4.out
              go_wp2_with fail
              refine HIT.out.mono ?_
              rintro e w5 ⟨rfl, hb5⟩
              have hC5 := (hb5.block _ (lt_at HC4.out)).trans HC4.out
              have HBW5 : Hid (Below w2.heap.size w2 w5) := Lib.hid (HBW4.out.trans (hb5.mono HBW4.out.size))
              have HB5 : Hid (Below W.heap.size W w5) := Lib.hid (HB2.out.trans (HBW5.out.mono HB2.out.size))
              have HBR5 := Lib.hid (HBR4.out.trans (hb5.mono (Nat.le_of_lt hN4)))
              have HBD5 := Lib.hid (isBuilder_below HBD4.out hb5)
              have hN5 : N < w5.heap.size := by have := hb5.size; omega
              have HC5 := Lib.hid hC5
              have m2 := cell_at (i := 2) hC5
              have lk5 := lt_at hC5
              have hX5 := (HBW5.out.block _ (lt_at HX2.out)).trans HX2.out
              have x4 := cell_at (i := 4) hX5
              have lx5 := lt_at hX5
              clear hb5 hC5 hX5 HIT k0 k1 k2c lk HBW4 HBR4 HBD4 hN4 HC4
              by_cases hfar : cn < 1 ∨ (an : Int) < cn
              · have hR := HR4.out
                rw [Sp.subGo_far _ _ _ _ _ rfl (by simp only; rw [← HAN.out]; exact hfar)] at hR
                have hRe : RES = ([], ⟨6, pat, 36 :: it⟩) := by rw [HR2.out, ← hR, HITV.out]; rfl
                have HRE := Lib.hid hRe
                have hF5 := (HBW5.out.block _ (lt_at HF2.out)).trans HF2.out
                have HF5 := Lib.hid hF5
                have HSF2 := Lib.hid (fun (w' : World) (hb : Below w5.heap.size w5 w') => (show (w'.cell? ⟨W.heap.size + 1 + 1, 5, none⟩ = some (.int .i64 pat) ∧ (w'.frozen? ⟨W.heap.size + 1, 0, none⟩ = false ∧ w'.frozen? ⟨W.heap.size + 1, 1, none⟩ = false ∧ w'.frozen? ⟨W.heap.size + 1, 2, none⟩ = false) ∧ (w'.cell? ⟨W.heap.size + 1, 0, none⟩ = some (.int .i64 0) ∧ w'.cell? ⟨W.heap.size + 1, 1, none⟩ = some (.int .i64 0) ∧ w'.cell? ⟨W.heap.size + 1, 2, none⟩ = some (.string ⟨#[]⟩)) ∧ W.heap.size + 1 + 1 < w'.heap.size ∧ W.heap.size + 1 < w'.heap.size) from HSF.out w' (HBW5.out.trans (hb.mono HBW5.out.size))))
                have e0 := cell_at (i := 0) hF5; have e1 := cell_at (i := 1) hF5; have e2 := cell_at (i := 2) hF5
                have z0 := frozen_at (i := 0) hF5; have z1 := frozen_at (i := 1) hF5; have z2 := frozen_at (i := 2) hF5
                have lf := lt_at hF5
                have hz0 : ¬ 9223372036854775807 < (⟨#[36]⟩ : ByteArray).size + (⟨it.toArray⟩ : ByteArray).size := by rw [Lib.size_eq ⟨it.toArray⟩]; show ¬ 9223372036854775807 < 1 + it.length; omega
                have hz1 : ¬ 9223372036854775807 < 1 + it.length := by omega
                clear hR hRe HR4 HR2 hF5
                by_cases hc1 : cn < 1
                · have hd1 : decide (cn < 1) = true := decide_eq_true hc1
                  clear hfar
                  go_upto_region 19 with fail
                  refine wp_region_plan (fun w' : World => (w'.cell? ⟨W.heap.size + 1 + 1, 5, none⟩ = some (.int .i64 pat) ∧ (w'.frozen? ⟨W.heap.size + 1, 0, none⟩ = false ∧ w'.frozen? ⟨W.heap.size + 1, 1, none⟩ = false ∧ w'.frozen? ⟨W.heap.size + 1, 2, none⟩ = false) ∧ (w'.cell? ⟨W.heap.size + 1, 0, none⟩ = some (.int .i64 0) ∧ w'.cell? ⟨W.heap.size + 1, 1, none⟩ = some (.int .i64 0) ∧ w'.cell? ⟨W.heap.size + 1, 2, none⟩ = some (.string ⟨#[]⟩)) ∧ W.heap.size + 1 + 1 < w'.heap.size ∧ W.heap.size + 1 < w'.heap.size)) [6] (.take 0 (.take 1 (.take 2 (.take 3 (.take 4 (.take 5 (.one 6 (.done)))))))) (by kernel_rfl) (by kernel_rfl) (fun _ _ _ _ h => h) ?_
                  have hSw := HSF2.out _ (below_drewN (Below.refl _ w5) 1)
                  refine wpPlan_takeD (v := ?ve12) rfl rfl hSw (by rfl) ?ye12 ?_
                  case ye12 => (intro w hSx; (try dsimp only at hSx); go_simp; first | done | with_reducible rfl | rfl)
                  (try simp only [Act.put, List.setIfInBounds_toArray, List.set_cons_zero, List.set_cons_succ])
                  refine wpPlan_takeD (v := ?ve13) rfl rfl hSw (by rfl) ?ye13 ?_
                  case ye13 => (intro w hSx; (try dsimp only at hSx); go_simp; first | done | with_reducible rfl | rfl)
                  (try simp only [Act.put, List.setIfInBounds_toArray, List.set_cons_zero, List.set_cons_succ])
                  refine wpPlan_takeD (v := ?ve14) rfl rfl hSw (by rfl) ?ye14 ?_
                  case ye14 => (intro w hSx; (try dsimp only at hSx); go_simp; first | done | with_reducible rfl | rfl)
                  (try simp only [Act.put, List.setIfInBounds_toArray, List.set_cons_zero, List.set_cons_succ])
                  refine wpPlan_takeD (v := ?ve15) rfl rfl hSw (by rfl) ?ye15 ?_
                  case ye15 => (intro w hSx; (try dsimp only at hSx); go_simp; first | done | with_reducible rfl | rfl)
                  (try simp only [Act.put, List.setIfInBounds_toArray, List.set_cons_zero, List.set_cons_succ])
                  refine wpPlan_takeD (v := ?ve16) rfl rfl hSw (by rfl) ?ye16 ?_
                  case ye16 => (intro w hSx; (try dsimp only at hSx); go_simp; first | done | with_reducible rfl | rfl)
                  (try simp only [Act.put, List.setIfInBounds_toArray, List.set_cons_zero, List.set_cons_succ])
                  refine wpPlan_takeD (v := ?ve17) rfl rfl hSw (by rfl) ?ye17 ?_
                  case ye17 => (intro w hSx; (try dsimp only at hSx); go_simp; first | done | with_reducible rfl | rfl)
                  (try simp only [Act.put, List.setIfInBounds_toArray, List.set_cons_zero, List.set_cons_succ])
                  refine wpPlan_run rfl (by rfl) (fun K' hK => ?_)
                  go_simp
                  refine hK _ _ (.inl rfl) ?_
                  clear hK K' hSw
                  (try simp only [Act.put, List.setIfInBounds_toArray, List.set_cons_zero, List.set_cons_succ])
                  refine wpPlan_done ?_
                  go_wp2_with fail
                  refine ret_tmp_cell (g := W.heap.size + 1) rfl rfl (heap_setCell_at (heap_setCell_at (heap_setCell_at HF5.out))) rfl Tryd.underlying32 (by kernel_rfl) rfl ?_
                  rw [HRE.out]
                  refine ⟨?_, below_drewN (HB5.out.trans ((((Below.refl _ w5).setCell (by simp) _).setCell (by simp) _).setCell (by simp) _)) 1⟩
                  have hcat : (⟨#[36]⟩ : ByteArray) ++ (⟨it.toArray⟩ : ByteArray) = ⟨(36 :: it).toArray⟩ := by apply ByteArray.ext; rw [ByteArray.data_append]; simp
                  rw [hcat]
                  rfl
                · have hd1 : decide (cn < 1) = false := decide_eq_false hc1
                  have hc2 : (an : Int) < cn := by omega
                  clear hfar
                  go_upto_region 19 with fail
                  refine wp_region_plan (fun w' : World => (w'.cell? ⟨W.heap.size + 1 + 1, 5, none⟩ = some (.int .i64 pat) ∧ (w'.frozen? ⟨W.heap.size + 1, 0, none⟩ = false ∧ w'.frozen? ⟨W.heap.size + 1, 1, none⟩ = false ∧ w'.frozen? ⟨W.heap.size + 1, 2, none⟩ = false) ∧ (w'.cell? ⟨W.heap.size + 1, 0, none⟩ = some (.int .i64 0) ∧ w'.cell? ⟨W.heap.size + 1, 1, none⟩ = some (.int .i64 0) ∧ w'.cell? ⟨W.heap.size + 1, 2, none⟩ = some (.string ⟨#[]⟩)) ∧ W.heap.size + 1 + 1 < w'.heap.size ∧ W.heap.size + 1 < w'.heap.size)) [6] (.take 0 (.take 1 (.take 2 (.take 3 (.take 4 (.take 5 (.one 6 (.done)))))))) (by kernel_rfl) (by kernel_rfl) (fun _ _ _ _ h => h) ?_
                  have hSw := HSF2.out _ (below_drewN (Below.refl _ w5) 1)
                  refine wpPlan_takeD (v := ?vd6) rfl rfl hSw (by rfl) ?yd6 ?_
                  case yd6 => (intro w hSx; (try dsimp only at hSx); go_simp; first | done | with_reducible rfl | rfl)
                  (try simp only [Act.put, List.setIfInBounds_toArray, List.set_cons_zero, List.set_cons_succ])
                  refine wpPlan_takeD (v := ?vd7) rfl rfl hSw (by rfl) ?yd7 ?_
                  case yd7 => (intro w hSx; (try dsimp only at hSx); go_simp; first | done | with_reducible rfl | rfl)
                  (try simp only [Act.put, List.setIfInBounds_toArray, List.set_cons_zero, List.set_cons_succ])
                  refine wpPlan_takeD (v := ?vd8) rfl rfl hSw (by rfl) ?yd8 ?_
                  case yd8 => (intro w hSx; (try dsimp only at hSx); go_simp; first | done | with_reducible rfl | rfl)
                  (try simp only [Act.put, List.setIfInBounds_toArray, List.set_cons_zero, List.set_cons_succ])
                  refine wpPlan_takeD (v := ?vd9) rfl rfl hSw (by rfl) ?yd9 ?_
                  case yd9 => (intro w hSx; (try dsimp only at hSx); go_simp; first | done | with_reducible rfl | rfl)
                  (try simp only [Act.put, List.setIfInBounds_toArray, List.set_cons_zero, List.set_cons_succ])
                  refine wpPlan_takeD (v := ?vd10) rfl rfl hSw (by rfl) ?yd10 ?_
                  case yd10 => (intro w hSx; (try dsimp only at hSx); go_simp; first | done | with_reducible rfl | rfl)
                  (try simp only [Act.put, List.setIfInBounds_toArray, List.set_cons_zero, List.set_cons_succ])
                  refine wpPlan_takeD (v := ?vd11) rfl rfl hSw (by rfl) ?yd11 ?_
                  case yd11 => (intro w hSx; (try dsimp only at hSx); go_simp; first | done | with_reducible rfl | rfl)
                  (try simp only [Act.put, List.setIfInBounds_toArray, List.set_cons_zero, List.set_cons_succ])
                  refine wpPlan_run rfl (by rfl) (fun K' hK => ?_)
                  go_simp
                  refine hK _ _ (.inl rfl) ?_
                  clear hK K' hSw
                  (try simp only [Act.put, List.setIfInBounds_toArray, List.set_cons_zero, List.set_cons_succ])
                  refine wpPlan_done ?_
                  go_wp2_with fail
                  refine ret_tmp_cell (g := W.heap.size + 1) rfl rfl (heap_setCell_at (heap_setCell_at (heap_setCell_at HF5.out))) rfl Tryd.underlying32 (by kernel_rfl) rfl ?_
                  rw [HRE.out]
                  refine ⟨?_, below_drewN (HB5.out.trans ((((Below.refl _ w5).setCell (by simp) _).setCell (by simp) _).setCell (by simp) _)) 1⟩
                  have hcat : (⟨#[36]⟩ : ByteArray) ++ (⟨it.toArray⟩ : ByteArray) = ⟨(36 :: it).toArray⟩ := by apply ByteArray.ext; rw [ByteArray.data_append]; simp
                  rw [hcat]
                  rfl
              · obtain ⟨ck, rfl⟩ : ∃ ck : Nat, cn = (ck : Int) + 1 := ⟨(cn - 1).toNat, by omega⟩
                have hca : ck < args.length := by have := HAN.out; omega
                have hR := HR4.out
                rw [Sp.subGo_part _ _ _ _ _ rfl (by simp only; omega) (by simp only; omega)] at hR
                simp only at hR
                obtain ⟨av, hav⟩ : ∃ av, args[ck]? = some av := ⟨_, List.getElem?_eq_getElem hca⟩
                rw [show ((ck : Int) + 1 - 1).toNat = ck by omega, show args.getD ck 0 = av by rw [List.getD_eq_getElem?_getD, hav]; rfl, ← HITV.out] at hR
                obtain ⟨ab, ao, rfl, hab, hac⟩ := ints_cell HAR.out hav
                obtain ⟨q0, q1, q2⟩ := HGX.out.2.1 av (List.mem_of_getElem? hav)
                have HTAG := Lib.hid (fun (w' : World) (hb : Below W.heap.size W w') => (show Calls Tryd.prog 29 #[.agg #[.slice ta nt tc, .slice na nn nc, .slice (some ⟨pb, po, none⟩) np pc, .string ⟨pro.toArray⟩, .string ⟨tl.toArray⟩], .int .i64 av] w' (fun e w'' => e = .returned (.string ⟨(Sp.symTag g av).toArray⟩) ∧ Below w'.heap.size w' w'') from subst_tag g _ av w' (HG0.out.below hb) (by rw [← HNT.out]; omega) (by rw [← HNN.out]; omega) q0 q1 q2))
                have hstl := Sp.symTag_le HTG.out av
                obtain ⟨ST, hST⟩ : ∃ ST, ST = Sp.symTag g av := ⟨_, rfl⟩
                rw [← hST] at HTAG hstl hR
                obtain ⟨DT, hdt⟩ : ∃ DT, DT = Sp.dotted tg ST := ⟨_, rfl⟩
                rw [← hdt] at hR
                have hDl : DT.length ≤ 4001 := by rw [hdt]; exact Sp.dotted_le (by omega) hstl
                replace hdt := hdt.symm
                have HR := Lib.hid hR; have HAC := Lib.hid hac
                have HS20 := Lib.hid (fun (w' : World) (hb : Below w5.heap.size w5 w') => (show ((w'.cell? ⟨cb, 3, none⟩ = some (.string ⟨tg.toArray⟩) ∧ w'.cell? ⟨cb, 2, none⟩ = some (.int .i64 ((ck : Int) + 1))) ∧ (w'.cell? ⟨W.heap.size, 0, none⟩ = some (.slice ta nt tc) ∧ w'.cell? ⟨W.heap.size, 1, none⟩ = some (.slice na nn nc) ∧ w'.cell? ⟨W.heap.size, 2, none⟩ = some (.slice (some ⟨pb, po, none⟩) np pc) ∧ w'.cell? ⟨W.heap.size, 3, none⟩ = some (.string ⟨pro.toArray⟩) ∧ w'.cell? ⟨W.heap.size, 4, none⟩ = some (.string ⟨tl.toArray⟩)) ∧ w'.cell? ⟨W.heap.size + 1 + 1, 4, none⟩ = some (.slice (some ⟨ab, ao, none⟩) an ac) ∧ w'.cell? ⟨ab, ao + ck, none⟩ = some (.int .i64 av) ∧ cb < w'.heap.size ∧ W.heap.size < w'.heap.size ∧ W.heap.size + 1 + 1 < w'.heap.size ∧ ab < w'.heap.size) from by
                  have h1 := (hb.block _ (lt_at HC5.out)).trans HC5.out
                  have hbw := HBW5.out.trans (hb.mono HBW5.out.size)
                  have h2 := (hbw.block _ (lt_at HG2.out)).trans HG2.out
                  have h3 := (hbw.block _ (lt_at HX2.out)).trans HX2.out
                  have h4 := HAC.out w' (HB2.out.trans (hbw.mono HB2.out.size))
                  exact ⟨⟨cell_at (i := 3) h1, cell_at (i := 2) h1⟩, ⟨cell_at (i := 0) h2, cell_at (i := 1) h2, cell_at (i := 2) h2, cell_at (i := 3) h2, cell_at (i := 4) h2⟩, cell_at (i := 4) h3, h4, lt_at h1, lt_at h2, lt_at h3, by have := HB2.out.size; have := hbw.size; omega⟩))
                have hsi : (⟨it.toArray⟩ : ByteArray).size = it.length := Lib.size_eq _
                have hsd : (⟨DT.toArray⟩ : ByteArray).size = DT.length := Lib.size_eq _
                have hz0 : ¬ 9223372036854775807 < (⟨#[121, 121, 68, 111, 108, 108, 97, 114, 91]⟩ : ByteArray).size + (⟨it.toArray⟩ : ByteArray).size := by rw [hsi]; show ¬ 9223372036854775807 < 9 + it.length; omega
                have hz1 : ¬ 9223372036854775807 < ((⟨#[121, 121, 68, 111, 108, 108, 97, 114, 91]⟩ : ByteArray) ++ (⟨it.toArray⟩ : ByteArray)).size + (⟨#[93]⟩ : ByteArray).size := by rw [ByteArray.size_append, hsi]; show ¬ 9223372036854775807 < 9 + it.length + 1; omega
                have hz2 : ¬ 9223372036854775807 < ((⟨#[121, 121, 68, 111, 108, 108, 97, 114, 91]⟩ : ByteArray) ++ (⟨it.toArray⟩ : ByteArray) ++ (⟨#[93]⟩ : ByteArray)).size + (⟨DT.toArray⟩ : ByteArray).size := by rw [ByteArray.size_append, ByteArray.size_append, hsi, hsd]; show ¬ 9223372036854775807 < 9 + it.length + 1 + DT.length; omega
                have hy0 : ¬ 9223372036854775807 < 9 + it.length := by omega
                have hy1 : ¬ 9223372036854775807 < 9 + it.length + 1 := by omega
                have hy2 : ¬ 9223372036854775807 < 9 + it.length + 1 + DT.length := by omega
                have hca1 : (ck : Int) < (an : Int) := by omega
                have hca0 : (0 : Int) ≤ (ck : Int) := Int.natCast_nonneg _
                have hnf1 : ¬ (ck : Int) + 1 < 1 := by omega
                have hnf2 : ¬ (an : Int) < (ck : Int) + 1 := by omega
                have han9 : an ≤ 4000 := by rw [HAN.out]; exact HGX.out.2.2.2
                clear hR HR4 hac hav hca q0 q1 q2 hfar hab hsi hsd hST
                go_upto_region 20 with fail
                refine wp_region_plan (fun w' : World => ((w'.cell? ⟨cb, 3, none⟩ = some (.string ⟨tg.toArray⟩) ∧ w'.cell? ⟨cb, 2, none⟩ = some (.int .i64 ((ck : Int) + 1))) ∧ (w'.cell? ⟨W.heap.size, 0, none⟩ = some (.slice ta nt tc) ∧ w'.cell? ⟨W.heap.size, 1, none⟩ = some (.slice na nn nc) ∧ w'.cell? ⟨W.heap.size, 2, none⟩ = some (.slice (some ⟨pb, po, none⟩) np pc) ∧ w'.cell? ⟨W.heap.size, 3, none⟩ = some (.string ⟨pro.toArray⟩) ∧ w'.cell? ⟨W.heap.size, 4, none⟩ = some (.string ⟨tl.toArray⟩)) ∧ w'.cell? ⟨W.heap.size + 1 + 1, 4, none⟩ = some (.slice (some ⟨ab, ao, none⟩) an ac) ∧ w'.cell? ⟨ab, ao + ck, none⟩ = some (.int .i64 av) ∧ cb < w'.heap.size ∧ W.heap.size < w'.heap.size ∧ W.heap.size + 1 + 1 < w'.heap.size ∧ ab < w'.heap.size)) [16] (.take 0 (.take 1 (.take 2 (.take 3 (.take 4 (.take 5 (.take 6 (.take 7 (.take 8 (.take 9 (.take 10 (.take 11 (.take 12 (.one 13 (.one 14 (.one 15 (.one 16 (.done)))))))))))))))))) (by kernel_rfl) (by kernel_rfl) (fun _ _ _ _ h => h) ?_
                have hSw := HS20.out _ (below_drewN (Below.refl _ w5) 1)
                refine wpPlan_takeD (v := ?vc27) rfl rfl hSw (by rfl) ?yc27 ?_
                case yc27 => (intro w hSx; (try dsimp only at hSx); go_simp; first | done | with_reducible rfl | rfl)
                (try simp only [Act.put, List.setIfInBounds_toArray, List.set_cons_zero, List.set_cons_succ])
                refine wpPlan_takeD (v := ?vc28) rfl rfl hSw (by rfl) ?yc28 ?_
                case yc28 => (intro w hSx; (try dsimp only at hSx); go_simp; first | done | with_reducible rfl | rfl)
                (try simp only [Act.put, List.setIfInBounds_toArray, List.set_cons_zero, List.set_cons_succ])
                refine wpPlan_takeD (v := ?vc29) rfl rfl hSw (by rfl) ?yc29 ?_
                case yc29 => (intro w hSx; (try dsimp only at hSx); go_simp; first | done | with_reducible rfl | rfl)
                (try simp only [Act.put, List.setIfInBounds_toArray, List.set_cons_zero, List.set_cons_succ])
                refine wpPlan_takeD (v := ?vc30) rfl rfl hSw (by rfl) ?yc30 ?_
                case yc30 => (intro w hSx; (try dsimp only at hSx); go_simp; first | done | with_reducible rfl | rfl)
                (try simp only [Act.put, List.setIfInBounds_toArray, List.set_cons_zero, List.set_cons_succ])
                refine wpPlan_takeD (v := ?vc31) rfl rfl hSw (by rfl) ?yc31 ?_
                case yc31 => (intro w hSx; (try dsimp only at hSx); go_simp; first | done | with_reducible rfl | rfl)
                (try simp only [Act.put, List.setIfInBounds_toArray, List.set_cons_zero, List.set_cons_succ])
                refine wpPlan_takeD (v := ?vc32) rfl rfl hSw (by rfl) ?yc32 ?_
                case yc32 => (intro w hSx; (try dsimp only at hSx); go_simp; first | done | with_reducible rfl | rfl)
                (try simp only [Act.put, List.setIfInBounds_toArray, List.set_cons_zero, List.set_cons_succ])
                refine wpPlan_takeD (v := ?vc33) rfl rfl hSw (by rfl) ?yc33 ?_
                case yc33 => (intro w hSx; (try dsimp only at hSx); go_simp; first | done | with_reducible rfl | rfl)
                (try simp only [Act.put, List.setIfInBounds_toArray, List.set_cons_zero, List.set_cons_succ])
                refine wpPlan_takeD (v := ?vc34) rfl rfl hSw (by rfl) ?yc34 ?_
                case yc34 => (intro w hSx; (try dsimp only at hSx); go_simp; first | done | with_reducible rfl | rfl)
                (try simp only [Act.put, List.setIfInBounds_toArray, List.set_cons_zero, List.set_cons_succ])
                refine wpPlan_takeD (v := ?vc35) rfl rfl hSw (by rfl) ?yc35 ?_
                case yc35 => (intro w hSx; (try dsimp only at hSx); go_simp; first | done | with_reducible rfl | rfl)
                (try simp only [Act.put, List.setIfInBounds_toArray, List.set_cons_zero, List.set_cons_succ])
                refine wpPlan_takeD (v := ?vc36) rfl rfl hSw (by rfl) ?yc36 ?_
                case yc36 => (intro w hSx; (try dsimp only at hSx); go_simp; first | done | with_reducible rfl | rfl)
                (try simp only [Act.put, List.setIfInBounds_toArray, List.set_cons_zero, List.set_cons_succ])
                refine wpPlan_takeD (v := ?vc37) rfl rfl hSw (by rfl) ?yc37 ?_
                case yc37 => (intro w hSx; (try dsimp only at hSx); have hwck : IntKind.i64.wrap (ck : Int) = (ck : Int) := IntWalk.i64_in _ ⟨by omega, by omega⟩; go_simp; first | done | with_reducible rfl | rfl)
                (try simp only [Act.put, List.setIfInBounds_toArray, List.set_cons_zero, List.set_cons_succ])
                refine wpPlan_takeD (v := ?vc38) rfl rfl hSw (by rfl) ?yc38 ?_
                case yc38 => (intro w hSx; (try dsimp only at hSx); go_simp; first | done | with_reducible rfl | rfl)
                (try simp only [Act.put, List.setIfInBounds_toArray, List.set_cons_zero, List.set_cons_succ])
                refine wpPlan_takeD (v := ?vc39) rfl rfl hSw (by rfl) ?yc39 ?_
                case yc39 => (intro w hSx; (try dsimp only at hSx); go_simp; first | done | with_reducible rfl | rfl)
                (try simp only [Act.put, List.setIfInBounds_toArray, List.set_cons_zero, List.set_cons_succ])
                refine wpPlan_run rfl (by rfl) (fun K' hK => ?_)
                (go_simp; go_at_call 29; refine (HTAG.out _ (below_drewN HB5.out 1)).mono ?_; rintro e w6 ⟨rfl, hb6'⟩; have hb6 : Below w5.heap.size w5 w6 := below_undrew hb6'; clear hb6')
                refine hK _ _ (.inr ?_) ?_
                · exact HS20.out _ hb6
                clear hK K' hSw
                (try simp only [Act.put, List.setIfInBounds_toArray, List.set_cons_zero, List.set_cons_succ])
                refine wpPlan_run rfl (by rfl) (fun K' hK => ?_)
                (go_simp; go_at_call 27; refine (subst_dotted tg ST _ (by omega) (by omega)).mono ?_; rintro e w7 ⟨rfl, hb7'⟩; have hb7 : Below w5.heap.size w5 w7 := hb6.trans (hb7'.mono hb6.size); clear hb7'; rw [hdt])
                refine hK _ _ (.inr ?_) ?_
                · exact HS20.out _ hb7
                clear hK K'
                (try simp only [Act.put, List.setIfInBounds_toArray, List.set_cons_zero, List.set_cons_succ])
                refine wpPlan_run rfl (by rfl) (fun K' hK => ?_)
                go_simp
                refine hK _ _ (.inr ?_) ?_
                · exact HS20.out _ hb7
                clear hK K'
                (try simp only [Act.put, List.setIfInBounds_toArray, List.set_cons_zero, List.set_cons_succ])
                refine wpPlan_run rfl (by rfl) (fun K' hK => ?_)
                (go_simp; go_at_call 26; refine (write_bytes N acc _ _ (isBuilder_below HBD5.out hb7) (by simp only [ByteArray.size_append, Lib.size_eq]; simp; omega) (by have := hb7.size; omega)).mono ?_; rintro e w8 ⟨rfl, hbd8, hb8⟩)
                refine hK _ _ (.inl rfl) ?_
                clear hK K'
                (try simp only [Act.put, List.setIfInBounds_toArray, List.set_cons_zero, List.set_cons_succ])
                refine wpPlan_done ?_
                have HBD6 := Lib.hid hbd8; have HBR6 := Lib.hid (HBR5.out.trans ((hb7.mono (Nat.le_of_lt hN5)).trans hb8))
                have hN6 : N < w8.heap.size := by have := hb8.size; have := hb7.size; omega
                clear hbd8 hb8 hb7 hb6 HS20 m2 lk5 x4 lx5 hdt hz0 hz1 hz2
                go_wp2_with fail
                go_roundg (n - (k2 + 1))
                case measure => omega
                case rel => exact ⟨k2 + 1, acc ++ (Sp.yyDol ++ it ++ [93] ++ DT), by omega, rfl, by go_num, by simpa [Sp.yyDol] using HBD6.out, HBR6.out, hN6, by simp only [List.length_append]; show acc.length + (9 + it.length + 1 + DT.length) ≤ _; omega, HR.out⟩
          · obtain rfl : k2 = n := by omega
            have hke : PS.drop k2 = [] := List.drop_of_length_le (by have := HNE.out; omega)
            have hR := HR.out
            rw [hke] at hR
            have hRe : RES = (acc, ⟨0, 0, []⟩) := by rw [HR2.out, ← hR]; rfl
            have HRE := Lib.hid hRe
            have hF := (HBR2.out.block _ (lt_at HF2.out)).trans HF2.out
            have HFE := Lib.hid hF
            have HBS := Lib.hid (Tryd.Builder_String_any N N acc wo HBD.out (by omega))
            clear hR hke HR HR2 hRe hF
            go_wp2_with fail
            refine HBS.out.mono ?_
            rintro e w6 ⟨rfl, hb6⟩
            have hF6 := (hb6.block _ (by have h1 := lt_at HFE.out; have h2 := lt_at HF2.out; have h3 := HNN2.out; omega)).trans HFE.out
            have HF6 := Lib.hid hF6
            have e0 := cell_at (i := 0) hF6; have e1 := cell_at (i := 1) hF6; have e2 := cell_at (i := 2) hF6
            have z0 := frozen_at (i := 0) hF6; have z1 := frozen_at (i := 1) hF6; have z2 := frozen_at (i := 2) hF6
            have lf := lt_at hF6
            have HB6 := Lib.hid (HB2.out.trans ((HBR2.out.trans (by rw [← HNN2.out]; exact hb6)).mono HB2.out.size))
            clear hb6 hF6 HBS
            go_wp2_with fail
            refine ret_tmp_cell (g := W.heap.size + 1) rfl rfl (heap_setCell_at (heap_setCell_at (heap_setCell_at HF6.out))) rfl Tryd.underlying32 (by kernel_rfl) rfl ?_
            rw [HRE.out]
            exact ⟨rfl, HB6.out.trans ((((Below.refl _ w6).setCell (by simp) _).setCell (by simp) _).setCell (by simp) _)⟩
      · have hcb2 : (ce != 0) = true := by rw [bne_iff_ne]; exact hce
        rw [if_pos hce] at hR2
        subst hR2
        clear hcb hcg hsl
        have e0 := cell_at (i := 0) HF2.out; have e1 := cell_at (i := 1) HF2.out; have e2 := cell_at (i := 2) HF2.out
        have z0 := frozen_at (i := 0) HF2.out; have z1 := frozen_at (i := 1) HF2.out; have z2 := frozen_at (i := 2) HF2.out
        have lf := lt_at HF2.out
        go_upto_region 6 with fail
        refine wp_region_plan (fun w' : World => (w'.cell? ⟨W.heap.size + 1 + 1, 5, none⟩ = some (.int .i64 pat) ∧ (w'.frozen? ⟨W.heap.size + 1, 0, none⟩ = false ∧ w'.frozen? ⟨W.heap.size + 1, 1, none⟩ = false ∧ w'.frozen? ⟨W.heap.size + 1, 2, none⟩ = false) ∧ (w'.cell? ⟨W.heap.size + 1, 0, none⟩ = some (.int .i64 0) ∧ w'.cell? ⟨W.heap.size + 1, 1, none⟩ = some (.int .i64 0) ∧ w'.cell? ⟨W.heap.size + 1, 2, none⟩ = some (.string ⟨#[]⟩)) ∧ W.heap.size + 1 + 1 < w'.heap.size ∧ W.heap.size + 1 < w'.heap.size)) [5] (.take 0 (.take 1 (.take 2 (.take 3 (.take 4 (.one 5 (.done))))))) (by kernel_rfl) (by kernel_rfl) (fun _ _ _ _ h => h) ?_
        have hSw := HSF.out _ (below_drewN (Below.refl _ w2) 1)
        refine wpPlan_takeD (v := ?va1) rfl rfl hSw (by rfl) ?ya1 ?_
        case ya1 => (intro w hSx; (try dsimp only at hSx); go_simp; first | done | with_reducible rfl | rfl)
        (try simp only [Act.put, List.setIfInBounds_toArray, List.set_cons_zero, List.set_cons_succ])
        refine wpPlan_takeD (v := ?va2) rfl rfl hSw (by rfl) ?ya2 ?_
        case ya2 => (intro w hSx; (try dsimp only at hSx); go_simp; first | done | with_reducible rfl | rfl)
        (try simp only [Act.put, List.setIfInBounds_toArray, List.set_cons_zero, List.set_cons_succ])
        refine wpPlan_takeD (v := ?va3) rfl rfl hSw (by rfl) ?ya3 ?_
        case ya3 => (intro w hSx; (try dsimp only at hSx); go_simp; first | done | with_reducible rfl | rfl)
        (try simp only [Act.put, List.setIfInBounds_toArray, List.set_cons_zero, List.set_cons_succ])
        refine wpPlan_takeD (v := ?va4) rfl rfl hSw (by rfl) ?ya4 ?_
        case ya4 => (intro w hSx; (try dsimp only at hSx); go_simp; first | done | with_reducible rfl | rfl)
        (try simp only [Act.put, List.setIfInBounds_toArray, List.set_cons_zero, List.set_cons_succ])
        refine wpPlan_takeD (v := ?va5) rfl rfl hSw (by rfl) ?ya5 ?_
        case ya5 => (intro w hSx; (try dsimp only at hSx); go_simp; first | done | with_reducible rfl | rfl)
        (try simp only [Act.put, List.setIfInBounds_toArray, List.set_cons_zero, List.set_cons_succ])
        refine wpPlan_run rfl (by rfl) (fun K' hK => ?_)
        go_simp
        refine hK _ _ (.inl rfl) ?_
        clear hK K' hSw
        (try simp only [Act.put, List.setIfInBounds_toArray, List.set_cons_zero, List.set_cons_succ])
        refine wpPlan_done ?_
        go_wp2_with fail
        refine ret_tmp_cell (g := W.heap.size + 1) rfl rfl (heap_setCell_at (heap_setCell_at (heap_setCell_at HF2.out))) rfl Tryd.underlying32 (by kernel_rfl) rfl ?_
        exact ⟨rfl, below_drewN (HB2.out.trans ((((Below.refl _ w2).setCell (by simp) _).setCell (by simp) _).setCell (by simp) _)) 1⟩
end Go.Proofs.YtphdfbmmjkccgaaDoor
