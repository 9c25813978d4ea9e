import Derived.Test.YtddnomjfcbplpaaGreatDoorZ41
namespace Go.Proofs.YtddnomjfcbplpaaGreatDoor
open Go.RowKit Go.Maps

theorem cut0_inner (x : Sp.Source) : (Sp.rmade (cutSrc cut0N x)).inner ≤ 60000 := by
 have h1 := Sp.rmade_innerLe (cutSrc cut0N x)
 have h2 : Sp.partsN (cutSrc cut0N x).rules ≤ (cutSrc cut0N x).rules.length * (5 * 6) := Sp.partsN_le (fun u hu => by
  obtain ⟨r, _, rfl⟩ := List.mem_map.1 (show u ∈ (x.rules.take 6).map (cutRule cut0N) from hu)
  refine ⟨?_, fun a ha => ?_⟩
  ·show ((r.alts.take 5).map (cutAlt cut0N)).length ≤ 5
   rw [List.length_map, List.length_take]
   omega
  ·obtain ⟨b, _, rfl⟩ := List.mem_map.1 (show a ∈ (r.alts.take 5).map (cutAlt cut0N) from ha)
   show ((b.parts.take 6).map (cutPart cut0N)).length ≤ 6
   rw [List.length_map, List.length_take]
   omega)
 have h3 : (cutSrc cut0N x).rules.length ≤ 6 := by
  show ((x.rules.take 6).map (cutRule cut0N)).length ≤ 6
  rw [List.length_map, List.length_take]
  omega
 omega
theorem gl4_below {w w' : World} (h : Gl4 w) (hb : Below w.heap.size w w') : Gl4 w' := by
 obtain ⟨⟨m, hm⟩, hz, ht⟩ := h
 have hs := hb.size
 exact ⟨⟨m, (hb.cell (p := ⟨0, 0, none⟩) (by show 0 < _; omega)).trans hm⟩, by omega, var?_below hb (by kernel_rfl : Tryz.prog.globalNamed "internal/strconv.uint64pow10" = some 1) (by omega) ht⟩
set_option maxRecDepth 100000 in
set_option maxHeartbeats 3200000 in
theorem law_GramTells (x : Sp.Source) (vd vr : Value) (W : World) (hdx : DeclsAt W vd x.decls) (hrx : RulesAt W vr x.rules) (hx : bigSrc x) (hg : Gl4 W) :
  Calls Tryz.prog 3 #[.agg (srcC vd vr x).toArray] W fun e w' => e = .returned (.bool true) ∧ Below W.heap.size W w' := by
 obtain ⟨da, dn, dc, rfl⟩ : ∃ a n c, vd = .slice a n c := by
  obtain ⟨fd, h1, _⟩ := hdx
  obtain ⟨a, c, h⟩ := h1.form
  exact ⟨a, _, c, h⟩
 obtain ⟨ra, rn, rc, rfl⟩ : ∃ a n c, vr = .slice a n c := by
  obtain ⟨fd, h1, _⟩ := hrx
  obtain ⟨a, c, h⟩ := h1.form
  exact ⟨a, _, c, h⟩
 have HCUT := zh (fun (w' : World) (hb : Below W.heap.size W w') => (show Calls Tryz.prog 7 #[.agg #[.string ⟨x.pro.toArray⟩, .slice da dn dc, .slice ra rn rc, .string ⟨x.tail.toArray⟩]] w' (Cut8Post cut0N x w') from cut0_walk x _ _ w' (hdx.below hb) (hrx.below hb) hx))
 have HTI := zh ((tiny_small (cut_tiny cut0N (by decide) hx)).1)
 have HIN := zh (cut0_inner x)
 have HG := zh hg
 have hs4 := hg.2.1
 show Calls _ _ #[.agg #[.string ⟨x.pro.toArray⟩, .slice da dn dc, .slice ra rn rc, .string ⟨x.tail.toArray⟩]] _ _
 obtain ⟨w1, hw1⟩ : ∃ w1 : World, w1 = W.alloc (.cells #[.string ⟨x.pro.toArray⟩, .slice da dn dc, .slice ra rn rc, .string ⟨x.tail.toArray⟩] 25) := ⟨_, rfl⟩
 have hb1 : Below W.heap.size W w1 := by rw [hw1]; exact (Below.refl _ W).alloc (Nat.le_refl _) _
 have hx1 : w1.heap[W.heap.size]? = some (.cells #[.string ⟨x.pro.toArray⟩, .slice da dn dc, .slice ra rn rc, .string ⟨x.tail.toArray⟩] 25 (0, 0)) := by rw [hw1]; exact heap_last W _
 have hs1 : w1.heap.size = W.heap.size + 1 := by rw [hw1]; simp
 have HB1 := zh hb1; have HX1 := zh hx1; have HS1 := zh hs1
 have HG1 : Hid (Gl4 w1) := zh (gl4_below hg hb1)
 clear hdx hrx hx hg hb1 hx1 hs1
 go_enter Tryz.func3, Tryz.ntmps3
 go_upto_region 1 with fail
 rw [← hw1]
 clear hw1
 go_wp2_with fail
 refine (wakes9 w1 HG1.out).mono ?_
 rintro e w2 ⟨rfl, hb2⟩
 have hx2 := (hb2.block _ (lt_at HX1.out)).trans HX1.out
 have x0 := cell_at (i := 0) hx2; have x1 := cell_at (i := 1) hx2; have x2 := cell_at (i := 2) hx2; have x3 := cell_at (i := 3) hx2
 have lx := lt_at hx2
 have HB2 := zh (HB1.out.trans (hb2.mono HB1.out.size))
 have HS2 : Hid (W.heap.size + 1 ≤ w2.heap.size) := zh (by have := hb2.size; have := HS1.out; omega)
 clear hb2 hx2 HX1 HS1 HB1
 go_wp2_with fail
 refine (HCUT.out _ HB2.out).mono ?_
 rintro e w3 ⟨pv, qv, B, rfl, hb3, hdo, hro⟩
 have HSA := zh (law9_same (cutSrc cut0N x) pv qv w3 (decls_at hdo) (rules_at hro) HTI.out (fun w' hb hlt => HG.out.up ((HB2.out.trans (hb3.mono HB2.out.size)).trans (hb.mono (Nat.le_trans HB2.out.size hb3.size))) (by have := HS2.out; have := hb3.size; omega)) HIN.out)
 have HB3 := zh (HB2.out.trans (hb3.mono HB2.out.size))
 clear hb3 hdo hro x0 x1 x2 x3 lx
 go_wp2_with fail
 refine HSA.out.mono ?_
 rintro e w4 ⟨rfl, hb4⟩
 have HB4 := zh (HB3.out.trans (hb4.mono HB3.out.size))
 clear hb4
 go_wp2_with fail
 go_ret
 exact ⟨rfl, HB4.out⟩
end Go.Proofs.YtddnomjfcbplpaaGreatDoor
