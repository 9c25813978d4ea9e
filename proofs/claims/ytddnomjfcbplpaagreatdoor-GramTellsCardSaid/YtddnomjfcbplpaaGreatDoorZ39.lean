import Derived.Test.YtddnomjfcbplpaaGreatDoorZ37
import Derived.Test.YtddnomjfcbplpaaGreatDoorZ38
import Derived.Test.YtddnomjfcbplpaaGreatDoorZ34
import Derived.Test.YtddnomjfcbplpaaGreatDoorZ35
import Derived.Test.YtddnomjfcbplpaaGreatDoorZ21
namespace Go.Proofs.YtddnomjfcbplpaaGreatDoor
open Go.RowKit Go.Maps

set_option maxRecDepth 100000 in
set_option maxHeartbeats 12800000 in
theorem ref_Of (x : Sp.Source) (vd vr : Value) (W : World) (hd : DeclsAt W vd x.decls) (hr : RulesAt W vr x.rules) (hs : smallSrc x) (hin : (Sp.rmade x).inner ≤ 60000) :
  Calls Tryz.prog 9 #[.agg (srcC vd vr x).toArray] W (ROfPost W (Sp.refGram x)) := by
 obtain ⟨da, dn, dc, rfl⟩ : ∃ a n c, vd = .slice a n c := by
  obtain ⟨fd, h1, _⟩ := hd
  obtain ⟨a, c, h⟩ := h1.form
  exact ⟨a, _, c, h⟩
 obtain ⟨ra, rn, rc, rfl⟩ : ∃ a n c, vr = .slice a n c := by
  obtain ⟨fd, h1, _⟩ := hr
  obtain ⟨a, c, h⟩ := h1.form
  exact ⟨a, _, c, h⟩
 have HMAY := zh (fun w (hb : Below W.heap.size W w) => (show Calls Tryz.prog 26 #[.agg #[.string ⟨x.pro.toArray⟩, .slice da dn dc, .slice ra rn rc, .string ⟨x.tail.toArray⟩]] w (fun e w' => e = .returned (.bool (Sp.may x)) ∧ Below w.heap.size w w') from ref7_May x _ _ w (hd.below hb) (hr.below hb) hs))
 have HDE := zh hd; have HRU := zh hr; have HSM := zh hs; have HIN0 := zh hin
 obtain ⟨w1, hw1⟩ : ∃ w1 : World, w1 = (W.alloc (.cells #[.string ⟨x.pro.toArray⟩, .slice da dn dc, .slice ra rn rc, .string ⟨x.tail.toArray⟩] 25)).alloc (.cells #[.slice none 0 0, .slice none 0 0, .slice none 0 0, .string ⟨#[]⟩, .string ⟨#[]⟩] 39) := ⟨_, rfl⟩
 have hb1 : Below W.heap.size W w1 := by rw [hw1]; exact ((Below.refl _ W).alloc (Nat.le_refl _) _).alloc (by simp) _
 have hx1 : w1.heap[W.heap.size]? = some (.cells #[.string ⟨x.pro.toArray⟩, .slice da dn dc, .slice ra rn rc, .string ⟨x.tail.toArray⟩] 25 (0, 0)) := by rw [hw1]; exact heap_old (heap_last W _) _
 have hg1 : w1.heap[W.heap.size + 1]? = some (.cells #[.slice none 0 0, .slice none 0 0, .slice none 0 0, .string ⟨#[]⟩, .string ⟨#[]⟩] 39 (0, 0)) := by rw [hw1]; exact heap_sec W _ _
 have s0 := cell_at (i := 0) hx1; have s1 := cell_at (i := 1) hx1; have s2 := cell_at (i := 2) hx1; have s3 := cell_at (i := 3) hx1
 have ls := lt_at hx1
 have HB1 := zh hb1; have HX1 := zh hx1; have HG1 := zh hg1
 show Calls _ _ #[.agg #[.string ⟨x.pro.toArray⟩, .slice da dn dc, .slice ra rn rc, .string ⟨x.tail.toArray⟩]] _ _
 clear hd hr hs hin hb1 hx1 hg1
 go_enter Tryz.func9, Tryz.ntmps9
 go_upto_region 1 with fail
 rw [← hw1]
 clear hw1
 go_wp2_with fail
 refine (HMAY.out _ HB1.out).mono ?_
 rintro e w2 ⟨rfl, hb2⟩
 have hx2 := (hb2.block _ (lt_at HX1.out)).trans HX1.out
 have hg2 := (hb2.block _ (lt_at HG1.out)).trans HG1.out
 have HX2 := zh hx2; have HG2 := zh hg2; have HB2 := zh (HB1.out.trans (hb2.mono HB1.out.size))
 clear hb2 hx2 HX1 HG1 HB1 HMAY s0 s1 s2 s3 ls
 cases hm : Sp.may x with
 | false =>
  have b0 := cell_at (i := 0) hg2; have b1 := cell_at (i := 1) hg2; have b2 := cell_at (i := 2) hg2; have b3 := cell_at (i := 3) hg2; have b4 := cell_at (i := 4) hg2
  have fz0 := frozen_at (i := 0) hg2; have fz1 := frozen_at (i := 1) hg2; have fz2 := frozen_at (i := 2) hg2; have fz3 := frozen_at (i := 3) hg2; have fz4 := frozen_at (i := 4) hg2
  have lg := lt_at hg2
  have E : Hid (Sp.refGram x = (Sp.noGram, ⟨1, 0, []⟩)) := zh (by unfold Sp.refGram; rw [if_pos hm])
  clear hg2 hm
  go_wp2_with fail
  refine ret_cell_tmp3 (g := W.heap.size + 1) (cs := #[.slice none 0 0, .slice none 0 0, .slice none 0 0, .string ⟨#[]⟩, .string ⟨#[]⟩]) (t := 39) (fr := (0, 0)) rfl rfl ?hg rfl Tryz.underlying39 (by kernel_rfl) rfl ?hr
  case hg => exact heap_setCell_at (heap_setCell_at (heap_setCell_at (heap_setCell_at (heap_setCell_at HG2.out))))
  case hr =>
   rw [E.out]
   have hbe : Below W.heap.size w2 (((((w2.setCell ⟨W.heap.size + 1, 0, none⟩ (.slice none 0 0)).setCell ⟨W.heap.size + 1, 1, none⟩ (.slice none 0 0)).setCell ⟨W.heap.size + 1, 2, none⟩ (.slice none 0 0)).setCell ⟨W.heap.size + 1, 3, none⟩ (.string ⟨#[]⟩)).setCell ⟨W.heap.size + 1, 4, none⟩ (.string ⟨#[]⟩)) := (((((Below.refl _ w2).setCell (by simp) _).setCell (by simp) _).setCell (by simp) _).setCell (by simp) _).setCell (by simp) _
   exact ⟨HB2.out.trans hbe, _, rfl, gramOwn_none _⟩
 | true =>
  obtain ⟨hgd, hga, hne⟩ := ref_good hm
  have HGD := zh hgd; have HGA := zh hga; have HNE := zh hne
  clear hgd hga hne hg2
  obtain ⟨ib0, hib0, hbz0, hbz1, hbz2⟩ := info_parts info_boolE
  have hms : (Instr.makeSlice 75 (.int .i64 3) (.int .i64 3)).run Tryz.prog w2 = .ok (.slice (some ⟨w2.heap.size, 0, none⟩) 3 3) (w2.alloc (.cells #[.bool false, .bool false, .bool false] 4)) := by
   have h := run_makeSlice (P := Tryz.prog) (w := w2) 75 4 ib0 (.bool false) Tryz.underlying75 hib0 hbz0 .i64 .i64 3 3 (by omega) (by omega) (by rw [hbz1]; decide) (by rw [hbz2]; decide) (by decide)
   rw [hbz1, show Int.toNat 3 = 3 from rfl, show madeCells (Value.bool false).cells (3 * 1) = #[.bool false, .bool false, .bool false] from by kernel_rfl] at h
   exact h
  go_upto_block 0 with fail
  obtain ⟨w3, hw3⟩ : ∃ w3 : World, w3 = ((w2.alloc (.cells #[.bool false, .bool false, .bool false] 4)).alloc (.cells #[.slice (some ⟨w2.heap.size + 1 + 1, 0, none⟩) 3 3, .slice none 0 0, .slice none 0 0, .string ⟨#[]⟩, .string ⟨#[]⟩, .slice (some ⟨w2.heap.size, 0, none⟩) 3 3, .slice none 0 0, .slice none 0 0, .int .i64 0, .int .i64 0, .string ⟨#[]⟩, .int .i64 0, .int .i64 0] 82)).alloc (.cells #[.string ⟨#[36, 101, 110, 100]⟩, .bool false, .int .i64 0, .int .i64 0, .int .i64 0, .string ⟨#[]⟩, .string ⟨#[101, 114, 114, 111, 114]⟩, .bool false, .int .i64 (-1), .int .i64 0, .int .i64 0, .string ⟨#[]⟩, .string ⟨#[36, 117, 110, 107]⟩, .bool false, .int .i64 (-1), .int .i64 0, .int .i64 0, .string ⟨#[]⟩] 65) := ⟨_, rfl⟩
  rw [← hw3]
  have hb3 : Below w2.heap.size w2 w3 := by rw [hw3]; exact (((Below.refl _ w2).alloc (Nat.le_refl _) _).alloc (by simp) _).alloc (by simp; omega) _
  have hS3 : OfS W (w2.heap.size + 1) x (.slice da dn dc) (.slice ra rn rc) Sp.rk0 ⟨.slice (some ⟨w2.heap.size + 1 + 1, 0, none⟩) 3 3, .slice none 0 0, .slice none 0 0, .slice (some ⟨w2.heap.size, 0, none⟩) 3 3, .slice none 0 0, .slice none 0 0⟩ w3 := by
   have hW2 := HB2.out.size
   have k1 : w3.heap[w2.heap.size]? = some (.cells #[.bool false, .bool false, .bool false] 4 (0, 0)) := by rw [hw3]; exact heap_old (heap_old (heap_last w2 _) _) _
   have k2 : w3.heap[w2.heap.size + 1]? = some (.cells #[.slice (some ⟨w2.heap.size + 1 + 1, 0, none⟩) 3 3, .slice none 0 0, .slice none 0 0, .string ⟨#[]⟩, .string ⟨#[]⟩, .slice (some ⟨w2.heap.size, 0, none⟩) 3 3, .slice none 0 0, .slice none 0 0, .int .i64 0, .int .i64 0, .string ⟨#[]⟩, .int .i64 0, .int .i64 0] 82 (0, 0)) := by rw [hw3]; exact heap_old (heap_sec w2 _ _) _
   have k3 : w3.heap[w2.heap.size + 1 + 1]? = some (.cells #[.string ⟨#[36, 101, 110, 100]⟩, .bool false, .int .i64 0, .int .i64 0, .int .i64 0, .string ⟨#[]⟩, .string ⟨#[101, 114, 114, 111, 114]⟩, .bool false, .int .i64 (-1), .int .i64 0, .int .i64 0, .string ⟨#[]⟩, .string ⟨#[36, 117, 110, 107]⟩, .bool false, .int .i64 (-1), .int .i64 0, .int .i64 0, .string ⟨#[]⟩] 65 (0, 0)) := by rw [hw3]; exact heap_thdR w2 _ _ _
   refine ⟨⟨k2, owns_block (B := W.heap.size) (size := 6) (n := 3) k3 (by omega) rfl (by decide), owns_block (B := W.heap.size) (size := 1) (n := 3) k1 (by omega) rfl (by decide), World.ownsRow_nil _ _ _ _, World.ownsRow_nil _ _ _ _, ⟨fun _ => .slice none 0 0, fun _ => .slice none 0 0, World.ownsRow_nil _ _ _ _, fun i p hp => by cases hp⟩, by omega⟩, (hb3.block _ (lt_at HX2.out)).trans HX2.out, (hb3.block _ (lt_at HG2.out)).trans HG2.out, HB2.out.trans (hb3.mono HB2.out.size)⟩
  obtain ⟨m, hmm⟩ : ∃ m, m = w2.heap.size + 1 := ⟨_, rfl⟩
  rw [← hmm] at hS3 ⊢
  have HS3 := zh hS3
  have HRB0 : Sp.RB 3 Sp.rk0 := ⟨⟨rfl, Nat.le_refl _⟩, Nat.le_refl _, Nat.zero_le _, Nat.zero_le _, Nat.zero_le _, Nat.zero_le _, Int.le_refl _, by decide⟩
  clear hw3 hb3 hS3 hms hib0 hbz0 hbz1 hbz2 HX2 HG2 hmm
  refine of_decls _ _ HS3.out HDE.out HSM.out HGD.out HRB0 (fun _ _ _ _ h => h) ?_
  intro y8 y9 y10 y41 y42 y43 y44 y45 y46 y47 y48 y49 y50 y51 y52 y53 y54 y55 y56 y57 y58 y59 y60 y61 y62 y63 y64 y65 y66 y67 y68 y69 y70 y71 y72 y73 y74 y75 y76 y77 y78 y79 y80 y81 y82 y83 y84 y85 y86 y87 y88 y89 y90 y91 y92 y93 y94 y95 y96 y97 y98 y99 y100 y101 y102 y103 y104 y105 y106 y107 wc r1 v1 st hR1 hS1 hrb1
  dsimp only
  have HS1 := zh hS1; have HRB1 := zh hrb1; have HR1 := zh hR1
  clear hS1 hrb1 hR1 HS3
  go_upto_block 4 with fail
  refine of_lefts _ _ HS1.out HRU.out HSM.out HRB1.out (fun _ _ _ _ h => h) ?_
  intro y11 y12 y108 y109 y110 y111 y112 y113 y114 y115 y116 y117 y118 y119 y120 y121 y122 y123 y124 y125 y126 y127 y128 y129 y130 y131 y132 y133 y134 y135 y136 y137 y138 y139 y140 y141 y142 y143 y144 y145 y146 y147 wc v2 hS2 hrb2
  dsimp only
  have HS2 := zh hS2; have HRB2 := zh hrb2
  clear hS2 hrb2 HS1 HRB1
  go_upto_block 6 with fail
  refine of_names _ _ HS2.out HDE.out HSM.out HRB2.out (fun _ _ _ _ h => h) ?_
  intro y13 y14 y15 y148 y149 y150 y151 y152 y153 y154 y155 y156 y157 y158 y159 y160 y161 y162 y163 y164 y165 y166 y167 y168 y169 y170 y171 y172 y173 y174 y175 y176 y177 y178 y179 y180 y181 y182 y183 y184 y185 y186 y187 y188 y189 y190 y191 y192 y193 y194 wc v3 hS3 hrb3
  dsimp only
  have HS4 := zh hS3; have HRB4 := zh hrb3
  clear hS3 hrb3 HS2 HRB2
  obtain ⟨r3, hr3⟩ : ∃ r3, r3 = Sp.rnames x.decls (Sp.rrules x.rules r1) := ⟨_, rfl⟩
  rw [← hr3] at HS4 HRB4
  have HR3 := zh hr3
  clear hr3
  obtain ⟨w4, hw4⟩ : ∃ w4 : World, w4 = wc := ⟨_, rfl⟩
  subst hw4
  obtain ⟨SS, hSS⟩ : ∃ SS, SS = startOf x st := ⟨_, rfl⟩
  have HSS := zh hSS
  clear hSS
  have hx4 := HS4.out.sbox
  have s2 : w4.cell? ⟨W.heap.size, 2, none⟩ = some (.slice ra rn rc) := cell_at (i := 2) hx4
  have ls := lt_at hx4
  clear hx4
  obtain ⟨U, UL, hrl⟩ : ∃ U UL, x.rules = U :: UL := by
   cases h : x.rules with
   | nil => exact absurd h HNE.out
   | cons u l => exact ⟨u, l, rfl⟩
  obtain ⟨bo, oo, c0, lb, hra, hrn⟩ : ∃ bo oo, w4.cell? ⟨bo, oo + 0 * 3, none⟩ = some (.string ⟨U.left.toArray⟩) ∧ bo < w4.heap.size ∧ ra = some ⟨bo, oo, none⟩ ∧ 0 < rn := by
   obtain ⟨fr, h1, _⟩ := HRU.out
   obtain ⟨bo, oo, e, hbo, hco⟩ := h1.at (k := 0) (row := ruleC (fr 0) U) (by rw [List.getElem?_mapIdx, hrl]; rfl)
   have h := hco w4 HS4.out.bel 0 _ rfl
   simp only [Nat.add_zero] at h
   refine ⟨bo, oo, h, by have := HS4.out.bel.size; omega, e, ?_⟩
   obtain ⟨a, c, hv⟩ := h1.form
   simp only [Value.slice.injEq] at hv
   rw [hv.2.1, List.length_mapIdx, hrl]
   simp
  subst hra
  simp only [Nat.zero_mul, Nat.add_zero] at c0
  have hrnI : (0 : Int) < (rn : Int) := by omega
  go_upto_region 37 with fail
  go_upto_if 196 with fail
  go_cut [7] (fun c wx => c = .string ⟨SS.toArray⟩ ∧ w4 = wx)
  case first =>
   by_cases hst : st = []
   ·have e : SS = U.left := by rw [HSS.out]; unfold startOf; rw [if_pos hst, hrl]
    subst hst
    go_wp2_with fail
    go_meet
    exact ⟨by rw [e], rfl⟩
   ·have e : SS = st := by rw [HSS.out]; unfold startOf; rw [if_neg hst]
    have hse : st.isEmpty = false := by cases st with
     | nil => exact absurd rfl hst
     | cons a l => rfl
    (try rw [hse])
    go_wp2_with fail
    go_meet
    exact ⟨by rw [e], rfl⟩
  case rest =>
   obtain ⟨rfl, rfl⟩ := hcut
   have hlb : -1 ≤ ixI (Sp.rleft r3.lefts SS) ∧ ixI (Sp.rleft r3.lefts SS) ≤ 2 ^ 39 := by
    cases hl : Sp.rleft r3.lefts SS with
    | none => simp [ixI]
    | some k => have := Sp.rleft_lt hl; have := HRB4.out.lefts; simp only [ixI]; omega
   obtain ⟨ll, hll⟩ : ∃ ll, ll = ixI (Sp.rleft r3.lefts SS) := ⟨_, rfl⟩
   rw [← hll] at hlb
   have HLL := zh hll
   have hwl : IntKind.i64.wrap (1001 + ll) = 1001 + ll := IntWalk.i64_in _ ⟨by omega, by omega⟩
   have hmb := HS4.out.mkr.block
   unfold rkCells at hmb
   have m2 := cell_at (i := 2) hmb
   have f2 := frozen_at (i := 2) hmb
   have lm := lt_at hmb
   clear hmb hll s2 ls c0 lb hrnI hrn
   go_wp2_with fail
   refine (ref_left SS HS4.out.mkr HRB4.out (by omega)).mono ?_
   rintro e w' ⟨rfl, rfl⟩
   rw [← HLL.out]
   go_upto_block 10 with fail
   obtain ⟨wS, hwS⟩ : ∃ wS : World, wS = w4.setCell ⟨m, 2, none⟩ (.slice (some ⟨w4.heap.size + 1, 0, none⟩) 1 1) := ⟨_, rfl⟩
   obtain ⟨w5, hw5⟩ : ∃ w5 : World, w5 = (wS.alloc (.cells #[.int .i64 (1001 + ll)] 3)).alloc (.cells #[.int .i64 0, .slice (some ⟨w4.heap.size, 0, none⟩) 1 1, .int .i64 (-1), .string ⟨#[]⟩, .slice none 0 0, .int .i64 0] 68) := ⟨_, rfl⟩
   rw [← hwS, ← hw5]
   have hsS : wS.heap.size = w4.heap.size := by rw [hwS]; simp [World.setCell]
   obtain ⟨kS, fS⟩ : KpT (fun t => t ≠ 82) w4 wS ∧ RFr W.heap.size w4 wS := by rw [hwS]; exact RefAt.box1 HS4.out.mkr.block HS4.out.mkr.behind 2 _
   have hmS : wS.heap[m]? = some (.cells (rkCells r3 { v3 with pv := .slice (some ⟨w4.heap.size + 1, 0, none⟩) 1 1 }).toArray 82 (0, 0)) := by rw [hwS]; exact heap_setCell_at HS4.out.mkr.block
   have hb5 : Below wS.heap.size wS w5 := by rw [hw5]; exact ((Below.refl _ wS).alloc (Nat.le_refl _) _).alloc (by simp) _
   have hi5 : w5.heap[w4.heap.size]? = some (.cells #[.int .i64 (1001 + ll)] 3 (0, 0)) := by rw [hw5, ← hsS]; exact heap_old (heap_last wS _) _
   have hp5 : w5.heap[w4.heap.size + 1]? = some (.cells #[.int .i64 0, .slice (some ⟨w4.heap.size, 0, none⟩) 1 1, .int .i64 (-1), .string ⟨#[]⟩, .slice none 0 0, .int .i64 0] 68 (0, 0)) := by rw [hw5, ← hsS]; exact heap_sec wS _ _
   have hB4 := HS4.out.bel.size
   have hno : 1000 + 1 + Sp.leftNo r3.lefts SS = 1001 + ll := by rw [leftNo_ixI, ← HLL.out]; omega
   have hpo : ProdsOff W.heap.size w5 (.slice (some ⟨w4.heap.size + 1, 0, none⟩) 1 1) [⟨0, [1000 + 1 + Sp.leftNo r3.lefts SS], -1, [], [], 0⟩] (fun _ => True) := by
    rw [hno]
    refine ⟨fun _ => .slice (some ⟨w4.heap.size, 0, none⟩) 1 1, fun _ => .slice none 0 0, owns_block (size := 6) (n := 1) hp5 (by omega) rfl (by decide), fun i p hp => ?_⟩
    have hp2 := List.mem_of_getElem? hp
    simp at hp2
    subst hp2
    exact ⟨⟨⟨W.heap.size, owns_block (size := 1) (n := 1) hi5 hB4 rfl (by decide)⟩, 0, World.ownsRow_nil _ _ _ _⟩, fun _ _ => trivial, fun _ _ => trivial⟩
   have hS5 : OfS W m x (.slice da dn dc) (.slice (some ⟨bo, oo, none⟩) rn rc) { r3 with prods := [⟨0, [1000 + 1 + Sp.leftNo r3.lefts SS], -1, [], [], 0⟩] } { v3 with pv := .slice (some ⟨w4.heap.size + 1, 0, none⟩) 1 1 } w5 := by
    have h := HS4.out.mkr
    exact ⟨⟨(hb5.block m (lt_at hmS)).trans hmS, ownsRow_below (ownsRow_kpT h.toks kS (by decide)) hb5, ownsRow_below (ownsRow_kpT h.given kS (by decide)) hb5, ownsRow_below (ownsRow_kpT h.types kS (by decide)) hb5, ownsRow_below (ownsRow_kpT h.lefts kS (by decide)) hb5, hpo, h.behind⟩, (hb5.block _ (by rw [hsS]; exact lt_at HS4.out.sbox)).trans (kS _ _ _ _ HS4.out.sbox (by decide)), (hb5.block _ (by rw [hsS]; exact lt_at HS4.out.gbox)).trans (kS _ _ _ _ HS4.out.gbox (by decide)), (HS4.out.bel.trans fS.1).trans (hb5.mono (by rw [hsS]; exact hB4))⟩
   have hab : ABoundR 0 0 { r3 with prods := [⟨0, [1000 + 1 + Sp.leftNo r3.lefts SS], -1, [], [], 0⟩] } := by
    obtain ⟨q0, q1, q2, q3, q4, q5, q6, q7⟩ := HRB4.out
    exact ⟨q0, by simp only; omega, by simp only; omega, by simp only; omega, by simp, by simp only; omega, q6, by simp only; omega⟩
   have hmade : Sp.rmade x = Sp.rrulesAlts x.rules { r3 with prods := [⟨0, [1000 + 1 + Sp.leftNo r3.lefts SS], -1, [], [], 0⟩] } := by
    rw [HSS.out]
    exact rmade_eq x r1 st r3 HR1.out HR3.out
   have HS5 := zh hS5; have HAB := zh hab; have HMADE := zh hmade
   clear hw5 hwS hsS kS fS hmS hb5 hi5 hp5 hno hpo hS5 hab hmade m2 f2 lm hwl
   refine of_alts _ _ HS5.out HRU.out HSM.out HGA.out HAB.out (fun _ _ _ _ h => h) ?_
   intro y16 y17 y213 y214 y215 y216 y217 y218 y219 y220 y221 y222 y223 y224 y225 y226 y227 y228 y229 y230 y231 y232 y233 y234 y235 y236 y237 y238 y239 y240 y241 y242 y243 y244 y245 y246 y247 wc v6 hS6 hrb6
   dsimp only
   rw [← HMADE.out] at hS6 hrb6
   have HIN : Hid ((Sp.rmade x).inner ≤ 60000) := HIN0
   refine (by assumption : ∀ (a : Act) (w : World), _ → _) _ _ ?_
   by_cases hf0 : (Sp.rmade x).fault.err = 0
   ·exact of_good _ hS6 hrb6 rfl hm HIN.out hf0 (fun _ _ _ _ h => h) (fun _ _ h => h)
   ·exact of_bad _ hS6 hrb6 rfl hm hf0 (fun _ _ _ _ h => h) (fun _ _ h => h)
end Go.Proofs.YtddnomjfcbplpaaGreatDoor

namespace Go.Proofs.YtddnomjfcbplpaaGreatDoor
namespace Sp

theorem rput_inner (r : Rk) (x : Sym) : (rput r x).1.inner = r.inner := by unfold rput; split <;> rfl
theorem rsymbol_inner (r : Rk) (x : Sym) : (rsymbol r x).1.inner = r.inner := by
 unfold rsymbol
 split
 ·exact rput_inner r x
 ·split
  ·rfl
  ·split <;> rfl
theorem rdeclare_inner (r : Rk) (d : Decl) (x : Sym) : (rdeclare r d x).inner = r.inner := by
 unfold rdeclare
 split
 ·split
  ·rfl
  ·split <;> rfl
 ·have h1 : ∀ (r : Rk) (t : Nat), (rlevel r t d x).inner = r.inner := fun r t => by unfold rlevel; split <;> rfl
  have h2 : ∀ (r : Rk) (t : Nat), (rnum r t x).inner = r.inner := fun r t => by unfold rnum; split <;> rfl
  have h3 : ∀ (r : Rk) (t : Nat), (rtag r t d x).inner = r.inner := fun r t => by unfold rtag; split <;> rfl
  simp only [h1, h2, h3, rput_inner]
theorem rsym_inner (q : Rk × List UInt8) (d : Decl) (x : Sym) : (rsym q d x).1.inner = q.1.inner := by
 unfold rsym
 split
 ·exact rdeclare_inner _ _ _
 ·simp only
  split <;> rfl
theorem rsyms_inner (d : Decl) : ∀ (l : List Sym) (q : Rk × List UInt8), (rsyms d l q).1.inner = q.1.inner
 | [], _ => rfl
 | x :: l, q => (rsyms_inner d l (rsym q d x)).trans (rsym_inner q d x)
theorem rdecls_inner : ∀ (l : List Decl) (q : Rk × List UInt8), (rdecls l q).1.inner = q.1.inner
 | [], _ => rfl
 | d :: l, q => by
  rw [rdecls_cons, rdecls_inner l, rsyms_inner]
  simp only
  split <;> rfl
theorem rrule_inner (r : Rk) (u : Rule) : (rrule r u).inner = r.inner := by
 unfold rrule
 simp only
 split <;> split <;> rfl
theorem rrules_inner : ∀ (l : List Rule) (r : Rk), (rrules l r).inner = r.inner
 | [], _ => rfl
 | u :: l, r => (rrules_inner l (rrule r u)).trans (rrule_inner r u)
theorem rnamesSyms_inner (k : Int) : ∀ (l : List Sym) (r : Rk), (rnamesSyms k l r).inner = r.inner
 | [], _ => rfl
 | x :: l, r => (rnamesSyms_inner k l (rnameSym k r x)).trans (by unfold rnameSym; split <;> rfl)
theorem rnames_inner : ∀ (l : List Decl) (r : Rk), (rnames l r).inner = r.inner
 | [], _ => rfl
 | d :: l, r => (rnames_inner l _).trans (rnamesSyms_inner d.kind d.syms r)
theorem raltGo_innerLe (N : Nat) : ∀ (l : List Part) (i : Nat) (r : Rk) (p : Prod), (raltGo N i l (r, p)).1.inner ≤ r.inner + l.length
 | [], _, _, _ => Nat.le_refl _
 | w :: l, i, r, p => by
  rw [List.length_cons]
  by_cases hc : w.code = []
  ·rw [raltGo_sym _ _ _ _ _ _ hc]
   have := raltGo_innerLe N l (i + 1) (rsymbol r w.sym).1 { p with right := p.right ++ [(rsymbol r w.sym).2] }
   rw [rsymbol_inner] at this
   omega
  ·by_cases hi : i + 1 = N
   ·rw [raltGo_last _ _ _ _ _ _ hc hi]
    have := raltGo_innerLe N l (i + 1) r { p with code := w.code, at_ := w.at_ }
    omega
   ·rw [raltGo_inner _ _ _ _ _ _ hc hi]
    refine Nat.le_trans (raltGo_innerLe N l (i + 1) _ _) ?_
    simp only
    omega
theorem raltPrec_inner (r : Rk) (a : Alt) (c : Int) : (raltPrec r a c).1.inner = r.inner := by
 unfold raltPrec
 split
 ·rfl
 ·split
  ·exact rsymbol_inner _ _
  ·rfl
theorem ralt_innerLe (r : Rk) (left : List UInt8) (a : Alt) : (ralt r left a).inner ≤ r.inner + a.parts.length := by
 unfold ralt
 simp only
 rw [raltPrec_inner]
 exact raltGo_innerLe _ _ _ _ _
def altsN (l : List Alt) : Nat := (l.map fun a => a.parts.length).sum
def partsN (l : List Rule) : Nat := (l.map fun u => altsN u.alts).sum
theorem ralts_innerLe (left : List UInt8) : ∀ (l : List Alt) (r : Rk), (ralts left l r).inner ≤ r.inner + altsN l
 | [], _ => Nat.le_refl _
 | a :: l, r => by
  have h1 := ralts_innerLe left l (ralt r left a)
  have h2 := ralt_innerLe r left a
  have e : altsN (a :: l) = a.parts.length + altsN l := by unfold altsN; rw [List.map_cons, List.sum_cons]
  rw [ralts_cons, e]
  omega
theorem rrulesAlts_innerLe : ∀ (l : List Rule) (r : Rk), (rrulesAlts l r).inner ≤ r.inner + partsN l
 | [], _ => Nat.le_refl _
 | u :: l, r => by
  have h1 := rrulesAlts_innerLe l (ralts u.left u.alts r)
  have h2 := ralts_innerLe u.left u.alts r
  have e : partsN (u :: l) = altsN u.alts + partsN l := by unfold partsN; rw [List.map_cons, List.sum_cons]
  rw [rrulesAlts_cons, e]
  omega
theorem rmade_innerLe (x : Source) : (rmade x).inner ≤ partsN x.rules := by
 unfold rmade
 simp only
 refine Nat.le_trans (rrulesAlts_innerLe _ _) ?_
 simp only
 rw [rnames_inner, rrules_inner, rdecls_inner]
 exact Nat.le_of_eq (Nat.zero_add _)
theorem altsN_le {n : Nat} : ∀ {l : List Alt}, (∀ a ∈ l, a.parts.length ≤ n) → altsN l ≤ l.length * n
 | [], _ => by simp [altsN]
 | a :: l, h => by
  have h1 := altsN_le (l := l) (fun b hb => h b (by simp [hb]))
  have h2 := h a (by simp)
  have e : altsN (a :: l) = a.parts.length + altsN l := by unfold altsN; rw [List.map_cons, List.sum_cons]
  rw [e, List.length_cons, Nat.succ_mul]
  omega
theorem partsN_le {n k : Nat} : ∀ {l : List Rule}, (∀ u ∈ l, u.alts.length ≤ k ∧ ∀ a ∈ u.alts, a.parts.length ≤ n) → partsN l ≤ l.length * (k * n)
 | [], _ => by simp [partsN]
 | u :: l, h => by
  have h1 := partsN_le (l := l) (fun b hb => h b (by simp [hb]))
  obtain ⟨h2, h3⟩ := h u (by simp)
  have h4 := altsN_le h3
  have h5 : u.alts.length * n ≤ k * n := Nat.mul_le_mul_right n h2
  have e : partsN (u :: l) = altsN u.alts + partsN l := by unfold partsN; rw [List.map_cons, List.sum_cons]
  rw [e, List.length_cons, Nat.succ_mul]
  omega
end Sp
namespace Sp

def PLen (n : Nat) (p : Prod) : Prop := p.right.length ≤ n ∧ p.args.length ≤ n
def PLens (n : Nat) (l : List Prod) : Prop := ∀ p ∈ l, PLen n p
theorem PLens.snoc {n : Nat} {l : List Prod} {p : Prod} (h : PLens n l) (hp : PLen n p) : PLens n (l ++ [p]) := fun q hq => by
 rcases List.mem_append.1 hq with hq | hq
 ·exact h q hq
 ·rw [List.mem_singleton] at hq
  rw [hq]
  exact hp
theorem rput_prods (r : Rk) (x : Sym) : (rput r x).1.prods = r.prods := by unfold rput; split <;> rfl
theorem rsymbol_prods (r : Rk) (x : Sym) : (rsymbol r x).1.prods = r.prods := by
 unfold rsymbol
 split
 ·exact rput_prods r x
 ·split
  ·rfl
  ·split <;> rfl
theorem raltGo_PLens (N n : Nat) : ∀ (l : List Part) (i : Nat) (r : Rk) (p : Prod), PLens n r.prods → p.right.length + l.length ≤ n → p.args = [] → PLens n (raltGo N i l (r, p)).1.prods ∧ (raltGo N i l (r, p)).2.right.length ≤ n
 | [], _, _, p, h, hp, _ => ⟨h, (by
   have h2 : p.right.length ≤ n := by simpa using hp
   exact h2)⟩
 | w :: l, i, r, p, h, hp, ha => by
  rw [List.length_cons] at hp
  by_cases hc : w.code = []
  ·rw [raltGo_sym _ _ _ _ _ _ hc]
   exact raltGo_PLens N n l _ _ _ (by rw [rsymbol_prods]; exact h) (by simp only [List.length_append, List.length_singleton]; omega) ha
  ·by_cases hi : i + 1 = N
   ·rw [raltGo_last _ _ _ _ _ _ hc hi]
    exact raltGo_PLens N n l _ _ _ h (by simp only; omega) ha
   ·rw [raltGo_inner _ _ _ _ _ _ hc hi]
    exact raltGo_PLens N n l _ _ _ (h.snoc ⟨by simp, by simp only; omega⟩) (by simp only [List.length_append, List.length_singleton]; omega) ha
theorem raltPrec_prods (r : Rk) (a : Alt) (c : Int) : (raltPrec r a c).1.prods = r.prods := by
 unfold raltPrec
 split
 ·rfl
 ·split
  ·exact rsymbol_prods _ _
  ·rfl
theorem ralt_PLens {n : Nat} {r : Rk} (left : List UInt8) (a : Alt) (h : PLens n r.prods) (ha : a.parts.length ≤ n) : PLens n (ralt r left a).prods := by
 obtain ⟨h1, h2⟩ := raltGo_PLens a.parts.length n a.parts 0 r ⟨1 + leftNo r.lefts left, [], -1, [], [], a.at_⟩ h (by simpa using ha) rfl
 unfold ralt
 simp only
 rw [raltPrec_prods]
 exact h1.snoc ⟨h2, h2⟩
theorem ralts_PLens {n : Nat} (left : List UInt8) : ∀ (l : List Alt) (r : Rk), PLens n r.prods → (∀ a ∈ l, a.parts.length ≤ n) → PLens n (ralts left l r).prods
 | [], _, h, _ => h
 | a :: l, r, h, ha => ralts_PLens left l (ralt r left a) (ralt_PLens left a h (ha a (by simp))) (fun b hb => ha b (by simp [hb]))
theorem rrulesAlts_PLens {n : Nat} : ∀ (l : List Rule) (r : Rk), PLens n r.prods → (∀ u ∈ l, ∀ a ∈ u.alts, a.parts.length ≤ n) → PLens n (rrulesAlts l r).prods
 | [], _, h, _ => h
 | u :: l, r, h, ha => rrulesAlts_PLens l (ralts u.left u.alts r) (ralts_PLens u.left u.alts r h (ha u (by simp))) (fun b hb => ha b (by simp [hb]))
theorem rmade_PLens {n : Nat} {x : Source} (hn : 1 ≤ n) (h : ∀ u ∈ x.rules, ∀ a ∈ u.alts, a.parts.length ≤ n) : PLens n (rmade x).prods := by
 unfold rmade
 simp only
 refine rrulesAlts_PLens _ _ (fun p hp => ?_) h
 rw [List.mem_singleton] at hp
 rw [hp]
 exact ⟨by simpa using hn, by simp⟩
theorem refGram_lens {n : Nat} {x : Source} (hn : 1 ≤ n) (h : ∀ u ∈ x.rules, ∀ a ∈ u.alts, a.parts.length ≤ n) : (refGram x).1.toks.length ≤ 40 ∧ (refGram x).1.nons.length ≤ 24 ∧ (refGram x).1.prods.length ≤ 60 ∧ ∀ p ∈ (refGram x).1.prods, p.right.length ≤ n ∧ p.args.length ≤ n := by
 have h0 : noGram.toks.length ≤ 40 ∧ noGram.nons.length ≤ 24 ∧ noGram.prods.length ≤ 60 ∧ ∀ p ∈ noGram.prods, p.right.length ≤ n ∧ p.args.length ≤ n := ⟨by decide, by decide, by decide, fun p hp => by cases hp⟩
 cases hm : may x with
 | false => rw [refGram_none hm]; exact h0
 | true =>
  by_cases hf : (rmade x).fault.err = 0
  ·cases hg : rgreat (rmade x) with
   | true => rw [refGram_great hm hf hg]; exact h0
   | false =>
    rw [refGram_fine hm hf hg]
    have hP := rmade_PLens hn h
    unfold rgreat at hg
    simp only [Bool.or_eq_false_iff, decide_eq_false_iff_not] at hg
    obtain ⟨⟨⟨g1, g2⟩, g3⟩, _⟩ := hg
    refine ⟨?_, ?_, by simp only; omega, hP⟩
    ·simp only
     unfold rnumbers
     rw [List.length_append, numGo_length, List.length_take, List.length_drop]
     omega
    ·simp only
     unfold rnons
     rw [List.length_append, List.length_cons, List.length_map, innerNons_length]
     omega
  ·rw [refGram_fault hm hf]; exact h0
end Sp
end Go.Proofs.YtddnomjfcbplpaaGreatDoor

namespace Go.Proofs.YtddnomjfcbplpaaGreatDoor
open Go.RowKit Go.Maps

theorem eqInts_same (v1 v2 : Value) (l : List Int) (w : World) (h1 : IntsAt w v1 l) (h2 : IntsAt w v2 l) (hl : l.length < 4294967281) :
  Calls Tryz.prog 16 #[v1, v2] w fun e w' => e = .returned (.bool true) ∧ ∃ n, w' = w.drewN n :=
 (ref_EqInts v1 v2 l l w h1 h2 hl hl).mono fun _ _ ⟨he, hw⟩ => ⟨by rw [he]; simp, hw⟩
theorem ProdsAt.tail {w : World} {a : Option Addr} {n cap : Nat} {p : Sp.Prod} {ps : List Sp.Prod} (h : ProdsAt w (.slice a n cap) (p :: ps)) (hne : ps ≠ []) : ∃ b off, a = some ⟨b, off, none⟩ ∧ b < w.heap.size ∧ n = ps.length + 1 ∧ ProdsAt w (.slice (some ⟨b, off + 6, none⟩) ps.length (cap - 1)) ps := by
 obtain ⟨f, g, h1, h2⟩ := h
 rcases h1 with ⟨hx, _⟩ | ⟨b, off, cap', hv, hlt, hc⟩
 ·simp at hx
 ·simp only [Value.slice.injEq, List.length_mapIdx, List.length_cons] at hv
  obtain ⟨rfl, rfl, rfl⟩ := hv
  refine ⟨b, off, rfl, hlt, rfl, fun i => f (i + 1), fun i => g (i + 1), .inr ⟨b, off + 6, cap - 1, by rw [List.length_mapIdx], hlt, ?_⟩, fun i q hq => h2 (i + 1) q (by simpa using hq)⟩
  intro i r hr j u hu
  have h := hc (i + 1) r (by
   rw [List.getElem?_mapIdx] at hr ⊢
   rw [List.getElem?_cons_succ]
   exact hr) j u hu
  rw [show off + 6 + i * 6 + j = off + (i + 1) * 6 + j by omega]
  exact h
set_option maxRecDepth 100000 in
set_option maxHeartbeats 6400000 in
theorem ref_EqProds_same (v1 v2 : Value) (ps : List Sp.Prod) (w : World) (h1 : ProdsAt w v1 ps) (h2 : ProdsAt w v2 ps) (hl : ps.length < 4294967281) (hr : ∀ p ∈ ps, p.right.length < 4294967281 ∧ p.args.length < 4294967281) :
  Calls Tryz.prog 46 #[v1, v2] w fun e w' => e = .returned (.bool true) ∧ ∃ n, w' = w.drewN n := by
 obtain ⟨f, g, s1, q1⟩ := h1
 obtain ⟨f', g', s2, q2⟩ := h2
 obtain ⟨a1, c1, rfl⟩ := s1.form
 obtain ⟨a2, c2, rfl⟩ := s2.form
 rw [List.length_mapIdx] at s1 s2
 rw [List.length_mapIdx, List.length_mapIdx]
 have S1 := zh s1; have S2 := zh s2; have Q1 := zh q1; have Q2 := zh q2; have HR := zh hr
 clear s1 s2 q1 q2 hr
 go_enter Tryz.func46, Tryz.ntmps46
 go_wp2_with fail
 go_loopg [5] ps.length (fun q iv wr => ∃ k nn : Nat, k ≤ ps.length ∧ q = ps.length - k ∧ iv = .int .i64 k ∧ wr = w.drewN nn)
 case atStart => exact ⟨0, 0, by omega, rfl, rfl, rfl⟩
 case round =>
  obtain ⟨k, nn, hk, rfl, rfl, rfl⟩ := hrel
  by_cases hkn : k < ps.length
  ·obtain ⟨p, hp⟩ : ∃ p, ps[k]? = some p := ⟨_, List.getElem?_eq_getElem hkn⟩
   obtain ⟨b1, o1, rfl, hb1, t1⟩ := S1.out.at (k := k) (row := prodC (f k) (g k) p) (by rw [List.getElem?_mapIdx, hp]; rfl)
   obtain ⟨b2, o2, rfl, hb2, t2⟩ := S2.out.at (k := k) (row := prodC (f' k) (g' k) p) (by rw [List.getElem?_mapIdx, hp]; rfl)
   obtain ⟨r1, x1⟩ := Q1.out k p hp
   obtain ⟨r2, x2⟩ := Q2.out k p hp
   obtain ⟨hl1, hl2⟩ := HR.out p (List.mem_of_getElem? hp)
   have HRR : Hid (∀ m, Calls Tryz.prog 16 #[f k, f' k] ((w.drewN nn).drewN m) fun e w' => e = .returned (.bool true) ∧ ∃ n, w' = ((w.drewN nn).drewN m).drewN n) := zh (fun m => eqInts_same _ _ p.right _ r1 r2 hl1)
   have HXX : Hid (∀ m, Calls Tryz.prog 16 #[g k, g' k] ((w.drewN nn).drewN m) fun e w' => e = .returned (.bool true) ∧ ∃ n, w' = ((w.drewN nn).drewN m).drewN n) := zh (fun m => eqInts_same _ _ p.args _ x1 x2 hl2)
   have hbd : Below w.heap.size w (w.drewN nn) := below_drewN (Below.refl _ _) _
   have A0 := t1 _ hbd 0 _ rfl; have A1 := t1 _ hbd 1 _ rfl; have A2 := t1 _ hbd 2 _ rfl; have A3 := t1 _ hbd 3 _ rfl; have A4 := t1 _ hbd 4 _ rfl; have A5 := t1 _ hbd 5 _ rfl
   have z0 := t2 _ hbd 0 _ rfl; have z1 := t2 _ hbd 1 _ rfl; have z2 := t2 _ hbd 2 _ rfl; have z3 := t2 _ hbd 3 _ rfl; have z4 := t2 _ hbd 4 _ rfl; have z5 := t2 _ hbd 5 _ rfl
   obtain ⟨ra, rc, hra⟩ := r1.form; obtain ⟨rb, rd, hrb⟩ := r2.form
   obtain ⟨xa, xc, hxa⟩ := x1.form; obtain ⟨xb, xd, hxb⟩ := x2.form
   rw [List.length_map] at hra hrb hxa hxb
   rw [hra] at A1 HRR; rw [hrb] at z1 HRR; rw [hxa] at A4 HXX; rw [hxb] at z4 HXX
   have hbb1 : b1 < (w.drewN nn).heap.size := hb1
   have hbb2 : b2 < (w.drewN nn).heap.size := hb2
   obtain ⟨wo, hwo⟩ : ∃ wo, wo = w.drewN nn := ⟨_, rfl⟩
   rw [← hwo] at A0 A1 A2 A3 A4 A5 z0 z1 z2 z3 z4 z5 HRR HXX hbb1 hbb2 ⊢
   have HWO := zh hwo
   simp only [Nat.add_zero] at A0 z0
   clear t1 t2 hp r1 r2 x1 x2 hl1 hl2 hra hrb hxa hxb hwo hbd hb1 hb2
   go_wp2_with fail
   go_quiet ((go_at_call 16; first | (with_reducible exact Calls.quiet_of (HRR.out _)) | (with_reducible exact Calls.quiet_of (HXX.out _))))
   go_wp2_with fail
   go_roundg (ps.length - (k + 1))
   case measure => omega
   case rel => exact ⟨k + 1, _, by omega, rfl, by go_num, by rw [HWO.out]; exact World.drewN_drewN _ _ _⟩
  ·obtain rfl : k = ps.length := by omega
   go_wp2_with fail
   go_ret
   exact ⟨rfl, _, rfl⟩

set_option maxRecDepth 100000 in
set_option maxHeartbeats 3200000 in
theorem ref_EqGrammar_same (g : Sp.Gram) (v1 v2 : Value) (W : World) (h1 : GramAt W v1 g) (h2 : GramAt W v2 g) (ht : g.toks.length < 4294967281) (hn : g.nons.length < 4294967281) (hp : g.prods.length < 4294967281) (hr : ∀ p ∈ g.prods, p.right.length < 4294967281 ∧ p.args.length < 4294967281) :
  Calls Tryz.prog 18 #[v1, v2] W fun e w' => e = .returned (.bool true) ∧ Below W.heap.size W w' := by
 obtain ⟨t1, n1, p1, rfl, a1, b1, c1⟩ := h1
 obtain ⟨t2, n2, p2, rfl, a2, b2, c2⟩ := h2
 obtain ⟨ta1, tc1, rfl⟩ := a1.form
 obtain ⟨ta2, tc2, rfl⟩ := a2.form
 obtain ⟨na1, nc1, rfl⟩ := b1.form
 obtain ⟨na2, nc2, rfl⟩ := b2.form
 obtain ⟨pa1, pn1, pc1, rfl⟩ : ∃ a n c, p1 = .slice a n c := by
  obtain ⟨f, f', h, _⟩ := c1
  obtain ⟨a, c, h⟩ := h.form
  exact ⟨a, _, c, h⟩
 obtain ⟨pa2, pn2, pc2, rfl⟩ : ∃ a n c, p2 = .slice a n c := by
  obtain ⟨f, f', h, _⟩ := c2
  obtain ⟨a, c, h⟩ := h.form
  exact ⟨a, _, c, h⟩
 simp only [List.length_map] at *
 obtain ⟨tn, htn⟩ : ∃ tn, tn = g.toks.length := ⟨_, rfl⟩
 obtain ⟨nn, hnn⟩ : ∃ nn, nn = g.nons.length := ⟨_, rfl⟩
 rw [← htn] at a1 a2 ⊢
 rw [← hnn] at b1 b2 ⊢
 obtain ⟨w1, hw1⟩ : ∃ w1 : World, w1 = (W.alloc (.cells #[.slice ta1 tn tc1, .slice na1 nn nc1, .slice pa1 pn1 pc1, .string ⟨g.pro.toArray⟩, .string ⟨g.tail.toArray⟩] 39)).alloc (.cells #[.slice ta2 tn tc2, .slice na2 nn nc2, .slice pa2 pn2 pc2, .string ⟨g.pro.toArray⟩, .string ⟨g.tail.toArray⟩] 39) := ⟨_, rfl⟩
 have hb1 : Below W.heap.size W w1 := by rw [hw1]; exact ((Below.refl _ W).alloc (Nat.le_refl _) _).alloc (by simp) _
 have q1 : w1.heap[W.heap.size]? = some (.cells #[.slice ta1 tn tc1, .slice na1 nn nc1, .slice pa1 pn1 pc1, .string ⟨g.pro.toArray⟩, .string ⟨g.tail.toArray⟩] 39 (0, 0)) := by rw [hw1]; exact heap_old (heap_last W _) _
 have q2 : w1.heap[W.heap.size + 1]? = some (.cells #[.slice ta2 tn tc2, .slice na2 nn nc2, .slice pa2 pn2 pc2, .string ⟨g.pro.toArray⟩, .string ⟨g.tail.toArray⟩] 39 (0, 0)) := by rw [hw1]; exact heap_sec W _ _
 have x0 := cell_at (i := 0) q1; have x1 := cell_at (i := 1) q1; have x2 := cell_at (i := 2) q1; have x3 := cell_at (i := 3) q1; have x4 := cell_at (i := 4) q1
 have y0 := cell_at (i := 0) q2; have y1 := cell_at (i := 1) q2; have y2 := cell_at (i := 2) q2; have y3 := cell_at (i := 3) q2; have y4 := cell_at (i := 4) q2
 have l1 := lt_at q1; have l2 := lt_at q2
 have HT := zh (fun (w' : World) (hb : Below W.heap.size W w') => ref_EqToks (.slice ta1 tn tc1) (.slice ta2 tn tc2) g.toks g.toks w' (a1.below hb) (a2.below hb) ht ht)
 have HN := zh (fun (w' : World) (hb : Below W.heap.size W w') => ref_EqNons (.slice na1 nn nc1) (.slice na2 nn nc2) g.nons g.nons w' (b1.below hb) (b2.below hb) hn hn)
 have HP := zh (fun (w' : World) (hb : Below W.heap.size W w') => ref_EqProds_same (.slice pa1 pn1 pc1) (.slice pa2 pn2 pc2) g.prods w' (c1.below hb) (c2.below hb) hp hr)
 have HB1 := zh hb1
 clear a1 a2 b1 b2 c1 c2 q1 q2 hb1 ht hn hp hr htn hnn
 go_enter Tryz.func18, Tryz.ntmps18
 go_upto_region 1 with fail
 rw [← hw1]
 clear hw1
 go_wp2_with fail
 refine (HT.out _ HB1.out).mono ?_
 rintro e w2 ⟨rfl, k1, rfl⟩
 simp only [decide_true]
 go_wp2_with fail
 refine (HN.out _ (below_drewN HB1.out _)).mono ?_
 rintro e w3 ⟨rfl, k2, rfl⟩
 simp only [decide_true]
 go_wp2_with fail
 refine (HP.out _ (by first | exact below_drewN HB1.out _ | exact below_drewN (below_drewN HB1.out _) _)).mono ?_
 rintro e w4 ⟨rfl, k3, rfl⟩
 go_wp2_with fail
 go_ret
 exact ⟨rfl, by first | exact below_drewN HB1.out _ | exact below_drewN (below_drewN HB1.out _) _ | exact below_drewN (below_drewN (below_drewN HB1.out _) _) _⟩
end Go.Proofs.YtddnomjfcbplpaaGreatDoor
