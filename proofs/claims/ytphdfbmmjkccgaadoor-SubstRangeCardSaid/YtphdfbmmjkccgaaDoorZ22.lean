/- yuccaref9.Of walked whole. yuccaref16.Grammar and subst.All. Plain laws of layer 27: the grammars of the laws' own sources, the texts of their actions. No program in sight. -/
import Derived.Test.YtphdfbmmjkccgaaDoorZ20
import Derived.Test.YtphdfbmmjkccgaaDoorZ21
import Derived.Test.YtphdfbmmjkccgaaDoorZ10
import Derived.Test.YtphdfbmmjkccgaaDoorZ18
import Derived.Test.YtphdfbmmjkccgaaDoorZ11
import Derived.KernelRfl
import Derived.Test.YtphdfbmmjkccgaaDoorZ03
namespace Go.Proofs.YtphdfbmmjkccgaaDoor
open Go.RowKit Go.Maps

set_option maxRecDepth 100000 in
set_option maxHeartbeats 12800000 in
theorem ref_Of (x : Sp.Source) (vd vr : Value) (W : World) (hd : DeclsAt W vd x.decls) (hr : RulesAt W vr x.rules) (hs : smallSrc x) (hin : (Sp.rmade x).inner ≤ 60000) :
    Calls Tryd.prog 24 #[.agg (srcC vd vr x).toArray] W (ROfPost W (Sp.refGram x)) := by
  obtain ⟨da, dn, dc, rfl⟩ : ∃ a n c, vd = .slice a n c := by
    obtain ⟨fd, h1, _⟩ := hd
    obtain ⟨a, c, h⟩ := h1.form
    exact ⟨a, _, c, h⟩
  obtain ⟨ra, rn, rc, rfl⟩ : ∃ a n c, vr = .slice a n c := by
    obtain ⟨fd, h1, _⟩ := hr
    obtain ⟨a, c, h⟩ := h1.form
    exact ⟨a, _, c, h⟩
  have HMAY := Lib.hid (fun w (hb : Below W.heap.size W w) => (show Calls Tryd.prog 37 #[.agg #[.string ⟨x.pro.toArray⟩, .slice da dn dc, .slice ra rn rc, .string ⟨x.tail.toArray⟩]] w (fun e w' => e = .returned (.bool (Sp.may x)) ∧ Below w.heap.size w w') from ref7_May x _ _ w (hd.below hb) (hr.below hb) hs))
  have HDE := Lib.hid hd; have HRU := Lib.hid hr; have HSM := Lib.hid hs; have HIN0 := Lib.hid hin
  obtain ⟨w1, hw1⟩ : ∃ w1 : World, w1 = (W.alloc (.cells #[.string ⟨x.pro.toArray⟩, .slice da dn dc, .slice ra rn rc, .string ⟨x.tail.toArray⟩] 29)).alloc (.cells #[.slice none 0 0, .slice none 0 0, .slice none 0 0, .string ⟨#[]⟩, .string ⟨#[]⟩] 58) := ⟨_, rfl⟩
  have hb1 : Below W.heap.size W w1 := by rw [hw1]; exact ((Below.refl _ W).alloc (Nat.le_refl _) _).alloc (by simp) _
  have hx1 : w1.heap[W.heap.size]? = some (.cells #[.string ⟨x.pro.toArray⟩, .slice da dn dc, .slice ra rn rc, .string ⟨x.tail.toArray⟩] 29 (0, 0)) := by rw [hw1]; exact heap_old (heap_last W _) _
  have hg1 : w1.heap[W.heap.size + 1]? = some (.cells #[.slice none 0 0, .slice none 0 0, .slice none 0 0, .string ⟨#[]⟩, .string ⟨#[]⟩] 58 (0, 0)) := by rw [hw1]; exact heap_sec W _ _
  have s0 := cell_at (i := 0) hx1; have s1 := cell_at (i := 1) hx1; have s2 := cell_at (i := 2) hx1; have s3 := cell_at (i := 3) hx1
  have ls := lt_at hx1
  have HB1 := Lib.hid hb1; have HX1 := Lib.hid hx1; have HG1 := Lib.hid hg1
  show Calls _ _ #[.agg #[.string ⟨x.pro.toArray⟩, .slice da dn dc, .slice ra rn rc, .string ⟨x.tail.toArray⟩]] _ _
  clear hd hr hs hin hb1 hx1 hg1
  go_enter Tryd.func24, Tryd.ntmps24
  go_upto_region 1 with fail
  rw [← hw1]
  clear hw1
  go_wp2_with fail
  refine (HMAY.out _ HB1.out).mono ?_
  rintro e w2 ⟨rfl, hb2⟩
  have hx2 := (hb2.block _ (lt_at HX1.out)).trans HX1.out
  have hg2 := (hb2.block _ (lt_at HG1.out)).trans HG1.out
  have HX2 := Lib.hid hx2; have HG2 := Lib.hid hg2; have HB2 := Lib.hid (HB1.out.trans (hb2.mono HB1.out.size))
  clear hb2 hx2 HX1 HG1 HB1 HMAY s0 s1 s2 s3 ls
  cases hm : Sp.may x with
  | false =>
    have b0 := cell_at (i := 0) hg2; have b1 := cell_at (i := 1) hg2; have b2 := cell_at (i := 2) hg2; have b3 := cell_at (i := 3) hg2; have b4 := cell_at (i := 4) hg2
    have fz0 := frozen_at (i := 0) hg2; have fz1 := frozen_at (i := 1) hg2; have fz2 := frozen_at (i := 2) hg2; have fz3 := frozen_at (i := 3) hg2; have fz4 := frozen_at (i := 4) hg2
    have lg := lt_at hg2
    have E : Hid (Sp.refGram x = (Sp.noGram, ⟨1, 0, []⟩)) := Lib.hid (by unfold Sp.refGram; rw [if_pos hm])
    clear hg2 hm
    go_wp2_with fail
    refine ret_cell_tmp3 (g := W.heap.size + 1) (cs := #[.slice none 0 0, .slice none 0 0, .slice none 0 0, .string ⟨#[]⟩, .string ⟨#[]⟩]) (t := 58) (fr := (0, 0)) rfl rfl ?hg rfl Tryd.underlying58 (by kernel_rfl) rfl ?hr
    case hg => exact heap_setCell_at (heap_setCell_at (heap_setCell_at (heap_setCell_at (heap_setCell_at HG2.out))))
    case hr =>
      rw [E.out]
      have hbe : Below W.heap.size w2 (((((w2.setCell ⟨W.heap.size + 1, 0, none⟩ (.slice none 0 0)).setCell ⟨W.heap.size + 1, 1, none⟩ (.slice none 0 0)).setCell ⟨W.heap.size + 1, 2, none⟩ (.slice none 0 0)).setCell ⟨W.heap.size + 1, 3, none⟩ (.string ⟨#[]⟩)).setCell ⟨W.heap.size + 1, 4, none⟩ (.string ⟨#[]⟩)) := (((((Below.refl _ w2).setCell (by simp) _).setCell (by simp) _).setCell (by simp) _).setCell (by simp) _).setCell (by simp) _
      exact ⟨HB2.out.trans hbe, _, rfl, gramOwn_none _⟩
  | true =>
    obtain ⟨hgd, hga, hne⟩ := ref_good hm
    have HGD := Lib.hid hgd; have HGA := Lib.hid hga; have HNE := Lib.hid hne
    clear hgd hga hne hg2
    obtain ⟨ib0, hib0, hbz0, hbz1, hbz2⟩ := info_parts info_boolE
    have hms : (Instr.makeSlice 22 (.int .i64 3) (.int .i64 3)).run Tryd.prog w2 = .ok (.slice (some ⟨w2.heap.size, 0, none⟩) 3 3) (w2.alloc (.cells #[.bool false, .bool false, .bool false] 4)) := by
      have h := run_makeSlice (P := Tryd.prog) (w := w2) 22 4 ib0 (.bool false) Tryd.underlying22 hib0 hbz0 .i64 .i64 3 3 (by omega) (by omega) (by rw [hbz1]; decide) (by rw [hbz2]; decide) (by decide)
      rw [hbz1, show Int.toNat 3 = 3 from rfl, show madeCells (Value.bool false).cells (3 * 1) = #[.bool false, .bool false, .bool false] from by kernel_rfl] at h
      exact h
    go_upto_block 0 with fail
    obtain ⟨w3, hw3⟩ : ∃ w3 : World, w3 = ((w2.alloc (.cells #[.bool false, .bool false, .bool false] 4)).alloc (.cells #[.slice (some ⟨w2.heap.size + 1 + 1, 0, none⟩) 3 3, .slice none 0 0, .slice none 0 0, .string ⟨#[]⟩, .string ⟨#[]⟩, .slice (some ⟨w2.heap.size, 0, none⟩) 3 3, .slice none 0 0, .slice none 0 0, .int .i64 0, .int .i64 0, .string ⟨#[]⟩, .int .i64 0, .int .i64 0] 112)).alloc (.cells #[.string ⟨#[36, 101, 110, 100]⟩, .bool false, .int .i64 0, .int .i64 0, .int .i64 0, .string ⟨#[]⟩, .string ⟨#[101, 114, 114, 111, 114]⟩, .bool false, .int .i64 (-1), .int .i64 0, .int .i64 0, .string ⟨#[]⟩, .string ⟨#[36, 117, 110, 107]⟩, .bool false, .int .i64 (-1), .int .i64 0, .int .i64 0, .string ⟨#[]⟩] 114) := ⟨_, rfl⟩
    rw [← hw3]
    have hb3 : Below w2.heap.size w2 w3 := by rw [hw3]; exact (((Below.refl _ w2).alloc (Nat.le_refl _) _).alloc (by simp) _).alloc (by simp; omega) _
    have hS3 : OfS W (w2.heap.size + 1) x (.slice da dn dc) (.slice ra rn rc) Sp.rk0 ⟨.slice (some ⟨w2.heap.size + 1 + 1, 0, none⟩) 3 3, .slice none 0 0, .slice none 0 0, .slice (some ⟨w2.heap.size, 0, none⟩) 3 3, .slice none 0 0, .slice none 0 0⟩ w3 := by
      have hW2 := HB2.out.size
      have k1 : w3.heap[w2.heap.size]? = some (.cells #[.bool false, .bool false, .bool false] 4 (0, 0)) := by rw [hw3]; exact heap_old (heap_old (heap_last w2 _) _) _
      have k2 : w3.heap[w2.heap.size + 1]? = some (.cells #[.slice (some ⟨w2.heap.size + 1 + 1, 0, none⟩) 3 3, .slice none 0 0, .slice none 0 0, .string ⟨#[]⟩, .string ⟨#[]⟩, .slice (some ⟨w2.heap.size, 0, none⟩) 3 3, .slice none 0 0, .slice none 0 0, .int .i64 0, .int .i64 0, .string ⟨#[]⟩, .int .i64 0, .int .i64 0] 112 (0, 0)) := by rw [hw3]; exact heap_old (heap_sec w2 _ _) _
      have k3 : w3.heap[w2.heap.size + 1 + 1]? = some (.cells #[.string ⟨#[36, 101, 110, 100]⟩, .bool false, .int .i64 0, .int .i64 0, .int .i64 0, .string ⟨#[]⟩, .string ⟨#[101, 114, 114, 111, 114]⟩, .bool false, .int .i64 (-1), .int .i64 0, .int .i64 0, .string ⟨#[]⟩, .string ⟨#[36, 117, 110, 107]⟩, .bool false, .int .i64 (-1), .int .i64 0, .int .i64 0, .string ⟨#[]⟩] 114 (0, 0)) := by rw [hw3]; exact heap_thdR w2 _ _ _
      refine ⟨⟨k2, owns_block (B := W.heap.size) (size := 6) (n := 3) k3 (by omega) rfl (by decide), owns_block (B := W.heap.size) (size := 1) (n := 3) k1 (by omega) rfl (by decide), World.ownsRow_nil _ _ _ _, World.ownsRow_nil _ _ _ _, ⟨fun _ => .slice none 0 0, fun _ => .slice none 0 0, World.ownsRow_nil _ _ _ _, fun i p hp => by cases hp⟩, by omega⟩, (hb3.block _ (lt_at HX2.out)).trans HX2.out, (hb3.block _ (lt_at HG2.out)).trans HG2.out, HB2.out.trans (hb3.mono HB2.out.size)⟩
    obtain ⟨m, hmm⟩ : ∃ m, m = w2.heap.size + 1 := ⟨_, rfl⟩
    rw [← hmm] at hS3 ⊢
    have HS3 := Lib.hid hS3
    have HRB0 : Sp.RB 3 Sp.rk0 := ⟨⟨rfl, Nat.le_refl _⟩, Nat.le_refl _, Nat.zero_le _, Nat.zero_le _, Nat.zero_le _, Nat.zero_le _, Int.le_refl _, by decide⟩
    clear hw3 hb3 hS3 hms hib0 hbz0 hbz1 hbz2 HX2 HG2 hmm
    refine of_decls _ _ _ _ _ _ _ _ _ _ _ _ _ _ _ _ _ _ _ _ _ _ _ _ _ _ _ _ _ _ _ _ _ _ _ _ _ _ _ _ _ _ _ _ _ _ _ _ _ _ _ _ _ _ _ _ _ _ _ _ _ _ _ _ _ _ _ _ _ _ _ _ _ _ _ _ _ _ _ _ _ _ _ _ _ _ _ _ _ _ _ _ _ _ _ _ _ _ _ _ _ _ _ _ _ _ _ _ _ _ _ _ _ _ _ _ _ _ _ _ _ _ _ _ _ _ _ _ _ _ _ _ _ _ _ _ _ _ _ _ _ _ _ _ _ _ _ _ _ _ _ _ _ _ _ _ _ _ _ _ _ _ _ _ _ _ _ _ _ _ _ _ _ _ _ _ _ _ _ _ _ _ _ _ _ _ _ _ _ _ _ _ _ _ _ _ _ _ _ _ _ _ _ _ _ _ _ _ _ _ _ _ _ _ _ _ _ _ _ _ _ _ _ _ _ _ _ _ _ _ _ _ _ _ _ _ _ _ _ _ _ _ _ _ _ _ _ _ _ _ _ _ _ _ _ _ _ _ _ _ _ _ _ _ _ _ _ _ _ _ _ _ _ _ _ _ _ _ _ _ _ _ _ _ _ _ _ _ _ _ _ _ _ _ _ _ _ _ _ _ _ _ _ _ _ _ _ _ _ _ _ _ _ _ _ _ _ _ _ _ _ _ _ _ _ _ _ _ _ _ _ _ _ _ _ _ _ _ _ _ _ _ _ _ _ _ _ _ _ _ _ _ _ _ _ _ _ _ _ _ _ _ _ _ _ _ _ _ _ _ _ _ _ _ _ _ _ _ _ _ _ _ _ _ _ _ _ _ _ _ _ _ _ _ _ _ _ _ _ _ _ _ _ _ _ _ _ _ _ _ _ _ _ _ _ _ _ _ _ _ _ _ _ _ _ _ _ _ _ _ _ _ HS3.out HDE.out HSM.out HGD.out HRB0 (fun _ _ _ _ h => h) ?_
    intro y8 y9 y10 y41 y42 y43 y44 y45 y46 y47 y48 y49 y50 y51 y52 y53 y54 y55 y56 y57 y58 y59 y60 y61 y62 y63 y64 y65 y66 y67 y68 y69 y70 y71 y72 y73 y74 y75 y76 y77 y78 y79 y80 y81 y82 y83 y84 y85 y86 y87 y88 y89 y90 y91 y92 y93 y94 y95 y96 y97 y98 y99 y100 y101 y102 y103 y104 y105 y106 y107 wc r1 v1 st hR1 hS1 hrb1
    dsimp only
    have HS1 := Lib.hid hS1; have HRB1 := Lib.hid hrb1; have HR1 := Lib.hid hR1
    clear hS1 hrb1 hR1 HS3
    go_upto_block 4 with fail
    refine of_lefts _ _ _ _ _ _ _ _ _ _ _ _ _ _ _ _ _ _ _ _ _ _ _ _ _ _ _ _ _ _ _ _ _ _ _ _ _ _ _ _ _ _ _ _ _ _ _ _ _ _ _ _ _ _ _ _ _ _ _ _ _ _ _ _ _ _ _ _ _ _ _ _ _ _ _ _ _ _ _ _ _ _ _ _ _ _ _ _ _ _ _ _ _ _ _ _ _ _ _ _ _ _ _ _ _ _ _ _ _ _ _ _ _ _ _ _ _ _ _ _ _ _ _ _ _ _ _ _ _ _ _ _ _ _ _ _ _ _ _ _ _ _ _ _ _ _ _ _ _ _ _ _ _ _ _ _ _ _ _ _ _ _ _ _ _ _ _ _ _ _ _ _ _ _ _ _ _ _ _ _ _ _ _ _ _ _ _ _ _ _ _ _ _ _ _ _ _ _ _ _ _ _ _ _ _ _ _ _ _ _ _ _ _ _ _ _ _ _ _ _ _ _ _ _ _ _ _ _ _ _ _ _ _ _ _ _ _ _ _ _ _ _ _ _ _ _ _ _ _ _ _ _ _ _ _ _ _ _ _ _ _ _ _ _ _ _ _ _ _ _ _ _ _ _ _ _ _ _ _ _ _ _ _ _ _ _ _ _ _ _ _ _ _ _ _ _ _ _ _ _ _ _ _ _ _ _ _ _ _ _ _ _ _ _ _ _ _ _ _ _ _ _ _ _ _ _ _ _ _ _ _ _ _ _ _ _ _ _ _ _ _ _ _ _ _ _ _ _ _ _ _ _ _ _ _ _ _ _ _ _ _ _ _ _ _ _ _ _ _ _ _ _ _ _ _ _ _ _ _ _ _ _ _ _ _ _ _ _ _ _ _ _ _ _ _ _ _ _ _ _ _ _ _ _ _ _ _ _ _ _ _ _ _ _ _ _ _ _ _ _ _ _ _ _ _ _ _ _ _ _ _ _ _ HS1.out HRU.out HSM.out HRB1.out (fun _ _ _ _ h => h) ?_
    intro y11 y12 y108 y109 y110 y111 y112 y113 y114 y115 y116 y117 y118 y119 y120 y121 y122 y123 y124 y125 y126 y127 y128 y129 y130 y131 y132 y133 y134 y135 y136 y137 y138 y139 y140 y141 y142 y143 y144 y145 y146 y147 wc v2 hS2 hrb2
    dsimp only
    have HS2 := Lib.hid hS2; have HRB2 := Lib.hid hrb2
    clear hS2 hrb2 HS1 HRB1
    go_upto_block 6 with fail
    refine of_names _ _ _ _ _ _ _ _ _ _ _ _ _ _ _ _ _ _ _ _ _ _ _ _ _ _ _ _ _ _ _ _ _ _ _ _ _ _ _ _ _ _ _ _ _ _ _ _ _ _ _ _ _ _ _ _ _ _ _ _ _ _ _ _ _ _ _ _ _ _ _ _ _ _ _ _ _ _ _ _ _ _ _ _ _ _ _ _ _ _ _ _ _ _ _ _ _ _ _ _ _ _ _ _ _ _ _ _ _ _ _ _ _ _ _ _ _ _ _ _ _ _ _ _ _ _ _ _ _ _ _ _ _ _ _ _ _ _ _ _ _ _ _ _ _ _ _ _ _ _ _ _ _ _ _ _ _ _ _ _ _ _ _ _ _ _ _ _ _ _ _ _ _ _ _ _ _ _ _ _ _ _ _ _ _ _ _ _ _ _ _ _ _ _ _ _ _ _ _ _ _ _ _ _ _ _ _ _ _ _ _ _ _ _ _ _ _ _ _ _ _ _ _ _ _ _ _ _ _ _ _ _ _ _ _ _ _ _ _ _ _ _ _ _ _ _ _ _ _ _ _ _ _ _ _ _ _ _ _ _ _ _ _ _ _ _ _ _ _ _ _ _ _ _ _ _ _ _ _ _ _ _ _ _ _ _ _ _ _ _ _ _ _ _ _ _ _ _ _ _ _ _ _ _ _ _ _ _ _ _ _ _ _ _ _ _ _ _ _ _ _ _ _ _ _ _ _ _ _ _ _ _ _ _ _ _ _ _ _ _ _ _ _ _ _ _ _ _ _ _ _ _ _ _ _ _ _ _ _ _ _ _ _ _ _ _ _ _ _ _ _ _ _ _ _ _ _ _ _ _ _ _ _ _ _ _ _ _ _ _ _ _ _ _ _ _ _ _ _ _ _ _ _ _ _ _ _ _ _ _ _ _ _ _ _ _ _ _ _ _ _ _ _ _ _ _ _ _ _ _ _ _ _ HS2.out HDE.out HSM.out HRB2.out (fun _ _ _ _ h => h) ?_
    intro y13 y14 y15 y148 y149 y150 y151 y152 y153 y154 y155 y156 y157 y158 y159 y160 y161 y162 y163 y164 y165 y166 y167 y168 y169 y170 y171 y172 y173 y174 y175 y176 y177 y178 y179 y180 y181 y182 y183 y184 y185 y186 y187 y188 y189 y190 y191 y192 y193 y194 wc v3 hS3 hrb3
    dsimp only
    have HS4 := Lib.hid hS3; have HRB4 := Lib.hid hrb3
    clear hS3 hrb3 HS2 HRB2
    obtain ⟨r3, hr3⟩ : ∃ r3, r3 = Sp.rnames x.decls (Sp.rrules x.rules r1) := ⟨_, rfl⟩
    rw [← hr3] at HS4 HRB4
    have HR3 := Lib.hid hr3
    clear hr3
    obtain ⟨w4, hw4⟩ : ∃ w4 : World, w4 = wc := ⟨_, rfl⟩
    subst hw4
    obtain ⟨SS, hSS⟩ : ∃ SS, SS = startOf x st := ⟨_, rfl⟩
    have HSS := Lib.hid hSS
    clear hSS
    have hx4 := HS4.out.sbox
    have s2 : w4.cell? ⟨W.heap.size, 2, none⟩ = some (.slice ra rn rc) := cell_at (i := 2) hx4
    have ls := lt_at hx4
    clear hx4
    obtain ⟨U, UL, hrl⟩ : ∃ U UL, x.rules = U :: UL := by
      cases h : x.rules with
      | nil => exact absurd h HNE.out
      | cons u l => exact ⟨u, l, rfl⟩
    obtain ⟨bo, oo, c0, lb, hra, hrn⟩ : ∃ bo oo, w4.cell? ⟨bo, oo + 0 * 3, none⟩ = some (.string ⟨U.left.toArray⟩) ∧ bo < w4.heap.size ∧ ra = some ⟨bo, oo, none⟩ ∧ 0 < rn := by
      obtain ⟨fr, h1, _⟩ := HRU.out
      obtain ⟨bo, oo, e, hbo, hco⟩ := h1.at (k := 0) (row := ruleC (fr 0) U) (by rw [List.getElem?_mapIdx, hrl]; rfl)
      have h := hco w4 HS4.out.bel 0 _ rfl
      simp only [Nat.add_zero] at h
      refine ⟨bo, oo, h, by have := HS4.out.bel.size; omega, e, ?_⟩
      obtain ⟨a, c, hv⟩ := h1.form
      simp only [Value.slice.injEq] at hv
      rw [hv.2.1, List.length_mapIdx, hrl]
      simp
    subst hra
    simp only [Nat.zero_mul, Nat.add_zero] at c0
    have hrnI : (0 : Int) < (rn : Int) := by omega
    go_upto_region 37 with fail
    go_upto_if 196 with fail
    go_cut [7] (fun c wx => c = .string ⟨SS.toArray⟩ ∧ w4 = wx)
    case first =>
      by_cases hst : st = []
      · have e : SS = U.left := by rw [HSS.out]; unfold startOf; rw [if_pos hst, hrl]
        subst hst
        go_wp2_with fail
        go_meet
        exact ⟨by rw [e], rfl⟩
      · have e : SS = st := by rw [HSS.out]; unfold startOf; rw [if_neg hst]
        have hse : st.isEmpty = false := by cases st with
          | nil => exact absurd rfl hst
          | cons a l => rfl
        (try rw [hse])
        go_wp2_with fail
        go_meet
        exact ⟨by rw [e], rfl⟩
    case rest =>
      obtain ⟨rfl, rfl⟩ := hcut
      have hlb : -1 ≤ ixI (Sp.rleft r3.lefts SS) ∧ ixI (Sp.rleft r3.lefts SS) ≤ 2 ^ 39 := by
        cases hl : Sp.rleft r3.lefts SS with
        | none => simp [ixI]
        | some k => have := Sp.rleft_lt hl; have := HRB4.out.lefts; simp only [ixI]; omega
      obtain ⟨ll, hll⟩ : ∃ ll, ll = ixI (Sp.rleft r3.lefts SS) := ⟨_, rfl⟩
      rw [← hll] at hlb
      have HLL := Lib.hid hll
      have hwl : IntKind.i64.wrap (1001 + ll) = 1001 + ll := IntWalk.i64_in _ ⟨by omega, by omega⟩
      have hmb := HS4.out.mkr.block
      unfold rkCells at hmb
      have m2 := cell_at (i := 2) hmb
      have f2 := frozen_at (i := 2) hmb
      have lm := lt_at hmb
      clear hmb hll s2 ls c0 lb hrnI hrn
      go_wp2_with fail
      refine (ref_left SS HS4.out.mkr HRB4.out (by omega)).mono ?_
      rintro e w' ⟨rfl, rfl⟩
      rw [← HLL.out]
      go_upto_block 10 with fail
      obtain ⟨wS, hwS⟩ : ∃ wS : World, wS = w4.setCell ⟨m, 2, none⟩ (.slice (some ⟨w4.heap.size + 1, 0, none⟩) 1 1) := ⟨_, rfl⟩
      obtain ⟨w5, hw5⟩ : ∃ w5 : World, w5 = (wS.alloc (.cells #[.int .i64 (1001 + ll)] 3)).alloc (.cells #[.int .i64 0, .slice (some ⟨w4.heap.size, 0, none⟩) 1 1, .int .i64 (-1), .string ⟨#[]⟩, .slice none 0 0, .int .i64 0] 84) := ⟨_, rfl⟩
      rw [← hwS, ← hw5]
      have hsS : wS.heap.size = w4.heap.size := by rw [hwS]; simp [World.setCell]
      obtain ⟨kS, fS⟩ : KpT (fun t => t ≠ 112) w4 wS ∧ RFr W.heap.size w4 wS := by rw [hwS]; exact RefAt.box1 HS4.out.mkr.block HS4.out.mkr.behind 2 _
      have hmS : wS.heap[m]? = some (.cells (rkCells r3 { v3 with pv := .slice (some ⟨w4.heap.size + 1, 0, none⟩) 1 1 }).toArray 112 (0, 0)) := by rw [hwS]; exact heap_setCell_at HS4.out.mkr.block
      have hb5 : Below wS.heap.size wS w5 := by rw [hw5]; exact ((Below.refl _ wS).alloc (Nat.le_refl _) _).alloc (by simp) _
      have hi5 : w5.heap[w4.heap.size]? = some (.cells #[.int .i64 (1001 + ll)] 3 (0, 0)) := by rw [hw5, ← hsS]; exact heap_old (heap_last wS _) _
      have hp5 : w5.heap[w4.heap.size + 1]? = some (.cells #[.int .i64 0, .slice (some ⟨w4.heap.size, 0, none⟩) 1 1, .int .i64 (-1), .string ⟨#[]⟩, .slice none 0 0, .int .i64 0] 84 (0, 0)) := by rw [hw5, ← hsS]; exact heap_sec wS _ _
      have hB4 := HS4.out.bel.size
      have hno : 1000 + 1 + Sp.leftNo r3.lefts SS = 1001 + ll := by rw [leftNo_ixI, ← HLL.out]; omega
      have hpo : ProdsOff W.heap.size w5 (.slice (some ⟨w4.heap.size + 1, 0, none⟩) 1 1) [⟨0, [1000 + 1 + Sp.leftNo r3.lefts SS], -1, [], [], 0⟩] (fun _ => True) := by
        rw [hno]
        refine ⟨fun _ => .slice (some ⟨w4.heap.size, 0, none⟩) 1 1, fun _ => .slice none 0 0, owns_block (size := 6) (n := 1) hp5 (by omega) rfl (by decide), fun i p hp => ?_⟩
        have hp2 := List.mem_of_getElem? hp
        simp at hp2
        subst hp2
        exact ⟨⟨⟨W.heap.size, owns_block (size := 1) (n := 1) hi5 hB4 rfl (by decide)⟩, 0, World.ownsRow_nil _ _ _ _⟩, fun _ _ => trivial, fun _ _ => trivial⟩
      have hS5 : OfS W m x (.slice da dn dc) (.slice (some ⟨bo, oo, none⟩) rn rc) { r3 with prods := [⟨0, [1000 + 1 + Sp.leftNo r3.lefts SS], -1, [], [], 0⟩] } { v3 with pv := .slice (some ⟨w4.heap.size + 1, 0, none⟩) 1 1 } w5 := by
        have h := HS4.out.mkr
        exact ⟨⟨(hb5.block m (lt_at hmS)).trans hmS, ownsRow_below (ownsRow_kpT h.toks kS (by decide)) hb5, ownsRow_below (ownsRow_kpT h.given kS (by decide)) hb5, ownsRow_below (ownsRow_kpT h.types kS (by decide)) hb5, ownsRow_below (ownsRow_kpT h.lefts kS (by decide)) hb5, hpo, h.behind⟩, (hb5.block _ (by rw [hsS]; exact lt_at HS4.out.sbox)).trans (kS _ _ _ _ HS4.out.sbox (by decide)), (hb5.block _ (by rw [hsS]; exact lt_at HS4.out.gbox)).trans (kS _ _ _ _ HS4.out.gbox (by decide)), (HS4.out.bel.trans fS.1).trans (hb5.mono (by rw [hsS]; exact hB4))⟩
      have hab : ABoundR 0 0 { r3 with prods := [⟨0, [1000 + 1 + Sp.leftNo r3.lefts SS], -1, [], [], 0⟩] } := by
        obtain ⟨q0, q1, q2, q3, q4, q5, q6, q7⟩ := HRB4.out
        exact ⟨q0, by simp only; omega, by simp only; omega, by simp only; omega, by simp, by simp only; omega, q6, by simp only; omega⟩
      have hmade : Sp.rmade x = Sp.rrulesAlts x.rules { r3 with prods := [⟨0, [1000 + 1 + Sp.leftNo r3.lefts SS], -1, [], [], 0⟩] } := by
        rw [HSS.out]
        exact rmade_eq x r1 st r3 HR1.out HR3.out
      have HS5 := Lib.hid hS5; have HAB := Lib.hid hab; have HMADE := Lib.hid hmade
      clear hw5 hwS hsS kS fS hmS hb5 hi5 hp5 hno hpo hS5 hab hmade m2 f2 lm hwl
      refine of_alts _ _ _ _ _ _ _ _ _ _ _ _ _ _ _ _ _ _ _ _ _ _ _ _ _ _ _ _ _ _ _ _ _ _ _ _ _ _ _ _ _ _ _ _ _ _ _ _ _ _ _ _ _ _ _ _ _ _ _ _ _ _ _ _ _ _ _ _ _ _ _ _ _ _ _ _ _ _ _ _ _ _ _ _ _ _ _ _ _ _ _ _ _ _ _ _ _ _ _ _ _ _ _ _ _ _ _ _ _ _ _ _ _ _ _ _ _ _ _ _ _ _ _ _ _ _ _ _ _ _ _ _ _ _ _ _ _ _ _ _ _ _ _ _ _ _ _ _ _ _ _ _ _ _ _ _ _ _ _ _ _ _ _ _ _ _ _ _ _ _ _ _ _ _ _ _ _ _ _ _ _ _ _ _ _ _ _ _ _ _ _ _ _ _ _ _ _ _ _ _ _ _ _ _ _ _ _ _ _ _ _ _ _ _ _ _ _ _ _ _ _ _ _ _ _ _ _ _ _ _ _ _ _ _ _ _ _ _ _ _ _ _ _ _ _ _ _ _ _ _ _ _ _ _ _ _ _ _ _ _ _ _ _ _ _ _ _ _ _ _ _ _ _ _ _ _ _ _ _ _ _ _ _ _ _ _ _ _ _ _ _ _ _ _ _ _ _ _ _ _ _ _ _ _ _ _ _ _ _ _ _ _ _ _ _ _ _ _ _ _ _ _ _ _ _ _ _ _ _ _ _ _ _ _ _ _ _ _ _ _ _ _ _ _ _ _ _ _ _ _ _ _ _ _ _ _ _ _ _ _ _ _ _ _ _ _ _ _ _ _ _ _ _ _ _ _ _ _ _ _ _ _ _ _ _ _ _ _ _ _ _ _ _ _ _ _ _ _ _ _ _ _ _ _ _ _ _ _ _ _ _ _ _ _ _ _ _ _ _ _ _ _ _ _ _ _ _ _ _ _ _ _ _ HS5.out HRU.out HSM.out HGA.out HAB.out (fun _ _ _ _ h => h) ?_
      intro y16 y17 y213 y214 y215 y216 y217 y218 y219 y220 y221 y222 y223 y224 y225 y226 y227 y228 y229 y230 y231 y232 y233 y234 y235 y236 y237 y238 y239 y240 y241 y242 y243 y244 y245 y246 y247 wc v6 hS6 hrb6
      dsimp only
      rw [← HMADE.out] at hS6 hrb6
      have HIN : Hid ((Sp.rmade x).inner ≤ 60000) := HIN0
      refine (by assumption : ∀ (a : Act) (w : World), _ → _) _ _ ?_
      by_cases hf0 : (Sp.rmade x).fault.err = 0
      · exact of_good _ _ _ _ _ _ _ _ _ _ _ _ _ _ _ _ _ _ _ _ _ _ _ _ _ _ _ _ _ _ _ _ _ _ _ _ _ _ _ _ _ _ _ _ _ _ _ _ _ _ _ _ _ _ _ _ _ _ _ _ _ _ _ _ _ _ _ _ _ _ _ _ _ _ _ _ _ _ _ _ _ _ _ _ _ _ _ _ _ _ _ _ _ _ _ _ _ _ _ _ _ _ _ _ _ _ _ _ _ _ _ _ _ _ _ _ _ _ _ _ _ _ _ _ _ _ _ _ _ _ _ _ _ _ _ _ _ _ _ _ _ _ _ _ _ _ _ _ _ _ _ _ _ _ _ _ _ _ _ _ _ _ _ _ _ _ _ _ _ _ _ _ _ _ _ _ _ _ _ _ _ _ _ _ _ _ _ _ _ _ _ _ _ _ _ _ _ _ _ _ _ _ _ _ _ _ _ _ _ _ _ _ _ _ _ _ _ _ _ _ _ _ _ _ _ _ _ _ _ _ _ _ _ _ _ _ _ _ _ _ _ _ _ _ _ _ _ _ _ _ _ _ _ _ _ _ _ _ _ _ _ _ _ _ _ _ _ _ _ _ _ _ _ _ _ _ _ _ _ _ _ _ _ _ _ _ _ _ _ _ _ _ _ _ _ _ _ _ _ _ _ _ _ _ _ _ _ _ _ _ _ _ _ _ _ _ _ _ _ _ _ _ _ _ _ _ _ _ _ _ _ _ _ _ _ _ _ _ _ _ _ _ _ _ _ _ _ _ _ _ _ _ _ _ _ _ _ _ _ _ _ _ _ _ _ _ _ _ _ _ _ _ _ _ _ _ _ _ _ _ _ _ _ _ _ _ _ _ _ _ _ _ _ _ _ _ _ _ _ _ _ _ _ _ _ _ _ _ _ _ _ _ _ _ _ _ _ _ _ _ _ _ _ _ _ _ _ _ _ _ _ _ _ hS6 hrb6 rfl hm HIN.out hf0 (fun _ _ _ _ h => h) (fun _ _ h => h)
      · exact of_bad _ _ _ _ _ _ _ _ _ _ _ _ _ _ _ _ _ _ _ _ _ _ _ _ _ _ _ _ _ _ _ _ _ _ _ _ _ _ _ _ _ _ _ _ _ _ _ _ _ _ _ _ _ _ _ _ _ _ _ _ _ _ _ _ _ _ _ _ _ _ _ _ _ _ _ _ _ _ _ _ _ _ _ _ _ _ _ _ _ _ _ _ _ _ _ _ _ _ _ _ _ _ _ _ _ _ _ _ _ _ _ _ _ _ _ _ _ _ _ _ _ _ _ _ _ _ _ _ _ _ _ _ _ _ _ _ _ _ _ _ _ _ _ _ _ _ _ _ _ _ _ _ _ _ _ _ _ _ _ _ _ _ _ _ _ _ _ _ _ _ _ _ _ _ _ _ _ _ _ _ _ _ _ _ _ _ _ _ _ _ _ _ _ _ _ _ _ _ _ _ _ _ _ _ _ _ _ _ _ _ _ _ _ _ _ _ _ _ _ _ _ _ _ _ _ _ _ _ _ _ _ _ _ _ _ _ _ _ _ _ _ _ _ _ _ _ _ _ _ _ _ _ _ _ _ _ _ _ _ _ _ _ _ _ _ _ _ _ _ _ _ _ _ _ _ _ _ _ _ _ _ _ _ _ _ _ _ _ _ _ _ _ _ _ _ _ _ _ _ _ _ _ _ _ _ _ _ _ _ _ _ _ _ _ _ _ _ _ _ _ _ _ _ _ _ _ _ _ _ _ _ _ _ _ _ _ _ _ _ _ _ _ _ _ _ _ _ _ _ _ _ _ _ _ _ _ _ _ _ _ _ _ _ _ _ _ _ _ _ _ _ _ _ _ _ _ _ _ _ _ _ _ _ _ _ _ _ _ _ _ _ _ _ _ _ _ _ _ _ _ _ _ _ _ _ _ _ _ _ _ _ _ _ _ _ _ _ _ _ _ _ _ _ _ _ _ _ _ _ _ _ _ _ hS6 hrb6 rfl hm hf0 (fun _ _ _ _ h => h) (fun _ _ h => h)
end Go.Proofs.YtphdfbmmjkccgaaDoor

namespace Go.Proofs.YtphdfbmmjkccgaaDoor
open Go.RowKit Go.Maps

section
variable {P : Program} {fn : Func} {R : Ending → World → Prop} {a : Act} {W : World} {g p u : Nat} {ty t : TypeId} {cs : Array Value} {fr : Nat × Nat} {d : TypeDesc}
theorem ret_cell_tmp1 (hf : fn.results = #[.cell p ty, .tmp u]) (hp : a.tmps.getD p undef = .pointer (some ⟨g, 0, none⟩)) (hg : W.heap[g]? = some (.cells cs t fr))
    (hd : (match d with | .struct _ | .array _ _ => true | _ => false) = true) (hu : P.underlying ty = some d) (hi : (P.info? ty).map (·.size) = some cs.size)
    (hdef : a.defers = []) (hR : R (.returned (.tuple #[.agg cs, a.tmps.getD u undef])) W) : bodyPost P fn R .ret a W := by
  refine bodyPost_ret ?_ hdef hR
  have hl := run_loadVar_row (P := P) W g t ty cs fr d hg hu (by cases d <;> simp_all) hi
  have hp' : a.tmps[p]?.getD undef = .pointer (some ⟨g, 0, none⟩) := by simpa using hp
  simp [results, hf, hp', asAddr, hl]
end
theorem GramOwn.kp {w w' : World} {v : Value} {g : Sp.Gram} {b0 : Nat} {cs : Array Value} (h : GramOwn w v g) (hb : w.heap[b0]? = some (.cells cs 58 (0, 0))) (k : Kp (fun b => b ≠ b0) w w') : GramOwn w' v g :=
  h.kpT (T := fun t => t ≠ 58) (KpT.of_kp k (fun b cs t fr hb2 ht e => by
    rw [e, hb] at hb2
    simp only [Option.some.injEq, Obj.cells.injEq] at hb2
    exact ht hb2.2.1.symm)) (by decide) (by decide) (by decide) (by decide)
set_option maxRecDepth 100000 in
set_option maxHeartbeats 3200000 in
/-- The grammar of a source, as the document makes it. -/
theorem ref16_Grammar (x : Sp.Source) (vd vr : Value) (W : World) (hd : DeclsAt W vd x.decls) (hr : RulesAt W vr x.rules) (hs : smallSrc x) (hin : (Sp.rmade x).inner ≤ 60000) :
    Calls Tryd.prog 13 #[.agg (srcC vd vr x).toArray] W fun e w' => Below W.heap.size W w' ∧ ∃ gv, e = .returned (.tuple #[gv, .bool (decide ((Sp.refGram x).2.err = 0))]) ∧ GramOwn w' gv (Sp.refGram x).1 := by
  obtain ⟨da, dn, dc, rfl⟩ : ∃ a n c, vd = .slice a n c := by
    obtain ⟨fd, h1, _⟩ := hd
    obtain ⟨a, c, h⟩ := h1.form
    exact ⟨a, _, c, h⟩
  obtain ⟨ra, rn, rc, rfl⟩ : ∃ a n c, vr = .slice a n c := by
    obtain ⟨fd, h1, _⟩ := hr
    obtain ⟨a, c, h⟩ := h1.form
    exact ⟨a, _, c, h⟩
  obtain ⟨GG, hGG⟩ : ∃ GG, GG = Sp.refGram x := ⟨_, rfl⟩
  rw [← hGG]
  have HRF := Lib.hid (fun (w' : World) (hb : Below W.heap.size W w') => (show Calls Tryd.prog 24 #[.agg #[.string ⟨x.pro.toArray⟩, .slice da dn dc, .slice ra rn rc, .string ⟨x.tail.toArray⟩]] w' (ROfPost w' GG) from by
    rw [hGG]
    exact ref_Of x _ _ w' (hd.below hb) (hr.below hb) hs hin))
  show Calls _ _ #[.agg #[.string ⟨x.pro.toArray⟩, .slice da dn dc, .slice ra rn rc, .string ⟨x.tail.toArray⟩]] _ _
  obtain ⟨w1, hw1⟩ : ∃ w1 : World, w1 = (W.alloc (.cells #[.string ⟨x.pro.toArray⟩, .slice da dn dc, .slice ra rn rc, .string ⟨x.tail.toArray⟩] 29)).alloc (.cells #[.slice none 0 0, .slice none 0 0, .slice none 0 0, .string ⟨#[]⟩, .string ⟨#[]⟩] 58) := ⟨_, rfl⟩
  have hb1 : Below W.heap.size W w1 := by rw [hw1]; exact ((Below.refl _ W).alloc (Nat.le_refl _) _).alloc (by simp) _
  have hx1 : w1.heap[W.heap.size]? = some (.cells #[.string ⟨x.pro.toArray⟩, .slice da dn dc, .slice ra rn rc, .string ⟨x.tail.toArray⟩] 29 (0, 0)) := by rw [hw1]; exact heap_old (heap_last W _) _
  have hg1 : w1.heap[W.heap.size + 1]? = some (.cells #[.slice none 0 0, .slice none 0 0, .slice none 0 0, .string ⟨#[]⟩, .string ⟨#[]⟩] 58 (0, 0)) := by rw [hw1]; exact heap_sec W _ _
  have s0 := cell_at (i := 0) hx1; have s1 := cell_at (i := 1) hx1; have s2 := cell_at (i := 2) hx1; have s3 := cell_at (i := 3) hx1
  have ls := lt_at hx1
  have HB1 := Lib.hid hb1; have HG1 := Lib.hid hg1
  clear hd hr hs hin hb1 hx1 hg1 hGG
  obtain ⟨⟨GT, GN, GP, Gp, Gt⟩, ⟨fe, fa, fn⟩⟩ := GG
  go_enter Tryd.func13, Tryd.ntmps13
  go_upto_region 1 with fail
  rw [← hw1]
  clear hw1
  go_wp2_with fail
  refine (HRF.out _ HB1.out).mono ?_
  rintro e w2 ⟨hb2, gv, rfl, hgo⟩
  have hgo2 := hgo
  obtain ⟨B6, ta, tc, na, nc, pa, pc, rfl, _⟩ := hgo
  (try simp only at hgo2)
  obtain ⟨w3, hw3⟩ : ∃ w3 : World, w3 = w2.alloc (.cells #[.slice ta GT.length tc, .slice na GN.length nc, .slice pa GP.length pc, .string ⟨Gp.toArray⟩, .string ⟨Gt.toArray⟩] 58) := ⟨_, rfl⟩
  have hb3 : Below w2.heap.size w2 w3 := by rw [hw3]; exact (Below.refl _ w2).alloc (Nat.le_refl _) _
  have h3 : w3.heap[w2.heap.size]? = some (.cells #[.slice ta GT.length tc, .slice na GN.length nc, .slice pa GP.length pc, .string ⟨Gp.toArray⟩, .string ⟨Gt.toArray⟩] 58 (0, 0)) := by rw [hw3]; exact heap_last w2 _
  have hg3 := (hb3.block _ (by have := lt_at HG1.out; have := hb2.size; omega)).trans ((hb2.block _ (lt_at HG1.out)).trans HG1.out)
  have HGO := Lib.hid (hgo2.below hb3); have HG3 := Lib.hid hg3
  have HB3 := Lib.hid (HB1.out.trans ((hb2.trans (hb3.mono hb2.size)).mono HB1.out.size))
  have g0 := cell_at (i := 0) h3; have g1 := cell_at (i := 1) h3; have g2 := cell_at (i := 2) h3; have g3 := cell_at (i := 3) h3; have g4 := cell_at (i := 4) h3
  have l3 := lt_at h3
  have b0 := cell_at (i := 0) hg3; have b1 := cell_at (i := 1) hg3; have b2 := cell_at (i := 2) hg3; have b3 := cell_at (i := 3) hg3; have b4 := cell_at (i := 4) hg3
  have u0 := frozen_at (i := 0) hg3; have u1 := frozen_at (i := 1) hg3; have u2 := frozen_at (i := 2) hg3; have u3 := frozen_at (i := 3) hg3; have u4 := frozen_at (i := 4) hg3
  have lg := lt_at hg3
  clear hb2 hgo2 hb3 h3 hg3 HRF s0 s1 s2 s3 ls
  go_upto_region 2 with fail
  rw [← hw3]
  clear hw3
  go_wp2_with fail
  refine ret_cell_tmp1 (g := W.heap.size + 1) (cs := #[.slice ta GT.length tc, .slice na GN.length nc, .slice pa GP.length pc, .string ⟨Gp.toArray⟩, .string ⟨Gt.toArray⟩]) (t := 58) (fr := (0, 0)) rfl rfl ?hg rfl Tryd.underlying58 (by kernel_rfl) rfl ?hr
  case hg => exact heap_setCell_at (heap_setCell_at (heap_setCell_at (heap_setCell_at (heap_setCell_at HG3.out))))
  case hr =>
    have hk : Kp (fun b => b ≠ W.heap.size + 1) w3 (((((w3.setCell ⟨W.heap.size + 1, 0, none⟩ (.slice ta GT.length tc)).setCell ⟨W.heap.size + 1, 1, none⟩ (.slice na GN.length nc)).setCell ⟨W.heap.size + 1, 2, none⟩ (.slice pa GP.length pc)).setCell ⟨W.heap.size + 1, 3, none⟩ (.string ⟨Gp.toArray⟩)).setCell ⟨W.heap.size + 1, 4, none⟩ (.string ⟨Gt.toArray⟩)) := (((((Kp.refl _ w3).setCell (p := ⟨W.heap.size + 1, 0, none⟩) (by simp) _).setCell (p := ⟨W.heap.size + 1, 1, none⟩) (by simp) _).setCell (p := ⟨W.heap.size + 1, 2, none⟩) (by simp) _).setCell (p := ⟨W.heap.size + 1, 3, none⟩) (by simp) _).setCell (p := ⟨W.heap.size + 1, 4, none⟩) (by simp) _
    refine ⟨HB3.out.trans (Kp.below hk HB3.out.size (fun b hb => by omega)), _, ?_, HGO.out.kp HG3.out hk⟩
    by_cases hfe : fe = 0
    · subst hfe; rfl
    · rw [decide_eq_false hfe, show ((fe : Int) == 0) = false from by rw [beq_eq_false_iff_ne]; exact hfe] <;> first | rfl | done
set_option maxRecDepth 100000 in
set_option maxHeartbeats 6400000 in
theorem subst_All (g : Sp.Gram) (gv : Value) (W : World) (hg : GramAt W gv g) (hgl : Gl W) (hl1 : g.toks.length ≤ 2 ^ 40) (hl2 : g.nons.length ≤ 2 ^ 40) (hl3 : g.prods.length ≤ 2 ^ 20) (hT : Sp.GoodTg g) (hpr : ∀ x ∈ g.prods, Sp.GoodPr g x) :
    Calls Tryd.prog 15 #[gv] W fun e w' => Below W.heap.size W w' ∧ ∃ lv, e = .returned (.tuple #[lv, faultV (Sp.subAll g).2]) ∧ w'.ownsRow W.heap.size 9 1 lv (Sp.subAll g).1.length ((Sp.subAll g).1.map strV) := by
  obtain ⟨i0, hi0, hz0, hz1, hz2⟩ := info_parts info_str
  have hg0 := hg
  obtain ⟨tv, nv, pv, rfl, ht, hn, hp⟩ := hg
  obtain ⟨ta, tc, htv⟩ := ht.form
  obtain ⟨na, nc, hnv⟩ := hn.form
  obtain ⟨f, f', hp1, _⟩ := hp
  obtain ⟨pa, pc, hpv⟩ := hp1.form
  subst htv hnv hpv
  rw [List.length_map, List.length_map, List.length_mapIdx] at hg0 ⊢
  clear ht hn hp1
  obtain ⟨nt, hnt⟩ : ∃ nt, nt = g.toks.length := ⟨_, rfl⟩
  obtain ⟨nn, hnn⟩ : ∃ nn, nn = g.nons.length := ⟨_, rfl⟩
  obtain ⟨np, hnp⟩ : ∃ np, np = g.prods.length := ⟨_, rfl⟩
  obtain ⟨pro, hpro⟩ : ∃ q, q = g.pro := ⟨_, rfl⟩
  obtain ⟨tl, htl⟩ : ∃ q, q = g.tail := ⟨_, rfl⟩
  have HBO := Lib.hid (fun (w' : World) (hb : Below W.heap.size W w') (k : Nat) (hk : k ≤ 2 ^ 20) => subst_Body g _ (k : Int) w' (hg0.below hb) (hgl.below hb) ⟨by omega, by omega⟩ hl1 hl2 (by omega) hT hpr)
  rw [← hnt, ← hnn, ← hnp, ← hpro, ← htl] at HBO ⊢
  rw [← hnp] at hl3
  have HNP := Lib.hid hnp
  obtain ⟨R, hR⟩ : ∃ R, R = Sp.subAll g := ⟨_, rfl⟩
  rw [← hR]
  have HRR := Lib.hid hR
  clear hg0 hgl hT hpr hnt hnn hnp hpro htl hR hl1 hl2
  obtain ⟨w0, hw0⟩ : ∃ w0 : World, w0 = (W.alloc (.cells #[.slice ta nt tc, .slice na nn nc, .slice pa np pc, .string ⟨pro.toArray⟩, .string ⟨tl.toArray⟩] 58)).alloc (.cells #[.int .i64 0, .int .i64 0, .string ⟨#[]⟩] 32) := ⟨_, rfl⟩
  have hb0 : Below W.heap.size W w0 := by rw [hw0]; exact ((Below.refl _ W).alloc (Nat.le_refl _) _).alloc (by simp) _
  have hgA : w0.heap[W.heap.size]? = some (.cells #[.slice ta nt tc, .slice na nn nc, .slice pa np pc, .string ⟨pro.toArray⟩, .string ⟨tl.toArray⟩] 58 (0, 0)) := by rw [hw0]; exact heap_old (heap_last W _) _
  have hfA : w0.heap[W.heap.size + 1]? = some (.cells #[.int .i64 0, .int .i64 0, .string ⟨#[]⟩] 32 (0, 0)) := by rw [hw0]; exact heap_sec W _ _
  have hs0 : w0.heap.size = W.heap.size + 2 := by rw [hw0]; simp
  have HB0 := Lib.hid hb0; have HGA := Lib.hid hgA; have HFA := Lib.hid hfA; have HS0 := Lib.hid hs0
  have g2 := cell_at (i := 2) hgA
  have lg := lt_at hgA
  clear hb0 hgA hfA hs0
  go_enter Tryd.func15, Tryd.ntmps15
  go_upto_region 1 with fail
  rw [← hw0]
  clear hw0
  go_wp2_with fail
  go_loopg [4, 11] np (fun q lv iv wr => ∃ (k : Nat) (acc : List (List UInt8)), k ≤ np ∧ q = np - k ∧ iv = .int .i64 (k : Int) ∧ acc.length = k ∧ wr.ownsRow (W.heap.size + 2) 9 1 lv acc.length (acc.map strV) ∧ Below (W.heap.size + 2) w0 wr ∧ Sp.subAllGo g (g.prods.drop k) acc = R)
  case atStart => exact ⟨0, [], Nat.zero_le _, rfl, rfl, rfl, World.ownsRow_nil _ _ _ _, Below.refl _ _, HRR.out.symm⟩
  case round =>
    clear g2 lg
    obtain ⟨k, acc, hk, rfl, rfl, hal, hrow, hbr, hRk⟩ := hrel
    obtain ⟨wo, hwo⟩ : ∃ wo : World, wo = wr := ⟨_, rfl⟩
    subst hwo
    have hko : (0 : Int) ≤ (k : Int) := Int.natCast_nonneg _
    have hbw : Below W.heap.size W wo := HB0.out.trans (hbr.mono (by omega))
    have hga := (hbr.block _ (by omega)).trans HGA.out
    have hfa := (hbr.block _ (by omega)).trans HFA.out
    have g0 := cell_at (i := 0) hga; have g1 := cell_at (i := 1) hga; have g2 := cell_at (i := 2) hga; have g3 := cell_at (i := 3) hga; have g4 := cell_at (i := 4) hga
    have lg := lt_at hga
    have HROW := Lib.hid hrow; have HBR := Lib.hid hbr; have HRK := Lib.hid hRk; have HBW := Lib.hid hbw; have HAL := Lib.hid hal; have HFW := Lib.hid hfa
    have hszo : W.heap.size + 2 ≤ wo.heap.size := by have := hbr.size; have := HS0.out; omega
    clear hrow hbr hRk hbw hga hfa hal
    by_cases hkn : k < np
    · have hki : (k : Int) < (np : Int) := by omega
      have hkl : k < g.prods.length := by have := HNP.out; omega
      obtain ⟨x, hx⟩ : ∃ x, g.prods[k]? = some x := ⟨_, List.getElem?_eq_getElem hkl⟩
      have hdr : g.prods.drop k = x :: g.prods.drop (k + 1) := by
        rw [List.drop_eq_getElem_cons hkl]
        rw [List.getElem?_eq_getElem hkl] at hx
        rw [Option.some.inj hx]
      have hsb : Sp.subBody g (k : Int) = Sp.subProd g x := by
        unfold Sp.subBody
        rw [if_neg (by omega), show (k : Int).toNat = k by omega]
        simp only [hx]
      have hRk := HRK.out
      rw [hdr] at hRk
      unfold Sp.subAllGo at hRk
      have HB := Lib.hid (HBO.out wo HBW.out k (by omega))
      rw [hsb] at HB
      obtain ⟨⟨bt, ⟨fe, fa, fnm⟩⟩, hsp⟩ : ∃ q, q = Sp.subProd g x := ⟨_, rfl⟩
      rw [← hsp] at hRk HB
      (try simp only at hRk)
      have HRK2 := Lib.hid hRk
      clear hRk HRK hsb hdr hx hkl hsp
      go_wp2_with fail
      refine HB.out.mono ?_
      rintro e w2 ⟨rfl, hb2⟩
      rw [show faultV (⟨fe, fa, fnm⟩ : Sp.Fault) = .agg #[.int .i64 fe, .int .i64 fa, .string ⟨fnm.toArray⟩] from rfl]
      obtain ⟨w3, hw3⟩ : ∃ w3 : World, w3 = w2.alloc (.cells #[.int .i64 fe, .int .i64 fa, .string ⟨fnm.toArray⟩] 32) := ⟨_, rfl⟩
      have hb3 : Below wo.heap.size wo w3 := by rw [hw3]; exact hb2.alloc hb2.size _
      have h3 : w3.heap[w2.heap.size]? = some (.cells #[.int .i64 fe, .int .i64 fa, .string ⟨fnm.toArray⟩] 32 (0, 0)) := by rw [hw3]; exact heap_last w2 _
      have HROW3 := Lib.hid (ownsRow_below HROW.out hb3); have HBR3 := Lib.hid (HBR.out.trans (hb3.mono hszo)); have HBW3 := Lib.hid (HBW.out.trans (hb3.mono HBW.out.size))
      have HF3 := Lib.hid ((hb3.block _ (lt_at HFW.out)).trans HFW.out)
      have hs3 : W.heap.size + 2 ≤ w3.heap.size := by have := hb3.size; omega
      have f0 := cell_at (i := 0) h3; have f1 := cell_at (i := 1) h3; have f2 := cell_at (i := 2) h3
      have lf := lt_at h3
      have H3 := Lib.hid h3
      clear hb2 hb3 h3 g0 g1 g2 g3 g4 lg HB
      go_upto_region 6 with fail
      rw [← hw3]
      clear hw3
      by_cases hfe : fe = 0
      · subst hfe
        have hRk := HRK2.out
        rw [if_neg (by simp)] at hRk
        have HRK3 := Lib.hid hRk
        have hacl : acc.length ≤ 2 ^ 20 := by have := HAL.out; omega
        clear hRk HRK2
        go_wp2_with (at_builtin; refine wpList_append_own _ rfl _ _ 47 rfl (W.heap.size + 2) 9 i0 _ 1 16 Tryd.underlying47 hi0 hz0 hz1 hz2 rfl (by decide) _ _ _ rfl (HROW3.out.alloc _) ⟨w3.heap.size, 0, none⟩ 1 1 [.string ⟨bt.toArray⟩] rfl rfl (new_cells _ _ _) (by simp [Value.oneCell']) (by unfold maxLen; omega) (by omega) (by simp; omega) ?_; intro v5 w5 ho5 hg5 _; have HO5 := Lib.hid ho5; have HG5 := Lib.hid hg5; clear ho5 hg5)
        have hk5 : Kp (fun b => b < W.heap.size + 2) w3 w5 := ((Kp.refl _ w3).alloc _).grown HG5.out (fun c hc hs => by have := (HROW3.out.lt c hc).1; omega)
        have HB5 := Lib.hid (HBR3.out.trans (Kp.below hk5 hs3 (fun b hb => hb)))
        clear hk5 HG5
        go_roundg (np - (k + 1))
        case measure => omega
        case rel =>
          refine ⟨k + 1, acc ++ [bt], by omega, rfl, by go_num, by rw [List.length_append, HAL.out]; rfl, ?_, HB5.out, HRK3.out⟩
          have h := HO5.out
          simpa [strV] using h
      · have hfb : (fe != 0) = true := by rw [bne_iff_ne]; exact hfe
        have hRk := HRK2.out
        rw [if_pos hfe] at hRk
        have HRK3 := Lib.hid hRk
        have e0 := cell_at (i := 0) HF3.out; have e1 := cell_at (i := 1) HF3.out; have e2 := cell_at (i := 2) HF3.out
        have z0 := frozen_at (i := 0) HF3.out; have z1 := frozen_at (i := 1) HF3.out; have z2 := frozen_at (i := 2) HF3.out
        have lfa := lt_at HF3.out
        clear hRk HRK2
        have HS7 := Lib.hid (fun (w' : World) (hb : Below w3.heap.size w3 w') => (show ((w'.cell? ⟨w2.heap.size, 0, none⟩ = some (.int .i64 fe) ∧ w'.cell? ⟨w2.heap.size, 1, none⟩ = some (.int .i64 fa) ∧ w'.cell? ⟨w2.heap.size, 2, none⟩ = some (.string ⟨fnm.toArray⟩)) ∧ w2.heap.size < w'.heap.size) from by
          have h := (hb.block _ (lt_at H3.out)).trans H3.out
          exact ⟨⟨cell_at (i := 0) h, cell_at (i := 1) h, cell_at (i := 2) h⟩, lt_at h⟩))
        go_upto_region 7 with fail
        refine wp_region_plan (fun w' : World => ((w'.cell? ⟨w2.heap.size, 0, none⟩ = some (.int .i64 fe) ∧ w'.cell? ⟨w2.heap.size, 1, none⟩ = some (.int .i64 fa) ∧ w'.cell? ⟨w2.heap.size, 2, none⟩ = some (.string ⟨fnm.toArray⟩)) ∧ w2.heap.size < w'.heap.size)) [2] (.take 0 (.take 1 (.one 2 (.done)))) (by kernel_rfl) (by kernel_rfl) (fun _ _ _ _ h => h) ?_
        have hSw := HS7.out _ (below_drewN (Below.refl _ w3) 1)
        refine wpPlan_takeD (v := ?va1) rfl rfl hSw (by rfl) ?ya1 ?_
        case ya1 => (intro w hSx; (try dsimp only at hSx); go_simp; first | done | with_reducible rfl | rfl)
        (try simp only [Act.put, List.setIfInBounds_toArray, List.set_cons_zero, List.set_cons_succ])
        refine wpPlan_takeD (v := ?va2) rfl rfl hSw (by rfl) ?ya2 ?_
        case ya2 => (intro w hSx; (try dsimp only at hSx); go_simp; first | done | with_reducible rfl | rfl)
        (try simp only [Act.put, List.setIfInBounds_toArray, List.set_cons_zero, List.set_cons_succ])
        refine wpPlan_run rfl (by rfl) (fun K' hK => ?_)
        go_simp
        refine hK _ _ (.inl rfl) ?_
        clear hK K' hSw
        (try simp only [Act.put, List.setIfInBounds_toArray, List.set_cons_zero, List.set_cons_succ])
        refine wpPlan_done ?_
        go_wp2_with fail
        refine ret_tmp_cell (g := W.heap.size + 1) rfl rfl (heap_setCell_at (heap_setCell_at (heap_setCell_at HF3.out))) rfl Tryd.underlying32 (by kernel_rfl) rfl ?_
        rw [← HRK3.out]
        exact ⟨below_drewN (HBW3.out.trans ((((Below.refl _ w3).setCell (by simp) _).setCell (by simp) _).setCell (by simp) _)) 1, _, rfl, World.ownsRow_nil _ _ _ _⟩
    · obtain rfl : k = np := by omega
      have hke : g.prods.drop k = [] := List.drop_of_length_le (by have := HNP.out; omega)
      have hR := HRK.out
      rw [hke] at hR
      have hRe : R = (acc, ⟨0, 0, []⟩) := hR.symm
      have HRE := Lib.hid hRe
      have e0 := cell_at (i := 0) HFW.out; have e1 := cell_at (i := 1) HFW.out; have e2 := cell_at (i := 2) HFW.out
      have z0 := frozen_at (i := 0) HFW.out; have z1 := frozen_at (i := 1) HFW.out; have z2 := frozen_at (i := 2) HFW.out
      have lfa := lt_at HFW.out
      clear hR hke hRe HRK g0 g1 g2 g3 g4 lg
      go_wp2_with fail
      refine ret_tmp_cell (g := W.heap.size + 1) rfl rfl (heap_setCell_at (heap_setCell_at (heap_setCell_at HFW.out))) rfl Tryd.underlying32 (by kernel_rfl) rfl ?_
      rw [HRE.out]
      have hk : KpT (fun t => t ≠ 32) wo (((wo.setCell ⟨W.heap.size + 1, 0, none⟩ (.int .i64 0)).setCell ⟨W.heap.size + 1, 1, none⟩ (.int .i64 0)).setCell ⟨W.heap.size + 1, 2, none⟩ (.string ⟨#[]⟩)) := KpT.setCell (KpT.setCell (KpT.setCell (fun _ _ _ _ h _ => h) HFW.out (by simp) _) (heap_setCell_at HFW.out) (by simp) _) (heap_setCell_at (heap_setCell_at HFW.out)) (by simp) _
      exact ⟨HBW.out.trans ((((Below.refl _ wo).setCell (by simp) _).setCell (by simp) _).setCell (by simp) _), _, rfl, ownsRow_kpT (ownsRow_mono HROW.out (by omega)) hk (by decide)⟩
end Go.Proofs.YtphdfbmmjkccgaaDoor

namespace Go.Proofs.YtphdfbmmjkccgaaDoor
namespace Sp

def symX : Sym := ⟨[120], true, 0, 0⟩
def noSymO : Sym := ⟨[], false, 0, 0⟩
def codePart (code : List UInt8) (at_ : Int) : Part := ⟨noSymO, code, at_⟩
def symPart (s : Sym) : Part := ⟨s, [], 0⟩
/-- The source of the law's own 'one'. -/
def oneSrc (code : List UInt8) (tags : Bool) : Source :=
  ⟨[], if tags = true then [⟨1, [118], [symX], 0⟩, ⟨5, [119], [⟨[98], false, 0, 0⟩], 0⟩, ⟨5, [117], [⟨[97], false, 0, 0⟩], 0⟩] else [],
   [⟨[97], [⟨[symPart symX, symPart ⟨[98], false, 0, 0⟩, symPart symX, codePart code 70], noSymO, 0⟩], 0⟩, ⟨[98], [⟨[], noSymO, 0⟩], 0⟩], []⟩
def tgO (b : Bool) (c : UInt8) : List UInt8 := if b = true then [c] else []
/-- Its grammar. -/
def oneGram (code : List UInt8) (tags : Bool) : Gram :=
  ⟨[⟨[36, 101, 110, 100], false, 0, 0, 0, []⟩, ⟨[101, 114, 114, 111, 114], false, -1, 0, 0, []⟩, ⟨[36, 117, 110, 107], false, -1, 0, 0, []⟩, ⟨[120], true, 120, 0, 0, tgO tags 118⟩],
   [⟨[36, 97, 99, 99, 101, 112, 116], []⟩, ⟨[97], tgO tags 117⟩, ⟨[98], tgO tags 119⟩],
   [⟨0, [1001], -1, [], [], 0⟩, ⟨1, [3, 1002, 3], 3, code, [3, 1002, 3], 70⟩, ⟨2, [], -1, [], [], 0⟩], [], []⟩
theorem one_may (l : List UInt8) (tags : Bool) (h : endAt (123 :: l) 0 = ((123 :: l).length : Int)) : may (oneSrc (123 :: l) tags) = true := by
  have h2 : mayPart (codePart (123 :: l) 70) = true := by
    unfold mayPart codePart
    rw [if_neg (by simp)]
    rw [Bool.and_eq_true]
    exact ⟨by rfl, by simpa using h⟩
  have h3 : mayRule ⟨[97], [⟨[symPart symX, symPart ⟨[98], false, 0, 0⟩, symPart symX, codePart (123 :: l) 70], noSymO, 0⟩], 0⟩ = true := by
    unfold mayRule mayAlt
    simp only [List.all_cons, List.all_nil, h2]
    rfl
  unfold may oneSrc
  simp only [List.all_cons, List.all_nil, h3]
  cases tags <;> rfl
theorem one_gram (l : List UInt8) (tags : Bool) (h : endAt (123 :: l) 0 = ((123 :: l).length : Int)) : refGram (oneSrc (123 :: l) tags) = (oneGram (123 :: l) tags, okFault) := by
  rw [refGram_fine (one_may l tags h) (by cases tags <;> kernel_rfl) (by cases tags <;> kernel_rfl)]
  cases tags <;> kernel_rfl
theorem one_inner (l : List UInt8) (tags : Bool) : (rmade (oneSrc (123 :: l) tags)).inner ≤ 60000 := by
  have : (rmade (oneSrc (123 :: l) tags)).inner = 0 := by cases tags <;> kernel_rfl
  omega
theorem one_good (code : List UInt8) (tags : Bool) (hc : code.length ≤ 4000) : GoodTg (oneGram code tags) ∧ ∀ x ∈ (oneGram code tags).prods, GoodPr (oneGram code tags) x := by
  refine ⟨⟨?_, ?_⟩, ?_⟩
  · intro t ht
    simp only [oneGram, List.mem_cons, List.not_mem_nil, or_false] at ht
    rcases ht with rfl | rfl | rfl | rfl <;> cases tags <;> simp [tgO]
  · intro t ht
    simp only [oneGram, List.mem_cons, List.not_mem_nil, or_false] at ht
    rcases ht with rfl | rfl | rfl <;> cases tags <;> simp [tgO]
  · intro x hx
    simp only [oneGram, List.mem_cons, List.not_mem_nil, or_false] at hx
    rcases hx with rfl | rfl | rfl
    · exact ⟨⟨by decide, by simp [oneGram]⟩, by simp, by simp, by simp⟩
    · refine ⟨⟨by simp, by simp [oneGram]⟩, ?_, hc, by simp⟩
      intro a ha
      simp only [List.mem_cons, List.not_mem_nil, or_false] at ha
      rcases ha with rfl | rfl | rfl <;> exact ⟨by decide, by simp [oneGram], by simp [oneGram]⟩
    · exact ⟨⟨by decide, by simp [oneGram]⟩, by simp, by simp, by simp⟩

/-! ### The wakes -/
def wakeC : List UInt8 := [36, 36, 32, 61, 32, 36, 49, 32, 43, 32, 36, 60, 110, 62, 50, 125]
def wakeT : List UInt8 := [123, 121, 121, 86, 65, 76, 46, 117, 32, 61, 32, 121, 121, 68, 111, 108, 108, 97, 114, 91, 49, 93, 46, 118, 32, 43, 32, 121, 121, 68, 111, 108, 108, 97, 114, 91, 50, 93, 46, 110, 125]
theorem wake_end : endAt (123 :: wakeC) 0 = ((123 :: wakeC).length : Int) := by kernel_rfl
theorem wake_end4 : endAt [123, 36, 52, 125] 0 = (([123, 36, 52, 125] : List UInt8).length : Int) := by kernel_rfl
theorem wake_body : subBody (oneGram (123 :: wakeC) true) 1 = (wakeT, ⟨0, 0, []⟩) := by kernel_rfl
theorem wake_body4 : subBody (oneGram [123, 36, 52, 125] false) 1 = ([], ⟨6, 70, [36, 52]⟩) := by kernel_rfl
theorem wake_all : subAll (oneGram (123 :: wakeC) true) = ([[], wakeT, []], ⟨0, 0, []⟩) := by kernel_rfl

/-! ### SubstFar -/
end Sp
end Go.Proofs.YtphdfbmmjkccgaaDoor
