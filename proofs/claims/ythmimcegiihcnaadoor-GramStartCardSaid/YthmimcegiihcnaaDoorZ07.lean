/- The walk of yuccalaw0.Source: the loop over a rule's symbols. -/
import Derived.Test.YthmimcegiihcnaaDoorZ06
namespace Go.Proofs.YthmimcegiihcnaaDoor
open Go.RowKit

def altsOwnB (B : Nat) (w : World) (v : Value) (r : Sp.Rule) : Prop := OwnR altC 49 6 partsOwn B w v r.alts
abbrev RulesD (B : Nat) := OwnD ruleC 52 3 (altsOwnB B) B
noncomputable def madeBlk (n : Nat) : Code := (Tryd.f13.body.bind (findBlock n)).getD .skip
/-- What a rule's number among the inner ones is, and where it is read. -/
def InnAt (wi : World) (ia : Option Addr) (inn i : Nat) (o : Option Int) : Prop :=
  (o = none ∧ inn ≤ i) ∨ ∃ v bi offi, o = some v ∧ ia = some ⟨bi, offi, none⟩ ∧ i < inn ∧ bi < wi.heap.size ∧ (Lit.int .i64 v).wf = true ∧ ∀ w', Below wi.heap.size wi w' → w'.cell? ⟨bi, offi + i, none⟩ = some (.int .i64 v)

set_option maxRecDepth 100000 in
set_option maxHeartbeats 12800000 in
theorem made_syms (wi : World) (B0 nn i n b off b3 off3 rn cr sc inn icp : Nat) (ia : Option Addr) (rw : List Int) (o : Option Int)
    (u0 u2 u4 u5 u6 u8 u12 u13 u14 u15 u16 u17 u18 u19 u20 u21 u22 u23 u24 u25 u26 u27 u28 u29 u30 u31 u32 u33 u34 u35 u36 u37 u38 u39 u40 u41 u42 u43 u44 u45 u46 u47 u48 u49 u50 u51 u52 u53 u54 u55 u56 u57 u58 u59 u60 u61 u62 u63 u64 u65 u66 u67 u68 u69 u70 u71 u72 u73 u74 u75 u76 u77 u78 u79 u80 u81 u82 u83 u84 u85 u86 u87 u88 u89 u90 u91 u92 u93 u94 u95 u96 u97 u98 u99 u100 u101 u102 u103 u104 u105 u106 u107 u108 u109 u110 u111 u112 u113 u114 u115 u116 u117 u118 u119 u120 u121 u122 u123 u124 u125 u126 u127 u128 u129 u130 u131 u132 u133 u134 u135 u136 u137 u138 u139 u140 u141 u142 u143 u144 u145 u146 u147 u148 u149 u150 u151 u152 u153 u154 u155 u156 u157 u158 u159 u160 u161 u162 u163 u164 u165 u166 u167 u168 u169 u170 u171 u172 u173 u174 u175 u176 u177 u178 u179 u180 u181 u182 u183 u184 u185 u186 u187 u188 u189 u190 u191 u192 u193 u194 u195 u196 u197 u198 u199 u200 u201 u202 u203 u204 u205 u206 u207 u208 u209 u210 u211 u212 u213 u214 u215 u216 : Value) (K : Act → World → Prop) (Q : Exit → Act → World → Prop)
    (hnn : 1 ≤ nn) (hn4 : nn ≤ 4) (hrn : rw.length = rn) (hrn1 : 1 ≤ rn) (hrn63 : rn ≤ 2 ^ 63 - 1) (hwf : ∀ x ∈ rw, (Lit.int .i64 x).wf = true) (hin : i < n) (hn63 : n ≤ 2 ^ 63 - 1) (hinn63 : inn ≤ 2 ^ 63 - 1)
    (hB0 : B0 < wi.heap.size) (hbl : b < wi.heap.size) (hb3l : b3 < wi.heap.size)
    (hks : ∀ w', Below wi.heap.size wi w' → w'.cell? ⟨B0, 1, none⟩ = some (.slice (some ⟨b, off, none⟩) n cr) ∧ w'.cell? ⟨b, off + i, none⟩ = some (.slice (some ⟨b3, off3, none⟩) rn sc) ∧ w'.cell? ⟨B0, 3, none⟩ = some (.slice ia inn icp))
    (hrow : ∀ w', Below wi.heap.size wi w' → ∀ j x, rw[j]? = some x → w'.cell? ⟨b3, off3 + j, none⟩ = some (.int .i64 x))
    (hio : InnAt wi ia inn i o)
    (hQ : ∀ c (t : Array Value) (a : Act) w, Q (.panic c) ⟨t, a.defers⟩ w → Q (.panic c) a w)
    (hK : ∀ (x11 x12 x64 x65 x66 x67 x68 x69 x70 x71 x72 x73 x74 x75 x76 x77 x78 x79 x80 x81 x82 x83 x84 x85 x86 x87 x88 x89 x90 x91 x92 x93 x94 x95 x96 x97 x98 x99 x100 x101 x102 x103 x104 x105 x106 x107 x108 x109 x110 x111 x112 x113 x114 x115 x116 x117 x118 x119 x120 x121 x122 x123 x124 x125 x126 x127 x128 : Value) (wx : World) (v : Value), wx.heap[wi.heap.size]? = some (.cells #[v, .string ⟨#[]⟩, .bool false, .int .i64 0, .int .i64 0, .int .i64 0] 49 (0, 0)) → wx.ownsRow (wi.heap.size + 1) 46 6 v (Sp.partsGo nn (Sp.innMid o) 1 ((rw.take 5).drop 1)).length ((Sp.partsGo nn (Sp.innMid o) 1 ((rw.take 5).drop 1)).map partC).flatten → Below wi.heap.size wi wx → K ⟨#[u0, .pointer (some ⟨B0, 0, none⟩), u2, .int .i64 (nn : Int), u4, u5, u6, .int .i64 (i : Int), u8, .pointer (some ⟨wi.heap.size, 0, none⟩), .bool ((rw.take 5).drop 1 |>.all fun x => Sp.plainSym (Sp.symOf x nn)), x11, x12, u13, u14, u15, u16, u17, u18, u19, u20, u21, u22, u23, u24, u25, u26, u27, u28, u29, u30, u31, u32, u33, u34, u35, u36, u37, u38, u39, u40, u41, u42, u43, u44, u45, u46, u47, u48, u49, u50, u51, u52, u53, u54, u55, u56, u57, u58, u59, u60, u61, u62, u63, x64, x65, x66, x67, x68, x69, x70, x71, x72, x73, x74, x75, x76, x77, x78, x79, x80, x81, x82, x83, x84, x85, x86, x87, x88, x89, x90, x91, x92, x93, x94, x95, x96, x97, x98, x99, x100, x101, x102, x103, x104, x105, x106, x107, x108, x109, x110, x111, x112, x113, x114, x115, x116, x117, x118, x119, x120, x121, x122, x123, x124, x125, x126, x127, x128, u129, u130, u131, u132, u133, u134, u135, u136, u137, u138, u139, u140, u141, u142, u143, u144, u145, u146, u147, u148, u149, u150, u151, u152, u153, u154, u155, u156, u157, u158, u159, u160, u161, u162, u163, u164, u165, u166, u167, u168, u169, u170, u171, u172, u173, u174, u175, u176, u177, u178, u179, u180, u181, u182, u183, u184, u185, u186, u187, u188, u189, u190, u191, u192, u193, u194, u195, u196, u197, u198, u199, u200, u201, u202, u203, u204, u205, u206, u207, u208, u209, u210, u211, u212, u213, u214, u215, u216], []⟩ wx) :
    Code.wp Tryd.prog (madeBlk 4) (Exit.then K Q) ⟨#[u0, .pointer (some ⟨B0, 0, none⟩), u2, .int .i64 (nn : Int), u4, u5, u6, .int .i64 (i : Int), u8, .pointer (some ⟨wi.heap.size, 0, none⟩), .bool true, .int .i64 1, u12, u13, u14, u15, u16, u17, u18, u19, u20, u21, u22, u23, u24, u25, u26, u27, u28, u29, u30, u31, u32, u33, u34, u35, u36, u37, u38, u39, u40, u41, u42, u43, u44, u45, u46, u47, u48, u49, u50, u51, u52, u53, u54, u55, u56, u57, u58, u59, u60, u61, u62, u63, u64, u65, u66, u67, u68, u69, u70, u71, u72, u73, u74, u75, u76, u77, u78, u79, u80, u81, u82, u83, u84, u85, u86, u87, u88, u89, u90, u91, u92, u93, u94, u95, u96, u97, u98, u99, u100, u101, u102, u103, u104, u105, u106, u107, u108, u109, u110, u111, u112, u113, u114, u115, u116, u117, u118, u119, u120, u121, u122, u123, u124, u125, u126, u127, u128, u129, u130, u131, u132, u133, u134, u135, u136, u137, u138, u139, u140, u141, u142, u143, u144, u145, u146, u147, u148, u149, u150, u151, u152, u153, u154, u155, u156, u157, u158, u159, u160, u161, u162, u163, u164, u165, u166, u167, u168, u169, u170, u171, u172, u173, u174, u175, u176, u177, u178, u179, u180, u181, u182, u183, u184, u185, u186, u187, u188, u189, u190, u191, u192, u193, u194, u195, u196, u197, u198, u199, u200, u201, u202, u203, u204, u205, u206, u207, u208, u209, u210, u211, u212, u213, u214, u215, u216], []⟩ (wi.alloc (.cells #[.slice none 0 0, .string ⟨#[]⟩, .bool false, .int .i64 0, .int .i64 0, .int .i64 0] 49)) := by
  obtain ⟨ip0, hip0, hpz0, hpz1, hpz2⟩ := info_parts info_partE
  generalize hPF : Sp.partsGo nn (Sp.innMid o) 1 ((rw.take 5).drop 1) = PF at *
  generalize hFF : ((rw.take 5).drop 1 |>.all fun x => Sp.plainSym (Sp.symOf x nn)) = FF at *
  have HRN := Lib.hid hrn; have HWF := Lib.hid hwf; have HKS := Lib.hid hks; have HROW := Lib.hid hrow; have HIO := Lib.hid hio; have HPF := Lib.hid hPF; have HFF := Lib.hid hFF
  have HKK := Lib.hid hK
  have hM : ∀ a w, Met K a w → K a w := fun _ _ h => h
  clear hrn hwf hks hrow hio hPF hFF hK
  conv => arg 2; whnf
  go_wp2_with fail
  go_loopg [10, 11] 5 (fun gg pv iv wr => ∃ (j : Nat) (pl : Bool) (P : List Sp.Part) (v : Value), 1 ≤ j ∧ j ≤ rn ∧ j ≤ 5 ∧ gg = 6 - j ∧ pv = .bool pl ∧ iv = .int .i64 j ∧ wr.heap[wi.heap.size]? = some (.cells #[v, .string ⟨#[]⟩, .bool false, .int .i64 0, .int .i64 0, .int .i64 0] 49 (0, 0)) ∧ wr.ownsRow (wi.heap.size + 1) 46 6 v P.length (P.map partC).flatten ∧ P ++ Sp.partsGo nn (Sp.innMid o) j ((rw.take 5).drop j) = PF ∧ (pl && ((rw.take 5).drop j).all fun x => Sp.plainSym (Sp.symOf x nn)) = FF ∧ P.length ≤ 2 * j ∧ Below wi.heap.size wi wr)
  case atStart =>
    refine ⟨1, true, [], .slice none 0 0, Nat.le_refl _, hrn1, by omega, rfl, rfl, rfl, heap_last wi _, World.ownsRow_nil _ _ _ _, HPF.out, ?_, by simp, (Below.refl _ wi).alloc (Nat.le_refl _) _⟩
    rw [Bool.true_and]; exact HFF.out
  case round =>
    obtain ⟨j, pl, P, v, hj1, hjr, hj5, rfl, rfl, rfl, hD, ho, hP, hF, hPl, hbel⟩ := hrel
    obtain ⟨va, vc, rfl⟩ := ownsRowS_some ho
    obtain ⟨wq, hwq⟩ : ∃ wq : World, wq = wr := ⟨_, rfl⟩
    subst hwq
    have HD4 := Lib.hid hD; have HOI := Lib.hid ho; have HBI := Lib.hid hbel; have HP := Lib.hid hP; have HF := Lib.hid hF
    obtain ⟨k1, k2, k3⟩ := HKS.out _ hbel
    have e0 := cell_at (i := 0) hD
    have g0 := frozen_at (i := 0) hD
    have hlg := lt_at hD
    have hszq : wi.heap.size ≤ wq.heap.size := hbel.size
    have hi0 : (0 : Int) ≤ (i : Int) := Int.natCast_nonneg _
    have hj0 : (0 : Int) ≤ (j : Int) := Int.natCast_nonneg _
    have hi1 : (i : Int) < (n : Int) := by omega
    have hlB : B0 < wq.heap.size := by omega
    have hlb : b < wq.heap.size := by omega
    have hlb3 : b3 < wq.heap.size := by omega
    clear hD ho hbel hP hF
    by_cases hjn : j < rn ∧ j < 5
    · obtain ⟨hjs, hjN⟩ := hjn
      have hjl : j < rw.length := by have := HRN.out; omega
      have hp := List.getElem?_eq_getElem hjl
      have hdr : (rw.take 5).drop j = rw[j] :: (rw.take 5).drop (j + 1) := by
        rw [List.drop_eq_getElem_cons (by simp; omega)]
        simp
      have hxw := HWF.out rw[j] (List.getElem_mem hjl)
      have hP := HP.out; have hF := HF.out
      rw [hdr] at hP hF
      rw [List.all_cons] at hF
      unfold Sp.partsGo at hP
      generalize rw[j] = x at *
      have a0 := HROW.out _ HBI.out j x hp
      have hsm := fun w => made_sym x nn w hnn hn4 hxw
      generalize Sp.symOf x nn = SY at *
      obtain ⟨sn, sl, su, sa⟩ := SY
      have HSM := Lib.hid (fun w => (show Calls Tryd.prog 37 #[.int .i64 x, .int .i64 (nn : Int)] w (fun e w' => e = .returned (.agg #[.string ⟨sn.toArray⟩, .bool sl, .int .i64 su, .int .i64 sa]) ∧ Below w.heap.size w w') from hsm w))
      have hj1' : (j : Int) < (rn : Int) := by omega
      have HPP := Lib.hid hP; have HFP := Lib.hid hF
      clear hdr hp hsm hP hF HP HF hjl hxw
      go_upto_region 19 with (first | (go_at_call 37; refine (HSM.out _).mono ?_; rintro e w' ⟨rfl, hb'⟩))
      have hlw : wq.heap.size ≤ w'.heap.size := hb'.size
      have HB1 := Lib.hid ((hb'.alloc hlw _ : Below wq.heap.size wq (w'.alloc (.cells #[.string ⟨sn.toArray⟩, .bool sl, .int .i64 su, .int .i64 sa] 40))))
      have hSy := heap_last w' (.cells #[.string ⟨sn.toArray⟩, .bool sl, .int .i64 su, .int .i64 sa] 40)
      have s0 := cell_at (i := 0) hSy; have s1 := cell_at (i := 1) hSy; have s2 := cell_at (i := 2) hSy; have s3 := cell_at (i := 3) hSy
      have hls := lt_at hSy
      obtain ⟨w1, hw1⟩ : ∃ w1, w1 = w'.alloc (.cells #[.string ⟨sn.toArray⟩, .bool sl, .int .i64 su, .int .i64 sa] 40) := ⟨_, rfl⟩
      have HSZ1 : Hid (w1.heap.size = w'.heap.size + 1) := Lib.hid (by rw [hw1]; simp)
      rw [← hw1] at HB1 hSy s0 s1 s2 s3 hls
      rw [← hw1]
      have HSY := Lib.hid hSy
      clear hw1 hb' hSy a0 k2 k3 e0 g0
      go_cut [10] from 64 to 128 (fun v10 wx => v10 = .bool (pl && Sp.plainSym ⟨sn, sl, su, sa⟩) ∧ w1 = wx)
      case first =>
        cases pl with
        | false => go_wp2_with fail; go_meet; exact ⟨rfl, rfl⟩
        | true =>
          cases sl with
          | true => go_wp2_with fail; go_meet; exact ⟨rfl, rfl⟩
          | false =>
            have hpe : (Sp.plainSym ⟨sn, false, su, sa⟩) = (sn == [101, 114, 114, 111, 114]) := rfl
            go_wp2_with fail
            go_meet
            exact ⟨by rw [hpe, Bool.true_and], rfl⟩
      case rest =>
        obtain ⟨rfl, rfl⟩ := hcut
        have hszw : wq.heap.size ≤ w1.heap.size := HB1.out.size
        have hD1 := (HB1.out.block wi.heap.size (by omega)).trans HD4.out
        have e0 := cell_at (i := 0) hD1; have g0 := frozen_at (i := 0) hD1
        have hlg1 := lt_at hD1
        have HD1 := Lib.hid hD1
        clear hD1
        go_upto_region 20 with fail
        go_wp2_with (at_builtin; refine wpList_append_lies _ rfl _ _ _ rfl (wi.heap.size + 1) 46 ip0 _ 6 64 Tryd.underlying47 hip0 hpz0 hpz1 hpz2 rfl (by decide) _ _ _ rfl ((ownsRow_below HOI.out HB1.out).alloc _) ⟨w1.heap.size, 0, none⟩ 1 1 (partC ⟨⟨sn, sl, su, sa⟩, [], 0⟩) rfl rfl ?c1A ?c2A (by decide) ?c3A ?c4A ?c5A _ rfl ?_)
        case c1A => exact World.news_of_block (cs := (partC ⟨⟨sn, sl, su, sa⟩, [], 0⟩).toArray) (t := 46) (fr := (0, 0)) (heap_last w1 _)
        case c2A => simp [Value.oneCell', partC, symC]
        case c3A => unfold maxLen; omega
        case c4A => omega
        case c5A => simp only [World.size_alloc]; omega
        intro gg cap w5 hown1 hgrow hat hlt
        have hB5 := ((HB1.out.mono (by omega : wi.heap.size + 1 ≤ wq.heap.size)).alloc (by omega) _).grown hgrow (by simp only [World.size_alloc]; omega) (fun g' hg' => (HOI.out.lt g' hg').1)
        have hD5 := (hB5.block wi.heap.size (by omega)).trans HD4.out
        have v0 := cell_at (i := 0) hD5; have v1 := frozen_at (i := 0) hD5
        have HD5 := Lib.hid hD5; have HB5 := Lib.hid hB5; have HO5 := Lib.hid hown1
        clear hB5 hD5 hown1 hgrow hat e0 g0 s0 s1 s2 s3
        go_upto_region 21 with fail
        obtain ⟨w6, hw6⟩ : ∃ w6, w6 = w5.setCell ⟨wi.heap.size, 0, none⟩ (.slice (some ⟨gg, 0, none⟩) (P.length + 1) cap) := ⟨_, rfl⟩
        have hD6 : w6.heap[wi.heap.size]? = some (.cells #[.slice (some ⟨gg, 0, none⟩) (P.length + 1) cap, .string ⟨#[]⟩, .bool false, .int .i64 0, .int .i64 0, .int .i64 0] 49 (0, 0)) := by rw [hw6]; exact heap_setCell_at HD5.out
        have ho6 : w6.ownsRow (wi.heap.size + 1) 46 6 (.slice (some ⟨gg, 0, none⟩) (P.length + 1) cap) (P.length + 1) ((P ++ [(⟨⟨sn, sl, su, sa⟩, [], 0⟩ : Sp.Part)]).map partC).flatten := by
          rw [hw6, List.map_append, List.flatten_append]
          have e : (List.map partC [(⟨⟨sn, sl, su, sa⟩, [], 0⟩ : Sp.Part)]).flatten = partC (⟨⟨sn, sl, su, sa⟩, [], 0⟩ : Sp.Part) := by simp
          rw [e]
          exact ownsRow_setCell_ne HO5.out HD5.out (by decide) _
        have hB6 : Below wi.heap.size wi w6 := by
          rw [hw6]
          exact (HBI.out.trans (HB5.out.mono (by omega))).setCell (p := ⟨wi.heap.size, 0, none⟩) (Nat.le_refl _) _
        obtain ⟨k1, k2, k3⟩ := HKS.out _ hB6
        have hsz6 : wi.heap.size ≤ w6.heap.size := hB6.size
        have hB6l : B0 < w6.heap.size := by omega
        rw [← hw6]
        have HD6 := Lib.hid hD6; have HO6 := Lib.hid ho6; have HB6 := Lib.hid hB6
        clear hw6 hD6 ho6 hB6 v0 v1 HD5 HO5 HB5 HB1 HD1 HSZ1
        go_cut [122] from 64 to 128 (fun v122 wx => v122 = .bool (decide (j = 1) && Sp.innMid o) ∧ w6 = wx)
        case first =>
          rcases HIO.out with ⟨rfl, hie⟩ | ⟨v, bi, offi, rfl, rfl, hii, hbi, hvw, hcv⟩
          · have hii : decide (i < inn) = false := by rw [decide_eq_false_iff_not]; omega
            have hii2 : ¬ i < inn := by omega
            go_wp2_with fail
            go_meet
            exact ⟨by simp [Sp.innMid], rfl⟩
          · have cv := hcv _ HB6.out
            have hii1 : (i : Int) < (inn : Int) := by omega
            have hbl6 : bi < w6.heap.size := by omega
            by_cases hj : j = 1
            · subst hj
              have HV : Hid (Sp.innMid (some v) = (v.tmod 3 == 1)) := Lib.hid rfl
              clear HIO
              go_wp2_with fail
              go_meet
              exact ⟨by rw [HV.out]; rfl, rfl⟩
            · have hjd : decide (j = 1) = false := by rw [decide_eq_false_iff_not]; exact hj
              have hjb : (j == 1) = false := by rw [beq_eq_false_iff_ne]; exact hj
              have hji : ¬ (j : Int) = 1 := by omega
              have hjib : ((j : Int) == 1) = false := by rw [beq_eq_false_iff_ne]; exact hji
              clear HIO
              go_wp2_with fail
              go_meet
              exact ⟨by rw [hjd]; rfl, rfl⟩
        case rest =>
          obtain ⟨rfl, rfl⟩ := hcut
          have e0 := cell_at (i := 0) HD6.out; have g0 := frozen_at (i := 0) HD6.out
          have hlg6 := lt_at HD6.out
          cases hcv : (decide (j = 1) && Sp.innMid o) with
          | false =>
            go_wp2_with fail
            go_roundg (6 - (j + 1))
            case measure => omega
            case rel =>
              refine ⟨j + 1, pl && Sp.plainSym ⟨sn, sl, su, sa⟩, P ++ [(⟨⟨sn, sl, su, sa⟩, [], 0⟩ : Sp.Part)], _, by omega, by omega, by omega, rfl, rfl, by go_num, HD6.out, by rw [List.length_append]; exact HO6.out, ?_, ?_, by rw [List.length_append]; simp only [List.length_cons, List.length_nil]; omega, HB6.out⟩
              · have h := HPP.out
                rw [if_neg (by rw [Bool.and_eq_false_iff, decide_eq_false_iff_not] at hcv; rintro ⟨h1, h2⟩; rcases hcv with h3 | h3; exact h3 h1; rw [h2] at h3; cases h3)] at h
                rw [← h]; simp
              · rw [← HFP.out, Bool.and_assoc]
          | true =>
            obtain ⟨hj1e, hinm⟩ := Bool.and_eq_true_iff.1 hcv
            have HJ := Lib.hid (And.intro (of_decide_eq_true hj1e) hinm)
            clear hj1e hinm hcv
            go_upto_region 22 with fail
            go_wp2_with (at_builtin; refine wpList_append_lies _ rfl _ _ _ rfl (wi.heap.size + 1) 46 ip0 _ 6 64 Tryd.underlying47 hip0 hpz0 hpz1 hpz2 rfl (by decide) _ _ _ rfl (HO6.out.alloc _) ⟨w6.heap.size, 0, none⟩ 1 1 (partC ⟨Sp.noSym, Sp.codeIn, 0⟩) rfl rfl ?c1A ?c2A (by decide) ?c3A ?c4A ?c5A _ rfl ?_)
            case c1A => exact World.news_of_block (cs := (partC ⟨Sp.noSym, Sp.codeIn, 0⟩).toArray) (t := 46) (fr := (0, 0)) (heap_last w6 _)
            case c2A => simp [Value.oneCell', partC, symC, Sp.noSym]
            case c3A => unfold maxLen; omega
            case c4A => omega
            case c5A => simp only [World.size_alloc]; omega
            intro gg2 cap2 w7 hown1 hgrow hat hlt
            have hB7 := ((Below.refl (wi.heap.size + 1) w6).alloc (by omega) (.cells (partC ⟨Sp.noSym, Sp.codeIn, 0⟩).toArray 46)).grown hgrow (by simp only [World.size_alloc]; omega) (fun g' hg' => (HO6.out.lt g' hg').1)
            have hD7 := (hB7.block wi.heap.size (by omega)).trans HD6.out
            have v0 := cell_at (i := 0) hD7; have v1 := frozen_at (i := 0) hD7
            have hlg7 := lt_at hD7
            have HD7 := Lib.hid hD7; have HB7 := Lib.hid hB7; have HO7 := Lib.hid hown1
            clear hB7 hD7 hown1 hgrow hat e0 g0 k1 k2 k3
            go_wp2_with fail
            go_roundg (6 - (j + 1))
            case measure => omega
            case rel =>
              refine ⟨j + 1, pl && Sp.plainSym ⟨sn, sl, su, sa⟩, (P ++ [(⟨⟨sn, sl, su, sa⟩, [], 0⟩ : Sp.Part)]) ++ [(⟨Sp.noSym, Sp.codeIn, 0⟩ : Sp.Part)], _, by omega, by omega, by omega, rfl, rfl, by go_num, heap_setCell_at HD7.out, ?_, ?_, ?_, by rw [List.length_append, List.length_append]; simp only [List.length_cons, List.length_nil]; omega, (HB6.out.trans (HB7.out.mono (by omega))).setCell (p := ⟨wi.heap.size, 0, none⟩) (Nat.le_refl _) _⟩
              · have e : (List.map partC [(⟨Sp.noSym, Sp.codeIn, 0⟩ : Sp.Part)]).flatten = partC ⟨Sp.noSym, Sp.codeIn, 0⟩ := by simp
                have hl : ((P ++ [(⟨⟨sn, sl, su, sa⟩, [], 0⟩ : Sp.Part)]) ++ [(⟨Sp.noSym, Sp.codeIn, 0⟩ : Sp.Part)]).length = P.length + 1 + 1 := by simp
                have e2 : (List.map partC [(⟨⟨sn, sl, su, sa⟩, [], 0⟩ : Sp.Part)]).flatten = partC (⟨⟨sn, sl, su, sa⟩, [], 0⟩ : Sp.Part) := by simp
                rw [hl, List.map_append (l₁ := P ++ [(⟨⟨sn, sl, su, sa⟩, [], 0⟩ : Sp.Part)]), List.flatten_append, e, List.map_append (l₁ := P), List.flatten_append, e2, List.append_assoc]
                exact ownsRow_setCell_ne HO7.out HD7.out (by decide) _
              · have h := HPP.out
                rw [if_pos HJ.out] at h
                rw [← h]; simp
              · rw [← HFP.out, Bool.and_assoc]
    · have hfin : (rw.take 5).drop j = [] := by
        rw [List.drop_eq_nil_iff, List.length_take]
        have := HRN.out; omega
      have hP := HP.out; have hF := HF.out
      rw [hfin] at hP hF
      rw [List.all_nil, Bool.and_true] at hF
      rw [show Sp.partsGo nn (Sp.innMid o) j [] = [] from rfl, List.append_nil] at hP
      have HPE := Lib.hid hP; have HFE := Lib.hid hF
      clear hfin hP hF
      by_cases hjs : j < rn
      · have hjN : decide ((j : Int) < 5) = false := by rw [decide_eq_false_iff_not]; omega
        have HJN := Lib.hid hjn
        clear hjn
        go_wp2_with fail
        rw [HFE.out]
        exact (HKK.out _ _ _ _ _ _ _ _ _ _ _ _ _ _ _ _ _ _ _ _ _ _ _ _ _ _ _ _ _ _ _ _ _ _ _ _ _ _ _ _ _ _ _ _ _ _ _ _ _ _ _ _ _ _ _ _ _ _ _ _ _ _ _ _ _ _ _ _ _ HD4.out (by rw [← HPE.out]; exact HOI.out) HBI.out : K _ _)
      · have hjs' : decide (j < rn) = false := by rw [decide_eq_false_iff_not]; exact hjs
        have HJN := Lib.hid hjn
        clear hjn hjs
        go_wp2_with fail
        rw [HFE.out]
        exact (HKK.out _ _ _ _ _ _ _ _ _ _ _ _ _ _ _ _ _ _ _ _ _ _ _ _ _ _ _ _ _ _ _ _ _ _ _ _ _ _ _ _ _ _ _ _ _ _ _ _ _ _ _ _ _ _ _ _ _ _ _ _ _ _ _ _ _ _ _ _ _ HD4.out (by rw [← HPE.out]; exact HOI.out) HBI.out : K _ _)
end Go.Proofs.YthmimcegiihcnaaDoor
