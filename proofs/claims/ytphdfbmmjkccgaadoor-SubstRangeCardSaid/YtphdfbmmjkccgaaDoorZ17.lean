/- yuccaref9.Of: its passes over the Lefts and over the names of declarations. -/
import Derived.Test.YtphdfbmmjkccgaaDoorZ16
namespace Go.Proofs.YtphdfbmmjkccgaaDoor
open Go.RowKit Go.Maps

theorem info_strR : (Tryd.prog.info? 9).map (fun i => (i.zero, i.size, i.bytes)) = some (some (.string ⟨#[]⟩), 1, 16) := by kernel_rfl
theorem Sp.rrules_cons (u : Sp.Rule) (l : List Sp.Rule) (r : Sp.Rk) : Sp.rrules (u :: l) r = Sp.rrules l (Sp.rrule r u) := rfl
theorem Sp.rnames_cons (d : Sp.Decl) (l : List Sp.Decl) (r : Sp.Rk) : Sp.rnames (d :: l) r = Sp.rnames l (Sp.rnamesSyms d.kind d.syms r) := rfl
theorem Sp.rnamesSyms_cons (k : Int) (s : Sp.Sym) (l : List Sp.Sym) (r : Sp.Rk) : Sp.rnamesSyms k (s :: l) r = Sp.rnamesSyms k l (Sp.rnameSym k r s) := rfl
set_option maxRecDepth 100000 in
set_option maxHeartbeats 12800000 in
theorem of_lefts {W wm : World} {m : Nat} {x : Sp.Source} {vd vr : Value} {r0 : Sp.Rk} {v0 : RkV}
    (u0 u3 u4 u5 u7 u8 u9 u10 u12 u13 u14 u15 u16 u17 u18 u19 u20 u21 u22 u23 u24 u25 u26 u27 u28 u29 u30 u31 u32 u33 u34 u35 u36 u37 u38 u39 u40 u41 u42 u43 u44 u45 u46 u47 u48 u49 u50 u51 u52 u53 u54 u55 u56 u57 u58 u59 u60 u61 u62 u63 u64 u65 u66 u67 u68 u69 u70 u71 u72 u73 u74 u75 u76 u77 u78 u79 u80 u81 u82 u83 u84 u85 u86 u87 u88 u89 u90 u91 u92 u93 u94 u95 u96 u97 u98 u99 u100 u101 u102 u103 u104 u105 u106 u107 u108 u109 u110 u111 u112 u113 u114 u115 u116 u117 u118 u119 u120 u121 u122 u123 u124 u125 u126 u127 u128 u129 u130 u131 u132 u133 u134 u135 u136 u137 u138 u139 u140 u141 u142 u143 u144 u145 u146 u147 u148 u149 u150 u151 u152 u153 u154 u155 u156 u157 u158 u159 u160 u161 u162 u163 u164 u165 u166 u167 u168 u169 u170 u171 u172 u173 u174 u175 u176 u177 u178 u179 u180 u181 u182 u183 u184 u185 u186 u187 u188 u189 u190 u191 u192 u193 u194 u195 u196 u197 u198 u199 u200 u201 u202 u203 u204 u205 u206 u207 u208 u209 u210 u211 u212 u213 u214 u215 u216 u217 u218 u219 u220 u221 u222 u223 u224 u225 u226 u227 u228 u229 u230 u231 u232 u233 u234 u235 u236 u237 u238 u239 u240 u241 u242 u243 u244 u245 u246 u247 u248 u249 u250 u251 u252 u253 u254 u255 u256 u257 u258 u259 u260 u261 u262 u263 u264 u265 u266 u267 u268 u269 u270 u271 u272 u273 u274 u275 u276 u277 u278 u279 u280 u281 u282 u283 u284 u285 u286 u287 u288 u289 u290 u291 u292 u293 u294 u295 u296 u297 u298 u299 u300 u301 u302 u303 u304 u305 u306 u307 u308 u309 u310 u311 u312 u313 u314 u315 u316 u317 u318 u319 u320 u321 u322 u323 u324 u325 u326 u327 u328 u329 u330 u331 u332 u333 u334 u335 u336 u337 u338 u339 u340 u341 u342 u343 u344 u345 u346 u347 u348 u349 u350 u351 u352 u353 u354 u355 u356 u357 u358 u359 u360 u361 u362 u363 u364 u365 u366 u367 u368 u369 u370 u371 u372 u373 u374 u375 u376 u377 u378 u379 u380 u381 u382 u383 u384 u385 u386 u387 u388 u389 u390 u391 u392 u393 u394 u395 u396 u397 u398 u399 u400 u401 u402 u403 u404 u405 u406 u407 u408 u409 u410 u411 u412 u413 u414 u415 u416 u417 u418 u419 u420 u421 u422 u423 u424 u425 u426 u427 u428 u429 u430 u431 u432 u433 u434 : Value) (K : Act → World → Prop) (Q : Exit → Act → World → Prop)
    (hS : OfS W m x vd vr r0 v0 wm) (hru : RulesAt W vr x.rules) (hsm : smallSrc x) (hrb : Sp.RB 16004003 r0)
    (hQ : ∀ c (t : Array Value) (a : Act) w, Q (.panic c) ⟨t, a.defers⟩ w → Q (.panic c) a w)
    (hK : ∀ (x11 x12 x108 x109 x110 x111 x112 x113 x114 x115 x116 x117 x118 x119 x120 x121 x122 x123 x124 x125 x126 x127 x128 x129 x130 x131 x132 x133 x134 x135 x136 x137 x138 x139 x140 x141 x142 x143 x144 x145 x146 x147 : Value) (wx : World) (v1 : RkV), OfS W m x vd vr (Sp.rrules x.rules r0) v1 wx → Sp.RB 16008003 (Sp.rrules x.rules r0) → K ⟨#[u0, .pointer (some ⟨W.heap.size, 0, none⟩), .pointer (some ⟨W.heap.size + 1, 0, none⟩), u3, u4, u5, .pointer (some ⟨m, 0, none⟩), u7, u8, u9, u10, x11, x12, u13, u14, u15, u16, u17, u18, u19, u20, u21, u22, u23, u24, u25, u26, u27, u28, u29, u30, u31, u32, u33, u34, u35, u36, u37, u38, u39, u40, u41, u42, u43, u44, u45, u46, u47, u48, u49, u50, u51, u52, u53, u54, u55, u56, u57, u58, u59, u60, u61, u62, u63, u64, u65, u66, u67, u68, u69, u70, u71, u72, u73, u74, u75, u76, u77, u78, u79, u80, u81, u82, u83, u84, u85, u86, u87, u88, u89, u90, u91, u92, u93, u94, u95, u96, u97, u98, u99, u100, u101, u102, u103, u104, u105, u106, u107, x108, x109, x110, x111, x112, x113, x114, x115, x116, x117, x118, x119, x120, x121, x122, x123, x124, x125, x126, x127, x128, x129, x130, x131, x132, x133, x134, x135, x136, x137, x138, x139, x140, x141, x142, x143, x144, x145, x146, x147, u148, u149, u150, u151, u152, u153, u154, u155, u156, u157, u158, u159, u160, u161, u162, u163, u164, u165, u166, u167, u168, u169, u170, u171, u172, u173, u174, u175, u176, u177, u178, u179, u180, u181, u182, u183, u184, u185, u186, u187, u188, u189, u190, u191, u192, u193, u194, u195, u196, u197, u198, u199, u200, u201, u202, u203, u204, u205, u206, u207, u208, u209, u210, u211, u212, u213, u214, u215, u216, u217, u218, u219, u220, u221, u222, u223, u224, u225, u226, u227, u228, u229, u230, u231, u232, u233, u234, u235, u236, u237, u238, u239, u240, u241, u242, u243, u244, u245, u246, u247, u248, u249, u250, u251, u252, u253, u254, u255, u256, u257, u258, u259, u260, u261, u262, u263, u264, u265, u266, u267, u268, u269, u270, u271, u272, u273, u274, u275, u276, u277, u278, u279, u280, u281, u282, u283, u284, u285, u286, u287, u288, u289, u290, u291, u292, u293, u294, u295, u296, u297, u298, u299, u300, u301, u302, u303, u304, u305, u306, u307, u308, u309, u310, u311, u312, u313, u314, u315, u316, u317, u318, u319, u320, u321, u322, u323, u324, u325, u326, u327, u328, u329, u330, u331, u332, u333, u334, u335, u336, u337, u338, u339, u340, u341, u342, u343, u344, u345, u346, u347, u348, u349, u350, u351, u352, u353, u354, u355, u356, u357, u358, u359, u360, u361, u362, u363, u364, u365, u366, u367, u368, u369, u370, u371, u372, u373, u374, u375, u376, u377, u378, u379, u380, u381, u382, u383, u384, u385, u386, u387, u388, u389, u390, u391, u392, u393, u394, u395, u396, u397, u398, u399, u400, u401, u402, u403, u404, u405, u406, u407, u408, u409, u410, u411, u412, u413, u414, u415, u416, u417, u418, u419, u420, u421, u422, u423, u424, u425, u426, u427, u428, u429, u430, u431, u432, u433, u434], []⟩ wx) :
    Code.wp Tryd.prog (ofBlk 4) (Exit.then K Q) ⟨#[u0, .pointer (some ⟨W.heap.size, 0, none⟩), .pointer (some ⟨W.heap.size + 1, 0, none⟩), u3, u4, u5, .pointer (some ⟨m, 0, none⟩), u7, u8, u9, u10, .int .i64 0, u12, u13, u14, u15, u16, u17, u18, u19, u20, u21, u22, u23, u24, u25, u26, u27, u28, u29, u30, u31, u32, u33, u34, u35, u36, u37, u38, u39, u40, u41, u42, u43, u44, u45, u46, u47, u48, u49, u50, u51, u52, u53, u54, u55, u56, u57, u58, u59, u60, u61, u62, u63, u64, u65, u66, u67, u68, u69, u70, u71, u72, u73, u74, u75, u76, u77, u78, u79, u80, u81, u82, u83, u84, u85, u86, u87, u88, u89, u90, u91, u92, u93, u94, u95, u96, u97, u98, u99, u100, u101, u102, u103, u104, u105, u106, u107, u108, u109, u110, u111, u112, u113, u114, u115, u116, u117, u118, u119, u120, u121, u122, u123, u124, u125, u126, u127, u128, u129, u130, u131, u132, u133, u134, u135, u136, u137, u138, u139, u140, u141, u142, u143, u144, u145, u146, u147, u148, u149, u150, u151, u152, u153, u154, u155, u156, u157, u158, u159, u160, u161, u162, u163, u164, u165, u166, u167, u168, u169, u170, u171, u172, u173, u174, u175, u176, u177, u178, u179, u180, u181, u182, u183, u184, u185, u186, u187, u188, u189, u190, u191, u192, u193, u194, u195, u196, u197, u198, u199, u200, u201, u202, u203, u204, u205, u206, u207, u208, u209, u210, u211, u212, u213, u214, u215, u216, u217, u218, u219, u220, u221, u222, u223, u224, u225, u226, u227, u228, u229, u230, u231, u232, u233, u234, u235, u236, u237, u238, u239, u240, u241, u242, u243, u244, u245, u246, u247, u248, u249, u250, u251, u252, u253, u254, u255, u256, u257, u258, u259, u260, u261, u262, u263, u264, u265, u266, u267, u268, u269, u270, u271, u272, u273, u274, u275, u276, u277, u278, u279, u280, u281, u282, u283, u284, u285, u286, u287, u288, u289, u290, u291, u292, u293, u294, u295, u296, u297, u298, u299, u300, u301, u302, u303, u304, u305, u306, u307, u308, u309, u310, u311, u312, u313, u314, u315, u316, u317, u318, u319, u320, u321, u322, u323, u324, u325, u326, u327, u328, u329, u330, u331, u332, u333, u334, u335, u336, u337, u338, u339, u340, u341, u342, u343, u344, u345, u346, u347, u348, u349, u350, u351, u352, u353, u354, u355, u356, u357, u358, u359, u360, u361, u362, u363, u364, u365, u366, u367, u368, u369, u370, u371, u372, u373, u374, u375, u376, u377, u378, u379, u380, u381, u382, u383, u384, u385, u386, u387, u388, u389, u390, u391, u392, u393, u394, u395, u396, u397, u398, u399, u400, u401, u402, u403, u404, u405, u406, u407, u408, u409, u410, u411, u412, u413, u414, u415, u416, u417, u418, u419, u420, u421, u422, u423, u424, u425, u426, u427, u428, u429, u430, u431, u432, u433, u434], []⟩ wm := by
  obtain ⟨fr, hr1, hr2⟩ := hru
  obtain ⟨da, dc, rfl⟩ := hr1.form
  rw [List.length_mapIdx] at hr1 hS hK
  obtain ⟨n, hn⟩ : ∃ n, n = x.rules.length := ⟨_, rfl⟩
  have hn4 : n ≤ 4000 := by rw [hn]; exact hsm.2.2.2.1
  rw [← hn] at hr1 hS hK
  obtain ⟨RR, hRR⟩ : ∃ RR, RR = Sp.rrules x.rules r0 := ⟨_, rfl⟩
  rw [← hRR] at hK
  obtain ⟨is0, his0, hsz0, hsz1, hsz2⟩ := info_parts info_strR
  have HS0 := Lib.hid hS; have HR1 := Lib.hid hr1; have HRA := Lib.hid hr2; have HSM := Lib.hid hsm; have HRB := Lib.hid hrb; have HNE := Lib.hid hn; have HR := Lib.hid hRR
  clear hS hr1 hr2 hsm hrb hn hRR
  have HKK := Lib.hid hK
  have hM : ∀ a w, Met K a w → K a w := fun _ _ h => h
  clear hK
  conv => arg 2; whnf
  go_wp2_with fail
  go_loopg [11] n (fun q iv wr => ∃ (k : Nat) (r : Sp.Rk) (v : RkV), k ≤ n ∧ q = n - k ∧ iv = .int .i64 k ∧ OfS W m x vd (.slice da n dc) r v wr ∧ Sp.RB (16004003 + k) r ∧ Sp.rrules (x.rules.drop k) r = RR)
  case atStart => exact ⟨0, r0, v0, Nat.zero_le _, rfl, rfl, HS0.out, HRB.out, HR.out.symm⟩
  case round =>
    clear HS0 HR HRB
    obtain ⟨k, r, v, hk, rfl, rfl, hS, hrb, hR⟩ := hrel
    obtain ⟨wo, hwo⟩ : ∃ wo : World, wo = wr := ⟨_, rfl⟩
    subst hwo
    have HS := Lib.hid hS; have HRB := Lib.hid hrb; have HRR := Lib.hid hR
    have hk0 : (0 : Int) ≤ (k : Int) := Int.natCast_nonneg _
    have s2 : wo.cell? ⟨W.heap.size, 2, none⟩ = some (.slice da n dc) := cell_at (i := 2) hS.sbox
    have ls := lt_at hS.sbox
    clear hS hrb hR
    by_cases hkn : k < n
    · have hk1 : (k : Int) < (n : Int) := by omega
      have hkd : k < x.rules.length := by have := HNE.out; omega
      obtain ⟨⟨ul, ual, ua⟩, hdk, hdr, hmem⟩ := at_drop hkd
      obtain ⟨bo, oo, rfl, hbo, hco⟩ := HR1.out.at (k := k) (row := ruleC (fr k) ⟨ul, ual, ua⟩) (by rw [List.getElem?_mapIdx, hdk]; rfl)
      obtain ⟨va, vc, huv⟩ := (HRA.out k _ hdk).form
      simp only at huv
      obtain ⟨un, hun⟩ : ∃ un, un = ual.length := ⟨_, rfl⟩
      rw [← hun] at huv
      have hcells := hco wo HS.out.bel
      rw [huv] at hcells
      clear hun
      have hR := HRR.out
      rw [hdr, Sp.rrules_cons] at hR
      have c0 := hcells 0 _ rfl; have c1 := hcells 1 _ rfl; have c2 := hcells 2 _ rfl
      simp only [Nat.add_zero] at c0 c1 c2
      have hbl : bo < wo.heap.size := by have := HS.out.bel.size; omega
      have HR2 := Lib.hid hR
      clear hcells hco hR hdr hdk hmem HRR
      obtain ⟨bd, hbd⟩ : ∃ bd, bd = wo.heap.size := ⟨_, rfl⟩
      obtain ⟨w1, hw1⟩ : ∃ w1, w1 = wo.alloc (.cells #[.string ⟨ul.toArray⟩, .slice va un vc, .int .i64 ua] 37) := ⟨_, rfl⟩
      have hb1 : Below wo.heap.size wo w1 := by rw [hw1]; exact (Below.refl _ wo).alloc (Nat.le_refl _) _
      have hd1 : w1.heap[bd]? = some (.cells #[.string ⟨ul.toArray⟩, .slice va un vc, .int .i64 ua] 37 (0, 0)) := by rw [hw1, hbd]; exact heap_last wo _
      have HS1 := Lib.hid (HS.out.below hb1)
      have HD := Lib.hid hd1
      go_upto_region 24 with fail
      rw [← hbd, ← hw1]
      have d0 := cell_at (i := 0) hd1; have d2 := cell_at (i := 2) hd1
      have ld := lt_at hd1
      clear hbd hw1 hb1 hd1 c0 c1 c2 hbl hbo s2 ls huv
      have hsw1 := HS1.out.bel.size
      obtain ⟨fl, hfl⟩ : ∃ fl, fl = Sp.rtok r.toks ul false := ⟨_, rfl⟩
      obtain ⟨r1, hr1⟩ : ∃ r1, r1 = (if (Sp.rtok r.toks ul false).isSome = true then Sp.rfail r ua ul else r) := ⟨_, rfl⟩
      have hrule : Sp.rrule r ⟨ul, ual, ua⟩ = if (Sp.rleft r1.lefts ul).isNone = true then { r1 with lefts := r1.lefts ++ [ul] } else r1 := by rw [hr1]; rfl
      have hl1 : r1.lefts = r.lefts := by rw [hr1]; split <;> rfl
      have hrb1 : Sp.RB (16004003 + k) r1 := by
        rw [hr1]
        split
        · exact Sp.rfail_RB _ _ HRB.out
        · exact HRB.out
      have hrb5 : Sp.RB (16004003 + k + 1) (Sp.rrule r ⟨ul, ual, ua⟩) := Sp.rrule_RB _ HRB.out
      rw [← hfl] at hr1
      have HE1 := Lib.hid hr1; have HRU := Lib.hid hrule; have HL1 := Lib.hid hl1; have HRB1 := Lib.hid hrb1; have HRB5 := Lib.hid hrb5; have HFL := Lib.hid hfl
      clear hr1 hrule hl1 hrb1 hrb5 hfl
      go_upto_region 24 with fail
      go_cut [125] from 108 to 147 (fun c wx => c = .bool fl.isSome ∧ OfS W m x vd (.slice (some ⟨bo, oo, none⟩) n dc) r v wx ∧ wx.heap[bd]? = some (.cells #[.string ⟨ul.toArray⟩, .slice va un vc, .int .i64 ua] 37 (0, 0)))
      case first =>
        go_wp2_with fail
        refine (ref_tok ⟨ul, false, 0, 0⟩ HS1.out.mkr HRB.out (by omega)).mono ?_
        rintro e w2 ⟨rfl, hb2⟩
        simp only
        rw [← HFL.out]
        have HS2 := Lib.hid (HS1.out.below hb2)
        have HD2 := Lib.hid ((hb2.block _ (lt_at HD.out)).trans HD.out)
        clear hb2
        cases fl with
        | some t =>
          have ht0 : (0 : Int) ≤ (t : Int) := Int.natCast_nonneg _
          dsimp only [ixI]
          go_wp2_with fail
          go_meet
          exact ⟨rfl, HS2.out, HD2.out⟩
        | none =>
          dsimp only [ixI]
          go_wp2_with fail
          go_meet
          exact ⟨rfl, HS2.out, HD2.out⟩
      case rest =>
        obtain ⟨w2, hw2⟩ : ∃ w2 : World, w2 = wc := ⟨_, rfl⟩
        subst hw2
        obtain ⟨rfl, hS2, hd2⟩ := hcut
        have HS2 := Lib.hid hS2; have HD2 := Lib.hid hd2
        have d0 := cell_at (i := 0) hd2; have d2 := cell_at (i := 2) hd2
        have ld := lt_at hd2
        clear hS2 hd2
        go_upto_if 125 with fail
        go_cut [] from 108 to 147 (fun wx => OfS W m x vd (.slice (some ⟨bo, oo, none⟩) n dc) r1 v wx ∧ wx.heap[bd]? = some (.cells #[.string ⟨ul.toArray⟩, .slice va un vc, .int .i64 ua] 37 (0, 0)))
        case first =>
          cases fl with
          | some t =>
            have e : r1 = Sp.rfail r ua ul := by rw [HE1.out]; rfl
            go_wp2_with fail
            refine (ref_fail ua ul HS2.out.mkr).mono ?_
            rintro e' w3 ⟨rfl, h3, hf3, _⟩
            have hS3 := HS2.out.rfr h3 hf3
            have hd3 := hf3.at HD2.out (by unfold RT; decide)
            have HS3 := Lib.hid hS3; have HD3 := Lib.hid hd3
            clear h3 hf3 hS3 hd3
            subst e
            go_wp2_with fail
            go_meet
            exact ⟨HS3.out, HD3.out⟩
          | none =>
            have e : r1 = r := by rw [HE1.out]; rfl
            subst e
            go_wp2_with fail
            go_meet
            exact ⟨HS2.out, HD2.out⟩
        case rest =>
          obtain ⟨w3, hw3⟩ : ∃ w3 : World, w3 = wc := ⟨_, rfl⟩
          subst hw3
          obtain ⟨hS3, hd3⟩ := hcut
          have HS3 := Lib.hid hS3; have HD3 := Lib.hid hd3
          have d0 := cell_at (i := 0) hd3
          have ld := lt_at hd3
          clear hS3 hd3 d2
          go_wp2_with fail
          refine (ref_left ul HS3.out.mkr HRB1.out (by omega)).mono ?_
          rintro e w4 ⟨rfl, rfl⟩
          have hru := HRU.out
          cases hl : Sp.rleft r1.lefts ul with
          | some t =>
            have e : Sp.rrule r ⟨ul, ual, ua⟩ = r1 := by rw [hru, hl]; rfl
            have ht0 : (0 : Int) ≤ (t : Int) := Int.natCast_nonneg _
            have HR3 := HR2.out
            rw [e] at HR3
            dsimp only [ixI]
            clear hru hl
            go_wp2_with fail
            go_roundg (n - (k + 1))
            case measure => omega
            case rel => exact ⟨k + 1, r1, v, by omega, rfl, by go_num, HS3.out, HRB1.out.mono (by omega), HR3⟩
          | none =>
            have e : Sp.rrule r ⟨ul, ual, ua⟩ = { r1 with lefts := r1.lefts ++ [ul] } := by rw [hru, hl]; rfl
            have HR3 := HR2.out
            have hrb5 := HRB5.out
            rw [e] at HR3 hrb5
            have HRB6 := Lib.hid hrb5
            dsimp only [ixI]
            obtain ⟨w4, hw4⟩ : ∃ w4 : World, w4 = w3 := ⟨_, rfl⟩
            subst hw4
            have hlf := HS3.out.mkr.lefts; have hmb := HS3.out.mkr.block
            obtain ⟨la, lc, hlv⟩ := ownsRowS_some hlf
            obtain ⟨ln, hln⟩ : ∃ ln, ln = r1.lefts.length := ⟨_, rfl⟩
            have hlnb := HRB1.out.lefts
            rw [← hln] at hlv hlnb
            rw [hlv, ← hln] at hlf
            unfold rkCells at hmb
            rw [hlv] at hmb
            have hne1 : (Value.slice la ln lc).ownBlock ≠ some m := fun e => row_ne_cells hlf hmb (by decide) _ e rfl
            have hne2 : (Value.slice la ln lc).ownBlock ≠ some bd := fun e => row_ne_cells hlf HD3.out (by decide) _ e rfl
            have HMB := Lib.hid hmb; have HTR := Lib.hid hlf; have HLN := Lib.hid hln; have HN1 := Lib.hid hne1; have HN2 := Lib.hid hne2
            have HSK := Lib.hid (fun (w' : World) (kp : Kp (fun b => (Value.slice la ln lc).ownBlock ≠ some b) w4 w') => (show ((w'.cell? ⟨m, 7, none⟩ = some (.slice la ln lc) ∧ w'.frozen? ⟨m, 7, none⟩ = false) ∧ w'.cell? ⟨bd, 0, none⟩ = some (.string ⟨ul.toArray⟩) ∧ m < w'.heap.size ∧ bd < w'.heap.size) from by
              have h1 := kp.at HMB.out HN1.out
              have h2 := kp.at HD3.out HN2.out
              exact ⟨⟨cell_at (i := 7) h1, frozen_at (i := 7) h1⟩, cell_at (i := 0) h2, lt_at h1, lt_at h2⟩))
            have hBs : W.heap.size ≤ w4.heap.size := HS3.out.bel.size
            clear hru hl hlf hmb hlv hln hne1 hne2 hrb5
            go_upto_region 27 with fail
            refine wp_region_plan (fun w' : World => ((w'.cell? ⟨m, 7, none⟩ = some (.slice la ln lc) ∧ w'.frozen? ⟨m, 7, none⟩ = false) ∧ w'.cell? ⟨bd, 0, none⟩ = some (.string ⟨ul.toArray⟩) ∧ m < w'.heap.size ∧ bd < w'.heap.size)) [11] (.take 0 (.take 1 (.take 2 (.take 3 (.take 4 (.take 5 (.take 6 (.one 7 (.one 8 (.one 9 (.one 10 (.one 11 (.done))))))))))))) (by kernel_rfl) (by kernel_rfl) (fun c t a w h => hQ c t a w h) ?_
            have hSw := HSK.out _ ((Kp.refl _ w4).drew)
            refine wpPlan_takeD (v := ?va1) rfl rfl hSw (by rfl) ?ya1 ?_
            case ya1 => (intro w hSx; (try dsimp only at hSx); go_simp; first | done | with_reducible rfl | rfl)
            (try simp only [Act.put, List.setIfInBounds_toArray, List.set_cons_zero, List.set_cons_succ])
            refine wpPlan_takeD (v := ?va2) rfl rfl hSw (by rfl) ?ya2 ?_
            case ya2 => (intro w hSx; (try dsimp only at hSx); go_simp; first | done | with_reducible rfl | rfl)
            (try simp only [Act.put, List.setIfInBounds_toArray, List.set_cons_zero, List.set_cons_succ])
            refine wpPlan_takeD (v := ?va3) rfl rfl hSw (by rfl) ?ya3 ?_
            case ya3 => (intro w hSx; (try dsimp only at hSx); go_simp; first | done | with_reducible rfl | rfl)
            (try simp only [Act.put, List.setIfInBounds_toArray, List.set_cons_zero, List.set_cons_succ])
            refine wpPlan_takeD (v := ?va4) rfl rfl hSw (by rfl) ?ya4 ?_
            case ya4 => (intro w hSx; (try dsimp only at hSx); go_simp; first | done | with_reducible rfl | rfl)
            (try simp only [Act.put, List.setIfInBounds_toArray, List.set_cons_zero, List.set_cons_succ])
            refine wpPlan_takeD (v := ?va5) rfl rfl hSw (by rfl) ?ya5 ?_
            case ya5 => (intro w hSx; (try dsimp only at hSx); go_simp; first | done | with_reducible rfl | rfl)
            (try simp only [Act.put, List.setIfInBounds_toArray, List.set_cons_zero, List.set_cons_succ])
            refine wpPlan_takeD (v := ?va6) rfl rfl hSw (by rfl) ?ya6 ?_
            case ya6 => (intro w hSx; (try dsimp only at hSx); go_simp; first | done | with_reducible rfl | rfl)
            (try simp only [Act.put, List.setIfInBounds_toArray, List.set_cons_zero, List.set_cons_succ])
            refine wpPlan_takeD (v := ?va7) rfl rfl hSw (by rfl) ?ya7 ?_
            case ya7 => (intro w hSx; (try dsimp only at hSx); go_simp; first | done | with_reducible rfl | rfl)
            (try simp only [Act.put, List.setIfInBounds_toArray, List.set_cons_zero, List.set_cons_succ])
            refine wpPlan_run rfl (by rfl) (fun K' hK => ?_)
            go_simp
            refine hK _ _ (.inr ?_) ?_
            · exact HSK.out _ (((Kp.refl _ w4).drew).alloc (.cells #[.string ⟨ul.toArray⟩] 9))
            clear hK K' hSw
            (try simp only [Act.put, List.setIfInBounds_toArray, List.set_cons_zero, List.set_cons_succ])
            refine wpPlan_run rfl (by rfl) (fun K' hK => ?_)
            (refine wp_append_lies _ _ _ _ (by rfl) W.heap.size 9 is0 _ 1 16 Tryd.underlying47 his0 hsz0 hsz1 hsz2 rfl (by omega) _ _ _ (by rfl) (HTR.out.alloc _) ⟨w4.heap.size, 0, none⟩ 1 1 [strV ul] (by rfl) (by rfl) (World.news_of_block (cs := #[.string ⟨ul.toArray⟩]) (t := 9) (fr := (0, 0)) (heap_last w4 _)) (by simp [Value.oneCell', strV]) (by omega) (by unfold maxLen; omega) (by omega) (by show W.heap.size ≤ (w4.alloc (.cells #[.string ⟨ul.toArray⟩] 9)).heap.size; simp only [World.size_alloc]; omega) _ rfl ?_; intro gg1 cp1 w5 hown1 hgrow1 hat1 hlt1; replace hgrow1 : (w4.alloc (.cells #[.string ⟨ul.toArray⟩] 9)).grownBy w5 (Value.slice la ln lc).ownBlock := ⟨hgrow1.os, hgrow1.tape, hgrow1.output, hgrow1.size, hgrow1.block⟩; have hk5 : Kp (fun b => (Value.slice la ln lc).ownBlock ≠ some b) w4 w5 := ((Kp.refl _ w4).alloc (.cells #[.string ⟨ul.toArray⟩] 9)).grown hgrow1 (fun k hk hs => hs hk))
            refine hK _ _ (.inr ?_) ?_
            · exact HSK.out _ hk5
            clear hK K'
            (try simp only [Act.put, List.setIfInBounds_toArray, List.set_cons_zero, List.set_cons_succ])
            refine wpPlan_run rfl (by rfl) (fun K' hK => ?_)
            go_simp
            refine hK _ _ (.inr ?_) ?_
            · exact HSK.out _ hk5
            clear hK K'
            (try simp only [Act.put, List.setIfInBounds_toArray, List.set_cons_zero, List.set_cons_succ])
            refine wpPlan_run rfl (by rfl) (fun K' hK => ?_)
            go_simp
            refine hK _ _ (.inr ?_) ?_
            · exact HSK.out _ hk5
            clear hK K'
            (try simp only [Act.put, List.setIfInBounds_toArray, List.set_cons_zero, List.set_cons_succ])
            refine wpPlan_run rfl (by rfl) (fun K' hK => ?_)
            (obtain ⟨⟨z1, z2⟩, _, hlz, _⟩ := HSK.out _ hk5; go_simp)
            refine hK _ _ (.inl rfl) ?_
            clear hK K'
            (try simp only [Act.put, List.setIfInBounds_toArray, List.set_cons_zero, List.set_cons_succ])
            refine wpPlan_done ?_
            have kt5 : KpT (fun t => t ≠ 9) w4 w5 := (KpT.below ((Below.refl _ w4).alloc (Nat.le_refl _) _)).trans (KpT.grown (HTR.out.alloc _) hgrow1)
            have hb5 : Below W.heap.size w4 w5 := Kp.below hk5 hBs (fun b hb e => by have := (HTR.out.lt b e).1; omega)
            obtain ⟨h6, hb6⟩ := HS3.out.mkr.addLeft (p := ul) (by rw [← HLN.out]; exact hown1) kt5 hb5
            have km : KpT (fun t => t = 29 ∨ t = 58) w4 (w5.setCell ⟨m, 7, none⟩ (.slice (some ⟨gg1, 0, none⟩) (ln + 1) cp1)) := (kt5.mono (fun t ht => by rcases ht with rfl | rfl <;> decide)).trans ((RefAt.box1 (kt5 m _ _ _ HS3.out.mkr.block (by decide)) HS3.out.mkr.behind 7 _).1.mono (fun t ht => by rcases ht with rfl | rfl <;> decide))
            have hS6 := HS3.out.step h6 hb6 km
            have HS6 := Lib.hid hS6
            clear kt5 hb5 h6 hb6 km hS6 hown1 hgrow1 hat1 hlt1 hk5 z1 z2 hlz HSK
            go_wp2_with fail
            go_roundg (n - (k + 1))
            case measure => omega
            case rel => exact ⟨k + 1, _, _, by omega, rfl, by go_num, HS6.out, HRB6.out.mono (by omega), HR3⟩
    · obtain rfl : k = n := by omega
      have hRe : r = RR := by
        have h := HRR.out
        rw [List.drop_eq_nil_of_le (by rw [HNE.out]; exact Nat.le_refl _)] at h
        exact h
      subst hRe
      have hrb3 := HRB.out.mono (show 16004003 + k ≤ 16008003 by omega)
      have HRB3 := Lib.hid hrb3
      clear hrb3 HRR
      go_wp2_with fail
      exact HKK.out _ _ _ _ _ _ _ _ _ _ _ _ _ _ _ _ _ _ _ _ _ _ _ _ _ _ _ _ _ _ _ _ _ _ _ _ _ _ _ _ _ _ _ v HS.out HRB3.out
set_option maxRecDepth 100000 in
set_option maxHeartbeats 12800000 in
theorem of_names {W wm : World} {m : Nat} {x : Sp.Source} {vd vr : Value} {r0 : Sp.Rk} {v0 : RkV}
    (u0 u3 u4 u5 u7 u8 u9 u10 u11 u12 u14 u15 u16 u17 u18 u19 u20 u21 u22 u23 u24 u25 u26 u27 u28 u29 u30 u31 u32 u33 u34 u35 u36 u37 u38 u39 u40 u41 u42 u43 u44 u45 u46 u47 u48 u49 u50 u51 u52 u53 u54 u55 u56 u57 u58 u59 u60 u61 u62 u63 u64 u65 u66 u67 u68 u69 u70 u71 u72 u73 u74 u75 u76 u77 u78 u79 u80 u81 u82 u83 u84 u85 u86 u87 u88 u89 u90 u91 u92 u93 u94 u95 u96 u97 u98 u99 u100 u101 u102 u103 u104 u105 u106 u107 u108 u109 u110 u111 u112 u113 u114 u115 u116 u117 u118 u119 u120 u121 u122 u123 u124 u125 u126 u127 u128 u129 u130 u131 u132 u133 u134 u135 u136 u137 u138 u139 u140 u141 u142 u143 u144 u145 u146 u147 u148 u149 u150 u151 u152 u153 u154 u155 u156 u157 u158 u159 u160 u161 u162 u163 u164 u165 u166 u167 u168 u169 u170 u171 u172 u173 u174 u175 u176 u177 u178 u179 u180 u181 u182 u183 u184 u185 u186 u187 u188 u189 u190 u191 u192 u193 u194 u195 u196 u197 u198 u199 u200 u201 u202 u203 u204 u205 u206 u207 u208 u209 u210 u211 u212 u213 u214 u215 u216 u217 u218 u219 u220 u221 u222 u223 u224 u225 u226 u227 u228 u229 u230 u231 u232 u233 u234 u235 u236 u237 u238 u239 u240 u241 u242 u243 u244 u245 u246 u247 u248 u249 u250 u251 u252 u253 u254 u255 u256 u257 u258 u259 u260 u261 u262 u263 u264 u265 u266 u267 u268 u269 u270 u271 u272 u273 u274 u275 u276 u277 u278 u279 u280 u281 u282 u283 u284 u285 u286 u287 u288 u289 u290 u291 u292 u293 u294 u295 u296 u297 u298 u299 u300 u301 u302 u303 u304 u305 u306 u307 u308 u309 u310 u311 u312 u313 u314 u315 u316 u317 u318 u319 u320 u321 u322 u323 u324 u325 u326 u327 u328 u329 u330 u331 u332 u333 u334 u335 u336 u337 u338 u339 u340 u341 u342 u343 u344 u345 u346 u347 u348 u349 u350 u351 u352 u353 u354 u355 u356 u357 u358 u359 u360 u361 u362 u363 u364 u365 u366 u367 u368 u369 u370 u371 u372 u373 u374 u375 u376 u377 u378 u379 u380 u381 u382 u383 u384 u385 u386 u387 u388 u389 u390 u391 u392 u393 u394 u395 u396 u397 u398 u399 u400 u401 u402 u403 u404 u405 u406 u407 u408 u409 u410 u411 u412 u413 u414 u415 u416 u417 u418 u419 u420 u421 u422 u423 u424 u425 u426 u427 u428 u429 u430 u431 u432 u433 u434 : Value) (K : Act → World → Prop) (Q : Exit → Act → World → Prop)
    (hS : OfS W m x vd vr r0 v0 wm) (hd : DeclsAt W vd x.decls) (hsm : smallSrc x) (hrb : Sp.RB 16008003 r0)
    (hQ : ∀ c (t : Array Value) (a : Act) w, Q (.panic c) ⟨t, a.defers⟩ w → Q (.panic c) a w)
    (hK : ∀ (x13 x14 x15 x148 x149 x150 x151 x152 x153 x154 x155 x156 x157 x158 x159 x160 x161 x162 x163 x164 x165 x166 x167 x168 x169 x170 x171 x172 x173 x174 x175 x176 x177 x178 x179 x180 x181 x182 x183 x184 x185 x186 x187 x188 x189 x190 x191 x192 x193 x194 : Value) (wx : World) (v1 : RkV), OfS W m x vd vr (Sp.rnames x.decls r0) v1 wx → Sp.RB 16008003 (Sp.rnames x.decls r0) → K ⟨#[u0, .pointer (some ⟨W.heap.size, 0, none⟩), .pointer (some ⟨W.heap.size + 1, 0, none⟩), u3, u4, u5, .pointer (some ⟨m, 0, none⟩), u7, u8, u9, u10, u11, u12, x13, x14, x15, u16, u17, u18, u19, u20, u21, u22, u23, u24, u25, u26, u27, u28, u29, u30, u31, u32, u33, u34, u35, u36, u37, u38, u39, u40, u41, u42, u43, u44, u45, u46, u47, u48, u49, u50, u51, u52, u53, u54, u55, u56, u57, u58, u59, u60, u61, u62, u63, u64, u65, u66, u67, u68, u69, u70, u71, u72, u73, u74, u75, u76, u77, u78, u79, u80, u81, u82, u83, u84, u85, u86, u87, u88, u89, u90, u91, u92, u93, u94, u95, u96, u97, u98, u99, u100, u101, u102, u103, u104, u105, u106, u107, u108, u109, u110, u111, u112, u113, u114, u115, u116, u117, u118, u119, u120, u121, u122, u123, u124, u125, u126, u127, u128, u129, u130, u131, u132, u133, u134, u135, u136, u137, u138, u139, u140, u141, u142, u143, u144, u145, u146, u147, x148, x149, x150, x151, x152, x153, x154, x155, x156, x157, x158, x159, x160, x161, x162, x163, x164, x165, x166, x167, x168, x169, x170, x171, x172, x173, x174, x175, x176, x177, x178, x179, x180, x181, x182, x183, x184, x185, x186, x187, x188, x189, x190, x191, x192, x193, x194, u195, u196, u197, u198, u199, u200, u201, u202, u203, u204, u205, u206, u207, u208, u209, u210, u211, u212, u213, u214, u215, u216, u217, u218, u219, u220, u221, u222, u223, u224, u225, u226, u227, u228, u229, u230, u231, u232, u233, u234, u235, u236, u237, u238, u239, u240, u241, u242, u243, u244, u245, u246, u247, u248, u249, u250, u251, u252, u253, u254, u255, u256, u257, u258, u259, u260, u261, u262, u263, u264, u265, u266, u267, u268, u269, u270, u271, u272, u273, u274, u275, u276, u277, u278, u279, u280, u281, u282, u283, u284, u285, u286, u287, u288, u289, u290, u291, u292, u293, u294, u295, u296, u297, u298, u299, u300, u301, u302, u303, u304, u305, u306, u307, u308, u309, u310, u311, u312, u313, u314, u315, u316, u317, u318, u319, u320, u321, u322, u323, u324, u325, u326, u327, u328, u329, u330, u331, u332, u333, u334, u335, u336, u337, u338, u339, u340, u341, u342, u343, u344, u345, u346, u347, u348, u349, u350, u351, u352, u353, u354, u355, u356, u357, u358, u359, u360, u361, u362, u363, u364, u365, u366, u367, u368, u369, u370, u371, u372, u373, u374, u375, u376, u377, u378, u379, u380, u381, u382, u383, u384, u385, u386, u387, u388, u389, u390, u391, u392, u393, u394, u395, u396, u397, u398, u399, u400, u401, u402, u403, u404, u405, u406, u407, u408, u409, u410, u411, u412, u413, u414, u415, u416, u417, u418, u419, u420, u421, u422, u423, u424, u425, u426, u427, u428, u429, u430, u431, u432, u433, u434], []⟩ wx) :
    Code.wp Tryd.prog (ofBlk 6) (Exit.then K Q) ⟨#[u0, .pointer (some ⟨W.heap.size, 0, none⟩), .pointer (some ⟨W.heap.size + 1, 0, none⟩), u3, u4, u5, .pointer (some ⟨m, 0, none⟩), u7, u8, u9, u10, u11, u12, .int .i64 0, u14, u15, u16, u17, u18, u19, u20, u21, u22, u23, u24, u25, u26, u27, u28, u29, u30, u31, u32, u33, u34, u35, u36, u37, u38, u39, u40, u41, u42, u43, u44, u45, u46, u47, u48, u49, u50, u51, u52, u53, u54, u55, u56, u57, u58, u59, u60, u61, u62, u63, u64, u65, u66, u67, u68, u69, u70, u71, u72, u73, u74, u75, u76, u77, u78, u79, u80, u81, u82, u83, u84, u85, u86, u87, u88, u89, u90, u91, u92, u93, u94, u95, u96, u97, u98, u99, u100, u101, u102, u103, u104, u105, u106, u107, u108, u109, u110, u111, u112, u113, u114, u115, u116, u117, u118, u119, u120, u121, u122, u123, u124, u125, u126, u127, u128, u129, u130, u131, u132, u133, u134, u135, u136, u137, u138, u139, u140, u141, u142, u143, u144, u145, u146, u147, u148, u149, u150, u151, u152, u153, u154, u155, u156, u157, u158, u159, u160, u161, u162, u163, u164, u165, u166, u167, u168, u169, u170, u171, u172, u173, u174, u175, u176, u177, u178, u179, u180, u181, u182, u183, u184, u185, u186, u187, u188, u189, u190, u191, u192, u193, u194, u195, u196, u197, u198, u199, u200, u201, u202, u203, u204, u205, u206, u207, u208, u209, u210, u211, u212, u213, u214, u215, u216, u217, u218, u219, u220, u221, u222, u223, u224, u225, u226, u227, u228, u229, u230, u231, u232, u233, u234, u235, u236, u237, u238, u239, u240, u241, u242, u243, u244, u245, u246, u247, u248, u249, u250, u251, u252, u253, u254, u255, u256, u257, u258, u259, u260, u261, u262, u263, u264, u265, u266, u267, u268, u269, u270, u271, u272, u273, u274, u275, u276, u277, u278, u279, u280, u281, u282, u283, u284, u285, u286, u287, u288, u289, u290, u291, u292, u293, u294, u295, u296, u297, u298, u299, u300, u301, u302, u303, u304, u305, u306, u307, u308, u309, u310, u311, u312, u313, u314, u315, u316, u317, u318, u319, u320, u321, u322, u323, u324, u325, u326, u327, u328, u329, u330, u331, u332, u333, u334, u335, u336, u337, u338, u339, u340, u341, u342, u343, u344, u345, u346, u347, u348, u349, u350, u351, u352, u353, u354, u355, u356, u357, u358, u359, u360, u361, u362, u363, u364, u365, u366, u367, u368, u369, u370, u371, u372, u373, u374, u375, u376, u377, u378, u379, u380, u381, u382, u383, u384, u385, u386, u387, u388, u389, u390, u391, u392, u393, u394, u395, u396, u397, u398, u399, u400, u401, u402, u403, u404, u405, u406, u407, u408, u409, u410, u411, u412, u413, u414, u415, u416, u417, u418, u419, u420, u421, u422, u423, u424, u425, u426, u427, u428, u429, u430, u431, u432, u433, u434], []⟩ wm := by
  obtain ⟨fd, hd1, hd2⟩ := hd
  obtain ⟨da, dc, rfl⟩ := hd1.form
  rw [List.length_mapIdx] at hd1 hS hK
  obtain ⟨n, hn⟩ : ∃ n, n = x.decls.length := ⟨_, rfl⟩
  have hn4 : n ≤ 4000 := by rw [hn]; exact hsm.2.2.1
  rw [← hn] at hd1 hS hK
  obtain ⟨RR, hRR⟩ : ∃ RR, RR = Sp.rnames x.decls r0 := ⟨_, rfl⟩
  rw [← hRR] at hK
  have HS0 := Lib.hid hS; have HD1 := Lib.hid hd1; have HD2 := Lib.hid hd2; have HSM := Lib.hid hsm; have HRB := Lib.hid hrb; have HNE := Lib.hid hn; have HR := Lib.hid hRR
  clear hS hd1 hd2 hsm hrb hn hRR
  have HKK := Lib.hid hK
  have hM : ∀ a w, Met K a w → K a w := fun _ _ h => h
  clear hK
  conv => arg 2; whnf
  go_wp2_with fail
  go_loopg [13] n (fun q iv wr => ∃ (k : Nat) (r : Sp.Rk) (v : RkV), k ≤ n ∧ q = n - k ∧ iv = .int .i64 k ∧ OfS W m x (.slice da n dc) vr r v wr ∧ Sp.RB 16008003 r ∧ Sp.rnames (x.decls.drop k) r = RR)
  case atStart => exact ⟨0, r0, v0, Nat.zero_le _, rfl, rfl, HS0.out, HRB.out, HR.out.symm⟩
  case round =>
    clear HS0 HR HRB
    obtain ⟨k, r, v, hk, rfl, rfl, hS, hrb, hR⟩ := hrel
    obtain ⟨wo, hwo⟩ : ∃ wo : World, wo = wr := ⟨_, rfl⟩
    subst hwo
    obtain ⟨ko, hko⟩ : ∃ ko : Nat, ko = k := ⟨_, rfl⟩
    subst hko
    have HS := Lib.hid hS; have HRB := Lib.hid hrb; have HRR := Lib.hid hR
    have hk0 : (0 : Int) ≤ (ko : Int) := Int.natCast_nonneg _
    have s1 : wo.cell? ⟨W.heap.size, 1, none⟩ = some (.slice da n dc) := cell_at (i := 1) hS.sbox
    have ls := lt_at hS.sbox
    clear hS hrb hR
    by_cases hkn : ko < n
    · have hk1 : (ko : Int) < (n : Int) := by omega
      have hkd : ko < x.decls.length := by have := HNE.out; omega
      obtain ⟨d, hdk, hdr, hmem⟩ := at_drop hkd
      have hsd := HSM.out.2.2.2.2.1 d hmem
      obtain ⟨bo, oo, rfl, hbo, hco⟩ := HD1.out.at (k := ko) (row := declC (fd ko) d) (by rw [List.getElem?_mapIdx, hdk]; rfl)
      have hsy := HD2.out ko d hdk
      obtain ⟨sa, sc, hsv⟩ := hsy.form
      rw [List.length_map] at hsv
      have hR := HRR.out
      rw [hdr, Sp.rnames_cons] at hR
      obtain ⟨dk, dt, dsy, dp⟩ := d
      simp only at hsv hR hsy hsd hco
      obtain ⟨sn, hsn⟩ : ∃ sn, sn = dsy.length := ⟨_, rfl⟩
      have hsn4 : sn ≤ 4000 := by rw [hsn]; exact hsd.2.1
      rw [← hsn] at hsv
      rw [hsv] at hsy hco
      have HCO := Lib.hid (fun (w' : World) (hb : Below W.heap.size W w') => (show w'.cell? ⟨bo, oo + ko * 4, none⟩ = some (.int .i64 dk) ∧ w'.cell? ⟨bo, oo + ko * 4 + 2, none⟩ = some (.slice sa sn sc) ∧ bo < w'.heap.size from by
        have h := hco w' hb
        have g0 := h 0 _ rfl; have g2 := h 2 _ rfl
        simp only [Nat.add_zero] at g0
        exact ⟨g0, g2, by have := hb.size; omega⟩))
      have HSY := Lib.hid hsy; have HSN := Lib.hid hsn; have HR2 := Lib.hid hR
      clear hco hsv hR hsy hsd hsn hdr hdk hmem HRR hbo
      obtain ⟨R2, hR2⟩ : ∃ R2, R2 = Sp.rnamesSyms dk dsy r := ⟨_, rfl⟩
      have HR3 := HR2
      rw [← hR2] at HR3
      have HRI := Lib.hid hR2
      clear hR2 HR2
      go_wp2_with fail
      go_loopg [14] sn (fun q iv wr => ∃ (j : Nat) (r3 : Sp.Rk) (v3 : RkV), j ≤ sn ∧ q = sn - j ∧ iv = .int .i64 j ∧ OfS W m x (.slice (some ⟨bo, oo, none⟩) n dc) vr r3 v3 wr ∧ Sp.RB 16008003 r3 ∧ Sp.rnamesSyms dk (dsy.drop j) r3 = R2)
      case atStart => exact ⟨0, r, v, Nat.zero_le _, rfl, rfl, HS.out, HRB.out, HRI.out.symm⟩
      case round =>
        obtain ⟨j, r3, v3, hj, rfl, rfl, hS3, hrb3, hR3⟩ := hrel
        obtain ⟨wj, hwj⟩ : ∃ wj : World, wj = wr := ⟨_, rfl⟩
        subst hwj
        have HS3 := Lib.hid hS3; have HRB3 := Lib.hid hrb3; have HR4 := Lib.hid hR3
        have hj0 : (0 : Int) ≤ (j : Int) := Int.natCast_nonneg _
        have s1 : wj.cell? ⟨W.heap.size, 1, none⟩ = some (.slice (some ⟨bo, oo, none⟩) n dc) := cell_at (i := 1) hS3.sbox
        have ls := lt_at hS3.sbox
        obtain ⟨c0, c2, lb⟩ := HCO.out wj hS3.bel
        clear hS3 hrb3 hR3
        by_cases hjn : j < sn
        · have hj1 : (j : Int) < (sn : Int) := by omega
          have hjd : j < dsy.length := by have := HSN.out; omega
          obtain ⟨⟨nm, lt, nu, pa⟩, hjk, hjr, hjm⟩ := at_drop hjd
          obtain ⟨bs, os, rfl, hbs, hcs⟩ := HSY.out.at (k := j) (row := symC ⟨nm, lt, nu, pa⟩) (by rw [List.getElem?_map, hjk]; rfl)
          have hR3 := HR4.out
          rw [hjr, Sp.rnamesSyms_cons] at hR3
          have hcc := hcs wj HS3.out.bel
          have g0 := hcc 0 _ rfl; have g1 := hcc 1 _ rfl; have g2 := hcc 2 _ rfl; have g3 := hcc 3 _ rfl
          simp only [Nat.add_zero] at g0
          have lbs : bs < wj.heap.size := by have := HS3.out.bel.size; omega
          have HR5 := Lib.hid hR3
          clear hjk hjr hjm hcs hR3 HR4 hcc hbs
          obtain ⟨bx, hbx⟩ : ∃ bx, bx = wj.heap.size := ⟨_, rfl⟩
          obtain ⟨w1, hw1⟩ : ∃ w1, w1 = wj.alloc (.cells #[.string ⟨nm.toArray⟩, .bool lt, .int .i64 nu, .int .i64 pa] 40) := ⟨_, rfl⟩
          have hb1 : Below wj.heap.size wj w1 := by rw [hw1]; exact (Below.refl _ wj).alloc (Nat.le_refl _) _
          have hx1 : w1.heap[bx]? = some (.cells #[.string ⟨nm.toArray⟩, .bool lt, .int .i64 nu, .int .i64 pa] 40 (0, 0)) := by rw [hw1, hbx]; exact heap_last wj _
          have HS1 := Lib.hid (HS3.out.below hb1)
          have HX := Lib.hid hx1
          go_upto_region 35 with fail
          rw [← hbx, ← hw1]
          clear c0 c2 lb g0 g1 g2 g3 lbs hw1 hbx hb1 s1 ls
          have t1 : w1.cell? ⟨W.heap.size, 1, none⟩ = some (.slice (some ⟨bo, oo, none⟩) n dc) := cell_at (i := 1) HS1.out.sbox
          have lt1 := lt_at HS1.out.sbox
          obtain ⟨c0, c2, lb⟩ := HCO.out w1 HS1.out.bel
          have x0 := cell_at (i := 0) hx1; have x3 := cell_at (i := 3) hx1
          have lx := lt_at hx1
          clear hx1
          obtain ⟨bb, hbb⟩ : ∃ bb : Bool, bb = (decide (5 ≤ dk) && (Sp.rleft r3.lefts nm).isNone) := ⟨_, rfl⟩
          have hst : Sp.rnameSym dk r3 ⟨nm, lt, nu, pa⟩ = if bb = true then Sp.rfail r3 pa nm else r3 := by
            rw [hbb]
            unfold Sp.rnameSym
            simp only [Bool.and_eq_true, decide_eq_true_eq]
          have HBB := Lib.hid hbb; have HST := Lib.hid hst
          clear hbb hst
          go_cut [188] from 155 to 194 (fun c wx => c = .bool bb ∧ w1 = wx)
          case first =>
            by_cases h5 : 5 ≤ dk
            · have e5 : decide (5 ≤ dk) = true := decide_eq_true h5
              go_wp2_with fail
              refine (ref_left nm HS1.out.mkr HRB3.out (by omega)).mono ?_
              rintro e w' ⟨rfl, rfl⟩
              have e := HBB.out
              rw [e5] at e
              cases ho : Sp.rleft r3.lefts nm with
              | some t =>
                have ht0 : (0 : Int) ≤ (t : Int) := Int.natCast_nonneg _
                rw [ho] at e
                subst e
                clear ho
                dsimp only [ixI]
                go_wp2_with fail
                go_meet
                exact ⟨rfl, rfl⟩
              | none =>
                rw [ho] at e
                subst e
                clear ho
                dsimp only [ixI]
                go_wp2_with fail
                go_meet
                exact ⟨rfl, rfl⟩
            · have e5 : decide (5 ≤ dk) = false := decide_eq_false h5
              have e := HBB.out
              rw [e5] at e
              subst e
              go_wp2_with fail
              go_meet
              exact ⟨rfl, rfl⟩
          case rest =>
            obtain ⟨rfl, rfl⟩ := hcut
            have HR6 := HR5.out
            rw [HST.out] at HR6
            cases bb with
            | true =>
              rw [if_pos rfl] at HR6
              go_wp2_with fail
              refine (ref_fail pa nm HS1.out.mkr).mono ?_
              rintro e w5 ⟨rfl, h5, hf5, _⟩
              have hS5 := HS1.out.rfr h5 hf5
              have HS5 := Lib.hid hS5
              clear h5 hf5 hS5
              go_wp2_with fail
              go_roundg (sn - (j + 1))
              case measure => omega
              case rel => exact ⟨j + 1, _, v3, by omega, rfl, by go_num, HS5.out, Sp.rfail_RB _ _ HRB3.out, HR6⟩
            | false =>
              rw [if_neg (by simp)] at HR6
              go_wp2_with fail
              go_roundg (sn - (j + 1))
              case measure => omega
              case rel => exact ⟨j + 1, r3, v3, by omega, rfl, by go_num, HS1.out, HRB3.out, HR6⟩
        · obtain rfl : j = sn := by omega
          have hRe : r3 = R2 := by
            have h := HR4.out
            rw [List.drop_eq_nil_of_le (by rw [HSN.out]; exact Nat.le_refl _)] at h
            exact h
          have HRE := Lib.hid hRe
          clear hRe HR4
          go_wp2_with fail
          go_roundg (n - (ko + 1))
          case measure => omega
          case rel => exact ⟨ko + 1, r3, v3, by omega, rfl, by go_num, HS3.out, HRB3.out, by rw [HRE.out]; exact HR3.out⟩
    · obtain rfl : ko = n := by omega
      have hRe : r = RR := by
        have h := HRR.out
        rw [List.drop_eq_nil_of_le (by rw [HNE.out]; exact Nat.le_refl _)] at h
        exact h
      subst hRe
      clear HRR
      go_wp2_with fail
      exact HKK.out _ _ _ _ _ _ _ _ _ _ _ _ _ _ _ _ _ _ _ _ _ _ _ _ _ _ _ _ _ _ _ _ _ _ _ _ _ _ _ _ _ _ _ _ _ _ _ _ _ _ _ v HS.out HRB.out
end Go.Proofs.YtphdfbmmjkccgaaDoor
