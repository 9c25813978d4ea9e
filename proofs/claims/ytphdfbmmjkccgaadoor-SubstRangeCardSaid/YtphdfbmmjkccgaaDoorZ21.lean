/- yuccaref9.Of behind its last loop. yuccaref9.Of behind its rules, where there is no fault, up to its last loop. Plain: what a source that may be holds (for the document's Of). -/
import Derived.Test.YtphdfbmmjkccgaaDoorZ20
import Derived.Test.YtphdfbmmjkccgaaDoorZ18
namespace Go.Proofs.YtphdfbmmjkccgaaDoor
open Go.RowKit Go.Maps

set_option maxRecDepth 100000 in
set_option maxHeartbeats 12800000 in
theorem of_end {W w9 : World} {m : Nat} {x : Sp.Source} {da : Option Addr} {dn dc bo oo rn rc : Nat} {r6 : Sp.Rk} {v9 : RkV} {L : List Sp.Non}
    (u0 u3 u4 u5 u7 u8 u9 u10 u11 u12 u13 u14 u15 u16 u17 u18 u19 u20 u21 u22 u23 u25 u26 u27 u28 u29 u30 u31 u32 u33 u34 u35 u36 u37 u38 u39 u40 u41 u42 u43 u44 u45 u46 u47 u48 u49 u50 u51 u52 u53 u54 u55 u56 u57 u58 u59 u60 u61 u62 u63 u64 u65 u66 u67 u68 u69 u70 u71 u72 u73 u74 u75 u76 u77 u78 u79 u80 u81 u82 u83 u84 u85 u86 u87 u88 u89 u90 u91 u92 u93 u94 u95 u96 u97 u98 u99 u100 u101 u102 u103 u104 u105 u106 u107 u108 u109 u110 u111 u112 u113 u114 u115 u116 u117 u118 u119 u120 u121 u122 u123 u124 u125 u126 u127 u128 u129 u130 u131 u132 u133 u134 u135 u136 u137 u138 u139 u140 u141 u142 u143 u144 u145 u146 u147 u148 u149 u150 u151 u152 u153 u154 u155 u156 u157 u158 u159 u160 u161 u162 u163 u164 u165 u166 u167 u168 u169 u170 u171 u172 u173 u174 u175 u176 u177 u178 u179 u180 u181 u182 u183 u184 u185 u186 u187 u188 u189 u190 u191 u192 u193 u194 u195 u196 u197 u198 u199 u200 u201 u202 u203 u204 u205 u206 u207 u208 u209 u210 u211 u212 u213 u214 u215 u216 u217 u218 u219 u220 u221 u222 u223 u224 u225 u226 u227 u228 u229 u230 u231 u232 u233 u234 u235 u236 u237 u238 u239 u240 u241 u242 u243 u244 u245 u246 u247 u248 u249 u250 u251 u252 u253 u254 u255 u256 u257 u258 u259 u260 u261 u262 u263 u264 u265 u266 u267 u268 u269 u270 u271 u272 u273 u274 u275 u276 u277 u278 u279 u280 u281 u282 u283 u284 u285 u286 u287 u288 u289 u290 u291 u292 u293 u294 u295 u296 u297 u298 u299 u300 u301 u302 u303 u304 u305 u306 u307 u308 u309 u310 u311 u312 u313 u314 u315 u316 u317 u318 u319 u320 u321 u322 u323 u324 u325 u326 u327 u328 u329 u330 u331 u332 u333 u334 u335 u336 u337 u338 u339 u340 u341 u342 u343 u344 u345 u346 u347 u348 u349 u350 u351 u352 u353 u354 u355 u356 u357 u358 u359 u360 u361 u362 u363 u364 u365 u366 u367 u368 u369 u370 u371 u372 u373 u374 u375 u376 u377 u378 u379 u380 u381 u382 u383 u384 u385 u386 u387 u388 u389 u390 u391 u392 u393 u394 u395 u396 u397 u398 u399 u400 u401 u402 u403 u404 u405 u406 u407 u408 u409 u410 u411 u412 u413 u414 u415 u416 u417 u418 u419 u420 u421 u422 u423 u424 u425 u426 u427 u428 u429 u430 u431 u432 u433 u434 : Value) (Q : Exit → Act → World → Prop)
    (hS : OfN W m x (.slice da dn dc) (.slice (some ⟨bo, oo, none⟩) rn rc) { r6 with toks := Sp.rnumbers r6 } v9 L w9) (hLn : L = Sp.rnons r6) (hr6 : r6 = Sp.rmade x) (hm : Sp.may x = true) (hf : (Sp.rmade x).fault.err = 0)
    (hQ : ∀ c (t : Array Value) (a : Act) w, Q (.panic c) ⟨t, a.defers⟩ w → Q (.panic c) a w)
    (hR : ∀ a w, bodyPost Tryd.prog Tryd.f24 (ROfPost W (Sp.refGram x)) .ret a w → Q .ret a w) :
    Code.wp Tryd.prog (ofRest 20) Q ⟨#[u0, .pointer (some ⟨W.heap.size, 0, none⟩), .pointer (some ⟨W.heap.size + 1, 0, none⟩), u3, u4, u5, .pointer (some ⟨m, 0, none⟩), u7, u8, u9, u10, u11, u12, u13, u14, u15, u16, u17, u18, u19, u20, u21, u22, u23, .bool (Sp.rgreat r6), u25, u26, u27, u28, u29, u30, u31, u32, u33, u34, u35, u36, u37, u38, u39, u40, u41, u42, u43, u44, u45, u46, u47, u48, u49, u50, u51, u52, u53, u54, u55, u56, u57, u58, u59, u60, u61, u62, u63, u64, u65, u66, u67, u68, u69, u70, u71, u72, u73, u74, u75, u76, u77, u78, u79, u80, u81, u82, u83, u84, u85, u86, u87, u88, u89, u90, u91, u92, u93, u94, u95, u96, u97, u98, u99, u100, u101, u102, u103, u104, u105, u106, u107, u108, u109, u110, u111, u112, u113, u114, u115, u116, u117, u118, u119, u120, u121, u122, u123, u124, u125, u126, u127, u128, u129, u130, u131, u132, u133, u134, u135, u136, u137, u138, u139, u140, u141, u142, u143, u144, u145, u146, u147, u148, u149, u150, u151, u152, u153, u154, u155, u156, u157, u158, u159, u160, u161, u162, u163, u164, u165, u166, u167, u168, u169, u170, u171, u172, u173, u174, u175, u176, u177, u178, u179, u180, u181, u182, u183, u184, u185, u186, u187, u188, u189, u190, u191, u192, u193, u194, u195, u196, u197, u198, u199, u200, u201, u202, u203, u204, u205, u206, u207, u208, u209, u210, u211, u212, u213, u214, u215, u216, u217, u218, u219, u220, u221, u222, u223, u224, u225, u226, u227, u228, u229, u230, u231, u232, u233, u234, u235, u236, u237, u238, u239, u240, u241, u242, u243, u244, u245, u246, u247, u248, u249, u250, u251, u252, u253, u254, u255, u256, u257, u258, u259, u260, u261, u262, u263, u264, u265, u266, u267, u268, u269, u270, u271, u272, u273, u274, u275, u276, u277, u278, u279, u280, u281, u282, u283, u284, u285, u286, u287, u288, u289, u290, u291, u292, u293, u294, u295, u296, u297, u298, u299, u300, u301, u302, u303, u304, u305, u306, u307, u308, u309, u310, u311, u312, u313, u314, u315, u316, u317, u318, u319, u320, u321, u322, u323, u324, u325, u326, u327, u328, u329, u330, u331, u332, u333, u334, u335, u336, u337, u338, u339, u340, u341, u342, u343, u344, u345, u346, u347, u348, u349, u350, u351, u352, u353, u354, u355, u356, u357, u358, u359, u360, u361, u362, u363, u364, u365, u366, u367, u368, u369, u370, u371, u372, u373, u374, u375, u376, u377, u378, u379, u380, u381, u382, u383, u384, u385, u386, u387, u388, u389, u390, u391, u392, u393, u394, u395, u396, u397, u398, u399, u400, u401, u402, u403, u404, u405, u406, u407, u408, u409, u410, u411, u412, u413, u414, u415, u416, u417, u418, u419, u420, u421, u422, u423, u424, u425, u426, u427, u428, u429, u430, u431, u432, u433, u434], []⟩ w9 := by
  have HRR := Lib.hid hR
  clear hR
  conv => arg 2; whnf
  obtain ⟨ta, tc, htv⟩ := ownsRowS_some hS.os.mkr.toks
  obtain ⟨na, nc, hnv⟩ := ownsRowS_some hS.nons
  obtain ⟨fo, go, hpo, hpc⟩ := hS.os.mkr.prods
  obtain ⟨qa, qc, hqv⟩ := ownsRowS_some hpo
  simp only at htv
  obtain ⟨tn, htn⟩ : ∃ tn, tn = (Sp.rnumbers r6).length := ⟨_, rfl⟩
  obtain ⟨nn, hnn⟩ : ∃ nn, nn = L.length := ⟨_, rfl⟩
  obtain ⟨pn, hpn⟩ : ∃ pn, pn = r6.prods.length := ⟨_, rfl⟩
  rw [← htn] at htv
  rw [← hnn] at hnv
  rw [← hpn] at hqv
  have hmb := hS.os.mkr.block
  unfold rkCells at hmb
  simp only at hmb
  rw [htv, hnv, hqv] at hmb
  have HMB := Lib.hid hmb; have HTV := Lib.hid htv; have HNV := Lib.hid hnv; have HQV := Lib.hid hqv; have HTN := Lib.hid htn; have HNN := Lib.hid hnn; have HPN := Lib.hid hpn; have HLN := Lib.hid hLn
  have HS11 := Lib.hid hS
  have HM11 := Lib.hid hmb
  have HR6 := Lib.hid hr6; have HFE := Lib.hid hf
  clear hmb htv hnv hqv htn hnn hpn hLn hpo hpc hS hr6 hf
  have hgb := HS11.out.os.gbox
  have b0 := cell_at (i := 0) hgb; have b1 := cell_at (i := 1) hgb; have b2 := cell_at (i := 2) hgb; have b3 := cell_at (i := 3) hgb; have b4 := cell_at (i := 4) hgb
  have fz0 := frozen_at (i := 0) hgb; have fz1 := frozen_at (i := 1) hgb; have fz2 := frozen_at (i := 2) hgb; have fz3 := frozen_at (i := 3) hgb; have fz4 := frozen_at (i := 4) hgb
  have lg := lt_at hgb
  have HGB := Lib.hid hgb
  clear hgb
  cases hrr : Sp.rgreat r6 with
  | true =>
    have E : Hid (Sp.refGram x = (Sp.noGram, ⟨4, 0, []⟩)) := Lib.hid (Sp.refGram_great hm HFE.out (by rw [← HR6.out]; exact hrr))
    clear hrr
    go_wp2_with fail
    refine HRR.out _ _ ?_
    refine ret_cell_tmp3 (g := W.heap.size + 1) (cs := #[.slice none 0 0, .slice none 0 0, .slice none 0 0, .string ⟨#[]⟩, .string ⟨#[]⟩]) (t := 58) (fr := (0, 0)) rfl rfl ?hg rfl Tryd.underlying58 (by kernel_rfl) rfl ?hr
    case hg => exact heap_setCell_at (heap_setCell_at (heap_setCell_at (heap_setCell_at (heap_setCell_at HGB.out))))
    case hr =>
      rw [E.out]
      exact ⟨HS11.out.os.bel.trans ((((((Below.refl _ w9).setCell (by simp) _).setCell (by simp) _).setCell (by simp) _).setCell (by simp) _).setCell (by simp) _), _, rfl, gramOwn_none _⟩
  | false =>
    have E : Hid (Sp.refGram x = (⟨Sp.rnumbers r6, Sp.rnons r6, r6.prods, x.pro, x.tail⟩, Sp.okFault)) := Lib.hid (by
      have h := Sp.refGram_fine hm HFE.out (by rw [← HR6.out]; exact hrr)
      rw [← HR6.out] at h
      exact h)
    have m3 := cell_at (i := 3) HM11.out; have m4 := cell_at (i := 4) HM11.out
    have f3 := frozen_at (i := 3) HM11.out; have f4 := frozen_at (i := 4) HM11.out
    have lm := lt_at HM11.out
    have hne : ¬ W.heap.size = m := fun e => by
      have h2 := HS11.out.os.sbox
      rw [e, HM11.out] at h2
      simp only [Option.some.injEq, Obj.cells.injEq] at h2
      exact absurd h2.2.1 (by decide)
    have HNE2 := Lib.hid hne
    have HSX := Lib.hid (fun (w' : World) (kp : Kp (fun b => b ≠ m) w9 w') => (show ((w'.cell? ⟨W.heap.size, 0, none⟩ = some (.string ⟨x.pro.toArray⟩) ∧ w'.cell? ⟨W.heap.size, 3, none⟩ = some (.string ⟨x.tail.toArray⟩)) ∧ W.heap.size < w'.heap.size) from by
      have h1 := kp.at HS11.out.os.sbox HNE2.out
      exact ⟨⟨cell_at (i := 0) h1, cell_at (i := 3) h1⟩, lt_at h1⟩))
    clear hrr hne b0 b1 b2 b3 b4 fz0 fz1 fz2 fz3 fz4 lg
    go_upto_region 76 with fail
    refine wp_region_plan (fun w' : World => ((w'.cell? ⟨W.heap.size, 0, none⟩ = some (.string ⟨x.pro.toArray⟩) ∧ w'.cell? ⟨W.heap.size, 3, none⟩ = some (.string ⟨x.tail.toArray⟩)) ∧ W.heap.size < w'.heap.size)) [13] (.take 0 (.take 1 (.take 2 (.take 3 (.take 4 (.take 5 (.one 6 (.one 7 (.one 8 (.one 9 (.one 10 (.one 11 (.one 12 (.one 13 (.done))))))))))))))) (by kernel_rfl) (by kernel_rfl) (fun c t a w h => hQ c t a w h) ?_
    have hSw := HSX.out _ ((Kp.refl _ w9).drew)
    refine wpPlan_takeD (v := ?vn14) rfl rfl hSw (by rfl) ?yn14 ?_
    case yn14 => (intro w hSx; (try dsimp only at hSx); go_simp; first | done | with_reducible rfl | rfl)
    (try simp only [Act.put, List.setIfInBounds_toArray, List.set_cons_zero, List.set_cons_succ])
    refine wpPlan_takeD (v := ?vn15) rfl rfl hSw (by rfl) ?yn15 ?_
    case yn15 => (intro w hSx; (try dsimp only at hSx); go_simp; first | done | with_reducible rfl | rfl)
    (try simp only [Act.put, List.setIfInBounds_toArray, List.set_cons_zero, List.set_cons_succ])
    refine wpPlan_takeD (v := ?vn16) rfl rfl hSw (by rfl) ?yn16 ?_
    case yn16 => (intro w hSx; (try dsimp only at hSx); go_simp; first | done | with_reducible rfl | rfl)
    (try simp only [Act.put, List.setIfInBounds_toArray, List.set_cons_zero, List.set_cons_succ])
    refine wpPlan_takeD (v := ?vn17) rfl rfl hSw (by rfl) ?yn17 ?_
    case yn17 => (intro w hSx; (try dsimp only at hSx); go_simp; first | done | with_reducible rfl | rfl)
    (try simp only [Act.put, List.setIfInBounds_toArray, List.set_cons_zero, List.set_cons_succ])
    refine wpPlan_takeD (v := ?vn18) rfl rfl hSw (by rfl) ?yn18 ?_
    case yn18 => (intro w hSx; (try dsimp only at hSx); go_simp; first | done | with_reducible rfl | rfl)
    (try simp only [Act.put, List.setIfInBounds_toArray, List.set_cons_zero, List.set_cons_succ])
    refine wpPlan_takeD (v := ?vn19) rfl rfl hSw (by rfl) ?yn19 ?_
    case yn19 => (intro w hSx; (try dsimp only at hSx); go_simp; first | done | with_reducible rfl | rfl)
    (try simp only [Act.put, List.setIfInBounds_toArray, List.set_cons_zero, List.set_cons_succ])
    refine wpPlan_run rfl (by rfl) (fun K' hK => ?_)
    go_simp
    refine hK _ _ (.inr ?_) ?_
    · exact HSX.out _ ((Kp.refl _ w9).drew)
    clear hK K' hSw
    (try simp only [Act.put, List.setIfInBounds_toArray, List.set_cons_zero, List.set_cons_succ])
    refine wpPlan_run rfl (by rfl) (fun K' hK => ?_)
    go_simp
    refine hK _ _ (.inr ?_) ?_
    · exact HSX.out _ ((Kp.refl _ w9).drew)
    clear hK K'
    (try simp only [Act.put, List.setIfInBounds_toArray, List.set_cons_zero, List.set_cons_succ])
    refine wpPlan_run rfl (by rfl) (fun K' hK => ?_)
    go_simp
    refine hK _ _ (.inr ?_) ?_
    · exact HSX.out _ ((Kp.refl _ w9).drew)
    clear hK K'
    (try simp only [Act.put, List.setIfInBounds_toArray, List.set_cons_zero, List.set_cons_succ])
    refine wpPlan_run rfl (by rfl) (fun K' hK => ?_)
    go_simp
    refine hK _ _ (.inr ?_) ?_
    · exact HSX.out _ (((Kp.refl _ w9).setCell (p := ⟨m, 3, none⟩) (by simp) (.string ⟨x.pro.toArray⟩)).drew)
    clear hK K'
    (try simp only [Act.put, List.setIfInBounds_toArray, List.set_cons_zero, List.set_cons_succ])
    refine wpPlan_run rfl (by rfl) (fun K' hK => ?_)
    go_simp
    refine hK _ _ (.inr ?_) ?_
    · exact HSX.out _ (((Kp.refl _ w9).setCell (p := ⟨m, 3, none⟩) (by simp) (.string ⟨x.pro.toArray⟩)).drew)
    clear hK K'
    (try simp only [Act.put, List.setIfInBounds_toArray, List.set_cons_zero, List.set_cons_succ])
    refine wpPlan_run rfl (by rfl) (fun K' hK => ?_)
    go_simp
    refine hK _ _ (.inr ?_) ?_
    · exact HSX.out _ (((Kp.refl _ w9).setCell (p := ⟨m, 3, none⟩) (by simp) (.string ⟨x.pro.toArray⟩)).drew)
    clear hK K'
    (try simp only [Act.put, List.setIfInBounds_toArray, List.set_cons_zero, List.set_cons_succ])
    refine wpPlan_run rfl (by rfl) (fun K' hK => ?_)
    go_simp
    refine hK _ _ (.inr ?_) ?_
    · exact HSX.out _ (((Kp.refl _ w9).setCell (p := ⟨m, 3, none⟩) (by simp) (.string ⟨x.pro.toArray⟩)).drew)
    clear hK K'
    (try simp only [Act.put, List.setIfInBounds_toArray, List.set_cons_zero, List.set_cons_succ])
    refine wpPlan_run rfl (by rfl) (fun K' hK => ?_)
    go_simp
    refine hK _ _ (.inl rfl) ?_
    clear hK K'
    (try simp only [Act.put, List.setIfInBounds_toArray, List.set_cons_zero, List.set_cons_succ])
    refine wpPlan_done ?_
    obtain ⟨wY, hwY⟩ : ∃ wY : World, wY = (w9.setCell ⟨m, 3, none⟩ (.string ⟨x.pro.toArray⟩)).setCell ⟨m, 4, none⟩ (.string ⟨x.tail.toArray⟩) := ⟨_, rfl⟩
    go_upto_region 77 with fail
    rw [← hwY]
    have zz := heap_setCell_at (i := 4) (v := .string ⟨x.tail.toArray⟩) (heap_setCell_at (i := 3) (v := .string ⟨x.pro.toArray⟩) HM11.out)
    rw [← hwY] at zz
    have kY : KpT (fun t => t ≠ 112) w9 wY := by rw [hwY]; exact KpT.setCell (KpT.setCell (fun _ _ _ _ h _ => h) HM11.out (by simp) _) (heap_setCell_at HM11.out) (by simp) _
    have bY : Below W.heap.size w9 wY := by
      rw [hwY]
      have hB := HS11.out.os.mkr.behind
      exact Kp.below (S := fun b => b < W.heap.size) (((Kp.refl _ w9).setCell (p := ⟨m, 3, none⟩) (by simp only; omega) _).setCell (p := ⟨m, 4, none⟩) (by simp only; omega) _) HS11.out.os.bel.size (fun b hb => hb)
    have z0 : wY.cell? ⟨m, 0, none⟩ = some (.slice ta tn tc) := cell_at (i := 0) zz
    have z1 : wY.cell? ⟨m, 1, none⟩ = some (.slice na nn nc) := cell_at (i := 1) zz
    have z2 : wY.cell? ⟨m, 2, none⟩ = some (.slice qa pn qc) := cell_at (i := 2) zz
    have z3 : wY.cell? ⟨m, 3, none⟩ = some (.string ⟨x.pro.toArray⟩) := cell_at (i := 3) zz
    have z4 : wY.cell? ⟨m, 4, none⟩ = some (.string ⟨x.tail.toArray⟩) := cell_at (i := 4) zz
    have lmY := lt_at zz
    have hgY := kY _ _ _ _ HGB.out (by decide)
    have b0 := cell_at (i := 0) hgY; have b1 := cell_at (i := 1) hgY; have b2 := cell_at (i := 2) hgY; have b3 := cell_at (i := 3) hgY; have b4 := cell_at (i := 4) hgY
    have fz0 := frozen_at (i := 0) hgY; have fz1 := frozen_at (i := 1) hgY; have fz2 := frozen_at (i := 2) hgY; have fz3 := frozen_at (i := 3) hgY; have fz4 := frozen_at (i := 4) hgY
    have lg := lt_at hgY
    have HGY := Lib.hid hgY; have HKY := Lib.hid kY; have HBY := Lib.hid bY
    clear zz hgY kY bY hwY m3 m4 f3 f4 lm HSX
    go_wp2_with fail
    refine HRR.out _ _ ?_
    refine ret_cell_tmp3 (g := W.heap.size + 1) (cs := #[.slice ta tn tc, .slice na nn nc, .slice qa pn qc, .string ⟨x.pro.toArray⟩, .string ⟨x.tail.toArray⟩]) (t := 58) (fr := (0, 0)) rfl rfl ?hg rfl Tryd.underlying58 (by kernel_rfl) rfl ?hr
    case hg => exact heap_setCell_at (heap_setCell_at (heap_setCell_at (heap_setCell_at (heap_setCell_at HGY.out))))
    case hr =>
      rw [E.out]
      have hT := HTN.out; have hN := HNN.out; have hP := HPN.out; have hLL := HLN.out
      have hV := HTV.out; have hV2 := HNV.out; have hV3 := HQV.out
      rw [hT] at hV
      rw [hN] at hV2
      rw [hP] at hV3
      rw [hT, hN, hP, ← hLL]
      obtain ⟨q1, q2⟩ := of_last (wF := (((((wY.setCell ⟨W.heap.size + 1, 0, none⟩ (.slice ta tn tc)).setCell ⟨W.heap.size + 1, 1, none⟩ (.slice na nn nc)).setCell ⟨W.heap.size + 1, 2, none⟩ (.slice qa pn qc)).setCell ⟨W.heap.size + 1, 3, none⟩ (.string ⟨x.pro.toArray⟩)).setCell ⟨W.heap.size + 1, 4, none⟩ (.string ⟨x.tail.toArray⟩)).drew) HS11.out HKY.out HBY.out HGY.out (((((((Kp.refl _ wY).setCell (p := ⟨W.heap.size + 1, 0, none⟩) (by simp) (.slice ta tn tc)).setCell (p := ⟨W.heap.size + 1, 1, none⟩) (by simp) (.slice na nn nc)).setCell (p := ⟨W.heap.size + 1, 2, none⟩) (by simp) (.slice qa pn qc)).setCell (p := ⟨W.heap.size + 1, 3, none⟩) (by simp) (.string ⟨x.pro.toArray⟩)).setCell (p := ⟨W.heap.size + 1, 4, none⟩) (by simp) (.string ⟨x.tail.toArray⟩)).drew) hV hV2 hV3
      rw [hT, hN, hP] at q1 q2
      exact ⟨q1, _, rfl, q2⟩
end Go.Proofs.YtphdfbmmjkccgaaDoor

namespace Go.Proofs.YtphdfbmmjkccgaaDoor
open Go.RowKit Go.Maps

set_option maxRecDepth 100000 in
set_option maxHeartbeats 12800000 in
theorem of_good {W w6 : World} {m : Nat} {x : Sp.Source} {da : Option Addr} {dn dc bo oo rn rc : Nat} {r6 : Sp.Rk} {v6 : RkV}
    (u0 u3 u4 u5 u7 u8 u9 u10 u11 u12 u13 u14 u15 u16 u17 u18 u19 u20 u21 u22 u23 u24 u25 u26 u27 u28 u29 u30 u31 u32 u33 u34 u35 u36 u37 u38 u39 u40 u41 u42 u43 u44 u45 u46 u47 u48 u49 u50 u51 u52 u53 u54 u55 u56 u57 u58 u59 u60 u61 u62 u63 u64 u65 u66 u67 u68 u69 u70 u71 u72 u73 u74 u75 u76 u77 u78 u79 u80 u81 u82 u83 u84 u85 u86 u87 u88 u89 u90 u91 u92 u93 u94 u95 u96 u97 u98 u99 u100 u101 u102 u103 u104 u105 u106 u107 u108 u109 u110 u111 u112 u113 u114 u115 u116 u117 u118 u119 u120 u121 u122 u123 u124 u125 u126 u127 u128 u129 u130 u131 u132 u133 u134 u135 u136 u137 u138 u139 u140 u141 u142 u143 u144 u145 u146 u147 u148 u149 u150 u151 u152 u153 u154 u155 u156 u157 u158 u159 u160 u161 u162 u163 u164 u165 u166 u167 u168 u169 u170 u171 u172 u173 u174 u175 u176 u177 u178 u179 u180 u181 u182 u183 u184 u185 u186 u187 u188 u189 u190 u191 u192 u193 u194 u195 u196 u197 u198 u199 u200 u201 u202 u203 u204 u205 u206 u207 u208 u209 u210 u211 u212 u213 u214 u215 u216 u217 u218 u219 u220 u221 u222 u223 u224 u225 u226 u227 u228 u229 u230 u231 u232 u233 u234 u235 u236 u237 u238 u239 u240 u241 u242 u243 u244 u245 u246 u247 u248 u249 u250 u251 u252 u253 u254 u255 u256 u257 u258 u259 u260 u261 u262 u263 u264 u265 u266 u267 u268 u269 u270 u271 u272 u273 u274 u275 u276 u277 u278 u279 u280 u281 u282 u283 u284 u285 u286 u287 u288 u289 u290 u291 u292 u293 u294 u295 u296 u297 u298 u299 u300 u301 u302 u303 u304 u305 u306 u307 u308 u309 u310 u311 u312 u313 u314 u315 u316 u317 u318 u319 u320 u321 u322 u323 u324 u325 u326 u327 u328 u329 u330 u331 u332 u333 u334 u335 u336 u337 u338 u339 u340 u341 u342 u343 u344 u345 u346 u347 u348 u349 u350 u351 u352 u353 u354 u355 u356 u357 u358 u359 u360 u361 u362 u363 u364 u365 u366 u367 u368 u369 u370 u371 u372 u373 u374 u375 u376 u377 u378 u379 u380 u381 u382 u383 u384 u385 u386 u387 u388 u389 u390 u391 u392 u393 u394 u395 u396 u397 u398 u399 u400 u401 u402 u403 u404 u405 u406 u407 u408 u409 u410 u411 u412 u413 u414 u415 u416 u417 u418 u419 u420 u421 u422 u423 u424 u425 u426 u427 u428 u429 u430 u431 u432 u433 u434 : Value) (Q : Exit → Act → World → Prop)
    (hS6 : OfS W m x (.slice da dn dc) (.slice (some ⟨bo, oo, none⟩) rn rc) r6 v6 w6) (hrb6 : Sp.RB (2 ^ 38) r6) (hr6 : r6 = Sp.rmade x) (hm : Sp.may x = true)
    (hin : (Sp.rmade x).inner ≤ 60000) (hf : (Sp.rmade x).fault.err = 0)
    (hQ : ∀ c (t : Array Value) (a : Act) w, Q (.panic c) ⟨t, a.defers⟩ w → Q (.panic c) a w)
    (hR : ∀ a w, bodyPost Tryd.prog Tryd.f24 (ROfPost W (Sp.refGram x)) .ret a w → Q .ret a w) :
    Code.wp Tryd.prog (ofRest 10) Q ⟨#[u0, .pointer (some ⟨W.heap.size, 0, none⟩), .pointer (some ⟨W.heap.size + 1, 0, none⟩), u3, u4, u5, .pointer (some ⟨m, 0, none⟩), u7, u8, u9, u10, u11, u12, u13, u14, u15, u16, u17, u18, u19, u20, u21, u22, u23, u24, u25, u26, u27, u28, u29, u30, u31, u32, u33, u34, u35, u36, u37, u38, u39, u40, u41, u42, u43, u44, u45, u46, u47, u48, u49, u50, u51, u52, u53, u54, u55, u56, u57, u58, u59, u60, u61, u62, u63, u64, u65, u66, u67, u68, u69, u70, u71, u72, u73, u74, u75, u76, u77, u78, u79, u80, u81, u82, u83, u84, u85, u86, u87, u88, u89, u90, u91, u92, u93, u94, u95, u96, u97, u98, u99, u100, u101, u102, u103, u104, u105, u106, u107, u108, u109, u110, u111, u112, u113, u114, u115, u116, u117, u118, u119, u120, u121, u122, u123, u124, u125, u126, u127, u128, u129, u130, u131, u132, u133, u134, u135, u136, u137, u138, u139, u140, u141, u142, u143, u144, u145, u146, u147, u148, u149, u150, u151, u152, u153, u154, u155, u156, u157, u158, u159, u160, u161, u162, u163, u164, u165, u166, u167, u168, u169, u170, u171, u172, u173, u174, u175, u176, u177, u178, u179, u180, u181, u182, u183, u184, u185, u186, u187, u188, u189, u190, u191, u192, u193, u194, u195, u196, u197, u198, u199, u200, u201, u202, u203, u204, u205, u206, u207, u208, u209, u210, u211, u212, u213, u214, u215, u216, u217, u218, u219, u220, u221, u222, u223, u224, u225, u226, u227, u228, u229, u230, u231, u232, u233, u234, u235, u236, u237, u238, u239, u240, u241, u242, u243, u244, u245, u246, u247, u248, u249, u250, u251, u252, u253, u254, u255, u256, u257, u258, u259, u260, u261, u262, u263, u264, u265, u266, u267, u268, u269, u270, u271, u272, u273, u274, u275, u276, u277, u278, u279, u280, u281, u282, u283, u284, u285, u286, u287, u288, u289, u290, u291, u292, u293, u294, u295, u296, u297, u298, u299, u300, u301, u302, u303, u304, u305, u306, u307, u308, u309, u310, u311, u312, u313, u314, u315, u316, u317, u318, u319, u320, u321, u322, u323, u324, u325, u326, u327, u328, u329, u330, u331, u332, u333, u334, u335, u336, u337, u338, u339, u340, u341, u342, u343, u344, u345, u346, u347, u348, u349, u350, u351, u352, u353, u354, u355, u356, u357, u358, u359, u360, u361, u362, u363, u364, u365, u366, u367, u368, u369, u370, u371, u372, u373, u374, u375, u376, u377, u378, u379, u380, u381, u382, u383, u384, u385, u386, u387, u388, u389, u390, u391, u392, u393, u394, u395, u396, u397, u398, u399, u400, u401, u402, u403, u404, u405, u406, u407, u408, u409, u410, u411, u412, u413, u414, u415, u416, u417, u418, u419, u420, u421, u422, u423, u424, u425, u426, u427, u428, u429, u430, u431, u432, u433, u434], []⟩ w6 := by
  have HRR := Lib.hid hR
  clear hR
  conv => arg 2; whnf
  have HS6 := Lib.hid hS6; have HRB6 := Lib.hid hrb6; have HR6 := Lib.hid hr6
  clear hS6 hrb6 hr6
  have HIN0 := Lib.hid hin
  clear hin
  have hmb := HS6.out.mkr.block
  unfold rkCells at hmb
  have m1 := cell_at (i := 1) hmb; have f1 := frozen_at (i := 1) hmb; have m8 := cell_at (i := 8) hmb; have m9 := cell_at (i := 9) hmb; have m10 := cell_at (i := 10) hmb
  have lm := lt_at hmb
  obtain ⟨fe, hfe⟩ : ∃ fe, fe = r6.fault.err := ⟨_, rfl⟩
  rw [← hfe] at m8
  have HFE := Lib.hid hfe
  clear hmb hfe
  have hf0 : fe = 0 := by rw [HFE.out, HR6.out]; exact hf
  have hfd : decide (fe = 0) = true := decide_eq_true hf0
  subst hf0
  go_upto_block 14 with fail
  obtain ⟨wT, hwT⟩ : ∃ wT : World, wT = w6.setCell ⟨m, 1, none⟩ (.slice (some ⟨w6.heap.size, 0, none⟩) 1 1) := ⟨_, rfl⟩
  obtain ⟨w7, hw7⟩ : ∃ w7 : World, w7 = wT.alloc (.cells #[.string ⟨#[36, 97, 99, 99, 101, 112, 116]⟩, .string ⟨#[]⟩] 99) := ⟨_, rfl⟩
  rw [← hwT, ← hw7]
  have hsT : wT.heap.size = w6.heap.size := by rw [hwT]; simp [World.setCell]
  obtain ⟨kT, fT⟩ : KpT (fun t => t ≠ 112) w6 wT ∧ RFr W.heap.size w6 wT := by rw [hwT]; exact RefAt.box1 HS6.out.mkr.block HS6.out.mkr.behind 1 _
  have hmT : wT.heap[m]? = some (.cells (rkCells r6 { v6 with nv := .slice (some ⟨w6.heap.size, 0, none⟩) 1 1 }).toArray 112 (0, 0)) := by rw [hwT]; exact heap_setCell_at HS6.out.mkr.block
  have hb7 : Below wT.heap.size wT w7 := by rw [hw7]; exact (Below.refl _ wT).alloc (Nat.le_refl _) _
  have hn7 : w7.heap[w6.heap.size]? = some (.cells #[.string ⟨#[36, 97, 99, 99, 101, 112, 116]⟩, .string ⟨#[]⟩] 99 (0, 0)) := by rw [hw7, ← hsT]; exact heap_last wT _
  have hB6 := HS6.out.bel.size
  have hS7 : OfN W m x (.slice da dn dc) (.slice (some ⟨bo, oo, none⟩) rn rc) r6 { v6 with nv := .slice (some ⟨w6.heap.size, 0, none⟩) 1 1 } [accNon] w7 := by
    have h := HS6.out.mkr
    refine ⟨⟨⟨(hb7.block m (lt_at hmT)).trans hmT, ownsRow_below (ownsRow_kpT h.toks kT (by decide)) hb7, ownsRow_below (ownsRow_kpT h.given kT (by decide)) hb7, ownsRow_below (ownsRow_kpT h.types kT (by decide)) hb7, ownsRow_below (ownsRow_kpT h.lefts kT (by decide)) hb7, (h.prods.kpT kT (by decide) (by decide)).below hb7, h.behind⟩, (hb7.block _ (by rw [hsT]; exact lt_at HS6.out.sbox)).trans (kT _ _ _ _ HS6.out.sbox (by decide)), (hb7.block _ (by rw [hsT]; exact lt_at HS6.out.gbox)).trans (kT _ _ _ _ HS6.out.gbox (by decide)), (HS6.out.bel.trans fT.1).trans (hb7.mono (by rw [hsT]; exact hB6))⟩, owns_block (size := 2) (n := 1) hn7 hB6 rfl (by decide), fun b hb e => ?_⟩
    have e1 : w6.heap.size = b := by simpa [Value.ownBlock] using hb
    have := (h.types.lt b e).2
    omega
  have HS7 := Lib.hid hS7
  have HIN : Hid (r6.inner ≤ 60000) := Lib.hid (by rw [HR6.out]; exact HIN0.out)
  have HLB : Hid ((accNon :: r6.lefts.map (leftNon r6.types)).length ≤ 2 ^ 39) := Lib.hid (by rw [List.length_cons, List.length_map]; have := HRB6.out.lefts; omega)
  have HPB : Hid (r6.prods.length ≤ 2 ^ 39) := Lib.hid (by have := HRB6.out.prods; omega)
  clear hw7 hwT hsT kT fT hmT hb7 hn7 hS7 m1 f1 m8 m9 m10 lm hfd
  refine of_nons _ _ _ _ _ _ _ _ _ _ _ _ _ _ _ _ _ _ _ _ _ _ _ _ _ _ _ _ _ _ _ _ _ _ _ _ _ _ _ _ _ _ _ _ _ _ _ _ _ _ _ _ _ _ _ _ _ _ _ _ _ _ _ _ _ _ _ _ _ _ _ _ _ _ _ _ _ _ _ _ _ _ _ _ _ _ _ _ _ _ _ _ _ _ _ _ _ _ _ _ _ _ _ _ _ _ _ _ _ _ _ _ _ _ _ _ _ _ _ _ _ _ _ _ _ _ _ _ _ _ _ _ _ _ _ _ _ _ _ _ _ _ _ _ _ _ _ _ _ _ _ _ _ _ _ _ _ _ _ _ _ _ _ _ _ _ _ _ _ _ _ _ _ _ _ _ _ _ _ _ _ _ _ _ _ _ _ _ _ _ _ _ _ _ _ _ _ _ _ _ _ _ _ _ _ _ _ _ _ _ _ _ _ _ _ _ _ _ _ _ _ _ _ _ _ _ _ _ _ _ _ _ _ _ _ _ _ _ _ _ _ _ _ _ _ _ _ _ _ _ _ _ _ _ _ _ _ _ _ _ _ _ _ _ _ _ _ _ _ _ _ _ _ _ _ _ _ _ _ _ _ _ _ _ _ _ _ _ _ _ _ _ _ _ _ _ _ _ _ _ _ _ _ _ _ _ _ _ _ _ _ _ _ _ _ _ _ _ _ _ _ _ _ _ _ _ _ _ _ _ _ _ _ _ _ _ _ _ _ _ _ _ _ _ _ _ _ _ _ _ _ _ _ _ _ _ _ _ _ _ _ _ _ _ _ _ _ _ _ _ _ _ _ _ _ _ _ _ _ _ _ _ _ _ _ _ _ _ _ _ _ _ _ _ _ _ _ _ _ _ _ _ _ _ _ _ _ _ _ _ _ _ _ _ _ _ _ _ _ _ _ _ _ _ _ _ _ _ _ _ _ _ _ HS7.out HRB6.out (fun c t a w h => hQ c t a w h) ?_
  intro y18 y19 y20 y272 y273 y274 y275 y276 y277 y278 y279 y280 y281 y282 y283 y284 y285 y286 y287 y288 y289 y290 y291 y292 y293 y294 y295 y296 y297 y298 y299 y300 y301 y302 y303 y304 y305 y306 y307 y308 y309 y310 y311 y312 y313 y314 y315 wc v8 hS8
  dsimp only
  have HS8 := Lib.hid hS8
  clear hS8 HS7 HS6
  go_upto_block 16 with fail
  refine of_inner _ _ _ _ _ _ _ _ _ _ _ _ _ _ _ _ _ _ _ _ _ _ _ _ _ _ _ _ _ _ _ _ _ _ _ _ _ _ _ _ _ _ _ _ _ _ _ _ _ _ _ _ _ _ _ _ _ _ _ _ _ _ _ _ _ _ _ _ _ _ _ _ _ _ _ _ _ _ _ _ _ _ _ _ _ _ _ _ _ _ _ _ _ _ _ _ _ _ _ _ _ _ _ _ _ _ _ _ _ _ _ _ _ _ _ _ _ _ _ _ _ _ _ _ _ _ _ _ _ _ _ _ _ _ _ _ _ _ _ _ _ _ _ _ _ _ _ _ _ _ _ _ _ _ _ _ _ _ _ _ _ _ _ _ _ _ _ _ _ _ _ _ _ _ _ _ _ _ _ _ _ _ _ _ _ _ _ _ _ _ _ _ _ _ _ _ _ _ _ _ _ _ _ _ _ _ _ _ _ _ _ _ _ _ _ _ _ _ _ _ _ _ _ _ _ _ _ _ _ _ _ _ _ _ _ _ _ _ _ _ _ _ _ _ _ _ _ _ _ _ _ _ _ _ _ _ _ _ _ _ _ _ _ _ _ _ _ _ _ _ _ _ _ _ _ _ _ _ _ _ _ _ _ _ _ _ _ _ _ _ _ _ _ _ _ _ _ _ _ _ _ _ _ _ _ _ _ _ _ _ _ _ _ _ _ _ _ _ _ _ _ _ _ _ _ _ _ _ _ _ _ _ _ _ _ _ _ _ _ _ _ _ _ _ _ _ _ _ _ _ _ _ _ _ _ _ _ _ _ _ _ _ _ _ _ _ _ _ _ _ _ _ _ _ _ _ _ _ _ _ _ _ _ _ _ _ _ _ _ _ _ _ _ _ _ _ _ _ _ _ _ _ _ _ _ _ _ _ _ _ _ _ _ _ _ _ _ _ _ _ _ _ _ _ _ _ _ _ _ _ _ _ _ HS8.out HIN.out HLB.out (fun c t a w h => hQ c t a w h) ?_
  intro y21 y316 y317 y318 y319 y320 y321 y322 y323 y324 y325 y326 y327 y328 y329 y330 y331 y332 y333 y334 y335 y336 y337 y338 wc v9 hS9
  dsimp only
  have HS9 := Lib.hid hS9
  clear hS9 HS8
  go_upto_block 18 with fail
  refine of_numbers _ _ _ _ _ _ _ _ _ _ _ _ _ _ _ _ _ _ _ _ _ _ _ _ _ _ _ _ _ _ _ _ _ _ _ _ _ _ _ _ _ _ _ _ _ _ _ _ _ _ _ _ _ _ _ _ _ _ _ _ _ _ _ _ _ _ _ _ _ _ _ _ _ _ _ _ _ _ _ _ _ _ _ _ _ _ _ _ _ _ _ _ _ _ _ _ _ _ _ _ _ _ _ _ _ _ _ _ _ _ _ _ _ _ _ _ _ _ _ _ _ _ _ _ _ _ _ _ _ _ _ _ _ _ _ _ _ _ _ _ _ _ _ _ _ _ _ _ _ _ _ _ _ _ _ _ _ _ _ _ _ _ _ _ _ _ _ _ _ _ _ _ _ _ _ _ _ _ _ _ _ _ _ _ _ _ _ _ _ _ _ _ _ _ _ _ _ _ _ _ _ _ _ _ _ _ _ _ _ _ _ _ _ _ _ _ _ _ _ _ _ _ _ _ _ _ _ _ _ _ _ _ _ _ _ _ _ _ _ _ _ _ _ _ _ _ _ _ _ _ _ _ _ _ _ _ _ _ _ _ _ _ _ _ _ _ _ _ _ _ _ _ _ _ _ _ _ _ _ _ _ _ _ _ _ _ _ _ _ _ _ _ _ _ _ _ _ _ _ _ _ _ _ _ _ _ _ _ _ _ _ _ _ _ _ _ _ _ _ _ _ _ _ _ _ _ _ _ _ _ _ _ _ _ _ _ _ _ _ _ _ _ _ _ _ _ _ _ _ _ _ _ _ _ _ _ _ _ _ _ _ _ _ _ _ _ _ _ _ _ _ _ _ _ _ _ _ _ _ _ _ _ _ _ _ _ _ _ _ _ _ _ _ _ _ _ _ _ _ _ _ _ _ _ _ _ _ _ _ _ _ _ _ _ _ _ _ _ _ _ _ _ _ _ _ _ _ _ _ _ _ _ HS9.out HRB6.out (fun c t a w h => hQ c t a w h) ?_
  intro y22 y23 y339 y340 y341 y342 y343 y344 y345 y346 y347 y348 y349 y350 y351 y352 y353 y354 y355 y356 y357 y358 y359 y360 y361 y362 y363 y364 y365 y366 y367 wc hS10
  dsimp only
  have HS10 := Lib.hid hS10
  clear hS10 HS9
  obtain ⟨w8, hw8⟩ : ∃ w8 : World, w8 = wc := ⟨_, rfl⟩
  subst hw8
  obtain ⟨L, hL⟩ : ∃ L, L = accNon :: r6.lefts.map (leftNon r6.types) ++ Sp.innerNons r6.inner := ⟨_, rfl⟩
  rw [← hL] at HS10
  have hLn : L = Sp.rnons r6 := by rw [hL]; rfl
  have hLl : L.length = r6.lefts.length + 1 + r6.inner := by rw [hL, List.length_append, List.length_cons, List.length_map, Sp.innerNons_length]
  have htl : (Sp.rnumbers r6).length = r6.toks.length := by
    unfold Sp.rnumbers
    rw [List.length_append, Sp.numGo_length, List.length_take, List.length_drop]
    omega
  have hrg : Sp.rgreat r6 = ((((decide (40 < (Sp.rnumbers r6).length)) || decide (24 < L.length)) || decide (60 < r6.prods.length)) || r6.prods.any fun p => decide (8 < p.right.length)) := by
    rw [hLl, htl]
    (try rfl)
  obtain ⟨ta, tc, htv⟩ := ownsRowS_some HS10.out.os.mkr.toks
  obtain ⟨na, nc, hnv⟩ := ownsRowS_some HS10.out.nons
  obtain ⟨fo, go, hpo, hpc⟩ := HS10.out.os.mkr.prods
  obtain ⟨qa, qc, hqv⟩ := ownsRowS_some hpo
  simp only at htv
  obtain ⟨tn, htn⟩ : ∃ tn, tn = (Sp.rnumbers r6).length := ⟨_, rfl⟩
  obtain ⟨nn, hnn⟩ : ∃ nn, nn = L.length := ⟨_, rfl⟩
  obtain ⟨pn, hpn⟩ : ∃ pn, pn = r6.prods.length := ⟨_, rfl⟩
  rw [← htn] at htv hrg
  rw [← hnn] at hnv hrg
  rw [← hpn] at hqv hrg
  have hmb := HS10.out.os.mkr.block
  unfold rkCells at hmb
  simp only at hmb
  rw [htv, hnv, hqv] at hmb
  have m0 := cell_at (i := 0) hmb; have m1 := cell_at (i := 1) hmb; have m2 := cell_at (i := 2) hmb; have m3 := cell_at (i := 3) hmb; have m4 := cell_at (i := 4) hmb
  have f3 := frozen_at (i := 3) hmb; have f4 := frozen_at (i := 4) hmb
  have lm := lt_at hmb
  obtain ⟨b0, hb0⟩ : ∃ b0, b0 = ((decide (40 < tn) || decide (24 < nn)) || decide (60 < pn)) := ⟨_, rfl⟩
  rw [← hb0] at hrg
  have HB0 := Lib.hid hb0; have HRG := Lib.hid hrg; have HMB := Lib.hid hmb; have HTV := Lib.hid htv; have HNV := Lib.hid hnv; have HQV := Lib.hid hqv; have HTN := Lib.hid htn; have HNN := Lib.hid hnn; have HPN := Lib.hid hpn; have HLN := Lib.hid hLn
  clear hb0 hrg hmb htv hnv hqv htn hnn hpn hLn hL hLl htl hpo hpc
  go_upto_region 69 with fail
  go_cut [24] from 368 to 392 (fun c wx => c = .bool b0 ∧ w8 = wx)
  case first =>
    by_cases h1 : 40 < tn
    · have e1 : decide (40 < tn) = true := decide_eq_true h1
      have e : b0 = true := by rw [HB0.out, e1]; rfl
      subst e
      go_wp2_with fail
      go_meet
      exact ⟨by first | rfl | (rw [e1]; rfl) | (rw [e1, e2]; rfl) | (rw [e1, e2, e3]; rfl) | (simp; omega) | (simp_all; omega), rfl⟩
    · have e1 : decide (40 < tn) = false := decide_eq_false h1
      by_cases h2 : 24 < nn
      · have e2 : decide (24 < nn) = true := decide_eq_true h2
        have e : b0 = true := by rw [HB0.out, e1, e2]; rfl
        subst e
        go_wp2_with fail
        go_meet
        exact ⟨by first | rfl | (rw [e1]; rfl) | (rw [e1, e2]; rfl) | (rw [e1, e2, e3]; rfl) | (simp; omega) | (simp_all; omega), rfl⟩
      · have e2 : decide (24 < nn) = false := decide_eq_false h2
        by_cases h3 : 60 < pn
        · have e3 : decide (60 < pn) = true := decide_eq_true h3
          have e : b0 = true := by rw [HB0.out, e1, e2, e3]; rfl
          subst e
          go_wp2_with fail
          go_meet
          exact ⟨by first | rfl | (rw [e1]; rfl) | (rw [e1, e2]; rfl) | (rw [e1, e2, e3]; rfl) | (simp; omega) | (simp_all; omega), rfl⟩
        · have e3 : decide (60 < pn) = false := decide_eq_false h3
          have e : b0 = false := by rw [HB0.out, e1, e2, e3]; rfl
          subst e
          go_wp2_with fail
          go_meet
          exact ⟨by first | rfl | (rw [e1]; rfl) | (rw [e1, e2]; rfl) | (rw [e1, e2, e3]; rfl) | (simp; omega) | (simp_all; omega), rfl⟩
  case rest =>
    obtain ⟨rfl, rfl⟩ := hcut
    go_upto_block 20 with fail
    refine of_long _ _ _ _ _ _ _ _ _ _ _ _ _ _ _ _ _ _ _ _ _ _ _ _ _ _ _ _ _ _ _ _ _ _ _ _ _ _ _ _ _ _ _ _ _ _ _ _ _ _ _ _ _ _ _ _ _ _ _ _ _ _ _ _ _ _ _ _ _ _ _ _ _ _ _ _ _ _ _ _ _ _ _ _ _ _ _ _ _ _ _ _ _ _ _ _ _ _ _ _ _ _ _ _ _ _ _ _ _ _ _ _ _ _ _ _ _ _ _ _ _ _ _ _ _ _ _ _ _ _ _ _ _ _ _ _ _ _ _ _ _ _ _ _ _ _ _ _ _ _ _ _ _ _ _ _ _ _ _ _ _ _ _ _ _ _ _ _ _ _ _ _ _ _ _ _ _ _ _ _ _ _ _ _ _ _ _ _ _ _ _ _ _ _ _ _ _ _ _ _ _ _ _ _ _ _ _ _ _ _ _ _ _ _ _ _ _ _ _ _ _ _ _ _ _ _ _ _ _ _ _ _ _ _ _ _ _ _ _ _ _ _ _ _ _ _ _ _ _ _ _ _ _ _ _ _ _ _ _ _ _ _ _ _ _ _ _ _ _ _ _ _ _ _ _ _ _ _ _ _ _ _ _ _ _ _ _ _ _ _ _ _ _ _ _ _ _ _ _ _ _ _ _ _ _ _ _ _ _ _ _ _ _ _ _ _ _ _ _ _ _ _ _ _ _ _ _ _ _ _ _ _ _ _ _ _ _ _ _ _ _ _ _ _ _ _ _ _ _ _ _ _ _ _ _ _ _ _ _ _ _ _ _ _ _ _ _ _ _ _ _ _ _ _ _ _ _ _ _ _ _ _ _ _ _ _ _ _ _ _ _ _ _ _ _ _ _ _ _ _ _ _ _ _ _ _ _ _ _ _ _ _ _ _ _ _ _ _ _ _ _ _ _ _ _ _ _ _ _ _ _ _ HS10.out HPB.out (fun c t a w h => hQ c t a w h) ?_
    intro y25 y393 y394 y395 y396 y397 y398 y399 y400 y401 y402 y403 y404 y405 y406 y407 y408 y409 y410 y411 y412 y413 y414 y415 y416 wc hb11
    dsimp only
    rw [← HRG.out]
    have HS11 := HS10.out.below hb11
    refine (by assumption : ∀ (a : Act) (w : World), _ → _) _ _ ?_
    exact of_end _ _ _ _ _ _ _ _ _ _ _ _ _ _ _ _ _ _ _ _ _ _ _ _ _ _ _ _ _ _ _ _ _ _ _ _ _ _ _ _ _ _ _ _ _ _ _ _ _ _ _ _ _ _ _ _ _ _ _ _ _ _ _ _ _ _ _ _ _ _ _ _ _ _ _ _ _ _ _ _ _ _ _ _ _ _ _ _ _ _ _ _ _ _ _ _ _ _ _ _ _ _ _ _ _ _ _ _ _ _ _ _ _ _ _ _ _ _ _ _ _ _ _ _ _ _ _ _ _ _ _ _ _ _ _ _ _ _ _ _ _ _ _ _ _ _ _ _ _ _ _ _ _ _ _ _ _ _ _ _ _ _ _ _ _ _ _ _ _ _ _ _ _ _ _ _ _ _ _ _ _ _ _ _ _ _ _ _ _ _ _ _ _ _ _ _ _ _ _ _ _ _ _ _ _ _ _ _ _ _ _ _ _ _ _ _ _ _ _ _ _ _ _ _ _ _ _ _ _ _ _ _ _ _ _ _ _ _ _ _ _ _ _ _ _ _ _ _ _ _ _ _ _ _ _ _ _ _ _ _ _ _ _ _ _ _ _ _ _ _ _ _ _ _ _ _ _ _ _ _ _ _ _ _ _ _ _ _ _ _ _ _ _ _ _ _ _ _ _ _ _ _ _ _ _ _ _ _ _ _ _ _ _ _ _ _ _ _ _ _ _ _ _ _ _ _ _ _ _ _ _ _ _ _ _ _ _ _ _ _ _ _ _ _ _ _ _ _ _ _ _ _ _ _ _ _ _ _ _ _ _ _ _ _ _ _ _ _ _ _ _ _ _ _ _ _ _ _ _ _ _ _ _ _ _ _ _ _ _ _ _ _ _ _ _ _ _ _ _ _ _ _ _ _ _ _ _ _ _ _ _ _ _ _ _ _ _ _ _ _ _ _ _ _ _ _ _ _ _ _ _ _ HS11 HLN.out HR6.out hm hf hQ HRR.out
end Go.Proofs.YtphdfbmmjkccgaaDoor

namespace Go.Proofs.YtphdfbmmjkccgaaDoor

theorem one_of_sym {s : Sp.Sym} (h : Sp.isSym s = true) (hl : s.lit = true) : ∃ c, s.name = [c] := by
  unfold Sp.isSym at h
  rw [if_pos hl] at h
  generalize s.name = l at *
  match l, h with
  | [c], _ => exact ⟨c, rfl⟩
theorem ref_good {x : Sp.Source} (h : Sp.may x = true) : (∀ d ∈ x.decls, GoodD d) ∧ (∀ u ∈ x.rules, ∀ a ∈ u.alts, GoodA a) ∧ x.rules ≠ [] := by
  unfold Sp.may at h
  simp only [Bool.and_eq_true, decide_eq_true_eq, List.all_eq_true] at h
  obtain ⟨⟨⟨_, h1⟩, h2⟩, h3⟩ := h
  refine ⟨fun d hd => ?_, fun u hu a ha => ?_, fun e => by rw [e] at h1; simp at h1⟩
  · have h := h2 d hd
    unfold Sp.mayDecl at h
    split at h
    · cases h
    · rename_i hk
      split at h
      · cases h
      · split at h
        · cases h
        · refine ⟨by omega, fun y hy hl => ?_⟩
          have hm := List.all_eq_true.1 h y hy
          unfold Sp.maySym at hm
          split at hm
          · cases hm
          · rename_i h5
            exact one_of_sym (by cases hs : Sp.isSym y; exact absurd (.inl hs) h5; rfl) hl
  · have h := h3 u hu
    unfold Sp.mayRule at h
    simp only [Bool.and_eq_true, List.all_eq_true] at h
    have h4 := h.2 a ha
    unfold Sp.mayAlt at h4
    simp only [Bool.and_eq_true, List.all_eq_true] at h4
    refine ⟨fun w hw hc hl => ?_, fun hl => ?_⟩
    · have h5 := h4.2 w hw
      unfold Sp.mayPart at h5
      rw [if_pos hc] at h5
      unfold Sp.isBare at h5
      simp only [Bool.and_eq_true, beq_iff_eq] at h5
      exact one_of_sym h5.1 hl
    · have h5 := h4.1
      simp only [Bool.or_eq_true] at h5
      rcases h5 with h5 | h5
      · unfold Sp.isNone at h5
        simp only [Bool.and_eq_true, beq_iff_eq, Bool.not_eq_true'] at h5
        rw [h5.1.2] at hl
        cases hl
      · unfold Sp.isBare at h5
        simp only [Bool.and_eq_true, beq_iff_eq] at h5
        exact one_of_sym h5.1 hl
end Go.Proofs.YtphdfbmmjkccgaaDoor
