/- yuccaref9.Of: the numbers, the limits. yuccaref9.Of behind its rules, where there is a fault. -/
import Derived.Test.YtphdfbmmjkccgaaDoorZ19
import Derived.Test.YtphdfbmmjkccgaaDoorZ06
import Derived.Test.YtphdfbmmjkccgaaDoorZ09
namespace Go.Proofs.YtphdfbmmjkccgaaDoor
open Go.RowKit Go.Maps

/-- The tokens' row stands for others now. -/
theorem OfN.toks {W wx w' : World} {m : Nat} {x : Sp.Source} {vd vr : Value} {r r' : Sp.Rk} {v : RkV} {L : List Sp.Non} (h : OfN W m x vd vr r v L wx) (hm : RefAt (fun _ => True) W.heap.size w' m r' v) (hf : RFr W.heap.size wx w') (k : KpT (fun t => t ≠ 114) wx w') : OfN W m x vd vr r' v L w' :=
  ⟨h.os.rfr hm hf, ownsRow_kpT h.nons k (by decide), h.apart⟩
set_option maxRecDepth 100000 in
set_option maxHeartbeats 12800000 in
theorem of_numbers {W wm : World} {m : Nat} {x : Sp.Source} {vd vr : Value} {r0 : Sp.Rk} {v0 : RkV} {L : List Sp.Non}
    (u0 u3 u4 u5 u7 u8 u9 u10 u11 u12 u13 u14 u15 u16 u17 u18 u19 u20 u21 u24 u25 u26 u27 u28 u29 u30 u31 u32 u33 u34 u35 u36 u37 u38 u39 u40 u41 u42 u43 u44 u45 u46 u47 u48 u49 u50 u51 u52 u53 u54 u55 u56 u57 u58 u59 u60 u61 u62 u63 u64 u65 u66 u67 u68 u69 u70 u71 u72 u73 u74 u75 u76 u77 u78 u79 u80 u81 u82 u83 u84 u85 u86 u87 u88 u89 u90 u91 u92 u93 u94 u95 u96 u97 u98 u99 u100 u101 u102 u103 u104 u105 u106 u107 u108 u109 u110 u111 u112 u113 u114 u115 u116 u117 u118 u119 u120 u121 u122 u123 u124 u125 u126 u127 u128 u129 u130 u131 u132 u133 u134 u135 u136 u137 u138 u139 u140 u141 u142 u143 u144 u145 u146 u147 u148 u149 u150 u151 u152 u153 u154 u155 u156 u157 u158 u159 u160 u161 u162 u163 u164 u165 u166 u167 u168 u169 u170 u171 u172 u173 u174 u175 u176 u177 u178 u179 u180 u181 u182 u183 u184 u185 u186 u187 u188 u189 u190 u191 u192 u193 u194 u195 u196 u197 u198 u199 u200 u201 u202 u203 u204 u205 u206 u207 u208 u209 u210 u211 u212 u213 u214 u215 u216 u217 u218 u219 u220 u221 u222 u223 u224 u225 u226 u227 u228 u229 u230 u231 u232 u233 u234 u235 u236 u237 u238 u239 u240 u241 u242 u243 u244 u245 u246 u247 u248 u249 u250 u251 u252 u253 u254 u255 u256 u257 u258 u259 u260 u261 u262 u263 u264 u265 u266 u267 u268 u269 u270 u271 u272 u273 u274 u275 u276 u277 u278 u279 u280 u281 u282 u283 u284 u285 u286 u287 u288 u289 u290 u291 u292 u293 u294 u295 u296 u297 u298 u299 u300 u301 u302 u303 u304 u305 u306 u307 u308 u309 u310 u311 u312 u313 u314 u315 u316 u317 u318 u319 u320 u321 u322 u323 u324 u325 u326 u327 u328 u329 u330 u331 u332 u333 u334 u335 u336 u337 u338 u339 u340 u341 u342 u343 u344 u345 u346 u347 u348 u349 u350 u351 u352 u353 u354 u355 u356 u357 u358 u359 u360 u361 u362 u363 u364 u365 u366 u367 u368 u369 u370 u371 u372 u373 u374 u375 u376 u377 u378 u379 u380 u381 u382 u383 u384 u385 u386 u387 u388 u389 u390 u391 u392 u393 u394 u395 u396 u397 u398 u399 u400 u401 u402 u403 u404 u405 u406 u407 u408 u409 u410 u411 u412 u413 u414 u415 u416 u417 u418 u419 u420 u421 u422 u423 u424 u425 u426 u427 u428 u429 u430 u431 u432 u433 u434 : Value) (K : Act → World → Prop) (Q : Exit → Act → World → Prop)
    (hS : OfN W m x vd vr r0 v0 L wm) (hrb : Sp.RB (2 ^ 38) r0)
    (hQ : ∀ c (t : Array Value) (a : Act) w, Q (.panic c) ⟨t, a.defers⟩ w → Q (.panic c) a w)
    (hK : ∀ (x22 x23 x339 x340 x341 x342 x343 x344 x345 x346 x347 x348 x349 x350 x351 x352 x353 x354 x355 x356 x357 x358 x359 x360 x361 x362 x363 x364 x365 x366 x367 : Value) (wx : World), OfN W m x vd vr { r0 with toks := Sp.rnumbers r0 } v0 L wx → K ⟨#[u0, .pointer (some ⟨W.heap.size, 0, none⟩), .pointer (some ⟨W.heap.size + 1, 0, none⟩), u3, u4, u5, .pointer (some ⟨m, 0, none⟩), u7, u8, u9, u10, u11, u12, u13, u14, u15, u16, u17, u18, u19, u20, u21, x22, x23, u24, u25, u26, u27, u28, u29, u30, u31, u32, u33, u34, u35, u36, u37, u38, u39, u40, u41, u42, u43, u44, u45, u46, u47, u48, u49, u50, u51, u52, u53, u54, u55, u56, u57, u58, u59, u60, u61, u62, u63, u64, u65, u66, u67, u68, u69, u70, u71, u72, u73, u74, u75, u76, u77, u78, u79, u80, u81, u82, u83, u84, u85, u86, u87, u88, u89, u90, u91, u92, u93, u94, u95, u96, u97, u98, u99, u100, u101, u102, u103, u104, u105, u106, u107, u108, u109, u110, u111, u112, u113, u114, u115, u116, u117, u118, u119, u120, u121, u122, u123, u124, u125, u126, u127, u128, u129, u130, u131, u132, u133, u134, u135, u136, u137, u138, u139, u140, u141, u142, u143, u144, u145, u146, u147, u148, u149, u150, u151, u152, u153, u154, u155, u156, u157, u158, u159, u160, u161, u162, u163, u164, u165, u166, u167, u168, u169, u170, u171, u172, u173, u174, u175, u176, u177, u178, u179, u180, u181, u182, u183, u184, u185, u186, u187, u188, u189, u190, u191, u192, u193, u194, u195, u196, u197, u198, u199, u200, u201, u202, u203, u204, u205, u206, u207, u208, u209, u210, u211, u212, u213, u214, u215, u216, u217, u218, u219, u220, u221, u222, u223, u224, u225, u226, u227, u228, u229, u230, u231, u232, u233, u234, u235, u236, u237, u238, u239, u240, u241, u242, u243, u244, u245, u246, u247, u248, u249, u250, u251, u252, u253, u254, u255, u256, u257, u258, u259, u260, u261, u262, u263, u264, u265, u266, u267, u268, u269, u270, u271, u272, u273, u274, u275, u276, u277, u278, u279, u280, u281, u282, u283, u284, u285, u286, u287, u288, u289, u290, u291, u292, u293, u294, u295, u296, u297, u298, u299, u300, u301, u302, u303, u304, u305, u306, u307, u308, u309, u310, u311, u312, u313, u314, u315, u316, u317, u318, u319, u320, u321, u322, u323, u324, u325, u326, u327, u328, u329, u330, u331, u332, u333, u334, u335, u336, u337, u338, x339, x340, x341, x342, x343, x344, x345, x346, x347, x348, x349, x350, x351, x352, x353, x354, x355, x356, x357, x358, x359, x360, x361, x362, x363, x364, x365, x366, x367, u368, u369, u370, u371, u372, u373, u374, u375, u376, u377, u378, u379, u380, u381, u382, u383, u384, u385, u386, u387, u388, u389, u390, u391, u392, u393, u394, u395, u396, u397, u398, u399, u400, u401, u402, u403, u404, u405, u406, u407, u408, u409, u410, u411, u412, u413, u414, u415, u416, u417, u418, u419, u420, u421, u422, u423, u424, u425, u426, u427, u428, u429, u430, u431, u432, u433, u434], []⟩ wx) :
    Code.wp Tryd.prog (ofBlk 18) (Exit.then K Q) ⟨#[u0, .pointer (some ⟨W.heap.size, 0, none⟩), .pointer (some ⟨W.heap.size + 1, 0, none⟩), u3, u4, u5, .pointer (some ⟨m, 0, none⟩), u7, u8, u9, u10, u11, u12, u13, u14, u15, u16, u17, u18, u19, u20, u21, .int .i64 57346, .int .i64 3, u24, u25, u26, u27, u28, u29, u30, u31, u32, u33, u34, u35, u36, u37, u38, u39, u40, u41, u42, u43, u44, u45, u46, u47, u48, u49, u50, u51, u52, u53, u54, u55, u56, u57, u58, u59, u60, u61, u62, u63, u64, u65, u66, u67, u68, u69, u70, u71, u72, u73, u74, u75, u76, u77, u78, u79, u80, u81, u82, u83, u84, u85, u86, u87, u88, u89, u90, u91, u92, u93, u94, u95, u96, u97, u98, u99, u100, u101, u102, u103, u104, u105, u106, u107, u108, u109, u110, u111, u112, u113, u114, u115, u116, u117, u118, u119, u120, u121, u122, u123, u124, u125, u126, u127, u128, u129, u130, u131, u132, u133, u134, u135, u136, u137, u138, u139, u140, u141, u142, u143, u144, u145, u146, u147, u148, u149, u150, u151, u152, u153, u154, u155, u156, u157, u158, u159, u160, u161, u162, u163, u164, u165, u166, u167, u168, u169, u170, u171, u172, u173, u174, u175, u176, u177, u178, u179, u180, u181, u182, u183, u184, u185, u186, u187, u188, u189, u190, u191, u192, u193, u194, u195, u196, u197, u198, u199, u200, u201, u202, u203, u204, u205, u206, u207, u208, u209, u210, u211, u212, u213, u214, u215, u216, u217, u218, u219, u220, u221, u222, u223, u224, u225, u226, u227, u228, u229, u230, u231, u232, u233, u234, u235, u236, u237, u238, u239, u240, u241, u242, u243, u244, u245, u246, u247, u248, u249, u250, u251, u252, u253, u254, u255, u256, u257, u258, u259, u260, u261, u262, u263, u264, u265, u266, u267, u268, u269, u270, u271, u272, u273, u274, u275, u276, u277, u278, u279, u280, u281, u282, u283, u284, u285, u286, u287, u288, u289, u290, u291, u292, u293, u294, u295, u296, u297, u298, u299, u300, u301, u302, u303, u304, u305, u306, u307, u308, u309, u310, u311, u312, u313, u314, u315, u316, u317, u318, u319, u320, u321, u322, u323, u324, u325, u326, u327, u328, u329, u330, u331, u332, u333, u334, u335, u336, u337, u338, u339, u340, u341, u342, u343, u344, u345, u346, u347, u348, u349, u350, u351, u352, u353, u354, u355, u356, u357, u358, u359, u360, u361, u362, u363, u364, u365, u366, u367, u368, u369, u370, u371, u372, u373, u374, u375, u376, u377, u378, u379, u380, u381, u382, u383, u384, u385, u386, u387, u388, u389, u390, u391, u392, u393, u394, u395, u396, u397, u398, u399, u400, u401, u402, u403, u404, u405, u406, u407, u408, u409, u410, u411, u412, u413, u414, u415, u416, u417, u418, u419, u420, u421, u422, u423, u424, u425, u426, u427, u428, u429, u430, u431, u432, u433, u434], []⟩ wm := by
  have h3 := hrb.three
  have hsm := hrb.same
  obtain ⟨n, hn⟩ : ∃ n, n = r0.toks.length := ⟨_, rfl⟩
  have hn38 : n ≤ 2 ^ 38 := by rw [hn]; exact hrb.toks
  obtain ⟨F, hF⟩ : ∃ F, F = Sp.rnumbers r0 := ⟨_, rfl⟩
  rw [← hF] at hK
  unfold Sp.rnumbers at hF
  rw [← hn] at h3 hsm
  have HS0 := Lib.hid hS; have HNE := Lib.hid hn; have HF := Lib.hid hF; have HSM := Lib.hid hsm
  clear hS hn hF hsm hrb
  have HKK := Lib.hid hK
  have hM : ∀ a w, Met K a w → K a w := fun _ _ h => h
  clear hK
  conv => arg 2; whnf
  go_wp2_with fail
  go_loopg [22, 23] (n - 3) (fun q nv iv wr => ∃ (k : Nat) (next : Int) (cur : List Sp.Tok), 3 ≤ k ∧ k ≤ n ∧ q = n - k ∧ nv = .int .i64 next ∧ iv = .int .i64 k ∧ OfN W m x vd vr { r0 with toks := cur } v0 L wr ∧ cur.length = n ∧ cur.drop k = r0.toks.drop k ∧ cur.take k ++ Sp.numGo next (r0.toks.drop k) (r0.given.drop k) = F ∧ 0 ≤ next ∧ next ≤ 57346 + k)
  case atStart => exact ⟨3, 57346, r0.toks, Nat.le_refl _, h3, rfl, rfl, rfl, HS0.out, HNE.out.symm, rfl, HF.out.symm, by omega, by omega⟩
  case round =>
    clear HS0 HF
    obtain ⟨k, next, cur, hk3, hk, rfl, rfl, rfl, hS, hlen, hdrop, hF, hn0, hnk⟩ := hrel
    have hmb := hS.os.mkr.block
    have ht := hS.os.mkr.toks; have hg := hS.os.mkr.given
    simp only at ht hg
    obtain ⟨gt, ct, htv⟩ := own_form ht (by omega)
    obtain ⟨gg, cg, hgv⟩ := own_form hg (by rw [HSM.out]; omega)
    unfold rkCells at hmb
    rw [htv] at hmb ht
    rw [hgv] at hmb hg
    rw [hlen] at ht hmb
    rw [HSM.out] at hg hmb
    have c0 := cell_at (i := 0) hmb; have c5 := cell_at (i := 5) hmb
    have lm := lt_at hmb
    have hlt : gt < wr.heap.size := (ht.lt gt rfl).2
    have hlg : gg < wr.heap.size := (hg.lt gg rfl).2
    rw [hlen] at htv
    have HS := Lib.hid hS; have HLEN := Lib.hid hlen; have HDR := Lib.hid hdrop; have HFF := Lib.hid hF; have HTV := Lib.hid htv
    have hk0 : (0 : Int) ≤ (k : Int) := Int.natCast_nonneg _
    clear hS hmb htv hgv
    by_cases hkn : k < n
    · have hk1 : (k : Int) < (n : Int) := by omega
      have hkt : k < r0.toks.length := by have := HNE.out; omega
      have hkg : k < r0.given.length := by have := HSM.out; omega
      have e2 := List.getElem?_eq_getElem hkg
      have d1 : r0.toks.drop k = r0.toks[k] :: r0.toks.drop (k + 1) := List.drop_eq_getElem_cons hkt
      have d2 : r0.given.drop k = r0.given[k] :: r0.given.drop (k + 1) := List.drop_eq_getElem_cons hkg
      have e1 : cur[k]? = some r0.toks[k] := by
        have h := congrArg (fun l => l[0]?) hdrop
        simp only [List.getElem?_drop, Nat.add_zero] at h
        rw [h]; exact List.getElem?_eq_getElem hkt
      rw [d1, d2] at hF
      unfold Sp.numGo at hF
      have hdn : cur.drop (k + 1) = r0.toks.drop (k + 1) := by
        have h := congrArg (fun l => l.drop 1) hdrop
        simpa [List.drop_drop, Nat.add_comm] using h
      generalize r0.toks[k] = t at *
      generalize r0.given[k] = gk at *
      have ct2 := row_cell ht (fun _ => rfl) e1 hkn (j := 2) (u := .int .i64 t.num) rfl
      have cg2 := row_cell1 hg e2 hkn
      have ft := ht.frozenAt (k * 6 + 2)
      have E1 := Lib.hid e1; have HDN := Lib.hid hdn
      obtain ⟨cu, hcu⟩ := row_block2 ht
      have HCU := Lib.hid hcu
      clear hlen hdrop ht hg d1 d2 e2 e1 hdn hkt hkg HDR HFF hcu
      cases gk with
      | true =>
        have HF2 : Hid (cur.take (k + 1) ++ Sp.numGo next (r0.toks.drop (k + 1)) (r0.given.drop (k + 1)) = F) := Lib.hid (by rw [← hF, List.take_add_one, E1.out]; simp)
        clear hF
        go_wp2_with fail
        go_roundg (n - (k + 1))
        case measure => omega
        case rel => exact ⟨k + 1, next, cur, by omega, by omega, rfl, rfl, by go_num, HS.out, HLEN.out, HDN.out, HF2.out, hn0, by omega⟩
      | false =>
        obtain ⟨h5, hf5⟩ := HS.out.os.mkr.tokset (k := k) (off := 2) (t := t) (t' := { t with num := next }) (u := .int .i64 next) HTV.out E1.out (by decide) rfl
        have hS5 := HS.out.toks h5 hf5 (KpT.setCell (fun _ _ _ _ h _ => h) HCU.out (by simp) _)
        have HS5 := Lib.hid hS5
        have HF2 : Hid ((cur.set k { t with num := next }).take (k + 1) ++ Sp.numGo (next + 1) (r0.toks.drop (k + 1)) (r0.given.drop (k + 1)) = F) := Lib.hid (by
          rw [← hF, List.take_add_one, List.take_set_of_le (Nat.le_refl _), List.getElem?_set_self (by have := HLEN.out; omega)]
          simp)
        clear hF h5 hf5 hS5
        go_wp2_with fail
        go_roundg (n - (k + 1))
        case measure => omega
        case rel =>
          refine ⟨k + 1, next + 1, _, by omega, by omega, rfl, by go_num, by go_num, HS5.out, by rw [List.length_set]; exact HLEN.out, ?_, HF2.out, by omega, by omega⟩
          rw [List.drop_set_of_lt (by omega)]
          exact HDN.out
    · obtain rfl : k = n := by omega
      have hFe : cur = F := by
        rw [List.drop_eq_nil_of_le (by rw [HNE.out]; exact Nat.le_refl _), List.take_of_length_le (by rw [hlen]; exact Nat.le_refl _)] at hF
        unfold Sp.numGo at hF
        rw [List.append_nil] at hF
        exact hF
      have hS := HS.out
      rw [hFe] at hS
      have HS1 := Lib.hid hS
      clear hlen hdrop ht hg hF hFe hS
      go_wp2_with fail
      exact HKK.out _ _ _ _ _ _ _ _ _ _ _ _ _ _ _ _ _ _ _ _ _ _ _ _ _ _ _ _ _ _ _ _ HS1.out
set_option maxRecDepth 100000 in
set_option maxHeartbeats 12800000 in
theorem of_long {W wm : World} {m : Nat} {x : Sp.Source} {vd vr : Value} {r0 : Sp.Rk} {v0 : RkV} {L : List Sp.Non} {b0 : Bool}
    (u0 u3 u4 u5 u7 u8 u9 u10 u11 u12 u13 u14 u15 u16 u17 u18 u19 u20 u21 u22 u23 u26 u27 u28 u29 u30 u31 u32 u33 u34 u35 u36 u37 u38 u39 u40 u41 u42 u43 u44 u45 u46 u47 u48 u49 u50 u51 u52 u53 u54 u55 u56 u57 u58 u59 u60 u61 u62 u63 u64 u65 u66 u67 u68 u69 u70 u71 u72 u73 u74 u75 u76 u77 u78 u79 u80 u81 u82 u83 u84 u85 u86 u87 u88 u89 u90 u91 u92 u93 u94 u95 u96 u97 u98 u99 u100 u101 u102 u103 u104 u105 u106 u107 u108 u109 u110 u111 u112 u113 u114 u115 u116 u117 u118 u119 u120 u121 u122 u123 u124 u125 u126 u127 u128 u129 u130 u131 u132 u133 u134 u135 u136 u137 u138 u139 u140 u141 u142 u143 u144 u145 u146 u147 u148 u149 u150 u151 u152 u153 u154 u155 u156 u157 u158 u159 u160 u161 u162 u163 u164 u165 u166 u167 u168 u169 u170 u171 u172 u173 u174 u175 u176 u177 u178 u179 u180 u181 u182 u183 u184 u185 u186 u187 u188 u189 u190 u191 u192 u193 u194 u195 u196 u197 u198 u199 u200 u201 u202 u203 u204 u205 u206 u207 u208 u209 u210 u211 u212 u213 u214 u215 u216 u217 u218 u219 u220 u221 u222 u223 u224 u225 u226 u227 u228 u229 u230 u231 u232 u233 u234 u235 u236 u237 u238 u239 u240 u241 u242 u243 u244 u245 u246 u247 u248 u249 u250 u251 u252 u253 u254 u255 u256 u257 u258 u259 u260 u261 u262 u263 u264 u265 u266 u267 u268 u269 u270 u271 u272 u273 u274 u275 u276 u277 u278 u279 u280 u281 u282 u283 u284 u285 u286 u287 u288 u289 u290 u291 u292 u293 u294 u295 u296 u297 u298 u299 u300 u301 u302 u303 u304 u305 u306 u307 u308 u309 u310 u311 u312 u313 u314 u315 u316 u317 u318 u319 u320 u321 u322 u323 u324 u325 u326 u327 u328 u329 u330 u331 u332 u333 u334 u335 u336 u337 u338 u339 u340 u341 u342 u343 u344 u345 u346 u347 u348 u349 u350 u351 u352 u353 u354 u355 u356 u357 u358 u359 u360 u361 u362 u363 u364 u365 u366 u367 u368 u369 u370 u371 u372 u373 u374 u375 u376 u377 u378 u379 u380 u381 u382 u383 u384 u385 u386 u387 u388 u389 u390 u391 u392 u393 u394 u395 u396 u397 u398 u399 u400 u401 u402 u403 u404 u405 u406 u407 u408 u409 u410 u411 u412 u413 u414 u415 u416 u417 u418 u419 u420 u421 u422 u423 u424 u425 u426 u427 u428 u429 u430 u431 u432 u433 u434 : Value) (K : Act → World → Prop) (Q : Exit → Act → World → Prop)
    (hS : OfN W m x vd vr r0 v0 L wm) (hpb : r0.prods.length ≤ 2 ^ 39)
    (hQ : ∀ c (t : Array Value) (a : Act) w, Q (.panic c) ⟨t, a.defers⟩ w → Q (.panic c) a w)
    (hK : ∀ (x25 x393 x394 x395 x396 x397 x398 x399 x400 x401 x402 x403 x404 x405 x406 x407 x408 x409 x410 x411 x412 x413 x414 x415 x416 : Value) (wx : World), Below wm.heap.size wm wx → K ⟨#[u0, .pointer (some ⟨W.heap.size, 0, none⟩), .pointer (some ⟨W.heap.size + 1, 0, none⟩), u3, u4, u5, .pointer (some ⟨m, 0, none⟩), u7, u8, u9, u10, u11, u12, u13, u14, u15, u16, u17, u18, u19, u20, u21, u22, u23, .bool (b0 || r0.prods.any fun p => decide (8 < p.right.length)), x25, u26, u27, u28, u29, u30, u31, u32, u33, u34, u35, u36, u37, u38, u39, u40, u41, u42, u43, u44, u45, u46, u47, u48, u49, u50, u51, u52, u53, u54, u55, u56, u57, u58, u59, u60, u61, u62, u63, u64, u65, u66, u67, u68, u69, u70, u71, u72, u73, u74, u75, u76, u77, u78, u79, u80, u81, u82, u83, u84, u85, u86, u87, u88, u89, u90, u91, u92, u93, u94, u95, u96, u97, u98, u99, u100, u101, u102, u103, u104, u105, u106, u107, u108, u109, u110, u111, u112, u113, u114, u115, u116, u117, u118, u119, u120, u121, u122, u123, u124, u125, u126, u127, u128, u129, u130, u131, u132, u133, u134, u135, u136, u137, u138, u139, u140, u141, u142, u143, u144, u145, u146, u147, u148, u149, u150, u151, u152, u153, u154, u155, u156, u157, u158, u159, u160, u161, u162, u163, u164, u165, u166, u167, u168, u169, u170, u171, u172, u173, u174, u175, u176, u177, u178, u179, u180, u181, u182, u183, u184, u185, u186, u187, u188, u189, u190, u191, u192, u193, u194, u195, u196, u197, u198, u199, u200, u201, u202, u203, u204, u205, u206, u207, u208, u209, u210, u211, u212, u213, u214, u215, u216, u217, u218, u219, u220, u221, u222, u223, u224, u225, u226, u227, u228, u229, u230, u231, u232, u233, u234, u235, u236, u237, u238, u239, u240, u241, u242, u243, u244, u245, u246, u247, u248, u249, u250, u251, u252, u253, u254, u255, u256, u257, u258, u259, u260, u261, u262, u263, u264, u265, u266, u267, u268, u269, u270, u271, u272, u273, u274, u275, u276, u277, u278, u279, u280, u281, u282, u283, u284, u285, u286, u287, u288, u289, u290, u291, u292, u293, u294, u295, u296, u297, u298, u299, u300, u301, u302, u303, u304, u305, u306, u307, u308, u309, u310, u311, u312, u313, u314, u315, u316, u317, u318, u319, u320, u321, u322, u323, u324, u325, u326, u327, u328, u329, u330, u331, u332, u333, u334, u335, u336, u337, u338, u339, u340, u341, u342, u343, u344, u345, u346, u347, u348, u349, u350, u351, u352, u353, u354, u355, u356, u357, u358, u359, u360, u361, u362, u363, u364, u365, u366, u367, u368, u369, u370, u371, u372, u373, u374, u375, u376, u377, u378, u379, u380, u381, u382, u383, u384, u385, u386, u387, u388, u389, u390, u391, u392, x393, x394, x395, x396, x397, x398, x399, x400, x401, x402, x403, x404, x405, x406, x407, x408, x409, x410, x411, x412, x413, x414, x415, x416, u417, u418, u419, u420, u421, u422, u423, u424, u425, u426, u427, u428, u429, u430, u431, u432, u433, u434], []⟩ wx) :
    Code.wp Tryd.prog (ofBlk 20) (Exit.then K Q) ⟨#[u0, .pointer (some ⟨W.heap.size, 0, none⟩), .pointer (some ⟨W.heap.size + 1, 0, none⟩), u3, u4, u5, .pointer (some ⟨m, 0, none⟩), u7, u8, u9, u10, u11, u12, u13, u14, u15, u16, u17, u18, u19, u20, u21, u22, u23, .bool b0, .int .i64 0, u26, u27, u28, u29, u30, u31, u32, u33, u34, u35, u36, u37, u38, u39, u40, u41, u42, u43, u44, u45, u46, u47, u48, u49, u50, u51, u52, u53, u54, u55, u56, u57, u58, u59, u60, u61, u62, u63, u64, u65, u66, u67, u68, u69, u70, u71, u72, u73, u74, u75, u76, u77, u78, u79, u80, u81, u82, u83, u84, u85, u86, u87, u88, u89, u90, u91, u92, u93, u94, u95, u96, u97, u98, u99, u100, u101, u102, u103, u104, u105, u106, u107, u108, u109, u110, u111, u112, u113, u114, u115, u116, u117, u118, u119, u120, u121, u122, u123, u124, u125, u126, u127, u128, u129, u130, u131, u132, u133, u134, u135, u136, u137, u138, u139, u140, u141, u142, u143, u144, u145, u146, u147, u148, u149, u150, u151, u152, u153, u154, u155, u156, u157, u158, u159, u160, u161, u162, u163, u164, u165, u166, u167, u168, u169, u170, u171, u172, u173, u174, u175, u176, u177, u178, u179, u180, u181, u182, u183, u184, u185, u186, u187, u188, u189, u190, u191, u192, u193, u194, u195, u196, u197, u198, u199, u200, u201, u202, u203, u204, u205, u206, u207, u208, u209, u210, u211, u212, u213, u214, u215, u216, u217, u218, u219, u220, u221, u222, u223, u224, u225, u226, u227, u228, u229, u230, u231, u232, u233, u234, u235, u236, u237, u238, u239, u240, u241, u242, u243, u244, u245, u246, u247, u248, u249, u250, u251, u252, u253, u254, u255, u256, u257, u258, u259, u260, u261, u262, u263, u264, u265, u266, u267, u268, u269, u270, u271, u272, u273, u274, u275, u276, u277, u278, u279, u280, u281, u282, u283, u284, u285, u286, u287, u288, u289, u290, u291, u292, u293, u294, u295, u296, u297, u298, u299, u300, u301, u302, u303, u304, u305, u306, u307, u308, u309, u310, u311, u312, u313, u314, u315, u316, u317, u318, u319, u320, u321, u322, u323, u324, u325, u326, u327, u328, u329, u330, u331, u332, u333, u334, u335, u336, u337, u338, u339, u340, u341, u342, u343, u344, u345, u346, u347, u348, u349, u350, u351, u352, u353, u354, u355, u356, u357, u358, u359, u360, u361, u362, u363, u364, u365, u366, u367, u368, u369, u370, u371, u372, u373, u374, u375, u376, u377, u378, u379, u380, u381, u382, u383, u384, u385, u386, u387, u388, u389, u390, u391, u392, u393, u394, u395, u396, u397, u398, u399, u400, u401, u402, u403, u404, u405, u406, u407, u408, u409, u410, u411, u412, u413, u414, u415, u416, u417, u418, u419, u420, u421, u422, u423, u424, u425, u426, u427, u428, u429, u430, u431, u432, u433, u434], []⟩ wm := by
  obtain ⟨n, hn⟩ : ∃ n, n = r0.prods.length := ⟨_, rfl⟩
  rw [← hn] at hpb
  obtain ⟨RR, hRR⟩ : ∃ RR, RR = (b0 || r0.prods.any fun p => decide (8 < p.right.length)) := ⟨_, rfl⟩
  rw [← hRR] at hK
  obtain ⟨fo, go, hpo, hpc⟩ := hS.os.mkr.prods
  obtain ⟨qa, qc, hqv⟩ := ownsRowS_some hpo
  rw [hqv] at hpo
  rw [← hn] at hpo hqv
  have hmb := hS.os.mkr.block
  unfold rkCells at hmb
  rw [hqv] at hmb
  have m2 := cell_at (i := 2) hmb
  have lm := lt_at hmb
  have HPO := Lib.hid hpo; have HPC := Lib.hid hpc; have HNE := Lib.hid hn; have HR := Lib.hid hRR
  clear hS hpo hpc hqv hmb hn hRR
  have HKK := Lib.hid hK
  have hM : ∀ a w, Met K a w → K a w := fun _ _ h => h
  clear hK
  conv => arg 2; whnf
  go_wp2_with fail
  go_loopg [24, 25] n (fun q bv iv wr => ∃ (k : Nat) (b : Bool), k ≤ n ∧ q = n - k ∧ iv = .int .i64 k ∧ bv = .bool b ∧ wm = wr ∧ (b || (r0.prods.drop k).any fun p => decide (8 < p.right.length)) = RR)
  case atStart => exact ⟨0, b0, Nat.zero_le _, rfl, rfl, rfl, rfl, HR.out.symm⟩
  case round =>
    obtain ⟨k, b, hk, rfl, rfl, rfl, rfl, hR⟩ := hrel
    have HRR := Lib.hid hR
    have hk0 : (0 : Int) ≤ (k : Int) := Int.natCast_nonneg _
    clear hR
    by_cases hkn : k < n
    · have hk1 : (k : Int) < (n : Int) := by omega
      have hpo := HPO.out
      obtain ⟨gp, cp, hv⟩ := own_form hpo (by omega)
      simp only [Value.slice.injEq] at hv
      obtain ⟨rfl, _, rfl⟩ := hv
      have hkd : k < r0.prods.length := by have := HNE.out; omega
      obtain ⟨p, hpk, hpr, hpm⟩ := at_drop hkd
      have hR := HRR.out
      rw [hpr, List.any_cons] at hR
      obtain ⟨⟨⟨bi, hri⟩, _⟩, _⟩ := HPC.out k p hpk
      obtain ⟨ra, rc, hrv⟩ := ownsRowS_some hri
      obtain ⟨rn, hrn⟩ : ∃ rn, rn = p.right.length := ⟨_, rfl⟩
      rw [← hrn] at hrv hR
      have a1 : wm.cell? ⟨gp, k * 6 + 1, none⟩ = some (.slice ra rn rc) := by
        rw [hpo.cellAt (k * 6 + 1) (by omega), ← hrv]
        refine flatten_at 6 _ (fun r hr' => ?_) k (prodC (fo k) (go k) p) (by rw [List.getElem?_mapIdx, hpk]; rfl) 1 _ rfl
        obtain ⟨i, hi, rfl⟩ := List.getElem_of_mem hr'
        rw [List.getElem_mapIdx]
        rfl
      have lgp := (hpo.lt gp rfl).2
      have hri2 := hri
      clear hpo hpk hpr hpm hri hri2 hrv HRR hkd hrn
      cases b with
      | true =>
        have HR2 : Hid ((true || (r0.prods.drop (k + 1)).any fun p => decide (8 < p.right.length)) = RR) := Lib.hid (by rw [← hR]; simp)
        clear hR
        go_wp2_with fail
        go_roundg (n - (k + 1))
        case measure => omega
        case rel => exact ⟨k + 1, true, by omega, rfl, by go_num, rfl, rfl, HR2.out⟩
      | false =>
        have HR2 : Hid ((decide (8 < rn) || (r0.prods.drop (k + 1)).any fun p => decide (8 < p.right.length)) = RR) := Lib.hid (by rw [← hR]; simp)
        clear hR
        go_wp2_with fail
        go_roundg (n - (k + 1))
        case measure => omega
        case rel => exact ⟨k + 1, decide (8 < rn), by omega, rfl, by go_num, by first | rfl | (congr 1; exact decide_eq_decide.2 (by omega)), rfl, HR2.out⟩
    · obtain rfl : k = n := by omega
      have hb : b = RR := by
        have h := HRR.out
        rw [List.drop_eq_nil_of_le (by rw [HNE.out]; exact Nat.le_refl _)] at h
        simpa using h
      subst hb
      clear HRR
      go_wp2_with fail
      exact HKK.out _ _ _ _ _ _ _ _ _ _ _ _ _ _ _ _ _ _ _ _ _ _ _ _ _ _ (Below.refl _ _)
end Go.Proofs.YtphdfbmmjkccgaaDoor

namespace Go.Proofs.YtphdfbmmjkccgaaDoor
open Go.RowKit Go.Maps

/-- What the document's Of tells. -/
def ROfPost (W : World) (g : Sp.Gram × Sp.Fault) (e : Ending) (w' : World) : Prop :=
  Below W.heap.size W w' ∧ ∃ gv, e = .returned (.tuple #[gv, .int .i64 g.2.err, .int .i64 g.2.at_, .string ⟨g.2.name.toArray⟩]) ∧ GramOwn w' gv g.1
section
variable {P : Program} {fn : Func} {R : Ending → World → Prop} {a : Act} {W : World} {g p u x y : Nat} {ty t : TypeId} {cs : Array Value} {fr : Nat × Nat} {d : TypeDesc}
theorem ret_cell_tmp3 (hf : fn.results = #[.cell p ty, .tmp u, .tmp x, .tmp y]) (hp : a.tmps.getD p undef = .pointer (some ⟨g, 0, none⟩)) (hg : W.heap[g]? = some (.cells cs t fr))
    (hd : (match d with | .struct _ | .array _ _ => true | _ => false) = true) (hu : P.underlying ty = some d) (hi : (P.info? ty).map (·.size) = some cs.size)
    (hdef : a.defers = []) (hR : R (.returned (.tuple #[.agg cs, a.tmps.getD u undef, a.tmps.getD x undef, a.tmps.getD y undef])) W) : bodyPost P fn R .ret a W := by
  refine bodyPost_ret ?_ hdef hR
  have hl := run_loadVar_row (P := P) W g t ty cs fr d hg hu (by cases d <;> simp_all) hi
  have hp' : a.tmps[p]?.getD undef = .pointer (some ⟨g, 0, none⟩) := by simpa using hp
  simp [results, hf, hp', asAddr, hl]
end
theorem heap_thdR (w : World) (a b c : Obj) : (((w.alloc a).alloc b).alloc c).heap[w.heap.size + 1 + 1]? = some c := by
  have h := heap_last ((w.alloc a).alloc b) c
  simp only [World.size_alloc] at h
  exact h
/-- Where Of starts. -/
def startOf (x : Sp.Source) (st : List UInt8) : List UInt8 := if st = [] then (match x.rules with
    | [] => []
    | u :: _ => u.left) else st
theorem rmade_eq (x : Sp.Source) (r1 : Sp.Rk) (st : List UInt8) (r3 : Sp.Rk) (h1 : (r1, st) = Sp.rdecls x.decls (Sp.rk0, [])) (h3 : r3 = Sp.rnames x.decls (Sp.rrules x.rules r1)) :
    Sp.rmade x = Sp.rrulesAlts x.rules { r3 with prods := [⟨0, [1000 + 1 + Sp.leftNo r3.lefts (startOf x st)], -1, [], [], 0⟩] } := by
  subst h3
  unfold Sp.rmade startOf
  simp only [← h1]
  generalize x.rules = R
  cases R <;> rfl
theorem of_last {W w9 wY wF : World} {m : Nat} {x : Sp.Source} {vd vr : Value} {r : Sp.Rk} {v : RkV} {L : List Sp.Non} {c : Array Value} {ta na qa : Option Addr} {tc nc qc : Nat} (hS : OfN W m x vd vr r v L w9) (kY : KpT (fun t => t ≠ 112) w9 wY) (bY : Below W.heap.size w9 wY)
    (hg : wY.heap[W.heap.size + 1]? = some (.cells c 58 (0, 0))) (kF : Kp (fun b => b ≠ W.heap.size + 1) wY wF) (h1 : v.tv = .slice ta r.toks.length tc) (h2 : v.nv = .slice na L.length nc) (h3 : v.pv = .slice qa r.prods.length qc) :
    Below W.heap.size W wF ∧ GramOwn wF (.agg #[.slice ta r.toks.length tc, .slice na L.length nc, .slice qa r.prods.length qc, .string ⟨x.pro.toArray⟩, .string ⟨x.tail.toArray⟩]) ⟨r.toks, L, r.prods, x.pro, x.tail⟩ := by
  have kG : KpT (fun t => t ≠ 58) wY wF := KpT.of_kp kF (fun b cs t fr hb ht e => by
    rw [e, hg] at hb
    simp only [Option.some.injEq, Obj.cells.injEq] at hb
    exact ht hb.2.1.symm)
  have hs := Nat.le_trans hS.os.bel.size bY.size
  refine ⟨(hS.os.bel.trans bY).trans (Kp.below kF hs (fun b hb => by omega)), W.heap.size, ta, tc, na, nc, qa, qc, rfl, ?_, ?_, ?_⟩
  · rw [← h1]; exact ownsRow_kpT (ownsRow_kpT hS.os.mkr.toks kY (by decide)) kG (by decide)
  · rw [← h2]; exact ownsRow_kpT (ownsRow_kpT hS.nons kY (by decide)) kG (by decide)
  · rw [← h3]; exact ((hS.os.mkr.prods.kpT kY (by decide) (by decide)).kpT kG (by decide) (by decide)).own
/-- Does a block stand there at the end? -/
def endsBlk (n : Nat) : Code → Bool
  | .block i _ => i == n
  | .seq _ b => endsBlk n b
  | .scope c => endsBlk n c
  | _ => false
/-- What stands behind a block in its sequence. -/
def findRest (n : Nat) : Code → Option Code
  | .block _ c => findRest n c
  | .loop c => findRest n c
  | .seq a b => if endsBlk n a = true then some b else match findRest n a with
    | some c => some c
    | none => findRest n b
  | .cond _ a b => match findRest n a with
    | some c => some c
    | none => findRest n b
  | .scope c => findRest n c
  | _ => none
noncomputable def ofRest (n : Nat) : Code := (Tryd.f24.body.bind (findRest n)).getD .skip

set_option maxRecDepth 100000 in
set_option maxHeartbeats 12800000 in
theorem of_bad {W w6 : World} {m : Nat} {x : Sp.Source} {da : Option Addr} {dn dc bo oo rn rc : Nat} {r6 : Sp.Rk} {v6 : RkV}
    (u0 u3 u4 u5 u7 u8 u9 u10 u11 u12 u13 u14 u15 u16 u17 u18 u19 u20 u21 u22 u23 u24 u25 u26 u27 u28 u29 u30 u31 u32 u33 u34 u35 u36 u37 u38 u39 u40 u41 u42 u43 u44 u45 u46 u47 u48 u49 u50 u51 u52 u53 u54 u55 u56 u57 u58 u59 u60 u61 u62 u63 u64 u65 u66 u67 u68 u69 u70 u71 u72 u73 u74 u75 u76 u77 u78 u79 u80 u81 u82 u83 u84 u85 u86 u87 u88 u89 u90 u91 u92 u93 u94 u95 u96 u97 u98 u99 u100 u101 u102 u103 u104 u105 u106 u107 u108 u109 u110 u111 u112 u113 u114 u115 u116 u117 u118 u119 u120 u121 u122 u123 u124 u125 u126 u127 u128 u129 u130 u131 u132 u133 u134 u135 u136 u137 u138 u139 u140 u141 u142 u143 u144 u145 u146 u147 u148 u149 u150 u151 u152 u153 u154 u155 u156 u157 u158 u159 u160 u161 u162 u163 u164 u165 u166 u167 u168 u169 u170 u171 u172 u173 u174 u175 u176 u177 u178 u179 u180 u181 u182 u183 u184 u185 u186 u187 u188 u189 u190 u191 u192 u193 u194 u195 u196 u197 u198 u199 u200 u201 u202 u203 u204 u205 u206 u207 u208 u209 u210 u211 u212 u213 u214 u215 u216 u217 u218 u219 u220 u221 u222 u223 u224 u225 u226 u227 u228 u229 u230 u231 u232 u233 u234 u235 u236 u237 u238 u239 u240 u241 u242 u243 u244 u245 u246 u247 u248 u249 u250 u251 u252 u253 u254 u255 u256 u257 u258 u259 u260 u261 u262 u263 u264 u265 u266 u267 u268 u269 u270 u271 u272 u273 u274 u275 u276 u277 u278 u279 u280 u281 u282 u283 u284 u285 u286 u287 u288 u289 u290 u291 u292 u293 u294 u295 u296 u297 u298 u299 u300 u301 u302 u303 u304 u305 u306 u307 u308 u309 u310 u311 u312 u313 u314 u315 u316 u317 u318 u319 u320 u321 u322 u323 u324 u325 u326 u327 u328 u329 u330 u331 u332 u333 u334 u335 u336 u337 u338 u339 u340 u341 u342 u343 u344 u345 u346 u347 u348 u349 u350 u351 u352 u353 u354 u355 u356 u357 u358 u359 u360 u361 u362 u363 u364 u365 u366 u367 u368 u369 u370 u371 u372 u373 u374 u375 u376 u377 u378 u379 u380 u381 u382 u383 u384 u385 u386 u387 u388 u389 u390 u391 u392 u393 u394 u395 u396 u397 u398 u399 u400 u401 u402 u403 u404 u405 u406 u407 u408 u409 u410 u411 u412 u413 u414 u415 u416 u417 u418 u419 u420 u421 u422 u423 u424 u425 u426 u427 u428 u429 u430 u431 u432 u433 u434 : Value) (Q : Exit → Act → World → Prop)
    (hS6 : OfS W m x (.slice da dn dc) (.slice (some ⟨bo, oo, none⟩) rn rc) r6 v6 w6) (hrb6 : Sp.RB (2 ^ 38) r6) (hr6 : r6 = Sp.rmade x) (hm : Sp.may x = true)
    (hf : ¬ (Sp.rmade x).fault.err = 0)
    (hQ : ∀ c (t : Array Value) (a : Act) w, Q (.panic c) ⟨t, a.defers⟩ w → Q (.panic c) a w)
    (hR : ∀ a w, bodyPost Tryd.prog Tryd.f24 (ROfPost W (Sp.refGram x)) .ret a w → Q .ret a w) :
    Code.wp Tryd.prog (ofRest 10) Q ⟨#[u0, .pointer (some ⟨W.heap.size, 0, none⟩), .pointer (some ⟨W.heap.size + 1, 0, none⟩), u3, u4, u5, .pointer (some ⟨m, 0, none⟩), u7, u8, u9, u10, u11, u12, u13, u14, u15, u16, u17, u18, u19, u20, u21, u22, u23, u24, u25, u26, u27, u28, u29, u30, u31, u32, u33, u34, u35, u36, u37, u38, u39, u40, u41, u42, u43, u44, u45, u46, u47, u48, u49, u50, u51, u52, u53, u54, u55, u56, u57, u58, u59, u60, u61, u62, u63, u64, u65, u66, u67, u68, u69, u70, u71, u72, u73, u74, u75, u76, u77, u78, u79, u80, u81, u82, u83, u84, u85, u86, u87, u88, u89, u90, u91, u92, u93, u94, u95, u96, u97, u98, u99, u100, u101, u102, u103, u104, u105, u106, u107, u108, u109, u110, u111, u112, u113, u114, u115, u116, u117, u118, u119, u120, u121, u122, u123, u124, u125, u126, u127, u128, u129, u130, u131, u132, u133, u134, u135, u136, u137, u138, u139, u140, u141, u142, u143, u144, u145, u146, u147, u148, u149, u150, u151, u152, u153, u154, u155, u156, u157, u158, u159, u160, u161, u162, u163, u164, u165, u166, u167, u168, u169, u170, u171, u172, u173, u174, u175, u176, u177, u178, u179, u180, u181, u182, u183, u184, u185, u186, u187, u188, u189, u190, u191, u192, u193, u194, u195, u196, u197, u198, u199, u200, u201, u202, u203, u204, u205, u206, u207, u208, u209, u210, u211, u212, u213, u214, u215, u216, u217, u218, u219, u220, u221, u222, u223, u224, u225, u226, u227, u228, u229, u230, u231, u232, u233, u234, u235, u236, u237, u238, u239, u240, u241, u242, u243, u244, u245, u246, u247, u248, u249, u250, u251, u252, u253, u254, u255, u256, u257, u258, u259, u260, u261, u262, u263, u264, u265, u266, u267, u268, u269, u270, u271, u272, u273, u274, u275, u276, u277, u278, u279, u280, u281, u282, u283, u284, u285, u286, u287, u288, u289, u290, u291, u292, u293, u294, u295, u296, u297, u298, u299, u300, u301, u302, u303, u304, u305, u306, u307, u308, u309, u310, u311, u312, u313, u314, u315, u316, u317, u318, u319, u320, u321, u322, u323, u324, u325, u326, u327, u328, u329, u330, u331, u332, u333, u334, u335, u336, u337, u338, u339, u340, u341, u342, u343, u344, u345, u346, u347, u348, u349, u350, u351, u352, u353, u354, u355, u356, u357, u358, u359, u360, u361, u362, u363, u364, u365, u366, u367, u368, u369, u370, u371, u372, u373, u374, u375, u376, u377, u378, u379, u380, u381, u382, u383, u384, u385, u386, u387, u388, u389, u390, u391, u392, u393, u394, u395, u396, u397, u398, u399, u400, u401, u402, u403, u404, u405, u406, u407, u408, u409, u410, u411, u412, u413, u414, u415, u416, u417, u418, u419, u420, u421, u422, u423, u424, u425, u426, u427, u428, u429, u430, u431, u432, u433, u434], []⟩ w6 := by
  have HRR := Lib.hid hR
  clear hR
  conv => arg 2; whnf
  have HS6 := Lib.hid hS6; have HRB6 := Lib.hid hrb6; have HR6 := Lib.hid hr6
  clear hS6 hrb6 hr6
  have hmb := HS6.out.mkr.block
  unfold rkCells at hmb
  have m1 := cell_at (i := 1) hmb; have f1 := frozen_at (i := 1) hmb; have m8 := cell_at (i := 8) hmb; have m9 := cell_at (i := 9) hmb; have m10 := cell_at (i := 10) hmb
  have lm := lt_at hmb
  obtain ⟨fe, hfe⟩ : ∃ fe, fe = r6.fault.err := ⟨_, rfl⟩
  rw [← hfe] at m8
  have HFE := Lib.hid hfe
  clear hmb hfe
  have hf0 : ¬ fe = 0 := by rw [HFE.out, HR6.out]; exact hf
  have hfb : (fe == 0) = false := by rw [beq_eq_false_iff_ne]; exact hf0
  have hfn : (fe != 0) = true := by rw [bne_iff_ne]; exact hf0
  have E : Hid (Sp.refGram x = (Sp.noGram, r6.fault)) := Lib.hid (by
    have h := Sp.refGram_fault hm (by rw [← HR6.out, ← HFE.out]; exact hf0)
    rw [← HR6.out] at h
    exact h)
  have HSF := Lib.hid (fun (w' : World) (kp : Kp (fun b => b ≠ W.heap.size + 1) w6 w') => (show ((w'.cell? ⟨m, 8, none⟩ = some (.int .i64 fe) ∧ w'.cell? ⟨m, 9, none⟩ = some (.int .i64 r6.fault.at_) ∧ w'.cell? ⟨m, 10, none⟩ = some (.string ⟨r6.fault.name.toArray⟩)) ∧ m < w'.heap.size) from by
    have hmk := HS6.out.mkr.block
    have h1 := kp.at hmk (fun e => by
      have h2 := HS6.out.gbox
      rw [← e, hmk] at h2
      simp only [Option.some.injEq, Obj.cells.injEq] at h2
      exact absurd h2.2.1 (by decide))
    unfold rkCells at h1
    rw [← HFE.out] at h1
    exact ⟨⟨cell_at (i := 8) h1, cell_at (i := 9) h1, cell_at (i := 10) h1⟩, lt_at h1⟩))
  have hgb := HS6.out.gbox
  have b0 := cell_at (i := 0) hgb; have b1 := cell_at (i := 1) hgb; have b2 := cell_at (i := 2) hgb; have b3 := cell_at (i := 3) hgb; have b4 := cell_at (i := 4) hgb
  have fz0 := frozen_at (i := 0) hgb; have fz1 := frozen_at (i := 1) hgb; have fz2 := frozen_at (i := 2) hgb; have fz3 := frozen_at (i := 3) hgb; have fz4 := frozen_at (i := 4) hgb
  have lg := lt_at hgb
  have HGB := Lib.hid hgb
  clear hgb m9 m10
  have HKG : Hid (Kp (fun b => b ≠ W.heap.size + 1) w6 (((((w6.setCell ⟨W.heap.size + 1, 0, none⟩ (.slice none 0 0)).setCell ⟨W.heap.size + 1, 1, none⟩ (.slice none 0 0)).setCell ⟨W.heap.size + 1, 2, none⟩ (.slice none 0 0)).setCell ⟨W.heap.size + 1, 3, none⟩ (.string ⟨#[]⟩)).setCell ⟨W.heap.size + 1, 4, none⟩ (.string ⟨#[]⟩)).drew) := Lib.hid ((((((((Kp.refl _ w6).setCell (p := ⟨W.heap.size + 1, 0, none⟩) (by simp) (.slice none 0 0)).setCell (p := ⟨W.heap.size + 1, 1, none⟩) (by simp) (.slice none 0 0)).setCell (p := ⟨W.heap.size + 1, 2, none⟩) (by simp) (.slice none 0 0)).setCell (p := ⟨W.heap.size + 1, 3, none⟩) (by simp) (.string ⟨#[]⟩)).setCell (p := ⟨W.heap.size + 1, 4, none⟩) (by simp) (.string ⟨#[]⟩))).drew)
  go_upto_region 48 with fail
  refine wp_region_plan (fun w' : World => ((w'.cell? ⟨m, 8, none⟩ = some (.int .i64 fe) ∧ w'.cell? ⟨m, 9, none⟩ = some (.int .i64 r6.fault.at_) ∧ w'.cell? ⟨m, 10, none⟩ = some (.string ⟨r6.fault.name.toArray⟩)) ∧ m < w'.heap.size)) [] (.take 0 (.take 1 (.take 2 (.take 3 (.take 4 (.take 5 (.take 6 (.take 7 (.take 8 (.take 9 (.take 10 (.take 11 (.take 12 (.one 13 (.one 14 (.one 15 (.one 16 (.done)))))))))))))))))) (by kernel_rfl) (by kernel_rfl) (fun c t a w h => hQ c t a w h) ?_
  have hSw := HSF.out _ ((Kp.refl _ w6).drew)
  refine wpPlan_takeD (v := ?vk1) rfl rfl hSw (by rfl) ?yk1 ?_
  case yk1 => (intro w hSx; (try dsimp only at hSx); go_simp; first | done | with_reducible rfl | rfl)
  (try simp only [Act.put, List.setIfInBounds_toArray, List.set_cons_zero, List.set_cons_succ])
  refine wpPlan_takeD (v := ?vk2) rfl rfl hSw (by rfl) ?yk2 ?_
  case yk2 => (intro w hSx; (try dsimp only at hSx); go_simp; first | done | with_reducible rfl | rfl)
  (try simp only [Act.put, List.setIfInBounds_toArray, List.set_cons_zero, List.set_cons_succ])
  refine wpPlan_takeD (v := ?vk3) rfl rfl hSw (by rfl) ?yk3 ?_
  case yk3 => (intro w hSx; (try dsimp only at hSx); go_simp; first | done | with_reducible rfl | rfl)
  (try simp only [Act.put, List.setIfInBounds_toArray, List.set_cons_zero, List.set_cons_succ])
  refine wpPlan_takeD (v := ?vk4) rfl rfl hSw (by rfl) ?yk4 ?_
  case yk4 => (intro w hSx; (try dsimp only at hSx); go_simp; first | done | with_reducible rfl | rfl)
  (try simp only [Act.put, List.setIfInBounds_toArray, List.set_cons_zero, List.set_cons_succ])
  refine wpPlan_takeD (v := ?vk5) rfl rfl hSw (by rfl) ?yk5 ?_
  case yk5 => (intro w hSx; (try dsimp only at hSx); go_simp; first | done | with_reducible rfl | rfl)
  (try simp only [Act.put, List.setIfInBounds_toArray, List.set_cons_zero, List.set_cons_succ])
  refine wpPlan_takeD (v := ?vk6) rfl rfl hSw (by rfl) ?yk6 ?_
  case yk6 => (intro w hSx; (try dsimp only at hSx); go_simp; first | done | with_reducible rfl | rfl)
  (try simp only [Act.put, List.setIfInBounds_toArray, List.set_cons_zero, List.set_cons_succ])
  refine wpPlan_takeD (v := ?vk7) rfl rfl hSw (by rfl) ?yk7 ?_
  case yk7 => (intro w hSx; (try dsimp only at hSx); go_simp; first | done | with_reducible rfl | rfl)
  (try simp only [Act.put, List.setIfInBounds_toArray, List.set_cons_zero, List.set_cons_succ])
  refine wpPlan_takeD (v := ?vk8) rfl rfl hSw (by rfl) ?yk8 ?_
  case yk8 => (intro w hSx; (try dsimp only at hSx); go_simp; first | done | with_reducible rfl | rfl)
  (try simp only [Act.put, List.setIfInBounds_toArray, List.set_cons_zero, List.set_cons_succ])
  refine wpPlan_takeD (v := ?vk9) rfl rfl hSw (by rfl) ?yk9 ?_
  case yk9 => (intro w hSx; (try dsimp only at hSx); go_simp; first | done | with_reducible rfl | rfl)
  (try simp only [Act.put, List.setIfInBounds_toArray, List.set_cons_zero, List.set_cons_succ])
  refine wpPlan_takeD (v := ?vk10) rfl rfl hSw (by rfl) ?yk10 ?_
  case yk10 => (intro w hSx; (try dsimp only at hSx); go_simp; first | done | with_reducible rfl | rfl)
  (try simp only [Act.put, List.setIfInBounds_toArray, List.set_cons_zero, List.set_cons_succ])
  refine wpPlan_takeD (v := ?vk11) rfl rfl hSw (by rfl) ?yk11 ?_
  case yk11 => (intro w hSx; (try dsimp only at hSx); go_simp; first | done | with_reducible rfl | rfl)
  (try simp only [Act.put, List.setIfInBounds_toArray, List.set_cons_zero, List.set_cons_succ])
  refine wpPlan_takeD (v := ?vk12) rfl rfl hSw (by rfl) ?yk12 ?_
  case yk12 => (intro w hSx; (try dsimp only at hSx); go_simp; first | done | with_reducible rfl | rfl)
  (try simp only [Act.put, List.setIfInBounds_toArray, List.set_cons_zero, List.set_cons_succ])
  refine wpPlan_takeD (v := ?vk13) rfl rfl hSw (by rfl) ?yk13 ?_
  case yk13 => (intro w hSx; (try dsimp only at hSx); go_simp; first | done | with_reducible rfl | rfl)
  (try simp only [Act.put, List.setIfInBounds_toArray, List.set_cons_zero, List.set_cons_succ])
  refine wpPlan_run rfl (by rfl) (fun K' hK => ?_)
  go_simp
  refine hK _ _ (.inr ?_) ?_
  · exact HSF.out _ HKG.out
  clear hK K' hSw
  (try simp only [Act.put, List.setIfInBounds_toArray, List.set_cons_zero, List.set_cons_succ])
  refine wpPlan_run rfl (by rfl) (fun K' hK => ?_)
  go_simp
  refine hK _ _ (.inr ?_) ?_
  · exact HSF.out _ HKG.out
  clear hK K'
  (try simp only [Act.put, List.setIfInBounds_toArray, List.set_cons_zero, List.set_cons_succ])
  refine wpPlan_run rfl (by rfl) (fun K' hK => ?_)
  go_simp
  refine hK _ _ (.inr ?_) ?_
  · exact HSF.out _ HKG.out
  clear hK K'
  (try simp only [Act.put, List.setIfInBounds_toArray, List.set_cons_zero, List.set_cons_succ])
  refine wpPlan_run rfl (by rfl) (fun K' hK => ?_)
  go_simp
  refine hK _ _ (.inr ?_) ?_
  · exact HSF.out _ HKG.out
  clear hK K'
  (try simp only [Act.put, List.setIfInBounds_toArray, List.set_cons_zero, List.set_cons_succ])
  refine wpPlan_done ?_
  go_wp2_with fail
  have HEND : Hid (Below W.heap.size W (((((w6.setCell ⟨W.heap.size + 1, 0, none⟩ (.slice none 0 0)).setCell ⟨W.heap.size + 1, 1, none⟩ (.slice none 0 0)).setCell ⟨W.heap.size + 1, 2, none⟩ (.slice none 0 0)).setCell ⟨W.heap.size + 1, 3, none⟩ (.string ⟨#[]⟩)).setCell ⟨W.heap.size + 1, 4, none⟩ (.string ⟨#[]⟩)).drew) := Lib.hid (below_drewN (HS6.out.bel.trans ((((((Below.refl _ w6).setCell (by simp) _).setCell (by simp) _).setCell (by simp) _).setCell (by simp) _).setCell (by simp) _)) 1)
  obtain rfl : fe = r6.fault.err := HFE.out
  refine HRR.out _ _ ?_
  refine ret_cell_tmp3 (g := W.heap.size + 1) (cs := #[.slice none 0 0, .slice none 0 0, .slice none 0 0, .string ⟨#[]⟩, .string ⟨#[]⟩]) (t := 58) (fr := (0, 0)) rfl rfl ?hg rfl Tryd.underlying58 (by kernel_rfl) rfl ?hr
  case hg => exact heap_setCell_at (heap_setCell_at (heap_setCell_at (heap_setCell_at (heap_setCell_at HGB.out))))
  case hr =>
    rw [E.out]
    exact ⟨HEND.out, _, rfl, gramOwn_none _⟩
end Go.Proofs.YtphdfbmmjkccgaaDoor
