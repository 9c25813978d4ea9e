/- yuccaref9.Of: its pass over all alternatives. The document's grammar of a source is the program's: the machine that stops at the first fault tells what the one tells that goes on. -/
import Derived.Test.YtphdfbmmjkccgaaDoorZ17
import Derived.Test.YtphdfbmmjkccgaaDoorZ11
namespace Go.Proofs.YtphdfbmmjkccgaaDoor
open Go.RowKit Go.Maps

namespace Sp
theorem raltGo_RB (N : Nat) : ∀ (l : List Part) (i n : Nat) (r : Rk) (p : Prod), RB n r → RB (n + l.length) (raltGo N i l (r, p)).1
  | [], _, _, _, _, h => h
  | w :: l, i, n, r, p, h => by
    rw [List.length_cons, show n + (l.length + 1) = n + 1 + l.length by omega]
    by_cases hc : w.code = []
    · rw [raltGo_sym _ _ _ _ _ _ hc]
      exact raltGo_RB N l _ _ _ _ (rsymbol_RB _ h)
    · by_cases hi : i + 1 = N
      · rw [raltGo_last _ _ _ _ _ _ hc hi]
        exact raltGo_RB N l _ _ _ _ (h.mono (by omega))
      · rw [raltGo_inner _ _ _ _ _ _ hc hi]
        refine raltGo_RB N l _ _ _ _ ?_
        obtain ⟨q0, q1, q2, q3, q4, q5, q6, q7⟩ := h
        exact ⟨q0, by simp only; omega, by simp only; omega, by simp only; omega, by simp only [List.length_append, List.length_singleton]; omega, by simp only; omega, q6, by simp only; omega⟩
theorem ralt_RB {n : Nat} {r : Rk} (left : List UInt8) (a : Alt) (h : RB n r) : RB (n + a.parts.length + 2) (ralt r left a) := by
  have h1 := raltGo_RB a.parts.length a.parts 0 n r ⟨1 + leftNo r.lefts left, [], -1, [], [], a.at_⟩ h
  have h2 := raltPrec_RB a (rprecGo (raltGo a.parts.length 0 a.parts (r, ⟨1 + leftNo r.lefts left, [], -1, [], [], a.at_⟩)).2.right (raltGo a.parts.length 0 a.parts (r, ⟨1 + leftNo r.lefts left, [], -1, [], [], a.at_⟩)).2.prec) h1
  obtain ⟨q0, q1, q2, q3, q4, q5, q6, q7⟩ := h2
  unfold ralt
  simp only
  exact ⟨q0, by simp only; omega, by simp only; omega, by simp only; omega, by simp only [List.length_append, List.length_singleton]; omega, by simp only; omega, q6, by simp only; omega⟩
theorem rrulesAlts_cons (u : Rule) (l : List Rule) (r : Rk) : rrulesAlts (u :: l) r = rrulesAlts l (ralts u.left u.alts r) := rfl
theorem ralts_cons (left : List UInt8) (a : Alt) (l : List Alt) (r : Rk) : ralts left (a :: l) r = ralts left l (ralt r left a) := rfl
end Sp
/-- Bytes in quotes of an alternative are one byte each. -/
def GoodA (a : Sp.Alt) : Prop := (∀ w ∈ a.parts, w.code = [] → w.sym.lit = true → ∃ c, w.sym.name = [c]) ∧ (a.prec.lit = true → ∃ c, a.prec.name = [c])
/-- How great the maker is by now. -/
def ABoundR (k j : Nat) (r : Sp.Rk) : Prop := Sp.RB (20000000 + k * 16012000 + j * 4002) r
theorem ABoundR.le {k j : Nat} (h : k ≤ 4000) (hj : j ≤ 4000) : 20000000 + k * 16012000 + j * 4002 ≤ 2 ^ 38 := by omega
theorem ABoundR.up {k j : Nat} {r : Sp.Rk} (left : List UInt8) (a : Sp.Alt) (h : ABoundR k j r) (ha : a.parts.length ≤ 4000) : ABoundR k (j + 1) (Sp.ralt r left a) := by
  unfold ABoundR at *
  exact (Sp.ralt_RB left a h).mono (by omega)
theorem ABoundR.next {k j : Nat} {r : Sp.Rk} (h : ABoundR k j r) (hj : j ≤ 4000) : ABoundR (k + 1) 0 r := by
  unfold ABoundR at *
  exact h.mono (by omega)
set_option maxRecDepth 100000 in
set_option maxHeartbeats 12800000 in
theorem of_alts {W wm : World} {m : Nat} {x : Sp.Source} {vd vr : Value} {r0 : Sp.Rk} {v0 : RkV}
    (u0 u3 u4 u5 u7 u8 u9 u10 u11 u12 u13 u14 u15 u17 u18 u19 u20 u21 u22 u23 u24 u25 u26 u27 u28 u29 u30 u31 u32 u33 u34 u35 u36 u37 u38 u39 u40 u41 u42 u43 u44 u45 u46 u47 u48 u49 u50 u51 u52 u53 u54 u55 u56 u57 u58 u59 u60 u61 u62 u63 u64 u65 u66 u67 u68 u69 u70 u71 u72 u73 u74 u75 u76 u77 u78 u79 u80 u81 u82 u83 u84 u85 u86 u87 u88 u89 u90 u91 u92 u93 u94 u95 u96 u97 u98 u99 u100 u101 u102 u103 u104 u105 u106 u107 u108 u109 u110 u111 u112 u113 u114 u115 u116 u117 u118 u119 u120 u121 u122 u123 u124 u125 u126 u127 u128 u129 u130 u131 u132 u133 u134 u135 u136 u137 u138 u139 u140 u141 u142 u143 u144 u145 u146 u147 u148 u149 u150 u151 u152 u153 u154 u155 u156 u157 u158 u159 u160 u161 u162 u163 u164 u165 u166 u167 u168 u169 u170 u171 u172 u173 u174 u175 u176 u177 u178 u179 u180 u181 u182 u183 u184 u185 u186 u187 u188 u189 u190 u191 u192 u193 u194 u195 u196 u197 u198 u199 u200 u201 u202 u203 u204 u205 u206 u207 u208 u209 u210 u211 u212 u213 u214 u215 u216 u217 u218 u219 u220 u221 u222 u223 u224 u225 u226 u227 u228 u229 u230 u231 u232 u233 u234 u235 u236 u237 u238 u239 u240 u241 u242 u243 u244 u245 u246 u247 u248 u249 u250 u251 u252 u253 u254 u255 u256 u257 u258 u259 u260 u261 u262 u263 u264 u265 u266 u267 u268 u269 u270 u271 u272 u273 u274 u275 u276 u277 u278 u279 u280 u281 u282 u283 u284 u285 u286 u287 u288 u289 u290 u291 u292 u293 u294 u295 u296 u297 u298 u299 u300 u301 u302 u303 u304 u305 u306 u307 u308 u309 u310 u311 u312 u313 u314 u315 u316 u317 u318 u319 u320 u321 u322 u323 u324 u325 u326 u327 u328 u329 u330 u331 u332 u333 u334 u335 u336 u337 u338 u339 u340 u341 u342 u343 u344 u345 u346 u347 u348 u349 u350 u351 u352 u353 u354 u355 u356 u357 u358 u359 u360 u361 u362 u363 u364 u365 u366 u367 u368 u369 u370 u371 u372 u373 u374 u375 u376 u377 u378 u379 u380 u381 u382 u383 u384 u385 u386 u387 u388 u389 u390 u391 u392 u393 u394 u395 u396 u397 u398 u399 u400 u401 u402 u403 u404 u405 u406 u407 u408 u409 u410 u411 u412 u413 u414 u415 u416 u417 u418 u419 u420 u421 u422 u423 u424 u425 u426 u427 u428 u429 u430 u431 u432 u433 u434 : Value) (K : Act → World → Prop) (Q : Exit → Act → World → Prop)
    (hS : OfS W m x vd vr r0 v0 wm) (hru : RulesAt W vr x.rules) (hsm : smallSrc x) (hga : ∀ u ∈ x.rules, ∀ a ∈ u.alts, GoodA a) (hrb : ABoundR 0 0 r0)
    (hQ : ∀ c (t : Array Value) (a : Act) w, Q (.panic c) ⟨t, a.defers⟩ w → Q (.panic c) a w)
    (hK : ∀ (x16 x17 x213 x214 x215 x216 x217 x218 x219 x220 x221 x222 x223 x224 x225 x226 x227 x228 x229 x230 x231 x232 x233 x234 x235 x236 x237 x238 x239 x240 x241 x242 x243 x244 x245 x246 x247 : Value) (wx : World) (v1 : RkV), OfS W m x vd vr (Sp.rrulesAlts x.rules r0) v1 wx → Sp.RB (2 ^ 38) (Sp.rrulesAlts x.rules r0) → K ⟨#[u0, .pointer (some ⟨W.heap.size, 0, none⟩), .pointer (some ⟨W.heap.size + 1, 0, none⟩), u3, u4, u5, .pointer (some ⟨m, 0, none⟩), u7, u8, u9, u10, u11, u12, u13, u14, u15, x16, x17, u18, u19, u20, u21, u22, u23, u24, u25, u26, u27, u28, u29, u30, u31, u32, u33, u34, u35, u36, u37, u38, u39, u40, u41, u42, u43, u44, u45, u46, u47, u48, u49, u50, u51, u52, u53, u54, u55, u56, u57, u58, u59, u60, u61, u62, u63, u64, u65, u66, u67, u68, u69, u70, u71, u72, u73, u74, u75, u76, u77, u78, u79, u80, u81, u82, u83, u84, u85, u86, u87, u88, u89, u90, u91, u92, u93, u94, u95, u96, u97, u98, u99, u100, u101, u102, u103, u104, u105, u106, u107, u108, u109, u110, u111, u112, u113, u114, u115, u116, u117, u118, u119, u120, u121, u122, u123, u124, u125, u126, u127, u128, u129, u130, u131, u132, u133, u134, u135, u136, u137, u138, u139, u140, u141, u142, u143, u144, u145, u146, u147, u148, u149, u150, u151, u152, u153, u154, u155, u156, u157, u158, u159, u160, u161, u162, u163, u164, u165, u166, u167, u168, u169, u170, u171, u172, u173, u174, u175, u176, u177, u178, u179, u180, u181, u182, u183, u184, u185, u186, u187, u188, u189, u190, u191, u192, u193, u194, u195, u196, u197, u198, u199, u200, u201, u202, u203, u204, u205, u206, u207, u208, u209, u210, u211, u212, x213, x214, x215, x216, x217, x218, x219, x220, x221, x222, x223, x224, x225, x226, x227, x228, x229, x230, x231, x232, x233, x234, x235, x236, x237, x238, x239, x240, x241, x242, x243, x244, x245, x246, x247, u248, u249, u250, u251, u252, u253, u254, u255, u256, u257, u258, u259, u260, u261, u262, u263, u264, u265, u266, u267, u268, u269, u270, u271, u272, u273, u274, u275, u276, u277, u278, u279, u280, u281, u282, u283, u284, u285, u286, u287, u288, u289, u290, u291, u292, u293, u294, u295, u296, u297, u298, u299, u300, u301, u302, u303, u304, u305, u306, u307, u308, u309, u310, u311, u312, u313, u314, u315, u316, u317, u318, u319, u320, u321, u322, u323, u324, u325, u326, u327, u328, u329, u330, u331, u332, u333, u334, u335, u336, u337, u338, u339, u340, u341, u342, u343, u344, u345, u346, u347, u348, u349, u350, u351, u352, u353, u354, u355, u356, u357, u358, u359, u360, u361, u362, u363, u364, u365, u366, u367, u368, u369, u370, u371, u372, u373, u374, u375, u376, u377, u378, u379, u380, u381, u382, u383, u384, u385, u386, u387, u388, u389, u390, u391, u392, u393, u394, u395, u396, u397, u398, u399, u400, u401, u402, u403, u404, u405, u406, u407, u408, u409, u410, u411, u412, u413, u414, u415, u416, u417, u418, u419, u420, u421, u422, u423, u424, u425, u426, u427, u428, u429, u430, u431, u432, u433, u434], []⟩ wx) :
    Code.wp Tryd.prog (ofBlk 10) (Exit.then K Q) ⟨#[u0, .pointer (some ⟨W.heap.size, 0, none⟩), .pointer (some ⟨W.heap.size + 1, 0, none⟩), u3, u4, u5, .pointer (some ⟨m, 0, none⟩), u7, u8, u9, u10, u11, u12, u13, u14, u15, .int .i64 0, u17, u18, u19, u20, u21, u22, u23, u24, u25, u26, u27, u28, u29, u30, u31, u32, u33, u34, u35, u36, u37, u38, u39, u40, u41, u42, u43, u44, u45, u46, u47, u48, u49, u50, u51, u52, u53, u54, u55, u56, u57, u58, u59, u60, u61, u62, u63, u64, u65, u66, u67, u68, u69, u70, u71, u72, u73, u74, u75, u76, u77, u78, u79, u80, u81, u82, u83, u84, u85, u86, u87, u88, u89, u90, u91, u92, u93, u94, u95, u96, u97, u98, u99, u100, u101, u102, u103, u104, u105, u106, u107, u108, u109, u110, u111, u112, u113, u114, u115, u116, u117, u118, u119, u120, u121, u122, u123, u124, u125, u126, u127, u128, u129, u130, u131, u132, u133, u134, u135, u136, u137, u138, u139, u140, u141, u142, u143, u144, u145, u146, u147, u148, u149, u150, u151, u152, u153, u154, u155, u156, u157, u158, u159, u160, u161, u162, u163, u164, u165, u166, u167, u168, u169, u170, u171, u172, u173, u174, u175, u176, u177, u178, u179, u180, u181, u182, u183, u184, u185, u186, u187, u188, u189, u190, u191, u192, u193, u194, u195, u196, u197, u198, u199, u200, u201, u202, u203, u204, u205, u206, u207, u208, u209, u210, u211, u212, u213, u214, u215, u216, u217, u218, u219, u220, u221, u222, u223, u224, u225, u226, u227, u228, u229, u230, u231, u232, u233, u234, u235, u236, u237, u238, u239, u240, u241, u242, u243, u244, u245, u246, u247, u248, u249, u250, u251, u252, u253, u254, u255, u256, u257, u258, u259, u260, u261, u262, u263, u264, u265, u266, u267, u268, u269, u270, u271, u272, u273, u274, u275, u276, u277, u278, u279, u280, u281, u282, u283, u284, u285, u286, u287, u288, u289, u290, u291, u292, u293, u294, u295, u296, u297, u298, u299, u300, u301, u302, u303, u304, u305, u306, u307, u308, u309, u310, u311, u312, u313, u314, u315, u316, u317, u318, u319, u320, u321, u322, u323, u324, u325, u326, u327, u328, u329, u330, u331, u332, u333, u334, u335, u336, u337, u338, u339, u340, u341, u342, u343, u344, u345, u346, u347, u348, u349, u350, u351, u352, u353, u354, u355, u356, u357, u358, u359, u360, u361, u362, u363, u364, u365, u366, u367, u368, u369, u370, u371, u372, u373, u374, u375, u376, u377, u378, u379, u380, u381, u382, u383, u384, u385, u386, u387, u388, u389, u390, u391, u392, u393, u394, u395, u396, u397, u398, u399, u400, u401, u402, u403, u404, u405, u406, u407, u408, u409, u410, u411, u412, u413, u414, u415, u416, u417, u418, u419, u420, u421, u422, u423, u424, u425, u426, u427, u428, u429, u430, u431, u432, u433, u434], []⟩ wm := by
  obtain ⟨fr, hr1, hr2⟩ := hru
  obtain ⟨da, dc, rfl⟩ := hr1.form
  rw [List.length_mapIdx] at hr1 hS hK
  obtain ⟨n, hn⟩ : ∃ n, n = x.rules.length := ⟨_, rfl⟩
  have hn4 : n ≤ 4000 := by rw [hn]; exact hsm.2.2.2.1
  rw [← hn] at hr1 hS hK
  obtain ⟨RR, hRR⟩ : ∃ RR, RR = Sp.rrulesAlts x.rules r0 := ⟨_, rfl⟩
  rw [← hRR] at hK
  have HS0 := Lib.hid hS; have HR1 := Lib.hid hr1; have HRA := Lib.hid hr2; have HSM := Lib.hid hsm; have HRB := Lib.hid hrb; have HNE := Lib.hid hn; have HR := Lib.hid hRR; have HGA := Lib.hid hga
  clear hS hr1 hr2 hsm hrb hn hRR hga
  have HKK := Lib.hid hK
  have hM : ∀ a w, Met K a w → K a w := fun _ _ h => h
  clear hK
  conv => arg 2; whnf
  go_wp2_with fail
  go_loopg [16] n (fun q iv wr => ∃ (k : Nat) (r : Sp.Rk) (v : RkV), k ≤ n ∧ q = n - k ∧ iv = .int .i64 k ∧ OfS W m x vd (.slice da n dc) r v wr ∧ ABoundR k 0 r ∧ Sp.rrulesAlts (x.rules.drop k) r = RR)
  case atStart => exact ⟨0, r0, v0, Nat.zero_le _, rfl, rfl, HS0.out, HRB.out, HR.out.symm⟩
  case round =>
    clear HS0 HR HRB
    obtain ⟨k, r, v, hk, rfl, rfl, hS, hrb, hR⟩ := hrel
    obtain ⟨wo, hwo⟩ : ∃ wo : World, wo = wr := ⟨_, rfl⟩
    subst hwo
    obtain ⟨ko, hko⟩ : ∃ ko : Nat, ko = k := ⟨_, rfl⟩
    subst hko
    have HS := Lib.hid hS; have HRB := Lib.hid hrb; have HRR := Lib.hid hR
    have hk0 : (0 : Int) ≤ (ko : Int) := Int.natCast_nonneg _
    have s2 : wo.cell? ⟨W.heap.size, 2, none⟩ = some (.slice da n dc) := cell_at (i := 2) hS.sbox
    have ls := lt_at hS.sbox
    clear hS hrb hR
    by_cases hkn : ko < n
    · have hk1 : (ko : Int) < (n : Int) := by omega
      have hkd : ko < x.rules.length := by have := HNE.out; omega
      obtain ⟨⟨ul, ual, ua⟩, hdk, hdr, hmem⟩ := at_drop hkd
      have hsr := HSM.out.2.2.2.2.2 _ hmem
      have hgu := HGA.out _ hmem
      obtain ⟨bo, oo, rfl, hbo, hco⟩ := HR1.out.at (k := ko) (row := ruleC (fr ko) ⟨ul, ual, ua⟩) (by rw [List.getElem?_mapIdx, hdk]; rfl)
      obtain ⟨ga, hal1, hal2⟩ := HRA.out ko _ hdk
      obtain ⟨va, ac, huv⟩ := hal1.form
      rw [List.length_mapIdx] at huv
      simp only at huv hsr hgu
      obtain ⟨an, han⟩ : ∃ an, an = ual.length := ⟨_, rfl⟩
      have han4 : an ≤ 4000 := by rw [han]; exact hsr.2.1
      rw [← han] at huv
      rw [huv] at hco hal1
      have hR := HRR.out
      rw [hdr, Sp.rrulesAlts_cons] at hR
      simp only at hR
      have HCO := Lib.hid (fun (w' : World) (hb : Below W.heap.size W w') => (show w'.cell? ⟨bo, oo + ko * 3, none⟩ = some (.string ⟨ul.toArray⟩) ∧ w'.cell? ⟨bo, oo + ko * 3 + 1, none⟩ = some (.slice va an ac) ∧ bo < w'.heap.size from by
        have h := hco w' hb
        have g0 := h 0 _ rfl; have g1 := h 1 _ rfl
        simp only [Nat.add_zero] at g0
        exact ⟨g0, g1, by have := hb.size; omega⟩))
      have HAL1 := Lib.hid hal1; have HAL2 := Lib.hid hal2; have HAN := Lib.hid han; have HSR := Lib.hid hsr; have HGU := Lib.hid hgu
      obtain ⟨R2, hR2⟩ : ∃ R2, R2 = Sp.ralts ul ual r := ⟨_, rfl⟩
      rw [← hR2] at hR
      have HR3 := Lib.hid hR; have HRI := Lib.hid hR2
      clear hco hal1 hal2 han hsr hgu hR hR2 hdr hdk hmem HRR hbo huv
      go_wp2_with fail
      go_loopg [17] an (fun q iv wr => ∃ (j : Nat) (r3 : Sp.Rk) (v3 : RkV), j ≤ an ∧ q = an - j ∧ iv = .int .i64 j ∧ OfS W m x vd (.slice (some ⟨bo, oo, none⟩) n dc) r3 v3 wr ∧ ABoundR ko j r3 ∧ Sp.ralts ul (ual.drop j) r3 = R2)
      case atStart => exact ⟨0, r, v, Nat.zero_le _, rfl, rfl, HS.out, HRB.out, HRI.out.symm⟩
      case round =>
        obtain ⟨j, r3, v3, hj, rfl, rfl, hS3, hrb3, hR3⟩ := hrel
        obtain ⟨wj, hwj⟩ : ∃ wj : World, wj = wr := ⟨_, rfl⟩
        subst hwj
        have HS3 := Lib.hid hS3; have HRB3 := Lib.hid hrb3; have HR4 := Lib.hid hR3
        have hj0 : (0 : Int) ≤ (j : Int) := Int.natCast_nonneg _
        have s2 : wj.cell? ⟨W.heap.size, 2, none⟩ = some (.slice (some ⟨bo, oo, none⟩) n dc) := cell_at (i := 2) hS3.sbox
        have ls := lt_at hS3.sbox
        obtain ⟨c0, c1, lb⟩ := HCO.out wj hS3.bel
        clear hS3 hrb3 hR3
        by_cases hjn : j < an
        · have hj1 : (j : Int) < (an : Int) := by omega
          have hjd : j < ual.length := by have := HAN.out; omega
          obtain ⟨⟨aps, ⟨qn, ql, qu, qa⟩, ap⟩, hjk, hjr, hjm⟩ := at_drop hjd
          obtain ⟨ba, oa, rfl, hba, hca⟩ := HAL1.out.at (k := j) (row := altC (ga j) ⟨aps, ⟨qn, ql, qu, qa⟩, ap⟩) (by rw [List.getElem?_mapIdx, hjk]; rfl)
          have hps := HAL2.out j _ hjk
          obtain ⟨pa, pc, hpv⟩ := hps.form
          rw [List.length_map] at hpv
          simp only at hpv hps
          have hsa := HSR.out.2.2 _ hjm
          obtain ⟨hg1, hg2⟩ := HGU.out _ hjm
          have hR3 := HR4.out
          rw [hjr, Sp.ralts_cons] at hR3
          have hrb4 := HRB3.out.up ul ⟨aps, ⟨qn, ql, qu, qa⟩, ap⟩ hsa.1
          obtain ⟨pn, hpn⟩ : ∃ pn, pn = aps.length := ⟨_, rfl⟩
          rw [← hpn] at hpv
          have HAL := Lib.hid (fun (w' : World) (hb : Below wj.heap.size wj w') => (show Calls Tryd.prog 42 #[.pointer (some ⟨m, 0, none⟩), .string ⟨ul.toArray⟩, .agg #[.slice pa pn pc, .string ⟨qn.toArray⟩, .bool ql, .int .i64 qu, .int .i64 qa, .int .i64 ap]] w' (RAltPost W.heap.size m w' (Sp.ralt r3 ul ⟨aps, ⟨qn, ql, qu, qa⟩, ap⟩)) from by
            have h := ref_alt ul ⟨aps, ⟨qn, ql, qu, qa⟩, ap⟩ (ga j) (HS3.out.mkr.below hb) (HS3.out.bel.trans (hb.mono HS3.out.bel.size)) hps hsa.1 HRB3.out (ABoundR.le (by omega) (by omega)) hg1 hg2
            rw [hpv] at h
            exact h))
          have HCA := Lib.hid hca; have HPV := Lib.hid hpv
          have HSK := Lib.hid (fun (w' : World) (hb : Below wj.heap.size wj w') => (show (w'.cell? ⟨W.heap.size, 2, none⟩ = some (.slice (some ⟨bo, oo, none⟩) n dc) ∧ w'.cell? ⟨bo, oo + ko * 3, none⟩ = some (.string ⟨ul.toArray⟩) ∧ w'.cell? ⟨bo, oo + ko * 3 + 1, none⟩ = some (.slice (some ⟨ba, oa, none⟩) an ac) ∧ (w'.cell? ⟨ba, oa + j * 6, none⟩ = some (.slice pa pn pc) ∧ w'.cell? ⟨ba, oa + j * 6 + 1, none⟩ = some (.string ⟨qn.toArray⟩) ∧ w'.cell? ⟨ba, oa + j * 6 + 2, none⟩ = some (.bool ql) ∧ w'.cell? ⟨ba, oa + j * 6 + 3, none⟩ = some (.int .i64 qu) ∧ w'.cell? ⟨ba, oa + j * 6 + 4, none⟩ = some (.int .i64 qa) ∧ w'.cell? ⟨ba, oa + j * 6 + 5, none⟩ = some (.int .i64 ap)) ∧ W.heap.size < w'.heap.size ∧ bo < w'.heap.size ∧ ba < w'.heap.size) from by
            have h1 := (HS3.out.below hb).sbox
            have hbw := (HS3.out.below hb).bel
            obtain ⟨c0, c1, lb⟩ := HCO.out w' hbw
            have hcc := HCA.out w' hbw
            rw [HPV.out] at hcc
            have g0 := hcc 0 _ rfl; have g1 := hcc 1 _ rfl; have g2 := hcc 2 _ rfl; have g3 := hcc 3 _ rfl; have g4 := hcc 4 _ rfl; have g5 := hcc 5 _ rfl
            simp only [Nat.add_zero] at g0
            exact ⟨cell_at (i := 2) h1, c0, c1, ⟨g0, g1, g2, g3, g4, g5⟩, lt_at h1, lb, by have := hbw.size; omega⟩))
          have HRB4 := Lib.hid hrb4; have HR5 := Lib.hid hR3
          clear hjk hjr hjm hca hps hpv hsa hg1 hg2 hR3 HR4 hrb4 hpn hba
          go_upto_region 46 with fail
          refine wp_region_plan (fun w' : World => (w'.cell? ⟨W.heap.size, 2, none⟩ = some (.slice (some ⟨bo, oo, none⟩) n dc) ∧ w'.cell? ⟨bo, oo + ko * 3, none⟩ = some (.string ⟨ul.toArray⟩) ∧ w'.cell? ⟨bo, oo + ko * 3 + 1, none⟩ = some (.slice (some ⟨ba, oa, none⟩) an ac) ∧ (w'.cell? ⟨ba, oa + j * 6, none⟩ = some (.slice pa pn pc) ∧ w'.cell? ⟨ba, oa + j * 6 + 1, none⟩ = some (.string ⟨qn.toArray⟩) ∧ w'.cell? ⟨ba, oa + j * 6 + 2, none⟩ = some (.bool ql) ∧ w'.cell? ⟨ba, oa + j * 6 + 3, none⟩ = some (.int .i64 qu) ∧ w'.cell? ⟨ba, oa + j * 6 + 4, none⟩ = some (.int .i64 qa) ∧ w'.cell? ⟨ba, oa + j * 6 + 5, none⟩ = some (.int .i64 ap)) ∧ W.heap.size < w'.heap.size ∧ bo < w'.heap.size ∧ ba < w'.heap.size)) [16] (.take 0 (.take 1 (.take 2 (.take 3 (.take 4 (.take 5 (.take 6 (.take 7 (.take 8 (.take 9 (.take 10 (.take 11 (.take 12 (.take 13 (.take 14 (.take 15 (.one 16 (.done)))))))))))))))))) (by kernel_rfl) (by kernel_rfl) (fun c t a w h => hQ c t a w h) ?_
          have hSw := HSK.out _ (below_drewN (Below.refl _ wj) 1)
          refine wpPlan_takeD (v := ?va1) rfl rfl hSw (by rfl) ?ya1 ?_
          case ya1 => (intro w hSx; (try dsimp only at hSx); go_simp; first | done | with_reducible rfl | rfl)
          (try simp only [Act.put, List.setIfInBounds_toArray, List.set_cons_zero, List.set_cons_succ])
          refine wpPlan_takeD (v := ?va2) rfl rfl hSw (by rfl) ?ya2 ?_
          case ya2 => (intro w hSx; (try dsimp only at hSx); go_simp; first | done | with_reducible rfl | rfl)
          (try simp only [Act.put, List.setIfInBounds_toArray, List.set_cons_zero, List.set_cons_succ])
          refine wpPlan_takeD (v := ?va3) rfl rfl hSw (by rfl) ?ya3 ?_
          case ya3 => (intro w hSx; (try dsimp only at hSx); go_simp; first | done | with_reducible rfl | rfl)
          (try simp only [Act.put, List.setIfInBounds_toArray, List.set_cons_zero, List.set_cons_succ])
          refine wpPlan_takeD (v := ?va4) rfl rfl hSw (by rfl) ?ya4 ?_
          case ya4 => (intro w hSx; (try dsimp only at hSx); go_simp; first | done | with_reducible rfl | rfl)
          (try simp only [Act.put, List.setIfInBounds_toArray, List.set_cons_zero, List.set_cons_succ])
          refine wpPlan_takeD (v := ?va5) rfl rfl hSw (by rfl) ?ya5 ?_
          case ya5 => (intro w hSx; (try dsimp only at hSx); go_simp; first | done | with_reducible rfl | rfl)
          (try simp only [Act.put, List.setIfInBounds_toArray, List.set_cons_zero, List.set_cons_succ])
          refine wpPlan_takeD (v := ?va6) rfl rfl hSw (by rfl) ?ya6 ?_
          case ya6 => (intro w hSx; (try dsimp only at hSx); go_simp; first | done | with_reducible rfl | rfl)
          (try simp only [Act.put, List.setIfInBounds_toArray, List.set_cons_zero, List.set_cons_succ])
          refine wpPlan_takeD (v := ?va7) rfl rfl hSw (by rfl) ?ya7 ?_
          case ya7 => (intro w hSx; (try dsimp only at hSx); go_simp; first | done | with_reducible rfl | rfl)
          (try simp only [Act.put, List.setIfInBounds_toArray, List.set_cons_zero, List.set_cons_succ])
          refine wpPlan_takeD (v := ?va8) rfl rfl hSw (by rfl) ?ya8 ?_
          case ya8 => (intro w hSx; (try dsimp only at hSx); go_simp; first | done | with_reducible rfl | rfl)
          (try simp only [Act.put, List.setIfInBounds_toArray, List.set_cons_zero, List.set_cons_succ])
          refine wpPlan_takeD (v := ?va9) rfl rfl hSw (by rfl) ?ya9 ?_
          case ya9 => (intro w hSx; (try dsimp only at hSx); go_simp; first | done | with_reducible rfl | rfl)
          (try simp only [Act.put, List.setIfInBounds_toArray, List.set_cons_zero, List.set_cons_succ])
          refine wpPlan_takeD (v := ?va10) rfl rfl hSw (by rfl) ?ya10 ?_
          case ya10 => (intro w hSx; (try dsimp only at hSx); go_simp; first | done | with_reducible rfl | rfl)
          (try simp only [Act.put, List.setIfInBounds_toArray, List.set_cons_zero, List.set_cons_succ])
          refine wpPlan_takeD (v := ?va11) rfl rfl hSw (by rfl) ?ya11 ?_
          case ya11 => (intro w hSx; (try dsimp only at hSx); go_simp; first | done | with_reducible rfl | rfl)
          (try simp only [Act.put, List.setIfInBounds_toArray, List.set_cons_zero, List.set_cons_succ])
          refine wpPlan_takeD (v := ?va12) rfl rfl hSw (by rfl) ?ya12 ?_
          case ya12 => (intro w hSx; (try dsimp only at hSx); go_simp; first | done | with_reducible rfl | rfl)
          (try simp only [Act.put, List.setIfInBounds_toArray, List.set_cons_zero, List.set_cons_succ])
          refine wpPlan_takeD (v := ?va13) rfl rfl hSw (by rfl) ?ya13 ?_
          case ya13 => (intro w hSx; (try dsimp only at hSx); go_simp; first | done | with_reducible rfl | rfl)
          (try simp only [Act.put, List.setIfInBounds_toArray, List.set_cons_zero, List.set_cons_succ])
          refine wpPlan_takeD (v := ?va14) rfl rfl hSw (by rfl) ?ya14 ?_
          case ya14 => (intro w hSx; (try dsimp only at hSx); go_simp; first | done | with_reducible rfl | rfl)
          (try simp only [Act.put, List.setIfInBounds_toArray, List.set_cons_zero, List.set_cons_succ])
          refine wpPlan_takeD (v := ?va15) rfl rfl hSw (by rfl) ?ya15 ?_
          case ya15 => (intro w hSx; (try dsimp only at hSx); go_simp; first | done | with_reducible rfl | rfl)
          (try simp only [Act.put, List.setIfInBounds_toArray, List.set_cons_zero, List.set_cons_succ])
          refine wpPlan_takeD (v := ?va16) rfl rfl hSw (by rfl) ?ya16 ?_
          case ya16 => (intro w hSx; (try dsimp only at hSx); go_simp; first | done | with_reducible rfl | rfl)
          (try simp only [Act.put, List.setIfInBounds_toArray, List.set_cons_zero, List.set_cons_succ])
          refine wpPlan_run rfl (by rfl) (fun K' hK => ?_)
          (go_simp; go_at_call 42; refine (HAL.out _ (below_drewN (Below.refl _ wj) 1)).mono ?_; rintro e w5 ⟨rfl, v5, h5, hb5', hk5'⟩; have hb5 : Below W.heap.size wj w5 := below_undrew hb5'; have hk5 : KpT RTA wj w5 := fun b cs t fr hb ht => hk5' b cs t fr hb ht; clear hb5' hk5')
          refine hK _ _ (.inl rfl) ?_
          clear hK K' hSw
          (try simp only [Act.put, List.setIfInBounds_toArray, List.set_cons_zero, List.set_cons_succ])
          refine wpPlan_done ?_
          have hS5 := HS3.out.step h5 hb5 (hk5.mono (fun t ht => by unfold RTA RT; rcases ht with rfl | rfl <;> decide))
          have HS5 := Lib.hid hS5
          clear h5 hb5 hk5 hS5 HSK HCA HAL
          go_wp2_with fail
          go_roundg (an - (j + 1))
          case measure => omega
          case rel => exact ⟨j + 1, _, v5, by omega, rfl, by go_num, HS5.out, HRB4.out, HR5.out⟩
        · obtain rfl : j = an := by omega
          have hRe : r3 = R2 := by
            have h := HR4.out
            rw [List.drop_eq_nil_of_le (by rw [HAN.out]; exact Nat.le_refl _)] at h
            exact h
          have HRE := Lib.hid hRe
          clear hRe HR4
          go_wp2_with fail
          go_roundg (n - (ko + 1))
          case measure => omega
          case rel => exact ⟨ko + 1, r3, v3, by omega, rfl, by go_num, HS3.out, HRB3.out.next (by omega), by rw [HRE.out]; exact HR3.out⟩
    · obtain rfl : ko = n := by omega
      have hRe : r = RR := by
        have h := HRR.out
        rw [List.drop_eq_nil_of_le (by rw [HNE.out]; exact Nat.le_refl _)] at h
        exact h
      subst hRe
      have hrb3 : Sp.RB (2 ^ 38) r := Sp.RB.mono HRB.out (ABoundR.le (by omega) (by omega))
      have HRB3 := Lib.hid hrb3
      clear HRR hrb3
      go_wp2_with fail
      exact HKK.out _ _ _ _ _ _ _ _ _ _ _ _ _ _ _ _ _ _ _ _ _ _ _ _ _ _ _ _ _ _ _ _ _ _ _ _ _ _ v HS.out HRB3.out
end Go.Proofs.YtphdfbmmjkccgaaDoor

namespace Go.Proofs.YtphdfbmmjkccgaaDoor
namespace Sp

/-! ### Tokens -/
structure Inv (s : Mk) : Prop where
  three : 3 ≤ s.toks.length
  same : s.given.length = s.toks.length
  one : ∃ t, s.toks[1]? = some t ∧ t.name = errName ∧ t.lit = false
  noerr : ∀ (i : Nat) (t : Tok), 3 ≤ i → s.toks[i]? = some t → ¬ (t.name = errName ∧ t.lit = false)
  zero : ∀ (i : Nat) (t : Tok), 3 ≤ i → s.toks[i]? = some t → s.given[i]? = some false → t.num = 0
/-! ### Steps -/
structure Sim (s : Mk) (r : Rk) : Prop where
  toks : r.toks = s.toks
  given : r.given = s.given
  lefts : r.lefts = s.lefts
  types : ∀ nm, typeOf r.types nm = typeOf s.types nm
  ok : r.fault = okFault
/-! ### What the declarations leave -/
def SameL (s s' : Mk) : Prop := s'.lefts = s.lefts ∧ s'.nons = s.nons ∧ s'.prods = s.prods
theorem SameL.trans {a b c : Mk} (h : SameL a b) (k : SameL b c) : SameL a c := ⟨k.1.trans h.1, k.2.1.trans h.2.1, k.2.2.trans h.2.2⟩
/-! ### Lefts -/
/-- Behind the second pass: each Left is no token's name; the nonterminals are the Lefts. -/
structure LInv (s : Mk) : Prop where
  apart : ∀ nm k, rleft s.lefts nm = some k → tokIx s.toks nm false = none
  nons : s.nons = ⟨[36, 97, 99, 99, 101, 112, 116], []⟩ :: s.lefts.map fun l => ⟨l, (typeOf s.types l).getD []⟩
/-! ### Names that are no rule's -/
/-! ### Rules -/
def Ext (s F : Mk) : Prop := F.lefts = s.lefts ∧ (∀ nm lt k, tokIx s.toks nm lt = some k → tokIx F.toks nm lt = some k) ∧ ∀ nm k, rleft s.lefts nm = some k → tokIx F.toks nm false = none
theorem Ext.refl {s : Mk} (h : LInv s) : Ext s s := ⟨rfl, fun _ _ _ h => h, fun nm k hk => h.apart nm k hk⟩
theorem Ext.trans {a b c : Mk} (h : Ext a b) (k : Ext b c) : Ext a c := ⟨k.1.trans h.1, fun nm lt i hi => k.2.1 nm lt i (h.2.1 nm lt i hi), fun nm i hi => k.2.2 nm i (by rw [h.1]; exact hi)⟩
/-- What a step within the rules keeps. -/
structure Kept (s s' : Mk) (r r' : Rk) : Prop where
  sim : Sim s' r'
  inv : Inv s'
  linv : LInv s'
  ext : Ext s s'
  start : s'.start = s.start
  types : s'.types = s.types
  prods : s'.prods = s.prods
/-- What is known of the maker that makes the productions. -/
structure GG (F G : Mk) (L : List Non) (r : Rk) : Prop where
  toks : G.toks = F.toks
  lefts : G.lefts = F.lefts
  given : G.given = F.given
  types : G.types = F.types
  prods : G.prods = r.prods
  nons : G.nons = L ++ innerNons r.inner
  len : L.length = 1 + F.lefts.length
theorem innerNons_length : ∀ n, (innerNons n).length = n
  | 0 => rfl
  | n + 1 => by unfold innerNons; simp [innerNons_length n]
theorem Kept.trans {s s1 s2 : Mk} {r r1 r2 : Rk} (h : Kept s s1 r r1) (k : Kept s1 s2 r1 r2) : Kept s s2 r r2 := ⟨k.sim, k.inv, k.linv, h.ext.trans k.ext, k.start.trans h.start, k.types.trans h.types, k.prods.trans h.prods⟩
/-! ### The whole -/
theorem numGo_length : ∀ (ts : List Tok) (gs : List Bool) (n : Int), (numGo n ts gs).length = ts.length
  | [], _, _ => by simp [numGo]
  | t :: ts, [], _ => by simp [numGo]
  | t :: ts, g :: gs, n => by
    unfold numGo
    split <;> simp [numGo_length ts gs]
end Sp
end Go.Proofs.YtphdfbmmjkccgaaDoor
