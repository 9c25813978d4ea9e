/- yuccaref9.Of: the nonterminals. -/
import Derived.Lib.ItoaLen
import Derived.Test.YtphdfbmmjkccgaaDoorZ18
namespace Go.Proofs.YtphdfbmmjkccgaaDoor
open Go.RowKit Go.Maps

/-- While Of makes its nonterminals. -/
structure OfN (W : World) (m : Nat) (x : Sp.Source) (vd vr : Value) (r : Sp.Rk) (v : RkV) (L : List Sp.Non) (wx : World) : Prop where
  os : OfS W m x vd vr r v wx
  nons : wx.ownsRow W.heap.size 99 2 v.nv L.length (L.map nonC).flatten
  apart : ∀ b, v.nv.ownBlock = some b → v.yv.ownBlock ≠ some b
section
variable {W wx w' wa : World} {m : Nat} {x : Sp.Source} {vd vr : Value} {r : Sp.Rk} {v : RkV} {L : List Sp.Non}
theorem OfN.below (h : OfN W m x vd vr r v L wx) (hb : Below wx.heap.size wx w') : OfN W m x vd vr r v L w' := ⟨h.os.below hb, ownsRow_below h.nons hb, h.apart⟩
/-- A nonterminal more. -/
theorem OfN.push {g n c : Nat} {a : Sp.Non} (h : OfN W m x vd vr r v L wx) (k : Kp (fun b => v.nv.ownBlock ≠ some b) wx wa) (kt : KpT (fun t => t ≠ 99) wx wa) (hown : wa.ownsRow W.heap.size 99 2 (.slice (some ⟨g, 0, none⟩) n c) (L.length + 1) ((L.map nonC).flatten ++ nonC a)) (hat : v.nv.ownBlock = some g ∨ wx.heap.size ≤ g) :
    OfN W m x vd vr r { v with nv := .slice (some ⟨g, 0, none⟩) n c } (L ++ [a]) (wa.setCell ⟨m, 1, none⟩ (.slice (some ⟨g, 0, none⟩) n c)) := by
  have hm := kt m _ _ _ h.os.mkr.block (by decide)
  obtain ⟨k1, k2⟩ := RefAt.box1 hm h.os.mkr.behind 1 (.slice (some ⟨g, 0, none⟩) n c)
  have hb : Below W.heap.size wx wa := Kp.below k h.os.bel.size (fun b hb e => by have := (h.nons.lt b e).1; omega)
  have hty : wa.ownsRow W.heap.size 99 2 v.yv r.types.length (r.types.map typC).flatten := ownsRow_kp h.os.mkr.types k (fun b hb e => h.apart b e hb)
  have hmk : RefAt (fun _ => True) W.heap.size (wa.setCell ⟨m, 1, none⟩ (.slice (some ⟨g, 0, none⟩) n c)) m r { v with nv := .slice (some ⟨g, 0, none⟩) n c } :=
    ⟨heap_setCell_at hm, ownsRow_kpT (ownsRow_kpT h.os.mkr.toks kt (by decide)) k1 (by decide), ownsRow_kpT (ownsRow_kpT h.os.mkr.given kt (by decide)) k1 (by decide), ownsRow_kpT hty k1 (by decide), ownsRow_kpT (ownsRow_kpT h.os.mkr.lefts kt (by decide)) k1 (by decide), (h.os.mkr.prods.kpT kt (by decide) (by decide)).kpT k1 (by decide) (by decide), h.os.mkr.behind⟩
  refine ⟨h.os.step hmk (hb.trans k2.1) ((kt.mono (fun t ht => by rcases ht with rfl | rfl <;> decide)).trans (k1.mono (fun t ht => by rcases ht with rfl | rfl <;> decide))), ?_, ?_⟩
  · rw [List.length_append, List.map_append, List.flatten_append]
    simp only [List.map_cons, List.map_nil, List.flatten_cons, List.flatten_nil, List.append_nil, List.length_singleton]
    exact ownsRow_kpT hown k1 (by decide)
  · intro b hb' e
    have e1 : g = b := by simpa [Value.ownBlock] using hb'
    subst e1
    rcases hat with h1 | h1
    · exact h.apart g h1 e
    · have := (h.os.mkr.types.lt g e).2
      omega
end
def accNon : Sp.Non := ⟨[36, 97, 99, 99, 101, 112, 116], []⟩
def leftNon (types : List (List UInt8 × List UInt8)) (l : List UInt8) : Sp.Non := ⟨l, (Sp.typeOf types l).getD []⟩
set_option maxRecDepth 100000 in
set_option maxHeartbeats 12800000 in
theorem of_nons {W wm : World} {m : Nat} {x : Sp.Source} {vd vr : Value} {r0 : Sp.Rk} {v0 : RkV}
    (u0 u3 u4 u5 u7 u8 u9 u10 u11 u12 u13 u14 u15 u16 u17 u19 u20 u21 u22 u23 u24 u25 u26 u27 u28 u29 u30 u31 u32 u33 u34 u35 u36 u37 u38 u39 u40 u41 u42 u43 u44 u45 u46 u47 u48 u49 u50 u51 u52 u53 u54 u55 u56 u57 u58 u59 u60 u61 u62 u63 u64 u65 u66 u67 u68 u69 u70 u71 u72 u73 u74 u75 u76 u77 u78 u79 u80 u81 u82 u83 u84 u85 u86 u87 u88 u89 u90 u91 u92 u93 u94 u95 u96 u97 u98 u99 u100 u101 u102 u103 u104 u105 u106 u107 u108 u109 u110 u111 u112 u113 u114 u115 u116 u117 u118 u119 u120 u121 u122 u123 u124 u125 u126 u127 u128 u129 u130 u131 u132 u133 u134 u135 u136 u137 u138 u139 u140 u141 u142 u143 u144 u145 u146 u147 u148 u149 u150 u151 u152 u153 u154 u155 u156 u157 u158 u159 u160 u161 u162 u163 u164 u165 u166 u167 u168 u169 u170 u171 u172 u173 u174 u175 u176 u177 u178 u179 u180 u181 u182 u183 u184 u185 u186 u187 u188 u189 u190 u191 u192 u193 u194 u195 u196 u197 u198 u199 u200 u201 u202 u203 u204 u205 u206 u207 u208 u209 u210 u211 u212 u213 u214 u215 u216 u217 u218 u219 u220 u221 u222 u223 u224 u225 u226 u227 u228 u229 u230 u231 u232 u233 u234 u235 u236 u237 u238 u239 u240 u241 u242 u243 u244 u245 u246 u247 u248 u249 u250 u251 u252 u253 u254 u255 u256 u257 u258 u259 u260 u261 u262 u263 u264 u265 u266 u267 u268 u269 u270 u271 u272 u273 u274 u275 u276 u277 u278 u279 u280 u281 u282 u283 u284 u285 u286 u287 u288 u289 u290 u291 u292 u293 u294 u295 u296 u297 u298 u299 u300 u301 u302 u303 u304 u305 u306 u307 u308 u309 u310 u311 u312 u313 u314 u315 u316 u317 u318 u319 u320 u321 u322 u323 u324 u325 u326 u327 u328 u329 u330 u331 u332 u333 u334 u335 u336 u337 u338 u339 u340 u341 u342 u343 u344 u345 u346 u347 u348 u349 u350 u351 u352 u353 u354 u355 u356 u357 u358 u359 u360 u361 u362 u363 u364 u365 u366 u367 u368 u369 u370 u371 u372 u373 u374 u375 u376 u377 u378 u379 u380 u381 u382 u383 u384 u385 u386 u387 u388 u389 u390 u391 u392 u393 u394 u395 u396 u397 u398 u399 u400 u401 u402 u403 u404 u405 u406 u407 u408 u409 u410 u411 u412 u413 u414 u415 u416 u417 u418 u419 u420 u421 u422 u423 u424 u425 u426 u427 u428 u429 u430 u431 u432 u433 u434 : Value) (K : Act → World → Prop) (Q : Exit → Act → World → Prop)
    (hS : OfN W m x vd vr r0 v0 [accNon] wm) (hrb : Sp.RB (2 ^ 38) r0)
    (hQ : ∀ c (t : Array Value) (a : Act) w, Q (.panic c) ⟨t, a.defers⟩ w → Q (.panic c) a w)
    (hK : ∀ (x18 x19 x20 x272 x273 x274 x275 x276 x277 x278 x279 x280 x281 x282 x283 x284 x285 x286 x287 x288 x289 x290 x291 x292 x293 x294 x295 x296 x297 x298 x299 x300 x301 x302 x303 x304 x305 x306 x307 x308 x309 x310 x311 x312 x313 x314 x315 : Value) (wx : World) (v1 : RkV), OfN W m x vd vr r0 v1 (accNon :: r0.lefts.map (leftNon r0.types)) wx → K ⟨#[u0, .pointer (some ⟨W.heap.size, 0, none⟩), .pointer (some ⟨W.heap.size + 1, 0, none⟩), u3, u4, u5, .pointer (some ⟨m, 0, none⟩), u7, u8, u9, u10, u11, u12, u13, u14, u15, u16, u17, x18, x19, x20, u21, u22, u23, u24, u25, u26, u27, u28, u29, u30, u31, u32, u33, u34, u35, u36, u37, u38, u39, u40, u41, u42, u43, u44, u45, u46, u47, u48, u49, u50, u51, u52, u53, u54, u55, u56, u57, u58, u59, u60, u61, u62, u63, u64, u65, u66, u67, u68, u69, u70, u71, u72, u73, u74, u75, u76, u77, u78, u79, u80, u81, u82, u83, u84, u85, u86, u87, u88, u89, u90, u91, u92, u93, u94, u95, u96, u97, u98, u99, u100, u101, u102, u103, u104, u105, u106, u107, u108, u109, u110, u111, u112, u113, u114, u115, u116, u117, u118, u119, u120, u121, u122, u123, u124, u125, u126, u127, u128, u129, u130, u131, u132, u133, u134, u135, u136, u137, u138, u139, u140, u141, u142, u143, u144, u145, u146, u147, u148, u149, u150, u151, u152, u153, u154, u155, u156, u157, u158, u159, u160, u161, u162, u163, u164, u165, u166, u167, u168, u169, u170, u171, u172, u173, u174, u175, u176, u177, u178, u179, u180, u181, u182, u183, u184, u185, u186, u187, u188, u189, u190, u191, u192, u193, u194, u195, u196, u197, u198, u199, u200, u201, u202, u203, u204, u205, u206, u207, u208, u209, u210, u211, u212, u213, u214, u215, u216, u217, u218, u219, u220, u221, u222, u223, u224, u225, u226, u227, u228, u229, u230, u231, u232, u233, u234, u235, u236, u237, u238, u239, u240, u241, u242, u243, u244, u245, u246, u247, u248, u249, u250, u251, u252, u253, u254, u255, u256, u257, u258, u259, u260, u261, u262, u263, u264, u265, u266, u267, u268, u269, u270, u271, x272, x273, x274, x275, x276, x277, x278, x279, x280, x281, x282, x283, x284, x285, x286, x287, x288, x289, x290, x291, x292, x293, x294, x295, x296, x297, x298, x299, x300, x301, x302, x303, x304, x305, x306, x307, x308, x309, x310, x311, x312, x313, x314, x315, u316, u317, u318, u319, u320, u321, u322, u323, u324, u325, u326, u327, u328, u329, u330, u331, u332, u333, u334, u335, u336, u337, u338, u339, u340, u341, u342, u343, u344, u345, u346, u347, u348, u349, u350, u351, u352, u353, u354, u355, u356, u357, u358, u359, u360, u361, u362, u363, u364, u365, u366, u367, u368, u369, u370, u371, u372, u373, u374, u375, u376, u377, u378, u379, u380, u381, u382, u383, u384, u385, u386, u387, u388, u389, u390, u391, u392, u393, u394, u395, u396, u397, u398, u399, u400, u401, u402, u403, u404, u405, u406, u407, u408, u409, u410, u411, u412, u413, u414, u415, u416, u417, u418, u419, u420, u421, u422, u423, u424, u425, u426, u427, u428, u429, u430, u431, u432, u433, u434], []⟩ wx) :
    Code.wp Tryd.prog (ofBlk 14) (Exit.then K Q) ⟨#[u0, .pointer (some ⟨W.heap.size, 0, none⟩), .pointer (some ⟨W.heap.size + 1, 0, none⟩), u3, u4, u5, .pointer (some ⟨m, 0, none⟩), u7, u8, u9, u10, u11, u12, u13, u14, u15, u16, u17, .int .i64 0, u19, u20, u21, u22, u23, u24, u25, u26, u27, u28, u29, u30, u31, u32, u33, u34, u35, u36, u37, u38, u39, u40, u41, u42, u43, u44, u45, u46, u47, u48, u49, u50, u51, u52, u53, u54, u55, u56, u57, u58, u59, u60, u61, u62, u63, u64, u65, u66, u67, u68, u69, u70, u71, u72, u73, u74, u75, u76, u77, u78, u79, u80, u81, u82, u83, u84, u85, u86, u87, u88, u89, u90, u91, u92, u93, u94, u95, u96, u97, u98, u99, u100, u101, u102, u103, u104, u105, u106, u107, u108, u109, u110, u111, u112, u113, u114, u115, u116, u117, u118, u119, u120, u121, u122, u123, u124, u125, u126, u127, u128, u129, u130, u131, u132, u133, u134, u135, u136, u137, u138, u139, u140, u141, u142, u143, u144, u145, u146, u147, u148, u149, u150, u151, u152, u153, u154, u155, u156, u157, u158, u159, u160, u161, u162, u163, u164, u165, u166, u167, u168, u169, u170, u171, u172, u173, u174, u175, u176, u177, u178, u179, u180, u181, u182, u183, u184, u185, u186, u187, u188, u189, u190, u191, u192, u193, u194, u195, u196, u197, u198, u199, u200, u201, u202, u203, u204, u205, u206, u207, u208, u209, u210, u211, u212, u213, u214, u215, u216, u217, u218, u219, u220, u221, u222, u223, u224, u225, u226, u227, u228, u229, u230, u231, u232, u233, u234, u235, u236, u237, u238, u239, u240, u241, u242, u243, u244, u245, u246, u247, u248, u249, u250, u251, u252, u253, u254, u255, u256, u257, u258, u259, u260, u261, u262, u263, u264, u265, u266, u267, u268, u269, u270, u271, u272, u273, u274, u275, u276, u277, u278, u279, u280, u281, u282, u283, u284, u285, u286, u287, u288, u289, u290, u291, u292, u293, u294, u295, u296, u297, u298, u299, u300, u301, u302, u303, u304, u305, u306, u307, u308, u309, u310, u311, u312, u313, u314, u315, u316, u317, u318, u319, u320, u321, u322, u323, u324, u325, u326, u327, u328, u329, u330, u331, u332, u333, u334, u335, u336, u337, u338, u339, u340, u341, u342, u343, u344, u345, u346, u347, u348, u349, u350, u351, u352, u353, u354, u355, u356, u357, u358, u359, u360, u361, u362, u363, u364, u365, u366, u367, u368, u369, u370, u371, u372, u373, u374, u375, u376, u377, u378, u379, u380, u381, u382, u383, u384, u385, u386, u387, u388, u389, u390, u391, u392, u393, u394, u395, u396, u397, u398, u399, u400, u401, u402, u403, u404, u405, u406, u407, u408, u409, u410, u411, u412, u413, u414, u415, u416, u417, u418, u419, u420, u421, u422, u423, u424, u425, u426, u427, u428, u429, u430, u431, u432, u433, u434], []⟩ wm := by
  obtain ⟨in0, hin0, hnz0, hnz1, hnz2⟩ := info_parts info_nonR
  obtain ⟨n, hn⟩ : ∃ n, n = r0.lefts.length := ⟨_, rfl⟩
  have hn38 : n ≤ 2 ^ 38 := by rw [hn]; exact hrb.lefts
  have HS0 := Lib.hid hS; have HRB := Lib.hid hrb; have HNE := Lib.hid hn
  clear hS hrb hn
  have HKK := Lib.hid hK
  have hM : ∀ a w, Met K a w → K a w := fun _ _ h => h
  clear hK
  conv => arg 2; whnf
  go_wp2_with fail
  go_loopg [18] n (fun q iv wr => ∃ (k : Nat) (v : RkV), k ≤ n ∧ q = n - k ∧ iv = .int .i64 k ∧ OfN W m x vd vr r0 v (accNon :: (r0.lefts.take k).map (leftNon r0.types)) wr)
  case atStart => exact ⟨0, v0, Nat.zero_le _, rfl, rfl, HS0.out⟩
  case round =>
    clear HS0
    obtain ⟨k, v, hk, rfl, rfl, hS⟩ := hrel
    obtain ⟨wo, hwo⟩ : ∃ wo : World, wo = wr := ⟨_, rfl⟩
    subst hwo
    have HS := Lib.hid hS
    have hk0 : (0 : Int) ≤ (k : Int) := Int.natCast_nonneg _
    have hmb := hS.os.mkr.block
    have hlf := hS.os.mkr.lefts
    rw [← HNE.out] at hlf
    obtain ⟨la, lc, hlv⟩ := ownsRowS_some hlf
    unfold rkCells at hmb
    rw [hlv] at hmb hlf
    have m7 := cell_at (i := 7) hmb
    have lm := lt_at hmb
    clear hS hmb
    by_cases hkn : k < n
    · have hk1 : (k : Int) < (n : Int) := by omega
      obtain ⟨gl, cl, hv⟩ := own_form hlf (by omega)
      simp only [Value.slice.injEq] at hv
      obtain ⟨rfl, _, rfl⟩ := hv
      obtain ⟨lf, hlk⟩ : ∃ lf, r0.lefts[k]? = some lf := ⟨_, List.getElem?_eq_getElem (by rw [← HNE.out]; exact hkn)⟩
      have a0 : wo.cell? ⟨gl, k, none⟩ = some (.string ⟨lf.toArray⟩) := row_cell1 hlf hlk hkn
      have lgl := (hlf.lt gl rfl).2
      have HLK := Lib.hid hlk
      obtain ⟨bd, hbd⟩ : ∃ bd, bd = wo.heap.size := ⟨_, rfl⟩
      obtain ⟨w1, hw1⟩ : ∃ w1, w1 = wo.alloc (.cells #[.string ⟨lf.toArray⟩, .string ⟨#[]⟩] 99) := ⟨_, rfl⟩
      have hb1 : Below wo.heap.size wo w1 := by rw [hw1]; exact (Below.refl _ wo).alloc (Nat.le_refl _) _
      have hx1 : w1.heap[bd]? = some (.cells #[.string ⟨lf.toArray⟩, .string ⟨#[]⟩] 99 (0, 0)) := by rw [hw1, hbd]; exact heap_last wo _
      have HB1 := Lib.hid hb1; have HX := Lib.hid hx1; have HBD := Lib.hid hbd
      obtain ⟨tg, htg⟩ : ∃ tg, tg = (Sp.typeOf r0.types lf).getD [] := ⟨_, rfl⟩
      have HTG := Lib.hid htg
      go_upto_region 54 with fail
      rw [← hbd, ← hw1]
      have x0 := cell_at (i := 0) hx1; have x1 := cell_at (i := 1) hx1
      have f1 := frozen_at (i := 1) hx1
      have lx := lt_at hx1
      clear hw1 hbd hb1 hx1 a0 lgl hlf hlk hlv m7 lm htg
      go_cut [20] from 272 to 315 (fun c wx => c = .int .i64 (ixI (Sp.typeIx r0.types lf)) ∧ w1 = wx)
      case first =>
        go_wp2_with fail
        refine (ref_typeOf lf (HS.out.os.mkr.below HB1.out) HRB.out (by omega)).mono ?_
        rintro e w' ⟨rfl, rfl⟩
        go_wp2_with fail
        go_meet
        exact ⟨rfl, rfl⟩
      case rest =>
        obtain ⟨rfl, rfl⟩ := hcut
        go_upto_if 294 with fail
        go_cut [20] from 272 to 315 (fun _ wx => Below wo.heap.size wo wx ∧ wx.heap[bd]? = some (.cells #[.string ⟨lf.toArray⟩, .string ⟨tg.toArray⟩] 99 (0, 0)))
        case first =>
          have hty := Sp.typeIx_of r0.types lf
          cases ht : Sp.typeIx r0.types lf with
          | none =>
            have e : tg = [] := by rw [HTG.out, hty, ht]; rfl
            subst e
            dsimp only [ixI]
            clear hty ht
            go_wp2_with fail
            go_meet
            exact ⟨HB1.out, HX.out⟩
          | some t =>
            have htl := Sp.typeIx_lt ht
            obtain ⟨⟨pn, pt⟩, hp⟩ : ∃ p, r0.types[t]? = some p := ⟨_, List.getElem?_eq_getElem htl⟩
            have e : tg = pt := by rw [HTG.out, hty, ht]; simp [hp]
            subst e
            have hS1 := HS.out.below HB1.out
            have hmb := hS1.os.mkr.block
            have htr := hS1.os.mkr.types
            obtain ⟨tn, htn⟩ : ∃ tn, tn = r0.types.length := ⟨_, rfl⟩
            rw [← htn] at htr htl
            obtain ⟨gt, tc, htv⟩ := own_form htr (by omega)
            unfold rkCells at hmb
            rw [htv] at hmb htr
            have m6 := cell_at (i := 6) hmb
            have lm := lt_at hmb
            have a1 := row_cell htr (fun _ => rfl) hp htl (j := 1) (u := .string ⟨tg.toArray⟩) rfl
            have lgt := (htr.lt gt rfl).2
            have hne : ¬ gt = bd := fun e => by
              have := (HS.out.os.mkr.types.lt gt (by rw [htv]; rfl)).2
              have := HBD.out
              omega
            have ht0 : (0 : Int) ≤ (t : Int) := Int.natCast_nonneg _
            have ht1 : (t : Int) < (tn : Int) := by omega
            have htnb : tn ≤ 2 ^ 38 := by rw [htn]; exact HRB.out.types
            dsimp only [ixI]
            clear hS1 hmb htr htv htn hp hty ht
            go_wp2_with fail
            go_meet
            exact ⟨HB1.out.setCell (by rw [HBD.out]; simp) _, heap_setCell_at HX.out⟩
        case rest =>
          obtain ⟨w2, hw2⟩ : ∃ w2 : World, w2 = wc := ⟨_, rfl⟩
          subst hw2
          obtain ⟨hb2, hx2⟩ := hcut
          have hS2 := HS.out.below hb2
          obtain ⟨na, nc, hnv⟩ := ownsRowS_some hS2.nons
          obtain ⟨nn, hnn⟩ : ∃ nn, nn = (accNon :: (r0.lefts.take k).map (leftNon r0.types)).length := ⟨_, rfl⟩
          have hnnb : nn ≤ 2 ^ 39 := by rw [hnn, List.length_cons, List.length_map, List.length_take]; omega
          rw [← hnn] at hnv
          have htr := hS2.nons
          rw [hnv, ← hnn] at htr
          have hmb := hS2.os.mkr.block
          unfold rkCells at hmb
          rw [hnv] at hmb
          have hne1 : (Value.slice na nn nc).ownBlock ≠ some m := fun e => row_ne_cells htr hmb (by decide) _ e rfl
          have hne2 : (Value.slice na nn nc).ownBlock ≠ some bd := fun e => by
            have := (HS.out.nons.lt bd (by rw [hnv]; exact e)).2
            have := HBD.out
            omega
          have HMB := Lib.hid hmb; have HX2 := Lib.hid hx2; have HTR := Lib.hid htr; have HS2 := Lib.hid hS2; have HNV := Lib.hid hnv; have HNN := Lib.hid hnn; have HN1 := Lib.hid hne1; have HN2 := Lib.hid hne2
          have HSK := Lib.hid (fun (w' : World) (kp : Kp (fun b => (Value.slice na nn nc).ownBlock ≠ some b) w2 w') => (show ((w'.cell? ⟨m, 1, none⟩ = some (.slice na nn nc) ∧ w'.frozen? ⟨m, 1, none⟩ = false) ∧ w'.cell? ⟨bd, 0, none⟩ = some (.string ⟨lf.toArray⟩) ∧ w'.cell? ⟨bd, 1, none⟩ = some (.string ⟨tg.toArray⟩) ∧ m < w'.heap.size ∧ bd < w'.heap.size) from by
            have h1 := kp.at HMB.out HN1.out
            have h2 := kp.at HX2.out HN2.out
            exact ⟨⟨cell_at (i := 1) h1, frozen_at (i := 1) h1⟩, cell_at (i := 0) h2, cell_at (i := 1) h2, lt_at h1, lt_at h2⟩))
          have hBs : W.heap.size ≤ w2.heap.size := hS2.os.bel.size
          clear hb2 hx2 hS2 hnv hnn htr hmb hne1 hne2 x0 x1 f1 lx
          go_upto_region 57 with fail
          refine wp_region_plan (fun w' : World => ((w'.cell? ⟨m, 1, none⟩ = some (.slice na nn nc) ∧ w'.frozen? ⟨m, 1, none⟩ = false) ∧ w'.cell? ⟨bd, 0, none⟩ = some (.string ⟨lf.toArray⟩) ∧ w'.cell? ⟨bd, 1, none⟩ = some (.string ⟨tg.toArray⟩) ∧ m < w'.heap.size ∧ bd < w'.heap.size)) [12] (.take 0 (.take 1 (.take 2 (.take 3 (.take 4 (.take 5 (.take 6 (.one 7 (.one 8 (.one 9 (.one 10 (.one 11 (.one 12 (.done)))))))))))))) (by kernel_rfl) (by kernel_rfl) (fun c t a w h => hQ c t a w h) ?_
          have hSw := HSK.out _ ((Kp.refl _ w2).drew)
          refine wpPlan_takeD (v := ?va1) rfl rfl hSw (by rfl) ?ya1 ?_
          case ya1 => (intro w hSx; (try dsimp only at hSx); go_simp; first | done | with_reducible rfl | rfl)
          (try simp only [Act.put, List.setIfInBounds_toArray, List.set_cons_zero, List.set_cons_succ])
          refine wpPlan_takeD (v := ?va2) rfl rfl hSw (by rfl) ?ya2 ?_
          case ya2 => (intro w hSx; (try dsimp only at hSx); go_simp; first | done | with_reducible rfl | rfl)
          (try simp only [Act.put, List.setIfInBounds_toArray, List.set_cons_zero, List.set_cons_succ])
          refine wpPlan_takeD (v := ?va3) rfl rfl hSw (by rfl) ?ya3 ?_
          case ya3 => (intro w hSx; (try dsimp only at hSx); go_simp; first | done | with_reducible rfl | rfl)
          (try simp only [Act.put, List.setIfInBounds_toArray, List.set_cons_zero, List.set_cons_succ])
          refine wpPlan_takeD (v := ?va4) rfl rfl hSw (by rfl) ?ya4 ?_
          case ya4 => (intro w hSx; (try dsimp only at hSx); go_simp; first | done | with_reducible rfl | rfl)
          (try simp only [Act.put, List.setIfInBounds_toArray, List.set_cons_zero, List.set_cons_succ])
          refine wpPlan_takeD (v := ?va5) rfl rfl hSw (by rfl) ?ya5 ?_
          case ya5 => (intro w hSx; (try dsimp only at hSx); go_simp; first | done | with_reducible rfl | rfl)
          (try simp only [Act.put, List.setIfInBounds_toArray, List.set_cons_zero, List.set_cons_succ])
          refine wpPlan_takeD (v := ?va6) rfl rfl hSw (by rfl) ?ya6 ?_
          case ya6 => (intro w hSx; (try dsimp only at hSx); go_simp; first | done | with_reducible rfl | rfl)
          (try simp only [Act.put, List.setIfInBounds_toArray, List.set_cons_zero, List.set_cons_succ])
          refine wpPlan_takeD (v := ?va7) rfl rfl hSw (by rfl) ?ya7 ?_
          case ya7 => (intro w hSx; (try dsimp only at hSx); go_simp; first | done | with_reducible rfl | rfl)
          (try simp only [Act.put, List.setIfInBounds_toArray, List.set_cons_zero, List.set_cons_succ])
          refine wpPlan_run rfl (by rfl) (fun K' hK => ?_)
          go_simp
          refine hK _ _ (.inr ?_) ?_
          · exact HSK.out _ (((Kp.refl _ w2).drew).alloc (.cells #[.string ⟨lf.toArray⟩, .string ⟨tg.toArray⟩] 99))
          clear hK K' hSw
          (try simp only [Act.put, List.setIfInBounds_toArray, List.set_cons_zero, List.set_cons_succ])
          refine wpPlan_run rfl (by rfl) (fun K' hK => ?_)
          (refine wp_append_lies _ _ _ _ (by rfl) W.heap.size 99 in0 _ 2 32 Tryd.underlying55 hin0 hnz0 hnz1 hnz2 rfl (by omega) _ _ _ (by rfl) (HTR.out.alloc _) ⟨w2.heap.size, 0, none⟩ 1 1 (nonC ⟨lf, tg⟩) (by rfl) (by rfl) (World.news_of_block (cs := (nonC ⟨lf, tg⟩).toArray) (t := 99) (fr := (0, 0)) (heap_last w2 _)) (by simp [Value.oneCell', nonC]) (by omega) (by unfold maxLen; omega) (by omega) (by show W.heap.size ≤ (w2.alloc (.cells #[.string ⟨lf.toArray⟩, .string ⟨tg.toArray⟩] 99)).heap.size; simp only [World.size_alloc]; omega) _ rfl ?_; intro gg1 cp1 w5 hown1 hgrow1 hat1 hlt1; replace hgrow1 : (w2.alloc (.cells #[.string ⟨lf.toArray⟩, .string ⟨tg.toArray⟩] 99)).grownBy w5 (Value.slice na nn nc).ownBlock := ⟨hgrow1.os, hgrow1.tape, hgrow1.output, hgrow1.size, hgrow1.block⟩; have hk5 : Kp (fun b => (Value.slice na nn nc).ownBlock ≠ some b) w2 w5 := ((Kp.refl _ w2).alloc (.cells #[.string ⟨lf.toArray⟩, .string ⟨tg.toArray⟩] 99)).grown hgrow1 (fun k hk hs => hs hk); have hWle : w2.heap.size ≤ (w2.alloc (.cells #[.string ⟨lf.toArray⟩, .string ⟨tg.toArray⟩] 99)).heap.size := (by simp only [World.size_alloc]; omega))
          refine hK _ _ (.inr ?_) ?_
          · exact HSK.out _ hk5
          clear hK K'
          (try simp only [Act.put, List.setIfInBounds_toArray, List.set_cons_zero, List.set_cons_succ])
          refine wpPlan_run rfl (by rfl) (fun K' hK => ?_)
          go_simp
          refine hK _ _ (.inr ?_) ?_
          · exact HSK.out _ hk5
          clear hK K'
          (try simp only [Act.put, List.setIfInBounds_toArray, List.set_cons_zero, List.set_cons_succ])
          refine wpPlan_run rfl (by rfl) (fun K' hK => ?_)
          go_simp
          refine hK _ _ (.inr ?_) ?_
          · exact HSK.out _ hk5
          clear hK K'
          (try simp only [Act.put, List.setIfInBounds_toArray, List.set_cons_zero, List.set_cons_succ])
          refine wpPlan_run rfl (by rfl) (fun K' hK => ?_)
          go_simp
          refine hK _ _ (.inr ?_) ?_
          · exact HSK.out _ hk5
          clear hK K'
          (try simp only [Act.put, List.setIfInBounds_toArray, List.set_cons_zero, List.set_cons_succ])
          refine wpPlan_run rfl (by rfl) (fun K' hK => ?_)
          (obtain ⟨⟨z1, z2⟩, _, _, hlz, _⟩ := HSK.out _ hk5; go_simp)
          refine hK _ _ (.inl rfl) ?_
          clear hK K'
          (try simp only [Act.put, List.setIfInBounds_toArray, List.set_cons_zero, List.set_cons_succ])
          refine wpPlan_done ?_
          have kt5 : KpT (fun t => t ≠ 99) w2 w5 := (KpT.below ((Below.refl _ w2).alloc (Nat.le_refl _) _)).trans (KpT.grown (HTR.out.alloc _) hgrow1)
          have hS6 := HS2.out.push (a := ⟨lf, tg⟩) (by rw [HNV.out]; exact hk5) kt5 (by rw [← HNN.out]; exact hown1) (by rw [HNV.out]; exact hat1.imp id (fun e => by rw [e]; exact hWle))
          have hL : (accNon :: (r0.lefts.take k).map (leftNon r0.types)) ++ [⟨lf, tg⟩] = accNon :: (r0.lefts.take (k + 1)).map (leftNon r0.types) := by
            rw [List.take_add_one, HLK.out, List.map_append, HTG.out]
            rfl
          rw [hL] at hS6
          have HS6 := Lib.hid hS6
          clear kt5 hL hS6 hown1 hgrow1 hat1 hlt1 hk5 hWle z1 z2 hlz HSK
          go_wp2_with fail
          go_roundg (n - (k + 1))
          case measure => omega
          case rel => exact ⟨k + 1, _, by omega, rfl, by go_num, HS6.out⟩
    · obtain rfl : k = n := by omega
      have hS := HS.out
      rw [List.take_of_length_le (by rw [HNE.out]; exact Nat.le_refl _)] at hS
      have HS1 := Lib.hid hS
      clear hS hlf
      go_wp2_with fail
      exact HKK.out _ _ _ _ _ _ _ _ _ _ _ _ _ _ _ _ _ _ _ _ _ _ _ _ _ _ _ _ _ _ _ _ _ _ _ _ _ _ _ _ _ _ _ _ _ _ _ _ v HS1.out
set_option maxRecDepth 100000 in
set_option maxHeartbeats 12800000 in
theorem of_inner {W wm : World} {m : Nat} {x : Sp.Source} {vd vr : Value} {r0 : Sp.Rk} {v0 : RkV} {L : List Sp.Non}
    (u0 u3 u4 u5 u7 u8 u9 u10 u11 u12 u13 u14 u15 u16 u17 u18 u19 u20 u22 u23 u24 u25 u26 u27 u28 u29 u30 u31 u32 u33 u34 u35 u36 u37 u38 u39 u40 u41 u42 u43 u44 u45 u46 u47 u48 u49 u50 u51 u52 u53 u54 u55 u56 u57 u58 u59 u60 u61 u62 u63 u64 u65 u66 u67 u68 u69 u70 u71 u72 u73 u74 u75 u76 u77 u78 u79 u80 u81 u82 u83 u84 u85 u86 u87 u88 u89 u90 u91 u92 u93 u94 u95 u96 u97 u98 u99 u100 u101 u102 u103 u104 u105 u106 u107 u108 u109 u110 u111 u112 u113 u114 u115 u116 u117 u118 u119 u120 u121 u122 u123 u124 u125 u126 u127 u128 u129 u130 u131 u132 u133 u134 u135 u136 u137 u138 u139 u140 u141 u142 u143 u144 u145 u146 u147 u148 u149 u150 u151 u152 u153 u154 u155 u156 u157 u158 u159 u160 u161 u162 u163 u164 u165 u166 u167 u168 u169 u170 u171 u172 u173 u174 u175 u176 u177 u178 u179 u180 u181 u182 u183 u184 u185 u186 u187 u188 u189 u190 u191 u192 u193 u194 u195 u196 u197 u198 u199 u200 u201 u202 u203 u204 u205 u206 u207 u208 u209 u210 u211 u212 u213 u214 u215 u216 u217 u218 u219 u220 u221 u222 u223 u224 u225 u226 u227 u228 u229 u230 u231 u232 u233 u234 u235 u236 u237 u238 u239 u240 u241 u242 u243 u244 u245 u246 u247 u248 u249 u250 u251 u252 u253 u254 u255 u256 u257 u258 u259 u260 u261 u262 u263 u264 u265 u266 u267 u268 u269 u270 u271 u272 u273 u274 u275 u276 u277 u278 u279 u280 u281 u282 u283 u284 u285 u286 u287 u288 u289 u290 u291 u292 u293 u294 u295 u296 u297 u298 u299 u300 u301 u302 u303 u304 u305 u306 u307 u308 u309 u310 u311 u312 u313 u314 u315 u316 u317 u318 u319 u320 u321 u322 u323 u324 u325 u326 u327 u328 u329 u330 u331 u332 u333 u334 u335 u336 u337 u338 u339 u340 u341 u342 u343 u344 u345 u346 u347 u348 u349 u350 u351 u352 u353 u354 u355 u356 u357 u358 u359 u360 u361 u362 u363 u364 u365 u366 u367 u368 u369 u370 u371 u372 u373 u374 u375 u376 u377 u378 u379 u380 u381 u382 u383 u384 u385 u386 u387 u388 u389 u390 u391 u392 u393 u394 u395 u396 u397 u398 u399 u400 u401 u402 u403 u404 u405 u406 u407 u408 u409 u410 u411 u412 u413 u414 u415 u416 u417 u418 u419 u420 u421 u422 u423 u424 u425 u426 u427 u428 u429 u430 u431 u432 u433 u434 : Value) (K : Act → World → Prop) (Q : Exit → Act → World → Prop)
    (hS : OfN W m x vd vr r0 v0 L wm) (hin : r0.inner ≤ 60000) (hLb : L.length ≤ 2 ^ 39)
    (hQ : ∀ c (t : Array Value) (a : Act) w, Q (.panic c) ⟨t, a.defers⟩ w → Q (.panic c) a w)
    (hK : ∀ (x21 x316 x317 x318 x319 x320 x321 x322 x323 x324 x325 x326 x327 x328 x329 x330 x331 x332 x333 x334 x335 x336 x337 x338 : Value) (wx : World) (v1 : RkV), OfN W m x vd vr r0 v1 (L ++ Sp.innerNons r0.inner) wx → K ⟨#[u0, .pointer (some ⟨W.heap.size, 0, none⟩), .pointer (some ⟨W.heap.size + 1, 0, none⟩), u3, u4, u5, .pointer (some ⟨m, 0, none⟩), u7, u8, u9, u10, u11, u12, u13, u14, u15, u16, u17, u18, u19, u20, x21, u22, u23, u24, u25, u26, u27, u28, u29, u30, u31, u32, u33, u34, u35, u36, u37, u38, u39, u40, u41, u42, u43, u44, u45, u46, u47, u48, u49, u50, u51, u52, u53, u54, u55, u56, u57, u58, u59, u60, u61, u62, u63, u64, u65, u66, u67, u68, u69, u70, u71, u72, u73, u74, u75, u76, u77, u78, u79, u80, u81, u82, u83, u84, u85, u86, u87, u88, u89, u90, u91, u92, u93, u94, u95, u96, u97, u98, u99, u100, u101, u102, u103, u104, u105, u106, u107, u108, u109, u110, u111, u112, u113, u114, u115, u116, u117, u118, u119, u120, u121, u122, u123, u124, u125, u126, u127, u128, u129, u130, u131, u132, u133, u134, u135, u136, u137, u138, u139, u140, u141, u142, u143, u144, u145, u146, u147, u148, u149, u150, u151, u152, u153, u154, u155, u156, u157, u158, u159, u160, u161, u162, u163, u164, u165, u166, u167, u168, u169, u170, u171, u172, u173, u174, u175, u176, u177, u178, u179, u180, u181, u182, u183, u184, u185, u186, u187, u188, u189, u190, u191, u192, u193, u194, u195, u196, u197, u198, u199, u200, u201, u202, u203, u204, u205, u206, u207, u208, u209, u210, u211, u212, u213, u214, u215, u216, u217, u218, u219, u220, u221, u222, u223, u224, u225, u226, u227, u228, u229, u230, u231, u232, u233, u234, u235, u236, u237, u238, u239, u240, u241, u242, u243, u244, u245, u246, u247, u248, u249, u250, u251, u252, u253, u254, u255, u256, u257, u258, u259, u260, u261, u262, u263, u264, u265, u266, u267, u268, u269, u270, u271, u272, u273, u274, u275, u276, u277, u278, u279, u280, u281, u282, u283, u284, u285, u286, u287, u288, u289, u290, u291, u292, u293, u294, u295, u296, u297, u298, u299, u300, u301, u302, u303, u304, u305, u306, u307, u308, u309, u310, u311, u312, u313, u314, u315, x316, x317, x318, x319, x320, x321, x322, x323, x324, x325, x326, x327, x328, x329, x330, x331, x332, x333, x334, x335, x336, x337, x338, u339, u340, u341, u342, u343, u344, u345, u346, u347, u348, u349, u350, u351, u352, u353, u354, u355, u356, u357, u358, u359, u360, u361, u362, u363, u364, u365, u366, u367, u368, u369, u370, u371, u372, u373, u374, u375, u376, u377, u378, u379, u380, u381, u382, u383, u384, u385, u386, u387, u388, u389, u390, u391, u392, u393, u394, u395, u396, u397, u398, u399, u400, u401, u402, u403, u404, u405, u406, u407, u408, u409, u410, u411, u412, u413, u414, u415, u416, u417, u418, u419, u420, u421, u422, u423, u424, u425, u426, u427, u428, u429, u430, u431, u432, u433, u434], []⟩ wx) :
    Code.wp Tryd.prog (ofBlk 16) (Exit.then K Q) ⟨#[u0, .pointer (some ⟨W.heap.size, 0, none⟩), .pointer (some ⟨W.heap.size + 1, 0, none⟩), u3, u4, u5, .pointer (some ⟨m, 0, none⟩), u7, u8, u9, u10, u11, u12, u13, u14, u15, u16, u17, u18, u19, u20, .int .i64 1, u22, u23, u24, u25, u26, u27, u28, u29, u30, u31, u32, u33, u34, u35, u36, u37, u38, u39, u40, u41, u42, u43, u44, u45, u46, u47, u48, u49, u50, u51, u52, u53, u54, u55, u56, u57, u58, u59, u60, u61, u62, u63, u64, u65, u66, u67, u68, u69, u70, u71, u72, u73, u74, u75, u76, u77, u78, u79, u80, u81, u82, u83, u84, u85, u86, u87, u88, u89, u90, u91, u92, u93, u94, u95, u96, u97, u98, u99, u100, u101, u102, u103, u104, u105, u106, u107, u108, u109, u110, u111, u112, u113, u114, u115, u116, u117, u118, u119, u120, u121, u122, u123, u124, u125, u126, u127, u128, u129, u130, u131, u132, u133, u134, u135, u136, u137, u138, u139, u140, u141, u142, u143, u144, u145, u146, u147, u148, u149, u150, u151, u152, u153, u154, u155, u156, u157, u158, u159, u160, u161, u162, u163, u164, u165, u166, u167, u168, u169, u170, u171, u172, u173, u174, u175, u176, u177, u178, u179, u180, u181, u182, u183, u184, u185, u186, u187, u188, u189, u190, u191, u192, u193, u194, u195, u196, u197, u198, u199, u200, u201, u202, u203, u204, u205, u206, u207, u208, u209, u210, u211, u212, u213, u214, u215, u216, u217, u218, u219, u220, u221, u222, u223, u224, u225, u226, u227, u228, u229, u230, u231, u232, u233, u234, u235, u236, u237, u238, u239, u240, u241, u242, u243, u244, u245, u246, u247, u248, u249, u250, u251, u252, u253, u254, u255, u256, u257, u258, u259, u260, u261, u262, u263, u264, u265, u266, u267, u268, u269, u270, u271, u272, u273, u274, u275, u276, u277, u278, u279, u280, u281, u282, u283, u284, u285, u286, u287, u288, u289, u290, u291, u292, u293, u294, u295, u296, u297, u298, u299, u300, u301, u302, u303, u304, u305, u306, u307, u308, u309, u310, u311, u312, u313, u314, u315, u316, u317, u318, u319, u320, u321, u322, u323, u324, u325, u326, u327, u328, u329, u330, u331, u332, u333, u334, u335, u336, u337, u338, u339, u340, u341, u342, u343, u344, u345, u346, u347, u348, u349, u350, u351, u352, u353, u354, u355, u356, u357, u358, u359, u360, u361, u362, u363, u364, u365, u366, u367, u368, u369, u370, u371, u372, u373, u374, u375, u376, u377, u378, u379, u380, u381, u382, u383, u384, u385, u386, u387, u388, u389, u390, u391, u392, u393, u394, u395, u396, u397, u398, u399, u400, u401, u402, u403, u404, u405, u406, u407, u408, u409, u410, u411, u412, u413, u414, u415, u416, u417, u418, u419, u420, u421, u422, u423, u424, u425, u426, u427, u428, u429, u430, u431, u432, u433, u434], []⟩ wm := by
  obtain ⟨in0, hin0, hnz0, hnz1, hnz2⟩ := info_parts info_nonR
  obtain ⟨n, hn⟩ : ∃ n, n = r0.inner := ⟨_, rfl⟩
  rw [← hn] at hin hK
  have HS0 := Lib.hid hS; have HNE := Lib.hid hn
  clear hS hn
  have HKK := Lib.hid hK
  have hM : ∀ a w, Met K a w → K a w := fun _ _ h => h
  clear hK
  conv => arg 2; whnf
  go_wp2_with fail
  go_loopg [21] n (fun q iv wr => ∃ (i1 : Nat) (v : RkV), 1 ≤ i1 ∧ i1 ≤ n + 1 ∧ q = n + 1 - i1 ∧ iv = .int .i64 (i1 : Int) ∧ OfN W m x vd vr r0 v (L ++ Sp.innerNons (i1 - 1)) wr)
  case atStart => exact ⟨1, v0, Nat.le_refl _, by omega, by omega, rfl, by rw [show Sp.innerNons (1 - 1) = [] from rfl, List.append_nil]; exact HS0.out⟩
  case round =>
    clear HS0
    obtain ⟨i1, v, hi1, hi2, rfl, rfl, hS⟩ := hrel
    obtain ⟨wo, hwo⟩ : ∃ wo : World, wo = wr := ⟨_, rfl⟩
    subst hwo
    have HS := Lib.hid hS
    have hmb := hS.os.mkr.block
    unfold rkCells at hmb
    rw [← HNE.out] at hmb
    have m12 := cell_at (i := 12) hmb
    have lm := lt_at hmb
    clear hS hmb
    by_cases hkn : i1 ≤ n
    · have hk1 : (i1 : Int) ≤ (n : Int) := by omega
      have hS := HS.out
      obtain ⟨na, nc, hnv⟩ := ownsRowS_some hS.nons
      obtain ⟨nn, hnn⟩ : ∃ nn, nn = (L ++ Sp.innerNons (i1 - 1)).length := ⟨_, rfl⟩
      have hnnb : nn ≤ 2 ^ 39 + 60000 := by rw [hnn, List.length_append, Sp.innerNons_length]; omega
      rw [← hnn] at hnv
      have htr := hS.nons
      rw [hnv, ← hnn] at htr
      have hmb := hS.os.mkr.block
      unfold rkCells at hmb
      rw [hnv] at hmb
      have hne1 : (Value.slice na nn nc).ownBlock ≠ some m := fun e => row_ne_cells htr hmb (by decide) _ e rfl
      have HMB := Lib.hid hmb; have HTR := Lib.hid htr; have HNV := Lib.hid hnv; have HNN := Lib.hid hnn; have HN1 := Lib.hid hne1
      have HSB := Lib.hid (fun (w' : World) (hb : Below wo.heap.size wo w') => (show ((w'.cell? ⟨m, 1, none⟩ = some (.slice na nn nc) ∧ w'.frozen? ⟨m, 1, none⟩ = false) ∧ m < w'.heap.size) from by
        have h1 := (hb.block _ (lt_at HMB.out)).trans HMB.out
        exact ⟨⟨cell_at (i := 1) h1, frozen_at (i := 1) h1⟩, lt_at h1⟩))
      have HSK := Lib.hid (fun (w3 : World) (hb : Below wo.heap.size wo w3) (w' : World) (kp : Kp (fun b => (Value.slice na nn nc).ownBlock ≠ some b) w3 w') => (show ((w'.cell? ⟨m, 1, none⟩ = some (.slice na nn nc) ∧ w'.frozen? ⟨m, 1, none⟩ = false) ∧ m < w'.heap.size) from by
        have h1 := kp.at ((hb.block _ (lt_at HMB.out)).trans HMB.out) HN1.out
        exact ⟨⟨cell_at (i := 1) h1, frozen_at (i := 1) h1⟩, lt_at h1⟩))
      have hBs : W.heap.size ≤ wo.heap.size := hS.os.bel.size
      have hcat : (⟨#[64]⟩ : ByteArray) ++ (⟨(Lib.itoa (i1 : Int)).toArray⟩ : ByteArray) = ⟨(64 :: Lib.itoa (i1 : Int)).toArray⟩ := by
        apply ByteArray.ext
        rw [ByteArray.data_append]
        simp
      have hLn : (Lib.itoa (i1 : Int)).length ≤ 21 := Lib.itoa_length_le _ (by omega) (by omega)
      have hbig : ¬ 9223372036854775807 < 1 + (Lib.itoa (i1 : Int)).length := by omega
      clear hS hnv hnn htr hmb hne1 hLn
      go_upto_region 61 with fail
      refine wp_region_plan (fun w' : World => ((w'.cell? ⟨m, 1, none⟩ = some (.slice na nn nc) ∧ w'.frozen? ⟨m, 1, none⟩ = false) ∧ m < w'.heap.size)) [15] (.take 0 (.take 1 (.take 2 (.take 3 (.take 4 (.take 5 (.take 6 (.one 7 (.one 8 (.one 9 (.one 10 (.one 11 (.one 12 (.one 13 (.one 14 (.one 15 (.done))))))))))))))))) (by kernel_rfl) (by kernel_rfl) (fun c t a w h => hQ c t a w h) ?_
      have hSw := HSB.out _ (below_drewN (Below.refl _ wo) 1)
      refine wpPlan_takeD (v := ?vc8) rfl rfl hSw (by rfl) ?yc8 ?_
      case yc8 => (intro w hSx; (try dsimp only at hSx); go_simp; first | done | with_reducible rfl | rfl)
      (try simp only [Act.put, List.setIfInBounds_toArray, List.set_cons_zero, List.set_cons_succ])
      refine wpPlan_takeD (v := ?vc9) rfl rfl hSw (by rfl) ?yc9 ?_
      case yc9 => (intro w hSx; (try dsimp only at hSx); go_simp; first | done | with_reducible rfl | rfl)
      (try simp only [Act.put, List.setIfInBounds_toArray, List.set_cons_zero, List.set_cons_succ])
      refine wpPlan_takeD (v := ?vc10) rfl rfl hSw (by rfl) ?yc10 ?_
      case yc10 => (intro w hSx; (try dsimp only at hSx); go_simp; first | done | with_reducible rfl | rfl)
      (try simp only [Act.put, List.setIfInBounds_toArray, List.set_cons_zero, List.set_cons_succ])
      refine wpPlan_takeD (v := ?vc11) rfl rfl hSw (by rfl) ?yc11 ?_
      case yc11 => (intro w hSx; (try dsimp only at hSx); go_simp; first | done | with_reducible rfl | rfl)
      (try simp only [Act.put, List.setIfInBounds_toArray, List.set_cons_zero, List.set_cons_succ])
      refine wpPlan_takeD (v := ?vc12) rfl rfl hSw (by rfl) ?yc12 ?_
      case yc12 => (intro w hSx; (try dsimp only at hSx); go_simp; first | done | with_reducible rfl | rfl)
      (try simp only [Act.put, List.setIfInBounds_toArray, List.set_cons_zero, List.set_cons_succ])
      refine wpPlan_takeD (v := ?vc13) rfl rfl hSw (by rfl) ?yc13 ?_
      case yc13 => (intro w hSx; (try dsimp only at hSx); go_simp; first | done | with_reducible rfl | rfl)
      (try simp only [Act.put, List.setIfInBounds_toArray, List.set_cons_zero, List.set_cons_succ])
      refine wpPlan_takeD (v := ?vc14) rfl rfl hSw (by rfl) ?yc14 ?_
      case yc14 => (intro w hSx; (try dsimp only at hSx); go_simp; first | done | with_reducible rfl | rfl)
      (try simp only [Act.put, List.setIfInBounds_toArray, List.set_cons_zero, List.set_cons_succ])
      refine wpPlan_run rfl (by rfl) (fun K' hK => ?_)
      (go_simp; go_at_call 8; refine (ref_Digits (i1 : Int) _ (by omega) (by omega)).mono ?_; rintro e w3 ⟨rfl, hb3'⟩; have hb3 : Below wo.heap.size wo w3 := below_undrew hb3'; have hB3 : W.heap.size ≤ w3.heap.size := Nat.le_trans hBs hb3.size; clear hb3')
      refine hK _ _ (.inr ?_) ?_
      · exact HSB.out _ hb3
      clear hK K' hSw
      (try simp only [Act.put, List.setIfInBounds_toArray, List.set_cons_zero, List.set_cons_succ])
      refine wpPlan_run rfl (by rfl) (fun K' hK => ?_)
      go_simp
      refine hK _ _ (.inr ?_) ?_
      · exact HSB.out _ hb3
      clear hK K'
      (try simp only [Act.put, List.setIfInBounds_toArray, List.set_cons_zero, List.set_cons_succ])
      refine wpPlan_run rfl (by rfl) (fun K' hK => ?_)
      go_simp
      refine hK _ _ (.inr ?_) ?_
      · exact HSB.out _ hb3
      clear hK K'
      (try simp only [Act.put, List.setIfInBounds_toArray, List.set_cons_zero, List.set_cons_succ])
      refine wpPlan_run rfl (by rfl) (fun K' hK => ?_)
      go_simp
      refine hK _ _ (.inr ?_) ?_
      · exact HSB.out _ (hb3.alloc hb3.size (.cells #[.string ⟨(64 :: Lib.itoa (i1 : Int)).toArray⟩, .string ⟨#[]⟩] 99))
      clear hK K'
      (try simp only [Act.put, List.setIfInBounds_toArray, List.set_cons_zero, List.set_cons_succ])
      refine wpPlan_run rfl (by rfl) (fun K' hK => ?_)
      (refine wp_append_lies _ _ _ _ (by rfl) W.heap.size 99 in0 _ 2 32 Tryd.underlying55 hin0 hnz0 hnz1 hnz2 rfl (by omega) _ _ _ (by rfl) ((ownsRow_below HTR.out hb3).alloc _) ⟨w3.heap.size, 0, none⟩ 1 1 (nonC ⟨64 :: Lib.itoa (i1 : Int), []⟩) (by rfl) (by rfl) (World.news_of_block (cs := (nonC ⟨64 :: Lib.itoa (i1 : Int), []⟩).toArray) (t := 99) (fr := (0, 0)) (heap_last w3 _)) (by simp [Value.oneCell', nonC]) (by omega) (by unfold maxLen; omega) (by omega) (by show W.heap.size ≤ (w3.alloc (.cells #[.string ⟨(64 :: Lib.itoa (i1 : Int)).toArray⟩, .string ⟨#[]⟩] 99)).heap.size; simp only [World.size_alloc]; omega) _ rfl ?_; intro gg1 cp1 w5 hown1 hgrow1 hat1 hlt1; replace hgrow1 : (w3.alloc (.cells #[.string ⟨(64 :: Lib.itoa (i1 : Int)).toArray⟩, .string ⟨#[]⟩] 99)).grownBy w5 (Value.slice na nn nc).ownBlock := ⟨hgrow1.os, hgrow1.tape, hgrow1.output, hgrow1.size, hgrow1.block⟩; have hk5 : Kp (fun b => (Value.slice na nn nc).ownBlock ≠ some b) w3 w5 := ((Kp.refl _ w3).alloc (.cells #[.string ⟨(64 :: Lib.itoa (i1 : Int)).toArray⟩, .string ⟨#[]⟩] 99)).grown hgrow1 (fun k hk hs => hs hk); have hWle : w3.heap.size ≤ (w3.alloc (.cells #[.string ⟨(64 :: Lib.itoa (i1 : Int)).toArray⟩, .string ⟨#[]⟩] 99)).heap.size := (by simp only [World.size_alloc]; omega))
      refine hK _ _ (.inr ?_) ?_
      · exact HSK.out _ hb3 _ hk5
      clear hK K'
      (try simp only [Act.put, List.setIfInBounds_toArray, List.set_cons_zero, List.set_cons_succ])
      refine wpPlan_run rfl (by rfl) (fun K' hK => ?_)
      go_simp
      refine hK _ _ (.inr ?_) ?_
      · exact HSK.out _ hb3 _ hk5
      clear hK K'
      (try simp only [Act.put, List.setIfInBounds_toArray, List.set_cons_zero, List.set_cons_succ])
      refine wpPlan_run rfl (by rfl) (fun K' hK => ?_)
      go_simp
      refine hK _ _ (.inr ?_) ?_
      · exact HSK.out _ hb3 _ hk5
      clear hK K'
      (try simp only [Act.put, List.setIfInBounds_toArray, List.set_cons_zero, List.set_cons_succ])
      refine wpPlan_run rfl (by rfl) (fun K' hK => ?_)
      go_simp
      refine hK _ _ (.inr ?_) ?_
      · exact HSK.out _ hb3 _ hk5
      clear hK K'
      (try simp only [Act.put, List.setIfInBounds_toArray, List.set_cons_zero, List.set_cons_succ])
      refine wpPlan_run rfl (by rfl) (fun K' hK => ?_)
      (obtain ⟨⟨z1, z2⟩, hlz⟩ := HSK.out _ hb3 _ hk5; go_simp)
      refine hK _ _ (.inl rfl) ?_
      clear hK K'
      (try simp only [Act.put, List.setIfInBounds_toArray, List.set_cons_zero, List.set_cons_succ])
      refine wpPlan_done ?_
      have kt5 : KpT (fun t => t ≠ 99) w3 w5 := (KpT.below ((Below.refl _ w3).alloc (Nat.le_refl _) _)).trans (KpT.grown ((ownsRow_below HTR.out hb3).alloc _) hgrow1)
      have hS6 := (HS.out.below hb3).push (a := ⟨64 :: Lib.itoa (i1 : Int), []⟩) (by rw [HNV.out]; exact hk5) kt5 (by rw [← HNN.out]; exact hown1) (by rw [HNV.out]; exact hat1.imp id (fun e => by rw [e]; exact hWle))
      have hL : (L ++ Sp.innerNons (i1 - 1)) ++ [⟨64 :: Lib.itoa (i1 : Int), []⟩] = L ++ Sp.innerNons (i1 + 1 - 1) := by
        obtain ⟨j, rfl⟩ : ∃ j, i1 = j + 1 := ⟨i1 - 1, by omega⟩
        rw [List.append_assoc]
        rfl
      rw [hL] at hS6
      have HS6 := Lib.hid hS6
      clear kt5 hL hS6 hown1 hgrow1 hat1 hlt1 hk5 hWle z1 z2 hlz HSK HSB
      go_wp2_with fail
      go_roundg (n + 1 - (i1 + 1))
      case measure => omega
      case rel => exact ⟨i1 + 1, _, by omega, by omega, rfl, by go_num, HS6.out⟩
    · obtain rfl : i1 = n + 1 := by omega
      have hS := HS.out
      rw [show n + 1 - 1 = n by omega] at hS
      have HS1 := Lib.hid hS
      have hk1 : ¬ ((n + 1 : Nat) : Int) ≤ (n : Int) := by omega
      clear hS
      go_wp2_with fail
      exact HKK.out _ _ _ _ _ _ _ _ _ _ _ _ _ _ _ _ _ _ _ _ _ _ _ _ _ v HS1.out
end Go.Proofs.YtphdfbmmjkccgaaDoor
