/- yuccaref9.Of: what stands while it runs; its loop over the declarations. -/
import Derived.Test.YtphdfbmmjkccgaaDoorZ13
import Derived.Test.YtphdfbmmjkccgaaDoorZ15
import Derived.Test.YtphdfbmmjkccgaaDoorZ09
import Derived.Test.YtphdfbmmjkccgaaDoorZ06
namespace Go.Proofs.YtphdfbmmjkccgaaDoor
open Go.RowKit Go.Maps

noncomputable def ofBlk (n : Nat) : Code := (Tryd.f24.body.bind (findBlock n)).getD .skip
/-- While Of runs: its source's box, its result's, the maker. -/
structure OfS (W : World) (m : Nat) (x : Sp.Source) (vd vr : Value) (r : Sp.Rk) (v : RkV) (wx : World) : Prop where
  mkr : RefAt (fun _ => True) W.heap.size wx m r v
  sbox : wx.heap[W.heap.size]? = some (.cells (srcC vd vr x).toArray 29 (0, 0))
  gbox : wx.heap[W.heap.size + 1]? = some (.cells #[.slice none 0 0, .slice none 0 0, .slice none 0 0, .string ⟨#[]⟩, .string ⟨#[]⟩] 58 (0, 0))
  bel : Below W.heap.size W wx
section
variable {W wx w' : World} {m : Nat} {x : Sp.Source} {vd vr : Value} {r r' : Sp.Rk} {v v' : RkV}
theorem OfS.step (h : OfS W m x vd vr r v wx) (hm : RefAt (fun _ => True) W.heap.size w' m r' v') (hb : Below W.heap.size wx w') (k : KpT (fun t => t = 29 ∨ t = 58) wx w') : OfS W m x vd vr r' v' w' :=
  ⟨hm, k _ _ _ _ h.sbox (.inl rfl), k _ _ _ _ h.gbox (.inr rfl), h.bel.trans hb⟩
theorem OfS.rfr (h : OfS W m x vd vr r v wx) (hm : RefAt (fun _ => True) W.heap.size w' m r' v') (hf : RFr W.heap.size wx w') : OfS W m x vd vr r' v' w' :=
  h.step hm hf.1 (hf.2.mono (fun t ht => by unfold RT; rcases ht with rfl | rfl <;> decide))
theorem OfS.below (h : OfS W m x vd vr r v wx) (hb : Below wx.heap.size wx w') : OfS W m x vd vr r v w' :=
  h.rfr (h.mkr.below hb) (RFr.below hb h.bel.size)
end
def GoodD (d : Sp.Decl) : Prop := (1 ≤ d.kind ∧ d.kind ≤ 6) ∧ ∀ s ∈ d.syms, s.lit = true → ∃ c, s.name = [c]
theorem Sp.rsyms_cons (d : Sp.Decl) (s : Sp.Sym) (l : List Sp.Sym) (q : Sp.Rk × List UInt8) : Sp.rsyms d (s :: l) q = Sp.rsyms d l (Sp.rsym q d s) := rfl
theorem Sp.rdecls_cons (d : Sp.Decl) (l : List Sp.Decl) (q : Sp.Rk × List UInt8) : Sp.rdecls (d :: l) q = Sp.rdecls l (Sp.rsyms d d.syms (if 2 ≤ d.kind ∧ d.kind ≤ 4 then { q.1 with level := q.1.level + 1 } else q.1, q.2)) := rfl
theorem Sp.rsym_decl (d : Sp.Decl) (s : Sp.Sym) (q : Sp.Rk × List UInt8) (h : d.kind ≠ 6) : Sp.rsym q d s = (Sp.rdeclare q.1 d s, q.2) := by unfold Sp.rsym; rw [if_pos h]
theorem Sp.rsym_start (d : Sp.Decl) (s : Sp.Sym) (q : Sp.Rk × List UInt8) (h : d.kind = 6) : Sp.rsym q d s = (if q.2 ≠ [] then Sp.rfail q.1 s.at_ s.name else q.1, s.name) := by unfold Sp.rsym; rw [if_neg (by simpa using h)]
set_option maxRecDepth 100000 in
set_option maxHeartbeats 12800000 in
theorem of_decls {W wm : World} {m : Nat} {x : Sp.Source} {vd vr : Value} {r0 : Sp.Rk} {v0 : RkV}
    (u0 u3 u4 u5 u9 u10 u11 u12 u13 u14 u15 u16 u17 u18 u19 u20 u21 u22 u23 u24 u25 u26 u27 u28 u29 u30 u31 u32 u33 u34 u35 u36 u37 u38 u39 u40 u41 u42 u43 u44 u45 u46 u47 u48 u49 u50 u51 u52 u53 u54 u55 u56 u57 u58 u59 u60 u61 u62 u63 u64 u65 u66 u67 u68 u69 u70 u71 u72 u73 u74 u75 u76 u77 u78 u79 u80 u81 u82 u83 u84 u85 u86 u87 u88 u89 u90 u91 u92 u93 u94 u95 u96 u97 u98 u99 u100 u101 u102 u103 u104 u105 u106 u107 u108 u109 u110 u111 u112 u113 u114 u115 u116 u117 u118 u119 u120 u121 u122 u123 u124 u125 u126 u127 u128 u129 u130 u131 u132 u133 u134 u135 u136 u137 u138 u139 u140 u141 u142 u143 u144 u145 u146 u147 u148 u149 u150 u151 u152 u153 u154 u155 u156 u157 u158 u159 u160 u161 u162 u163 u164 u165 u166 u167 u168 u169 u170 u171 u172 u173 u174 u175 u176 u177 u178 u179 u180 u181 u182 u183 u184 u185 u186 u187 u188 u189 u190 u191 u192 u193 u194 u195 u196 u197 u198 u199 u200 u201 u202 u203 u204 u205 u206 u207 u208 u209 u210 u211 u212 u213 u214 u215 u216 u217 u218 u219 u220 u221 u222 u223 u224 u225 u226 u227 u228 u229 u230 u231 u232 u233 u234 u235 u236 u237 u238 u239 u240 u241 u242 u243 u244 u245 u246 u247 u248 u249 u250 u251 u252 u253 u254 u255 u256 u257 u258 u259 u260 u261 u262 u263 u264 u265 u266 u267 u268 u269 u270 u271 u272 u273 u274 u275 u276 u277 u278 u279 u280 u281 u282 u283 u284 u285 u286 u287 u288 u289 u290 u291 u292 u293 u294 u295 u296 u297 u298 u299 u300 u301 u302 u303 u304 u305 u306 u307 u308 u309 u310 u311 u312 u313 u314 u315 u316 u317 u318 u319 u320 u321 u322 u323 u324 u325 u326 u327 u328 u329 u330 u331 u332 u333 u334 u335 u336 u337 u338 u339 u340 u341 u342 u343 u344 u345 u346 u347 u348 u349 u350 u351 u352 u353 u354 u355 u356 u357 u358 u359 u360 u361 u362 u363 u364 u365 u366 u367 u368 u369 u370 u371 u372 u373 u374 u375 u376 u377 u378 u379 u380 u381 u382 u383 u384 u385 u386 u387 u388 u389 u390 u391 u392 u393 u394 u395 u396 u397 u398 u399 u400 u401 u402 u403 u404 u405 u406 u407 u408 u409 u410 u411 u412 u413 u414 u415 u416 u417 u418 u419 u420 u421 u422 u423 u424 u425 u426 u427 u428 u429 u430 u431 u432 u433 u434 : Value) (K : Act → World → Prop) (Q : Exit → Act → World → Prop)
    (hS : OfS W m x vd vr r0 v0 wm) (hd : DeclsAt W vd x.decls) (hsm : smallSrc x) (hgd : ∀ d ∈ x.decls, GoodD d) (hrb : Sp.RB 3 r0)
    (hQ : ∀ c (t : Array Value) (a : Act) w, Q (.panic c) ⟨t, a.defers⟩ w → Q (.panic c) a w)
    (hK : ∀ (x8 x9 x10 x41 x42 x43 x44 x45 x46 x47 x48 x49 x50 x51 x52 x53 x54 x55 x56 x57 x58 x59 x60 x61 x62 x63 x64 x65 x66 x67 x68 x69 x70 x71 x72 x73 x74 x75 x76 x77 x78 x79 x80 x81 x82 x83 x84 x85 x86 x87 x88 x89 x90 x91 x92 x93 x94 x95 x96 x97 x98 x99 x100 x101 x102 x103 x104 x105 x106 x107 : Value) (wx : World) (r1 : Sp.Rk) (v1 : RkV) (st : List UInt8), (r1, st) = Sp.rdecls x.decls (r0, []) → OfS W m x vd vr r1 v1 wx → Sp.RB 16004003 r1 → K ⟨#[u0, .pointer (some ⟨W.heap.size, 0, none⟩), .pointer (some ⟨W.heap.size + 1, 0, none⟩), u3, u4, u5, .pointer (some ⟨m, 0, none⟩), .string ⟨st.toArray⟩, x8, x9, x10, u11, u12, u13, u14, u15, u16, u17, u18, u19, u20, u21, u22, u23, u24, u25, u26, u27, u28, u29, u30, u31, u32, u33, u34, u35, u36, u37, u38, u39, u40, x41, x42, x43, x44, x45, x46, x47, x48, x49, x50, x51, x52, x53, x54, x55, x56, x57, x58, x59, x60, x61, x62, x63, x64, x65, x66, x67, x68, x69, x70, x71, x72, x73, x74, x75, x76, x77, x78, x79, x80, x81, x82, x83, x84, x85, x86, x87, x88, x89, x90, x91, x92, x93, x94, x95, x96, x97, x98, x99, x100, x101, x102, x103, x104, x105, x106, x107, u108, u109, u110, u111, u112, u113, u114, u115, u116, u117, u118, u119, u120, u121, u122, u123, u124, u125, u126, u127, u128, u129, u130, u131, u132, u133, u134, u135, u136, u137, u138, u139, u140, u141, u142, u143, u144, u145, u146, u147, u148, u149, u150, u151, u152, u153, u154, u155, u156, u157, u158, u159, u160, u161, u162, u163, u164, u165, u166, u167, u168, u169, u170, u171, u172, u173, u174, u175, u176, u177, u178, u179, u180, u181, u182, u183, u184, u185, u186, u187, u188, u189, u190, u191, u192, u193, u194, u195, u196, u197, u198, u199, u200, u201, u202, u203, u204, u205, u206, u207, u208, u209, u210, u211, u212, u213, u214, u215, u216, u217, u218, u219, u220, u221, u222, u223, u224, u225, u226, u227, u228, u229, u230, u231, u232, u233, u234, u235, u236, u237, u238, u239, u240, u241, u242, u243, u244, u245, u246, u247, u248, u249, u250, u251, u252, u253, u254, u255, u256, u257, u258, u259, u260, u261, u262, u263, u264, u265, u266, u267, u268, u269, u270, u271, u272, u273, u274, u275, u276, u277, u278, u279, u280, u281, u282, u283, u284, u285, u286, u287, u288, u289, u290, u291, u292, u293, u294, u295, u296, u297, u298, u299, u300, u301, u302, u303, u304, u305, u306, u307, u308, u309, u310, u311, u312, u313, u314, u315, u316, u317, u318, u319, u320, u321, u322, u323, u324, u325, u326, u327, u328, u329, u330, u331, u332, u333, u334, u335, u336, u337, u338, u339, u340, u341, u342, u343, u344, u345, u346, u347, u348, u349, u350, u351, u352, u353, u354, u355, u356, u357, u358, u359, u360, u361, u362, u363, u364, u365, u366, u367, u368, u369, u370, u371, u372, u373, u374, u375, u376, u377, u378, u379, u380, u381, u382, u383, u384, u385, u386, u387, u388, u389, u390, u391, u392, u393, u394, u395, u396, u397, u398, u399, u400, u401, u402, u403, u404, u405, u406, u407, u408, u409, u410, u411, u412, u413, u414, u415, u416, u417, u418, u419, u420, u421, u422, u423, u424, u425, u426, u427, u428, u429, u430, u431, u432, u433, u434], []⟩ wx) :
    Code.wp Tryd.prog (ofBlk 0) (Exit.then K Q) ⟨#[u0, .pointer (some ⟨W.heap.size, 0, none⟩), .pointer (some ⟨W.heap.size + 1, 0, none⟩), u3, u4, u5, .pointer (some ⟨m, 0, none⟩), .string ⟨#[]⟩, .int .i64 0, u9, u10, u11, u12, u13, u14, u15, u16, u17, u18, u19, u20, u21, u22, u23, u24, u25, u26, u27, u28, u29, u30, u31, u32, u33, u34, u35, u36, u37, u38, u39, u40, u41, u42, u43, u44, u45, u46, u47, u48, u49, u50, u51, u52, u53, u54, u55, u56, u57, u58, u59, u60, u61, u62, u63, u64, u65, u66, u67, u68, u69, u70, u71, u72, u73, u74, u75, u76, u77, u78, u79, u80, u81, u82, u83, u84, u85, u86, u87, u88, u89, u90, u91, u92, u93, u94, u95, u96, u97, u98, u99, u100, u101, u102, u103, u104, u105, u106, u107, u108, u109, u110, u111, u112, u113, u114, u115, u116, u117, u118, u119, u120, u121, u122, u123, u124, u125, u126, u127, u128, u129, u130, u131, u132, u133, u134, u135, u136, u137, u138, u139, u140, u141, u142, u143, u144, u145, u146, u147, u148, u149, u150, u151, u152, u153, u154, u155, u156, u157, u158, u159, u160, u161, u162, u163, u164, u165, u166, u167, u168, u169, u170, u171, u172, u173, u174, u175, u176, u177, u178, u179, u180, u181, u182, u183, u184, u185, u186, u187, u188, u189, u190, u191, u192, u193, u194, u195, u196, u197, u198, u199, u200, u201, u202, u203, u204, u205, u206, u207, u208, u209, u210, u211, u212, u213, u214, u215, u216, u217, u218, u219, u220, u221, u222, u223, u224, u225, u226, u227, u228, u229, u230, u231, u232, u233, u234, u235, u236, u237, u238, u239, u240, u241, u242, u243, u244, u245, u246, u247, u248, u249, u250, u251, u252, u253, u254, u255, u256, u257, u258, u259, u260, u261, u262, u263, u264, u265, u266, u267, u268, u269, u270, u271, u272, u273, u274, u275, u276, u277, u278, u279, u280, u281, u282, u283, u284, u285, u286, u287, u288, u289, u290, u291, u292, u293, u294, u295, u296, u297, u298, u299, u300, u301, u302, u303, u304, u305, u306, u307, u308, u309, u310, u311, u312, u313, u314, u315, u316, u317, u318, u319, u320, u321, u322, u323, u324, u325, u326, u327, u328, u329, u330, u331, u332, u333, u334, u335, u336, u337, u338, u339, u340, u341, u342, u343, u344, u345, u346, u347, u348, u349, u350, u351, u352, u353, u354, u355, u356, u357, u358, u359, u360, u361, u362, u363, u364, u365, u366, u367, u368, u369, u370, u371, u372, u373, u374, u375, u376, u377, u378, u379, u380, u381, u382, u383, u384, u385, u386, u387, u388, u389, u390, u391, u392, u393, u394, u395, u396, u397, u398, u399, u400, u401, u402, u403, u404, u405, u406, u407, u408, u409, u410, u411, u412, u413, u414, u415, u416, u417, u418, u419, u420, u421, u422, u423, u424, u425, u426, u427, u428, u429, u430, u431, u432, u433, u434], []⟩ wm := by
  obtain ⟨fd, hd1, hd2⟩ := hd
  obtain ⟨da, dc, rfl⟩ := hd1.form
  rw [List.length_mapIdx] at hd1 hS hK
  obtain ⟨n, hn⟩ : ∃ n, n = x.decls.length := ⟨_, rfl⟩
  have hn4 : n ≤ 4000 := by rw [hn]; exact hsm.2.2.1
  rw [← hn] at hd1 hS hK
  obtain ⟨RR, hRR⟩ : ∃ RR, RR = Sp.rdecls x.decls (r0, []) := ⟨_, rfl⟩
  rw [← hRR] at hK
  have HS0 := Lib.hid hS; have HD1 := Lib.hid hd1; have HD2 := Lib.hid hd2; have HSM := Lib.hid hsm; have HGD := Lib.hid hgd; have HRB := Lib.hid hrb; have HNE := Lib.hid hn; have HR := Lib.hid hRR
  clear hS hd1 hd2 hsm hgd hrb hn hRR
  have HKK := Lib.hid hK
  have hM : ∀ a w, Met K a w → K a w := fun _ _ h => h
  clear hK
  conv => arg 2; whnf
  go_wp2_with fail
  go_loopg [7, 8] n (fun q v7 iv wr => ∃ (k : Nat) (r : Sp.Rk) (v : RkV) (st : List UInt8), k ≤ n ∧ q = n - k ∧ iv = .int .i64 k ∧ v7 = .string ⟨st.toArray⟩ ∧ OfS W m x (.slice da n dc) vr r v wr ∧ Sp.RB (3 + k * 4001) r ∧ Sp.rdecls (x.decls.drop k) (r, st) = RR)
  case atStart => exact ⟨0, r0, v0, [], Nat.zero_le _, rfl, rfl, rfl, HS0.out, HRB.out, HR.out.symm⟩
  case round =>
    clear HS0 HR HRB
    obtain ⟨k, r, v, st, hk, rfl, rfl, rfl, hS, hrb, hR⟩ := hrel
    obtain ⟨wo, hwo⟩ : ∃ wo : World, wo = wr := ⟨_, rfl⟩
    subst hwo
    obtain ⟨ko, hko⟩ : ∃ ko : Nat, ko = k := ⟨_, rfl⟩
    subst hko
    have HS := Lib.hid hS; have HRB := Lib.hid hrb; have HRR := Lib.hid hR
    have hk0 : (0 : Int) ≤ (ko : Int) := Int.natCast_nonneg _
    have s1 : wo.cell? ⟨W.heap.size, 1, none⟩ = some (.slice da n dc) := cell_at (i := 1) hS.sbox
    have ls := lt_at hS.sbox
    clear hS hrb hR
    by_cases hkn : ko < n
    · have hk1 : (ko : Int) < (n : Int) := by omega
      have hkd : ko < x.decls.length := by have := HNE.out; omega
      obtain ⟨d, hdk, hdr, hmem⟩ := at_drop hkd
      have hgd := HGD.out d hmem
      have hsd := HSM.out.2.2.2.2.1 d hmem
      obtain ⟨bo, oo, rfl, hbo, hco⟩ := HD1.out.at (k := ko) (row := declC (fd ko) d) (by rw [List.getElem?_mapIdx, hdk]; rfl)
      have hcells := hco wo HS.out.bel
      have hsy := HD2.out ko d hdk
      obtain ⟨sa, sc, hsv⟩ := hsy.form
      rw [List.length_map] at hsv
      have hR := HRR.out
      rw [hdr, Sp.rdecls_cons] at hR
      obtain ⟨dk, dt, dsy, dp⟩ := d
      simp only at hsv hR hsy hgd hsd
      obtain ⟨sn, hsn⟩ : ∃ sn, sn = dsy.length := ⟨_, rfl⟩
      have hsn4 : sn ≤ 4000 := by rw [hsn]; exact hsd.2.1
      rw [← hsn] at hsv
      rw [hsv] at hsy hcells
      have c0 := hcells 0 _ rfl; have c1 := hcells 1 _ rfl; have c2 := hcells 2 _ rfl; have c3 := hcells 3 _ rfl
      simp only [Nat.add_zero] at c0 c1 c2 c3
      have hbl : bo < wo.heap.size := by have := HS.out.bel.size; omega
      obtain ⟨⟨hdk1, hdk6⟩, hgs⟩ := hgd
      have HGS := Lib.hid hgs; have HSY := Lib.hid hsy; have HSN := Lib.hid hsn; have HR2 := Lib.hid hR
      clear hcells hco hsv hR hsy hsd hgs hsn hdr hdk hmem HRR
      obtain ⟨bd, hbd⟩ : ∃ bd, bd = wo.heap.size := ⟨_, rfl⟩
      obtain ⟨w1, hw1⟩ : ∃ w1, w1 = wo.alloc (.cells #[.int .i64 dk, .string ⟨dt.toArray⟩, .slice sa sn sc, .int .i64 dp] 51) := ⟨_, rfl⟩
      have hb1 : Below wo.heap.size wo w1 := by rw [hw1]; exact (Below.refl _ wo).alloc (Nat.le_refl _) _
      have hd1 : w1.heap[bd]? = some (.cells #[.int .i64 dk, .string ⟨dt.toArray⟩, .slice sa sn sc, .int .i64 dp] 51 (0, 0)) := by rw [hw1, hbd]; exact heap_last wo _
      have HS1 := Lib.hid (HS.out.below hb1)
      have HD := Lib.hid hd1
      go_upto_region 10 with fail
      rw [← hbd, ← hw1]
      have d0 := cell_at (i := 0) hd1
      have ld := lt_at hd1
      clear hbd hw1 hb1 hd1 c0 c1 c2 c3 hbl hbo s1 ls HS
      obtain ⟨r2, hr2⟩ : ∃ r2, r2 = (if 2 ≤ dk ∧ dk ≤ 4 then { r with level := r.level + 1 } else r) := ⟨_, rfl⟩
      rw [← hr2] at HR2
      have hrb2 : Sp.RB (3 + ko * 4001 + 1) r2 := by
        rw [hr2]
        split
        · obtain ⟨q0, q1, q2, q3, q4, q5, q6, q7⟩ := HRB.out
          exact ⟨q0, by simp only; omega, by simp only; omega, by simp only; omega, by simp only; omega, by simp only; omega, by simp only; omega, by simp only; omega⟩
        · exact HRB.out.mono (by omega)
      have HRB2 := Lib.hid hrb2; have HE2 := Lib.hid hr2
      have hlv := HRB.out.level
      clear hrb2 hr2
      go_cut [60] from 41 to 107 (fun c wx => c = .bool (decide (2 ≤ dk) && decide (dk ≤ 4)) ∧ w1 = wx)
      case first =>
        by_cases h2 : 2 ≤ dk
        · have e2 : decide (2 ≤ dk) = true := decide_eq_true h2
          go_wp2_with fail
          go_meet
          exact ⟨by first | (rw [e2]; rfl) | simp_all, rfl⟩
        · have e2 : decide (2 ≤ dk) = false := decide_eq_false h2
          go_wp2_with fail
          go_meet
          exact ⟨by first | (rw [e2]; rfl) | simp_all, rfl⟩
      case rest =>
        obtain ⟨rfl, rfl⟩ := hcut
        go_upto_if 60 with fail
        go_cut [] from 41 to 107 (fun wx => OfS W m x (.slice (some ⟨bo, oo, none⟩) n dc) vr r2 v wx ∧ wx.heap[bd]? = some (.cells #[.int .i64 dk, .string ⟨dt.toArray⟩, .slice sa sn sc, .int .i64 dp] 51 (0, 0)))
        case first =>
          by_cases h2 : 2 ≤ dk ∧ dk ≤ 4
          · have e : r2 = { r with level := r.level + 1 } := by rw [HE2.out, if_pos h2]
            obtain ⟨h2a, h2b⟩ := h2
            have e1 : decide (2 ≤ dk) = true := decide_eq_true h2a
            have e2 : decide (dk ≤ 4) = true := decide_eq_true h2b
            have hmb := HS1.out.mkr.block
            unfold rkCells at hmb
            have c11 := cell_at (i := 11) hmb
            have f11 := frozen_at (i := 11) hmb
            have lm := lt_at hmb
            obtain ⟨q1, q2⟩ := hlv
            have hwl : IntKind.i64.wrap (r.level + 1) = r.level + 1 := IntWalk.i64_in _ ⟨by omega, by omega⟩
            have hst2 : OfS W m x (.slice (some ⟨bo, oo, none⟩) n dc) vr r2 v (w1.setCell ⟨m, 11, none⟩ (.int .i64 (r.level + 1))) := by
              have hbx := RefAt.box1 HS1.out.mkr.block HS1.out.mkr.behind 11 (.int .i64 (r.level + 1))
              refine HS1.out.rfr (HS1.out.mkr.box hbx.1 ?_ ?_ ?_ ?_ ?_ ?_) hbx.2
              · rw [e]; exact heap_setCell_at HS1.out.mkr.block
              all_goals rw [e]
            have hd2 := (RefAt.box1 HS1.out.mkr.block HS1.out.mkr.behind 11 (.int .i64 (r.level + 1))).2.at HD.out (by unfold RT; decide)
            have HST2 := Lib.hid hst2; have HD2 := Lib.hid hd2
            clear hmb hst2 hd2
            go_wp2_with fail
            go_meet
            exact ⟨HST2.out, HD2.out⟩
          · have e : r2 = r := by rw [HE2.out, if_neg h2]
            have e1 : (decide (2 ≤ dk) && decide (dk ≤ 4)) = false := by rw [← Bool.decide_and]; exact decide_eq_false h2
            subst e
            go_wp2_with fail
            go_meet
            exact ⟨HS1.out, HD.out⟩
        case rest =>
          obtain ⟨w2, hw2⟩ : ∃ w2 : World, w2 = wc := ⟨_, rfl⟩
          subst hw2
          obtain ⟨hS2, hd2⟩ := hcut
          have HS2 := Lib.hid hS2; have HD2 := Lib.hid hd2
          obtain ⟨R2, hR2⟩ : ∃ R2, R2 = Sp.rsyms ⟨dk, dt, dsy, dp⟩ dsy (r2, st) := ⟨_, rfl⟩
          have HR3 := HR2
          rw [← hR2] at HR3
          have HRI := Lib.hid hR2
          clear hS2 hd2 hR2 HR2 HS1 HD d0 ld
          go_wp2_with fail
          go_loopg [7, 10] sn (fun q v7 iv wr => ∃ (j : Nat) (r3 : Sp.Rk) (v3 : RkV) (s3 : List UInt8), j ≤ sn ∧ q = sn - j ∧ iv = .int .i64 j ∧ v7 = .string ⟨s3.toArray⟩ ∧ OfS W m x (.slice (some ⟨bo, oo, none⟩) n dc) vr r3 v3 wr ∧ wr.heap[bd]? = some (.cells #[.int .i64 dk, .string ⟨dt.toArray⟩, .slice sa sn sc, .int .i64 dp] 51 (0, 0)) ∧ Sp.RB (3 + ko * 4001 + 1 + j) r3 ∧ Sp.rsyms ⟨dk, dt, dsy, dp⟩ (dsy.drop j) (r3, s3) = R2)
          case atStart => exact ⟨0, r2, v, st, Nat.zero_le _, rfl, rfl, rfl, HS2.out, HD2.out, HRB2.out, HRI.out.symm⟩
          case round =>
            obtain ⟨j, r3, v3, s3, hj, rfl, rfl, rfl, hS3, hd3, hrb3, hR3⟩ := hrel
            obtain ⟨wj, hwj⟩ : ∃ wj : World, wj = wr := ⟨_, rfl⟩
            subst hwj
            have HS3 := Lib.hid hS3; have HD3 := Lib.hid hd3; have HRB3 := Lib.hid hrb3; have HR4 := Lib.hid hR3
            have hj0 : (0 : Int) ≤ (j : Int) := Int.natCast_nonneg _
            have d0 := cell_at (i := 0) hd3; have d2 := cell_at (i := 2) hd3
            have ld := lt_at hd3
            clear hS3 hd3 hrb3 hR3
            by_cases hjn : j < sn
            · have hj1 : (j : Int) < (sn : Int) := by omega
              have hjd : j < dsy.length := by have := HSN.out; omega
              obtain ⟨⟨nm, lt, nu, pa⟩, hjk, hjr, hjm⟩ := at_drop hjd
              obtain ⟨bs, os, rfl, hbs, hcs⟩ := HSY.out.at (k := j) (row := symC ⟨nm, lt, nu, pa⟩) (by rw [List.getElem?_map, hjk]; rfl)
              have hR3 := HR4.out
              rw [hjr, Sp.rsyms_cons] at hR3
              have HG1 := Lib.hid (HGS.out _ hjm); have HCS := Lib.hid hcs
              have hsz := HS3.out.bel.size
              have HSK := Lib.hid (fun (w' : World) (hb : Below wj.heap.size wj w') => (show (w'.cell? ⟨bd, 0, none⟩ = some (.int .i64 dk) ∧ w'.cell? ⟨bd, 1, none⟩ = some (.string ⟨dt.toArray⟩) ∧ w'.cell? ⟨bd, 2, none⟩ = some (.slice (some ⟨bs, os, none⟩) sn sc) ∧ w'.cell? ⟨bd, 3, none⟩ = some (.int .i64 dp) ∧ w'.cell? ⟨bs, os + j * 4, none⟩ = some (.string ⟨nm.toArray⟩) ∧ w'.cell? ⟨bs, os + j * 4 + 1, none⟩ = some (.bool lt) ∧ w'.cell? ⟨bs, os + j * 4 + 2, none⟩ = some (.int .i64 nu) ∧ w'.cell? ⟨bs, os + j * 4 + 3, none⟩ = some (.int .i64 pa) ∧ bd < w'.heap.size ∧ bs < w'.heap.size) from by
                have h1 := (hb.block _ (lt_at HD3.out)).trans HD3.out
                have hcc := HCS.out w' (HS3.out.bel.trans (hb.mono hsz))
                have g0 := hcc 0 _ rfl; have g1 := hcc 1 _ rfl; have g2 := hcc 2 _ rfl; have g3 := hcc 3 _ rfl
                simp only [Nat.add_zero] at g0
                exact ⟨cell_at (i := 0) h1, cell_at (i := 1) h1, cell_at (i := 2) h1, cell_at (i := 3) h1, g0, g1, g2, g3, lt_at h1, by have := hb.size; omega⟩))
              have HR5 := Lib.hid hR3
              clear hjk hjr hjm hcs hR3 HR4
              by_cases h6 : dk = 6
              · have e6 := Sp.rsym_start ⟨dk, dt, dsy, dp⟩ ⟨nm, lt, nu, pa⟩ (r3, s3) h6
                have HR6 := HR5
                rw [e6] at HR6
                clear e6 HR5
                subst h6
                by_cases hs3 : s3 = []
                · subst hs3
                  rw [if_neg (by simp)] at HR6
                  obtain ⟨c0, c1, c2, c3, g0, g1, g2, g3, l1, l2⟩ := HSK.out wj (Below.refl _ _)
                  go_wp2_with fail
                  go_roundg (sn - (j + 1))
                  case measure => omega
                  case rel => exact ⟨j + 1, r3, v3, nm, by omega, rfl, by go_num, rfl, HS3.out, HD3.out, HRB3.out.mono (by omega), HR6.out⟩
                · have hse : (!s3.isEmpty) = true := by cases s3 with
                    | nil => exact absurd rfl hs3
                    | cons a l => rfl
                  rw [if_pos hs3] at HR6
                  have HFL := Lib.hid (fun (w' : World) (hb : Below wj.heap.size wj w') => ref_fail pa nm (HS3.out.mkr.below hb))
                  go_upto_region 18 with fail
                  refine wp_region_plan (fun w' : World => (w'.cell? ⟨bd, 0, none⟩ = some (.int .i64 6) ∧ w'.cell? ⟨bd, 1, none⟩ = some (.string ⟨dt.toArray⟩) ∧ w'.cell? ⟨bd, 2, none⟩ = some (.slice (some ⟨bs, os, none⟩) sn sc) ∧ w'.cell? ⟨bd, 3, none⟩ = some (.int .i64 dp) ∧ w'.cell? ⟨bs, os + j * 4, none⟩ = some (.string ⟨nm.toArray⟩) ∧ w'.cell? ⟨bs, os + j * 4 + 1, none⟩ = some (.bool lt) ∧ w'.cell? ⟨bs, os + j * 4 + 2, none⟩ = some (.int .i64 nu) ∧ w'.cell? ⟨bs, os + j * 4 + 3, none⟩ = some (.int .i64 pa) ∧ bd < w'.heap.size ∧ bs < w'.heap.size)) [13] (.take 0 (.take 1 (.take 2 (.take 3 (.take 4 (.take 5 (.take 6 (.take 7 (.take 8 (.take 9 (.take 10 (.take 11 (.take 12 (.one 13 (.done))))))))))))))) (by kernel_rfl) (by kernel_rfl) (fun c t a w h => hQ c t a w h) ?_
                  have hSw := HSK.out _ (below_drewN (Below.refl _ wj) 1)
                  refine wpPlan_takeD (v := ?vb8) rfl rfl hSw (by rfl) ?yb8 ?_
                  case yb8 => (intro w hSx; (try dsimp only at hSx); go_simp; first | done | with_reducible rfl | rfl)
                  (try simp only [Act.put, List.setIfInBounds_toArray, List.set_cons_zero, List.set_cons_succ])
                  refine wpPlan_takeD (v := ?vb9) rfl rfl hSw (by rfl) ?yb9 ?_
                  case yb9 => (intro w hSx; (try dsimp only at hSx); go_simp; first | done | with_reducible rfl | rfl)
                  (try simp only [Act.put, List.setIfInBounds_toArray, List.set_cons_zero, List.set_cons_succ])
                  refine wpPlan_takeD (v := ?vb10) rfl rfl hSw (by rfl) ?yb10 ?_
                  case yb10 => (intro w hSx; (try dsimp only at hSx); go_simp; first | done | with_reducible rfl | rfl)
                  (try simp only [Act.put, List.setIfInBounds_toArray, List.set_cons_zero, List.set_cons_succ])
                  refine wpPlan_takeD (v := ?vb11) rfl rfl hSw (by rfl) ?yb11 ?_
                  case yb11 => (intro w hSx; (try dsimp only at hSx); go_simp; first | done | with_reducible rfl | rfl)
                  (try simp only [Act.put, List.setIfInBounds_toArray, List.set_cons_zero, List.set_cons_succ])
                  refine wpPlan_takeD (v := ?vb12) rfl rfl hSw (by rfl) ?yb12 ?_
                  case yb12 => (intro w hSx; (try dsimp only at hSx); go_simp; first | done | with_reducible rfl | rfl)
                  (try simp only [Act.put, List.setIfInBounds_toArray, List.set_cons_zero, List.set_cons_succ])
                  refine wpPlan_takeD (v := ?vb13) rfl rfl hSw (by rfl) ?yb13 ?_
                  case yb13 => (intro w hSx; (try dsimp only at hSx); go_simp; first | done | with_reducible rfl | rfl)
                  (try simp only [Act.put, List.setIfInBounds_toArray, List.set_cons_zero, List.set_cons_succ])
                  refine wpPlan_takeD (v := ?vb14) rfl rfl hSw (by rfl) ?yb14 ?_
                  case yb14 => (intro w hSx; (try dsimp only at hSx); go_simp; first | done | with_reducible rfl | rfl)
                  (try simp only [Act.put, List.setIfInBounds_toArray, List.set_cons_zero, List.set_cons_succ])
                  refine wpPlan_takeD (v := ?vb15) rfl rfl hSw (by rfl) ?yb15 ?_
                  case yb15 => (intro w hSx; (try dsimp only at hSx); go_simp; first | done | with_reducible rfl | rfl)
                  (try simp only [Act.put, List.setIfInBounds_toArray, List.set_cons_zero, List.set_cons_succ])
                  refine wpPlan_takeD (v := ?vb16) rfl rfl hSw (by rfl) ?yb16 ?_
                  case yb16 => (intro w hSx; (try dsimp only at hSx); go_simp; first | done | with_reducible rfl | rfl)
                  (try simp only [Act.put, List.setIfInBounds_toArray, List.set_cons_zero, List.set_cons_succ])
                  refine wpPlan_takeD (v := ?vb17) rfl rfl hSw (by rfl) ?yb17 ?_
                  case yb17 => (intro w hSx; (try dsimp only at hSx); go_simp; first | done | with_reducible rfl | rfl)
                  (try simp only [Act.put, List.setIfInBounds_toArray, List.set_cons_zero, List.set_cons_succ])
                  refine wpPlan_takeD (v := ?vb18) rfl rfl hSw (by rfl) ?yb18 ?_
                  case yb18 => (intro w hSx; (try dsimp only at hSx); go_simp; first | done | with_reducible rfl | rfl)
                  (try simp only [Act.put, List.setIfInBounds_toArray, List.set_cons_zero, List.set_cons_succ])
                  refine wpPlan_takeD (v := ?vb19) rfl rfl hSw (by rfl) ?yb19 ?_
                  case yb19 => (intro w hSx; (try dsimp only at hSx); go_simp; first | done | with_reducible rfl | rfl)
                  (try simp only [Act.put, List.setIfInBounds_toArray, List.set_cons_zero, List.set_cons_succ])
                  refine wpPlan_takeD (v := ?vb20) rfl rfl hSw (by rfl) ?yb20 ?_
                  case yb20 => (intro w hSx; (try dsimp only at hSx); go_simp; first | done | with_reducible rfl | rfl)
                  (try simp only [Act.put, List.setIfInBounds_toArray, List.set_cons_zero, List.set_cons_succ])
                  refine wpPlan_run rfl (by rfl) (fun K' hK => ?_)
                  (go_simp; go_at_call 39; refine (HFL.out _ (below_drewN (Below.refl _ wj) 1)).mono ?_; rintro e w5 ⟨rfl, h5, hf5', _⟩; have hf5 : RFr W.heap.size wj w5 := ⟨below_undrew hf5'.1, hf5'.2⟩; clear hf5')
                  refine hK _ _ (.inl rfl) ?_
                  clear hK K' hSw
                  (try simp only [Act.put, List.setIfInBounds_toArray, List.set_cons_zero, List.set_cons_succ])
                  refine wpPlan_done ?_
                  have hS5 := HS3.out.rfr h5 hf5
                  have hd5 := hf5.at HD3.out (by unfold RT; decide)
                  have hcc := HCS.out w5 hS5.bel
                  have g0 := hcc 0 _ rfl
                  simp only [Nat.add_zero] at g0
                  have d2 := cell_at (i := 2) hd5
                  have ld := lt_at hd5
                  have lbs : bs < w5.heap.size := by have := hS5.bel.size; omega
                  have HS5 := Lib.hid hS5; have HD5 := Lib.hid hd5
                  clear h5 hf5 hS5 hd5 hcc HSK HCS HFL d0
                  go_wp2_with fail
                  go_roundg (sn - (j + 1))
                  case measure => omega
                  case rel => exact ⟨j + 1, _, v3, nm, by omega, rfl, by go_num, rfl, HS5.out, HD5.out, (Sp.rfail_RB _ _ HRB3.out).mono (by omega), HR6.out⟩
              · have h6b : (dk == 6) = false := by rw [beq_eq_false_iff_ne]; exact h6
                have h6n : (dk != 6) = true := by rw [bne_iff_ne]; exact h6
                have HR6 := HR5
                rw [Sp.rsym_decl _ _ _ h6] at HR6
                have hrb4 := Sp.rdeclare_RB ⟨dk, dt, dsy, dp⟩ ⟨nm, lt, nu, pa⟩ HRB3.out
                have HDC := Lib.hid (fun (w' : World) (hb : Below wj.heap.size wj w') => (show Calls Tryd.prog 38 #[.pointer (some ⟨m, 0, none⟩), .agg #[.int .i64 dk, .string ⟨dt.toArray⟩, .slice (some ⟨bs, os, none⟩) sn sc, .int .i64 dp], .agg #[.string ⟨nm.toArray⟩, .bool lt, .int .i64 nu, .int .i64 pa]] w' (fun e w'' => e = .returned (.tuple #[]) ∧ RefPost (fun _ => True) W.heap.size m v3.pv w' (Sp.rdeclare r3 ⟨dk, dt, dsy, dp⟩ ⟨nm, lt, nu, pa⟩) w'') from ref_declare ⟨dk, dt, dsy, dp⟩ (.slice (some ⟨bs, os, none⟩) sn sc) ⟨nm, lt, nu, pa⟩ (HS3.out.mkr.below hb) HRB3.out (by omega) HG1.out ⟨hdk1, hdk6⟩))
                have HRB4 := Lib.hid hrb4
                clear hrb4 HR5
                go_upto_region 16 with fail
                refine wp_region_plan (fun w' : World => (w'.cell? ⟨bd, 0, none⟩ = some (.int .i64 dk) ∧ w'.cell? ⟨bd, 1, none⟩ = some (.string ⟨dt.toArray⟩) ∧ w'.cell? ⟨bd, 2, none⟩ = some (.slice (some ⟨bs, os, none⟩) sn sc) ∧ w'.cell? ⟨bd, 3, none⟩ = some (.int .i64 dp) ∧ w'.cell? ⟨bs, os + j * 4, none⟩ = some (.string ⟨nm.toArray⟩) ∧ w'.cell? ⟨bs, os + j * 4 + 1, none⟩ = some (.bool lt) ∧ w'.cell? ⟨bs, os + j * 4 + 2, none⟩ = some (.int .i64 nu) ∧ w'.cell? ⟨bs, os + j * 4 + 3, none⟩ = some (.int .i64 pa) ∧ bd < w'.heap.size ∧ bs < w'.heap.size)) [7] (.take 0 (.take 1 (.take 2 (.take 3 (.take 4 (.take 5 (.take 6 (.one 7 (.done))))))))) (by kernel_rfl) (by kernel_rfl) (fun c t a w h => hQ c t a w h) ?_
                have hSw := HSK.out _ (below_drewN (Below.refl _ wj) 1)
                refine wpPlan_takeD (v := ?va1) rfl rfl hSw (by rfl) ?ya1 ?_
                case ya1 => (intro w hSx; (try dsimp only at hSx); go_simp; first | done | with_reducible rfl | rfl)
                (try simp only [Act.put, List.setIfInBounds_toArray, List.set_cons_zero, List.set_cons_succ])
                refine wpPlan_takeD (v := ?va2) rfl rfl hSw (by rfl) ?ya2 ?_
                case ya2 => (intro w hSx; (try dsimp only at hSx); go_simp; first | done | with_reducible rfl | rfl)
                (try simp only [Act.put, List.setIfInBounds_toArray, List.set_cons_zero, List.set_cons_succ])
                refine wpPlan_takeD (v := ?va3) rfl rfl hSw (by rfl) ?ya3 ?_
                case ya3 => (intro w hSx; (try dsimp only at hSx); go_simp; first | done | with_reducible rfl | rfl)
                (try simp only [Act.put, List.setIfInBounds_toArray, List.set_cons_zero, List.set_cons_succ])
                refine wpPlan_takeD (v := ?va4) rfl rfl hSw (by rfl) ?ya4 ?_
                case ya4 => (intro w hSx; (try dsimp only at hSx); go_simp; first | done | with_reducible rfl | rfl)
                (try simp only [Act.put, List.setIfInBounds_toArray, List.set_cons_zero, List.set_cons_succ])
                refine wpPlan_takeD (v := ?va5) rfl rfl hSw (by rfl) ?ya5 ?_
                case ya5 => (intro w hSx; (try dsimp only at hSx); go_simp; first | done | with_reducible rfl | rfl)
                (try simp only [Act.put, List.setIfInBounds_toArray, List.set_cons_zero, List.set_cons_succ])
                refine wpPlan_takeD (v := ?va6) rfl rfl hSw (by rfl) ?ya6 ?_
                case ya6 => (intro w hSx; (try dsimp only at hSx); go_simp; first | done | with_reducible rfl | rfl)
                (try simp only [Act.put, List.setIfInBounds_toArray, List.set_cons_zero, List.set_cons_succ])
                refine wpPlan_takeD (v := ?va7) rfl rfl hSw (by rfl) ?ya7 ?_
                case ya7 => (intro w hSx; (try dsimp only at hSx); go_simp; first | done | with_reducible rfl | rfl)
                (try simp only [Act.put, List.setIfInBounds_toArray, List.set_cons_zero, List.set_cons_succ])
                refine wpPlan_run rfl (by rfl) (fun K' hK => ?_)
                (go_simp; go_at_call 38; refine (HDC.out _ (below_drewN (Below.refl _ wj) 1)).mono ?_; rintro e w5 ⟨rfl, v5, h5, hf5', _⟩; have hf5 : RFr W.heap.size wj w5 := ⟨below_undrew hf5'.1, hf5'.2⟩; clear hf5')
                refine hK _ _ (.inl rfl) ?_
                clear hK K' hSw
                (try simp only [Act.put, List.setIfInBounds_toArray, List.set_cons_zero, List.set_cons_succ])
                refine wpPlan_done ?_
                have hS5 := HS3.out.rfr h5 hf5
                have hd5 := hf5.at HD3.out (by unfold RT; decide)
                have HS5 := Lib.hid hS5; have HD5 := Lib.hid hd5
                clear h5 hf5 hS5 hd5 HSK HCS HDC d0 d2 ld
                go_wp2_with fail
                go_roundg (sn - (j + 1))
                case measure => omega
                case rel => exact ⟨j + 1, _, v5, s3, by omega, rfl, by go_num, rfl, HS5.out, HD5.out, HRB4.out.mono (by omega), HR6.out⟩
            · obtain rfl : j = sn := by omega
              have hRe : (r3, s3) = R2 := by
                have h := HR4.out
                rw [List.drop_eq_nil_of_le (by rw [HSN.out]; exact Nat.le_refl _)] at h
                exact h
              have HRE := Lib.hid hRe
              clear hRe HR4
              go_wp2_with fail
              go_roundg (n - (ko + 1))
              case measure => omega
              case rel => exact ⟨ko + 1, r3, v3, s3, by omega, rfl, by go_num, rfl, HS3.out, HRB3.out.mono (by omega), by rw [HRE.out]; exact HR3.out⟩
    · obtain rfl : ko = n := by omega
      have hRe : (r, st) = RR := by
        have h := HRR.out
        rw [List.drop_eq_nil_of_le (by rw [HNE.out]; exact Nat.le_refl _)] at h
        exact h
      have HRE := Lib.hid hRe
      have hrb3 := HRB.out.mono (show 3 + ko * 4001 ≤ 16004003 by omega)
      have HRB3 := Lib.hid hrb3
      clear hRe hrb3 HRR
      go_wp2_with fail
      exact HKK.out _ _ _ _ _ _ _ _ _ _ _ _ _ _ _ _ _ _ _ _ _ _ _ _ _ _ _ _ _ _ _ _ _ _ _ _ _ _ _ _ _ _ _ _ _ _ _ _ _ _ _ _ _ _ _ _ _ _ _ _ _ _ _ _ _ _ _ _ _ _ _ r v st HRE.out HS.out HRB3.out
end Go.Proofs.YtphdfbmmjkccgaaDoor
