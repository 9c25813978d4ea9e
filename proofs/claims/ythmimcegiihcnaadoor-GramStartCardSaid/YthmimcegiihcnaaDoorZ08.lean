/- The walk of yuccalaw0.Source: its first loop and its last one. -/
import Derived.Test.YthmimcegiihcnaaDoorZ07
namespace Go.Proofs.YthmimcegiihcnaaDoor
open Go.RowKit

theorem kp_kpT {g : Nat} {w w' : World} {cs : Array Value} {t : TypeId} {fr : Nat × Nat} (h : Kp (fun k => k ≠ g) w w') (hg : w.heap[g]? = some (.cells cs t fr)) : KpT (· ≠ t) w w' := by
  intro b c t' fr' hb ht
  refine (h.block b (lt_at hb) (fun e => ?_)).trans hb
  subst e
  rw [hg] at hb
  simp only [Option.some.injEq, Obj.cells.injEq] at hb
  exact ht hb.2.1.symm
theorem kp_below {S : Nat → Prop} {a w w' : World} (h : Kp S a w) (hb : Below a.heap.size w w') : Kp S a w' := ⟨hb.os.trans h.os, hb.tape.trans h.tape, hb.output.trans h.output, Nat.le_trans h.size hb.size, fun b hl hs => (hb.block b hl).trans (h.block b hl hs)⟩
theorem altsOwnB_kp {B : Nat} {T : TypeId → Prop} {w w' : World} (k : KpT T w w') (ht : T 46) (ht2 : T 49) {u : Value} {d : Sp.Rule} (h : altsOwnB B w u d) : altsOwnB B w' u d := OwnR.kp h k ht2 (partsOwn_kp k ht)
theorem rulesD_kp {B : Nat} {T : TypeId → Prop} {w w' : World} {v : Value} {l : List Sp.Rule} (h : RulesD B w v l) (k : KpT T w w') (ht : T 46) (ht2 : T 49) (ht3 : T 52) : RulesD B w' v l :=
  OwnD.kp h k ht3 (fun _ _ h => altsOwnB_kp k ht ht2 h)
theorem declsD_kp {B : Nat} {T : TypeId → Prop} {w w' : World} {v : Value} {l : List Sp.Decl} (h : DeclsD B w v l) (k : KpT T w w') (ht : T 40) (ht2 : T 43) : DeclsD B w' v l :=
  OwnD.kp h k ht2 (fun _ _ h => ownsRow_kpT h k ht)
theorem altsOwnB_lt {B : Nat} {w : World} {u : Value} {r : Sp.Rule} (h : altsOwnB B w u r) : ∀ c, u.ownBlock = some c → B ≤ c ∧ c < w.heap.size := by
  obtain ⟨f, h, _⟩ := h
  exact fun c hc => h.lt c hc
theorem altsOwnB_ne {B : Nat} {w w' : World} {u : Value} {r : Sp.Rule} {b : Option Nat} (h : altsOwnB B w u r) (hg : w.grownBy w' b) (hne : ∀ c, u.ownBlock = some c → b ≠ some c) (hk : KpT (· ≠ 49) w w') : altsOwnB B w' u r := by
  obtain ⟨f, h1, h2⟩ := h
  exact ⟨f, ownsRow_kp (S := fun c => b ≠ some c) h1 ((Kp.refl _ w).grown hg (fun k hk hn => hn hk)) hne, fun i a ha => partsOwn_kp hk (by decide) _ _ (h2 i a ha)⟩
/-- What the k-th rule's cell reads. -/
theorem rules_cell {B : Nat} {w : World} {f : Nat → Value} {gr n vc k : Nat} {RL : List Sp.Rule} {r : Sp.Rule} (ho : w.ownsRow B 52 3 (.slice (some ⟨gr, 0, none⟩) n vc) n (RL.mapIdx fun i r => ruleC (f i) r).flatten) (hk : RL[k]? = some r) (hkn : k < n) :
    w.cell? ⟨gr, k * 3 + 1, none⟩ = some (f k) ∧ w.frozen? ⟨gr, k * 3 + 1, none⟩ = false := by
  refine ⟨?_, ho.frozenAt _⟩
  rw [ho.cellAt (k * 3 + 1) (by omega)]
  refine flatten_at 3 _ (fun r hr => ?_) k (ruleC (f k) r) (by rw [List.getElem?_mapIdx, hk]; rfl) 1 _ rfl
  obtain ⟨i, hi⟩ := List.mem_iff_getElem?.1 hr
  rw [List.getElem?_mapIdx] at hi
  obtain ⟨b, _, rfl⟩ := Option.map_eq_some_iff.1 hi
  rfl
theorem row_block {w : World} {B e size g n cap : Nat} {xs : List Value} (h : w.ownsRow B e size (.slice (some ⟨g, 0, none⟩) n cap) n xs) : ∃ cu, w.heap[g]? = some (.cells cu e (0, 0)) := by
  rcases h.2 with ⟨h, _⟩ | ⟨g', _, cu, h, _, hh, _⟩
  · simp at h
  · simp only [Value.slice.injEq, Option.some.injEq, Addr.mk.injEq, and_true, true_and] at h
    obtain ⟨rfl, _⟩ := h
    exact ⟨cu, hh⟩
/-- One more alternative at the k-th rule. -/
theorem rulesD_add {B : Nat} {w0 w1 w5 : World} {f f' : Nat → Value} {gr n vc k gg cap2 H : Nat} {RL : List Sp.Rule} {r : Sp.Rule} {a : Sp.Alt} {pv : Value}
    (ho : w0.ownsRow B 52 3 (.slice (some ⟨gr, 0, none⟩) n vc) n (RL.mapIdx fun i r => ruleC (f i) r).flatten) (hlen : RL.length = n)
    (hc : ∀ (i : Nat) (r : Sp.Rule), RL[i]? = some r → altsOwnB B w0 (f i) r) (hd : distR f RL.length) (hk : RL[k]? = some r)
    (ha1 : w0.ownsRow B 49 6 (f k) r.alts.length (r.alts.mapIdx fun i a => altC (f' i) a).flatten) (ha2 : ∀ (i : Nat) (a : Sp.Alt), r.alts[i]? = some a → partsOwn w0 (f' i) a)
    (hb : Below w0.heap.size w0 w1) (hp : partsOwn w1 pv a) (hg : w1.grownBy w5 (f k).ownBlock)
    (ho5 : w5.ownsRow B 49 6 (.slice (some ⟨gg, 0, none⟩) (r.alts.length + 1) cap2) (r.alts.length + 1) ((r.alts.mapIdx fun i a => altC (f' i) a).flatten ++ altC pv a))
    (hat : (f k).ownBlock = some gg ∨ gg = H) (hH : w0.heap.size ≤ H) :
    RulesD B (w5.setCell ⟨gr, k * 3 + 1, none⟩ (.slice (some ⟨gg, 0, none⟩) (r.alts.length + 1) cap2)) (.slice (some ⟨gr, 0, none⟩) n vc) (RL.set k ⟨r.left, r.alts ++ [a], r.at_⟩) := by
  have hkn := (List.getElem?_eq_some_iff.1 hk).1
  have hk5 : KpT (· ≠ 49) w1 w5 := KpT.grown (ownsRow_below ha1 hb) hg
  have hor : w5.ownsRow B 52 3 (.slice (some ⟨gr, 0, none⟩) n vc) n (RL.mapIdx fun i r => ruleC (f i) r).flatten := ownsRow_kpT (ownsRow_below ho hb) hk5 (by decide)
  obtain ⟨cu, hgb⟩ := row_block hor
  have hst := (hor.stored (k * 3 + 1) (.slice (some ⟨gg, 0, none⟩) (r.alts.length + 1) cap2)).1
  have hset : ∀ u, KpT (· ≠ 52) w5 (w5.setCell ⟨gr, k * 3 + 1, none⟩ u) := fun u => KpT.setCell (fun _ _ _ _ h _ => h) hgb (by simp) u
  refine OwnD.upd (f := f) (k := k) (off := 1) (a := r) (u' := .slice (some ⟨gg, 0, none⟩) (r.alts.length + 1) cap2) hd hk (by rw [hlen]; exact hst) (by decide) (fun _ _ => rfl) rfl ?_ ?_ ?_
  · intro i b hi hbi
    have hil := (List.getElem?_eq_some_iff.1 hbi).1
    have e1 : altsOwnB B w1 (f i) b := altsOwnB_kp (T := fun _ => True) (KpT.below hb) trivial trivial (hc i b hbi)
    exact altsOwnB_kp (hset _) (by decide) (by decide) (altsOwnB_ne e1 hg (fun c hc' => hd i k c hil hkn hi hc') hk5)
  · show OwnR _ _ _ _ _ _ _ _
    refine OwnR.snoc (u := pv) (w := w0) ha2 (ownsRow_setCell_ne ho5 hgb (by decide) _) (fun u a h => partsOwn_kp (hset _) (by decide) _ _ (partsOwn_kp hk5 (by decide) _ _ (partsOwn_kp (T := fun _ => True) (KpT.below hb) trivial _ _ h))) (partsOwn_kp (hset _) (by decide) _ _ (partsOwn_kp hk5 (by decide) _ _ hp))
  · intro c hc'
    simp only [Value.ownBlock, Option.some.injEq] at hc'
    subst hc'
    rcases hat with h | h
    · exact .inl h
    · right
      intro i hi hci
      have := ((altsOwnB_lt (hc i _ (List.getElem?_eq_getElem hi))) _ hci).2
      omega
set_option maxRecDepth 100000 in
set_option maxHeartbeats 12800000 in
theorem made_start (wm : World) (B0 g4 g5 nn : Nat) (pv : Value)
    (u0 u2 u7 u8 u9 u10 u11 u12 u13 u14 u15 u16 u17 u18 u19 u20 u21 u22 u23 u24 u25 u26 u27 u28 u29 u30 u31 u32 u33 u34 u35 u36 u37 u38 u39 u40 u41 u42 u43 u44 u45 u46 u47 u48 u49 u50 u51 u52 u53 u54 u55 u56 u57 u58 u59 u60 u61 u62 u63 u64 u65 u66 u67 u68 u69 u70 u71 u72 u73 u74 u75 u76 u77 u78 u79 u80 u81 u82 u83 u84 u85 u86 u87 u88 u89 u90 u91 u92 u93 u94 u95 u96 u97 u98 u99 u100 u101 u102 u103 u104 u105 u106 u107 u108 u109 u110 u111 u112 u113 u114 u115 u116 u117 u118 u119 u120 u121 u122 u123 u124 u125 u126 u127 u128 u129 u130 u131 u132 u133 u134 u135 u136 u137 u138 u139 u140 u141 u142 u143 u144 u145 u146 u147 u148 u149 u150 u151 u152 u153 u154 u155 u156 u157 u158 u159 u160 u161 u162 u163 u164 u165 u166 u167 u168 u169 u170 u171 u172 u173 u174 u175 u176 u177 u178 u179 u180 u181 u182 u183 u184 u185 u186 u187 u188 u189 u190 u191 u192 u193 u194 u195 u196 u197 u198 u199 u200 u201 u202 u203 u204 u205 u206 u207 u208 u209 u210 u211 u212 u213 u214 u215 u216 : Value) (K : Act → World → Prop) (Q : Exit → Act → World → Prop)
    (hn4 : nn ≤ 4) (hS : wm.heap[g4]? = some (.cells #[.string ⟨#[]⟩, pv, .slice none 0 0, .string ⟨#[]⟩] 29 (0, 0)))
    (hQ : ∀ c (t : Array Value) (a : Act) w, Q (.panic c) ⟨t, a.defers⟩ w → Q (.panic c) a w)
    (hK : ∀ (x6 x24 x25 x26 x27 x28 x29 x30 x31 x32 x33 x34 x35 x36 : Value) (wx : World) (qv : Value), wx.heap[g4]? = some (.cells #[.string ⟨#[]⟩, pv, qv, .string ⟨#[]⟩] 29 (0, 0)) → RulesD wm.heap.size wx qv (Sp.startRules nn) → Kp (fun b => b ≠ g4) wm wx → K ⟨#[u0, .pointer (some ⟨B0, 0, none⟩), u2, .int .i64 (nn : Int), .pointer (some ⟨g4, 0, none⟩), .slice (some ⟨g5, 0, none⟩) nn nn, x6, u7, u8, u9, u10, u11, u12, u13, u14, u15, u16, u17, u18, u19, u20, u21, u22, u23, x24, x25, x26, x27, x28, x29, x30, x31, x32, x33, x34, x35, x36, u37, u38, u39, u40, u41, u42, u43, u44, u45, u46, u47, u48, u49, u50, u51, u52, u53, u54, u55, u56, u57, u58, u59, u60, u61, u62, u63, u64, u65, u66, u67, u68, u69, u70, u71, u72, u73, u74, u75, u76, u77, u78, u79, u80, u81, u82, u83, u84, u85, u86, u87, u88, u89, u90, u91, u92, u93, u94, u95, u96, u97, u98, u99, u100, u101, u102, u103, u104, u105, u106, u107, u108, u109, u110, u111, u112, u113, u114, u115, u116, u117, u118, u119, u120, u121, u122, u123, u124, u125, u126, u127, u128, u129, u130, u131, u132, u133, u134, u135, u136, u137, u138, u139, u140, u141, u142, u143, u144, u145, u146, u147, u148, u149, u150, u151, u152, u153, u154, u155, u156, u157, u158, u159, u160, u161, u162, u163, u164, u165, u166, u167, u168, u169, u170, u171, u172, u173, u174, u175, u176, u177, u178, u179, u180, u181, u182, u183, u184, u185, u186, u187, u188, u189, u190, u191, u192, u193, u194, u195, u196, u197, u198, u199, u200, u201, u202, u203, u204, u205, u206, u207, u208, u209, u210, u211, u212, u213, u214, u215, u216], []⟩ wx) :
    Code.wp Tryd.prog (madeBlk 0) (Exit.then K Q) ⟨#[u0, .pointer (some ⟨B0, 0, none⟩), u2, .int .i64 (nn : Int), .pointer (some ⟨g4, 0, none⟩), .slice (some ⟨g5, 0, none⟩) nn nn, .int .i64 0, u7, u8, u9, u10, u11, u12, u13, u14, u15, u16, u17, u18, u19, u20, u21, u22, u23, u24, u25, u26, u27, u28, u29, u30, u31, u32, u33, u34, u35, u36, u37, u38, u39, u40, u41, u42, u43, u44, u45, u46, u47, u48, u49, u50, u51, u52, u53, u54, u55, u56, u57, u58, u59, u60, u61, u62, u63, u64, u65, u66, u67, u68, u69, u70, u71, u72, u73, u74, u75, u76, u77, u78, u79, u80, u81, u82, u83, u84, u85, u86, u87, u88, u89, u90, u91, u92, u93, u94, u95, u96, u97, u98, u99, u100, u101, u102, u103, u104, u105, u106, u107, u108, u109, u110, u111, u112, u113, u114, u115, u116, u117, u118, u119, u120, u121, u122, u123, u124, u125, u126, u127, u128, u129, u130, u131, u132, u133, u134, u135, u136, u137, u138, u139, u140, u141, u142, u143, u144, u145, u146, u147, u148, u149, u150, u151, u152, u153, u154, u155, u156, u157, u158, u159, u160, u161, u162, u163, u164, u165, u166, u167, u168, u169, u170, u171, u172, u173, u174, u175, u176, u177, u178, u179, u180, u181, u182, u183, u184, u185, u186, u187, u188, u189, u190, u191, u192, u193, u194, u195, u196, u197, u198, u199, u200, u201, u202, u203, u204, u205, u206, u207, u208, u209, u210, u211, u212, u213, u214, u215, u216], []⟩ wm := by
  obtain ⟨ir0, hir0, hrz0, hrz1, hrz2⟩ := info_parts info_ruleE
  have HS0 := Lib.hid hS
  have HKK := Lib.hid hK
  have hM : ∀ a w, Met K a w → K a w := fun _ _ h => h
  have hg4 := lt_at hS
  clear hS hK
  conv => arg 2; whnf
  go_wp2_with fail
  go_loopg [6] nn (fun g iv wr => ∃ (k : Nat) (qv : Value), k ≤ nn ∧ g = nn - k ∧ iv = .int .i64 k ∧ wr.heap[g4]? = some (.cells #[.string ⟨#[]⟩, pv, qv, .string ⟨#[]⟩] 29 (0, 0)) ∧ RulesD wm.heap.size wr qv (Sp.startRules k) ∧ Kp (fun b => b ≠ g4) wm wr)
  case atStart => exact ⟨0, .slice none 0 0, Nat.zero_le _, rfl, rfl, HS0.out, OwnD.nil _ _ _ _ _ _, Kp.refl _ _⟩
  case round =>
    obtain ⟨k, qv, hk, rfl, rfl, hS, ⟨f, h1, h2, h3⟩, hkp⟩ := hrel
    have hsl : (Sp.startRules k).length = k := by unfold Sp.startRules; simp
    rw [hsl] at h1 h3
    obtain ⟨va, vc, rfl⟩ := ownsRowS_some h1
    have HS := Lib.hid hS; have HO := Lib.hid h1; have HC := Lib.hid h2; have HD := Lib.hid h3; have HKP := Lib.hid hkp; have HSL := Lib.hid hsl
    have e0 := cell_at (i := 2) hS; have e1 := frozen_at (i := 2) hS
    have hlg := lt_at hS
    have hszr : wm.heap.size ≤ wr.heap.size := hkp.size
    have hk0 : (0 : Int) ≤ (k : Int) := Int.natCast_nonneg _
    clear hS h1 h2 h3 hkp hsl
    by_cases hkn : k < nn
    · have hk1 : (k : Int) < (nn : Int) := by omega
      have HNO := Lib.hid (fun w => made_non (k : Int) w (by omega) (by omega))
      have HKS := Lib.hid (fun (w' : World) (h : Below wr.heap.size wr w') => (show (w'.cell? ⟨g4, 2, none⟩ = some (.slice va k vc) ∧ w'.frozen? ⟨g4, 2, none⟩ = false) from ⟨cell_at (i := 2) ((h.block g4 hlg).trans HS.out), frozen_at (i := 2) ((h.block g4 hlg).trans HS.out)⟩))
      have HOW := Lib.hid (fun (w' : World) (h : Below wr.heap.size wr w') => ownsRow_below HO.out h)
      clear e0 e1
      go_upto_region 7 with fail
      refine wp_region_plan (fun w' : World => (w'.cell? ⟨g4, 2, none⟩ = some (.slice va k vc) ∧ w'.frozen? ⟨g4, 2, none⟩ = false)) [8] (.take 0 (.take 1 (.take 2 (.one 3 (.take 4 (.one 5 (.one 6 (.one 7 (.one 8 (.done)))))))))) (by kernel_rfl) (by kernel_rfl) (fun c t a w h => hQ c t a w h) ?_
      have hSw := HKS.out _ (below_drewN (Below.refl _ _) 1)
      refine wpPlan_take (v := ?vp1) rfl hSw (by rfl) ?yp1 ?_
      case yp1 => (intro w hSx; (try dsimp only at hSx); go_simp; first | done | with_reducible rfl | rfl)
      (try simp only [Act.put, List.setIfInBounds_toArray, List.set_cons_zero, List.set_cons_succ])
      refine wpPlan_take (v := ?vp2) rfl hSw (by rfl) ?yp2 ?_
      case yp2 => (intro w hSx; (try dsimp only at hSx); go_simp; first | done | with_reducible rfl | rfl)
      (try simp only [Act.put, List.setIfInBounds_toArray, List.set_cons_zero, List.set_cons_succ])
      refine wpPlan_take (v := ?vp3) rfl hSw (by rfl) ?yp3 ?_
      case yp3 => (intro w hSx; (try dsimp only at hSx); go_simp; first | done | with_reducible rfl | rfl)
      (try simp only [Act.put, List.setIfInBounds_toArray, List.set_cons_zero, List.set_cons_succ])
      refine wpPlan_run rfl (by rfl) (fun K' hK => ?_)
      (go_simp; go_at_call 36; refine (HNO.out _).mono ?_; rintro e w' ⟨rfl, hb'⟩; have hlw : wr.heap.size ≤ w'.heap.size := hb'.size)
      refine hK _ _ (.inr ?_) ?_
      · exact HKS.out _ (below_undrew hb')
      clear hK K' hSw
      have hSw := HKS.out _ (below_undrew hb')
      (try simp only [Act.put, List.setIfInBounds_toArray, List.set_cons_zero, List.set_cons_succ])
      refine wpPlan_take (v := ?vp4) rfl hSw (by rfl) ?yp4 ?_
      case yp4 => (intro w hSx; (try dsimp only at hSx); go_simp; first | done | with_reducible rfl | rfl)
      (try simp only [Act.put, List.setIfInBounds_toArray, List.set_cons_zero, List.set_cons_succ])
      refine wpPlan_run rfl (by rfl) (fun K' hK => ?_)
      go_simp
      refine hK _ _ (.inr ?_) ?_
      · exact HKS.out _ ((below_undrew hb').alloc hlw _)
      clear hK K' hSw
      (try simp only [Act.put, List.setIfInBounds_toArray, List.set_cons_zero, List.set_cons_succ])
      refine wpPlan_run rfl (by rfl) (fun K' hK => ?_)
      (refine wp_append_lies _ _ _ _ (by rfl) wm.heap.size 52 ir0 _ 3 48 Tryd.underlying27 hir0 hrz0 hrz1 hrz2 rfl (by omega) _ _ _ (by rfl) ((HOW.out w' (below_undrew hb')).alloc _) ⟨w'.heap.size, 0, none⟩ 1 1 (ruleC (.slice none 0 0) ⟨Sp.nonN (k : Int), [], 0⟩) (by rfl) (by rfl) (World.news_of_block (cs := (ruleC (.slice none 0 0) ⟨Sp.nonN (k : Int), [], 0⟩).toArray) (t := 52) (fr := (0, 0)) (heap_alloc_new w' _)) (by simp [Value.oneCell', ruleC]) (by omega) (by unfold maxLen; omega) (by omega) (by simp only [World.size_alloc]; omega) (w'.heap.size + 1) (by simp) ?_; intro gg cap2 w5 hown1 hgrow hat hlt; have hB5 : Below wm.heap.size wr w5 := (((below_undrew hb').mono hszr).alloc (by omega) _).grown hgrow (by simp only [World.size_alloc]; omega) (fun g' hg' => (HO.out.lt g' hg').1); have hS5 := (hB5.block g4 hg4).trans HS.out; have v0 := cell_at (i := 2) hS5; have v1 := frozen_at (i := 2) hS5; have hlg5 := lt_at hS5)
      refine hK _ _ (.inr ?_) ?_
      · exact ⟨v0, v1⟩
      clear hK K'
      (try simp only [Act.put, List.setIfInBounds_toArray, List.set_cons_zero, List.set_cons_succ])
      refine wpPlan_run rfl (by rfl) (fun K' hK => ?_)
      go_simp
      refine hK _ _ (.inr ?_) ?_
      · exact ⟨v0, v1⟩
      clear hK K'
      (try simp only [Act.put, List.setIfInBounds_toArray, List.set_cons_zero, List.set_cons_succ])
      refine wpPlan_run rfl (by rfl) (fun K' hK => ?_)
      go_simp
      refine hK _ _ (.inl rfl) ?_
      clear hK K'
      (try simp only [Act.put, List.setIfInBounds_toArray, List.set_cons_zero, List.set_cons_succ])
      refine wpPlan_done ?_
      have HB5 := Lib.hid hB5; have HG := Lib.hid hgrow; have HS5 := Lib.hid hS5; have HO1 := Lib.hid hown1
      have HBW := Lib.hid (((below_undrew hb').alloc hlw _ : Below wr.heap.size wr (w'.alloc (.cells (ruleC (.slice none 0 0) ⟨Sp.nonN (k : Int), [], 0⟩).toArray 52))))
      clear hB5 hgrow hS5 hown1 hat hb'
      go_wp2_with fail
      go_roundg (nn - (k + 1))
      case measure => omega
      case rel =>
        have hkr : KpT (· ≠ 52) wr w5 := (KpT.below HBW.out).trans (KpT.grown (HOW.out _ HBW.out) HG.out)
        have hset : KpT (· ≠ 29) w5 (w5.setCell ⟨g4, 2, none⟩ (.slice (some ⟨gg, 0, none⟩) (k + 1) cap2)) := KpT.setCell (fun _ _ _ _ h _ => h) HS5.out (by simp) _
        refine ⟨k + 1, _, by omega, rfl, by go_num, heap_setCell_at HS5.out, ?_, (kp_below HKP.out HB5.out).setCell (p := ⟨g4, 2, none⟩) (by simp) _⟩
        · rw [show Sp.startRules (k + 1) = Sp.startRules k ++ [⟨Sp.nonN (k : Int), [], 0⟩] by unfold Sp.startRules; rw [List.range_succ, List.map_append]; rfl]
          refine OwnD.snoc (u := .slice none 0 0) (by rw [HSL.out]; exact HD.out) HC.out (by rw [HSL.out]; exact ownsRow_setCell_ne HO1.out HS5.out (by decide) _) (fun u a h => altsOwnB_kp hset (by decide) (by decide) (altsOwnB_kp hkr (by decide) (by decide) h)) (OwnR.nil _ _ _ _ _ _) (fun i c hi hc e => by simp [Value.ownBlock] at e)
    · obtain rfl : k = nn := by omega
      go_wp2_with fail
      exact (HKK.out _ _ _ _ _ _ _ _ _ _ _ _ _ _ _ (.slice va k vc) HS.out ⟨f, by rw [HSL.out]; exact HO.out, HC.out, by rw [HSL.out]; exact HD.out⟩ HKP.out : K _ _)
set_option maxRecDepth 100000 in
set_option maxHeartbeats 12800000 in
theorem made_fill (wm : World) (B0 g4 g5 gr nn vc B Bd : Nat) (pv : Value) (DL : List Sp.Decl) (RL : List Sp.Rule) (has : List Bool) (bare : Bool)
    (u0 u2 u6 u7 u8 u9 u10 u11 u12 u14 u15 u16 u17 u18 u19 u20 u21 u22 u23 u24 u25 u26 u27 u28 u29 u30 u31 u32 u33 u34 u35 u36 u37 u38 u39 u40 u41 u42 u43 u44 u45 u46 u47 u48 u49 u50 u51 u52 u53 u54 u55 u56 u57 u58 u59 u60 u61 u62 u63 u64 u65 u66 u67 u68 u69 u70 u71 u72 u73 u74 u75 u76 u77 u78 u79 u80 u81 u82 u83 u84 u85 u86 u87 u88 u89 u90 u91 u92 u93 u94 u95 u96 u97 u98 u99 u100 u101 u102 u103 u104 u105 u106 u107 u108 u109 u110 u111 u112 u113 u114 u115 u116 u117 u118 u119 u120 u121 u122 u123 u124 u125 u126 u127 u128 u129 u130 u131 u132 u133 u134 u135 u136 u137 u138 u139 u140 u141 u142 u143 u144 u145 u146 u147 u148 u149 u150 u151 u152 u153 u154 u155 u156 u157 u158 u159 u160 u161 u162 u163 u164 u165 u166 u167 u168 u169 u170 u171 u172 u173 u174 u175 u176 u177 u178 u179 u180 u181 u182 u183 u184 u185 u186 u187 u188 u189 u190 u191 u192 u193 u194 u195 u196 u197 u198 u199 u200 u201 u202 u203 u204 u205 u206 u207 u208 u209 u210 u211 u212 u213 u214 u215 u216 : Value) (K : Act → World → Prop) (Q : Exit → Act → World → Prop)
    (hn4 : nn ≤ 4) (hS : wm.heap[g4]? = some (.cells #[.string ⟨#[]⟩, pv, (.slice (some ⟨gr, 0, none⟩) nn vc), .string ⟨#[]⟩] 29 (0, 0))) (hdd : DeclsD Bd wm pv DL) (hr : RulesD B wm (.slice (some ⟨gr, 0, none⟩) nn vc) RL) (hrl : RL.length = nn) (hhl : has.length = nn) (hsm : ∀ r ∈ RL, r.alts.length ≤ 1000)
    (hH : wm.heap[g5]? = some (.cells (has.map Value.bool).toArray 4 (0, 0))) (hg4B : g4 < B) (hg5B : g5 < B) (hB0 : B0 < B) (hBm : B ≤ wm.heap.size)
    (hx : ∀ w', Below B wm w' → w'.cell? ⟨B0, 4, none⟩ = some (.bool bare))
    (hQ : ∀ c (t : Array Value) (a : Act) w, Q (.panic c) ⟨t, a.defers⟩ w → Q (.panic c) a w)
    (hK : ∀ (x13 x173 x174 x175 x176 x177 x178 x179 x180 x181 x182 x183 x184 x185 x186 x187 x188 x189 x190 x191 x192 x193 x194 x195 x196 x197 x198 x199 x200 x201 x202 x203 x204 x205 x206 x207 x208 x209 x210 x211 x212 x213 x214 x215 : Value) (wx : World) , wx.heap[g4]? = some (.cells #[.string ⟨#[]⟩, pv, (.slice (some ⟨gr, 0, none⟩) nn vc), .string ⟨#[]⟩] 29 (0, 0)) → DeclsD Bd wx pv DL → RulesD B wx (.slice (some ⟨gr, 0, none⟩) nn vc) (Sp.fillGo bare 0 RL has) → Below B wm wx → K ⟨#[u0, .pointer (some ⟨B0, 0, none⟩), u2, .int .i64 (nn : Int), .pointer (some ⟨g4, 0, none⟩), .slice (some ⟨g5, 0, none⟩) nn nn, u6, u7, u8, u9, u10, u11, u12, x13, u14, u15, u16, u17, u18, u19, u20, u21, u22, u23, u24, u25, u26, u27, u28, u29, u30, u31, u32, u33, u34, u35, u36, u37, u38, u39, u40, u41, u42, u43, u44, u45, u46, u47, u48, u49, u50, u51, u52, u53, u54, u55, u56, u57, u58, u59, u60, u61, u62, u63, u64, u65, u66, u67, u68, u69, u70, u71, u72, u73, u74, u75, u76, u77, u78, u79, u80, u81, u82, u83, u84, u85, u86, u87, u88, u89, u90, u91, u92, u93, u94, u95, u96, u97, u98, u99, u100, u101, u102, u103, u104, u105, u106, u107, u108, u109, u110, u111, u112, u113, u114, u115, u116, u117, u118, u119, u120, u121, u122, u123, u124, u125, u126, u127, u128, u129, u130, u131, u132, u133, u134, u135, u136, u137, u138, u139, u140, u141, u142, u143, u144, u145, u146, u147, u148, u149, u150, u151, u152, u153, u154, u155, u156, u157, u158, u159, u160, u161, u162, u163, u164, u165, u166, u167, u168, u169, u170, u171, u172, x173, x174, x175, x176, x177, x178, x179, x180, x181, x182, x183, x184, x185, x186, x187, x188, x189, x190, x191, x192, x193, x194, x195, x196, x197, x198, x199, x200, x201, x202, x203, x204, x205, x206, x207, x208, x209, x210, x211, x212, x213, x214, x215, u216], []⟩ wx) :
    Code.wp Tryd.prog (madeBlk 6) (Exit.then K Q) ⟨#[u0, .pointer (some ⟨B0, 0, none⟩), u2, .int .i64 (nn : Int), .pointer (some ⟨g4, 0, none⟩), .slice (some ⟨g5, 0, none⟩) nn nn, u6, u7, u8, u9, u10, u11, u12, .int .i64 0, u14, u15, u16, u17, u18, u19, u20, u21, u22, u23, u24, u25, u26, u27, u28, u29, u30, u31, u32, u33, u34, u35, u36, u37, u38, u39, u40, u41, u42, u43, u44, u45, u46, u47, u48, u49, u50, u51, u52, u53, u54, u55, u56, u57, u58, u59, u60, u61, u62, u63, u64, u65, u66, u67, u68, u69, u70, u71, u72, u73, u74, u75, u76, u77, u78, u79, u80, u81, u82, u83, u84, u85, u86, u87, u88, u89, u90, u91, u92, u93, u94, u95, u96, u97, u98, u99, u100, u101, u102, u103, u104, u105, u106, u107, u108, u109, u110, u111, u112, u113, u114, u115, u116, u117, u118, u119, u120, u121, u122, u123, u124, u125, u126, u127, u128, u129, u130, u131, u132, u133, u134, u135, u136, u137, u138, u139, u140, u141, u142, u143, u144, u145, u146, u147, u148, u149, u150, u151, u152, u153, u154, u155, u156, u157, u158, u159, u160, u161, u162, u163, u164, u165, u166, u167, u168, u169, u170, u171, u172, u173, u174, u175, u176, u177, u178, u179, u180, u181, u182, u183, u184, u185, u186, u187, u188, u189, u190, u191, u192, u193, u194, u195, u196, u197, u198, u199, u200, u201, u202, u203, u204, u205, u206, u207, u208, u209, u210, u211, u212, u213, u214, u215, u216], []⟩ wm := by
  obtain ⟨ia0, hia0, haz0, haz1, haz2⟩ := info_parts info_altE
  generalize hF : Sp.fillGo bare 0 RL has = F at *
  have HS0 := Lib.hid hS; have HDD0 := Lib.hid hdd; have HR0 := Lib.hid hr; have HH := Lib.hid hH; have HX := Lib.hid hx; have HF := Lib.hid hF; have HSM := Lib.hid hsm; have HRL := Lib.hid hrl; have HHL := Lib.hid hhl
  have HKK := Lib.hid hK
  have hM : ∀ a w, Met K a w → K a w := fun _ _ h => h
  clear hS hK hdd hr hH hx hF hsm hrl hhl
  conv => arg 2; whnf
  go_wp2_with fail
  go_loopg [13] nn (fun g iv wr => ∃ (k : Nat) (RC : List Sp.Rule), k ≤ nn ∧ g = nn - k ∧ iv = .int .i64 k ∧ wr.heap[g4]? = some (.cells #[.string ⟨#[]⟩, pv, (.slice (some ⟨gr, 0, none⟩) nn vc), .string ⟨#[]⟩] 29 (0, 0)) ∧ DeclsD Bd wr pv DL ∧ RulesD B wr (.slice (some ⟨gr, 0, none⟩) nn vc) RC ∧ RC.length = nn ∧ (∀ i, k ≤ i → RC[i]? = RL[i]?) ∧ RC.take k ++ Sp.fillGo bare k (RL.drop k) (has.drop k) = F ∧ Below B wm wr)
  case atStart => exact ⟨0, RL, Nat.zero_le _, rfl, rfl, HS0.out, HDD0.out, HR0.out, HRL.out, fun _ _ => rfl, by rw [List.take_zero, List.nil_append, List.drop_zero, List.drop_zero]; exact HF.out, Below.refl _ _⟩
  case round =>
    obtain ⟨k, RC, hk, rfl, rfl, hS, hdd, ⟨f, h1, h2, h3⟩, hlen, hsame, hF, hbel⟩ := hrel
    rw [hlen] at h1
    have HS := Lib.hid hS; have HO := Lib.hid h1; have HC := Lib.hid h2; have HD := Lib.hid h3; have HB := Lib.hid hbel; have HDD := Lib.hid hdd; have HLEN := Lib.hid hlen; have HSAME := Lib.hid hsame; have HF2 := Lib.hid hF
    have e0 := cell_at (i := 2) hS
    have hlg := lt_at hS
    have hszr : wm.heap.size ≤ wr.heap.size := hbel.size
    have hk0 : (0 : Int) ≤ (k : Int) := Int.natCast_nonneg _
    have x4 := HX.out _ hbel
    have hh5 := (hbel.block g5 hg5B).trans HH.out
    have hlr : gr < wr.heap.size := (h1.lt gr rfl).2
    have hlg5 := lt_at hh5
    have hlB0 : B0 < wr.heap.size := by omega
    have HH5 := Lib.hid hh5
    clear hS h1 h2 h3 hbel hdd hlen hsame hF hh5
    by_cases hkn : k < nn
    · have hk1 : (k : Int) < (nn : Int) := by omega
      have hkl : k < RL.length := by have := HRL.out; omega
      have hrk : RC[k]? = some RL[k] := by rw [HSAME.out k (Nat.le_refl _)]; exact List.getElem?_eq_getElem hkl
      have hkh : k < has.length := by have := HHL.out; omega
      have hhk : has[k]? = some has[k] := List.getElem?_eq_getElem hkh
      have hd1 : RL.drop k = RL[k] :: RL.drop (k + 1) := List.drop_eq_getElem_cons hkl
      have hd2 : has.drop k = has[k] :: has.drop (k + 1) := List.drop_eq_getElem_cons hkh
      have hsmk := HSM.out _ (List.getElem_mem hkl)
      have hF := HF2.out
      rw [hd1, hd2] at hF
      unfold Sp.fillGo at hF
      simp only [List.headD_cons, List.tail_cons] at hF
      generalize RL[k] = r at *
      generalize has[k] = hb at *
      have c5 : wr.cell? ⟨g5, k, none⟩ = some (.bool hb) := by
        have := HH5.out
        simp only [World.cell?, this, bind, Option.bind]
        simp [hhk]
      obtain ⟨f', ha1, ha2⟩ := HC.out k r hrk
      obtain ⟨ua, uc, hfm⟩ := ownsRowS_some ha1
      have HFM := Lib.hid hfm; have HA1 := Lib.hid ha1; have HA2 := Lib.hid ha2; have HRK := Lib.hid hrk
      have hc1 := rules_cell HO.out hrk hkn
      rw [hfm] at hc1 ha1
      obtain ⟨c1, c2⟩ := hc1
      have HCC := Lib.hid (And.intro c1 c2)
      generalize hus : r.alts.length = us at *
      have HUS := Lib.hid hus
      have HF3 := Lib.hid hF
      have hli := fun w => made_lit (k : Int) w (by omega) (by omega)
      generalize Sp.litS (k : Int) = LS at *
      obtain ⟨sn, sl, su, sa⟩ := LS
      have HLI := Lib.hid (fun w => (show Calls Tryd.prog 38 #[.int .i64 (k : Int)] w (fun e w' => e = .returned (.agg #[.string ⟨sn.toArray⟩, .bool sl, .int .i64 su, .int .i64 sa]) ∧ Below w.heap.size w w') from hli w))
      have HKS := Lib.hid (fun (w' : World) (h : Below wr.heap.size wr w') => (show (w'.cell? ⟨g4, 2, none⟩ = some (.slice (some ⟨gr, 0, none⟩) nn vc) ∧ w'.cell? ⟨gr, k * 3 + 1, none⟩ = some (.slice ua us uc) ∧ w'.frozen? ⟨gr, k * 3 + 1, none⟩ = false) from ⟨cell_at (i := 2) ((h.block g4 hlg).trans HS.out), by rw [h.cell (p := ⟨gr, _, none⟩) hlr]; exact HCC.out.1, by rw [World.frozen?_of_block (h.block gr hlr)]; exact HCC.out.2⟩))
      have HOW := Lib.hid (fun (w' : World) (h : Below wr.heap.size wr w') => ownsRow_below ha1 h)
      clear hd1 hd2 hhk hkh hkl hli hF ha1 ha2 hfm hrk hus c2
      go_upto_region 30 with fail
      go_cut [197] from 173 to 215 (fun v197 wx => v197 = .bool (decide (us = 0) || (!hb && !bare)) ∧ wr = wx)
      case first =>
        by_cases hus : us = 0
        · subst hus
          go_wp2_with fail
          go_meet
          exact ⟨rfl, rfl⟩
        · have hud : decide (us = 0) = false := by rw [decide_eq_false_iff_not]; exact hus
          have hui : ¬ (us : Int) = 0 := by omega
          have hub : (us == 0) = false := by rw [beq_eq_false_iff_ne]; exact hus
          have huib : ((us : Int) == 0) = false := by rw [beq_eq_false_iff_ne]; exact hui
          cases hb with
          | true =>
            go_wp2_with fail
            go_meet
            exact ⟨by rw [hud]; rfl, rfl⟩
          | false =>
            cases bare with
            | true =>
              go_wp2_with fail
              go_meet
              exact ⟨by rw [hud]; rfl, rfl⟩
            | false =>
              go_wp2_with fail
              go_meet
              exact ⟨by rw [hud]; rfl, rfl⟩
      case rest =>
        obtain ⟨rfl, rfl⟩ := hcut
        cases hcv : (decide (us = 0) || (!hb && !bare)) with
        | false =>
          go_wp2_with fail
          go_roundg (nn - (k + 1))
          case measure => omega
          case rel =>
            refine ⟨k + 1, RC, by omega, rfl, by go_num, HS.out, HDD.out, ⟨f, by rw [HLEN.out]; exact HO.out, HC.out, HD.out⟩, HLEN.out, fun i hi => HSAME.out i (by omega), ?_, HB.out⟩
            have h := HF3.out
            have hng : ¬ (us = 0 ∨ hb = false ∧ bare = false) := by
              rw [Bool.or_eq_false_iff, decide_eq_false_iff_not] at hcv
              rintro (h1 | ⟨h1, h2⟩)
              · exact hcv.1 h1
              · have := hcv.2
                rw [h1, h2] at this
                cases this
            have h0 : RC.take k ++ (if us = 0 ∨ hb = false ∧ bare = false then ⟨r.left, r.alts ++ [⟨[⟨⟨sn, sl, su, sa⟩, [], 0⟩], Sp.noSym, 0⟩], r.at_⟩ else r) :: Sp.fillGo bare (k + 1) (RL.drop (k + 1)) (has.drop (k + 1)) = F := HF3.out
            have h := h0
            rw [if_neg hng] at h
            rw [List.take_add_one, HRK.out, ← h]; simp
        | true =>
          go_upto_region 31 with fail
          refine wp_region_plan (fun w' : World => (w'.cell? ⟨g4, 2, none⟩ = some (.slice (some ⟨gr, 0, none⟩) nn vc) ∧ w'.cell? ⟨gr, k * 3 + 1, none⟩ = some (.slice ua us uc) ∧ w'.frozen? ⟨gr, k * 3 + 1, none⟩ = false)) [18] (.take 0 (.take 1 (.take 2 (.take 3 (.take 4 (.take 5 (.take 6 (.take 7 (.take 8 (.take 9 (.one 10 (.take 11 (.one 12 (.take 13 (.one 14 (.one 15 (.one 16 (.one 17 (.one 18 (.done)))))))))))))))))))) (by kernel_rfl) (by kernel_rfl) (fun c t a w h => hQ c t a w h) ?_
          have hSw := HKS.out _ (below_drewN (Below.refl _ _) 1)
          refine wpPlan_take (v := ?vp5) rfl hSw (by rfl) ?yp5 ?_
          case yp5 => (intro w hSx; (try dsimp only at hSx); go_simp; first | done | with_reducible rfl | rfl)
          (try simp only [Act.put, List.setIfInBounds_toArray, List.set_cons_zero, List.set_cons_succ])
          refine wpPlan_take (v := ?vp6) rfl hSw (by rfl) ?yp6 ?_
          case yp6 => (intro w hSx; (try dsimp only at hSx); go_simp; first | done | with_reducible rfl | rfl)
          (try simp only [Act.put, List.setIfInBounds_toArray, List.set_cons_zero, List.set_cons_succ])
          refine wpPlan_take (v := ?vp7) rfl hSw (by rfl) ?yp7 ?_
          case yp7 => (intro w hSx; (try dsimp only at hSx); go_simp; first | done | with_reducible rfl | rfl)
          (try simp only [Act.put, List.setIfInBounds_toArray, List.set_cons_zero, List.set_cons_succ])
          refine wpPlan_take (v := ?vp8) rfl hSw (by rfl) ?yp8 ?_
          case yp8 => (intro w hSx; (try dsimp only at hSx); go_simp; first | done | with_reducible rfl | rfl)
          (try simp only [Act.put, List.setIfInBounds_toArray, List.set_cons_zero, List.set_cons_succ])
          refine wpPlan_take (v := ?vp9) rfl hSw (by rfl) ?yp9 ?_
          case yp9 => (intro w hSx; (try dsimp only at hSx); go_simp; first | done | with_reducible rfl | rfl)
          (try simp only [Act.put, List.setIfInBounds_toArray, List.set_cons_zero, List.set_cons_succ])
          refine wpPlan_take (v := ?vp10) rfl hSw (by rfl) ?yp10 ?_
          case yp10 => (intro w hSx; (try dsimp only at hSx); go_simp; first | done | with_reducible rfl | rfl)
          (try simp only [Act.put, List.setIfInBounds_toArray, List.set_cons_zero, List.set_cons_succ])
          refine wpPlan_take (v := ?vp11) rfl hSw (by rfl) ?yp11 ?_
          case yp11 => (intro w hSx; (try dsimp only at hSx); go_simp; first | done | with_reducible rfl | rfl)
          (try simp only [Act.put, List.setIfInBounds_toArray, List.set_cons_zero, List.set_cons_succ])
          refine wpPlan_take (v := ?vp12) rfl hSw (by rfl) ?yp12 ?_
          case yp12 => (intro w hSx; (try dsimp only at hSx); go_simp; first | done | with_reducible rfl | rfl)
          (try simp only [Act.put, List.setIfInBounds_toArray, List.set_cons_zero, List.set_cons_succ])
          refine wpPlan_take (v := ?vp13) rfl hSw (by rfl) ?yp13 ?_
          case yp13 => (intro w hSx; (try dsimp only at hSx); go_simp; first | done | with_reducible rfl | rfl)
          (try simp only [Act.put, List.setIfInBounds_toArray, List.set_cons_zero, List.set_cons_succ])
          refine wpPlan_take (v := ?vp14) rfl hSw (by rfl) ?yp14 ?_
          case yp14 => (intro w hSx; (try dsimp only at hSx); go_simp; first | done | with_reducible rfl | rfl)
          (try simp only [Act.put, List.setIfInBounds_toArray, List.set_cons_zero, List.set_cons_succ])
          refine wpPlan_run rfl (by rfl) (fun K' hK => ?_)
          (go_simp; go_at_call 38; refine (HLI.out _).mono ?_; rintro e w' ⟨rfl, hb'⟩; have hlw : wr.heap.size ≤ w'.heap.size := hb'.size; have hb2 : Below wr.heap.size wr w' := below_undrew hb'; clear hb')
          refine hK _ _ (.inr ?_) ?_
          · exact HKS.out _ hb2
          clear hK K' hSw
          have hSw := HKS.out _ hb2
          (try simp only [Act.put, List.setIfInBounds_toArray, List.set_cons_zero, List.set_cons_succ])
          refine wpPlan_take (v := ?vp15) rfl hSw (by rfl) ?yp15 ?_
          case yp15 => (intro w hSx; (try dsimp only at hSx); go_simp; first | done | with_reducible rfl | rfl)
          (try simp only [Act.put, List.setIfInBounds_toArray, List.set_cons_zero, List.set_cons_succ])
          refine wpPlan_run rfl (by rfl) (fun K' hK => ?_)
          go_simp
          refine hK _ _ (.inr ?_) ?_
          · exact HKS.out _ (hb2.alloc hlw (.cells (partC ⟨⟨sn, sl, su, sa⟩, [], 0⟩).toArray 46))
          clear hK K' hSw
          have hSw := HKS.out _ (hb2.alloc hlw (.cells (partC ⟨⟨sn, sl, su, sa⟩, [], 0⟩).toArray 46))
          (try simp only [Act.put, List.setIfInBounds_toArray, List.set_cons_zero, List.set_cons_succ])
          refine wpPlan_take (v := ?vp16) rfl hSw (by rfl) ?yp16 ?_
          case yp16 => (intro w hSx; (try dsimp only at hSx); go_simp; first | done | with_reducible rfl | rfl)
          (try simp only [Act.put, List.setIfInBounds_toArray, List.set_cons_zero, List.set_cons_succ])
          refine wpPlan_run rfl (by rfl) (fun K' hK => ?_)
          go_simp
          refine hK _ _ (.inr ?_) ?_
          · exact HKS.out _ ((hb2.alloc hlw _).alloc (by simp only [World.size_alloc]; omega) _)
          clear hK K' hSw
          (try simp only [Act.put, List.setIfInBounds_toArray, List.set_cons_zero, List.set_cons_succ])
          refine wpPlan_run rfl (by rfl) (fun K' hK => ?_)
          (refine wp_append_lies _ _ _ _ (by rfl) B 49 ia0 _ 6 72 Tryd.underlying50 hia0 haz0 haz1 haz2 rfl (by omega) _ _ _ (by rfl) (((HOW.out w' hb2).alloc _).alloc _) ⟨w'.heap.size + 1, 0, none⟩ 1 1 (altC (.slice (some ⟨w'.heap.size, 0, none⟩) 1 1) ⟨[⟨⟨sn, sl, su, sa⟩, [], 0⟩], Sp.noSym, 0⟩) (by rfl) (by rfl) (World.news_of_block (cs := (altC (.slice (some ⟨w'.heap.size, 0, none⟩) 1 1) ⟨[⟨⟨sn, sl, su, sa⟩, [], 0⟩], Sp.noSym, 0⟩).toArray) (t := 49) (fr := (0, 0)) (heap_sec w' _ _)) (by simp [Value.oneCell', altC, symC, Sp.noSym]) (by omega) (by unfold maxLen; omega) (by omega) (by simp only [World.size_alloc]; omega) (w'.heap.size + 2) (by simp) ?_; intro gg cap2 w5 hown1 hgrow hat hlt; have hk5 : KpT (· ≠ 49) wr w5 := (KpT.below (((hb2.alloc hlw _).alloc (by simp only [World.size_alloc]; omega) _))).trans (KpT.grown (((HOW.out w' hb2).alloc _).alloc _) hgrow); have hS5 := hk5 g4 _ _ _ HS.out (by decide); have v0 := cell_at (i := 2) hS5; have hr5 := ownsRow_kpT HO.out hk5 (by decide); have v1 := rules_cell hr5 HRK.out (by omega); rw [HFM.out] at v1; have hlr5 : gr < w5.heap.size := (hr5.lt gr rfl).2; have hlg5 := lt_at hS5)
          refine hK _ _ (.inr ?_) ?_
          · exact ⟨v0, v1⟩
          clear hK K'
          (try simp only [Act.put, List.setIfInBounds_toArray, List.set_cons_zero, List.set_cons_succ])
          refine wpPlan_run rfl (by rfl) (fun K' hK => ?_)
          go_simp
          refine hK _ _ (.inr ?_) ?_
          · exact ⟨v0, v1⟩
          clear hK K'
          (try simp only [Act.put, List.setIfInBounds_toArray, List.set_cons_zero, List.set_cons_succ])
          refine wpPlan_run rfl (by rfl) (fun K' hK => ?_)
          go_simp
          refine hK _ _ (.inr ?_) ?_
          · exact ⟨v0, v1⟩
          clear hK K'
          (try simp only [Act.put, List.setIfInBounds_toArray, List.set_cons_zero, List.set_cons_succ])
          refine wpPlan_run rfl (by rfl) (fun K' hK => ?_)
          go_simp
          refine hK _ _ (.inl rfl) ?_
          clear hK K'
          (try simp only [Act.put, List.setIfInBounds_toArray, List.set_cons_zero, List.set_cons_succ])
          refine wpPlan_done ?_
          have HG := Lib.hid hgrow; have HAT := Lib.hid hat; have HO1 := Lib.hid hown1; have HK5 := Lib.hid hk5; have HR5 := Lib.hid hr5; have HS5 := Lib.hid hS5
          have HBW := Lib.hid ((hb2.alloc hlw (.cells (partC ⟨⟨sn, sl, su, sa⟩, [], 0⟩).toArray 46)).alloc (by simp only [World.size_alloc]; omega) (.cells (altC (.slice (some ⟨w'.heap.size, 0, none⟩) 1 1) ⟨[⟨⟨sn, sl, su, sa⟩, [], 0⟩], Sp.noSym, 0⟩).toArray 49) : Below wr.heap.size wr ((w'.alloc (.cells (partC ⟨⟨sn, sl, su, sa⟩, [], 0⟩).toArray 46)).alloc (.cells (altC (.slice (some ⟨w'.heap.size, 0, none⟩) 1 1) ⟨[⟨⟨sn, sl, su, sa⟩, [], 0⟩], Sp.noSym, 0⟩).toArray 49)))
          clear hgrow hat hown1 hb2 hk5 hr5 hS5 v0 v1
          go_wp2_with fail
          go_roundg (nn - (k + 1))
          case measure => omega
          case rel =>
            have hp : partsOwn ((w'.alloc (.cells (partC ⟨⟨sn, sl, su, sa⟩, [], 0⟩).toArray 46)).alloc (.cells (altC (.slice (some ⟨w'.heap.size, 0, none⟩) 1 1) ⟨[⟨⟨sn, sl, su, sa⟩, [], 0⟩], Sp.noSym, 0⟩).toArray 49)) (.slice (some ⟨w'.heap.size, 0, none⟩) 1 1) ⟨[⟨⟨sn, sl, su, sa⟩, [], 0⟩], Sp.noSym, 0⟩ :=
              ⟨0, (World.ownsRow_lit (base := 0) (e := 46) (size := 6) w' (partC ⟨⟨sn, sl, su, sa⟩, [], 0⟩).toArray 1 (Nat.zero_le _) (by decide) rfl).alloc _⟩
            have h := rulesD_add (k := k) (a := ⟨[⟨⟨sn, sl, su, sa⟩, [], 0⟩], Sp.noSym, 0⟩) HO.out HLEN.out HC.out HD.out HRK.out (by rw [HUS.out]; exact HA1.out) HA2.out HBW.out hp (by rw [HFM.out]; exact HG.out) (by rw [HUS.out]; exact HO1.out) (by rw [HFM.out]; exact HAT.out) (by omega)
            rw [HUS.out] at h
            obtain ⟨cu, hgb⟩ := row_block HR5.out
            have hset : ∀ u, KpT (· ≠ 52) w5 (w5.setCell ⟨gr, k * 3 + 1, none⟩ u) := fun u => KpT.setCell (fun _ _ _ _ h _ => h) hgb (by simp) u
            have hng : us = 0 ∨ hb = false ∧ bare = false := by
              rw [Bool.or_eq_true, decide_eq_true_eq] at hcv
              rcases hcv with h | h
              · exact .inl h
              · right
                cases hb <;> cases bare <;> simp at h ⊢
            have h0 : RC.take k ++ (if us = 0 ∨ hb = false ∧ bare = false then ⟨r.left, r.alts ++ [⟨[⟨⟨sn, sl, su, sa⟩, [], 0⟩], Sp.noSym, 0⟩], r.at_⟩ else r) :: Sp.fillGo bare (k + 1) (RL.drop (k + 1)) (has.drop (k + 1)) = F := HF3.out
            rw [if_pos hng] at h0
            refine ⟨k + 1, _, by omega, rfl, by go_num, hset _ g4 _ _ _ HS5.out (by decide), declsD_kp (hset _) (by decide) (by decide) (h := ?dd), h, by rw [List.length_set]; exact HLEN.out, fun i hi => ?_, ?_, ?_⟩
            case dd => exact declsD_kp HDD.out HK5.out (by decide) (by decide)
            · rw [List.getElem?_set_ne (by omega)]
              exact HSAME.out i (by omega)
            · rw [← h0, List.take_add_one, List.take_set_of_le (Nat.le_refl _), List.getElem?_set_self (by have := HLEN.out; omega)]
              simp
            · exact ((HB.out.trans (HBW.out.mono (by omega))).grown HG.out (by simp only [World.size_alloc]; omega) (fun g' hg' => ((HOW.out _ (Below.refl _ _)).lt g' hg').1)).setCell (p := ⟨gr, _, none⟩) (HO.out.lt gr rfl).1 _
    · obtain rfl : k = nn := by omega
      have hFe : RC = F := by
        have h := HF2.out
        rw [List.take_of_length_le (by rw [HLEN.out]; exact Nat.le_refl _), List.drop_eq_nil_of_le (by rw [HRL.out]; exact Nat.le_refl _)] at h
        unfold Sp.fillGo at h
        rw [List.append_nil] at h
        exact h
      have HFE := Lib.hid hFe
      clear hFe
      go_wp2_with fail
      exact (HKK.out _ _ _ _ _ _ _ _ _ _ _ _ _ _ _ _ _ _ _ _ _ _ _ _ _ _ _ _ _ _ _ _ _ _ _ _ _ _ _ _ _ _ _ _ _ HS.out HDD.out (by rw [← HFE.out]; exact ⟨f, by rw [HLEN.out]; exact HO.out, HC.out, HD.out⟩) HB.out : K _ _)
end Go.Proofs.YthmimcegiihcnaaDoor
