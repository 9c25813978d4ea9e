/- The walk of GramInner. -/
import Derived.Test.YthmimcegiihcnaaDoorZ22
import Derived.Test.YthmimcegiihcnaaDoorZ04
namespace Go.Proofs.YthmimcegiihcnaaDoor
open Go.RowKit Go.Maps

theorem info_intE3 : (Tryd.prog.info? 3).map (fun i => (i.zero, i.size, i.bytes)) = some (some (.int .i64 0), 1, 8) := by kernel_rfl
theorem info_rowE3 : (Tryd.prog.info? 23).map (fun i => (i.zero, i.size, i.bytes)) = some (some (.slice none 0 0), 1, 24) := by kernel_rfl
theorem rows_ne {w : World} {B B' s s' n n' : Nat} {e e' : TypeId} {v v' : Value} {xs xs' : List Value} (h1 : w.ownsRow B e s v n xs) (h2 : w.ownsRow B' e' s' v' n' xs') (he : e ≠ e') (b d : Nat) (hb : v.ownBlock = some b) (hd : v'.ownBlock = some d) : b ≠ d := by
  rcases h2.2 with ⟨rfl, _⟩ | ⟨g, cap, cur, rfl, _, hgg, _⟩
  · simp [Value.ownBlock] at hd
  · have e1 : g = d := by simpa [Value.ownBlock] using hd
    subst e1
    exact ownsRow_ne h1 hgg (fun h => he h.symm) b hb
theorem addr_add0 (g j : Nat) : (⟨g, 0, none⟩ : Addr).add j = ⟨g, j, none⟩ := by unfold Addr.add; split <;> simp_all
theorem eqI_same (v1 v2 : Value) (l : List Int) (w : World) (h1 : IntsAt w v1 l) (h2 : IntsAt w v2 l) (hl : l.length < 4294967281) :
    Calls Tryd.prog 30 #[v1, v2] w fun e w' => e = .returned (.bool true) ∧ ∃ n, w' = w.drewN n :=
  (ref_EqInts v1 v2 l l w h1 h2 hl hl).mono fun _ _ ⟨he, hw⟩ => ⟨by rw [he]; simp, hw⟩
theorem itoa7_all : ((List.range 8).all fun i => decide ((Lib.itoa (i : Int)).length ≤ 3)) = true := by decide +kernel
theorem itoa7 {i : Nat} (h : i < 8) : (Lib.itoa (i : Int)).length ≤ 3 := of_decide_eq_true (List.all_eq_true.1 itoa7_all i (List.mem_range.2 h))
theorem itoa9_all : ((List.range 10).all fun i => decide ((Lib.itoa (i : Int)).length ≤ 3)) = true := by decide +kernel
theorem itoa9 {i : Nat} (h : i < 10) : (Lib.itoa (i : Int)).length ≤ 3 := of_decide_eq_true (List.all_eq_true.1 itoa9_all i (List.mem_range.2 h))
theorem at_str (i : Nat) : ({ data := #[64] } : ByteArray) ++ ({ data := (Lib.itoa ((i : Int) + 1)).toArray } : ByteArray) = ⟨(64 :: Lib.itoa ((i : Int) + 1)).toArray⟩ := by
  apply ByteArray.ext
  simp
theorem code_str (k : Nat) : (({ data := #[123] } : ByteArray) ++ ({ data := (Lib.itoa (k : Int)).toArray } : ByteArray)) ++ ({ data := #[125] } : ByteArray) = ⟨(Sp.codeOf k).toArray⟩ := by
  apply ByteArray.ext
  simp [Sp.codeOf]
/-- The rows as they grow: the parts, the right side, the lists of arguments. -/
structure InI (W wr : World) (pv rv av : Value) (ps : List Sp.Part) (rt : List Int) (al : List (List Int)) (f : Nat → Value) : Prop where
  parts : wr.ownsRow W.heap.size 46 6 pv ps.length (ps.map partC).flatten
  right : wr.ownsRow W.heap.size 3 1 rv rt.length (intsC rt)
  args : wr.ownsRow W.heap.size 23 1 av al.length ((List.range al.length).map f)
  kids : ∀ (i : Nat) (a : List Int), al[i]? = some a → ∃ b, wr.ownsRow b 3 1 (f i) a.length (intsC a)
  sep : ∀ (i : Nat), i < al.length → ∀ c d, (f i).ownBlock = some c → rv.ownBlock = some d → c ≠ d
  bel : Below W.heap.size W wr
section
variable {W wr w8 : World} {pv rv av : Value} {ps : List Sp.Part} {rt : List Int} {al : List (List Int)} {f : Nat → Value}
theorem InI.keep (h : InI W wr pv rv av ps rt al f) (hb : Below wr.heap.size wr w8) : InI W w8 pv rv av ps rt al f :=
  ⟨ownsRow_below h.parts hb, ownsRow_below h.right hb, ownsRow_below h.args hb, fun i a ha => by
    obtain ⟨b, hk⟩ := h.kids i a ha
    exact ⟨b, ownsRow_below hk hb⟩, h.sep, h.bel.trans (hb.mono h.bel.size)⟩
theorem InI.kid (h : InI W wr pv rv av ps rt al f) {i : Nat} (hi : i < al.length) {c : Nat} (hc : (f i).ownBlock = some c) : c < wr.heap.size := by
  obtain ⟨b, hk⟩ := h.kids i al[i] (List.getElem?_eq_getElem hi)
  exact (hk.lt c hc).2
theorem InI.addPart (h : InI W wr pv rv av ps rt al f) (hk : Kp (fun b => ∀ d, pv.ownBlock = some d → b ≠ d) wr w8) {pv' : Value} {p : Sp.Part} (hown : w8.ownsRow W.heap.size 46 6 pv' (ps.length + 1) ((ps.map partC).flatten ++ partC p)) : InI W w8 pv' rv av (ps ++ [p]) rt al f := by
  refine ⟨?_, ownsRow_kp h.right hk (fun b hb d hd => rows_ne h.right h.parts (by decide) b d hb hd), ownsRow_kp h.args hk (fun b hb d hd => rows_ne h.args h.parts (by decide) b d hb hd), fun i a ha => ?_, h.sep, h.bel.trans (Kp.below hk h.bel.size (fun b hb d hd => by have := (h.parts.lt d hd).1; omega))⟩
  · rw [List.length_append, List.map_append, List.flatten_append]
    simpa using hown
  · obtain ⟨b, hr⟩ := h.kids i a ha
    exact ⟨b, ownsRow_kp hr hk (fun b hb d hd => rows_ne hr h.parts (by decide) b d hb hd)⟩
theorem InI.addRight (h : InI W wr pv rv av ps rt al f) (hk : Kp (fun b => ∀ d, rv.ownBlock = some d → b ≠ d) wr w8) {g n c : Nat} {x : Int} (hown : w8.ownsRow W.heap.size 3 1 (.slice (some ⟨g, 0, none⟩) n c) (rt.length + 1) (intsC rt ++ [.int .i64 x])) (hat : rv.ownBlock = some g ∨ wr.heap.size ≤ g) : InI W w8 pv (.slice (some ⟨g, 0, none⟩) n c) av ps (rt ++ [x]) al f := by
  refine ⟨ownsRow_kp h.parts hk (fun b hb d hd => rows_ne h.parts h.right (by decide) b d hb hd), ?_, ownsRow_kp h.args hk (fun b hb d hd => rows_ne h.args h.right (by decide) b d hb hd), fun i a ha => ?_, fun i hi c' d hc hd => ?_, h.bel.trans (Kp.below hk h.bel.size (fun b hb d hd => by have := (h.right.lt d hd).1; omega))⟩
  · rw [List.length_append]
    unfold intsC at hown ⊢
    rw [List.map_append]
    exact hown
  · obtain ⟨b, hr⟩ := h.kids i a ha
    exact ⟨b, ownsRow_kp hr hk (fun b hb d hd => h.sep i (List.getElem?_eq_some_iff.1 ha).1 b d hb hd)⟩
  · have e : g = d := by simpa [Value.ownBlock] using hd
    subst e
    rcases hat with hg | hg
    · exact h.sep i hi c' g hc hg
    · have := h.kid hi hc
      omega
theorem InI.addArg (h : InI W wr pv rv av ps rt al f) (hk : Kp (fun b => ∀ d, av.ownBlock = some d → b ≠ d) wr w8) {av' u : Value} (hown : w8.ownsRow W.heap.size 23 1 av' (al.length + 1) ((List.range al.length).map f ++ [u])) (hu : ∃ b, w8.ownsRow b 3 1 u rt.length (intsC rt)) (hsep : ∀ c d, u.ownBlock = some c → rv.ownBlock = some d → c ≠ d) :
    InI W w8 pv rv av' ps rt (al ++ [rt]) (fun i => if i < al.length then f i else u) := by
  refine ⟨ownsRow_kp h.parts hk (fun b hb d hd => rows_ne h.parts h.args (by decide) b d hb hd), ownsRow_kp h.right hk (fun b hb d hd => rows_ne h.right h.args (by decide) b d hb hd), ?_, fun i a ha => ?_, fun i hi c d hc hd => ?_, h.bel.trans (Kp.below hk h.bel.size (fun b hb d hd => by have := (h.args.lt d hd).1; omega))⟩
  · have e : (List.range (al ++ [rt]).length).map (fun i => if i < al.length then f i else u) = (List.range al.length).map f ++ [u] := by
      rw [List.length_append, List.length_singleton, List.range_succ, List.map_append]
      congr 1
      · apply List.map_congr_left
        intro i hi
        rw [if_pos (List.mem_range.1 hi)]
      · simp
    rw [e, List.length_append]
    exact hown
  · rcases Sp.snoc_at ha with ha | ⟨rfl, rfl⟩
    · have hi := (List.getElem?_eq_some_iff.1 ha).1
      obtain ⟨b, hr⟩ := h.kids i a ha
      simp only [if_pos hi]
      exact ⟨b, ownsRow_kp hr hk (fun b hb d hd => rows_ne hr h.args (by decide) b d hb hd)⟩
    · simp only [Nat.lt_irrefl, if_false]
      exact hu
  · by_cases hil : i < al.length
    · simp only [if_pos hil] at hc
      exact h.sep i hil c d hc hd
    · simp only [if_neg hil] at hc
      exact hsep c d hc hd
end
theorem inn_small (l : List Bool) (n : Nat) (hn : n ≤ l.length) (h7 : l.length ≤ 7) : smallSrc ⟨[], [], [⟨[97], [⟨Sp.partsAt l n, ⟨[], false, 0, 0⟩, 40⟩], 0⟩], []⟩ := by
  refine ⟨by simp, by simp, by simp, by simp, by simp, ?_⟩
  intro r hr
  simp only [List.mem_singleton] at hr
  subst hr
  refine ⟨by simp, by simp, ?_⟩
  intro a ha
  rw [List.mem_singleton] at ha
  subst ha
  have hpl := Sp.partsAt_len l n hn
  refine ⟨by simp only; omega, ?_, by simp⟩
  intro p hp
  obtain ⟨i, hi, h | h⟩ := Sp.partsAt_mem l n hn p hp
  · subst h
    exact ⟨by simp [Sp.xPart, smallSym], by simp [Sp.xPart]⟩
  · subst h
    refine ⟨by simp [Sp.cPart, smallSym], ?_⟩
    have := itoa7 (i := i) (by omega)
    simp only [Sp.cPart, Sp.codeOf, List.length_cons, List.length_append, List.length_nil]
    omega
set_option maxRecDepth 100000 in
set_option maxHeartbeats 12800000 in
theorem law_GramInner (v0 : Value) (cs : List Bool) (W : World) (hl : BoolsAt W v0 cs) (hlm : cs.length ≤ maxLen) (hg : Gl4 W) :
    Calls Tryd.prog 7 #[v0] W fun e w' => e = .returned (.bool true) ∧ Below W.heap.size W w' := by
  unfold maxLen at hlm
  obtain ⟨la, lcap, rfl⟩ := SlAt.form hl
  rw [List.length_map] at hl ⊢
  have HG := Lib.hid hg; have HL := Lib.hid hl
  obtain ⟨ip0, hip0, hpz0, hpz1, hpz2⟩ := info_parts info_partE
  obtain ⟨ii0, hii0, hiz0, hiz1, hiz2⟩ := info_parts info_intE3
  obtain ⟨ir0, hir0, hrz0, hrz1, hrz2⟩ := info_parts info_rowE3
  clear hg hl
  go_enter Tryd.func7, Tryd.ntmps7
  go_wp2_with fail
  refine (wakes9 W HG.out).mono ?_
  rintro e w1 ⟨rfl, hb1⟩
  have HB1 := Lib.hid hb1
  clear hb1
  go_upto_block 0 with fail
  obtain ⟨l, hl⟩ : ∃ l, l = cs.take 7 := ⟨_, rfl⟩
  have hln : l.length = min 7 cs.length := by rw [hl, List.length_take]
  have hlc : ∀ (k : Nat) (b : Bool), k < l.length → l[k]? = some b → cs[k]? = some b := fun k b hk h => by
    rw [hl, List.getElem?_take] at h
    rw [if_pos (by omega)] at h
    exact h
  obtain ⟨n, hn⟩ : ∃ n, n = l.length := ⟨_, rfl⟩
  have hn7 : n ≤ 7 := by omega
  have hnc : n ≤ cs.length := by omega
  rw [show min (cs.length : Int) 7 = (n : Int) by omega]
  have HLC := Lib.hid hlc; have HN := Lib.hid hn
  clear hl hln hlc hn
  go_cut [3, 4, 5, 6, 7] (fun v3 v4 v5 v6 v7 wx => ∃ f : Nat → Value, v6 = .int .i64 ((Sp.innAt l n).prods.length : Int) ∧ v7 = .string ⟨(Sp.innAt l n).last.toArray⟩ ∧ InI W wx v3 v4 v5 (Sp.partsAt l n) (Sp.innAt l n).right ((Sp.innAt l n).prods.map (·.args)) f)
  case first =>
    go_wp2_with fail
    go_loopg [3, 4, 5, 6, 7, 9] n (fun q v3 v4 v5 v6 v7 v9 wr => ∃ (k : Nat) (f : Nat → Value), k ≤ n ∧ q = n - k ∧ v9 = .int .i64 k ∧ v6 = .int .i64 ((Sp.innAt l k).prods.length : Int) ∧ v7 = .string ⟨(Sp.innAt l k).last.toArray⟩ ∧ InI W wr v3 v4 v5 (Sp.partsAt l k) (Sp.innAt l k).right ((Sp.innAt l k).prods.map (·.args)) f)
    case atStart =>
      exact ⟨0, fun _ => .bool false, by omega, rfl, rfl, rfl, rfl, World.ownsRow_nil _ _ _ _, World.ownsRow_nil _ _ _ _, World.ownsRow_nil _ _ _ _, fun i a ha => (by cases ha), fun i hi => (by cases hi), HB1.out⟩
    case round =>
      obtain ⟨k, f, hk, rfl, rfl, rfl, rfl, hst⟩ := hrel
      by_cases hkn : k < n
      · have hok := Sp.innAt_ok l k (by rw [← HN.out]; omega)
        obtain ⟨b, hb⟩ : ∃ b, l[k]? = some b := ⟨_, List.getElem?_eq_getElem (by rw [← HN.out]; exact hkn)⟩
        have hcb := HLC.out k b (by rw [← HN.out]; exact hkn) hb
        have hsn := Sp.innAt_snoc hb
        have hpn := Sp.partsAt_snoc hb
        have hpl := Sp.partsAt_len l k (by rw [← HN.out]; omega)
        rw [← HN.out] at hsn hok
        obtain ⟨S, hS⟩ : ∃ S, S = Sp.innAt l k := ⟨_, rfl⟩
        obtain ⟨P, hP⟩ : ∃ P, P = Sp.partsAt l k := ⟨_, rfl⟩
        rw [← hS] at hst hok hsn ⊢
        rw [← hP] at hst hpn hpl
        have hrl := hok.rlen
        have hpln := hok.plen
        obtain ⟨np, hnp⟩ : ∃ np, np = P.length := ⟨_, rfl⟩
        obtain ⟨nr, hnr⟩ : ∃ nr, nr = S.right.length := ⟨_, rfl⟩
        obtain ⟨na, hna⟩ : ∃ na, na = S.prods.length := ⟨_, rfl⟩
        rw [← hnp] at hpl
        rw [← hnr] at hrl
        rw [← hna] at hpln ⊢
        have HST := Lib.hid hst
        have hop := hst.parts; have hor := hst.right; have hoa := hst.args
        rw [← hnp] at hop
        rw [← hnr] at hor
        rw [List.length_map, ← hna] at hoa
        obtain ⟨pa, pc, rfl⟩ := ownsRowS_some hop
        obtain ⟨ra, rc, rfl⟩ := ownsRowS_some hor
        obtain ⟨aa, ac, rfl⟩ := ownsRowS_some hoa
        obtain ⟨lb, lo, rfl, hlb, hlc⟩ := SlAt.at HL.out (k := k) (row := [.bool b]) (by rw [List.getElem?_map, hcb]; rfl)
        have HLB : Hid (∀ w', Below W.heap.size W w' → w'.cell? ⟨lb, lo + k, none⟩ = some (.bool b) ∧ lb < w'.heap.size) := Lib.hid (fun w' h => by
          have h1 := hlc w' h 0 _ rfl
          simp only [Nat.add_zero, Nat.mul_one] at h1
          have := h.size
          exact ⟨h1, by omega⟩)
        have HOP := Lib.hid hop; have HOR := Lib.hid hor; have HOA := Lib.hid hoa
        have HWS := Lib.hid hst.bel.size
        have HSN := Lib.hid hsn; have HPN := Lib.hid hpn; have HOK := Lib.hid hok; have HNP := Lib.hid hnp; have HNR := Lib.hid hnr; have HNA := Lib.hid hna
        have hkI : (k : Int) < (n : Int) := by omega
        have hk0 : (0 : Int) ≤ (k : Int) := by omega
        have hkl : k < cs.length := by omega
        clear hst hop hor hoa hlc hlb hb hcb hsn hpn hok hS hP hnp hnr hna
        go_wp2_with fail
        refine (law9_lit [120] (k : Int) _).mono ?_
        rintro e w2 ⟨rfl, hb2⟩
        go_wp2_with fail
        refine (law9_part [120] true 0 (k : Int) w2).mono ?_
        rintro e w3 ⟨rfl, hb3⟩
        have HB3 : Hid (Below wr.heap.size wr w3) := Lib.hid (hb2.trans (hb3.mono hb2.size))
        clear hb2 hb3
        go_upto_region 12 with (at_builtin; refine wpList_append_lies _ rfl _ _ 47 rfl W.heap.size 46 ip0 _ 6 64 Tryd.underlying47 hip0 hpz0 hpz1 hpz2 rfl (by decide) _ _ _ rfl ((ownsRow_below HOP.out HB3.out).alloc _) ⟨w3.heap.size, 0, none⟩ 1 1 (partC ⟨⟨[120], true, 0, (k : Int)⟩, [], (k : Int)⟩) rfl rfl (World.news_of_block (cs := #[.string ⟨#[120]⟩, .bool true, .int .i64 0, .int .i64 (k : Int), .string ⟨#[]⟩, .int .i64 (k : Int)]) (t := 46) (fr := (0, 0)) (heap_last w3 _)) (by simp [Value.oneCell', partC, symC]) (by omega) (by unfold maxLen; omega) (by omega) (by have := HB3.out.size; have := HWS.out; simp only [World.size_alloc]; omega) _ rfl ?_; intro g2 c2 w4 hown2 hgrow2 hat2 hlt2; have HGR := Lib.hid hgrow2; have HOW := Lib.hid hown2; clear hgrow2 hown2 hat2)
        have HI4 : Hid (InI W w4 (.slice (some ⟨g2, 0, none⟩) (np + 1) c2) (.slice ra nr rc) (.slice aa na ac) (P ++ [Sp.xPart k]) S.right (S.prods.map (·.args)) f) := Lib.hid (by
          refine HST.out.addPart (p := Sp.xPart k) ((((Kp.of_below HB3.out (fun _ hk _ => hk)) : Kp _ wr w3).alloc _).grown HGR.out (fun c hc hs => hs c hc rfl)) ?_
          rw [← HNP.out]
          exact HOW.out)
        have HOR4 : Hid (w4.ownsRow W.heap.size 3 1 (.slice ra nr rc) nr (intsC S.right)) := Lib.hid (by
          have h := HI4.out.right
          rw [← HNR.out] at h
          exact h)
        clear HGR HOW
        go_upto_region 13 with (at_builtin; refine wpList_append_lies _ rfl _ _ 23 rfl W.heap.size 3 ii0 _ 1 8 Tryd.underlying23 hii0 hiz0 hiz1 hiz2 rfl (by decide) _ _ _ rfl (HOR4.out.alloc _) ⟨w4.heap.size, 0, none⟩ 1 1 [.int .i64 (3)] rfl rfl (World.news_of_block (cs := #[.int .i64 (3)]) (t := 3) (fr := (0, 0)) (heap_last w4 _)) (by simp [Value.oneCell']) (by omega) (by unfold maxLen; omega) (by omega) (by have := HI4.out.bel.size; simp only [World.size_alloc]; omega) _ rfl ?_; intro gw cw w5 hownw hgroww hatw hltw; have HGW := Lib.hid hgroww; have HOI := Lib.hid hownw; have HAT := Lib.hid hatw; clear hgroww hownw hatw)
        have HI5 : Hid (InI W w5 (.slice (some ⟨g2, 0, none⟩) (np + 1) c2) (.slice (some ⟨gw, 0, none⟩) (nr + 1) cw) (.slice aa na ac) (P ++ [Sp.xPart k]) (S.right ++ [3]) (S.prods.map (·.args)) f) := Lib.hid (by
          refine HI4.out.addRight (((Kp.refl _ w4).alloc _).grown HGW.out (fun c hc hs => hs c hc rfl)) ?_ (HAT.out.imp id (fun h => by rw [h]; simp))
          rw [← HNR.out]
          exact HOI.out)
        obtain ⟨lc5, ll5⟩ := HLB.out w5 HI5.out.bel
        clear HI4 HOR4 HGW HOI HAT HB3 HST HOP HOR HOA HWS
        cases b with
        | false =>
          go_wp2_with fail
          go_roundg (n - (k + 1))
          case measure => omega
          case rel =>
            have e1 : Sp.innAt l (k + 1) = { S with right := S.right ++ [3] } := HSN.out.trans rfl
            have e2 : Sp.partsAt l (k + 1) = P ++ [Sp.xPart k] := HPN.out.trans rfl
            exact ⟨k + 1, f, by omega, rfl, by go_num, by rw [e1, HNA.out], by rw [e1], by rw [e1, e2]; exact HI5.out⟩
        | true =>
          have hbig1 : ¬ 9223372036854775807 < 1 + (Lib.itoa (k : Int)).length := by
            have := itoa7 (i := k) (by omega)
            omega
          have hbig2 : ¬ 9223372036854775807 < 1 + (Lib.itoa (k : Int)).length + 1 := by
            have := itoa7 (i := k) (by omega)
            omega
          go_wp2_with fail
          refine (ref_Digits (k : Int) _ (by omega) (by omega)).mono ?_
          rintro e w6 ⟨rfl, hb6⟩
          have HI6 := Lib.hid (HI5.out.keep hb6)
          clear hb6
          go_upto_region 15 with fail
          rw [code_str]
          have HOP6 : Hid (w6.ownsRow W.heap.size 46 6 (.slice (some ⟨g2, 0, none⟩) (np + 1) c2) (np + 1) ((P ++ [Sp.xPart k]).map partC).flatten) := Lib.hid (by
            have h := HI6.out.parts
            rw [List.length_append, ← HNP.out] at h
            exact h)
          go_upto_region 16 with (at_builtin; refine wpList_append_lies _ rfl _ _ 47 rfl W.heap.size 46 ip0 _ 6 64 Tryd.underlying47 hip0 hpz0 hpz1 hpz2 rfl (by decide) _ _ _ rfl (HOP6.out.alloc _) ⟨w6.heap.size, 0, none⟩ 1 1 (partC ⟨⟨[], false, 0, 0⟩, Sp.codeOf k, 50 + (k : Int)⟩) rfl rfl (World.news_of_block (cs := #[.string ⟨#[]⟩, .bool false, .int .i64 0, .int .i64 0, .string ⟨(Sp.codeOf k).toArray⟩, .int .i64 (50 + (k : Int))]) (t := 46) (fr := (0, 0)) (heap_last w6 _)) (by simp [Value.oneCell', partC, symC]) (by omega) (by unfold maxLen; omega) (by omega) (by have := HI6.out.bel.size; simp only [World.size_alloc]; omega) _ rfl ?_; intro g3 c3 w7 hown2 hgrow2 hat2 hlt2; have HGR := Lib.hid hgrow2; have HOW := Lib.hid hown2; clear hgrow2 hown2 hat2)
          have HI7 : Hid (InI W w7 (.slice (some ⟨g3, 0, none⟩) (np + 1 + 1) c3) (.slice (some ⟨gw, 0, none⟩) (nr + 1) cw) (.slice aa na ac) (P ++ [Sp.xPart k] ++ [Sp.cPart k]) (S.right ++ [3]) (S.prods.map (·.args)) f) := Lib.hid (by
            refine HI6.out.addPart (p := Sp.cPart k) (((Kp.refl _ w6).alloc _).grown HGR.out (fun c hc hs => hs c hc rfl)) ?_
            rw [List.length_append, ← HNP.out]
            exact HOW.out)
          clear HI5 HI6 HGR HOW HOP6 lc5 ll5
          by_cases hkn1 : k + 1 = n
          · have hkb : (((k : Int) + 1) == (n : Int)) = true := by rw [beq_iff_eq]; omega
            go_wp2_with fail
            go_roundg (n - (k + 1))
            case measure => omega
            case rel =>
              have e1 : Sp.innAt l (k + 1) = { S with right := S.right ++ [3], last := Sp.codeOf k, at_ := 50 + (k : Int) } := HSN.out.trans (by unfold Sp.innStep; rw [if_neg (by simp), if_pos hkn1])
              have e2 : Sp.partsAt l (k + 1) = P ++ [Sp.xPart k] ++ [Sp.cPart k] := HPN.out.trans (by simp)
              exact ⟨k + 1, f, by omega, rfl, by go_num, by rw [e1, HNA.out], by rw [e1], by rw [e1, e2]; exact HI7.out⟩
          · have hkb : (((k : Int) + 1) == (n : Int)) = false := by rw [beq_eq_false_iff_ne]; omega
            have HE7 : Hid ((w7.alloc (.cells #[] 3)).ownsRow W.heap.size 3 1 (.slice (some ⟨w7.heap.size, 0, none⟩) 0 0) 0 []) := Lib.hid (owns_block (cs := #[]) (n := 0) (heap_last w7 _) HI7.out.bel.size rfl (by decide))
            have hlen7 : (S.right ++ [3]).length = nr + 1 := by rw [List.length_append, ← HNR.out]; rfl
            have HL7 := Lib.hid hlen7
            have HRL : Hid ((intsC (S.right ++ [3])).length = (nr + 1) * 1) := Lib.hid (by unfold intsC; rw [List.length_map, hlen7]; omega)
            have HRC : Hid (∀ (j : Nat) (u : Value), (intsC (S.right ++ [3]))[j]? = some u → (w7.alloc (.cells #[] 3)).cell? ((⟨gw, 0, none⟩ : Addr).add j) = some u) := Lib.hid (fun j u hj => by
              have hr := HI7.out.right.alloc (.cells #[] 3)
              have hjl : j < (S.right ++ [3]).length := by have := (List.getElem?_eq_some_iff.1 hj).1; unfold intsC at this; simpa using this
              rw [hlen7] at hr
              rw [addr_add0, hr.cellAt j (by omega)]
              exact hj)
            have HR1 : Hid (∀ u ∈ intsC (S.right ++ [3]), u.oneCell' = true) := Lib.hid (fun u hu => by
              unfold intsC at hu
              obtain ⟨z, _, rfl⟩ := List.mem_map.1 hu
              rfl)
            go_upto_region 19 with (first | (at_builtin; refine wpList_append_lies _ rfl _ _ 23 rfl W.heap.size 3 ii0 _ 1 8 Tryd.underlying23 hii0 hiz0 hiz1 hiz2 rfl (by decide) _ _ _ rfl HE7.out ⟨gw, 0, none⟩ (nr + 1) cw (intsC (S.right ++ [3])) rfl HRL.out HRC.out HR1.out (by omega) (by unfold maxLen; omega) (by omega) (by have := HI7.out.bel.size; simp only [World.size_alloc]; omega) _ rfl ?_; intro gc cc w8 hownc hgrowc hatc hltc; have HB8 : Hid (Below w7.heap.size w7 w8) := Lib.hid (Kp.below (((Kp.refl (fun b => b < w7.heap.size) w7).alloc _).grown hgrowc (fun c hc hs => by cases hc; exact Nat.lt_irrefl _ hs)) (Nat.le_refl _) (fun b hb => hb)); rw [Nat.zero_add, List.nil_append] at hownc; have HOC := Lib.hid hownc; have HAC : Hid ((Value.slice (some ⟨w7.heap.size, 0, none⟩) 0 0).ownBlock = some gc ∨ gc = (w7.alloc (.cells #[] 3)).heap.size) := Lib.hid hatc; have HI8 := Lib.hid (HI7.out.keep HB8.out); have HOA8 : Hid (w8.ownsRow W.heap.size 23 1 (.slice aa na ac) na ((List.range na).map f)) := Lib.hid (by have h := HI8.out.args; rw [List.length_map, ← HNA.out] at h; exact h); clear hownc hgrowc hatc) | (at_builtin; refine wpList_append_lies _ rfl _ _ 22 rfl W.heap.size 23 ir0 _ 1 24 Tryd.underlying22 hir0 hrz0 hrz1 hrz2 rfl (by decide) _ _ _ rfl (HOA8.out.alloc _) ⟨w8.heap.size, 0, none⟩ 1 1 [.slice (some ⟨gc, 0, none⟩) (nr + 1) cc] rfl rfl (World.news_of_block (cs := #[.slice (some ⟨gc, 0, none⟩) (nr + 1) cc]) (t := 23) (fr := (0, 0)) (heap_last w8 _)) (by simp [Value.oneCell']) (by omega) (by unfold maxLen; omega) (by omega) (by have := HI8.out.bel.size; simp only [World.size_alloc]; omega) _ rfl ?_; intro ga ca w9 howna hgrowa hata hlta; have HGA := Lib.hid hgrowa; have HOA9 := Lib.hid howna; clear howna hgrowa hata))
            have HI9 : Hid (InI W w9 (.slice (some ⟨g3, 0, none⟩) (np + 1 + 1) c3) (.slice (some ⟨gw, 0, none⟩) (nr + 1) cw) (.slice (some ⟨ga, 0, none⟩) (na + 1) ca) (P ++ [Sp.xPart k] ++ [Sp.cPart k]) (S.right ++ [3]) (S.prods.map (·.args) ++ [S.right ++ [3]]) (fun i => if i < (S.prods.map (·.args)).length then f i else .slice (some ⟨gc, 0, none⟩) (nr + 1) cc)) := Lib.hid (by
              have kg : KpT (fun t => t ≠ 23) w8 w9 := (KpT.below ((Below.refl _ w8).alloc (Nat.le_refl _) _)).trans (KpT.grown (HOA8.out.alloc _) HGA.out)
              refine HI8.out.addArg (((Kp.refl _ w8).alloc _).grown HGA.out (fun c hc hs => hs c hc rfl)) ?_ ⟨W.heap.size, ?_⟩ (fun c d hc hd => ?_)
              · rw [List.length_map, ← HNA.out]
                exact HOA9.out
              · have h := ownsRow_kpT HOC.out kg (by decide)
                rw [HL7.out]
                exact h
              · have e1 : gc = c := by simpa [Value.ownBlock] using hc
                have e2 : gw = d := by simpa [Value.ownBlock] using hd
                subst e1 e2
                have h1 := (HI7.out.right.lt gw rfl).2
                rcases HAC.out with h | h
                · have e : w7.heap.size = gc := by simpa [Value.ownBlock] using h
                  omega
                · simp only [World.size_alloc] at h
                  omega)
            have HOR9 : Hid (w9.ownsRow W.heap.size 3 1 (.slice (some ⟨gw, 0, none⟩) (nr + 1) cw) (nr + 1) (intsC (S.right ++ [3]))) := Lib.hid (by
              have h := HI9.out.right
              rw [HL7.out] at h
              exact h)
            clear HI7 HI8 HB8 HOC HAC HOA8 HGA HOA9 HE7 HRL HRC HR1 hlen7
            go_wp2_with (at_builtin; refine wpList_append_lies _ rfl _ _ 23 rfl W.heap.size 3 ii0 _ 1 8 Tryd.underlying23 hii0 hiz0 hiz1 hiz2 rfl (by decide) _ _ _ rfl (HOR9.out.alloc _) ⟨w9.heap.size, 0, none⟩ 1 1 [.int .i64 (1001 + ((na : Int) + 1))] rfl rfl (World.news_of_block (cs := #[.int .i64 (1001 + ((na : Int) + 1))]) (t := 3) (fr := (0, 0)) (heap_last w9 _)) (by simp [Value.oneCell']) (by omega) (by unfold maxLen; omega) (by omega) (by have := HI9.out.bel.size; simp only [World.size_alloc]; omega) _ rfl ?_; intro gz cz w10 hownw hgroww hatw hltw; have HGW := Lib.hid hgroww; have HOI := Lib.hid hownw; have HAT := Lib.hid hatw; clear hgroww hownw hatw)
            go_roundg (n - (k + 1))
            case measure => omega
            case rel =>
              have HI10 := HI9.out.addRight (((Kp.refl _ w9).alloc _).grown HGW.out (fun c hc hs => hs c hc rfl)) (by
                rw [HL7.out]
                exact HOI.out) (HAT.out.imp id (fun h => by rw [h]; simp))
              rw [show 1001 + ((na : Int) + 1) = 1001 + ((S.prods.length + 1 : Nat) : Int) by rw [← HNA.out]; omega] at HI10
              have e1 := HSN.out.trans (show Sp.innStep n k true S = _ by unfold Sp.innStep; rw [if_neg (by simp), if_neg hkn1])
              have e2 : Sp.partsAt l (k + 1) = P ++ [Sp.xPart k] ++ [Sp.cPart k] := HPN.out.trans (by simp)
              refine ⟨k + 1, (fun i => if i < (S.prods.map (·.args)).length then f i else .slice (some ⟨gc, 0, none⟩) (nr + 1) cc), by omega, rfl, by go_num, ?_, by rw [e1], ?_⟩
              · rw [e1]
                simp only [List.length_append, List.length_cons, List.length_nil]
                rw [← HNA.out]
                go_num
              · rw [e1, e2]
                simp only [List.map_append, List.map_cons, List.map_nil]
                exact HI10
      · obtain rfl : k = n := by omega
        clear hkn
        go_wp2_with fail
        go_meet
        exact ⟨f, rfl, rfl, hst⟩
  case rest =>
    obtain ⟨f, rfl, rfl, hst⟩ := hcut
    obtain ⟨w, hw⟩ : ∃ w : World, w = wc := ⟨_, rfl⟩
    subst hw
    have hok := Sp.innAt_ok l n (by rw [← HN.out]; exact Nat.le_refl _)
    have hend := Sp.inn_end l (by rw [← HN.out]; exact hn7)
    have hpl := Sp.partsAt_len l n (by rw [← HN.out]; exact Nat.le_refl _)
    have hsm := inn_small l n (by rw [← HN.out]; exact Nat.le_refl _) (by rw [← HN.out]; exact hn7)
    rw [← HN.out] at hok hend
    obtain ⟨S, hS⟩ : ∃ S, S = Sp.innAt l n := ⟨_, rfl⟩
    obtain ⟨P, hP⟩ : ∃ P, P = Sp.partsAt l n := ⟨_, rfl⟩
    rw [← hS] at hst hok hend ⊢
    rw [← hP] at hst hend hpl hsm
    obtain ⟨np, hnp⟩ : ∃ np, np = P.length := ⟨_, rfl⟩
    obtain ⟨nr, hnr⟩ : ∃ nr, nr = S.right.length := ⟨_, rfl⟩
    obtain ⟨na, hna⟩ : ∃ na, na = S.prods.length := ⟨_, rfl⟩
    have hrl := hok.rlen; have hpln := hok.plen
    rw [← hnr] at hrl
    rw [← hna] at hpln ⊢
    have hop := hst.parts; have hor := hst.right; have hoa := hst.args
    rw [← hnp] at hop
    rw [← hnr] at hor
    rw [List.length_map, ← hna] at hoa
    obtain ⟨pa, pc, rfl⟩ := ownsRowS_some hop
    obtain ⟨ra, rc, rfl⟩ := ownsRowS_some hor
    obtain ⟨aa, ac, rfl⟩ := ownsRowS_some hoa
    have HST := Lib.hid hst; have HOK := Lib.hid hok; have HEN := Lib.hid hend; have HSM := Lib.hid hsm; have HNP := Lib.hid hnp; have HNR := Lib.hid hnr; have HNA := Lib.hid hna
    clear hst hok hend hsm hop hor hoa hS hP hnp hnr hna hpl
    go_wp2_with fail
    obtain ⟨wA, hwA⟩ : ∃ wA : World, wA = (w.alloc (.cells #[.slice pa np pc, .string ⟨#[]⟩, .bool false, .int .i64 0, .int .i64 0, .int .i64 40] 49)).alloc (.cells #[.string ⟨#[97]⟩, .slice (some ⟨w.heap.size, 0, none⟩) 1 1, .int .i64 0] 52) := ⟨_, rfl⟩
    rw [← hwA]
    have hbA : Below w.heap.size w wA := by rw [hwA]; exact ((Below.refl _ w).alloc (Nat.le_refl _) _).alloc (by simp) _
    have hqa : wA.heap[w.heap.size]? = some (.cells #[.slice pa np pc, .string ⟨#[]⟩, .bool false, .int .i64 0, .int .i64 0, .int .i64 40] 49 (0, 0)) := by rw [hwA]; exact heap_old (heap_last w _) _
    have hqr : wA.heap[w.heap.size + 1]? = some (.cells #[.string ⟨#[97]⟩, .slice (some ⟨w.heap.size, 0, none⟩) 1 1, .int .i64 0] 52 (0, 0)) := by rw [hwA]; exact heap_sec w _ _
    have hIA := HST.out.keep hbA
    have hru : RulesOwn W.heap.size wA (.slice (some ⟨w.heap.size + 1, 0, none⟩) 1 1) [⟨[97], [⟨P, ⟨[], false, 0, 0⟩, 40⟩], 0⟩] := by
      have hz := HST.out.bel.size
      refine ⟨fun _ => .slice (some ⟨w.heap.size, 0, none⟩) 1 1, owns_block hqr (by omega) rfl (by decide), fun i r hr => ?_⟩
      obtain ⟨rfl, rfl⟩ := one_at hr
      refine ⟨W.heap.size, fun _ => .slice pa np pc, owns_block hqa hz rfl (by decide), fun i a ha => ?_⟩
      obtain ⟨rfl, rfl⟩ := one_at ha
      refine ⟨W.heap.size, ?_⟩
      have h := hIA.parts
      rw [← HNP.out] at h
      show wA.ownsRow _ _ _ _ P.length _
      rw [← HNP.out]
      exact h
    have hof := gram_Of ⟨[], [], [⟨[97], [⟨P, ⟨[], false, 0, 0⟩, 40⟩], 0⟩], []⟩ (.slice none 0 0) (.slice (some ⟨w.heap.size + 1, 0, none⟩) 1 1) wA (decls_none _) (rules_at hru) HSM.out (HG.out.up hIA.bel (by have := HG.out.2.1; have := HST.out.bel.size; rw [hwA]; simp only [World.size_alloc]; omega))
    have HIA := Lib.hid hIA
    by_cases h8 : 8 < S.right.length
    · rw [HEN.out] at hof
      (try dsimp only at hof)
      rw [if_pos h8] at hof
      have HOF := Lib.hid hof
      have h8I : (8 : Int) < (nr : Int) := by have := HNR.out; omega
      clear hbA hqa hqr hIA hru hof hwA HEN HSM h8
      go_wp2_with fail
      refine HOF.out.mono ?_
      rintro e w2 ⟨hb2, gv, rfl, hgo⟩
      obtain ⟨B, ta, tc, nna, nnc, ppa, ppc, rfl, _⟩ := hgo
      have HEND : Hid (∀ wa, Below w2.heap.size w2 wa → ∀ wb, Below wa.heap.size wa wb → Below W.heap.size W wb) := Lib.hid (fun wa ha wb hb => ((HIA.out.bel.trans (hb2.mono HIA.out.bel.size)).trans (ha.mono (Nat.le_trans HIA.out.bel.size hb2.size))).trans (hb.mono (Nat.le_trans (Nat.le_trans HIA.out.bel.size hb2.size) ha.size)))
      clear hb2
      rw [show Sp.noGram.toks.length = 0 from rfl, show Sp.noGram.nons.length = 0 from rfl, show Sp.noGram.prods.length = 0 from rfl]
      rw [show faultV (Sp.noGram, (⟨4, 0, []⟩ : Sp.Fault)).2 = .agg #[.int .i64 4, .int .i64 0, .string ⟨#[]⟩] from rfl]
      go_wp2_with fail
      refine (ref_EqFaultG 4 0 4 0 [] [] _).mono ?_
      rintro e w3 ⟨rfl, hb3⟩
      rw [show decide (((4 : Int) = 4 ∧ (0 : Int) = 0) ∧ ([] : List UInt8) = []) = true by simp]
      obtain ⟨r0, _⟩ := two_firstc (hb3.mono (by simp))
      have k0 := cell_at (i := 0) r0; have k2 := cell_at (i := 2) r0
      have lk := lt_at r0
      have HB3 := Lib.hid hb3
      clear r0 hb3
      go_wp2_with fail
      go_ret
      exact ⟨rfl, HEND.out _ (((Below.refl _ w2).alloc (Nat.le_refl _) _).alloc (by simp) _) _ HB3.out⟩
    · rw [HEN.out] at hof
      (try dsimp only at hof)
      rw [if_neg h8] at hof
      have h8I : ¬ (8 : Int) < (nr : Int) := by have := HNR.out; omega
      obtain ⟨G, hG⟩ : ∃ G : Sp.Gram, G = ⟨Sp.mk0.toks ++ (if l = [] then [] else [⟨[120], true, 120, 0, 0, []⟩]), Sp.mk0.nons ++ [⟨[97], []⟩] ++ S.nons, ⟨0, [1001], -1, [], [], 0⟩ :: S.prods ++ [⟨1, S.right, if l = [] then -1 else 3, S.last, S.right, S.at_⟩], [], []⟩ := ⟨_, rfl⟩
      rw [← hG] at hof
      have HGP : Hid (G.prods = ⟨0, [1001], -1, [], [], 0⟩ :: S.prods ++ [⟨1, S.right, if l = [] then -1 else 3, S.last, S.right, S.at_⟩]) := Lib.hid (by rw [hG])
      have HGN : Hid (G.nons = [⟨[36, 97, 99, 99, 101, 112, 116], []⟩, ⟨[97], []⟩] ++ S.nons) := Lib.hid (by rw [hG]; rfl)
      have hpl : G.prods.length = na + 2 := by rw [HGP.out, List.length_append, List.length_cons, ← HNA.out]; rfl
      have hnl : G.nons.length = na + 2 := by rw [HGN.out, List.length_append, HOK.out.nlen, ← HNA.out]; simp; omega
      have HPL := Lib.hid hpl; have HNL := Lib.hid hnl
      have HOF := Lib.hid hof
      clear hbA hqa hqr hIA hru hof hwA HEN HSM h8 hG hpl hnl
      go_wp2_with fail
      refine HOF.out.mono ?_
      rintro e w2 ⟨hb2, gv, rfl, hgo⟩
      have hga := hgo.at
      obtain ⟨B, ta, tc, nna, nnc, ppa, ppc, rfl, _⟩ := hgo
      have HEND : Hid (∀ wb, Below w2.heap.size w2 wb → Below W.heap.size W wb) := Lib.hid (fun wb hb => (HIA.out.bel.trans (hb2.mono HIA.out.bel.size)).trans (hb.mono (Nat.le_trans HIA.out.bel.size hb2.size)))
      have HI2 := Lib.hid (HIA.out.keep hb2)
      obtain ⟨tv, nv, pv, ev, _, hn, fr, fa, hp, hpi⟩ := hga
      replace ev := Value.agg.inj ev
      simp only [Array.mk.injEq, List.cons.injEq] at ev
      obtain ⟨rfl, rfl, rfl, ev'⟩ := ev
      rw [HPL.out] at hp ⊢
      rw [HNL.out] at hn ⊢
      have HNO := Lib.hid hn; have HPR := Lib.hid hp; have HPI := Lib.hid hpi
      clear hn hp hpi ev' hb2 HIA HOF
      rw [show faultV (G, (⟨0, 0, []⟩ : Sp.Fault)).2 = .agg #[.int .i64 0, .int .i64 0, .string ⟨#[]⟩] from rfl]
      go_upto_block 2 with fail
      obtain ⟨wE, hwE⟩ : ∃ wE : World, wE = (w2.alloc (.cells #[.slice ta G.toks.length tc, .slice nna (na + 2) nnc, .slice ppa (na + 2) ppc, .string ⟨G.pro.toArray⟩, .string ⟨G.tail.toArray⟩] 65)).alloc (.cells #[.int .i64 0, .int .i64 0, .string ⟨#[]⟩] 68) := ⟨_, rfl⟩
      rw [← hwE]
      have HGE : Hid (wE.heap[w2.heap.size]? = some (.cells #[.slice ta G.toks.length tc, .slice nna (na + 2) nnc, .slice ppa (na + 2) ppc, .string ⟨G.pro.toArray⟩, .string ⟨G.tail.toArray⟩] 65 (0, 0))) := Lib.hid (by rw [hwE]; exact heap_old (heap_last w2 _) _)
      have HBE : Hid (Below w2.heap.size w2 wE) := Lib.hid (by rw [hwE]; exact ((Below.refl _ w2).alloc (Nat.le_refl _) _).alloc (by simp) _)
      clear hwE
      go_cut [] (fun wx => Below wE.heap.size wE wx)
      case first =>
        go_wp2_with fail
        go_loopg [13] na (fun q v13 wr => ∃ i : Nat, i ≤ na ∧ q = na - i ∧ v13 = .int .i64 i ∧ Below wE.heap.size wE wr)
        case atStart => exact ⟨0, by omega, rfl, rfl, Below.refl _ _⟩
        case round =>
          obtain ⟨i, hi, rfl, rfl, hbw⟩ := hrel
          by_cases hin : i < na
          · have hb2 : Below w2.heap.size w2 wr := HBE.out.trans (hbw.mono HBE.out.size)
            obtain ⟨p, hp⟩ : ∃ p, S.prods[i]? = some p := ⟨_, List.getElem?_eq_getElem (by rw [← HNA.out]; exact hin)⟩
            obtain ⟨hpl, hpr, hpc, j, hj, hpo, hpa⟩ := HOK.out.prods i p hp
            have hgp : G.prods[i + 1]? = some p := by
              rw [HGP.out, List.getElem?_append_left (by rw [List.length_cons, ← HNA.out]; omega), List.getElem?_cons_succ]
              exact hp
            obtain ⟨bp, op, rfl, hbp, t1⟩ := HPR.out.at (k := i + 1) (row := prodC (fr (i + 1)) (fa (i + 1)) p) (by rw [List.getElem?_mapIdx, hgp]; rfl)
            obtain ⟨r1, a1⟩ := HPI.out (i + 1) p hgp
            rw [hpr] at r1
            obtain ⟨fra, frc, efr⟩ := SlAt.form r1
            obtain ⟨faa, fac, efa⟩ := SlAt.form a1
            rw [List.length_map] at efr efa
            obtain ⟨m, hm⟩ : ∃ m, S.nons[i]? = some m := ⟨_, List.getElem?_eq_getElem (by rw [HOK.out.nlen, ← HNA.out]; exact hin)⟩
            have hmn := HOK.out.nons i m hm
            rw [show ((i + 1 : Nat) : Int) = (i : Int) + 1 by omega] at hmn
            have hgn : G.nons[i + 2]? = some m := by
              rw [HGN.out, List.getElem?_append_right (by simp)]
              simpa using hm
            obtain ⟨bn, on, rfl, hbn, t2⟩ := HNO.out.at (k := i + 2) (row := nonC m) (by rw [List.getElem?_map, hgn]; rfl)
            have hoa := HI2.out.args
            rw [List.length_map, ← HNA.out] at hoa
            obtain ⟨gA, gAc, hgA⟩ := own_form hoa (by omega)
            simp only [Value.slice.injEq] at hgA
            obtain ⟨rfl, _, rfl⟩ := hgA
            have hci : w2.cell? ⟨gA, i, none⟩ = some (f i) := by
              rw [hoa.cellAt i (by omega), List.getElem?_map, List.getElem?_range hin]
              rfl
            have hgl := (hoa.lt gA rfl).2
            obtain ⟨bk, hkid⟩ := HI2.out.kids i p.args (by rw [List.getElem?_map, hp]; rfl)
            have k1 := ints_own hkid
            obtain ⟨fia, fic, efi⟩ := SlAt.form k1
            rw [List.length_map] at efi
            have hal := HOK.out.alen p (List.mem_of_getElem? hp)
            have HEQ : Hid (∀ w', Below w2.heap.size w2 w' → Calls Tryd.prog 30 #[.slice faa p.args.length fac, .slice fia p.args.length fic] w' fun e w'' => e = .returned (.bool true) ∧ ∃ n, w'' = w'.drewN n) := Lib.hid (fun w' h => by
              rw [← efa, ← efi]
              exact eqI_same _ _ p.args w' (SlAt.below a1 h) (SlAt.below k1 h) (by omega))
            have HCE : Hid (∀ w', Below wE.heap.size wE w' → ((w'.cell? ⟨bp, op + (i + 1) * 6, none⟩ = some (.int .i64 ((i : Int) + 2))) ∧ w'.cell? ⟨bp, op + (i + 1) * 6 + 1, none⟩ = some (.slice fra 0 frc) ∧ w'.cell? ⟨bp, op + (i + 1) * 6 + 2, none⟩ = some (.int .i64 (-1)) ∧ w'.cell? ⟨bp, op + (i + 1) * 6 + 3, none⟩ = some (.string ⟨(Sp.codeOf j).toArray⟩) ∧ w'.cell? ⟨bp, op + (i + 1) * 6 + 4, none⟩ = some (.slice faa p.args.length fac) ∧ w'.cell? ⟨bp, op + (i + 1) * 6 + 5, none⟩ = some (.int .i64 (50 + (j : Int))) ∧ w'.cell? ⟨w2.heap.size, 1, none⟩ = some (.slice (some ⟨bn, on, none⟩) (na + 2) nnc) ∧ w'.cell? ⟨w2.heap.size, 2, none⟩ = some (.slice (some ⟨bp, op, none⟩) (na + 2) ppc) ∧ w'.cell? ⟨gA, i, none⟩ = some (.slice fia p.args.length fic) ∧ w'.cell? ⟨bn, on + (i + 2) * 2, none⟩ = some (.string ⟨(64 :: Lib.itoa ((i : Int) + 1)).toArray⟩) ∧ w2.heap.size < w'.heap.size ∧ bp < w'.heap.size ∧ bn < w'.heap.size ∧ gA < w'.heap.size)) := Lib.hid (fun w' h => by
              have h2 := HBE.out.trans (h.mono HBE.out.size)
              have v0 := t1 w' h2 0 _ rfl; have v1 := t1 w' h2 1 _ rfl; have v2 := t1 w' h2 2 _ rfl; have v3 := t1 w' h2 3 _ rfl; have v4 := t1 w' h2 4 _ rfl; have v5 := t1 w' h2 5 _ rfl
              have n0 := t2 w' h2 0 _ rfl
              rw [efr] at v1
              rw [efa] at v4
              rw [hpl] at v0; rw [hpc] at v2; rw [hpo] at v3; rw [hpa] at v5; rw [hmn] at n0
              rw [show ((i + 2 : Nat) : Int) = (i : Int) + 2 by omega] at v0
              simp only [Nat.add_zero] at v0 n0
              have g := (h.block _ (lt_at HGE.out)).trans HGE.out
              refine ⟨v0, v1, v2, v3, v4, v5, cell_at (i := 1) g, cell_at (i := 2) g, ?_, n0, lt_at g, ?_, ?_, ?_⟩
              · rw [← efi]
                exact (h2.cell (p := ⟨gA, i, none⟩) hgl).trans hci
              · have := h2.size; omega
              · have := h2.size; omega
              · have := h2.size; omega)
            have HPV : Hid (0 < i → ∃ z : Int, z < 50 + (j : Int) ∧ ∀ w', Below wE.heap.size wE w' → w'.cell? ⟨bp, op + i * 6 + 5, none⟩ = some (.int .i64 z)) := Lib.hid (fun h0 => by
              obtain ⟨i', rfl⟩ : ∃ i', i = i' + 1 := ⟨i - 1, by omega⟩
              obtain ⟨q, hq⟩ : ∃ q, S.prods[i']? = some q := ⟨_, List.getElem?_eq_getElem (by rw [← HNA.out]; omega)⟩
              have hlt := HOK.out.rise i' q p hq hp
              rw [hpa] at hlt
              have hgq : G.prods[i' + 1]? = some q := by
                rw [HGP.out, List.getElem?_append_left (by rw [List.length_cons, ← HNA.out]; omega), List.getElem?_cons_succ]
                exact hq
              obtain ⟨bp', op', ep', _, t3⟩ := HPR.out.at (k := i' + 1) (row := prodC (fr (i' + 1)) (fa (i' + 1)) q) (by rw [List.getElem?_mapIdx, hgq]; rfl)
              obtain ⟨rfl, rfl⟩ : bp = bp' ∧ op = op' := by simpa using ep'
              exact ⟨q.at_, hlt, fun w' h => t3 w' (HBE.out.trans (h.mono HBE.out.size)) 5 _ rfl⟩)
            have HBW := Lib.hid hbw
            have hj7 : j < 8 := by omega
            have hi7 : i < 8 := by omega
            have hiI : (i : Int) < (na : Int) := by omega
            have hi0I : (i : Int) < (na : Int) + 2 := by omega
            have hi1I : (i : Int) + 1 < (na : Int) + 2 := by omega
            have hi2I : (i : Int) + 2 < (na : Int) + 2 := by omega
            obtain ⟨s0, s1, s2, s3, s4, s5, s6, s7, s8, s9, s10, s11, s12, s13⟩ := HCE.out wr hbw
            clear hb2 hp hpl hpr hpc hpo hpa hgp t1 r1 a1 efr efa hm hmn hgn t2 hoa hci hkid k1 efi hal hbw hbp hbn hgl
            go_upto_region 30 with fail
            obtain ⟨wp, hwp⟩ : ∃ wp : World, wp = wr.alloc (.cells #[.int .i64 ((i : Int) + 2), .slice fra 0 frc, .int .i64 (-1), .string ⟨(Sp.codeOf j).toArray⟩, .slice faa p.args.length fac, .int .i64 (50 + (j : Int))] 77) := ⟨_, rfl⟩
            rw [← hwp]
            have hbp : Below wr.heap.size wr wp := by rw [hwp]; exact (Below.refl _ wr).alloc (Nat.le_refl _) _
            have hqp : wp.heap[wr.heap.size]? = some (.cells #[.int .i64 ((i : Int) + 2), .slice fra 0 frc, .int .i64 (-1), .string ⟨(Sp.codeOf j).toArray⟩, .slice faa p.args.length fac, .int .i64 (50 + (j : Int))] 77 (0, 0)) := by rw [hwp]; exact heap_last wr _
            have HBP : Hid (Below wE.heap.size wE wp) := Lib.hid (HBW.out.trans (hbp.mono HBW.out.size))
            have HBD : Hid (Below w2.heap.size w2 wp.drew) := Lib.hid (by
              have h := HBE.out.trans (HBP.out.mono HBE.out.size)
              exact ⟨h.os, h.tape, h.output, h.size, h.block⟩)
            have HS0 : Hid (∀ w', Below wp.heap.size wp w' → (w'.cell? ⟨wr.heap.size, 0, none⟩ = some (.int .i64 ((i : Int) + 2)) ∧ w'.cell? ⟨wr.heap.size, 1, none⟩ = some (.slice fra 0 frc) ∧ w'.cell? ⟨wr.heap.size, 2, none⟩ = some (.int .i64 (-1)) ∧ w'.cell? ⟨wr.heap.size, 3, none⟩ = some (.string ⟨(Sp.codeOf j).toArray⟩) ∧ w'.cell? ⟨wr.heap.size, 4, none⟩ = some (.slice faa p.args.length fac) ∧ w'.cell? ⟨wr.heap.size, 5, none⟩ = some (.int .i64 (50 + (j : Int))) ∧ w'.cell? ⟨w2.heap.size, 1, none⟩ = some (.slice (some ⟨bn, on, none⟩) (na + 2) nnc) ∧ w'.cell? ⟨w2.heap.size, 2, none⟩ = some (.slice (some ⟨bp, op, none⟩) (na + 2) ppc) ∧ w'.cell? ⟨gA, i, none⟩ = some (.slice fia p.args.length fic) ∧ w'.cell? ⟨bn, on + (i + 2) * 2, none⟩ = some (.string ⟨(64 :: Lib.itoa ((i : Int) + 1)).toArray⟩) ∧ wr.heap.size < w'.heap.size ∧ w2.heap.size < w'.heap.size ∧ bp < w'.heap.size ∧ bn < w'.heap.size ∧ gA < w'.heap.size)) := Lib.hid (fun w' h => by
              have q := (h.block _ (lt_at hqp)).trans hqp
              obtain ⟨_, _, _, _, _, _, c7, c8, c9, c10, c11, c12, c13, c14⟩ := HCE.out w' (HBP.out.trans (h.mono HBP.out.size))
              exact ⟨cell_at (i := 0) q, cell_at (i := 1) q, cell_at (i := 2) q, cell_at (i := 3) q, cell_at (i := 4) q, cell_at (i := 5) q, c7, c8, c9, c10, lt_at q, c11, c12, c13, c14⟩)
            have hcs := code_str j
            have hns := at_str i
            have hg1 : ¬ 9223372036854775807 < 1 + (Lib.itoa (j : Int)).length := by have := itoa7 (i := j) (by omega); omega
            have hg2 : ¬ 9223372036854775807 < 1 + (Lib.itoa (j : Int)).length + 1 := by have := itoa7 (i := j) (by omega); omega
            have hg3 : ¬ 9223372036854775807 < 1 + (Lib.itoa ((i : Int) + 1)).length := by
              have := itoa9 (i := i + 1) (by omega)
              rw [show ((i + 1 : Nat) : Int) = (i : Int) + 1 by omega] at this
              omega
            have hn1 : (0 : Int) ≤ (i : Int) + 1 := by omega
            have hn2 : (0 : Int) ≤ (i : Int) + 2 := by omega
            have hn3 : (0 : Int) ≤ (j : Int) := by omega
            have hd1 : (0 : Int) ≤ (i : Int) + 1 ∧ (i : Int) + 1 < 60001 := by omega
            have hd2 : (0 : Int) ≤ (j : Int) ∧ (j : Int) < 60001 := by omega
            have hlt : decide (50 + (j : Int) < 50) = false := decide_eq_false (by omega)
            have htn : ((i : Int) + 2).toNat = i + 2 := by omega
            have hw1 : IntKind.i64.wrap ((i : Int) + 2) = (i : Int) + 2 := IntWalk.i64_in _ ⟨by omega, by omega⟩
            have hw2 : IntKind.i64.wrap ((i : Int) + 1) = (i : Int) + 1 := IntWalk.i64_in _ ⟨by clear hw1; omega, by clear hw1; omega⟩
            have hw3 : IntKind.i64.wrap (50 + (j : Int) - 50) = (j : Int) := by
              rw [show 50 + (j : Int) - 50 = (j : Int) by clear hw1 hw2; omega]
              exact IntWalk.i64_in _ ⟨by clear hw1 hw2; omega, by clear hw1 hw2; omega⟩
            have HD1 := Lib.hid hd1; have HD2 := Lib.hid hd2
            have hcase : i = 0 ∨ 0 < i := by clear hw1 hw2 hw3; omega
            clear hwp hbp hqp s0 s1 s2 s3 s4 s5 s6 s7 s8 s9 s10 s11 s12 s13 hd1 hd2
            rcases hcase with h0 | h0
            · have hgt : decide ((0 : Int) < (i : Int)) = false := decide_eq_false (by clear hw1 hw2 hw3; omega)
              have hgn : decide (0 < i) = false := decide_eq_false (by clear hw1 hw2 hw3; omega)
              clear h0 HPV
              refine wp_region_plan (fun w' : World => (w'.cell? ⟨wr.heap.size, 0, none⟩ = some (.int .i64 ((i : Int) + 2)) ∧ w'.cell? ⟨wr.heap.size, 1, none⟩ = some (.slice fra 0 frc) ∧ w'.cell? ⟨wr.heap.size, 2, none⟩ = some (.int .i64 (-1)) ∧ w'.cell? ⟨wr.heap.size, 3, none⟩ = some (.string ⟨(Sp.codeOf j).toArray⟩) ∧ w'.cell? ⟨wr.heap.size, 4, none⟩ = some (.slice faa p.args.length fac) ∧ w'.cell? ⟨wr.heap.size, 5, none⟩ = some (.int .i64 (50 + (j : Int))) ∧ w'.cell? ⟨w2.heap.size, 1, none⟩ = some (.slice (some ⟨bn, on, none⟩) (na + 2) nnc) ∧ w'.cell? ⟨w2.heap.size, 2, none⟩ = some (.slice (some ⟨bp, op, none⟩) (na + 2) ppc) ∧ w'.cell? ⟨gA, i, none⟩ = some (.slice fia p.args.length fic) ∧ w'.cell? ⟨bn, on + (i + 2) * 2, none⟩ = some (.string ⟨(64 :: Lib.itoa ((i : Int) + 1)).toArray⟩) ∧ wr.heap.size < w'.heap.size ∧ w2.heap.size < w'.heap.size ∧ bp < w'.heap.size ∧ bn < w'.heap.size ∧ gA < w'.heap.size)) [] (.take 0 (.take 1 (.take 2 (.take 3 (.take 4 (.take 5 (.take 6 (.take 7 (.take 8 (.take 9 (.take 10 (.take 11 (.take 12 (.take 13 (.take 14 (.take 15 (.take 16 (.take 17 (.one 18 (.take 19 (.take 20 (.take 21 (.take 22 (.take 23 (.take 24 (.take 25 (.take 26 (.take 27 (.take 28 (.take 29 (.take 30 (.take 31 (.take 32 (.take 33 (.take 34 (.take 35 (.take 36 (.one 37 (.take 38 (.take 39 (.take 40 (.take 41 (.take 42 (.take 43 (.take 44 (.take 45 (.take 46 (.take 47 (.take 48 (.take 49 (.take 50 (.take 51 (.one 52 (.take 53 (.take 54 (.take 55 (.take 56 (.take 57 (.take 58 (.take 59 (.take 60 (.take 61 (.take 62 (.take 63 (.take 64 (.take 65 (.take 66 (.take 67 (.take 68 (.take 69 (.take 70 (.done)))))))))))))))))))))))))))))))))))))))))))))))))))))))))))))))))))))))) (by kernel_rfl) (by kernel_rfl) (fun _ _ _ _ h => h) ?_
              have hSw := HS0.out _ (below_drewN (Below.refl _ wp) 1)
              refine wpPlan_takeD (v := ?vw1) rfl rfl hSw (by rfl) ?yw1 ?_
              case yw1 => (intro w hSx; (try dsimp only at hSx); go_simp; first | done | with_reducible rfl | rfl)
              (try simp only [Act.put, List.setIfInBounds_toArray, List.set_cons_zero, List.set_cons_succ])
              refine wpPlan_takeD (v := ?vw2) rfl rfl hSw (by rfl) ?yw2 ?_
              case yw2 => (intro w hSx; (try dsimp only at hSx); go_simp; first | done | with_reducible rfl | rfl)
              (try simp only [Act.put, List.setIfInBounds_toArray, List.set_cons_zero, List.set_cons_succ])
              refine wpPlan_takeD (v := ?vw3) rfl rfl hSw (by rfl) ?yw3 ?_
              case yw3 => (intro w hSx; (try dsimp only at hSx); go_simp; first | done | with_reducible rfl | rfl)
              (try simp only [Act.put, List.setIfInBounds_toArray, List.set_cons_zero, List.set_cons_succ])
              refine wpPlan_takeD (v := ?vw4) rfl rfl hSw (by rfl) ?yw4 ?_
              case yw4 => (intro w hSx; (try dsimp only at hSx); go_simp; first | done | with_reducible rfl | rfl)
              (try simp only [Act.put, List.setIfInBounds_toArray, List.set_cons_zero, List.set_cons_succ])
              refine wpPlan_takeD (v := ?vw5) rfl rfl hSw (by rfl) ?yw5 ?_
              case yw5 => (intro w hSx; (try dsimp only at hSx); go_simp; first | done | with_reducible rfl | rfl)
              (try simp only [Act.put, List.setIfInBounds_toArray, List.set_cons_zero, List.set_cons_succ])
              refine wpPlan_takeD (v := ?vw6) rfl rfl hSw (by rfl) ?yw6 ?_
              case yw6 => (intro w hSx; (try dsimp only at hSx); go_simp; first | done | with_reducible rfl | rfl)
              (try simp only [Act.put, List.setIfInBounds_toArray, List.set_cons_zero, List.set_cons_succ])
              refine wpPlan_takeD (v := ?vw7) rfl rfl hSw (by rfl) ?yw7 ?_
              case yw7 => (intro w hSx; (try dsimp only at hSx); go_simp; first | done | with_reducible rfl | rfl)
              (try simp only [Act.put, List.setIfInBounds_toArray, List.set_cons_zero, List.set_cons_succ])
              refine wpPlan_takeD (v := ?vw8) rfl rfl hSw (by rfl) ?yw8 ?_
              case yw8 => (intro w hSx; (try dsimp only at hSx); go_simp; first | done | with_reducible rfl | rfl)
              (try simp only [Act.put, List.setIfInBounds_toArray, List.set_cons_zero, List.set_cons_succ])
              refine wpPlan_takeD (v := ?vw9) rfl rfl hSw (by rfl) ?yw9 ?_
              case yw9 => (intro w hSx; (try dsimp only at hSx); go_simp; first | done | with_reducible rfl | rfl)
              (try simp only [Act.put, List.setIfInBounds_toArray, List.set_cons_zero, List.set_cons_succ])
              refine wpPlan_takeD (v := ?vw10) rfl rfl hSw (by rfl) ?yw10 ?_
              case yw10 => (intro w hSx; (try dsimp only at hSx); go_simp; first | done | with_reducible rfl | rfl)
              (try simp only [Act.put, List.setIfInBounds_toArray, List.set_cons_zero, List.set_cons_succ])
              refine wpPlan_takeD (v := ?vw11) rfl rfl hSw (by rfl) ?yw11 ?_
              case yw11 => (intro w hSx; (try dsimp only at hSx); go_simp; first | done | with_reducible rfl | rfl)
              (try simp only [Act.put, List.setIfInBounds_toArray, List.set_cons_zero, List.set_cons_succ])
              refine wpPlan_takeD (v := ?vw12) rfl rfl hSw (by rfl) ?yw12 ?_
              case yw12 => (intro w hSx; (try dsimp only at hSx); go_simp; first | done | with_reducible rfl | rfl)
              (try simp only [Act.put, List.setIfInBounds_toArray, List.set_cons_zero, List.set_cons_succ])
              refine wpPlan_takeD (v := ?vw13) rfl rfl hSw (by rfl) ?yw13 ?_
              case yw13 => (intro w hSx; (try dsimp only at hSx); go_simp; first | done | with_reducible rfl | rfl)
              (try simp only [Act.put, List.setIfInBounds_toArray, List.set_cons_zero, List.set_cons_succ])
              refine wpPlan_takeD (v := ?vw14) rfl rfl hSw (by rfl) ?yw14 ?_
              case yw14 => (intro w hSx; (try dsimp only at hSx); go_simp; first | done | with_reducible rfl | rfl)
              (try simp only [Act.put, List.setIfInBounds_toArray, List.set_cons_zero, List.set_cons_succ])
              refine wpPlan_takeD (v := ?vw15) rfl rfl hSw (by rfl) ?yw15 ?_
              case yw15 => (intro w hSx; (try dsimp only at hSx); go_simp; first | done | with_reducible rfl | rfl)
              (try simp only [Act.put, List.setIfInBounds_toArray, List.set_cons_zero, List.set_cons_succ])
              refine wpPlan_takeD (v := ?vw16) rfl rfl hSw (by rfl) ?yw16 ?_
              case yw16 => (intro w hSx; (try dsimp only at hSx); go_simp; first | done | with_reducible rfl | rfl)
              (try simp only [Act.put, List.setIfInBounds_toArray, List.set_cons_zero, List.set_cons_succ])
              refine wpPlan_takeD (v := ?vw17) rfl rfl hSw (by rfl) ?yw17 ?_
              case yw17 => (intro w hSx; (try dsimp only at hSx); go_simp; first | done | with_reducible rfl | rfl)
              (try simp only [Act.put, List.setIfInBounds_toArray, List.set_cons_zero, List.set_cons_succ])
              refine wpPlan_takeD (v := ?vw18) rfl rfl hSw (by rfl) ?yw18 ?_
              case yw18 => (intro w hSx; (try dsimp only at hSx); go_simp; first | done | with_reducible rfl | rfl)
              (try simp only [Act.put, List.setIfInBounds_toArray, List.set_cons_zero, List.set_cons_succ])
              refine wpPlan_run rfl (by rfl) (fun K' hK => ?_)
              (go_simp; go_at_call 30; refine (HEQ.out wp.drew HBD.out).mono ?_; rintro e w5 ⟨rfl, n5, hw5⟩; have hb5' : Below wp.heap.size wp w5 := (by rw [hw5]; exact below_drewN (show Below wp.heap.size wp wp.drew from below_drewN (Below.refl _ wp) 1) _); clear hw5)
              refine hK _ _ (.inr ?_) ?_
              · exact HS0.out _ hb5'
              clear hK K' hSw
              have hSw := HS0.out _ hb5'
              (try simp only [Act.put, List.setIfInBounds_toArray, List.set_cons_zero, List.set_cons_succ])
              refine wpPlan_takeD (v := ?vw19) rfl rfl hSw (by rfl) ?yw19 ?_
              case yw19 => (intro w hSx; (try dsimp only at hSx); go_simp; first | done | with_reducible rfl | rfl)
              (try simp only [Act.put, List.setIfInBounds_toArray, List.set_cons_zero, List.set_cons_succ])
              refine wpPlan_takeD (v := ?vw20) rfl rfl hSw (by rfl) ?yw20 ?_
              case yw20 => (intro w hSx; (try dsimp only at hSx); go_simp; first | done | with_reducible rfl | rfl)
              (try simp only [Act.put, List.setIfInBounds_toArray, List.set_cons_zero, List.set_cons_succ])
              refine wpPlan_takeD (v := ?vw21) rfl rfl hSw (by rfl) ?yw21 ?_
              case yw21 => (intro w hSx; (try dsimp only at hSx); go_simp; first | done | with_reducible rfl | rfl)
              (try simp only [Act.put, List.setIfInBounds_toArray, List.set_cons_zero, List.set_cons_succ])
              refine wpPlan_takeD (v := ?vw22) rfl rfl hSw (by rfl) ?yw22 ?_
              case yw22 => (intro w hSx; (try dsimp only at hSx); go_simp; first | done | with_reducible rfl | rfl)
              (try simp only [Act.put, List.setIfInBounds_toArray, List.set_cons_zero, List.set_cons_succ])
              refine wpPlan_takeD (v := ?vw23) rfl rfl hSw (by rfl) ?yw23 ?_
              case yw23 => (intro w hSx; (try dsimp only at hSx); go_simp; first | done | with_reducible rfl | rfl)
              (try simp only [Act.put, List.setIfInBounds_toArray, List.set_cons_zero, List.set_cons_succ])
              refine wpPlan_takeD (v := ?vw24) rfl rfl hSw (by rfl) ?yw24 ?_
              case yw24 => (intro w hSx; (try dsimp only at hSx); go_simp; first | done | with_reducible rfl | rfl)
              (try simp only [Act.put, List.setIfInBounds_toArray, List.set_cons_zero, List.set_cons_succ])
              refine wpPlan_takeD (v := ?vw25) rfl rfl hSw (by rfl) ?yw25 ?_
              case yw25 => (intro w hSx; (try dsimp only at hSx); go_simp; first | done | with_reducible rfl | rfl)
              (try simp only [Act.put, List.setIfInBounds_toArray, List.set_cons_zero, List.set_cons_succ])
              refine wpPlan_takeD (v := ?vw26) rfl rfl hSw (by rfl) ?yw26 ?_
              case yw26 => (intro w hSx; (try dsimp only at hSx); go_simp; first | done | with_reducible rfl | rfl)
              (try simp only [Act.put, List.setIfInBounds_toArray, List.set_cons_zero, List.set_cons_succ])
              refine wpPlan_takeD (v := ?vw27) rfl rfl hSw (by rfl) ?yw27 ?_
              case yw27 => (intro w hSx; (try dsimp only at hSx); go_simp; first | done | with_reducible rfl | rfl)
              (try simp only [Act.put, List.setIfInBounds_toArray, List.set_cons_zero, List.set_cons_succ])
              refine wpPlan_takeD (v := ?vw28) rfl rfl hSw (by rfl) ?yw28 ?_
              case yw28 => (intro w hSx; (try dsimp only at hSx); go_simp; first | done | with_reducible rfl | rfl)
              (try simp only [Act.put, List.setIfInBounds_toArray, List.set_cons_zero, List.set_cons_succ])
              refine wpPlan_takeD (v := ?vw29) rfl rfl hSw (by rfl) ?yw29 ?_
              case yw29 => (intro w hSx; (try dsimp only at hSx); go_simp; first | done | with_reducible rfl | rfl)
              (try simp only [Act.put, List.setIfInBounds_toArray, List.set_cons_zero, List.set_cons_succ])
              refine wpPlan_takeD (v := ?vw30) rfl rfl hSw (by rfl) ?yw30 ?_
              case yw30 => (intro w hSx; (try dsimp only at hSx); go_simp; first | done | with_reducible rfl | rfl)
              (try simp only [Act.put, List.setIfInBounds_toArray, List.set_cons_zero, List.set_cons_succ])
              refine wpPlan_takeD (v := ?vw31) rfl rfl hSw (by rfl) ?yw31 ?_
              case yw31 => (intro w hSx; (try dsimp only at hSx); go_simp; first | done | with_reducible rfl | rfl)
              (try simp only [Act.put, List.setIfInBounds_toArray, List.set_cons_zero, List.set_cons_succ])
              refine wpPlan_takeD (v := ?vw32) rfl rfl hSw (by rfl) ?yw32 ?_
              case yw32 => (intro w hSx; (try dsimp only at hSx); go_simp; first | done | with_reducible rfl | rfl)
              (try simp only [Act.put, List.setIfInBounds_toArray, List.set_cons_zero, List.set_cons_succ])
              refine wpPlan_takeD (v := ?vw33) rfl rfl hSw (by rfl) ?yw33 ?_
              case yw33 => (intro w hSx; (try dsimp only at hSx); go_simp; first | done | with_reducible rfl | rfl)
              (try simp only [Act.put, List.setIfInBounds_toArray, List.set_cons_zero, List.set_cons_succ])
              refine wpPlan_takeD (v := ?vw34) rfl rfl hSw (by rfl) ?yw34 ?_
              case yw34 => (intro w hSx; (try dsimp only at hSx); go_simp; first | done | with_reducible rfl | rfl)
              (try simp only [Act.put, List.setIfInBounds_toArray, List.set_cons_zero, List.set_cons_succ])
              refine wpPlan_takeD (v := ?vw35) rfl rfl hSw (by rfl) ?yw35 ?_
              case yw35 => (intro w hSx; (try dsimp only at hSx); go_simp; first | done | with_reducible rfl | rfl)
              (try simp only [Act.put, List.setIfInBounds_toArray, List.set_cons_zero, List.set_cons_succ])
              refine wpPlan_takeD (v := ?vw36) rfl rfl hSw (by rfl) ?yw36 ?_
              case yw36 => (intro w hSx; (try dsimp only at hSx); go_simp; first | done | with_reducible rfl | rfl)
              (try simp only [Act.put, List.setIfInBounds_toArray, List.set_cons_zero, List.set_cons_succ])
              refine wpPlan_run rfl (by rfl) (fun K' hK => ?_)
              (go_simp; go_at_call 21; refine (ref_Digits (j : Int) _ HD2.out.1 HD2.out.2).mono ?_; rintro e w6 ⟨rfl, hb6⟩; have hb6' : Below wp.heap.size wp w6 := hb5'.trans (hb6.mono hb5'.size); clear hb6)
              refine hK _ _ (.inr ?_) ?_
              · exact HS0.out _ hb6'
              clear hK K' hSw
              have hSw := HS0.out _ hb6'
              (try simp only [Act.put, List.setIfInBounds_toArray, List.set_cons_zero, List.set_cons_succ])
              refine wpPlan_takeD (v := ?vw37) rfl rfl hSw (by rfl) ?yw37 ?_
              case yw37 => (intro w hSx; (try dsimp only at hSx); go_simp; first | done | with_reducible rfl | rfl)
              (try simp only [Act.put, List.setIfInBounds_toArray, List.set_cons_zero, List.set_cons_succ])
              refine wpPlan_takeD (v := ?vw38) rfl rfl hSw (by rfl) ?yw38 ?_
              case yw38 => (intro w hSx; (try dsimp only at hSx); go_simp; first | done | with_reducible rfl | rfl)
              (try simp only [Act.put, List.setIfInBounds_toArray, List.set_cons_zero, List.set_cons_succ])
              refine wpPlan_takeD (v := ?vw39) rfl rfl hSw (by rfl) ?yw39 ?_
              case yw39 => (intro w hSx; (try dsimp only at hSx); go_simp; first | done | with_reducible rfl | rfl)
              (try simp only [Act.put, List.setIfInBounds_toArray, List.set_cons_zero, List.set_cons_succ])
              refine wpPlan_takeD (v := ?vw40) rfl rfl hSw (by rfl) ?yw40 ?_
              case yw40 => (intro w hSx; (try dsimp only at hSx); go_simp; first | done | with_reducible rfl | rfl)
              (try simp only [Act.put, List.setIfInBounds_toArray, List.set_cons_zero, List.set_cons_succ])
              refine wpPlan_takeD (v := ?vw41) rfl rfl hSw (by rfl) ?yw41 ?_
              case yw41 => (intro w hSx; (try dsimp only at hSx); go_simp; first | done | with_reducible rfl | rfl)
              (try simp only [Act.put, List.setIfInBounds_toArray, List.set_cons_zero, List.set_cons_succ])
              refine wpPlan_takeD (v := ?vw42) rfl rfl hSw (by rfl) ?yw42 ?_
              case yw42 => (intro w hSx; (try dsimp only at hSx); go_simp; first | done | with_reducible rfl | rfl)
              (try simp only [Act.put, List.setIfInBounds_toArray, List.set_cons_zero, List.set_cons_succ])
              refine wpPlan_takeD (v := ?vw43) rfl rfl hSw (by rfl) ?yw43 ?_
              case yw43 => (intro w hSx; (try dsimp only at hSx); go_simp; first | done | with_reducible rfl | rfl)
              (try simp only [Act.put, List.setIfInBounds_toArray, List.set_cons_zero, List.set_cons_succ])
              refine wpPlan_takeD (v := ?vw44) rfl rfl hSw (by rfl) ?yw44 ?_
              case yw44 => (intro w hSx; (try dsimp only at hSx); go_simp; first | done | with_reducible rfl | rfl)
              (try simp only [Act.put, List.setIfInBounds_toArray, List.set_cons_zero, List.set_cons_succ])
              refine wpPlan_takeD (v := ?vw45) rfl rfl hSw (by rfl) ?yw45 ?_
              case yw45 => (intro w hSx; (try dsimp only at hSx); go_simp; first | done | with_reducible rfl | rfl)
              (try simp only [Act.put, List.setIfInBounds_toArray, List.set_cons_zero, List.set_cons_succ])
              refine wpPlan_takeD (v := ?vw46) rfl rfl hSw (by rfl) ?yw46 ?_
              case yw46 => (intro w hSx; (try dsimp only at hSx); go_simp; first | done | with_reducible rfl | rfl)
              (try simp only [Act.put, List.setIfInBounds_toArray, List.set_cons_zero, List.set_cons_succ])
              refine wpPlan_takeD (v := ?vw47) rfl rfl hSw (by rfl) ?yw47 ?_
              case yw47 => (intro w hSx; (try dsimp only at hSx); go_simp; first | done | with_reducible rfl | rfl)
              (try simp only [Act.put, List.setIfInBounds_toArray, List.set_cons_zero, List.set_cons_succ])
              refine wpPlan_takeD (v := ?vw48) rfl rfl hSw (by rfl) ?yw48 ?_
              case yw48 => (intro w hSx; (try dsimp only at hSx); go_simp; first | done | with_reducible rfl | rfl)
              (try simp only [Act.put, List.setIfInBounds_toArray, List.set_cons_zero, List.set_cons_succ])
              refine wpPlan_takeD (v := ?vw49) rfl rfl hSw (by rfl) ?yw49 ?_
              case yw49 => (intro w hSx; (try dsimp only at hSx); go_simp; first | done | with_reducible rfl | rfl)
              (try simp only [Act.put, List.setIfInBounds_toArray, List.set_cons_zero, List.set_cons_succ])
              refine wpPlan_takeD (v := ?vw50) rfl rfl hSw (by rfl) ?yw50 ?_
              case yw50 => (intro w hSx; (try dsimp only at hSx); go_simp; first | done | with_reducible rfl | rfl)
              (try simp only [Act.put, List.setIfInBounds_toArray, List.set_cons_zero, List.set_cons_succ])
              refine wpPlan_run rfl (by rfl) (fun K' hK => ?_)
              (go_simp; go_at_call 21; refine (ref_Digits ((i : Int) + 1) _ HD1.out.1 HD1.out.2).mono ?_; rintro e w7 ⟨rfl, hb7⟩; have hb7' : Below wp.heap.size wp w7 := hb6'.trans (hb7.mono hb6'.size); clear hb7)
              refine hK _ _ (.inr ?_) ?_
              · exact HS0.out _ hb7'
              clear hK K' hSw
              have hSw := HS0.out _ hb7'
              (try simp only [Act.put, List.setIfInBounds_toArray, List.set_cons_zero, List.set_cons_succ])
              refine wpPlan_takeD (v := ?vw51) rfl rfl hSw (by rfl) ?yw51 ?_
              case yw51 => (intro w hSx; (try dsimp only at hSx); go_simp; first | done | with_reducible rfl | rfl)
              (try simp only [Act.put, List.setIfInBounds_toArray, List.set_cons_zero, List.set_cons_succ])
              refine wpPlan_takeD (v := ?vw52) rfl rfl hSw (by rfl) ?yw52 ?_
              case yw52 => (intro w hSx; (try dsimp only at hSx); go_simp; first | done | with_reducible rfl | rfl)
              (try simp only [Act.put, List.setIfInBounds_toArray, List.set_cons_zero, List.set_cons_succ])
              refine wpPlan_takeD (v := ?vw53) rfl rfl hSw (by rfl) ?yw53 ?_
              case yw53 => (intro w hSx; (try dsimp only at hSx); go_simp; first | done | with_reducible rfl | rfl)
              (try simp only [Act.put, List.setIfInBounds_toArray, List.set_cons_zero, List.set_cons_succ])
              refine wpPlan_takeD (v := ?vw54) rfl rfl hSw (by rfl) ?yw54 ?_
              case yw54 => (intro w hSx; (try dsimp only at hSx); go_simp; first | done | with_reducible rfl | rfl)
              (try simp only [Act.put, List.setIfInBounds_toArray, List.set_cons_zero, List.set_cons_succ])
              refine wpPlan_takeD (v := ?vw55) rfl rfl hSw (by rfl) ?yw55 ?_
              case yw55 => (intro w hSx; (try dsimp only at hSx); go_simp; first | done | with_reducible rfl | rfl)
              (try simp only [Act.put, List.setIfInBounds_toArray, List.set_cons_zero, List.set_cons_succ])
              refine wpPlan_takeD (v := ?vw56) rfl rfl hSw (by rfl) ?yw56 ?_
              case yw56 => (intro w hSx; (try dsimp only at hSx); go_simp; first | done | with_reducible rfl | rfl)
              (try simp only [Act.put, List.setIfInBounds_toArray, List.set_cons_zero, List.set_cons_succ])
              refine wpPlan_takeD (v := ?vw57) rfl rfl hSw (by rfl) ?yw57 ?_
              case yw57 => (intro w hSx; (try dsimp only at hSx); go_simp; first | done | with_reducible rfl | rfl)
              (try simp only [Act.put, List.setIfInBounds_toArray, List.set_cons_zero, List.set_cons_succ])
              refine wpPlan_noneD rfl rfl hSw (by rfl) ?_
              (try simp only [Act.put, List.setIfInBounds_toArray, List.set_cons_zero, List.set_cons_succ])
              refine wpPlan_noneD rfl rfl hSw (by rfl) ?_
              (try simp only [Act.put, List.setIfInBounds_toArray, List.set_cons_zero, List.set_cons_succ])
              refine wpPlan_noneD rfl rfl hSw (by rfl) ?_
              (try simp only [Act.put, List.setIfInBounds_toArray, List.set_cons_zero, List.set_cons_succ])
              refine wpPlan_noneD rfl rfl hSw (by rfl) ?_
              (try simp only [Act.put, List.setIfInBounds_toArray, List.set_cons_zero, List.set_cons_succ])
              refine wpPlan_noneD rfl rfl hSw (by rfl) ?_
              (try simp only [Act.put, List.setIfInBounds_toArray, List.set_cons_zero, List.set_cons_succ])
              refine wpPlan_noneD rfl rfl hSw (by rfl) ?_
              (try simp only [Act.put, List.setIfInBounds_toArray, List.set_cons_zero, List.set_cons_succ])
              refine wpPlan_noneD rfl rfl hSw (by rfl) ?_
              (try simp only [Act.put, List.setIfInBounds_toArray, List.set_cons_zero, List.set_cons_succ])
              refine wpPlan_noneD rfl rfl hSw (by rfl) ?_
              (try simp only [Act.put, List.setIfInBounds_toArray, List.set_cons_zero, List.set_cons_succ])
              refine wpPlan_noneD rfl rfl hSw (by rfl) ?_
              (try simp only [Act.put, List.setIfInBounds_toArray, List.set_cons_zero, List.set_cons_succ])
              refine wpPlan_takeD (v := ?vw58) rfl rfl hSw (by rfl) ?yw58 ?_
              case yw58 => (intro w hSx; (try dsimp only at hSx); go_simp; first | done | with_reducible rfl | rfl)
              (try simp only [Act.put, List.setIfInBounds_toArray, List.set_cons_zero, List.set_cons_succ])
              refine wpPlan_takeD (v := ?vw59) rfl rfl hSw (by rfl) ?yw59 ?_
              case yw59 => (intro w hSx; (try dsimp only at hSx); go_simp; first | done | with_reducible rfl | rfl)
              (try simp only [Act.put, List.setIfInBounds_toArray, List.set_cons_zero, List.set_cons_succ])
              refine wpPlan_done ?_
              clear hcs hns hg1 hg2 hg3 hn1 hn2 hn3 hlt htn hw1 hw2 hw3 hgt hgn
              go_wp2_with fail
              go_roundg (na - (i + 1))
              case measure => omega
              case rel => exact ⟨i + 1, by omega, rfl, by go_num, HBP.out.trans (hb7'.mono HBP.out.size)⟩
            · obtain ⟨z, hz, hzc⟩ := HPV.out h0
              have HZC := Lib.hid hzc
              have HS1 : Hid (∀ w', Below wp.heap.size wp w' → (w'.cell? ⟨bp, op + i * 6 + 5, none⟩ = some (.int .i64 z) ∧ (w'.cell? ⟨wr.heap.size, 0, none⟩ = some (.int .i64 ((i : Int) + 2)) ∧ w'.cell? ⟨wr.heap.size, 1, none⟩ = some (.slice fra 0 frc) ∧ w'.cell? ⟨wr.heap.size, 2, none⟩ = some (.int .i64 (-1)) ∧ w'.cell? ⟨wr.heap.size, 3, none⟩ = some (.string ⟨(Sp.codeOf j).toArray⟩) ∧ w'.cell? ⟨wr.heap.size, 4, none⟩ = some (.slice faa p.args.length fac) ∧ w'.cell? ⟨wr.heap.size, 5, none⟩ = some (.int .i64 (50 + (j : Int))) ∧ w'.cell? ⟨w2.heap.size, 1, none⟩ = some (.slice (some ⟨bn, on, none⟩) (na + 2) nnc) ∧ w'.cell? ⟨w2.heap.size, 2, none⟩ = some (.slice (some ⟨bp, op, none⟩) (na + 2) ppc) ∧ w'.cell? ⟨gA, i, none⟩ = some (.slice fia p.args.length fic) ∧ w'.cell? ⟨bn, on + (i + 2) * 2, none⟩ = some (.string ⟨(64 :: Lib.itoa ((i : Int) + 1)).toArray⟩) ∧ wr.heap.size < w'.heap.size ∧ w2.heap.size < w'.heap.size ∧ bp < w'.heap.size ∧ bn < w'.heap.size ∧ gA < w'.heap.size))) := Lib.hid (fun w' h => ⟨HZC.out w' (HBP.out.trans (h.mono HBP.out.size)), HS0.out w' h⟩)
              have hgt : decide ((0 : Int) < (i : Int)) = true := decide_eq_true (by clear hw1 hw2 hw3; omega)
              have hgn : decide (0 < i) = true := decide_eq_true (by clear hw1 hw2 hw3; omega)
              have hle : decide (50 + (j : Int) ≤ z) = false := decide_eq_false (by clear hw1 hw2 hw3; omega)
              clear h0 HPV hzc hz
              refine wp_region_plan (fun w' : World => (w'.cell? ⟨bp, op + i * 6 + 5, none⟩ = some (.int .i64 z) ∧ (w'.cell? ⟨wr.heap.size, 0, none⟩ = some (.int .i64 ((i : Int) + 2)) ∧ w'.cell? ⟨wr.heap.size, 1, none⟩ = some (.slice fra 0 frc) ∧ w'.cell? ⟨wr.heap.size, 2, none⟩ = some (.int .i64 (-1)) ∧ w'.cell? ⟨wr.heap.size, 3, none⟩ = some (.string ⟨(Sp.codeOf j).toArray⟩) ∧ w'.cell? ⟨wr.heap.size, 4, none⟩ = some (.slice faa p.args.length fac) ∧ w'.cell? ⟨wr.heap.size, 5, none⟩ = some (.int .i64 (50 + (j : Int))) ∧ w'.cell? ⟨w2.heap.size, 1, none⟩ = some (.slice (some ⟨bn, on, none⟩) (na + 2) nnc) ∧ w'.cell? ⟨w2.heap.size, 2, none⟩ = some (.slice (some ⟨bp, op, none⟩) (na + 2) ppc) ∧ w'.cell? ⟨gA, i, none⟩ = some (.slice fia p.args.length fic) ∧ w'.cell? ⟨bn, on + (i + 2) * 2, none⟩ = some (.string ⟨(64 :: Lib.itoa ((i : Int) + 1)).toArray⟩) ∧ wr.heap.size < w'.heap.size ∧ w2.heap.size < w'.heap.size ∧ bp < w'.heap.size ∧ bn < w'.heap.size ∧ gA < w'.heap.size))) [] (.take 0 (.take 1 (.take 2 (.take 3 (.take 4 (.take 5 (.take 6 (.take 7 (.take 8 (.take 9 (.take 10 (.take 11 (.take 12 (.take 13 (.take 14 (.take 15 (.take 16 (.take 17 (.one 18 (.take 19 (.take 20 (.take 21 (.take 22 (.take 23 (.take 24 (.take 25 (.take 26 (.take 27 (.take 28 (.take 29 (.take 30 (.take 31 (.take 32 (.take 33 (.take 34 (.take 35 (.take 36 (.one 37 (.take 38 (.take 39 (.take 40 (.take 41 (.take 42 (.take 43 (.take 44 (.take 45 (.take 46 (.take 47 (.take 48 (.take 49 (.take 50 (.take 51 (.one 52 (.take 53 (.take 54 (.take 55 (.take 56 (.take 57 (.take 58 (.take 59 (.take 60 (.take 61 (.take 62 (.take 63 (.take 64 (.take 65 (.take 66 (.take 67 (.take 68 (.take 69 (.take 70 (.done)))))))))))))))))))))))))))))))))))))))))))))))))))))))))))))))))))))))) (by kernel_rfl) (by kernel_rfl) (fun _ _ _ _ h => h) ?_
              have hSw := HS1.out _ (below_drewN (Below.refl _ wp) 1)
              refine wpPlan_takeD (v := ?vx60) rfl rfl hSw (by rfl) ?yx60 ?_
              case yx60 => (intro w hSx; (try dsimp only at hSx); go_simp; first | done | with_reducible rfl | rfl)
              (try simp only [Act.put, List.setIfInBounds_toArray, List.set_cons_zero, List.set_cons_succ])
              refine wpPlan_takeD (v := ?vx61) rfl rfl hSw (by rfl) ?yx61 ?_
              case yx61 => (intro w hSx; (try dsimp only at hSx); go_simp; first | done | with_reducible rfl | rfl)
              (try simp only [Act.put, List.setIfInBounds_toArray, List.set_cons_zero, List.set_cons_succ])
              refine wpPlan_takeD (v := ?vx62) rfl rfl hSw (by rfl) ?yx62 ?_
              case yx62 => (intro w hSx; (try dsimp only at hSx); go_simp; first | done | with_reducible rfl | rfl)
              (try simp only [Act.put, List.setIfInBounds_toArray, List.set_cons_zero, List.set_cons_succ])
              refine wpPlan_takeD (v := ?vx63) rfl rfl hSw (by rfl) ?yx63 ?_
              case yx63 => (intro w hSx; (try dsimp only at hSx); go_simp; first | done | with_reducible rfl | rfl)
              (try simp only [Act.put, List.setIfInBounds_toArray, List.set_cons_zero, List.set_cons_succ])
              refine wpPlan_takeD (v := ?vx64) rfl rfl hSw (by rfl) ?yx64 ?_
              case yx64 => (intro w hSx; (try dsimp only at hSx); go_simp; first | done | with_reducible rfl | rfl)
              (try simp only [Act.put, List.setIfInBounds_toArray, List.set_cons_zero, List.set_cons_succ])
              refine wpPlan_takeD (v := ?vx65) rfl rfl hSw (by rfl) ?yx65 ?_
              case yx65 => (intro w hSx; (try dsimp only at hSx); go_simp; first | done | with_reducible rfl | rfl)
              (try simp only [Act.put, List.setIfInBounds_toArray, List.set_cons_zero, List.set_cons_succ])
              refine wpPlan_takeD (v := ?vx66) rfl rfl hSw (by rfl) ?yx66 ?_
              case yx66 => (intro w hSx; (try dsimp only at hSx); go_simp; first | done | with_reducible rfl | rfl)
              (try simp only [Act.put, List.setIfInBounds_toArray, List.set_cons_zero, List.set_cons_succ])
              refine wpPlan_takeD (v := ?vx67) rfl rfl hSw (by rfl) ?yx67 ?_
              case yx67 => (intro w hSx; (try dsimp only at hSx); go_simp; first | done | with_reducible rfl | rfl)
              (try simp only [Act.put, List.setIfInBounds_toArray, List.set_cons_zero, List.set_cons_succ])
              refine wpPlan_takeD (v := ?vx68) rfl rfl hSw (by rfl) ?yx68 ?_
              case yx68 => (intro w hSx; (try dsimp only at hSx); go_simp; first | done | with_reducible rfl | rfl)
              (try simp only [Act.put, List.setIfInBounds_toArray, List.set_cons_zero, List.set_cons_succ])
              refine wpPlan_takeD (v := ?vx69) rfl rfl hSw (by rfl) ?yx69 ?_
              case yx69 => (intro w hSx; (try dsimp only at hSx); go_simp; first | done | with_reducible rfl | rfl)
              (try simp only [Act.put, List.setIfInBounds_toArray, List.set_cons_zero, List.set_cons_succ])
              refine wpPlan_takeD (v := ?vx70) rfl rfl hSw (by rfl) ?yx70 ?_
              case yx70 => (intro w hSx; (try dsimp only at hSx); go_simp; first | done | with_reducible rfl | rfl)
              (try simp only [Act.put, List.setIfInBounds_toArray, List.set_cons_zero, List.set_cons_succ])
              refine wpPlan_takeD (v := ?vx71) rfl rfl hSw (by rfl) ?yx71 ?_
              case yx71 => (intro w hSx; (try dsimp only at hSx); go_simp; first | done | with_reducible rfl | rfl)
              (try simp only [Act.put, List.setIfInBounds_toArray, List.set_cons_zero, List.set_cons_succ])
              refine wpPlan_takeD (v := ?vx72) rfl rfl hSw (by rfl) ?yx72 ?_
              case yx72 => (intro w hSx; (try dsimp only at hSx); go_simp; first | done | with_reducible rfl | rfl)
              (try simp only [Act.put, List.setIfInBounds_toArray, List.set_cons_zero, List.set_cons_succ])
              refine wpPlan_takeD (v := ?vx73) rfl rfl hSw (by rfl) ?yx73 ?_
              case yx73 => (intro w hSx; (try dsimp only at hSx); go_simp; first | done | with_reducible rfl | rfl)
              (try simp only [Act.put, List.setIfInBounds_toArray, List.set_cons_zero, List.set_cons_succ])
              refine wpPlan_takeD (v := ?vx74) rfl rfl hSw (by rfl) ?yx74 ?_
              case yx74 => (intro w hSx; (try dsimp only at hSx); go_simp; first | done | with_reducible rfl | rfl)
              (try simp only [Act.put, List.setIfInBounds_toArray, List.set_cons_zero, List.set_cons_succ])
              refine wpPlan_takeD (v := ?vx75) rfl rfl hSw (by rfl) ?yx75 ?_
              case yx75 => (intro w hSx; (try dsimp only at hSx); go_simp; first | done | with_reducible rfl | rfl)
              (try simp only [Act.put, List.setIfInBounds_toArray, List.set_cons_zero, List.set_cons_succ])
              refine wpPlan_takeD (v := ?vx76) rfl rfl hSw (by rfl) ?yx76 ?_
              case yx76 => (intro w hSx; (try dsimp only at hSx); go_simp; first | done | with_reducible rfl | rfl)
              (try simp only [Act.put, List.setIfInBounds_toArray, List.set_cons_zero, List.set_cons_succ])
              refine wpPlan_takeD (v := ?vx77) rfl rfl hSw (by rfl) ?yx77 ?_
              case yx77 => (intro w hSx; (try dsimp only at hSx); go_simp; first | done | with_reducible rfl | rfl)
              (try simp only [Act.put, List.setIfInBounds_toArray, List.set_cons_zero, List.set_cons_succ])
              refine wpPlan_run rfl (by rfl) (fun K' hK => ?_)
              (go_simp; go_at_call 30; refine (HEQ.out wp.drew HBD.out).mono ?_; rintro e w5 ⟨rfl, n5, hw5⟩; have hb5' : Below wp.heap.size wp w5 := (by rw [hw5]; exact below_drewN (show Below wp.heap.size wp wp.drew from below_drewN (Below.refl _ wp) 1) _); clear hw5)
              refine hK _ _ (.inr ?_) ?_
              · exact HS1.out _ hb5'
              clear hK K' hSw
              have hSw := HS1.out _ hb5'
              (try simp only [Act.put, List.setIfInBounds_toArray, List.set_cons_zero, List.set_cons_succ])
              refine wpPlan_takeD (v := ?vx78) rfl rfl hSw (by rfl) ?yx78 ?_
              case yx78 => (intro w hSx; (try dsimp only at hSx); go_simp; first | done | with_reducible rfl | rfl)
              (try simp only [Act.put, List.setIfInBounds_toArray, List.set_cons_zero, List.set_cons_succ])
              refine wpPlan_takeD (v := ?vx79) rfl rfl hSw (by rfl) ?yx79 ?_
              case yx79 => (intro w hSx; (try dsimp only at hSx); go_simp; first | done | with_reducible rfl | rfl)
              (try simp only [Act.put, List.setIfInBounds_toArray, List.set_cons_zero, List.set_cons_succ])
              refine wpPlan_takeD (v := ?vx80) rfl rfl hSw (by rfl) ?yx80 ?_
              case yx80 => (intro w hSx; (try dsimp only at hSx); go_simp; first | done | with_reducible rfl | rfl)
              (try simp only [Act.put, List.setIfInBounds_toArray, List.set_cons_zero, List.set_cons_succ])
              refine wpPlan_takeD (v := ?vx81) rfl rfl hSw (by rfl) ?yx81 ?_
              case yx81 => (intro w hSx; (try dsimp only at hSx); go_simp; first | done | with_reducible rfl | rfl)
              (try simp only [Act.put, List.setIfInBounds_toArray, List.set_cons_zero, List.set_cons_succ])
              refine wpPlan_takeD (v := ?vx82) rfl rfl hSw (by rfl) ?yx82 ?_
              case yx82 => (intro w hSx; (try dsimp only at hSx); go_simp; first | done | with_reducible rfl | rfl)
              (try simp only [Act.put, List.setIfInBounds_toArray, List.set_cons_zero, List.set_cons_succ])
              refine wpPlan_takeD (v := ?vx83) rfl rfl hSw (by rfl) ?yx83 ?_
              case yx83 => (intro w hSx; (try dsimp only at hSx); go_simp; first | done | with_reducible rfl | rfl)
              (try simp only [Act.put, List.setIfInBounds_toArray, List.set_cons_zero, List.set_cons_succ])
              refine wpPlan_takeD (v := ?vx84) rfl rfl hSw (by rfl) ?yx84 ?_
              case yx84 => (intro w hSx; (try dsimp only at hSx); go_simp; first | done | with_reducible rfl | rfl)
              (try simp only [Act.put, List.setIfInBounds_toArray, List.set_cons_zero, List.set_cons_succ])
              refine wpPlan_takeD (v := ?vx85) rfl rfl hSw (by rfl) ?yx85 ?_
              case yx85 => (intro w hSx; (try dsimp only at hSx); go_simp; first | done | with_reducible rfl | rfl)
              (try simp only [Act.put, List.setIfInBounds_toArray, List.set_cons_zero, List.set_cons_succ])
              refine wpPlan_takeD (v := ?vx86) rfl rfl hSw (by rfl) ?yx86 ?_
              case yx86 => (intro w hSx; (try dsimp only at hSx); go_simp; first | done | with_reducible rfl | rfl)
              (try simp only [Act.put, List.setIfInBounds_toArray, List.set_cons_zero, List.set_cons_succ])
              refine wpPlan_takeD (v := ?vx87) rfl rfl hSw (by rfl) ?yx87 ?_
              case yx87 => (intro w hSx; (try dsimp only at hSx); go_simp; first | done | with_reducible rfl | rfl)
              (try simp only [Act.put, List.setIfInBounds_toArray, List.set_cons_zero, List.set_cons_succ])
              refine wpPlan_takeD (v := ?vx88) rfl rfl hSw (by rfl) ?yx88 ?_
              case yx88 => (intro w hSx; (try dsimp only at hSx); go_simp; first | done | with_reducible rfl | rfl)
              (try simp only [Act.put, List.setIfInBounds_toArray, List.set_cons_zero, List.set_cons_succ])
              refine wpPlan_takeD (v := ?vx89) rfl rfl hSw (by rfl) ?yx89 ?_
              case yx89 => (intro w hSx; (try dsimp only at hSx); go_simp; first | done | with_reducible rfl | rfl)
              (try simp only [Act.put, List.setIfInBounds_toArray, List.set_cons_zero, List.set_cons_succ])
              refine wpPlan_takeD (v := ?vx90) rfl rfl hSw (by rfl) ?yx90 ?_
              case yx90 => (intro w hSx; (try dsimp only at hSx); go_simp; first | done | with_reducible rfl | rfl)
              (try simp only [Act.put, List.setIfInBounds_toArray, List.set_cons_zero, List.set_cons_succ])
              refine wpPlan_takeD (v := ?vx91) rfl rfl hSw (by rfl) ?yx91 ?_
              case yx91 => (intro w hSx; (try dsimp only at hSx); go_simp; first | done | with_reducible rfl | rfl)
              (try simp only [Act.put, List.setIfInBounds_toArray, List.set_cons_zero, List.set_cons_succ])
              refine wpPlan_takeD (v := ?vx92) rfl rfl hSw (by rfl) ?yx92 ?_
              case yx92 => (intro w hSx; (try dsimp only at hSx); go_simp; first | done | with_reducible rfl | rfl)
              (try simp only [Act.put, List.setIfInBounds_toArray, List.set_cons_zero, List.set_cons_succ])
              refine wpPlan_takeD (v := ?vx93) rfl rfl hSw (by rfl) ?yx93 ?_
              case yx93 => (intro w hSx; (try dsimp only at hSx); go_simp; first | done | with_reducible rfl | rfl)
              (try simp only [Act.put, List.setIfInBounds_toArray, List.set_cons_zero, List.set_cons_succ])
              refine wpPlan_takeD (v := ?vx94) rfl rfl hSw (by rfl) ?yx94 ?_
              case yx94 => (intro w hSx; (try dsimp only at hSx); go_simp; first | done | with_reducible rfl | rfl)
              (try simp only [Act.put, List.setIfInBounds_toArray, List.set_cons_zero, List.set_cons_succ])
              refine wpPlan_takeD (v := ?vx95) rfl rfl hSw (by rfl) ?yx95 ?_
              case yx95 => (intro w hSx; (try dsimp only at hSx); go_simp; first | done | with_reducible rfl | rfl)
              (try simp only [Act.put, List.setIfInBounds_toArray, List.set_cons_zero, List.set_cons_succ])
              refine wpPlan_run rfl (by rfl) (fun K' hK => ?_)
              (go_simp; go_at_call 21; refine (ref_Digits (j : Int) _ HD2.out.1 HD2.out.2).mono ?_; rintro e w6 ⟨rfl, hb6⟩; have hb6' : Below wp.heap.size wp w6 := hb5'.trans (hb6.mono hb5'.size); clear hb6)
              refine hK _ _ (.inr ?_) ?_
              · exact HS1.out _ hb6'
              clear hK K' hSw
              have hSw := HS1.out _ hb6'
              (try simp only [Act.put, List.setIfInBounds_toArray, List.set_cons_zero, List.set_cons_succ])
              refine wpPlan_takeD (v := ?vx96) rfl rfl hSw (by rfl) ?yx96 ?_
              case yx96 => (intro w hSx; (try dsimp only at hSx); go_simp; first | done | with_reducible rfl | rfl)
              (try simp only [Act.put, List.setIfInBounds_toArray, List.set_cons_zero, List.set_cons_succ])
              refine wpPlan_takeD (v := ?vx97) rfl rfl hSw (by rfl) ?yx97 ?_
              case yx97 => (intro w hSx; (try dsimp only at hSx); go_simp; first | done | with_reducible rfl | rfl)
              (try simp only [Act.put, List.setIfInBounds_toArray, List.set_cons_zero, List.set_cons_succ])
              refine wpPlan_takeD (v := ?vx98) rfl rfl hSw (by rfl) ?yx98 ?_
              case yx98 => (intro w hSx; (try dsimp only at hSx); go_simp; first | done | with_reducible rfl | rfl)
              (try simp only [Act.put, List.setIfInBounds_toArray, List.set_cons_zero, List.set_cons_succ])
              refine wpPlan_takeD (v := ?vx99) rfl rfl hSw (by rfl) ?yx99 ?_
              case yx99 => (intro w hSx; (try dsimp only at hSx); go_simp; first | done | with_reducible rfl | rfl)
              (try simp only [Act.put, List.setIfInBounds_toArray, List.set_cons_zero, List.set_cons_succ])
              refine wpPlan_takeD (v := ?vx100) rfl rfl hSw (by rfl) ?yx100 ?_
              case yx100 => (intro w hSx; (try dsimp only at hSx); go_simp; first | done | with_reducible rfl | rfl)
              (try simp only [Act.put, List.setIfInBounds_toArray, List.set_cons_zero, List.set_cons_succ])
              refine wpPlan_takeD (v := ?vx101) rfl rfl hSw (by rfl) ?yx101 ?_
              case yx101 => (intro w hSx; (try dsimp only at hSx); go_simp; first | done | with_reducible rfl | rfl)
              (try simp only [Act.put, List.setIfInBounds_toArray, List.set_cons_zero, List.set_cons_succ])
              refine wpPlan_takeD (v := ?vx102) rfl rfl hSw (by rfl) ?yx102 ?_
              case yx102 => (intro w hSx; (try dsimp only at hSx); go_simp; first | done | with_reducible rfl | rfl)
              (try simp only [Act.put, List.setIfInBounds_toArray, List.set_cons_zero, List.set_cons_succ])
              refine wpPlan_takeD (v := ?vx103) rfl rfl hSw (by rfl) ?yx103 ?_
              case yx103 => (intro w hSx; (try dsimp only at hSx); go_simp; first | done | with_reducible rfl | rfl)
              (try simp only [Act.put, List.setIfInBounds_toArray, List.set_cons_zero, List.set_cons_succ])
              refine wpPlan_takeD (v := ?vx104) rfl rfl hSw (by rfl) ?yx104 ?_
              case yx104 => (intro w hSx; (try dsimp only at hSx); go_simp; first | done | with_reducible rfl | rfl)
              (try simp only [Act.put, List.setIfInBounds_toArray, List.set_cons_zero, List.set_cons_succ])
              refine wpPlan_takeD (v := ?vx105) rfl rfl hSw (by rfl) ?yx105 ?_
              case yx105 => (intro w hSx; (try dsimp only at hSx); go_simp; first | done | with_reducible rfl | rfl)
              (try simp only [Act.put, List.setIfInBounds_toArray, List.set_cons_zero, List.set_cons_succ])
              refine wpPlan_takeD (v := ?vx106) rfl rfl hSw (by rfl) ?yx106 ?_
              case yx106 => (intro w hSx; (try dsimp only at hSx); go_simp; first | done | with_reducible rfl | rfl)
              (try simp only [Act.put, List.setIfInBounds_toArray, List.set_cons_zero, List.set_cons_succ])
              refine wpPlan_takeD (v := ?vx107) rfl rfl hSw (by rfl) ?yx107 ?_
              case yx107 => (intro w hSx; (try dsimp only at hSx); go_simp; first | done | with_reducible rfl | rfl)
              (try simp only [Act.put, List.setIfInBounds_toArray, List.set_cons_zero, List.set_cons_succ])
              refine wpPlan_takeD (v := ?vx108) rfl rfl hSw (by rfl) ?yx108 ?_
              case yx108 => (intro w hSx; (try dsimp only at hSx); go_simp; first | done | with_reducible rfl | rfl)
              (try simp only [Act.put, List.setIfInBounds_toArray, List.set_cons_zero, List.set_cons_succ])
              refine wpPlan_takeD (v := ?vx109) rfl rfl hSw (by rfl) ?yx109 ?_
              case yx109 => (intro w hSx; (try dsimp only at hSx); go_simp; first | done | with_reducible rfl | rfl)
              (try simp only [Act.put, List.setIfInBounds_toArray, List.set_cons_zero, List.set_cons_succ])
              refine wpPlan_run rfl (by rfl) (fun K' hK => ?_)
              (go_simp; go_at_call 21; refine (ref_Digits ((i : Int) + 1) _ HD1.out.1 HD1.out.2).mono ?_; rintro e w7 ⟨rfl, hb7⟩; have hb7' : Below wp.heap.size wp w7 := hb6'.trans (hb7.mono hb6'.size); clear hb7)
              refine hK _ _ (.inr ?_) ?_
              · exact HS1.out _ hb7'
              clear hK K' hSw
              have hSw := HS1.out _ hb7'
              (try simp only [Act.put, List.setIfInBounds_toArray, List.set_cons_zero, List.set_cons_succ])
              refine wpPlan_takeD (v := ?vx110) rfl rfl hSw (by rfl) ?yx110 ?_
              case yx110 => (intro w hSx; (try dsimp only at hSx); go_simp; first | done | with_reducible rfl | rfl)
              (try simp only [Act.put, List.setIfInBounds_toArray, List.set_cons_zero, List.set_cons_succ])
              refine wpPlan_takeD (v := ?vx111) rfl rfl hSw (by rfl) ?yx111 ?_
              case yx111 => (intro w hSx; (try dsimp only at hSx); go_simp; first | done | with_reducible rfl | rfl)
              (try simp only [Act.put, List.setIfInBounds_toArray, List.set_cons_zero, List.set_cons_succ])
              refine wpPlan_takeD (v := ?vx112) rfl rfl hSw (by rfl) ?yx112 ?_
              case yx112 => (intro w hSx; (try dsimp only at hSx); go_simp; first | done | with_reducible rfl | rfl)
              (try simp only [Act.put, List.setIfInBounds_toArray, List.set_cons_zero, List.set_cons_succ])
              refine wpPlan_takeD (v := ?vx113) rfl rfl hSw (by rfl) ?yx113 ?_
              case yx113 => (intro w hSx; (try dsimp only at hSx); go_simp; first | done | with_reducible rfl | rfl)
              (try simp only [Act.put, List.setIfInBounds_toArray, List.set_cons_zero, List.set_cons_succ])
              refine wpPlan_takeD (v := ?vx114) rfl rfl hSw (by rfl) ?yx114 ?_
              case yx114 => (intro w hSx; (try dsimp only at hSx); go_simp; first | done | with_reducible rfl | rfl)
              (try simp only [Act.put, List.setIfInBounds_toArray, List.set_cons_zero, List.set_cons_succ])
              refine wpPlan_takeD (v := ?vx115) rfl rfl hSw (by rfl) ?yx115 ?_
              case yx115 => (intro w hSx; (try dsimp only at hSx); go_simp; first | done | with_reducible rfl | rfl)
              (try simp only [Act.put, List.setIfInBounds_toArray, List.set_cons_zero, List.set_cons_succ])
              refine wpPlan_takeD (v := ?vx116) rfl rfl hSw (by rfl) ?yx116 ?_
              case yx116 => (intro w hSx; (try dsimp only at hSx); go_simp; first | done | with_reducible rfl | rfl)
              (try simp only [Act.put, List.setIfInBounds_toArray, List.set_cons_zero, List.set_cons_succ])
              refine wpPlan_takeD (v := ?vx117) rfl rfl hSw (by rfl) ?yx117 ?_
              case yx117 => (intro w hSx; (try dsimp only at hSx); go_simp; first | done | with_reducible rfl | rfl)
              (try simp only [Act.put, List.setIfInBounds_toArray, List.set_cons_zero, List.set_cons_succ])
              refine wpPlan_takeD (v := ?vx118) rfl rfl hSw (by rfl) ?yx118 ?_
              case yx118 => (intro w hSx; (try dsimp only at hSx); go_simp; first | done | with_reducible rfl | rfl)
              (try simp only [Act.put, List.setIfInBounds_toArray, List.set_cons_zero, List.set_cons_succ])
              refine wpPlan_takeD (v := ?vx119) rfl rfl hSw (by rfl) ?yx119 ?_
              case yx119 => (intro w hSx; (try dsimp only at hSx); go_simp; first | done | with_reducible rfl | rfl)
              (try simp only [Act.put, List.setIfInBounds_toArray, List.set_cons_zero, List.set_cons_succ])
              refine wpPlan_takeD (v := ?vx120) rfl rfl hSw (by rfl) ?yx120 ?_
              case yx120 => (intro w hSx; (try dsimp only at hSx); go_simp; first | done | with_reducible rfl | rfl)
              (try simp only [Act.put, List.setIfInBounds_toArray, List.set_cons_zero, List.set_cons_succ])
              refine wpPlan_takeD (v := ?vx121) rfl rfl hSw (by rfl) ?yx121 ?_
              case yx121 => (intro w hSx; (try dsimp only at hSx); go_simp; first | done | with_reducible rfl | rfl)
              (try simp only [Act.put, List.setIfInBounds_toArray, List.set_cons_zero, List.set_cons_succ])
              refine wpPlan_takeD (v := ?vx122) rfl rfl hSw (by rfl) ?yx122 ?_
              case yx122 => (intro w hSx; (try dsimp only at hSx); go_simp; first | done | with_reducible rfl | rfl)
              (try simp only [Act.put, List.setIfInBounds_toArray, List.set_cons_zero, List.set_cons_succ])
              refine wpPlan_takeD (v := ?vx123) rfl rfl hSw (by rfl) ?yx123 ?_
              case yx123 => (intro w hSx; (try dsimp only at hSx); go_simp; first | done | with_reducible rfl | rfl)
              (try simp only [Act.put, List.setIfInBounds_toArray, List.set_cons_zero, List.set_cons_succ])
              refine wpPlan_takeD (v := ?vx124) rfl rfl hSw (by rfl) ?yx124 ?_
              case yx124 => (intro w hSx; (try dsimp only at hSx); go_simp; first | done | with_reducible rfl | rfl)
              (try simp only [Act.put, List.setIfInBounds_toArray, List.set_cons_zero, List.set_cons_succ])
              refine wpPlan_takeD (v := ?vx125) rfl rfl hSw (by rfl) ?yx125 ?_
              case yx125 => (intro w hSx; (try dsimp only at hSx); go_simp; first | done | with_reducible rfl | rfl)
              (try simp only [Act.put, List.setIfInBounds_toArray, List.set_cons_zero, List.set_cons_succ])
              refine wpPlan_takeD (v := ?vx126) rfl rfl hSw (by rfl) ?yx126 ?_
              case yx126 => (intro w hSx; (try dsimp only at hSx); go_simp; first | done | with_reducible rfl | rfl)
              (try simp only [Act.put, List.setIfInBounds_toArray, List.set_cons_zero, List.set_cons_succ])
              refine wpPlan_takeD (v := ?vx127) rfl rfl hSw (by rfl) ?yx127 ?_
              case yx127 => (intro w hSx; (try dsimp only at hSx); go_simp; first | done | with_reducible rfl | rfl)
              (try simp only [Act.put, List.setIfInBounds_toArray, List.set_cons_zero, List.set_cons_succ])
              refine wpPlan_done ?_
              clear hcs hns hg1 hg2 hg3 hn1 hn2 hn3 hlt htn hw1 hw2 hw3 hgt hgn hle
              go_wp2_with fail
              go_roundg (na - (i + 1))
              case measure => omega
              case rel => exact ⟨i + 1, by omega, rfl, by go_num, HBP.out.trans (hb7'.mono HBP.out.size)⟩
          · obtain rfl : i = na := by omega
            have HBW := Lib.hid hbw
            clear hbw
            go_wp2_with fail
            go_meet
            exact HBW.out
      case rest =>
        obtain ⟨wr, hwr⟩ : ∃ wr : World, wr = wc := ⟨_, rfl⟩
        subst hwr
        have hb2 : Below w2.heap.size w2 wr := HBE.out.trans (hcut.mono HBE.out.size)
        obtain ⟨pz, hpz⟩ : ∃ pz : Int, pz = if l = [] then -1 else 3 := ⟨_, rfl⟩
        have hgp : G.prods[na + 1]? = some ⟨1, S.right, pz, S.last, S.right, S.at_⟩ := by
          rw [HGP.out, hpz, List.getElem?_append_right (by rw [List.length_cons, ← HNA.out]; exact Nat.le_refl _), List.length_cons, ← HNA.out, Nat.sub_self]
          rfl
        obtain ⟨bp, op, rfl, hbp, t1⟩ := HPR.out.at (k := na + 1) (row := prodC (fr (na + 1)) (fa (na + 1)) ⟨1, S.right, pz, S.last, S.right, S.at_⟩) (by rw [List.getElem?_mapIdx, hgp]; rfl)
        obtain ⟨r1, a1⟩ := HPI.out (na + 1) _ hgp
        simp only at r1 a1
        obtain ⟨fra, frc, efr⟩ := SlAt.form r1
        obtain ⟨faa, fac, efa⟩ := SlAt.form a1
        rw [List.length_map, ← HNR.out] at efr efa
        have k1 := ints_own HI2.out.right
        have hrs : S.right.length < 4294967281 := by rw [← HNR.out]; omega
        have HEQ1 : Hid (∀ w', Below w2.heap.size w2 w' → Calls Tryd.prog 30 #[.slice fra nr frc, .slice ra nr rc] w' fun e w'' => e = .returned (.bool true) ∧ ∃ n, w'' = w'.drewN n) := Lib.hid (fun w' h => by
          rw [← efr]
          exact eqI_same _ _ S.right w' (SlAt.below r1 h) (SlAt.below k1 h) hrs)
        have HEQ2 : Hid (∀ w', Below w2.heap.size w2 w' → Calls Tryd.prog 30 #[.slice faa nr fac, .slice ra nr rc] w' fun e w'' => e = .returned (.bool true) ∧ ∃ n, w'' = w'.drewN n) := Lib.hid (fun w' h => by
          rw [← efa]
          exact eqI_same _ _ S.right w' (SlAt.below a1 h) (SlAt.below k1 h) hrs)
        have v0 := t1 wr hb2 0 _ rfl; have v1 := t1 wr hb2 1 _ rfl; have v2 := t1 wr hb2 2 _ rfl; have v3 := t1 wr hb2 3 _ rfl; have v4 := t1 wr hb2 4 _ rfl; have v5 := t1 wr hb2 5 _ rfl
        rw [efr] at v1
        rw [efa] at v4
        simp only [Nat.add_zero] at v0
        have g := (hcut.block _ (lt_at HGE.out)).trans HGE.out
        have g2 := cell_at (i := 2) g
        have gl := lt_at g
        have hbpl : bp < wr.heap.size := Nat.lt_of_lt_of_le hbp hb2.size
        have HB2 := Lib.hid hb2
        have hna1 : (na : Int) + 1 < (na : Int) + 2 := by omega
        have HEND2 : Hid (∀ wb, Below wr.heap.size wr wb → Below W.heap.size W wb) := Lib.hid (fun wb h => HEND.out wb (HB2.out.trans (h.mono HB2.out.size)))
        have hlast := HOK.out.last
        clear hcut hb2 hpz hgp t1 r1 a1 efr efa k1 hrs g hbp
        rcases hlast with ⟨e1, e2⟩ | ⟨_, hn0, e1, e2⟩
        · rw [e1] at v3
          rw [e2] at v5
          rw [e1]
          have HCL := Lib.hid (And.intro e1 e2)
          clear e1 e2
          go_wp2_with fail
          have hbN : Below wr.heap.size wr (wr.alloc (.cells #[.int .i64 1, .slice fra nr frc, .int .i64 pz, .string ⟨#[]⟩, .slice faa nr fac, .int .i64 (40)] 77)) := (Below.refl _ wr).alloc (Nat.le_refl _) _
          have HBN := Lib.hid hbN
          clear hbN
          refine (HEQ1.out (wr.alloc (.cells #[.int .i64 1, .slice fra nr frc, .int .i64 pz, .string ⟨#[]⟩, .slice faa nr fac, .int .i64 (40)] 77)) (HB2.out.trans (HBN.out.mono HB2.out.size))).mono ?_
          rintro e w5 ⟨rfl, n5, hw5⟩
          have HW5 : Hid (Below wr.heap.size wr w5) := Lib.hid (by rw [hw5]; exact below_drewN HBN.out _)
          have hq5 : w5.heap[wr.heap.size]? = some (.cells #[.int .i64 1, .slice fra nr frc, .int .i64 pz, .string ⟨#[]⟩, .slice faa nr fac, .int .i64 (40)] 77 (0, 0)) := by rw [hw5]; exact heap_last wr _
          have HQ5 := Lib.hid hq5
          have c0 := cell_at (i := 0) hq5; have c1 := cell_at (i := 1) hq5; have c2 := cell_at (i := 2) hq5; have c3 := cell_at (i := 3) hq5; have c4 := cell_at (i := 4) hq5; have c5 := cell_at (i := 5) hq5
          have l5 := lt_at hq5
          clear hw5 hq5
          go_wp2_with fail
          refine (HEQ2.out w5 (HB2.out.trans (HW5.out.mono HB2.out.size))).mono ?_
          rintro e w6 ⟨rfl, n6, hw6⟩
          have HW6 : Hid (Below wr.heap.size wr w6) := Lib.hid (by rw [hw6]; exact below_drewN HW5.out _)
          have hq6 : w6.heap[wr.heap.size]? = some (.cells #[.int .i64 1, .slice fra nr frc, .int .i64 pz, .string ⟨#[]⟩, .slice faa nr fac, .int .i64 (40)] 77 (0, 0)) := by rw [hw6]; exact HQ5.out
          have d0 := cell_at (i := 0) hq6; have d1 := cell_at (i := 1) hq6; have d2 := cell_at (i := 2) hq6; have d3 := cell_at (i := 3) hq6; have d4 := cell_at (i := 4) hq6; have d5 := cell_at (i := 5) hq6
          have l6 := lt_at hq6
          clear hw6 hq6 c0 c1 c2 c3 c4 c5 l5
          go_wp2_with fail
          go_ret
          exact ⟨rfl, HEND2.out _ HW6.out⟩
        · rw [e1] at v3
          rw [e2] at v5
          rw [e1]
          have hne : (!(Sp.codeOf (n - 1)).isEmpty) = true := by simp [Sp.codeOf]
          obtain ⟨n', hn'⟩ : ∃ n', n = n' + 1 := ⟨n - 1, by omega⟩
          have hat : 50 + ((n - 1 : Nat) : Int) = 50 + (n : Int) - 1 := by omega
          rw [hat] at v5
          obtain ⟨cd, hcd⟩ : ∃ cd, cd = Sp.codeOf (n - 1) := ⟨_, rfl⟩
          rw [← hcd] at v3 hne ⊢
          clear e1 e2 hat hcd hn'
          go_wp2_with fail
          have hbN : Below wr.heap.size wr (wr.alloc (.cells #[.int .i64 1, .slice fra nr frc, .int .i64 pz, .string ⟨cd.toArray⟩, .slice faa nr fac, .int .i64 (50 + (n : Int) - 1)] 77)) := (Below.refl _ wr).alloc (Nat.le_refl _) _
          have HBN := Lib.hid hbN
          clear hbN
          refine (HEQ1.out (wr.alloc (.cells #[.int .i64 1, .slice fra nr frc, .int .i64 pz, .string ⟨cd.toArray⟩, .slice faa nr fac, .int .i64 (50 + (n : Int) - 1)] 77)) (HB2.out.trans (HBN.out.mono HB2.out.size))).mono ?_
          rintro e w5 ⟨rfl, n5, hw5⟩
          have HW5 : Hid (Below wr.heap.size wr w5) := Lib.hid (by rw [hw5]; exact below_drewN HBN.out _)
          have hq5 : w5.heap[wr.heap.size]? = some (.cells #[.int .i64 1, .slice fra nr frc, .int .i64 pz, .string ⟨cd.toArray⟩, .slice faa nr fac, .int .i64 (50 + (n : Int) - 1)] 77 (0, 0)) := by rw [hw5]; exact heap_last wr _
          have HQ5 := Lib.hid hq5
          have c0 := cell_at (i := 0) hq5; have c1 := cell_at (i := 1) hq5; have c2 := cell_at (i := 2) hq5; have c3 := cell_at (i := 3) hq5; have c4 := cell_at (i := 4) hq5; have c5 := cell_at (i := 5) hq5
          have l5 := lt_at hq5
          clear hw5 hq5
          go_wp2_with fail
          refine (HEQ2.out w5 (HB2.out.trans (HW5.out.mono HB2.out.size))).mono ?_
          rintro e w6 ⟨rfl, n6, hw6⟩
          have HW6 : Hid (Below wr.heap.size wr w6) := Lib.hid (by rw [hw6]; exact below_drewN HW5.out _)
          have hq6 : w6.heap[wr.heap.size]? = some (.cells #[.int .i64 1, .slice fra nr frc, .int .i64 pz, .string ⟨cd.toArray⟩, .slice faa nr fac, .int .i64 (50 + (n : Int) - 1)] 77 (0, 0)) := by rw [hw6]; exact HQ5.out
          have d0 := cell_at (i := 0) hq6; have d1 := cell_at (i := 1) hq6; have d2 := cell_at (i := 2) hq6; have d3 := cell_at (i := 3) hq6; have d4 := cell_at (i := 4) hq6; have d5 := cell_at (i := 5) hq6
          have l6 := lt_at hq6
          clear hw6 hq6 c0 c1 c2 c3 c4 c5 l5
          go_wp2_with fail
          go_ret
          exact ⟨rfl, HEND2.out _ HW6.out⟩
end Go.Proofs.YthmimcegiihcnaaDoor
