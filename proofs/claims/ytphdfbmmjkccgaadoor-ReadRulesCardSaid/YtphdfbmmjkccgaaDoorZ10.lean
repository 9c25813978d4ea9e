/- read.reader: alt. -/
import Derived.Deep.CutBlock
import Derived.Test.YtphdfbmmjkccgaaDoorZ09
namespace Go.Proofs.YtphdfbmmjkccgaaDoor
open Go.RowKit Go.Maps

def altZ : Array Value := #[.slice none 0 0, .string ⟨#[]⟩, .bool false, .int .i64 0, .int .i64 0, .int .i64 0]
/-- While an alternative is read: the result's box at W's end, the alternative's behind it. -/
structure AltR (B : Nat) (W : World) (m : Nat) (ws : List Sp.Word) (s0 : Sp.RdS) (v : RdV) (s : Sp.RdS) (a : Sp.Alt) (pv : Value) (wx : World) : Prop where
  old : ReaderAt B W m ws s0 v
  rd : ReaderAt B wx m ws s v
  fr : BoxFr B W wx
  rbox : wx.heap[W.heap.size]? = some (.cells altZ 42 (0, 0))
  abox : wx.heap[W.heap.size + 1]? = some (.cells (altC pv a).toArray 42 (0, 0))
  row : wx.ownsRow W.heap.size 44 6 pv a.parts.length (a.parts.map partC).flatten
  ed : s.decls = s0.decls
  er : s.rules = s0.rules
  ep : s.pro = s0.pro
  es : s.set = s0.set
  len : a.parts.length ≤ s.i
  ge : s0.i ≤ s.i
section
variable {B : Nat} {W wx w2 wa : World} {m : Nat} {ws : List Sp.Word} {s0 s s' : Sp.RdS} {v : RdV} {a a' : Sp.Alt} {pv : Value}
/-- Behind a step of the reader's. -/
theorem AltR.step (h : AltR B W m ws s0 v s a pv wx) (hr : ReaderAt B w2 m ws s' v) (hf : BoxFr B wx w2) (e1 : s'.decls = s.decls) (e2 : s'.rules = s.rules) (e3 : s'.pro = s.pro) (e4 : s'.set = s.set) (hi : s.i ≤ s'.i) : AltR B W m ws s0 v s' a pv w2 :=
  ⟨h.old, hr, h.fr.trans hf, hf.at h.rbox (by unfold BoxT; decide), hf.at h.abox (by unfold BoxT; decide), ownsRow_kpT h.row hf.2 (by unfold BoxT; decide), e1.trans h.ed, e2.trans h.er, e3.trans h.ep, e4.trans h.es, Nat.le_trans h.len hi, Nat.le_trans h.ge hi⟩
theorem AltR.below (h : AltR B W m ws s0 v s a pv wx) (hb : Below wx.heap.size wx w2) : AltR B W m ws s0 v s a pv w2 :=
  h.step (h.rd.below hb) (BoxFr.below hb h.rd.size) rfl rfl rfl rfl (Nat.le_refl _)
/-- What is changed behind W's end, no box of the reader's. -/
theorem AltR.reader {S : Nat → Prop} (h : AltR B W m ws s0 v s a pv wx) (k : Kp S wx wa) (hs : ∀ b, b < W.heap.size → S b) : ReaderAt B wa m ws s v ∧ BoxFr B W wa := by
  have f := h.fr.kp h.old.size k hs
  exact ⟨h.old.box f.2 (k.at h.rd.block (hs m (lt_at h.old.block))) h.ed h.er h.rd.left h.rd.ends, f⟩
/-- A part more: behind the part's call (w2) and the append (wa) the store. -/
theorem AltR.push {g n c : Nat} {p : Sp.Part} (h : AltR B W m ws s0 v s a pv wx) (hr : ReaderAt B w2 m ws s' v) (hf : BoxFr B wx w2) (e1 : s'.decls = s.decls) (e2 : s'.rules = s.rules) (e3 : s'.pro = s.pro) (e4 : s'.set = s.set) (hi : s'.i = s.i + 1)
    (k : Kp (fun b => pv.ownBlock ≠ some b) w2 wa) (kt : KpT (fun t => t ≠ 44) w2 wa) (hown : wa.ownsRow W.heap.size 44 6 (.slice (some ⟨g, 0, none⟩) n c) (a.parts.length + 1) ((a.parts.map partC).flatten ++ partC p)) :
    AltR B W m ws s0 v s' { a with parts := a.parts ++ [p] } (.slice (some ⟨g, 0, none⟩) n c) (wa.setCell ⟨W.heap.size + 1, 0, none⟩ (.slice (some ⟨g, 0, none⟩) n c)) := by
  have h2 := h.step hr hf e1 e2 e3 e4 (by omega)
  have hS : ∀ b, b < W.heap.size → pv.ownBlock ≠ some b := fun b hb e => by have := (h.row.lt b e).1; omega
  obtain ⟨ha1, ha2⟩ := h2.reader k hS
  have hab := kt _ _ _ _ h2.abox (by decide)
  have hrb := kt _ _ _ _ h2.rbox (by decide)
  have kb : Kp (fun b => b ≠ W.heap.size + 1) wa (wa.setCell ⟨W.heap.size + 1, 0, none⟩ (.slice (some ⟨g, 0, none⟩) n c)) := (Kp.refl _ wa).setCell (by simp) _
  have kbt : KpT (fun t => t ≠ 42) wa (wa.setCell ⟨W.heap.size + 1, 0, none⟩ (.slice (some ⟨g, 0, none⟩) n c)) := KpT.setCell (fun _ _ _ _ h _ => h) hab (by simp) _
  have hml := lt_at h.old.block
  have f := ha2.kp h.old.size kb (fun b hb => by omega)
  refine ⟨h.old, h.old.box f.2 (kb.at ha1.block (by omega)) h2.ed h2.er hr.left hr.ends, f, kb.at hrb (by omega), ?_, ?_, h2.ed, h2.er, h2.ep, h2.es, ?_, h2.ge⟩
  · rw [heap_setCell_at hab]; rfl
  · simp only [List.length_append, List.length_singleton, List.map_append, List.map_cons, List.map_nil, List.flatten_append, List.flatten_cons, List.flatten_nil, List.append_nil]
    exact ownsRow_kpT hown kbt (by decide)
  · simp only [List.length_append, List.length_singleton]; have := h.len; omega
theorem AltR.state (h : AltR B W m ws s0 v s a pv wx) {r : List Sp.Word} {b : Bool} (hr : r = s.ws) (hb : b = s.bad) : ({ s0 with i := s.i, ws := r, bad := b } : Sp.RdS) = s := by
  obtain ⟨i1, w1, b1, p1, d1, r1, t1⟩ := s
  have e1 := h.ed; have e2 := h.er; have e3 := h.ep; have e4 := h.es
  simp only at e1 e2 e3 e4 hr hb
  subst e1 e2 e3 e4 hr hb
  rfl
/-- %prec's symbol is stored. -/
theorem AltR.setPrec (h : AltR B W m ws s0 v s a pv wx) (q : Sp.Sym) :
    AltR B W m ws s0 v s { a with prec := q } pv ((((wx.setCell ⟨W.heap.size + 1, 1, none⟩ (.string ⟨q.name.toArray⟩)).setCell ⟨W.heap.size + 1, 2, none⟩ (.bool q.lit)).setCell ⟨W.heap.size + 1, 3, none⟩ (.int .i64 q.num)).setCell ⟨W.heap.size + 1, 4, none⟩ (.int .i64 q.at_)) := by
  have kb : Kp (fun b => b ≠ W.heap.size + 1) wx ((((wx.setCell ⟨W.heap.size + 1, 1, none⟩ (.string ⟨q.name.toArray⟩)).setCell ⟨W.heap.size + 1, 2, none⟩ (.bool q.lit)).setCell ⟨W.heap.size + 1, 3, none⟩ (.int .i64 q.num)).setCell ⟨W.heap.size + 1, 4, none⟩ (.int .i64 q.at_)) :=
    ((((Kp.refl _ wx).setCell (by simp) _).setCell (by simp) _).setCell (by simp) _).setCell (by simp) _
  obtain ⟨h3, h4⟩ := h.old.kp h.rd h.fr kb (fun b hb => by omega) h.ed h.er
  refine ⟨h.old, h3, h4, kb.at h.rbox (by omega), ?_, ownsRow_kp h.row kb (fun b hb e => ?_), h.ed, h.er, h.ep, h.es, h.len, h.ge⟩
  · rw [heap_setCell_at (heap_setCell_at (heap_setCell_at (heap_setCell_at h.abox)))]; rfl
  · subst e
    exact row_ne_cells h.row h.abox (by decide) _ hb rfl
/-- The alternative is stored into the result's box. -/
theorem AltR.ret (h : AltR B W m ws s0 v s a pv wx) :
    let w4 := ((((((wx.setCell ⟨W.heap.size, 0, none⟩ pv).setCell ⟨W.heap.size, 1, none⟩ (.string ⟨a.prec.name.toArray⟩)).setCell ⟨W.heap.size, 2, none⟩ (.bool a.prec.lit)).setCell ⟨W.heap.size, 3, none⟩ (.int .i64 a.prec.num)).setCell ⟨W.heap.size, 4, none⟩ (.int .i64 a.prec.at_)).setCell ⟨W.heap.size, 5, none⟩ (.int .i64 a.at_))
    w4.heap[W.heap.size]? = some (.cells (altC pv a).toArray 42 (0, 0)) ∧ ReaderAt B w4 m ws s v ∧ BoxFr B W w4 ∧ w4.ownsRow W.heap.size 44 6 pv a.parts.length (a.parts.map partC).flatten := by
  intro w4
  obtain ⟨h1, h2⟩ := six_set h.rbox pv (.string ⟨a.prec.name.toArray⟩) (.bool a.prec.lit) (.int .i64 a.prec.num) (.int .i64 a.prec.at_) (.int .i64 a.at_)
  obtain ⟨h3, h4⟩ := h.old.kp h.rd h.fr h2 (fun b hb => by omega) h.ed h.er
  refine ⟨h1, h3, h4, ownsRow_kp h.row h2 (fun b hb e => ?_)⟩
  subst e
  exact row_ne_cells h.row h.rbox (by decide) _ hb rfl
/-- How an alternative leaves the reader. -/
def RdAltPost (B : Nat) (W : World) (m : Nat) (ws : List Sp.Word) (s : Sp.RdS) (v : RdV) (R : Sp.Rd Sp.Alt) (e : Ending) (w' : World) : Prop :=
  ∃ (a : Sp.Alt) (pv : Value) (j : Nat), e = .returned (.agg (altC pv a).toArray) ∧ w'.ownsRow W.heap.size 44 6 pv a.parts.length (a.parts.map partC).flatten ∧ R.is a ∧ s.i ≤ j ∧ ReaderAt B w' m ws { s with i := j, ws := R.rest, bad := R.bd } v ∧ BoxFr B W w'
end
set_option maxRecDepth 100000 in
set_option maxHeartbeats 12800000 in
theorem reader_alt {B : Nat} {W : World} {m : Nat} {ws : List Sp.Word} {s : Sp.RdS} {v : RdV} (h : ReaderAt B W m ws s v) (hbad : s.bad = false) :
    Calls Tryd.prog 36 #[.pointer (some ⟨m, 0, none⟩)] W (RdAltPost B W m ws s v (Sp.readAlt s.ws)) := by
  obtain ⟨x0, l0, hx0⟩ := h.ends.cons
  obtain ⟨gw, cap, hv, hg, hi, a0, a1, a2⟩ := h.words.cells (h.head hx0)
  have hb := h.block
  have hsm := h.small
  unfold rdCells at hb
  rw [hv] at hb
  have c0 := cell_at (i := 0) hb; have c1 := cell_at (i := 1) hb
  have lm := lt_at hb
  have hhd : Sp.headAt s.ws = x0.at_ := by rw [hx0]; rfl
  generalize hRR : Sp.readAlt s.ws = RR
  have HR := Lib.hid hRR; have HH := Lib.hid h; have HHD := Lib.hid hhd; have HBAD := Lib.hid hbad
  clear hRR h hhd hb hv hx0 hbad
  go_enter Tryd.func36, Tryd.ntmps36
  go_upto_region 1 with fail
  go_region
  obtain ⟨w1, hw1⟩ : ∃ w1 : World, w1 = ((W.alloc (.cells altZ 42)).alloc (.cells #[.slice none 0 0, .string ⟨#[]⟩, .bool false, .int .i64 0, .int .i64 0, .int .i64 x0.at_] 42)).drew := ⟨_, rfl⟩
  unfold altZ at hw1
  rw [← hw1]
  have hst1 : AltR B W m ws s v s ⟨[], Sp.rdNone, x0.at_⟩ (.slice none 0 0) w1 := by
    have hb1 : Below W.heap.size W w1 := by rw [hw1]; exact (((Below.refl _ W).alloc (Nat.le_refl _) _).alloc (by simp) _).drew
    exact ⟨HH.out, HH.out.below hb1, BoxFr.below hb1 HH.out.size, by rw [hw1]; exact heap_fst1 W _ _, by rw [hw1]; exact heap_sec W _ _, World.ownsRow_nil _ _ _ _, rfl, rfl, rfl, rfl, by simp, Nat.le_refl _⟩
  have HST1 := Lib.hid hst1
  clear hw1 hst1 a0 a1 a2 c0 c1 lm hg hi
  go_upto_block 0 with fail
  go_cut [] (fun wx => ∃ (s1 : Sp.RdS) (ps : List Sp.Part) (pv : Value), AltR B W m ws s v s1 ⟨ps, Sp.rdNone, x0.at_⟩ pv wx ∧ s1.bad = false ∧ Sp.rdParts s.ws = (ps, s1.ws))
  case first =>
    go_wp2_with fail
    go_loopg [] s.ws.length (fun q wr => ∃ (s1 : Sp.RdS) (ps : List Sp.Part) (pv : Value), AltR B W m ws s v s1 ⟨ps, Sp.rdNone, x0.at_⟩ pv wr ∧ s1.bad = false ∧ q = s1.ws.length ∧ Sp.rdParts s.ws = (ps ++ (Sp.rdParts s1.ws).1, (Sp.rdParts s1.ws).2))
    case atStart => exact ⟨s, [], _, HST1.out, HBAD.out, rfl, rfl⟩
    case round =>
      obtain ⟨s1, ps, pv, hst, hb1, rfl, hpt⟩ := hrel
      have HST := Lib.hid hst; have HB1 := Lib.hid hb1; have HPT := Lib.hid hpt
      clear hst hb1 hpt HST1
      go_upto_region 2 with fail
      go_cut [26] from 16 to 33 (fun c26 wx => c26 = .bool (Sp.partHere s1.ws) ∧ AltR B W m ws s v s1 ⟨ps, Sp.rdNone, x0.at_⟩ pv wx)
      case first =>
        have H8 := Lib.hid (reader_is 8 [] HST.out.rd)
        have HY := Lib.hid (fun n => reader_symbol (HST.out.rd.below (below_drewN (Below.refl _ wr) n)))
        have HN := Lib.hid (fun n => reader_named (HST.out.rd.below (below_drewN (Below.refl _ wr) n)))
        have HE := Lib.hid (show Sp.partHere s1.ws = (Sp.isW 8 [] s1.ws || (Sp.isSymW s1.ws && !Sp.namedW s1.ws)) from rfl)
        have HD := Lib.hid (fun n => HST.out.below (below_drewN (Below.refl _ wr) n))
        generalize Sp.partHere s1.ws = P at *
        generalize Sp.isW 8 [] s1.ws = b8 at *
        generalize Sp.isSymW s1.ws = bs at *
        generalize Sp.namedW s1.ws = bn at *
        go_wp2_with fail
        refine H8.out.mono ?_
        rintro e w' ⟨rfl, n1, rfl⟩
        cases b8
        · go_wp2_with fail
          refine (HY.out _).mono ?_
          rintro e w' ⟨rfl, n2, rfl⟩
          cases bs
          · go_wp2_with fail
            go_meet
            exact ⟨by rw [HE.out]; rfl, HD.out _⟩
          · go_wp2_with fail
            refine (HN.out _).mono ?_
            rintro e w' ⟨rfl, n3, rfl⟩
            cases bn
            all_goals
              go_wp2_with fail
              go_meet
              exact ⟨by rw [HE.out]; rfl, HD.out _⟩
        · go_wp2_with fail
          go_meet
          exact ⟨by rw [HE.out]; rfl, HD.out _⟩
      case rest =>
        obtain ⟨w2, hw2⟩ : ∃ w2 : World, w2 = wc := ⟨_, rfl⟩
        subst hw2
        obtain ⟨rfl, hst⟩ := hcut
        have HST2 := Lib.hid hst
        clear hst HST
        obtain ⟨x, l, hx⟩ := HST2.out.rd.ends.cons
        cases hph : Sp.partHere s1.ws with
        | true =>
          have hk : x.kind ≠ 10 := by rw [hx] at hph; exact Sp.partHere_ne hph
          have hpt := HPT.out
          rw [hx] at hph hpt
          rw [Sp.parts_step x l hph] at hpt
          have HPT2 := Lib.hid hpt; have HX := Lib.hid hx; have HK := Lib.hid hk
          clear hpt HPT hph hx hk
          obtain ⟨⟨⟨nm, lt, nu, pa⟩, cd, cp⟩, hpq⟩ : ∃ p, p = Sp.partOf x := ⟨_, rfl⟩
          have HPT := Lib.hid (fun (w' : World) (hb : Below w2.heap.size w2 w') => (show Calls Tryd.prog 67 #[.pointer (some ⟨m, 0, none⟩)] w' (fun e w'' => e = .returned (.agg #[.string ⟨nm.toArray⟩, .bool lt, .int .i64 nu, .int .i64 pa, .string ⟨cd.toArray⟩, .int .i64 cp]) ∧ ReaderAt B w'' m ws s1.next v ∧ BoxFr B w' w'') from by
            have hp := reader_part (HST2.out.rd.below hb) HX.out HK.out
            rw [← hpq] at hp
            exact hp))
          obtain ⟨ra, rc, hpv⟩ := ownsRowS_some HST2.out.row
          obtain ⟨np, hnp⟩ : ∃ np, np = (⟨ps, Sp.rdNone, x0.at_⟩ : Sp.Alt).parts.length := ⟨_, rfl⟩
          rw [← hnp] at hpv
          subst hpv
          have HNP : Hid (np ≤ 4001) := Lib.hid (by have := HST2.out.len; have := HST2.out.rd.lt; have := HST2.out.rd.small; omega)
          have HNE := Lib.hid hnp
          have hWle := HST2.out.fr.size
          clear hnp
          have HSK := Lib.hid (fun (w' : World) (kk : KpT (fun t => t = 42) w2 w') => (show ((w'.cell? ⟨W.heap.size + 1, 0, none⟩ = some (.slice ra np rc) ∧ w'.frozen? ⟨W.heap.size + 1, 0, none⟩ = false) ∧ W.heap.size + 1 < w'.heap.size) from by
            have h1 := kk _ _ _ _ HST2.out.abox rfl
            unfold altC at h1
            exact ⟨⟨cell_at (i := 0) h1, frozen_at (i := 0) h1⟩, lt_at h1⟩))
          obtain ⟨ip0, hip0, hiz0, hiz1, hiz2⟩ := info_parts info_partE
          go_upto_region 3 with fail
          refine wp_region_plan (fun w' : World => ((w'.cell? ⟨W.heap.size + 1, 0, none⟩ = some (.slice ra np rc) ∧ w'.frozen? ⟨W.heap.size + 1, 0, none⟩ = false) ∧ W.heap.size + 1 < w'.heap.size)) [7] (.take 0 (.take 1 (.take 2 (.one 3 (.one 4 (.one 5 (.one 6 (.one 7 (.done))))))))) (by kernel_rfl) (by kernel_rfl) (fun _ _ _ _ h => h) ?_
          have hSw := HSK.out _ (show KpT (fun t => t = 42) w2 (w2.drew) from fun _ _ _ _ h _ => h)
          refine wpPlan_takeD (v := ?va1) rfl rfl hSw (by rfl) ?ya1 ?_
          case ya1 => (intro w hSx; (try dsimp only at hSx); go_simp; first | done | with_reducible rfl | rfl)
          (try simp only [Act.put, List.setIfInBounds_toArray, List.set_cons_zero, List.set_cons_succ])
          refine wpPlan_takeD (v := ?va2) rfl rfl hSw (by rfl) ?ya2 ?_
          case ya2 => (intro w hSx; (try dsimp only at hSx); go_simp; first | done | with_reducible rfl | rfl)
          (try simp only [Act.put, List.setIfInBounds_toArray, List.set_cons_zero, List.set_cons_succ])
          refine wpPlan_takeD (v := ?va3) rfl rfl hSw (by rfl) ?ya3 ?_
          case ya3 => (intro w hSx; (try dsimp only at hSx); go_simp; first | done | with_reducible rfl | rfl)
          (try simp only [Act.put, List.setIfInBounds_toArray, List.set_cons_zero, List.set_cons_succ])
          refine wpPlan_run rfl (by rfl) (fun K' hK => ?_)
          (go_simp; go_at_call 67; refine (HPT.out _ (below_drewN (Below.refl _ w2) 1)).mono ?_; rintro e w3 ⟨rfl, h3, hf3'⟩; have hf3 : BoxFr B w2 w3 := ⟨below_undrew hf3'.1, hf3'.2⟩; have H3 := Lib.hid h3; have HF3 := Lib.hid hf3; have hk3 : KpT (fun t => t = 42) w2 w3 := hf3.2.mono (fun t ht => by subst ht; unfold BoxT; decide); have hrow3 := ownsRow_kpT HST2.out.row hf3.2 (by unfold BoxT; decide); rw [← HNE.out] at hrow3; have hsz3 := hf3.size; clear hf3' h3 hf3)
          refine hK _ _ (.inr ?_) ?_
          · exact HSK.out _ hk3
          clear hK K' hSw
          (try simp only [Act.put, List.setIfInBounds_toArray, List.set_cons_zero, List.set_cons_succ])
          refine wpPlan_run rfl (by rfl) (fun K' hK => ?_)
          go_simp
          refine hK _ _ (.inr ?_) ?_
          · exact HSK.out _ (hk3.alloc (.cells #[.string ⟨nm.toArray⟩, .bool lt, .int .i64 nu, .int .i64 pa, .string ⟨cd.toArray⟩, .int .i64 cp] 44))
          clear hK K'
          (try simp only [Act.put, List.setIfInBounds_toArray, List.set_cons_zero, List.set_cons_succ])
          refine wpPlan_run rfl (by rfl) (fun K' hK => ?_)
          (refine wp_append_lies _ _ _ _ (by rfl) W.heap.size 44 ip0 _ 6 64 Tryd.underlying38 hip0 hiz0 hiz1 hiz2 rfl (by decide) _ _ _ (by rfl) (hrow3.alloc _) ⟨w3.heap.size, 0, none⟩ 1 1 (partC ⟨⟨nm, lt, nu, pa⟩, cd, cp⟩) (by rfl) (by rfl) (World.news_of_block (cs := #[.string ⟨nm.toArray⟩, .bool lt, .int .i64 nu, .int .i64 pa, .string ⟨cd.toArray⟩, .int .i64 cp]) (t := 44) (fr := (0, 0)) (heap_last w3 _)) (by simp [Value.oneCell', partC, symC]) (by decide) (by have := HNP.out; unfold maxLen; omega) (by have := HNP.out; omega) (by show W.heap.size ≤ (w3.alloc (.cells #[.string ⟨nm.toArray⟩, .bool lt, .int .i64 nu, .int .i64 pa, .string ⟨cd.toArray⟩, .int .i64 cp] 44)).heap.size; simp only [World.size_alloc]; omega) _ rfl ?_; intro g1 c1 w5 hown1 hgrow1 hat1 hlt1; replace hgrow1 : (w3.alloc (.cells #[.string ⟨nm.toArray⟩, .bool lt, .int .i64 nu, .int .i64 pa, .string ⟨cd.toArray⟩, .int .i64 cp] 44)).grownBy w5 (Value.slice ra np rc).ownBlock := ⟨hgrow1.os, hgrow1.tape, hgrow1.output, hgrow1.size, hgrow1.block⟩; have hk5 : Kp (fun b => (Value.slice ra np rc).ownBlock ≠ some b) w3 w5 := ((Kp.refl _ w3).alloc (.cells #[.string ⟨nm.toArray⟩, .bool lt, .int .i64 nu, .int .i64 pa, .string ⟨cd.toArray⟩, .int .i64 cp] 44)).grown hgrow1 (fun k hk hs => hs hk); have kt5 : KpT (fun t => t ≠ 44) w3 w5 := (KpT.below ((Below.refl _ w3).alloc (Nat.le_refl _) (.cells #[.string ⟨nm.toArray⟩, .bool lt, .int .i64 nu, .int .i64 pa, .string ⟨cd.toArray⟩, .int .i64 cp] 44))).trans (KpT.grown (hrow3.alloc _) hgrow1))
          refine hK _ _ (.inr ?_) ?_
          · exact HSK.out _ (hk3.trans (kt5.mono (fun t ht => by subst ht; decide)))
          clear hK K'
          (try simp only [Act.put, List.setIfInBounds_toArray, List.set_cons_zero, List.set_cons_succ])
          refine wpPlan_run rfl (by rfl) (fun K' hK => ?_)
          go_simp
          refine hK _ _ (.inr ?_) ?_
          · exact HSK.out _ (hk3.trans (kt5.mono (fun t ht => by subst ht; decide)))
          clear hK K'
          (try simp only [Act.put, List.setIfInBounds_toArray, List.set_cons_zero, List.set_cons_succ])
          refine wpPlan_run rfl (by rfl) (fun K' hK => ?_)
          (obtain ⟨⟨z1, z2⟩, hlz⟩ := HSK.out _ (hk3.trans (kt5.mono (fun t ht => by subst ht; decide))); go_simp)
          refine hK _ _ (.inl rfl) ?_
          clear hK K'
          (try simp only [Act.put, List.setIfInBounds_toArray, List.set_cons_zero, List.set_cons_succ])
          refine wpPlan_done ?_
          have hst6 := HST2.out.push (p := ⟨⟨nm, lt, nu, pa⟩, cd, cp⟩) H3.out HF3.out rfl rfl rfl rfl rfl hk5 kt5 (by rw [← HNE.out]; exact hown1)
          rw [hpq] at hst6
          have HST6 := Lib.hid hst6
          clear hst6 hown1 hk5 kt5 hat1 hgrow1 hlt1 hrow3 hk3 z1 z2 hlz HSK HPT

          go_wp2_with fail
          go_roundg l.length
          case measure => rw [HX.out]; simp
          case rel => exact ⟨s1.next, ps ++ [Sp.partOf x], _, HST6.out, HB1.out, by unfold Sp.RdS.next; rw [HX.out]; rfl, by rw [HPT2.out]; unfold Sp.RdS.next; simp [HX.out]⟩
        | false =>
          have hpt := HPT.out
          rw [Sp.parts_stop _ hph, List.append_nil] at hpt
          have HPT2 := Lib.hid hpt
          clear hpt HPT hph
          go_wp2_with fail
          go_meet
          exact ⟨s1, ps, _, HST2.out, HB1.out, HPT2.out⟩
  case rest =>
    obtain ⟨w2, hw2⟩ : ∃ w2 : World, w2 = wc := ⟨_, rfl⟩
    subst hw2
    obtain ⟨s1, ps, pv, hst, hb1, hpt⟩ := hcut
    have HST := Lib.hid hst; have HB1 := Lib.hid hb1; have HPT := Lib.hid hpt
    have HP := Lib.hid (reader_is 5 Sp.precKey hst.rd)
    have hR := HR.out
    unfold Sp.readAlt at hR
    rw [hpt, HHD.out] at hR
    simp only at hR
    have HRR := Lib.hid hR
    have HD := Lib.hid (fun n => hst.below (below_drewN (Below.refl _ w2) n))
    clear hst hb1 hpt hR HR HST1
    cases hb5 : Sp.isW 5 Sp.precKey s1.ws with
    | false =>
      have hR := HRR.out
      rw [hb5, if_neg (by decide)] at hR
      have HR2 := Lib.hid hR
      rw [hb5] at HP
      clear hR hb5 HRR
      go_wp2_with fail
      refine HP.out.mono ?_
      rintro e w' ⟨rfl, n, rfl⟩
      obtain ⟨w3, hw3⟩ : ∃ w3 : World, w3 = w2.drewN n := ⟨_, rfl⟩
      have HST3 := Lib.hid (HD.out n)
      rw [← hw3] at HST3 ⊢
      clear hw3
      obtain ⟨ra, rc, hpv⟩ := ownsRowS_some HST3.out.row
      obtain ⟨np, hnp⟩ : ∃ np, np = ((⟨ps, ⟨[], false, 0, 0⟩, x0.at_⟩ : Sp.Alt)).parts.length := ⟨_, rfl⟩
      rw [← hnp] at hpv
      subst hpv
      have HNE := Lib.hid hnp
      clear hnp
      have heb := HST3.out.abox
      have hzb := HST3.out.rbox
      have hle := lt_at heb
      have hlz := lt_at hzb
      have e0 : w3.cell? ⟨W.heap.size + 1, 0, none⟩ = some (.slice ra np rc) := cell_at (i := 0) heb
      have e1 : w3.cell? ⟨W.heap.size + 1, 1, none⟩ = some (.string ⟨#[]⟩) := cell_at (i := 1) heb
      have e2 : w3.cell? ⟨W.heap.size + 1, 2, none⟩ = some (.bool false) := cell_at (i := 2) heb
      have e3 : w3.cell? ⟨W.heap.size + 1, 3, none⟩ = some (.int .i64 0) := cell_at (i := 3) heb
      have e4 : w3.cell? ⟨W.heap.size + 1, 4, none⟩ = some (.int .i64 0) := cell_at (i := 4) heb
      have e5 : w3.cell? ⟨W.heap.size + 1, 5, none⟩ = some (.int .i64 x0.at_) := cell_at (i := 5) heb
      have z0 : w3.cell? ⟨W.heap.size, 0, none⟩ = some (.slice none 0 0) := cell_at (i := 0) hzb
      have z1 : w3.cell? ⟨W.heap.size, 1, none⟩ = some (.string ⟨#[]⟩) := cell_at (i := 1) hzb
      have z2 : w3.cell? ⟨W.heap.size, 2, none⟩ = some (.bool false) := cell_at (i := 2) hzb
      have z3 : w3.cell? ⟨W.heap.size, 3, none⟩ = some (.int .i64 0) := cell_at (i := 3) hzb
      have z4 : w3.cell? ⟨W.heap.size, 4, none⟩ = some (.int .i64 0) := cell_at (i := 4) hzb
      have z5 : w3.cell? ⟨W.heap.size, 5, none⟩ = some (.int .i64 0) := cell_at (i := 5) hzb
      have y0 : w3.frozen? ⟨W.heap.size, 0, none⟩ = false := frozen_at (i := 0) hzb
      have y1 : w3.frozen? ⟨W.heap.size, 1, none⟩ = false := frozen_at (i := 1) hzb
      have y2 : w3.frozen? ⟨W.heap.size, 2, none⟩ = false := frozen_at (i := 2) hzb
      have y3 : w3.frozen? ⟨W.heap.size, 3, none⟩ = false := frozen_at (i := 3) hzb
      have y4 : w3.frozen? ⟨W.heap.size, 4, none⟩ = false := frozen_at (i := 4) hzb
      have y5 : w3.frozen? ⟨W.heap.size, 5, none⟩ = false := frozen_at (i := 5) hzb
      have HRET := Lib.hid HST3.out.ret
      clear heb hzb
      go_upto_region 5 with fail
      go_wp2_with fail
      obtain ⟨k1, k2, k3, k4⟩ := HRET.out
      refine ret_cell (g := W.heap.size) (cs := (altC (.slice ra np rc) (⟨ps, ⟨[], false, 0, 0⟩, x0.at_⟩ : Sp.Alt)).toArray) (t := 42) (fr := (0, 0)) rfl rfl k1 rfl Tryd.underlying42 (by kernel_rfl) rfl ?_
      exact ⟨(⟨ps, ⟨[], false, 0, 0⟩, x0.at_⟩ : Sp.Alt), _, s1.i, rfl, by rw [HNE.out] at k4 ⊢; exact k4, by rw [← HR2.out]; rfl, HST3.out.ge, by rw [HST3.out.state (by rw [← HR2.out]; rfl) (by rw [← HR2.out, HB1.out]; rfl)]; exact k2, k3⟩

    | true =>
      obtain ⟨x, l, hx⟩ := HST.out.rd.ends.cons
      have hk : x.kind ≠ 10 := by rw [hx] at hb5; exact Sp.isW_ten hb5 (by decide)
      have hR := HRR.out
      rw [hb5, if_pos rfl] at hR
      have HR2 := Lib.hid hR; have HX := Lib.hid hx; have HK := Lib.hid hk
      rw [hb5] at HP
      clear hR hb5 HRR hx hk
      go_wp2_with fail
      refine HP.out.mono ?_
      rintro e w' ⟨rfl, n, rfl⟩
      obtain ⟨w3, hw3⟩ : ∃ w3 : World, w3 = w2.drewN n := ⟨_, rfl⟩
      have hst3 := HD.out n
      rw [← hw3] at hst3 ⊢
      have hmb := hst3.rd.block
      unfold rdCells at hmb
      have b1 : w3.cell? ⟨m, 1, none⟩ = some (.int .i64 (s1.i : Int)) := cell_at (i := 1) hmb
      have f1 : w3.frozen? ⟨m, 1, none⟩ = false := frozen_at (i := 1) hmb
      have lm := lt_at hmb
      have hlt := hst3.rd.lt
      have hw : IntKind.i64.wrap ((s1.i : Int) + 1) = (s1.i : Int) + 1 := IntWalk.i64_in _ ⟨by omega, by omega⟩
      obtain ⟨hs4, hf4⟩ := hst3.rd.step HX.out HK.out
      have hst4 := hst3.step hs4 hf4 rfl rfl rfl rfl (by unfold Sp.RdS.next; simp)
      have HST4 := Lib.hid hst4
      clear hw3 hst3 hmb hs4 hf4 hst4
      go_upto_region 7 with fail
      clear hw hlt b1 f1 lm
      obtain ⟨w4, hw4⟩ : ∃ w4 : World, w4 = w3.setCell ⟨m, 1, none⟩ (.int .i64 ((s1.i : Int) + 1)) := ⟨_, rfl⟩
      rw [← hw4] at HST4 ⊢
      clear hw4
      have HY := Lib.hid (reader_symbol HST4.out.rd)
      have HM := Lib.hid (fun (b : Bool) (n : Nat) => reader_must b (HST4.out.rd.below (below_drewN (Below.refl _ w4) n)) HB1.out)
      have hws : s1.next.ws = l := by unfold Sp.RdS.next; rw [HX.out]; rfl
      rw [show s1.ws.drop 1 = l from by rw [HX.out]; rfl] at HR2
      have HWS := Lib.hid hws
      cases hbs : Sp.isSymW s1.next.ws with
      | false =>
        obtain ⟨y, l2, hy⟩ := HST4.out.rd.ends.cons
        have hR := HR2.out
        rw [← hws, hy] at hR
        simp only at hR
        rw [if_neg (by
          rw [hy] at hbs
          unfold Sp.isSymW at hbs
          rw [Sp.isW_any, Sp.isW_any] at hbs
          simpa using hbs), ← hy] at hR
        have HR3 := Lib.hid hR
        rw [hbs] at HY
        clear hR hbs hws HR2 hy
        go_wp2_with fail
        refine HY.out.mono ?_
        rintro e w' ⟨rfl, n2, rfl⟩
        go_wp2_with fail
        refine (HM.out false n2).mono ?_
        rintro e w5 ⟨rfl, h5, hf5⟩
        have hst5 := (HST4.out.below (below_drewN (Below.refl _ w4) n2)).step h5 hf5 rfl rfl rfl rfl (Nat.le_refl _)
        have HST5 := Lib.hid hst5
        clear h5 hf5 hst5 HM HY
        obtain ⟨ra, rc, hpv⟩ := ownsRowS_some HST5.out.row
        obtain ⟨np, hnp⟩ : ∃ np, np = ((⟨ps, ⟨[], false, 0, 0⟩, x0.at_⟩ : Sp.Alt)).parts.length := ⟨_, rfl⟩
        rw [← hnp] at hpv
        subst hpv
        have HNE := Lib.hid hnp
        clear hnp
        have heb := HST5.out.abox
        have hzb := HST5.out.rbox
        have hle := lt_at heb
        have hlz := lt_at hzb
        have e0 : w5.cell? ⟨W.heap.size + 1, 0, none⟩ = some (.slice ra np rc) := cell_at (i := 0) heb
        have e1 : w5.cell? ⟨W.heap.size + 1, 1, none⟩ = some (.string ⟨#[]⟩) := cell_at (i := 1) heb
        have e2 : w5.cell? ⟨W.heap.size + 1, 2, none⟩ = some (.bool false) := cell_at (i := 2) heb
        have e3 : w5.cell? ⟨W.heap.size + 1, 3, none⟩ = some (.int .i64 0) := cell_at (i := 3) heb
        have e4 : w5.cell? ⟨W.heap.size + 1, 4, none⟩ = some (.int .i64 0) := cell_at (i := 4) heb
        have e5 : w5.cell? ⟨W.heap.size + 1, 5, none⟩ = some (.int .i64 x0.at_) := cell_at (i := 5) heb
        have z0 : w5.cell? ⟨W.heap.size, 0, none⟩ = some (.slice none 0 0) := cell_at (i := 0) hzb
        have z1 : w5.cell? ⟨W.heap.size, 1, none⟩ = some (.string ⟨#[]⟩) := cell_at (i := 1) hzb
        have z2 : w5.cell? ⟨W.heap.size, 2, none⟩ = some (.bool false) := cell_at (i := 2) hzb
        have z3 : w5.cell? ⟨W.heap.size, 3, none⟩ = some (.int .i64 0) := cell_at (i := 3) hzb
        have z4 : w5.cell? ⟨W.heap.size, 4, none⟩ = some (.int .i64 0) := cell_at (i := 4) hzb
        have z5 : w5.cell? ⟨W.heap.size, 5, none⟩ = some (.int .i64 0) := cell_at (i := 5) hzb
        have y0 : w5.frozen? ⟨W.heap.size, 0, none⟩ = false := frozen_at (i := 0) hzb
        have y1 : w5.frozen? ⟨W.heap.size, 1, none⟩ = false := frozen_at (i := 1) hzb
        have y2 : w5.frozen? ⟨W.heap.size, 2, none⟩ = false := frozen_at (i := 2) hzb
        have y3 : w5.frozen? ⟨W.heap.size, 3, none⟩ = false := frozen_at (i := 3) hzb
        have y4 : w5.frozen? ⟨W.heap.size, 4, none⟩ = false := frozen_at (i := 4) hzb
        have y5 : w5.frozen? ⟨W.heap.size, 5, none⟩ = false := frozen_at (i := 5) hzb
        have HRET := Lib.hid HST5.out.ret
        clear heb hzb
        go_upto_region 8 with fail
        go_wp2_with fail
        obtain ⟨k1, k2, k3, k4⟩ := HRET.out
        refine ret_cell (g := W.heap.size) (cs := (altC (.slice ra np rc) (⟨ps, ⟨[], false, 0, 0⟩, x0.at_⟩ : Sp.Alt)).toArray) (t := 42) (fr := (0, 0)) rfl rfl k1 rfl Tryd.underlying42 (by kernel_rfl) rfl ?_
        exact ⟨(⟨ps, ⟨[], false, 0, 0⟩, x0.at_⟩ : Sp.Alt), _, _, rfl, by rw [HNE.out] at k4 ⊢; exact k4, by rw [← HR3.out]; trivial, HST5.out.ge, by rw [HST5.out.state (by rw [← HR3.out]; rfl) (by rw [← HR3.out]; rfl)]; exact k2, k3⟩

      | true =>
        obtain ⟨y, l2, hy⟩ := HST4.out.rd.ends.cons
        have hR := HR2.out
        rw [← hws, hy] at hR
        simp only at hR
        have hky : y.kind = 1 ∨ y.kind = 2 := by
          rw [hy] at hbs
          unfold Sp.isSymW at hbs
          rw [Sp.isW_any, Sp.isW_any] at hbs
          simpa using hbs
        rw [if_pos hky] at hR
        have HR3 := Lib.hid hR; have HYE := Lib.hid hy; have HKY := Lib.hid (show y.kind ≠ 10 by omega)
        rw [hbs] at HY
        clear hR hbs hws HR2 hy hky
        go_wp2_with fail
        refine HY.out.mono ?_
        rintro e w' ⟨rfl, n2, rfl⟩
        go_wp2_with fail
        refine (HM.out true n2).mono ?_
        rintro e w5 ⟨rfl, h5, hf5⟩
        have hst5 := (HST4.out.below (below_drewN (Below.refl _ w4) n2)).step h5 hf5 rfl rfl rfl rfl (Nat.le_refl _)
        have HST5 := Lib.hid hst5
        have HSY := Lib.hid (show Calls Tryd.prog 62 #[.pointer (some ⟨m, 0, none⟩)] w5 (fun e w'' => e = .returned (.agg #[.string ⟨y.text.toArray⟩, .bool (y.kind == 2), .int .i64 0, .int .i64 y.at_]) ∧ ReaderAt B w'' m ws ({ s1.next with bad := !true } : Sp.RdS).next v ∧ BoxFr B w5 w'') from reader_sym hst5.rd HYE.out HKY.out)
        clear h5 hf5 hst5 HM HY
        go_wp2_with fail
        refine HSY.out.mono ?_
        rintro e w6 ⟨rfl, h6, hf6⟩
        have hst6 := HST5.out.step h6 hf6 rfl rfl rfl rfl (by unfold Sp.RdS.next; simp)
        have HST6 := Lib.hid hst6
        clear h6 hf6
        have heb := hst6.abox
        have hle := lt_at heb
        have e1 : w6.cell? ⟨W.heap.size + 1, 1, none⟩ = some (.string ⟨#[]⟩) := cell_at (i := 1) heb
        have g1 : w6.frozen? ⟨W.heap.size + 1, 1, none⟩ = false := frozen_at (i := 1) heb
        have e2 : w6.cell? ⟨W.heap.size + 1, 2, none⟩ = some (.bool false) := cell_at (i := 2) heb
        have g2 : w6.frozen? ⟨W.heap.size + 1, 2, none⟩ = false := frozen_at (i := 2) heb
        have e3 : w6.cell? ⟨W.heap.size + 1, 3, none⟩ = some (.int .i64 0) := cell_at (i := 3) heb
        have g3 : w6.frozen? ⟨W.heap.size + 1, 3, none⟩ = false := frozen_at (i := 3) heb
        have e4 : w6.cell? ⟨W.heap.size + 1, 4, none⟩ = some (.int .i64 0) := cell_at (i := 4) heb
        have g4 : w6.frozen? ⟨W.heap.size + 1, 4, none⟩ = false := frozen_at (i := 4) heb

        have HST7 := Lib.hid (hst6.setPrec (Sp.rdSym y))
        clear heb hst6 HSY HST5 HST4
        go_upto_region 10 with fail
        obtain ⟨s3, hs3⟩ : ∃ s3 : Sp.RdS, s3 = ({ s1.next with bad := !true } : Sp.RdS).next := ⟨_, rfl⟩
        obtain ⟨w7, hw7⟩ : ∃ w7 : World, w7 = ((((w6.setCell ⟨W.heap.size + 1, 1, none⟩ (.string ⟨y.text.toArray⟩)).setCell ⟨W.heap.size + 1, 2, none⟩ (.bool (y.kind == 2))).setCell ⟨W.heap.size + 1, 3, none⟩ (.int .i64 0)).setCell ⟨W.heap.size + 1, 4, none⟩ (.int .i64 y.at_)) := ⟨_, rfl⟩
        have h7 : AltR B W m ws s v s3 ⟨ps, Sp.rdSym y, x0.at_⟩ pv w7 := by rw [hs3, hw7]; exact HST7.out
        rw [← hw7]
        have hws3 : s3.ws = l2 := by rw [hs3]; unfold Sp.RdS.next; simp only; rw [show s1.ws.drop 1 = y :: l2 from HYE.out]; rfl
        have hb3 : s3.bad = false := by rw [hs3]; rfl
        have H8 := Lib.hid (reader_is 8 [] h7.rd)
        have HD7 := Lib.hid (fun n => h7.below (below_drewN (Below.refl _ w7) n))
        have HW3 := Lib.hid hws3; have HB3 := Lib.hid hb3
        clear hs3 hw7 HST7 HST6 h7 hws3 hb3 hle e1 g1 e2 g2 e3 g3 e4 g4
        obtain ⟨z, l3, hz⟩ := (HD7.out 0).rd.ends.cons
        cases hb8 : Sp.isW 8 [] s3.ws with
        | false =>
          have hcg : Sp.codeGo l2 = ([], l2) := by
            rw [HW3.out] at hz hb8
            rw [hz] at hb8 ⊢
            rw [Sp.isW_any, beq_eq_false_iff_ne] at hb8
            rw [Sp.codeGo_cons, if_neg hb8]
          have hR := HR3.out
          rw [hcg, List.append_nil, ← HW3.out] at hR
          have HR4 := Lib.hid hR
          rw [hb8] at H8
          clear hR HR3 hcg hb8 hz
          go_wp2_with fail
          refine H8.out.mono ?_
          rintro e w' ⟨rfl, n3, rfl⟩
          obtain ⟨w8, hw8⟩ : ∃ w8 : World, w8 = w7.drewN n3 := ⟨_, rfl⟩
          have HST8 := Lib.hid (HD7.out n3)
          rw [← hw8] at HST8 ⊢
          clear hw8 H8 HD7
          obtain ⟨ra, rc, hpv⟩ := ownsRowS_some HST8.out.row
          obtain ⟨np, hnp⟩ : ∃ np, np = ((⟨ps, Sp.rdSym y, x0.at_⟩ : Sp.Alt)).parts.length := ⟨_, rfl⟩
          rw [← hnp] at hpv
          subst hpv
          have HNE := Lib.hid hnp
          clear hnp
          have heb := HST8.out.abox
          have hzb := HST8.out.rbox
          have hle := lt_at heb
          have hlz := lt_at hzb
          have e0 : w8.cell? ⟨W.heap.size + 1, 0, none⟩ = some (.slice ra np rc) := cell_at (i := 0) heb
          have e1 : w8.cell? ⟨W.heap.size + 1, 1, none⟩ = some (.string ⟨y.text.toArray⟩) := cell_at (i := 1) heb
          have e2 : w8.cell? ⟨W.heap.size + 1, 2, none⟩ = some (.bool (y.kind == 2)) := cell_at (i := 2) heb
          have e3 : w8.cell? ⟨W.heap.size + 1, 3, none⟩ = some (.int .i64 0) := cell_at (i := 3) heb
          have e4 : w8.cell? ⟨W.heap.size + 1, 4, none⟩ = some (.int .i64 y.at_) := cell_at (i := 4) heb
          have e5 : w8.cell? ⟨W.heap.size + 1, 5, none⟩ = some (.int .i64 x0.at_) := cell_at (i := 5) heb
          have z0 : w8.cell? ⟨W.heap.size, 0, none⟩ = some (.slice none 0 0) := cell_at (i := 0) hzb
          have z1 : w8.cell? ⟨W.heap.size, 1, none⟩ = some (.string ⟨#[]⟩) := cell_at (i := 1) hzb
          have z2 : w8.cell? ⟨W.heap.size, 2, none⟩ = some (.bool false) := cell_at (i := 2) hzb
          have z3 : w8.cell? ⟨W.heap.size, 3, none⟩ = some (.int .i64 0) := cell_at (i := 3) hzb
          have z4 : w8.cell? ⟨W.heap.size, 4, none⟩ = some (.int .i64 0) := cell_at (i := 4) hzb
          have z5 : w8.cell? ⟨W.heap.size, 5, none⟩ = some (.int .i64 0) := cell_at (i := 5) hzb
          have y0 : w8.frozen? ⟨W.heap.size, 0, none⟩ = false := frozen_at (i := 0) hzb
          have y1 : w8.frozen? ⟨W.heap.size, 1, none⟩ = false := frozen_at (i := 1) hzb
          have y2 : w8.frozen? ⟨W.heap.size, 2, none⟩ = false := frozen_at (i := 2) hzb
          have y3 : w8.frozen? ⟨W.heap.size, 3, none⟩ = false := frozen_at (i := 3) hzb
          have y4 : w8.frozen? ⟨W.heap.size, 4, none⟩ = false := frozen_at (i := 4) hzb
          have y5 : w8.frozen? ⟨W.heap.size, 5, none⟩ = false := frozen_at (i := 5) hzb
          have HRET := Lib.hid HST8.out.ret
          clear heb hzb
          go_upto_region 12 with fail
          go_wp2_with fail
          obtain ⟨k1, k2, k3, k4⟩ := HRET.out
          refine ret_cell (g := W.heap.size) (cs := (altC (.slice ra np rc) (⟨ps, Sp.rdSym y, x0.at_⟩ : Sp.Alt)).toArray) (t := 42) (fr := (0, 0)) rfl rfl k1 rfl Tryd.underlying42 (by kernel_rfl) rfl ?_
          exact ⟨(⟨ps, Sp.rdSym y, x0.at_⟩ : Sp.Alt), _, _, rfl, by rw [HNE.out] at k4 ⊢; exact k4, by rw [← HR4.out]; rfl, HST8.out.ge, by rw [HST8.out.state (by rw [← HR4.out]; rfl) (by rw [← HR4.out, HB3.out]; rfl)]; exact k2, k3⟩

        | true =>
          have hkz : z.kind ≠ 10 := by rw [hz] at hb8; exact Sp.isW_ten hb8 (by decide)
          have hcg : Sp.codeGo l2 = ([Sp.partOf z], l3) := by
            rw [HW3.out] at hz hb8
            rw [hz] at hb8 ⊢
            rw [Sp.isW_any, beq_iff_eq] at hb8
            unfold Sp.partOf
            rw [Sp.codeGo_cons, if_pos hb8, if_pos hb8]
          have hR := HR3.out
          rw [hcg] at hR
          have HR4 := Lib.hid hR; have HX3 := Lib.hid hz; have HK3 := Lib.hid hkz
          have HWN := Lib.hid (show s3.next.ws = l3 from by unfold Sp.RdS.next; simp only; rw [hz]; rfl)
          rw [hb8] at H8
          clear hR HR3 hcg hb8 hz hkz
          go_wp2_with fail
          refine H8.out.mono ?_
          rintro e w' ⟨rfl, n3, rfl⟩
          obtain ⟨w2', hw8⟩ : ∃ w8 : World, w8 = w7.drewN n3 := ⟨_, rfl⟩
          have HST8 := Lib.hid (HD7.out n3)
          rw [← hw8] at HST8 ⊢
          clear hw8 H8 HD7 HST
          obtain ⟨w2, rfl⟩ : ∃ w2, w2 = w2' := ⟨_, rfl⟩
          obtain ⟨⟨⟨nm, lt, nu, pa⟩, cd, cp⟩, hpq⟩ : ∃ p, p = Sp.partOf z := ⟨_, rfl⟩
          have HPT := Lib.hid (fun (w' : World) (hb : Below w2.heap.size w2 w') => (show Calls Tryd.prog 67 #[.pointer (some ⟨m, 0, none⟩)] w' (fun e w'' => e = .returned (.agg #[.string ⟨nm.toArray⟩, .bool lt, .int .i64 nu, .int .i64 pa, .string ⟨cd.toArray⟩, .int .i64 cp]) ∧ ReaderAt B w'' m ws s3.next v ∧ BoxFr B w' w'') from by
            have hp := reader_part (HST8.out.rd.below hb) HX3.out HK3.out
            rw [← hpq] at hp
            exact hp))
          obtain ⟨ra, rc, hpv⟩ := ownsRowS_some HST8.out.row
          obtain ⟨np, hnp⟩ : ∃ np, np = (⟨ps, Sp.rdSym y, x0.at_⟩ : Sp.Alt).parts.length := ⟨_, rfl⟩
          rw [← hnp] at hpv
          subst hpv
          have HNP : Hid (np ≤ 4001) := Lib.hid (by have := HST8.out.len; have := HST8.out.rd.lt; have := HST8.out.rd.small; omega)
          have HNE := Lib.hid hnp
          have hWle := HST8.out.fr.size
          clear hnp
          have HSK := Lib.hid (fun (w' : World) (kk : KpT (fun t => t = 42) w2 w') => (show ((w'.cell? ⟨W.heap.size + 1, 0, none⟩ = some (.slice ra np rc) ∧ w'.frozen? ⟨W.heap.size + 1, 0, none⟩ = false) ∧ W.heap.size + 1 < w'.heap.size) from by
            have h1 := kk _ _ _ _ HST8.out.abox rfl
            unfold altC at h1
            exact ⟨⟨cell_at (i := 0) h1, frozen_at (i := 0) h1⟩, lt_at h1⟩))
          obtain ⟨ip0, hip0, hiz0, hiz1, hiz2⟩ := info_parts info_partE
          go_upto_region 11 with fail
          refine wp_region_plan (fun w' : World => ((w'.cell? ⟨W.heap.size + 1, 0, none⟩ = some (.slice ra np rc) ∧ w'.frozen? ⟨W.heap.size + 1, 0, none⟩ = false) ∧ W.heap.size + 1 < w'.heap.size)) [7] (.take 0 (.take 1 (.take 2 (.one 3 (.one 4 (.one 5 (.one 6 (.one 7 (.done))))))))) (by kernel_rfl) (by kernel_rfl) (fun _ _ _ _ h => h) ?_
          have hSw := HSK.out _ (show KpT (fun t => t = 42) w2 (w2.drew) from fun _ _ _ _ h _ => h)
          refine wpPlan_takeD (v := ?va4) rfl rfl hSw (by rfl) ?ya4 ?_
          case ya4 => (intro w hSx; (try dsimp only at hSx); go_simp; first | done | with_reducible rfl | rfl)
          (try simp only [Act.put, List.setIfInBounds_toArray, List.set_cons_zero, List.set_cons_succ])
          refine wpPlan_takeD (v := ?va5) rfl rfl hSw (by rfl) ?ya5 ?_
          case ya5 => (intro w hSx; (try dsimp only at hSx); go_simp; first | done | with_reducible rfl | rfl)
          (try simp only [Act.put, List.setIfInBounds_toArray, List.set_cons_zero, List.set_cons_succ])
          refine wpPlan_takeD (v := ?va6) rfl rfl hSw (by rfl) ?ya6 ?_
          case ya6 => (intro w hSx; (try dsimp only at hSx); go_simp; first | done | with_reducible rfl | rfl)
          (try simp only [Act.put, List.setIfInBounds_toArray, List.set_cons_zero, List.set_cons_succ])
          refine wpPlan_run rfl (by rfl) (fun K' hK => ?_)
          (go_simp; go_at_call 67; refine (HPT.out _ (below_drewN (Below.refl _ w2) 1)).mono ?_; rintro e w3 ⟨rfl, h3, hf3'⟩; have hf3 : BoxFr B w2 w3 := ⟨below_undrew hf3'.1, hf3'.2⟩; have H3 := Lib.hid h3; have HF3 := Lib.hid hf3; have hk3 : KpT (fun t => t = 42) w2 w3 := hf3.2.mono (fun t ht => by subst ht; unfold BoxT; decide); have hrow3 := ownsRow_kpT HST8.out.row hf3.2 (by unfold BoxT; decide); rw [← HNE.out] at hrow3; have hsz3 := hf3.size; clear hf3' h3 hf3)
          refine hK _ _ (.inr ?_) ?_
          · exact HSK.out _ hk3
          clear hK K' hSw
          (try simp only [Act.put, List.setIfInBounds_toArray, List.set_cons_zero, List.set_cons_succ])
          refine wpPlan_run rfl (by rfl) (fun K' hK => ?_)
          go_simp
          refine hK _ _ (.inr ?_) ?_
          · exact HSK.out _ (hk3.alloc (.cells #[.string ⟨nm.toArray⟩, .bool lt, .int .i64 nu, .int .i64 pa, .string ⟨cd.toArray⟩, .int .i64 cp] 44))
          clear hK K'
          (try simp only [Act.put, List.setIfInBounds_toArray, List.set_cons_zero, List.set_cons_succ])
          refine wpPlan_run rfl (by rfl) (fun K' hK => ?_)
          (refine wp_append_lies _ _ _ _ (by rfl) W.heap.size 44 ip0 _ 6 64 Tryd.underlying38 hip0 hiz0 hiz1 hiz2 rfl (by decide) _ _ _ (by rfl) (hrow3.alloc _) ⟨w3.heap.size, 0, none⟩ 1 1 (partC ⟨⟨nm, lt, nu, pa⟩, cd, cp⟩) (by rfl) (by rfl) (World.news_of_block (cs := #[.string ⟨nm.toArray⟩, .bool lt, .int .i64 nu, .int .i64 pa, .string ⟨cd.toArray⟩, .int .i64 cp]) (t := 44) (fr := (0, 0)) (heap_last w3 _)) (by simp [Value.oneCell', partC, symC]) (by decide) (by have := HNP.out; unfold maxLen; omega) (by have := HNP.out; omega) (by show W.heap.size ≤ (w3.alloc (.cells #[.string ⟨nm.toArray⟩, .bool lt, .int .i64 nu, .int .i64 pa, .string ⟨cd.toArray⟩, .int .i64 cp] 44)).heap.size; simp only [World.size_alloc]; omega) _ rfl ?_; intro g1 c1 w5 hown1 hgrow1 hat1 hlt1; replace hgrow1 : (w3.alloc (.cells #[.string ⟨nm.toArray⟩, .bool lt, .int .i64 nu, .int .i64 pa, .string ⟨cd.toArray⟩, .int .i64 cp] 44)).grownBy w5 (Value.slice ra np rc).ownBlock := ⟨hgrow1.os, hgrow1.tape, hgrow1.output, hgrow1.size, hgrow1.block⟩; have hk5 : Kp (fun b => (Value.slice ra np rc).ownBlock ≠ some b) w3 w5 := ((Kp.refl _ w3).alloc (.cells #[.string ⟨nm.toArray⟩, .bool lt, .int .i64 nu, .int .i64 pa, .string ⟨cd.toArray⟩, .int .i64 cp] 44)).grown hgrow1 (fun k hk hs => hs hk); have kt5 : KpT (fun t => t ≠ 44) w3 w5 := (KpT.below ((Below.refl _ w3).alloc (Nat.le_refl _) (.cells #[.string ⟨nm.toArray⟩, .bool lt, .int .i64 nu, .int .i64 pa, .string ⟨cd.toArray⟩, .int .i64 cp] 44))).trans (KpT.grown (hrow3.alloc _) hgrow1))
          refine hK _ _ (.inr ?_) ?_
          · exact HSK.out _ (hk3.trans (kt5.mono (fun t ht => by subst ht; decide)))
          clear hK K'
          (try simp only [Act.put, List.setIfInBounds_toArray, List.set_cons_zero, List.set_cons_succ])
          refine wpPlan_run rfl (by rfl) (fun K' hK => ?_)
          go_simp
          refine hK _ _ (.inr ?_) ?_
          · exact HSK.out _ (hk3.trans (kt5.mono (fun t ht => by subst ht; decide)))
          clear hK K'
          (try simp only [Act.put, List.setIfInBounds_toArray, List.set_cons_zero, List.set_cons_succ])
          refine wpPlan_run rfl (by rfl) (fun K' hK => ?_)
          (obtain ⟨⟨z1, z2⟩, hlz⟩ := HSK.out _ (hk3.trans (kt5.mono (fun t ht => by subst ht; decide))); go_simp)
          refine hK _ _ (.inl rfl) ?_
          clear hK K'
          (try simp only [Act.put, List.setIfInBounds_toArray, List.set_cons_zero, List.set_cons_succ])
          refine wpPlan_done ?_
          have hst6 := HST8.out.push (p := ⟨⟨nm, lt, nu, pa⟩, cd, cp⟩) H3.out HF3.out rfl rfl rfl rfl rfl hk5 kt5 (by rw [← HNE.out]; exact hown1)
          rw [hpq] at hst6
          have HST6 := Lib.hid hst6
          clear hst6 hown1 hk5 kt5 hat1 hgrow1 hlt1 hrow3 hk3 z1 z2 hlz HSK HPT

          obtain ⟨w9, hw9⟩ : ∃ w9 : World, w9 = w5.setCell ⟨W.heap.size + 1, 0, none⟩ (.slice (some ⟨g1, 0, none⟩) (np + 1) c1) := ⟨_, rfl⟩
          rw [← hw9] at HST6 ⊢
          clear hw9

          have heb := HST6.out.abox
          have hzb := HST6.out.rbox
          have hle := lt_at heb
          have hlz := lt_at hzb
          have e0 : w9.cell? ⟨W.heap.size + 1, 0, none⟩ = some (.slice (some ⟨g1, 0, none⟩) (np + 1) c1) := cell_at (i := 0) heb
          have e1 : w9.cell? ⟨W.heap.size + 1, 1, none⟩ = some (.string ⟨y.text.toArray⟩) := cell_at (i := 1) heb
          have e2 : w9.cell? ⟨W.heap.size + 1, 2, none⟩ = some (.bool (y.kind == 2)) := cell_at (i := 2) heb
          have e3 : w9.cell? ⟨W.heap.size + 1, 3, none⟩ = some (.int .i64 0) := cell_at (i := 3) heb
          have e4 : w9.cell? ⟨W.heap.size + 1, 4, none⟩ = some (.int .i64 y.at_) := cell_at (i := 4) heb
          have e5 : w9.cell? ⟨W.heap.size + 1, 5, none⟩ = some (.int .i64 x0.at_) := cell_at (i := 5) heb
          have z0 : w9.cell? ⟨W.heap.size, 0, none⟩ = some (.slice none 0 0) := cell_at (i := 0) hzb
          have z1 : w9.cell? ⟨W.heap.size, 1, none⟩ = some (.string ⟨#[]⟩) := cell_at (i := 1) hzb
          have z2 : w9.cell? ⟨W.heap.size, 2, none⟩ = some (.bool false) := cell_at (i := 2) hzb
          have z3 : w9.cell? ⟨W.heap.size, 3, none⟩ = some (.int .i64 0) := cell_at (i := 3) hzb
          have z4 : w9.cell? ⟨W.heap.size, 4, none⟩ = some (.int .i64 0) := cell_at (i := 4) hzb
          have z5 : w9.cell? ⟨W.heap.size, 5, none⟩ = some (.int .i64 0) := cell_at (i := 5) hzb
          have y0 : w9.frozen? ⟨W.heap.size, 0, none⟩ = false := frozen_at (i := 0) hzb
          have y1 : w9.frozen? ⟨W.heap.size, 1, none⟩ = false := frozen_at (i := 1) hzb
          have y2 : w9.frozen? ⟨W.heap.size, 2, none⟩ = false := frozen_at (i := 2) hzb
          have y3 : w9.frozen? ⟨W.heap.size, 3, none⟩ = false := frozen_at (i := 3) hzb
          have y4 : w9.frozen? ⟨W.heap.size, 4, none⟩ = false := frozen_at (i := 4) hzb
          have y5 : w9.frozen? ⟨W.heap.size, 5, none⟩ = false := frozen_at (i := 5) hzb
          have HRET := Lib.hid HST6.out.ret
          clear heb hzb
          go_upto_region 12 with fail
          go_wp2_with fail
          obtain ⟨k1, k2, k3, k4⟩ := HRET.out
          refine ret_cell (g := W.heap.size) (cs := (altC (.slice (some ⟨g1, 0, none⟩) (np + 1) c1) (⟨ps ++ [Sp.partOf z], Sp.rdSym y, x0.at_⟩ : Sp.Alt)).toArray) (t := 42) (fr := (0, 0)) rfl rfl k1 rfl Tryd.underlying42 (by kernel_rfl) rfl ?_
          exact ⟨(⟨ps ++ [Sp.partOf z], Sp.rdSym y, x0.at_⟩ : Sp.Alt), _, _, rfl, k4, by rw [← HR4.out]; rfl, HST6.out.ge, by rw [HST6.out.state (by rw [← HR4.out]; exact HWN.out.symm) (by rw [← HR4.out]; exact HB3.out.symm)]; exact k2, k3⟩

end Go.Proofs.YtphdfbmmjkccgaaDoor
