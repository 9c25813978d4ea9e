/- The walk of GramStart. -/
import Derived.Test.YthmimcegiihcnaaDoorZ27
import Derived.Test.YthmimcegiihcnaaDoorZ29
import Derived.Test.YthmimcegiihcnaaDoorZ10
namespace Go.Proofs.YthmimcegiihcnaaDoor
open Go.RowKit Go.Maps

theorem Gl4.below {w w' : World} (h : Gl4 w) (hb : Below w.heap.size w w') : Gl4 w' := by
  obtain ⟨⟨m, hm⟩, hz, ht⟩ := h
  have hs := hb.size
  exact ⟨⟨m, (hb.cell (p := ⟨0, 0, none⟩) (by show 0 < _; omega)).trans hm⟩, by omega, var?_below hb (by kernel_rfl : Tryd.prog.globalNamed "internal/strconv.uint64pow10" = some 1) (by omega) ht⟩
theorem GrAt_below {W w' : World} {v : Value} {x : Sp.Gr} (h : GrAt W v x) (hb : Below W.heap.size W w') : GrAt w' v x := by
  obtain ⟨rv, lv, iv, e, h1, ⟨f, h2, h3⟩, h4, h5, h6⟩ := h
  exact ⟨rv, lv, iv, e, h1, ⟨f, h2.below hb, fun i row hi => ⟨SlAt.below (h3 i row hi).1 hb, (h3 i row hi).2⟩⟩, SlAt.below h4 hb, SlAt.below h5 hb, h6⟩
/-- What gram.Of hands back where there is no fault. -/
theorem ofPost_ok {W w' : World} {T : List Sp.Tok} {N : List Sp.Non} {P : Sp.Prod} {B : List Sp.Prod} {e : Ending} (h : OfPost W (⟨T, N, P :: B, [], []⟩, ⟨0, 0, []⟩) e w') :
    Below W.heap.size W w' ∧ ∃ ta tc na nc pa pc, e = .returned (.tuple #[.agg #[.slice ta T.length tc, .slice na N.length nc, .slice pa (B.length + 1) pc, .string ⟨#[]⟩, .string ⟨#[]⟩], .agg #[.int .i64 0, .int .i64 0, .string ⟨#[]⟩]]) ∧ GramOwn w' (.agg #[.slice ta T.length tc, .slice na N.length nc, .slice pa (B.length + 1) pc, .string ⟨#[]⟩, .string ⟨#[]⟩]) ⟨T, N, P :: B, [], []⟩ ∧ B.length + 1 ≤ pc := by
  obtain ⟨hb, gv, he, hgo⟩ := h
  have hgo' := hgo
  obtain ⟨b, ta, tc, na, nc, pa, pc, rfl, h1, h2, f, g, h3, h4⟩ := hgo
  refine ⟨hb, ta, tc, na, nc, pa, pc, he, hgo', ?_⟩
  rcases h3.2 with ⟨_, h0⟩ | ⟨c, cap, cur, hv, _, _, hle, _⟩
  · simp at h0
  · simp only [Value.slice.injEq] at hv
    obtain ⟨_, _, rfl⟩ := hv
    exact hle
/-- What is read of it: the tokens, the nonterminals, the productions. -/
theorem gramOwn_read {w : World} {ta na pa : Option Addr} {tc nc pc : Nat} {T : List Sp.Tok} {N : List Sp.Non} {P : Sp.Prod} {B : List Sp.Prod} (h : GramOwn w (.agg #[.slice ta T.length tc, .slice na N.length nc, .slice pa (B.length + 1) pc, .string ⟨#[]⟩, .string ⟨#[]⟩]) ⟨T, N, P :: B, [], []⟩) :
    SlAt w (.slice ta T.length tc) 6 (T.map tokC) ∧ SlAt w (.slice na N.length nc) 2 (N.map nonC) ∧ ProdsAt w (.slice pa (B.length + 1) pc) (P :: B) := by
  obtain ⟨tv, nv, pv, ev, ht, hn, hp⟩ := h.at
  replace ev := Value.agg.inj ev
  simp only [Array.mk.injEq, List.cons.injEq] at ev
  obtain ⟨rfl, rfl, rfl, _⟩ := ev
  exact ⟨ht, hn, hp⟩
/-- The source, its declarations growing. -/
structure StI (W wr : World) (bs B C : Nat) (dv qv : Value) (ds : List Sp.Decl) (rs : List Sp.Rule) : Prop where
  src : wr.heap[bs]? = some (.cells #[.string ⟨#[]⟩, dv, qv, .string ⟨#[]⟩] 29 (0, 0))
  decls : DeclsOwn B wr dv ds
  rules : RulesOwn C wr qv rs
  bel : Below W.heap.size W wr
  ge : W.heap.size ≤ bs
theorem StI.step {W wr w8 w' : World} {bs B C n c2 g2 bsy : Nat} {da : Option Addr} {dc : Nat} {qv : Value} {ds : List Sp.Decl} {rs : List Sp.Rule} {d : Sp.Decl} {f : Nat → Value} (h : StI W wr bs B C (.slice da n dc) qv ds rs) (hn : n = ds.length)
    (hch : ∀ (i : Nat) (a : Sp.Decl), ds[i]? = some a → symsOwn wr (f i) a) (hk8 : Kp (fun b => b = bs) wr w8) (hk9 : Kp (fun b => b < W.heap.size) wr w8) (kt8 : KpT (fun t => t ≠ 43) wr w8)
    (hsy : w8.ownsRow B 40 4 (.slice (some ⟨bsy, 0, none⟩) 1 1) d.syms.length (d.syms.map symC).flatten)
    (hown : w8.ownsRow B 43 4 (.slice (some ⟨g2, 0, none⟩) (n + 1) c2) (n + 1) ((ds.mapIdx fun i a => declC (f i) a).flatten ++ declC (.slice (some ⟨bsy, 0, none⟩) 1 1) d)) (hw : w' = w8.setCell ⟨bs, 1, none⟩ (.slice (some ⟨g2, 0, none⟩) (n + 1) c2)) :
    StI W w' bs B C (.slice (some ⟨g2, 0, none⟩) (n + 1) c2) qv (ds ++ [d]) rs ∧ KpT (fun t => t ≠ 43 ∧ t ≠ 29) wr w' := by
  have hds : DeclsOwn B w8 (.slice (some ⟨g2, 0, none⟩) (n + 1) c2) (ds ++ [d]) := by
    rw [hn] at hown ⊢
    exact OwnR.snoc hch hown (fun u a h => symsOwn_kp kt8 (by decide) u a h) ⟨_, hsy⟩
  subst hw
  have hs := hk8.at h.src rfl
  have kt : KpT (fun t => t ≠ 29) w8 (w8.setCell ⟨bs, 1, none⟩ (.slice (some ⟨g2, 0, none⟩) (n + 1) c2)) := KpT.setCell (fun _ _ _ _ h _ => h) hs (by simp) _
  have kr := rules_kp h.rules kt8 (by decide) (by decide) (by decide)
  refine ⟨⟨heap_setCell_at hs, decls_kp hds kt (by decide) (by decide), rules_kp kr kt (by decide) (by decide) (by decide), ?_, h.ge⟩, (kt8.mono (fun _ h => h.1)).trans (kt.mono (fun _ h => h.2))⟩
  exact h.bel.trans (Kp.below (hk9.setCell (p := ⟨bs, 1, none⟩) (by have := h.ge; simp only; omega) _) h.bel.size (fun b hb => hb))
theorem StI.keep {W w w' : World} {bs B C : Nat} {dv qv : Value} {ds : List Sp.Decl} {rs : List Sp.Rule} (h : StI W w bs B C dv qv ds rs) (hb : Below w.heap.size w w') : StI W w' bs B C dv qv ds rs :=
  ⟨(hb.block _ (lt_at h.src)).trans h.src, decls_kp h.decls (KpT.below (T := fun _ => True) hb) trivial trivial, rules_kp h.rules (KpT.below (T := fun _ => True) hb) trivial trivial trivial, h.bel.trans (hb.mono h.bel.size), h.ge⟩
theorem Kp.cellEq {S : Nat → Prop} {w w' : World} (h : Kp S w w') {b i : Nat} (hb : b < w.heap.size) (hs : S b) : w'.cell? ⟨b, i, none⟩ = w.cell? ⟨b, i, none⟩ := by
  simp [World.cell?, h.block b hb hs]
theorem startDecl_small {nm : List UInt8} (at_ : Int) (h : nm.length ≤ 4000) : smallDecl (Sp.startDecl nm at_) := by
  refine ⟨by simp [Sp.startDecl], by simp [Sp.startDecl], fun s hs => ?_⟩
  simp only [Sp.startDecl, List.mem_singleton] at hs
  subst hs
  exact h
/-- A rule's name, as it lies: its block and its cell. -/
theorem rule_cell {C : Nat} {w : World} {qa : Option Addr} {nr qc : Nat} {rs : List Sp.Rule} (h : RulesOwn C w (.slice qa nr qc) rs) {i : Nat} {r : Sp.Rule} (hr : rs[i]? = some r) : ∃ qb cur, qa = some ⟨qb, 0, none⟩ ∧ w.heap[qb]? = some (.cells cur 52 (0, 0)) ∧ w.cell? ⟨qb, i * 3, none⟩ = some (.string ⟨r.left.toArray⟩) := by
  obtain ⟨g, hs, _⟩ := h.slAt (fun _ _ => rfl)
  obtain ⟨f, ho, _⟩ := h
  obtain ⟨b, off, e, hb, hc⟩ := hs.at (k := i) (row := ruleC (g i) r) (by rw [List.getElem?_mapIdx, hr]; rfl)
  have hc0 := hc w (Below.refl _ _) 0 _ rfl
  simp only [Nat.add_zero] at hc0
  rcases ho.2 with ⟨hv, h0⟩ | ⟨q, cap, cur, hv, _, hh, _⟩
  · have := (List.getElem?_eq_some_iff.1 hr).1
    omega
  · simp only [Value.slice.injEq] at hv
    obtain ⟨hv, _⟩ := hv
    rw [hv] at e
    simp only [Option.some.injEq, Addr.mk.injEq, and_true] at e
    obtain ⟨rfl, rfl⟩ := e
    rw [Nat.zero_add] at hc0
    exact ⟨q, cur, hv, hh, hc0⟩
theorem start_small {x : Sp.Source} (h : smallSrc x) (hd : x.decls.length ≤ 3998) (ds : List Sp.Decl) (hl : ds.length ≤ 2) (hs : ∀ d ∈ ds, smallDecl d) : smallSrc { x with decls := x.decls ++ ds } := by
  refine ⟨h.1, h.2.1, by simp only [List.length_append]; omega, h.2.2.2.1, fun d hd => ?_, h.2.2.2.2.2⟩
  rcases List.mem_append.1 hd with hd | hd
  · exact h.2.2.2.2.1 d hd
  · exact hs d hd
set_option maxRecDepth 100000 in
set_option maxHeartbeats 12800000 in
theorem law_GramStart (x : Sp.Gr) (v : Value) (k0 : Int) (W : World) (hx : GrAt W v x) (hw1 : (Lit.int .i64 k0).wf = true) (hg : Gl4 W) :
    Calls Tryd.prog 10 #[v, .int .i64 k0] W fun e w' => e = .returned (.bool true) ∧ Below W.heap.size W w' := by
  have hx0 := hx
  obtain ⟨rv, lv, iv, rfl, _, ⟨rf, hr1, _⟩, hl, hi, _⟩ := hx
  obtain ⟨ra, rc, rfl⟩ := hr1.form
  obtain ⟨la, lc, rfl⟩ := ints_form hl
  obtain ⟨ia, icp, rfl⟩ := ints_form hi
  rw [List.length_mapIdx] at hx0 ⊢
  have HC0 : Hid (∀ w', Below W.heap.size W w' → Calls Tryd.prog 13 #[.agg #[.int .i64 x.nons, .slice ra x.rules.length rc, .slice la x.levels.length lc, .slice ia x.inner.length icp, .bool x.bare]] w' (MadePostS (Sp.grSource x) w')) := Lib.hid (fun w' h => made_SourceS x _ w' (GrAt_below hx0 h))
  clear hr1 hl hi hx0
  generalize x.rules.length = n1 at HC0 ⊢
  generalize x.levels.length = n2 at HC0 ⊢
  generalize x.inner.length = n3 at HC0 ⊢
  have HG := Lib.hid hg; have HW1 := Lib.hid hw1
  obtain ⟨id0, hid0, hdz0, hdz1, hdz2⟩ := info_parts info_declE
  clear hg hw1
  go_enter Tryd.func10, Tryd.ntmps10
  go_wp2_with fail
  refine (wakes9 _ (HG.out.below ((Below.refl _ W).alloc (Nat.le_refl _) _))).mono ?_
  rintro e w1 ⟨rfl, hb1⟩
  have q0 := (hb1.block _ (by simp)).trans (heap_last W (.cells #[.int .i64 x.nons, .slice ra n1 rc, .slice la n2 lc, .slice ia n3 icp, .bool x.bare] 25))
  have c0 := cell_at (i := 0) q0; have c1 := cell_at (i := 1) q0; have c2 := cell_at (i := 2) q0; have c3 := cell_at (i := 3) q0; have c4 := cell_at (i := 4) q0
  have l0 := lt_at q0
  have HB1 : Hid (Below W.heap.size W w1) := Lib.hid (((Below.refl _ W).alloc (Nat.le_refl _) _).trans (hb1.mono (by simp)))
  clear q0 hb1
  go_wp2_with fail
  refine (HC0.out _ HB1.out).mono ?_
  rintro e w2 ⟨pv, qv, B, C, rfl, hb2, ho1, ho2, hB, hBw⟩
  rw [show (srcC pv qv (Sp.grSource x)).toArray = #[.string ⟨#[]⟩, pv, qv, .string ⟨#[]⟩] from rfl]
  have hpv : ∃ a cap, pv = .slice a (Sp.grSource x).decls.length cap := by
    obtain ⟨f, h, _⟩ := ho1
    exact ownsRowS_some h
  have hqv : ∃ a cap, qv = .slice a (Sp.grSource x).rules.length cap := by
    obtain ⟨f, h, _⟩ := ho2
    exact ownsRowS_some h
  obtain ⟨da, dc, rfl⟩ := hpv
  obtain ⟨qa, qc, rfl⟩ := hqv
  have hsm : smallSrc (Sp.grSource x) := (tiny_small (grSource_tiny x)).1
  have hdl : (Sp.grSource x).decls.length ≤ 3998 := (grSource_tiny x).2.2.1 |> fun h => by omega
  have hlaw := Sp.start_made x
  have hsrc : Sp.grSource x = ⟨[], (Sp.grSource x).decls, (Sp.grSource x).rules, []⟩ := rfl
  obtain ⟨ds, hds⟩ : ∃ ds, ds = (Sp.grSource x).decls := ⟨_, rfl⟩
  obtain ⟨rs, hrs⟩ : ∃ rs, rs = (Sp.grSource x).rules := ⟨_, rfl⟩
  rw [← hds] at ho1 hdl
  rw [← hrs] at ho2
  rw [← hds, ← hrs] at hsrc ⊢
  rw [hsrc] at hlaw hsm
  simp only at hlaw
  have hnr4 := Sp.start_rules x
  rw [← hrs] at hnr4
  obtain ⟨hnr1, hnr4⟩ := hnr4
  obtain ⟨i, hi⟩ : ∃ i : Nat, k0 % ((rs.length : Nat) : Int) = (i : Int) := ⟨(k0 % (rs.length : Nat)).toNat, by have := Int.emod_nonneg k0 (b := (rs.length : Nat)) (by omega); omega⟩
  have hil : i < rs.length := by have := Int.emod_lt_of_pos k0 (b := (rs.length : Nat)) (by omega); omega
  obtain ⟨r, hr⟩ : ∃ r, rs[i]? = some r := ⟨_, List.getElem?_eq_getElem hil⟩
  obtain ⟨TT, NN, PB, g1, g2, g3, b1, b2, b3, b4, b5, _, b6⟩ := hlaw i r hr
  obtain ⟨nm, hnm⟩ : ∃ nm, nm = r.left := ⟨_, rfl⟩
  rw [← hnm] at g2 g3 b6
  obtain ⟨nd, hnd⟩ : ∃ nd, nd = ds.length := ⟨_, rfl⟩
  obtain ⟨nr, hnr⟩ : ∃ nr, nr = rs.length := ⟨_, rfl⟩
  rw [← hnd] at hdl ⊢
  rw [← hnr] at hi hil hnr1 hnr4 ⊢
  have hB1 := HB1.out.size
  have HB2 : Hid (Below W.heap.size W w2) := Lib.hid (HB1.out.trans (hb2.mono hB1))
  have HBB : Hid (W.heap.size ≤ B) := Lib.hid (Nat.le_trans hB1 hB)
  have HZ : Hid (W.heap.size + 1 ≤ w2.heap.size) := Lib.hid (Nat.le_trans l0 hb2.size)
  have HBW2 := Lib.hid hBw
  have HG1 := Lib.hid g1; have HG2 := Lib.hid g2; have HG3 := Lib.hid g3; have HB3 := Lib.hid b3; have HB6 := Lib.hid b6
  have HI := Lib.hid hi; have HR := Lib.hid hr; have HNM := Lib.hid hnm; have HND := Lib.hid hnd; have HNR := Lib.hid hnr; have HSM := Lib.hid hsm
  have HO1 := Lib.hid ho1; have HO2 := Lib.hid ho2
  clear HC0 c0 c1 c2 c3 c4 l0 ho1 ho2 hB hBw hsm hlaw hsrc hds hrs hb2 HB1 hB1 g1 g2 g3 b3 b6 hi hr hnm hnd hnr
  go_upto_region 4 with fail
  obtain ⟨wA, hwA⟩ : ∃ wA : World, wA = w2.alloc (.cells #[.string ⟨#[]⟩, .slice da nd dc, .slice qa nr qc, .string ⟨#[]⟩] 29) := ⟨_, rfl⟩
  rw [← hwA]
  have HST : Hid (StI W wA w2.heap.size B C (.slice da nd dc) (.slice qa nr qc) ds rs) := Lib.hid (by
    have hb : Below w2.heap.size w2 wA := by rw [hwA]; exact (Below.refl _ w2).alloc (Nat.le_refl _) _
    refine ⟨by rw [hwA]; exact heap_last w2 _, ?_, ?_, HB2.out.trans (hb.mono HB2.out.size), HB2.out.size⟩
    · have h := HO1.out
      rw [← HND.out] at h
      exact decls_kp h (KpT.below (T := fun _ => True) hb) trivial trivial
    · have h := HO2.out
      rw [← HNR.out] at h
      exact rules_kp h (KpT.below (T := fun _ => True) hb) trivial trivial trivial)
  have HBA : Hid (B ≤ wA.heap.size) := Lib.hid (by rw [hwA, World.size_alloc]; have := HBW2.out; omega)
  have HZA : Hid (6 ≤ wA.heap.size) := Lib.hid (by rw [hwA, World.size_alloc]; have := HZ.out; have := HG.out.2.1; omega)
  clear hwA HO1 HO2 HB2 HBW2
  generalize w2.heap.size = bs at HST HZ ⊢
  have q0 := HST.out.src
  have c0 := cell_at (i := 0) q0; have c1 := cell_at (i := 1) q0; have c2 := cell_at (i := 2) q0; have c3 := cell_at (i := 3) q0
  have l0 := lt_at q0
  have hof := gram_Of ⟨[], ds, rs, []⟩ (.slice da nd dc) (.slice qa nr qc) wA (decls_at HST.out.decls) (rules_at HST.out.rules) HSM.out (HG.out.up HST.out.bel HZA.out)
  rw [HG1.out] at hof
  have HOF := Lib.hid hof
  clear q0 hof HG1
  go_wp2_with fail
  refine HOF.out.mono ?_
  rintro e w3 hpost
  obtain ⟨hb3, ta, tc, na, nc, pa, pc, rfl, hgo, hpc⟩ := ofPost_ok hpost
  have HGO := Lib.hid hgo
  have HST3 := Lib.hid (HST.out.keep hb3)
  have HB3' : Hid (B ≤ w3.heap.size) := Lib.hid (Nat.le_trans HBA.out hb3.size)
  have HZ3 : Hid (6 ≤ w3.heap.size) := Lib.hid (Nat.le_trans HZA.out hb3.size)
  clear hpost hgo HST HOF c0 c1 c2 c3 l0 hb3 HZA HBA
  go_upto_region 5 with fail
  obtain ⟨wr, hwr⟩ : ∃ wr : World, wr = (w3.alloc (.cells #[.slice ta TT.length tc, .slice na NN.length nc, .slice pa (PB.length + 1) pc, .string ⟨#[]⟩, .string ⟨#[]⟩] 65)).alloc (.cells #[.int .i64 0, .int .i64 0, .string ⟨#[]⟩] 68) := ⟨_, rfl⟩
  rw [← hwr]
  have hbr : Below w3.heap.size w3 wr := by rw [hwr]; exact ((Below.refl _ w3).alloc (Nat.le_refl _) _).alloc (by simp) _
  have HST := Lib.hid (HST3.out.keep hbr)
  have HGO1 := Lib.hid (HGO.out.below hbr)
  have HGB1 : Hid (wr.heap[w3.heap.size]? = some (.cells #[.slice ta TT.length tc, .slice na NN.length nc, .slice pa (PB.length + 1) pc, .string ⟨#[]⟩, .string ⟨#[]⟩] 65 (0, 0)) ∧ wr.heap[w3.heap.size + 1]? = some (.cells #[.int .i64 0, .int .i64 0, .string ⟨#[]⟩] 68 (0, 0))) := Lib.hid (by rw [hwr]; exact ⟨heap_old (heap_last w3 _) _, heap_sec w3 _ _⟩)
  have HBS : Hid (B ≤ wr.heap.size) := Lib.hid (Nat.le_trans HB3'.out hbr.size)
  have HZR : Hid (6 ≤ wr.heap.size) := Lib.hid (Nat.le_trans HZ3.out hbr.size)
  clear hwr hbr HGO HST3 HB3' HZ3
  generalize w3.heap.size = gb at HGB1 ⊢
  obtain ⟨qb, qcur, rfl, hqb, hqc⟩ := rule_cell HST.out.rules HR.out
  rw [← HNM.out] at hqc
  have q0 := HST.out.src
  have c0 := cell_at (i := 0) q0; have c1 := cell_at (i := 1) q0; have c2 := cell_at (i := 2) q0; have c3 := cell_at (i := 3) q0
  have l0 := lt_at q0
  have HQB := Lib.hid hqb; have HQC := Lib.hid hqc
  clear q0 hqb hqc
  go_wp2_with fail
  refine (ref_Within9 k0 nr _ (by omega) (by omega) HW1.out).mono ?_
  rintro e w' ⟨rfl, rfl⟩
  rw [HI.out]
  clear c0 c1 c2 c3 l0
  obtain ⟨f, ho, hch⟩ := HST.out.decls
  rw [← HND.out] at ho
  have HO := Lib.hid ho; have HCH := Lib.hid hch
  have hiI : (i : Int) < (nr : Int) := by omega
  have HSK : Hid (∀ w', Kp (fun b => b = bs ∨ b = qb) wr w' → ((w'.cell? ⟨bs, 1, none⟩ = some (.slice da nd dc) ∧ w'.frozen? ⟨bs, 1, none⟩ = false) ∧ w'.cell? ⟨bs, 2, none⟩ = some (.slice (some ⟨qb, 0, none⟩) nr qc) ∧ w'.cell? ⟨qb, i * 3, none⟩ = some (.string ⟨nm.toArray⟩) ∧ bs < w'.heap.size ∧ qb < w'.heap.size)) := Lib.hid (fun w' k => by
    have q0 := k.at HST.out.src (.inl rfl)
    refine ⟨⟨cell_at (i := 1) q0, frozen_at (i := 1) q0⟩, cell_at (i := 2) q0, ?_, lt_at q0, lt_at (k.at HQB.out (.inr rfl))⟩
    rw [k.cellEq (lt_at HQB.out) (.inr rfl)]
    exact HQC.out)
  have HNB : Hid (∀ c, (Value.slice da nd dc).ownBlock = some c → ¬ (c = bs ∨ c = qb)) := Lib.hid (fun c hc hs => by
    rcases hs with rfl | rfl
    · exact row_ne_cells HO.out HST.out.src (by decide) _ hc rfl
    · exact row_ne_cells HO.out HQB.out (by decide) _ hc rfl)
  have HLO : Hid (∀ c, (Value.slice da nd dc).ownBlock = some c → ¬ c < W.heap.size) := Lib.hid (fun c hc => Nat.not_lt.2 (Nat.le_trans HBB.out (HO.out.lt c hc).1))
  clear ho hch
  go_upto_region 6 with fail
  refine wp_region_plan (fun w' : World => ((w'.cell? ⟨bs, 1, none⟩ = some (.slice da nd dc) ∧ w'.frozen? ⟨bs, 1, none⟩ = false) ∧ w'.cell? ⟨bs, 2, none⟩ = some (.slice (some ⟨qb, 0, none⟩) nr qc) ∧ w'.cell? ⟨qb, i * 3, none⟩ = some (.string ⟨nm.toArray⟩) ∧ bs < w'.heap.size ∧ qb < w'.heap.size)) [14] (.take 0 (.take 1 (.take 2 (.take 3 (.take 4 (.take 5 (.take 6 (.take 7 (.one 8 (.one 9 (.one 10 (.one 11 (.one 12 (.one 13 (.one 14 (.done)))))))))))))))) (by kernel_rfl) (by kernel_rfl) (fun _ _ _ _ h => h) ?_
  have hSw := HSK.out _ ((Kp.refl _ wr).drew)
  refine wpPlan_take (v := ?va33) rfl hSw (by rfl) ?ya33 ?_
  case ya33 => (intro w hSx; (try dsimp only at hSx); go_simp; first | done | with_reducible rfl | rfl)
  (try simp only [Act.put, List.setIfInBounds_toArray, List.set_cons_zero, List.set_cons_succ])
  refine wpPlan_take (v := ?va34) rfl hSw (by rfl) ?ya34 ?_
  case ya34 => (intro w hSx; (try dsimp only at hSx); go_simp; first | done | with_reducible rfl | rfl)
  (try simp only [Act.put, List.setIfInBounds_toArray, List.set_cons_zero, List.set_cons_succ])
  refine wpPlan_take (v := ?va35) rfl hSw (by rfl) ?ya35 ?_
  case ya35 => (intro w hSx; (try dsimp only at hSx); go_simp; first | done | with_reducible rfl | rfl)
  (try simp only [Act.put, List.setIfInBounds_toArray, List.set_cons_zero, List.set_cons_succ])
  refine wpPlan_take (v := ?va36) rfl hSw (by rfl) ?ya36 ?_
  case ya36 => (intro w hSx; (try dsimp only at hSx); go_simp; first | done | with_reducible rfl | rfl)
  (try simp only [Act.put, List.setIfInBounds_toArray, List.set_cons_zero, List.set_cons_succ])
  refine wpPlan_take (v := ?va37) rfl hSw (by rfl) ?ya37 ?_
  case ya37 => (intro w hSx; (try dsimp only at hSx); go_simp; first | done | with_reducible rfl | rfl)
  (try simp only [Act.put, List.setIfInBounds_toArray, List.set_cons_zero, List.set_cons_succ])
  refine wpPlan_take (v := ?va38) rfl hSw (by rfl) ?ya38 ?_
  case ya38 => (intro w hSx; (try dsimp only at hSx); go_simp; first | done | with_reducible rfl | rfl)
  (try simp only [Act.put, List.setIfInBounds_toArray, List.set_cons_zero, List.set_cons_succ])
  refine wpPlan_take (v := ?va39) rfl hSw (by rfl) ?ya39 ?_
  case ya39 => (intro w hSx; (try dsimp only at hSx); go_simp; first | done | with_reducible rfl | rfl)
  (try simp only [Act.put, List.setIfInBounds_toArray, List.set_cons_zero, List.set_cons_succ])
  refine wpPlan_take (v := ?va40) rfl hSw (by rfl) ?ya40 ?_
  case ya40 => (intro w hSx; (try dsimp only at hSx); go_simp; first | done | with_reducible rfl | rfl)
  (try simp only [Act.put, List.setIfInBounds_toArray, List.set_cons_zero, List.set_cons_succ])
  refine wpPlan_run rfl (by rfl) (fun K' hK => ?_)
  (go_simp; go_at_call 24; refine (law9_name nm 5 _).mono ?_; rintro e w5 ⟨rfl, hb5⟩; have hb5' : Below wr.heap.size wr w5 := below_undrew hb5)
  refine hK _ _ (.inr ?_) ?_
  · exact HSK.out _ (Kp.of_below hb5' (fun _ hk _ => hk))
  clear hK K' hSw
  (try simp only [Act.put, List.setIfInBounds_toArray, List.set_cons_zero, List.set_cons_succ])
  refine wpPlan_run rfl (by rfl) (fun K' hK => ?_)
  go_simp
  refine hK _ _ (.inr ?_) ?_
  · exact HSK.out _ (Kp.of_below (hb5'.alloc hb5'.size _) (fun _ hk _ => hk))
  clear hK K'
  (try simp only [Act.put, List.setIfInBounds_toArray, List.set_cons_zero, List.set_cons_succ])
  refine wpPlan_run rfl (by rfl) (fun K' hK => ?_)
  go_simp
  refine hK _ _ (.inr ?_) ?_
  · exact HSK.out _ (Kp.of_below (hb5'.alloc hb5'.size _) (fun _ hk _ => hk))
  clear hK K'
  (try simp only [Act.put, List.setIfInBounds_toArray, List.set_cons_zero, List.set_cons_succ])
  refine wpPlan_run rfl (by rfl) (fun K' hK => ?_)
  go_simp
  refine hK _ _ (.inr ?_) ?_
  · exact HSK.out _ (Kp.of_below ((hb5'.alloc hb5'.size _).alloc (by have := hb5'.size; simp only [World.size_alloc]; omega) _) (fun _ hk _ => hk))
  clear hK K'
  (try simp only [Act.put, List.setIfInBounds_toArray, List.set_cons_zero, List.set_cons_succ])
  refine wpPlan_run rfl (by rfl) (fun K' hK => ?_)
  (refine wp_append_lies _ _ _ _ (by rfl) B 43 id0 _ 4 56 Tryd.underlying26 hid0 hdz0 hdz1 hdz2 rfl (by decide) _ _ _ (by rfl) (((ownsRow_below HO.out hb5').alloc _).alloc _) ⟨w5.heap.size + 1, 0, none⟩ 1 1 (declC (.slice (some ⟨w5.heap.size, 0, none⟩) 1 1) ⟨6, [], [⟨nm, false, 0, 5⟩], 0⟩) (by rfl) (by rfl) (World.news_of_block (cs := #[.int .i64 6, .string ⟨#[]⟩, .slice (some ⟨w5.heap.size, 0, none⟩) 1 1, .int .i64 0]) (t := 43) (fr := (0, 0)) (heap_sec w5 _ _)) (by simp [Value.oneCell', declC]) (by omega) (by unfold maxLen; omega) (by omega) (by have := hb5'.size; have := HBS.out; simp only [World.size_alloc]; omega) _ rfl ?_; intro g2 c2 w8 hown2 hgrow2 hat2 hlt2; have hk8 : Kp (fun b => b = bs ∨ b = qb) wr w8 := (((((Kp.of_below hb5' (fun _ hk _ => hk)) : Kp (fun b => b = bs ∨ b = qb) wr w5).alloc _).alloc _)).grown hgrow2 (fun c hc hs => HNB.out c hc hs))
  refine hK _ _ (.inr ?_) ?_
  · exact HSK.out _ hk8
  clear hK K'
  (try simp only [Act.put, List.setIfInBounds_toArray, List.set_cons_zero, List.set_cons_succ])
  refine wpPlan_run rfl (by rfl) (fun K' hK => ?_)
  go_simp
  refine hK _ _ (.inr ?_) ?_
  · exact HSK.out _ hk8
  clear hK K'
  (try simp only [Act.put, List.setIfInBounds_toArray, List.set_cons_zero, List.set_cons_succ])
  refine wpPlan_run rfl (by rfl) (fun K' hK => ?_)
  (obtain ⟨⟨z1, z2⟩, _, _, hl8, _⟩ := HSK.out _ hk8; go_simp)
  refine hK _ _ (.inl rfl) ?_
  clear hK K'
  (try simp only [Act.put, List.setIfInBounds_toArray, List.set_cons_zero, List.set_cons_succ])
  refine wpPlan_done ?_
  have kt8 : KpT (fun t => t ≠ 43) wr w8 := (KpT.below ((hb5'.alloc hb5'.size _).alloc (by have := hb5'.size; simp only [World.size_alloc]; omega) _)).trans (KpT.grown (((ownsRow_below HO.out hb5').alloc _).alloc _) hgrow2)
  have hsy8 := ownsRow_kpT (owns_block (B := B) (size := 4) (n := 1) (heap_old (heap_last w5 _) _) (by have := hb5'.size; have := HBS.out; omega) rfl (by decide)) (KpT.grown (((ownsRow_below HO.out hb5').alloc _).alloc _) hgrow2) (by decide)
  have hk9 : Kp (fun b => b < W.heap.size) wr w8 := (((((Kp.of_below hb5' (fun _ hk _ => hk)) : Kp (fun b => b < W.heap.size) wr w5).alloc _).alloc _)).grown hgrow2 (fun c hc hs => HLO.out c hc hs)
  have HST2 := Lib.hid (fun w' hw => HST.out.step (w' := w') (d := Sp.startDecl nm 5) HND.out HCH.out (hk8.mono (fun _ _ h => .inl h)) hk9 kt8 hsy8 hown2 hw)
  obtain ⟨ws, hws⟩ : ∃ ws : World, ws = w8.setCell ⟨bs, 1, none⟩ (.slice (some ⟨g2, 0, none⟩) (nd + 1) c2) := ⟨_, rfl⟩
  rw [← hws]
  obtain ⟨hst, kts⟩ := HST2.out ws hws
  have hszs : wr.heap.size ≤ ws.heap.size := by rw [hws]; simpa [World.setCell] using hk8.size
  have HSTs := Lib.hid hst
  have HGO1s := Lib.hid (HGO1.out.kpT kts (by decide) (by decide) (by decide) (by decide))
  have HGB1s : Hid (ws.heap[gb]? = some (.cells #[.slice ta TT.length tc, .slice na NN.length nc, .slice pa (PB.length + 1) pc, .string ⟨#[]⟩, .string ⟨#[]⟩] 65 (0, 0)) ∧ ws.heap[gb + 1]? = some (.cells #[.int .i64 0, .int .i64 0, .string ⟨#[]⟩] 68 (0, 0))) := Lib.hid ⟨kts _ _ _ _ HGB1.out.1 (by decide), kts _ _ _ _ HGB1.out.2 (by decide)⟩
  have HBSs : Hid (B ≤ ws.heap.size) := Lib.hid (Nat.le_trans HBS.out hszs)
  have HZRs : Hid (6 ≤ ws.heap.size) := Lib.hid (Nat.le_trans HZR.out hszs)
  clear hws hst kts hszs HST2 hk8 hk9 kt8 hsy8 hown2 hgrow2 hat2 hb5 hb5' HST HGO1 HGB1 HBS HZR HSK HNB HLO HO HCH HQB HQC z1 z2 hl8 hlt2
  have q0 := HSTs.out.src
  have c0 := cell_at (i := 0) q0; have c1 := cell_at (i := 1) q0; have c2' := cell_at (i := 2) q0; have c3 := cell_at (i := 3) q0
  have l0 := lt_at q0
  have hof := gram_Of ⟨[], ds ++ [Sp.startDecl nm 5], rs, []⟩ (.slice (some ⟨g2, 0, none⟩) (nd + 1) c2) (.slice (some ⟨qb, 0, none⟩) nr qc) ws (decls_at HSTs.out.decls) (rules_at HSTs.out.rules) (start_small HSM.out (by show ds.length ≤ 3998; rw [← HND.out]; exact hdl) [Sp.startDecl nm 5] (by simp) (fun d hd => by rw [List.mem_singleton] at hd; subst hd; exact startDecl_small 5 HB6.out)) (HG.out.up HSTs.out.bel HZRs.out)
  rw [HG2.out] at hof
  have HOF := Lib.hid hof
  clear q0 hof HG2
  go_wp2_with fail
  refine HOF.out.mono ?_
  rintro e w4 hpost
  obtain ⟨hb4, ta2, tc2, na2, nc2, pa2, pc2, rfl, hgo, hpc2⟩ := ofPost_ok hpost
  have HGO2 := Lib.hid hgo
  have HST4 := Lib.hid (HSTs.out.keep hb4)
  have HGO14 := Lib.hid (HGO1s.out.below hb4)
  have HGB14 := Lib.hid (And.intro ((hb4.block _ (lt_at HGB1s.out.1)).trans HGB1s.out.1) ((hb4.block _ (lt_at HGB1s.out.2)).trans HGB1s.out.2))
  have HBS4 : Hid (B ≤ w4.heap.size) := Lib.hid (Nat.le_trans HBSs.out hb4.size)
  have HGE4 : Hid (W.heap.size ≤ w4.heap.size) := Lib.hid (Nat.le_trans HSTs.out.bel.size hb4.size)
  have HZR4 : Hid (6 ≤ w4.heap.size) := Lib.hid (Nat.le_trans HZRs.out hb4.size)
  clear hpost hgo HSTs HOF c0 c1 c2' c3 l0 hb4 HGO1s HGB1s HBSs HZRs
  go_upto_region 8 with fail
  obtain ⟨wr, hwr⟩ : ∃ wr : World, wr = (w4.alloc (.cells #[.slice ta2 TT.length tc2, .slice na2 NN.length nc2, .slice pa2 (PB.length + 1) pc2, .string ⟨#[]⟩, .string ⟨#[]⟩] 65)).alloc (.cells #[.int .i64 0, .int .i64 0, .string ⟨#[]⟩] 68) := ⟨_, rfl⟩
  rw [← hwr]
  have hbr : Below w4.heap.size w4 wr := by rw [hwr]; exact ((Below.refl _ w4).alloc (Nat.le_refl _) _).alloc (by simp) _
  have HST := Lib.hid (HST4.out.keep hbr)
  have HGO1 := Lib.hid (HGO14.out.below hbr)
  have HGO2r := Lib.hid (HGO2.out.below hbr)
  have HGB1 := Lib.hid (And.intro ((hbr.block _ (lt_at HGB14.out.1)).trans HGB14.out.1) ((hbr.block _ (lt_at HGB14.out.2)).trans HGB14.out.2))
  have HGB2 : Hid (wr.heap[w4.heap.size]? = some (.cells #[.slice ta2 TT.length tc2, .slice na2 NN.length nc2, .slice pa2 (PB.length + 1) pc2, .string ⟨#[]⟩, .string ⟨#[]⟩] 65 (0, 0)) ∧ wr.heap[w4.heap.size + 1]? = some (.cells #[.int .i64 0, .int .i64 0, .string ⟨#[]⟩] 68 (0, 0))) := Lib.hid (by rw [hwr]; exact ⟨heap_old (heap_last w4 _) _, heap_sec w4 _ _⟩)
  have HBS : Hid (B ≤ wr.heap.size) := Lib.hid (Nat.le_trans HBS4.out hbr.size)
  have HZR : Hid (6 ≤ wr.heap.size) := Lib.hid (Nat.le_trans HZR4.out hbr.size)
  clear hwr hbr HGO14 HGB14 HGO2 HST4 HBS4 HZR4
  have HGE : Hid (W.heap.size ≤ w4.heap.size) := Lib.hid HGE4.out
  generalize w4.heap.size = gc at HGB2 HGE ⊢
  obtain ⟨rt1, rn1, rp1⟩ := gramOwn_read HGO1.out
  obtain ⟨rt2, rn2, rp2⟩ := gramOwn_read HGO2r.out
  have hpb : PB ≠ [] := by rintro rfl; simp at b1
  obtain ⟨pb1, po1, rfl, hp1, _, rq1⟩ := rp1.tail hpb
  obtain ⟨pb2, po2, rfl, hp2, _, rq2⟩ := rp2.tail hpb
  have HE1 : Hid (∀ m, Calls Tryd.prog 31 #[.slice ta TT.length tc, .slice ta2 TT.length tc2] (wr.drewN m) fun e w' => e = .returned (.bool true) ∧ ∃ n, w' = (wr.drewN m).drewN n) := Lib.hid (fun m => (ref_EqToks _ _ TT TT (wr.drewN m) rt1 rt2 (by omega) (by omega)).mono fun _ _ ⟨a, b⟩ => ⟨by rw [a]; simp, b⟩)
  have HE2 : Hid (∀ m, Calls Tryd.prog 32 #[.slice na NN.length nc, .slice na2 NN.length nc2] (wr.drewN m) fun e w' => e = .returned (.bool true) ∧ ∃ n, w' = (wr.drewN m).drewN n) := Lib.hid (fun m => (ref_EqNons _ _ NN NN (wr.drewN m) rn1 rn2 (by omega) (by omega)).mono fun _ _ ⟨a, b⟩ => ⟨by rw [a]; simp, b⟩)
  have HE3 : Hid (∀ m, Calls Tryd.prog 33 #[.slice (some ⟨pb1, po1 + 6, none⟩) PB.length (pc - 1), .slice (some ⟨pb2, po2 + 6, none⟩) PB.length (pc2 - 1)] (wr.drewN m) fun e w' => e = .returned (.bool true) ∧ ∃ n, w' = (wr.drewN m).drewN n) := Lib.hid (fun m => ref_EqProds_same _ _ PB _ rq1 rq2 (by omega) (fun p hp => ⟨by have := (HB3.out p hp).1; omega, by have := (HB3.out p hp).2; omega⟩))
  have q1 := HGB1.out.1; have q2 := HGB1.out.2; have q3 := HGB2.out.1; have q4 := HGB2.out.2
  have u0 := cell_at (i := 0) q1; have u1 := cell_at (i := 1) q1; have u2 := cell_at (i := 2) q1
  have y0 := cell_at (i := 0) q2
  have z0 := cell_at (i := 0) q3; have z1 := cell_at (i := 1) q3; have z2 := cell_at (i := 2) q3
  have x0 := cell_at (i := 0) q4
  have l1 := lt_at q1; have l2 := lt_at q2; have l3 := lt_at q3; have l4 := lt_at q4
  have hB1 : (1 : Int) ≤ (PB.length : Int) := by omega
  have hlt2 : decide ((PB.length : Int) + 1 < 2) = false := decide_eq_false (by omega)
  have hcap1 : ¬ pc = 1 := by omega
  have hcap2 : ¬ pc2 = 1 := by omega
  clear q1 q2 q3 q4 rt1 rn1 rp1 rt2 rn2 rp2 rq1 rq2 hpb
  go_wp2_with fail
  go_quiet ((first | (go_at_call 31; with_reducible exact Calls.quiet_of (HE1.out _)) | (go_at_call 32; with_reducible exact Calls.quiet_of (HE2.out _)) | (go_at_call 33; with_reducible exact Calls.quiet_of (HE3.out _))))
  clear hlt2 hcap1 hcap2 u0 u1 u2 y0 z0 z1 z2 x0 l1 l2 l3 l4 HE1 HE2 HE3
  go_upto_region 10 with fail
  obtain ⟨wq, hwq⟩ : ∃ wq : World, wq = wr.drewN nq := ⟨_, rfl⟩
  rw [← hwq]
  have hbq : Below wr.heap.size wr wq := by rw [hwq]; exact below_drewN (Below.refl _ _) _
  have HSTq := Lib.hid (HST.out.keep hbq)
  have HGO1q := Lib.hid (HGO1.out.below hbq)
  have HGO2q := Lib.hid (HGO2r.out.below hbq)
  have HGB1q := Lib.hid (And.intro ((hbq.block _ (lt_at HGB1.out.1)).trans HGB1.out.1) ((hbq.block _ (lt_at HGB1.out.2)).trans HGB1.out.2))
  have HGB2q := Lib.hid (And.intro ((hbq.block _ (lt_at HGB2.out.1)).trans HGB2.out.1) ((hbq.block _ (lt_at HGB2.out.2)).trans HGB2.out.2))
  have HBSq : Hid (B ≤ wq.heap.size) := Lib.hid (Nat.le_trans HBS.out hbq.size)
  have HZRq : Hid (6 ≤ wq.heap.size) := Lib.hid (Nat.le_trans HZR.out hbq.size)
  clear hwq hbq HST HGO1 HGO2r HGB1 HGB2 HBS HZR hp1 hp2
  obtain ⟨wr, hwr⟩ : ∃ wr : World, wr = wq := ⟨_, rfl⟩
  subst hwr
  have HST := HSTq; have HGO1 := HGO1q; have HGO2 := HGO2q; have HGB1 := HGB1q; have HGB2 := HGB2q; have HBS := HBSq; have HZR := HZRq
  clear HSTq HGO1q HGO2q HGB1q HGB2q HBSq HZRq
  obtain ⟨qb', qcur', eqb, hqb, hqc⟩ := rule_cell HST.out.rules HR.out
  obtain rfl : qb = qb' := by simpa using eqb
  rw [← HNM.out] at hqc
  have HQB := Lib.hid hqb; have HQC := Lib.hid hqc
  clear eqb hqb hqc
  have HND2 : Hid (nd + 1 = (ds ++ [Sp.startDecl nm 5]).length) := Lib.hid (by rw [List.length_append, HND.out]; rfl)
  obtain ⟨f, ho, hch⟩ := HST.out.decls
  rw [← HND2.out] at ho
  have HO := Lib.hid ho; have HCH := Lib.hid hch
  have HSK : Hid (∀ w', Kp (fun b => b = bs ∨ b = qb) wr w' → ((w'.cell? ⟨bs, 1, none⟩ = some (.slice (some ⟨g2, 0, none⟩) (nd + 1) c2) ∧ w'.frozen? ⟨bs, 1, none⟩ = false) ∧ w'.cell? ⟨bs, 2, none⟩ = some (.slice (some ⟨qb, 0, none⟩) nr qc) ∧ w'.cell? ⟨qb, i * 3, none⟩ = some (.string ⟨nm.toArray⟩) ∧ bs < w'.heap.size ∧ qb < w'.heap.size)) := Lib.hid (fun w' k => by
    have q0 := k.at HST.out.src (.inl rfl)
    refine ⟨⟨cell_at (i := 1) q0, frozen_at (i := 1) q0⟩, cell_at (i := 2) q0, ?_, lt_at q0, lt_at (k.at HQB.out (.inr rfl))⟩
    rw [k.cellEq (lt_at HQB.out) (.inr rfl)]
    exact HQC.out)
  have HNB : Hid (∀ c, (Value.slice (some ⟨g2, 0, none⟩) (nd + 1) c2).ownBlock = some c → ¬ (c = bs ∨ c = qb)) := Lib.hid (fun c hc hs => by
    rcases hs with rfl | rfl
    · exact row_ne_cells HO.out HST.out.src (by decide) _ hc rfl
    · exact row_ne_cells HO.out HQB.out (by decide) _ hc rfl)
  have HLO : Hid (∀ c, (Value.slice (some ⟨g2, 0, none⟩) (nd + 1) c2).ownBlock = some c → ¬ c < W.heap.size) := Lib.hid (fun c hc => Nat.not_lt.2 (Nat.le_trans HBB.out (HO.out.lt c hc).1))
  clear ho hch
  refine wp_region_plan (fun w' : World => ((w'.cell? ⟨bs, 1, none⟩ = some (.slice (some ⟨g2, 0, none⟩) (nd + 1) c2) ∧ w'.frozen? ⟨bs, 1, none⟩ = false) ∧ w'.cell? ⟨bs, 2, none⟩ = some (.slice (some ⟨qb, 0, none⟩) nr qc) ∧ w'.cell? ⟨qb, i * 3, none⟩ = some (.string ⟨nm.toArray⟩) ∧ bs < w'.heap.size ∧ qb < w'.heap.size)) [14] (.take 0 (.take 1 (.take 2 (.take 3 (.take 4 (.take 5 (.take 6 (.take 7 (.one 8 (.one 9 (.one 10 (.one 11 (.one 12 (.one 13 (.one 14 (.done)))))))))))))))) (by kernel_rfl) (by kernel_rfl) (fun _ _ _ _ h => h) ?_
  have hSw := HSK.out _ ((Kp.refl _ wr).drew)
  refine wpPlan_take (v := ?vb41) rfl hSw (by rfl) ?yb41 ?_
  case yb41 => (intro w hSx; (try dsimp only at hSx); go_simp; first | done | with_reducible rfl | rfl)
  (try simp only [Act.put, List.setIfInBounds_toArray, List.set_cons_zero, List.set_cons_succ])
  refine wpPlan_take (v := ?vb42) rfl hSw (by rfl) ?yb42 ?_
  case yb42 => (intro w hSx; (try dsimp only at hSx); go_simp; first | done | with_reducible rfl | rfl)
  (try simp only [Act.put, List.setIfInBounds_toArray, List.set_cons_zero, List.set_cons_succ])
  refine wpPlan_take (v := ?vb43) rfl hSw (by rfl) ?yb43 ?_
  case yb43 => (intro w hSx; (try dsimp only at hSx); go_simp; first | done | with_reducible rfl | rfl)
  (try simp only [Act.put, List.setIfInBounds_toArray, List.set_cons_zero, List.set_cons_succ])
  refine wpPlan_take (v := ?vb44) rfl hSw (by rfl) ?yb44 ?_
  case yb44 => (intro w hSx; (try dsimp only at hSx); go_simp; first | done | with_reducible rfl | rfl)
  (try simp only [Act.put, List.setIfInBounds_toArray, List.set_cons_zero, List.set_cons_succ])
  refine wpPlan_take (v := ?vb45) rfl hSw (by rfl) ?yb45 ?_
  case yb45 => (intro w hSx; (try dsimp only at hSx); go_simp; first | done | with_reducible rfl | rfl)
  (try simp only [Act.put, List.setIfInBounds_toArray, List.set_cons_zero, List.set_cons_succ])
  refine wpPlan_take (v := ?vb46) rfl hSw (by rfl) ?yb46 ?_
  case yb46 => (intro w hSx; (try dsimp only at hSx); go_simp; first | done | with_reducible rfl | rfl)
  (try simp only [Act.put, List.setIfInBounds_toArray, List.set_cons_zero, List.set_cons_succ])
  refine wpPlan_take (v := ?vb47) rfl hSw (by rfl) ?yb47 ?_
  case yb47 => (intro w hSx; (try dsimp only at hSx); go_simp; first | done | with_reducible rfl | rfl)
  (try simp only [Act.put, List.setIfInBounds_toArray, List.set_cons_zero, List.set_cons_succ])
  refine wpPlan_take (v := ?vb48) rfl hSw (by rfl) ?yb48 ?_
  case yb48 => (intro w hSx; (try dsimp only at hSx); go_simp; first | done | with_reducible rfl | rfl)
  (try simp only [Act.put, List.setIfInBounds_toArray, List.set_cons_zero, List.set_cons_succ])
  refine wpPlan_run rfl (by rfl) (fun K' hK => ?_)
  (go_simp; go_at_call 24; refine (law9_name nm 6 _).mono ?_; rintro e w5 ⟨rfl, hb5⟩; have hb5' : Below wr.heap.size wr w5 := below_undrew hb5)
  refine hK _ _ (.inr ?_) ?_
  · exact HSK.out _ (Kp.of_below hb5' (fun _ hk _ => hk))
  clear hK K' hSw
  (try simp only [Act.put, List.setIfInBounds_toArray, List.set_cons_zero, List.set_cons_succ])
  refine wpPlan_run rfl (by rfl) (fun K' hK => ?_)
  go_simp
  refine hK _ _ (.inr ?_) ?_
  · exact HSK.out _ (Kp.of_below (hb5'.alloc hb5'.size _) (fun _ hk _ => hk))
  clear hK K'
  (try simp only [Act.put, List.setIfInBounds_toArray, List.set_cons_zero, List.set_cons_succ])
  refine wpPlan_run rfl (by rfl) (fun K' hK => ?_)
  go_simp
  refine hK _ _ (.inr ?_) ?_
  · exact HSK.out _ (Kp.of_below (hb5'.alloc hb5'.size _) (fun _ hk _ => hk))
  clear hK K'
  (try simp only [Act.put, List.setIfInBounds_toArray, List.set_cons_zero, List.set_cons_succ])
  refine wpPlan_run rfl (by rfl) (fun K' hK => ?_)
  go_simp
  refine hK _ _ (.inr ?_) ?_
  · exact HSK.out _ (Kp.of_below ((hb5'.alloc hb5'.size _).alloc (by have := hb5'.size; simp only [World.size_alloc]; omega) _) (fun _ hk _ => hk))
  clear hK K'
  (try simp only [Act.put, List.setIfInBounds_toArray, List.set_cons_zero, List.set_cons_succ])
  refine wpPlan_run rfl (by rfl) (fun K' hK => ?_)
  (refine wp_append_lies _ _ _ _ (by rfl) B 43 id0 _ 4 56 Tryd.underlying26 hid0 hdz0 hdz1 hdz2 rfl (by decide) _ _ _ (by rfl) (((ownsRow_below HO.out hb5').alloc _).alloc _) ⟨w5.heap.size + 1, 0, none⟩ 1 1 (declC (.slice (some ⟨w5.heap.size, 0, none⟩) 1 1) ⟨6, [], [⟨nm, false, 0, 6⟩], 0⟩) (by rfl) (by rfl) (World.news_of_block (cs := #[.int .i64 6, .string ⟨#[]⟩, .slice (some ⟨w5.heap.size, 0, none⟩) 1 1, .int .i64 0]) (t := 43) (fr := (0, 0)) (heap_sec w5 _ _)) (by simp [Value.oneCell', declC]) (by omega) (by unfold maxLen; omega) (by omega) (by have := hb5'.size; have := HBS.out; simp only [World.size_alloc]; omega) _ rfl ?_; intro g3 c3 w8 hown2 hgrow2 hat2 hlt2; have hk8 : Kp (fun b => b = bs ∨ b = qb) wr w8 := (((((Kp.of_below hb5' (fun _ hk _ => hk)) : Kp (fun b => b = bs ∨ b = qb) wr w5).alloc _).alloc _)).grown hgrow2 (fun c hc hs => HNB.out c hc hs))
  refine hK _ _ (.inr ?_) ?_
  · exact HSK.out _ hk8
  clear hK K'
  (try simp only [Act.put, List.setIfInBounds_toArray, List.set_cons_zero, List.set_cons_succ])
  refine wpPlan_run rfl (by rfl) (fun K' hK => ?_)
  go_simp
  refine hK _ _ (.inr ?_) ?_
  · exact HSK.out _ hk8
  clear hK K'
  (try simp only [Act.put, List.setIfInBounds_toArray, List.set_cons_zero, List.set_cons_succ])
  refine wpPlan_run rfl (by rfl) (fun K' hK => ?_)
  (obtain ⟨⟨z1, z2⟩, _, _, hl8, _⟩ := HSK.out _ hk8; go_simp)
  refine hK _ _ (.inl rfl) ?_
  clear hK K'
  (try simp only [Act.put, List.setIfInBounds_toArray, List.set_cons_zero, List.set_cons_succ])
  refine wpPlan_done ?_
  have kt8 : KpT (fun t => t ≠ 43) wr w8 := (KpT.below ((hb5'.alloc hb5'.size _).alloc (by have := hb5'.size; simp only [World.size_alloc]; omega) _)).trans (KpT.grown (((ownsRow_below HO.out hb5').alloc _).alloc _) hgrow2)
  have hsy8 := ownsRow_kpT (owns_block (B := B) (size := 4) (n := 1) (heap_old (heap_last w5 _) _) (by have := hb5'.size; have := HBS.out; omega) rfl (by decide)) (KpT.grown (((ownsRow_below HO.out hb5').alloc _).alloc _) hgrow2) (by decide)
  have hk9 : Kp (fun b => b < W.heap.size) wr w8 := (((((Kp.of_below hb5' (fun _ hk _ => hk)) : Kp (fun b => b < W.heap.size) wr w5).alloc _).alloc _)).grown hgrow2 (fun c hc hs => HLO.out c hc hs)
  have HST2 := Lib.hid (fun w' hw => HST.out.step (w' := w') (d := Sp.startDecl nm 6) HND2.out HCH.out (hk8.mono (fun _ _ h => .inl h)) hk9 kt8 hsy8 hown2 hw)
  obtain ⟨ws, hws⟩ : ∃ ws : World, ws = w8.setCell ⟨bs, 1, none⟩ (.slice (some ⟨g3, 0, none⟩) (nd + 1 + 1) c3) := ⟨_, rfl⟩
  rw [← hws]
  obtain ⟨hst, kts⟩ := HST2.out ws hws
  have hszs : wr.heap.size ≤ ws.heap.size := by rw [hws]; simpa [World.setCell] using hk8.size
  have HSTs := Lib.hid hst
  have HGO1s := Lib.hid (HGO1.out.kpT kts (by decide) (by decide) (by decide) (by decide))
  have HGO2s := Lib.hid (HGO2.out.kpT kts (by decide) (by decide) (by decide) (by decide))
  have HGB1s : Hid (ws.heap[gb]? = some (.cells #[.slice ta TT.length tc, .slice na NN.length nc, .slice (some ⟨pb1, po1, none⟩) (PB.length + 1) pc, .string ⟨#[]⟩, .string ⟨#[]⟩] 65 (0, 0))) := Lib.hid (kts _ _ _ _ HGB1.out.1 (by decide))
  have HGB2s : Hid (ws.heap[gc]? = some (.cells #[.slice ta2 TT.length tc2, .slice na2 NN.length nc2, .slice (some ⟨pb2, po2, none⟩) (PB.length + 1) pc2, .string ⟨#[]⟩, .string ⟨#[]⟩] 65 (0, 0)) ∧ ws.heap[gc + 1]? = some (.cells #[.int .i64 0, .int .i64 0, .string ⟨#[]⟩] 68 (0, 0))) := Lib.hid ⟨kts _ _ _ _ HGB2.out.1 (by decide), kts _ _ _ _ HGB2.out.2 (by decide)⟩
  have HZRs : Hid (6 ≤ ws.heap.size) := Lib.hid (Nat.le_trans HZR.out hszs)
  clear hws hst kts hszs HST2 hk8 hk9 kt8 hsy8 hown2 hgrow2 hat2 hb5 hb5' HST HGO1 HGO2 HGB1 HGB2 HBS HZR HSK HNB HLO HO HCH HQB HQC z1 z2 hl8 hlt2
  have q0 := HSTs.out.src
  have c0 := cell_at (i := 0) q0; have c1 := cell_at (i := 1) q0; have c2' := cell_at (i := 2) q0; have c3' := cell_at (i := 3) q0
  have l0 := lt_at q0
  have hof := gram_Of ⟨[], ds ++ [Sp.startDecl nm 5] ++ [Sp.startDecl nm 6], rs, []⟩ (.slice (some ⟨g3, 0, none⟩) (nd + 1 + 1) c3) (.slice (some ⟨qb, 0, none⟩) nr qc) ws (decls_at HSTs.out.decls) (rules_at HSTs.out.rules) (by
    have h := start_small HSM.out (by show ds.length ≤ 3998; rw [← HND.out]; exact hdl) [Sp.startDecl nm 5, Sp.startDecl nm 6] (by simp) (fun d hd => by
      simp only [List.mem_cons, List.not_mem_nil, or_false] at hd
      rcases hd with rfl | rfl
      · exact startDecl_small 5 HB6.out
      · exact startDecl_small 6 HB6.out)
    rw [List.append_assoc]
    exact h) (HG.out.up HSTs.out.bel HZRs.out)
  rw [show ds ++ [Sp.startDecl nm 5] ++ [Sp.startDecl nm 6] = ds ++ [Sp.startDecl nm 5, Sp.startDecl nm 6] by rw [List.append_assoc]; rfl, HG3.out] at hof
  have HOF := Lib.hid hof
  clear q0 hof HG3
  go_wp2_with fail
  refine HOF.out.mono ?_
  rintro e w4 hpost
  obtain ⟨hb4, ta3, tc3, na3, nc3, pa3, pc3, rfl⟩ := ofPost_none hpost
  have HST4 := Lib.hid (HSTs.out.keep hb4)
  have HGO14 := Lib.hid (HGO1s.out.below hb4)
  have HGO24 := Lib.hid (HGO2s.out.below hb4)
  have HGB14 := Lib.hid ((hb4.block _ (lt_at HGB1s.out)).trans HGB1s.out)
  have HGB24 := Lib.hid (And.intro ((hb4.block _ (lt_at HGB2s.out.1)).trans HGB2s.out.1) ((hb4.block _ (lt_at HGB2s.out.2)).trans HGB2s.out.2))
  have q4 := HGB24.out.2
  have x0 := cell_at (i := 0) q4; have x1 := cell_at (i := 1) q4; have x2 := cell_at (i := 2) q4
  have y0 := frozen_at (i := 0) q4; have y1 := frozen_at (i := 1) q4; have y2 := frozen_at (i := 2) q4
  have l4 := lt_at q4
  have HQ4 := Lib.hid q4
  clear hpost HSTs HOF c0 c1 c2' c3' l0 hb4 HGO1s HGO2s HGB1s HGB2s HZRs q4
  go_upto_region 12 with fail
  obtain ⟨wr, hwr⟩ : ∃ wr : World, wr = ((w4.setCell ⟨gc + 1, 0, none⟩ (.int .i64 3)).setCell ⟨gc + 1, 1, none⟩ (.int .i64 6)).setCell ⟨gc + 1, 2, none⟩ (.string ⟨nm.toArray⟩) := ⟨_, rfl⟩
  rw [← hwr]
  have ktr : KpT (fun t => t ≠ 68) w4 wr := by
    rw [hwr]
    exact (((KpT.setCell (fun _ _ _ _ h _ => h) HQ4.out (by simp) _).setCell (heap_setCell_at HQ4.out) (by simp) _).setCell (heap_setCell_at (heap_setCell_at HQ4.out)) (by simp) _)
  have hsz : wr.heap.size = w4.heap.size := by rw [hwr]; simp [World.setCell]
  have hfa : wr.heap[gc + 1]? = some (.cells #[.int .i64 3, .int .i64 6, .string ⟨nm.toArray⟩] 68 (0, 0)) := by
    rw [hwr]
    exact heap_setCell_at (heap_setCell_at (heap_setCell_at HQ4.out))
  have hgcW : W.heap.size ≤ gc + 1 := by have := HGE.out; omega
  have HBEL : Hid (Below W.heap.size W wr) := Lib.hid (by
    rw [hwr]
    exact ((HST4.out.bel.setCell (p := ⟨gc + 1, 0, none⟩) hgcW _).setCell (p := ⟨gc + 1, 1, none⟩) hgcW _).setCell (p := ⟨gc + 1, 2, none⟩) hgcW _)
  have hsrc := ktr _ _ _ _ HST4.out.src (by decide)
  have hrul := rules_kp HST4.out.rules ktr (by decide) (by decide) (by decide)
  obtain ⟨qb', qcur', eqb, hqb, hqc⟩ := rule_cell hrul HR.out
  obtain rfl : qb = qb' := by simpa using eqb
  rw [← HNM.out] at hqc
  have hg1 := ktr _ _ _ _ HGB14.out (by decide)
  have hg2 := ktr _ _ _ _ HGB24.out.1 (by decide)
  obtain ⟨_, _, f1, g1', s1, p1⟩ := gramOwn_read (HGO14.out.kpT ktr (by decide) (by decide) (by decide) (by decide))
  obtain ⟨_, _, f2, g2', s2, p2⟩ := gramOwn_read (HGO24.out.kpT ktr (by decide) (by decide) (by decide) (by decide))
  obtain ⟨b1', o1', e1', hp1, t1⟩ := s1.at (k := 0) (row := prodC (f1 0) (g1' 0) ⟨0, [1001], -1, [], [], 0⟩) (by rw [List.getElem?_mapIdx]; rfl)
  obtain ⟨rfl, rfl⟩ : pb1 = b1' ∧ po1 = o1' := by simpa using e1'
  obtain ⟨b2', o2', e2', hp2, t2⟩ := s2.at (k := 0) (row := prodC (f2 0) (g2' 0) ⟨0, [1001 + (i : Int)], -1, [], [], 0⟩) (by rw [List.getElem?_mapIdx]; rfl)
  obtain ⟨rfl, rfl⟩ : pb2 = b2' ∧ po2 = o2' := by simpa using e2'
  obtain ⟨r1, _⟩ := p1 0 _ rfl
  obtain ⟨r2, ax2⟩ := p2 0 _ rfl
  simp only at r1 r2 ax2
  obtain ⟨r1a, r1c, er1⟩ := SlAt.form r1
  obtain ⟨r2a, r2c, er2⟩ := SlAt.form r2
  obtain ⟨x2a, x2c, ex2⟩ := SlAt.form ax2
  simp only [List.map_cons, List.map_nil, List.length_cons, List.length_nil, Nat.zero_add] at er1 er2 ex2
  have HSB : Hid (∀ w', Below wr.heap.size wr w' → ((w'.cell? ⟨gb, 2, none⟩ = some (.slice (some ⟨pb1, po1, none⟩) (PB.length + 1) pc)) ∧ w'.cell? ⟨pb1, po1 + 1, none⟩ = some (.slice r1a 1 r1c) ∧ w'.cell? ⟨gc, 2, none⟩ = some (.slice (some ⟨pb2, po2, none⟩) (PB.length + 1) pc2) ∧ w'.cell? ⟨pb2, po2 + 1, none⟩ = some (.slice r2a 1 r2c) ∧ w'.cell? ⟨pb2, po2 + 4, none⟩ = some (.slice x2a 0 x2c) ∧ w'.cell? ⟨gc + 1, 0, none⟩ = some (.int .i64 3) ∧ w'.cell? ⟨gc + 1, 1, none⟩ = some (.int .i64 6) ∧ w'.cell? ⟨gc + 1, 2, none⟩ = some (.string ⟨nm.toArray⟩) ∧ w'.cell? ⟨bs, 2, none⟩ = some (.slice (some ⟨qb, 0, none⟩) nr qc) ∧ w'.cell? ⟨qb, i * 3, none⟩ = some (.string ⟨nm.toArray⟩) ∧ gb < w'.heap.size ∧ gc < w'.heap.size ∧ gc + 1 < w'.heap.size ∧ bs < w'.heap.size ∧ qb < w'.heap.size ∧ pb1 < w'.heap.size ∧ pb2 < w'.heap.size)) := Lib.hid (fun w' h => by
    have k1 := (h.block _ (lt_at hg1)).trans hg1; have k2 := (h.block _ (lt_at hg2)).trans hg2; have k3 := (h.block _ (lt_at hfa)).trans hfa; have k4 := (h.block _ (lt_at hsrc)).trans hsrc
    have v1 := t1 w' h 1 _ rfl; have v2 := t2 w' h 1 _ rfl; have v3 := t2 w' h 4 _ rfl
    simp only [Nat.zero_mul, Nat.add_zero] at v1 v2 v3
    rw [er1] at v1; rw [er2] at v2; rw [ex2] at v3
    refine ⟨cell_at (i := 2) k1, v1, cell_at (i := 2) k2, v2, v3, cell_at (i := 0) k3, cell_at (i := 1) k3, cell_at (i := 2) k3, cell_at (i := 2) k4, ?_, lt_at k1, lt_at k2, lt_at k3, lt_at k4, ?_, ?_, ?_⟩
    · exact (h.cell (p := ⟨qb, _, none⟩) (lt_at hqb)).trans hqc
    · have := lt_at hqb; have := h.size; omega
    · have := h.size; omega
    · have := h.size; omega)
  rw [er1] at r1
  rw [er2] at r2
  have HR1 := Lib.hid r1; have HR2 := Lib.hid r2
  have hwi : IntKind.i64.wrap (1001 + (i : Int)) = 1001 + (i : Int) := IntWalk.i64_in _ ⟨by omega, by omega⟩
  clear hwr ktr hsz hfa hgcW hsrc hrul eqb hqb hqc hg1 hg2 s1 p1 s2 p2 e1' hp1 t1 e2' hp2 t2 r1 r2 ax2 er1 er2 ex2 HST4 HGO14 HGO24 HGB14 HGB24 HQ4 x0 x1 x2 y0 y1 y2 l4
  refine wp_region_plan (fun w' : World => ((w'.cell? ⟨gb, 2, none⟩ = some (.slice (some ⟨pb1, po1, none⟩) (PB.length + 1) pc)) ∧ w'.cell? ⟨pb1, po1 + 1, none⟩ = some (.slice r1a 1 r1c) ∧ w'.cell? ⟨gc, 2, none⟩ = some (.slice (some ⟨pb2, po2, none⟩) (PB.length + 1) pc2) ∧ w'.cell? ⟨pb2, po2 + 1, none⟩ = some (.slice r2a 1 r2c) ∧ w'.cell? ⟨pb2, po2 + 4, none⟩ = some (.slice x2a 0 x2c) ∧ w'.cell? ⟨gc + 1, 0, none⟩ = some (.int .i64 3) ∧ w'.cell? ⟨gc + 1, 1, none⟩ = some (.int .i64 6) ∧ w'.cell? ⟨gc + 1, 2, none⟩ = some (.string ⟨nm.toArray⟩) ∧ w'.cell? ⟨bs, 2, none⟩ = some (.slice (some ⟨qb, 0, none⟩) nr qc) ∧ w'.cell? ⟨qb, i * 3, none⟩ = some (.string ⟨nm.toArray⟩) ∧ gb < w'.heap.size ∧ gc < w'.heap.size ∧ gc + 1 < w'.heap.size ∧ bs < w'.heap.size ∧ qb < w'.heap.size ∧ pb1 < w'.heap.size ∧ pb2 < w'.heap.size)) [] (.take 0 (.take 1 (.take 2 (.take 3 (.take 4 (.one 5 (.one 6 (.take 7 (.take 8 (.take 9 (.take 10 (.take 11 (.take 12 (.take 13 (.take 14 (.one 15 (.one 16 (.take 17 (.take 18 (.take 19 (.take 20 (.take 21 (.take 22 (.take 23 (.take 24 (.take 25 (.take 26 (.take 27 (.take 28 (.take 29 (.take 30 (.take 31 (.take 32 (.take 33 (.take 34 (.one 35 (.take 36 (.one 37 (.done))))))))))))))))))))))))))))))))))))))) (by kernel_rfl) (by kernel_rfl) (fun _ _ _ _ h => h) ?_
  have hSw := HSB.out _ (below_drewN (Below.refl _ wr) 1)
  refine wpPlan_takeD (v := ?vc1) rfl rfl hSw (by rfl) ?yc1 ?_
  case yc1 => (intro w hSx; (try dsimp only at hSx); go_simp; first | done | with_reducible rfl | rfl)
  (try simp only [Act.put, List.setIfInBounds_toArray, List.set_cons_zero, List.set_cons_succ])
  refine wpPlan_takeD (v := ?vc2) rfl rfl hSw (by rfl) ?yc2 ?_
  case yc2 => (intro w hSx; (try dsimp only at hSx); go_simp; first | done | with_reducible rfl | rfl)
  (try simp only [Act.put, List.setIfInBounds_toArray, List.set_cons_zero, List.set_cons_succ])
  refine wpPlan_takeD (v := ?vc3) rfl rfl hSw (by rfl) ?yc3 ?_
  case yc3 => (intro w hSx; (try dsimp only at hSx); go_simp; first | done | with_reducible rfl | rfl)
  (try simp only [Act.put, List.setIfInBounds_toArray, List.set_cons_zero, List.set_cons_succ])
  refine wpPlan_takeD (v := ?vc4) rfl rfl hSw (by rfl) ?yc4 ?_
  case yc4 => (intro w hSx; (try dsimp only at hSx); go_simp; first | done | with_reducible rfl | rfl)
  (try simp only [Act.put, List.setIfInBounds_toArray, List.set_cons_zero, List.set_cons_succ])
  refine wpPlan_takeD (v := ?vc5) rfl rfl hSw (by rfl) ?yc5 ?_
  case yc5 => (intro w hSx; (try dsimp only at hSx); go_simp; first | done | with_reducible rfl | rfl)
  (try simp only [Act.put, List.setIfInBounds_toArray, List.set_cons_zero, List.set_cons_succ])
  refine wpPlan_run rfl (by rfl) (fun K' hK => ?_)
  (have hbA : Below wr.heap.size wr (wr.alloc (.cells #[.int .i64 1001] 3)) := (Below.refl _ wr).alloc (Nat.le_refl _) _; go_simp)
  refine hK _ _ (.inr ?_) ?_
  · exact HSB.out _ ⟨hbA.os, hbA.tape, hbA.output, hbA.size, hbA.block⟩
  clear hK K' hSw
  have hSw := HSB.out _ ⟨hbA.os, hbA.tape, hbA.output, hbA.size, hbA.block⟩
  (try simp only [Act.put, List.setIfInBounds_toArray, List.set_cons_zero, List.set_cons_succ])
  refine wpPlan_run rfl (by rfl) (fun K' hK => ?_)
  (go_simp; go_at_call 30; refine (eqInts_same (.slice r1a 1 r1c) (.slice (some ⟨wr.heap.size, 0, none⟩) 1 1) [1001] ((wr.alloc (.cells #[.int .i64 1001] 3)).drew) (SlAt.below HR1.out ⟨hbA.os, hbA.tape, hbA.output, hbA.size, hbA.block⟩) (slAt_block (w := ((wr.alloc (.cells #[.int .i64 1001] 3)).drew)) [intC 1001] 1 (by simp [intC]) (heap_last wr _) (by simp [maxLen])) (by decide)).mono ?_; rintro e w6 ⟨rfl, n6, hw6⟩; have hb6' : Below wr.heap.size wr w6 := (by rw [hw6]; exact below_drewN (show Below wr.heap.size wr ((wr.alloc (.cells #[.int .i64 1001] 3)).drew) from ⟨hbA.os, hbA.tape, hbA.output, hbA.size, hbA.block⟩) _); clear hw6)
  refine hK _ _ (.inr ?_) ?_
  · exact HSB.out _ hb6'
  clear hK K' hSw
  have hSw := HSB.out _ hb6'
  (try simp only [Act.put, List.setIfInBounds_toArray, List.set_cons_zero, List.set_cons_succ])
  refine wpPlan_takeD (v := ?vc6) rfl rfl hSw (by rfl) ?yc6 ?_
  case yc6 => (intro w hSx; (try dsimp only at hSx); go_simp; first | done | with_reducible rfl | rfl)
  (try simp only [Act.put, List.setIfInBounds_toArray, List.set_cons_zero, List.set_cons_succ])
  refine wpPlan_takeD (v := ?vc7) rfl rfl hSw (by rfl) ?yc7 ?_
  case yc7 => (intro w hSx; (try dsimp only at hSx); go_simp; first | done | with_reducible rfl | rfl)
  (try simp only [Act.put, List.setIfInBounds_toArray, List.set_cons_zero, List.set_cons_succ])
  refine wpPlan_takeD (v := ?vc8) rfl rfl hSw (by rfl) ?yc8 ?_
  case yc8 => (intro w hSx; (try dsimp only at hSx); go_simp; first | done | with_reducible rfl | rfl)
  (try simp only [Act.put, List.setIfInBounds_toArray, List.set_cons_zero, List.set_cons_succ])
  refine wpPlan_takeD (v := ?vc9) rfl rfl hSw (by rfl) ?yc9 ?_
  case yc9 => (intro w hSx; (try dsimp only at hSx); go_simp; first | done | with_reducible rfl | rfl)
  (try simp only [Act.put, List.setIfInBounds_toArray, List.set_cons_zero, List.set_cons_succ])
  refine wpPlan_takeD (v := ?vc10) rfl rfl hSw (by rfl) ?yc10 ?_
  case yc10 => (intro w hSx; (try dsimp only at hSx); go_simp; first | done | with_reducible rfl | rfl)
  (try simp only [Act.put, List.setIfInBounds_toArray, List.set_cons_zero, List.set_cons_succ])
  refine wpPlan_takeD (v := ?vc11) rfl rfl hSw (by rfl) ?yc11 ?_
  case yc11 => (intro w hSx; (try dsimp only at hSx); go_simp; first | done | with_reducible rfl | rfl)
  (try simp only [Act.put, List.setIfInBounds_toArray, List.set_cons_zero, List.set_cons_succ])
  refine wpPlan_takeD (v := ?vc12) rfl rfl hSw (by rfl) ?yc12 ?_
  case yc12 => (intro w hSx; (try dsimp only at hSx); go_simp; first | done | with_reducible rfl | rfl)
  (try simp only [Act.put, List.setIfInBounds_toArray, List.set_cons_zero, List.set_cons_succ])
  refine wpPlan_takeD (v := ?vc13) rfl rfl hSw (by rfl) ?yc13 ?_
  case yc13 => (intro w hSx; (try dsimp only at hSx); go_simp; first | done | with_reducible rfl | rfl)
  (try simp only [Act.put, List.setIfInBounds_toArray, List.set_cons_zero, List.set_cons_succ])
  refine wpPlan_run rfl (by rfl) (fun K' hK => ?_)
  (have hbB : Below wr.heap.size wr (w6.alloc (.cells #[.int .i64 (1001 + (i : Int))] 3)) := hb6'.alloc hb6'.size _; go_simp)
  refine hK _ _ (.inr ?_) ?_
  · exact HSB.out _ hbB
  clear hK K' hSw
  have hSw := HSB.out _ hbB
  (try simp only [Act.put, List.setIfInBounds_toArray, List.set_cons_zero, List.set_cons_succ])
  refine wpPlan_run rfl (by rfl) (fun K' hK => ?_)
  (go_simp; go_at_call 30; refine (eqInts_same (.slice r2a 1 r2c) (.slice (some ⟨w6.heap.size, 0, none⟩) 1 1) [1001 + (i : Int)] _ (SlAt.below HR2.out hbB) (slAt_block [intC (1001 + (i : Int))] 1 (by simp [intC]) (heap_last w6 _) (by simp [maxLen])) (by simp)).mono ?_; rintro e w7 ⟨rfl, n7, hw7⟩; have hb7' : Below wr.heap.size wr w7 := (by rw [hw7]; exact below_drewN hbB _); clear hw7)
  refine hK _ _ (.inr ?_) ?_
  · exact HSB.out _ hb7'
  clear hK K' hSw
  have hSw := HSB.out _ hb7'
  (try simp only [Act.put, List.setIfInBounds_toArray, List.set_cons_zero, List.set_cons_succ])
  refine wpPlan_takeD (v := ?vc14) rfl rfl hSw (by rfl) ?yc14 ?_
  case yc14 => (intro w hSx; (try dsimp only at hSx); go_simp; first | done | with_reducible rfl | rfl)
  (try simp only [Act.put, List.setIfInBounds_toArray, List.set_cons_zero, List.set_cons_succ])
  refine wpPlan_takeD (v := ?vc15) rfl rfl hSw (by rfl) ?yc15 ?_
  case yc15 => (intro w hSx; (try dsimp only at hSx); go_simp; first | done | with_reducible rfl | rfl)
  (try simp only [Act.put, List.setIfInBounds_toArray, List.set_cons_zero, List.set_cons_succ])
  refine wpPlan_takeD (v := ?vc16) rfl rfl hSw (by rfl) ?yc16 ?_
  case yc16 => (intro w hSx; (try dsimp only at hSx); go_simp; first | done | with_reducible rfl | rfl)
  (try simp only [Act.put, List.setIfInBounds_toArray, List.set_cons_zero, List.set_cons_succ])
  refine wpPlan_takeD (v := ?vc17) rfl rfl hSw (by rfl) ?yc17 ?_
  case yc17 => (intro w hSx; (try dsimp only at hSx); go_simp; first | done | with_reducible rfl | rfl)
  (try simp only [Act.put, List.setIfInBounds_toArray, List.set_cons_zero, List.set_cons_succ])
  refine wpPlan_takeD (v := ?vc18) rfl rfl hSw (by rfl) ?yc18 ?_
  case yc18 => (intro w hSx; (try dsimp only at hSx); go_simp; first | done | with_reducible rfl | rfl)
  (try simp only [Act.put, List.setIfInBounds_toArray, List.set_cons_zero, List.set_cons_succ])
  refine wpPlan_takeD (v := ?vc19) rfl rfl hSw (by rfl) ?yc19 ?_
  case yc19 => (intro w hSx; (try dsimp only at hSx); go_simp; first | done | with_reducible rfl | rfl)
  (try simp only [Act.put, List.setIfInBounds_toArray, List.set_cons_zero, List.set_cons_succ])
  refine wpPlan_takeD (v := ?vc20) rfl rfl hSw (by rfl) ?yc20 ?_
  case yc20 => (intro w hSx; (try dsimp only at hSx); go_simp; first | done | with_reducible rfl | rfl)
  (try simp only [Act.put, List.setIfInBounds_toArray, List.set_cons_zero, List.set_cons_succ])
  refine wpPlan_takeD (v := ?vc21) rfl rfl hSw (by rfl) ?yc21 ?_
  case yc21 => (intro w hSx; (try dsimp only at hSx); go_simp; first | done | with_reducible rfl | rfl)
  (try simp only [Act.put, List.setIfInBounds_toArray, List.set_cons_zero, List.set_cons_succ])
  refine wpPlan_takeD (v := ?vc22) rfl rfl hSw (by rfl) ?yc22 ?_
  case yc22 => (intro w hSx; (try dsimp only at hSx); go_simp; first | done | with_reducible rfl | rfl)
  (try simp only [Act.put, List.setIfInBounds_toArray, List.set_cons_zero, List.set_cons_succ])
  refine wpPlan_takeD (v := ?vc23) rfl rfl hSw (by rfl) ?yc23 ?_
  case yc23 => (intro w hSx; (try dsimp only at hSx); go_simp; first | done | with_reducible rfl | rfl)
  (try simp only [Act.put, List.setIfInBounds_toArray, List.set_cons_zero, List.set_cons_succ])
  refine wpPlan_takeD (v := ?vc24) rfl rfl hSw (by rfl) ?yc24 ?_
  case yc24 => (intro w hSx; (try dsimp only at hSx); go_simp; first | done | with_reducible rfl | rfl)
  (try simp only [Act.put, List.setIfInBounds_toArray, List.set_cons_zero, List.set_cons_succ])
  refine wpPlan_takeD (v := ?vc25) rfl rfl hSw (by rfl) ?yc25 ?_
  case yc25 => (intro w hSx; (try dsimp only at hSx); go_simp; first | done | with_reducible rfl | rfl)
  (try simp only [Act.put, List.setIfInBounds_toArray, List.set_cons_zero, List.set_cons_succ])
  refine wpPlan_takeD (v := ?vc26) rfl rfl hSw (by rfl) ?yc26 ?_
  case yc26 => (intro w hSx; (try dsimp only at hSx); go_simp; first | done | with_reducible rfl | rfl)
  (try simp only [Act.put, List.setIfInBounds_toArray, List.set_cons_zero, List.set_cons_succ])
  refine wpPlan_takeD (v := ?vc27) rfl rfl hSw (by rfl) ?yc27 ?_
  case yc27 => (intro w hSx; (try dsimp only at hSx); go_simp; first | done | with_reducible rfl | rfl)
  (try simp only [Act.put, List.setIfInBounds_toArray, List.set_cons_zero, List.set_cons_succ])
  refine wpPlan_takeD (v := ?vc28) rfl rfl hSw (by rfl) ?yc28 ?_
  case yc28 => (intro w hSx; (try dsimp only at hSx); go_simp; first | done | with_reducible rfl | rfl)
  (try simp only [Act.put, List.setIfInBounds_toArray, List.set_cons_zero, List.set_cons_succ])
  refine wpPlan_takeD (v := ?vc29) rfl rfl hSw (by rfl) ?yc29 ?_
  case yc29 => (intro w hSx; (try dsimp only at hSx); go_simp; first | done | with_reducible rfl | rfl)
  (try simp only [Act.put, List.setIfInBounds_toArray, List.set_cons_zero, List.set_cons_succ])
  refine wpPlan_takeD (v := ?vc30) rfl rfl hSw (by rfl) ?yc30 ?_
  case yc30 => (intro w hSx; (try dsimp only at hSx); go_simp; first | done | with_reducible rfl | rfl)
  (try simp only [Act.put, List.setIfInBounds_toArray, List.set_cons_zero, List.set_cons_succ])
  refine wpPlan_takeD (v := ?vc31) rfl rfl hSw (by rfl) ?yc31 ?_
  case yc31 => (intro w hSx; (try dsimp only at hSx); go_simp; first | done | with_reducible rfl | rfl)
  (try simp only [Act.put, List.setIfInBounds_toArray, List.set_cons_zero, List.set_cons_succ])
  refine wpPlan_run rfl (by rfl) (fun K' hK => ?_)
  (go_simp; go_at_call 29; refine (ref_EqFaultG 3 6 3 6 nm nm _).mono ?_; rintro e w8 ⟨rfl, hb8⟩; rw [show decide (((3 : Int) = 3 ∧ (6 : Int) = 6) ∧ nm = nm) = true by simp]; have hb8' : Below wr.heap.size wr w8 := hb7'.trans (hb8.mono hb7'.size); clear hb8)
  refine hK _ _ (.inr ?_) ?_
  · exact HSB.out _ hb8'
  clear hK K' hSw
  have hSw := HSB.out _ hb8'
  (try simp only [Act.put, List.setIfInBounds_toArray, List.set_cons_zero, List.set_cons_succ])
  refine wpPlan_takeD (v := ?vc32) rfl rfl hSw (by rfl) ?yc32 ?_
  case yc32 => (intro w hSx; (try dsimp only at hSx); go_simp; first | done | with_reducible rfl | rfl)
  (try simp only [Act.put, List.setIfInBounds_toArray, List.set_cons_zero, List.set_cons_succ])
  refine wpPlan_run rfl (by rfl) (fun K' hK => ?_)
  go_simp
  refine hK _ _ (.inr ?_) ?_
  · exact HSB.out _ hb8'
  clear hK K' hSw
  (try simp only [Act.put, List.setIfInBounds_toArray, List.set_cons_zero, List.set_cons_succ])
  refine wpPlan_done ?_
  go_wp2_with fail
  go_ret
  exact ⟨rfl, HBEL.out.trans (hb8'.mono HBEL.out.size)⟩
end Go.Proofs.YthmimcegiihcnaaDoor
