import Derived.Test.YtddnomjfcbplpaaGreatDoorZ28
namespace Go.Proofs.YtddnomjfcbplpaaGreatDoor
open Go.RowKit Go.Maps
namespace Sp

def RB (n : Nat) (r : Rk) : Prop := (r.given.length = r.toks.length ∧ 3 ≤ r.toks.length) ∧ r.toks.length ≤ n ∧ r.types.length ≤ n ∧ r.lefts.length ≤ n ∧ r.prods.length ≤ n ∧ r.inner ≤ n ∧ 0 ≤ r.level ∧ r.level ≤ (n : Int)
theorem RB.mono {n k : Nat} {r : Rk} (h : RB n r) (hk : n ≤ k) : RB k r := by
 obtain ⟨h0, h1, h2, h3, h4, h5, h6, h7⟩ := h; exact ⟨h0, by omega, by omega, by omega, by omega, by omega, by omega, by omega⟩
theorem RB.three {n : Nat} {r : Rk} (h : RB n r) : 3 ≤ r.toks.length := h.1.2
theorem RB.same {n : Nat} {r : Rk} (h : RB n r) : r.given.length = r.toks.length := h.1.1
theorem RB.toks {n : Nat} {r : Rk} (h : RB n r) : r.toks.length ≤ n := h.2.1
theorem RB.types {n : Nat} {r : Rk} (h : RB n r) : r.types.length ≤ n := h.2.2.1
theorem RB.lefts {n : Nat} {r : Rk} (h : RB n r) : r.lefts.length ≤ n := h.2.2.2.1
theorem RB.prods {n : Nat} {r : Rk} (h : RB n r) : r.prods.length ≤ n := h.2.2.2.2.1
theorem RB.inner {n : Nat} {r : Rk} (h : RB n r) : r.inner ≤ n := h.2.2.2.2.2.1
theorem RB.level {n : Nat} {r : Rk} (h : RB n r) : 0 ≤ r.level ∧ r.level ≤ (n : Int) := h.2.2.2.2.2.2
theorem RB.congr {n : Nat} {r r' : Rk} (h : RB n r) (e1 : r'.toks.length = r.toks.length) (e7 : r'.given.length = r.given.length) (e2 : r'.types = r.types) (e3 : r'.lefts = r.lefts) (e4 : r'.prods = r.prods) (e5 : r'.inner = r.inner) (e6 : r'.level = r.level) : RB n r' := by
 unfold RB at *
 rw [e7, e1, e2, e3, e4, e5, e6]; exact h
theorem gW {n : Nat} {r : Rk} (at_ : Int) (nm : List UInt8) (h : RB n r) : RB n (jA r at_ nm) := h.congr rfl rfl rfl rfl rfl rfl rfl
theorem rput_RB {n : Nat} {r : Rk} (x : Sym) (h : RB n r) : RB (n + 1) (rput r x).1 := by
 unfold rput; obtain ⟨h0, h1, h2, h3, h4, h5, h6, h7⟩ := h; split
 ·exact ⟨h0, by simp only; omega, by simp only; omega, by simp only; omega, by simp only; omega, by simp only; omega, h6, by simp only; omega⟩
 ·exact ⟨by simp only [List.length_append, List.length_singleton]; omega, by simp only [List.length_append, List.length_singleton]; omega, by simp only; omega, by simp only; omega, by simp only; omega, by simp only; omega, h6, by simp only; omega⟩
theorem rmod_RB {n : Nat} {r : Rk} (k : Nat) (f : Tok → Tok) (h : RB n r) : RB n (rmod r k f) := h.congr (by unfold rmod; simp only [List.length_set]) rfl rfl rfl rfl rfl rfl
theorem rlevel_RB {n : Nat} {r : Rk} (t : Nat) (d : Decl) (x : Sym) (h : RB n r) : RB n (jX r t d x) := by
 unfold jX; split
 ·have h2 := rmod_RB t (fun k => k) h
  obtain ⟨h0, h1, h3⟩ := h2; exact ⟨by simpa [rmod] using h0, by simpa [rmod] using h1, by simpa [rmod] using h3⟩
 ·exact h
theorem rnum_RB {n : Nat} {r : Rk} (t : Nat) (x : Sym) (h : RB n r) : RB n (rnum r t x) := by
 unfold rnum; split
 ·have h2 := rmod_RB t (fun k => k) h
  obtain ⟨h0, h1, h3⟩ := h2; exact ⟨by simpa [rmod] using h0, by simpa [rmod] using h1, by simpa [rmod] using h3⟩
 ·exact h
theorem rtag_RB {n : Nat} {r : Rk} (t : Nat) (d : Decl) (x : Sym) (h : RB n r) : RB n (rtag r t d x) := by
 unfold rtag; split
 ·have h2 := rmod_RB t (fun k => k) h
  obtain ⟨h0, h1, h3⟩ := h2; exact ⟨by simpa [rmod] using h0, by simpa [rmod] using h1, by simpa [rmod] using h3⟩
 ·exact h
theorem rdeclare_RB {n : Nat} {r : Rk} (d : Decl) (x : Sym) (h : RB n r) : RB (n + 1) (xO r d x) := by
 unfold xO; split
 ·split
  ·obtain ⟨h0, h1, h2, h3, h4, h5, h6, h7⟩ := h
   exact ⟨h0, by simp only; omega, by simp only [List.length_append, List.length_singleton]; omega, by simp only; omega, by simp only; omega, by simp only; omega, h6, by simp only; omega⟩
  ·split
   ·exact (gW _ _ h).mono (by omega)
   ·exact h.mono (by omega)
 ·exact rtag_RB _ _ _ (rnum_RB _ _ (rlevel_RB _ _ _ (rput_RB x h)))
theorem rsymbol_RB {n : Nat} {r : Rk} (x : Sym) (h : RB n r) : RB (n + 1) (yP r x).1 := by
 unfold yP; split
 ·exact rput_RB x h
 ·split
  ·exact h.mono (by omega)
  ·split
   ·exact (gW _ _ h).mono (by omega)
   ·exact h.mono (by omega)
theorem rrule_RB {n : Nat} {r : Rk} (x : Rule) (h : RB n r) : RB (n + 1) (zAM r x) := by
 have h1 : RB n (if (rtok r.toks x.left false).isSome = true then jA r x.at_ x.left else r) := by
  split
  ·exact gW _ _ h
  ·exact h
 unfold zAM; simp only; generalize (if (rtok r.toks x.left false).isSome = true then jA r x.at_ x.left else r) = r1 at *
 split
 ·obtain ⟨h0, h1, h2, h3, h4, h5, h6, h7⟩ := h1
  exact ⟨h0, by simp only; omega, by simp only; omega, by simp only [List.length_append, List.length_singleton]; omega, by simp only; omega, by simp only; omega, h6, by simp only; omega⟩
 ·exact h1.mono (by omega)
theorem raltPrec_RB {n : Nat} {r : Rk} (a : Alt) (c : Int) (h : RB n r) : RB (n + 1) (qJ r a c).1 := by
 unfold qJ; split
 ·exact h.mono (by omega)
 ·split
  ·exact rsymbol_RB _ h
  ·exact (gW _ _ h).mono (by omega)
theorem rtokGo_lt (nm : List UInt8) (lt : Bool) : ∀ (l : List Tok) (i k : Nat), zAT nm lt l i = some k → i ≤ k ∧ k < i + l.length
 | [], _, _, h => by cases h
 | t :: ts, i, k, h => by
  unfold zAT at h; rw [List.length_cons]; split at h
  ·cases h
   omega
  ·have := rtokGo_lt nm lt ts (i + 1) k h
   omega
theorem rtok_lt {toks : List Tok} {nm : List UInt8} {lt : Bool} {k : Nat} (h : rtok toks nm lt = some k) : 1 ≤ k ∧ k < toks.length := by
 have := rtokGo_lt nm lt _ _ _ h; rw [List.length_drop] at this; omega
theorem rput_lt {r : Rk} (x : Sym) : (rput r x).2 < (rput r x).1.toks.length ∧ r.toks.length ≤ (rput r x).1.toks.length := by
 unfold rput; split
 ·rename_i t h
  exact ⟨(rtok_lt h).2, Nat.le_refl _⟩
 ·simp
theorem zCE {α : Type} {p : α → Bool} : ∀ (l : List α) (i k : Nat), yI p l i = some k → i ≤ k ∧ k < i + l.length
 | [], _, _, h => by cases h
 | x :: l, i, k, h => by
  unfold yI at h; rw [List.length_cons]; split at h
  ·cases h
   omega
  ·have := zCE l (i + 1) k h
   omega
theorem rleft_lt {lefts : List (List UInt8)} {nm : List UInt8} {k : Nat} (h : kC lefts nm = some k) : k < lefts.length := by
 have := zCE _ _ _ h; omega
def typeIx (types : List (List UInt8 × List UInt8)) (nm : List UInt8) : Option Nat := yI (fun p => p.1 == nm) types 0
theorem typeIx_go (nm : List UInt8) : ∀ (l : List (List UInt8 × List UInt8)) (i : Nat), xK l nm = (yI (fun p => p.1 == nm) l i).bind fun k => (l[k - i]?).map (·.2)
 | [], _ => rfl
 | (n, t) :: l, i => by
  unfold xK yI; by_cases h : n = nm
  ·subst h
   simp
  ·rw [if_neg h, if_neg (by simpa using h), typeIx_go nm l (i + 1)]
   cases hf : yI (fun p => p.1 == nm) l (i + 1) with
   | none => rfl
   | some k =>
    have := (zCE _ _ _ hf).1; simp only [Option.bind_some]; rw [show k - i = (k - (i + 1)) + 1 by omega, List.getElem?_cons_succ]
theorem typeIx_of (types : List (List UInt8 × List UInt8)) (nm : List UInt8) : xK types nm = (typeIx types nm).bind fun k => (types[k]?).map (·.2) := typeIx_go nm types 0
theorem typeIx_lt {types : List (List UInt8 × List UInt8)} {nm : List UInt8} {k : Nat} (h : typeIx types nm = some k) : k < types.length := by
 have := zCE _ _ _ h; omega
theorem refGram_none {x : zM} (h : may x = false) : qC x = (xG, ⟨1, 0, []⟩) := if_pos h
theorem zAW {x : zM} (h : may x = true) (hf : (xT x).fault.err ≠ 0) : qC x = (xG, (xT x).fault) :=
 (if_neg (by rw [h]; decide)).trans (if_pos hf)
theorem zAV {x : zM} (h : may x = true) (hf : (xT x).fault.err = 0) (hg : zBR (xT x) = true) : qC x = (xG, ⟨4, 0, []⟩) :=
 (if_neg (by rw [h]; decide)).trans ((if_neg (fun h => h hf)).trans (if_pos hg))
theorem zBT {x : zM} (h : may x = true) (hf : (xT x).fault.err = 0) (hg : zBR (xT x) = false) : qC x = (⟨qI (xT x), rnons (xT x), (xT x).prods, x.pro, x.tail⟩, okFault) :=
 (if_neg (by rw [h]; decide)).trans ((if_neg (fun h => h hf)).trans (if_neg (by rw [hg]; decide)))
end Sp


set_option maxRecDepth 100000 in
set_option maxHeartbeats 12800000 in
theorem gram_Of (x : Sp.zM) (vd vr : Value) (W : World) (hd : xD W vd x.decls) (hr : xA W vr x.rules) (hs : xN x) (hg : Gl W) :
  Calls Tryz.prog 15 #[.agg (srcC vd vr x).toArray] W (OfPost W (Sp.jL x)) := by
 have HMAY := zh (fun w' (hb : Below W.heap.size W w') => print_May x vd vr w' (hd.below hb) (hr.below hb) hs (hg.below hb)); have HD := zh hd; have HR := zh hr; have HS := zh hs; have HGL := zh hg; obtain ⟨G, hG⟩ : ∃ G, G = Sp.jL x := ⟨_, rfl⟩
 rw [← hG]; have HGG := zh hG; clear hd hr hs hg hG; show Calls _ _ #[.agg #[.string ⟨x.pro.toArray⟩, vd, vr, .string ⟨x.tail.toArray⟩]] _ _
 go_enter Tryz.func15, Tryz.ntmps15
 go_wp2_with fail; refine (HMAY.out _ (j6 _ _ _ _)).mono ?_; rintro e w1 ⟨rfl, hb1⟩; have hb1' := hb1.mono (show W.heap.size + 3 ≤ _ by simp); have HQ : Hid (OfBox x vd vr W.heap.size w1) := zh (three_c hb1'); have HBW : Hid (Below W.heap.size W w1) := zh ((j6 W _ _ _).trans (hb1.mono (by simp; omega))); have HLT : Hid (W.heap.size + 1 + 1 < w1.heap.size) := zh (zC HQ.out.2.2); clear hb1 hb1'
 cases hm : Sp.may x with
 | false =>
  have HM := zh hm; obtain ⟨q0, q1, q2⟩ := HQ.out; have c0 := zc 0 q1; have c1 := zc 1 q1; have c2 := zc 2 q1; have c3 := zc 3 q1; have c4 := zc 4 q1; have f0 := zf 0 q1; have f1 := zf 1 q1; have f2 := zf 2 q1; have f3 := zf 3 q1; have f4 := zf 4 q1; have d0 := zc 0 q2; have d1 := zc 1 q2; have d2 := zc 2 q2; have e0 := zf 0 q2; have e1 := zf 1 q2; have e2 := zf 2 q2; have l1 := zC q1; have l2 := zC q2; clear q0 q1 q2 hm; go_wp2_with fail; have hst := zDR HQ.out.2.1 HQ.out.2.2 (by omega) (.slice none 0 0) (.slice none 0 0) (.slice none 0 0) (.string ⟨#[]⟩) (.string ⟨#[]⟩) (.int .i64 1) (.int .i64 0) (.string ⟨#[]⟩) rfl; refine vY rfl rfl rfl hst.1 hst.2.1 rfl Tryz.underlying39 (by kernel_rfl) rfl Tryz.underlying52 (by kernel_rfl) rfl ?_; show OfPost W G _ _
  rw [HGG.out, Sp.gram_none HM.out]; exact ⟨HBW.out.trans (hst.2.2.below HBW.out.size (fun b hb => by omega)), _, rfl, jS _⟩
 | true =>
  have HM := zh hm; obtain ⟨hr0, hdm, ham⟩ := Sp.may_ok hm; have HR0 := zh hr0; have HDM := zh hdm; have HAM := zh ham; have HD1 := zh (HD.out.below HBW.out); have HR1 := zh (HR.out.below HBW.out); have HGL1 := zh (HGL.out.below HBW.out); clear hm hr0 hdm ham; go_upto_region 3 with fail
  refine wp_region_lit (LitI x vd vr w1) (by kernel_rfl) (by kernel_rfl) ?hstep ?hend ⟨undef, undef, undef, undef, undef, undef, undef, undef, undef, undef⟩ (by simp only [LitR.act, Act.put, zq0, zq1, zq2]) (LitI.start (below_drewN (Below.refl _ w1) 1) (fun _ => rfl) _)
  case hstep =>
   intro L r w i hi hL hw1 hw2 hI; have hC : LitCl L := ⟨fun e => ⟨hw2 3 1 (by kernel_rfl) e, hw2 3 2 (by kernel_rfl) e⟩, fun e => ⟨hw2 4 1 (by kernel_rfl) e, hw2 4 3 (by kernel_rfl) e⟩, fun e => ⟨hw2 8 0 (by kernel_rfl) e, hw2 8 4 (by kernel_rfl) e, hw2 8 5 (by kernel_rfl) e, hw2 8 6 (by kernel_rfl) e, hw2 8 7 (by kernel_rfl) e⟩, fun e => hw2 9 8 (by kernel_rfl) e, fun e => hw2 10 9 (by kernel_rfl) e⟩
   have hi11 : i < 11 := hi; have hcase : i = 0 ∨ i = 1 ∨ i = 2 ∨ i = 3 ∨ i = 4 ∨ i = 5 ∨ i = 6 ∨ i = 7 ∨ i = 8 ∨ i = 9 ∨ i = 10 := by omega
   clear hi hi11; rcases hcase with rfl | rfl | rfl | rfl | rfl | rfl | rfl | rfl | rfl | rfl | rfl
   ·have HW1 := zh hw1; have HC := zh hC
    obtain ⟨s4, t10, t11, t12, t13, t14, t15, t16, t17, t18⟩ := r; have HI := zh (hI.o0 hC hL); have hbel := LitI.bel hI; have k0 := (hbel.block W.heap.size (by have := HLT.out; omega)).trans HQ.out.1; have c0 := zc 0 k0; have c1 := zc 1 k0; have c2 := zc 2 k0; have c3 := zc 3 k0; have hlt0 := zC k0; clear hI k0 hbel; clear hC hw1 hw2; refine z7 rfl (fun K' hK => ?_); simp only [LitR.act, Act.put, zq0, zq1, zq2]; go_simp; refine hK _ _ ⟨⟨s4, .agg (srcC vd vr x).toArray, t11, t12, t13, t14, t15, t16, t17, t18⟩, ?_, HI.out⟩; first | (simp only [LitR.act, Act.put, zq0, zq1, zq2]; done) | (simp only [LitR.act, Act.put, zq0, zq1, zq2]; rfl)
   ·have HW1 := zh hw1; have HC := zh hC
    obtain ⟨s4, t10, t11, t12, t13, t14, t15, t16, t17, t18⟩ := r; have HI := zh (hI.o1 hC hL); clear hI; clear hC hw1 hw2; refine z7 rfl (fun K' hK => ?_); simp only [LitR.act, Act.put, zq0, zq1, zq2]; go_simp; refine hK _ _ ⟨⟨s4, t10, .map (some w.heap.size), t12, t13, t14, t15, t16, t17, t18⟩, ?_, HI.out⟩; first | (simp only [LitR.act, Act.put, zq0, zq1, zq2]; done) | (simp only [LitR.act, Act.put, zq0, zq1, zq2]; rfl)
   ·have HW1 := zh hw1; have HC := zh hC
    obtain ⟨s4, t10, t11, t12, t13, t14, t15, t16, t17, t18⟩ := r; have HI := zh (hI.o2 hC hL); clear hI; clear hC hw1 hw2; refine z7 rfl (fun K' hK => ?_); simp only [LitR.act, Act.put, zq0, zq1, zq2]; go_simp; refine hK _ _ ⟨⟨s4, t10, t11, keyErr, t13, t14, t15, t16, t17, t18⟩, ?_, HI.out⟩; first | (simp only [LitR.act, Act.put, zq0, zq1, zq2]; done) | (simp only [LitR.act, Act.put, zq0, zq1, zq2]; rfl)
   ·have HW1 := zh hw1; have HC := zh hC
    obtain ⟨s4, t10, t11, t12, t13, t14, t15, t16, t17, t18⟩ := r; obtain ⟨b1, w', e11, e12, hrun, hI'⟩ := hI.o3 hC hL (hw1 1 (by kernel_rfl)) (hw1 2 (by kernel_rfl)); simp only at e11 e12 hI'; subst e11 e12; have HI := zh hI'; clear hI hI'; clear hC hw1 hw2; refine z7 rfl (fun K' hK => ?_); simp only [LitR.act, Act.put, zq0, zq1, zq2]; go_simp; refine hK _ _ ⟨⟨s4, t10, .map (some b1), keyErr, t13, t14, t15, t16, t17, t18⟩, ?_, HI.out⟩; first | (simp only [LitR.act, Act.put, zq0, zq1, zq2]; done) | (simp only [LitR.act, Act.put, zq0, zq1, zq2]; rfl)
   ·have HW1 := zh hw1; have HC := zh hC
    obtain ⟨s4, t10, t11, t12, t13, t14, t15, t16, t17, t18⟩ := r; have HI := zh (hI.o4 hC hL (hw1 1 (by kernel_rfl))); clear hI; clear hC hw1 hw2; refine z7 rfl (fun K' hK => ?_); simp only [LitR.act, Act.put, zq0, zq1, zq2]; go_simp; refine hK _ _ ⟨⟨s4, t10, t11, t12, t11, t14, t15, t16, t17, t18⟩, ?_, HI.out⟩; first | (simp only [LitR.act, Act.put, zq0, zq1, zq2]; done) | (simp only [LitR.act, Act.put, zq0, zq1, zq2]; rfl)
   ·have HW1 := zh hw1; have HC := zh hC
    obtain ⟨s4, t10, t11, t12, t13, t14, t15, t16, t17, t18⟩ := r; have HI := zh (hI.o5 hC hL); clear hI; obtain ⟨ib0, hib0, hbz0, hbz1, hbz2⟩ := info_parts zCC
    have hms : (Instr.makeSlice 75 (.int .i64 3) (.int .i64 3)).run Tryz.prog w = .ok (.slice (some ⟨w.heap.size, 0, none⟩) 3 3) (w.alloc (.cells #[.bool false, .bool false, .bool false] 4)) := by
     have h := run_makeSlice (P := Tryz.prog) (w := w) 75 4 ib0 (.bool false) Tryz.underlying75 hib0 hbz0 .i64 .i64 3 3 (by omega) (by omega) (by rw [hbz1]; decide) (by rw [hbz2]; decide) (by decide); rw [hbz1, show Int.toNat 3 = 3 from rfl, show madeCells (Value.bool false).cells (3 * 1) = #[.bool false, .bool false, .bool false] from by kernel_rfl] at h; exact h
    clear hib0 hbz0 hbz1 hbz2; clear hC hw1 hw2; refine z7 rfl (fun K' hK => ?_); simp only [LitR.act, Act.put, zq0, zq1, zq2]; go_simp; refine hK _ _ ⟨⟨s4, t10, t11, t12, t13, .slice (some ⟨w.heap.size, 0, none⟩) 3 3, t15, t16, t17, t18⟩, ?_, HI.out⟩; first | (simp only [LitR.act, Act.put, zq0, zq1, zq2]; done) | (simp only [LitR.act, Act.put, zq0, zq1, zq2]; rfl)
   ·have HW1 := zh hw1; have HC := zh hC
    obtain ⟨s4, t10, t11, t12, t13, t14, t15, t16, t17, t18⟩ := r; have HI := zh (hI.o6 hC hL); clear hI; clear hC hw1 hw2; refine z7 rfl (fun K' hK => ?_); simp only [LitR.act, Act.put, zq0, zq1, zq2]; go_simp; refine hK _ _ ⟨⟨s4, t10, t11, t12, t13, t14, .map (some w.heap.size), t16, t17, t18⟩, ?_, HI.out⟩; first | (simp only [LitR.act, Act.put, zq0, zq1, zq2]; done) | (simp only [LitR.act, Act.put, zq0, zq1, zq2]; rfl)
   ·have HW1 := zh hw1; have HC := zh hC
    obtain ⟨s4, t10, t11, t12, t13, t14, t15, t16, t17, t18⟩ := r; have HI := zh (hI.o7 hC hL); clear hI; clear hC hw1 hw2; refine z7 rfl (fun K' hK => ?_); simp only [LitR.act, Act.put, zq0, zq1, zq2]; go_simp; refine hK _ _ ⟨⟨s4, t10, t11, t12, t13, t14, t15, .map (some w.heap.size), t17, t18⟩, ?_, HI.out⟩; first | (simp only [LitR.act, Act.put, zq0, zq1, zq2]; done) | (simp only [LitR.act, Act.put, zq0, zq1, zq2]; rfl)
   ·have HW1 := zh hw1; have HC := zh hC
    obtain ⟨s4, t10, t11, t12, t13, t14, t15, t16, t17, t18⟩ := r; obtain ⟨b1, b6, b7, g5, c5, e14, e10, e13, e15, e16, hI'⟩ := hI.o8 hC hL (hw1 0 (by kernel_rfl)) (hw1 4 (by kernel_rfl)) (hw1 5 (by kernel_rfl)) (hw1 6 (by kernel_rfl)) (hw1 7 (by kernel_rfl)); replace e10 : t10 = .agg #[.string ⟨x.pro.toArray⟩, vd, vr, .string ⟨x.tail.toArray⟩] := e10; simp only at e13 e14 e15 e16 hI'; subst e10 e13 e14 e15 e16; have HI := zh hI'; clear hI hI'; clear hC hw1 hw2; refine z7 rfl (fun K' hK => ?_); simp only [LitR.act, Act.put, zq0, zq1, zq2]; go_simp; refine hK _ _ ⟨⟨s4, .agg #[.string ⟨x.pro.toArray⟩, vd, vr, .string ⟨x.tail.toArray⟩], t11, t12, .map (some b1), .slice (some ⟨g5, 0, none⟩) 3 c5, .map (some b6), .map (some b7), .agg (mkLit x vd vr b1 b6 b7 (.slice (some ⟨g5, 0, none⟩) 3 c5)), t18⟩, ?_, HI.out⟩; first | (simp only [LitR.act, Act.put, zq0, zq1, zq2]; done) | (simp only [LitR.act, Act.put, zq0, zq1, zq2]; rfl)
   ·have HW1 := zh hw1; have HC := zh hC
    obtain ⟨s4, t10, t11, t12, t13, t14, t15, t16, t17, t18⟩ := r; obtain ⟨b1, b6, b7, e17, hI'⟩ := hI.o9 hC hL (hw1 8 (by kernel_rfl)); replace e17 : t17 = .agg #[.string ⟨x.pro.toArray⟩, vd, vr, .string ⟨x.tail.toArray⟩, .slice none 0 0, .slice none 0 0, .slice none 0 0, .string ⟨#[]⟩, .string ⟨#[]⟩, .map (some b1), t14, .map (some b6), .map (some b7), .string ⟨#[]⟩, .int .i64 0, .int .i64 0, .string ⟨#[]⟩] := e17; simp only at hI'; subst e17; have HI := zh hI'; clear hI hI'; clear hC hw1 hw2; refine z7 rfl (fun K' hK => ?_); simp only [LitR.act, Act.put, zq0, zq1, zq2]; go_simp; refine hK _ _ ⟨⟨s4, t10, t11, t12, t13, t14, t15, t16, .agg (mkLit x vd vr b1 b6 b7 t14), .pointer (some ⟨w.heap.size, 0, none⟩)⟩, ?_, HI.out⟩; first | (simp only [LitR.act, Act.put, zq0, zq1, zq2]; done) | (simp only [LitR.act, Act.put, zq0, zq1, zq2]; rfl)
   ·have HW1 := zh hw1; have HC := zh hC
    obtain ⟨s4, t10, t11, t12, t13, t14, t15, t16, t17, t18⟩ := r; have HI := zh (hI.o10 hC hL); clear hI; clear hC hw1 hw2; refine z7 rfl (fun K' hK => ?_); simp only [LitR.act, Act.put, zq0, zq1, zq2]; go_simp; refine hK _ _ ⟨⟨t18, t10, t11, t12, t13, t14, t15, t16, t17, t18⟩, ?_, HI.out⟩; first | (simp only [LitR.act, Act.put, zq0, zq1, zq2]; done) | (simp only [LitR.act, Act.put, zq0, zq1, zq2]; rfl)
  case hend =>
   intro L r w hL hI; obtain ⟨b1, b6, b7, m, e4, e18, hmB, hmk, hli⟩ := hI.all (fun i hi => hL i hi); obtain ⟨s4, t10, t11, t12, t13, t14, t15, t16, t17, t18⟩ := r; simp only at e4 e18 hmk hli; subst e4 e18; have HMK := zh hmk; have HLI := zh hli; have HMB := zh hmB; clear hL hI hli hmB; simp only [LitR.act, Act.put, zq0, zq1, zq2]; go_upto_region 4 with fail
   have HQ2 := zh (HQ.out.below HLI.out.below); obtain ⟨q0, q1, q2⟩ := HQ2.out; have c0 := zc 0 q0; have c3 := zc 3 q0; unfold mkLit at hmk; have k4 := zc 4 hmk; have k5 := zc 5 hmk; have k6 := zc 6 hmk; have k7 := zc 7 hmk; have k8 := zc 8 hmk; have f4 := zf 4 hmk; have f5 := zf 5 hmk; have f6 := zf 6 hmk; have f7 := zf 7 hmk; have f8 := zf 8 hmk; have lm := zC hmk; have l0 := zC q0; clear hmk q0 q1 q2; go_cut [] (fun wx => ∃ v, zS w1.heap.size wx m x Sp.mk0 v 0 0 [] ∧ Below w1.heap.size w1 wx ∧ v.dv = vd ∧ v.rv = vr)
   case first =>
    go_wp2_with fail; go_meet; obtain ⟨h1, h2⟩ := maker_start HMB.out HMK.out HLI.out rfl; exact ⟨_, h1, h2, rfl, rfl⟩
   case rest =>
    obtain ⟨v0, hmk0, hb0, hdv, hrv⟩ := hcut; obtain ⟨w5, hw5⟩ : ∃ w5 : World, w5 = wc := ⟨_, rfl⟩
    subst hw5; have HMK0 := zh hmk0; have HB0 := zh hb0; have HDV := zh hdv; have HRV := zh hrv; clear hmk0 hb0 hdv hrv c0 c3 k4 k5 k6 k7 k8 f4 f5 f6 f7 f8 lm l0; go_upto_region 5 with fail
    go_cut [42] (fun c42 wx => PassEnd w1 m x vd vr c42 wx)
    case first =>
     go_wp2_with fail; refine (maker_decls HMK0.out HB0.out (by rw [HDV.out]; exact HD1.out) HS.out (fun d hd => Sp.mayDecl_ok (HDM.out d hd)) (by decide) (by decide)).mono ?_; rintro e w6 ⟨hb6, hp6⟩; have HB6 := zh hb6
     cases hR1 : Sp.qM 0 x.decls Sp.mk0 with
     | error st =>
      rw [hR1] at hp6; obtain ⟨rfl, s, v, hbl⟩ := hp6; have HR1E := zh hR1; have HBL := zh hbl; clear hR1 hbl hb6; go_wp2_with fail; go_meet; exact ⟨HB6.out, .inl ⟨st.1, st.2, s, v, rfl, Sp.gram_err1 HM.out HR1E.out, HBL.out⟩⟩
     | ok s1 =>
      rw [hR1] at hp6; obtain ⟨rfl, v1, hmk1, hdv1, hrv1⟩ := hp6; have K1 := zh (Sp.zAZ x.decls 0 Sp.mk0 s1 (fun d hd => ⟨(HS.out.2.2.2.2.1 d hd).2.1, (HS.out.2.2.2.2.1 d hd).2.2⟩) hR1); have HR1E := zh hR1; have HMK1 := zh hmk1; have HDV1 := zh (hdv1.trans HDV.out); have HRV1 := zh (hrv1.trans HRV.out); clear hR1 hmk1 hdv1 hrv1 hb6; go_wp2_with fail; refine (maker_lefts HMK1.out HB6.out (by rw [HRV1.out]; exact HR1.out) (by rw [HDV1.out]; exact HD1.out) HS.out (by rw [K1.out.nons, K1.out.lefts]; rfl) (by rw [K1.out.lefts]; decide)).mono ?_; rintro e w7 ⟨hb7, hp7⟩; have HB7 := zh hb7
      cases hR2 : Sp.vI x s1 with
      | error st =>
       rw [hR2] at hp7; obtain ⟨rfl, s, v, hbl⟩ := hp7; have HR2E := zh hR2; have HBL := zh hbl; clear hR2 hbl hb7; go_wp2_with fail; go_meet; exact ⟨HB7.out, .inl ⟨st.1, st.2, s, v, rfl, Sp.gram_err2 HM.out HR1E.out HR2E.out, HBL.out⟩⟩
      | ok s2 =>
       rw [hR2] at hp7; obtain ⟨rfl, v2, hmk2, hdv2, hrv2⟩ := hp7; have HR2E := zh hR2; have HMK2 := zh hmk2; have HDV2 := zh (hdv2.trans HDV1.out); have HRV2 := zh (hrv2.trans HRV1.out)
       have HPB : Hid (xZ s2 0 0 0) := zh (by
        have k2 := Sp.zEE hR2; have h1 := K1.out.toks; have h4 := HS.out.2.2.1; have h3 : Sp.mk0.toks.length = 3 := rfl; unfold xZ; rw [k2.1]
        omega)
       clear hR2 hmk2 hdv2 hrv2 hb7; go_wp2_with fail; refine (maker_parts HMK2.out HB7.out (by rw [HRV2.out]; exact HR1.out) HS.out (fun r hr a ha => Sp.mayAlt_ok (HAM.out r hr a ha)) HPB.out).mono ?_; rintro e w8 ⟨hb8, hp8⟩; have HB8 := zh hb8
       cases hR3 : Sp.kN x.rules s2 with
       | error st =>
        rw [hR3] at hp8; obtain ⟨rfl, s, v, hbl⟩ := hp8; have HR3E := zh hR3; have HBL := zh hbl; clear hR3 hbl hb8; go_wp2_with fail; go_meet; exact ⟨HB8.out, .inl ⟨st.1, st.2, s, v, rfl, Sp.gram_err3 HM.out HR1E.out HR2E.out HR3E.out, HBL.out⟩⟩
       | ok s3 =>
        rw [hR3] at hp8; obtain ⟨rfl, v3, hmk3, hdv3, hrv3⟩ := hp8; have HR3E := zh hR3; have HMK3 := zh hmk3; have HDV3 := zh (hdv3.trans HDV2.out); have HRV3 := zh (hrv3.trans HRV2.out); clear hR3 hmk3 hdv3 hrv3 hb8; go_wp2_with fail; go_meet; exact ⟨HB8.out, .inr ⟨s3, v3, rfl, Sp.gram_tail HM.out HR1E.out HR2E.out HR3E.out, HMK3.out, HDV3.out, HRV3.out, pass_counts HS.out HR1E.out HR2E.out HR3E.out⟩⟩
    case rest =>
     clear HMK0 HB0 HDV HRV HQ2 HMK HLI; obtain ⟨hb9, ⟨st1, st2, s, v, rfl, hG, hbl⟩ | ⟨s, v, rfl, hG, hmk9, hdv, hrv, hp0, hnl, hl8, hst4, ht38⟩⟩ := hcut
     ·have HGE := zh hG
      obtain ⟨w9, hw9⟩ : ∃ w9 : World, w9 = wc := ⟨_, rfl⟩
      subst hw9; have HQ9 := zh (HQ.out.below hb9); have HB9 := zh hb9; unfold zX at hbl
      have HSK : Hid (∀ w', Kp (fun b => b = m) w9 w' → (w'.cell? ⟨m, 14, none⟩ = some (.int .i64 3) ∧ w'.cell? ⟨m, 15, none⟩ = some (.int .i64 st2) ∧ w'.cell? ⟨m, 16, none⟩ = some (.string ⟨st1.toArray⟩))) := zh (fun w' k => by
       have h := k.at hbl rfl
       exact ⟨zc 14 h, zc 15 h, zc 16 h⟩)
      have lm := zC hbl; have HNE : Hid (m ≠ W.heap.size + 1 ∧ m ≠ W.heap.size + 1 + 1) := zh (by have := HMB.out; have := HLT.out; omega); obtain ⟨q0, q1, q2⟩ := HQ9.out; have c0 := zc 0 q1; have c1 := zc 1 q1; have c2 := zc 2 q1; have c3 := zc 3 q1; have c4 := zc 4 q1; have f0 := zf 0 q1; have f1 := zf 1 q1; have f2 := zf 2 q1; have f3 := zf 3 q1; have f4 := zf 4 q1; have d0 := zc 0 q2; have d1 := zc 1 q2; have d2 := zc 2 q2; have e0 := zf 0 q2; have e1 := zf 1 q2; have e2 := zf 2 q2; have l1 := zC q1; have l2 := zC q2; clear q0 q1 q2; clear hbl hb9 hG; go_upto_region 6 with fail
      refine zF (fun w' : World => (w'.cell? ⟨m, 14, none⟩ = some (.int .i64 3) ∧ w'.cell? ⟨m, 15, none⟩ = some (.int .i64 st2) ∧ w'.cell? ⟨m, 16, none⟩ = some (.string ⟨st1.toArray⟩))) [6] (.take 0 (.take 1 (.take 2 (.take 3 (.take 4 (.one 5 (.one 6 (.done)))))))) (by kernel_rfl) (by kernel_rfl) (fun _ _ _ _ h => h) ?_; have hSw := HSK.out _ ((Kp.refl _ w9).drew); iterate 5 (refine zN (v := ?_) rfl hSw (by rfl) ?_ ?_; rotate_left 1; (focus (intro w hSx; (try dsimp only at hSx); go_simp; try rfl)); (try simp only [Act.put, zq0, zq1, zq2]))
      refine zB rfl (by rfl) (fun K' hK => ?_); go_simp; refine hK _ _ (.inr (HSK.out _ (((((((Kp.refl _ w9).drew).setCell (p := ⟨W.heap.size + 1, 0, none⟩) (fun e => HNE.out.1 e.symm) (.slice none 0 0)).setCell (p := ⟨W.heap.size + 1, 1, none⟩) (fun e => HNE.out.1 e.symm) (.slice none 0 0)).setCell (p := ⟨W.heap.size + 1, 2, none⟩) (fun e => HNE.out.1 e.symm) (.slice none 0 0)).setCell (p := ⟨W.heap.size + 1, 3, none⟩) (fun e => HNE.out.1 e.symm) (.string ⟨#[]⟩)).setCell (p := ⟨W.heap.size + 1, 4, none⟩) (fun e => HNE.out.1 e.symm) (.string ⟨#[]⟩)))) ?_; clear hK K' hSw; (try simp only [Act.put, zq0, zq1, zq2]); refine zB rfl (by rfl) (fun K' hK => ?_); go_simp; refine hK _ _ (.inl rfl) ?_; clear hK K'; (try simp only [Act.put, zq0, zq1, zq2]); refine zH ?_; go_wp2_with fail; have hst := gf_storedD (w := w9) HQ9.out.2.1 HQ9.out.2.2 (by omega) (.slice none 0 0) (.slice none 0 0) (.slice none 0 0) (.string ⟨#[]⟩) (.string ⟨#[]⟩) (.int .i64 3) (.int .i64 st2) (.string ⟨st1.toArray⟩) rfl; refine vY rfl rfl rfl hst.1 hst.2.1 rfl Tryz.underlying39 (by kernel_rfl) rfl Tryz.underlying52 (by kernel_rfl) rfl ?_; show OfPost W G _ _
      rw [HGG.out, HGE.out]; exact ⟨HBW.out.trans ((HB9.out.mono HBW.out.size).trans (hst.2.2.below (by have := HB9.out.size; have := HBW.out.size; omega) (fun b hb => by omega))), _, rfl, jS _⟩
     ·obtain ⟨w9, hw9⟩ : ∃ w9 : World, w9 = wc := ⟨_, rfl⟩
      subst hw9; obtain ⟨S, hS⟩ : ∃ S, S = Sp.xX (Sp.kB x s) := ⟨_, rfl⟩
      have HCNT := zh (tail_counts HS.out hS hp0 hnl hl8 ht38); have HGS : Hid (Sp.jL x = if Sp.great S = true then (Sp.xG, ⟨4, 0, []⟩) else (⟨S.toks, S.nons, S.prods, x.pro, x.tail⟩, ⟨0, 0, []⟩)) := zh (by rw [hG, hS]; rfl); have HSS := zh hS; have HMK9 := zh hmk9; have HB9 := zh hb9; have HRV9 := zh hrv; have HP0 := zh hp0; have HNL := zh hnl; have HST4 := zh hst4; clear hS hmk9 hb9 hrv hdv hp0 hnl hG hst4; go_wp2_with fail; refine (maker_prods HMK9.out HB9.out (by rw [HRV9.out]; exact HR1.out) HS.out HGL1.out HR0.out HP0.out HNL.out hl8 HST4.out).mono ?_; rintro e w10 ⟨rfl, hb10, v10, hmk10, _, _⟩; have HMK10 := zh hmk10; have HB10 := zh hb10; clear hb10 hmk10; go_wp2_with fail; refine (maker_numbers HMK10.out HCNT.out.1).mono ?_; rintro e w11 ⟨rfl, hmk11, hfr11⟩; rw [← HSS.out] at hmk11; have HB11 : Hid (Below w1.heap.size w1 w11) := zh (HB10.out.trans (MkFr.belowB HMK10.out hfr11)); obtain ⟨ta, tc, htv⟩ := zJ hmk11.toks; obtain ⟨na, nc, hnv⟩ := zJ hmk11.nons
      obtain ⟨pa, pc, hpv⟩ : ∃ pa pc, v10.pv = .slice pa S.prods.length pc := by
       obtain ⟨f, g, ho, _⟩ := hmk11.prods; exact zJ ho
      have hb := hmk11.block; unfold zX at hb; rw [htv, hnv, hpv] at hb; have k4 := zc 4 hb; have k5 := zc 5 hb; have k6 := zc 6 hb; have k7 := zc 7 hb; have k8 := zc 8 hb; have lm := zC hb; have HMK11 := zh hmk11; have HTV := zh htv; have HNV := zh hnv; have HPV := zh hpv; clear hmk11 hfr11 htv hnv hpv hb; go_wp2_with fail; refine (gram_great ta na _ tc _ nc (.slice pa S.prods.length pc) x.pro x.tail S.prods (by rw [← HPV.out]; exact HMK11.out.prods) HCNT.out.2.2.2.1 HCNT.out.2.2.2.2 HCNT.out.2.1 HCNT.out.2.2.1).mono ?_; rintro e w12 ⟨rfl, hb12⟩; have HB12 := zh (HB11.out.trans (hb12.mono HB11.out.size)); have HMK12 := zh (zU HMK11.out hb12); have HQ12 := zh (HQ.out.below HB12.out); rw [show ((((S.prods.any fun p => decide (8 < p.right.length)) || decide (40 < S.toks.length)) || decide (24 < S.nons.length)) || decide (60 < S.prods.length)) = Sp.great S from rfl]; have hbm := HMK12.out.block; unfold zX at hbm; rw [HTV.out, HNV.out, HPV.out] at hbm; clear k4 k5 k6 k7 k8 lm hb12; have k4 := zc 4 hbm; have k5 := zc 5 hbm; have k6 := zc 6 hbm; have k7 := zc 7 hbm; have k8 := zc 8 hbm; have lm := zC hbm; have HBM := zh hbm; clear hbm; obtain ⟨q0, q1, q2⟩ := HQ12.out; have c0 := zc 0 q1; have c1 := zc 1 q1; have c2 := zc 2 q1; have c3 := zc 3 q1; have c4 := zc 4 q1; have f0 := zf 0 q1; have f1 := zf 1 q1; have f2 := zf 2 q1; have f3 := zf 3 q1; have f4 := zf 4 q1; have d0 := zc 0 q2; have d1 := zc 1 q2; have d2 := zc 2 q2; have e0 := zf 0 q2; have e1 := zf 1 q2; have e2 := zf 2 q2; have l1 := zC q1; have l2 := zC q2; clear q0 q1 q2
      cases hgr : Sp.great S with
      | true =>
       have HGR := zh hgr; clear hgr; go_wp2_with fail; have hst := zDR HQ12.out.2.1 HQ12.out.2.2 (by omega) (.slice none 0 0) (.slice none 0 0) (.slice none 0 0) (.string ⟨#[]⟩) (.string ⟨#[]⟩) (.int .i64 4) (.int .i64 0) (.string ⟨#[]⟩) rfl; refine vY rfl rfl rfl hst.1 hst.2.1 rfl Tryz.underlying39 (by kernel_rfl) rfl Tryz.underlying52 (by kernel_rfl) rfl ?_; show OfPost W G _ _
       rw [HGG.out, HGS.out, if_pos HGR.out]; exact ⟨HBW.out.trans ((HB12.out.mono HBW.out.size).trans (hst.2.2.below (by have := HB12.out.size; have := HBW.out.size; omega) (fun b hb => by omega))), _, rfl, jS _⟩
      | false =>
       have HGR := zh hgr; clear hgr; have HNE : Hid (m ≠ W.heap.size + 1 ∧ m ≠ W.heap.size + 1 + 1) := zh (by have := HMB.out; have := HLT.out; omega); go_wp2_with fail; have hst := zDR HQ12.out.2.1 HQ12.out.2.2 (by omega) (.slice ta S.toks.length tc) (.slice na S.nons.length nc) (.slice pa S.prods.length pc) (.string ⟨x.pro.toArray⟩) (.string ⟨x.tail.toArray⟩) (.int .i64 0) (.int .i64 0) (.string ⟨#[]⟩) rfl; refine vY rfl rfl rfl hst.1 hst.2.1 rfl Tryz.underlying39 (by kernel_rfl) rfl Tryz.underlying52 (by kernel_rfl) rfl ?_; show OfPost W G _ _
       rw [HGG.out, HGS.out, if_neg (by rw [HGR.out]; simp)]; refine ⟨HBW.out.trans ((HB12.out.mono HBW.out.size).trans (hst.2.2.below (by have := HB12.out.size; have := HBW.out.size; omega) (fun b hb => by omega))), _, rfl, ?_⟩; have hga := gramOwn_of HMK12.out HQ12.out.2.1 HQ12.out.2.2 hst.2.2; rw [HTV.out, HNV.out, HPV.out] at hga; exact hga


def putV : List Nat → Act → (Nat → Value) → Act
 | [], a, _ => a
 | d :: l, a, V => putV l (a.put (some d) (V d)) V
def updV (V : Nat → Value) (d : Nat) (v : Value) : Nat → Value := fun j => if j = d then v else V j
theorem updV_eq (V : Nat → Value) (d : Nat) (v : Value) : updV V d v d = v := if_pos rfl
theorem updV_ne (V : Nat → Value) {d j : Nat} (v : Value) (h : (j == d) = false) : updV V d v j = V j := if_neg (by simpa using h)
theorem updL_eq (L : Nat → Bool) (d : Nat) : updL L d d = true := if_pos rfl
theorem updL_ne (L : Nat → Bool) {d j : Nat} (h : (j == d) = false) : updL L d j = L j := if_neg (by simpa using h)
theorem wp_region_vals {P : Program} {ops : Array Oper} {Q : Exit → Act → World → Prop} (ds : List Nat) (I : (Nat → Bool) → (Nat → Value) → World → Prop) {id : Nat} {a : Act} {w : World} (hm : P.follows .mixedOrders = true)
  (hc : ((List.range ops.size).all fun i => match ops[i]? with
   | some o => o.after.all fun e => !Region.binds .any e || decide (e.on < i)
   | none => true) = true)
  (hstep : ∀ (L : Nat → Bool) (V : Nat → Value) (w : World) (i : Nat), i < ops.size → L i = false → (∀ j, waits ops i j = true → L j = true) → (∀ i j, waits ops i j = true → L i = true → L j = true) → I L V w → wpOp P ops Q i (fun a' w' => ∃ V', a' = putV ds a V' ∧ I (updL L i) V' w') (putV ds a V) w)
  (hend : ∀ (L : Nat → Bool) (V : Nat → Value) (w : World), (∀ i, i < ops.size → L i = true) → I L V w → Q .normal (putV ds a V) w)
  (V0 : Nat → Value) (h0 : a = putV ds a V0) (h1 : I (fun _ => false) V0 w.drew) : (Code.region id ops true).wp P Q a w := by
 refine zDV (fun listed a' w' => listed.size = ops.size ∧ ∃ V, a' = putV ds a V ∧ I (fun i => listed.getD i false) V w') hm ?_ ?_ ?_
 ·rintro listed a' w' i hcl hi ⟨hsz, r, rfl, hI⟩
  have hun := (mem_ready.1 hi).1
  have hlt : i < ops.size := by
   obtain ⟨_, o, ho, _⟩ := mem_ready.1 hi; exact (Array.getElem?_eq_some_iff.1 ho).1
  refine wpOp_mono ?_ (hstep (fun i => listed.getD i false) r w' i hlt (zAF hun) (fun j hj => ready_waits hi hj) (fun i j hw h => closed_waits hcl hw h) hI); rintro a2 w2 ⟨r2, rfl, h2⟩; refine ⟨by rw [Array.size_setIfInBounds]; exact hsz, r2, rfl, ?_⟩; rw [updL_listed hun]; exact h2
 ·rintro listed a' w' hcl hr ⟨hsz, r, rfl, hI⟩
  refine hend _ r w' ?_ hI; intro i
  induction i using Nat.strongRecOn with
  | _ i ih =>
   intro hi; apply Classical.byContradiction
   intro hn
   have hmem : i ∈ Region.ready .any ops listed := by
    rw [mem_ready]; refine ⟨?_, ops[i], Array.getElem?_eq_getElem hi, fun e he hb => ?_⟩
    ·rw [Array.getD_eq_getD_getElem?, Array.getElem?_eq_getElem (by omega)] at hn ⊢
     simpa using hn
    ·have h1 := List.all_eq_true.1 hc i (List.mem_range.2 hi)
     rw [Array.getElem?_eq_getElem hi] at h1; have h2 := Array.all_eq_true_iff_forall_mem.1 h1 e he; rw [hb] at h2; have h3 : e.on < i := by simpa using h2
     exact ih e.on h3 (by omega)
   rw [hr] at hmem; cases hmem
 ·refine ⟨by simp, V0, h0, ?_⟩
  have e : (fun i => (Array.replicate ops.size false).getD i false) = fun _ => false := by
   funext i
   exact getD_replicate_false ops.size i
  rw [e]; exact h1
def Gl4 (w : World) : Prop := (∃ m : Int, w.cell? ⟨0, 0, none⟩ = some (.int .i64 m)) ∧ 4 ≤ w.heap.size ∧ Lib.TabIs Tryz.prog w "internal/strconv.uint64pow10" .u64 Lib.pow10Tab
theorem Gl4.up {w w' : World} (h : Gl4 w) (hb : Below w.heap.size w w') (h6 : 6 ≤ w'.heap.size) : Gl w' := by
 obtain ⟨⟨m, hm⟩, hz, ht⟩ := h; exact ⟨⟨m, (hb.cell (p := ⟨0, 0, none⟩) (by show 0 < _; omega)).trans hm⟩, h6, var?_below hb (by kernel_rfl : Tryz.prog.globalNamed "internal/strconv.uint64pow10" = some 1) (by omega) ht⟩
set_option maxHeartbeats 800000 in
theorem law9_name (s : List UInt8) (at_ : Int) (W : World) :
  Calls Tryz.prog 13 #[.string ⟨s.toArray⟩, .int .i64 at_] W fun e w' => e = .returned (.agg #[.string ⟨s.toArray⟩, .bool false, .int .i64 0, .int .i64 at_]) ∧ Below W.heap.size W w' := by
 go_enter Tryz.func13, Tryz.ntmps13
 go_wp2_with fail; refine jH (g := W.heap.size) rfl rfl (zE W _) rfl Tryz.underlying45 (by kernel_rfl) rfl ⟨rfl, ?_⟩; exact (Below.refl _ W).alloc (Nat.le_refl _) _
set_option maxHeartbeats 800000 in
theorem law9_lit (s : List UInt8) (at_ : Int) (W : World) :
  Calls Tryz.prog 14 #[.string ⟨s.toArray⟩, .int .i64 at_] W fun e w' => e = .returned (.agg #[.string ⟨s.toArray⟩, .bool true, .int .i64 0, .int .i64 at_]) ∧ Below W.heap.size W w' := by
 go_enter Tryz.func14, Tryz.ntmps14
 go_wp2_with fail; refine jH (g := W.heap.size) rfl rfl (zE W _) rfl Tryz.underlying45 (by kernel_rfl) rfl ⟨rfl, ?_⟩; exact (Below.refl _ W).alloc (Nat.le_refl _) _
set_option maxHeartbeats 800000 in
theorem law9_part (s : List UInt8) (l : Bool) (n at_ : Int) (W : World) :
  Calls Tryz.prog 12 #[.agg #[.string ⟨s.toArray⟩, .bool l, .int .i64 n, .int .i64 at_]] W fun e w' => e = .returned (.agg #[.string ⟨s.toArray⟩, .bool l, .int .i64 n, .int .i64 at_, .string ⟨#[]⟩, .int .i64 at_]) ∧ Below W.heap.size W w' := by
 go_enter Tryz.func12, Tryz.ntmps12
 go_wp2_with fail; refine jH (g := W.heap.size + 1) rfl rfl (xJ W _ _) rfl Tryz.underlying47 (by kernel_rfl) rfl ⟨rfl, ?_⟩; exact ((Below.refl _ W).alloc (Nat.le_refl _) _).alloc (by simp) _
end Go.Proofs.YtddnomjfcbplpaaGreatDoor
