/- An argument that is a source (slices of structs, one within another), opened to the cells that the walks read. A law's own cut of a source, yucca/yuccalaw8.cut: its loops over parts, alternatives, rules. read.reader: what stands while a rule is read; its loop over the alternatives. read.reader: what stands while a declaration is read; its closure. -/
import Derived.Test.YtphdfbmmjkccgaaDoorZ06
import Derived.Test.YtphdfbmmjkccgaaDoorZ01
import Derived.Deep.RegionHeld3
import Derived.Deep.AppendLies
import Derived.Deep.DeepCutAuto
import Derived.Deep.CutBlock
import Derived.Deep.LoopGhost
import Derived.Lib.ItoaLen
import Derived.Test.YtphdfbmmjkccgaaDoorZ02
import Derived.Test.YtphdfbmmjkccgaaDoorZ07
import Derived.Test.YtphdfbmmjkccgaaDoorZ03
import Derived.Test.YtphdfbmmjkccgaaDoorZ10
namespace Go.Proofs.YtphdfbmmjkccgaaDoor
open Go.ChangeShapes Go.WideShapes Go.Deep Go.RowKit

section
variable {H : Type} {enc : TypeId × Value → H} {w : World} {base : Nat} {spare : Nat → Bool} {held : Bool}
/-! ### Alternatives, rules, declarations: a datum beside the value of its slice -/
instance : Inhabited Sp.Sym := ⟨⟨[], false, 0, 0⟩⟩
instance : Inhabited Sp.Part := ⟨⟨default, [], 0⟩⟩
instance : Inhabited Sp.Alt := ⟨⟨[], default, 0⟩⟩
instance : Inhabited Sp.Rule := ⟨⟨[], [], 0⟩⟩
instance : Inhabited Sp.Decl := ⟨⟨0, [], [], 0⟩⟩
instance : Inhabited (Sp.Alt × Value) := ⟨(default, .bool false)⟩
instance : Inhabited (Sp.Rule × Value) := ⟨(default, .bool false)⟩
instance : Inhabited (Sp.Decl × Value) := ⟨(default, .bool false)⟩
end
end Go.Proofs.YtphdfbmmjkccgaaDoor

namespace Go.Proofs.YtphdfbmmjkccgaaDoor
open Go.RowKit

/-- A block of the function's own body, by its number. -/
def findBlock (n : Nat) : Code → Option Code
  | .block i c => if i == n then some (.block i c) else findBlock n c
  | .loop c => findBlock n c
  | .seq a b => match findBlock n a with
    | some c => some c
    | none => findBlock n b
  | .cond _ a b => match findBlock n a with
    | some c => some c
    | none => findBlock n b
  | .scope c => findBlock n c
  | _ => none
end Go.Proofs.YtphdfbmmjkccgaaDoor

namespace Go.Proofs.YtphdfbmmjkccgaaDoor
open Go.RowKit Go.Maps

noncomputable def ruleBlk (n : Nat) : Code := (Tryd.f20.body.bind (findBlock n)).getD .skip
/-- While a rule is read: its box at W's end, its alternatives' row behind W. -/
structure RuleR (B : Nat) (W : World) (m : Nat) (ws : List Sp.Word) (s0 s : Sp.RdS) (u : Sp.Rule) (av : Value) (v : RdV) (X : Nat) (wx : World) : Prop where
  old : ReaderAt B W m ws s0 v
  rd : ReaderAt B wx m ws s v
  fr : BoxFr B W wx
  xbox : wx.heap[X]? = some (.cells (ruleC av u).toArray 37 (0, 0))
  alts : AltsOwn W.heap.size wx av u.alts
  ed : s.decls = s0.decls
  er : s.rules = s0.rules
  ep : s.pro = s0.pro
  es : s.set = s0.set
  len : u.alts.length < s.i
  ge : s0.i < s.i
  xge : W.heap.size ≤ X
section
variable {B : Nat} {W wx w2 wa : World} {m X : Nat} {ws : List Sp.Word} {s0 s s' : Sp.RdS} {u : Sp.Rule} {av : Value} {v : RdV}
theorem RuleR.step (h : RuleR B W m ws s0 s u av v X wx) (hr : ReaderAt B w2 m ws s' v) (hf : BoxFr B wx w2) (e1 : s'.decls = s.decls) (e2 : s'.rules = s.rules) (e3 : s'.pro = s.pro) (e4 : s'.set = s.set) (hi : s.i ≤ s'.i) : RuleR B W m ws s0  s' u av v X w2 :=
  ⟨h.old, hr, h.fr.trans hf, hf.at h.xbox (by unfold BoxT; decide), alts_kp h.alts hf.2 (by unfold BoxT; decide) (by unfold BoxT; decide), e1.trans h.ed, e2.trans h.er, e3.trans h.ep, e4.trans h.es, Nat.lt_of_lt_of_le h.len hi, Nat.lt_of_lt_of_le h.ge hi, h.xge⟩
theorem RuleR.below (h : RuleR B W m ws s0 s u av v X wx) (hb : Below wx.heap.size wx w2) : RuleR B W m ws s0 s u av v X w2 :=
  h.step (h.rd.below hb) (BoxFr.below hb h.rd.size) rfl rfl rfl rfl (Nat.le_refl _)
theorem RuleR.state (h : RuleR B W m ws s0 s u av v X wx) {r : List Sp.Word} {b : Bool} (hr : r = s.ws) (hb : b = s.bad) : ({ s0 with i := s.i, ws := r, bad := b } : Sp.RdS) = s := by
  obtain ⟨i1, w1, b1, p1, d1, r1, t1⟩ := s
  have e1 := h.ed; have e2 := h.er; have e3 := h.ep; have e4 := h.es
  simp only at e1 e2 e3 e4 hr hb
  subst e1 e2 e3 e4 hr hb
  rfl
/-- An alternative more: behind alt's call (w2) and the append (wa) the store. -/
theorem RuleR.push {g n c : Nat} {a : Sp.Alt} {pv : Value} {f : Nat → Value} (h : RuleR B W m ws s0 s u av v X wx) (hr : ReaderAt B w2 m ws s' v) (hf : BoxFr B wx w2) (e1 : s'.decls = s.decls) (e2 : s'.rules = s.rules) (e3 : s'.pro = s.pro) (e4 : s'.set = s.set) (hi : s.i ≤ s'.i) (hl : u.alts.length + 1 < s'.i)
    (hc : ∀ (i : Nat) (a : Sp.Alt), u.alts[i]? = some a → partsOwn w2 (f i) a) (hp : partsOwn w2 pv a)
    (k : Kp (fun b => av.ownBlock ≠ some b) w2 wa) (kt : KpT (fun t => t ≠ 42) w2 wa) (hown : wa.ownsRow W.heap.size 42 6 (.slice (some ⟨g, 0, none⟩) n c) (u.alts.length + 1) ((u.alts.mapIdx fun i a => altC (f i) a).flatten ++ altC pv a)) :
    RuleR B W m ws s0 s' { u with alts := u.alts ++ [a] } (.slice (some ⟨g, 0, none⟩) n c) v X (wa.setCell ⟨X, 1, none⟩ (.slice (some ⟨g, 0, none⟩) n c)) := by
  have h2 := h.step hr hf e1 e2 e3 e4 hi
  have hS : ∀ b, b < W.heap.size → av.ownBlock ≠ some b := fun b hb e => by
    obtain ⟨f', h1, _⟩ := h.alts
    have := (h1.lt b e).1
    omega
  obtain ⟨ha1, ha2⟩ := h.old.kp h2.rd h2.fr k hS h2.ed h2.er
  have hxb := kt _ _ _ _ h2.xbox (by decide)
  have kb : Kp (fun b => b ≠ X) wa (wa.setCell ⟨X, 1, none⟩ (.slice (some ⟨g, 0, none⟩) n c)) := (Kp.refl _ wa).setCell (by simp) _
  have kbt : KpT (fun t => t ≠ 37) wa (wa.setCell ⟨X, 1, none⟩ (.slice (some ⟨g, 0, none⟩) n c)) := KpT.setCell (fun _ _ _ _ h _ => h) hxb (by simp) _
  obtain ⟨hb1, hb2⟩ := h.old.kp ha1 ha2 kb (fun b hb => by have := h.xge; omega) h2.ed h2.er
  have hsn : AltsOwn W.heap.size wa (.slice (some ⟨g, 0, none⟩) n c) (u.alts ++ [a]) := OwnR.snoc (w := w2) hc hown (fun u' a' h' => partsOwn_kp kt (by decide) u' a' h') (partsOwn_kp kt (by decide) _ _ hp)
  refine ⟨h.old, hb1, hb2, ?_, alts_kp hsn kbt (by decide) (by decide), h2.ed, h2.er, h2.ep, h2.es, ?_, h2.ge, h.xge⟩
  · rw [heap_setCell_at hxb]; rfl
  · simp only [List.length_append, List.length_singleton]; omega
/-- How a rule leaves the reader. -/
def RdRulePost (B : Nat) (W : World) (m : Nat) (ws : List Sp.Word) (s : Sp.RdS) (v : RdV) (R : Sp.Rd Sp.Rule) (e : Ending) (w' : World) : Prop :=
  ∃ (j : Nat) (rs : List Sp.Rule) (rv : Value), e = .returned (.tuple #[]) ∧ s.i ≤ j ∧ rs.length ≤ j ∧ (match R with | .ok u _ => rs = s.rules ++ [u] | .bad _ => True) ∧ ReaderAt B w' m ws { s with i := j, ws := R.rest, bad := R.bd, rules := rs } { v with rv := rv } ∧ RdFr B W w'
end
set_option maxRecDepth 100000 in
set_option maxHeartbeats 12800000 in
theorem rule_alts {B F : Nat} {W wm : World} {m X : Nat} {ws : List Sp.Word} {s s1 : Sp.RdS} {v : RdV} {x y : Sp.Word} {l1 : List Sp.Word} {RA : Sp.Rd (List Sp.Alt)}
    (u1 u4 u5 u6 u7 u8 u9 u10 u11 u12 u13 u14 u15 u16 u17 u18 u19 u20 u21 u22 u23 u24 u25 u26 u27 u28 u29 u30 u31 u32 u33 u34 u35 u36 u37 u38 u39 u40 u41 u42 u43 u44 u45 u46 u47 u48 u49 u50 u51 u52 u53 u54 u55 u56 u57 u58 u59 u60 u61 u62 u63 u64 u65 u66 u67 u68 u69 u70 u71 u72 u73 u74 u75 u76 u77 u78 u79 u80 u81 u82 u83 u84 u85 u86 u87 u88 u89 u90 u91 u92 u93 u94 u95 u96 u97 u98 u99 u100 u101 u102 u103 u104 u105 u106 u107 u108 u109 u110 : Value) (K : Act → World → Prop) (Q : Exit → Act → World → Prop)
    (hst : RuleR B W m ws s s1 ⟨x.text, [], x.at_⟩ (.slice none 0 0) v X wm) (hb : s1.bad = false) (hy : s1.ws = y :: l1) (hky : y.kind ≠ 10) (hF : l1.length < F) (hRA : RA = Sp.readAlts F l1 [])
    (hQ : ∀ c (t : Array Value) (a : Act) w, Q (.panic c) ⟨t, a.defers⟩ w → Q (.panic c) a w)
    (hK : ∀ (x3 x44 x45 x46 x47 x48 x49 x50 x51 x52 x53 x54 x55 x56 x57 x58 x59 x60 x61 x62 x63 x64 x65 x66 x67 x68 x69 x70 x71 x72 x73 x74 : Value) (wx : World) (s2 : Sp.RdS) (al : List Sp.Alt) (av : Value), RuleR B W m ws s s2 ⟨x.text, al, x.at_⟩ av v X wx → ((s2.bad = true ∧ RA = .bad s2.ws) ∨ (s2.bad = false ∧ RA = .ok al s2.ws)) → K ⟨#[.pointer (some ⟨m, 0, none⟩), u1, .pointer (some ⟨X, 0, none⟩), x3, u4, u5, u6, u7, u8, u9, u10, u11, u12, u13, u14, u15, u16, u17, u18, u19, u20, u21, u22, u23, u24, u25, u26, u27, u28, u29, u30, u31, u32, u33, u34, u35, u36, u37, u38, u39, u40, u41, u42, u43, x44, x45, x46, x47, x48, x49, x50, x51, x52, x53, x54, x55, x56, x57, x58, x59, x60, x61, x62, x63, x64, x65, x66, x67, x68, x69, x70, x71, x72, x73, x74, u75, u76, u77, u78, u79, u80, u81, u82, u83, u84, u85, u86, u87, u88, u89, u90, u91, u92, u93, u94, u95, u96, u97, u98, u99, u100, u101, u102, u103, u104, u105, u106, u107, u108, u109, u110], []⟩ wx) :
    Code.wp Tryd.prog (ruleBlk 0) (Exit.then K Q) ⟨#[.pointer (some ⟨m, 0, none⟩), u1, .pointer (some ⟨X, 0, none⟩), .bool true, u4, u5, u6, u7, u8, u9, u10, u11, u12, u13, u14, u15, u16, u17, u18, u19, u20, u21, u22, u23, u24, u25, u26, u27, u28, u29, u30, u31, u32, u33, u34, u35, u36, u37, u38, u39, u40, u41, u42, u43, u44, u45, u46, u47, u48, u49, u50, u51, u52, u53, u54, u55, u56, u57, u58, u59, u60, u61, u62, u63, u64, u65, u66, u67, u68, u69, u70, u71, u72, u73, u74, u75, u76, u77, u78, u79, u80, u81, u82, u83, u84, u85, u86, u87, u88, u89, u90, u91, u92, u93, u94, u95, u96, u97, u98, u99, u100, u101, u102, u103, u104, u105, u106, u107, u108, u109, u110], []⟩ wm := by
  have HST5 := Lib.hid hst; have HB5 := Lib.hid hb; have HY := Lib.hid hy; have HKY := Lib.hid hky; have HFL := Lib.hid hF; have HRA := Lib.hid hRA
  clear hst hb hy hky hF hRA
  have HKK := Lib.hid hK
  have hM : ∀ a w, Met K a w → K a w := fun _ _ h => h
  clear hK
  conv => arg 2; whnf
  go_wp2_with fail
  go_loopg [3] (l1.length + 1) (fun q c3 wr => ∃ (more : Bool) (s2 : Sp.RdS) (al : List Sp.Alt) (av : Value), c3 = .bool more ∧ RuleR B W m ws s s2 ⟨x.text, al, x.at_⟩ av v X wr ∧
    ((more = true ∧ s2.bad = false ∧ ∃ (y : Sp.Word) (l1 : List Sp.Word) (f : Nat), s2.ws = y :: l1 ∧ y.kind ≠ 10 ∧ q = l1.length + 1 ∧ l1.length < f ∧ RA = Sp.readAlts f l1 al) ∨
     (more = false ∧ ((s2.bad = true ∧ RA = .bad s2.ws) ∨ (s2.bad = false ∧ RA = .ok al s2.ws)))))
  case atStart => exact ⟨true, _, [], _, rfl, HST5.out, .inl ⟨rfl, HB5.out, y, l1, F, HY.out, HKY.out, rfl, HFL.out, HRA.out⟩⟩
  case round =>
    clear HST5 HB5 HY HKY HFL HRA
    obtain ⟨more, s2, al, av, rfl, hst, hor⟩ := hrel
    have HST := Lib.hid hst
    rcases hor with ⟨rfl, hb2, y2, l2, f, hy2, hky2, rfl, hlf, hRA⟩ | ⟨rfl, hfin⟩
    · obtain ⟨f, rfl⟩ : ∃ f', f = f' + 1 := ⟨f - 1, by omega⟩
      rw [Sp.readAlts_step] at hRA
      have hmb := hst.rd.block
      unfold rdCells at hmb
      rw [hb2] at hmb
      have b1 : wr.cell? ⟨m, 1, none⟩ = some (.int .i64 (s2.i : Int)) := cell_at (i := 1) hmb
      have f1 : wr.frozen? ⟨m, 1, none⟩ = false := frozen_at (i := 1) hmb
      have b2 : wr.cell? ⟨m, 2, none⟩ = some (.bool false) := cell_at (i := 2) hmb
      have lm := lt_at hmb
      have hlt := hst.rd.lt
      have hsm2 := hst.rd.small
      have hw : IntKind.i64.wrap ((s2.i : Int) + 1) = (s2.i : Int) + 1 := IntWalk.i64_in _ ⟨by omega, by omega⟩
      obtain ⟨hs3, hf3⟩ := hst.rd.step hy2 hky2
      have hst3 := hst.step hs3 hf3 rfl rfl rfl rfl (by unfold Sp.RdS.next; simp)
      have hll := hst.len
      simp only at hll
      have HSTN := Lib.hid hst3; have HRF := Lib.hid hRA; have HLF := Lib.hid hlf
      have HWS := Lib.hid (show s2.next.ws = l2 from by unfold Sp.RdS.next; simp only; rw [hy2]; rfl)
      have HB3 := Lib.hid (show s2.next.bad = false from hb2)
      have HLL := Lib.hid (show al.length + 1 < s2.next.i from by unfold Sp.RdS.next; simp only; omega)
      clear hst hmb hs3 hf3 hst3 hRA hlf HST hy2 hb2 hll
      go_upto_region 8 with fail
      clear hw hlt b1 f1 b2 lm
      obtain ⟨w2, hw2⟩ : ∃ w2 : World, w2 = wr.setCell ⟨m, 1, none⟩ (.int .i64 ((s2.i : Int) + 1)) := ⟨_, rfl⟩
      rw [← hw2] at HSTN ⊢
      clear hw2
      obtain ⟨s3, hs3⟩ : ∃ s3 : Sp.RdS, s3 = s2.next := ⟨_, rfl⟩
      rw [← hs3] at HSTN HWS HB3 HLL
      clear hs3
      have HST := HSTN
      have HAL := Lib.hid (fun (w' : World) (hb : Below w2.heap.size w2 w') => (show Calls Tryd.prog 36 #[.pointer (some ⟨m, 0, none⟩)] w' (RdAltPost B w' m ws s3 v (Sp.readAlt l2)) from by
        have hp := reader_alt (HST.out.rd.below hb) HB3.out
        rw [HWS.out] at hp
        exact hp))
      obtain ⟨RR2, hRR2⟩ : ∃ R2, R2 = Sp.readAlt l2 := ⟨_, rfl⟩
      have HLE := Lib.hid (fun (a : Sp.Alt) (r : List Sp.Word) (e : RR2 = .ok a r) => (show r.length ≤ l2.length from by have := Sp.readAlt_le (hRR2.symm.trans e); omega))
      rw [← hRR2] at HAL HRF
      clear hRR2
      obtain ⟨na, hna⟩ : ∃ na, na = al.length := ⟨_, rfl⟩
      obtain ⟨ra, rc, rfl⟩ : ∃ ra rc, av = .slice ra na rc := by
        obtain ⟨f', h1, _⟩ := HST.out.alts
        obtain ⟨ra, rc, e⟩ := ownsRowS_some h1
        exact ⟨ra, rc, by rw [hna]; exact e⟩
      have HNA := Lib.hid hna
      have HNL : Hid (na ≤ 4001) := Lib.hid (by have := HLL.out; have := HST.out.rd.lt; omega)
      have hWle := HST.out.fr.size
      have HSK := Lib.hid (fun (w' : World) (kk : KpT (fun t => t = 37) w2 w') => (show ((w'.cell? ⟨X, 1, none⟩ = some (.slice ra na rc) ∧ w'.frozen? ⟨X, 1, none⟩ = false) ∧ X < w'.heap.size) from by
        have h1 := kk _ _ _ _ HST.out.xbox rfl
        unfold ruleC at h1
        exact ⟨⟨cell_at (i := 1) h1, frozen_at (i := 1) h1⟩, lt_at h1⟩))
      obtain ⟨ip0, hip0, hiz0, hiz1, hiz2⟩ := info_parts info_altE
      clear hna HSTN hsm2
      refine wp_region_plan (fun w' : World => ((w'.cell? ⟨X, 1, none⟩ = some (.slice ra na rc) ∧ w'.frozen? ⟨X, 1, none⟩ = false) ∧ X < w'.heap.size)) [7] (.take 0 (.take 1 (.take 2 (.one 3 (.one 4 (.one 5 (.one 6 (.one 7 (.done))))))))) (by kernel_rfl) (by kernel_rfl) (fun c t a w h => hQ c t a w h) ?_
      have hSw := HSK.out _ (show KpT (fun t => t = 37) w2 (w2.drew) from fun _ _ _ _ h _ => h)
      refine wpPlan_takeD (v := ?va1) rfl rfl hSw (by rfl) ?ya1 ?_
      case ya1 => (intro w hSx; (try dsimp only at hSx); go_simp; first | done | with_reducible rfl | rfl)
      (try simp only [Act.put, List.setIfInBounds_toArray, List.set_cons_zero, List.set_cons_succ])
      refine wpPlan_takeD (v := ?va2) rfl rfl hSw (by rfl) ?ya2 ?_
      case ya2 => (intro w hSx; (try dsimp only at hSx); go_simp; first | done | with_reducible rfl | rfl)
      (try simp only [Act.put, List.setIfInBounds_toArray, List.set_cons_zero, List.set_cons_succ])
      refine wpPlan_takeD (v := ?va3) rfl rfl hSw (by rfl) ?ya3 ?_
      case ya3 => (intro w hSx; (try dsimp only at hSx); go_simp; first | done | with_reducible rfl | rfl)
      (try simp only [Act.put, List.setIfInBounds_toArray, List.set_cons_zero, List.set_cons_succ])
      refine wpPlan_run rfl (by rfl) (fun K' hK => ?_)
      (go_simp; go_at_call 36; refine (HAL.out _ (below_drewN (Below.refl _ w2) 1)).mono ?_; rintro e w3 ⟨a, pv, j, rfl, hrow3, his, hij, h3, hf3'⟩; have hf3 : BoxFr B w2 w3 := ⟨below_undrew hf3'.1, hf3'.2⟩; obtain ⟨aps, ⟨qn, ql, qu, qa⟩, ap⟩ := a; obtain ⟨ra2, rc2, hpv2⟩ := ownsRowS_some hrow3; obtain ⟨np2, hnp2⟩ : ∃ np2, np2 = aps.length := ⟨_, rfl⟩; simp only at hpv2 hrow3 his h3; rw [← hnp2] at hpv2 hrow3; subst hpv2; have H3 := Lib.hid h3; have HF3 := Lib.hid hf3; have HIS := Lib.hid his; have HIJ := Lib.hid hij; have HN2 := Lib.hid hnp2; have HROW := Lib.hid hrow3; have hk3 : KpT (fun t => t = 37) w2 w3 := hf3.2.mono (fun t ht => by subst ht; unfold BoxT; decide); have halts3 := alts_kp HST.out.alts hf3.2 (by unfold BoxT; decide) (by unfold BoxT; decide); obtain ⟨fa, ha1, ha2⟩ := halts3; simp only at ha1 ha2; rw [← HNA.out] at ha1; have HA2 := Lib.hid ha2; have hsz3 := hf3.size; clear hf3' h3 hf3 his hij hnp2 hrow3 ha2)
      refine hK _ _ (.inr ?_) ?_
      · exact HSK.out _ hk3
      clear hK K' hSw
      (try simp only [Act.put, List.setIfInBounds_toArray, List.set_cons_zero, List.set_cons_succ])
      refine wpPlan_run rfl (by rfl) (fun K' hK => ?_)
      go_simp
      refine hK _ _ (.inr ?_) ?_
      · exact HSK.out _ (hk3.alloc (.cells #[.slice ra2 np2 rc2, .string ⟨qn.toArray⟩, .bool ql, .int .i64 qu, .int .i64 qa, .int .i64 ap] 42))
      clear hK K'
      (try simp only [Act.put, List.setIfInBounds_toArray, List.set_cons_zero, List.set_cons_succ])
      refine wpPlan_run rfl (by rfl) (fun K' hK => ?_)
      (refine wp_append_lies _ _ _ _ (by rfl) W.heap.size 42 ip0 _ 6 72 Tryd.underlying35 hip0 hiz0 hiz1 hiz2 rfl (by decide) _ _ _ (by rfl) (ha1.alloc _) ⟨w3.heap.size, 0, none⟩ 1 1 (altC (.slice ra2 np2 rc2) ⟨aps, ⟨qn, ql, qu, qa⟩, ap⟩) (by rfl) (by rfl) (World.news_of_block (cs := #[.slice ra2 np2 rc2, .string ⟨qn.toArray⟩, .bool ql, .int .i64 qu, .int .i64 qa, .int .i64 ap]) (t := 42) (fr := (0, 0)) (heap_last w3 _)) (by simp [Value.oneCell', altC, symC]) (by decide) (by have := HNL.out; unfold maxLen; omega) (by have := HNL.out; omega) (by show W.heap.size ≤ (w3.alloc (.cells #[.slice ra2 np2 rc2, .string ⟨qn.toArray⟩, .bool ql, .int .i64 qu, .int .i64 qa, .int .i64 ap] 42)).heap.size; simp only [World.size_alloc]; omega) _ rfl ?_; intro g1 c1 w5 hown1 hgrow1 hat1 hlt1; replace hgrow1 : (w3.alloc (.cells #[.slice ra2 np2 rc2, .string ⟨qn.toArray⟩, .bool ql, .int .i64 qu, .int .i64 qa, .int .i64 ap] 42)).grownBy w5 (Value.slice ra na rc).ownBlock := ⟨hgrow1.os, hgrow1.tape, hgrow1.output, hgrow1.size, hgrow1.block⟩; have hk5 : Kp (fun b => (Value.slice ra na rc).ownBlock ≠ some b) w3 w5 := ((Kp.refl _ w3).alloc (.cells #[.slice ra2 np2 rc2, .string ⟨qn.toArray⟩, .bool ql, .int .i64 qu, .int .i64 qa, .int .i64 ap] 42)).grown hgrow1 (fun k hk hs => hs hk); have kt5 : KpT (fun t => t ≠ 42) w3 w5 := (KpT.below ((Below.refl _ w3).alloc (Nat.le_refl _) (.cells #[.slice ra2 np2 rc2, .string ⟨qn.toArray⟩, .bool ql, .int .i64 qu, .int .i64 qa, .int .i64 ap] 42))).trans (KpT.grown (ha1.alloc _) hgrow1))
      refine hK _ _ (.inr ?_) ?_
      · exact HSK.out _ (hk3.trans (kt5.mono (fun t ht => by subst ht; decide)))
      clear hK K'
      (try simp only [Act.put, List.setIfInBounds_toArray, List.set_cons_zero, List.set_cons_succ])
      refine wpPlan_run rfl (by rfl) (fun K' hK => ?_)
      go_simp
      refine hK _ _ (.inr ?_) ?_
      · exact HSK.out _ (hk3.trans (kt5.mono (fun t ht => by subst ht; decide)))
      clear hK K'
      (try simp only [Act.put, List.setIfInBounds_toArray, List.set_cons_zero, List.set_cons_succ])
      refine wpPlan_run rfl (by rfl) (fun K' hK => ?_)
      (obtain ⟨⟨z1, z2⟩, hlz⟩ := HSK.out _ (hk3.trans (kt5.mono (fun t ht => by subst ht; decide))); go_simp)
      refine hK _ _ (.inl rfl) ?_
      clear hK K'
      (try simp only [Act.put, List.setIfInBounds_toArray, List.set_cons_zero, List.set_cons_succ])
      refine wpPlan_done ?_
      have hst6 := HST.out.push (a := ⟨aps, ⟨qn, ql, qu, qa⟩, ap⟩) (pv := .slice ra2 np2 rc2) (f := fa) H3.out HF3.out rfl rfl rfl rfl HIJ.out (by have := HLL.out; have := HIJ.out; simp only; omega) HA2.out ⟨_, by rw [← HN2.out]; exact HROW.out⟩ hk5 kt5 (by simp only; rw [← HNA.out]; exact hown1)
      obtain ⟨w6, hw6⟩ : ∃ w6 : World, w6 = w5.setCell ⟨X, 1, none⟩ (.slice (some ⟨g1, 0, none⟩) (na + 1) c1) := ⟨_, rfl⟩
      rw [← hw6] at hst6 ⊢
      have HST6 := Lib.hid hst6
      clear hw6 hst6 hown1 hk5 kt5 hat1 hgrow1 hlt1 ha1 hk3 z1 z2 hlz HSK HAL
      have hmb := HST6.out.rd.block
      unfold rdCells at hmb
      have b2 : w6.cell? ⟨m, 2, none⟩ = some (.bool RR2.bd) := cell_at (i := 2) hmb
      have lm := lt_at hmb
      clear hmb
      cases RR2 with
      | bad r =>
        have hbd : (Sp.Rd.bad r : Sp.Rd Sp.Alt).bd = true := rfl
        rw [hbd] at b2
        clear hbd
        go_wp2_with fail
        go_roundg 0
        case measure => omega
        case rel => exact ⟨false, _, _, _, rfl, HST6.out, .inr ⟨rfl, .inl ⟨rfl, HRF.out⟩⟩⟩
      | ok a r =>
        have hbd : (Sp.Rd.ok a r : Sp.Rd Sp.Alt).bd = false := rfl
        rw [hbd] at b2
        clear hbd
        have hae : ⟨aps, ⟨qn, ql, qu, qa⟩, ap⟩ = a := HIS.out
        have HIS2 := Lib.hid (reader_is 6 [124] HST6.out.rd)
        have hrs : (Sp.Rd.ok a r : Sp.Rd Sp.Alt).rest = r := rfl
        simp only [hrs] at HIS2
        have HLR := Lib.hid (HLE.out a r rfl); have HAE := Lib.hid hae
        have HBL := Lib.hid (fun n => HST6.out.below (below_drewN (Below.refl _ w6) n))
        clear hae hrs HLE HIS
        cases hr2 : Sp.isW 6 [124] r with
        | true =>
          obtain ⟨y3, l3, hy3⟩ := (show Sp.WEnd r from HST6.out.rd.ends).cons
          have hk3 : y3.kind ≠ 10 := by rw [hy3] at hr2; exact Sp.isW_ten hr2 (by decide)
          have hRF := HRF.out
          simp only [hr2, if_true] at hRF
          rw [hy3] at hRF
          have HRG := Lib.hid hRF; have HY3 := Lib.hid hy3; have HK3 := Lib.hid hk3
          rw [hr2] at HIS2
          clear hRF HRF hy3 hk3 hr2
          go_wp2_with fail
          refine HIS2.out.mono ?_
          rintro e w' ⟨rfl, n, rfl⟩
          go_wp2_with fail
          go_roundg (l3.length + 1)
          case measure => have := HLR.out; rw [HY3.out] at this; simp only [List.length_cons] at this; omega
          case rel => exact ⟨true, _, _, _, rfl, HBL.out n, .inl ⟨rfl, rfl, y3, l3, f, HY3.out, HK3.out, rfl, by have := HLR.out; have := HLF.out; rw [HY3.out] at *; simp only [List.length_cons] at *; omega, by rw [HAE.out]; exact HRG.out⟩⟩
        | false =>
          have hRF := HRF.out
          simp only [hr2, Bool.false_eq_true, if_false] at hRF
          have HRG := Lib.hid hRF
          rw [hr2] at HIS2
          clear hRF HRF hr2
          go_wp2_with fail
          refine HIS2.out.mono ?_
          rintro e w' ⟨rfl, n, rfl⟩
          go_wp2_with fail
          go_roundg 0
          case measure => omega
          case rel => exact ⟨false, _, _, _, rfl, HBL.out n, .inr ⟨rfl, .inr ⟨rfl, by rw [HAE.out]; exact HRG.out⟩⟩⟩
    · have HFIN := Lib.hid hfin
      clear hst hfin
      go_wp2_with fail
      exact HKK.out _ _ _ _ _ _ _ _ _ _ _ _ _ _ _ _ _ _ _ _ _ _ _ _ _ _ _ _ _ _ _ _ _ s2 al av HST.out HFIN.out
end Go.Proofs.YtphdfbmmjkccgaaDoor

namespace Go.Proofs.YtphdfbmmjkccgaaDoor
open Go.RowKit Go.Maps

/-- While a declaration is read: the reader's own box (that the closure holds) at W's end, the declaration's at D, its symbols' row behind W. -/
structure DeclR (B : Nat) (W : World) (m : Nat) (ws : List Sp.Word) (s0 s : Sp.RdS) (d : Sp.Decl) (sv : Value) (v : RdV) (D : Nat) (wx : World) : Prop where
  old : ReaderAt B W m ws s0 v
  rd : ReaderAt B wx m ws s v
  fr : BoxFr B W wx
  rbox : wx.heap[W.heap.size]? = some (.cells #[.pointer (some ⟨m, 0, none⟩)] 72 (0, 0))
  dbox : wx.heap[D]? = some (.cells (declC sv d).toArray 51 (0, 0))
  row : wx.ownsRow W.heap.size 40 4 sv d.syms.length (d.syms.map symC).flatten
  ed : s.decls = s0.decls
  er : s.rules = s0.rules
  ep : s.pro = s0.pro
  es : s.set = s0.set
  len : d.syms.length < s.i
  ge : s0.i ≤ s.i
  dge : W.heap.size < D
section
variable {B : Nat} {W wx w2 wa : World} {m D : Nat} {ws : List Sp.Word} {s0 s s' : Sp.RdS} {d d' : Sp.Decl} {sv : Value} {v : RdV}
theorem DeclR.step (h : DeclR B W m ws s0 s d sv v D wx) (hr : ReaderAt B w2 m ws s' v) (hf : BoxFr B wx w2) (e1 : s'.decls = s.decls) (e2 : s'.rules = s.rules) (e3 : s'.pro = s.pro) (e4 : s'.set = s.set) (hi : s.i ≤ s'.i) : DeclR B W m ws s0 s' d sv v D w2 :=
  ⟨h.old, hr, h.fr.trans hf, hf.at h.rbox (by unfold BoxT; decide), hf.at h.dbox (by unfold BoxT; decide), ownsRow_kpT h.row hf.2 (by unfold BoxT; decide), e1.trans h.ed, e2.trans h.er, e3.trans h.ep, e4.trans h.es, Nat.lt_of_lt_of_le h.len hi, Nat.le_trans h.ge hi, h.dge⟩
theorem DeclR.below (h : DeclR B W m ws s0 s d sv v D wx) (hb : Below wx.heap.size wx w2) : DeclR B W m ws s0 s d sv v D w2 :=
  h.step (h.rd.below hb) (BoxFr.below hb h.rd.size) rfl rfl rfl rfl (Nat.le_refl _)
theorem DeclR.state (h : DeclR B W m ws s0 s d sv v D wx) {r : List Sp.Word} {b : Bool} (hr : r = s.ws) (hb : b = s.bad) : ({ s0 with i := s.i, ws := r, bad := b } : Sp.RdS) = s := by
  obtain ⟨i1, w1, b1, p1, d1, r1, t1⟩ := s
  have e1 := h.ed; have e2 := h.er; have e3 := h.ep; have e4 := h.es
  simp only at e1 e2 e3 e4 hr hb
  subst e1 e2 e3 e4 hr hb
  rfl
/-- A cell of the declaration's box is written. -/
theorem DeclR.set (h : DeclR B W m ws s0 s d sv v D wx) (i : Nat) (u : Value) (e : (declC sv d).toArray.setIfInBounds i u = (declC sv d').toArray) (es : d'.syms = d.syms) : DeclR B W m ws s0 s d' sv v D (wx.setCell ⟨D, i, none⟩ u) := by
  have kb : Kp (fun b => b ≠ D) wx (wx.setCell ⟨D, i, none⟩ u) := (Kp.refl _ wx).setCell (by simp) _
  have kt : KpT (fun t => t ≠ 51) wx (wx.setCell ⟨D, i, none⟩ u) := KpT.setCell (fun _ _ _ _ h _ => h) h.dbox (by simp) _
  have hd := h.dge
  obtain ⟨h1, h2⟩ := h.old.kp h.rd h.fr kb (fun b hb => by omega) h.ed h.er
  exact ⟨h.old, h1, h2, kb.at h.rbox (by omega), by rw [heap_setCell_at h.dbox, e], by rw [es]; exact ownsRow_kpT h.row kt (by decide), h.ed, h.er, h.ep, h.es, by rw [es]; exact h.len, h.ge, h.dge⟩
/-- Another block behind W's end is changed. -/
theorem DeclR.aside {S : Nat} (h : DeclR B W m ws s0 s d sv v D wx) (k : Kp (fun b => b ≠ S) wx wa) (h1 : W.heap.size < S) (h2 : S ≠ D) (h3 : sv.ownBlock ≠ some S) : DeclR B W m ws s0 s d sv v D wa := by
  obtain ⟨ha1, ha2⟩ := h.old.kp h.rd h.fr k (fun b hb => by omega) h.ed h.er
  exact ⟨h.old, ha1, ha2, k.at h.rbox (by omega), k.at h.dbox (fun e => h2 e.symm), ownsRow_kp h.row k (fun b hb e => h3 (e ▸ hb)), h.ed, h.er, h.ep, h.es, h.len, h.ge, h.dge⟩
/-- A symbol more: behind the append (wa) the store. -/
theorem DeclR.push {g n c : Nat} {q : Sp.Sym} (h : DeclR B W m ws s0 s d sv v D wx) (hl : d.syms.length + 1 < s.i)
    (k : Kp (fun b => sv.ownBlock ≠ some b) wx wa) (kt : KpT (fun t => t ≠ 40) wx wa) (hown : wa.ownsRow W.heap.size 40 4 (.slice (some ⟨g, 0, none⟩) n c) (d.syms.length + 1) ((d.syms.map symC).flatten ++ symC q)) :
    DeclR B W m ws s0 s { d with syms := d.syms ++ [q] } (.slice (some ⟨g, 0, none⟩) n c) v D (wa.setCell ⟨D, 2, none⟩ (.slice (some ⟨g, 0, none⟩) n c)) := by
  have hS : ∀ b, b < W.heap.size → sv.ownBlock ≠ some b := fun b hb e => by have := (h.row.lt b e).1; omega
  obtain ⟨ha1, ha2⟩ := h.old.kp h.rd h.fr k hS h.ed h.er
  have hdb := kt _ _ _ _ h.dbox (by decide)
  have hrb := kt _ _ _ _ h.rbox (by decide)
  have hd := h.dge
  have kb : Kp (fun b => b ≠ D) wa (wa.setCell ⟨D, 2, none⟩ (.slice (some ⟨g, 0, none⟩) n c)) := (Kp.refl _ wa).setCell (by simp) _
  have kbt : KpT (fun t => t ≠ 51) wa (wa.setCell ⟨D, 2, none⟩ (.slice (some ⟨g, 0, none⟩) n c)) := KpT.setCell (fun _ _ _ _ h _ => h) hdb (by simp) _
  obtain ⟨hb1, hb2⟩ := h.old.kp ha1 ha2 kb (fun b hb => by omega) h.ed h.er
  refine ⟨h.old, hb1, hb2, kb.at hrb (by omega), ?_, ?_, h.ed, h.er, h.ep, h.es, ?_, h.ge, h.dge⟩
  · rw [heap_setCell_at hdb]; rfl
  · simp only [List.length_append, List.length_singleton, List.map_append, List.map_cons, List.map_nil, List.flatten_append, List.flatten_cons, List.flatten_nil, List.append_nil]
    exact ownsRow_kpT hown kbt (by decide)
  · simp only [List.length_append, List.length_singleton]; omega
/-- How a declaration leaves the reader. -/
def RdDeclPost (B : Nat) (W : World) (m : Nat) (ws : List Sp.Word) (s : Sp.RdS) (v : RdV) (R : Sp.Rd Sp.Decl) (e : Ending) (w' : World) : Prop :=
  ∃ (j : Nat) (ds : List Sp.Decl) (dv : Value), e = .returned (.tuple #[]) ∧ s.i < j ∧ ds.length ≤ j ∧ (match R with | .ok d _ => ds = s.decls ++ [d] | .bad _ => True) ∧ ReaderAt B w' m ws { s with i := j, ws := R.rest, bad := R.bd, decls := ds } { v with dv := dv } ∧ RdFr B W w'
set_option maxHeartbeats 1600000 in
/-- May a symbol stand there? -/
theorem decl_may (h : DeclR B W m ws s0 s d sv v D wx) :
    Calls Tryd.prog 63 #[.pointer (some ⟨W.heap.size, 0, none⟩), .pointer (some ⟨D, 0, none⟩)] wx fun e w' => e = .returned (.bool (Sp.symHere d.kind s.ws)) ∧ ∃ n, w' = wx.drewN n := by
  have H1 := Lib.hid (reader_is 1 [] h.rd)
  have H2 := Lib.hid (fun n => reader_is 2 [] (h.rd.below (below_drewN (Below.refl _ wx) n)))
  have hrb := h.rbox; have hdb := h.dbox
  have r0 : wx.cell? ⟨W.heap.size, 0, none⟩ = some (.pointer (some ⟨m, 0, none⟩)) := cell_at (i := 0) hrb
  have d0 : wx.cell? ⟨D, 0, none⟩ = some (.int .i64 d.kind) := cell_at (i := 0) hdb
  have lr := lt_at hrb; have ld := lt_at hdb
  have HE := Lib.hid (show Sp.symHere d.kind s.ws = (Sp.isW 1 [] s.ws || (Sp.isW 2 [] s.ws && (d.kind != 5))) from rfl)
  rw [HE.out]
  clear HE h hrb hdb
  generalize Sp.isW 1 [] s.ws = b1 at *
  generalize Sp.isW 2 [] s.ws = b2 at *
  generalize d.kind = k at *
  by_cases hk : k = 5
  · subst hk
    go_enter Tryd.func63, Tryd.ntmps63
    go_wp2_with fail
    refine H1.out.mono ?_
    rintro e w' ⟨rfl, n1, rfl⟩
    cases b1
    · go_wp2_with fail
      refine (H2.out _).mono ?_
      rintro e w' ⟨rfl, n2, rfl⟩
      cases b2
      all_goals
        go_wp2_with fail
        go_ret
        exact ⟨ret_bool (by simp), _, rfl⟩
    · go_wp2_with fail
      go_ret
      exact ⟨ret_bool (by simp), _, rfl⟩
  · have hkb : (k != 5) = true := by rw [bne_iff_ne]; exact hk
    have hkd : decide (k = 5) = false := decide_eq_false hk
    have hke : (k == 5) = false := by rw [beq_eq_false_iff_ne]; exact hk
    go_enter Tryd.func63, Tryd.ntmps63
    go_wp2_with fail
    refine H1.out.mono ?_
    rintro e w' ⟨rfl, n1, rfl⟩
    cases b1
    · go_wp2_with fail
      refine (H2.out _).mono ?_
      rintro e w' ⟨rfl, n2, rfl⟩
      cases b2
      all_goals
        go_wp2_with fail
        go_ret
        exact ⟨ret_bool (by simp [hkb]), _, rfl⟩
    · go_wp2_with fail
      go_ret
      exact ⟨ret_bool (by simp), _, rfl⟩
end
end Go.Proofs.YtphdfbmmjkccgaaDoor
