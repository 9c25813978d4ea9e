/- Sources that the statements of layer 9 make: their box, their rows, as they grow. The walk of EqProds (yuccaref0) at two lists that are the same; the rest of a list of productions. Plain laws of gram.Of about %start (start_law), and at the sources that yuccalaw0.Source makes (made_law). -/
import Derived.Test.YthmimcegiihcnaaDoorZ26
import Derived.Test.YthmimcegiihcnaaDoorZ24
import Derived.Test.YthmimcegiihcnaaDoorZ23
import Derived.Test.YthmimcegiihcnaaDoorZ05
namespace Go.Proofs.YthmimcegiihcnaaDoor
open Go.RowKit Go.Maps

set_option maxHeartbeats 1600000 in
theorem ref_Within9 (i : Int) (n : Nat) (w : World) (hn : 0 < n) (hb : n ≤ 60000) (hi : (Lit.int .i64 i).wf = true) :
    Calls Tryd.prog 23 #[.int .i64 i, .int .i64 n] w fun e w' => e = .returned (.int .i64 (i % (n : Int))) ∧ w = w' := by
  have h1 := Int.tmod_lt_of_pos i (b := (n : Int)) (by omega)
  have h2 : -(n : Int) < i.tmod n := by
    by_cases hi : 0 ≤ i
    · have := Int.tmod_nonneg (n : Int) hi; omega
    · have := Int.tmod_lt_of_pos (-i) (b := (n : Int)) (by omega)
      rw [Int.neg_tmod] at this; omega
  have h3 : i % (n : Int) = if i.tmod n < 0 then i.tmod n + n else i.tmod n := by
    have e1 := Int.mul_tdiv_add_tmod i n
    split
    · refine Int.emod_eq_of_lt (a := i.tmod n + n) (b := (n : Int)) (by omega) (by omega) ▸ ?_
      conv => lhs; rw [← e1]
      rw [Int.mul_add_emod_self_left, Int.add_emod_right]
    · refine Int.emod_eq_of_lt (a := i.tmod n) (b := (n : Int)) (by omega) (by omega) ▸ ?_
      conv => lhs; rw [← e1]
      rw [Int.mul_add_emod_self_left]
  generalize i % (n : Int) = N at *
  have HN := Lib.hid h3
  clear h3
  go_enter Tryd.func23, Tryd.ntmps23
  go_wp2
  all_goals (go_ret; have h3 := HN.out; refine ⟨ret_int ?_, rfl⟩)
  · rw [if_pos (by omega)] at h3
    rw [h3]
  · rw [if_neg (by omega)] at h3
    rw [h3]

theorem owns_block {w : World} {b B size n : Nat} {e : TypeId} {cs : Array Value} (h : w.heap[b]? = some (.cells cs e (0, 0))) (hb : B ≤ b) (hl : cs.size = n * size) (hm : n ≤ maxLen) : w.ownsRow B e size (.slice (some ⟨b, 0, none⟩) n n) n cs.toList :=
  ⟨by simpa using hl, .inr ⟨b, n, cs, rfl, hb, h, Nat.le_refl _, hm, hl, List.take_of_length_le (by rw [Array.length_toList, hl]; exact Nat.le_refl _)⟩⟩
/-- The source as it is made: its box, its one rule, its one alternative, the parts. -/
structure PassSt (B : Nat) (w : World) (bs br ba : Nat) (dv pv : Value) (ds : List Sp.Decl) (ps : List Sp.Part) : Prop where
  src : w.heap[bs]? = some (.cells #[.string ⟨#[]⟩, dv, .slice (some ⟨br, 0, none⟩) 1 1, .string ⟨#[]⟩] 29 (0, 0))
  rule : w.heap[br]? = some (.cells #[.string ⟨#[97]⟩, .slice (some ⟨ba, 0, none⟩) 1 1, .int .i64 0] 52 (0, 0))
  alt : w.heap[ba]? = some (.cells #[pv, .string ⟨#[]⟩, .bool false, .int .i64 0, .int .i64 0, .int .i64 0] 49 (0, 0))
  parts : w.ownsRow B 46 6 pv ps.length (ps.map partC).flatten
  decls : DeclsOwn B w dv ds
  ge : B ≤ bs ∧ B ≤ br ∧ B ≤ ba
theorem PassSt.rules {B : Nat} {w : World} {bs br ba : Nat} {dv pv : Value} {ds : List Sp.Decl} {ps : List Sp.Part} (h : PassSt B w bs br ba dv pv ds ps) :
    RulesOwn B w (.slice (some ⟨br, 0, none⟩) 1 1) [⟨[97], [⟨ps, ⟨[], false, 0, 0⟩, 0⟩], 0⟩] := by
  refine ⟨fun _ => .slice (some ⟨ba, 0, none⟩) 1 1, owns_block h.rule h.ge.2.1 rfl (by decide), fun i r hr => ?_⟩
  obtain ⟨rfl, rfl⟩ := one_at hr
  refine ⟨B, fun _ => pv, owns_block h.alt h.ge.2.2 rfl (by decide), fun i a ha => ?_⟩
  obtain ⟨rfl, rfl⟩ := one_at ha
  exact ⟨B, h.parts⟩
/-- The source, its rows. -/
structure PassS2 (B : Nat) (w : World) (bs : Nat) (dv rv : Value) (ds : List Sp.Decl) (rs : List Sp.Rule) : Prop where
  src : w.heap[bs]? = some (.cells #[.string ⟨#[]⟩, dv, rv, .string ⟨#[]⟩] 29 (0, 0))
  decls : DeclsOwn B w dv ds
  rules : RulesOwn B w rv rs
  ge : B ≤ bs
theorem PassSt.two {B : Nat} {w : World} {bs br ba : Nat} {dv pv : Value} {ds : List Sp.Decl} {ps : List Sp.Part} (h : PassSt B w bs br ba dv pv ds ps) : PassS2 B w bs dv (.slice (some ⟨br, 0, none⟩) 1 1) ds [⟨[97], [⟨ps, ⟨[], false, 0, 0⟩, 0⟩], 0⟩] := ⟨h.src, h.decls, h.rules, h.ge.1⟩
end Go.Proofs.YthmimcegiihcnaaDoor

namespace Go.Proofs.YthmimcegiihcnaaDoor
open Go.RowKit Go.Maps

theorem eqInts_same (v1 v2 : Value) (l : List Int) (w : World) (h1 : IntsAt w v1 l) (h2 : IntsAt w v2 l) (hl : l.length < 4294967281) :
    Calls Tryd.prog 30 #[v1, v2] w fun e w' => e = .returned (.bool true) ∧ ∃ n, w' = w.drewN n :=
  (ref_EqInts v1 v2 l l w h1 h2 hl hl).mono fun _ _ ⟨he, hw⟩ => ⟨by rw [he]; simp, hw⟩
theorem ProdsAt.tail {w : World} {a : Option Addr} {n cap : Nat} {p : Sp.Prod} {ps : List Sp.Prod} (h : ProdsAt w (.slice a n cap) (p :: ps)) (hne : ps ≠ []) : ∃ b off, a = some ⟨b, off, none⟩ ∧ b < w.heap.size ∧ n = ps.length + 1 ∧ ProdsAt w (.slice (some ⟨b, off + 6, none⟩) ps.length (cap - 1)) ps := by
  obtain ⟨f, g, h1, h2⟩ := h
  rcases h1 with ⟨hx, _⟩ | ⟨b, off, cap', hv, hlt, hc⟩
  · simp at hx
  · simp only [Value.slice.injEq, List.length_mapIdx, List.length_cons] at hv
    obtain ⟨rfl, rfl, rfl⟩ := hv
    refine ⟨b, off, rfl, hlt, rfl, fun i => f (i + 1), fun i => g (i + 1), .inr ⟨b, off + 6, cap - 1, by rw [List.length_mapIdx], hlt, ?_⟩, fun i q hq => h2 (i + 1) q (by simpa using hq)⟩
    intro i r hr j u hu
    have h := hc (i + 1) r (by
      rw [List.getElem?_mapIdx] at hr ⊢
      rw [List.getElem?_cons_succ]
      exact hr) j u hu
    rw [show off + 6 + i * 6 + j = off + (i + 1) * 6 + j by omega]
    exact h
set_option maxRecDepth 100000 in
set_option maxHeartbeats 6400000 in
theorem ref_EqProds_same (v1 v2 : Value) (ps : List Sp.Prod) (w : World) (h1 : ProdsAt w v1 ps) (h2 : ProdsAt w v2 ps) (hl : ps.length < 4294967281) (hr : ∀ p ∈ ps, p.right.length < 4294967281 ∧ p.args.length < 4294967281) :
    Calls Tryd.prog 33 #[v1, v2] w fun e w' => e = .returned (.bool true) ∧ ∃ n, w' = w.drewN n := by
  obtain ⟨f, g, s1, q1⟩ := h1
  obtain ⟨f', g', s2, q2⟩ := h2
  obtain ⟨a1, c1, rfl⟩ := s1.form
  obtain ⟨a2, c2, rfl⟩ := s2.form
  rw [List.length_mapIdx] at s1 s2
  rw [List.length_mapIdx, List.length_mapIdx]
  have S1 := Lib.hid s1; have S2 := Lib.hid s2; have Q1 := Lib.hid q1; have Q2 := Lib.hid q2; have HR := Lib.hid hr
  clear s1 s2 q1 q2 hr
  go_enter Tryd.func33, Tryd.ntmps33
  go_wp2_with fail
  go_loopg [5] ps.length (fun q iv wr => ∃ k nn : Nat, k ≤ ps.length ∧ q = ps.length - k ∧ iv = .int .i64 k ∧ wr = w.drewN nn)
  case atStart => exact ⟨0, 0, by omega, rfl, rfl, rfl⟩
  case round =>
    obtain ⟨k, nn, hk, rfl, rfl, rfl⟩ := hrel
    by_cases hkn : k < ps.length
    · obtain ⟨p, hp⟩ : ∃ p, ps[k]? = some p := ⟨_, List.getElem?_eq_getElem hkn⟩
      obtain ⟨b1, o1, rfl, hb1, t1⟩ := S1.out.at (k := k) (row := prodC (f k) (g k) p) (by rw [List.getElem?_mapIdx, hp]; rfl)
      obtain ⟨b2, o2, rfl, hb2, t2⟩ := S2.out.at (k := k) (row := prodC (f' k) (g' k) p) (by rw [List.getElem?_mapIdx, hp]; rfl)
      obtain ⟨r1, x1⟩ := Q1.out k p hp
      obtain ⟨r2, x2⟩ := Q2.out k p hp
      obtain ⟨hl1, hl2⟩ := HR.out p (List.mem_of_getElem? hp)
      have HRR : Hid (∀ m, Calls Tryd.prog 30 #[f k, f' k] ((w.drewN nn).drewN m) fun e w' => e = .returned (.bool true) ∧ ∃ n, w' = ((w.drewN nn).drewN m).drewN n) := Lib.hid (fun m => eqInts_same _ _ p.right _ r1 r2 hl1)
      have HXX : Hid (∀ m, Calls Tryd.prog 30 #[g k, g' k] ((w.drewN nn).drewN m) fun e w' => e = .returned (.bool true) ∧ ∃ n, w' = ((w.drewN nn).drewN m).drewN n) := Lib.hid (fun m => eqInts_same _ _ p.args _ x1 x2 hl2)
      have hbd : Below w.heap.size w (w.drewN nn) := below_drewN (Below.refl _ _) _
      have u0 := t1 _ hbd 0 _ rfl; have u1 := t1 _ hbd 1 _ rfl; have u2 := t1 _ hbd 2 _ rfl; have u3 := t1 _ hbd 3 _ rfl; have u4 := t1 _ hbd 4 _ rfl; have u5 := t1 _ hbd 5 _ rfl
      have z0 := t2 _ hbd 0 _ rfl; have z1 := t2 _ hbd 1 _ rfl; have z2 := t2 _ hbd 2 _ rfl; have z3 := t2 _ hbd 3 _ rfl; have z4 := t2 _ hbd 4 _ rfl; have z5 := t2 _ hbd 5 _ rfl
      obtain ⟨ra, rc, hra⟩ := r1.form; obtain ⟨rb, rd, hrb⟩ := r2.form
      obtain ⟨xa, xc, hxa⟩ := x1.form; obtain ⟨xb, xd, hxb⟩ := x2.form
      rw [List.length_map] at hra hrb hxa hxb
      rw [hra] at u1 HRR; rw [hrb] at z1 HRR; rw [hxa] at u4 HXX; rw [hxb] at z4 HXX
      have hbb1 : b1 < (w.drewN nn).heap.size := hb1
      have hbb2 : b2 < (w.drewN nn).heap.size := hb2
      obtain ⟨wo, hwo⟩ : ∃ wo, wo = w.drewN nn := ⟨_, rfl⟩
      rw [← hwo] at u0 u1 u2 u3 u4 u5 z0 z1 z2 z3 z4 z5 HRR HXX hbb1 hbb2 ⊢
      have HWO := Lib.hid hwo
      simp only [Nat.add_zero] at u0 z0
      clear t1 t2 hp r1 r2 x1 x2 hl1 hl2 hra hrb hxa hxb hwo hbd hb1 hb2
      go_wp2_with fail
      go_quiet ((go_at_call 30; first | (with_reducible exact Calls.quiet_of (HRR.out _)) | (with_reducible exact Calls.quiet_of (HXX.out _))))
      go_wp2_with fail
      go_roundg (ps.length - (k + 1))
      case measure => omega
      case rel => exact ⟨k + 1, _, by omega, rfl, by go_num, by rw [HWO.out]; exact World.drewN_drewN _ _ _⟩
    · obtain rfl : k = ps.length := by omega
      go_wp2_with fail
      go_ret
      exact ⟨rfl, _, rfl⟩
end Go.Proofs.YthmimcegiihcnaaDoor

namespace Go.Proofs.YthmimcegiihcnaaDoor
namespace Sp
/-! ### The start is asked of production 0 alone -/
def putStart (c : List UInt8) (s : Mk) : Mk := { s with start := c }
theorem putStart_toks (c : List UInt8) (s : Mk) : (putStart c s).toks = s.toks := rfl
theorem putStart_lefts (c : List UInt8) (s : Mk) : (putStart c s).lefts = s.lefts := rfl
theorem leftsGo_start (c : List UInt8) : ∀ (rs : List Rule) (s : Mk), leftsGo rs (putStart c s) = match leftsGo rs s with
    | .error e => .error e
    | .ok s => .ok (putStart c s)
  | [], s => rfl
  | r :: rs, s => by
    have ih := leftsGo_start c rs
    unfold leftsGo
    rw [putStart_toks, putStart_lefts]
    split
    · rfl
    · split
      · exact ih s
      · exact ih { s with lefts := s.lefts ++ [r.left], nons := s.nons ++ [⟨r.left, (typeOf s.types r.left).getD []⟩] }
theorem namesOk_lefts {s s' : Mk} (h : s'.lefts = s.lefts) (k : Int) : ∀ ys, namesOk s' k ys = namesOk s k ys
  | [] => rfl
  | y :: ys => by
    unfold namesOk
    rw [h, namesOk_lefts h k ys]
theorem declsNames_lefts {s s' : Mk} (h : s'.lefts = s.lefts) : ∀ ds, declsNames s' ds = declsNames s ds
  | [] => rfl
  | d :: ds => by
    unfold declsNames
    rw [namesOk_lefts h, declsNames_lefts h ds]
theorem addTok_start (c : List UInt8) (s : Mk) (y : Sym) : addTok (putStart c s) y = (putStart c (addTok s y).1, (addTok s y).2) := by
  unfold addTok
  rw [putStart_toks]
  split <;> rfl
theorem used_start (c : List UInt8) (s : Mk) (y : Sym) (b : Bool) : used (putStart c s) y b = match used s y b with
    | .error e => .error e
    | .ok s => .ok (putStart c s) := by
  unfold used
  have h : clash (putStart c s) y = clash s y := rfl
  rw [h, putStart_toks, putStart_lefts, addTok_start]
  split
  · split <;> rfl
  · split <;> rfl
theorem partsGo2_start (c : List UInt8) : ∀ (l : List Part) (s : Mk), partsGo2 l (putStart c s) = match partsGo2 l s with
    | .error e => .error e
    | .ok s => .ok (putStart c s)
  | [], s => rfl
  | p :: l, s => by
    have ih := partsGo2_start c l
    unfold partsGo2
    split
    · rw [used_start]
      cases used s p.sym false with
      | error e => rfl
      | ok s1 => exact ih s1
    · exact ih s
theorem altsGo2_start (c : List UInt8) : ∀ (l : List Alt) (s : Mk), altsGo2 l (putStart c s) = match altsGo2 l s with
    | .error e => .error e
    | .ok s => .ok (putStart c s)
  | [], s => rfl
  | a :: l, s => by
    have ih := altsGo2_start c l
    unfold altsGo2
    rw [partsGo2_start]
    cases partsGo2 a.parts s with
    | error e => rfl
    | ok s1 =>
      simp only
      split
      · exact ih s1
      · rw [used_start]
        cases used s1 a.prec true with
        | error e => rfl
        | ok s2 => exact ih s2
theorem partsMk_start (c : List UInt8) : ∀ (l : List Rule) (s : Mk), partsMk l (putStart c s) = match partsMk l s with
    | .error e => .error e
    | .ok s => .ok (putStart c s)
  | [], s => rfl
  | r :: l, s => by
    have ih := partsMk_start c l
    unfold partsMk
    rw [altsGo2_start]
    cases altsGo2 r.alts s with
    | error e => rfl
    | ok s1 => exact ih s1
/-- Productions ahead, and the start: nothing of them is asked. -/
def putPS (P : List Prod) (c : List UInt8) (s : Mk) : Mk := { s with prods := P ++ s.prods, start := c }
theorem symNo_ps (P : List Prod) (c : List UInt8) (s : Mk) (y : Sym) : symNo (putPS P c s) y = symNo s y := rfl
theorem altGo_ps (P : List Prod) (c : List UInt8) (n : Nat) : ∀ (l : List Part) (k : Nat) (p : Prod) (inner : Nat) (s : Mk), altGo n k l (p, inner, putPS P c s) = ((altGo n k l (p, inner, s)).1, (altGo n k l (p, inner, s)).2.1, putPS P c (altGo n k l (p, inner, s)).2.2)
  | [], k, p, inner, s => rfl
  | x :: l, k, p, inner, s => by
    unfold altGo
    split
    · rw [symNo_ps]
      exact altGo_ps P c n l _ _ _ _
    · split
      · exact altGo_ps P c n l _ _ _ _
      · simp only
        have ih := altGo_ps P c n l (k + 1) { p with right := p.right ++ [1000 + ((s.nons ++ [(⟨64 :: Lib.itoa ((inner + 1 : Nat) : Int), []⟩ : Non)]).length : Int) - 1] } (inner + 1) { s with nons := s.nons ++ [⟨64 :: Lib.itoa ((inner + 1 : Nat) : Int), []⟩], prods := s.prods ++ [⟨((s.nons ++ [(⟨64 :: Lib.itoa ((inner + 1 : Nat) : Int), []⟩ : Non)]).length : Int) - 1, [], -1, x.code, p.right, x.at_⟩] }
        unfold putPS at ih ⊢
        simp only [List.append_assoc] at ih ⊢
        exact ih
theorem altMk_ps (P : List Prod) (c : List UInt8) (left : Int) (a : Alt) (inner : Nat) (s : Mk) : altMk left a inner (putPS P c s) = ((altMk left a inner s).1, putPS P c (altMk left a inner s).2) := by
  unfold altMk
  rw [altGo_ps]
  simp only [symNo_ps]
  unfold putPS
  simp only [List.append_assoc]
theorem altsMk_ps (P : List Prod) (c : List UInt8) (left : Int) : ∀ (l : List Alt) (i : Nat) (s : Mk), altsMk left l (i, putPS P c s) = ((altsMk left l (i, s)).1, putPS P c (altsMk left l (i, s)).2)
  | [], i, s => rfl
  | a :: l, i, s => by
    unfold altsMk
    simp only
    rw [altMk_ps]
    exact altsMk_ps P c left l _ _
theorem rulesMk_ps (P : List Prod) (c : List UInt8) : ∀ (l : List Rule) (i : Nat) (s : Mk), rulesMk l (i, putPS P c s) = ((rulesMk l (i, s)).1, putPS P c (rulesMk l (i, s)).2)
  | [], i, s => rfl
  | r :: l, i, s => by
    unfold rulesMk
    simp only
    have e : (putPS P c s).lefts = s.lefts := rfl
    rw [e, altsMk_ps]
    exact rulesMk_ps P c l _ _
/-- What the rules come to, whatever the start is. -/
def bodyMk (x : Source) (s : Mk) : Mk := (rulesMk x.rules (0, { s with prods := [], start := [] })).2
def firstP (s : Mk) (nm : List UInt8) : Prod := ⟨0, [1000 + (((nonIx s.lefts nm).getD 0 : Nat) : Int)], -1, [], [], 0⟩
theorem prodsMk_body (x : Source) (s : Mk) (hp : s.prods = []) : prodsMk x s = putPS [firstP s (if s.start = [] then (match x.rules with
    | [] => []
    | r :: _ => r.left) else s.start)] s.start (bodyMk x s) := by
  unfold prodsMk bodyMk
  simp only
  have h := rulesMk_ps [firstP s (if s.start = [] then (match x.rules with
    | [] => []
    | r :: _ => r.left) else s.start)] s.start x.rules 0 { s with prods := [], start := [] }
  have e : putPS [firstP s (if s.start = [] then (match x.rules with
    | [] => []
    | r :: _ => r.left) else s.start)] s.start { s with prods := [], start := [] } = { s with prods := s.prods ++ [firstP s (if s.start = [] then (match x.rules with
    | [] => []
    | r :: _ => r.left) else s.start)] } := by
    unfold putPS
    rw [hp]
    rfl
  rw [e] at h
  exact congrArg (fun r => r.2) h
theorem leftsMk_start (x : Source) (ds : List Decl) (c : List UInt8) (s : Mk) (hd : ∀ s' : Mk, leftsGo x.rules s = .ok s' → declsNames s' ds = none) {s2 : Mk} (h : leftsMk x s = .ok s2) : leftsMk { x with decls := x.decls ++ ds } (putStart c s) = .ok (putStart c s2) := by
  unfold leftsMk at h ⊢
  simp only
  rw [leftsGo_start]
  cases hl : leftsGo x.rules s with
  | error e => rw [hl] at h; cases h
  | ok s' =>
    rw [hl] at h
    simp only at h ⊢
    have happ : ∀ (a : List Decl), declsNames s' a = none → declsNames (putStart c s') (a ++ ds) = none := by
      intro a
      induction a with
      | nil =>
        intro _
        rw [List.nil_append, declsNames_lefts (s := s') (s' := putStart c s') rfl]
        exact hd s' hl
      | cons d a ih =>
        intro h0
        unfold declsNames at h0
        rw [List.cons_append]
        unfold declsNames
        rw [namesOk_lefts (s := s') (s' := putStart c s') rfl]
        cases hn : namesOk s' d.kind d.syms with
        | some e => rw [hn] at h0; cases h0
        | none =>
          rw [hn] at h0
          exact ih h0
    cases hq : declsNames s' x.decls with
    | some e => rw [hq] at h; cases h
    | none =>
      rw [hq] at h
      cases h
      rw [happ _ hq]
theorem declsMk_cons (d : Decl) (l : List Decl) (level : Int) (s : Mk) : declsMk level (d :: l) s = match symsGo d (if 2 ≤ d.kind ∧ d.kind ≤ 4 then level + 1 else level) d.syms s with
    | .error e => .error e
    | .ok s => declsMk (if 2 ≤ d.kind ∧ d.kind ≤ 4 then level + 1 else level) l s := by
  conv => lhs; unfold declsMk
  rfl
theorem declsMk_app : ∀ (a b : List Decl) (level : Int) (s s' : Mk), declsMk level a s = .ok s' → ∃ l, declsMk level (a ++ b) s = declsMk l b s'
  | [], b, level, s, s', h => by
    cases h
    exact ⟨level, rfl⟩
  | d :: a, b, level, s, s', h => by
    rw [declsMk_cons] at h
    rw [List.cons_append, declsMk_cons]
    cases hs : symsGo d (if 2 ≤ d.kind ∧ d.kind ≤ 4 then level + 1 else level) d.syms s with
    | error e => rw [hs] at h; cases h
    | ok s1 =>
      rw [hs] at h
      exact declsMk_app a b _ s1 s' h
def startDecl (nm : List UInt8) (at_ : Int) : Decl := ⟨6, [], [⟨nm, false, 0, at_⟩], 0⟩
theorem mayDecl_start {nm : List UInt8} (at_ : Int) (h : isName nm = true) : mayDecl (startDecl nm at_) = true := by
  unfold mayDecl startDecl
  simp [maySym, isSym, h]
theorem declsMk_start (nm : List UInt8) (at_ level : Int) (s : Mk) (l : List Decl) (h : s.start = []) : declsMk level (startDecl nm at_ :: l) s = declsMk level l (putStart nm s) := by
  rw [declsMk_cons]
  unfold startDecl
  simp only
  rw [if_neg (by omega)]
  unfold symsGo
  rw [if_pos (by simp)]
  unfold namedStep
  rw [if_neg (by rintro (⟨h1, _⟩ | ⟨_, h1⟩); simp at h1; exact h1 h), if_neg (by simp)]
  rfl
theorem declsMk_start2 (nm : List UInt8) (at_ level : Int) (s : Mk) (l : List Decl) (h : s.start ≠ []) : declsMk level (startDecl nm at_ :: l) s = .error (nm, at_) := by
  rw [declsMk_cons]
  unfold startDecl
  simp only
  rw [if_neg (by omega)]
  unfold symsGo
  rw [if_pos (by simp)]
  unfold namedStep
  rw [if_pos (.inr ⟨rfl, h⟩)]
theorem may_app {x : Source} {ds : List Decl} (h : may x = true) (hd : ds.all mayDecl = true) : may { x with decls := x.decls ++ ds } = true := by
  unfold may at h ⊢
  simp only [List.all_append, hd, Bool.and_true]
  exact h
/-- What a source comes to that has no fault. -/
theorem gramOf_ok {x : Source} {s1 s2 s3 : Mk} (hm : may x = true) (h1 : declsMk 0 x.decls mk0 = .ok s1) (h2 : leftsMk x s1 = .ok s2) (h3 : partsMk x.rules s2 = .ok s3) (hg : great (numbersMk (prodsMk x s3)) = false) :
    gramOf x = (⟨(numbersMk (prodsMk x s3)).toks, (prodsMk x s3).nons, (prodsMk x s3).prods, x.pro, x.tail⟩, ⟨0, 0, []⟩) := by
  unfold gramOf
  rw [hm, h1]
  simp only [Bool.true_eq_false, if_false]
  rw [h2]
  simp only
  rw [h3]
  simp only
  rw [hg]
  rfl
theorem start_law {x : Source} {s1 s2 s3 : Mk} {r0 : Rule} {rs : List Rule} (hr : x.rules = r0 :: rs) (hm : may x = true) (h1 : declsMk 0 x.decls mk0 = .ok s1) (hst : s1.start = []) (h2 : leftsMk x s1 = .ok s2) (h3 : partsMk x.rules s2 = .ok s3) (hg : great (numbersMk (prodsMk x s3)) = false)
    (nm : List UInt8) (hn : isName nm = true) (hix : (nonIx s2.lefts nm).isSome = true) :
    ∃ T N B, gramOf x = (⟨T, N, firstP s2 r0.left :: B, x.pro, x.tail⟩, ⟨0, 0, []⟩) ∧
      gramOf { x with decls := x.decls ++ [startDecl nm 5] } = (⟨T, N, firstP s2 nm :: B, x.pro, x.tail⟩, ⟨0, 0, []⟩) ∧
      gramOf { x with decls := x.decls ++ [startDecl nm 5, startDecl nm 6] } = (noGram, ⟨3, 6, nm⟩) ∧ B = (bodyMk x s3).prods := by
  have hnn : nm ≠ [] := by
    rintro rfl
    revert hn
    decide
  obtain ⟨l1, hl1⟩ := declsMk_app x.decls [startDecl nm 5] 0 mk0 s1 h1
  obtain ⟨l2, hl2⟩ := declsMk_app x.decls [startDecl nm 5, startDecl nm 6] 0 mk0 s1 h1
  rw [declsMk_start _ _ _ _ _ hst] at hl1 hl2
  rw [declsMk_start2 _ _ _ _ _ (by exact hnn)] at hl2
  have hk2 := leftsMk_keeps h2
  have hk3 : s3.lefts = s2.lefts ∧ s3.prods = s2.prods ∧ s3.start = s2.start := by
    have gen : ∀ (l : List Rule) (s s' : Mk), partsMk l s = .ok s' → s'.lefts = s.lefts ∧ s'.prods = s.prods ∧ s'.start = s.start := by
      have hu : ∀ {s s' : Mk} {y : Sym} {b : Bool}, used s y b = .ok s' → s'.lefts = s.lefts ∧ s'.prods = s.prods ∧ s'.start = s.start := fun h => ⟨(used_keeps h).lefts, (used_keeps h).prods, (used_keeps h).start⟩
      have hp : ∀ (l : List Part) (s s' : Mk), partsGo2 l s = .ok s' → s'.lefts = s.lefts ∧ s'.prods = s.prods ∧ s'.start = s.start := fun l s s' h => ⟨(partsGo2_keeps l s s' h).lefts, (partsGo2_keeps l s s' h).prods, (partsGo2_keeps l s s' h).start⟩
      have ha : ∀ (l : List Alt) (s s' : Mk), altsGo2 l s = .ok s' → s'.lefts = s.lefts ∧ s'.prods = s.prods ∧ s'.start = s.start := by
        intro l
        induction l with
        | nil => intro s s' h; cases h; exact ⟨rfl, rfl, rfl⟩
        | cons a l ih =>
          intro s s' h
          unfold altsGo2 at h
          split at h
          · cases h
          · rename_i t1 ht1
            obtain ⟨a1, a2, a3⟩ := hp _ _ _ ht1
            split at h
            · obtain ⟨b1, b2, b3⟩ := ih _ _ h
              exact ⟨b1.trans a1, b2.trans a2, b3.trans a3⟩
            · split at h
              · cases h
              · rename_i t2 ht2
                obtain ⟨c1, c2, c3⟩ := hu ht2
                obtain ⟨b1, b2, b3⟩ := ih _ _ h
                exact ⟨b1.trans (c1.trans a1), b2.trans (c2.trans a2), b3.trans (c3.trans a3)⟩
      intro l
      induction l with
      | nil => intro s s' h; cases h; exact ⟨rfl, rfl, rfl⟩
      | cons r l ih =>
        intro s s' h
        unfold partsMk at h
        split at h
        · cases h
        · rename_i t1 ht1
          obtain ⟨a1, a2, a3⟩ := ha _ _ _ ht1
          obtain ⟨b1, b2, b3⟩ := ih _ _ h
          exact ⟨b1.trans a1, b2.trans a2, b3.trans a3⟩
    exact gen x.rules s2 s3 h3
  have hp1 : s1.prods = [] ∧ s1.lefts = [] := by
    have gen : ∀ (d : Decl) (level : Int) (l : List Sym) (s s' : Mk), symsGo d level l s = .ok s' → s'.prods = s.prods ∧ s'.lefts = s.lefts := by
      intro d level l
      induction l with
      | nil => intro s s' h; cases h; exact ⟨rfl, rfl⟩
      | cons y l ih =>
        intro s s' h
        unfold symsGo at h
        split at h
        · cases h
        · rename_i t1 ht1
          obtain ⟨b1, b2⟩ := ih _ _ h
          split at ht1
          · obtain ⟨_, a1, _, a2, _⟩ := namedStep_keeps ht1
            exact ⟨b1.trans a2, b2.trans a1⟩
          · obtain ⟨_, a1, _, a2, _⟩ := tokStep_keeps ht1
            exact ⟨b1.trans a2, b2.trans a1⟩
    have gen2 : ∀ (l : List Decl) (level : Int) (s s' : Mk), declsMk level l s = .ok s' → s'.prods = s.prods ∧ s'.lefts = s.lefts := by
      intro l
      induction l with
      | nil => intro level s s' h; cases h; exact ⟨rfl, rfl⟩
      | cons d l ih =>
        intro level s s' h
        unfold declsMk at h
        simp only at h
        split at h
        · cases h
        · rename_i t1 ht1
          obtain ⟨a1, a2⟩ := gen _ _ _ _ _ ht1
          obtain ⟨b1, b2⟩ := ih _ _ _ h
          exact ⟨b1.trans a1, b2.trans a2⟩
    exact gen2 _ _ _ _ h1
  have hs3p : s3.prods = [] := hk3.2.1.trans (hk2.2.1.trans hp1.1)
  have hs3s : s3.start = [] := hk3.2.2.trans (hk2.2.2.1.trans hst)
  have hfp : ∀ nm, firstP s3 nm = firstP s2 nm := fun nm => by unfold firstP; rw [hk3.1]
  have hb := prodsMk_body x s3 hs3p
  rw [hs3s, if_pos rfl, hr] at hb
  simp only [hfp] at hb
  have h2' := leftsMk_start x [startDecl nm 5] nm s1 (fun s' hs' => by
    have e : s2.lefts = s'.lefts := by
      unfold leftsMk at h2
      rw [hs'] at h2
      simp only at h2
      split at h2
      · cases h2
      · cases h2; rfl
    unfold declsNames startDecl namesOk
    simp only
    rw [← e, if_neg (by rintro ⟨_, h⟩; rw [Option.isNone_iff_eq_none] at h; rw [h] at hix; cases hix)]
    rfl) h2
  have h3' : partsMk x.rules (putStart nm s2) = .ok (putStart nm s3) := by rw [partsMk_start, h3]
  have hb' := prodsMk_body { x with decls := x.decls ++ [startDecl nm 5] } (putStart nm s3) hs3p
  have e0 : (putStart nm s3).start = nm := rfl
  rw [e0, if_neg hnn] at hb'
  have e1 : firstP (putStart nm s3) nm = firstP s2 nm := hfp nm
  have e2 : bodyMk { x with decls := x.decls ++ [startDecl nm 5] } (putStart nm s3) = bodyMk x s3 := rfl
  rw [e1, e2] at hb'
  have hg1 : great (numbersMk (putPS [firstP s2 nm] nm (bodyMk x s3))) = false := by
    rw [hb] at hg
    exact hg
  have hm5 := may_app (ds := [startDecl nm 5]) hm (by simp [mayDecl_start 5 hn])
  have hm6 := may_app (ds := [startDecl nm 5, startDecl nm 6]) hm (by simp [mayDecl_start 5 hn, mayDecl_start 6 hn])
  refine ⟨(numbersMk (bodyMk x s3)).toks, (bodyMk x s3).nons, (bodyMk x s3).prods, ?_, ?_, ?_, rfl⟩
  · have h := gramOf_ok hm h1 h2 h3 hg
    rw [hb] at h
    exact h
  · have h := gramOf_ok hm5 (hl1.trans rfl) h2' h3' (by rw [hb']; exact hg1)
    rw [hb'] at h
    exact h
  · unfold gramOf
    rw [hm6]
    simp only [Bool.true_eq_false, if_false]
    rw [hl2]
end Sp
end Go.Proofs.YthmimcegiihcnaaDoor
