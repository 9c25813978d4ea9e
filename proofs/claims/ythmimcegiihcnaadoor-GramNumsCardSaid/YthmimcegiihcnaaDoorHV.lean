/- gram's great: is a grammar too great? gram's maker: one token changed in its place; numbers. gram's maker: numbers. -/
import Derived.Test.YthmimcegiihcnaaDoorHg
import Derived.Test.YthmimcegiihcnaaDoorDg
namespace Go.Proofs.YthmimcegiihcnaaDoor
open Go.RowKit Go.Maps

theorem prods_cells {B : Nat} {w : World} {f g : Nat → Value} {gp n cap k : Nat} {l : List Sp.Prod} {p : Sp.Prod} (ho : w.ownsRow B 77 6 (.slice (some ⟨gp, 0, none⟩) n cap) n (l.mapIdx fun i p => prodC (f i) (g i) p).flatten) (hk : l[k]? = some p) (hkn : k < n) {j : Nat} {u : Value} (hj : (prodC (f k) (g k) p)[j]? = some u) :
    w.cell? ⟨gp, k * 6 + j, none⟩ = some u := by
  have hjs : j < 6 := (List.getElem?_eq_some_iff.1 hj).1
  rw [ho.cellAt (k * 6 + j) (by omega)]
  refine flatten_at 6 _ (fun r hr' => ?_) k (prodC (f k) (g k) p) (by rw [List.getElem?_mapIdx, hk]; rfl) j u hj
  obtain ⟨i, hi⟩ := List.mem_iff_getElem?.1 hr'
  rw [List.getElem?_mapIdx] at hi
  obtain ⟨b, _, rfl⟩ := Option.map_eq_some_iff.1 hi
  rfl
set_option maxRecDepth 100000 in
set_option maxHeartbeats 6400000 in
theorem gram_great {B : Nat} {W : World} (ta na : Option Addr) (nt tc nn nc : Nat) (pv : Value) (pro tl : List UInt8) (prods : List Sp.Prod) (hp : ProdsOwn B W pv prods) (h63 : prods.length ≤ 2 ^ 62) (h64 : ∀ p ∈ prods, p.right.length ≤ 2 ^ 62) (h65 : nt ≤ 2 ^ 62) (h66 : nn ≤ 2 ^ 62) :
    Calls Tryd.prog 62 #[.agg #[.slice ta nt tc, .slice na nn nc, pv, .string ⟨pro.toArray⟩, .string ⟨tl.toArray⟩]] W fun e w' =>
      e = .returned (.bool ((((prods.any fun p => decide (8 < p.right.length)) || decide (40 < nt)) || decide (24 < nn)) || decide (60 < prods.length))) ∧ Below W.heap.size W w' := by
  obtain ⟨f, g, ho, hc⟩ := hp
  obtain ⟨pa, pc, rfl⟩ := ownsRowS_some ho
  generalize hR : (prods.any fun p => decide (8 < p.right.length)) = R
  have HO := Lib.hid ho; have HC := Lib.hid hc; have H64 := Lib.hid h64
  generalize hn : prods.length = n at *
  have HN := Lib.hid hn; have HR := Lib.hid hR
  clear ho hc h64 hn hR
  go_enter Tryd.func62, Tryd.ntmps62
  go_wp2_with fail
  go_loopg [8] n (fun q iv wr => ∃ k : Nat, k ≤ n ∧ q = n - k ∧ iv = .int .i64 k ∧ ((prods.drop k).any fun p => decide (8 < p.right.length)) = R ∧ Below (W.heap.size + 1) (W.alloc (.cells #[.slice ta nt tc, .slice na nn nc, .slice pa n pc, .string ⟨pro.toArray⟩, .string ⟨tl.toArray⟩] 65)) wr)
  case atStart => exact ⟨0, Nat.zero_le _, rfl, rfl, HR.out, Below.refl _ _⟩
  case round =>
    obtain ⟨k, hk, rfl, rfl, hR, hbel⟩ := hrel
    have HRR := Lib.hid hR
    have hF := (hbel.block W.heap.size (by omega)).trans (heap_last W _)
    have b0 := cell_at (i := 0) hF; have b1 := cell_at (i := 1) hF; have b2 := cell_at (i := 2) hF
    have hl := lt_at hF
    have hbW : Below W.heap.size W wr := below_box hbel
    have HB := Lib.hid hbW; have HBB := Lib.hid hbel
    have hk0 : (0 : Int) ≤ (k : Int) := Int.natCast_nonneg _
    clear hR hF hbel hbW
    by_cases hkn : k < n
    · have hk1 : (k : Int) < (n : Int) := by omega
      have hkl : k < prods.length := by have := HN.out; omega
      have hp := List.getElem?_eq_getElem hkl
      have hd : prods.drop k = prods[k] :: prods.drop (k + 1) := List.drop_eq_getElem_cons hkl
      have h8 := H64.out _ (List.getElem_mem hkl)
      have hR := HRR.out
      rw [hd, List.any_cons] at hR
      generalize prods[k] = p at *
      obtain ⟨gp, cp, hv⟩ := own_form HO.out (by omega)
      simp only [Value.slice.injEq] at hv
      obtain ⟨rfl, _, rfl⟩ := hv
      obtain ⟨⟨bb, hr⟩, ⟨bc, ha⟩⟩ := HC.out k p hp
      obtain ⟨ra, rc, hf⟩ := ownsRowS_some hr
      obtain ⟨aa, ac, hg⟩ := ownsRowS_some ha
      have hlp : gp < W.heap.size := (HO.out.lt gp rfl).2
      have hcell : ∀ (j : Nat) (u : Value), (prodC (.slice ra p.right.length rc) (.slice aa p.args.length ac) p)[j]? = some u → wr.cell? ⟨gp, k * 6 + j, none⟩ = some u := fun j u hj => by
        rw [HB.out.cell (p := ⟨gp, _, none⟩) hlp]
        exact prods_cells HO.out hp hkn (by rw [hf, hg]; exact hj)
      obtain ⟨pl, pr, pp, pcd, pas, pat⟩ := p
      simp only at *
      generalize pr.length = rn at *
      generalize pas.length = an at *
      have c0 := hcell 0 _ rfl; have c1 := hcell 1 _ rfl; have c2 := hcell 2 _ rfl; have c3 := hcell 3 _ rfl; have c4 := hcell 4 _ rfl; have c5 := hcell 5 _ rfl
      simp only [Nat.add_zero] at c0
      have hlpr : gp < wr.heap.size := Nat.lt_of_lt_of_le hlp HB.out.size
      clear hcell hp hd hkl HRR hf hg hr ha
      by_cases h9 : 8 < rn
      · have HT : Hid (true = R) := Lib.hid (by rw [← hR]; simp [h9])
        clear hR
        go_wp2_with fail
        go_ret
        exact ⟨ret_bool (by rw [← HT.out]; rfl), HB.out.alloc HB.out.size _⟩
      · have hd9 : decide (8 < rn) = false := decide_eq_false h9
        have HT : Hid (((prods.drop (k + 1)).any fun p => decide (8 < p.right.length)) = R) := Lib.hid (by rw [← hR, hd9, Bool.false_or])
        clear hR
        go_wp2_with fail
        go_roundg (n - (k + 1))
        case measure => omega
        case rel => exact ⟨k + 1, by omega, rfl, by go_num, HT.out, HBB.out.alloc (by omega) _⟩
    · obtain rfl : k = n := by omega
      have HT : Hid (false = R) := Lib.hid (by
        have h := HRR.out
        rw [List.drop_eq_nil_of_le (by rw [HN.out]; exact Nat.le_refl _)] at h
        exact h)
      clear HRR
      by_cases h1 : 40 < nt
      · go_wp2_with fail
        go_ret
        exact ⟨ret_bool (by first | rfl | simp [h1]), HB.out⟩
      · have d1 : decide (40 < nt) = false := decide_eq_false h1
        by_cases h2 : 24 < nn
        · go_wp2_with fail
          go_ret
          exact ⟨ret_bool (by first | rfl | simp [h2]), HB.out⟩
        · have d2 : decide (24 < nn) = false := decide_eq_false h2
          go_wp2_with fail
          go_ret
          exact ⟨ret_bool (by rw [← HT.out, Bool.eq_iff_iff]; simp; omega), HB.out⟩
end Go.Proofs.YthmimcegiihcnaaDoor

namespace Go.Proofs.YthmimcegiihcnaaDoor
open Go.RowKit Go.Maps

theorem flatten_set2 {β : Type} (size k off : Nat) (v : β) (ho : off < size) : ∀ (L : List (List β)) (r : List β), (∀ r ∈ L, r.length = size) → L[k]? = some r → L.flatten.set (k * size + off) v = (L.set k (r.set off v)).flatten
  | [], r, _, h => by simp at h
  | x :: L, r, hl, h => by
    have hx := hl x (by simp)
    cases k with
    | zero =>
      simp only [List.getElem?_cons_zero, Option.some.injEq] at h
      subst h
      simp only [Nat.zero_mul, Nat.zero_add, List.flatten_cons, List.set_cons_zero]
      rw [List.set_append_left _ _ (by omega)]
    | succ k =>
      simp only [List.getElem?_cons_succ] at h
      have ih := flatten_set2 size k off v ho L r (fun r hr => hl r (by simp [hr])) h
      simp only [List.flatten_cons, List.set_cons_succ]
      rw [List.set_append_right _ _ (by rw [hx, Nat.succ_mul]; omega), ← ih]
      congr 2
      rw [hx, Nat.succ_mul]; omega
theorem Sp.findIx_congr {α : Type} {p : α → Bool} : ∀ {l l' : List α} {i : Nat}, l.map p = l'.map p → Sp.findIx p l i = Sp.findIx p l' i
  | [], [], _, _ => rfl
  | [], _ :: _, _, h => by simp at h
  | _ :: _, [], _, h => by simp at h
  | x :: l, y :: l', i, h => by
    simp only [List.map_cons, List.cons.injEq] at h
    unfold Sp.findIx
    rw [h.1, Sp.findIx_congr h.2]
theorem Sp.tokIx_set {toks : List Sp.Tok} {k : Nat} {t t' : Sp.Tok} (hk : toks[k]? = some t) (h1 : t'.name = t.name) (h2 : t'.lit = t.lit) (nm : List UInt8) (lt : Bool) : Sp.tokIx (toks.set k t') nm lt = Sp.tokIx toks nm lt := by
  unfold Sp.tokIx
  split
  · rfl
  · apply Sp.findIx_congr
    apply List.ext_getElem?
    intro i
    rw [List.getElem?_map, List.getElem?_map, List.getElem?_drop, List.getElem?_drop, List.getElem?_set]
    by_cases hi : k = 3 + i
    · subst hi
      have hkl := (List.getElem?_eq_some_iff.1 hk).1
      rw [if_pos rfl, if_pos hkl, hk]
      simp [h1, h2]
    · rw [if_neg hi]
/-- One token's field. -/
theorem maker_tokset {B : Nat} {w : World} {m : Nat} {x : Sp.Source} {s : Sp.Mk} {v : MkV} {e at_ : Int} {nm0 : List UInt8} {gt n ct k off : Nat} {t t' : Sp.Tok} {u : Value} (h : MakerAt B w m x s v e at_ nm0)
    (hv : v.tv = .slice (some ⟨gt, 0, none⟩) n ct) (hk : s.toks[k]? = some t) (hoff : off < 6) (hrow : tokC t' = (tokC t).set off u) (h1 : t'.name = t.name) (h2 : t'.lit = t.lit) :
    MakerAt B (w.setCell ⟨gt, k * 6 + off, none⟩ u) m x { s with toks := s.toks.set k t' } v e at_ nm0 ∧ MkFr m v v w (w.setCell ⟨gt, k * 6 + off, none⟩ u) := by
  have hto := h.toks
  rw [hv] at hto
  have hn : n = s.toks.length := by
    rcases hto.2 with ⟨e0, _⟩ | ⟨_, _, _, e0, _⟩
    · simp at e0
    · simp only [Value.slice.injEq] at e0; exact e0.2.1.symm ▸ rfl
  obtain ⟨cu, hgb⟩ : ∃ cu, w.heap[gt]? = some (.cells cu 73 (0, 0)) := by
    rcases hto.2 with ⟨e0, _⟩ | ⟨g', _, cu, e0, _, hh, _⟩
    · simp at e0
    · simp only [Value.slice.injEq, Option.some.injEq, Addr.mk.injEq, and_true] at e0
      obtain ⟨rfl, _⟩ := e0
      exact ⟨cu, hh⟩
  subst hn
  have hst := (hto.stored (k * 6 + off) u).1
  have k0 : Kp (fun b => b ≠ gt) w (w.setCell ⟨gt, k * 6 + off, none⟩ u) := (Kp.refl _ w).setCell (by simp) u
  have hset : (s.toks.map tokC).flatten.set (k * 6 + off) u = ((s.toks.set k t').map tokC).flatten := by
    rw [flatten_set2 6 k off u hoff _ (tokC t) (fun r hr => by obtain ⟨a, _, rfl⟩ := List.mem_map.1 hr; rfl) (by rw [List.getElem?_map, hk]; rfl), List.map_set, hrow]
  have hmm : ∀ b, (∃ es c, w.heap[b]? = some (.map es c)) → b ≠ gt := by
    rintro b ⟨es, c, hy⟩ rfl
    rw [hgb] at hy
    cases hy
  have hL : tokL (s.toks.set k t') = tokL s.toks := by
    have hq : Sp.tokIx (s.toks.set k t') = Sp.tokIx s.toks := by
      funext nm lt
      exact Sp.tokIx_set hk h1 h2 nm lt
    unfold tokL
    rw [hq]
  obtain ⟨g1, g2, g3, g4, ⟨f, g, p1, p2⟩, g6, g7, g8, g9, ga, gs, g3'⟩ := h
  refine ⟨⟨(k0.block m (lt_at g1) (fun e0 => ?_)).trans g1, ?_, ownsRow_kp g3 k0 (row_ne_cells g3 hgb (by decide)), ownsRow_kp g4 k0 (row_ne_cells g4 hgb (by decide)), ⟨f, g, ownsRow_kp p1 k0 (row_ne_cells p1 hgb (by decide)), fun i p hp => ?_⟩, ?_, g7.block (k0.block _ g7.lt (hmm _ g7.isMap)), g8.block (k0.block _ g8.lt (hmm _ g8.isMap)), g9, ga, by rw [List.length_set]; exact gs, by rw [List.length_set]; exact g3'⟩, ⟨k0.mono (fun b _ hn e0 => hn (.inr (.inl (by rw [hv, e0]; rfl)))), fun _ h => .inl h⟩⟩
  · rw [← e0, g1] at hgb
    simp at hgb
  · show World.ownsRow _ _ _ _ _ _ _
    rw [List.length_set, ← hset, hv]
    exact hst
  · obtain ⟨⟨b, k1⟩, c, k2⟩ := p2 i p hp
    exact ⟨⟨b, ownsRow_kp k1 k0 (row_ne_cells k1 hgb (by decide))⟩, c, ownsRow_kp k2 k0 (row_ne_cells k2 hgb (by decide))⟩
  · show MapIs _ _ _ _ _ _
    rw [List.length_set, hL]
    exact g6.block (k0.block _ g6.lt (hmm _ g6.isMap))
end Go.Proofs.YthmimcegiihcnaaDoor

namespace Go.Proofs.YthmimcegiihcnaaDoor
open Go.RowKit Go.Maps

set_option maxRecDepth 100000 in
set_option maxHeartbeats 6400000 in
theorem maker_numbers {B : Nat} {W : World} {m : Nat} {x : Sp.Source} {s : Sp.Mk} {v : MkV} (h : MakerAt B W m x s v 0 0 []) (hn40 : s.toks.length ≤ 2 ^ 40) :
    Calls Tryd.prog 61 #[.pointer (some ⟨m, 0, none⟩)] W fun e w' => e = .returned (.tuple #[]) ∧ MakerAt B w' m x (Sp.numbersMk s) v 0 0 [] ∧ MkFr m v v W w' := by
  obtain ⟨gt, ct, htv⟩ := own_form h.toks (by have := h.three; omega)
  obtain ⟨gg, cg, hgv⟩ := own_form h.given (by have := h.three; have := h.same; omega)
  have hsame := h.same
  have h3 := h.three
  have hms : Sp.numbersMk s = { s with toks := (Sp.numbersMk s).toks } := rfl
  rw [hms]
  generalize hF : (Sp.numbersMk s).toks = F at *
  unfold Sp.numbersMk at hF
  simp only at hF
  rw [hsame] at hgv
  generalize hn : s.toks.length = n at *
  have HH := Lib.hid h; have HF := Lib.hid hF; have HN := Lib.hid hn; have HSA := Lib.hid hsame; have HTV := Lib.hid htv; have HGV := Lib.hid hgv
  clear h hF hn hsame htv hgv hms
  go_enter Tryd.func61, Tryd.ntmps61
  go_wp2_with fail
  go_loopg [2, 3] (n - 3) (fun g nv iv wr => ∃ (k : Nat) (next : Int) (cur : List Sp.Tok), 3 ≤ k ∧ k ≤ n ∧ g = n - k ∧ nv = .int .i64 next ∧ iv = .int .i64 k ∧ MakerAt B wr m x { s with toks := cur } v 0 0 [] ∧ MkFr m v v W wr ∧ cur.length = n ∧ cur.drop k = s.toks.drop k ∧ cur.take k ++ Sp.numGo next (s.toks.drop k) (s.given.drop k) = F ∧ 0 ≤ next ∧ next ≤ 57346 + k)
  case atStart => exact ⟨3, 57346, s.toks, Nat.le_refl _, h3, rfl, rfl, rfl, HH.out, MkFr.below v (Below.refl _ _), HN.out, rfl, HF.out, by omega, by omega⟩
  case round =>
    obtain ⟨k, next, cur, hk3, hk, rfl, rfl, rfl, hmk, hfr, hlen, hdrop, hF, hn0, hnk⟩ := hrel
    have hb := hmk.block
    have ht := hmk.toks; have hg := hmk.given
    unfold mkCells at hb
    rw [HTV.out] at hb ht
    rw [HGV.out] at hb hg
    simp only at ht hg
    rw [hlen] at ht
    rw [HSA.out] at hg
    have c4 := cell_at (i := 4) hb; have c10 := cell_at (i := 10) hb
    have hl := lt_at hb
    have hlt : gt < wr.heap.size := (ht.lt gt rfl).2
    have hlg : gg < wr.heap.size := (hg.lt gg rfl).2
    have HMK := Lib.hid hmk; have HFR := Lib.hid hfr; have HLEN := Lib.hid hlen; have HDR := Lib.hid hdrop; have HFF := Lib.hid hF
    have hk0 : (0 : Int) ≤ (k : Int) := Int.natCast_nonneg _
    by_cases hkn : k < n
    · have hk1 : (k : Int) < (n : Int) := by omega
      have hkt : k < s.toks.length := by have := HN.out; omega
      have hkg : k < s.given.length := by have := HSA.out; omega
      have e2 := List.getElem?_eq_getElem hkg
      have d1 : s.toks.drop k = s.toks[k] :: s.toks.drop (k + 1) := List.drop_eq_getElem_cons hkt
      have d2 : s.given.drop k = s.given[k] :: s.given.drop (k + 1) := List.drop_eq_getElem_cons hkg
      have e1 : cur[k]? = some s.toks[k] := by
        have h := congrArg (fun l => l[0]?) hdrop
        simp only [List.getElem?_drop, Nat.add_zero] at h
        rw [h]; exact List.getElem?_eq_getElem hkt
      rw [d1, d2] at hF
      unfold Sp.numGo at hF
      have hdn : cur.drop (k + 1) = s.toks.drop (k + 1) := by
        have h := congrArg (fun l => l.drop 1) hdrop
        simpa [List.drop_drop, Nat.add_comm] using h
      generalize s.toks[k] = t at *
      generalize s.given[k] = gk at *
      have ct2 := row_cell ht (fun _ => rfl) e1 hkn (j := 2) (u := .int .i64 t.num) rfl
      have cg2 := row_cell1 hg e2 hkn
      have ft := ht.frozenAt (k * 6 + 2)
      have E1 := Lib.hid e1; have HDN := Lib.hid hdn
      clear hmk hfr hlen hdrop hb ht hg d1 d2 e2 e1 hdn hkt hkg HDR HFF
      cases gk with
      | true =>
        have HF2 : Hid (cur.take (k + 1) ++ Sp.numGo next (s.toks.drop (k + 1)) (s.given.drop (k + 1)) = F) := Lib.hid (by rw [← hF, List.take_add_one, E1.out]; simp)
        clear hF
        go_wp2_with fail
        go_roundg (n - (k + 1))
        case measure => omega
        case rel => exact ⟨k + 1, next, cur, by omega, by omega, rfl, rfl, by go_num, HMK.out, HFR.out, HLEN.out, HDN.out, HF2.out, hn0, by omega⟩
      | false =>
        have hset := maker_tokset (k := k) (off := 2) (t := t) (t' := { t with num := next }) (u := .int .i64 next) HMK.out HTV.out E1.out (by decide) rfl rfl rfl
        have HST := Lib.hid hset
        have HF2 : Hid ((cur.set k { t with num := next }).take (k + 1) ++ Sp.numGo (next + 1) (s.toks.drop (k + 1)) (s.given.drop (k + 1)) = F) := Lib.hid (by
          rw [← hF, List.take_add_one, List.take_set_of_le (Nat.le_refl _), List.getElem?_set_self (by have := HLEN.out; omega)]
          simp)
        clear hF hset
        go_wp2_with fail
        go_roundg (n - (k + 1))
        case measure => omega
        case rel =>
          refine ⟨k + 1, next + 1, _, by omega, by omega, rfl, by go_num, by go_num, HST.out.1, HFR.out.trans HST.out.2, by rw [List.length_set]; exact HLEN.out, ?_, HF2.out, by omega, by omega⟩
          rw [List.drop_set_of_lt (by omega)]
          exact HDN.out
    · obtain rfl : k = n := by omega
      have hFe : cur = F := by
        rw [List.drop_eq_nil_of_le (by rw [HN.out]; exact Nat.le_refl _), List.take_of_length_le (by rw [hlen]; exact Nat.le_refl _)] at hF
        unfold Sp.numGo at hF
        rw [List.append_nil] at hF
        exact hF
      have HFE := Lib.hid hFe
      clear hmk hfr hlen hdrop hb ht hg hF hFe
      go_wp2_with fail
      exact bodyPost_end (results_none rfl _ _ _) rfl ⟨rfl, by rw [← HFE.out]; exact HMK.out, HFR.out⟩
end Go.Proofs.YthmimcegiihcnaaDoor
