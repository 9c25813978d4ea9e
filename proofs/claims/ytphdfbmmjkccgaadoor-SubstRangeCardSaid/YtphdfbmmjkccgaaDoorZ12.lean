/- The look-ups of the document's maker: tok, owner, typeOf, left. The document's maker: put, symbol. -/
import Derived.Deep.LoopGhost
import Derived.Test.YtphdfbmmjkccgaaDoorZ11
import Derived.Test.YtphdfbmmjkccgaaDoorZ06
namespace Go.Proofs.YtphdfbmmjkccgaaDoor
open Go.RowKit Go.Maps

set_option maxRecDepth 100000 in
set_option maxHeartbeats 3200000 in
/-- The place of a token. -/
theorem ref_tok {S : Nat → Prop} {B N : Nat} {W : World} {m : Nat} {r : Sp.Rk} {v : RkV} (x : Sp.Sym) (h : RefAt S B W m r v) (hr : Sp.RB N r) (hN : N ≤ 2 ^ 40) :
    Calls Tryd.prog 40 #[.pointer (some ⟨m, 0, none⟩), symV x] W fun e w' => e = .returned (.int .i64 (ixI (Sp.rtok r.toks x.name x.lit))) ∧ Below W.heap.size W w' := by
  obtain ⟨nm, lt, nu, pa⟩ := x
  show Calls _ _ #[_, .agg #[.string ⟨nm.toArray⟩, .bool lt, .int .i64 nu, .int .i64 pa]] _ _
  obtain ⟨w1, hw1⟩ : ∃ w1 : World, w1 = W.alloc (.cells #[.string ⟨nm.toArray⟩, .bool lt, .int .i64 nu, .int .i64 pa] 40) := ⟨_, rfl⟩
  have hbw : Below W.heap.size W w1 := by rw [hw1]; exact (Below.refl _ W).alloc (Nat.le_refl _) _
  have hx : w1.heap[W.heap.size]? = some (.cells #[.string ⟨nm.toArray⟩, .bool lt, .int .i64 nu, .int .i64 pa] 40 (0, 0)) := by rw [hw1]; exact heap_last W _
  replace h := h.below hbw
  have h3 := hr.three
  have hn40 := Nat.le_trans hr.toks hN
  obtain ⟨toks, given, types, lefts, prods, fault, level, inner⟩ := r
  have hb := h.block; have hown := h.toks
  unfold rkCells at hb
  obtain ⟨va, vc, htv⟩ := ownsRowS_some hown
  rw [htv] at hb hown
  simp only at hb hown h3 hn40 ⊢
  generalize hR : Sp.rtok toks nm lt = R
  unfold Sp.rtok at hR
  have c0 := cell_at (i := 0) hb; have x0 := cell_at (i := 0) hx; have x1 := cell_at (i := 1) hx
  have hl := lt_at hb; have hlx := lt_at hx
  generalize hn : toks.length = n at *
  have HO := Lib.hid hown; have HR := Lib.hid hR; have HN := Lib.hid hn; have HBW := Lib.hid hbw
  clear h hb hx hown hR hn hbw htv
  go_enter Tryd.func40, Tryd.ntmps40
  go_wp2_with fail
  rw [← hw1]
  clear hw1
  go_loopg [5] (n - 1) (fun g iv wr => ∃ (k d : Nat), 1 ≤ k ∧ k ≤ n ∧ g = n - k ∧ iv = .int .i64 k ∧ wr = w1.drewN d ∧ Sp.rtokGo nm lt (toks.drop k) k = R)
  case atStart => exact ⟨1, 0, Nat.le_refl _, by omega, rfl, rfl, rfl, HR.out⟩
  case round =>
    obtain ⟨k, dd, hk3, hk, rfl, rfl, rfl, hR⟩ := hrel
    have HRR := Lib.hid hR
    clear hR
    have hk0 : (0 : Int) ≤ (k : Int) := Int.natCast_nonneg _
    by_cases hkn : k < n
    · have hk1 : (k : Int) < (n : Int) := by omega
      have hkt : k < toks.length := by have := HN.out; omega
      have e1 := List.getElem?_eq_getElem hkt
      have d1 : toks.drop k = toks[k] :: toks.drop (k + 1) := List.drop_eq_getElem_cons hkt
      have hR := HRR.out
      rw [d1] at hR
      unfold Sp.rtokGo at hR
      generalize toks[k] = t at *
      have hown := HO.out
      obtain ⟨gt, ct, hv⟩ := own_form hown (by omega)
      simp only [Value.slice.injEq] at hv
      obtain ⟨rfl, _, rfl⟩ := hv
      have hlt : gt < w1.heap.size := (hown.lt gt rfl).2
      obtain ⟨tn, tl, tu, te, ta, tg⟩ := t
      have a0 := row_cell hown (fun _ => rfl) e1 hkn (j := 0) (u := .string ⟨tn.toArray⟩) rfl
      have a1 := row_cell hown (fun _ => rfl) e1 hkn (j := 1) (u := .bool tl) rfl
      simp only [Nat.add_zero] at a0 hR
      clear d1 e1 hkt hown
      by_cases hnm : tn = nm
      · subst hnm
        by_cases hk2 : k = 2
        · subst hk2
          have HR2 : Hid (Sp.rtokGo tn lt (toks.drop (2 + 1)) (2 + 1) = R) := Lib.hid (by rw [if_neg (by simp)] at hR; exact hR)
          clear hR HRR
          cases tl <;> cases lt
          all_goals
            go_wp2_with fail
            go_quiet (fail)
            go_wp2_with fail
            go_roundg (n - (2 + 1))
            case measure => omega
            case rel => exact ⟨2 + 1, _, by omega, by omega, by omega, by go_num, rfl, HR2.out⟩
        · have hk2d : decide ((k : Int) = 2) = false := decide_eq_false (by omega)
          have hk2b : ((k : Int) == 2) = false := by rw [beq_eq_false_iff_ne]; omega
          have hk2n : ((k : Int) != 2) = true := by rw [bne_iff_ne]; omega
          by_cases hlt2 : tl = lt
          · subst hlt2
            have HR2 : Hid (some k = R) := Lib.hid (by rw [if_pos ⟨⟨rfl, rfl⟩, hk2⟩] at hR; exact hR)
            clear hR HRR
            cases tl
            all_goals
              go_wp2_with fail
              go_quiet (fail)
              go_wp2_with fail
              go_ret
              rw [← HR2.out]
              exact ⟨ret_int rfl, below_drewN (below_drewN HBW.out _) _⟩
          · have HR2 : Hid (Sp.rtokGo tn lt (toks.drop (k + 1)) (k + 1) = R) := Lib.hid (by rw [if_neg (fun hh => hlt2 hh.1.2)] at hR; exact hR)
            clear hR HRR
            cases tl <;> cases lt
            all_goals first
              | exact absurd rfl hlt2
              | (go_wp2_with fail
                 go_quiet (fail)
                 go_wp2_with fail
                 go_roundg (n - (k + 1))
                 case measure => omega
                 case rel => exact ⟨k + 1, _, by omega, by omega, by omega, by go_num, rfl, HR2.out⟩)
      · have hnb : (tn == nm) = false := by rw [beq_eq_false_iff_ne]; exact hnm
        have HR2 : Hid (Sp.rtokGo nm lt (toks.drop (k + 1)) (k + 1) = R) := Lib.hid (by rw [if_neg (fun hh => hnm hh.1.1)] at hR; exact hR)
        clear hR HRR
        go_wp2_with fail
        go_quiet (fail)
        go_wp2_with fail
        go_roundg (n - (k + 1))
        case measure => omega
        case rel => exact ⟨k + 1, _, by omega, by omega, by omega, by go_num, rfl, HR2.out⟩
    · obtain rfl : k = n := by omega
      have HR2 : Hid (none = R) := Lib.hid (by
        have h := HRR.out
        rw [List.drop_eq_nil_of_le (by rw [HN.out]; exact Nat.le_refl _)] at h
        unfold Sp.rtokGo at h
        exact h)
      clear HRR
      go_wp2_with fail
      go_ret
      rw [← HR2.out]
      exact ⟨ret_int rfl, below_drewN HBW.out _⟩
set_option maxRecDepth 100000 in
set_option maxHeartbeats 3200000 in
/-- The token that has a number. -/
theorem ref_owner {S : Nat → Prop} {B N : Nat} {W : World} {m : Nat} {r : Sp.Rk} {v : RkV} (nu : Int) (h : RefAt S B W m r v) (hr : Sp.RB N r) (hN : N ≤ 2 ^ 40) :
    Calls Tryd.prog 72 #[.pointer (some ⟨m, 0, none⟩), .int .i64 nu] W fun e w' => e = .returned (.int .i64 (ixI (Sp.rowner r.toks nu))) ∧ W = w' := by
  have h3 := hr.three
  have hn40 := Nat.le_trans hr.toks hN
  obtain ⟨toks, given, types, lefts, prods, fault, level, inner⟩ := r
  have hb := h.block; have hown := h.toks
  unfold rkCells at hb
  obtain ⟨va, vc, htv⟩ := ownsRowS_some hown
  rw [htv] at hb hown
  simp only at hb hown h3 hn40 ⊢
  generalize hR : Sp.rowner toks nu = R
  unfold Sp.rowner at hR
  have c0 := cell_at (i := 0) hb
  have hl := lt_at hb
  generalize hn : toks.length = n at *
  have HO := Lib.hid hown; have HR := Lib.hid hR; have HN := Lib.hid hn
  clear h hb hown hR hn htv
  go_enter Tryd.func72, Tryd.ntmps72
  go_wp2_with fail
  go_loopg [5] (n - 3) (fun g iv wr => ∃ k : Nat, 3 ≤ k ∧ k ≤ n ∧ g = n - k ∧ iv = .int .i64 k ∧ W = wr ∧ Sp.findIx (fun t => t.num == nu) (toks.drop k) k = R)
  case atStart => exact ⟨3, Nat.le_refl _, by omega, rfl, rfl, rfl, HR.out⟩
  case round =>
    obtain ⟨k, hk3, hk, rfl, rfl, rfl, hR⟩ := hrel
    have HRR := Lib.hid hR
    clear hR
    have hk0 : (0 : Int) ≤ (k : Int) := Int.natCast_nonneg _
    by_cases hkn : k < n
    · have hk1 : (k : Int) < (n : Int) := by omega
      have hkt : k < toks.length := by have := HN.out; omega
      have e1 := List.getElem?_eq_getElem hkt
      have d1 : toks.drop k = toks[k] :: toks.drop (k + 1) := List.drop_eq_getElem_cons hkt
      have hR := HRR.out
      rw [d1] at hR
      unfold Sp.findIx at hR
      generalize toks[k] = t at *
      have hown := HO.out
      obtain ⟨gt, ct, hv⟩ := own_form hown (by omega)
      simp only [Value.slice.injEq] at hv
      obtain ⟨rfl, _, rfl⟩ := hv
      have hlt : gt < W.heap.size := (hown.lt gt rfl).2
      obtain ⟨tn, tl, tu, te, ta, tg⟩ := t
      have a0 := row_cell hown (fun _ => rfl) e1 hkn (j := 2) (u := .int .i64 tu) rfl
      (try simp only [Nat.add_zero] at hR)
      clear d1 e1 hkt hown
      by_cases hnm : tu = nu
      · subst hnm
        have HR2 : Hid (some k = R) := Lib.hid (by rw [if_pos (by simp)] at hR; exact hR)
        clear hR HRR
        go_wp2_with fail
        go_ret
        rw [← HR2.out]
        exact ⟨ret_int rfl, rfl⟩
      · have hnb : (tu == nu) = false := by rw [beq_eq_false_iff_ne]; exact hnm
        have hnd : decide (tu = nu) = false := decide_eq_false hnm
        have HR2 : Hid (Sp.findIx (fun t => t.num == nu) (toks.drop (k + 1)) (k + 1) = R) := Lib.hid (by rw [if_neg (by simpa using hnm)] at hR; exact hR)
        clear hR HRR
        go_wp2_with fail
        go_roundg (n - (k + 1))
        case measure => omega
        case rel => exact ⟨k + 1, by omega, by omega, by omega, by go_num, rfl, HR2.out⟩
    · obtain rfl : k = n := by omega
      have HR2 : Hid (none = R) := Lib.hid (by
        have h := HRR.out
        rw [List.drop_eq_nil_of_le (by rw [HN.out]; exact Nat.le_refl _)] at h
        unfold Sp.findIx at h
        exact h)
      clear HRR
      go_wp2_with fail
      go_ret
      rw [← HR2.out]
      exact ⟨ret_int rfl, rfl⟩
set_option maxRecDepth 100000 in
set_option maxHeartbeats 3200000 in
/-- The place of a name that has a tag. -/
theorem ref_typeOf {S : Nat → Prop} {B N : Nat} {W : World} {m : Nat} {r : Sp.Rk} {v : RkV} (nm : List UInt8) (h : RefAt S B W m r v) (hr : Sp.RB N r) (hN : N ≤ 2 ^ 40) :
    Calls Tryd.prog 43 #[.pointer (some ⟨m, 0, none⟩), .string ⟨nm.toArray⟩] W fun e w' => e = .returned (.int .i64 (ixI (Sp.typeIx r.types nm))) ∧ W = w' := by
  have h3 := hr.three
  have hn40 := Nat.le_trans hr.types hN
  obtain ⟨toks, given, types, lefts, prods, fault, level, inner⟩ := r
  have hb := h.block; have hown := h.types
  unfold rkCells at hb
  obtain ⟨va, vc, htv⟩ := ownsRowS_some hown
  rw [htv] at hb hown
  simp only at hb hown h3 hn40 ⊢
  generalize hR : Sp.typeIx types nm = R
  unfold Sp.typeIx at hR
  have c0 := cell_at (i := 6) hb
  have hl := lt_at hb
  generalize hn : types.length = n at *
  have HO := Lib.hid hown; have HR := Lib.hid hR; have HN := Lib.hid hn
  clear h hb hown hR hn htv
  go_enter Tryd.func43, Tryd.ntmps43
  go_wp2_with fail
  go_loopg [5] (n - 0) (fun g iv wr => ∃ k : Nat, 0 ≤ k ∧ k ≤ n ∧ g = n - k ∧ iv = .int .i64 k ∧ W = wr ∧ Sp.findIx (fun p => p.1 == nm) (types.drop k) k = R)
  case atStart => exact ⟨0, Nat.le_refl _, by omega, rfl, rfl, rfl, HR.out⟩
  case round =>
    obtain ⟨k, hk3, hk, rfl, rfl, rfl, hR⟩ := hrel
    have HRR := Lib.hid hR
    clear hR
    have hk0 : (0 : Int) ≤ (k : Int) := Int.natCast_nonneg _
    by_cases hkn : k < n
    · have hk1 : (k : Int) < (n : Int) := by omega
      have hkt : k < types.length := by have := HN.out; omega
      have e1 := List.getElem?_eq_getElem hkt
      have d1 : types.drop k = types[k] :: types.drop (k + 1) := List.drop_eq_getElem_cons hkt
      have hR := HRR.out
      rw [d1] at hR
      unfold Sp.findIx at hR
      generalize types[k] = t at *
      have hown := HO.out
      obtain ⟨gt, ct, hv⟩ := own_form hown (by omega)
      simp only [Value.slice.injEq] at hv
      obtain ⟨rfl, _, rfl⟩ := hv
      have hlt : gt < W.heap.size := (hown.lt gt rfl).2
      obtain ⟨tn, tg⟩ := t
      have a0 := row_cell hown (fun _ => rfl) e1 hkn (j := 0) (u := .string ⟨tn.toArray⟩) rfl
      simp only [Nat.add_zero] at a0
      (try simp only [Nat.add_zero] at hR)
      clear d1 e1 hkt hown
      by_cases hnm : tn = nm
      · subst hnm
        have HR2 : Hid (some k = R) := Lib.hid (by rw [if_pos (by simp)] at hR; exact hR)
        clear hR HRR
        go_wp2_with fail
        go_ret
        rw [← HR2.out]
        exact ⟨ret_int rfl, rfl⟩
      · have hnb : (tn == nm) = false := by rw [beq_eq_false_iff_ne]; exact hnm
        have hnd : decide (tn = nm) = false := decide_eq_false hnm
        have HR2 : Hid (Sp.findIx (fun p => p.1 == nm) (types.drop (k + 1)) (k + 1) = R) := Lib.hid (by rw [if_neg (by simpa using hnm)] at hR; exact hR)
        clear hR HRR
        go_wp2_with fail
        go_roundg (n - (k + 1))
        case measure => omega
        case rel => exact ⟨k + 1, by omega, by omega, by omega, by go_num, rfl, HR2.out⟩
    · obtain rfl : k = n := by omega
      have HR2 : Hid (none = R) := Lib.hid (by
        have h := HRR.out
        rw [List.drop_eq_nil_of_le (by rw [HN.out]; exact Nat.le_refl _)] at h
        unfold Sp.findIx at h
        exact h)
      clear HRR
      go_wp2_with fail
      go_ret
      rw [← HR2.out]
      exact ⟨ret_int rfl, rfl⟩
set_option maxRecDepth 100000 in
set_option maxHeartbeats 3200000 in
/-- The place of a Left. -/
theorem ref_left {S : Nat → Prop} {B N : Nat} {W : World} {m : Nat} {r : Sp.Rk} {v : RkV} (nm : List UInt8) (h : RefAt S B W m r v) (hr : Sp.RB N r) (hN : N ≤ 2 ^ 40) :
    Calls Tryd.prog 41 #[.pointer (some ⟨m, 0, none⟩), .string ⟨nm.toArray⟩] W fun e w' => e = .returned (.int .i64 (ixI (Sp.rleft r.lefts nm))) ∧ W = w' := by
  have h3 := hr.three
  have hn40 := Nat.le_trans hr.lefts hN
  obtain ⟨toks, given, types, lefts, prods, fault, level, inner⟩ := r
  have hb := h.block; have hown := h.lefts
  unfold rkCells at hb
  obtain ⟨va, vc, htv⟩ := ownsRowS_some hown
  rw [htv] at hb hown
  simp only at hb hown h3 hn40 ⊢
  generalize hR : Sp.rleft lefts nm = R
  unfold Sp.rleft at hR
  have c0 := cell_at (i := 7) hb
  have hl := lt_at hb
  generalize hn : lefts.length = n at *
  have HO := Lib.hid hown; have HR := Lib.hid hR; have HN := Lib.hid hn
  clear h hb hown hR hn htv
  go_enter Tryd.func41, Tryd.ntmps41
  go_wp2_with fail
  go_loopg [5] (n - 0) (fun g iv wr => ∃ k : Nat, 0 ≤ k ∧ k ≤ n ∧ g = n - k ∧ iv = .int .i64 k ∧ W = wr ∧ Sp.findIx (fun l => l == nm) (lefts.drop k) k = R)
  case atStart => exact ⟨0, Nat.le_refl _, by omega, rfl, rfl, rfl, HR.out⟩
  case round =>
    obtain ⟨k, hk3, hk, rfl, rfl, rfl, hR⟩ := hrel
    have HRR := Lib.hid hR
    clear hR
    have hk0 : (0 : Int) ≤ (k : Int) := Int.natCast_nonneg _
    by_cases hkn : k < n
    · have hk1 : (k : Int) < (n : Int) := by omega
      have hkt : k < lefts.length := by have := HN.out; omega
      have e1 := List.getElem?_eq_getElem hkt
      have d1 : lefts.drop k = lefts[k] :: lefts.drop (k + 1) := List.drop_eq_getElem_cons hkt
      have hR := HRR.out
      rw [d1] at hR
      unfold Sp.findIx at hR
      generalize lefts[k] = t at *
      have hown := HO.out
      obtain ⟨gt, ct, hv⟩ := own_form hown (by omega)
      simp only [Value.slice.injEq] at hv
      obtain ⟨rfl, _, rfl⟩ := hv
      have hlt : gt < W.heap.size := (hown.lt gt rfl).2
      have a0 : W.cell? ⟨gt, k, none⟩ = some (.string ⟨t.toArray⟩) := row_cell1 hown e1 hkn
      (try simp only [Nat.add_zero] at hR)
      clear d1 e1 hkt hown
      by_cases hnm : t = nm
      · subst hnm
        have HR2 : Hid (some k = R) := Lib.hid (by rw [if_pos (by simp)] at hR; exact hR)
        clear hR HRR
        go_wp2_with fail
        go_ret
        rw [← HR2.out]
        exact ⟨ret_int rfl, rfl⟩
      · have hnb : (t == nm) = false := by rw [beq_eq_false_iff_ne]; exact hnm
        have hnd : decide (t = nm) = false := decide_eq_false hnm
        have HR2 : Hid (Sp.findIx (fun l => l == nm) (lefts.drop (k + 1)) (k + 1) = R) := Lib.hid (by rw [if_neg (by simpa using hnm)] at hR; exact hR)
        clear hR HRR
        go_wp2_with fail
        go_roundg (n - (k + 1))
        case measure => omega
        case rel => exact ⟨k + 1, by omega, by omega, by omega, by go_num, rfl, HR2.out⟩
    · obtain rfl : k = n := by omega
      have HR2 : Hid (none = R) := Lib.hid (by
        have h := HRR.out
        rw [List.drop_eq_nil_of_le (by rw [HN.out]; exact Nat.le_refl _)] at h
        unfold Sp.findIx at h
        exact h)
      clear HRR
      go_wp2_with fail
      go_ret
      rw [← HR2.out]
      exact ⟨ret_int rfl, rfl⟩
end Go.Proofs.YtphdfbmmjkccgaaDoor

namespace Go.Proofs.YtphdfbmmjkccgaaDoor
open Go.RowKit Go.Maps

/-- How a step of the document's maker ends. -/
def RefPost (S : Nat → Prop) (B m : Nat) (pv : Value) (W : World) (r' : Sp.Rk) (w' : World) : Prop := ∃ v', RefAt S B w' m r' v' ∧ RFr B W w' ∧ v'.pv = pv
set_option maxRecDepth 100000 in
set_option maxHeartbeats 6400000 in
/-- A token, if it is new. -/
theorem ref_put {S : Nat → Prop} {B N : Nat} {W : World} {m : Nat} {r : Sp.Rk} {v : RkV} (x : Sp.Sym) (h : RefAt S B W m r v) (hr : Sp.RB N r) (hN : N < 2 ^ 40) (hx1 : x.lit = true → ∃ c, x.name = [c]) :
    Calls Tryd.prog 71 #[.pointer (some ⟨m, 0, none⟩), symV x] W fun e w' => e = .returned (.int .i64 ((Sp.rput r x).2 : Int)) ∧ RefPost S B m v.pv W (Sp.rput r x).1 w' := by
  obtain ⟨nm, lt, nu, pa⟩ := x
  show Calls _ _ #[_, .agg #[.string ⟨nm.toArray⟩, .bool lt, .int .i64 nu, .int .i64 pa]] _ _
  simp only at hx1
  have HX1 := Lib.hid hx1
  clear hx1
  obtain ⟨w1, hw1⟩ : ∃ w1 : World, w1 = W.alloc (.cells #[.string ⟨nm.toArray⟩, .bool lt, .int .i64 nu, .int .i64 pa] 40) := ⟨_, rfl⟩
  have hbw : Below W.heap.size W w1 := by rw [hw1]; exact (Below.refl _ W).alloc (Nat.le_refl _) _
  have hx : w1.heap[W.heap.size]? = some (.cells #[.string ⟨nm.toArray⟩, .bool lt, .int .i64 nu, .int .i64 pa] 40 (0, 0)) := by rw [hw1]; exact heap_last W _
  have HBW := Lib.hid hbw; have HH := Lib.hid (h.below hbw); have HX := Lib.hid hx; have HRB := Lib.hid hr
  have hB := h.size
  have x0 := cell_at (i := 0) hx; have x1 := cell_at (i := 1) hx; have x2 := cell_at (i := 2) hx; have x3 := cell_at (i := 3) hx
  have hlx := lt_at hx
  clear h hr hbw hx
  go_enter Tryd.func71, Tryd.ntmps71
  go_upto_region 1 with fail
  rw [← hw1]
  clear hw1
  go_wp2_with fail
  refine (ref_tok ⟨nm, lt, nu, pa⟩ HH.out HRB.out (by omega)).mono ?_
  rintro e w2 ⟨rfl, hb2⟩
  have HX2 := Lib.hid ((hb2.block _ (lt_at HX.out)).trans HX.out)
  have HH2 := Lib.hid (HH.out.below hb2)
  have HB2 := Lib.hid (HBW.out.trans (hb2.mono HBW.out.size))
  clear hb2 HX HH HBW x0 x1 x2 x3 hlx
  cases ho : Sp.rtok r.toks nm lt with
  | some t =>
    have ht0 : (0 : Int) ≤ (t : Int) := Int.natCast_nonneg _
    dsimp only [ixI]
    go_wp2_with fail
    go_ret
    have e : Sp.rput r ⟨nm, lt, nu, pa⟩ = (r, t) := by unfold Sp.rput; simp only [ho]
    rw [e]
    exact ⟨ret_int rfl, v, HH2.out, RFr.below HB2.out hB, rfl⟩
  | none =>
    dsimp only [ixI]
    obtain ⟨tn, htn⟩ : ∃ tn : Int, tn = if lt = true then Sp.byte0 nm else 0 := ⟨_, rfl⟩
    obtain ⟨F, hF⟩ : ∃ F, F = if lt = true ∧ (Sp.rowner r.toks tn).isSome = true then Sp.failF r.fault pa nm else r.fault := ⟨_, rfl⟩
    have hput : Sp.rput r ⟨nm, lt, nu, pa⟩ = (⟨r.toks ++ [⟨nm, lt, tn, 0, 0, []⟩], r.given ++ [lt], r.types, r.lefts, r.prods, F, r.level, r.inner⟩, r.toks.length) := by
      unfold Sp.rput
      simp only [ho]
      rw [hF, htn]
    have HPUT := Lib.hid hput; have HTN := Lib.hid htn; have HF := Lib.hid hF
    clear hput htn hF ho
    have y0 := cell_at (i := 0) HX2.out; have y1 := cell_at (i := 1) HX2.out; have y2 := cell_at (i := 2) HX2.out; have y3 := cell_at (i := 3) HX2.out
    have ly := lt_at HX2.out
    go_upto_if 19 with fail
    go_cut [] (fun wx => RefAt S B wx m ⟨r.toks, r.given, r.types, r.lefts, r.prods, F, r.level, r.inner⟩ v ∧ RFr B W wx ∧ w2.heap.size ≤ wx.heap.size ∧ wx.heap[W.heap.size]? = some (.cells #[.string ⟨nm.toArray⟩, .bool lt, .int .i64 nu, .int .i64 pa] 40 (0, 0)) ∧ wx.heap[w2.heap.size]? = some (.cells (tokC ⟨nm, lt, tn, 0, 0, []⟩).toArray 114 (0, 0)))
    case first =>
      cases lt with
      | false =>
        go_wp2_with fail
        go_meet
        have e1 : tn = 0 := HTN.out
        have e2 : F = r.fault := by rw [HF.out]; rfl
        subst e1 e2
        have hb3 : Below w2.heap.size w2 (w2.alloc (.cells (tokC ⟨nm, false, 0, 0, 0, []⟩).toArray 114)) := (Below.refl _ w2).alloc (Nat.le_refl _) _
        exact ⟨HH2.out.below hb3, RFr.below (HB2.out.trans (hb3.mono HB2.out.size)) hB, hb3.size, (hb3.block _ (lt_at HX2.out)).trans HX2.out, heap_last w2 _⟩
      | true =>
        obtain ⟨c, rfl⟩ := HX1.out rfl
        have e1 : tn = (c.toNat : Int) := HTN.out
        subst e1
        go_upto_region 7 with fail
        rw [byte_wrap]
        obtain ⟨w3, hw3⟩ : ∃ w3 : World, w3 = w2.alloc (.cells #[.string ⟨#[c]⟩, .bool true, .int .i64 (c.toNat : Int), .int .i64 0, .int .i64 0, .string ⟨#[]⟩] 114) := ⟨_, rfl⟩
        rw [← hw3]
        have hb3 : Below w2.heap.size w2 w3 := by rw [hw3]; exact (Below.refl _ w2).alloc (Nat.le_refl _) _
        have hk3 : w3.heap[w2.heap.size]? = some (.cells (tokC ⟨[c], true, (c.toNat : Int), 0, 0, []⟩).toArray 114 (0, 0)) := by rw [hw3]; exact heap_last w2 _
        have hx3 := (hb3.block _ (lt_at HX2.out)).trans HX2.out
        have HB3 := Lib.hid hb3; have HK3 := Lib.hid hk3; have HX3 := Lib.hid hx3
        have HH3 := Lib.hid (HH2.out.below hb3)
        have u2 := cell_at (i := 2) hk3; have u0 := cell_at (i := 0) hx3; have u3 := cell_at (i := 3) hx3
        have lk := lt_at hk3; have lx := lt_at hx3
        simp only [tokC] at u2
        clear hw3 hb3 hk3 hx3 y0 y1 y2 y3 ly
        go_wp2_with fail
        refine (ref_owner (c.toNat : Int) HH3.out HRB.out (by omega)).mono ?_
        rintro e w' ⟨rfl, rfl⟩
        cases ho : Sp.rowner r.toks (c.toNat : Int) with
        | some k =>
          have e2 : F = Sp.failF r.fault pa [c] := by rw [HF.out, ho]; rfl
          subst e2
          have hk0 : (0 : Int) ≤ (k : Int) := Int.natCast_nonneg _
          dsimp only [ixI]
          clear ho
          go_wp2_with fail
          refine (ref_fail pa [c] HH3.out).mono ?_
          rintro e w4 ⟨rfl, h4, hf4, hk4⟩
          go_wp2_with fail
          go_meet
          exact ⟨h4, (RFr.below (HB2.out.trans (HB3.out.mono HB2.out.size)) hB).trans hf4, Nat.le_trans HB3.out.size hf4.size, hf4.at HX3.out (by unfold RT; decide), hk4 _ _ _ _ HK3.out (by decide)⟩
        | none =>
          have e2 : F = r.fault := by rw [HF.out, ho]; rfl
          subst e2
          dsimp only [ixI]
          clear ho
          go_wp2_with fail
          go_meet
          exact ⟨HH3.out, RFr.below (HB2.out.trans (HB3.out.mono HB2.out.size)) hB, HB3.out.size, HX3.out, HK3.out⟩
    case rest =>
      obtain ⟨w3, hw3⟩ : ∃ w3 : World, w3 = wc := ⟨_, rfl⟩
      subst hw3
      obtain ⟨h3, hf3, hs3, hx3, hk3⟩ := hcut
      obtain ⟨n, hn⟩ : ∃ n, n = r.toks.length := ⟨_, rfl⟩
      have hsame := HRB.out.same; have hth := HRB.out.three; have hle := HRB.out.toks
      rw [← hn] at hsame hth hle
      have ht := h3.toks; have hb := h3.block
      unfold rkCells at hb
      simp only at ht hb
      rw [← hn] at ht
      obtain ⟨gt, ct, htv⟩ := own_form ht (by omega)
      rw [htv] at ht hb
      have hlm := lt_at hb
      have hmt : ¬ m = gt := fun e => (row_ne_cells ht hb (by decide) gt rfl) e.symm
      have hgt := (ht.lt gt rfl)
      generalize hg7 : w2.heap.size = g7 at *
      have hkt : ¬ g7 = gt := by
        have := (HH2.out.toks.lt gt (by rw [htv]; rfl)).2
        omega
      have HSK := Lib.hid (fun (w' : World) (k : Kp (fun b => b ≠ gt) w3 w') => (show ((w'.cell? ⟨m, 0, none⟩ = some (.slice (some ⟨gt, 0, none⟩) n ct) ∧ w'.frozen? ⟨m, 0, none⟩ = false) ∧ (w'.cell? ⟨g7, 0, none⟩ = some (.string ⟨nm.toArray⟩) ∧ w'.cell? ⟨g7, 1, none⟩ = some (.bool lt) ∧ w'.cell? ⟨g7, 2, none⟩ = some (.int .i64 tn) ∧ w'.cell? ⟨g7, 3, none⟩ = some (.int .i64 0) ∧ w'.cell? ⟨g7, 4, none⟩ = some (.int .i64 0) ∧ w'.cell? ⟨g7, 5, none⟩ = some (.string ⟨#[]⟩)) ∧ m < w'.heap.size ∧ g7 < w'.heap.size) from by
        have k1 := (k.block m hlm hmt).trans hb
        have k2 := (k.block g7 (lt_at hk3) hkt).trans hk3
        exact ⟨⟨cell_at (i := 0) k1, frozen_at (i := 0) k1⟩, ⟨cell_at (i := 0) k2, cell_at (i := 1) k2, cell_at (i := 2) k2, cell_at (i := 3) k2, cell_at (i := 4) k2, cell_at (i := 5) k2⟩, lt_at k1, lt_at k2⟩))
      have HTR := Lib.hid ht; have HH3 := Lib.hid h3; have HF3 := Lib.hid hf3; have HX3 := Lib.hid hx3
      have HN := Lib.hid hn; have HSA := Lib.hid hsame; have HTV := Lib.hid htv
      obtain ⟨it0, hit0, htz0, htz1, htz2⟩ := info_parts info_tokE
      obtain ⟨ib0, hib0, hbz0, hbz1, hbz2⟩ := info_parts info_boolE
      have hBs : B ≤ w3.heap.size := by omega
      clear ht hb hk3 h3 hf3 hx3 hn hsame htv y0 y1 y2 y3 ly
      go_upto_region 9 with fail
      refine wp_region_plan (fun w' : World => ((w'.cell? ⟨m, 0, none⟩ = some (.slice (some ⟨gt, 0, none⟩) n ct) ∧ w'.frozen? ⟨m, 0, none⟩ = false) ∧ (w'.cell? ⟨g7, 0, none⟩ = some (.string ⟨nm.toArray⟩) ∧ w'.cell? ⟨g7, 1, none⟩ = some (.bool lt) ∧ w'.cell? ⟨g7, 2, none⟩ = some (.int .i64 tn) ∧ w'.cell? ⟨g7, 3, none⟩ = some (.int .i64 0) ∧ w'.cell? ⟨g7, 4, none⟩ = some (.int .i64 0) ∧ w'.cell? ⟨g7, 5, none⟩ = some (.string ⟨#[]⟩)) ∧ m < w'.heap.size ∧ g7 < w'.heap.size)) [12] (.take 0 (.take 1 (.take 2 (.take 3 (.take 4 (.take 5 (.take 6 (.one 7 (.one 8 (.one 9 (.one 10 (.one 11 (.one 12 (.done)))))))))))))) (by kernel_rfl) (by kernel_rfl) (fun _ _ _ _ h => h) ?_
      have hSw := HSK.out _ ((Kp.refl _ w3).drew)
      refine wpPlan_takeD (v := ?va1) rfl rfl hSw (by rfl) ?ya1 ?_
      case ya1 => (intro w hSx; (try dsimp only at hSx); go_simp; first | done | with_reducible rfl | rfl)
      (try simp only [Act.put, List.setIfInBounds_toArray, List.set_cons_zero, List.set_cons_succ])
      refine wpPlan_takeD (v := ?va2) rfl rfl hSw (by rfl) ?ya2 ?_
      case ya2 => (intro w hSx; (try dsimp only at hSx); go_simp; first | done | with_reducible rfl | rfl)
      (try simp only [Act.put, List.setIfInBounds_toArray, List.set_cons_zero, List.set_cons_succ])
      refine wpPlan_takeD (v := ?va3) rfl rfl hSw (by rfl) ?ya3 ?_
      case ya3 => (intro w hSx; (try dsimp only at hSx); go_simp; first | done | with_reducible rfl | rfl)
      (try simp only [Act.put, List.setIfInBounds_toArray, List.set_cons_zero, List.set_cons_succ])
      refine wpPlan_takeD (v := ?va4) rfl rfl hSw (by rfl) ?ya4 ?_
      case ya4 => (intro w hSx; (try dsimp only at hSx); go_simp; first | done | with_reducible rfl | rfl)
      (try simp only [Act.put, List.setIfInBounds_toArray, List.set_cons_zero, List.set_cons_succ])
      refine wpPlan_takeD (v := ?va5) rfl rfl hSw (by rfl) ?ya5 ?_
      case ya5 => (intro w hSx; (try dsimp only at hSx); go_simp; first | done | with_reducible rfl | rfl)
      (try simp only [Act.put, List.setIfInBounds_toArray, List.set_cons_zero, List.set_cons_succ])
      refine wpPlan_takeD (v := ?va6) rfl rfl hSw (by rfl) ?ya6 ?_
      case ya6 => (intro w hSx; (try dsimp only at hSx); go_simp; first | done | with_reducible rfl | rfl)
      (try simp only [Act.put, List.setIfInBounds_toArray, List.set_cons_zero, List.set_cons_succ])
      refine wpPlan_takeD (v := ?va7) rfl rfl hSw (by rfl) ?ya7 ?_
      case ya7 => (intro w hSx; (try dsimp only at hSx); go_simp; first | done | with_reducible rfl | rfl)
      (try simp only [Act.put, List.setIfInBounds_toArray, List.set_cons_zero, List.set_cons_succ])
      refine wpPlan_run rfl (by rfl) (fun K' hK => ?_)
      go_simp
      refine hK _ _ (.inr ?_) ?_
      · exact HSK.out _ (((Kp.refl _ w3).drew).alloc (.cells (tokC ⟨nm, lt, tn, 0, 0, []⟩).toArray 114))
      clear hK K' hSw
      (try simp only [Act.put, List.setIfInBounds_toArray, List.set_cons_zero, List.set_cons_succ])
      refine wpPlan_run rfl (by rfl) (fun K' hK => ?_)
      (refine wp_append_lies _ _ _ _ (by rfl) B 114 it0 _ 6 64 Tryd.underlying54 hit0 htz0 htz1 htz2 rfl (by omega) _ _ _ (by rfl) (HTR.out.alloc _) ⟨w3.heap.size, 0, none⟩ 1 1 (tokC ⟨nm, lt, tn, 0, 0, []⟩) (by rfl) (by rfl) (World.news_of_block (cs := (tokC ⟨nm, lt, tn, 0, 0, []⟩).toArray) (t := 114) (fr := (0, 0)) (heap_last w3 _)) (by simp [Value.oneCell', tokC]) (by omega) (by unfold maxLen; omega) (by omega) (by show B ≤ (w3.alloc (.cells (tokC ⟨nm, lt, tn, 0, 0, []⟩).toArray 114)).heap.size; simp only [World.size_alloc]; omega) _ rfl ?_; intro gg1 cp1 w5 hown1 hgrow1 hat1 hlt1; replace hgrow1 : (w3.alloc (.cells (tokC ⟨nm, lt, tn, 0, 0, []⟩).toArray 114)).grownBy w5 (Value.slice (some ⟨gt, 0, none⟩) n ct).ownBlock := ⟨hgrow1.os, hgrow1.tape, hgrow1.output, hgrow1.size, hgrow1.block⟩; have hk5 : Kp (fun b => b ≠ gt) w3 w5 := ((Kp.refl _ w3).alloc (.cells (tokC ⟨nm, lt, tn, 0, 0, []⟩).toArray 114)).grown hgrow1 (fun k hk hs => hs (Option.some.inj hk).symm))
      refine hK _ _ (.inr ?_) ?_
      · exact HSK.out _ hk5
      clear hK K'
      (try simp only [Act.put, List.setIfInBounds_toArray, List.set_cons_zero, List.set_cons_succ])
      refine wpPlan_run rfl (by rfl) (fun K' hK => ?_)
      go_simp
      refine hK _ _ (.inr ?_) ?_
      · exact HSK.out _ hk5
      clear hK K'
      (try simp only [Act.put, List.setIfInBounds_toArray, List.set_cons_zero, List.set_cons_succ])
      refine wpPlan_run rfl (by rfl) (fun K' hK => ?_)
      go_simp
      refine hK _ _ (.inr ?_) ?_
      · exact HSK.out _ hk5
      clear hK K'
      (try simp only [Act.put, List.setIfInBounds_toArray, List.set_cons_zero, List.set_cons_succ])
      refine wpPlan_run rfl (by rfl) (fun K' hK => ?_)
      go_simp
      refine hK _ _ (.inr ?_) ?_
      · exact HSK.out _ hk5
      clear hK K'
      (try simp only [Act.put, List.setIfInBounds_toArray, List.set_cons_zero, List.set_cons_succ])
      refine wpPlan_run rfl (by rfl) (fun K' hK => ?_)
      (obtain ⟨⟨z1, z2⟩, _, hl8, _⟩ := HSK.out _ hk5; go_simp)
      refine hK _ _ (.inl rfl) ?_
      clear hK K'
      (try simp only [Act.put, List.setIfInBounds_toArray, List.set_cons_zero, List.set_cons_succ])
      refine wpPlan_done ?_
      have kt5 : KpT (fun t => t ≠ 114) w3 w5 := (KpT.below ((Below.refl _ w3).alloc (Nat.le_refl _) _)).trans (KpT.grown (HTR.out.alloc _) hgrow1)
      have hb5 : Below B w3 w5 := Kp.below hk5 hBs (fun b hb e => by omega)
      obtain ⟨h6, hf6⟩ := HH3.out.addTok (t := ⟨nm, lt, tn, 0, 0, []⟩) (by simp only; rw [← HN.out]; exact hown1) kt5 hb5
      obtain ⟨w6, hw6⟩ : ∃ w6 : World, w6 = w5.setCell ⟨m, 0, none⟩ (.slice (some ⟨gg1, 0, none⟩) (n + 1) cp1) := ⟨_, rfl⟩
      rw [← hw6] at h6 hf6 ⊢
      have hx6 := hf6.at HX3.out (by unfold RT; decide)
      have hg := h6.given; have hb := h6.block
      unfold rkCells at hb
      simp only at hg hb
      rw [HSA.out] at hg
      obtain ⟨gg, cg, hgv⟩ := own_form hg (by omega)
      rw [hgv] at hg hb
      have hmg : ¬ m = gg := fun e => (row_ne_cells hg hb (by decide) gg rfl) e.symm
      have hxg : ¬ W.heap.size = gg := fun e => (row_ne_cells hg hx6 (by decide) gg rfl) e.symm
      have hgl := (hg.lt gg rfl)
      have HSK2 := Lib.hid (fun (w' : World) (k : Kp (fun b => b ≠ gg) w6 w') => (show ((w'.cell? ⟨m, 5, none⟩ = some (.slice (some ⟨gg, 0, none⟩) n cg) ∧ w'.frozen? ⟨m, 5, none⟩ = false) ∧ w'.cell? ⟨W.heap.size, 1, none⟩ = some (.bool lt) ∧ m < w'.heap.size ∧ W.heap.size < w'.heap.size) from by
        have k1 := (k.block m (lt_at hb) hmg).trans hb
        have k2 := (k.block W.heap.size (lt_at hx6) hxg).trans hx6
        exact ⟨⟨cell_at (i := 5) k1, frozen_at (i := 5) k1⟩, cell_at (i := 1) k2, lt_at k1, lt_at k2⟩))
      have HGR := Lib.hid hg; have HH6 := Lib.hid h6; have HF6 := Lib.hid (HF3.out.trans hf6); have HGV := Lib.hid hgv
      have hBs6 : B ≤ w6.heap.size := by have := hf6.size; omega
      clear hw6 kt5 hb5 hown1 hgrow1 hat1 hlt1 hk5 h6 hf6 hx6 hg hb hgv HSK HTR HH3 HF3 z1 z2 hl8
      go_upto_region 10 with fail
      refine wp_region_plan (fun w' : World => ((w'.cell? ⟨m, 5, none⟩ = some (.slice (some ⟨gg, 0, none⟩) n cg) ∧ w'.frozen? ⟨m, 5, none⟩ = false) ∧ w'.cell? ⟨W.heap.size, 1, none⟩ = some (.bool lt) ∧ m < w'.heap.size ∧ W.heap.size < w'.heap.size)) [11] (.take 0 (.take 1 (.take 2 (.take 3 (.take 4 (.take 5 (.take 6 (.one 7 (.one 8 (.one 9 (.one 10 (.one 11 (.done))))))))))))) (by kernel_rfl) (by kernel_rfl) (fun _ _ _ _ h => h) ?_
      have hSw := HSK2.out _ ((Kp.refl _ w6).drew)
      refine wpPlan_takeD (v := ?vb8) rfl rfl hSw (by rfl) ?yb8 ?_
      case yb8 => (intro w hSx; (try dsimp only at hSx); go_simp; first | done | with_reducible rfl | rfl)
      (try simp only [Act.put, List.setIfInBounds_toArray, List.set_cons_zero, List.set_cons_succ])
      refine wpPlan_takeD (v := ?vb9) rfl rfl hSw (by rfl) ?yb9 ?_
      case yb9 => (intro w hSx; (try dsimp only at hSx); go_simp; first | done | with_reducible rfl | rfl)
      (try simp only [Act.put, List.setIfInBounds_toArray, List.set_cons_zero, List.set_cons_succ])
      refine wpPlan_takeD (v := ?vb10) rfl rfl hSw (by rfl) ?yb10 ?_
      case yb10 => (intro w hSx; (try dsimp only at hSx); go_simp; first | done | with_reducible rfl | rfl)
      (try simp only [Act.put, List.setIfInBounds_toArray, List.set_cons_zero, List.set_cons_succ])
      refine wpPlan_takeD (v := ?vb11) rfl rfl hSw (by rfl) ?yb11 ?_
      case yb11 => (intro w hSx; (try dsimp only at hSx); go_simp; first | done | with_reducible rfl | rfl)
      (try simp only [Act.put, List.setIfInBounds_toArray, List.set_cons_zero, List.set_cons_succ])
      refine wpPlan_takeD (v := ?vb12) rfl rfl hSw (by rfl) ?yb12 ?_
      case yb12 => (intro w hSx; (try dsimp only at hSx); go_simp; first | done | with_reducible rfl | rfl)
      (try simp only [Act.put, List.setIfInBounds_toArray, List.set_cons_zero, List.set_cons_succ])
      refine wpPlan_takeD (v := ?vb13) rfl rfl hSw (by rfl) ?yb13 ?_
      case yb13 => (intro w hSx; (try dsimp only at hSx); go_simp; first | done | with_reducible rfl | rfl)
      (try simp only [Act.put, List.setIfInBounds_toArray, List.set_cons_zero, List.set_cons_succ])
      refine wpPlan_takeD (v := ?vb14) rfl rfl hSw (by rfl) ?yb14 ?_
      case yb14 => (intro w hSx; (try dsimp only at hSx); go_simp; first | done | with_reducible rfl | rfl)
      (try simp only [Act.put, List.setIfInBounds_toArray, List.set_cons_zero, List.set_cons_succ])
      refine wpPlan_run rfl (by rfl) (fun K' hK => ?_)
      go_simp
      refine hK _ _ (.inr ?_) ?_
      · exact HSK2.out _ (((Kp.refl _ w6).drew).alloc (.cells #[.bool lt] 4))
      clear hK K' hSw
      (try simp only [Act.put, List.setIfInBounds_toArray, List.set_cons_zero, List.set_cons_succ])
      refine wpPlan_run rfl (by rfl) (fun K' hK => ?_)
      (refine wp_append_lies _ _ _ _ (by rfl) B 4 ib0 _ 1 1 Tryd.underlying22 hib0 hbz0 hbz1 hbz2 rfl (by omega) _ _ _ (by rfl) (HGR.out.alloc _) ⟨w6.heap.size, 0, none⟩ 1 1 [.bool lt] (by rfl) (by rfl) (World.news_of_block (cs := #[.bool lt]) (t := 4) (fr := (0, 0)) (heap_last w6 _)) (by simp [Value.oneCell']) (by omega) (by unfold maxLen; omega) (by omega) (by show B ≤ (w6.alloc (.cells #[.bool lt] 4)).heap.size; simp only [World.size_alloc]; omega) _ rfl ?_; intro gg2 cp2 w7 hown2 hgrow2 hat2 hlt2; replace hgrow2 : (w6.alloc (.cells #[.bool lt] 4)).grownBy w7 (Value.slice (some ⟨gg, 0, none⟩) n cg).ownBlock := ⟨hgrow2.os, hgrow2.tape, hgrow2.output, hgrow2.size, hgrow2.block⟩; have hk7 : Kp (fun b => b ≠ gg) w6 w7 := ((Kp.refl _ w6).alloc (.cells #[.bool lt] 4)).grown hgrow2 (fun k hk hs => hs (Option.some.inj hk).symm))
      refine hK _ _ (.inr ?_) ?_
      · exact HSK2.out _ hk7
      clear hK K'
      (try simp only [Act.put, List.setIfInBounds_toArray, List.set_cons_zero, List.set_cons_succ])
      refine wpPlan_run rfl (by rfl) (fun K' hK => ?_)
      go_simp
      refine hK _ _ (.inr ?_) ?_
      · exact HSK2.out _ hk7
      clear hK K'
      (try simp only [Act.put, List.setIfInBounds_toArray, List.set_cons_zero, List.set_cons_succ])
      refine wpPlan_run rfl (by rfl) (fun K' hK => ?_)
      go_simp
      refine hK _ _ (.inr ?_) ?_
      · exact HSK2.out _ hk7
      clear hK K'
      (try simp only [Act.put, List.setIfInBounds_toArray, List.set_cons_zero, List.set_cons_succ])
      refine wpPlan_run rfl (by rfl) (fun K' hK => ?_)
      (obtain ⟨⟨z1, z2⟩, _, hl8, _⟩ := HSK2.out _ hk7; go_simp)
      refine hK _ _ (.inl rfl) ?_
      clear hK K'
      (try simp only [Act.put, List.setIfInBounds_toArray, List.set_cons_zero, List.set_cons_succ])
      refine wpPlan_done ?_
      have kt7 : KpT (fun t => t ≠ 4) w6 w7 := (KpT.below ((Below.refl _ w6).alloc (Nat.le_refl _) _)).trans (KpT.grown (HGR.out.alloc _) hgrow2)
      have hb7 : Below B w6 w7 := Kp.below hk7 hBs6 (fun b hb e => by omega)
      obtain ⟨h8, hf8⟩ := HH6.out.addGiven (b := lt) (by simp only; rw [HSA.out]; exact hown2) kt7 hb7
      obtain ⟨w8, hw8⟩ : ∃ w8 : World, w8 = w7.setCell ⟨m, 5, none⟩ (.slice (some ⟨gg2, 0, none⟩) (n + 1) cp2) := ⟨_, rfl⟩
      rw [← hw8] at h8 hf8 ⊢
      have hb := h8.block
      unfold rkCells at hb
      simp only at hb
      have c0 := cell_at (i := 0) hb
      have lm := lt_at hb
      have HF8 := Lib.hid (HF6.out.trans hf8); have HH8 := Lib.hid h8
      have hn40 : n < 2 ^ 40 := by omega
      clear hw8 kt7 hb7 hown2 hgrow2 hat2 hlt2 hk7 h8 hf8 hb HSK2 HGR HH6 HF6 z1 z2 hl8
      go_wp2_with fail
      go_ret
      rw [HPUT.out]
      exact ⟨ret_int (by simp only; rw [← HN.out]), _, HH8.out, HF8.out, rfl⟩
theorem RefPost.mono {S : Nat → Prop} {B m : Nat} {pv : Value} {W w1 w' : World} {r' : Sp.Rk} (h : RefPost S B m pv w1 r' w') (hb : RFr B W w1) : RefPost S B m pv W r' w' := by
  obtain ⟨v', h1, h2, h3⟩ := h
  exact ⟨v', h1, hb.trans h2, h3⟩
set_option maxRecDepth 100000 in
set_option maxHeartbeats 6400000 in
/-- A symbol of an alternative. -/
theorem ref_symbol {S : Nat → Prop} {B N : Nat} {W : World} {m : Nat} {r : Sp.Rk} {v : RkV} (x : Sp.Sym) (h : RefAt S B W m r v) (hr : Sp.RB N r) (hN : N < 2 ^ 40) (hx1 : x.lit = true → ∃ c, x.name = [c]) :
    Calls Tryd.prog 73 #[.pointer (some ⟨m, 0, none⟩), symV x] W fun e w' => e = .returned (.int .i64 (Sp.rsymbol r x).2) ∧ RefPost S B m v.pv W (Sp.rsymbol r x).1 w' := by
  obtain ⟨nm, lt, nu, pa⟩ := x
  show Calls _ _ #[_, .agg #[.string ⟨nm.toArray⟩, .bool lt, .int .i64 nu, .int .i64 pa]] _ _
  simp only at hx1
  have HX1 := Lib.hid hx1
  clear hx1
  obtain ⟨w1, hw1⟩ : ∃ w1 : World, w1 = W.alloc (.cells #[.string ⟨nm.toArray⟩, .bool lt, .int .i64 nu, .int .i64 pa] 40) := ⟨_, rfl⟩
  have hbw : Below W.heap.size W w1 := by rw [hw1]; exact (Below.refl _ W).alloc (Nat.le_refl _) _
  have hx : w1.heap[W.heap.size]? = some (.cells #[.string ⟨nm.toArray⟩, .bool lt, .int .i64 nu, .int .i64 pa] 40 (0, 0)) := by rw [hw1]; exact heap_last W _
  have hB := h.size
  have HF1 := Lib.hid (RFr.below hbw hB); have HH := Lib.hid (h.below hbw); have HX := Lib.hid hx; have HRB := Lib.hid hr
  have x0 := cell_at (i := 0) hx; have x1 := cell_at (i := 1) hx; have x2 := cell_at (i := 2) hx; have x3 := cell_at (i := 3) hx
  have hlx := lt_at hx
  clear h hr hbw hx
  go_enter Tryd.func73, Tryd.ntmps73
  go_upto_region 1 with fail
  rw [← hw1]
  clear hw1
  cases lt with
  | true =>
    have e : Sp.rsymbol r ⟨nm, true, nu, pa⟩ = ((Sp.rput r ⟨nm, true, nu, pa⟩).1, ((Sp.rput r ⟨nm, true, nu, pa⟩).2 : Int)) := rfl
    have hp := ref_put ⟨nm, true, nu, pa⟩ HH.out HRB.out hN HX1.out
    have E := Lib.hid e; have HP := Lib.hid hp
    clear e hp
    go_wp2_with fail
    refine HP.out.mono ?_
    rintro e w2 ⟨rfl, h2⟩
    have H2 := Lib.hid h2
    clear h2 x0 x1 x2 x3
    go_wp2_with fail
    go_ret
    rw [E.out]
    exact ⟨ret_int rfl, H2.out.mono HF1.out⟩
  | false =>
    go_wp2_with fail
    refine (ref_left nm HH.out HRB.out (by omega)).mono ?_
    rintro e w2 ⟨rfl, rfl⟩
    cases hl : Sp.rleft r.lefts nm with
    | some k =>
      have E : Hid (Sp.rsymbol r ⟨nm, false, nu, pa⟩ = (r, 1000 + 1 + (k : Int))) := Lib.hid (by unfold Sp.rsymbol; simp [hl])
      have hk0 : (0 : Int) ≤ (k : Int) := Int.natCast_nonneg _
      have hkl := Sp.rleft_lt hl
      have hle := HRB.out.lefts
      have hw : IntKind.i64.wrap (1001 + (k : Int)) = 1001 + (k : Int) := IntWalk.i64_in _ ⟨by omega, by omega⟩
      dsimp only [ixI]
      clear hl
      go_wp2_with fail
      go_ret
      rw [E.out]
      exact ⟨ret_int (by simp only; omega), v, HH.out, HF1.out, rfl⟩
    | none =>
      dsimp only [ixI]
      go_wp2_with fail
      refine (ref_tok ⟨nm, false, nu, pa⟩ HH.out HRB.out (by omega)).mono ?_
      rintro e w2 ⟨rfl, hb2⟩
      have HX2 := Lib.hid ((hb2.block _ (lt_at HX.out)).trans HX.out)
      have HH2 := Lib.hid (HH.out.below hb2)
      have HF2 := Lib.hid (HF1.out.trans (RFr.below hb2 HH.out.size))
      clear hb2 HX HH HF1 x0 x1 x2 x3 hlx
      cases ht : Sp.rtok r.toks nm false with
      | some t =>
        have E : Hid (Sp.rsymbol r ⟨nm, false, nu, pa⟩ = (r, (t : Int))) := Lib.hid (by unfold Sp.rsymbol; simp [hl, ht])
        have ht0 : (0 : Int) ≤ (t : Int) := Int.natCast_nonneg _
        dsimp only [ixI]
        clear hl ht
        go_wp2_with fail
        go_ret
        rw [E.out]
        exact ⟨ret_int rfl, v, HH2.out, HF2.out, rfl⟩
      | none =>
        have E : Hid (Sp.rsymbol r ⟨nm, false, nu, pa⟩ = (Sp.rfail r pa nm, 0)) := Lib.hid (by unfold Sp.rsymbol; simp [hl, ht])
        have y0 := cell_at (i := 0) HX2.out; have y3 := cell_at (i := 3) HX2.out
        have ly := lt_at HX2.out
        dsimp only [ixI]
        clear hl ht
        go_wp2_with fail
        refine (ref_fail pa nm HH2.out).mono ?_
        rintro e w4 ⟨rfl, h4, hf4, _⟩
        have H4 := Lib.hid h4; have HF4 := Lib.hid hf4
        clear h4 hf4
        go_wp2_with fail
        go_ret
        rw [E.out]
        exact ⟨ret_int rfl, v, H4.out, HF2.out.trans HF4.out, rfl⟩
end Go.Proofs.YtphdfbmmjkccgaaDoor
