/- read.reader's small functions: is, symbol, named, sym, must, part; the kind of a declaration. read.reader's functions that take a word: sym, part. -/
import Derived.Deep.LoopGhost
import Derived.Test.YtphdfbmmjkccgaaDoorZ08
import Derived.Test.YtphdfbmmjkccgaaDoorZ07
namespace Go.Proofs.YtphdfbmmjkccgaaDoor
open Go.RowKit Go.Maps

section
variable {B : Nat} {W w' : World} {m : Nat} {ws : List Sp.Word} {s : Sp.RdS} {v : RdV}
set_option maxHeartbeats 1600000 in
theorem reader_is (k : Int) (t : List UInt8) (h : ReaderAt B W m ws s v) :
    Calls Tryd.prog 19 #[.pointer (some ⟨m, 0, none⟩), .int .i64 k, .string ⟨t.toArray⟩] W fun e w' => e = .returned (.bool (Sp.isW k t s.ws)) ∧ ∃ n, w' = W.drewN n := by
  obtain ⟨x, l, hx⟩ := h.ends.cons
  obtain ⟨g, cap, hv, hg, hi, a0, a1, a2⟩ := h.words.cells (h.head hx)
  have hb := h.block
  have hsm := h.small
  unfold rdCells at hb
  rw [hv] at hb
  have c0 := cell_at (i := 0) hb; have c1 := cell_at (i := 1) hb
  have lm := lt_at hb
  have HE : Hid (Sp.isW k t s.ws = ((x.kind == k) && (t.isEmpty || (x.text == t)))) := Lib.hid (by rw [hx]; rfl)
  clear h hb hx hv
  rw [HE.out]
  clear HE
  obtain ⟨xk, xt, xa⟩ := x
  simp only at a0 a1 a2 ⊢
  by_cases hk : xk = k
  · subst hk
    cases t with
    | nil =>
      go_enter Tryd.func19, Tryd.ntmps19
      go_wp2_with fail
      go_quiet (fail)
      go_wp2_with fail
      go_ret
      exact ⟨ret_bool (by simp), _, rfl⟩
    | cons c0' t0 =>
      by_cases ht : xt = c0' :: t0
      · subst ht
        go_enter Tryd.func19, Tryd.ntmps19
        go_wp2_with fail
        go_quiet (fail)
        go_wp2_with fail
        go_ret
        exact ⟨ret_bool (by simp), _, rfl⟩
      · have htb : (xt == c0' :: t0) = false := by rw [beq_eq_false_iff_ne]; exact ht
        go_enter Tryd.func19, Tryd.ntmps19
        go_wp2_with fail
        go_quiet (fail)
        go_wp2_with fail
        go_ret
        exact ⟨ret_bool (by simp [htb]), _, rfl⟩
  · have hkb : (xk == k) = false := by rw [beq_eq_false_iff_ne]; exact hk
    have hkd : decide (xk = k) = false := decide_eq_false hk
    go_enter Tryd.func19, Tryd.ntmps19
    go_wp2_with fail
    go_quiet (fail)
    go_wp2_with fail
    go_ret
    exact ⟨ret_bool (by simp [hkb]), _, rfl⟩
set_option maxHeartbeats 1600000 in
theorem reader_symbol (h : ReaderAt B W m ws s v) :
    Calls Tryd.prog 65 #[.pointer (some ⟨m, 0, none⟩)] W fun e w' => e = .returned (.bool (Sp.isSymW s.ws)) ∧ ∃ n, w' = W.drewN n := by
  have H1 := Lib.hid (reader_is 1 [] h); have H2 := Lib.hid (fun n => reader_is 2 [] (h.below (below_drewN (Below.refl _ W) n)))
  have HE : Hid (Sp.isSymW s.ws = (Sp.isW 1 [] s.ws || Sp.isW 2 [] s.ws)) := Lib.hid rfl
  have lm := lt_at h.block
  rw [HE.out]
  clear HE h
  generalize Sp.isW 1 [] s.ws = b1 at *
  generalize Sp.isW 2 [] s.ws = b2 at *
  go_enter Tryd.func65, Tryd.ntmps65
  go_wp2_with fail
  refine H1.out.mono ?_
  rintro e w' ⟨rfl, n1, rfl⟩
  cases b1
  · go_wp2_with fail
    refine (H2.out _).mono ?_
    rintro e w' ⟨rfl, n2, rfl⟩
    go_wp2_with fail
    go_ret
    exact ⟨ret_bool (by simp), _, rfl⟩
  · go_wp2_with fail
    go_ret
    exact ⟨ret_bool rfl, _, rfl⟩
set_option maxHeartbeats 1600000 in
theorem reader_named (h : ReaderAt B W m ws s v) :
    Calls Tryd.prog 66 #[.pointer (some ⟨m, 0, none⟩)] W fun e w' => e = .returned (.bool (Sp.namedW s.ws)) ∧ ∃ n, w' = W.drewN n := by
  have H1 := Lib.hid (fun n => reader_is 1 [] (h.below (below_drewN (Below.refl _ W) n)))
  obtain ⟨x, l, hx⟩ := h.ends.cons
  have hb := h.block
  have lm := lt_at hb
  have hsm := h.small
  have HE : Hid (Sp.namedW s.ws = (Sp.isW 1 [] s.ws && Sp.isW 6 [58] l)) := Lib.hid (by rw [hx, Sp.isW_any]; rfl)
  rw [HE.out]
  by_cases h1 : Sp.isW 1 [] s.ws = true
  · rw [h1]
    have hl : Sp.WEnd l := by
      have := h.ends
      rw [hx] at this h1
      exact this.next (Sp.isW_ten h1 (by decide))
    obtain ⟨y, l2, rfl⟩ := hl.cons
    obtain ⟨g, cap, hv, hg, hi, a0, a1, a2⟩ := h.words.cells (h.head2 hx)
    unfold rdCells at hb
    rw [hv] at hb
    have c0 := cell_at (i := 0) hb; have c1 := cell_at (i := 1) hb
    obtain ⟨yk, yt, ya⟩ := y
    simp only [Bool.true_and] at a0 a1 a2 ⊢
    have HE2 : Hid (Sp.isW 6 [58] (⟨yk, yt, ya⟩ :: l2) = ((yk == 6) && (yt == [58]))) := Lib.hid rfl
    rw [HE2.out]
    rw [h1] at H1
    clear h hb hx hv HE HE2 hl h1
    by_cases hk : yk = 6
    · subst hk
      by_cases ht : yt = [58]
      · subst ht
        go_enter Tryd.func66, Tryd.ntmps66
        go_wp2_with fail
        go_quiet ((go_at_call 19; exact Calls.quiet_of (H1.out _)))
        go_wp2_with fail
        go_ret
        exact ⟨ret_bool (by simp), _, rfl⟩
      · have htb : (yt == [58]) = false := by rw [beq_eq_false_iff_ne]; exact ht
        go_enter Tryd.func66, Tryd.ntmps66
        go_wp2_with fail
        go_quiet ((go_at_call 19; exact Calls.quiet_of (H1.out _)))
        go_wp2_with fail
        go_ret
        exact ⟨ret_bool (by simp [htb]), _, rfl⟩
    · have hkb : (yk == 6) = false := by rw [beq_eq_false_iff_ne]; exact hk
      have hkd : decide (yk = 6) = false := decide_eq_false hk
      go_enter Tryd.func66, Tryd.ntmps66
      go_wp2_with fail
      go_quiet ((go_at_call 19; exact Calls.quiet_of (H1.out _)))
      go_wp2_with fail
      go_ret
      exact ⟨ret_bool (by simp [hkb]), _, rfl⟩
  · have h1 : Sp.isW 1 [] s.ws = false := by simpa using h1
    rw [h1] at H1 ⊢
    clear h hb HE hx h1
    go_enter Tryd.func66, Tryd.ntmps66
    go_wp2_with fail
    go_quiet ((go_at_call 19; exact Calls.quiet_of (H1.out _)))
    go_wp2_with fail
    go_ret
    exact ⟨ret_bool (by simp), _, rfl⟩
set_option maxHeartbeats 1600000 in
/-- The next word is a fault, or not. -/
theorem reader_must (b : Bool) (h : ReaderAt B W m ws s v) (hbad : s.bad = false) :
    Calls Tryd.prog 33 #[.pointer (some ⟨m, 0, none⟩), .bool b] W fun e w' => e = .returned (.bool b) ∧ ReaderAt B w' m ws { s with bad := !b } v ∧ BoxFr B W w' := by
  have hb := h.block
  have lm := lt_at hb
  have k := ReaderAt.box1 hb h.behind 2 (.bool !b)
  have hh : ReaderAt B (W.setCell ⟨m, 2, none⟩ (.bool !b)) m ws { s with bad := !b } v := h.box k.2 (by rw [heap_setCell_at hb]; rfl) rfl rfl h.left h.ends
  have K := Lib.hid k; have HH := Lib.hid hh
  unfold rdCells at hb
  rw [hbad] at hb
  have c2 := cell_at (i := 2) hb
  have f2 := frozen_at (i := 2) hb
  clear h hb k hh
  go_enter Tryd.func33, Tryd.ntmps33
  cases b
  all_goals
    go_wp2_with fail
    go_ret
    exact ⟨ret_bool (by simp), HH.out, K.out⟩
set_option maxHeartbeats 1600000 in
/-- It is a fault already. -/
theorem reader_must_bad (b : Bool) (h : ReaderAt B W m ws s v) (hbad : s.bad = true) :
    Calls Tryd.prog 33 #[.pointer (some ⟨m, 0, none⟩), .bool b] W fun e w' => e = .returned (.bool false) ∧ ReaderAt B w' m ws s v ∧ BoxFr B W w' := by
  have hb := h.block
  have lm := lt_at hb
  have k := ReaderAt.box1 hb h.behind 2 (.bool true)
  have hh : ReaderAt B (W.setCell ⟨m, 2, none⟩ (.bool true)) m ws s v := h.box k.2 (by rw [heap_setCell_at hb]; unfold rdCells; rw [hbad]; rfl) rfl rfl h.left h.ends
  have K := Lib.hid k; have HH := Lib.hid hh
  unfold rdCells at hb
  rw [hbad] at hb
  have c2 := cell_at (i := 2) hb
  have f2 := frozen_at (i := 2) hb
  clear h hb k hh
  go_enter Tryd.func33, Tryd.ntmps33
  go_wp2_with fail
  go_ret
  exact ⟨ret_bool (by simp), HH.out, K.out⟩
end
def kindC : List Value := [.string ⟨#[37, 116, 111, 107, 101, 110]⟩, .string ⟨#[37, 108, 101, 102, 116]⟩, .string ⟨#[37, 114, 105, 103, 104, 116]⟩, .string ⟨#[37, 110, 111, 110, 97, 115, 115, 111, 99]⟩, .string ⟨#[37, 116, 121, 112, 101]⟩, .string ⟨#[37, 115, 116, 97, 114, 116]⟩]
theorem kind_at {k : Nat} (hk : k < 6) : ∃ t, (Sp.keys.take 6).drop k = t :: (Sp.keys.take 6).drop (k + 1) ∧ kindC[k]? = some (.string ⟨t.toArray⟩) := by
  rcases k with _ | _ | _ | _ | _ | _ | k
  · exact ⟨_, rfl, rfl⟩
  · exact ⟨_, rfl, rfl⟩
  · exact ⟨_, rfl, rfl⟩
  · exact ⟨_, rfl, rfl⟩
  · exact ⟨_, rfl, rfl⟩
  · exact ⟨_, rfl, rfl⟩
  · omega
set_option maxRecDepth 100000 in
set_option maxHeartbeats 3200000 in
/-- The kind of a declaration by its key word. -/
theorem reader_kind (key : List UInt8) (W : World) :
    Calls Tryd.prog 34 #[.string ⟨key.toArray⟩] W fun e w' => e = .returned (.int .i64 (Sp.rdKind key)) ∧ Below W.heap.size W w' := by
  obtain ⟨w1, hw1⟩ : ∃ w1 : World, w1 = W.alloc (.cells kindC.toArray 9) := ⟨_, rfl⟩
  have hb1 : Below W.heap.size W w1 := by rw [hw1]; exact (Below.refl _ W).alloc (Nat.le_refl _) _
  have hc1 : w1.heap[W.heap.size]? = some (.cells kindC.toArray 9 (0, 0)) := by rw [hw1]; exact heap_last W _
  have hl1 := lt_at hc1
  have HC1 := Lib.hid hc1; have HB1 := Lib.hid hb1
  generalize hR : Sp.rdKind key = R
  have HR := Lib.hid (show Sp.kindGo key ((Sp.keys.take 6).drop 0) 0 = R from hR)
  clear hR hb1 hc1
  unfold kindC at hw1
  go_enter Tryd.func34, Tryd.ntmps34
  go_wp2_with fail
  rw [← hw1]
  clear hw1
  go_loopg [7] 6 (fun g iv wr => ∃ k : Nat, k ≤ 6 ∧ g = 6 - k ∧ iv = .int .i64 k ∧ w1 = wr ∧ Sp.kindGo key ((Sp.keys.take 6).drop k) k = R)
  case atStart => exact ⟨0, by omega, by omega, rfl, rfl, HR.out⟩
  case round =>
    obtain ⟨k, hk, rfl, rfl, rfl, hR⟩ := hrel
    have HRR := Lib.hid hR
    have hk0 : (0 : Int) ≤ (k : Int) := Int.natCast_nonneg _
    clear hR
    by_cases hkn : k < 6
    · have hk1 : (k : Int) < 6 := by omega
      obtain ⟨t, hd, ht⟩ := kind_at hkn
      have a0 : w1.cell? ⟨W.heap.size, k, none⟩ = some (.string ⟨t.toArray⟩) := by rw [cell_at HC1.out]; simpa using ht
      have hR := HRR.out
      rw [hd] at hR
      unfold Sp.kindGo at hR
      clear hd ht HRR
      by_cases hkt : t = key
      · subst hkt
        rw [if_pos rfl] at hR
        have HR2 := Lib.hid hR
        clear hR
        have hw : IntKind.i64.wrap ((k : Int) + 1) = (k : Int) + 1 := IntWalk.i64_in _ ⟨by omega, by omega⟩
        go_wp2_with fail
        go_ret
        rw [← HR2.out]
        exact ⟨ret_int (by omega), HB1.out⟩
      · have hnb : (t == key) = false := by rw [beq_eq_false_iff_ne]; exact hkt
        rw [if_neg hkt] at hR
        have HR2 := Lib.hid hR
        clear hR
        go_wp2_with fail
        go_roundg (6 - (k + 1))
        case measure => omega
        case rel => exact ⟨k + 1, by omega, by omega, by go_num, rfl, HR2.out⟩
    · obtain rfl : k = 6 := by omega
      have HR2 := Lib.hid (show (0 : Int) = R from HRR.out)
      clear HRR
      go_wp2_with fail
      go_ret
      rw [← HR2.out]
      exact ⟨ret_int rfl, HB1.out⟩
end Go.Proofs.YtphdfbmmjkccgaaDoor

namespace Go.Proofs.YtphdfbmmjkccgaaDoor
open Go.RowKit Go.Maps

section
variable {B : Nat} {W w' : World} {m : Nat} {ws : List Sp.Word} {s : Sp.RdS} {v : RdV}
set_option maxHeartbeats 1600000 in
/-- A symbol is taken. -/
theorem reader_sym (h : ReaderAt B W m ws s v) {x : Sp.Word} {l : List Sp.Word} (hx : s.ws = x :: l) (hk : x.kind ≠ 10) :
    Calls Tryd.prog 62 #[.pointer (some ⟨m, 0, none⟩)] W fun e w' => e = .returned (symV (Sp.rdSym x)) ∧ ReaderAt B w' m ws s.next v ∧ BoxFr B W w' := by
  obtain ⟨g, cap, hv, hg, hi, a0, a1, a2⟩ := h.words.cells (h.head hx)
  have hb := h.block
  have hsm := h.small
  unfold rdCells at hb
  rw [hv] at hb
  have c0 := cell_at (i := 0) hb; have c1 := cell_at (i := 1) hb
  have f1 := frozen_at (i := 1) hb
  have lm := lt_at hb
  have HH := Lib.hid h
  obtain ⟨xk, xt, xa⟩ := x
  simp only at a0 a1 a2
  have hw : IntKind.i64.wrap ((s.i : Int) + 1) = (s.i : Int) + 1 := IntWalk.i64_in _ ⟨by omega, by omega⟩
  clear h hb hv
  go_enter Tryd.func62, Tryd.ntmps62
  go_upto_region 1 with fail
  go_region
  go_wp2_with fail
  obtain ⟨hs1, hs2⟩ := HH.out.step hx hk
  obtain ⟨w1, hw1⟩ : ∃ w1 : World, w1 = W.setCell ⟨m, 1, none⟩ (.int .i64 ((s.i : Int) + 1)) := ⟨_, rfl⟩
  have hsz : w1.heap.size = W.heap.size := by rw [hw1]; simp [World.setCell]
  rw [← hw1] at hs1 hs2 ⊢
  have hb2 := (((Below.refl _ w1).alloc (Nat.le_refl _) (.cells #[.string ⟨xt.toArray⟩, .bool (xk == 2), .int .i64 0, .int .i64 xa] 40)).alloc (by simp) (.cells #[.int .i64 xk, .string ⟨xt.toArray⟩, .int .i64 xa] 77)).drew
  refine ret_cell (g := W.heap.size) (cs := #[.string ⟨xt.toArray⟩, .bool (xk == 2), .int .i64 0, .int .i64 xa]) (t := 40) (fr := (0, 0)) rfl rfl (by rw [← hsz]; exact heap_fst1 w1 _ _) rfl Tryd.underlying40 (by kernel_rfl) rfl ⟨rfl, hs1.below hb2, hs2.trans (BoxFr.below hb2 hs1.size)⟩
set_option maxHeartbeats 3200000 in
/-- A part is taken. -/
theorem reader_part (h : ReaderAt B W m ws s v) {x : Sp.Word} {l : List Sp.Word} (hx : s.ws = x :: l) (hk : x.kind ≠ 10) :
    Calls Tryd.prog 67 #[.pointer (some ⟨m, 0, none⟩)] W fun e w' => e = .returned (partV (Sp.partOf x)) ∧ ReaderAt B w' m ws s.next v ∧ BoxFr B W w' := by
  obtain ⟨g, cap, hv, hg, hi, a0, a1, a2⟩ := h.words.cells (h.head hx)
  have hb := h.block
  have hsm := h.small
  unfold rdCells at hb
  rw [hv] at hb
  have c0 := cell_at (i := 0) hb; have c1 := cell_at (i := 1) hb
  have f1 := frozen_at (i := 1) hb
  have lm := lt_at hb
  have HH := Lib.hid h; have HX := Lib.hid hx; have HK := Lib.hid hk
  obtain ⟨xk, xt, xa⟩ := x
  simp only at a0 a1 a2 hk
  have hw : IntKind.i64.wrap ((s.i : Int) + 1) = (s.i : Int) + 1 := IntWalk.i64_in _ ⟨by omega, by omega⟩
  clear h hb hv hx hk
  by_cases h8 : xk = 8
  · subst h8
    go_enter Tryd.func67, Tryd.ntmps67
    go_upto_region 1 with fail
    go_region
    go_wp2_with fail
    obtain ⟨hs1, hs2⟩ := HH.out.step HX.out HK.out
    obtain ⟨w1, hw1⟩ : ∃ w1 : World, w1 = W.setCell ⟨m, 1, none⟩ (.int .i64 ((s.i : Int) + 1)) := ⟨_, rfl⟩
    have hsz : w1.heap.size = W.heap.size := by rw [hw1]; simp [World.setCell]
    rw [← hw1] at hs1 hs2 ⊢
    have hb2 := (((Below.refl _ w1).alloc (Nat.le_refl _) (.cells #[.string ⟨#[]⟩, .bool false, .int .i64 0, .int .i64 0, .string ⟨xt.toArray⟩, .int .i64 xa] 44)).alloc (by simp) (.cells #[.int .i64 8, .string ⟨xt.toArray⟩, .int .i64 xa] 77)).drew
    refine ret_cell (g := W.heap.size) (cs := #[.string ⟨#[]⟩, .bool false, .int .i64 0, .int .i64 0, .string ⟨xt.toArray⟩, .int .i64 xa]) (t := 44) (fr := (0, 0)) rfl rfl (by rw [← hsz]; exact heap_fst1 w1 _ _) rfl Tryd.underlying44 (by kernel_rfl) rfl ⟨rfl, hs1.below hb2, hs2.trans (BoxFr.below hb2 hs1.size)⟩
  · have hkb : (xk != 8) = true := by rw [bne_iff_ne]; exact h8
    have hkd : decide (xk = 8) = false := decide_eq_false h8
    have hpo : Sp.partOf ⟨xk, xt, xa⟩ = ⟨Sp.rdSym ⟨xk, xt, xa⟩, [], xa⟩ := by unfold Sp.partOf; rw [if_neg h8]
    have HPO := Lib.hid hpo
    clear hpo
    go_enter Tryd.func67, Tryd.ntmps67
    go_upto_region 1 with fail
    go_region
    go_upto_region 3 with fail
    obtain ⟨w2, hw2⟩ : ∃ w2 : World, w2 = ((W.alloc (.cells #[.string ⟨#[]⟩, .bool false, .int .i64 0, .int .i64 0, .string ⟨#[]⟩, .int .i64 0] 44)).alloc (.cells #[.int .i64 xk, .string ⟨xt.toArray⟩, .int .i64 xa] 77)).drew := ⟨_, rfl⟩
    have hb2 : Below W.heap.size W w2 := by rw [hw2]; exact (((Below.refl _ W).alloc (Nat.le_refl _) _).alloc (by simp) _).drew
    have hrb : w2.heap[W.heap.size]? = some (.cells #[.string ⟨#[]⟩, .bool false, .int .i64 0, .int .i64 0, .string ⟨#[]⟩, .int .i64 0] 44 (0, 0)) := by rw [hw2]; exact heap_fst1 W _ _
    have hwb : w2.heap[W.heap.size + 1]? = some (.cells #[.int .i64 xk, .string ⟨xt.toArray⟩, .int .i64 xa] 77 (0, 0)) := by rw [hw2]; exact heap_sec W _ _
    rw [← hw2]
    have HH2 := Lib.hid (HH.out.below hb2)
    have HRB := Lib.hid hrb; have HWB := Lib.hid hwb; have HB2 := Lib.hid hb2
    have HS := Lib.hid (fun (w' : World) (hb : Below w2.heap.size w2 w') => (show Calls Tryd.prog 62 #[.pointer (some ⟨m, 0, none⟩)] w' (fun e w'' => e = .returned (.agg #[.string ⟨xt.toArray⟩, .bool (xk == 2), .int .i64 0, .int .i64 xa]) ∧ ReaderAt B w'' m ws s.next v ∧ BoxFr B w' w'') from reader_sym (HH2.out.below hb) HX.out HK.out))
    have HSK := Lib.hid (fun (w' : World) (k : KpT BoxT w2 w') => (show (w'.cell? ⟨W.heap.size + 1, 2, none⟩ = some (.int .i64 xa) ∧ W.heap.size + 1 < w'.heap.size) from by
      have h1 := k _ _ _ _ HWB.out (by unfold BoxT; decide)
      exact ⟨cell_at (i := 2) h1, lt_at h1⟩))
    clear hw2 hb2 hrb hwb a0 a1 a2 c0 c1 f1 lm hg
    refine wp_region_plan (fun w' : World => (w'.cell? ⟨W.heap.size + 1, 2, none⟩ = some (.int .i64 xa) ∧ W.heap.size + 1 < w'.heap.size)) [5] (.take 0 (.take 2 (.take 3 (.one 1 (.one 4 (.one 5 (.done))))))) (by kernel_rfl) (by kernel_rfl) (fun _ _ _ _ h => h) ?_
    have hSw := HSK.out _ (show KpT BoxT w2 (w2.drew) from fun _ _ _ _ h _ => h)
    refine wpPlan_takeD (v := ?va1) rfl rfl hSw (by rfl) ?ya1 ?_
    case ya1 => (intro w hSx; (try dsimp only at hSx); go_simp; first | done | with_reducible rfl | rfl)
    (try simp only [Act.put, List.setIfInBounds_toArray, List.set_cons_zero, List.set_cons_succ])
    refine wpPlan_takeD (v := ?va2) rfl rfl hSw (by rfl) ?ya2 ?_
    case ya2 => (intro w hSx; (try dsimp only at hSx); go_simp; first | done | with_reducible rfl | rfl)
    (try simp only [Act.put, List.setIfInBounds_toArray, List.set_cons_zero, List.set_cons_succ])
    refine wpPlan_takeD (v := ?va3) rfl rfl hSw (by rfl) ?ya3 ?_
    case ya3 => (intro w hSx; (try dsimp only at hSx); go_simp; first | done | with_reducible rfl | rfl)
    (try simp only [Act.put, List.setIfInBounds_toArray, List.set_cons_zero, List.set_cons_succ])
    refine wpPlan_run rfl (by rfl) (fun K' hK => ?_)
    (go_simp; go_at_call 62; refine (HS.out _ (below_drewN (Below.refl _ w2) 1)).mono ?_; rintro e w3 ⟨rfl, h3, hf3'⟩; have hf3 : BoxFr B w2 w3 := ⟨below_undrew hf3'.1, hf3'.2⟩; have H3 := Lib.hid h3; have HF3 := Lib.hid hf3; have hrb := hf3.at HRB.out (by unfold BoxT; decide); have hlr := lt_at hrb; have HRB3 := Lib.hid hrb; have r0 := cell_at (i := 0) hrb; have q0 := frozen_at (i := 0) hrb; have r1 := cell_at (i := 1) hrb; have q1 := frozen_at (i := 1) hrb; have r2 := cell_at (i := 2) hrb; have q2 := frozen_at (i := 2) hrb; have r3 := cell_at (i := 3) hrb; have q3 := frozen_at (i := 3) hrb; have r4 := cell_at (i := 4) hrb; have q4 := frozen_at (i := 4) hrb; have r5 := cell_at (i := 5) hrb; have q5 := frozen_at (i := 5) hrb; clear hf3' h3 hf3 hrb)
    refine hK _ _ (.inr ?_) ?_
    · exact HSK.out _ HF3.out.2
    clear hK K' hSw
    (try simp only [Act.put, List.setIfInBounds_toArray, List.set_cons_zero, List.set_cons_succ])
    refine wpPlan_run rfl (by rfl) (fun K' hK => ?_)
    go_simp
    refine hK _ _ (.inr ?_) ?_
    · exact HSK.out _ HF3.out.2
    clear hK K'
    (try simp only [Act.put, List.setIfInBounds_toArray, List.set_cons_zero, List.set_cons_succ])
    refine wpPlan_run rfl (by rfl) (fun K' hK => ?_)
    go_simp
    refine hK _ _ (.inl rfl) ?_
    clear hK K'
    (try simp only [Act.put, List.setIfInBounds_toArray, List.set_cons_zero, List.set_cons_succ])
    refine wpPlan_done ?_
    obtain ⟨hx1, hx2⟩ := six_set HRB3.out (.string ⟨xt.toArray⟩) (.bool (xk == 2)) (.int .i64 0) (.int .i64 xa) (.string ⟨#[]⟩) (.int .i64 xa)
    obtain ⟨hr3, hf3⟩ := HH.out.kp H3.out ((BoxFr.below HB2.out HH.out.size).trans HF3.out) hx2 (fun b hb => by omega) rfl rfl
    obtain ⟨w4, hw4⟩ : ∃ w4 : World, w4 = ((((((w3.setCell ⟨W.heap.size, 0, none⟩ (.string ⟨xt.toArray⟩)).setCell ⟨W.heap.size, 1, none⟩ (.bool (xk == 2))).setCell ⟨W.heap.size, 2, none⟩ (.int .i64 0)).setCell ⟨W.heap.size, 3, none⟩ (.int .i64 xa)).setCell ⟨W.heap.size, 4, none⟩ (.string ⟨#[]⟩)).setCell ⟨W.heap.size, 5, none⟩ (.int .i64 xa)) := ⟨_, rfl⟩
    rw [← hw4] at hx1 hr3 hf3 ⊢
    have HX1 := Lib.hid hx1; have HR3 := Lib.hid hr3; have HF4 := Lib.hid hf3
    clear hw4 hx1 hx2 hr3 hf3 r0 q0 r1 q1 r2 q2 r3 q3 r4 q4 r5 q5
    go_wp2_with fail
    refine ret_cell (g := W.heap.size) (cs := #[.string ⟨xt.toArray⟩, .bool (xk == 2), .int .i64 0, .int .i64 xa, .string ⟨#[]⟩, .int .i64 xa]) (t := 44) (fr := (0, 0)) rfl rfl HX1.out rfl Tryd.underlying44 (by kernel_rfl) rfl ⟨by rw [HPO.out]; rfl, HR3.out, HF4.out⟩
end
end Go.Proofs.YtphdfbmmjkccgaaDoor
