/- The walk of the reference's word: actions, bytes in quotes. -/
import Derived.Test.YticdgfljaphhgaaDoorCi
namespace Go.Proofs.YticdgfljaphhgaaDoor
open Go.RowKit
section
variable (s : ByteArray) (at_ : Nat) (w : World)

theorem convert_one_drew (W : World) (c : UInt8) (n : Nat) (hn : n = W.heap.size) : (convert 45 9 (.slice (some ⟨n, 0, none⟩) 1 1)).run Tryd.prog (W.alloc (.cells #[.int .u8 (c.toNat : Int)] 5)).drew = .ok (.string ⟨#[c]⟩) (W.alloc (.cells #[.int .u8 (c.toNat : Int)] 5)).drew := by
  subst hn
  refine run_convert_bytes_back (P := Tryd.prog) _ 45 9 5 ⟨W.heap.size, 0, none⟩ 1 [c] Tryd.underlying45 Tryd.underlying5 Tryd.underlying9 ?_
  intro j hj
  obtain rfl : j = 0 := by simpa using hj
  exact new_cells W [.int .u8 (c.toNat : Int)] _ 0 _ rfl
/-- Two words of a call's own in a world. -/
structure TwoW (N : Nat) (a b : Array Value) (w W : World) : Prop where
  b0 : W.heap[N]? = some (.cells a 53 (0, 0))
  b1 : W.heap[N + 1]? = some (.cells b 53 (0, 0))
  bel : Below w.heap.size w W
  n : N = w.heap.size
theorem TwoW.start (n : Nat) : TwoW w.heap.size #[.int .i64 0, .string ⟨#[]⟩, .int .i64 0] #[.int .i64 0, .string ⟨#[]⟩, .int .i64 (at_ : Int)] w (((w.alloc (.cells #[.int .i64 0, .string ⟨#[]⟩, .int .i64 0] 53)).alloc (.cells #[.int .i64 0, .string ⟨#[]⟩, .int .i64 (at_ : Int)] 53)).drewN n) := by
  refine ⟨heap_alloc_of2 (heap_last _ _) _, ?_, below_drewN (((Below.refl _ _).alloc (Nat.le_refl _) _).alloc (by simp) _) _, rfl⟩
  have := heap_last (w.alloc (.cells #[.int .i64 0, .string ⟨#[]⟩, .int .i64 0] 53)) (.cells #[.int .i64 0, .string ⟨#[]⟩, .int .i64 (at_ : Int)] 53)
  simpa using this
theorem TwoW.out {N : Nat} {a b : Array Value} {w W : World} (h : TwoW N a b w W) : W.heap[N]? = some (.cells a 53 (0, 0)) ∧ W.heap[N + 1]? = some (.cells b 53 (0, 0)) ∧ N + 1 < W.heap.size := ⟨h.b0, h.b1, lt_at h.b1⟩
theorem TwoW.set1 {N : Nat} {a b : Array Value} {w W : World} (h : TwoW N a b w W) (i : Nat) (v : Value) : TwoW N a (b.setIfInBounds i v) w (W.setCell ⟨N + 1, i, none⟩ v) :=
  ⟨(Below.heap_setCell _ _ _ _ (by simp)).trans h.b0, heap_setCell_at h.b1, h.bel.setCell (by have := h.n; simp; omega) _, h.n⟩
theorem TwoW.below {N : Nat} {a b : Array Value} {w W W' : World} (h : TwoW N a b w W) (hb : Below W.heap.size W W') : TwoW N a b w W' :=
  ⟨(hb.block _ (lt_at h.b0)).trans h.b0, (hb.block _ (lt_at h.b1)).trans h.b1, h.bel.trans (hb.mono h.bel.size), h.n⟩
theorem TwoW.drew {N : Nat} {a b : Array Value} {w W : World} (h : TwoW N a b w W) : TwoW N a b w W.drew := ⟨h.b0, h.b1, below_drewN h.bel 1, h.n⟩
theorem TwoW.alloc {N : Nat} {a b : Array Value} {w W : World} (h : TwoW N a b w W) (o : Obj) : TwoW N a b w (W.alloc o) :=
  h.below ((Below.refl _ _).alloc (Nat.le_refl _) _)

set_option maxRecDepth 100000 in
set_option maxHeartbeats 3200000 in
theorem ref_word_code (hat : at_ < s.size) (hs : s.size < 4294967281) (hl : Sp.letter s[at_] = false) (hdg : Sp.digit s[at_] = false) (h39 : ((s[at_].toNat : Int) == 39) = false) (h60 : ((s[at_].toNat : Int) == 60) = false)
    (h58 : ((s[at_].toNat : Int) == 58) = false) (h59 : ((s[at_].toNat : Int) == 59) = false) (h124 : ((s[at_].toNat : Int) == 124) = false) (h37 : ((s[at_].toNat : Int) == 37) = false) (h123 : ((s[at_].toNat : Int) == 123) = true) :
    Calls Tryd.prog 73 #[.string s, .int .i64 at_] w (RWordPost (Sp.word (s.data.toList.drop at_)) at_ w) := by
  have hd := drop_at s at_ hat
  have hN : Sp.word (s.data.toList.drop at_) = (match Sp.endLen (s.data.toList.drop at_) with | none => Sp.noWord | some n => (8, (s.data.toList.drop at_).take n, n)) := by
    rw [hd, Sp.word_cons, if_neg (by rw [hl]; decide), if_neg (by rw [hdg]; decide), if_neg (by rw [h39]; decide), if_neg (by rw [h60]; decide), if_neg (by rw [h37]; decide), if_neg (by rw [h58, h59, h124]; simp), if_pos h123]
    rfl
  generalize Sp.word (s.data.toList.drop at_) = N at hN
  have HL := Lib.hid (fun W => ref_letter s[at_] W)
  have HDg := Lib.hid (fun W => ref_digit s[at_] W)
  rw [hl] at HL
  rw [hdg] at HDg
  have H0 : (0 : Int) ≤ (at_ : Int) := Int.natCast_nonneg _
  have HE := Lib.hid (fun W => ref_End s at_ W hs)
  have hea : Sp.endAt s.data.toList at_ = Sp.place at_ (Sp.endLen (s.data.toList.drop at_)) := by
    unfold Sp.endAt
    rw [if_pos (by simp; omega)]
    simp
  rw [hea] at HE
  have hpos : ∀ n, Sp.endLen (s.data.toList.drop at_) = some n → 1 ≤ n ∧ n ≤ s.size - at_ := by
    intro n hn
    rw [hd] at hn
    unfold Sp.endLen at hn
    simp only at hn
    rw [if_pos h123] at hn
    have h1 := Sp.endGo_pos _ _ _ _ hn
    have h2 := Sp.endGo_le _ _ _ _ hn
    have hll : (s.data.toList.drop at_).length = s.size - at_ := by simp
    rw [← hd, hll] at h2
    exact ⟨h1, h2⟩
  generalize Sp.endLen (s.data.toList.drop at_) = o at hN HE hpos
  clear hl hdg hea hd
  have HT := fun n => TwoW.start at_ w n
  have HTw := Lib.hid HT
  clear HT
  cases o with
  | none =>
    simp only at hN
    subst hN
    simp only [Sp.place] at HE
    clear hpos
    go_enter Tryd.func73, Tryd.ntmps73
    go_wp2_with (first
      | (go_at_call 90; refine (HL.out _).mono ?_; rintro e w' ⟨rfl, rfl⟩)
      | (go_at_call 91; refine (HDg.out _).mono ?_; rintro e w' ⟨rfl, rfl⟩)
      | (go_at_call 18; refine (HE.out _).mono ?_; rintro e w' ⟨rfl, n1, rfl⟩
         obtain ⟨W1, hW1⟩ : ∃ W1, W1 = (((w.alloc (.cells #[.int .i64 0, .string ⟨#[]⟩, .int .i64 0] 53)).alloc (.cells #[.int .i64 0, .string ⟨#[]⟩, .int .i64 (at_ : Int)] 53)).drewN n1) := ⟨_, rfl⟩
         have hT := HTw.out n1
         rw [← hW1] at hT ⊢
         clear hW1
         obtain ⟨B0, B1, hz⟩ := hT.out
         have c0 := cell_at (i := 0) B0; have c1 := cell_at (i := 1) B0; have c2 := cell_at (i := 2) B0
         have d0 := cell_at (i := 0) B1; have d1 := cell_at (i := 1) B1; have d2 := cell_at (i := 2) B1
         have f0 := frozen_at (i := 0) B0; have f1 := frozen_at (i := 1) B0; have f2 := frozen_at (i := 2) B0
         have g0 := frozen_at (i := 0) B1; have g1 := frozen_at (i := 1) B1; have g2 := frozen_at (i := 2) B1
         have HT1 := Lib.hid hT
         clear B0 B1 hT))
    refine ret_cell_tmp (g := w.heap.size) rfl rfl (by exact heap_setCell_at (heap_setCell_at (heap_setCell_at HT1.out.b0))) rfl Tryd.underlying53 (by kernel_rfl) rfl ⟨by simp [wordAt, Sp.noWord], ((HT1.out.bel.setCell (Nat.le_refl _) _).setCell (Nat.le_refl _) _).setCell (Nat.le_refl _) _⟩
  | some n =>
    simp only at hN
    subst hN
    simp only [Sp.place] at HE
    obtain ⟨hp1, hp2⟩ := hpos n rfl
    have HX := Lib.hid (ext_take s at_ n)
    clear hpos
    go_enter Tryd.func73, Tryd.ntmps73
    go_wp2_with (first
      | (go_at_call 90; refine (HL.out _).mono ?_; rintro e w' ⟨rfl, rfl⟩)
      | (go_at_call 91; refine (HDg.out _).mono ?_; rintro e w' ⟨rfl, rfl⟩)
      | (go_at_call 18; refine (HE.out _).mono ?_; rintro e w' ⟨rfl, n1, rfl⟩
         obtain ⟨W1, hW1⟩ : ∃ W1, W1 = (((w.alloc (.cells #[.int .i64 0, .string ⟨#[]⟩, .int .i64 0] 53)).alloc (.cells #[.int .i64 0, .string ⟨#[]⟩, .int .i64 (at_ : Int)] 53)).drewN n1) := ⟨_, rfl⟩
         have hT := HTw.out n1
         rw [← hW1] at hT ⊢
         clear hW1
         obtain ⟨B0, B1, hz⟩ := hT.out
         have c0 := cell_at (i := 0) B0; have c1 := cell_at (i := 1) B0; have c2 := cell_at (i := 2) B0
         have d0 := cell_at (i := 0) B1; have d1 := cell_at (i := 1) B1; have d2 := cell_at (i := 2) B1
         have f0 := frozen_at (i := 0) B0; have f1 := frozen_at (i := 1) B0; have f2 := frozen_at (i := 2) B0
         have g0 := frozen_at (i := 0) B1; have g1 := frozen_at (i := 1) B1; have g2 := frozen_at (i := 2) B1
         have HT1 := Lib.hid hT
         clear B0 B1 hT))
    go_region
    obtain ⟨W2, hW2⟩ : ∃ W2, W2 = ((W1.setCell ⟨w.heap.size + 1, 0, none⟩ (.int .i64 8)).setCell ⟨w.heap.size + 1, 1, none⟩ (.string (s.extract at_ (at_ + n)))).drew := ⟨_, rfl⟩
    have hT2 : TwoW w.heap.size #[.int .i64 0, .string ⟨#[]⟩, .int .i64 0] #[.int .i64 8, .string (s.extract at_ (at_ + n)), .int .i64 (at_ : Int)] w W2 := by
      rw [hW2]; exact ((HT1.out.set1 0 (.int .i64 8)).set1 1 (.string (s.extract at_ (at_ + n)))).drew
    rw [← hW2]
    clear hW2 c0 c1 c2 d0 d1 d2 f0 f1 f2 g0 g1 g2 hz HT1
    obtain ⟨B0, B1, hz⟩ := hT2.out
    have c0 := cell_at (i := 0) B0; have c1 := cell_at (i := 1) B0; have c2 := cell_at (i := 2) B0
    have d0 := cell_at (i := 0) B1; have d1 := cell_at (i := 1) B1; have d2 := cell_at (i := 2) B1
    have f0 := frozen_at (i := 0) B0; have f1 := frozen_at (i := 1) B0; have f2 := frozen_at (i := 2) B0
    have HT2 := Lib.hid hT2
    clear B0 B1 hT2
    go_wp2
    refine ret_cell_tmp (g := w.heap.size) rfl rfl (by exact heap_setCell_at (heap_setCell_at (heap_setCell_at HT2.out.b0))) rfl Tryd.underlying53 (by kernel_rfl) rfl ⟨?_, ((HT2.out.bel.setCell (Nat.le_refl _) _).setCell (Nat.le_refl _) _).setCell (Nat.le_refl _) _⟩
    simp [wordAt, HX.out]
    try omega

set_option maxRecDepth 100000 in
set_option maxHeartbeats 3200000 in
theorem ref_word_lit (hat : at_ < s.size) (hs : s.size < 4294967281) (hl : Sp.letter s[at_] = false) (hdg : Sp.digit s[at_] = false) (h39 : ((s[at_].toNat : Int) == 39) = true) :
    Calls Tryd.prog 73 #[.string s, .int .i64 at_] w (RWordPost (Sp.word (s.data.toList.drop at_)) at_ w) := by
  have hd := drop_at s at_ hat
  have hN : Sp.word (s.data.toList.drop at_) = match Sp.charTake (s.data.toList.drop at_) with | none => Sp.noWord | some (b, n) => (2, [b], n) := by
    rw [hd, Sp.word_cons, if_neg (by rw [hl]; decide), if_neg (by rw [hdg]; decide), if_pos h39]
    rfl
  generalize Sp.word (s.data.toList.drop at_) = N at hN
  have HL := Lib.hid (fun W => ref_letter s[at_] W)
  rw [hl] at HL
  have HTk := Lib.hid (fun W => ref_Take s at_ W hs hat)
  have H0 : (0 : Int) ≤ (at_ : Int) := Int.natCast_nonneg _
  have hct := Sp.charTake_le (s.data.toList.drop at_)
  have hll : (s.data.toList.drop at_).length = s.size - at_ := by simp
  rw [hll] at hct
  generalize Sp.charTake (s.data.toList.drop at_) = o at hN HTk hct
  clear hd hl hdg hll
  have HTw := Lib.hid (show TwoW w.heap.size #[.int .i64 0, .string ⟨#[]⟩, .int .i64 0] #[.int .i64 0, .string ⟨#[]⟩, .int .i64 (at_ : Int)] w ((w.alloc (.cells #[.int .i64 0, .string ⟨#[]⟩, .int .i64 0] 53)).alloc (.cells #[.int .i64 0, .string ⟨#[]⟩, .int .i64 (at_ : Int)] 53)) from TwoW.start at_ w 0)
  cases o with
  | none =>
    simp only at hN
    subst hN
    simp only [Sp.takeRes] at HTk
    clear hct
    go_enter Tryd.func73, Tryd.ntmps73
    go_wp2_with (first
      | (go_at_call 90; refine (HL.out _).mono ?_; rintro e w' ⟨rfl, rfl⟩)
      | (go_at_call 108; refine (HTk.out _).mono ?_; rintro e w1 ⟨rfl, hb⟩
         have hT := HTw.out.below hb
         obtain ⟨B0, B1, hz⟩ := hT.out
         have c0 := cell_at (i := 0) B0; have c1 := cell_at (i := 1) B0; have c2 := cell_at (i := 2) B0
         have d0 := cell_at (i := 0) B1; have d1 := cell_at (i := 1) B1; have d2 := cell_at (i := 2) B1
         have f0 := frozen_at (i := 0) B0; have f1 := frozen_at (i := 1) B0; have f2 := frozen_at (i := 2) B0
         have g0 := frozen_at (i := 0) B1; have g1 := frozen_at (i := 1) B1; have g2 := frozen_at (i := 2) B1
         have HT1 := Lib.hid hT
         clear B0 B1 hT hb))
    refine ret_cell_tmp (g := w.heap.size) rfl rfl (by exact heap_setCell_at (heap_setCell_at (heap_setCell_at HT1.out.b0))) rfl Tryd.underlying53 (by kernel_rfl) rfl ⟨by simp [wordAt, Sp.noWord], ((HT1.out.bel.setCell (Nat.le_refl _) _).setCell (Nat.le_refl _) _).setCell (Nat.le_refl _) _⟩
  | some p =>
    obtain ⟨b, n⟩ := p
    obtain ⟨hn1, hn2⟩ := hct b n rfl
    simp only at hN
    simp only [Sp.takeRes] at HTk
    subst hN
    clear hct
    go_enter Tryd.func73, Tryd.ntmps73
    go_wp2_with (first
      | (go_at_call 90; refine (HL.out _).mono ?_; rintro e w' ⟨rfl, rfl⟩)
      | (go_at_call 108; refine (HTk.out _).mono ?_; rintro e w1 ⟨rfl, hb⟩
         have hT := HTw.out.below hb
         obtain ⟨B0, B1, hz⟩ := hT.out
         have c0 := cell_at (i := 0) B0; have c1 := cell_at (i := 1) B0; have c2 := cell_at (i := 2) B0
         have d0 := cell_at (i := 0) B1; have d1 := cell_at (i := 1) B1; have d2 := cell_at (i := 2) B1
         have f0 := frozen_at (i := 0) B0; have f1 := frozen_at (i := 1) B0; have f2 := frozen_at (i := 2) B0
         have g0 := frozen_at (i := 0) B1; have g1 := frozen_at (i := 1) B1; have g2 := frozen_at (i := 2) B1
         have HT1 := Lib.hid hT
         clear B0 B1 hT hb
         have hcv := fun (Y : World) (h : Y.heap.size = w1.heap.size) => convert_one_drew Y b w1.heap.size h.symm))
    go_region
    obtain ⟨W2, hW2⟩ : ∃ W2, W2 = (((w1.setCell ⟨w.heap.size + 1, 0, none⟩ (.int .i64 2)).setCell ⟨w.heap.size + 1, 1, none⟩ (.string ⟨#[b]⟩)).alloc (.cells #[.int .u8 (b.toNat : Int)] 5)).drew := ⟨_, rfl⟩
    have hT2 : TwoW w.heap.size #[.int .i64 0, .string ⟨#[]⟩, .int .i64 0] #[.int .i64 2, .string ⟨#[b]⟩, .int .i64 (at_ : Int)] w W2 := by
      rw [hW2]; exact (((HT1.out.set1 0 (.int .i64 2)).set1 1 (.string ⟨#[b]⟩)).alloc _).drew
    rw [← hW2]
    clear hW2 c0 c1 c2 d0 d1 d2 f0 f1 f2 g0 g1 g2 hz HT1 hcv
    obtain ⟨B0, B1, hz⟩ := hT2.out
    have c0 := cell_at (i := 0) B0; have c1 := cell_at (i := 1) B0; have c2 := cell_at (i := 2) B0
    have d0 := cell_at (i := 0) B1; have d1 := cell_at (i := 1) B1; have d2 := cell_at (i := 2) B1
    have f0 := frozen_at (i := 0) B0; have f1 := frozen_at (i := 1) B0; have f2 := frozen_at (i := 2) B0
    have HT2 := Lib.hid hT2
    clear B0 B1 hT2
    go_wp2
    refine ret_cell_tmp (g := w.heap.size) rfl rfl (by exact heap_setCell_at (heap_setCell_at (heap_setCell_at HT2.out.b0))) rfl Tryd.underlying53 (by kernel_rfl) rfl ⟨?_, ((HT2.out.bel.setCell (Nat.le_refl _) _).setCell (Nat.le_refl _) _).setCell (Nat.le_refl _) _⟩
    simp [wordAt]
    try omega
end
end Go.Proofs.YticdgfljaphhgaaDoor
