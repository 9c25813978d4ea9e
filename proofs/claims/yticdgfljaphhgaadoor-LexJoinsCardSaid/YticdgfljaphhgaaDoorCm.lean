/- The walk of the reference's word: key words; the word whole. -/
import Derived.Test.YticdgfljaphhgaaDoorCl
import Derived.Test.YticdgfljaphhgaaDoorCk
namespace Go.Proofs.YticdgfljaphhgaaDoor
open Go.RowKit

theorem alphas_get : ∀ (l : List UInt8) (j : Nat), j < Sp.alphas l → ∃ c, l[j]? = some c ∧ Sp.alpha c = true
  | [], j, h => by simp [Sp.alphas] at h
  | c :: t, j, h => by
    unfold Sp.alphas at h
    split at h
    · rename_i hc
      cases j with
      | zero => exact ⟨c, rfl, hc⟩
      | succ j => simpa using alphas_get t j (by omega)
    · omega
theorem alphas_end : ∀ (l : List UInt8) (c : UInt8), l[Sp.alphas l]? = some c → Sp.alpha c = false
  | [], c, h => by simp at h
  | x :: t, c, h => by
    by_cases hx : Sp.alpha x = true
    · have e : Sp.alphas (x :: t) = Sp.alphas t + 1 := by rw [Sp.alphas, if_pos hx]
      rw [e] at h
      exact alphas_end t c (by simpa using h)
    · have e : Sp.alphas (x :: t) = 0 := by rw [Sp.alphas, if_neg hx]
      rw [e] at h
      obtain rfl : x = c := by simpa using h
      simpa using hx
theorem get_drop (s : ByteArray) (a j : Nat) (h : a + j < s.size) : (s.data.toList.drop a)[j]? = some s[a + j] := by
  rw [List.getElem?_drop, List.getElem?_eq_getElem (by simpa using h)]; rfl
theorem alpha_cases {c : UInt8} (h : Sp.alpha c = true) : ((97 : Int) ≤ (c.toNat : Int) ∧ (c.toNat : Int) ≤ 122) ∨ ((c.toNat : Int) < 97 ∧ (65 : Int) ≤ (c.toNat : Int) ∧ (c.toNat : Int) ≤ 90) := by
  unfold Sp.alpha at h; simp at h; omega
theorem not_alpha_cases {c : UInt8} (h : Sp.alpha c = false) : ((c.toNat : Int) < 97 ∧ (c.toNat : Int) < 65) ∨ ((c.toNat : Int) < 97 ∧ (65 : Int) ≤ (c.toNat : Int) ∧ (90 : Int) < (c.toNat : Int)) ∨ ((97 : Int) ≤ (c.toNat : Int) ∧ (122 : Int) < (c.toNat : Int) ∧ (65 : Int) ≤ (c.toNat : Int) ∧ (90 : Int) < (c.toNat : Int)) := by
  have : ¬ Sp.alpha c = true := by rw [h]; decide
  unfold Sp.alpha at this; simp at this; omega
theorem mem_take_succ (l : List ByteArray) (i : Nat) (q x : ByteArray) (hq : l[i]? = some q) (h : x ∉ l.take i) (hx : x ≠ q) : x ∉ l.take (i + 1) := by
  rw [List.take_add_one, hq]
  simp only [Option.toList_some, List.mem_append, List.mem_singleton, not_or]
  exact ⟨h, hx⟩
theorem str_beq (x q : ByteArray) : (x.toList == q.toList) = true ↔ x = q := by
  constructor
  · intro h
    have h2 : x.toList = q.toList := by simpa using h
    rw [Lib.toList_data, Lib.toList_data] at h2
    rw [← Lib.mk_data x, ← Lib.mk_data q, h2]
  · rintro rfl; simp

theorem TwoW.drewN {N : Nat} {a b : Array Value} {w W : World} (h : TwoW N a b w W) (n : Nat) : TwoW N a b w (W.drewN n) := ⟨h.b0, h.b1, below_drewN h.bel n, h.n⟩
section
variable (s : ByteArray) (at_ : Nat) (w : World)
set_option maxRecDepth 100000 in
set_option maxHeartbeats 12800000 in
theorem ref_word_key (hat : at_ < s.size) (hs : s.size < 4294967281) (hl : Sp.letter s[at_] = false) (hdg : Sp.digit s[at_] = false) (h39 : ((s[at_].toNat : Int) == 39) = false) (h60 : ((s[at_].toNat : Int) == 60) = false)
    (h58 : ((s[at_].toNat : Int) == 58) = false) (h59 : ((s[at_].toNat : Int) == 59) = false) (h124 : ((s[at_].toNat : Int) == 124) = false) (h37 : ((s[at_].toNat : Int) == 37) = true) (h123 : ((s[at_].toNat : Int) == 123) = false)
    (hpp : Lib.hasPrefix (s.data.toList.drop at_) [37, 37] = false) (hpb : Lib.hasPrefix (s.data.toList.drop at_) [37, 123] = false) :
    Calls Tryd.prog 73 #[.string s, .int .i64 at_] w (RWordPost (Sp.percent (s.data.toList.drop at_)) at_ w) := by
  obtain ⟨N, hN⟩ : ∃ N, N = Sp.percent (s.data.toList.drop at_) := ⟨_, rfl⟩
  rw [← hN]
  unfold Sp.percent at hN
  rw [if_neg (by rw [hpp]; decide), if_neg (by rw [hpb]; decide), List.drop_drop] at hN
  have HL := Lib.hid (fun W => ref_letter s[at_] W)
  have HDg := Lib.hid (fun W => ref_digit s[at_] W)
  rw [hl] at HL
  rw [hdg] at HDg
  have HB1 := Lib.hid (fun W => ref_begins s ⟨#[37, 37]⟩ at_ W hs (by decide) (by omega))
  have HB2 := Lib.hid (fun W => ref_begins s ⟨#[37, 123]⟩ at_ W hs (by decide) (by omega))
  have e1 : (⟨#[37, 37]⟩ : ByteArray).data.toList = [37, 37] := rfl
  have e2 : (⟨#[37, 123]⟩ : ByteArray).data.toList = [37, 123] := rfl
  rw [e1, hpp] at HB1
  rw [e2, hpb] at HB2
  have H0 : (0 : Int) ≤ (at_ : Int) := Int.natCast_nonneg _
  have hAle := Sp.alphas_le (s.data.toList.drop (at_ + 1))
  have hll : (s.data.toList.drop (at_ + 1)).length = s.size - (at_ + 1) := by simp
  rw [hll] at hAle
  have hget := alphas_get (s.data.toList.drop (at_ + 1))
  have hend := alphas_end (s.data.toList.drop (at_ + 1))
  generalize Sp.alphas (s.data.toList.drop (at_ + 1)) = A at hN hAle hget hend
  have hxd : (s.extract at_ (at_ + (1 + A))).data.toList = (s.data.toList.drop at_).take (1 + A) := by rw [ext_any, Nat.add_sub_cancel_left]
  have hkc := keys_contains (s.extract at_ (at_ + (1 + A)))
  rw [hxd] at hkc
  rw [← hkc] at hN
  have HN := Lib.hid hN
  have HX := Lib.hid (ext_take s at_ (1 + A))
  have HG := Lib.hid hget; have HEn := Lib.hid hend
  clear hN hl hdg e1 e2 hpp hpb hget hend hkc hxd hll
  go_enter Tryd.func73, Tryd.ntmps73
  go_wp2_with (first
    | (go_at_call 90; refine (HL.out _).mono ?_; rintro e w' ⟨rfl, rfl⟩)
    | (go_at_call 91; refine (HDg.out _).mono ?_; rintro e w' ⟨rfl, rfl⟩)
    | (go_at_call_of 66 (Value.string ⟨#[37, 37]⟩); refine (HB1.out _).mono ?_; rintro e w' ⟨rfl, rfl⟩)
    | (go_at_call_of 66 (Value.string ⟨#[37, 123]⟩); refine (HB2.out _).mono ?_; rintro e w' ⟨rfl, rfl⟩))
  go_loop [17] (fun n => ∃ j : Nat, j ≤ A ∧ n = .int .i64 ((1 + j : Nat) : Int)) (fun n => s.size + 1 - (intOf n).toNat)
  case atStart => exact ⟨0, by omega, rfl⟩
  case round =>
    obtain ⟨j, hj, rfl⟩ := hrel
    by_cases hjA : j < A
    · have hlt : at_ + 1 + j < s.size := by omega
      obtain ⟨c, hc1, hc2⟩ := HG.out j hjA
      rw [get_drop s (at_ + 1) j hlt] at hc1
      obtain rfl := Option.some.inj hc1
      have hlt' : at_ + (1 + j) < s.size := by omega
      have he : s[at_ + 1 + j] = s[at_ + (1 + j)] := by congr 1; omega
      rw [he] at hc2
      clear hc1 he
      rcases alpha_cases hc2 with ⟨r1, r2⟩ | ⟨r1, r2, r3⟩
      all_goals
        clear hc2
        go_wp2
        go_round
        case rel => go_light; exact ⟨j + 1, by omega, by go_num⟩
        case measure => go_light; simp [intOf]; omega
    · obtain rfl : j = A := by omega
      by_cases hlt : at_ + (1 + j) < s.size
      · have hna : Sp.alpha s[at_ + (1 + j)] = false := by
          refine HEn.out _ ?_
          rw [get_drop s (at_ + 1) j (by omega)]
          congr 2; omega
        clear HG HEn HL HDg HB1 HB2
        rcases not_alpha_cases hna with ⟨r1, r2⟩ | ⟨r1, r2, r3⟩ | ⟨r1, r2, r3, r4⟩
        all_goals
          clear hna
          go_wp2_with fail
          refine (ref_Keys _).mono ?_
          rintro e w3 ⟨rfl, hw3⟩
          simp only [World.size_alloc]
          have hT3 : TwoW w.heap.size #[.int .i64 0, .string ⟨#[]⟩, .int .i64 0] #[.int .i64 0, .string ⟨#[]⟩, .int .i64 (at_ : Int)] w w3 := by
            rw [hw3]; exact TwoW.below (TwoW.start at_ w 0) (keysW_below _)
          have hK3 : ∀ j q, keysB[j]? = some q → w3.cell? ⟨w.heap.size + 1 + 1, j, none⟩ = some (.string q) := by
            intro j q hq
            rw [hw3]
            have := keysW_cells ((w.alloc (.cells #[.int .i64 0, .string ⟨#[]⟩, .int .i64 0] 53)).alloc (.cells #[.int .i64 0, .string ⟨#[]⟩, .int .i64 (at_ : Int)] 53)) j q hq
            simpa only [World.size_alloc] using this
          clear hw3
          obtain ⟨B0, B1, hz⟩ := hT3.out
          have c0 := cell_at (i := 0) B0; have c1 := cell_at (i := 1) B0; have c2 := cell_at (i := 2) B0
          have d0 := cell_at (i := 0) B1; have d1 := cell_at (i := 1) B1; have d2 := cell_at (i := 2) B1
          have f0 := frozen_at (i := 0) B0; have f1 := frozen_at (i := 1) B0; have f2 := frozen_at (i := 2) B0
          have g0 := frozen_at (i := 0) B1; have g1 := frozen_at (i := 1) B1; have g2 := frozen_at (i := 2) B1
          have HT3 := Lib.hid hT3; have HK3 := Lib.hid hK3
          clear B0 B1 hT3 hK3
          go_wp2_with fail
          go_loopw [19] (fun iv wr => ∃ i : Nat, i ≤ 7 ∧ iv = .int .i64 i ∧ Hid (s.extract at_ (at_ + (1 + j)) ∉ keysB.take i) ∧ ∃ n, wr = w3.drewN n) (fun iv _ => 7 - (intOf iv).toNat)
          case atStart => exact ⟨0, by omega, rfl, Lib.hid (by simp), 0, rfl⟩
          case round =>
            obtain ⟨i, hi, rfl, HM, n, rfl⟩ := hrel
            by_cases hi7 : i < 7
            · obtain ⟨q, hq⟩ : ∃ q, keysB[i]? = some q := ⟨_, List.getElem?_eq_getElem (show i < keysB.length from hi7)⟩
              have k0 := HK3.out i q hq
              have hi0 : (0 : Int) ≤ (i : Int) := Int.natCast_nonneg _
              have hi1 : (i : Int) < 7 := by omega
              have hjI : (at_ : Int) + (1 + (j : Int)) ≤ (s.size : Int) := by omega
              cases hxq : ((s.extract at_ (at_ + (1 + j))).toList == q.toList) with
              | true =>
                have hxe := (str_beq _ _).1 hxq
                have hcon : Lib.containsS keysB (s.extract at_ (at_ + (1 + j))) = true := by
                  rw [Lib.containsS_iff, hxe]; exact List.mem_of_getElem? hq
                have hNN := HN.out
                have hcon' := hcon
                unfold keysB at hcon'
                rw [hcon', if_pos rfl] at hNN
                have HXE := Lib.hid hxe
                have HNN := Lib.hid hNN
                clear HM hq hcon hcon' hNN hxe
                go_wp2_with fail
                go_quiet (fail)
                go_wp2_with fail
                go_region
                obtain ⟨W4, hW4⟩ : ∃ W4, W4 = ((w3.drewN (n + nq + 1)).setCell ⟨w.heap.size + 1, 0, none⟩ (.int .i64 5)).setCell ⟨w.heap.size + 1, 1, none⟩ (.string q) := ⟨_, rfl⟩
                have hT4 : TwoW w.heap.size #[.int .i64 0, .string ⟨#[]⟩, .int .i64 0] #[.int .i64 5, .string q, .int .i64 (at_ : Int)] w W4 := by
                  rw [hW4]; exact ((TwoW.drewN HT3.out (n + nq + 1)).set1 0 (.int .i64 5)).set1 1 (.string q)
                rw [← hW4]
                clear hW4 c0 c1 c2 d0 d1 d2 f0 f1 f2 g0 g1 g2 hz HT3 HK3 k0
                obtain ⟨B0, B1, hz⟩ := hT4.out
                have c0 := cell_at (i := 0) B0; have c1 := cell_at (i := 1) B0; have c2 := cell_at (i := 2) B0
                have d0 := cell_at (i := 0) B1; have d1 := cell_at (i := 1) B1; have d2 := cell_at (i := 2) B1
                have f0 := frozen_at (i := 0) B0; have f1 := frozen_at (i := 1) B0; have f2 := frozen_at (i := 2) B0
                have HT4 := Lib.hid hT4
                clear B0 B1 hT4
                go_wp2
                have hNN := HNN.out
                subst hNN
                refine ret_cell_tmp (g := w.heap.size) rfl rfl (by exact heap_setCell_at (heap_setCell_at (heap_setCell_at HT4.out.b0))) rfl Tryd.underlying53 (by kernel_rfl) rfl ⟨?_, ((HT4.out.bel.setCell (Nat.le_refl _) _).setCell (Nat.le_refl _) _).setCell (Nat.le_refl _) _⟩
                simp [wordAt, HX.out, HXE.out]
              | false =>
                have hxn : s.extract at_ (at_ + (1 + j)) ≠ q := fun h => by rw [(str_beq _ _).2 h] at hxq; cases hxq
                have HM2 := Lib.hid (mem_take_succ _ i q _ hq HM.out hxn)
                clear HM hq hxn
                go_wp2_with fail
                go_quiet (fail)
                go_wp2_with fail
                go_roundw
                case rel => go_light; exact ⟨i + 1, by omega, by go_num, HM2, _, rfl⟩
                case measure => go_light; simp [intOf]; omega
            · obtain rfl : i = 7 := by omega
              have hcon : Lib.containsS keysB (s.extract at_ (at_ + (1 + j))) = false := by
                rw [← Bool.not_eq_true, Lib.containsS_iff]
                exact HM.out
              have hNN := HN.out
              unfold keysB at hcon
              rw [hcon, if_neg (by decide)] at hNN
              subst hNN
              clear HM hcon HN
              go_wp2_with fail
              refine ret_cell_tmp (g := w.heap.size) rfl rfl (by exact heap_setCell_at (heap_setCell_at (heap_setCell_at (show (w3.drewN n).heap[w.heap.size]? = _ from HT3.out.b0)))) rfl Tryd.underlying53 (by kernel_rfl) rfl ⟨by simp [wordAt, Sp.noWord], (((below_drewN HT3.out.bel n).setCell (Nat.le_refl _) _).setCell (Nat.le_refl _) _).setCell (Nat.le_refl _) _⟩
      · clear HG HEn HL HDg HB1 HB2
        go_wp2_with fail
        refine (ref_Keys _).mono ?_
        rintro e w3 ⟨rfl, hw3⟩
        simp only [World.size_alloc]
        have hT3 : TwoW w.heap.size #[.int .i64 0, .string ⟨#[]⟩, .int .i64 0] #[.int .i64 0, .string ⟨#[]⟩, .int .i64 (at_ : Int)] w w3 := by
          rw [hw3]; exact TwoW.below (TwoW.start at_ w 0) (keysW_below _)
        have hK3 : ∀ j q, keysB[j]? = some q → w3.cell? ⟨w.heap.size + 1 + 1, j, none⟩ = some (.string q) := by
          intro j q hq
          rw [hw3]
          have := keysW_cells ((w.alloc (.cells #[.int .i64 0, .string ⟨#[]⟩, .int .i64 0] 53)).alloc (.cells #[.int .i64 0, .string ⟨#[]⟩, .int .i64 (at_ : Int)] 53)) j q hq
          simpa only [World.size_alloc] using this
        clear hw3
        obtain ⟨B0, B1, hz⟩ := hT3.out
        have c0 := cell_at (i := 0) B0; have c1 := cell_at (i := 1) B0; have c2 := cell_at (i := 2) B0
        have d0 := cell_at (i := 0) B1; have d1 := cell_at (i := 1) B1; have d2 := cell_at (i := 2) B1
        have f0 := frozen_at (i := 0) B0; have f1 := frozen_at (i := 1) B0; have f2 := frozen_at (i := 2) B0
        have g0 := frozen_at (i := 0) B1; have g1 := frozen_at (i := 1) B1; have g2 := frozen_at (i := 2) B1
        have HT3 := Lib.hid hT3; have HK3 := Lib.hid hK3
        clear B0 B1 hT3 hK3
        go_wp2_with fail
        go_loopw [19] (fun iv wr => ∃ i : Nat, i ≤ 7 ∧ iv = .int .i64 i ∧ Hid (s.extract at_ (at_ + (1 + j)) ∉ keysB.take i) ∧ ∃ n, wr = w3.drewN n) (fun iv _ => 7 - (intOf iv).toNat)
        case atStart => exact ⟨0, by omega, rfl, Lib.hid (by simp), 0, rfl⟩
        case round =>
          obtain ⟨i, hi, rfl, HM, n, rfl⟩ := hrel
          by_cases hi7 : i < 7
          · obtain ⟨q, hq⟩ : ∃ q, keysB[i]? = some q := ⟨_, List.getElem?_eq_getElem (show i < keysB.length from hi7)⟩
            have k0 := HK3.out i q hq
            have hi0 : (0 : Int) ≤ (i : Int) := Int.natCast_nonneg _
            have hi1 : (i : Int) < 7 := by omega
            have hjI : (at_ : Int) + (1 + (j : Int)) ≤ (s.size : Int) := by omega
            cases hxq : ((s.extract at_ (at_ + (1 + j))).toList == q.toList) with
            | true =>
              have hxe := (str_beq _ _).1 hxq
              have hcon : Lib.containsS keysB (s.extract at_ (at_ + (1 + j))) = true := by
                rw [Lib.containsS_iff, hxe]; exact List.mem_of_getElem? hq
              have hNN := HN.out
              have hcon' := hcon
              unfold keysB at hcon'
              rw [hcon', if_pos rfl] at hNN
              have HXE := Lib.hid hxe
              have HNN := Lib.hid hNN
              clear HM hq hcon hcon' hNN hxe
              go_wp2_with fail
              go_quiet (fail)
              go_wp2_with fail
              go_region
              obtain ⟨W4, hW4⟩ : ∃ W4, W4 = ((w3.drewN (n + nq + 1)).setCell ⟨w.heap.size + 1, 0, none⟩ (.int .i64 5)).setCell ⟨w.heap.size + 1, 1, none⟩ (.string q) := ⟨_, rfl⟩
              have hT4 : TwoW w.heap.size #[.int .i64 0, .string ⟨#[]⟩, .int .i64 0] #[.int .i64 5, .string q, .int .i64 (at_ : Int)] w W4 := by
                rw [hW4]; exact ((TwoW.drewN HT3.out (n + nq + 1)).set1 0 (.int .i64 5)).set1 1 (.string q)
              rw [← hW4]
              clear hW4 c0 c1 c2 d0 d1 d2 f0 f1 f2 g0 g1 g2 hz HT3 HK3 k0
              obtain ⟨B0, B1, hz⟩ := hT4.out
              have c0 := cell_at (i := 0) B0; have c1 := cell_at (i := 1) B0; have c2 := cell_at (i := 2) B0
              have d0 := cell_at (i := 0) B1; have d1 := cell_at (i := 1) B1; have d2 := cell_at (i := 2) B1
              have f0 := frozen_at (i := 0) B0; have f1 := frozen_at (i := 1) B0; have f2 := frozen_at (i := 2) B0
              have HT4 := Lib.hid hT4
              clear B0 B1 hT4
              go_wp2
              have hNN := HNN.out
              subst hNN
              refine ret_cell_tmp (g := w.heap.size) rfl rfl (by exact heap_setCell_at (heap_setCell_at (heap_setCell_at HT4.out.b0))) rfl Tryd.underlying53 (by kernel_rfl) rfl ⟨?_, ((HT4.out.bel.setCell (Nat.le_refl _) _).setCell (Nat.le_refl _) _).setCell (Nat.le_refl _) _⟩
              simp [wordAt, HX.out, HXE.out]
            | false =>
              have hxn : s.extract at_ (at_ + (1 + j)) ≠ q := fun h => by rw [(str_beq _ _).2 h] at hxq; cases hxq
              have HM2 := Lib.hid (mem_take_succ _ i q _ hq HM.out hxn)
              clear HM hq hxn
              go_wp2_with fail
              go_quiet (fail)
              go_wp2_with fail
              go_roundw
              case rel => go_light; exact ⟨i + 1, by omega, by go_num, HM2, _, rfl⟩
              case measure => go_light; simp [intOf]; omega
          · obtain rfl : i = 7 := by omega
            have hcon : Lib.containsS keysB (s.extract at_ (at_ + (1 + j))) = false := by
              rw [← Bool.not_eq_true, Lib.containsS_iff]
              exact HM.out
            have hNN := HN.out
            unfold keysB at hcon
            rw [hcon, if_neg (by decide)] at hNN
            subst hNN
            clear HM hcon HN
            go_wp2_with fail
            refine ret_cell_tmp (g := w.heap.size) rfl rfl (by exact heap_setCell_at (heap_setCell_at (heap_setCell_at (show (w3.drewN n).heap[w.heap.size]? = _ from HT3.out.b0)))) rfl Tryd.underlying53 (by kernel_rfl) rfl ⟨by simp [wordAt, Sp.noWord], (((below_drewN HT3.out.bel n).setCell (Nat.le_refl _) _).setCell (Nat.le_refl _) _).setCell (Nat.le_refl _) _⟩
end
end Go.Proofs.YticdgfljaphhgaaDoor
