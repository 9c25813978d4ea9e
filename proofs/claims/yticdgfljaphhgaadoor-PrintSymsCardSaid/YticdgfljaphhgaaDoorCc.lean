/- The walks of lex.number, lex.percent. -/
import Derived.Test.YticdgfljaphhgaaDoorCb
import Derived.Test.YticdgfljaphhgaaDoorW1
import Derived.Lib.SlicesS
namespace Go.Proofs.YticdgfljaphhgaaDoor
open Go.RowKit

theorem digits_span_eq (l : List UInt8) : Sp.span Sp.digit l = Sp.digits l := (Sp.digits_span l).symm
theorem alphas_span_eq (l : List UInt8) : Sp.span Sp.alpha l = Sp.alphas l := (Sp.alphas_span l).symm

set_option maxRecDepth 100000 in
set_option maxHeartbeats 1600000 in
theorem lex_number (s : ByteArray) (w : World) (hs : s.size < 4294967281) (h0 : 0 < s.size) (hdg : Sp.digit s[0] = true) :
    Calls Tryd.prog 79 #[.string s] w fun e w' => e = .returned (.int .i64 (Sp.number s.data.toList : Nat)) ∧ Below w.heap.size w w' := by
  generalize hN : Sp.number s.data.toList = N
  unfold Sp.number at hN
  have HSp := Lib.hid (fun W => lex_span_digit s W hs)
  rw [digits_span_eq] at HSp
  have hd0 := drop_at s 0 h0
  rw [List.drop_zero] at hd0
  have hD1 : 1 ≤ Sp.digits s.data.toList := by
    rw [hd0]
    show 1 ≤ (if Sp.digit s[0] = true then _ + 1 else 0)
    rw [if_pos hdg]; omega
  have hDle := Sp.digits_le s.data.toList
  have hll : s.data.toList.length = s.size := by simp
  rw [hll] at hDle
  have hnum := Sp.atoi_digits s.data.toList (by omega)
  have hhead : s.data.toList.head? = some s[0] := by rw [hd0]; rfl
  rw [hhead] at hN
  generalize hD : Sp.digits s.data.toList = D at *
  have h48 : (some s[0] = some (48 : UInt8)) ↔ ((s[0].toNat : Int) == 48) = true := by
    constructor
    · intro h; rw [Option.some.inj h]; rfl
    · intro h; rw [(Sp.byte_eq s[0] 48).2 h]
  clear hdg hd0 hll hhead hD
  by_cases h5 : 5 < D
  · rw [if_pos (.inl h5)] at hN
    subst hN
    clear hnum h48
    go_enter Tryd.func79, Tryd.ntmps79
    go_wp2_with (go_at_call 74; refine (HSp.out _).mono ?_; rintro e w' ⟨rfl, rfl⟩)
    go_ret
    exact ⟨rfl, Below.refl _ _⟩
  · cases hb48 : ((s[0].toNat : Int) == 48) with
    | true =>
      rw [if_pos (.inr (.inl (h48.2 hb48)))] at hN
      subst hN
      clear hnum h48
      go_enter Tryd.func79, Tryd.ntmps79
      go_wp2_with (go_at_call 74; refine (HSp.out _).mono ?_; rintro e w' ⟨rfl, rfl⟩)
      go_ret
      exact ⟨rfl, Below.refl _ _⟩
    | false =>
      have hn48 : ¬ some s[0] = some (48 : UInt8) := fun h => by rw [h48.1 h] at hb48; simp at hb48
      clear h48
      have hext : (s.extract 0 D).data.toList = s.data.toList.take D := by rw [ext_any]; simp
      generalize Sp.num (s.data.toList.take D) = v at hN hnum
      have hnum' := hnum
      rw [← hext] at hnum'
      have hsz : (s.extract 0 D).size = D := by simp; omega
      have HA := Lib.hid (fun W => strconv_Atoi_gl (s.extract 0 D) _ (by omega) hnum' W)
      clear hnum hnum' hext hsz
      have main : ∀ b : Bool, Sp.stuck (s.data.toList.drop D) = b → (b = true → N = 0) ∧ (b = false → N = if 50000 < v then 0 else D) := by
        intro b hb
        rw [hb] at hN
        constructor
        · rintro rfl; rw [if_pos (.inr (.inr rfl))] at hN; exact hN.symm
        · rintro rfl
          rw [if_neg] at hN
          · exact hN.symm
          · rintro (h | h | h)
            · exact h5 h
            · exact hn48 h
            · simp at h
      clear hN hn48
      by_cases hlt : D < s.size
      · have hd := drop_at s D hlt
        rw [hd] at main
        have e : Sp.stuck (s[D] :: s.data.toList.drop (D + 1)) = (Sp.alpha s[D] || ((s[D].toNat : Int) == 95)) := Sp.letter_alpha s[D]
        rw [e] at main
        have HL := Lib.hid (fun W => lex_letter s[D] W)
        generalize Sp.alpha s[D] = al at main HL
        cases al with
        | true =>
          obtain ⟨m1, _⟩ := main true (by simp)
          have := m1 rfl
          subst this
          clear main m1
          go_enter Tryd.func79, Tryd.ntmps79
          go_wp2_with (first
            | (go_at_call 74; refine (HSp.out _).mono ?_; rintro e w' ⟨rfl, rfl⟩)
            | (go_at_call 77; refine (HL.out _).mono ?_; rintro e w' ⟨rfl, rfl⟩))
          go_ret
          exact ⟨rfl, Below.refl _ _⟩
        | false =>
          cases h95 : ((s[D].toNat : Int) == 95) with
          | true =>
            obtain ⟨m1, _⟩ := main true (by rw [h95]; rfl)
            have := m1 rfl
            subst this
            clear main m1
            go_enter Tryd.func79, Tryd.ntmps79
            go_wp2_with (first
              | (go_at_call 74; refine (HSp.out _).mono ?_; rintro e w' ⟨rfl, rfl⟩)
              | (go_at_call 77; refine (HL.out _).mono ?_; rintro e w' ⟨rfl, rfl⟩))
            go_ret
            exact ⟨rfl, Below.refl _ _⟩
          | false =>
            obtain ⟨_, m1⟩ := main false (by rw [h95]; rfl)
            have HM := Lib.hid (m1 rfl)
            clear main m1
            go_enter Tryd.func79, Tryd.ntmps79
            go_wp2_with (first
              | (go_at_call 74; refine (HSp.out _).mono ?_; rintro e w' ⟨rfl, rfl⟩)
              | (go_at_call 77; refine (HL.out _).mono ?_; rintro e w' ⟨rfl, rfl⟩)
              | (go_at_call 71; refine (HA.out _).mono ?_; rintro e w1 ⟨rfl, hb⟩))
            all_goals
              go_ret
              exact ⟨ret_int (by rw [HM.out]; first | (rw [if_pos (by assumption)]; rfl) | (rw [if_neg (by omega)])), hb⟩
      · have hd := drop_end s D hlt
        rw [hd] at main
        obtain ⟨_, m1⟩ := main false rfl
        have HM := Lib.hid (m1 rfl)
        clear main m1 hd
        go_enter Tryd.func79, Tryd.ntmps79
        go_wp2_with (first
          | (go_at_call 74; refine (HSp.out _).mono ?_; rintro e w' ⟨rfl, rfl⟩)
          | (go_at_call 71; refine (HA.out _).mono ?_; rintro e w1 ⟨rfl, hb⟩))
        all_goals
          go_ret
          exact ⟨ret_int (by rw [HM.out]; first | (rw [if_pos (by assumption)]; rfl) | (rw [if_neg (by omega)])), hb⟩

/-- A word as a value, its place not yet laid. -/
def wordV (p : Int × List UInt8 × Nat) : Value := .agg #[.int .i64 p.1, .string ⟨p.2.1.toArray⟩, .int .i64 0]
theorem keys_contains (x : ByteArray) : Lib.containsS [⟨#[37, 116, 111, 107, 101, 110]⟩, ⟨#[37, 108, 101, 102, 116]⟩, ⟨#[37, 114, 105, 103, 104, 116]⟩, ⟨#[37, 110, 111, 110, 97, 115, 115, 111, 99]⟩, ⟨#[37, 116, 121, 112, 101]⟩, ⟨#[37, 115, 116, 97, 114, 116]⟩, ⟨#[37, 112, 114, 101, 99]⟩] x = Sp.keys.contains x.data.toList := by
  rw [Bool.eq_iff_iff, Lib.containsS_iff, List.contains_iff_mem]
  have e : ∀ l : List UInt8, x = ⟨l.toArray⟩ ↔ x.data.toList = l := by
    intro l
    constructor
    · rintro rfl; rfl
    · intro h; rw [← h]
  unfold Sp.keys
  simp only [List.mem_cons, List.not_mem_nil, or_false]
  rw [show (⟨#[37, 116, 111, 107, 101, 110]⟩ : ByteArray) = ⟨([37, 116, 111, 107, 101, 110] : List UInt8).toArray⟩ from rfl, show (⟨#[37, 108, 101, 102, 116]⟩ : ByteArray) = ⟨([37, 108, 101, 102, 116] : List UInt8).toArray⟩ from rfl,
    show (⟨#[37, 114, 105, 103, 104, 116]⟩ : ByteArray) = ⟨([37, 114, 105, 103, 104, 116] : List UInt8).toArray⟩ from rfl, show (⟨#[37, 110, 111, 110, 97, 115, 115, 111, 99]⟩ : ByteArray) = ⟨([37, 110, 111, 110, 97, 115, 115, 111, 99] : List UInt8).toArray⟩ from rfl,
    show (⟨#[37, 116, 121, 112, 101]⟩ : ByteArray) = ⟨([37, 116, 121, 112, 101] : List UInt8).toArray⟩ from rfl, show (⟨#[37, 115, 116, 97, 114, 116]⟩ : ByteArray) = ⟨([37, 115, 116, 97, 114, 116] : List UInt8).toArray⟩ from rfl, show (⟨#[37, 112, 114, 101, 99]⟩ : ByteArray) = ⟨([37, 112, 114, 101, 99] : List UInt8).toArray⟩ from rfl]
  rw [e, e, e, e, e, e, e]

theorem heap_alloc_of2 {w : World} {b : Nat} {o : Obj} (h : w.heap[b]? = some o) (x : Obj) : (w.alloc x).heap[b]? = some o := (Below.heap_alloc _ _ _ (lt_at h)).trans h
def keysB : List ByteArray := [⟨#[37, 116, 111, 107, 101, 110]⟩, ⟨#[37, 108, 101, 102, 116]⟩, ⟨#[37, 114, 105, 103, 104, 116]⟩, ⟨#[37, 110, 111, 110, 97, 115, 115, 111, 99]⟩, ⟨#[37, 116, 121, 112, 101]⟩, ⟨#[37, 115, 116, 97, 114, 116]⟩, ⟨#[37, 112, 114, 101, 99]⟩]
theorem keys_cells (w : World) (n : Nat) (hn : n = w.heap.size) : ∀ j, j < keysB.length → (w.alloc (.cells #[.string ⟨#[37, 116, 111, 107, 101, 110]⟩, .string ⟨#[37, 108, 101, 102, 116]⟩, .string ⟨#[37, 114, 105, 103, 104, 116]⟩, .string ⟨#[37, 110, 111, 110, 97, 115, 115, 111, 99]⟩, .string ⟨#[37, 116, 121, 112, 101]⟩, .string ⟨#[37, 115, 116, 97, 114, 116]⟩, .string ⟨#[37, 112, 114, 101, 99]⟩] 9)).cell? ⟨n, 0 + j, none⟩ = some (.string (keysB.getD j ByteArray.empty)) := by
  subst hn
  intro j hj
  have hj' : j < 7 := hj
  rw [cell_at (heap_last w _)]
  rcases j with _ | _ | _ | _ | _ | _ | _ | j
  · rfl
  · rfl
  · rfl
  · rfl
  · rfl
  · rfl
  · rfl
  · omega
theorem percent_eq (r : List UInt8) : Sp.percent r =
  if Lib.hasPrefix r [37, 37] = true then (7, [37, 37], 2)
  else if Lib.hasPrefix r [37, 123] = true then (if 0 ≤ Lib.index (r.drop 2) [37, 125] then (9, (r.drop 2).take (Lib.index (r.drop 2) [37, 125]).toNat, (Lib.index (r.drop 2) [37, 125]).toNat + 4) else Sp.noWord)
  else if Sp.keys.contains (r.take (1 + Sp.alphas (r.drop 1))) = true then (5, r.take (1 + Sp.alphas (r.drop 1)), 1 + Sp.alphas (r.drop 1))
  else Sp.noWord := by
  unfold Sp.percent
  split
  · rfl
  · split
    · unfold Sp.upto
      by_cases h : 0 ≤ Lib.index (r.drop 2) [37, 125]
      · rw [if_pos h, if_pos h]; simp
      · rw [if_neg h, if_neg h]
    · rfl

set_option maxRecDepth 100000 in
set_option maxHeartbeats 3200000 in
theorem lex_percent (s : ByteArray) (w : World) (hs : s.size < 4294967281) (h0 : 0 < s.size) (hg : Gl w) :
    Calls Tryd.prog 81 #[.string s] w fun e w' => e = .returned (.tuple #[wordV (Sp.percent s.data.toList), .int .i64 (Sp.percent s.data.toList).2.2]) ∧ Below w.heap.size w w' := by
  generalize hN : Sp.percent s.data.toList = N
  rw [percent_eq] at hN
  cases hp1 : Lib.hasPrefix s.data.toList [37, 37] with
  | true =>
    rw [if_pos hp1] at hN
    subst hN
    go_enter Tryd.func81, Tryd.ntmps81
    go_wp2_with (go_at_call 64; refine (strings_HasPrefix_gl _ _ _).mono ?_; rintro e w' ⟨rfl, rfl⟩)
    refine ret_cell_tmp (g := w.heap.size) rfl rfl (heap_last _ _) rfl Tryd.underlying53 (by kernel_rfl) rfl ⟨by simp [wordV], (Below.refl _ _).alloc (Nat.le_refl _) _⟩
  | false =>
    rw [if_neg (by rw [hp1]; decide)] at hN
    cases hp2 : Lib.hasPrefix s.data.toList [37, 123] with
    | true =>
      rw [if_pos hp2] at hN
      have h2 : 2 ≤ s.size := by
        have := List.IsPrefix.length_le (List.isPrefixOf_iff_prefix.1 hp2)
        simpa using this
      have hroom := Lib.index_room (s.data.toList.drop 2) [37, 125]
      have hge := Lib.index_ge (s.data.toList.drop 2) [37, 125]
      have hll2 : (s.data.toList.drop 2).length = s.size - 2 := by simp
      rw [hll2] at hroom
      simp only [List.length_cons, List.length_nil] at hroom
      have HIx := Lib.hid (fun W (hW : Gl W) => strings_Index_gl (s.extract 2 s.size) ⟨#[37, 125]⟩ W (by simp; omega) hW)
      rw [ext_end] at HIx
      have e47 : (⟨#[37, 125]⟩ : ByteArray).data.toList = [37, 125] := rfl
      rw [e47] at HIx
      generalize Lib.index (s.data.toList.drop 2) [37, 125] = I at hN hroom hge HIx
      have hga := fun (o : Obj) => hg.alloc o
      have HGA := Lib.hid hga
      clear hga hll2 e47
      by_cases hI : 0 ≤ I
      · rw [if_pos hI] at hN
        obtain ⟨i, rfl⟩ := Int.eq_ofNat_of_zero_le hI
        simp only [Int.toNat_natCast] at hN
        have hi2 : 2 + i + 2 ≤ s.size := by omega
        have HN := Lib.hid hN
        clear hN hI hge hroom
        go_enter Tryd.func81, Tryd.ntmps81
        go_wp2_with (first
          | (go_at_call 64; refine (strings_HasPrefix_gl _ _ _).mono ?_; rintro e w' ⟨rfl, rfl⟩)
          | (go_at_call 76; refine (HIx.out _ (HGA.out _)).mono ?_; rintro e w' ⟨rfl, rfl⟩))
        have hN := HN.out
        subst hN
        refine ret_cell_tmp (g := w.heap.size) rfl rfl (heap_last _ _) rfl Tryd.underlying53 (by kernel_rfl) rfl ⟨?_, (Below.refl _ _).alloc (Nat.le_refl _) _⟩
        simp [wordV, Lib.extract_eq]
      · rw [if_neg hI] at hN
        have HN := Lib.hid hN
        clear hN hge hroom
        go_enter Tryd.func81, Tryd.ntmps81
        go_wp2_with (first
          | (go_at_call 64; refine (strings_HasPrefix_gl _ _ _).mono ?_; rintro e w' ⟨rfl, rfl⟩)
          | (go_at_call 76; refine (HIx.out _ (HGA.out _)).mono ?_; rintro e w' ⟨rfl, rfl⟩))
        have hN := HN.out
        subst hN
        refine ret_cell_tmp (g := w.heap.size) rfl rfl (heap_last _ _) rfl Tryd.underlying53 (by kernel_rfl) rfl ⟨by simp [wordV, Sp.noWord], (Below.refl _ _).alloc (Nat.le_refl _) _⟩
    | false =>
      rw [if_neg (by rw [hp2]; decide)] at hN
      have HSp := Lib.hid (fun W => lex_span_alpha (s.extract 1 s.size) W (by simp; omega))
      rw [ext_end, alphas_span_eq] at HSp
      have hale := Sp.alphas_le (s.data.toList.drop 1)
      have hll : (s.data.toList.drop 1).length = s.size - 1 := by simp
      rw [hll] at hale
      have h0' : (1 : Int) ≤ (s.size : Int) := by omega
      generalize Sp.alphas (s.data.toList.drop 1) = L at hN HSp hale
      have hext : (s.extract 0 (1 + L)).data.toList = s.data.toList.take (1 + L) := by rw [ext_any]; simp
      have hka := keys_contains (s.extract 0 (1 + L))
      rw [hext] at hka
      have HX := Lib.hid (show (⟨(s.data.toList.take (1 + L)).toArray⟩ : ByteArray) = s.extract 0 (1 + L) by rw [← hext])
      generalize Sp.keys.contains (s.data.toList.take (1 + L)) = B at hN hka
      have HK := Lib.hid hka
      have HN := Lib.hid hN
      clear hka hN hll hext
      go_enter Tryd.func81, Tryd.ntmps81
      go_wp2_with (first
        | (go_at_call 64; refine (strings_HasPrefix_gl _ _ _).mono ?_; rintro e w' ⟨rfl, rfl⟩)
        | (go_at_call 74; refine (HSp.out _).mono ?_; rintro e w' ⟨rfl, rfl⟩))
      refine (Tryd.slices_Contains_string _ 0 7 7 keysB _ _ (by decide) (by decide) (keys_cells _ _ (by simp))).mono ?_
      rintro e w' ⟨rfl, rfl⟩
      rw [show keysB.take 7 = keysB from rfl, show Lib.containsS keysB (s.extract 0 (1 + L)) = B from HK.out]
      cases B with
      | true =>
        go_wp2
        have hN := HN.out
        first | rw [if_pos rfl] at hN | rw [if_pos trivial] at hN
        subst hN
        refine ret_cell_tmp (g := w.heap.size) rfl rfl (heap_alloc_of2 (heap_last _ _) _) rfl Tryd.underlying53 (by kernel_rfl) rfl ⟨?_, ?_⟩
        · simp [wordV, HX.out]
        · exact ((Below.refl _ _).alloc (Nat.le_refl _) _).alloc (by simp) _
      | false =>
        go_wp2
        have hN := HN.out
        first | rw [if_neg (by decide)] at hN | rw [if_neg not_false] at hN
        subst hN
        refine ret_cell_tmp (g := w.heap.size) rfl rfl (heap_alloc_of2 (heap_last _ _) _) rfl Tryd.underlying53 (by kernel_rfl) rfl ⟨?_, ?_⟩
        · simp [wordV, Sp.noWord]
        · exact ((Below.refl _ _).alloc (Nat.le_refl _) _).alloc (by simp) _
end Go.Proofs.YticdgfljaphhgaaDoor
