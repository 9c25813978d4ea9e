/- The walk of the reference's Words. -/
import Derived.Test.YticdgfljaphhgaaDoorCm
import Derived.Test.YticdgfljaphhgaaDoorSpQ
namespace Go.Proofs.YticdgfljaphhgaaDoor
open Go.RowKit

section
variable (s : ByteArray) (at_ : Nat) (w : World)
set_option maxRecDepth 100000 in
set_option maxHeartbeats 6400000 in
theorem ref_word_none (hat : at_ < s.size) (hs : s.size < 4294967281) (hl : Sp.letter s[at_] = false) (hdg : Sp.digit s[at_] = false) (h39 : ((s[at_].toNat : Int) == 39) = false) (h60 : ((s[at_].toNat : Int) == 60) = false)
    (h58 : ((s[at_].toNat : Int) == 58) = false) (h59 : ((s[at_].toNat : Int) == 59) = false) (h124 : ((s[at_].toNat : Int) == 124) = false) (h37 : ((s[at_].toNat : Int) == 37) = false) (h123 : ((s[at_].toNat : Int) == 123) = false) :
    Calls Tryd.prog 73 #[.string s, .int .i64 at_] w (RWordPost (Sp.word (s.data.toList.drop at_)) at_ w) := by
  have hd := drop_at s at_ hat
  have hN : Sp.word (s.data.toList.drop at_) = Sp.noWord := by
    rw [hd, Sp.word_cons, if_neg (by rw [hl]; decide), if_neg (by rw [hdg]; decide), if_neg (by rw [h39]; decide), if_neg (by rw [h60]; decide), if_neg (by rw [h37]; decide), if_neg (by rw [h58, h59, h124]; simp), if_neg (by rw [h123]; decide)]
  rw [hN]
  have hpx : ∀ x, Lib.hasPrefix (s.data.toList.drop at_) [37, x] = false := by
    intro x
    rw [hd]
    have hne : ¬ (37 : UInt8) = s[at_] := fun e => by rw [← e] at h37; exact absurd h37 (by decide)
    simp [Lib.hasPrefix, List.isPrefixOf, hne]
  have HL := Lib.hid (fun W => ref_letter s[at_] W)
  have HDg := Lib.hid (fun W => ref_digit s[at_] W)
  rw [hl] at HL
  rw [hdg] at HDg
  have HB1 := Lib.hid (fun W => ref_begins s ⟨#[37, 37]⟩ at_ W hs (by decide) (by omega))
  have HB2 := Lib.hid (fun W => ref_begins s ⟨#[37, 123]⟩ at_ W hs (by decide) (by omega))
  have e1 : (⟨#[37, 37]⟩ : ByteArray).data.toList = [37, 37] := rfl
  have e2 : (⟨#[37, 123]⟩ : ByteArray).data.toList = [37, 123] := rfl
  rw [e1, hpx] at HB1
  rw [e2, hpx] at HB2
  have H0 : (0 : Int) ≤ (at_ : Int) := Int.natCast_nonneg _
  clear hN hl hdg e1 e2 hpx hd
  go_enter Tryd.func73, Tryd.ntmps73
  go_wp2_with (first
    | (go_at_call 90; refine (HL.out _).mono ?_; rintro e w' ⟨rfl, rfl⟩)
    | (go_at_call 91; refine (HDg.out _).mono ?_; rintro e w' ⟨rfl, rfl⟩)
    | (go_at_call_of 66 (Value.string ⟨#[37, 37]⟩); refine (HB1.out _).mono ?_; rintro e w' ⟨rfl, rfl⟩)
    | (go_at_call_of 66 (Value.string ⟨#[37, 123]⟩); refine (HB2.out _).mono ?_; rintro e w' ⟨rfl, rfl⟩))
  refine ret_cell_tmp (g := w.heap.size) rfl rfl (heap_alloc_of2 (heap_last _ _) _) rfl Tryd.underlying53 (by kernel_rfl) rfl ⟨by simp [wordAt, Sp.noWord], ((Below.refl _ _).alloc (Nat.le_refl _) _).alloc (by simp) _⟩

theorem ref_word_any (hat : at_ < s.size) (hs : s.size < 4294967281) :
    Calls Tryd.prog 73 #[.string s, .int .i64 at_] w (RWordPost (Sp.word (s.data.toList.drop at_)) at_ w) := by
  cases hl : Sp.letter s[at_] with
  | true => exact ref_word_name s at_ w hs hat hl
  | false =>
  cases hdg : Sp.digit s[at_] with
  | true =>
    have h39 : ((s[at_].toNat : Int) == 39) = false := by
      unfold Sp.digit at hdg; simp at hdg
      rw [beq_eq_false_iff_ne]; omega
    exact ref_word_num s at_ w hat hs hl hdg h39
  | false =>
  cases h39 : ((s[at_].toNat : Int) == 39) with
  | true => exact ref_word_lit s at_ w hat hs hl hdg h39
  | false =>
  cases h60 : ((s[at_].toNat : Int) == 60) with
  | true => exact ref_word_tag s at_ w hs hat hl hdg h39 h60
  | false =>
  cases h37 : ((s[at_].toNat : Int) == 37) with
  | true =>
    have h37' : (s[at_].toNat : Int) = 37 := by simpa using h37
    have h58 : ((s[at_].toNat : Int) == 58) = false := by rw [beq_eq_false_iff_ne]; omega
    have h59 : ((s[at_].toNat : Int) == 59) = false := by rw [beq_eq_false_iff_ne]; omega
    have h124 : ((s[at_].toNat : Int) == 124) = false := by rw [beq_eq_false_iff_ne]; omega
    have h123 : ((s[at_].toNat : Int) == 123) = false := by rw [beq_eq_false_iff_ne]; omega
    have hN : Sp.word (s.data.toList.drop at_) = Sp.percent (s.data.toList.drop at_) := by
      rw [drop_at s at_ hat, Sp.word_cons, if_neg (by rw [hl]; decide), if_neg (by rw [hdg]; decide), if_neg (by rw [h39]; decide), if_neg (by rw [h60]; decide), if_pos h37]
    rw [hN]
    cases hpp : Lib.hasPrefix (s.data.toList.drop at_) [37, 37] with
    | true => exact ref_word_mark s at_ w hat hs hl hdg h39 h60 h58 h59 h124 h37 h123 hpp
    | false =>
    cases hpb : Lib.hasPrefix (s.data.toList.drop at_) [37, 123] with
    | true => exact ref_word_pro s at_ w hat hs hl hdg h39 h60 h58 h59 h124 h37 h123 hpp hpb
    | false => exact ref_word_key s at_ w hat hs hl hdg h39 h60 h58 h59 h124 h37 h123 hpp hpb
  | false =>
  cases h58 : ((s[at_].toNat : Int) == 58) with
  | true => exact ref_word_sign s at_ w hat hs hl hdg h39 h60 h37 (.inl h58)
  | false =>
  cases h59 : ((s[at_].toNat : Int) == 59) with
  | true => exact ref_word_sign s at_ w hat hs hl hdg h39 h60 h37 (.inr (.inl h59))
  | false =>
  cases h124 : ((s[at_].toNat : Int) == 124) with
  | true => exact ref_word_sign s at_ w hat hs hl hdg h39 h60 h37 (.inr (.inr h124))
  | false =>
  cases h123 : ((s[at_].toNat : Int) == 123) with
  | true => exact ref_word_code s at_ w hat hs hl hdg h39 h60 h58 h59 h124 h37 h123
  | false => exact ref_word_none s at_ w hat hs hl hdg h39 h60 h58 h59 h124 h37 h123
end

/-- What the reference's Words leaves. -/
def RWordsPost (r : List Sp.Word × Int × Nat) (w : World) (e : Ending) (w' : World) : Prop :=
  ∃ v, e = .returned (.tuple #[v, .int .i64 r.2.1, .int .i64 (r.2.2 : Nat)]) ∧ w'.ownsRow w.heap.size 53 3 v r.1.length (r.1.flatMap wordC) ∧ Below w.heap.size w w'
/-- What a round of it finds. -/
def RWordsI (s : ByteArray) (R : Except Nat (List Sp.Word)) (w : World) (p m : Nat) (v : Value) (wr : World) : Prop :=
  ∃ (f : Nat) (ws : List Sp.Word), wr.ownsRow w.heap.size 53 3 v ws.length (ws.flatMap wordC) ∧
    Below w.heap.size w wr ∧ s.size - p < f ∧ (Sp.wordsGo f m p (s.data.toList.drop p)).map (ws ++ ·) = R ∧ ws.length ≤ p

set_option maxRecDepth 100000 in
set_option maxHeartbeats 25600000 in
theorem ref_Words_go (s : ByteArray) (w : World) (hs : s.size ≤ 4000) :
    Calls Tryd.prog 44 #[.string s] w (RWordsPost (Sp.wordsRes (Sp.wordsGo (s.size + 1) 0 0 s.data.toList)) w) := by
  generalize hR : Sp.wordsGo (s.size + 1) 0 0 s.data.toList = R
  have HR := Lib.hid hR
  clear hR
  obtain ⟨i0, hi0, hz0, hz1, hz2⟩ := info_parts info_word
  go_enter Tryd.func44, Tryd.ntmps44
  go_wp2
  go_loopw [5, 6, 7] (fun v mv pv wr => ∃ p m : Nat, p ≤ s.size ∧ m ≤ 1 ∧ pv = .int .i64 p ∧ mv = .int .i64 m ∧ RWordsI s R w p m v wr) (fun _ _ pv _ => s.size - (intOf pv).toNat)
  case atStart =>
    refine ⟨0, 0, Nat.zero_le _, by omega, rfl, rfl, s.size + 1, [], World.ownsRow_nil _ _ _ _, Below.refl _ _, by omega, ?_, by simp⟩
    have := HR.out
    rw [List.drop_zero, this]
    cases R <;> simp [Except.map]
  case round =>
    obtain ⟨p, m, hp, hm, rfl, rfl, f, ws, hown, hbel, hf, hi, hlen⟩ := hrel
    clear HR
    obtain ⟨f, rfl⟩ : ∃ g, f = g + 1 := ⟨f - 1, by omega⟩
    obtain ⟨av, cpv, rfl⟩ := ownsRow_some hown
    have hsz := hbel.size
    have HO := Lib.hid hown; have HBel := Lib.hid hbel
    clear hown hbel
    by_cases hlt : p < s.size
    · have HBt := Lib.hid (fun W => ref_between s p W (by omega) hlt)
      have hgl := Sp.gap_le (s.data.toList.drop p)
      have hll : (s.data.toList.drop p).length = s.size - p := by simp
      rw [hll] at hgl
      cases hg : Sp.gap (s.data.toList.drop p) with
      | none =>
        rw [Sp.wordsGo_bad _ _ _ _ hg] at hi
        rw [hg] at HBt
        simp only [Sp.place] at HBt
        have HI := Lib.hid hi
        clear hi hgl hg hll
        go_wp2_with (go_at_call 72; refine (HBt.out _).mono ?_; rintro e w' ⟨rfl, n1, rfl⟩)
        go_ret3
        have hi := HI.out
        subst hi
        exact ⟨_, rfl, World.ownsRow_nil _ _ _ _, below_drewN HBel.out _⟩
      | some n =>
        have hn := hgl n hg
        cases n with
        | succ n =>
          rw [Sp.wordsGo_gap _ _ _ _ _ hg, List.drop_drop] at hi
          rw [hg] at HBt
          simp only [Sp.place] at HBt
          have HI := Lib.hid hi
          have hkl : p + (n + 1) ≤ s.size := by omega
          clear hi hgl hg hll
          go_wp2_with (go_at_call 72; refine (HBt.out _).mono ?_; rintro e w' ⟨rfl, n1, rfl⟩)
          go_roundw
          case rel => go_light; exact ⟨p + (n + 1), m, hkl, hm, by go_num, rfl, f + 1, ws, HO.out, below_drewN HBel.out _, by omega, HI.out, by omega⟩
          case measure => go_light; simp [intOf]; omega
        | zero =>
          rw [Sp.wordsGo_word _ _ _ _ hg (by intro e; rw [e] at hll; simp at hll; omega)] at hi
          rw [hg] at HBt
          simp only [Sp.place, Nat.add_zero] at HBt
          have hwl := Sp.word_le (s.data.toList.drop p)
          rw [hll] at hwl
          obtain ⟨kd, tx, k, hNe⟩ : ∃ kd tx k, Sp.word (s.data.toList.drop p) = (kd, tx, k) := ⟨_, _, _, rfl⟩
          have HWd : Hid (∀ W, Calls Tryd.prog 73 #[.string s, .int .i64 (p : Int)] W fun e w' => e = .returned (.tuple #[.agg #[.int .i64 kd, .string ⟨tx.toArray⟩, .int .i64 (p : Int)], .int .i64 (k : Int)]) ∧ Below W.heap.size W w') := Lib.hid (fun W => by
            have h := ref_word_any s p W hlt (by omega)
            rw [hNe] at h
            exact h)
          rw [hNe] at hi hwl
          simp only [List.drop_drop] at hi hwl
          clear hNe hgl hg hll hn
          by_cases hk0 : k = 0
          · subst hk0
            rw [if_pos rfl] at hi
            have HI := Lib.hid hi
            clear hi
            go_wp2_with (first
              | (go_at_call 72; refine (HBt.out _).mono ?_; rintro e w' ⟨rfl, n1, rfl⟩)
              | (go_at_call 73; refine (HWd.out _).mono ?_; rintro e w1 ⟨rfl, hb1⟩))
            go_ret3
            have hi := HI.out
            subst hi
            exact ⟨_, rfl, World.ownsRow_nil _ _ _ _, ((below_drewN HBel.out n1).trans (hb1.mono hsz)).alloc (by have := hb1.size; simp at this; omega) _⟩
          · rw [if_neg hk0] at hi
            have hkb : ((k : Int) == 0) = false := by rw [beq_eq_false_iff_ne]; omega
            have hkl : p + k ≤ s.size := by omega
            have hknn : (0 : Int) ≤ (k : Int) := Int.natCast_nonneg _
            cases h7 : (kd == 7) with
            | true =>
              obtain rfl : kd = 7 := by simpa using h7
              clear h7
              rw [if_pos rfl] at hi
              by_cases hm1 : m = 1
              · subst hm1
                rw [if_pos rfl] at hi
                have HI := Lib.hid hi
                have HX := Lib.hid (show (⟨(s.data.toList.drop (p + k)).toArray⟩ : ByteArray) = s.extract (p + k) s.size by rw [← ext_end, Lib.mk_data])
                clear hi
                go_wp2_with (go_at_call 72; refine (HBt.out _).mono ?_; rintro e w' ⟨rfl, n1, rfl⟩)
                refine (HWd.out _).mono ?_
                rintro e w1 ⟨rfl, hb1⟩
                have HK := Lib.hid (show Kp (fun k => k < wr.heap.size) wr w1 from ((Kp.refl _ _).drewN n1).trans (Kp.of_below hb1 (fun k hk _ => hk)))
                have HB1 := Lib.hid ((below_drewN HBel.out n1).trans (hb1.mono hsz))
                have hs1 := HK.out.size
                clear hb1
                go_upto_region 13 with (fail)
                go_upto_region 15 with (fail)
                go_upto_region 16 with (fail)
                go_upto_region 17 with (fail)
                go_upto_region 19 with (fail)
                go_wp2_with (at_builtin; refine wpList_append_own _ rfl _ _ 47 rfl w.heap.size 53 i0 _ 3 32 Tryd.underlying47 hi0 hz0 hz1 hz2 rfl (by decide) _ _ _ rfl (ownsRow_old HO.out ?own) ⟨w1.heap.size + 1, 0, none⟩ 1 1 [.int .i64 10, .string (s.extract (p + k) s.size), .int .i64 ((p : Int) + (k : Int))] rfl rfl ?c1 ?c2 ?c3 ?c4 ?c5 ?_)
                case own => exact (HK.out.alloc _).alloc _
                case c1 => exact new_cells_at _ _ _ _ (by simp)
                case c2 => simp [Value.oneCell']
                case c3 => unfold maxLen; omega
                case c4 => omega
                case c5 => simp; omega
                intro v3 w3 ho3 hg3 _
                have HO3 := Lib.hid ho3; have HG3 := Lib.hid hg3; clear ho3 hg3
                go_wp2_with fail
                go_ret3
                have hi := HI.out
                subst hi
                refine ⟨_, rfl, ?_, ?_⟩
                · have h0 := HO3.out
                  rw [← HX.out] at h0
                  show World.ownsRow _ _ _ _ _ (ws ++ [_]).length ((ws ++ [_]).flatMap wordC)
                  rw [List.length_append, List.flatMap_append, List.flatMap_singleton]
                  exact h0
                · exact ((HB1.out.alloc (by omega) _).alloc (by simp; omega) _).grown HG3.out (by simp; omega) (fun g hg => (HO.out.lt g hg).1)
              · obtain rfl : m = 0 := by omega
                rw [if_neg (by decide)] at hi
                have HI := Lib.hid hi
                clear hi hm1
                go_wp2_with (go_at_call 72; refine (HBt.out _).mono ?_; rintro e w' ⟨rfl, n1, rfl⟩)
                refine (HWd.out _).mono ?_
                rintro e w1 ⟨rfl, hb1⟩
                have HK := Lib.hid (show Kp (fun k => k < wr.heap.size) wr w1 from ((Kp.refl _ _).drewN n1).trans (Kp.of_below hb1 (fun k hk _ => hk)))
                have HB1 := Lib.hid ((below_drewN HBel.out n1).trans (hb1.mono hsz))
                have hs1 := HK.out.size
                clear hb1
                go_upto_region 13 with (fail)
                go_upto_region 15 with (fail)
                go_upto_region 16 with (fail)
                go_upto_region 17 with (fail)
                go_upto_region 18 with (fail)
                go_upto_region 20 with (fail)
                go_wp2_with (at_builtin; refine wpList_append_own _ rfl _ _ 47 rfl w.heap.size 53 i0 _ 3 32 Tryd.underlying47 hi0 hz0 hz1 hz2 rfl (by decide) _ _ _ rfl (ownsRow_old HO.out ?own) ⟨w1.heap.size + 1, 0, none⟩ 1 1 [.int .i64 7, .string ⟨tx.toArray⟩, .int .i64 (p : Int)] rfl rfl ?c1 ?c2 ?c3 ?c4 ?c5 ?_)
                case own => exact (HK.out.alloc _).alloc _
                case c1 => exact new_cells_at _ _ _ _ (by simp)
                case c2 => simp [Value.oneCell']
                case c3 => unfold maxLen; omega
                case c4 => omega
                case c5 => simp; omega
                intro v3 w3 ho3 hg3 _
                have HO3 := Lib.hid ho3; have HG3 := Lib.hid hg3; clear ho3 hg3
                go_wp2_with fail
                go_roundw
                case rel =>
                  go_light
                  refine ⟨p + k, 1, hkl, by omega, by go_num, by go_num, f, ws ++ [⟨7, tx, (p : Nat)⟩], ?_, ?_, by omega, ?_, by simp; omega⟩
                  · have h := HO3.out
                    simpa [List.flatMap_append, wordC] using h
                  · exact ((HB1.out.alloc (by omega) _).alloc (by simp; omega) _).grown HG3.out (by simp; omega) (fun g hg => (HO.out.lt g hg).1)
                  · rw [← HI.out]
                    cases Sp.wordsGo f 1 (p + k) (s.data.toList.drop (p + k)) with
                    | error _ => rfl
                    | ok _ => simp [Except.map]
                case measure => go_light; simp [intOf]; omega
            | false =>
              have hkd : ¬ kd = 7 := by simpa using h7
              rw [if_neg hkd, if_neg (by omega)] at hi
              have hmb : ((m : Int) == 2) = false := by rw [beq_eq_false_iff_ne]; omega
              have HI := Lib.hid hi
              clear hi hkd
              go_wp2_with (go_at_call 72; refine (HBt.out _).mono ?_; rintro e w' ⟨rfl, n1, rfl⟩)
              refine (HWd.out _).mono ?_
              rintro e w1 ⟨rfl, hb1⟩
              have HK := Lib.hid (show Kp (fun k => k < wr.heap.size) wr w1 from ((Kp.refl _ _).drewN n1).trans (Kp.of_below hb1 (fun k hk _ => hk)))
              have HB1 := Lib.hid ((below_drewN HBel.out n1).trans (hb1.mono hsz))
              have hs1 := HK.out.size
              clear hb1
              go_upto_region 13 with (fail)
              go_upto_region 15 with (fail)
              go_upto_region 16 with (fail)
              go_upto_region 20 with (fail)
              go_wp2_with (at_builtin; refine wpList_append_own _ rfl _ _ 47 rfl w.heap.size 53 i0 _ 3 32 Tryd.underlying47 hi0 hz0 hz1 hz2 rfl (by decide) _ _ _ rfl (ownsRow_old HO.out ?own) ⟨w1.heap.size + 1, 0, none⟩ 1 1 [.int .i64 kd, .string ⟨tx.toArray⟩, .int .i64 (p : Int)] rfl rfl ?c1 ?c2 ?c3 ?c4 ?c5 ?_)
              case own => exact (HK.out.alloc _).alloc _
              case c1 => exact new_cells_at _ _ _ _ (by simp)
              case c2 => simp [Value.oneCell']
              case c3 => unfold maxLen; omega
              case c4 => omega
              case c5 => simp; omega
              intro v3 w3 ho3 hg3 _
              have HO3 := Lib.hid ho3; have HG3 := Lib.hid hg3; clear ho3 hg3
              go_wp2_with fail
              go_roundw
              case rel =>
                go_light
                refine ⟨p + k, m, hkl, by omega, by go_num, by go_num, f, ws ++ [⟨kd, tx, (p : Nat)⟩], ?_, ?_, by omega, ?_, by simp; omega⟩
                · have h := HO3.out
                  simpa [List.flatMap_append, wordC] using h
                · exact ((HB1.out.alloc (by omega) _).alloc (by simp; omega) _).grown HG3.out (by simp; omega) (fun g hg => (HO.out.lt g hg).1)
                · rw [← HI.out]
                  cases Sp.wordsGo f m (p + k) (s.data.toList.drop (p + k)) with
                  | error _ => rfl
                  | ok _ => simp [Except.map]
              case measure => go_light; simp [intOf]; omega
    · obtain rfl : p = s.size := by omega
      rw [drop_end s s.size (by omega), Sp.wordsGo_nil] at hi
      have HI := Lib.hid hi
      clear hi
      go_wp2_with (at_builtin; refine wpList_append_own _ rfl _ _ 47 rfl w.heap.size 53 i0 _ 3 32 Tryd.underlying47 hi0 hz0 hz1 hz2 rfl (by decide) _ _ _ rfl (HO.out.alloc _) ⟨wr.heap.size, 0, none⟩ 1 1 (wordC ⟨10, [], (s.size : Nat)⟩) rfl rfl (new_cells _ _ _) (by simp [wordC, Value.oneCell']) (by unfold maxLen; omega) (by omega) (by simp; omega) ?_; intro v3 w3 ho3 hg3 _; have HO3 := Lib.hid ho3; have HG3 := Lib.hid hg3; clear ho3 hg3)
      go_ret3
      have hi := HI.out
      subst hi
      refine ⟨_, rfl, ?_, ?_⟩
      · show World.ownsRow _ _ _ _ _ (ws ++ [_]).length ((ws ++ [_]).flatMap wordC)
        rw [List.length_append, List.flatMap_append, List.flatMap_singleton]
        exact HO3.out
      · exact (HBel.out.alloc hsz _).grown HG3.out (by simp; omega) (fun g hg => (HO.out.lt g hg).1)
end Go.Proofs.YticdgfljaphhgaaDoor
