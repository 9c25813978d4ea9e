/- The walks of EqWords, EqFault, and of layer 6's same. -/
import Derived.Test.YticdgfljaphhgaaDoorCn
import Derived.Test.YticdgfljaphhgaaDoorBo
import Derived.Test.YticdgfljaphhgaaDoorSpR
namespace Go.Proofs.YticdgfljaphhgaaDoor
open Go.RowKit

set_option maxRecDepth 100000 in
set_option maxHeartbeats 1600000 in
theorem ref_Words (s : ByteArray) (w : World) (hs : s.size < 4294967281) :
    Calls Tryd.prog 44 #[.string s] w (RWordsPost (Sp.words s.data.toList) w) := by
  have hll : s.data.toList.length = s.size := by simp
  unfold Sp.words
  rw [hll]
  by_cases h : 4000 < s.size
  · rw [if_pos h]
    have hI : (4000 : Int) < (s.size : Int) := by omega
    clear hll
    go_enter Tryd.func44, Tryd.ntmps44
    go_wp2
    go_ret3
    exact ⟨_, rfl, World.ownsRow_nil _ _ _ _, Below.refl _ _⟩
  · rw [if_neg h]
    exact ref_Words_go s w (by omega)

theorem guard_word : Tryd.prog.eqGuardType Tryd.prog.depth 53 = false := by kernel_rfl
theorem stood_word : Tryd.prog.stoodInHeld 53 = false := by kernel_rfl
theorem fields_word : Tryd.prog.underlying 53 = some (.struct (Tryd.prog.fieldsOf 53)) := by kernel_rfl
theorem neq_word0 (a0 b0 a2 b2 : Int) (a1 b1 : ByteArray) (w : World) :
    (binOp .neq 53 (.agg #[.int .i64 a0, .string a1, .int .i64 a2]) (.agg #[.int .i64 b0, .string b1, .int .i64 b2])).run Tryd.prog w =
      .ok (.bool (!((a0 == b0) && (a1.toList == b1.toList) && (a2 == b2)))) w := by
  rw [run_neq_struct, run_equalIn_agg w 9999 53 _ _ fields_word stood_word]
  simp only [Program.fieldsOf, Tryd.underlying53, Op.eqFields]
  cases h0 : a0 == b0 <;> cases h1 : a1.toList == b1.toList <;> cases h2 : a2 == b2 <;>
    simp [go_sem, Tryd.underlying3, Tryd.underlying9, h0, h1, h2]
theorem neq_word (p q : Sp.Word) (w : World) :
    (binOp .neq 53 (.agg #[.int .i64 p.kind, .string ⟨p.text.toArray⟩, .int .i64 p.at_]) (.agg #[.int .i64 q.kind, .string ⟨q.text.toArray⟩, .int .i64 q.at_])).run Tryd.prog w =
      .ok (.bool (!decide (p = q))) w := by
  rw [neq_word0]
  congr 2
  obtain ⟨p0, p1, p2⟩ := p
  obtain ⟨q0, q1, q2⟩ := q
  simp only [toList_mk, Sp.Word.mk.injEq]
  rw [Bool.eq_iff_iff]
  simp [or_assoc]

set_option maxRecDepth 100000 in
set_option maxHeartbeats 1600000 in
theorem ref_EqWords (v1 v2 : Value) (ps qs : List Sp.Word) (w : World) (h1 : SlAt w v1 3 (ps.map wordC)) (h2 : SlAt w v2 3 (qs.map wordC))
    (hl1 : ps.length < 4294967281) (hl2 : qs.length < 4294967281) :
    Calls Tryd.prog 46 #[v1, v2] w fun e w' => e = .returned (.bool (decide (ps = qs))) ∧ ∃ n, w' = w.drewN n := by
  have s1 : ∃ a cap, v1 = .slice a ps.length cap := by
    rcases h1 with ⟨hps, a, cap, rfl⟩ | ⟨b, off, cap, rfl, _, _⟩
    · have : ps = [] := by simpa using hps
      exact ⟨a, cap, by simp [this]⟩
    · exact ⟨some ⟨b, off, none⟩, cap, by simp⟩
  have s2 : ∃ a cap, v2 = .slice a qs.length cap := by
    rcases h2 with ⟨hps, a, cap, rfl⟩ | ⟨b, off, cap, rfl, _, _⟩
    · have : qs = [] := by simpa using hps
      exact ⟨a, cap, by simp [this]⟩
    · exact ⟨some ⟨b, off, none⟩, cap, by simp⟩
  by_cases hlen : ps.length = qs.length
  · by_cases hz : qs.length = 0
    · obtain rfl : qs = [] := List.eq_nil_of_length_eq_zero hz
      obtain rfl : ps = [] := List.eq_nil_of_length_eq_zero hlen
      obtain ⟨a, cap, rfl⟩ := s1
      obtain ⟨a2, cap2, rfl⟩ := s2
      clear h1 h2 hlen hz hl1 hl2
      go_enter Tryd.func46, Tryd.ntmps46
      go_wp2
      refine wp_loop_rounds 1 ?_; rw [rounds_succ]
      go_wp2
      go_ret
      exact ⟨rfl, 0, rfl⟩
    · have e1 : ∃ b off cap, v1 = .slice (some ⟨b, off, none⟩) ps.length cap ∧ b < w.heap.size ∧ ∀ i r, (ps.map wordC)[i]? = some r → ∀ j u, r[j]? = some u → w.cell? ⟨b, off + i * 3 + j, none⟩ = some u := by
        rcases h1 with ⟨hps, _⟩ | ⟨b, off, cap, rfl, h, h'⟩
        · have : ps = [] := by simpa using hps
          subst this; simp at hlen; omega
        · exact ⟨b, off, cap, by simp, h, h'⟩
      have e2 : ∃ b off cap, v2 = .slice (some ⟨b, off, none⟩) qs.length cap ∧ b < w.heap.size ∧ ∀ i r, (qs.map wordC)[i]? = some r → ∀ j u, r[j]? = some u → w.cell? ⟨b, off + i * 3 + j, none⟩ = some u := by
        rcases h2 with ⟨hps, _⟩ | ⟨b, off, cap, rfl, h, h'⟩
        · have : qs = [] := by simpa using hps
          subst this; simp at hz
        · exact ⟨b, off, cap, by simp, h, h'⟩
      clear h1 h2 s1 s2 hz
      obtain ⟨b, off, cap, rfl, hlt1, hc1⟩ := e1
      obtain ⟨b2, off2, cap2, rfl, hlt2, hc2⟩ := e2
      generalize hn : qs.length = n at *
      have HL := Lib.hid hlen
      rw [hlen]
      clear hlen hl1
      have HC1 := Lib.hid hc1
      have HC2 := Lib.hid hc2
      have HN := Lib.hid hn
      clear hc1 hc2 hn
      have hg := guard_word
      have hneq := neq_word
      go_enter Tryd.func46, Tryd.ntmps46
      go_wp2
      go_loopw [5] (fun iv wr => ∃ k : Nat, k ≤ n ∧ iv = .int .i64 k ∧ ps.take k = qs.take k ∧ ∃ n, wr = w.drewN n) (fun iv _ => n - (intOf iv).toNat)
      case atStart => exact ⟨0, by omega, rfl, rfl, 0, rfl⟩
      case round =>
        obtain ⟨k, hk, rfl, hi, nn, rfl⟩ := hrel
        have HI := Lib.hid hi; clear hi
        by_cases hkn : k < n
        · have hk1 : k < ps.length := by have := HL.out; omega
          have hk2 : k < qs.length := by have := HN.out; omega
          have hp : ps[k]? = some ps[k] := List.getElem?_eq_getElem hk1
          have hq : qs[k]? = some qs[k] := List.getElem?_eq_getElem hk2
          generalize ps[k] = p at hp
          generalize qs[k] = q at hq
          have g1 := HC1.out k (wordC p) (by simp [hp])
          have g2 := HC2.out k (wordC q) (by simp [hq])
          have a0 := g1 0 _ rfl; have a1 := g1 1 _ rfl; have a2 := g1 2 _ rfl
          have b0 := g2 0 _ rfl; have b1 := g2 1 _ rfl; have b2' := g2 2 _ rfl
          simp only [Nat.add_zero] at a0 b0
          have HP := Lib.hid hp; have HQ := Lib.hid hq
          clear g1 g2 hp hq hk1 hk2
          go_wp2
          go_quiet (fail)
          go_wp2
          all_goals (have hi := HI.out; have hp := HP.out; have hq := HQ.out; clear HI HP HQ)
          · go_ret
            go_light
            refine ⟨ret_bool ?_, _, World.drewN_drewN _ _ _⟩
            symm
            rw [decide_eq_false_iff_not]
            rintro rfl
            rw [hp] at hq
            have hpq := Option.some.inj hq
            clear hp hq hi
            subst hpq
            simp_all
          · go_roundw
            case rel => go_light; exact ⟨k + 1, by omega, by go_num, by rw [List.take_add_one, List.take_add_one, hi, hp, hq]; simp_all, _, rfl⟩
            case measure => go_light; simp [intOf]; omega
        · have hkn' : k = n := by omega
          have HK := Lib.hid hkn'; clear hkn'
          go_wp2
          go_ret
          refine ⟨ret_bool ?_, _, rfl⟩
          symm
          rw [decide_eq_true_eq]
          have := HI.out
          rw [HK.out, List.take_of_length_le (by rw [HL.out]; omega), List.take_of_length_le (by rw [HN.out]; omega)] at this
          exact this
  · obtain ⟨a, cap, rfl⟩ := s1
    obtain ⟨a2, cap2, rfl⟩ := s2
    have hne : ((ps.length : Int) != (qs.length : Int)) = true := by rw [bne_iff_ne]; omega
    have HR : Hid (decide (ps = qs) = false) := by
      show _ = _
      rw [decide_eq_false_iff_not]; rintro rfl; exact hlen rfl
    clear h1 h2 hlen
    go_enter Tryd.func46, Tryd.ntmps46
    go_wp2
    go_ret
    exact ⟨ret_bool HR.out.symm, 0, rfl⟩

theorem words_slAt {w : World} {base : Nat} {e : TypeId} {v : Value} (ps : List Sp.Word) (h : w.ownsRow base e 3 v ps.length (ps.flatMap wordC)) : SlAt w v 3 (ps.map wordC) :=
  slAt_of_owns (base := base) (e := e) (n := ps.length) (ps.map wordC) (by simp [wordC]) (by simp) (by rwa [List.flatMap_def] at h)

set_option maxRecDepth 100000 in
set_option maxHeartbeats 1600000 in
theorem ref_EqFault (e : Int) (p : Nat) (w : World) :
    Calls Tryd.prog 45 #[.agg #[.int .i64 e, .int .i64 p, .string ⟨#[]⟩], .int .i64 e, .int .i64 p, .string ⟨#[]⟩] w fun e w' => e = .returned (.bool true) ∧ Below w.heap.size w w' := by
  go_enter Tryd.func45, Tryd.ntmps45
  go_wp2
  go_ret
  exact ⟨rfl, (Below.refl _ _).alloc (Nat.le_refl _) _⟩

set_option maxRecDepth 100000 in
set_option maxHeartbeats 3200000 in
theorem law_same (s : ByteArray) (w : World) (hs : s.size < 4294967200) (hg : Gl w) :
    Calls Tryd.prog 27 #[.string s] w fun e w' => e = .returned (.bool true) ∧ Below w.heap.size w w' := by
  have hwl := Sp.words_len s.data.toList
  have hll : s.data.toList.length = s.size := by simp
  rw [hll] at hwl
  have HA := Lib.hid (fun W hW => lex_Words s W (by omega) hW)
  have HB := Lib.hid (fun W => ref_Words s W (by omega))
  generalize Sp.words s.data.toList = R at hwl HA HB
  obtain ⟨ws, er, p⟩ := R
  simp only at hwl
  have HE := Lib.hid (fun v1 v2 W (h1 : SlAt W v1 3 (ws.map wordC)) (h2 : SlAt W v2 3 (ws.map wordC)) => ref_EqWords v1 v2 ws ws W h1 h2 (by omega) (by omega))
  rw [show decide (ws = ws) = true by simp] at HE
  have HF := Lib.hid (fun W => ref_EqFault er p W)
  clear hwl hll
  go_enter Tryd.func27, Tryd.ntmps27
  go_wp2_with fail
  refine (HA.out _ hg).mono ?_
  rintro e w1 ⟨v1, rfl, ho1, hb1⟩
  have hs1 := words_slAt ws ho1
  obtain ⟨a1, cap1, rfl⟩ := ownsRow_some ho1
  clear ho1
  go_wp2_with fail
  refine (HB.out _).mono ?_
  rintro e w2 ⟨v2, rfl, ho2, hb2⟩
  have hs2 := words_slAt ws ho2
  obtain ⟨a2, cap2, rfl⟩ := ownsRow_some ho2
  have hb01 : Below w1.heap.size w1 (w1.alloc (.cells #[.int .i64 er, .int .i64 (p : Int), .string ⟨#[]⟩] 49)) := (Below.refl _ _).alloc (Nat.le_refl _) _
  have hs12 := (hs1.below hb01).below hb2
  have hF := (hb2.block w1.heap.size (by simp)).trans (heap_last w1 _)
  have c0 := cell_at (i := 0) hF; have c1 := cell_at (i := 1) hF; have c2 := cell_at (i := 2) hF
  have hsz1 := hb1.size
  have hsz2 := hb2.size
  simp only [World.size_alloc] at hsz2
  have hbel : Below w.heap.size w w2 := (hb1.trans (hb01.mono hsz1)).trans (hb2.mono (by simp; omega))
  have HS2 := Lib.hid hs2; have HS12 := Lib.hid hs12; have HBel := Lib.hid hbel
  clear ho2 hs1 hs2 hs12 hF hb01 hb1 hb2 hbel
  go_wp2_with fail
  refine (HF.out _).mono ?_
  rintro e w3 ⟨rfl, hb3⟩
  have hsz3 := hb3.size
  go_wp2_with fail
  refine (HE.out _ _ w3 (HS12.out.below hb3) (HS2.out.below hb3)).mono ?_
  rintro e w' ⟨rfl, n4, rfl⟩
  go_wp2_with fail
  go_ret
  exact ⟨rfl, below_drewN (HBel.out.trans (hb3.mono HBel.out.size)) _⟩
end Go.Proofs.YticdgfljaphhgaaDoor
