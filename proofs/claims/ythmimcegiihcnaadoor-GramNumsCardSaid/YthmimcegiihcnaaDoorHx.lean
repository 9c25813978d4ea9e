/- The walks of EqInts, EqToks, EqNons, EqFault (yuccaref0). -/
import Derived.Test.YthmimcegiihcnaaDoorBi
import Derived.Test.YthmimcegiihcnaaDoorHc
import Derived.Test.YthmimcegiihcnaaDoorGs
namespace Go.Proofs.YthmimcegiihcnaaDoor
open Go.RowKit

theorem guard_tok : Tryd.prog.eqGuardType Tryd.prog.depth 73 = false := by kernel_rfl
theorem stood_tok : Tryd.prog.stoodInHeld 73 = false := by kernel_rfl
theorem fields_tok : Tryd.prog.underlying 73 = some (.struct (Tryd.prog.fieldsOf 73)) := by kernel_rfl
set_option maxHeartbeats 1600000 in
theorem neq_tok0 (a0 b0 : ByteArray) (a1 b1 : Bool) (a2 b2 : Int) (a3 b3 : Int) (a4 b4 : Int) (a5 b5 : ByteArray) (w : World) :
    (binOp .neq 73 (.agg #[.string a0, .bool a1, .int .i64 a2, .int .i64 a3, .int .i64 a4, .string a5]) (.agg #[.string b0, .bool b1, .int .i64 b2, .int .i64 b3, .int .i64 b4, .string b5])).run Tryd.prog w =
      .ok (.bool (!((a0.toList == b0.toList) && (a1 == b1) && (a2 == b2) && (a3 == b3) && (a4 == b4) && (a5.toList == b5.toList)))) w := by
  rw [run_neq_struct, run_equalIn_agg w 9999 73 _ _ fields_tok stood_tok]
  simp only [Program.fieldsOf, Tryd.underlying73, Op.eqFields]
  cases h0 : a0.toList == b0.toList <;> cases h1 : a1 == b1 <;> cases h2 : a2 == b2 <;> cases h3 : a3 == b3 <;> cases h4 : a4 == b4 <;> cases h5 : a5.toList == b5.toList <;>
    simp [go_sem, Tryd.underlying4, Tryd.underlying3, Tryd.underlying9, h0, h1, h2, h3, h4, h5]
theorem neq_tok (p q : Sp.Tok) (w : World) :
    (binOp .neq 73 (.agg #[.string ⟨p.name.toArray⟩, .bool p.lit, .int .i64 p.num, .int .i64 p.level, .int .i64 p.assoc, .string ⟨p.tag.toArray⟩]) (.agg #[.string ⟨q.name.toArray⟩, .bool q.lit, .int .i64 q.num, .int .i64 q.level, .int .i64 q.assoc, .string ⟨q.tag.toArray⟩])).run Tryd.prog w =
      .ok (.bool (!decide (p = q))) w := by
  rw [neq_tok0]
  congr 2
  obtain ⟨p0, p1, p2, p3, p4, p5⟩ := p
  obtain ⟨q0, q1, q2, q3, q4, q5⟩ := q
  simp only [toList_mk, Sp.Tok.mk.injEq]
  rw [Bool.eq_iff_iff]
  simp [or_assoc, and_assoc]

set_option maxRecDepth 100000 in
set_option maxHeartbeats 1600000 in
theorem ref_EqToks (v1 v2 : Value) (ps qs : List Sp.Tok) (w : World) (h1 : SlAt w v1 6 (ps.map tokC)) (h2 : SlAt w v2 6 (qs.map tokC))
    (hl1 : ps.length < 4294967281) (hl2 : qs.length < 4294967281) :
    Calls Tryd.prog 31 #[v1, v2] w fun e w' => e = .returned (.bool (decide (ps = qs))) ∧ ∃ n, w' = w.drewN n := by
  have s1 : ∃ a cap, v1 = .slice a ps.length cap := by
    rcases h1 with ⟨hps, a, cap, rfl⟩ | ⟨b, off, cap, rfl, _, _⟩
    · have : ps = [] := by simpa using hps
      exact ⟨a, cap, by simp [this]⟩
    · exact ⟨some ⟨b, off, none⟩, cap, by simp⟩
  have s2 : ∃ a cap, v2 = .slice a qs.length cap := by
    rcases h2 with ⟨hps, a, cap, rfl⟩ | ⟨b, off, cap, rfl, _, _⟩
    · have : qs = [] := by simpa using hps
      exact ⟨a, cap, by simp [this]⟩
    · exact ⟨some ⟨b, off, none⟩, cap, by simp⟩
  by_cases hlen : ps.length = qs.length
  · by_cases hz : qs.length = 0
    · obtain rfl : qs = [] := List.eq_nil_of_length_eq_zero hz
      obtain rfl : ps = [] := List.eq_nil_of_length_eq_zero hlen
      obtain ⟨a, cap, rfl⟩ := s1
      obtain ⟨a2, cap2, rfl⟩ := s2
      clear h1 h2 hlen hz hl1 hl2
      go_enter Tryd.func31, Tryd.ntmps31
      go_wp2
      refine wp_loop_rounds 1 ?_; rw [rounds_succ]
      go_wp2
      go_ret
      exact ⟨rfl, 0, rfl⟩
    · have e1 : ∃ b off cap, v1 = .slice (some ⟨b, off, none⟩) ps.length cap ∧ b < w.heap.size ∧ ∀ i r, (ps.map tokC)[i]? = some r → ∀ j u, r[j]? = some u → w.cell? ⟨b, off + i * 6 + j, none⟩ = some u := by
        rcases h1 with ⟨hps, _⟩ | ⟨b, off, cap, rfl, h, h'⟩
        · have : ps = [] := by simpa using hps
          subst this; simp at hlen; omega
        · exact ⟨b, off, cap, by simp, h, h'⟩
      have e2 : ∃ b off cap, v2 = .slice (some ⟨b, off, none⟩) qs.length cap ∧ b < w.heap.size ∧ ∀ i r, (qs.map tokC)[i]? = some r → ∀ j u, r[j]? = some u → w.cell? ⟨b, off + i * 6 + j, none⟩ = some u := by
        rcases h2 with ⟨hps, _⟩ | ⟨b, off, cap, rfl, h, h'⟩
        · have : qs = [] := by simpa using hps
          subst this; simp at hz
        · exact ⟨b, off, cap, by simp, h, h'⟩
      clear h1 h2 s1 s2 hz
      obtain ⟨b, off, cap, rfl, hlt1, hc1⟩ := e1
      obtain ⟨b2, off2, cap2, rfl, hlt2, hc2⟩ := e2
      generalize hn : qs.length = n at *
      have HL := Lib.hid hlen
      rw [hlen]
      clear hlen hl1
      have HC1 := Lib.hid hc1
      have HC2 := Lib.hid hc2
      have HN := Lib.hid hn
      clear hc1 hc2 hn
      have hg := guard_tok
      have hneq := neq_tok
      go_enter Tryd.func31, Tryd.ntmps31
      go_wp2
      go_loopw [5] (fun iv wr => ∃ k : Nat, k ≤ n ∧ iv = .int .i64 k ∧ ps.take k = qs.take k ∧ ∃ n, wr = w.drewN n) (fun iv _ => n - (intOf iv).toNat)
      case atStart => exact ⟨0, by omega, rfl, rfl, 0, rfl⟩
      case round =>
        obtain ⟨k, hk, rfl, hi, nn, rfl⟩ := hrel
        have HI := Lib.hid hi; clear hi
        by_cases hkn : k < n
        · have hk1 : k < ps.length := by have := HL.out; omega
          have hk2 : k < qs.length := by have := HN.out; omega
          have hp : ps[k]? = some ps[k] := List.getElem?_eq_getElem hk1
          have hq : qs[k]? = some qs[k] := List.getElem?_eq_getElem hk2
          generalize ps[k] = p at hp
          generalize qs[k] = q at hq
          have g1 := HC1.out k (tokC p) (by simp [hp])
          have g2 := HC2.out k (tokC q) (by simp [hq])
          have a0 := g1 0 _ rfl; have a1 := g1 1 _ rfl; have a2 := g1 2 _ rfl; have a3 := g1 3 _ rfl; have a4 := g1 4 _ rfl; have a5 := g1 5 _ rfl
          have b0 := g2 0 _ rfl; have b1 := g2 1 _ rfl; have b2' := g2 2 _ rfl; have b3 := g2 3 _ rfl; have b4 := g2 4 _ rfl; have b5 := g2 5 _ rfl
          simp only [Nat.add_zero] at a0 b0
          have HP := Lib.hid hp; have HQ := Lib.hid hq
          clear g1 g2 hp hq hk1 hk2
          go_wp2
          go_quiet (fail)
          go_wp2
          all_goals (have hi := HI.out; have hp := HP.out; have hq := HQ.out; clear HI HP HQ)
          · go_ret
            go_light
            refine ⟨ret_bool ?_, _, World.drewN_drewN _ _ _⟩
            symm
            rw [decide_eq_false_iff_not]
            rintro rfl
            rw [hp] at hq
            have hpq := Option.some.inj hq
            clear hp hq hi
            subst hpq
            simp_all
          · go_roundw
            case rel => go_light; exact ⟨k + 1, by omega, by go_num, by rw [List.take_add_one, List.take_add_one, hi, hp, hq]; simp_all, _, rfl⟩
            case measure => go_light; simp [intOf]; omega
        · have hkn' : k = n := by omega
          have HK := Lib.hid hkn'; clear hkn'
          go_wp2
          go_ret
          refine ⟨ret_bool ?_, _, rfl⟩
          symm
          rw [decide_eq_true_eq]
          have := HI.out
          rw [HK.out, List.take_of_length_le (by rw [HL.out]; omega), List.take_of_length_le (by rw [HN.out]; omega)] at this
          exact this
  · obtain ⟨a, cap, rfl⟩ := s1
    obtain ⟨a2, cap2, rfl⟩ := s2
    have hne : ((ps.length : Int) != (qs.length : Int)) = true := by rw [bne_iff_ne]; omega
    have HR : Hid (decide (ps = qs) = false) := by
      show _ = _
      rw [decide_eq_false_iff_not]; rintro rfl; exact hlen rfl
    clear h1 h2 hlen
    go_enter Tryd.func31, Tryd.ntmps31
    go_wp2
    go_ret
    exact ⟨ret_bool HR.out.symm, 0, rfl⟩

theorem guard_non : Tryd.prog.eqGuardType Tryd.prog.depth 80 = false := by kernel_rfl
theorem stood_non : Tryd.prog.stoodInHeld 80 = false := by kernel_rfl
theorem fields_non : Tryd.prog.underlying 80 = some (.struct (Tryd.prog.fieldsOf 80)) := by kernel_rfl
set_option maxHeartbeats 1600000 in
theorem neq_non0 (a0 b0 : ByteArray) (a1 b1 : ByteArray) (w : World) :
    (binOp .neq 80 (.agg #[.string a0, .string a1]) (.agg #[.string b0, .string b1])).run Tryd.prog w =
      .ok (.bool (!((a0.toList == b0.toList) && (a1.toList == b1.toList)))) w := by
  rw [run_neq_struct, run_equalIn_agg w 9999 80 _ _ fields_non stood_non]
  simp only [Program.fieldsOf, Tryd.underlying80, Op.eqFields]
  cases h0 : a0.toList == b0.toList <;> cases h1 : a1.toList == b1.toList <;>
    simp [go_sem, Tryd.underlying9, h0, h1]
theorem neq_non (p q : Sp.Non) (w : World) :
    (binOp .neq 80 (.agg #[.string ⟨p.name.toArray⟩, .string ⟨p.tag.toArray⟩]) (.agg #[.string ⟨q.name.toArray⟩, .string ⟨q.tag.toArray⟩])).run Tryd.prog w =
      .ok (.bool (!decide (p = q))) w := by
  rw [neq_non0]
  congr 2
  obtain ⟨p0, p1⟩ := p
  obtain ⟨q0, q1⟩ := q
  simp only [toList_mk, Sp.Non.mk.injEq]
  rw [Bool.eq_iff_iff]
  simp [or_assoc, and_assoc]

set_option maxRecDepth 100000 in
set_option maxHeartbeats 1600000 in
theorem ref_EqNons (v1 v2 : Value) (ps qs : List Sp.Non) (w : World) (h1 : SlAt w v1 2 (ps.map nonC)) (h2 : SlAt w v2 2 (qs.map nonC))
    (hl1 : ps.length < 4294967281) (hl2 : qs.length < 4294967281) :
    Calls Tryd.prog 32 #[v1, v2] w fun e w' => e = .returned (.bool (decide (ps = qs))) ∧ ∃ n, w' = w.drewN n := by
  have s1 : ∃ a cap, v1 = .slice a ps.length cap := by
    rcases h1 with ⟨hps, a, cap, rfl⟩ | ⟨b, off, cap, rfl, _, _⟩
    · have : ps = [] := by simpa using hps
      exact ⟨a, cap, by simp [this]⟩
    · exact ⟨some ⟨b, off, none⟩, cap, by simp⟩
  have s2 : ∃ a cap, v2 = .slice a qs.length cap := by
    rcases h2 with ⟨hps, a, cap, rfl⟩ | ⟨b, off, cap, rfl, _, _⟩
    · have : qs = [] := by simpa using hps
      exact ⟨a, cap, by simp [this]⟩
    · exact ⟨some ⟨b, off, none⟩, cap, by simp⟩
  by_cases hlen : ps.length = qs.length
  · by_cases hz : qs.length = 0
    · obtain rfl : qs = [] := List.eq_nil_of_length_eq_zero hz
      obtain rfl : ps = [] := List.eq_nil_of_length_eq_zero hlen
      obtain ⟨a, cap, rfl⟩ := s1
      obtain ⟨a2, cap2, rfl⟩ := s2
      clear h1 h2 hlen hz hl1 hl2
      go_enter Tryd.func32, Tryd.ntmps32
      go_wp2
      refine wp_loop_rounds 1 ?_; rw [rounds_succ]
      go_wp2
      go_ret
      exact ⟨rfl, 0, rfl⟩
    · have e1 : ∃ b off cap, v1 = .slice (some ⟨b, off, none⟩) ps.length cap ∧ b < w.heap.size ∧ ∀ i r, (ps.map nonC)[i]? = some r → ∀ j u, r[j]? = some u → w.cell? ⟨b, off + i * 2 + j, none⟩ = some u := by
        rcases h1 with ⟨hps, _⟩ | ⟨b, off, cap, rfl, h, h'⟩
        · have : ps = [] := by simpa using hps
          subst this; simp at hlen; omega
        · exact ⟨b, off, cap, by simp, h, h'⟩
      have e2 : ∃ b off cap, v2 = .slice (some ⟨b, off, none⟩) qs.length cap ∧ b < w.heap.size ∧ ∀ i r, (qs.map nonC)[i]? = some r → ∀ j u, r[j]? = some u → w.cell? ⟨b, off + i * 2 + j, none⟩ = some u := by
        rcases h2 with ⟨hps, _⟩ | ⟨b, off, cap, rfl, h, h'⟩
        · have : qs = [] := by simpa using hps
          subst this; simp at hz
        · exact ⟨b, off, cap, by simp, h, h'⟩
      clear h1 h2 s1 s2 hz
      obtain ⟨b, off, cap, rfl, hlt1, hc1⟩ := e1
      obtain ⟨b2, off2, cap2, rfl, hlt2, hc2⟩ := e2
      generalize hn : qs.length = n at *
      have HL := Lib.hid hlen
      rw [hlen]
      clear hlen hl1
      have HC1 := Lib.hid hc1
      have HC2 := Lib.hid hc2
      have HN := Lib.hid hn
      clear hc1 hc2 hn
      have hg := guard_non
      have hneq := neq_non
      go_enter Tryd.func32, Tryd.ntmps32
      go_wp2
      go_loopw [5] (fun iv wr => ∃ k : Nat, k ≤ n ∧ iv = .int .i64 k ∧ ps.take k = qs.take k ∧ ∃ n, wr = w.drewN n) (fun iv _ => n - (intOf iv).toNat)
      case atStart => exact ⟨0, by omega, rfl, rfl, 0, rfl⟩
      case round =>
        obtain ⟨k, hk, rfl, hi, nn, rfl⟩ := hrel
        have HI := Lib.hid hi; clear hi
        by_cases hkn : k < n
        · have hk1 : k < ps.length := by have := HL.out; omega
          have hk2 : k < qs.length := by have := HN.out; omega
          have hp : ps[k]? = some ps[k] := List.getElem?_eq_getElem hk1
          have hq : qs[k]? = some qs[k] := List.getElem?_eq_getElem hk2
          generalize ps[k] = p at hp
          generalize qs[k] = q at hq
          have g1 := HC1.out k (nonC p) (by simp [hp])
          have g2 := HC2.out k (nonC q) (by simp [hq])
          have a0 := g1 0 _ rfl; have a1 := g1 1 _ rfl
          have b0 := g2 0 _ rfl; have b1 := g2 1 _ rfl
          simp only [Nat.add_zero] at a0 b0
          have HP := Lib.hid hp; have HQ := Lib.hid hq
          clear g1 g2 hp hq hk1 hk2
          go_wp2
          go_quiet (fail)
          go_wp2
          all_goals (have hi := HI.out; have hp := HP.out; have hq := HQ.out; clear HI HP HQ)
          · go_ret
            go_light
            refine ⟨ret_bool ?_, _, World.drewN_drewN _ _ _⟩
            symm
            rw [decide_eq_false_iff_not]
            rintro rfl
            rw [hp] at hq
            have hpq := Option.some.inj hq
            clear hp hq hi
            subst hpq
            simp_all
          · go_roundw
            case rel => go_light; exact ⟨k + 1, by omega, by go_num, by rw [List.take_add_one, List.take_add_one, hi, hp, hq]; simp_all, _, rfl⟩
            case measure => go_light; simp [intOf]; omega
        · have hkn' : k = n := by omega
          have HK := Lib.hid hkn'; clear hkn'
          go_wp2
          go_ret
          refine ⟨ret_bool ?_, _, rfl⟩
          symm
          rw [decide_eq_true_eq]
          have := HI.out
          rw [HK.out, List.take_of_length_le (by rw [HL.out]; omega), List.take_of_length_le (by rw [HN.out]; omega)] at this
          exact this
  · obtain ⟨a, cap, rfl⟩ := s1
    obtain ⟨a2, cap2, rfl⟩ := s2
    have hne : ((ps.length : Int) != (qs.length : Int)) = true := by rw [bne_iff_ne]; omega
    have HR : Hid (decide (ps = qs) = false) := by
      show _ = _
      rw [decide_eq_false_iff_not]; rintro rfl; exact hlen rfl
    clear h1 h2 hlen
    go_enter Tryd.func32, Tryd.ntmps32
    go_wp2
    go_ret
    exact ⟨ret_bool HR.out.symm, 0, rfl⟩

def intC (i : Int) : List Value := [.int .i64 i]
theorem ints_rows {w : World} {v : Value} {l : List Int} (h : IntsAt w v l) : SlAt w v 1 (l.map intC) := h

set_option maxRecDepth 100000 in
set_option maxHeartbeats 1600000 in
theorem ref_EqInts (v1 v2 : Value) (ps qs : List Int) (w : World) (h1 : SlAt w v1 1 (ps.map intC)) (h2 : SlAt w v2 1 (qs.map intC))
    (hl1 : ps.length < 4294967281) (hl2 : qs.length < 4294967281) :
    Calls Tryd.prog 30 #[v1, v2] w fun e w' => e = .returned (.bool (decide (ps = qs))) ∧ ∃ n, w' = w.drewN n := by
  have s1 : ∃ a cap, v1 = .slice a ps.length cap := by
    rcases h1 with ⟨hps, a, cap, rfl⟩ | ⟨b, off, cap, rfl, _, _⟩
    · have : ps = [] := by simpa using hps
      exact ⟨a, cap, by simp [this]⟩
    · exact ⟨some ⟨b, off, none⟩, cap, by simp⟩
  have s2 : ∃ a cap, v2 = .slice a qs.length cap := by
    rcases h2 with ⟨hps, a, cap, rfl⟩ | ⟨b, off, cap, rfl, _, _⟩
    · have : qs = [] := by simpa using hps
      exact ⟨a, cap, by simp [this]⟩
    · exact ⟨some ⟨b, off, none⟩, cap, by simp⟩
  by_cases hlen : ps.length = qs.length
  · by_cases hz : qs.length = 0
    · obtain rfl : qs = [] := List.eq_nil_of_length_eq_zero hz
      obtain rfl : ps = [] := List.eq_nil_of_length_eq_zero hlen
      obtain ⟨a, cap, rfl⟩ := s1
      obtain ⟨a2, cap2, rfl⟩ := s2
      clear h1 h2 hlen hz hl1 hl2
      go_enter Tryd.func30, Tryd.ntmps30
      go_wp2
      refine wp_loop_rounds 1 ?_; rw [rounds_succ]
      go_wp2
      go_ret
      exact ⟨rfl, 0, rfl⟩
    · have e1 : ∃ b off cap, v1 = .slice (some ⟨b, off, none⟩) ps.length cap ∧ b < w.heap.size ∧ ∀ i r, (ps.map intC)[i]? = some r → ∀ j u, r[j]? = some u → w.cell? ⟨b, off + i * 1 + j, none⟩ = some u := by
        rcases h1 with ⟨hps, _⟩ | ⟨b, off, cap, rfl, h, h'⟩
        · have : ps = [] := by simpa using hps
          subst this; simp at hlen; omega
        · exact ⟨b, off, cap, by simp, h, h'⟩
      have e2 : ∃ b off cap, v2 = .slice (some ⟨b, off, none⟩) qs.length cap ∧ b < w.heap.size ∧ ∀ i r, (qs.map intC)[i]? = some r → ∀ j u, r[j]? = some u → w.cell? ⟨b, off + i * 1 + j, none⟩ = some u := by
        rcases h2 with ⟨hps, _⟩ | ⟨b, off, cap, rfl, h, h'⟩
        · have : qs = [] := by simpa using hps
          subst this; simp at hz
        · exact ⟨b, off, cap, by simp, h, h'⟩
      clear h1 h2 s1 s2 hz
      obtain ⟨b, off, cap, rfl, hlt1, hc1⟩ := e1
      obtain ⟨b2, off2, cap2, rfl, hlt2, hc2⟩ := e2
      generalize hn : qs.length = n at *
      have HL := Lib.hid hlen
      rw [hlen]
      clear hlen hl1
      have HC1 := Lib.hid hc1
      have HC2 := Lib.hid hc2
      have HN := Lib.hid hn
      clear hc1 hc2 hn
      go_enter Tryd.func30, Tryd.ntmps30
      go_wp2
      go_loopw [5] (fun iv wr => ∃ k : Nat, k ≤ n ∧ iv = .int .i64 k ∧ ps.take k = qs.take k ∧ ∃ n, wr = w.drewN n) (fun iv _ => n - (intOf iv).toNat)
      case atStart => exact ⟨0, by omega, rfl, rfl, 0, rfl⟩
      case round =>
        obtain ⟨k, hk, rfl, hi, nn, rfl⟩ := hrel
        have HI := Lib.hid hi; clear hi
        by_cases hkn : k < n
        · have hk1 : k < ps.length := by have := HL.out; omega
          have hk2 : k < qs.length := by have := HN.out; omega
          have hp : ps[k]? = some ps[k] := List.getElem?_eq_getElem hk1
          have hq : qs[k]? = some qs[k] := List.getElem?_eq_getElem hk2
          generalize ps[k] = p at hp
          generalize qs[k] = q at hq
          have g1 := HC1.out k (intC p) (by simp [hp])
          have g2 := HC2.out k (intC q) (by simp [hq])
          have a0 := g1 0 _ rfl
          have b0 := g2 0 _ rfl
          simp only [Nat.add_zero, Nat.mul_one] at a0 b0
          have HP := Lib.hid hp; have HQ := Lib.hid hq
          clear g1 g2 hp hq hk1 hk2
          go_wp2
          go_quiet (fail)
          go_wp2
          all_goals (have hi := HI.out; have hp := HP.out; have hq := HQ.out; clear HI HP HQ)
          · go_ret
            go_light
            refine ⟨ret_bool ?_, _, World.drewN_drewN _ _ _⟩
            symm
            rw [decide_eq_false_iff_not]
            rintro rfl
            rw [hp] at hq
            have hpq := Option.some.inj hq
            clear hp hq hi
            subst hpq
            simp_all
          · go_roundw
            case rel => go_light; exact ⟨k + 1, by omega, by go_num, by rw [List.take_add_one, List.take_add_one, hi, hp, hq]; simp_all, _, rfl⟩
            case measure => go_light; simp [intOf]; omega
        · have hkn' : k = n := by omega
          have HK := Lib.hid hkn'; clear hkn'
          go_wp2
          go_ret
          refine ⟨ret_bool ?_, _, rfl⟩
          symm
          rw [decide_eq_true_eq]
          have := HI.out
          rw [HK.out, List.take_of_length_le (by rw [HL.out]; omega), List.take_of_length_le (by rw [HN.out]; omega)] at this
          exact this
  · obtain ⟨a, cap, rfl⟩ := s1
    obtain ⟨a2, cap2, rfl⟩ := s2
    have hne : ((ps.length : Int) != (qs.length : Int)) = true := by rw [bne_iff_ne]; omega
    have HR : Hid (decide (ps = qs) = false) := by
      show _ = _
      rw [decide_eq_false_iff_not]; rintro rfl; exact hlen rfl
    clear h1 h2 hlen
    go_enter Tryd.func30, Tryd.ntmps30
    go_wp2
    go_ret
    exact ⟨ret_bool HR.out.symm, 0, rfl⟩

set_option maxHeartbeats 1600000 in
theorem ref_EqFaultG (e p e' p' : Int) (n n' : List UInt8) (w : World) :
    Calls Tryd.prog 29 #[.agg #[.int .i64 e, .int .i64 p, .string ⟨n.toArray⟩], .int .i64 e', .int .i64 p', .string ⟨n'.toArray⟩] w fun r w' => r = .returned (.bool (decide ((e = e' ∧ p = p') ∧ n = n'))) ∧ Below w.heap.size w w' := by
  by_cases h1 : e = e'
  · by_cases h2 : p = p'
    · by_cases h3 : n = n'
      · subst h1 h2 h3
        go_enter Tryd.func29, Tryd.ntmps29
        go_wp2
        go_ret
        exact ⟨ret_bool (by simp), (Below.refl _ _).alloc (Nat.le_refl _) _⟩
      · subst h1 h2
        have H3 := Lib.hid h3
        have h3' : ¬ (⟨n.toArray⟩ : ByteArray) = ⟨n'.toArray⟩ := by simpa using h3
        clear h3
        go_enter Tryd.func29, Tryd.ntmps29
        go_wp2
        go_ret
        exact ⟨ret_bool (by rw [Bool.eq_iff_iff]; simp), (Below.refl _ _).alloc (Nat.le_refl _) _⟩
    · subst h1
      have h2b : (p == p') = false := by simpa using h2
      have H2 := Lib.hid h2
      clear h2
      go_enter Tryd.func29, Tryd.ntmps29
      go_wp2
      go_ret
      exact ⟨ret_bool (by simp [H2.out]), (Below.refl _ _).alloc (Nat.le_refl _) _⟩
  · have h1b : (e == e') = false := by simpa using h1
    have H1 := Lib.hid h1
    clear h1
    go_enter Tryd.func29, Tryd.ntmps29
    go_wp2
    go_ret
    exact ⟨ret_bool (by simp [H1.out]), (Below.refl _ _).alloc (Nat.le_refl _) _⟩
end Go.Proofs.YthmimcegiihcnaaDoor
