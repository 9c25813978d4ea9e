import Derived.Test.YtddnomjfcbplpaaGreatDoorZ01
import Derived.Test.YtddnomjfcbplpaaGreatDoorZ07
import Derived.Test.YtddnomjfcbplpaaGreatDoorZ17
import Derived.Test.YtddnomjfcbplpaaGreatDoorZ20
import Derived.Test.YtddnomjfcbplpaaGreatDoorZ06
namespace Go.Proofs.YtddnomjfcbplpaaGreatDoor
open Go.RowKit

theorem guard_tok : Tryz.prog.eqGuardType Tryz.prog.depth 65 = false := by kernel_rfl
theorem stood_tok : Tryz.prog.stoodInHeld 65 = false := by kernel_rfl
theorem fields_tok : Tryz.prog.underlying 65 = some (.struct (Tryz.prog.fieldsOf 65)) := by kernel_rfl
set_option maxHeartbeats 1600000 in
theorem neq_tok0 (a0 b0 : ByteArray) (a1 b1 : Bool) (a2 b2 : Int) (a3 b3 : Int) (a4 b4 : Int) (a5 b5 : ByteArray) (w : World) :
  (binOp .neq 65 (.agg #[.string a0, .bool a1, .int .i64 a2, .int .i64 a3, .int .i64 a4, .string a5]) (.agg #[.string b0, .bool b1, .int .i64 b2, .int .i64 b3, .int .i64 b4, .string b5])).run Tryz.prog w =
   .ok (.bool (!((a0.toList == b0.toList) && (a1 == b1) && (a2 == b2) && (a3 == b3) && (a4 == b4) && (a5.toList == b5.toList)))) w := by
 rw [run_neq_struct, run_equalIn_agg w 9999 65 _ _ fields_tok stood_tok]
 simp only [Program.fieldsOf, Tryz.underlying65, Op.eqFields]
 cases h0 : a0.toList == b0.toList <;> cases h1 : a1 == b1 <;> cases h2 : a2 == b2 <;> cases h3 : a3 == b3 <;> cases h4 : a4 == b4 <;> cases h5 : a5.toList == b5.toList <;>
  simp [go_sem, Tryz.underlying4, Tryz.underlying3, Tryz.underlying9, h0, h1, h2, h3, h4, h5]
theorem neq_tok (p q : Sp.Tok) (w : World) :
  (binOp .neq 65 (.agg #[.string ⟨p.name.toArray⟩, .bool p.lit, .int .i64 p.num, .int .i64 p.level, .int .i64 p.assoc, .string ⟨p.tag.toArray⟩]) (.agg #[.string ⟨q.name.toArray⟩, .bool q.lit, .int .i64 q.num, .int .i64 q.level, .int .i64 q.assoc, .string ⟨q.tag.toArray⟩])).run Tryz.prog w =
   .ok (.bool (!decide (p = q))) w := by
 rw [neq_tok0]
 congr 2
 obtain ⟨p0, p1, p2, p3, p4, p5⟩ := p
 obtain ⟨q0, q1, q2, q3, q4, q5⟩ := q
 simp only [toList_mk, Sp.Tok.mk.injEq]
 rw [Bool.eq_iff_iff]
 simp [or_assoc, and_assoc]

set_option maxRecDepth 100000 in
set_option maxHeartbeats 1600000 in
theorem ref_EqToks (v1 v2 : Value) (ps qs : List Sp.Tok) (w : World) (h1 : SlAt w v1 6 (ps.map tokC)) (h2 : SlAt w v2 6 (qs.map tokC))
  (hl1 : ps.length < 4294967281) (hl2 : qs.length < 4294967281) :
  Calls Tryz.prog 44 #[v1, v2] w fun e w' => e = .returned (.bool (decide (ps = qs))) ∧ ∃ n, w' = w.drewN n := by
 have s1 : ∃ a cap, v1 = .slice a ps.length cap := by
  rcases h1 with ⟨hps, a, cap, rfl⟩ | ⟨b, off, cap, rfl, _, _⟩
  ·have : ps = [] := by simpa using hps
   exact ⟨a, cap, by simp [this]⟩
  ·exact ⟨some ⟨b, off, none⟩, cap, by simp⟩
 have s2 : ∃ a cap, v2 = .slice a qs.length cap := by
  rcases h2 with ⟨hps, a, cap, rfl⟩ | ⟨b, off, cap, rfl, _, _⟩
  ·have : qs = [] := by simpa using hps
   exact ⟨a, cap, by simp [this]⟩
  ·exact ⟨some ⟨b, off, none⟩, cap, by simp⟩
 by_cases hlen : ps.length = qs.length
 ·by_cases hz : qs.length = 0
  ·obtain rfl : qs = [] := List.eq_nil_of_length_eq_zero hz
   obtain rfl : ps = [] := List.eq_nil_of_length_eq_zero hlen
   obtain ⟨a, cap, rfl⟩ := s1
   obtain ⟨a2, cap2, rfl⟩ := s2
   clear h1 h2 hlen hz hl1 hl2
   go_enter Tryz.func44, Tryz.ntmps44
   go_wp2
   refine wp_loop_rounds 1 ?_; rw [rounds_succ]
   go_wp2
   go_ret
   exact ⟨rfl, 0, rfl⟩
  ·have e1 : ∃ b off cap, v1 = .slice (some ⟨b, off, none⟩) ps.length cap ∧ b < w.heap.size ∧ ∀ i r, (ps.map tokC)[i]? = some r → ∀ j u, r[j]? = some u → w.cell? ⟨b, off + i * 6 + j, none⟩ = some u := by
    rcases h1 with ⟨hps, _⟩ | ⟨b, off, cap, rfl, h, h'⟩
    ·have : ps = [] := by simpa using hps
     subst this; simp at hlen; omega
    ·exact ⟨b, off, cap, by simp, h, h'⟩
   have e2 : ∃ b off cap, v2 = .slice (some ⟨b, off, none⟩) qs.length cap ∧ b < w.heap.size ∧ ∀ i r, (qs.map tokC)[i]? = some r → ∀ j u, r[j]? = some u → w.cell? ⟨b, off + i * 6 + j, none⟩ = some u := by
    rcases h2 with ⟨hps, _⟩ | ⟨b, off, cap, rfl, h, h'⟩
    ·have : qs = [] := by simpa using hps
     subst this; simp at hz
    ·exact ⟨b, off, cap, by simp, h, h'⟩
   clear h1 h2 s1 s2 hz
   obtain ⟨b, off, cap, rfl, hlt1, hc1⟩ := e1
   obtain ⟨b2, off2, cap2, rfl, hlt2, hc2⟩ := e2
   generalize hn : qs.length = n at *
   have HL := zh hlen
   rw [hlen]
   clear hlen hl1
   have HC1 := zh hc1
   have HC2 := zh hc2
   have HN := zh hn
   clear hc1 hc2 hn
   have hg := guard_tok
   have hneq := neq_tok
   go_enter Tryz.func44, Tryz.ntmps44
   go_wp2
   go_loopw [5] (fun iv wr => ∃ k : Nat, k ≤ n ∧ iv = .int .i64 k ∧ ps.take k = qs.take k ∧ ∃ n, wr = w.drewN n) (fun iv _ => n - (intOf iv).toNat)
   case atStart => exact ⟨0, by omega, rfl, rfl, 0, rfl⟩
   case round =>
    obtain ⟨k, hk, rfl, hi, nn, rfl⟩ := hrel
    have HI := zh hi; clear hi
    by_cases hkn : k < n
    ·have hk1 : k < ps.length := by have := HL.out; omega
     have hk2 : k < qs.length := by have := HN.out; omega
     have hp : ps[k]? = some ps[k] := List.getElem?_eq_getElem hk1
     have hq : qs[k]? = some qs[k] := List.getElem?_eq_getElem hk2
     generalize ps[k] = p at hp
     generalize qs[k] = q at hq
     have g1 := HC1.out k (tokC p) (by simp [hp])
     have g2 := HC2.out k (tokC q) (by simp [hq])
     have a0 := g1 0 _ rfl; have a1 := g1 1 _ rfl; have a2 := g1 2 _ rfl; have a3 := g1 3 _ rfl; have a4 := g1 4 _ rfl; have a5 := g1 5 _ rfl
     have b0 := g2 0 _ rfl; have b1 := g2 1 _ rfl; have b2' := g2 2 _ rfl; have b3 := g2 3 _ rfl; have b4 := g2 4 _ rfl; have b5 := g2 5 _ rfl
     simp only [Nat.add_zero] at a0 b0
     have HP := zh hp; have HQ := zh hq
     clear g1 g2 hp hq hk1 hk2
     go_wp2
     go_quiet (fail)
     go_wp2
     all_goals (have hi := HI.out; have hp := HP.out; have hq := HQ.out; clear HI HP HQ)
     ·go_ret
      go_light
      refine ⟨ret_bool ?_, _, World.drewN_drewN _ _ _⟩
      symm
      rw [decide_eq_false_iff_not]
      rintro rfl
      rw [hp] at hq
      have hpq := Option.some.inj hq
      clear hp hq hi
      subst hpq
      simp_all
     ·go_roundw
      case rel => go_light; exact ⟨k + 1, by omega, by go_num, by rw [List.take_add_one, List.take_add_one, hi, hp, hq]; simp_all, _, rfl⟩
      case measure => go_light; simp [intOf]; omega
    ·have hkn' : k = n := by omega
     have HK := zh hkn'; clear hkn'
     go_wp2
     go_ret
     refine ⟨ret_bool ?_, _, rfl⟩
     symm
     rw [decide_eq_true_eq]
     have := HI.out
     rw [HK.out, List.take_of_length_le (by rw [HL.out]; omega), List.take_of_length_le (by rw [HN.out]; omega)] at this
     exact this
 ·obtain ⟨a, cap, rfl⟩ := s1
  obtain ⟨a2, cap2, rfl⟩ := s2
  have hne : ((ps.length : Int) != (qs.length : Int)) = true := by rw [bne_iff_ne]; omega
  have HR : Hid (decide (ps = qs) = false) := by
   show _ = _
   rw [decide_eq_false_iff_not]; rintro rfl; exact hlen rfl
  clear h1 h2 hlen
  go_enter Tryz.func44, Tryz.ntmps44
  go_wp2
  go_ret
  exact ⟨ret_bool HR.out.symm, 0, rfl⟩

theorem guard_non : Tryz.prog.eqGuardType Tryz.prog.depth 89 = false := by kernel_rfl
theorem stood_non : Tryz.prog.stoodInHeld 89 = false := by kernel_rfl
theorem fields_non : Tryz.prog.underlying 89 = some (.struct (Tryz.prog.fieldsOf 89)) := by kernel_rfl
set_option maxHeartbeats 1600000 in
theorem neq_non0 (a0 b0 : ByteArray) (a1 b1 : ByteArray) (w : World) :
  (binOp .neq 89 (.agg #[.string a0, .string a1]) (.agg #[.string b0, .string b1])).run Tryz.prog w =
   .ok (.bool (!((a0.toList == b0.toList) && (a1.toList == b1.toList)))) w := by
 rw [run_neq_struct, run_equalIn_agg w 9999 89 _ _ fields_non stood_non]
 simp only [Program.fieldsOf, Tryz.underlying89, Op.eqFields]
 cases h0 : a0.toList == b0.toList <;> cases h1 : a1.toList == b1.toList <;>
  simp [go_sem, Tryz.underlying9, h0, h1]
theorem neq_non (p q : Sp.Non) (w : World) :
  (binOp .neq 89 (.agg #[.string ⟨p.name.toArray⟩, .string ⟨p.tag.toArray⟩]) (.agg #[.string ⟨q.name.toArray⟩, .string ⟨q.tag.toArray⟩])).run Tryz.prog w =
   .ok (.bool (!decide (p = q))) w := by
 rw [neq_non0]
 congr 2
 obtain ⟨p0, p1⟩ := p
 obtain ⟨q0, q1⟩ := q
 simp only [toList_mk, Sp.Non.mk.injEq]
 rw [Bool.eq_iff_iff]
 simp [or_assoc, and_assoc]

set_option maxRecDepth 100000 in
set_option maxHeartbeats 1600000 in
theorem ref_EqNons (v1 v2 : Value) (ps qs : List Sp.Non) (w : World) (h1 : SlAt w v1 2 (ps.map nonC)) (h2 : SlAt w v2 2 (qs.map nonC))
  (hl1 : ps.length < 4294967281) (hl2 : qs.length < 4294967281) :
  Calls Tryz.prog 45 #[v1, v2] w fun e w' => e = .returned (.bool (decide (ps = qs))) ∧ ∃ n, w' = w.drewN n := by
 have s1 : ∃ a cap, v1 = .slice a ps.length cap := by
  rcases h1 with ⟨hps, a, cap, rfl⟩ | ⟨b, off, cap, rfl, _, _⟩
  ·have : ps = [] := by simpa using hps
   exact ⟨a, cap, by simp [this]⟩
  ·exact ⟨some ⟨b, off, none⟩, cap, by simp⟩
 have s2 : ∃ a cap, v2 = .slice a qs.length cap := by
  rcases h2 with ⟨hps, a, cap, rfl⟩ | ⟨b, off, cap, rfl, _, _⟩
  ·have : qs = [] := by simpa using hps
   exact ⟨a, cap, by simp [this]⟩
  ·exact ⟨some ⟨b, off, none⟩, cap, by simp⟩
 by_cases hlen : ps.length = qs.length
 ·by_cases hz : qs.length = 0
  ·obtain rfl : qs = [] := List.eq_nil_of_length_eq_zero hz
   obtain rfl : ps = [] := List.eq_nil_of_length_eq_zero hlen
   obtain ⟨a, cap, rfl⟩ := s1
   obtain ⟨a2, cap2, rfl⟩ := s2
   clear h1 h2 hlen hz hl1 hl2
   go_enter Tryz.func45, Tryz.ntmps45
   go_wp2
   refine wp_loop_rounds 1 ?_; rw [rounds_succ]
   go_wp2
   go_ret
   exact ⟨rfl, 0, rfl⟩
  ·have e1 : ∃ b off cap, v1 = .slice (some ⟨b, off, none⟩) ps.length cap ∧ b < w.heap.size ∧ ∀ i r, (ps.map nonC)[i]? = some r → ∀ j u, r[j]? = some u → w.cell? ⟨b, off + i * 2 + j, none⟩ = some u := by
    rcases h1 with ⟨hps, _⟩ | ⟨b, off, cap, rfl, h, h'⟩
    ·have : ps = [] := by simpa using hps
     subst this; simp at hlen; omega
    ·exact ⟨b, off, cap, by simp, h, h'⟩
   have e2 : ∃ b off cap, v2 = .slice (some ⟨b, off, none⟩) qs.length cap ∧ b < w.heap.size ∧ ∀ i r, (qs.map nonC)[i]? = some r → ∀ j u, r[j]? = some u → w.cell? ⟨b, off + i * 2 + j, none⟩ = some u := by
    rcases h2 with ⟨hps, _⟩ | ⟨b, off, cap, rfl, h, h'⟩
    ·have : qs = [] := by simpa using hps
     subst this; simp at hz
    ·exact ⟨b, off, cap, by simp, h, h'⟩
   clear h1 h2 s1 s2 hz
   obtain ⟨b, off, cap, rfl, hlt1, hc1⟩ := e1
   obtain ⟨b2, off2, cap2, rfl, hlt2, hc2⟩ := e2
   generalize hn : qs.length = n at *
   have HL := zh hlen
   rw [hlen]
   clear hlen hl1
   have HC1 := zh hc1
   have HC2 := zh hc2
   have HN := zh hn
   clear hc1 hc2 hn
   have hg := guard_non
   have hneq := neq_non
   go_enter Tryz.func45, Tryz.ntmps45
   go_wp2
   go_loopw [5] (fun iv wr => ∃ k : Nat, k ≤ n ∧ iv = .int .i64 k ∧ ps.take k = qs.take k ∧ ∃ n, wr = w.drewN n) (fun iv _ => n - (intOf iv).toNat)
   case atStart => exact ⟨0, by omega, rfl, rfl, 0, rfl⟩
   case round =>
    obtain ⟨k, hk, rfl, hi, nn, rfl⟩ := hrel
    have HI := zh hi; clear hi
    by_cases hkn : k < n
    ·have hk1 : k < ps.length := by have := HL.out; omega
     have hk2 : k < qs.length := by have := HN.out; omega
     have hp : ps[k]? = some ps[k] := List.getElem?_eq_getElem hk1
     have hq : qs[k]? = some qs[k] := List.getElem?_eq_getElem hk2
     generalize ps[k] = p at hp
     generalize qs[k] = q at hq
     have g1 := HC1.out k (nonC p) (by simp [hp])
     have g2 := HC2.out k (nonC q) (by simp [hq])
     have a0 := g1 0 _ rfl; have a1 := g1 1 _ rfl
     have b0 := g2 0 _ rfl; have b1 := g2 1 _ rfl
     simp only [Nat.add_zero] at a0 b0
     have HP := zh hp; have HQ := zh hq
     clear g1 g2 hp hq hk1 hk2
     go_wp2
     go_quiet (fail)
     go_wp2
     all_goals (have hi := HI.out; have hp := HP.out; have hq := HQ.out; clear HI HP HQ)
     ·go_ret
      go_light
      refine ⟨ret_bool ?_, _, World.drewN_drewN _ _ _⟩
      symm
      rw [decide_eq_false_iff_not]
      rintro rfl
      rw [hp] at hq
      have hpq := Option.some.inj hq
      clear hp hq hi
      subst hpq
      simp_all
     ·go_roundw
      case rel => go_light; exact ⟨k + 1, by omega, by go_num, by rw [List.take_add_one, List.take_add_one, hi, hp, hq]; simp_all, _, rfl⟩
      case measure => go_light; simp [intOf]; omega
    ·have hkn' : k = n := by omega
     have HK := zh hkn'; clear hkn'
     go_wp2
     go_ret
     refine ⟨ret_bool ?_, _, rfl⟩
     symm
     rw [decide_eq_true_eq]
     have := HI.out
     rw [HK.out, List.take_of_length_le (by rw [HL.out]; omega), List.take_of_length_le (by rw [HN.out]; omega)] at this
     exact this
 ·obtain ⟨a, cap, rfl⟩ := s1
  obtain ⟨a2, cap2, rfl⟩ := s2
  have hne : ((ps.length : Int) != (qs.length : Int)) = true := by rw [bne_iff_ne]; omega
  have HR : Hid (decide (ps = qs) = false) := by
   show _ = _
   rw [decide_eq_false_iff_not]; rintro rfl; exact hlen rfl
  clear h1 h2 hlen
  go_enter Tryz.func45, Tryz.ntmps45
  go_wp2
  go_ret
  exact ⟨ret_bool HR.out.symm, 0, rfl⟩

def intC (i : Int) : List Value := [.int .i64 i]
set_option maxRecDepth 100000 in
set_option maxHeartbeats 1600000 in
theorem ref_EqInts (v1 v2 : Value) (ps qs : List Int) (w : World) (h1 : SlAt w v1 1 (ps.map intC)) (h2 : SlAt w v2 1 (qs.map intC))
  (hl1 : ps.length < 4294967281) (hl2 : qs.length < 4294967281) :
  Calls Tryz.prog 16 #[v1, v2] w fun e w' => e = .returned (.bool (decide (ps = qs))) ∧ ∃ n, w' = w.drewN n := by
 have s1 : ∃ a cap, v1 = .slice a ps.length cap := by
  rcases h1 with ⟨hps, a, cap, rfl⟩ | ⟨b, off, cap, rfl, _, _⟩
  ·have : ps = [] := by simpa using hps
   exact ⟨a, cap, by simp [this]⟩
  ·exact ⟨some ⟨b, off, none⟩, cap, by simp⟩
 have s2 : ∃ a cap, v2 = .slice a qs.length cap := by
  rcases h2 with ⟨hps, a, cap, rfl⟩ | ⟨b, off, cap, rfl, _, _⟩
  ·have : qs = [] := by simpa using hps
   exact ⟨a, cap, by simp [this]⟩
  ·exact ⟨some ⟨b, off, none⟩, cap, by simp⟩
 by_cases hlen : ps.length = qs.length
 ·by_cases hz : qs.length = 0
  ·obtain rfl : qs = [] := List.eq_nil_of_length_eq_zero hz
   obtain rfl : ps = [] := List.eq_nil_of_length_eq_zero hlen
   obtain ⟨a, cap, rfl⟩ := s1
   obtain ⟨a2, cap2, rfl⟩ := s2
   clear h1 h2 hlen hz hl1 hl2
   go_enter Tryz.func16, Tryz.ntmps16
   go_wp2
   refine wp_loop_rounds 1 ?_; rw [rounds_succ]
   go_wp2
   go_ret
   exact ⟨rfl, 0, rfl⟩
  ·have e1 : ∃ b off cap, v1 = .slice (some ⟨b, off, none⟩) ps.length cap ∧ b < w.heap.size ∧ ∀ i r, (ps.map intC)[i]? = some r → ∀ j u, r[j]? = some u → w.cell? ⟨b, off + i * 1 + j, none⟩ = some u := by
    rcases h1 with ⟨hps, _⟩ | ⟨b, off, cap, rfl, h, h'⟩
    ·have : ps = [] := by simpa using hps
     subst this; simp at hlen; omega
    ·exact ⟨b, off, cap, by simp, h, h'⟩
   have e2 : ∃ b off cap, v2 = .slice (some ⟨b, off, none⟩) qs.length cap ∧ b < w.heap.size ∧ ∀ i r, (qs.map intC)[i]? = some r → ∀ j u, r[j]? = some u → w.cell? ⟨b, off + i * 1 + j, none⟩ = some u := by
    rcases h2 with ⟨hps, _⟩ | ⟨b, off, cap, rfl, h, h'⟩
    ·have : qs = [] := by simpa using hps
     subst this; simp at hz
    ·exact ⟨b, off, cap, by simp, h, h'⟩
   clear h1 h2 s1 s2 hz
   obtain ⟨b, off, cap, rfl, hlt1, hc1⟩ := e1
   obtain ⟨b2, off2, cap2, rfl, hlt2, hc2⟩ := e2
   generalize hn : qs.length = n at *
   have HL := zh hlen
   rw [hlen]
   clear hlen hl1
   have HC1 := zh hc1
   have HC2 := zh hc2
   have HN := zh hn
   clear hc1 hc2 hn
   go_enter Tryz.func16, Tryz.ntmps16
   go_wp2
   go_loopw [5] (fun iv wr => ∃ k : Nat, k ≤ n ∧ iv = .int .i64 k ∧ ps.take k = qs.take k ∧ ∃ n, wr = w.drewN n) (fun iv _ => n - (intOf iv).toNat)
   case atStart => exact ⟨0, by omega, rfl, rfl, 0, rfl⟩
   case round =>
    obtain ⟨k, hk, rfl, hi, nn, rfl⟩ := hrel
    have HI := zh hi; clear hi
    by_cases hkn : k < n
    ·have hk1 : k < ps.length := by have := HL.out; omega
     have hk2 : k < qs.length := by have := HN.out; omega
     have hp : ps[k]? = some ps[k] := List.getElem?_eq_getElem hk1
     have hq : qs[k]? = some qs[k] := List.getElem?_eq_getElem hk2
     generalize ps[k] = p at hp
     generalize qs[k] = q at hq
     have g1 := HC1.out k (intC p) (by simp [hp])
     have g2 := HC2.out k (intC q) (by simp [hq])
     have a0 := g1 0 _ rfl
     have b0 := g2 0 _ rfl
     simp only [Nat.add_zero, Nat.mul_one] at a0 b0
     have HP := zh hp; have HQ := zh hq
     clear g1 g2 hp hq hk1 hk2
     go_wp2
     go_quiet (fail)
     go_wp2
     all_goals (have hi := HI.out; have hp := HP.out; have hq := HQ.out; clear HI HP HQ)
     ·go_ret
      go_light
      refine ⟨ret_bool ?_, _, World.drewN_drewN _ _ _⟩
      symm
      rw [decide_eq_false_iff_not]
      rintro rfl
      rw [hp] at hq
      have hpq := Option.some.inj hq
      clear hp hq hi
      subst hpq
      simp_all
     ·go_roundw
      case rel => go_light; exact ⟨k + 1, by omega, by go_num, by rw [List.take_add_one, List.take_add_one, hi, hp, hq]; simp_all, _, rfl⟩
      case measure => go_light; simp [intOf]; omega
    ·have hkn' : k = n := by omega
     have HK := zh hkn'; clear hkn'
     go_wp2
     go_ret
     refine ⟨ret_bool ?_, _, rfl⟩
     symm
     rw [decide_eq_true_eq]
     have := HI.out
     rw [HK.out, List.take_of_length_le (by rw [HL.out]; omega), List.take_of_length_le (by rw [HN.out]; omega)] at this
     exact this
 ·obtain ⟨a, cap, rfl⟩ := s1
  obtain ⟨a2, cap2, rfl⟩ := s2
  have hne : ((ps.length : Int) != (qs.length : Int)) = true := by rw [bne_iff_ne]; omega
  have HR : Hid (decide (ps = qs) = false) := by
   show _ = _
   rw [decide_eq_false_iff_not]; rintro rfl; exact hlen rfl
  clear h1 h2 hlen
  go_enter Tryz.func16, Tryz.ntmps16
  go_wp2
  go_ret
  exact ⟨ret_bool HR.out.symm, 0, rfl⟩

set_option maxHeartbeats 1600000 in
theorem ref_EqFaultG (e p e' p' : Int) (n n' : List UInt8) (w : World) :
  Calls Tryz.prog 17 #[.agg #[.int .i64 e, .int .i64 p, .string ⟨n.toArray⟩], .int .i64 e', .int .i64 p', .string ⟨n'.toArray⟩] w fun r w' => r = .returned (.bool (decide ((e = e' ∧ p = p') ∧ n = n'))) ∧ Below w.heap.size w w' := by
 by_cases h1 : e = e'
 ·by_cases h2 : p = p'
  ·by_cases h3 : n = n'
   ·subst h1 h2 h3
    go_enter Tryz.func17, Tryz.ntmps17
    go_wp2
    go_ret
    exact ⟨ret_bool (by simp), (Below.refl _ _).alloc (Nat.le_refl _) _⟩
   ·subst h1 h2
    have H3 := zh h3
    have h3' : ¬ (⟨n.toArray⟩ : ByteArray) = ⟨n'.toArray⟩ := by simpa using h3
    clear h3
    go_enter Tryz.func17, Tryz.ntmps17
    go_wp2
    go_ret
    exact ⟨ret_bool (by rw [Bool.eq_iff_iff]; simp), (Below.refl _ _).alloc (Nat.le_refl _) _⟩
  ·subst h1
   have h2b : (p == p') = false := by simpa using h2
   have H2 := zh h2
   clear h2
   go_enter Tryz.func17, Tryz.ntmps17
   go_wp2
   go_ret
   exact ⟨ret_bool (by simp [H2.out]), (Below.refl _ _).alloc (Nat.le_refl _) _⟩
 ·have h1b : (e == e') = false := by simpa using h1
  have H1 := zh h1
  clear h1
  go_enter Tryz.func17, Tryz.ntmps17
  go_wp2
  go_ret
  exact ⟨ret_bool (by simp [H1.out]), (Below.refl _ _).alloc (Nat.le_refl _) _⟩
end Go.Proofs.YtddnomjfcbplpaaGreatDoor

namespace Go.Proofs.YtddnomjfcbplpaaGreatDoor
open Go.RowKit Go.Maps

section
variable {P : Program} {fn : Func} {R : Ending → World → Prop} {a : Act} {W : World} {p q g h : Nat} {ty tz t u : TypeId} {cs ds : Array Value} {fr fs : Nat × Nat} {d e : TypeDesc}
theorem ret_cell_cell (hf : fn.results = #[.cell p ty, .cell q tz]) (hp : a.tmps.getD p undef = .pointer (some ⟨g, 0, none⟩)) (hq : a.tmps.getD q undef = .pointer (some ⟨h, 0, none⟩)) (hg : W.heap[g]? = some (.cells cs t fr)) (hh : W.heap[h]? = some (.cells ds u fs))
  (hd : (match d with | .struct _ | .array _ _ => true | _ => false) = true) (hu : P.underlying ty = some d) (hi : (P.info? ty).map (·.size) = some cs.size)
  (he : (match e with | .struct _ | .array _ _ => true | _ => false) = true) (hv : P.underlying tz = some e) (hj : (P.info? tz).map (·.size) = some ds.size)
  (hdef : a.defers = []) (hR : R (.returned (.tuple #[.agg cs, .agg ds])) W) : bodyPost P fn R .ret a W := by
 refine bodyPost_ret ?_ hdef hR
 have hl := run_loadVar_row (P := P) W g t ty cs fr d hg hu (by cases d <;> simp_all) hi
 have hm := run_loadVar_row (P := P) W h u tz ds fs e hh hv (by cases e <;> simp_all) hj
 have hp' : a.tmps[p]?.getD undef = .pointer (some ⟨g, 0, none⟩) := by simpa using hp
 have hq' : a.tmps[q]?.getD undef = .pointer (some ⟨h, 0, none⟩) := by simpa using hq
 simp [results, hf, hp', hq', asAddr, hl, hm]
end
def faultV (f : Sp.Fault) : Value := .agg #[.int .i64 f.err, .int .i64 f.at_, .string ⟨f.name.toArray⟩]
def ProdsAt (w : World) (v : Value) (l : List Sp.Prod) : Prop :=
 ∃ f g : Nat → Value, SlAt w v 6 (l.mapIdx fun i p => prodC (f i) (g i) p) ∧ ∀ (i : Nat) (p : Sp.Prod), l[i]? = some p → IntsAt w (f i) p.right ∧ IntsAt w (g i) p.args
def GramAt (w : World) (v : Value) (g : Sp.Gram) : Prop :=
 ∃ tv nv pv, v = .agg #[tv, nv, pv, .string ⟨g.pro.toArray⟩, .string ⟨g.tail.toArray⟩] ∧ SlAt w tv 6 (g.toks.map tokC) ∧ SlAt w nv 2 (g.nons.map nonC) ∧ ProdsAt w pv g.prods
theorem ProdsAt.below {w w' : World} {v : Value} {l : List Sp.Prod} (h : ProdsAt w v l) (hb : Below w.heap.size w w') : ProdsAt w' v l := by
 obtain ⟨f, g, h1, h2⟩ := h
 exact ⟨f, g, h1.below hb, fun i p hp => ⟨(h2 i p hp).1.below hb, (h2 i p hp).2.below hb⟩⟩
theorem GramAt.below {w w' : World} {v : Value} {g : Sp.Gram} (h : GramAt w v g) (hb : Below w.heap.size w w') : GramAt w' v g := by
 obtain ⟨tv, nv, pv, h0, h1, h2, h3⟩ := h
 exact ⟨tv, nv, pv, h0, h1.below hb, h2.below hb, h3.below hb⟩
theorem ints_own {w : World} {B : Nat} {v : Value} {l : List Int} (h : w.ownsRow B 3 1 v l.length (intsC l)) : IntsAt w v l := by
 refine slAt_of_owns (base := B) (e := 3) (n := l.length) (l.map fun x => [Value.int .i64 x]) (by simp) (by simp) ?_
 have e : (l.map fun x => [Value.int .i64 x]).flatten = intsC l := by
  unfold intsC
  clear h
  induction l with
  | nil => rfl
  | cons a l ih =>
   rw [List.map_cons, List.flatten_cons, ih]
   rfl
 rw [e]
 exact h
def GramOwn (w : World) (v : Value) (g : Sp.Gram) : Prop :=
 ∃ B ta tc na nc pa pc, v = .agg #[.slice ta g.toks.length tc, .slice na g.nons.length nc, .slice pa g.prods.length pc, .string ⟨g.pro.toArray⟩, .string ⟨g.tail.toArray⟩] ∧ w.ownsRow B 65 6 (.slice ta g.toks.length tc) g.toks.length (g.toks.map tokC).flatten ∧ w.ownsRow B 89 2 (.slice na g.nons.length nc) g.nons.length (g.nons.map nonC).flatten ∧ ProdsOwn B w (.slice pa g.prods.length pc) g.prods
theorem GramOwn.at {w : World} {v : Value} {g : Sp.Gram} (h : GramOwn w v g) : GramAt w v g := by
 obtain ⟨B, ta, tc, na, nc, pa, pc, hv, h1, h2, f, g', p1, p2⟩ := h
 refine ⟨_, _, _, hv, slAt_of_owns _ ?_ (by simp) h1, slAt_of_owns _ ?_ (by simp) h2, f, g', slAt_of_owns _ ?_ (by simp) p1, fun i p hp => ?_⟩
 ·intro r hr
  obtain ⟨t, _, rfl⟩ := List.mem_map.1 hr
  rfl
 ·intro r hr
  obtain ⟨t, _, rfl⟩ := List.mem_map.1 hr
  rfl
 ·intro r hr
  obtain ⟨i, hi⟩ := List.mem_iff_getElem?.1 hr
  rw [List.getElem?_mapIdx] at hi
  obtain ⟨t, _, rfl⟩ := Option.map_eq_some_iff.1 hi
  rfl
 ·obtain ⟨⟨b, q1⟩, c, q2⟩ := p2 i p hp
  exact ⟨ints_own q1, ints_own q2⟩
theorem GramOwn.kpT {w w' : World} {v : Value} {g : Sp.Gram} {T : TypeId → Prop} (h : GramOwn w v g) (k : KpT T w w') (h1 : T 65) (h2 : T 89) (h3 : T 68) (h4 : T 3) : GramOwn w' v g := by
 obtain ⟨B, ta, tc, na, nc, pa, pc, hv, q1, q2, f, g', p1, p2⟩ := h
 refine ⟨B, ta, tc, na, nc, pa, pc, hv, ownsRow_kpT q1 k h1, ownsRow_kpT q2 k h2, f, g', ownsRow_kpT p1 k h3, fun i p hp => ?_⟩
 obtain ⟨⟨b, r1⟩, c, r2⟩ := p2 i p hp
 exact ⟨⟨b, ownsRow_kpT r1 k h4⟩, c, ownsRow_kpT r2 k h4⟩
theorem GramOwn.below {w w' : World} {v : Value} {g : Sp.Gram} (h : GramOwn w v g) (hb : Below w.heap.size w w') : GramOwn w' v g :=
 h.kpT (T := fun _ => True) (KpT.below hb) trivial trivial trivial trivial
theorem gramOwn_none (w : World) : GramOwn w (.agg #[.slice none 0 0, .slice none 0 0, .slice none 0 0, .string ⟨#[]⟩, .string ⟨#[]⟩]) Sp.noGram :=
 ⟨0, _, _, _, _, _, _, rfl, World.ownsRow_nil _ _ _ _, World.ownsRow_nil _ _ _ _, fun _ => .bool false, fun _ => .bool false, World.ownsRow_nil _ _ _ _, by simp [Sp.noGram]⟩
def OfPost (W : World) (r : Sp.Gram × Sp.Fault) (e : Ending) (w' : World) : Prop :=
 Below W.heap.size W w' ∧ ∃ gv, e = .returned (.tuple #[gv, faultV r.2]) ∧ GramOwn w' gv r.1
theorem gramOwn_of {B m : Nat} {w w' : World} {x : Sp.Source} {s : Sp.Mk} {v : MkV} {bG bF : Nat} {cG cF : Array Value} {fG fF : Nat × Nat} (h : MakerAt B w m x s v 0 0 []) (hG : w.heap[bG]? = some (.cells cG 39 fG)) (hF : w.heap[bF]? = some (.cells cF 52 fF)) (k : Kp (fun b => b ≠ bG ∧ b ≠ bF) w w') :
  GramOwn w' (.agg #[v.tv, v.nv, v.pv, .string ⟨x.pro.toArray⟩, .string ⟨x.tail.toArray⟩]) ⟨s.toks, s.nons, s.prods, x.pro, x.tail⟩ := by
 have keep : ∀ {B size n : Nat} {e : TypeId} {v : Value} {xs : List Value}, w.ownsRow B e size v n xs → 39 ≠ e → 52 ≠ e → w'.ownsRow B e size v n xs :=
  fun h1 e1 e2 => ownsRow_kp h1 k (fun b hb => ⟨row_ne_cells h1 hG e1 b hb, row_ne_cells h1 hF e2 b hb⟩)
 obtain ⟨f, g, p1, p2⟩ := h.prods
 obtain ⟨ta, tc, htv⟩ := ownsRowS_some h.toks
 obtain ⟨na, nc, hnv⟩ := ownsRowS_some h.nons
 obtain ⟨pa, pc, hpv⟩ := ownsRowS_some p1
 have q1 := keep h.toks (by decide) (by decide); have q2 := keep h.nons (by decide) (by decide); have q3 := keep p1 (by decide) (by decide)
 rw [htv] at q1 ⊢; rw [hnv] at q2 ⊢; rw [hpv] at q3 ⊢
 refine ⟨B, ta, tc, na, nc, pa, pc, rfl, q1, q2, f, g, q3, fun i p hp => ?_⟩
 obtain ⟨⟨b, r1⟩, c, r2⟩ := p2 i p hp
 exact ⟨⟨b, keep r1 (by decide) (by decide)⟩, c, keep r2 (by decide) (by decide)⟩
def PassEnd (W0 : World) (m : Nat) (x : Sp.Source) (vd vr : Value) (c : Value) (wx : World) : Prop :=
 Below W0.heap.size W0 wx ∧ ((∃ (st1 : List UInt8) (st2 : Int) (s : Sp.Mk) (v : MkV), c = .bool true ∧ Sp.gramOf x = (Sp.noGram, ⟨3, st2, st1⟩) ∧ wx.heap[m]? = some (.cells (mkCells x s v 3 st2 st1).toArray 99 (0, 0))) ∨
  ∃ (s : Sp.Mk) (v : MkV), c = .bool false ∧ Sp.gramOf x = Sp.ofTail x s ∧ MakerAt W0.heap.size wx m x s v 0 0 [] ∧ v.dv = vd ∧ v.rv = vr ∧ s.prods = [] ∧ s.nons.length = s.lefts.length + 1 ∧ s.lefts.length ≤ 8000 ∧ s.start.length ≤ 4000 ∧ s.toks.length ≤ 2 ^ 38)
theorem pass_counts {x : Sp.Source} {s1 s2 s3 : Sp.Mk} (hs : smallSrc x) (h1 : Sp.declsMk 0 x.decls Sp.mk0 = .ok s1) (h2 : Sp.leftsMk x s1 = .ok s2) (h3 : Sp.partsMk x.rules s2 = .ok s3) :
  s3.prods = [] ∧ s3.nons.length = s3.lefts.length + 1 ∧ s3.lefts.length ≤ 8000 ∧ s3.start.length ≤ 4000 ∧ s3.toks.length ≤ 2 ^ 38 := by
 have k1 := Sp.declsMk_keeps x.decls 0 Sp.mk0 s1 (fun d hd => ⟨(hs.2.2.2.2.1 d hd).2.1, (hs.2.2.2.2.1 d hd).2.2⟩) h1
 have k2 := Sp.leftsMk_keeps h2
 have k3 := Sp.partsMk_keeps x.rules s2 s3 (fun r hr => ⟨(hs.2.2.2.2.2 r hr).2.1, fun a ha => ((hs.2.2.2.2.2 r hr).2.2 a ha).1⟩) h3
 have hl1 : s1.lefts = [] := k1.lefts
 have hn1 : s1.nons.length = 1 := by rw [k1.nons]; rfl
 have hd4 : x.decls.length * 4000 ≤ 4000 * 4000 := Nat.mul_le_mul_right 4000 hs.2.2.1
 have hr4 : x.rules.length * 16004000 ≤ 4000 * 16004000 := Nat.mul_le_mul_right 16004000 hs.2.2.2.1
 have hm0 : Sp.mk0.toks.length = 3 := rfl
 have hsum : 3 + 4000 * 4000 + 4000 * 16004000 ≤ 2 ^ 38 := by decide
 refine ⟨k3.prods.trans (k2.2.1.trans k1.prods), ?_, ?_, ?_, ?_⟩
 ·have := k2.2.2.2.2
  rw [hl1, hn1] at this
  rw [k3.nons, k3.lefts]
  simp at this
  omega
 ·have h4 := hs.2.2.2.1
  have := k2.2.2.2.1
  rw [hl1] at this
  rw [k3.lefts]
  simp at this
  omega
 ·rw [k3.start, k2.2.2.1]
  exact k1.start (by decide)
 ·refine Nat.le_trans k3.toks (Nat.le_trans (Nat.add_le_add ?_ hr4) hsum)
  rw [k2.1]
  refine Nat.le_trans k1.toks ?_
  rw [hm0]
  exact Nat.add_le_add_left hd4 3
theorem tail_counts {x : Sp.Source} {s S : Sp.Mk} (hs : smallSrc x) (hS : S = Sp.numbersMk (Sp.prodsMk x s)) (hp : s.prods = []) (hnl : s.nons.length = s.lefts.length + 1) (hl : s.lefts.length ≤ 8000) (ht : s.toks.length ≤ 2 ^ 38) :
  (Sp.prodsMk x s).toks.length ≤ 2 ^ 40 ∧ S.toks.length ≤ 2 ^ 62 ∧ S.nons.length ≤ 2 ^ 62 ∧ S.prods.length ≤ 2 ^ 62 ∧ ∀ p ∈ S.prods, p.right.length ≤ 2 ^ 62 := by
 have k := Sp.prodsMk_keeps (x := x) (s := s) (fun r hr => ⟨(hs.2.2.2.2.2 r hr).2.1, fun a ha => ((hs.2.2.2.2.2 r hr).2.2 a ha).1⟩)
 have hr4 : x.rules.length * 16004000 ≤ 4000 * 16004000 := Nat.mul_le_mul_right 16004000 hs.2.2.2.1
 have hsum : 8001 + (1 + 4000 * 16004000) ≤ 2 ^ 62 := by decide
 have hpn : S.prods = (Sp.prodsMk x s).prods := by rw [hS]; rfl
 have hnn : S.nons = (Sp.prodsMk x s).nons := by rw [hS]; rfl
 have htk : (Sp.prodsMk x s).toks.length ≤ 2 ^ 38 := by rw [k.toks]; exact ht
 refine ⟨Nat.le_trans htk (by decide), ?_, ?_, ?_, ?_⟩
 ·rw [hS, Sp.numbersMk_len]
  exact Nat.le_trans htk (by decide)
 ·rw [hnn]
  refine Nat.le_trans k.nons (Nat.le_trans (Nat.add_le_add ?_ (Nat.add_le_add_left hr4 1)) hsum)
  omega
 ·rw [hpn]
  refine Nat.le_trans k.prods (Nat.le_trans (Nat.add_le_add ?_ (Nat.add_le_add_left hr4 1)) hsum)
  rw [hp]
  simp
 ·rw [hpn]
  intro p h
  exact Nat.le_trans (k.rights (by rw [hp]; simp) p h) (by decide)
theorem gf_stored {w : World} {b c : Nat} {a0 a1 a2 a3 a4 d0 d1 d2 : Value} {t u : TypeId} {fr fs : Nat × Nat} (hb : w.heap[b]? = some (.cells #[a0, a1, a2, a3, a4] t fr)) (hc : w.heap[c]? = some (.cells #[d0, d1, d2] u fs)) (hne : b ≠ c) (v0 v1 v2 v3 v4 A0 A1 A2 : Value) {w' : World}
  (hw : w' = (((((((w.setCell ⟨b, 0, none⟩ v0).setCell ⟨b, 1, none⟩ v1).setCell ⟨b, 2, none⟩ v2).setCell ⟨b, 3, none⟩ v3).setCell ⟨b, 4, none⟩ v4).setCell ⟨c, 0, none⟩ A0).setCell ⟨c, 1, none⟩ A1).setCell ⟨c, 2, none⟩ A2) :
  w'.heap[b]? = some (.cells #[v0, v1, v2, v3, v4] t fr) ∧ w'.heap[c]? = some (.cells #[A0, A1, A2] u fs) ∧ Kp (fun k => k ≠ b ∧ k ≠ c) w w' := by
 have k1 : ((((w.setCell ⟨b, 0, none⟩ v0).setCell ⟨b, 1, none⟩ v1).setCell ⟨b, 2, none⟩ v2).setCell ⟨b, 3, none⟩ v3).setCell ⟨b, 4, none⟩ v4 |>.heap[b]? = some (.cells #[v0, v1, v2, v3, v4] t fr) := heap_setCell_at (heap_setCell_at (heap_setCell_at (heap_setCell_at (heap_setCell_at hb))))
 have k2 : ((((w.setCell ⟨b, 0, none⟩ v0).setCell ⟨b, 1, none⟩ v1).setCell ⟨b, 2, none⟩ v2).setCell ⟨b, 3, none⟩ v3).setCell ⟨b, 4, none⟩ v4 |>.heap[c]? = some (.cells #[d0, d1, d2] u fs) := by
  have ne : ∀ (w : World) (i : Nat) (v : Value), (w.setCell ⟨b, i, none⟩ v).heap[c]? = w.heap[c]? := fun w i v => Below.heap_setCell w ⟨b, i, none⟩ v c (fun e => hne e.symm)
  rw [ne, ne, ne, ne, ne]
  exact hc
 have ne2 : ∀ (w : World) (i : Nat) (v : Value), (w.setCell ⟨c, i, none⟩ v).heap[b]? = w.heap[b]? := fun w i v => Below.heap_setCell w ⟨c, i, none⟩ v b (fun e => hne e)
 subst hw
 refine ⟨by rw [ne2, ne2, ne2]; exact k1, heap_setCell_at (heap_setCell_at (heap_setCell_at k2)), ?_⟩
 exact ((((((((Kp.refl _ w).setCell (p := ⟨b, 0, none⟩) (by simp) v0).setCell (p := ⟨b, 1, none⟩) (by simp) v1).setCell (p := ⟨b, 2, none⟩) (by simp) v2).setCell (p := ⟨b, 3, none⟩) (by simp) v3).setCell (p := ⟨b, 4, none⟩) (by simp) v4).setCell (p := ⟨c, 0, none⟩) (by simp) A0).setCell (p := ⟨c, 1, none⟩) (by simp) A1).setCell (p := ⟨c, 2, none⟩) (by simp) A2
theorem drew_heap (w : World) (b : Nat) : w.drew.heap[b]? = w.heap[b]? := rfl
theorem gf_storedD {w : World} {b c : Nat} {a0 a1 a2 a3 a4 d0 d1 d2 : Value} {t u : TypeId} {fr fs : Nat × Nat} (hb : w.heap[b]? = some (.cells #[a0, a1, a2, a3, a4] t fr)) (hc : w.heap[c]? = some (.cells #[d0, d1, d2] u fs)) (hne : b ≠ c) (v0 v1 v2 v3 v4 A0 A1 A2 : Value) {w' : World}
  (hw : w' = ((((((((w.setCell ⟨b, 0, none⟩ v0).setCell ⟨b, 1, none⟩ v1).setCell ⟨b, 2, none⟩ v2).setCell ⟨b, 3, none⟩ v3).setCell ⟨b, 4, none⟩ v4).setCell ⟨c, 0, none⟩ A0).setCell ⟨c, 1, none⟩ A1).setCell ⟨c, 2, none⟩ A2).drew) :
  w'.heap[b]? = some (.cells #[v0, v1, v2, v3, v4] t fr) ∧ w'.heap[c]? = some (.cells #[A0, A1, A2] u fs) ∧ Kp (fun k => k ≠ b ∧ k ≠ c) w w' := by
 subst hw
 obtain ⟨h1, h2, h3⟩ := gf_stored hb hc hne v0 v1 v2 v3 v4 A0 A1 A2 rfl
 rw [drew_heap, drew_heap]
 exact ⟨h1, h2, h3.drew⟩
theorem LitI.bel {x : Sp.Source} {vd vr : Value} {W w : World} {L : Nat → Bool} {r : LitR} (h : LitI x vd vr W L r w) : Below W.heap.size W w := by
 obtain ⟨_, _, _, hi, _⟩ := h
 exact hi.below
def OfBox (x : Sp.Source) (vd vr : Value) (g : Nat) (w : World) : Prop :=
 w.heap[g]? = some (.cells #[.string ⟨x.pro.toArray⟩, vd, vr, .string ⟨x.tail.toArray⟩] 25 (0, 0)) ∧ w.heap[g + 1]? = some (.cells #[.slice none 0 0, .slice none 0 0, .slice none 0 0, .string ⟨#[]⟩, .string ⟨#[]⟩] 39 (0, 0)) ∧ w.heap[g + 1 + 1]? = some (.cells #[.int .i64 0, .int .i64 0, .string ⟨#[]⟩] 52 (0, 0))
theorem OfBox.below {x : Sp.Source} {vd vr : Value} {g : Nat} {w w' : World} (h : OfBox x vd vr g w) (hb : Below w.heap.size w w') : OfBox x vd vr g w' :=
 ⟨(hb.block _ (lt_at h.1)).trans h.1, (hb.block _ (lt_at h.2.1)).trans h.2.1, (hb.block _ (lt_at h.2.2)).trans h.2.2⟩
theorem maker_start {x : Sp.Source} {vd vr gv : Value} {W w : World} {m b1 b6 b7 : Nat} (hm : W.heap.size ≤ m) (hb : w.heap[m]? = some (.cells (mkLit x vd vr b1 b6 b7 gv) 99 (0, 0))) (h : LitInv W w b1 b6 b7 gv true true true true true) {w' : World}
  (hw : w' = ((((((w.setCell ⟨m, 4, none⟩ (.slice (some ⟨w.heap.size + 1, 0, none⟩) 3 3)).setCell ⟨m, 5, none⟩ (.slice (some ⟨w.heap.size, 0, none⟩) 1 1)).setCell ⟨m, 6, none⟩ (.slice none 0 0)).setCell ⟨m, 7, none⟩ (.string ⟨x.pro.toArray⟩)).setCell ⟨m, 8, none⟩ (.string ⟨x.tail.toArray⟩)).alloc (.cells #[.string ⟨#[36, 97, 99, 99, 101, 112, 116]⟩, .string ⟨#[]⟩] 89)).alloc (.cells #[.string ⟨#[36, 101, 110, 100]⟩, .bool false, .int .i64 0, .int .i64 0, .int .i64 0, .string ⟨#[]⟩, .string ⟨#[101, 114, 114, 111, 114]⟩, .bool false, .int .i64 (-1), .int .i64 0, .int .i64 0, .string ⟨#[]⟩, .string ⟨#[36, 117, 110, 107]⟩, .bool false, .int .i64 (-1), .int .i64 0, .int .i64 0, .string ⟨#[]⟩] 65)) :
  MakerAt W.heap.size w' m x Sp.mk0 ⟨vd, vr, .slice (some ⟨w.heap.size + 1, 0, none⟩) 3 3, .slice (some ⟨w.heap.size, 0, none⟩) 1 1, .slice none 0 0, gv, b1, b6, b7⟩ 0 0 [] ∧ Below W.heap.size W w' := by
 obtain ⟨w2, hw2⟩ : ∃ w2 : World, w2 = ((((w.setCell ⟨m, 4, none⟩ (.slice (some ⟨w.heap.size + 1, 0, none⟩) 3 3)).setCell ⟨m, 5, none⟩ (.slice (some ⟨w.heap.size, 0, none⟩) 1 1)).setCell ⟨m, 6, none⟩ (.slice none 0 0)).setCell ⟨m, 7, none⟩ (.string ⟨x.pro.toArray⟩)).setCell ⟨m, 8, none⟩ (.string ⟨x.tail.toArray⟩) := ⟨_, rfl⟩
 have hsz : w2.heap.size = w.heap.size := by rw [hw2]; simp [World.setCell]
 have k : Kp (fun b => b ≠ m) w w2 := by
  rw [hw2]
  exact (((((Kp.refl _ w).setCell (p := ⟨m, 4, none⟩) (by simp) _).setCell (p := ⟨m, 5, none⟩) (by simp) _).setCell (p := ⟨m, 6, none⟩) (by simp) _).setCell (p := ⟨m, 7, none⟩) (by simp) _).setCell (p := ⟨m, 8, none⟩) (by simp) _
 rw [← hw2] at hw
 have hb2 : Below w2.heap.size w2 w' := by rw [hw]; exact ((Below.refl _ w2).alloc (Nat.le_refl _) _).alloc (by simp) _
 have hN : w'.ownsRow W.heap.size 89 2 (.slice (some ⟨w.heap.size, 0, none⟩) 1 1) 1 (Sp.mk0.nons.map nonC).flatten := by
  have h1 := World.ownsRow_lit (base := W.heap.size) (size := 2) (e := 89) w2 #[.string ⟨#[36, 97, 99, 99, 101, 112, 116]⟩, .string ⟨#[]⟩] 1 (by rw [hsz]; exact h.below.size) (by unfold maxLen; decide) rfl
  rw [hsz] at h1
  rw [hw]
  exact h1.alloc _
 have hT : w'.ownsRow W.heap.size 65 6 (.slice (some ⟨w.heap.size + 1, 0, none⟩) 3 3) 3 (Sp.mk0.toks.map tokC).flatten := by
  have h1 := World.ownsRow_lit (base := W.heap.size) (size := 6) (e := 65) (w2.alloc (.cells #[.string ⟨#[36, 97, 99, 99, 101, 112, 116]⟩, .string ⟨#[]⟩] 89)) #[.string ⟨#[36, 101, 110, 100]⟩, .bool false, .int .i64 0, .int .i64 0, .int .i64 0, .string ⟨#[]⟩, .string ⟨#[101, 114, 114, 111, 114]⟩, .bool false, .int .i64 (-1), .int .i64 0, .int .i64 0, .string ⟨#[]⟩, .string ⟨#[36, 117, 110, 107]⟩, .bool false, .int .i64 (-1), .int .i64 0, .int .i64 0, .string ⟨#[]⟩] 3 (by have := h.below.size; rw [World.size_alloc, hsz]; omega) (by unfold maxLen; decide) rfl
  rw [World.size_alloc, hsz] at h1
  rw [hw]
  exact h1
 have hblk : w2.heap[m]? = some (.cells (mkCells x Sp.mk0 ⟨vd, vr, .slice (some ⟨w.heap.size + 1, 0, none⟩) 3 3, .slice (some ⟨w.heap.size, 0, none⟩) 1 1, .slice none 0 0, gv, b1, b6, b7⟩ 0 0 []).toArray 99 (0, 0)) := by
  rw [hw2]
  exact heap_setCell_at (heap_setCell_at (heap_setCell_at (heap_setCell_at (heap_setCell_at hb))))
 have hmm : ∀ b, (∃ es c, w.heap[b]? = some (.map es c)) → b ≠ m := by
  rintro b ⟨es, c, hy⟩ rfl
  rw [hb] at hy
  cases hy
 have m1 := h.m1 rfl; have m6 := h.m6 rfl; have m7 := h.m7 rfl
 have at2 : ∀ {P : Program} {kt : TypeId} {b n : Nat} {L : Value → Option Value}, MapIs P kt w b n L → MapIs P kt w' b n L := fun h0 =>
  (h0.block (k.block _ h0.lt (hmm _ h0.isMap))).block (hb2.block _ (by rw [hsz]; exact h0.lt))
 refine ⟨⟨(hb2.block m (lt_at hblk)).trans hblk, hT, ownsRow_below (ownsRow_kp (h.s5 rfl) k (row_ne_cells (h.s5 rfl) hb (by decide))) hb2, hN, ⟨fun _ => .bool false, fun _ => .bool false, World.ownsRow_nil _ _ _ _, by simp [Sp.mk0]⟩, (at2 m1.2).mono (by decide), (by rw [show Sp.mk0.lefts = [] from rfl, nonL_nil]; exact at2 m6.2), (by rw [show Sp.mk0.types = [] from rfl, typL_nil]; exact at2 m7.2), ⟨hm, m1.1, m6.1, m7.1⟩, ⟨h.ne16 rfl rfl, h.ne17 rfl rfl, h.ne67 rfl rfl⟩, rfl, by decide⟩, ?_⟩
 have hsz2 := h.below.size
 exact (h.below.trans (Kp.below k h.below.size (fun b _ => by omega))).trans (hb2.mono (by omega))
end Go.Proofs.YtddnomjfcbplpaaGreatDoor
