/- Slices of structs, as they are read; the walk of EqPieces. -/
import Derived.Test.YticdgfljaphhgaaDoorW0
import Derived.Test.YticdgfljaphhgaaDoorSpB
import Derived.Laws.StructEq
namespace Go.Proofs.YticdgfljaphhgaaDoor
open Go.RowKit

/-- A slice value whose elements, 'size' cells each, read as the rows xs. -/
def SlAt (w : World) (v : Value) (size : Nat) (xs : List (List Value)) : Prop :=
  (xs = [] ∧ ∃ a cap, v = .slice a 0 cap) ∨
  ∃ b off cap, v = .slice (some ⟨b, off, none⟩) xs.length cap ∧ b < w.heap.size ∧ ∀ i r, xs[i]? = some r → ∀ j u, r[j]? = some u → w.cell? ⟨b, off + i * size + j, none⟩ = some u
theorem SlAt.below {w w' : World} {v : Value} {size : Nat} {xs : List (List Value)} (h : SlAt w v size xs) (hb : Below w.heap.size w w') : SlAt w' v size xs := by
  rcases h with h | ⟨b, off, cap, rfl, hlt, hc⟩
  · exact .inl h
  · refine .inr ⟨b, off, cap, rfl, Nat.lt_of_lt_of_le hlt hb.size, fun i r hr j u hu => ?_⟩
    rw [hb.cell (p := ⟨b, _, none⟩) hlt]
    exact hc i r hr j u hu

def pieceC (p : Sp.Piece) : List Value := [.int .i64 p.kind, .string ⟨p.text.toArray⟩, .int .i64 p.n, .string ⟨p.tag.toArray⟩]

theorem guard_piece : Tryd.prog.eqGuardType Tryd.prog.depth 28 = false := by kernel_rfl
theorem stood_piece : Tryd.prog.stoodInHeld 28 = false := by kernel_rfl
theorem fields_piece : Tryd.prog.underlying 28 = some (.struct (Tryd.prog.fieldsOf 28)) := by kernel_rfl
theorem neq_piece0 (a0 b0 a2 b2 : Int) (a1 a3 b1 b3 : ByteArray) (w : World) :
    (binOp .neq 28 (.agg #[.int .i64 a0, .string a1, .int .i64 a2, .string a3]) (.agg #[.int .i64 b0, .string b1, .int .i64 b2, .string b3])).run Tryd.prog w =
      .ok (.bool (!((a0 == b0) && (a1.toList == b1.toList) && (a2 == b2) && (a3.toList == b3.toList)))) w := by
  rw [run_neq_struct, run_equalIn_agg w 9999 28 _ _ fields_piece stood_piece]
  simp only [Program.fieldsOf, Tryd.underlying28, Op.eqFields]
  cases h0 : a0 == b0 <;> cases h1 : a1.toList == b1.toList <;> cases h2 : a2 == b2 <;> cases h3 : a3.toList == b3.toList <;>
    simp [go_sem, Tryd.underlying3, Tryd.underlying9, h0, h1, h2, h3]
theorem toList_mk (l : List UInt8) : (⟨l.toArray⟩ : ByteArray).toList = l := by rw [Lib.toList_data]
theorem neq_piece (p q : Sp.Piece) (w : World) :
    (binOp .neq 28 (.agg #[.int .i64 p.kind, .string ⟨p.text.toArray⟩, .int .i64 p.n, .string ⟨p.tag.toArray⟩]) (.agg #[.int .i64 q.kind, .string ⟨q.text.toArray⟩, .int .i64 q.n, .string ⟨q.tag.toArray⟩])).run Tryd.prog w =
      .ok (.bool (!decide (p = q))) w := by
  rw [neq_piece0]
  congr 2
  obtain ⟨p0, p1, p2, p3⟩ := p
  obtain ⟨q0, q1, q2, q3⟩ := q
  simp only [toList_mk, Sp.Piece.mk.injEq]
  rw [Bool.eq_iff_iff]
  simp [or_assoc]

set_option maxRecDepth 100000 in
set_option maxHeartbeats 1600000 in
theorem ref_EqPieces (v1 v2 : Value) (ps qs : List Sp.Piece) (w : World) (h1 : SlAt w v1 4 (ps.map pieceC)) (h2 : SlAt w v2 4 (qs.map pieceC))
    (hl1 : ps.length < 4294967281) (hl2 : qs.length < 4294967281) :
    Calls Tryd.prog 23 #[v1, v2] w fun e w' => e = .returned (.bool (decide (ps = qs))) ∧ ∃ n, w' = w.drewN n := by
  have s1 : ∃ a cap, v1 = .slice a ps.length cap := by
    rcases h1 with ⟨hps, a, cap, rfl⟩ | ⟨b, off, cap, rfl, _, _⟩
    · have : ps = [] := by simpa using hps
      exact ⟨a, cap, by simp [this]⟩
    · exact ⟨some ⟨b, off, none⟩, cap, by simp⟩
  have s2 : ∃ a cap, v2 = .slice a qs.length cap := by
    rcases h2 with ⟨hps, a, cap, rfl⟩ | ⟨b, off, cap, rfl, _, _⟩
    · have : qs = [] := by simpa using hps
      exact ⟨a, cap, by simp [this]⟩
    · exact ⟨some ⟨b, off, none⟩, cap, by simp⟩
  by_cases hlen : ps.length = qs.length
  · by_cases hz : qs.length = 0
    · obtain rfl : qs = [] := List.eq_nil_of_length_eq_zero hz
      obtain rfl : ps = [] := List.eq_nil_of_length_eq_zero hlen
      obtain ⟨a, cap, rfl⟩ := s1
      obtain ⟨a2, cap2, rfl⟩ := s2
      clear h1 h2 hlen hz hl1 hl2
      go_enter Tryd.func23, Tryd.ntmps23
      go_wp2
      refine wp_loop_rounds 1 ?_; rw [rounds_succ]
      go_wp2
      go_ret
      exact ⟨rfl, 0, rfl⟩
    · have e1 : ∃ b off cap, v1 = .slice (some ⟨b, off, none⟩) ps.length cap ∧ b < w.heap.size ∧ ∀ i r, (ps.map pieceC)[i]? = some r → ∀ j u, r[j]? = some u → w.cell? ⟨b, off + i * 4 + j, none⟩ = some u := by
        rcases h1 with ⟨hps, _⟩ | ⟨b, off, cap, rfl, h, h'⟩
        · have : ps = [] := by simpa using hps
          subst this; simp at hlen; omega
        · exact ⟨b, off, cap, by simp, h, h'⟩
      have e2 : ∃ b off cap, v2 = .slice (some ⟨b, off, none⟩) qs.length cap ∧ b < w.heap.size ∧ ∀ i r, (qs.map pieceC)[i]? = some r → ∀ j u, r[j]? = some u → w.cell? ⟨b, off + i * 4 + j, none⟩ = some u := by
        rcases h2 with ⟨hps, _⟩ | ⟨b, off, cap, rfl, h, h'⟩
        · have : qs = [] := by simpa using hps
          subst this; simp at hz
        · exact ⟨b, off, cap, by simp, h, h'⟩
      clear h1 h2 s1 s2 hz
      obtain ⟨b, off, cap, rfl, hlt1, hc1⟩ := e1
      obtain ⟨b2, off2, cap2, rfl, hlt2, hc2⟩ := e2
      generalize hn : qs.length = n at *
      have HL := Lib.hid hlen
      rw [hlen]
      clear hlen hl1
      have HC1 := Lib.hid hc1
      have HC2 := Lib.hid hc2
      have HN := Lib.hid hn
      clear hc1 hc2 hn
      have hg := guard_piece
      have hneq := neq_piece
      go_enter Tryd.func23, Tryd.ntmps23
      go_wp2
      go_loopw [5] (fun iv wr => ∃ k : Nat, k ≤ n ∧ iv = .int .i64 k ∧ ps.take k = qs.take k ∧ ∃ n, wr = w.drewN n) (fun iv _ => n - (intOf iv).toNat)
      case atStart => exact ⟨0, by omega, rfl, rfl, 0, rfl⟩
      case round =>
        obtain ⟨k, hk, rfl, hi, nn, rfl⟩ := hrel
        have HI := Lib.hid hi; clear hi
        by_cases hkn : k < n
        · have hk1 : k < ps.length := by have := HL.out; omega
          have hk2 : k < qs.length := by have := HN.out; omega
          have hp : ps[k]? = some ps[k] := List.getElem?_eq_getElem hk1
          have hq : qs[k]? = some qs[k] := List.getElem?_eq_getElem hk2
          generalize ps[k] = p at hp
          generalize qs[k] = q at hq
          have g1 := HC1.out k (pieceC p) (by simp [hp])
          have g2 := HC2.out k (pieceC q) (by simp [hq])
          have a0 := g1 0 _ rfl; have a1 := g1 1 _ rfl; have a2 := g1 2 _ rfl; have a3 := g1 3 _ rfl
          have b0 := g2 0 _ rfl; have b1 := g2 1 _ rfl; have b2' := g2 2 _ rfl; have b3 := g2 3 _ rfl
          simp only [Nat.add_zero] at a0 b0
          have HP := Lib.hid hp; have HQ := Lib.hid hq
          clear g1 g2 hp hq hk1 hk2
          go_wp2
          go_quiet (fail)
          go_wp2
          all_goals (have hi := HI.out; have hp := HP.out; have hq := HQ.out; clear HI HP HQ)
          · go_ret
            go_light
            refine ⟨ret_bool ?_, _, World.drewN_drewN _ _ _⟩
            symm
            rw [decide_eq_false_iff_not]
            rintro rfl
            rw [hp] at hq
            have hpq := Option.some.inj hq
            clear hp hq hi
            subst hpq
            simp_all
          · go_roundw
            case rel => go_light; exact ⟨k + 1, by omega, by go_num, by rw [List.take_add_one, List.take_add_one, hi, hp, hq]; simp_all, _, rfl⟩
            case measure => go_light; simp [intOf]; omega
        · have hkn' : k = n := by omega
          have HK := Lib.hid hkn'; clear hkn'
          go_wp2
          go_ret
          refine ⟨ret_bool ?_, _, rfl⟩
          symm
          rw [decide_eq_true_eq]
          have := HI.out
          rw [HK.out, List.take_of_length_le (by rw [HL.out]; omega), List.take_of_length_le (by rw [HN.out]; omega)] at this
          exact this
  · obtain ⟨a, cap, rfl⟩ := s1
    obtain ⟨a2, cap2, rfl⟩ := s2
    have hne : ((ps.length : Int) != (qs.length : Int)) = true := by rw [bne_iff_ne]; omega
    have HR : Hid (decide (ps = qs) = false) := by
      show _ = _
      rw [decide_eq_false_iff_not]; rintro rfl; exact hlen rfl
    clear h1 h2 hlen
    go_enter Tryd.func23, Tryd.ntmps23
    go_wp2
    go_ret
    exact ⟨ret_bool HR.out.symm, 0, rfl⟩
end Go.Proofs.YticdgfljaphhgaaDoor
