/- The walk of lex.Words. -/
import Derived.Test.YticdgfljaphhgaaDoorCe
import Derived.Test.YticdgfljaphhgaaDoorBk
import Derived.Test.YticdgfljaphhgaaDoorSpO
namespace Go.Proofs.YticdgfljaphhgaaDoor
open Go.RowKit

def wordC (x : Sp.Word) : List Value := [.int .i64 x.kind, .string ⟨x.text.toArray⟩, .int .i64 x.at_]
/-- What lex.Words leaves. -/
def WordsPost (r : List Sp.Word × Int × Nat) (w : World) (e : Ending) (w' : World) : Prop :=
  ∃ v, e = .returned (.tuple #[v, .agg #[.int .i64 r.2.1, .int .i64 (r.2.2 : Nat), .string ⟨#[]⟩]]) ∧ w'.ownsRow w.heap.size 53 3 v r.1.length (r.1.flatMap wordC) ∧ Below w.heap.size w w'
theorem info_word : (Tryd.prog.info? 53).map (fun i => (i.zero, i.size, i.bytes)) = some (some (.agg #[.int .i64 0, .string ⟨#[]⟩, .int .i64 0]), 3, 32) := by kernel_rfl
theorem ownsRow_old {w w' : World} {base : Nat} {e : TypeId} {size : Nat} {v : Value} {n : Nat} {xs : List Value} (h : w.ownsRow base e size v n xs) (k : Kp (fun k => k < w.heap.size) w w') : w'.ownsRow base e size v n xs :=
  ownsRow_kp h k (fun b hb => (h.lt b hb).2)
theorem new_cells_at (w : World) (cs : List Value) (t : TypeId) (n : Nat) (hn : n = w.heap.size) : ∀ j u, cs[j]? = some u → (w.alloc (.cells cs.toArray t)).cell? ((⟨n, 0, none⟩ : Addr).add j) = some u := by
  subst hn; exact new_cells w cs t
section
variable {P : Program} {fn : Func} {R : Ending → World → Prop} {a : Act} {W : World} {g : Nat} {t ty : TypeId} {cs : Array Value} {fr : Nat × Nat} {d : TypeDesc} {p u : Tmp}
theorem ret_tmp_cell (hf : fn.results = #[.tmp u, .cell p ty]) (hp : a.tmps.getD p undef = .pointer (some ⟨g, 0, none⟩)) (hg : W.heap[g]? = some (.cells cs t fr))
    (hd : (match d with | .struct _ | .array _ _ => true | _ => false) = true) (hu : P.underlying ty = some d) (hi : (P.info? ty).map (·.size) = some cs.size)
    (hdef : a.defers = []) (hR : R (.returned (.tuple #[a.tmps.getD u undef, .agg cs])) W) : bodyPost P fn R .ret a W := by
  refine bodyPost_ret ?_ hdef hR
  have hl := run_loadVar_row (P := P) W g t ty cs fr d hg hu (by cases d <;> simp_all) hi
  have hp' : a.tmps[p]?.getD undef = .pointer (some ⟨g, 0, none⟩) := by simpa using hp
  simp [results, hf, hp', asAddr, hl]
end

/-- What a round of Words finds. -/
def WordsI (s : ByteArray) (R : Except Nat (List Sp.Word)) (w : World) (p m : Nat) (v : Value) (wr : World) : Prop :=
  ∃ (f : Nat) (ws : List Sp.Word), wr.ownsRow (w.heap.size + 1) 53 3 v ws.length (ws.flatMap wordC) ∧ wr.heap[w.heap.size]? = some (.cells #[.int .i64 0, .int .i64 0, .string ⟨#[]⟩] 49 (0, 0)) ∧
    Below w.heap.size w wr ∧ s.size - p < f ∧ (Sp.wordsGo f m p (s.data.toList.drop p)).map (ws ++ ·) = R ∧ ws.length ≤ p

set_option maxRecDepth 100000 in
set_option maxHeartbeats 25600000 in
theorem lex_Words_go (s : ByteArray) (w : World) (hs : s.size ≤ 4000) (hg : Gl w) :
    Calls Tryd.prog 28 #[.string s] w (WordsPost (Sp.wordsRes (Sp.wordsGo (s.size + 1) 0 0 s.data.toList)) w) := by
  generalize hR : Sp.wordsGo (s.size + 1) 0 0 s.data.toList = R
  have HR := Lib.hid hR
  clear hR
  obtain ⟨i0, hi0, hz0, hz1, hz2⟩ := info_parts info_word
  go_enter Tryd.func28, Tryd.ntmps28
  go_wp2
  go_loopw [4, 5, 6] (fun v mv pv wr => ∃ p m : Nat, p ≤ s.size ∧ m ≤ 1 ∧ pv = .int .i64 p ∧ mv = .int .i64 m ∧ WordsI s R w p m v wr) (fun _ _ pv _ => s.size - (intOf pv).toNat)
  case atStart =>
    refine ⟨0, 0, Nat.zero_le _, by omega, rfl, rfl, s.size + 1, [], World.ownsRow_nil _ _ _ _, heap_last _ _, (Below.refl _ _).alloc (Nat.le_refl _) _, by omega, ?_, by simp⟩
    have := HR.out
    rw [List.drop_zero, this]
    cases R <;> simp [Except.map]
  case round =>
    obtain ⟨p, m, hp, hm, rfl, rfl, f, ws, hown, hF, hbel, hf, hi, hlen⟩ := hrel
    clear HR
    obtain ⟨f, rfl⟩ : ∃ g, f = g + 1 := ⟨f - 1, by omega⟩
    obtain ⟨av, cpv, rfl⟩ := ownsRow_some hown
    have hgr := hg.below hbel
    have hsz := hbel.size
    have hlF := lt_at hF
    have HO := Lib.hid hown; have HF := Lib.hid hF; have HBel := Lib.hid hbel
    clear hown hF hbel
    have HBt := Lib.hid (fun W hW => lex_between s p W (by omega) hp hW)
    have hskl := Sp.skip_len (s.data.toList.drop p)
    have hll : (s.data.toList.drop p).length = s.size - p := by simp
    rw [hll] at hskl
    unfold Sp.wordsGo at hi
    rw [hll] at hi
    generalize hsk : Sp.skip (s.data.toList.drop p) = sk at hi hskl HBt
    obtain ⟨n, b⟩ := sk
    simp only at hi hskl HBt
    rw [List.drop_drop] at hi
    clear hsk hll
    by_cases hend : b = true ∧ s.size - p = n
    · rw [if_pos hend] at hi
      obtain ⟨rfl, hpn⟩ := hend
      have hpe : p + n = s.size := by omega
      rw [hpe] at hi HBt
      have HI := Lib.hid hi
      clear hi hpn hpe
      go_wp2_with (first
        | (go_at_call 47; refine (HBt.out _ hgr).mono ?_; rintro e w' ⟨rfl, rfl⟩)
        | (at_builtin; refine wpList_append_own _ rfl _ _ 47 rfl (w.heap.size + 1) 53 i0 _ 3 32 Tryd.underlying47 hi0 hz0 hz1 hz2 rfl (by decide) _ _ _ rfl (HO.out.alloc _) ⟨wr.heap.size, 0, none⟩ 1 1 (wordC ⟨10, [], (s.size : Nat)⟩) rfl rfl (new_cells _ _ _) (by simp [wordC, Value.oneCell']) (by unfold maxLen; omega) (by omega) (by simp; omega) ?_; intro v3 w3 ho3 hg3 _; have hF3 := (hg3.block w.heap.size (by simp; omega) (fun h => by have := (HO.out.lt _ h.symm).1; omega)).trans (heap_alloc_of2 HF.out _); have c0 := cell_at (i := 0) hF3; have c1 := cell_at (i := 1) hF3; have c2 := cell_at (i := 2) hF3; have f0 := frozen_at (i := 0) hF3; have f1 := frozen_at (i := 1) hF3; have f2 := frozen_at (i := 2) hF3; have hz3 := lt_at hF3; have HO3 := Lib.hid ho3; have HG3 := Lib.hid hg3; clear ho3 hg3))
      refine ret_tmp_cell (g := w.heap.size) rfl rfl (by exact heap_setCell_at (heap_setCell_at (heap_setCell_at hF3))) rfl Tryd.underlying49 (by kernel_rfl) rfl ?_
      have hi := HI.out
      subst hi
      refine ⟨_, rfl, ?_, ?_⟩
      · have h : ∀ W', Kp (fun k => k ≠ w.heap.size) w3 W' → W'.ownsRow w.heap.size 53 3 v3 (ws.length + 1) (ws.flatMap wordC ++ wordC ⟨10, [], (s.size : Nat)⟩) := fun W' K =>
          ownsRow_mono (ownsRow_kp HO3.out K (fun g hg => by have := (HO3.out.lt g hg).1; omega)) (by omega)
        show World.ownsRow _ _ _ _ _ (ws ++ [_]).length ((ws ++ [_]).flatMap wordC)
        rw [List.length_append, List.flatMap_append, List.flatMap_singleton]
        exact h _ ((((Kp.refl _ _).setCell (by simp) _).setCell (by simp) _).setCell (by simp) _)
      · exact ((((HBel.out.alloc hsz _).grown HG3.out (by simp; omega) (fun g hg => by have := (HO.out.lt g hg).1; omega)).setCell (Nat.le_refl _) _).setCell (Nat.le_refl _) _).setCell (Nat.le_refl _) _
    · rw [if_neg hend] at hi
      have hne : ¬ wr.heap.size = w.heap.size := by omega
      have hne' : ¬ w.heap.size = wr.heap.size := by omega
      have d0 := cell_at (i := 0) HF.out; have d1 := cell_at (i := 1) HF.out; have d2 := cell_at (i := 2) HF.out
      have e0 := frozen_at (i := 0) HF.out; have e1 := frozen_at (i := 1) HF.out; have e2 := frozen_at (i := 2) HF.out
      cases b with
      | false =>
        rw [if_pos (.inl rfl)] at hi
        have HI := Lib.hid hi
        clear hi hend
        go_wp2_with (go_at_call 47; refine (HBt.out _ hgr).mono ?_; rintro e w' ⟨rfl, rfl⟩)
        refine ret_tmp_cell (g := w.heap.size) rfl rfl (by exact heap_alloc_of2 (heap_setCell_at (heap_setCell_at (heap_setCell_at HF.out))) _) rfl Tryd.underlying49 (by kernel_rfl) rfl ?_
        have hi := HI.out
        subst hi
        refine ⟨_, ?_, World.ownsRow_nil _ _ _ _, ?_⟩
        · simp [Sp.wordsRes, Except.map]
        · exact (((HBel.out.setCell (Nat.le_refl _) _).setCell (Nat.le_refl _) _).setCell (Nat.le_refl _) _).alloc (by simp; omega) _
      | true =>
        have hlt : p + n < s.size := by
          have : ¬ s.size - p = n := fun h => hend ⟨rfl, h⟩
          omega
        have hneq : ((p : Int) + (n : Int) == (s.size : Int)) = false := by rw [beq_eq_false_iff_ne]; omega
        have hwl := Sp.word_le (s.data.toList.drop (p + n))
        have hll : (s.data.toList.drop (p + n)).length = s.size - (p + n) := by simp
        rw [hll] at hwl
        obtain ⟨kd, tx, k, hNe⟩ : ∃ kd tx k, Sp.word (s.data.toList.drop (p + n)) = (kd, tx, k) := ⟨_, _, _, rfl⟩
        have HWd : Hid (∀ W, Gl W → Calls Tryd.prog 48 #[.string s, .int .i64 ((p : Int) + (n : Int))] W fun e w' => e = .returned (.tuple #[.agg #[.int .i64 kd, .string ⟨tx.toArray⟩, .int .i64 0], .int .i64 (k : Int)]) ∧ Below W.heap.size W w') := Lib.hid (fun W hW => by
          have h := lex_word s (p + n) W hlt (by omega) hW
          rw [hNe] at h
          exact h)
        rw [hNe] at hi hwl
        simp only at hi hwl
        clear hNe
        clear hend hll
        by_cases hk0 : k = 0
        · subst hk0
          rw [if_pos (.inr rfl)] at hi
          have HI := Lib.hid hi
          clear hi
          go_wp2_with (first
            | (go_at_call 47; refine (HBt.out _ hgr).mono ?_; rintro e w' ⟨rfl, rfl⟩)
            | (go_at_call 48; refine (HWd.out _ (hgr.alloc _)).mono ?_; rintro e w1 ⟨rfl, hb1⟩; have hB := (hb1.block wr.heap.size (by simp)).trans (heap_last _ _); have HK := Lib.hid (show Kp (fun k => k < wr.heap.size) wr w1 from ((Kp.refl _ _).alloc _).trans (Kp.of_below hb1 (fun k hk _ => hk))); have hF1 := HK.out.at HF.out hlF; have c0 := cell_at (i := 0) hB; have c1 := cell_at (i := 1) hB; have c2 := cell_at (i := 2) hB; have f0 := frozen_at (i := 0) hB; have f1 := frozen_at (i := 1) hB; have f2 := frozen_at (i := 2) hB; have d0 := cell_at (i := 0) hF1; have d1 := cell_at (i := 1) hF1; have d2 := cell_at (i := 2) hF1; have e0 := frozen_at (i := 0) hF1; have e1 := frozen_at (i := 1) hF1; have e2 := frozen_at (i := 2) hF1; have hz := lt_at hB; have HB1 := Lib.hid hb1; have HFb := Lib.hid hF1; clear hb1 hB hF1))
          refine ret_tmp_cell (g := w.heap.size) rfl rfl (by exact heap_setCell_at (heap_setCell_at (heap_setCell_at ((Below.heap_setCell _ _ _ _ (by simpa using hne')).trans ((Below.heap_setCell _ _ _ _ (by simpa using hne')).trans ((Below.heap_setCell _ _ _ _ (by simpa using hne')).trans HFb.out)))))) rfl Tryd.underlying49 (by kernel_rfl) rfl ?_
          have hi := HI.out
          subst hi
          refine ⟨_, ?_, World.ownsRow_nil _ _ _ _, ?_⟩
          · simp [Sp.wordsRes, Except.map]
          · exact (((((((HBel.out.alloc hsz _).trans (HB1.out.mono (by simp; omega))).setCell hsz _).setCell hsz _).setCell hsz _).setCell (Nat.le_refl _) _).setCell (Nat.le_refl _) _).setCell (Nat.le_refl _) _
        · have hkb : ((k : Int) == 0) = false := by rw [beq_eq_false_iff_ne]; omega
          rw [if_neg (by simp; omega)] at hi
          have hdd : (s.data.toList.drop (p + n)).drop k = s.data.toList.drop (p + n + k) := by rw [List.drop_drop]
          rw [hdd] at hi
          have hkl : p + n + k ≤ s.size := by omega
          cases h7 : (kd == 7) with
          | true =>
            obtain rfl : kd = 7 := by simpa using h7
            clear h7
            rw [if_pos rfl] at hi
            by_cases hm1 : m = 1
            · subst hm1
              rw [if_pos rfl] at hi
              have HI := Lib.hid hi
              have HX := Lib.hid (show (⟨(s.data.toList.drop (p + n + k)).toArray⟩ : ByteArray) = s.extract (p + n + k) s.size by rw [← ext_end, Lib.mk_data])
              clear hi hdd
              go_wp2_with (go_at_call 47; refine (HBt.out _ hgr).mono ?_; rintro e w' ⟨rfl, rfl⟩)
              refine (HWd.out _ (hgr.alloc _)).mono ?_
              rintro e w1 ⟨rfl, hb1⟩
              have hB := (hb1.block wr.heap.size (by simp)).trans (heap_last _ _)
              have HK := Lib.hid (show Kp (fun k => k < wr.heap.size) wr w1 from ((Kp.refl _ _).alloc _).trans (Kp.of_below hb1 (fun k hk _ => hk)))
              have hF1 := HK.out.at HF.out hlF
              have c0 := cell_at (i := 0) hB
              have c1 := cell_at (i := 1) hB
              have c2 := cell_at (i := 2) hB
              have f0 := frozen_at (i := 0) hB
              have f1 := frozen_at (i := 1) hB
              have f2 := frozen_at (i := 2) hB
              have d0 := cell_at (i := 0) hF1
              have d1 := cell_at (i := 1) hF1
              have d2 := cell_at (i := 2) hF1
              have e0 := frozen_at (i := 0) hF1
              have e1 := frozen_at (i := 1) hF1
              have e2 := frozen_at (i := 2) hF1
              have hz := lt_at hB
              have HB1 := Lib.hid hb1
              have HFb := Lib.hid hF1
              have HB0 := Lib.hid hB
              clear hb1 hB hF1
              go_upto_region 13 with (fail)
              go_upto_region 15 with (fail)
              go_upto_region 16 with (fail)
              go_upto_region 17 with (fail)
              go_upto_region 18 with (fail)
              go_upto_region 19 with (fail)
              go_upto_region 20 with (fail)
              go_wp2_with (at_builtin; refine wpList_append_own _ rfl _ _ 47 rfl (w.heap.size + 1) 53 i0 _ 3 32 Tryd.underlying47 hi0 hz0 hz1 hz2 rfl (by decide) _ _ _ rfl (ownsRow_old HO.out ?own) ⟨w1.heap.size, 0, none⟩ 1 1 [.int .i64 10, .string (s.extract (p + n + k) s.size), .int .i64 ((p : Int) + (n : Int) + (k : Int))] rfl rfl ?c1 ?c2 ?c3 ?c4 ?c5 ?_)
              case own => exact ((((HK.out.setCell (by simp) _).setCell (by simp) _).setCell (by simp) _).setCell (by simp) _).alloc _
              case c1 => exact new_cells_at _ _ _ _ (by simp)
              case c2 => simp [Value.oneCell']
              case c3 => unfold maxLen; omega
              case c4 => omega
              case c5 => have := HK.out.size; simp; omega
              intro v3 w3 ho3 hg3 _
              have hF3 := (hg3.block w.heap.size (by have := HK.out.size; simp; omega) (fun h => by have := (HO.out.lt _ h.symm).1; omega)).trans (Kp.at (((((HK.out.setCell (by simp) _).setCell (by simp) _).setCell (by simp) _).setCell (by simp) _).alloc _) HF.out hlF)
              have c0 := cell_at (i := 0) hF3; have c1 := cell_at (i := 1) hF3; have c2 := cell_at (i := 2) hF3; have f0 := frozen_at (i := 0) hF3; have f1 := frozen_at (i := 1) hF3; have f2 := frozen_at (i := 2) hF3; have hz3 := lt_at hF3
              have HF3 := Lib.hid hF3; have HO3 := Lib.hid ho3; have HG3 := Lib.hid hg3; clear ho3 hg3 hF3
              go_wp2_with fail
              refine ret_tmp_cell (g := w.heap.size) rfl rfl (by exact heap_setCell_at (heap_setCell_at (heap_setCell_at HF3.out))) rfl Tryd.underlying49 (by kernel_rfl) rfl ?_
              have hi := HI.out
              subst hi
              refine ⟨_, rfl, ?_, ?_⟩
              · have h : ∀ W', Kp (fun k => k ≠ w.heap.size) w3 W' → W'.ownsRow w.heap.size 53 3 v3 (ws.length + 1) (ws.flatMap wordC ++ wordC ⟨10, s.data.toList.drop (p + n + k), (p + n + k : Nat)⟩) := fun W' K => by
                  have h0 := HO3.out
                  rw [← HX.out] at h0
                  exact ownsRow_mono (ownsRow_kp h0 K (fun g hg => by have := (HO3.out.lt g hg).1; omega)) (by omega)
                show World.ownsRow _ _ _ _ _ (ws ++ [_]).length ((ws ++ [_]).flatMap wordC)
                rw [List.length_append, List.flatMap_append, List.flatMap_singleton]
                exact h _ ((((Kp.refl _ _).setCell (by simp) _).setCell (by simp) _).setCell (by simp) _)
              · have hb : Below w.heap.size w w1 := (HBel.out.alloc hsz _).trans (HB1.out.mono (by simp; omega))
                have hb2 := ((((((hb.setCell (p := ⟨wr.heap.size, 0, none⟩) hsz _).setCell (p := ⟨wr.heap.size, 1, none⟩) hsz _).setCell (p := ⟨wr.heap.size, 2, none⟩) hsz _).setCell (p := ⟨wr.heap.size, 2, none⟩) hsz _).alloc (by have := hb.size; simp; omega) _).grown HG3.out (by have := hb.size; simp; omega) (fun g hg => by have := (HO.out.lt g hg).1; omega))
                exact ((hb2.setCell (Nat.le_refl _) _).setCell (Nat.le_refl _) _).setCell (Nat.le_refl _) _
            · obtain rfl : m = 0 := by omega
              rw [if_neg (by decide)] at hi
              have HI := Lib.hid hi
              clear hi hdd hm1
              go_wp2_with (go_at_call 47; refine (HBt.out _ hgr).mono ?_; rintro e w' ⟨rfl, rfl⟩)
              refine (HWd.out _ (hgr.alloc _)).mono ?_
              rintro e w1 ⟨rfl, hb1⟩
              have hB := (hb1.block wr.heap.size (by simp)).trans (heap_last _ _)
              have HK := Lib.hid (show Kp (fun k => k < wr.heap.size) wr w1 from ((Kp.refl _ _).alloc _).trans (Kp.of_below hb1 (fun k hk _ => hk)))
              have hF1 := HK.out.at HF.out hlF
              have c0 := cell_at (i := 0) hB
              have c1 := cell_at (i := 1) hB
              have c2 := cell_at (i := 2) hB
              have f0 := frozen_at (i := 0) hB
              have f1 := frozen_at (i := 1) hB
              have f2 := frozen_at (i := 2) hB
              have d0 := cell_at (i := 0) hF1
              have d1 := cell_at (i := 1) hF1
              have d2 := cell_at (i := 2) hF1
              have e0 := frozen_at (i := 0) hF1
              have e1 := frozen_at (i := 1) hF1
              have e2 := frozen_at (i := 2) hF1
              have hz := lt_at hB
              have HB1 := Lib.hid hb1
              have HFb := Lib.hid hF1
              have HB0 := Lib.hid hB
              clear hb1 hB hF1
              go_upto_region 13 with (fail)
              go_upto_region 15 with (fail)
              go_upto_region 16 with (fail)
              go_upto_region 17 with (fail)
              go_upto_region 18 with (fail)
              go_upto_region 19 with (fail)
              go_upto_region 21 with (fail)
              obtain ⟨W4, hW4⟩ : ∃ W4, W4 = (((w1.setCell ⟨wr.heap.size, 0, none⟩ (.int .i64 7)).setCell ⟨wr.heap.size, 1, none⟩ (.string ⟨tx.toArray⟩)).setCell ⟨wr.heap.size, 2, none⟩ (.int .i64 0)).setCell ⟨wr.heap.size, 2, none⟩ (.int .i64 ((p : Int) + (n : Int))) := ⟨_, rfl⟩
              have B4 : W4.heap[wr.heap.size]? = some (.cells #[.int .i64 7, .string ⟨tx.toArray⟩, .int .i64 ((p : Int) + (n : Int))] 53 (0, 0)) := by
                rw [hW4]; exact heap_setCell_at (heap_setCell_at (heap_setCell_at (heap_setCell_at HB0.out)))
              have K4 : Kp (fun k => k < wr.heap.size) wr W4 := by
                rw [hW4]; exact ((((HK.out.setCell (by simp) _).setCell (by simp) _).setCell (by simp) _).setCell (by simp) _)
              have Bel4 : Below w.heap.size w W4 := by
                rw [hW4]
                have hb : Below w.heap.size w w1 := (HBel.out.alloc hsz _).trans (HB1.out.mono (by simp; omega))
                exact (((hb.setCell (p := ⟨wr.heap.size, 0, none⟩) hsz _).setCell (p := ⟨wr.heap.size, 1, none⟩) hsz _).setCell (p := ⟨wr.heap.size, 2, none⟩) hsz _).setCell (p := ⟨wr.heap.size, 2, none⟩) hsz _
              rw [← hW4]
              clear hW4 c0 c1 c2 f0 f1 f2 d0 d1 d2 e0 e1 e2
              have c0 := cell_at (i := 0) B4; have c1 := cell_at (i := 1) B4; have c2 := cell_at (i := 2) B4
              have hs4 := K4.size; have hs4' := Bel4.size; have hz4 := lt_at B4
              have HK4 := Lib.hid K4; have HBel4 := Lib.hid Bel4
              clear B4 K4 Bel4
              go_wp2_with (at_builtin; refine wpList_append_own _ rfl _ _ 47 rfl (w.heap.size + 1) 53 i0 _ 3 32 Tryd.underlying47 hi0 hz0 hz1 hz2 rfl (by decide) _ _ _ rfl (ownsRow_old HO.out ?own) ⟨W4.heap.size, 0, none⟩ 1 1 [.int .i64 7, .string ⟨tx.toArray⟩, .int .i64 ((p : Int) + (n : Int))] rfl rfl ?c1 ?c2 ?c3 ?c4 ?c5 ?_)
              case own => exact HK4.out.alloc _
              case c1 => exact new_cells_at _ _ _ _ (by simp)
              case c2 => simp [Value.oneCell']
              case c3 => unfold maxLen; omega
              case c4 => omega
              case c5 => simp; omega
              intro v3 w3 ho3 hg3 _
              have hF3 := (hg3.block w.heap.size (by simp; omega) (fun h => by have := (HO.out.lt _ h.symm).1; omega)).trans (Kp.at (HK4.out.alloc _) HF.out hlF)
              have HF3 := Lib.hid hF3; have HO3 := Lib.hid ho3; have HG3 := Lib.hid hg3; clear ho3 hg3 hF3
              go_wp2_with fail
              go_roundw
              case rel =>
                go_light
                refine ⟨p + n + k, 1, hkl, by omega, by go_num, by go_num, f, ws ++ [⟨7, tx, (p + n : Nat)⟩], ?_, HF3.out, ?_, by omega, ?_, by simp; omega⟩
                · have h := HO3.out
                  simpa [List.flatMap_append, wordC] using h
                · exact (HBel4.out.alloc (by omega) _).grown HG3.out (by simp; omega) (fun g hg => by have := (HO.out.lt g hg).1; omega)
                · rw [← HI.out]
                  cases Sp.wordsGo f 1 (p + n + k) (s.data.toList.drop (p + n + k)) with
                  | error _ => rfl
                  | ok _ => simp [Except.map]
              case measure => go_light; simp [intOf]; omega
          | false =>
              have hkd : ¬ kd = 7 := by simpa using h7
              rw [if_neg hkd, if_neg (by omega)] at hi
              have hmb : ((m : Int) == 2) = false := by rw [beq_eq_false_iff_ne]; omega
              have HI := Lib.hid hi
              clear hi hkd hdd
              go_wp2_with (go_at_call 47; refine (HBt.out _ hgr).mono ?_; rintro e w' ⟨rfl, rfl⟩)
              refine (HWd.out _ (hgr.alloc _)).mono ?_
              rintro e w1 ⟨rfl, hb1⟩
              have hB := (hb1.block wr.heap.size (by simp)).trans (heap_last _ _)
              have HK := Lib.hid (show Kp (fun k => k < wr.heap.size) wr w1 from ((Kp.refl _ _).alloc _).trans (Kp.of_below hb1 (fun k hk _ => hk)))
              have hF1 := HK.out.at HF.out hlF
              have c0 := cell_at (i := 0) hB
              have c1 := cell_at (i := 1) hB
              have c2 := cell_at (i := 2) hB
              have f0 := frozen_at (i := 0) hB
              have f1 := frozen_at (i := 1) hB
              have f2 := frozen_at (i := 2) hB
              have d0 := cell_at (i := 0) hF1
              have d1 := cell_at (i := 1) hF1
              have d2 := cell_at (i := 2) hF1
              have e0 := frozen_at (i := 0) hF1
              have e1 := frozen_at (i := 1) hF1
              have e2 := frozen_at (i := 2) hF1
              have hz := lt_at hB
              have HB1 := Lib.hid hb1
              have HFb := Lib.hid hF1
              have HB0 := Lib.hid hB
              clear hb1 hB hF1
              go_upto_region 13 with (fail)
              go_upto_region 15 with (fail)
              go_upto_region 16 with (fail)
              go_upto_region 17 with (fail)
              go_upto_region 19 with (fail)
              go_upto_region 21 with (fail)
              obtain ⟨W4, hW4⟩ : ∃ W4, W4 = (((w1.setCell ⟨wr.heap.size, 0, none⟩ (.int .i64 kd)).setCell ⟨wr.heap.size, 1, none⟩ (.string ⟨tx.toArray⟩)).setCell ⟨wr.heap.size, 2, none⟩ (.int .i64 0)).setCell ⟨wr.heap.size, 2, none⟩ (.int .i64 ((p : Int) + (n : Int))) := ⟨_, rfl⟩
              have B4 : W4.heap[wr.heap.size]? = some (.cells #[.int .i64 kd, .string ⟨tx.toArray⟩, .int .i64 ((p : Int) + (n : Int))] 53 (0, 0)) := by
                rw [hW4]; exact heap_setCell_at (heap_setCell_at (heap_setCell_at (heap_setCell_at HB0.out)))
              have K4 : Kp (fun k => k < wr.heap.size) wr W4 := by
                rw [hW4]; exact ((((HK.out.setCell (by simp) _).setCell (by simp) _).setCell (by simp) _).setCell (by simp) _)
              have Bel4 : Below w.heap.size w W4 := by
                rw [hW4]
                have hb : Below w.heap.size w w1 := (HBel.out.alloc hsz _).trans (HB1.out.mono (by simp; omega))
                exact (((hb.setCell (p := ⟨wr.heap.size, 0, none⟩) hsz _).setCell (p := ⟨wr.heap.size, 1, none⟩) hsz _).setCell (p := ⟨wr.heap.size, 2, none⟩) hsz _).setCell (p := ⟨wr.heap.size, 2, none⟩) hsz _
              rw [← hW4]
              clear hW4 c0 c1 c2 f0 f1 f2 d0 d1 d2 e0 e1 e2
              have c0 := cell_at (i := 0) B4; have c1 := cell_at (i := 1) B4; have c2 := cell_at (i := 2) B4
              have hs4 := K4.size; have hs4' := Bel4.size; have hz4 := lt_at B4
              have HK4 := Lib.hid K4; have HBel4 := Lib.hid Bel4
              clear B4 K4 Bel4
              go_wp2_with (at_builtin; refine wpList_append_own _ rfl _ _ 47 rfl (w.heap.size + 1) 53 i0 _ 3 32 Tryd.underlying47 hi0 hz0 hz1 hz2 rfl (by decide) _ _ _ rfl (ownsRow_old HO.out ?own) ⟨W4.heap.size, 0, none⟩ 1 1 [.int .i64 kd, .string ⟨tx.toArray⟩, .int .i64 ((p : Int) + (n : Int))] rfl rfl ?c1 ?c2 ?c3 ?c4 ?c5 ?_)
              case own => exact HK4.out.alloc _
              case c1 => exact new_cells_at _ _ _ _ (by simp)
              case c2 => simp [Value.oneCell']
              case c3 => unfold maxLen; omega
              case c4 => omega
              case c5 => simp; omega
              intro v3 w3 ho3 hg3 _
              have hF3 := (hg3.block w.heap.size (by simp; omega) (fun h => by have := (HO.out.lt _ h.symm).1; omega)).trans (Kp.at (HK4.out.alloc _) HF.out hlF)
              have HF3 := Lib.hid hF3; have HO3 := Lib.hid ho3; have HG3 := Lib.hid hg3; clear ho3 hg3 hF3
              go_wp2_with fail
              go_roundw
              case rel =>
                go_light
                refine ⟨p + n + k, m, hkl, by omega, by go_num, by go_num, f, ws ++ [⟨kd, tx, (p + n : Nat)⟩], ?_, HF3.out, ?_, by omega, ?_, by simp; omega⟩
                · have h := HO3.out
                  simpa [List.flatMap_append, wordC] using h
                · exact (HBel4.out.alloc (by omega) _).grown HG3.out (by simp; omega) (fun g hg => by have := (HO.out.lt g hg).1; omega)
                · rw [← HI.out]
                  cases Sp.wordsGo f m (p + n + k) (s.data.toList.drop (p + n + k)) with
                  | error _ => rfl
                  | ok _ => simp [Except.map]
              case measure => go_light; simp [intOf]; omega
end Go.Proofs.YticdgfljaphhgaaDoor
