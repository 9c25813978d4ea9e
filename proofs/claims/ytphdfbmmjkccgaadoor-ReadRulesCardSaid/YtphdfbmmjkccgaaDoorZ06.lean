/- The walk of lex.Words. The walks of the reference's between, Quoted, Quote, Take. The walk of the reference's Take. The walk of Join. Layer 8: the walks of what print asks of a part, an alternative, a rule, a source. Layer 8: the walk of print.May. The walks of the laws' own helpers: Text, wakes of layer 5. Rows of a call's own, one within another: what of them stays while others are written. Rows of a call's own: sources' declarations and rules; slices out of blocks. (Stood in Ei, Dl, Eu.) -/
import Derived.Test.YtphdfbmmjkccgaaDoorZ05
import Derived.Test.YtphdfbmmjkccgaaDoorZ02
import Derived.Test.YtphdfbmmjkccgaaDoorZ00
import Derived.Test.YtphdfbmmjkccgaaDoorZ03
import Derived.Lib.ItoaLen
import Derived.Deep.DeepMust
import Derived.Test.YtphdfbmmjkccgaaDoorZ01
import Derived.Deep.RegionWith
namespace Go.Proofs.YtphdfbmmjkccgaaDoor
open Go.RowKit

def wordC (x : Sp.Word) : List Value := [.int .i64 x.kind, .string ⟨x.text.toArray⟩, .int .i64 x.at_]
/-- What lex.Words leaves. -/
def WordsPost (r : List Sp.Word × Int × Nat) (w : World) (e : Ending) (w' : World) : Prop :=
  ∃ v, e = .returned (.tuple #[v, .agg #[.int .i64 r.2.1, .int .i64 (r.2.2 : Nat), .string ⟨#[]⟩]]) ∧ w'.ownsRow w.heap.size 77 3 v r.1.length (r.1.flatMap wordC) ∧ Below w.heap.size w w'
theorem info_word : (Tryd.prog.info? 77).map (fun i => (i.zero, i.size, i.bytes)) = some (some (.agg #[.int .i64 0, .string ⟨#[]⟩, .int .i64 0]), 3, 32) := by kernel_rfl
theorem ownsRow_old {w w' : World} {base : Nat} {e : TypeId} {size : Nat} {v : Value} {n : Nat} {xs : List Value} (h : w.ownsRow base e size v n xs) (k : Kp (fun k => k < w.heap.size) w w') : w'.ownsRow base e size v n xs :=
  ownsRow_kp h k (fun b hb => (h.lt b hb).2)
theorem new_cells_at (w : World) (cs : List Value) (t : TypeId) (n : Nat) (hn : n = w.heap.size) : ∀ j u, cs[j]? = some u → (w.alloc (.cells cs.toArray t)).cell? ((⟨n, 0, none⟩ : Addr).add j) = some u := by
  subst hn; exact new_cells w cs t
section
variable {P : Program} {fn : Func} {R : Ending → World → Prop} {a : Act} {W : World} {g : Nat} {t ty : TypeId} {cs : Array Value} {fr : Nat × Nat} {d : TypeDesc} {p u : Tmp}
theorem ret_tmp_cell (hf : fn.results = #[.tmp u, .cell p ty]) (hp : a.tmps.getD p undef = .pointer (some ⟨g, 0, none⟩)) (hg : W.heap[g]? = some (.cells cs t fr))
    (hd : (match d with | .struct _ | .array _ _ => true | _ => false) = true) (hu : P.underlying ty = some d) (hi : (P.info? ty).map (·.size) = some cs.size)
    (hdef : a.defers = []) (hR : R (.returned (.tuple #[a.tmps.getD u undef, .agg cs])) W) : bodyPost P fn R .ret a W := by
  refine bodyPost_ret ?_ hdef hR
  have hl := run_loadVar_row (P := P) W g t ty cs fr d hg hu (by cases d <;> simp_all) hi
  have hp' : a.tmps[p]?.getD undef = .pointer (some ⟨g, 0, none⟩) := by simpa using hp
  simp [results, hf, hp', asAddr, hl]
end

/-- What a round of Words finds. -/
def WordsI (s : ByteArray) (R : Except Nat (List Sp.Word)) (w : World) (p m : Nat) (v : Value) (wr : World) : Prop :=
  ∃ (f : Nat) (ws : List Sp.Word), wr.ownsRow (w.heap.size + 1) 77 3 v ws.length (ws.flatMap wordC) ∧ wr.heap[w.heap.size]? = some (.cells #[.int .i64 0, .int .i64 0, .string ⟨#[]⟩] 32 (0, 0)) ∧
    Below w.heap.size w wr ∧ s.size - p < f ∧ (Sp.wordsGo f m p (s.data.toList.drop p)).map (ws ++ ·) = R ∧ ws.length ≤ p

set_option maxRecDepth 100000 in
set_option maxHeartbeats 25600000 in
theorem lex_Words_go (s : ByteArray) (w : World) (hs : s.size ≤ 4000) (hg : Gl w) :
    Calls Tryd.prog 17 #[.string s] w (WordsPost (Sp.wordsRes (Sp.wordsGo (s.size + 1) 0 0 s.data.toList)) w) := by
  generalize hR : Sp.wordsGo (s.size + 1) 0 0 s.data.toList = R
  have HR := Lib.hid hR
  clear hR
  obtain ⟨i0, hi0, hz0, hz1, hz2⟩ := info_parts info_word
  go_enter Tryd.func17, Tryd.ntmps17
  go_wp2
  go_loopw [4, 5, 6] (fun v mv pv wr => ∃ p m : Nat, p ≤ s.size ∧ m ≤ 1 ∧ pv = .int .i64 p ∧ mv = .int .i64 m ∧ WordsI s R w p m v wr) (fun _ _ pv _ => s.size - (intOf pv).toNat)
  case atStart =>
    refine ⟨0, 0, Nat.zero_le _, by omega, rfl, rfl, s.size + 1, [], World.ownsRow_nil _ _ _ _, heap_last _ _, (Below.refl _ _).alloc (Nat.le_refl _) _, by omega, ?_, by simp⟩
    have := HR.out
    rw [List.drop_zero, this]
    cases R <;> simp [Except.map]
  case round =>
    obtain ⟨p, m, hp, hm, rfl, rfl, f, ws, hown, hF, hbel, hf, hi, hlen⟩ := hrel
    clear HR
    obtain ⟨f, rfl⟩ : ∃ g, f = g + 1 := ⟨f - 1, by omega⟩
    obtain ⟨av, cpv, rfl⟩ := ownsRow_some hown
    have hgr := hg.below hbel
    have hsz := hbel.size
    have hlF := lt_at hF
    have HO := Lib.hid hown; have HF := Lib.hid hF; have HBel := Lib.hid hbel
    clear hown hF hbel
    have HBt := Lib.hid (fun W hW => lex_between s p W (by omega) hp hW)
    have hskl := Sp.skip_len (s.data.toList.drop p)
    have hll : (s.data.toList.drop p).length = s.size - p := by simp
    rw [hll] at hskl
    unfold Sp.wordsGo at hi
    rw [hll] at hi
    generalize hsk : Sp.skip (s.data.toList.drop p) = sk at hi hskl HBt
    obtain ⟨n, b⟩ := sk
    simp only at hi hskl HBt
    rw [List.drop_drop] at hi
    clear hsk hll
    by_cases hend : b = true ∧ s.size - p = n
    · rw [if_pos hend] at hi
      obtain ⟨rfl, hpn⟩ := hend
      have hpe : p + n = s.size := by omega
      rw [hpe] at hi HBt
      have HI := Lib.hid hi
      clear hi hpn hpe
      go_wp2_with (first
        | (go_at_call 31; refine (HBt.out _ hgr).mono ?_; rintro e w' ⟨rfl, rfl⟩)
        | (at_builtin; refine wpList_append_own _ rfl _ _ 69 rfl (w.heap.size + 1) 77 i0 _ 3 32 Tryd.underlying69 hi0 hz0 hz1 hz2 rfl (by decide) _ _ _ rfl (HO.out.alloc _) ⟨wr.heap.size, 0, none⟩ 1 1 (wordC ⟨10, [], (s.size : Nat)⟩) rfl rfl (new_cells _ _ _) (by simp [wordC, Value.oneCell']) (by unfold maxLen; omega) (by omega) (by simp; omega) ?_; intro v3 w3 ho3 hg3 _; have hF3 := (hg3.block w.heap.size (by simp; omega) (fun h => by have := (HO.out.lt _ h.symm).1; omega)).trans (heap_alloc_of2 HF.out _); have c0 := cell_at (i := 0) hF3; have c1 := cell_at (i := 1) hF3; have c2 := cell_at (i := 2) hF3; have f0 := frozen_at (i := 0) hF3; have f1 := frozen_at (i := 1) hF3; have f2 := frozen_at (i := 2) hF3; have hz3 := lt_at hF3; have HO3 := Lib.hid ho3; have HG3 := Lib.hid hg3; clear ho3 hg3))
      refine ret_tmp_cell (g := w.heap.size) rfl rfl (by exact heap_setCell_at (heap_setCell_at (heap_setCell_at hF3))) rfl Tryd.underlying32 (by kernel_rfl) rfl ?_
      have hi := HI.out
      subst hi
      refine ⟨_, rfl, ?_, ?_⟩
      · have h : ∀ W', Kp (fun k => k ≠ w.heap.size) w3 W' → W'.ownsRow w.heap.size 77 3 v3 (ws.length + 1) (ws.flatMap wordC ++ wordC ⟨10, [], (s.size : Nat)⟩) := fun W' K =>
          ownsRow_mono (ownsRow_kp HO3.out K (fun g hg => by have := (HO3.out.lt g hg).1; omega)) (by omega)
        show World.ownsRow _ _ _ _ _ (ws ++ [_]).length ((ws ++ [_]).flatMap wordC)
        rw [List.length_append, List.flatMap_append, List.flatMap_singleton]
        exact h _ ((((Kp.refl _ _).setCell (by simp) _).setCell (by simp) _).setCell (by simp) _)
      · exact ((((HBel.out.alloc hsz _).grown HG3.out (by simp; omega) (fun g hg => by have := (HO.out.lt g hg).1; omega)).setCell (Nat.le_refl _) _).setCell (Nat.le_refl _) _).setCell (Nat.le_refl _) _
    · rw [if_neg hend] at hi
      have hne : ¬ wr.heap.size = w.heap.size := by omega
      have hne' : ¬ w.heap.size = wr.heap.size := by omega
      have d0 := cell_at (i := 0) HF.out; have d1 := cell_at (i := 1) HF.out; have d2 := cell_at (i := 2) HF.out
      have e0 := frozen_at (i := 0) HF.out; have e1 := frozen_at (i := 1) HF.out; have e2 := frozen_at (i := 2) HF.out
      cases b with
      | false =>
        rw [if_pos (.inl rfl)] at hi
        have HI := Lib.hid hi
        clear hi hend
        go_wp2_with (go_at_call 31; refine (HBt.out _ hgr).mono ?_; rintro e w' ⟨rfl, rfl⟩)
        refine ret_tmp_cell (g := w.heap.size) rfl rfl (by exact heap_alloc_of2 (heap_setCell_at (heap_setCell_at (heap_setCell_at HF.out))) _) rfl Tryd.underlying32 (by kernel_rfl) rfl ?_
        have hi := HI.out
        subst hi
        refine ⟨_, ?_, World.ownsRow_nil _ _ _ _, ?_⟩
        · simp [Sp.wordsRes, Except.map]
        · exact (((HBel.out.setCell (Nat.le_refl _) _).setCell (Nat.le_refl _) _).setCell (Nat.le_refl _) _).alloc (by simp; omega) _
      | true =>
        have hlt : p + n < s.size := by
          have : ¬ s.size - p = n := fun h => hend ⟨rfl, h⟩
          omega
        have hneq : ((p : Int) + (n : Int) == (s.size : Int)) = false := by rw [beq_eq_false_iff_ne]; omega
        have hwl := Sp.word_le (s.data.toList.drop (p + n))
        have hll : (s.data.toList.drop (p + n)).length = s.size - (p + n) := by simp
        rw [hll] at hwl
        obtain ⟨kd, tx, k, hNe⟩ : ∃ kd tx k, Sp.word (s.data.toList.drop (p + n)) = (kd, tx, k) := ⟨_, _, _, rfl⟩
        have HWd : Hid (∀ W, Gl W → Calls Tryd.prog 32 #[.string s, .int .i64 ((p : Int) + (n : Int))] W fun e w' => e = .returned (.tuple #[.agg #[.int .i64 kd, .string ⟨tx.toArray⟩, .int .i64 0], .int .i64 (k : Int)]) ∧ Below W.heap.size W w') := Lib.hid (fun W hW => by
          have h := lex_word s (p + n) W hlt (by omega) hW
          rw [hNe] at h
          exact h)
        rw [hNe] at hi hwl
        simp only at hi hwl
        clear hNe
        clear hend hll
        by_cases hk0 : k = 0
        · subst hk0
          rw [if_pos (.inr rfl)] at hi
          have HI := Lib.hid hi
          clear hi
          go_wp2_with (first
            | (go_at_call 31; refine (HBt.out _ hgr).mono ?_; rintro e w' ⟨rfl, rfl⟩)
            | (go_at_call 32; refine (HWd.out _ (hgr.alloc _)).mono ?_; rintro e w1 ⟨rfl, hb1⟩; have hB := (hb1.block wr.heap.size (by simp)).trans (heap_last _ _); have HK := Lib.hid (show Kp (fun k => k < wr.heap.size) wr w1 from ((Kp.refl _ _).alloc _).trans (Kp.of_below hb1 (fun k hk _ => hk))); have hF1 := HK.out.at HF.out hlF; have c0 := cell_at (i := 0) hB; have c1 := cell_at (i := 1) hB; have c2 := cell_at (i := 2) hB; have f0 := frozen_at (i := 0) hB; have f1 := frozen_at (i := 1) hB; have f2 := frozen_at (i := 2) hB; have d0 := cell_at (i := 0) hF1; have d1 := cell_at (i := 1) hF1; have d2 := cell_at (i := 2) hF1; have e0 := frozen_at (i := 0) hF1; have e1 := frozen_at (i := 1) hF1; have e2 := frozen_at (i := 2) hF1; have hz := lt_at hB; have HB1 := Lib.hid hb1; have HFb := Lib.hid hF1; clear hb1 hB hF1))
          refine ret_tmp_cell (g := w.heap.size) rfl rfl (by exact heap_setCell_at (heap_setCell_at (heap_setCell_at ((Below.heap_setCell _ _ _ _ (by simpa using hne')).trans ((Below.heap_setCell _ _ _ _ (by simpa using hne')).trans ((Below.heap_setCell _ _ _ _ (by simpa using hne')).trans HFb.out)))))) rfl Tryd.underlying32 (by kernel_rfl) rfl ?_
          have hi := HI.out
          subst hi
          refine ⟨_, ?_, World.ownsRow_nil _ _ _ _, ?_⟩
          · simp [Sp.wordsRes, Except.map]
          · exact (((((((HBel.out.alloc hsz _).trans (HB1.out.mono (by simp; omega))).setCell hsz _).setCell hsz _).setCell hsz _).setCell (Nat.le_refl _) _).setCell (Nat.le_refl _) _).setCell (Nat.le_refl _) _
        · have hkb : ((k : Int) == 0) = false := by rw [beq_eq_false_iff_ne]; omega
          rw [if_neg (by simp; omega)] at hi
          have hdd : (s.data.toList.drop (p + n)).drop k = s.data.toList.drop (p + n + k) := by rw [List.drop_drop]
          rw [hdd] at hi
          have hkl : p + n + k ≤ s.size := by omega
          cases h7 : (kd == 7) with
          | true =>
            obtain rfl : kd = 7 := by simpa using h7
            clear h7
            rw [if_pos rfl] at hi
            by_cases hm1 : m = 1
            · subst hm1
              rw [if_pos rfl] at hi
              have HI := Lib.hid hi
              have HX := Lib.hid (show (⟨(s.data.toList.drop (p + n + k)).toArray⟩ : ByteArray) = s.extract (p + n + k) s.size by rw [← ext_end, Lib.mk_data])
              clear hi hdd
              go_wp2_with (go_at_call 31; refine (HBt.out _ hgr).mono ?_; rintro e w' ⟨rfl, rfl⟩)
              refine (HWd.out _ (hgr.alloc _)).mono ?_
              rintro e w1 ⟨rfl, hb1⟩
              have hB := (hb1.block wr.heap.size (by simp)).trans (heap_last _ _)
              have HK := Lib.hid (show Kp (fun k => k < wr.heap.size) wr w1 from ((Kp.refl _ _).alloc _).trans (Kp.of_below hb1 (fun k hk _ => hk)))
              have hF1 := HK.out.at HF.out hlF
              have c0 := cell_at (i := 0) hB
              have c1 := cell_at (i := 1) hB
              have c2 := cell_at (i := 2) hB
              have f0 := frozen_at (i := 0) hB
              have f1 := frozen_at (i := 1) hB
              have f2 := frozen_at (i := 2) hB
              have d0 := cell_at (i := 0) hF1
              have d1 := cell_at (i := 1) hF1
              have d2 := cell_at (i := 2) hF1
              have e0 := frozen_at (i := 0) hF1
              have e1 := frozen_at (i := 1) hF1
              have e2 := frozen_at (i := 2) hF1
              have hz := lt_at hB
              have HB1 := Lib.hid hb1
              have HFb := Lib.hid hF1
              have HB0 := Lib.hid hB
              clear hb1 hB hF1
              go_upto_region 13 with (fail)
              go_upto_region 15 with (fail)
              go_upto_region 16 with (fail)
              go_upto_region 17 with (fail)
              go_upto_region 18 with (fail)
              go_upto_region 19 with (fail)
              go_upto_region 20 with (fail)
              go_wp2_with (at_builtin; refine wpList_append_own _ rfl _ _ 69 rfl (w.heap.size + 1) 77 i0 _ 3 32 Tryd.underlying69 hi0 hz0 hz1 hz2 rfl (by decide) _ _ _ rfl (ownsRow_old HO.out ?own) ⟨w1.heap.size, 0, none⟩ 1 1 [.int .i64 10, .string (s.extract (p + n + k) s.size), .int .i64 ((p : Int) + (n : Int) + (k : Int))] rfl rfl ?c1 ?c2 ?c3 ?c4 ?c5 ?_)
              case own => exact ((((HK.out.setCell (by simp) _).setCell (by simp) _).setCell (by simp) _).setCell (by simp) _).alloc _
              case c1 => exact new_cells_at _ _ _ _ (by simp)
              case c2 => simp [Value.oneCell']
              case c3 => unfold maxLen; omega
              case c4 => omega
              case c5 => have := HK.out.size; simp; omega
              intro v3 w3 ho3 hg3 _
              have hF3 := (hg3.block w.heap.size (by have := HK.out.size; simp; omega) (fun h => by have := (HO.out.lt _ h.symm).1; omega)).trans (Kp.at (((((HK.out.setCell (by simp) _).setCell (by simp) _).setCell (by simp) _).setCell (by simp) _).alloc _) HF.out hlF)
              have c0 := cell_at (i := 0) hF3; have c1 := cell_at (i := 1) hF3; have c2 := cell_at (i := 2) hF3; have f0 := frozen_at (i := 0) hF3; have f1 := frozen_at (i := 1) hF3; have f2 := frozen_at (i := 2) hF3; have hz3 := lt_at hF3
              have HF3 := Lib.hid hF3; have HO3 := Lib.hid ho3; have HG3 := Lib.hid hg3; clear ho3 hg3 hF3
              go_wp2_with fail
              refine ret_tmp_cell (g := w.heap.size) rfl rfl (by exact heap_setCell_at (heap_setCell_at (heap_setCell_at HF3.out))) rfl Tryd.underlying32 (by kernel_rfl) rfl ?_
              have hi := HI.out
              subst hi
              refine ⟨_, rfl, ?_, ?_⟩
              · have h : ∀ W', Kp (fun k => k ≠ w.heap.size) w3 W' → W'.ownsRow w.heap.size 77 3 v3 (ws.length + 1) (ws.flatMap wordC ++ wordC ⟨10, s.data.toList.drop (p + n + k), (p + n + k : Nat)⟩) := fun W' K => by
                  have h0 := HO3.out
                  rw [← HX.out] at h0
                  exact ownsRow_mono (ownsRow_kp h0 K (fun g hg => by have := (HO3.out.lt g hg).1; omega)) (by omega)
                show World.ownsRow _ _ _ _ _ (ws ++ [_]).length ((ws ++ [_]).flatMap wordC)
                rw [List.length_append, List.flatMap_append, List.flatMap_singleton]
                exact h _ ((((Kp.refl _ _).setCell (by simp) _).setCell (by simp) _).setCell (by simp) _)
              · have hb : Below w.heap.size w w1 := (HBel.out.alloc hsz _).trans (HB1.out.mono (by simp; omega))
                have hb2 := ((((((hb.setCell (p := ⟨wr.heap.size, 0, none⟩) hsz _).setCell (p := ⟨wr.heap.size, 1, none⟩) hsz _).setCell (p := ⟨wr.heap.size, 2, none⟩) hsz _).setCell (p := ⟨wr.heap.size, 2, none⟩) hsz _).alloc (by have := hb.size; simp; omega) _).grown HG3.out (by have := hb.size; simp; omega) (fun g hg => by have := (HO.out.lt g hg).1; omega))
                exact ((hb2.setCell (Nat.le_refl _) _).setCell (Nat.le_refl _) _).setCell (Nat.le_refl _) _
            · obtain rfl : m = 0 := by omega
              rw [if_neg (by decide)] at hi
              have HI := Lib.hid hi
              clear hi hdd hm1
              go_wp2_with (go_at_call 31; refine (HBt.out _ hgr).mono ?_; rintro e w' ⟨rfl, rfl⟩)
              refine (HWd.out _ (hgr.alloc _)).mono ?_
              rintro e w1 ⟨rfl, hb1⟩
              have hB := (hb1.block wr.heap.size (by simp)).trans (heap_last _ _)
              have HK := Lib.hid (show Kp (fun k => k < wr.heap.size) wr w1 from ((Kp.refl _ _).alloc _).trans (Kp.of_below hb1 (fun k hk _ => hk)))
              have hF1 := HK.out.at HF.out hlF
              have c0 := cell_at (i := 0) hB
              have c1 := cell_at (i := 1) hB
              have c2 := cell_at (i := 2) hB
              have f0 := frozen_at (i := 0) hB
              have f1 := frozen_at (i := 1) hB
              have f2 := frozen_at (i := 2) hB
              have d0 := cell_at (i := 0) hF1
              have d1 := cell_at (i := 1) hF1
              have d2 := cell_at (i := 2) hF1
              have e0 := frozen_at (i := 0) hF1
              have e1 := frozen_at (i := 1) hF1
              have e2 := frozen_at (i := 2) hF1
              have hz := lt_at hB
              have HB1 := Lib.hid hb1
              have HFb := Lib.hid hF1
              have HB0 := Lib.hid hB
              clear hb1 hB hF1
              go_upto_region 13 with (fail)
              go_upto_region 15 with (fail)
              go_upto_region 16 with (fail)
              go_upto_region 17 with (fail)
              go_upto_region 18 with (fail)
              go_upto_region 19 with (fail)
              go_upto_region 21 with (fail)
              obtain ⟨W4, hW4⟩ : ∃ W4, W4 = (((w1.setCell ⟨wr.heap.size, 0, none⟩ (.int .i64 7)).setCell ⟨wr.heap.size, 1, none⟩ (.string ⟨tx.toArray⟩)).setCell ⟨wr.heap.size, 2, none⟩ (.int .i64 0)).setCell ⟨wr.heap.size, 2, none⟩ (.int .i64 ((p : Int) + (n : Int))) := ⟨_, rfl⟩
              have B4 : W4.heap[wr.heap.size]? = some (.cells #[.int .i64 7, .string ⟨tx.toArray⟩, .int .i64 ((p : Int) + (n : Int))] 77 (0, 0)) := by
                rw [hW4]; exact heap_setCell_at (heap_setCell_at (heap_setCell_at (heap_setCell_at HB0.out)))
              have K4 : Kp (fun k => k < wr.heap.size) wr W4 := by
                rw [hW4]; exact ((((HK.out.setCell (by simp) _).setCell (by simp) _).setCell (by simp) _).setCell (by simp) _)
              have Bel4 : Below w.heap.size w W4 := by
                rw [hW4]
                have hb : Below w.heap.size w w1 := (HBel.out.alloc hsz _).trans (HB1.out.mono (by simp; omega))
                exact (((hb.setCell (p := ⟨wr.heap.size, 0, none⟩) hsz _).setCell (p := ⟨wr.heap.size, 1, none⟩) hsz _).setCell (p := ⟨wr.heap.size, 2, none⟩) hsz _).setCell (p := ⟨wr.heap.size, 2, none⟩) hsz _
              rw [← hW4]
              clear hW4 c0 c1 c2 f0 f1 f2 d0 d1 d2 e0 e1 e2
              have c0 := cell_at (i := 0) B4; have c1 := cell_at (i := 1) B4; have c2 := cell_at (i := 2) B4
              have hs4 := K4.size; have hs4' := Bel4.size; have hz4 := lt_at B4
              have HK4 := Lib.hid K4; have HBel4 := Lib.hid Bel4
              clear B4 K4 Bel4
              go_wp2_with (at_builtin; refine wpList_append_own _ rfl _ _ 69 rfl (w.heap.size + 1) 77 i0 _ 3 32 Tryd.underlying69 hi0 hz0 hz1 hz2 rfl (by decide) _ _ _ rfl (ownsRow_old HO.out ?own) ⟨W4.heap.size, 0, none⟩ 1 1 [.int .i64 7, .string ⟨tx.toArray⟩, .int .i64 ((p : Int) + (n : Int))] rfl rfl ?c1 ?c2 ?c3 ?c4 ?c5 ?_)
              case own => exact HK4.out.alloc _
              case c1 => exact new_cells_at _ _ _ _ (by simp)
              case c2 => simp [Value.oneCell']
              case c3 => unfold maxLen; omega
              case c4 => omega
              case c5 => simp; omega
              intro v3 w3 ho3 hg3 _
              have hF3 := (hg3.block w.heap.size (by simp; omega) (fun h => by have := (HO.out.lt _ h.symm).1; omega)).trans (Kp.at (HK4.out.alloc _) HF.out hlF)
              have HF3 := Lib.hid hF3; have HO3 := Lib.hid ho3; have HG3 := Lib.hid hg3; clear ho3 hg3 hF3
              go_wp2_with fail
              go_roundw
              case rel =>
                go_light
                refine ⟨p + n + k, 1, hkl, by omega, by go_num, by go_num, f, ws ++ [⟨7, tx, (p + n : Nat)⟩], ?_, HF3.out, ?_, by omega, ?_, by simp; omega⟩
                · have h := HO3.out
                  simpa [List.flatMap_append, wordC] using h
                · exact (HBel4.out.alloc (by omega) _).grown HG3.out (by simp; omega) (fun g hg => by have := (HO.out.lt g hg).1; omega)
                · rw [← HI.out]
                  cases Sp.wordsGo f 1 (p + n + k) (s.data.toList.drop (p + n + k)) with
                  | error _ => rfl
                  | ok _ => simp [Except.map]
              case measure => go_light; simp [intOf]; omega
          | false =>
              have hkd : ¬ kd = 7 := by simpa using h7
              rw [if_neg hkd, if_neg (by omega)] at hi
              have hmb : ((m : Int) == 2) = false := by rw [beq_eq_false_iff_ne]; omega
              have HI := Lib.hid hi
              clear hi hkd hdd
              go_wp2_with (go_at_call 31; refine (HBt.out _ hgr).mono ?_; rintro e w' ⟨rfl, rfl⟩)
              refine (HWd.out _ (hgr.alloc _)).mono ?_
              rintro e w1 ⟨rfl, hb1⟩
              have hB := (hb1.block wr.heap.size (by simp)).trans (heap_last _ _)
              have HK := Lib.hid (show Kp (fun k => k < wr.heap.size) wr w1 from ((Kp.refl _ _).alloc _).trans (Kp.of_below hb1 (fun k hk _ => hk)))
              have hF1 := HK.out.at HF.out hlF
              have c0 := cell_at (i := 0) hB
              have c1 := cell_at (i := 1) hB
              have c2 := cell_at (i := 2) hB
              have f0 := frozen_at (i := 0) hB
              have f1 := frozen_at (i := 1) hB
              have f2 := frozen_at (i := 2) hB
              have d0 := cell_at (i := 0) hF1
              have d1 := cell_at (i := 1) hF1
              have d2 := cell_at (i := 2) hF1
              have e0 := frozen_at (i := 0) hF1
              have e1 := frozen_at (i := 1) hF1
              have e2 := frozen_at (i := 2) hF1
              have hz := lt_at hB
              have HB1 := Lib.hid hb1
              have HFb := Lib.hid hF1
              have HB0 := Lib.hid hB
              clear hb1 hB hF1
              go_upto_region 13 with (fail)
              go_upto_region 15 with (fail)
              go_upto_region 16 with (fail)
              go_upto_region 17 with (fail)
              go_upto_region 19 with (fail)
              go_upto_region 21 with (fail)
              obtain ⟨W4, hW4⟩ : ∃ W4, W4 = (((w1.setCell ⟨wr.heap.size, 0, none⟩ (.int .i64 kd)).setCell ⟨wr.heap.size, 1, none⟩ (.string ⟨tx.toArray⟩)).setCell ⟨wr.heap.size, 2, none⟩ (.int .i64 0)).setCell ⟨wr.heap.size, 2, none⟩ (.int .i64 ((p : Int) + (n : Int))) := ⟨_, rfl⟩
              have B4 : W4.heap[wr.heap.size]? = some (.cells #[.int .i64 kd, .string ⟨tx.toArray⟩, .int .i64 ((p : Int) + (n : Int))] 77 (0, 0)) := by
                rw [hW4]; exact heap_setCell_at (heap_setCell_at (heap_setCell_at (heap_setCell_at HB0.out)))
              have K4 : Kp (fun k => k < wr.heap.size) wr W4 := by
                rw [hW4]; exact ((((HK.out.setCell (by simp) _).setCell (by simp) _).setCell (by simp) _).setCell (by simp) _)
              have Bel4 : Below w.heap.size w W4 := by
                rw [hW4]
                have hb : Below w.heap.size w w1 := (HBel.out.alloc hsz _).trans (HB1.out.mono (by simp; omega))
                exact (((hb.setCell (p := ⟨wr.heap.size, 0, none⟩) hsz _).setCell (p := ⟨wr.heap.size, 1, none⟩) hsz _).setCell (p := ⟨wr.heap.size, 2, none⟩) hsz _).setCell (p := ⟨wr.heap.size, 2, none⟩) hsz _
              rw [← hW4]
              clear hW4 c0 c1 c2 f0 f1 f2 d0 d1 d2 e0 e1 e2
              have c0 := cell_at (i := 0) B4; have c1 := cell_at (i := 1) B4; have c2 := cell_at (i := 2) B4
              have hs4 := K4.size; have hs4' := Bel4.size; have hz4 := lt_at B4
              have HK4 := Lib.hid K4; have HBel4 := Lib.hid Bel4
              clear B4 K4 Bel4
              go_wp2_with (at_builtin; refine wpList_append_own _ rfl _ _ 69 rfl (w.heap.size + 1) 77 i0 _ 3 32 Tryd.underlying69 hi0 hz0 hz1 hz2 rfl (by decide) _ _ _ rfl (ownsRow_old HO.out ?own) ⟨W4.heap.size, 0, none⟩ 1 1 [.int .i64 kd, .string ⟨tx.toArray⟩, .int .i64 ((p : Int) + (n : Int))] rfl rfl ?c1 ?c2 ?c3 ?c4 ?c5 ?_)
              case own => exact HK4.out.alloc _
              case c1 => exact new_cells_at _ _ _ _ (by simp)
              case c2 => simp [Value.oneCell']
              case c3 => unfold maxLen; omega
              case c4 => omega
              case c5 => simp; omega
              intro v3 w3 ho3 hg3 _
              have hF3 := (hg3.block w.heap.size (by simp; omega) (fun h => by have := (HO.out.lt _ h.symm).1; omega)).trans (Kp.at (HK4.out.alloc _) HF.out hlF)
              have HF3 := Lib.hid hF3; have HO3 := Lib.hid ho3; have HG3 := Lib.hid hg3; clear ho3 hg3 hF3
              go_wp2_with fail
              go_roundw
              case rel =>
                go_light
                refine ⟨p + n + k, m, hkl, by omega, by go_num, by go_num, f, ws ++ [⟨kd, tx, (p + n : Nat)⟩], ?_, HF3.out, ?_, by omega, ?_, by simp; omega⟩
                · have h := HO3.out
                  simpa [List.flatMap_append, wordC] using h
                · exact (HBel4.out.alloc (by omega) _).grown HG3.out (by simp; omega) (fun g hg => by have := (HO.out.lt g hg).1; omega)
                · rw [← HI.out]
                  cases Sp.wordsGo f m (p + n + k) (s.data.toList.drop (p + n + k)) with
                  | error _ => rfl
                  | ok _ => simp [Except.map]
              case measure => go_light; simp [intOf]; omega
end Go.Proofs.YtphdfbmmjkccgaaDoor

namespace Go.Proofs.YtphdfbmmjkccgaaDoor
open Go.RowKit

/-- No byte in quotes below a number stands there. -/
def noneBelow (r : List UInt8) (k : Nat) : Prop := ∀ c : UInt8, c.toNat < k → ¬ (Sp.quoteText c ≠ [] ∧ Lib.hasPrefix r (Sp.quoteText c) = true)
theorem noneBelow.start (r : List UInt8) : noneBelow r 9 := by
  intro c hc h
  have := Sp.quoteText_range c h.1
  omega
theorem noneBelow.step {r : List UInt8} {k : Nat} (h : noneBelow r k) (hk : k < 256) (h' : ¬ (Sp.quoteText (UInt8.ofNat k) ≠ [] ∧ Lib.hasPrefix r (Sp.quoteText (UInt8.ofNat k)) = true)) : noneBelow r (k + 1) := by
  intro c hc
  rcases Nat.lt_or_ge c.toNat k with h1 | h1
  · exact h c h1
  · have : c = UInt8.ofNat k := by
      apply UInt8.toNat_inj.1
      rw [UInt8.toNat_ofNat_of_lt' (by have : UInt8.size = 256 := rfl; omega)]
      omega
    rw [this]; exact h'
theorem noneBelow.out {r : List UInt8} {k : Nat} (h : noneBelow r k) (hk : 127 ≤ k) : Sp.charTake r = none := by
  cases hc : Sp.charTake r with
  | none => rfl
  | some p =>
    obtain ⟨c, n⟩ := p
    obtain ⟨h1, h2, _⟩ := Sp.charTake_some r c n hc
    have := Sp.quoteText_range c h1
    exact absurd ⟨h1, h2⟩ (h c (by omega))
end Go.Proofs.YtphdfbmmjkccgaaDoor

namespace Go.Proofs.YtphdfbmmjkccgaaDoor
open Go.RowKit

set_option maxRecDepth 100000 in
set_option maxHeartbeats 1600000 in
theorem lex_Words (s : ByteArray) (w : World) (hs : s.size < 4294967281) (hg : Gl w) :
    Calls Tryd.prog 17 #[.string s] w (WordsPost (Sp.words s.data.toList) w) := by
  have hll : s.data.toList.length = s.size := by simp
  unfold Sp.words
  rw [hll]
  by_cases h : 4000 < s.size
  · rw [if_pos h]
    have hI : (4000 : Int) < (s.size : Int) := by omega
    clear hll
    go_enter Tryd.func17, Tryd.ntmps17
    go_wp2
    refine ret_tmp_cell (g := w.heap.size) rfl rfl (heap_last _ _) rfl Tryd.underlying32 (by kernel_rfl) rfl ?_
    exact ⟨_, rfl, World.ownsRow_nil _ _ _ _, (Below.refl _ _).alloc (Nat.le_refl _) _⟩
  · rw [if_neg h]
    exact lex_Words_go s w (by omega) hg

end Go.Proofs.YtphdfbmmjkccgaaDoor

namespace Go.Proofs.YtphdfbmmjkccgaaDoor
open Go.RowKit

theorem SlAt.form {w : World} {v : Value} {size : Nat} {xs : List (List Value)} (h : SlAt w v size xs) : ∃ a cap, v = .slice a xs.length cap := by
  rcases h with ⟨rfl, a, cap, rfl⟩ | ⟨b, off, cap, rfl, _, _⟩
  · exact ⟨a, cap, rfl⟩
  · exact ⟨_, _, rfl⟩
theorem SlAt.some {w : World} {v : Value} {size : Nat} {xs : List (List Value)} (h : SlAt w v size xs) (hne : xs ≠ []) : ∃ b off cap, v = .slice (some ⟨b, off, none⟩) xs.length cap ∧ b < w.heap.size ∧ ∀ i r, xs[i]? = some r → ∀ j u, r[j]? = some u → w.cell? ⟨b, off + i * size + j, none⟩ = some u := by
  rcases h with ⟨h, _⟩ | h
  · exact absurd h hne
  · exact h
end Go.Proofs.YtphdfbmmjkccgaaDoor

namespace Go.Proofs.YtphdfbmmjkccgaaDoor
open Go.RowKit

def partC (p : Sp.Part) : List Value := symC p.sym ++ [.string ⟨p.code.toArray⟩, .int .i64 p.at_]
def partV (p : Sp.Part) : Value := .agg (partC p).toArray
/-! ### Alternatives -/
def altC (v : Value) (a : Sp.Alt) : List Value := v :: (symC a.prec ++ [.int .i64 a.at_])
/-- A slice of alternatives, read through. -/
def AltsAt (w : World) (v : Value) (al : List Sp.Alt) : Prop := ∃ f : Nat → Value, SlAt w v 6 (al.mapIdx fun i a => altC (f i) a) ∧ ∀ (i : Nat) (a : Sp.Alt), al[i]? = some a → SlAt w (f i) 6 (a.parts.map partC)
theorem AltsAt.below {w w' : World} {v : Value} {al : List Sp.Alt} (h : AltsAt w v al) (hb : Below w.heap.size w w') : AltsAt w' v al := by
  obtain ⟨f, h1, h2⟩ := h
  exact ⟨f, h1.below hb, fun i a ha => (h2 i a ha).below hb⟩
/-! ### Rules -/
def ruleC (v : Value) (r : Sp.Rule) : List Value := [.string ⟨r.left.toArray⟩, v, .int .i64 r.at_]
theorem AltsAt.form {w : World} {v : Value} {al : List Sp.Alt} (h : AltsAt w v al) : ∃ a cap, v = .slice a al.length cap := by
  obtain ⟨f, h1, _⟩ := h
  obtain ⟨a, cap, hv⟩ := h1.form
  rw [List.length_mapIdx] at hv
  exact ⟨a, cap, hv⟩

/-- A slice of rules, read through. -/
def RulesAt (w : World) (v : Value) (rs : List Sp.Rule) : Prop := ∃ f : Nat → Value, SlAt w v 3 (rs.mapIdx fun i r => ruleC (f i) r) ∧ ∀ (i : Nat) (r : Sp.Rule), rs[i]? = some r → AltsAt w (f i) r.alts
theorem RulesAt.below {w w' : World} {v : Value} {rs : List Sp.Rule} (h : RulesAt w v rs) (hb : Below w.heap.size w w') : RulesAt w' v rs := by
  obtain ⟨f, h1, h2⟩ := h
  exact ⟨f, h1.below hb, fun i a ha => (h2 i a ha).below hb⟩
theorem RulesAt.form {w : World} {v : Value} {rs : List Sp.Rule} (h : RulesAt w v rs) : ∃ a cap, v = .slice a rs.length cap := by
  obtain ⟨f, h1, _⟩ := h
  obtain ⟨a, cap, hv⟩ := h1.form
  rw [List.length_mapIdx] at hv
  exact ⟨a, cap, hv⟩
end Go.Proofs.YtphdfbmmjkccgaaDoor

namespace Go.Proofs.YtphdfbmmjkccgaaDoor
open Go.RowKit

def declC (v : Value) (d : Sp.Decl) : List Value := [.int .i64 d.kind, .string ⟨d.tag.toArray⟩, v, .int .i64 d.at_]
/-- A slice of declarations, read through. -/
def DeclsAt (w : World) (v : Value) (ds : List Sp.Decl) : Prop := ∃ f : Nat → Value, SlAt w v 4 (ds.mapIdx fun i d => declC (f i) d) ∧ ∀ (i : Nat) (d : Sp.Decl), ds[i]? = some d → SlAt w (f i) 4 (d.syms.map symC)
theorem DeclsAt.below {w w' : World} {v : Value} {ds : List Sp.Decl} (h : DeclsAt w v ds) (hb : Below w.heap.size w w') : DeclsAt w' v ds := by
  obtain ⟨f, h1, h2⟩ := h
  exact ⟨f, h1.below hb, fun i a ha => (h2 i a ha).below hb⟩
theorem DeclsAt.form {w : World} {v : Value} {ds : List Sp.Decl} (h : DeclsAt w v ds) : ∃ a cap, v = .slice a ds.length cap := by
  obtain ⟨f, h1, _⟩ := h
  obtain ⟨a, cap, hv⟩ := h1.form
  rw [List.length_mapIdx] at hv
  exact ⟨a, cap, hv⟩
/-! ### Sources -/
def srcC (vd vr : Value) (x : Sp.Source) : List Value := [.string ⟨x.pro.toArray⟩, vd, vr, .string ⟨x.tail.toArray⟩]
end Go.Proofs.YtphdfbmmjkccgaaDoor

namespace Go.Proofs.YtphdfbmmjkccgaaDoor
open Go.RowKit

theorem flatten_at {α : Type} (size : Nat) : ∀ (xs : List (List α)), (∀ x ∈ xs, x.length = size) → ∀ i r, xs[i]? = some r → ∀ j u, r[j]? = some u → xs.flatten[i * size + j]? = some u
  | [], _, i, r, h, _, _, _ => by simp at h
  | x :: xs, hx, 0, r, h, j, u, hu => by
    simp at h; subst h
    rw [List.flatten_cons, Nat.zero_mul, Nat.zero_add, List.getElem?_append_left (List.getElem?_eq_some_iff.1 hu).1]
    exact hu
  | x :: xs, hx, i + 1, r, h, j, u, hu => by
    have hl := hx x (by simp)
    rw [List.flatten_cons, List.getElem?_append_right (by rw [hl, Nat.succ_mul]; omega), hl, show (i + 1) * size + j - size = i * size + j by rw [Nat.succ_mul]; omega]
    exact flatten_at size xs (fun y hy => hx y (by simp [hy])) i r (by simpa using h) j u hu
theorem slAt_of_owns {w : World} {base : Nat} {e : TypeId} {v : Value} {size n : Nat} (xs : List (List Value)) (hx : ∀ x ∈ xs, x.length = size) (hn : n = xs.length) (h : w.ownsRow base e size v n xs.flatten) : SlAt w v size xs := by
  subst hn
  rcases h.2 with ⟨rfl, h0⟩ | ⟨g, cap, cur, rfl, hb, hg, _⟩
  · left
    obtain rfl := List.eq_nil_of_length_eq_zero h0
    exact ⟨rfl, none, 0, rfl⟩
  · right
    refine ⟨g, 0, cap, rfl, lt_at hg, fun i r hr j u hu => ?_⟩
    have := h.cells (g := g) rfl _ u (flatten_at size xs hx i r hr j u hu)
    rw [show (⟨g, 0 + i * size + j, none⟩ : Addr) = (⟨g, 0, none⟩ : Addr).add (i * size + j) by unfold Addr.add; split <;> simp_all]
    exact this
end Go.Proofs.YtphdfbmmjkccgaaDoor

namespace Go.Proofs.YtphdfbmmjkccgaaDoor
open Go.RowKit

theorem SlAt.at {w : World} {a : Option Addr} {n cap size : Nat} {rows : List (List Value)} (h : SlAt w (.slice a n cap) size rows) {k : Nat} {row : List Value} (hr : rows[k]? = Option.some row) :
    ∃ b off, a = Option.some ⟨b, off, none⟩ ∧ b < w.heap.size ∧ ∀ w', Below w.heap.size w w' → ∀ j u, row[j]? = Option.some u → w'.cell? ⟨b, off + k * size + j, none⟩ = Option.some u := by
  rcases h with ⟨hx, _⟩ | ⟨b, off, cap', hv, hlt, hc⟩
  · subst hx; simp at hr
  · simp only [Value.slice.injEq] at hv
    exact ⟨b, off, hv.1, hlt, fun w' hb j u hu => (hb.cell (p := ⟨b, _, none⟩) hlt).trans (hc k row hr j u hu)⟩
theorem below_undrew {B : Nat} {w w' : World} (h : Below B w.drew w') : Below B w w' := ⟨h.os, h.tape, h.output, h.size, h.block⟩

/-- All blocks of the old world whose type T names read as before. -/
def KpT (T : TypeId → Prop) (w w' : World) : Prop := ∀ (b : Nat) (cs : Array Value) (t : TypeId) (fr : Nat × Nat), w.heap[b]? = some (.cells cs t fr) → T t → w'.heap[b]? = some (.cells cs t fr)
theorem KpT.trans {T : TypeId → Prop} {a b c : World} (h : KpT T a b) (k : KpT T b c) : KpT T a c := fun i cs t fr hb ht => k i cs t fr (h i cs t fr hb ht) ht
theorem KpT.mono {S T : TypeId → Prop} {a b : World} (h : KpT S a b) (hs : ∀ t, T t → S t) : KpT T a b := fun i cs t fr hb ht => h i cs t fr hb (hs t ht)
theorem KpT.below {T : TypeId → Prop} {w w' : World} (h : Below w.heap.size w w') : KpT T w w' := fun b _ _ _ hb _ => (h.block b (lt_at hb)).trans hb
theorem KpT.alloc {T : TypeId → Prop} {a w : World} (h : KpT T a w) (o : Obj) : KpT T a (w.alloc o) := h.trans (KpT.below ((Below.refl _ w).alloc (Nat.le_refl _) o))
theorem KpT.setCell {T : TypeId → Prop} {a w : World} (h : KpT T a w) {b i : Nat} {cs : Array Value} {t : TypeId} {fr : Nat × Nat} (hb : w.heap[b]? = some (.cells cs t fr)) (ht : ¬ T t) (u : Value) : KpT T a (w.setCell ⟨b, i, none⟩ u) := by
  refine h.trans fun c cs' t' fr' hc ht' => ?_
  rw [Below.heap_setCell _ _ _ _ (fun e => ?_)]
  · exact hc
  · have e' : c = b := by simpa using e
    subst e'
    rw [hb] at hc
    simp only [Option.some.injEq, Obj.cells.injEq] at hc
    exact ht (hc.2.1 ▸ ht')
theorem KpT.grown {w w' : World} {base : Nat} {e : TypeId} {size : Nat} {v : Value} {n : Nat} {xs : List Value} (h : w.ownsRow base e size v n xs) (hg : w.grownBy w' v.ownBlock) : KpT (· ≠ e) w w' := by
  intro b cs t fr hb ht
  rw [hg.block b (lt_at hb) (fun hk => ?_)]
  · exact hb
  · exact ownsRow_ne h hb ht b hk.symm rfl
theorem ownsRow_kpT {T : TypeId → Prop} {w w' : World} {base : Nat} {e : TypeId} {size : Nat} {v : Value} {n : Nat} {xs : List Value} (h : w.ownsRow base e size v n xs) (k : KpT T w w') (ht : T e) : w'.ownsRow base e size v n xs := by
  refine ⟨h.1, ?_⟩
  rcases h.2 with hn | ⟨g, cap, cur, rfl, hb, hgg, rest⟩
  · exact .inl hn
  · exact .inr ⟨g, cap, cur, rfl, hb, k g _ _ _ hgg ht, rest⟩

/-- A row of the call's own, of elements that each name a value whose reading child tells. -/
def OwnR {α : Type} (row : Value → α → List Value) (e : TypeId) (size : Nat) (child : World → Value → α → Prop) (B : Nat) (w : World) (v : Value) (l : List α) : Prop :=
  ∃ f : Nat → Value, w.ownsRow B e size v l.length (l.mapIdx fun i a => row (f i) a).flatten ∧ ∀ (i : Nat) (a : α), l[i]? = some a → child w (f i) a
section
variable {α : Type} {row : Value → α → List Value} {e : TypeId} {size : Nat} {child : World → Value → α → Prop} {B : Nat} {w w' : World} {v : Value} {l : List α}
theorem OwnR.nil (row : Value → α → List Value) (e : TypeId) (size : Nat) (child : World → Value → α → Prop) (B : Nat) (w : World) : OwnR row e size child B w (.slice none 0 0) [] :=
  ⟨fun _ => .bool false, World.ownsRow_nil _ _ _ _, by simp⟩
theorem OwnR.kp {T : TypeId → Prop} (h : OwnR row e size child B w v l) (k : KpT T w w') (ht : T e) (hc : ∀ u a, child w u a → child w' u a) : OwnR row e size child B w' v l := by
  obtain ⟨f, h1, h2⟩ := h
  exact ⟨f, ownsRow_kpT h1 k ht, fun i a ha => hc _ _ (h2 i a ha)⟩
theorem mapIdx_snoc {β : Type} (g : Nat → α → β) (l : List α) (a : α) : (l ++ [a]).mapIdx g = l.mapIdx g ++ [g l.length a] := by
  rw [List.mapIdx_append]; simp
theorem OwnR.snoc {u v' : Value} {a : α} {f : Nat → Value} (h2 : ∀ (i : Nat) (a : α), l[i]? = some a → child w (f i) a)
    (hn : w'.ownsRow B e size v' (l.length + 1) ((l.mapIdx fun i a => row (f i) a).flatten ++ row u a)) (hc : ∀ u a, child w u a → child w' u a) (hu : child w' u a) : OwnR row e size child B w' v' (l ++ [a]) := by
  refine ⟨fun i => if i < l.length then f i else u, ?_, fun i b hb => ?_⟩
  · have e1 : ((l ++ [a]).mapIdx fun i a => row (if i < l.length then f i else u) a).flatten = (l.mapIdx fun i a => row (f i) a).flatten ++ row u a := by
      rw [mapIdx_snoc, List.flatten_append]
      have e2 : (l.mapIdx fun i a => row (if i < l.length then f i else u) a) = l.mapIdx fun i a => row (f i) a := by
        apply List.ext_getElem?
        intro i
        rw [List.getElem?_mapIdx, List.getElem?_mapIdx]
        cases hi : l[i]? with
        | none => rfl
        | some b =>
          have := (List.getElem?_eq_some_iff.1 hi).1
          simp [this]
      rw [e2]
      simp
    rw [e1, List.length_append]
    exact hn
  · rw [List.getElem?_append] at hb
    by_cases hi : i < l.length
    · rw [if_pos hi] at hb
      simp only [if_pos hi]
      exact hc _ _ (h2 i b hb)
    · rw [if_neg hi] at hb
      simp only [if_neg hi]
      have : i - l.length = 0 := by
        have := (List.getElem?_eq_some_iff.1 hb).1
        simp at this; omega
      rw [this] at hb
      cases hb
      exact hu
theorem OwnR.slAt (h : OwnR row e size child B w v l) (hr : ∀ u a, (row u a).length = size) : ∃ f : Nat → Value, SlAt w v size (l.mapIdx fun i a => row (f i) a) ∧ ∀ (i : Nat) (a : α), l[i]? = some a → child w (f i) a := by
  obtain ⟨f, h1, h2⟩ := h
  refine ⟨f, slAt_of_owns _ (fun r hrr => ?_) (by rw [List.length_mapIdx]) h1, h2⟩
  obtain ⟨i, hi⟩ := List.mem_iff_getElem?.1 hrr
  rw [List.getElem?_mapIdx] at hi
  obtain ⟨b, _, rfl⟩ := Option.map_eq_some_iff.1 hi
  exact hr _ _
end
end Go.Proofs.YtphdfbmmjkccgaaDoor

namespace Go.Proofs.YtphdfbmmjkccgaaDoor
open Go.RowKit

/-! ### Rows of the call's own -/
theorem info_symE : (Tryd.prog.info? 40).map (fun i => (i.zero, i.size, i.bytes)) = some (some (.agg #[.string ⟨#[]⟩, .bool false, .int .i64 0, .int .i64 0]), 4, 40) := by kernel_rfl
theorem info_declE : (Tryd.prog.info? 51).map (fun i => (i.zero, i.size, i.bytes)) = some (some (.agg #[.int .i64 0, .string ⟨#[]⟩, .slice none 0 0, .int .i64 0]), 4, 56) := by kernel_rfl
theorem info_partE : (Tryd.prog.info? 44).map (fun i => (i.zero, i.size, i.bytes)) = some (some (.agg #[.string ⟨#[]⟩, .bool false, .int .i64 0, .int .i64 0, .string ⟨#[]⟩, .int .i64 0]), 6, 64) := by kernel_rfl
theorem info_altE : (Tryd.prog.info? 42).map (fun i => (i.zero, i.size, i.bytes)) = some (some (.agg #[.slice none 0 0, .string ⟨#[]⟩, .bool false, .int .i64 0, .int .i64 0, .int .i64 0]), 6, 72) := by kernel_rfl
theorem info_ruleE : (Tryd.prog.info? 37).map (fun i => (i.zero, i.size, i.bytes)) = some (some (.agg #[.string ⟨#[]⟩, .slice none 0 0, .int .i64 0]), 3, 48) := by kernel_rfl
def symsOwn (w : World) (v : Value) (d : Sp.Decl) : Prop := ∃ base, w.ownsRow base 40 4 v d.syms.length (d.syms.map symC).flatten
def partsOwn (w : World) (v : Value) (a : Sp.Alt) : Prop := ∃ base, w.ownsRow base 44 6 v a.parts.length (a.parts.map partC).flatten
abbrev DeclsOwn := OwnR declC 51 4 symsOwn
abbrev AltsOwn := OwnR altC 42 6 partsOwn
def altsOwn (w : World) (v : Value) (r : Sp.Rule) : Prop := ∃ base, AltsOwn base w v r.alts
abbrev RulesOwn := OwnR ruleC 37 3 altsOwn
theorem alts_at {B : Nat} {w : World} {v : Value} {l : List Sp.Alt} (h : AltsOwn B w v l) : AltsAt w v l := by
  obtain ⟨f, h1, h2⟩ := h.slAt (fun _ _ => rfl)
  refine ⟨f, h1, fun i d hd => ?_⟩
  obtain ⟨base, ho⟩ := h2 i d hd
  exact slAt_of_owns _ (fun r hr => by obtain ⟨s, _, rfl⟩ := List.mem_map.1 hr; rfl) (by rw [List.length_map]) ho
theorem rules_at {B : Nat} {w : World} {v : Value} {l : List Sp.Rule} (h : RulesOwn B w v l) : RulesAt w v l := by
  obtain ⟨f, h1, h2⟩ := h.slAt (fun _ _ => rfl)
  refine ⟨f, h1, fun i d hd => ?_⟩
  obtain ⟨base, ho⟩ := h2 i d hd
  exact alts_at ho
theorem symsOwn_kp {T : TypeId → Prop} {w w' : World} (k : KpT T w w') (ht : T 40) (u : Value) (d : Sp.Decl) (h : symsOwn w u d) : symsOwn w' u d := by
  obtain ⟨b, h⟩ := h
  exact ⟨b, ownsRow_kpT h k ht⟩
theorem partsOwn_kp {T : TypeId → Prop} {w w' : World} (k : KpT T w w') (ht : T 44) (u : Value) (d : Sp.Alt) (h : partsOwn w u d) : partsOwn w' u d := by
  obtain ⟨b, h⟩ := h
  exact ⟨b, ownsRow_kpT h k ht⟩
theorem altsOwn_kp {T : TypeId → Prop} {w w' : World} (k : KpT T w w') (ht : T 44) (ht2 : T 42) (u : Value) (d : Sp.Rule) (h : altsOwn w u d) : altsOwn w' u d := by
  obtain ⟨b, h⟩ := h
  exact ⟨b, h.kp k ht2 (partsOwn_kp k ht)⟩
theorem decls_kp {T : TypeId → Prop} {B : Nat} {w w' : World} {v : Value} {l : List Sp.Decl} (h : DeclsOwn B w v l) (k : KpT T w w') (ht : T 40) (ht2 : T 51) : DeclsOwn B w' v l := h.kp k ht2 (symsOwn_kp k ht)
theorem alts_kp {T : TypeId → Prop} {B : Nat} {w w' : World} {v : Value} {l : List Sp.Alt} (h : AltsOwn B w v l) (k : KpT T w w') (ht : T 44) (ht2 : T 42) : AltsOwn B w' v l := h.kp k ht2 (partsOwn_kp k ht)
theorem rules_kp {T : TypeId → Prop} {B : Nat} {w w' : World} {v : Value} {l : List Sp.Rule} (h : RulesOwn B w v l) (k : KpT T w w') (ht : T 44) (ht2 : T 42) (ht3 : T 37) : RulesOwn B w' v l := h.kp k ht3 (altsOwn_kp k ht ht2)
def IntsAt (w : World) (v : Value) (xs : List Int) : Prop := SlAt w v 1 (xs.map fun x => [Value.int .i64 x])
end Go.Proofs.YtphdfbmmjkccgaaDoor
