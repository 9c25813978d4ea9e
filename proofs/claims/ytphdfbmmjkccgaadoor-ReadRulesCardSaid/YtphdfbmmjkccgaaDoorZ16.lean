/- read.Read. Plain laws: what layer 7's wakes read. No program in sight. -/
import Derived.Test.YtphdfbmmjkccgaaDoorZ14
import Derived.Test.YtphdfbmmjkccgaaDoorZ15
import Derived.Test.YtphdfbmmjkccgaaDoorZ08
import Derived.KernelRfl
import Derived.Test.YtphdfbmmjkccgaaDoorZ03
namespace Go.Proofs.YtphdfbmmjkccgaaDoor
open Go.RowKit Go.Maps

namespace Sp
/-- What the rules come to, behind a prologue and declarations. -/
def readFin (pro : List UInt8) (ds : List Decl) : Rd (List Rule) → Source × Int × Int
  | .bad r => (noSource, 2, headAt r)
  | .ok rs r => (⟨pro, ds, rs, (r.head?.map (·.text)).getD []⟩, 0, 0)
theorem readWs_eq (ws : List Word) : readWs ws = match readDecls (ws.length + 1) ws none [] with
    | .bad r => (noSource, 2, headAt r)
    | .ok (p, ds) r => readFin (p.getD []) ds (readRulesC (ws.length + 1) r []) := by
  unfold readWs
  cases readDecls (ws.length + 1) ws none [] with
  | bad r => rfl
  | ok q r =>
    obtain ⟨p, ds⟩ := q
    simp only
    rw [readRulesC_eq]
    cases readRules (ws.length + 1) r [] <;> rfl
theorem GoodWs.good {n : Nat} {l : List Word} (h : GoodWs n l) : ∀ w ∈ l, GoodW w := by
  obtain ⟨a, e, rfl, he, hg, _⟩ := h
  intro w hw
  rcases List.mem_append.1 hw with hw | hw
  · exact (hg w hw).2
  · rw [List.mem_singleton] at hw
    subst hw
    unfold GoodW
    rw [he]
    exact ⟨fun h => absurd h (by decide), fun h => absurd h (by decide), fun h => absurd h (by decide), fun h => absurd h (by decide), fun h => absurd h (by decide)⟩
end Sp
/-- What Read leaves. -/
def RdReadPost (R : Sp.Source × Int × Int) (W : World) (e : Ending) (w' : World) : Prop :=
  ∃ dv rv, e = .returned (.tuple #[.agg (srcC dv rv R.1).toArray, .agg #[.int .i64 R.2.1, .int .i64 R.2.2, .string ⟨#[]⟩]]) ∧ (∃ b, DeclsOwn b w' dv R.1.decls) ∧ (∃ b, RulesOwn b w' rv R.1.rules) ∧ Below W.heap.size W w'
theorem sf_stored {w : World} {b c : Nat} {a0 a1 a2 a3 d0 d1 d2 : Value} {t u : TypeId} (hb : w.heap[b]? = some (.cells #[a0, a1, a2, a3] t (0, 0))) (hc : w.heap[c]? = some (.cells #[d0, d1, d2] u (0, 0))) (hne : b ≠ c) (v0 v1 v2 v3 u0 u1 u2 : Value) {w' : World}
    (hw : w' = ((((((w.setCell ⟨b, 0, none⟩ v0).setCell ⟨b, 1, none⟩ v1).setCell ⟨b, 2, none⟩ v2).setCell ⟨b, 3, none⟩ v3).setCell ⟨c, 0, none⟩ u0).setCell ⟨c, 1, none⟩ u1).setCell ⟨c, 2, none⟩ u2) :
    w'.heap[b]? = some (.cells #[v0, v1, v2, v3] t (0, 0)) ∧ w'.heap[c]? = some (.cells #[u0, u1, u2] u (0, 0)) ∧ Kp (fun k => k ≠ b ∧ k ≠ c) w w' := by
  have k1 : ((((w.setCell ⟨b, 0, none⟩ v0).setCell ⟨b, 1, none⟩ v1).setCell ⟨b, 2, none⟩ v2).setCell ⟨b, 3, none⟩ v3).heap[b]? = some (.cells #[v0, v1, v2, v3] t (0, 0)) := by
    rw [heap_setCell_at (heap_setCell_at (heap_setCell_at (heap_setCell_at hb)))]; rfl
  have ne : ∀ (w : World) (i : Nat) (v : Value), (w.setCell ⟨b, i, none⟩ v).heap[c]? = w.heap[c]? := fun w i v => Below.heap_setCell w ⟨b, i, none⟩ v c (fun e => hne e.symm)
  have k2 : ((((w.setCell ⟨b, 0, none⟩ v0).setCell ⟨b, 1, none⟩ v1).setCell ⟨b, 2, none⟩ v2).setCell ⟨b, 3, none⟩ v3).heap[c]? = some (.cells #[d0, d1, d2] u (0, 0)) := by
    rw [ne, ne, ne, ne]; exact hc
  have ne2 : ∀ (w : World) (i : Nat) (v : Value), (w.setCell ⟨c, i, none⟩ v).heap[b]? = w.heap[b]? := fun w i v => Below.heap_setCell w ⟨c, i, none⟩ v b (fun e => hne e)
  subst hw
  refine ⟨by rw [ne2, ne2, ne2]; exact k1, by rw [heap_setCell_at (heap_setCell_at (heap_setCell_at k2))]; rfl, ?_⟩
  exact (((((((Kp.refl _ w).setCell (by simp) _).setCell (by simp) _).setCell (by simp) _).setCell (by simp) _).setCell (by simp) _).setCell (by simp) _).setCell (by simp) _
theorem src_kp {W a w : World} (h : Kp (fun b => b ≠ W.heap.size ∧ b ≠ W.heap.size + 1) a w) : Kp (fun b => b ≠ W.heap.size ∧ b ≠ W.heap.size + 1) a ((((w.setCell ⟨W.heap.size, 0, none⟩ (.string ⟨#[]⟩)).setCell ⟨W.heap.size, 1, none⟩ (.slice none 0 0)).setCell ⟨W.heap.size, 2, none⟩ (.slice none 0 0)).setCell ⟨W.heap.size, 3, none⟩ (.string ⟨#[]⟩)) :=
  (((h.setCell (by simp) _).setCell (by simp) _).setCell (by simp) _).setCell (by simp) _
set_option maxRecDepth 100000 in
set_option maxHeartbeats 25600000 in
theorem read_Read (tx : ByteArray) (W : World) (hs : tx.size < 4294967281) (hg : Gl W) :
    Calls Tryd.prog 9 #[.string tx] W (RdReadPost (Sp.readTx tx.data.toList) W) := by
  generalize hRR : Sp.readTx tx.data.toList = RR
  unfold Sp.readTx at hRR
  have HWD := Lib.hid (fun (w' : World) (hb : Below W.heap.size W w') => lex_Words tx w' hs (hg.below hb))
  have hwl := Sp.words_len tx.data.toList
  have hgo := @Sp.words_good tx.data.toList
  have hzz : 4000 < tx.data.toList.length → (Sp.words tx.data.toList).2.1 ≠ 0 := by
    intro h
    unfold Sp.words
    rw [if_pos h]
    decide
  generalize Sp.words tx.data.toList = WR at hRR HWD hwl hgo hzz
  obtain ⟨ws, er, wp⟩ := WR
  simp only at hRR hwl hgo hzz
  have HR := Lib.hid hRR
  have HGOOD := Lib.hid hgo
  have HSML := Lib.hid (show er = 0 → ws.length ≤ 4001 from fun h => by
    have : ¬ 4000 < tx.data.toList.length := fun h2 => hzz h2 h
    omega)
  obtain ⟨w0, hw0⟩ : ∃ w0 : World, w0 = (W.alloc (.cells #[.string ⟨#[]⟩, .slice none 0 0, .slice none 0 0, .string ⟨#[]⟩] 29)).alloc (.cells #[.int .i64 0, .int .i64 0, .string ⟨#[]⟩] 32) := ⟨_, rfl⟩
  have hb0 : Below W.heap.size W w0 := by rw [hw0]; exact ((Below.refl _ W).alloc (Nat.le_refl _) _).alloc (by simp) _
  have hsb : w0.heap[W.heap.size]? = some (.cells #[.string ⟨#[]⟩, .slice none 0 0, .slice none 0 0, .string ⟨#[]⟩] 29 (0, 0)) := by rw [hw0]; exact heap_fst1 W _ _
  have hfb : w0.heap[W.heap.size + 1]? = some (.cells #[.int .i64 0, .int .i64 0, .string ⟨#[]⟩] 32 (0, 0)) := by rw [hw0]; exact heap_sec W _ _
  have HB0 := Lib.hid hb0; have HSB := Lib.hid hsb; have HFB := Lib.hid hfb
  clear hRR hg hwl hgo hzz hb0 hsb hfb
  go_enter Tryd.func9, Tryd.ntmps9
  go_wp2_with fail
  rw [← hw0]
  clear hw0
  refine (HWD.out w0 HB0.out).mono ?_
  rintro e w1 ⟨vw, rfl, hrow, hb1⟩
  simp only at hrow
  obtain ⟨va, vcp, rfl⟩ := ownsRowS_some hrow
  have hsb1 := (hb1.block _ (lt_at HSB.out)).trans HSB.out
  have hfb1 := (hb1.block _ (lt_at HFB.out)).trans HFB.out
  have HROW := Lib.hid hrow; have HB1 := Lib.hid (HB0.out.trans (hb1.mono (by have := HB0.out.size; omega)))
  have HSB1 := Lib.hid hsb1; have HFB1 := Lib.hid hfb1
  clear hrow hb1 HWD HSB HFB HB0
  by_cases her : er = 0
  rotate_left
  · have hR := HR.out
    rw [if_pos her] at hR
    have HR2 := Lib.hid hR
    have hen : (er != 0) = true := by rw [bne_iff_ne]; exact her
    have hed : decide (er = 0) = false := decide_eq_false her
    clear hR HR her
    obtain ⟨w2, hw2⟩ : ∃ w2 : World, w2 = w1.alloc (.cells #[.int .i64 er, .int .i64 (wp : Int), .string ⟨#[]⟩] 32) := ⟨_, rfl⟩
    have hb2 : Below w1.heap.size w1 w2 := by rw [hw2]; exact (Below.refl _ w1).alloc (Nat.le_refl _) _
    have hff : w2.heap[w1.heap.size]? = some (.cells #[.int .i64 er, .int .i64 (wp : Int), .string ⟨#[]⟩] 32 (0, 0)) := by rw [hw2]; exact heap_last w1 _
    have hsb := (hb2.block _ (lt_at hsb1)).trans hsb1
    have hfb := (hb2.block _ (lt_at hfb1)).trans hfb1
    have HSB2 := Lib.hid hsb; have HFB2 := Lib.hid hfb; have HFF := Lib.hid hff
    have hl1 := lt_at hfb1
    have HSK := Lib.hid (fun (w' : World) (kp : Kp (fun b => b ≠ W.heap.size ∧ b ≠ W.heap.size + 1) w2 w') => (show ((w'.cell? ⟨w1.heap.size, 0, none⟩ = some (.int .i64 er) ∧ w'.cell? ⟨w1.heap.size, 1, none⟩ = some (.int .i64 (wp : Int)) ∧ w'.cell? ⟨w1.heap.size, 2, none⟩ = some (.string ⟨#[]⟩)) ∧ w1.heap.size < w'.heap.size) from by
      have h1 := kp.at HFF.out ⟨by omega, by omega⟩
      exact ⟨⟨cell_at (i := 0) h1, cell_at (i := 1) h1, cell_at (i := 2) h1⟩, lt_at h1⟩))
    have z0 := cell_at (i := 0) hsb; have y0 := frozen_at (i := 0) hsb
    have z1 := cell_at (i := 1) hsb; have y1 := frozen_at (i := 1) hsb
    have z2 := cell_at (i := 2) hsb; have y2 := frozen_at (i := 2) hsb
    have z3 := cell_at (i := 3) hsb; have y3 := frozen_at (i := 3) hsb
    have p0 := cell_at (i := 0) hfb; have q0 := frozen_at (i := 0) hfb
    have p1 := cell_at (i := 1) hfb; have q1 := frozen_at (i := 1) hfb
    have p2 := cell_at (i := 2) hfb; have q2 := frozen_at (i := 2) hfb
    have l0 := lt_at hsb; have l1 := lt_at hfb
    clear hsb1 hfb1 hsb hfb hff
    go_upto_region 3 with fail
    rw [← hw2]
    clear hw2
    refine wp_region_plan (fun w' : World => ((w'.cell? ⟨w1.heap.size, 0, none⟩ = some (.int .i64 er) ∧ w'.cell? ⟨w1.heap.size, 1, none⟩ = some (.int .i64 (wp : Int)) ∧ w'.cell? ⟨w1.heap.size, 2, none⟩ = some (.string ⟨#[]⟩)) ∧ w1.heap.size < w'.heap.size)) [3] (.take 0 (.take 1 (.one 2 (.one 3 (.done))))) (by kernel_rfl) (by kernel_rfl) (fun _ _ _ _ h => h) ?_
    have hSw := HSK.out _ ((Kp.refl _ w2).drew)
    refine wpPlan_takeD (v := ?vc36) rfl rfl hSw (by rfl) ?yc36 ?_
    case yc36 => (intro w hSx; (try dsimp only at hSx); go_simp; first | done | with_reducible rfl | rfl)
    (try simp only [Act.put, List.setIfInBounds_toArray, List.set_cons_zero, List.set_cons_succ])
    refine wpPlan_takeD (v := ?vc37) rfl rfl hSw (by rfl) ?yc37 ?_
    case yc37 => (intro w hSx; (try dsimp only at hSx); go_simp; first | done | with_reducible rfl | rfl)
    (try simp only [Act.put, List.setIfInBounds_toArray, List.set_cons_zero, List.set_cons_succ])
    refine wpPlan_run rfl (by rfl) (fun K' hK => ?_)
    go_simp
    refine hK _ _ (.inr ?_) ?_
    · exact HSK.out _ (src_kp ((Kp.refl _ w2).drew))
    clear hK K' hSw
    (try simp only [Act.put, List.setIfInBounds_toArray, List.set_cons_zero, List.set_cons_succ])
    refine wpPlan_run rfl (by rfl) (fun K' hK => ?_)
    go_simp
    refine hK _ _ (.inl rfl) ?_
    clear hK K'
    (try simp only [Act.put, List.setIfInBounds_toArray, List.set_cons_zero, List.set_cons_succ])
    refine wpPlan_done ?_
    obtain ⟨w5, hw5⟩ : ∃ w5 : World, w5 = ((((((w2.setCell ⟨W.heap.size, 0, none⟩ (.string ⟨#[]⟩)).setCell ⟨W.heap.size, 1, none⟩ (.slice none 0 0)).setCell ⟨W.heap.size, 2, none⟩ (.slice none 0 0)).setCell ⟨W.heap.size, 3, none⟩ (.string ⟨#[]⟩)).setCell ⟨W.heap.size + 1, 0, none⟩ (.int .i64 er)).setCell ⟨W.heap.size + 1, 1, none⟩ (.int .i64 (wp : Int))).setCell ⟨W.heap.size + 1, 2, none⟩ (.string ⟨#[]⟩) := ⟨_, rfl⟩
    obtain ⟨k1, k2, k3⟩ := sf_stored HSB2.out HFB2.out (by omega) _ _ _ _ _ _ _ hw5
    have hbel : Below W.heap.size W w5 := HB1.out.trans ((hb2.mono (by omega)).trans (Kp.below k3 (by have := lt_at HSB2.out; omega) (fun b hb => ⟨by omega, by omega⟩)))
    have HK1 := Lib.hid k1; have HK2 := Lib.hid k2; have HBEL := Lib.hid hbel
    rw [← hw5]
    clear k1 k2 k3 hbel HSK hb2 hw5
    go_wp2_with fail
    refine ret_cell_cell rfl rfl rfl (g := W.heap.size) (h := W.heap.size + 1) HK1.out HK2.out rfl Tryd.underlying29 (by kernel_rfl) rfl Tryd.underlying32 (by kernel_rfl) rfl ?_
    rw [← HR2.out]
    exact ⟨.slice none 0 0, .slice none 0 0, rfl, ⟨0, OwnR.nil _ _ _ _ _ _⟩, ⟨0, OwnR.nil _ _ _ _ _ _⟩, HBEL.out.drew⟩
  · subst her
    have hR := HR.out
    rw [if_neg (by decide), Sp.readWs_eq] at hR
    have hgw := HGOOD.out rfl
    have hsm := HSML.out rfl
    obtain ⟨m, hm⟩ : ∃ m, m = w1.heap.size + 1 := ⟨_, rfl⟩
    obtain ⟨w2, hw2⟩ : ∃ w2 : World, w2 = w1.alloc (.cells #[.int .i64 0, .int .i64 (wp : Int), .string ⟨#[]⟩] 32) := ⟨_, rfl⟩
    obtain ⟨w3, hw3⟩ : ∃ w3 : World, w3 = w2.alloc (.cells #[.slice va ws.length vcp, .int .i64 0, .bool false, .string ⟨#[]⟩, .slice none 0 0, .slice none 0 0, .string ⟨#[]⟩, .bool false] 74) := ⟨_, rfl⟩
    have hs2 : w2.heap.size = m := by rw [hw2, hm]; simp
    have hb2 : Below w1.heap.size w1 w2 := by rw [hw2]; exact (Below.refl _ w1).alloc (Nat.le_refl _) _
    have hb3 : Below w2.heap.size w2 w3 := by rw [hw3]; exact (Below.refl _ w2).alloc (Nat.le_refl _) _
    have hbk : w3.heap[m]? = some (.cells (rdCells ⟨0, ws, false, [], [], [], false⟩ ⟨.slice va ws.length vcp, .slice none 0 0, .slice none 0 0⟩).toArray 74 (0, 0)) := by rw [hw3, ← hs2]; exact heap_last w2 _
    have hb13 := hb2.trans (hb3.mono (by omega))
    have hr3 : ReaderAt m w3 m ws ⟨0, ws, false, [], [], [], false⟩ ⟨.slice va ws.length vcp, .slice none 0 0, .slice none 0 0⟩ :=
      ⟨hbk, (WordsAt.of HROW.out).below hb13, OwnR.nil _ _ _ _ _ _, OwnR.nil _ _ _ _ _ _, Nat.le_refl _, rfl, hgw.ends, hsm⟩
    have hsb := (hb13.block _ (lt_at hsb1)).trans hsb1
    have hfb := (hb13.block _ (lt_at hfb1)).trans hfb1
    have hml : W.heap.size + 1 < m := by have := lt_at hfb1; omega
    have HSB := Lib.hid hsb; have HFB := Lib.hid hfb
    have HBW := Lib.hid (HB1.out.trans (hb13.mono (by have := lt_at hfb1; omega)))
    obtain ⟨R1, hR1⟩ : ∃ R1, R1 = Sp.readDecls (ws.length + 1) ws none [] := ⟨_, rfl⟩
    have HDC := Lib.hid (reader_decls (F := ws.length + 1) hr3 rfl rfl rfl rfl hgw.good (Nat.lt_succ_self _))
    simp only at HDC
    rw [← hR1] at hR HDC
    have HRX := Lib.hid hR; have HGW := Lib.hid hgw.good
    clear hR HR HGOOD HSML hgw hsm hR1 hb2 hb3 hbk hb13 hr3 hsb1 hfb1 hsb hfb HSB1 HFB1 HROW HB1
    go_wp2_with fail
    rw [← hw2, ← hw3, ← hm]
    clear hw2 hw3 hs2 hm
    refine HDC.out.mono ?_
    rintro e w4 ⟨s', dv, rfl, hws, hbd, hru, hil, hmt, hr4, hf4⟩
    simp only at hru
    have hinv : s'.bad = true ∧ RR = (Sp.noSource, 2, Sp.headAt s'.ws) ∨ s'.bad = false ∧ Sp.readFin s'.pro s'.decls (Sp.readRulesC (ws.length + 1) s'.ws []) = RR := by
      have h := HRX.out
      cases R1 with
      | bad r =>
        left
        exact ⟨hbd, by rw [hws]; exact h.symm⟩
      | ok q r =>
        right
        obtain ⟨p, ds⟩ := q
        refine ⟨hbd, ?_⟩
        rw [hws, hmt.1, hmt.2]
        exact h
    have hwl : s'.ws.length ≤ ws.length := by rw [← hr4.left, List.length_drop]; omega
    have HR4 := Lib.hid hr4; have HF4 := Lib.hid hf4; have HINV := Lib.hid hinv; have HRU := Lib.hid hru; have HWL := Lib.hid hwl
    clear hws hbd hru hil hmt hr4 hf4 hinv hwl HDC HRX
    go_wp2_with fail
    go_loopg [7] (ws.length + 1) (fun q c7 wr => ∃ (first : Bool) (s2 : Sp.RdS) (v2 : RdV), c7 = .bool first ∧ ReaderAt m wr m ws s2 v2 ∧ RdFr m w3 wr ∧ s2.rules.length ≤ s2.i ∧
      ((s2.bad = true ∧ RR = (Sp.noSource, 2, Sp.headAt s2.ws)) ∨ (s2.bad = false ∧ s2.ws.length + 1 ≤ q ∧ (first = true ↔ s2.rules = []) ∧ ∃ f, s2.ws.length < f ∧ Sp.readFin s2.pro s2.decls (Sp.readRulesC f s2.ws s2.rules) = RR)))
    case atStart =>
      refine ⟨true, s', _, rfl, HR4.out, HF4.out, by rw [HRU.out]; simp, ?_⟩
      rcases HINV.out with h | ⟨h1, h2⟩
      · exact .inl h
      · exact .inr ⟨h1, by have := HWL.out; omega, by rw [HRU.out]; simp, ws.length + 1, by have := HWL.out; omega, by rw [HRU.out]; exact h2⟩
    case round =>
      clear HR4 HF4 HINV HRU HWL
      obtain ⟨first, s2, v2, rfl, hr, hf, hrl, hor⟩ := hrel
      have hfs : ∀ (w' : World), RdFr m w3 w' → w'.heap[W.heap.size]? = some (.cells #[.string ⟨#[]⟩, .slice none 0 0, .slice none 0 0, .string ⟨#[]⟩] 29 (0, 0)) ∧ w'.heap[W.heap.size + 1]? = some (.cells #[.int .i64 0, .int .i64 0, .string ⟨#[]⟩] 32 (0, 0)) := fun _ h => ⟨h.2 _ _ _ _ HSB.out (by unfold RdT; decide), h.2 _ _ _ _ HFB.out (by unfold RdT; decide)⟩
      have HFS := Lib.hid hfs
      have HRD := Lib.hid hr; have HFR := Lib.hid hf; have HRL := Lib.hid hrl
      have hmb := hr.block
      unfold rdCells at hmb
      have b2 : wr.cell? ⟨m, 2, none⟩ = some (.bool s2.bad) := cell_at (i := 2) hmb
      have lm := lt_at hmb
      clear hfs hr hf hrl hmb
      rcases hor with ⟨hb, hR⟩ | ⟨hb, hq, hfi, f, hlf, hR⟩
      · rw [hb] at b2
        have HR2 := Lib.hid hR; have HB := Lib.hid hb
        clear hR hb
        obtain ⟨w5, hw5⟩ : ∃ w5 : World, w5 = wr := ⟨_, rfl⟩
        subst hw5
        obtain ⟨x, l, hx⟩ := HRD.out.ends.cons
        obtain ⟨gw, cap, hv, hg, hi, a0, a1, a2⟩ := HRD.out.words.cells (HRD.out.head hx)
        have hmb := HRD.out.block
        unfold rdCells at hmb
        rw [hv] at hmb
        obtain ⟨hsb, hfb⟩ := HFS.out _ HFR.out
        have HSB5 := Lib.hid hsb; have HFB5 := Lib.hid hfb; have HMB := Lib.hid hmb; have HA2 := Lib.hid a2; have HG := Lib.hid hg; have HX := Lib.hid hx
        have hgm : gw ≠ W.heap.size ∧ gw ≠ W.heap.size + 1 := by
          obtain ⟨b, hrow⟩ := HRD.out.words
          rw [hv] at hrow
          exact ⟨fun e => row_ne_cells hrow hsb (by decide) _ rfl e, fun e => row_ne_cells hrow hfb (by decide) _ rfl e⟩
        have HGM := Lib.hid hgm
        have hsm := HRD.out.small
        have hlt := HRD.out.lt
        have hmin : min (s2.i : Int) ((ws.length : Int) - 1) = (s2.i : Int) := by omega
        have hwl : IntKind.i64.wrap ((ws.length : Int) - 1) = (ws.length : Int) - 1 := IntWalk.i64_in _ ⟨by omega, by omega⟩
        have HSK := Lib.hid (fun (w' : World) (kp : Kp (fun b => b ≠ W.heap.size ∧ b ≠ W.heap.size + 1) w5 w') => (show ((w'.cell? ⟨m, 0, none⟩ = some (.slice (some ⟨gw, 0, none⟩) ws.length cap) ∧ w'.cell? ⟨m, 1, none⟩ = some (.int .i64 (s2.i : Int)) ∧ w'.cell? ⟨gw, s2.i * 3 + 2, none⟩ = some (.int .i64 x.at_)) ∧ m < w'.heap.size ∧ gw < w'.heap.size) from by
          have h1 := kp.at HMB.out ⟨by omega, by omega⟩
          have h3 := HG.out
          have h2 : w'.cell? ⟨gw, s2.i * 3 + 2, none⟩ = some (.int .i64 x.at_) := (show w'.cell? ⟨gw, s2.i * 3 + 2, none⟩ = w5.cell? ⟨gw, s2.i * 3 + 2, none⟩ from by simp [World.cell?, kp.block gw h3 HGM.out]).trans HA2.out
          exact ⟨⟨cell_at (i := 0) h1, cell_at (i := 1) h1, h2⟩, lt_at h1, Nat.lt_of_lt_of_le h3 kp.size⟩))
        have z0 := cell_at (i := 0) hsb; have y0 := frozen_at (i := 0) hsb
        have z1 := cell_at (i := 1) hsb; have y1 := frozen_at (i := 1) hsb
        have z2 := cell_at (i := 2) hsb; have y2 := frozen_at (i := 2) hsb
        have z3 := cell_at (i := 3) hsb; have y3 := frozen_at (i := 3) hsb
        have p0 := cell_at (i := 0) hfb; have q0 := frozen_at (i := 0) hfb
        have p1 := cell_at (i := 1) hfb; have q1 := frozen_at (i := 1) hfb
        have p2 := cell_at (i := 2) hfb; have q2 := frozen_at (i := 2) hfb
        have l0 := lt_at hsb; have l1 := lt_at hfb
        clear hv hg hi a0 a1 a2 hmb hsb hfb hx hgm
        go_upto_region 11 with fail
        refine wp_region_plan (fun w' : World => ((w'.cell? ⟨m, 0, none⟩ = some (.slice (some ⟨gw, 0, none⟩) ws.length cap) ∧ w'.cell? ⟨m, 1, none⟩ = some (.int .i64 (s2.i : Int)) ∧ w'.cell? ⟨gw, s2.i * 3 + 2, none⟩ = some (.int .i64 x.at_)) ∧ m < w'.heap.size ∧ gw < w'.heap.size)) [21] (.take 0 (.take 1 (.take 2 (.take 3 (.take 4 (.take 5 (.take 6 (.take 7 (.take 8 (.take 9 (.take 10 (.take 11 (.take 12 (.take 13 (.take 14 (.take 15 (.take 16 (.take 17 (.take 18 (.take 19 (.one 20 (.one 21 (.done))))))))))))))))))))))) (by kernel_rfl) (by kernel_rfl) (fun _ _ _ _ h => h) ?_
        have hSw := HSK.out _ ((Kp.refl _ w5).drew)
        refine wpPlan_takeD (v := ?va1) rfl rfl hSw (by rfl) ?ya1 ?_
        case ya1 => (intro w hSx; (try dsimp only at hSx); go_simp; first | done | with_reducible rfl | rfl)
        (try simp only [Act.put, List.setIfInBounds_toArray, List.set_cons_zero, List.set_cons_succ])
        refine wpPlan_takeD (v := ?va2) rfl rfl hSw (by rfl) ?ya2 ?_
        case ya2 => (intro w hSx; (try dsimp only at hSx); go_simp; first | done | with_reducible rfl | rfl)
        (try simp only [Act.put, List.setIfInBounds_toArray, List.set_cons_zero, List.set_cons_succ])
        refine wpPlan_takeD (v := ?va3) rfl rfl hSw (by rfl) ?ya3 ?_
        case ya3 => (intro w hSx; (try dsimp only at hSx); go_simp; first | done | with_reducible rfl | rfl)
        (try simp only [Act.put, List.setIfInBounds_toArray, List.set_cons_zero, List.set_cons_succ])
        refine wpPlan_takeD (v := ?va4) rfl rfl hSw (by rfl) ?ya4 ?_
        case ya4 => (intro w hSx; (try dsimp only at hSx); go_simp; first | done | with_reducible rfl | rfl)
        (try simp only [Act.put, List.setIfInBounds_toArray, List.set_cons_zero, List.set_cons_succ])
        refine wpPlan_takeD (v := ?va5) rfl rfl hSw (by rfl) ?ya5 ?_
        case ya5 => (intro w hSx; (try dsimp only at hSx); go_simp; first | done | with_reducible rfl | rfl)
        (try simp only [Act.put, List.setIfInBounds_toArray, List.set_cons_zero, List.set_cons_succ])
        refine wpPlan_takeD (v := ?va6) rfl rfl hSw (by rfl) ?ya6 ?_
        case ya6 => (intro w hSx; (try dsimp only at hSx); go_simp; first | done | with_reducible rfl | rfl)
        (try simp only [Act.put, List.setIfInBounds_toArray, List.set_cons_zero, List.set_cons_succ])
        refine wpPlan_takeD (v := ?va7) rfl rfl hSw (by rfl) ?ya7 ?_
        case ya7 => (intro w hSx; (try dsimp only at hSx); go_simp; first | done | with_reducible rfl | rfl)
        (try simp only [Act.put, List.setIfInBounds_toArray, List.set_cons_zero, List.set_cons_succ])
        refine wpPlan_takeD (v := ?va8) rfl rfl hSw (by rfl) ?ya8 ?_
        case ya8 => (intro w hSx; (try dsimp only at hSx); go_simp; first | done | with_reducible rfl | rfl)
        (try simp only [Act.put, List.setIfInBounds_toArray, List.set_cons_zero, List.set_cons_succ])
        refine wpPlan_takeD (v := ?va9) rfl rfl hSw (by rfl) ?ya9 ?_
        case ya9 => (intro w hSx; (try dsimp only at hSx); go_simp; first | done | with_reducible rfl | rfl)
        (try simp only [Act.put, List.setIfInBounds_toArray, List.set_cons_zero, List.set_cons_succ])
        refine wpPlan_takeD (v := ?va10) rfl rfl hSw (by rfl) ?ya10 ?_
        case ya10 => (intro w hSx; (try dsimp only at hSx); go_simp; first | done | with_reducible rfl | rfl)
        (try simp only [Act.put, List.setIfInBounds_toArray, List.set_cons_zero, List.set_cons_succ])
        refine wpPlan_takeD (v := ?va11) rfl rfl hSw (by rfl) ?ya11 ?_
        case ya11 => (intro w hSx; (try dsimp only at hSx); go_simp; first | done | with_reducible rfl | rfl)
        (try simp only [Act.put, List.setIfInBounds_toArray, List.set_cons_zero, List.set_cons_succ])
        refine wpPlan_takeD (v := ?va12) rfl rfl hSw (by rfl) ?ya12 ?_
        case ya12 => (intro w hSx; (try dsimp only at hSx); go_simp; first | done | with_reducible rfl | rfl)
        (try simp only [Act.put, List.setIfInBounds_toArray, List.set_cons_zero, List.set_cons_succ])
        refine wpPlan_takeD (v := ?va13) rfl rfl hSw (by rfl) ?ya13 ?_
        case ya13 => (intro w hSx; (try dsimp only at hSx); go_simp; first | done | with_reducible rfl | rfl)
        (try simp only [Act.put, List.setIfInBounds_toArray, List.set_cons_zero, List.set_cons_succ])
        refine wpPlan_takeD (v := ?va14) rfl rfl hSw (by rfl) ?ya14 ?_
        case ya14 => (intro w hSx; (try dsimp only at hSx); go_simp; first | done | with_reducible rfl | rfl)
        (try simp only [Act.put, List.setIfInBounds_toArray, List.set_cons_zero, List.set_cons_succ])
        refine wpPlan_takeD (v := ?va15) rfl rfl hSw (by rfl) ?ya15 ?_
        case ya15 => (intro w hSx; (try dsimp only at hSx); go_simp; first | done | with_reducible rfl | rfl)
        (try simp only [Act.put, List.setIfInBounds_toArray, List.set_cons_zero, List.set_cons_succ])
        refine wpPlan_takeD (v := ?va16) rfl rfl hSw (by rfl) ?ya16 ?_
        case ya16 => (intro w hSx; (try dsimp only at hSx); go_simp; first | done | with_reducible rfl | rfl)
        (try simp only [Act.put, List.setIfInBounds_toArray, List.set_cons_zero, List.set_cons_succ])
        refine wpPlan_takeD (v := ?va17) rfl rfl hSw (by rfl) ?ya17 ?_
        case ya17 => (intro w hSx; (try dsimp only at hSx); go_simp; first | done | with_reducible rfl | rfl)
        (try simp only [Act.put, List.setIfInBounds_toArray, List.set_cons_zero, List.set_cons_succ])
        refine wpPlan_takeD (v := ?va18) rfl rfl hSw (by rfl) ?ya18 ?_
        case ya18 => (intro w hSx; (try dsimp only at hSx); go_simp; first | done | with_reducible rfl | rfl)
        (try simp only [Act.put, List.setIfInBounds_toArray, List.set_cons_zero, List.set_cons_succ])
        refine wpPlan_takeD (v := ?va19) rfl rfl hSw (by rfl) ?ya19 ?_
        case ya19 => (intro w hSx; (try dsimp only at hSx); go_simp; first | done | with_reducible rfl | rfl)
        (try simp only [Act.put, List.setIfInBounds_toArray, List.set_cons_zero, List.set_cons_succ])
        refine wpPlan_takeD (v := ?va20) rfl rfl hSw (by rfl) ?ya20 ?_
        case ya20 => (intro w hSx; (try dsimp only at hSx); go_simp; first | done | with_reducible rfl | rfl)
        (try simp only [Act.put, List.setIfInBounds_toArray, List.set_cons_zero, List.set_cons_succ])
        refine wpPlan_run rfl (by rfl) (fun K' hK => ?_)
        go_simp
        refine hK _ _ (.inr ?_) ?_
        · exact HSK.out _ (src_kp ((Kp.refl _ w5).drew))
        clear hK K' hSw
        (try simp only [Act.put, List.setIfInBounds_toArray, List.set_cons_zero, List.set_cons_succ])
        refine wpPlan_run rfl (by rfl) (fun K' hK => ?_)
        go_simp
        refine hK _ _ (.inl rfl) ?_
        clear hK K'
        (try simp only [Act.put, List.setIfInBounds_toArray, List.set_cons_zero, List.set_cons_succ])
        refine wpPlan_done ?_
        obtain ⟨w6, hw6⟩ : ∃ w6 : World, w6 = (((((((w5.setCell ⟨W.heap.size, 0, none⟩ (.string ⟨#[]⟩)).setCell ⟨W.heap.size, 1, none⟩ (.slice none 0 0)).setCell ⟨W.heap.size, 2, none⟩ (.slice none 0 0)).setCell ⟨W.heap.size, 3, none⟩ (.string ⟨#[]⟩)).setCell ⟨W.heap.size + 1, 0, none⟩ (.int .i64 2)).setCell ⟨W.heap.size + 1, 1, none⟩ (.int .i64 x.at_)).setCell ⟨W.heap.size + 1, 2, none⟩ (.string ⟨#[]⟩)) := ⟨_, rfl⟩
        obtain ⟨k1, k2, k3⟩ := sf_stored HSB5.out HFB5.out (by omega) _ _ _ _ _ _ _ hw6
        rw [← hw6]
        have hbel : Below W.heap.size W w6 := (HBW.out.trans (HFR.out.1.mono (by omega))).trans (Kp.below k3 (by have := lt_at HSB5.out; omega) (fun b hb => ⟨by omega, by omega⟩))
        have HK1 := Lib.hid k1; have HK2 := Lib.hid k2; have HBEL := Lib.hid hbel
        clear k1 k2 k3 hbel HSK hw6
        go_wp2_with fail
        refine ret_cell_cell rfl rfl rfl (g := W.heap.size) (h := W.heap.size + 1) HK1.out HK2.out rfl Tryd.underlying29 (by kernel_rfl) rfl Tryd.underlying32 (by kernel_rfl) rfl ?_
        rw [HR2.out, HX.out]
        exact ⟨.slice none 0 0, .slice none 0 0, rfl, ⟨0, OwnR.nil _ _ _ _ _ _⟩, ⟨0, OwnR.nil _ _ _ _ _ _⟩, HBEL.out.drew⟩
      · rw [hb] at b2
        obtain ⟨f, rfl⟩ : ∃ f', f = f' + 1 := ⟨f - 1, by omega⟩
        have HB := Lib.hid hb; have HQ := Lib.hid hq; have HFI := Lib.hid hfi; have HLF := Lib.hid hlf; have HR2 := Lib.hid hR
        have HP10 := Lib.hid (reader_is 10 [] HRD.out)
        have HFB0 := Lib.hid (fun n => (show BoxFr m wr (wr.drewN n) from BoxFr.below (below_drewN (Below.refl _ wr) n) HRD.out.size))
        have HBL := Lib.hid (fun n => HRD.out.below (below_drewN (Below.refl _ wr) n))
        clear hb hq hfi hlf hR
        obtain ⟨C, hC⟩ : ∃ C : Bool, C = (first || !Sp.isW 10 [] s2.ws) := ⟨_, rfl⟩
        have HC := Lib.hid hC
        clear hC
        go_upto_region 7 with fail
        go_cut [35] from 23 to 37 (fun c wx => c = .bool C ∧ ReaderAt m wx m ws s2 v2 ∧ BoxFr m wr wx)
        case first =>
          generalize Sp.isW 10 [] s2.ws = b10 at *
          cases first
          · go_wp2_with fail
            refine HP10.out.mono ?_
            rintro e w' ⟨rfl, n1, rfl⟩
            cases b10
            all_goals
              go_wp2_with fail
              go_meet
              exact ⟨by rw [HC.out]; rfl, HBL.out _, HFB0.out _⟩
          · go_wp2_with fail
            go_meet
            exact ⟨by rw [HC.out]; rfl, HBL.out 0, HFB0.out 0⟩
        case rest =>
          obtain ⟨w5, hw5⟩ : ∃ w5 : World, w5 = wc := ⟨_, rfl⟩
          subst hw5
          obtain ⟨rfl, hr5, hf5⟩ := hcut
          have HRD5 := Lib.hid hr5; have HFR5 := Lib.hid (HFR.out.trans hf5.rd)
          clear hr5 hf5 HRD HFR HBL HFB0 HP10 b2 lm
          cases C with
          | true =>
            have hR := HR2.out
            have hc := HC.out
            have hnn : ¬ (s2.rules ≠ [] ∧ Sp.isW 10 [] s2.ws = true) := by
              rintro ⟨h1, h2⟩
              rw [h2] at hc
              cases first with
              | true => exact h1 (HFI.out.1 rfl)
              | false => exact absurd hc (by decide)
            unfold Sp.readRulesC at hR
            rw [if_neg hnn] at hR
            obtain ⟨RU, hRU⟩ : ∃ RU, RU = Sp.readRuleC (f + 1) s2.ws := ⟨_, rfl⟩
            have HRL2 := Lib.hid (reader_rule (F := f + 1) HRD5.out HB.out HRL.out HLF.out)
            rw [← hRU] at hR HRL2
            have HR3 := Lib.hid hR
            have HLT := Lib.hid (fun (u : Sp.Rule) (r : List Sp.Word) (e : RU = .ok u r) => Sp.readRuleC_lt (hRU.symm.trans e))
            clear hR hc hnn hRU HR2
            go_wp2_with fail
            refine HRL2.out.mono ?_
            rintro e w6 ⟨j, rs, rv, rfl, hij, hlj, hm6, hr6, hf6⟩
            have HR6 := Lib.hid hr6; have HF6 := Lib.hid (HFR5.out.trans hf6); have HLJ := Lib.hid hlj; have HM6 := Lib.hid hm6
            clear hij hlj hm6 hr6 hf6 HRL2
            cases RU with
            | bad r =>
              go_wp2_with fail
              go_roundg (gk - 1)
              case measure => have := HQ.out; omega
              case rel => exact ⟨false, _, _, rfl, HR6.out, HF6.out, HLJ.out, .inl ⟨rfl, HR3.out.symm⟩⟩
            | ok u r =>
              have hl := HLT.out u r rfl
              have HL := Lib.hid hl; have HM7 := Lib.hid (show rs = s2.rules ++ [u] from HM6.out)
              clear hl HLT
              go_wp2_with fail
              go_roundg (gk - 1)
              case measure => have := HQ.out; omega
              case rel => exact ⟨false, _, _, rfl, HR6.out, HF6.out, HLJ.out, .inr ⟨rfl, by have := HQ.out; have := HL.out; show r.length + 1 ≤ gk - 1; omega, by show false = true ↔ rs = []; rw [HM7.out]; simp, f, by have := HLF.out; have := HL.out; show r.length < f; omega, by show Sp.readFin s2.pro s2.decls (Sp.readRulesC f r rs) = RR; rw [HM7.out]; exact HR3.out⟩⟩
          | false =>
            have hc := HC.out.symm
            rw [Bool.or_eq_false_iff, Bool.not_eq_false'] at hc
            obtain ⟨hff, h10⟩ := hc
            have hnn : s2.rules ≠ [] := fun h => by have := HFI.out.2 h; rw [hff] at this; cases this
            have hR := HR2.out
            unfold Sp.readRulesC at hR
            rw [if_pos ⟨hnn, h10⟩] at hR
            obtain ⟨x, l, hx⟩ := HRD5.out.ends.cons
            rw [hx] at hR
            have HR3 := Lib.hid (show ((⟨s2.pro, s2.decls, s2.rules, x.text⟩ : Sp.Source), ((0 : Int), (0 : Int))) = RR from hR)
            obtain ⟨gw, cap, hv, hg, hi, a0, a1, a2⟩ := HRD5.out.words.cells (HRD5.out.head hx)
            have hmb := HRD5.out.block
            unfold rdCells at hmb
            rw [HB.out, hv] at hmb
            obtain ⟨hsb, hfb⟩ := HFS.out _ HFR5.out
            have HSB4 := Lib.hid hsb; have HFB4 := Lib.hid hfb; have HMB := Lib.hid hmb; have HA1 := Lib.hid a1; have HG := Lib.hid hg
            have hgm : gw ≠ W.heap.size ∧ gw ≠ W.heap.size + 1 := by
              obtain ⟨b, hrow⟩ := HRD5.out.words
              rw [hv] at hrow
              exact ⟨fun e => row_ne_cells hrow hsb (by decide) _ rfl e, fun e => row_ne_cells hrow hfb (by decide) _ rfl e⟩
            have HGM := Lib.hid hgm
            have hsm := HRD5.out.small
            have hlt := HRD5.out.lt
            have HSK := Lib.hid (fun (w' : World) (kp : Kp (fun b => b ≠ W.heap.size ∧ b ≠ W.heap.size + 1) w5 w') => (show ((w'.cell? ⟨m, 0, none⟩ = some (.slice (some ⟨gw, 0, none⟩) ws.length cap) ∧ w'.cell? ⟨m, 1, none⟩ = some (.int .i64 (s2.i : Int)) ∧ w'.cell? ⟨gw, s2.i * 3 + 1, none⟩ = some (.string ⟨x.text.toArray⟩)) ∧ m < w'.heap.size ∧ gw < w'.heap.size) from by
              have h1 := kp.at HMB.out ⟨by omega, by omega⟩
              have h3 := HG.out
              have h2 : w'.cell? ⟨gw, s2.i * 3 + 1, none⟩ = some (.string ⟨x.text.toArray⟩) := (show w'.cell? ⟨gw, s2.i * 3 + 1, none⟩ = w5.cell? ⟨gw, s2.i * 3 + 1, none⟩ from by simp [World.cell?, kp.block gw h3 HGM.out]).trans HA1.out
              exact ⟨⟨cell_at (i := 0) h1, cell_at (i := 1) h1, h2⟩, lt_at h1, Nat.lt_of_lt_of_le h3 kp.size⟩))
            have b2 : w5.cell? ⟨m, 2, none⟩ = some (.bool false) := cell_at (i := 2) hmb
            have m6 : w5.cell? ⟨m, 6, none⟩ = some (.string ⟨#[]⟩) := cell_at (i := 6) hmb
            have g6 : w5.frozen? ⟨m, 6, none⟩ = false := frozen_at (i := 6) hmb
            have lm := lt_at hmb
            clear hR HR2 hff h10 hnn hx hv hg hi a0 a1 a2 hmb hsb hfb hgm
            go_upto_region 12 with fail
            refine wp_region_plan (fun w' : World => ((w'.cell? ⟨m, 0, none⟩ = some (.slice (some ⟨gw, 0, none⟩) ws.length cap) ∧ w'.cell? ⟨m, 1, none⟩ = some (.int .i64 (s2.i : Int)) ∧ w'.cell? ⟨gw, s2.i * 3 + 1, none⟩ = some (.string ⟨x.text.toArray⟩)) ∧ m < w'.heap.size ∧ gw < w'.heap.size)) [15] (.take 0 (.take 1 (.take 2 (.take 3 (.take 4 (.take 5 (.take 6 (.take 7 (.take 8 (.take 9 (.take 10 (.take 11 (.take 12 (.take 13 (.take 14 (.one 15 (.done))))))))))))))))) (by kernel_rfl) (by kernel_rfl) (fun _ _ _ _ h => h) ?_
            have hSw := HSK.out _ ((Kp.refl _ w5).drew)
            refine wpPlan_takeD (v := ?vb21) rfl rfl hSw (by rfl) ?yb21 ?_
            case yb21 => (intro w hSx; (try dsimp only at hSx); go_simp; first | done | with_reducible rfl | rfl)
            (try simp only [Act.put, List.setIfInBounds_toArray, List.set_cons_zero, List.set_cons_succ])
            refine wpPlan_takeD (v := ?vb22) rfl rfl hSw (by rfl) ?yb22 ?_
            case yb22 => (intro w hSx; (try dsimp only at hSx); go_simp; first | done | with_reducible rfl | rfl)
            (try simp only [Act.put, List.setIfInBounds_toArray, List.set_cons_zero, List.set_cons_succ])
            refine wpPlan_takeD (v := ?vb23) rfl rfl hSw (by rfl) ?yb23 ?_
            case yb23 => (intro w hSx; (try dsimp only at hSx); go_simp; first | done | with_reducible rfl | rfl)
            (try simp only [Act.put, List.setIfInBounds_toArray, List.set_cons_zero, List.set_cons_succ])
            refine wpPlan_takeD (v := ?vb24) rfl rfl hSw (by rfl) ?yb24 ?_
            case yb24 => (intro w hSx; (try dsimp only at hSx); go_simp; first | done | with_reducible rfl | rfl)
            (try simp only [Act.put, List.setIfInBounds_toArray, List.set_cons_zero, List.set_cons_succ])
            refine wpPlan_takeD (v := ?vb25) rfl rfl hSw (by rfl) ?yb25 ?_
            case yb25 => (intro w hSx; (try dsimp only at hSx); go_simp; first | done | with_reducible rfl | rfl)
            (try simp only [Act.put, List.setIfInBounds_toArray, List.set_cons_zero, List.set_cons_succ])
            refine wpPlan_takeD (v := ?vb26) rfl rfl hSw (by rfl) ?yb26 ?_
            case yb26 => (intro w hSx; (try dsimp only at hSx); go_simp; first | done | with_reducible rfl | rfl)
            (try simp only [Act.put, List.setIfInBounds_toArray, List.set_cons_zero, List.set_cons_succ])
            refine wpPlan_takeD (v := ?vb27) rfl rfl hSw (by rfl) ?yb27 ?_
            case yb27 => (intro w hSx; (try dsimp only at hSx); go_simp; first | done | with_reducible rfl | rfl)
            (try simp only [Act.put, List.setIfInBounds_toArray, List.set_cons_zero, List.set_cons_succ])
            refine wpPlan_takeD (v := ?vb28) rfl rfl hSw (by rfl) ?yb28 ?_
            case yb28 => (intro w hSx; (try dsimp only at hSx); go_simp; first | done | with_reducible rfl | rfl)
            (try simp only [Act.put, List.setIfInBounds_toArray, List.set_cons_zero, List.set_cons_succ])
            refine wpPlan_takeD (v := ?vb29) rfl rfl hSw (by rfl) ?yb29 ?_
            case yb29 => (intro w hSx; (try dsimp only at hSx); go_simp; first | done | with_reducible rfl | rfl)
            (try simp only [Act.put, List.setIfInBounds_toArray, List.set_cons_zero, List.set_cons_succ])
            refine wpPlan_takeD (v := ?vb30) rfl rfl hSw (by rfl) ?yb30 ?_
            case yb30 => (intro w hSx; (try dsimp only at hSx); go_simp; first | done | with_reducible rfl | rfl)
            (try simp only [Act.put, List.setIfInBounds_toArray, List.set_cons_zero, List.set_cons_succ])
            refine wpPlan_takeD (v := ?vb31) rfl rfl hSw (by rfl) ?yb31 ?_
            case yb31 => (intro w hSx; (try dsimp only at hSx); go_simp; first | done | with_reducible rfl | rfl)
            (try simp only [Act.put, List.setIfInBounds_toArray, List.set_cons_zero, List.set_cons_succ])
            refine wpPlan_takeD (v := ?vb32) rfl rfl hSw (by rfl) ?yb32 ?_
            case yb32 => (intro w hSx; (try dsimp only at hSx); go_simp; first | done | with_reducible rfl | rfl)
            (try simp only [Act.put, List.setIfInBounds_toArray, List.set_cons_zero, List.set_cons_succ])
            refine wpPlan_takeD (v := ?vb33) rfl rfl hSw (by rfl) ?yb33 ?_
            case yb33 => (intro w hSx; (try dsimp only at hSx); go_simp; first | done | with_reducible rfl | rfl)
            (try simp only [Act.put, List.setIfInBounds_toArray, List.set_cons_zero, List.set_cons_succ])
            refine wpPlan_takeD (v := ?vb34) rfl rfl hSw (by rfl) ?yb34 ?_
            case yb34 => (intro w hSx; (try dsimp only at hSx); go_simp; first | done | with_reducible rfl | rfl)
            (try simp only [Act.put, List.setIfInBounds_toArray, List.set_cons_zero, List.set_cons_succ])
            refine wpPlan_takeD (v := ?vb35) rfl rfl hSw (by rfl) ?yb35 ?_
            case yb35 => (intro w hSx; (try dsimp only at hSx); go_simp; first | done | with_reducible rfl | rfl)
            (try simp only [Act.put, List.setIfInBounds_toArray, List.set_cons_zero, List.set_cons_succ])
            refine wpPlan_run rfl (by rfl) (fun K' hK => ?_)
            go_simp
            refine hK _ _ (.inl rfl) ?_
            clear hK K' hSw
            (try simp only [Act.put, List.setIfInBounds_toArray, List.set_cons_zero, List.set_cons_succ])
            refine wpPlan_done ?_
            have hb7 := heap_setCell_at (i := 6) (v := .string ⟨x.text.toArray⟩) HMB.out
            have k7 := ReaderAt.box1 (B := m) HMB.out (Nat.le_refl _) 6 (.string ⟨x.text.toArray⟩)
            obtain ⟨w7, hw7⟩ : ∃ w7 : World, w7 = w5.setCell ⟨m, 6, none⟩ (.string ⟨x.text.toArray⟩) := ⟨_, rfl⟩
            rw [← hw7] at hb7 k7 ⊢
            have hsb := k7.at HSB4.out (by unfold BoxT; decide)
            have hfb := k7.at HFB4.out (by unfold BoxT; decide)
            have HSB5 := Lib.hid hsb; have HFB5 := Lib.hid hfb
            have hdo := decls_kp HRD5.out.decls k7.2 (by unfold BoxT; decide) (by unfold BoxT; decide)
            have hro := rules_kp HRD5.out.rules k7.2 (by unfold BoxT; decide) (by unfold BoxT; decide) (by unfold BoxT; decide)
            have HDO := Lib.hid hdo; have HRO := Lib.hid hro
            have HF7 := Lib.hid (HFR5.out.trans k7.rd)
            have t3 : w7.cell? ⟨m, 3, none⟩ = some (.string ⟨s2.pro.toArray⟩) := cell_at (i := 3) hb7
            have t4 : w7.cell? ⟨m, 4, none⟩ = some v2.dv := cell_at (i := 4) hb7
            have t5 : w7.cell? ⟨m, 5, none⟩ = some v2.rv := cell_at (i := 5) hb7
            have t6 : w7.cell? ⟨m, 6, none⟩ = some (.string ⟨x.text.toArray⟩) := cell_at (i := 6) hb7
            have lm7 := lt_at hb7
            have z0 := cell_at (i := 0) hsb; have y0 := frozen_at (i := 0) hsb
            have z1 := cell_at (i := 1) hsb; have y1 := frozen_at (i := 1) hsb
            have z2 := cell_at (i := 2) hsb; have y2 := frozen_at (i := 2) hsb
            have z3 := cell_at (i := 3) hsb; have y3 := frozen_at (i := 3) hsb
            have p0 := cell_at (i := 0) hfb; have q0 := frozen_at (i := 0) hfb
            have p1 := cell_at (i := 1) hfb; have q1 := frozen_at (i := 1) hfb
            have p2 := cell_at (i := 2) hfb; have q2 := frozen_at (i := 2) hfb
            have l0 := lt_at hsb; have l1 := lt_at hfb
            obtain ⟨vdv, hvdv⟩ : ∃ u, u = v2.dv := ⟨_, rfl⟩
            obtain ⟨vrv, hvrv⟩ : ∃ u, u = v2.rv := ⟨_, rfl⟩
            rw [← hvdv] at t4 HDO
            rw [← hvrv] at t5 HRO
            obtain ⟨da, dc, rfl⟩ : ∃ da dc, vdv = .slice da s2.decls.length dc := by
              obtain ⟨f', h1, _⟩ := HDO.out
              exact ownsRowS_some h1
            obtain ⟨ua, uc, rfl⟩ : ∃ ua uc, vrv = .slice ua s2.rules.length uc := by
              obtain ⟨f', h1, _⟩ := HRO.out
              exact ownsRowS_some h1
            obtain ⟨w8, hw8⟩ : ∃ w8 : World, w8 = (((((((w7.setCell ⟨W.heap.size, 0, none⟩ (.string ⟨s2.pro.toArray⟩)).setCell ⟨W.heap.size, 1, none⟩ (.slice da s2.decls.length dc)).setCell ⟨W.heap.size, 2, none⟩ (.slice ua s2.rules.length uc)).setCell ⟨W.heap.size, 3, none⟩ (.string ⟨x.text.toArray⟩)).setCell ⟨W.heap.size + 1, 0, none⟩ (.int .i64 0)).setCell ⟨W.heap.size + 1, 1, none⟩ (.int .i64 0)).setCell ⟨W.heap.size + 1, 2, none⟩ (.string ⟨#[]⟩)) := ⟨_, rfl⟩
            obtain ⟨k1, k2, k3⟩ := sf_stored HSB5.out HFB5.out (by omega) _ _ _ _ _ _ _ hw8
            have hkt : KpT (fun t => t ≠ 29 ∧ t ≠ 32) w7 w8 := KpT.of_kp k3 (fun b cs t fr hb ht => by
              refine ⟨fun e => ?_, fun e => ?_⟩
              · rw [e, HSB5.out] at hb
                simp only [Option.some.injEq, Obj.cells.injEq] at hb
                exact ht.1 hb.2.1.symm
              · rw [e, HFB5.out] at hb
                simp only [Option.some.injEq, Obj.cells.injEq] at hb
                exact ht.2 hb.2.1.symm)
            have hbel : Below W.heap.size W w8 := (HBW.out.trans (HF7.out.1.mono (by omega))).trans (Kp.below k3 (by have := lt_at HSB5.out; omega) (fun b hb => ⟨by omega, by omega⟩))
            have HK1 := Lib.hid k1; have HK2 := Lib.hid k2; have HBEL := Lib.hid hbel; have HW8 := Lib.hid hw8
            have HD8 := Lib.hid (decls_kp HDO.out hkt (by decide) (by decide)); have HR8 := Lib.hid (rules_kp HRO.out hkt (by decide) (by decide) (by decide))
            clear k1 k2 k3 hbel HSK hkt hw8 hvdv hvrv hb7 hsb hfb hw7
            go_wp2_with fail
            rw [← HW8.out]
            refine ret_cell_cell rfl rfl rfl (g := W.heap.size) (h := W.heap.size + 1) HK1.out HK2.out rfl Tryd.underlying29 (by kernel_rfl) rfl Tryd.underlying32 (by kernel_rfl) rfl ?_
            rw [← HR3.out]
            exact ⟨_, _, rfl, ⟨_, HD8.out⟩, ⟨_, HR8.out⟩, HBEL.out.drew⟩
end Go.Proofs.YtphdfbmmjkccgaaDoor

namespace Go.Proofs.YtphdfbmmjkccgaaDoor
namespace Sp

def wake7 : List UInt8 := [37, 116, 111, 107, 101, 110, 32, 60, 118, 62, 32, 65, 32, 51, 48, 48, 32, 39, 99, 39, 10, 37, 115, 116, 97, 114, 116, 32, 97, 10, 37, 37, 10, 97, 32, 58, 32, 39, 120, 39, 32, 123, 102, 125, 32, 124, 32, 97, 32, 65, 32, 37, 112, 114, 101, 99, 32, 39, 99, 39, 32, 123, 103, 125, 10, 98, 32, 58, 32, 59, 37, 37, 116, 97, 105, 108]
def wake7Src : Source :=
  ⟨[], [⟨1, [118], [⟨[65], false, 300, 11⟩, ⟨[99], true, 0, 17⟩], 0⟩, ⟨6, [], [⟨[97], false, 0, 28⟩], 21⟩],
   [⟨[97], [⟨[⟨⟨[120], true, 0, 37⟩, [], 37⟩, ⟨⟨[], false, 0, 0⟩, [123, 102, 125], 41⟩], ⟨[], false, 0, 0⟩, 37⟩,
     ⟨[⟨⟨[97], false, 0, 47⟩, [], 47⟩, ⟨⟨[65], false, 0, 49⟩, [], 49⟩, ⟨⟨[], false, 0, 0⟩, [123, 103, 125], 61⟩], ⟨[99], true, 0, 57⟩, 47⟩], 33⟩,
    ⟨[98], [⟨[], ⟨[], false, 0, 0⟩, 69⟩], 65⟩], [116, 97, 105, 108]⟩
theorem wake7_read : readTx wake7 = (wake7Src, 0, 0) := by kernel_rfl
theorem wake7_bad : readTx [37, 37, 97, 32, 98] = (⟨[], [], [], []⟩, 2, 4) := by kernel_rfl
end Sp
end Go.Proofs.YtphdfbmmjkccgaaDoor
