/- The walk of GramNums. -/
import Derived.Test.YthmimcegiihcnaaDoorIg
import Derived.Test.YthmimcegiihcnaaDoorJk
import Derived.Test.YthmimcegiihcnaaDoorGt
import Derived.Test.YthmimcegiihcnaaDoorGu
namespace Go.Proofs.YthmimcegiihcnaaDoor
open Go.RowKit Go.Maps

theorem info_intE : (Tryd.prog.info? 3).map (fun i => (i.zero, i.size, i.bytes)) = some (some (.int .i64 0), 1, 8) := by kernel_rfl
theorem nName_small_all : ((List.range 13).all fun i => decide ((Lib.itoa (i : Int)).length ≤ 3)) = true := by decide +kernel
theorem nName_small {i : Nat} (h : i < 13) : (Lib.itoa (i : Int)).length ≤ 3 := of_decide_eq_true (List.all_eq_true.1 nName_small_all i (List.mem_range.2 h))
theorem num_small (l : List Int) (hl : l.length ≤ 12) : smallSrc (Sp.numSrc l) := by
  refine ⟨by simp [Sp.numSrc], by simp [Sp.numSrc], ?_, by simp [Sp.numSrc], ?_, ?_⟩
  · simp only [Sp.numSrc]
    split <;> simp
  · intro d hd
    have hd' : l ≠ [] ∧ d = ⟨1, [], Sp.numSyms 0 l, 0⟩ := by
      simp only [Sp.numSrc] at hd
      split at hd
      · cases hd
      · exact ⟨‹_›, by simpa using hd⟩
    obtain ⟨_, rfl⟩ := hd'
    refine ⟨by simp, by show (Sp.numSyms 0 l).length ≤ 4000; rw [Sp.numSyms_len]; omega, fun s hs => ?_⟩
    obtain ⟨j, m, _, h2, _, rfl⟩ := Sp.mem_numSyms _ _ _ hs
    have := nName_small (i := j) (by omega)
    show (110 :: Lib.itoa (j : Int)).length ≤ 4000
    rw [List.length_cons]
    omega
  · intro r hr
    simp only [Sp.numSrc, List.mem_singleton] at hr
    subst hr
    refine ⟨by simp, by simp, ?_⟩
    intro a ha
    rw [List.mem_singleton] at ha
    subst ha
    refine ⟨by simp, ?_, by simp⟩
    intro p hp
    rw [List.mem_singleton] at hp
    subst hp
    exact ⟨by simp, by simp⟩
/-- The declaration as it grows, and the numbers that are wanted. -/
structure NumI (W wr : World) (bd : Nat) (sv wv : Value) (ns : List Int) : Prop where
  box : wr.heap[bd]? = some (.cells #[.int .i64 1, .string ⟨#[]⟩, sv, .int .i64 0] 43 (0, 0))
  syms : wr.ownsRow W.heap.size 40 4 sv ns.length ((Sp.numSyms 0 ns).map symC).flatten
  want : wr.ownsRow W.heap.size 3 1 wv (3 + ns.length) (intsC (Sp.wantL ns))
  bel : Below W.heap.size W wr
  ge : W.heap.size ≤ bd
theorem numSyms_cells (ns : List Int) (m : Int) : ((Sp.numSyms 0 (ns ++ [m])).map symC).flatten = ((Sp.numSyms 0 ns).map symC).flatten ++ symC ⟨Sp.nName ns.length, false, m, 10 * (ns.length : Int)⟩ := by
  rw [Sp.numSyms_snoc, List.map_append, List.flatten_append]
  simp
theorem wantL_cells (ns : List Int) (m : Int) : intsC (Sp.wantL (ns ++ [m])) = intsC (Sp.wantL ns) ++ [.int .i64 (if 0 < m then m else Sp.nextGo 57346 ns)] := by
  unfold Sp.wantL intsC
  rw [Sp.wantGo_snoc, ← List.append_assoc, List.map_append]
  rfl
theorem wantL_len (ns : List Int) : (Sp.wantL ns).length = 3 + ns.length := by
  unfold Sp.wantL
  rw [List.length_append, Sp.wantGo_len]
  rfl
theorem NumI.step {W wr w9 w' : World} {bd k : Nat} {sv wv sv' wv' : Value} {ns : List Int} {m : Int} (h : NumI W wr bd sv wv ns) (hl : ns.length = k) (hk8 : Kp (fun b => b = bd ∨ b < W.heap.size) wr w9)
    (hw9 : w9.ownsRow W.heap.size 3 1 wv' (3 + k + 1) (intsC (Sp.wantL ns) ++ [.int .i64 (if 0 < m then m else Sp.nextGo 57346 ns)]))
    (hs9 : w9.ownsRow W.heap.size 40 4 sv' (k + 1) (((Sp.numSyms 0 ns).map symC).flatten ++ symC ⟨Sp.nName k, false, m, 10 * (k : Int)⟩)) (hw : w' = w9.setCell ⟨bd, 2, none⟩ sv') : NumI W w' bd sv' wv' (ns ++ [m]) := by
  subst hw
  subst hl
  have hb := hk8.at h.box (.inl rfl)
  have kt : KpT (fun t => t ≠ 43) w9 (w9.setCell ⟨bd, 2, none⟩ sv') := KpT.setCell (fun _ _ _ _ h _ => h) hb (by simp) _
  have hl : (ns ++ [m]).length = ns.length + 1 := by simp
  refine ⟨heap_setCell_at hb, ?_, ?_, h.bel.trans (Kp.below (((hk8.mono (fun _ _ h => .inr h)) : Kp (fun b => b < W.heap.size) wr w9).setCell (p := ⟨bd, 2, none⟩) (by have := h.ge; simp only; omega) _) h.bel.size (fun b hb => hb)), h.ge⟩
  · rw [numSyms_cells, hl]
    exact ownsRow_kpT hs9 kt (by decide)
  · rw [wantL_cells, hl, ← Nat.add_assoc]
    exact ownsRow_kpT hw9 kt (by decide)
/-- Within a round: the new symbol in its box, the number appended. -/
structure NumM (W wr wx : World) (bd bx k : Nat) (sv wv : Value) (ns : List Int) (m : Int) : Prop where
  kp : Kp (fun b => b = bd ∨ b < W.heap.size) wr wx
  sym : wx.heap[bx]? = some (.cells #[.string ⟨(110 :: Lib.itoa (k : Int)).toArray⟩, .bool false, .int .i64 m, .int .i64 (10 * (k : Int))] 40 (0, 0))
  syms : wx.ownsRow W.heap.size 40 4 sv k ((Sp.numSyms 0 ns).map symC).flatten
  want : wx.ownsRow W.heap.size 3 1 wv (3 + k + 1) (intsC (Sp.wantL ns) ++ [.int .i64 (if 0 < m then m else Sp.nextGo 57346 ns)])
theorem PassS2.setDecl1 {B : Nat} {w w' : World} {bs k : Nat} {rv : Value} {rs : List Sp.Rule} {sa : Option Addr} {sc : Nat} {ss : List Sp.Sym} (h : PassS2 B w bs (.slice none 0 0) rv [] rs) (hs : w.ownsRow B 40 4 (.slice sa k sc) k (ss.map symC).flatten) (hl : ss.length = k) (hB : B ≤ w.heap.size)
    (hw : w' = (w.setCell ⟨bs, 1, none⟩ (.slice (some ⟨w.heap.size, 0, none⟩) 1 1)).alloc (.cells #[.int .i64 1, .string ⟨#[]⟩, .slice sa k sc, .int .i64 0] 43)) :
    PassS2 B w' bs (.slice (some ⟨w.heap.size, 0, none⟩) 1 1) rv [⟨1, [], ss, 0⟩] rs ∧ KpT (fun t => t ≠ 29) w w' ∧ Below B w w' := by
  obtain ⟨w2, hw2⟩ : ∃ w2 : World, w2 = w.setCell ⟨bs, 1, none⟩ (.slice (some ⟨w.heap.size, 0, none⟩) 1 1) := ⟨_, rfl⟩
  have hsz : w2.heap.size = w.heap.size := by rw [hw2]; simp [World.setCell]
  have kt : KpT (fun t => t ≠ 29) w w2 := by rw [hw2]; exact KpT.setCell (fun _ _ _ _ h _ => h) h.src (by simp) _
  have hs2 : w2.heap[bs]? = some (.cells #[.string ⟨#[]⟩, .slice (some ⟨w.heap.size, 0, none⟩) 1 1, rv, .string ⟨#[]⟩] 29 (0, 0)) := by rw [hw2]; exact heap_setCell_at h.src
  rw [← hw2] at hw
  have kt' := kt.alloc (.cells #[.int .i64 1, .string ⟨#[]⟩, .slice sa k sc, .int .i64 0] 43)
  rw [← hw] at kt'
  have hnew : w'.heap[w.heap.size]? = some (.cells #[.int .i64 1, .string ⟨#[]⟩, .slice sa k sc, .int .i64 0] 43 (0, 0)) := by
    rw [hw, ← hsz]
    exact heap_last w2 _
  have hk : Kp (fun b => b < B) w w' := by
    rw [hw, hw2]
    exact ((Kp.refl _ w).setCell (p := ⟨bs, 1, none⟩) (by have := h.ge; simp only; omega) _).alloc _
  refine ⟨⟨?_, ⟨fun _ => .slice sa k sc, owns_block hnew hB rfl (by decide), fun i d hd => ?_⟩, rules_kp h.rules kt' (by decide) (by decide) (by decide), h.ge⟩, kt', Kp.below hk hB (fun b hb => hb)⟩
  · rw [hw]
    exact heap_old hs2 _
  · obtain ⟨rfl, rfl⟩ := one_at hd
    refine ⟨B, ?_⟩
    show w'.ownsRow _ _ _ _ ss.length _
    rw [hl]
    exact ownsRow_kpT hs kt' (by decide)
theorem numBad_lt : ∀ (l pre : List Int) (i j : Nat), Sp.numBad i pre l = some j → j < i + l.length
  | [], _, _, _, h => by cases h
  | n :: l, pre, i, j, h => by
    unfold Sp.numBad at h
    rw [List.length_cons]
    split at h
    · cases h; omega
    · have := numBad_lt l (pre ++ [n]) (i + 1) j h
      omega
theorem NumRel_nat {l : List Int} {bad : Int} (h : Sp.NumRel l bad) (h0 : 0 ≤ bad) : ∃ i : Nat, bad = (i : Int) ∧ i < l.length := by
  unfold Sp.NumRel at h
  cases hn : Sp.numBad 0 [] l with
  | none => rw [hn] at h; simp only at h; omega
  | some i =>
    rw [hn] at h
    have := numBad_lt l [] 0 i hn
    exact ⟨i, h, by omega⟩
set_option maxRecDepth 100000 in
set_option maxHeartbeats 12800000 in
theorem law_GramNums (v0 : Value) (l : List Int) (W : World) (hl : IntsAt W v0 l) (hlm : l.length ≤ maxLen) (hwf : ∀ t ∈ l, (Lit.int .i64 t).wf = true) (hg : Gl4 W) :
    Calls Tryd.prog 5 #[v0] W fun e w' => e = .returned (.bool true) ∧ Below W.heap.size W w' := by
  unfold maxLen at hlm
  obtain ⟨la, lcap, rfl⟩ := SlAt.form hl
  rw [List.length_map] at hl ⊢
  have HG := Lib.hid hg; have HL := Lib.hid hl; have HWF := Lib.hid hwf
  obtain ⟨is0, his0, hsz0, hsz1, hsz2⟩ := info_parts info_symE
  obtain ⟨ii0, hii0, hiz0, hiz1, hiz2⟩ := info_parts info_intE
  clear hg hl hwf
  go_enter Tryd.func5, Tryd.ntmps5
  go_wp2_with fail
  refine (wakes9 W HG.out).mono ?_
  rintro e w1 ⟨rfl, hb1⟩
  go_upto_block 0 with fail
  obtain ⟨w, hw4⟩ : ∃ w : World, w = (w1.alloc (.cells #[.int .i64 1, .string ⟨#[]⟩, .slice none 0 0, .int .i64 0] 43)).alloc (.cells #[.int .i64 0, .int .i64 (-1), .int .i64 (-1)] 3) := ⟨_, rfl⟩
  rw [← hw4]
  have hI0 : NumI W w w1.heap.size (.slice none 0 0) (.slice (some ⟨w1.heap.size + 1, 0, none⟩) 3 3) [] := by
    have hsz := hb1.size
    refine ⟨?_, World.ownsRow_nil _ _ _ _, owns_block (cs := #[.int .i64 0, .int .i64 (-1), .int .i64 (-1)]) (n := 3) (by rw [hw4]; exact heap_sec w1 _ _) (by omega) rfl (by decide), ?_, hsz⟩
    · rw [hw4]
      exact heap_old (heap_last w1 _) _
    · rw [hw4]
      exact (hb1.alloc hsz _).alloc (by simp only [World.size_alloc]; omega) _
  have HI0 := Lib.hid hI0
  have HBD : Hid (W.heap.size ≤ w1.heap.size) := Lib.hid hb1.size
  clear hw4 hI0 hb1
  generalize w1.heap.size + 1 = bw at HI0 ⊢
  generalize w1.heap.size = bd at HI0 HBD ⊢
  go_cut [4, 6, 7] (fun v4 v6 v7 wx => ∃ (k : Nat) (sv : Value) (bad : Int), k ≤ 12 ∧ (Sp.numL l k).length = k ∧ v6 = .int .i64 bad ∧ v7 = .bool (decide (120 ∈ (Sp.numL l k))) ∧ Sp.NumRel (Sp.numL l k) bad ∧ NumI W wx bd sv v4 (Sp.numL l k))
  case first =>
      go_wp2_with fail
      go_loopg [4, 5, 6, 7, 8] 12 (fun q v4 v5 v6 v7 v8 wr => ∃ (k : Nat) (sv : Value) (bad : Int), k ≤ 12 ∧ k ≤ l.length ∧ q = 12 - k ∧ v8 = .int .i64 k ∧ v5 = .int .i64 (Sp.nextGo 57346 (Sp.numL l k)) ∧ v6 = .int .i64 bad ∧ v7 = .bool (decide (120 ∈ (Sp.numL l k))) ∧ Sp.NumRel (Sp.numL l k) bad ∧ NumI W wr bd sv v4 (Sp.numL l k))
      case atStart =>
        exact ⟨0, _, -1, by omega, by omega, rfl, rfl, rfl, rfl, rfl, Sp.NumRel.start, HI0.out⟩
      case round =>
        clear HI0
        obtain ⟨k, sv, bad, hk12, hkl, rfl, rfl, rfl, rfl, rfl, hrl, hst⟩ := hrel
        have hns : (Sp.numL l k).length = k := Sp.numL_len hkl
        obtain ⟨ns, hnsd⟩ : ∃ ns, ns = (Sp.numL l k) := ⟨_, rfl⟩
        rw [← hnsd] at hst hrl hns ⊢
        have HRL := Lib.hid hrl
        have HST := Lib.hid hst
        have HNS := Lib.hid hns
        have HND := Lib.hid hnsd
        obtain ⟨nx, hnx⟩ : ∃ nx, nx = Sp.nextGo 57346 ns := ⟨_, rfl⟩
        have hnxb := Sp.nextGo_bd ns 57346
        rw [← hnx, hns] at hnxb
        rw [← hnx]
        obtain ⟨hnx1, hnx2⟩ := hnxb
        have HNX := Lib.hid hnx
        have hbd := hrl.bd
        have hsy := hst.syms
        rw [hns] at hsy
        obtain ⟨sa, sc, rfl⟩ := ownsRowS_some hsy
        have hwa := hst.want
        rw [hns] at hwa
        obtain ⟨wa, wc0, rfl⟩ := ownsRowS_some hwa
        have HO := Lib.hid hsy; have HW := Lib.hid hwa
        have HWS := Lib.hid hst.bel.size
        by_cases hkn : k < l.length ∧ k < 12
        · obtain ⟨hkn1, hkn2⟩ := hkn
          obtain ⟨n, hn⟩ : ∃ n, l[k]? = some n := ⟨_, List.getElem?_eq_getElem hkn1⟩
          obtain ⟨lb, lo, rfl, hlb, hlc⟩ := SlAt.at HL.out (k := k) (row := [.int .i64 n]) (by rw [List.getElem?_map, hn]; rfl)
          have hcl := hlc wr hst.bel 0 _ rfl
          simp only [Nat.add_zero, Nat.mul_one] at hcl
          have hlbw := hst.bel.size
          have hlw : lb < wr.heap.size := by omega
          have hwn := HWF.out n (List.mem_of_getElem? hn)
          obtain ⟨r, hr⟩ : ∃ r : Nat, n % ((9 : Nat) : Int) = (r : Int) := ⟨(n % 9).toNat, by have := Int.emod_nonneg n (b := 9) (by decide); omega⟩
          have hr9 : r < 9 := by have := Int.emod_lt_of_pos n (b := 9) (by decide); omega
          have HN1 : Hid (Sp.numL l (k + 1) = ns ++ [if 0 < r then 117 + (r : Int) else 0]) := Lib.hid (by
            rw [Sp.numL_snoc hn, ← hnsd]
            unfold Sp.numOf
            rw [show n % 9 = (r : Int) from hr]
            by_cases h : 0 < r
            · rw [if_pos h, if_pos (by omega)]
            · rw [if_neg h, if_neg (by omega)])
          have hk12I : (k : Int) < 12 := by omega
          have hk0I : (0 : Int) ≤ (k : Int) := by omega
          have hbig : ¬ 9223372036854775807 < 1 + (Lib.itoa (k : Int)).length := by
            have := nName_small (i := k) (by omega)
            omega
          have HWN := Lib.hid hwn; have HR := Lib.hid hr
          have HNK := Lib.hid hns
          have hdb := hst.box
          have HDB := Lib.hid hdb
          have HNB : Hid (∀ c, (Value.slice sa k sc).ownBlock = some c → ¬ (c = bd ∨ c < W.heap.size)) := Lib.hid (fun c hc hs => by
            rcases hs with rfl | hs
            · exact row_ne_cells HO.out HDB.out (by decide) _ hc rfl
            · exact Nat.not_lt.2 (HO.out.lt c hc).1 hs)
          have HWB : Hid (∀ c, (Value.slice wa (3 + k) wc0).ownBlock = some c → ¬ (c = bd ∨ c < W.heap.size)) := Lib.hid (fun c hc hs => by
            rcases hs with rfl | hs
            · exact row_ne_cells HW.out HDB.out (by decide) _ hc rfl
            · exact Nat.not_lt.2 (HW.out.lt c hc).1 hs)
          clear hst hn hwn hr hlc hlb hlbw hdb hsy hwa hrl hns hnsd hnx
          go_wp2_with fail
          refine (ref_Within9 n 9 _ (by decide) (by decide) HWN.out).mono ?_
          rintro e w1' ⟨rfl, rfl⟩
          rw [HR.out]
          go_wp2_with fail
          refine (ref_Digits (k : Int) _ (by omega) (by omega)).mono ?_
          rintro e w5 ⟨rfl, hb5⟩
          go_wp2_with fail
          refine (law9_name (110 :: Lib.itoa (k : Int)) (10 * (k : Int)) _).mono ?_
          rintro e w6 ⟨rfl, hb6⟩
          have HB6 : Hid (Below wr.heap.size wr w6) := Lib.hid (hb5.trans (hb6.mono hb5.size))
          clear hb5 hb6
          go_upto_if 41 with fail
          obtain ⟨w7, hw7⟩ : ∃ w7 : World, w7 = w6.alloc (.cells #[.string ⟨(110 :: Lib.itoa (k : Int)).toArray⟩, .bool false, .int .i64 0, .int .i64 (10 * (k : Int))] 40) := ⟨_, rfl⟩
          rw [← hw7]
          have HX7 : Hid (w7.heap[w6.heap.size]? = some (.cells #[.string ⟨(110 :: Lib.itoa (k : Int)).toArray⟩, .bool false, .int .i64 0, .int .i64 (10 * (k : Int))] 40 (0, 0))) := Lib.hid (by rw [hw7]; exact heap_last w6 _)
          have HB7 : Hid (Below wr.heap.size wr w7) := Lib.hid (by rw [hw7]; exact HB6.out.alloc HB6.out.size _)
          have HXB : Hid (wr.heap.size ≤ w6.heap.size) := Lib.hid HB6.out.size
          clear hw7 HB6
          generalize w6.heap.size = bx at HX7 HXB ⊢
          obtain ⟨m, hm⟩ : ∃ m : Int, m = if 0 < r then 117 + (r : Int) else 0 := ⟨_, rfl⟩
          have HM := Lib.hid hm
          rw [← hm] at HN1
          clear hm
          go_cut [4, 5, 6, 7] from 19 to 76 (fun v4 v5 v6 v7 wx => ∃ (bad' : Int), v5 = .int .i64 (Sp.nextGo 57346 (ns ++ [m])) ∧ v6 = .int .i64 bad' ∧ v7 = .bool (decide (120 ∈ ns ++ [m])) ∧ Sp.NumRel (ns ++ [m]) bad' ∧ NumM W wr wx bd bx k (.slice sa k sc) v4 ns m)
          case first =>
            by_cases hr0 : 0 < r
            · have hm : m = 117 + (r : Int) := by rw [HM.out, if_pos hr0]
              have hr0I : 0 < (r : Int) := by omega
              have q7 := HX7.out
              have c2 := cell_at (i := 2) q7
              have f2 := frozen_at (i := 2) q7
              have l7 := lt_at q7
              have HMV := Lib.hid hm
              have hbx : ¬ (bx = bd ∨ bx < W.heap.size) := by
                have h1 := HXB.out; have h2 := HWS.out; have h3 := lt_at HDB.out
                omega
              have HBX := Lib.hid hbx
              have HW8 : Hid (w7.setCell ⟨bx, 2, none⟩ (.int .i64 (117 + (r : Int))) |>.ownsRow W.heap.size 3 1 (.slice wa (3 + k) wc0) (3 + k) (intsC (Sp.wantL ns))) := Lib.hid (ownsRow_setCell_ne (ownsRow_below HW.out HB7.out) HX7.out (by decide) _)
              have HS8 : Hid (w7.setCell ⟨bx, 2, none⟩ (.int .i64 (117 + (r : Int))) |>.ownsRow W.heap.size 40 4 (.slice sa k sc) k ((Sp.numSyms 0 ns).map symC).flatten) := Lib.hid (ownsRow_kp (S := fun b => b < wr.heap.size) (ownsRow_below HO.out HB7.out) ((Kp.refl _ w7).setCell (p := ⟨bx, 2, none⟩) (by have := HXB.out; simp only; omega) _) (fun c hc => (HO.out.lt c hc).2))
              have HK8 : Hid (Kp (fun b => b = bd ∨ b < W.heap.size) wr (w7.setCell ⟨bx, 2, none⟩ (.int .i64 (117 + (r : Int))))) := Lib.hid (((Kp.of_below HB7.out (fun _ hk _ => hk)) : Kp (fun b => b = bd ∨ b < W.heap.size) wr w7).setCell (p := ⟨bx, 2, none⟩) hbx _)
              have HQ8 : Hid ((w7.setCell ⟨bx, 2, none⟩ (.int .i64 (117 + (r : Int)))).heap[bx]? = some (.cells #[.string ⟨(110 :: Lib.itoa (k : Int)).toArray⟩, .bool false, .int .i64 (117 + (r : Int)), .int .i64 (10 * (k : Int))] 40 (0, 0))) := Lib.hid (heap_setCell_at HX7.out)
              have HZ8 : Hid ((w7.setCell ⟨bx, 2, none⟩ (.int .i64 (117 + (r : Int)))).heap.size = w7.heap.size) := Lib.hid (by simp [World.setCell])
              clear q7 hm hbx
              have hcase : 120 ∈ ns ∨ ¬ 120 ∈ ns := by by_cases h : 120 ∈ ns <;> simp [h]
              have h3c : r = 3 ∨ r ≠ 3 := by omega
              by_cases hb : bad < 0
              · go_wp2_with fail
                obtain ⟨w8, hw8⟩ : ∃ w8 : World, w8 = w7.setCell ⟨bx, 2, none⟩ (.int .i64 (117 + (r : Int))) := ⟨_, rfl⟩
                rw [← hw8]
                rw [← hw8] at HW8 HS8 HK8 HQ8 HZ8
                clear hw8
                refine (ref_Has (.slice wa (3 + k) wc0) (Sp.wantL ns) (117 + (r : Int)) w8 (ints_own (by rw [wantL_len, HNK.out]; exact HW8.out)) (by rw [wantL_len, HNK.out]; omega)).mono ?_
                rintro e w8' ⟨rfl, rfl⟩
                rw [show decide (117 + (r : Int) ∈ Sp.wantL ns) = decide (117 + (r : Int) ∈ ns) from decide_eq_decide.2 (Sp.mem_wantL _ (by omega) (by omega) ns)]
                by_cases hmem : 117 + (r : Int) ∈ ns
                · rw [decide_eq_true hmem]
                  have HMEM := Lib.hid hmem
                  clear hmem
                  have q8 := HQ8.out
                  have k2 := cell_at (i := 2) q8
                  have l8 := lt_at q8
                  clear q8
                  rcases hcase with hc | hc
                  · rw [decide_eq_true hc]
                    have HC := Lib.hid hc
                    clear hc
                    go_wp2_with (at_builtin; refine wpList_append_lies _ rfl _ _ 23 rfl W.heap.size 3 ii0 _ 1 8 Tryd.underlying23 hii0 hiz0 hiz1 hiz2 rfl (by decide) _ _ _ rfl (HW8.out.alloc _) ⟨w8.heap.size, 0, none⟩ 1 1 [.int .i64 (117 + (r : Int))] rfl rfl (World.news_of_block (cs := #[.int .i64 (117 + (r : Int))]) (t := 3) (fr := (0, 0)) (heap_last w8 _)) (by simp [Value.oneCell']) (by omega) (by unfold maxLen; omega) (by omega) (by have := HB7.out.size; have := HZ8.out; have := HWS.out; simp only [World.size_alloc]; omega) _ rfl ?_; intro gw cw w9 hownw hgroww hatw hltw; have HGW := Lib.hid hgroww; have HOW := Lib.hid hownw; clear hgroww hownw hatw)
                    go_meet
                    have hk9 : Kp (fun b => b = bd ∨ b < W.heap.size) wr w9 := (HK8.out.alloc _).grown HGW.out (fun c hc hs => HWB.out c hc hs)
                    have kg : KpT (fun t => t ≠ 3) w8 w9 := (KpT.below ((Below.refl _ w8).alloc (Nat.le_refl _) _)).trans (KpT.grown (HW8.out.alloc _) HGW.out)
                    refine ⟨(k : Int), by rw [Sp.nextGo_snoc, if_pos (by rw [HMV.out]; omega), ← HNX.out], rfl, ?_, (by have h := HRL.out.hit m hb ⟨by rw [HMV.out]; omega, by rw [HMV.out]; exact HMEM.out⟩; rw [HNK.out] at h; exact h), hk9, ?_, ownsRow_kpT HS8.out kg (by decide), ?_⟩
                    · rw [decide_eq_true (List.mem_append.2 (.inl HC.out))]
                    · rw [HMV.out]; exact kg _ _ _ _ HQ8.out (by decide)
                    · rw [if_pos (by rw [HMV.out]; omega), HMV.out]; exact HOW.out
                  · rw [decide_eq_false hc]
                    have HC := Lib.hid hc
                    clear hc
                    rcases h3c with h3 | h3
                    · have h3b : ((117 + (r : Int)) == 120) = true := by rw [beq_iff_eq]; omega
                      have h3d : 117 + (r : Int) = 120 := by omega
                      have H3D := Lib.hid h3d
                      clear h3 h3d
                      go_wp2_with (at_builtin; refine wpList_append_lies _ rfl _ _ 23 rfl W.heap.size 3 ii0 _ 1 8 Tryd.underlying23 hii0 hiz0 hiz1 hiz2 rfl (by decide) _ _ _ rfl (HW8.out.alloc _) ⟨w8.heap.size, 0, none⟩ 1 1 [.int .i64 (117 + (r : Int))] rfl rfl (World.news_of_block (cs := #[.int .i64 (117 + (r : Int))]) (t := 3) (fr := (0, 0)) (heap_last w8 _)) (by simp [Value.oneCell']) (by omega) (by unfold maxLen; omega) (by omega) (by have := HB7.out.size; have := HZ8.out; have := HWS.out; simp only [World.size_alloc]; omega) _ rfl ?_; intro gw cw w9 hownw hgroww hatw hltw; have HGW := Lib.hid hgroww; have HOW := Lib.hid hownw; clear hgroww hownw hatw)
                      go_meet
                      have hk9 : Kp (fun b => b = bd ∨ b < W.heap.size) wr w9 := (HK8.out.alloc _).grown HGW.out (fun c hc hs => HWB.out c hc hs)
                      have kg : KpT (fun t => t ≠ 3) w8 w9 := (KpT.below ((Below.refl _ w8).alloc (Nat.le_refl _) _)).trans (KpT.grown (HW8.out.alloc _) HGW.out)
                      refine ⟨(k : Int), by rw [Sp.nextGo_snoc, if_pos (by rw [HMV.out]; omega), ← HNX.out], rfl, ?_, (by have h := HRL.out.hit m hb ⟨by rw [HMV.out]; omega, by rw [HMV.out]; exact HMEM.out⟩; rw [HNK.out] at h; exact h), hk9, ?_, ownsRow_kpT HS8.out kg (by decide), ?_⟩
                      · rw [decide_eq_true (List.mem_append.2 (.inr (by rw [HMV.out, H3D.out]; exact List.mem_singleton.2 rfl)))]
                      · rw [HMV.out]; exact kg _ _ _ _ HQ8.out (by decide)
                      · rw [if_pos (by rw [HMV.out]; omega), HMV.out]; exact HOW.out
                    · have h3b : ((117 + (r : Int)) == 120) = false := by rw [beq_eq_false_iff_ne]; omega
                      have h3d : ¬ 117 + (r : Int) = 120 := by omega
                      have H3D := Lib.hid h3d
                      clear h3 h3d
                      go_wp2_with (at_builtin; refine wpList_append_lies _ rfl _ _ 23 rfl W.heap.size 3 ii0 _ 1 8 Tryd.underlying23 hii0 hiz0 hiz1 hiz2 rfl (by decide) _ _ _ rfl (HW8.out.alloc _) ⟨w8.heap.size, 0, none⟩ 1 1 [.int .i64 (117 + (r : Int))] rfl rfl (World.news_of_block (cs := #[.int .i64 (117 + (r : Int))]) (t := 3) (fr := (0, 0)) (heap_last w8 _)) (by simp [Value.oneCell']) (by omega) (by unfold maxLen; omega) (by omega) (by have := HB7.out.size; have := HZ8.out; have := HWS.out; simp only [World.size_alloc]; omega) _ rfl ?_; intro gw cw w9 hownw hgroww hatw hltw; have HGW := Lib.hid hgroww; have HOW := Lib.hid hownw; clear hgroww hownw hatw)
                      go_meet
                      have hk9 : Kp (fun b => b = bd ∨ b < W.heap.size) wr w9 := (HK8.out.alloc _).grown HGW.out (fun c hc hs => HWB.out c hc hs)
                      have kg : KpT (fun t => t ≠ 3) w8 w9 := (KpT.below ((Below.refl _ w8).alloc (Nat.le_refl _) _)).trans (KpT.grown (HW8.out.alloc _) HGW.out)
                      refine ⟨(k : Int), by rw [Sp.nextGo_snoc, if_pos (by rw [HMV.out]; omega), ← HNX.out], rfl, ?_, (by have h := HRL.out.hit m hb ⟨by rw [HMV.out]; omega, by rw [HMV.out]; exact HMEM.out⟩; rw [HNK.out] at h; exact h), hk9, ?_, ownsRow_kpT HS8.out kg (by decide), ?_⟩
                      · rw [decide_eq_false (by rw [List.mem_append, HMV.out]; rintro (h | h); exact HC.out h; exact H3D.out (List.mem_singleton.1 h).symm)]
                      · rw [HMV.out]; exact kg _ _ _ _ HQ8.out (by decide)
                      · rw [if_pos (by rw [HMV.out]; omega), HMV.out]; exact HOW.out
                · rw [decide_eq_false hmem]
                  have HMEM := Lib.hid hmem
                  clear hmem
                  have q8 := HQ8.out
                  have k2 := cell_at (i := 2) q8
                  have l8 := lt_at q8
                  clear q8
                  rcases hcase with hc | hc
                  · rw [decide_eq_true hc]
                    have HC := Lib.hid hc
                    clear hc
                    go_wp2_with (at_builtin; refine wpList_append_lies _ rfl _ _ 23 rfl W.heap.size 3 ii0 _ 1 8 Tryd.underlying23 hii0 hiz0 hiz1 hiz2 rfl (by decide) _ _ _ rfl (HW8.out.alloc _) ⟨w8.heap.size, 0, none⟩ 1 1 [.int .i64 (117 + (r : Int))] rfl rfl (World.news_of_block (cs := #[.int .i64 (117 + (r : Int))]) (t := 3) (fr := (0, 0)) (heap_last w8 _)) (by simp [Value.oneCell']) (by omega) (by unfold maxLen; omega) (by omega) (by have := HB7.out.size; have := HZ8.out; have := HWS.out; simp only [World.size_alloc]; omega) _ rfl ?_; intro gw cw w9 hownw hgroww hatw hltw; have HGW := Lib.hid hgroww; have HOW := Lib.hid hownw; clear hgroww hownw hatw)
                    go_meet
                    have hk9 : Kp (fun b => b = bd ∨ b < W.heap.size) wr w9 := (HK8.out.alloc _).grown HGW.out (fun c hc hs => HWB.out c hc hs)
                    have kg : KpT (fun t => t ≠ 3) w8 w9 := (KpT.below ((Below.refl _ w8).alloc (Nat.le_refl _) _)).trans (KpT.grown (HW8.out.alloc _) HGW.out)
                    refine ⟨bad, by rw [Sp.nextGo_snoc, if_pos (by rw [HMV.out]; omega), ← HNX.out], rfl, ?_, (HRL.out.keep m (.inr (by rw [HMV.out]; exact fun h => HMEM.out h.2))), hk9, ?_, ownsRow_kpT HS8.out kg (by decide), ?_⟩
                    · rw [decide_eq_true (List.mem_append.2 (.inl HC.out))]
                    · rw [HMV.out]; exact kg _ _ _ _ HQ8.out (by decide)
                    · rw [if_pos (by rw [HMV.out]; omega), HMV.out]; exact HOW.out
                  · rw [decide_eq_false hc]
                    have HC := Lib.hid hc
                    clear hc
                    rcases h3c with h3 | h3
                    · have h3b : ((117 + (r : Int)) == 120) = true := by rw [beq_iff_eq]; omega
                      have h3d : 117 + (r : Int) = 120 := by omega
                      have H3D := Lib.hid h3d
                      clear h3 h3d
                      go_wp2_with (at_builtin; refine wpList_append_lies _ rfl _ _ 23 rfl W.heap.size 3 ii0 _ 1 8 Tryd.underlying23 hii0 hiz0 hiz1 hiz2 rfl (by decide) _ _ _ rfl (HW8.out.alloc _) ⟨w8.heap.size, 0, none⟩ 1 1 [.int .i64 (117 + (r : Int))] rfl rfl (World.news_of_block (cs := #[.int .i64 (117 + (r : Int))]) (t := 3) (fr := (0, 0)) (heap_last w8 _)) (by simp [Value.oneCell']) (by omega) (by unfold maxLen; omega) (by omega) (by have := HB7.out.size; have := HZ8.out; have := HWS.out; simp only [World.size_alloc]; omega) _ rfl ?_; intro gw cw w9 hownw hgroww hatw hltw; have HGW := Lib.hid hgroww; have HOW := Lib.hid hownw; clear hgroww hownw hatw)
                      go_meet
                      have hk9 : Kp (fun b => b = bd ∨ b < W.heap.size) wr w9 := (HK8.out.alloc _).grown HGW.out (fun c hc hs => HWB.out c hc hs)
                      have kg : KpT (fun t => t ≠ 3) w8 w9 := (KpT.below ((Below.refl _ w8).alloc (Nat.le_refl _) _)).trans (KpT.grown (HW8.out.alloc _) HGW.out)
                      refine ⟨bad, by rw [Sp.nextGo_snoc, if_pos (by rw [HMV.out]; omega), ← HNX.out], rfl, ?_, (HRL.out.keep m (.inr (by rw [HMV.out]; exact fun h => HMEM.out h.2))), hk9, ?_, ownsRow_kpT HS8.out kg (by decide), ?_⟩
                      · rw [decide_eq_true (List.mem_append.2 (.inr (by rw [HMV.out, H3D.out]; exact List.mem_singleton.2 rfl)))]
                      · rw [HMV.out]; exact kg _ _ _ _ HQ8.out (by decide)
                      · rw [if_pos (by rw [HMV.out]; omega), HMV.out]; exact HOW.out
                    · have h3b : ((117 + (r : Int)) == 120) = false := by rw [beq_eq_false_iff_ne]; omega
                      have h3d : ¬ 117 + (r : Int) = 120 := by omega
                      have H3D := Lib.hid h3d
                      clear h3 h3d
                      go_wp2_with (at_builtin; refine wpList_append_lies _ rfl _ _ 23 rfl W.heap.size 3 ii0 _ 1 8 Tryd.underlying23 hii0 hiz0 hiz1 hiz2 rfl (by decide) _ _ _ rfl (HW8.out.alloc _) ⟨w8.heap.size, 0, none⟩ 1 1 [.int .i64 (117 + (r : Int))] rfl rfl (World.news_of_block (cs := #[.int .i64 (117 + (r : Int))]) (t := 3) (fr := (0, 0)) (heap_last w8 _)) (by simp [Value.oneCell']) (by omega) (by unfold maxLen; omega) (by omega) (by have := HB7.out.size; have := HZ8.out; have := HWS.out; simp only [World.size_alloc]; omega) _ rfl ?_; intro gw cw w9 hownw hgroww hatw hltw; have HGW := Lib.hid hgroww; have HOW := Lib.hid hownw; clear hgroww hownw hatw)
                      go_meet
                      have hk9 : Kp (fun b => b = bd ∨ b < W.heap.size) wr w9 := (HK8.out.alloc _).grown HGW.out (fun c hc hs => HWB.out c hc hs)
                      have kg : KpT (fun t => t ≠ 3) w8 w9 := (KpT.below ((Below.refl _ w8).alloc (Nat.le_refl _) _)).trans (KpT.grown (HW8.out.alloc _) HGW.out)
                      refine ⟨bad, by rw [Sp.nextGo_snoc, if_pos (by rw [HMV.out]; omega), ← HNX.out], rfl, ?_, (HRL.out.keep m (.inr (by rw [HMV.out]; exact fun h => HMEM.out h.2))), hk9, ?_, ownsRow_kpT HS8.out kg (by decide), ?_⟩
                      · rw [decide_eq_false (by rw [List.mem_append, HMV.out]; rintro (h | h); exact HC.out h; exact H3D.out (List.mem_singleton.1 h).symm)]
                      · rw [HMV.out]; exact kg _ _ _ _ HQ8.out (by decide)
                      · rw [if_pos (by rw [HMV.out]; omega), HMV.out]; exact HOW.out
              · go_upto_region 17 with fail
                obtain ⟨w8, hw8⟩ : ∃ w8 : World, w8 = w7.setCell ⟨bx, 2, none⟩ (.int .i64 (117 + (r : Int))) := ⟨_, rfl⟩
                rw [← hw8]
                rw [← hw8] at HW8 HS8 HK8 HQ8 HZ8
                clear hw8
                have q8 := HQ8.out
                have k2 := cell_at (i := 2) q8
                have l8 := lt_at q8
                clear q8
                rcases hcase with hc | hc
                · rw [decide_eq_true hc]
                  have HC := Lib.hid hc
                  clear hc
                  go_wp2_with (at_builtin; refine wpList_append_lies _ rfl _ _ 23 rfl W.heap.size 3 ii0 _ 1 8 Tryd.underlying23 hii0 hiz0 hiz1 hiz2 rfl (by decide) _ _ _ rfl (HW8.out.alloc _) ⟨w8.heap.size, 0, none⟩ 1 1 [.int .i64 (117 + (r : Int))] rfl rfl (World.news_of_block (cs := #[.int .i64 (117 + (r : Int))]) (t := 3) (fr := (0, 0)) (heap_last w8 _)) (by simp [Value.oneCell']) (by omega) (by unfold maxLen; omega) (by omega) (by have := HB7.out.size; have := HZ8.out; have := HWS.out; simp only [World.size_alloc]; omega) _ rfl ?_; intro gw cw w9 hownw hgroww hatw hltw; have HGW := Lib.hid hgroww; have HOW := Lib.hid hownw; clear hgroww hownw hatw)
                  go_meet
                  have hk9 : Kp (fun b => b = bd ∨ b < W.heap.size) wr w9 := (HK8.out.alloc _).grown HGW.out (fun c hc hs => HWB.out c hc hs)
                  have kg : KpT (fun t => t ≠ 3) w8 w9 := (KpT.below ((Below.refl _ w8).alloc (Nat.le_refl _) _)).trans (KpT.grown (HW8.out.alloc _) HGW.out)
                  refine ⟨bad, by rw [Sp.nextGo_snoc, if_pos (by rw [HMV.out]; omega), ← HNX.out], rfl, ?_, (HRL.out.keep m (.inl (by omega))), hk9, ?_, ownsRow_kpT HS8.out kg (by decide), ?_⟩
                  · rw [decide_eq_true (List.mem_append.2 (.inl HC.out))]
                  · rw [HMV.out]; exact kg _ _ _ _ HQ8.out (by decide)
                  · rw [if_pos (by rw [HMV.out]; omega), HMV.out]; exact HOW.out
                · rw [decide_eq_false hc]
                  have HC := Lib.hid hc
                  clear hc
                  rcases h3c with h3 | h3
                  · have h3b : ((117 + (r : Int)) == 120) = true := by rw [beq_iff_eq]; omega
                    have h3d : 117 + (r : Int) = 120 := by omega
                    have H3D := Lib.hid h3d
                    clear h3 h3d
                    go_wp2_with (at_builtin; refine wpList_append_lies _ rfl _ _ 23 rfl W.heap.size 3 ii0 _ 1 8 Tryd.underlying23 hii0 hiz0 hiz1 hiz2 rfl (by decide) _ _ _ rfl (HW8.out.alloc _) ⟨w8.heap.size, 0, none⟩ 1 1 [.int .i64 (117 + (r : Int))] rfl rfl (World.news_of_block (cs := #[.int .i64 (117 + (r : Int))]) (t := 3) (fr := (0, 0)) (heap_last w8 _)) (by simp [Value.oneCell']) (by omega) (by unfold maxLen; omega) (by omega) (by have := HB7.out.size; have := HZ8.out; have := HWS.out; simp only [World.size_alloc]; omega) _ rfl ?_; intro gw cw w9 hownw hgroww hatw hltw; have HGW := Lib.hid hgroww; have HOW := Lib.hid hownw; clear hgroww hownw hatw)
                    go_meet
                    have hk9 : Kp (fun b => b = bd ∨ b < W.heap.size) wr w9 := (HK8.out.alloc _).grown HGW.out (fun c hc hs => HWB.out c hc hs)
                    have kg : KpT (fun t => t ≠ 3) w8 w9 := (KpT.below ((Below.refl _ w8).alloc (Nat.le_refl _) _)).trans (KpT.grown (HW8.out.alloc _) HGW.out)
                    refine ⟨bad, by rw [Sp.nextGo_snoc, if_pos (by rw [HMV.out]; omega), ← HNX.out], rfl, ?_, (HRL.out.keep m (.inl (by omega))), hk9, ?_, ownsRow_kpT HS8.out kg (by decide), ?_⟩
                    · rw [decide_eq_true (List.mem_append.2 (.inr (by rw [HMV.out, H3D.out]; exact List.mem_singleton.2 rfl)))]
                    · rw [HMV.out]; exact kg _ _ _ _ HQ8.out (by decide)
                    · rw [if_pos (by rw [HMV.out]; omega), HMV.out]; exact HOW.out
                  · have h3b : ((117 + (r : Int)) == 120) = false := by rw [beq_eq_false_iff_ne]; omega
                    have h3d : ¬ 117 + (r : Int) = 120 := by omega
                    have H3D := Lib.hid h3d
                    clear h3 h3d
                    go_wp2_with (at_builtin; refine wpList_append_lies _ rfl _ _ 23 rfl W.heap.size 3 ii0 _ 1 8 Tryd.underlying23 hii0 hiz0 hiz1 hiz2 rfl (by decide) _ _ _ rfl (HW8.out.alloc _) ⟨w8.heap.size, 0, none⟩ 1 1 [.int .i64 (117 + (r : Int))] rfl rfl (World.news_of_block (cs := #[.int .i64 (117 + (r : Int))]) (t := 3) (fr := (0, 0)) (heap_last w8 _)) (by simp [Value.oneCell']) (by omega) (by unfold maxLen; omega) (by omega) (by have := HB7.out.size; have := HZ8.out; have := HWS.out; simp only [World.size_alloc]; omega) _ rfl ?_; intro gw cw w9 hownw hgroww hatw hltw; have HGW := Lib.hid hgroww; have HOW := Lib.hid hownw; clear hgroww hownw hatw)
                    go_meet
                    have hk9 : Kp (fun b => b = bd ∨ b < W.heap.size) wr w9 := (HK8.out.alloc _).grown HGW.out (fun c hc hs => HWB.out c hc hs)
                    have kg : KpT (fun t => t ≠ 3) w8 w9 := (KpT.below ((Below.refl _ w8).alloc (Nat.le_refl _) _)).trans (KpT.grown (HW8.out.alloc _) HGW.out)
                    refine ⟨bad, by rw [Sp.nextGo_snoc, if_pos (by rw [HMV.out]; omega), ← HNX.out], rfl, ?_, (HRL.out.keep m (.inl (by omega))), hk9, ?_, ownsRow_kpT HS8.out kg (by decide), ?_⟩
                    · rw [decide_eq_false (by rw [List.mem_append, HMV.out]; rintro (h | h); exact HC.out h; exact H3D.out (List.mem_singleton.1 h).symm)]
                    · rw [HMV.out]; exact kg _ _ _ _ HQ8.out (by decide)
                    · rw [if_pos (by rw [HMV.out]; omega), HMV.out]; exact HOW.out
            · obtain rfl : r = 0 := by omega
              have hm : m = 0 := by rw [HM.out, if_neg (by omega)]
              have HMV := Lib.hid hm
              clear hm hr0
              go_wp2_with (at_builtin; refine wpList_append_lies _ rfl _ _ 23 rfl W.heap.size 3 ii0 _ 1 8 Tryd.underlying23 hii0 hiz0 hiz1 hiz2 rfl (by decide) _ _ _ rfl ((ownsRow_below HW.out HB7.out).alloc _) ⟨w7.heap.size, 0, none⟩ 1 1 [.int .i64 (nx)] rfl rfl (World.news_of_block (cs := #[.int .i64 (nx)]) (t := 3) (fr := (0, 0)) (heap_last w7 _)) (by simp [Value.oneCell']) (by omega) (by unfold maxLen; omega) (by omega) (by have := HB7.out.size; have := HWS.out; simp only [World.size_alloc]; omega) _ rfl ?_; intro gw cw w8 hownw hgroww hatw hltw; have HGW := Lib.hid hgroww; have HOW := Lib.hid hownw; clear hgroww hownw hatw)
              go_meet
              have hk8 : Kp (fun b => b = bd ∨ b < W.heap.size) wr w8 := (((Kp.of_below HB7.out (fun _ hk _ => hk)) : Kp (fun b => b = bd ∨ b < W.heap.size) wr w7).alloc _).grown HGW.out (fun c hc hs => HWB.out c hc hs)
              have kg : KpT (fun t => t ≠ 3) w7 w8 := (KpT.below ((Below.refl _ w7).alloc (Nat.le_refl _) _)).trans (KpT.grown ((ownsRow_below HW.out HB7.out).alloc _) HGW.out)
              have hmv := HMV.out
              subst hmv
              refine ⟨bad, by rw [Sp.nextGo_snoc, ← HNX.out]; rfl, rfl, by simp, HRL.out.keep 0 (.inr (by omega)), hk8, kg _ _ _ _ HX7.out (by decide), ownsRow_kpT (ownsRow_below HO.out HB7.out) kg (by decide), ?_⟩
              rw [if_neg (by omega), ← HNX.out]
              exact HOW.out
          case rest =>
            obtain ⟨bad2, rfl, rfl, rfl, hrl2, hmid⟩ := hcut
            obtain ⟨w8, hw8⟩ : ∃ w8 : World, w8 = wc := ⟨_, rfl⟩
            subst hw8
            have HR2 := Lib.hid hrl2; have HMD := Lib.hid hmid
            obtain ⟨b7, hb7⟩ : ∃ b, b = decide (120 ∈ ns ++ [m]) := ⟨_, rfl⟩
            obtain ⟨nx2, hnx2⟩ : ∃ b, b = Sp.nextGo 57346 (ns ++ [m]) := ⟨_, rfl⟩
            rw [← hb7, ← hnx2]
            have HB72 := Lib.hid hb7; have HNX2 := Lib.hid hnx2
            clear hb7 hnx2
            have q0 := hmid.sym
            have c0 := cell_at (i := 0) q0; have c1 := cell_at (i := 1) q0; have c2 := cell_at (i := 2) q0; have c3 := cell_at (i := 3) q0
            have l0 := lt_at q0
            have q1 := hmid.kp.at HDB.out (.inl rfl)
            have d2 := cell_at (i := 2) q1
            have g2' := frozen_at (i := 2) q1
            have l1 := lt_at q1
            have HSK : Hid (∀ w', Kp (fun b => b = bd) w8 w' → (w'.cell? ⟨bd, 2, none⟩ = some (.slice sa k sc) ∧ w'.frozen? ⟨bd, 2, none⟩ = false) ∧ bd < w'.heap.size) := Lib.hid (fun w' kp => by
              have q0 := kp.at (HMD.out.kp.at HDB.out (.inl rfl)) rfl
              exact ⟨⟨cell_at (i := 2) q0, frozen_at (i := 2) q0⟩, lt_at q0⟩)
            have HSZ : Hid (W.heap.size ≤ w8.heap.size) := Lib.hid (Nat.le_trans HWS.out hmid.kp.size)
            clear hrl2 hmid q0 q1
            go_wp2_with (at_builtin; refine wpList_append_lies _ rfl _ _ 41 rfl W.heap.size 40 is0 _ 4 40 Tryd.underlying41 his0 hsz0 hsz1 hsz2 rfl (by decide) _ _ _ rfl (HMD.out.syms.alloc _) ⟨w8.heap.size, 0, none⟩ 1 1 (symC ⟨110 :: Lib.itoa (k : Int), false, m, 10 * (k : Int)⟩) rfl rfl (World.news_of_block (cs := #[.string ⟨(110 :: Lib.itoa (k : Int)).toArray⟩, .bool false, .int .i64 m, .int .i64 (10 * (k : Int))]) (t := 40) (fr := (0, 0)) (heap_last w8 _)) (by simp [Value.oneCell', symC]) (by omega) (by unfold maxLen; omega) (by omega) (by have := HSZ.out; simp only [World.size_alloc]; omega) _ rfl ?_; intro g2 c2 w9 hown2 hgrow2 hat2 hlt2; have HG9 := Lib.hid hgrow2; have HO9 := Lib.hid hown2; obtain ⟨⟨z1, z2⟩, hl8⟩ := HSK.out w9 (((Kp.refl _ w8).alloc _).grown hgrow2 (fun c hc hs => HNB.out c hc (.inl hs))); clear hgrow2 hown2 hat2)
            go_roundg (12 - (k + 1))
            case measure => omega
            case rel =>
              have hk9 : Kp (fun b => b = bd ∨ b < W.heap.size) wr w9 := (HMD.out.kp.alloc _).grown HG9.out (fun c hc hs => HNB.out c hc hs)
              have kg : KpT (fun t => t ≠ 40) w8 w9 := (KpT.below ((Below.refl _ w8).alloc (Nat.le_refl _) _)).trans (KpT.grown (HMD.out.syms.alloc _) HG9.out)
              have hs := HST.out.step HNS.out hk9 (ownsRow_kpT HMD.out.want kg (by decide)) HO9.out rfl
              have h1 : Sp.numL l (k + 1) = ns ++ [m] := HN1.out
              refine ⟨k + 1, .slice (some ⟨g2, 0, none⟩) (k + 1) c2, bad2, by omega, by omega, rfl, by go_num, ?_, rfl, ?_, ?_, ?_⟩
              · rw [h1, HNX2.out]
              · rw [h1, HB72.out]
              · rw [h1]; exact HR2.out
              · rw [h1]; exact hs
        · have hex : (k < l.length ∧ k = 12) ∨ ¬ k < l.length := by omega
          clear hst hsy hwa hrl hns hnsd hnx hkn
          rcases hex with ⟨hx, rfl⟩ | hx
          all_goals
            go_wp2_with fail
            go_meet
            refine ⟨_, _, bad, hk12, ?_, rfl, ?_, ?_, HND.out ▸ HST.out⟩
            · rw [← HND.out]; exact HNS.out
            · rw [← HND.out]
            · rw [← HND.out]; exact HRL.out
  case rest =>
    clear HI0
    obtain ⟨k, sv, bad, hk12, hns, rfl, rfl, hrl, hst⟩ := hcut
    obtain ⟨w, hw⟩ : ∃ w : World, w = wc := ⟨_, rfl⟩
    subst hw
    obtain ⟨ns, hnsd⟩ : ∃ ns, ns = (Sp.numL l k) := ⟨_, rfl⟩
    have hbds : ∀ n ∈ ns, 0 ≤ n ∧ n ≤ 125 := by rw [hnsd]; exact fun n hn => Sp.numL_bd hn
    rw [← hnsd] at hns hrl hst ⊢
    clear hnsd
    have HRL := Lib.hid hrl; have HST := Lib.hid hst; have HNS := Lib.hid hns; have HBDS := Lib.hid hbds
    obtain ⟨b7, hb7⟩ : ∃ b, b = decide (120 ∈ ns) := ⟨_, rfl⟩
    rw [← hb7]
    have HB7 := Lib.hid hb7
    have hsy := hst.syms
    rw [hns] at hsy
    obtain ⟨sa, sc, rfl⟩ := ownsRowS_some hsy
    have hwa := hst.want
    rw [hns] at hwa
    obtain ⟨wa, wc0, rfl⟩ := ownsRowS_some hwa
    have HO := Lib.hid hsy; have HW := Lib.hid hwa
    have HBW := Lib.hid hst.bel
    clear hb7 hrl hst hns hbds hsy hwa
    go_wp2_with fail
    refine (law9_lit [120] 777 _).mono ?_
    rintro e w2 ⟨rfl, hb2⟩
    go_wp2_with fail
    refine (law9_part [120] true 0 777 w2).mono ?_
    rintro e w3 ⟨rfl, hb3⟩
    have HB3 : Hid (Below w.heap.size w w3) := Lib.hid (hb2.trans (hb3.mono hb2.size))
    clear hb2 hb3
    have q1 := (HB3.out.block _ (lt_at HST.out.box)).trans HST.out.box
    have d0 := cell_at (i := 0) q1; have d1 := cell_at (i := 1) q1; have d2 := cell_at (i := 2) q1; have d3 := cell_at (i := 3) q1
    have l1 := lt_at q1
    have HQ1 := Lib.hid q1
    clear q1
    go_upto_region 23 with fail
    have HB03 : Hid (Below W.heap.size W w3) := Lib.hid (HBW.out.trans (HB3.out.mono HBW.out.size))
    obtain ⟨w4, hw4⟩ : ∃ w4 : World, w4 = (((w3.alloc (.cells #[.string ⟨#[120]⟩, .bool true, .int .i64 0, .int .i64 777, .string ⟨#[]⟩, .int .i64 777] 46)).alloc (.cells #[.slice (some ⟨w3.heap.size, 0, none⟩) 1 1, .string ⟨#[]⟩, .bool false, .int .i64 0, .int .i64 0, .int .i64 0] 49)).alloc (.cells #[.string ⟨#[97]⟩, .slice (some ⟨w3.heap.size + 1, 0, none⟩) 1 1, .int .i64 0] 52)).alloc (.cells #[.string ⟨#[]⟩, .slice none 0 0, .slice (some ⟨w3.heap.size + 1 + 1, 0, none⟩) 1 1, .string ⟨#[]⟩] 29) := ⟨_, rfl⟩
    rw [← hw4]
    have hb4 : Below w3.heap.size w3 w4 := by rw [hw4]; exact (three_below w3 _ _ _).alloc (by simp; omega) _
    have P4 : PassSt W.heap.size w4 (w3.heap.size + 1 + 1 + 1) (w3.heap.size + 1 + 1) (w3.heap.size + 1) (.slice none 0 0) (.slice (some ⟨w3.heap.size, 0, none⟩) 1 1) [] [⟨⟨[120], true, 0, 777⟩, [], 777⟩] := by
      have hsz := HB03.out.size
      obtain ⟨q0, q1, q2⟩ := three_c (W := w3) (w' := w4) (c1 := #[.string ⟨#[120]⟩, .bool true, .int .i64 0, .int .i64 777, .string ⟨#[]⟩, .int .i64 777]) (c2 := #[.slice (some ⟨w3.heap.size, 0, none⟩) 1 1, .string ⟨#[]⟩, .bool false, .int .i64 0, .int .i64 0, .int .i64 0]) (c3 := #[.string ⟨#[97]⟩, .slice (some ⟨w3.heap.size + 1, 0, none⟩) 1 1, .int .i64 0]) (t1 := 46) (t2 := 49) (t3 := 52) (by rw [hw4]; exact (Below.refl _ _).alloc (by simp) _)
      refine ⟨?_, q2, q1, owns_block q0 hsz rfl (by decide), OwnR.nil _ _ _ _ _ _, by omega, by omega, by omega⟩
      rw [hw4]
      have h := heap_last (((w3.alloc (.cells #[.string ⟨#[120]⟩, .bool true, .int .i64 0, .int .i64 777, .string ⟨#[]⟩, .int .i64 777] 46)).alloc (.cells #[.slice (some ⟨w3.heap.size, 0, none⟩) 1 1, .string ⟨#[]⟩, .bool false, .int .i64 0, .int .i64 0, .int .i64 0] 49)).alloc (.cells #[.string ⟨#[97]⟩, .slice (some ⟨w3.heap.size + 1, 0, none⟩) 1 1, .int .i64 0] 52)) (.cells #[.string ⟨#[]⟩, .slice none 0 0, .slice (some ⟨w3.heap.size + 1 + 1, 0, none⟩) 1 1, .string ⟨#[]⟩] 29)
      simp only [World.size_alloc] at h
      exact h
    have hq4 := (hb4.block _ (lt_at HQ1.out)).trans HQ1.out
    have e0 := cell_at (i := 0) hq4; have e1 := cell_at (i := 1) hq4; have e2 := cell_at (i := 2) hq4; have e3 := cell_at (i := 3) hq4
    have l4 := lt_at hq4
    have HP4 := Lib.hid P4
    have HW4 : Hid (w4.ownsRow W.heap.size 3 1 (.slice wa (3 + k) wc0) (3 + k) (intsC (Sp.wantL ns))) := Lib.hid (ownsRow_below (ownsRow_below HW.out HB3.out) hb4)
    have HO4 : Hid (w4.ownsRow W.heap.size 40 4 (.slice sa k sc) k ((Sp.numSyms 0 ns).map symC).flatten) := Lib.hid (ownsRow_below (ownsRow_below HO.out HB3.out) hb4)
    have HB4 : Hid (Below W.heap.size W w4) := Lib.hid (HB03.out.trans (hb4.mono HB03.out.size))
    have HBS : Hid (W.heap.size + 3 ≤ w3.heap.size + 1 + 1 + 1) := Lib.hid (by have := HB03.out.size; omega)
    have sl := lt_at P4.src
    have sf := frozen_at (i := 1) P4.src
    have sc1 := cell_at (i := 1) P4.src
    clear hw4 hb4 P4 hq4 HB3 HW HO HQ1 d0 d1 d2 d3 l1 HB03
    generalize w3.heap.size + 1 + 1 + 1 = bs at HP4 HBS sl sf sc1 ⊢
    generalize w3.heap.size + 1 + 1 = br at HP4 ⊢
    generalize w3.heap.size + 1 = ba at HP4 ⊢
    generalize w3.heap.size = bp at HP4 ⊢
    go_upto_if 88 with fail
    go_cut [] (fun wx => ∃ dv, PassS2 W.heap.size wx bs dv (.slice (some ⟨br, 0, none⟩) 1 1) (Sp.numSrc ns).decls (Sp.numSrc ns).rules ∧ wx.ownsRow W.heap.size 3 1 (.slice wa (3 + k) wc0) (3 + k) (intsC (Sp.wantL ns)) ∧ Below W.heap.size W wx)
    case first =>
      by_cases hk0 : k = 0
      · subst hk0
        go_wp2_with fail
        go_meet
        have hn : ns = [] := List.eq_nil_of_length_eq_zero HNS.out
        exact ⟨_, by rw [hn]; exact HP4.out.two, HW4.out, HB4.out⟩
      · have hkp : 0 < k := by omega
        have hkpI : (0 : Int) < (k : Int) := by omega
        go_wp2_with fail
        go_meet
        obtain ⟨h1, h2, h3⟩ := HP4.out.two.setDecl1 HO4.out (by rw [Sp.numSyms_len, HNS.out]) HB4.out.size rfl
        refine ⟨.slice (some ⟨w4.heap.size, 0, none⟩) 1 1, ?_, ownsRow_kpT HW4.out h2 (by decide), HB4.out.trans h3⟩
        have hn : ns ≠ [] := by
          rintro h
          have := HNS.out
          rw [h] at this
          simp at this
          omega
        rw [show (Sp.numSrc ns).decls = [⟨1, [], Sp.numSyms 0 ns, 0⟩] by simp [Sp.numSrc, hn]]
        exact h1
    case rest =>
      clear HP4 HW4 HB4 HO4 HST HBW sl sf sc1 e0 e1 e2 e3 l4
      obtain ⟨dv, hps, hwn, hbw⟩ := hcut
      obtain ⟨w, hw⟩ : ∃ w : World, w = wc := ⟨_, rfl⟩
      subst hw
      have q0 := hps.src
      have c0 := cell_at (i := 0) q0; have c1 := cell_at (i := 1) q0; have c2 := cell_at (i := 2) q0; have c3 := cell_at (i := 3) q0
      have lb := lt_at q0
      have hof := gram_Of (Sp.numSrc ns) dv (.slice (some ⟨br, 0, none⟩) 1 1) w (decls_at hps.decls) (rules_at hps.rules) (num_small ns (by rw [HNS.out]; omega)) (HG.out.up hbw (by have := HG.out.2.1; have := HBS.out; omega))
      have hbd2 : ∀ n ∈ ns, 0 ≤ n ∧ n ≤ 50000 := fun n hn => ⟨(HBDS.out n hn).1, by have := (HBDS.out n hn).2; omega⟩
      have hcs : (∃ i : Nat, bad = (i : Int) ∧ i < 12 ∧ Sp.gramOf (Sp.numSrc ns) = (Sp.noGram, ⟨3, 10 * (i : Int), 110 :: Lib.itoa (i : Int)⟩)) ∨ (bad < 0 ∧ ((b7 = true ∧ Sp.gramOf (Sp.numSrc ns) = (Sp.noGram, ⟨3, 777, [120]⟩)) ∨ (b7 = false ∧ Sp.gramOf (Sp.numSrc ns) = (Sp.numGram ns, ⟨0, 0, []⟩)))) := by
        by_cases h0 : 0 ≤ bad
        · left
          obtain ⟨i, rfl, hi⟩ := NumRel_nat HRL.out h0
          rw [HNS.out] at hi
          exact ⟨i, rfl, by omega, Sp.num_bad_law HRL.out (by rw [HNS.out]; exact hk12) hbd2 h0⟩
        · right
          refine ⟨by omega, ?_⟩
          have h := Sp.num_ok_law HRL.out (by rw [HNS.out]; exact hk12) hbd2 h0
          rw [HB7.out]
          by_cases h120 : 120 ∈ ns
          · exact .inl ⟨decide_eq_true h120, by rw [h, if_pos h120]⟩
          · exact .inr ⟨decide_eq_false h120, by rw [h, if_neg h120]⟩
      have HCS := Lib.hid hcs; have HOF := Lib.hid hof; have HBW := Lib.hid hbw; have HWN := Lib.hid hwn
      clear hcs hof hps hbw hwn q0 hbd2
      go_upto_region 25 with fail
      rcases HCS.out with ⟨i, rfl, hi, hg⟩ | ⟨hbad, hg⟩
      · have hof := HOF.out
        rw [hg] at hof
        have HOF2 := Lib.hid hof
        have hiI : (0 : Int) ≤ (i : Int) := by omega
        have hiJ : (i : Int) < 12 := by omega
        have hbig : ¬ 9223372036854775807 < 1 + (Lib.itoa (i : Int)).length := by
          have := nName_small (i := i) (by omega)
          omega
        have h10 : IntKind.i64.wrap (10 * (i : Int)) = 10 * (i : Int) := IntWalk.i64_in _ ⟨by omega, by omega⟩
        have H10 := Lib.hid h10
        clear hof hg HCS HOF h10
        go_wp2_with fail
        refine HOF2.out.mono ?_
        rintro e w2 ⟨hb2, gv, rfl, hgo⟩
        obtain ⟨B, ta, tc, na, nc, pa, pc, rfl, _⟩ := hgo
        have HEND : Hid (∀ wb, Below w2.heap.size w2 wb → Below W.heap.size W wb) := Lib.hid (fun wb hb => (HBW.out.trans (hb2.mono HBW.out.size)).trans (hb.mono (Nat.le_trans HBW.out.size hb2.size)))
        clear hb2 c0 c1 c2 c3 lb
        rw [show Sp.noGram.toks.length = 0 from rfl, show Sp.noGram.nons.length = 0 from rfl, show Sp.noGram.prods.length = 0 from rfl, show Sp.noGram.pro = [] from rfl, show Sp.noGram.tail = [] from rfl]
        rw [show faultV (Sp.noGram, (⟨3, 10 * (i : Int), 110 :: Lib.itoa (i : Int)⟩ : Sp.Fault)).2 = .agg #[.int .i64 3, .int .i64 (10 * (i : Int)), .string ⟨(110 :: Lib.itoa (i : Int)).toArray⟩] from rfl]
        go_upto_region 27 with fail
        obtain ⟨wF, hwF⟩ : ∃ wF : World, wF = (w2.alloc (.cells #[.slice ta 0 tc, .slice na 0 nc, .slice pa 0 pc, .string ⟨#[]⟩, .string ⟨#[]⟩] 65)).alloc (.cells #[.int .i64 3, .int .i64 (10 * (i : Int)), .string ⟨(110 :: Lib.itoa (i : Int)).toArray⟩] 68) := ⟨_, rfl⟩
        rw [← hwF]
        have hgF : wF.heap[w2.heap.size]? = some (.cells #[.slice ta 0 tc, .slice na 0 nc, .slice pa 0 pc, .string ⟨#[]⟩, .string ⟨#[]⟩] 65 (0, 0)) := by rw [hwF]; exact heap_old (heap_last w2 _) _
        have hfF : wF.heap[w2.heap.size + 1]? = some (.cells #[.int .i64 3, .int .i64 (10 * (i : Int)), .string ⟨(110 :: Lib.itoa (i : Int)).toArray⟩] 68 (0, 0)) := by rw [hwF]; exact heap_sec w2 _ _
        have HBF : Hid (Below w2.heap.size w2 wF) := Lib.hid (by rw [hwF]; exact ((Below.refl _ w2).alloc (Nat.le_refl _) _).alloc (by simp) _)
        have HSK : Hid (∀ w', Kp (fun b => b = w2.heap.size ∨ b = w2.heap.size + 1) wF w' → ((w'.cell? ⟨w2.heap.size, 0, none⟩ = some (.slice ta 0 tc)) ∧ w'.cell? ⟨w2.heap.size + 1, 0, none⟩ = some (.int .i64 3) ∧ w'.cell? ⟨w2.heap.size + 1, 1, none⟩ = some (.int .i64 (10 * (i : Int))) ∧ w'.cell? ⟨w2.heap.size + 1, 2, none⟩ = some (.string ⟨(110 :: Lib.itoa (i : Int)).toArray⟩) ∧ w2.heap.size < w'.heap.size ∧ w2.heap.size + 1 < w'.heap.size)) := Lib.hid (fun w' kp => by
          have g := kp.at hgF (.inl rfl); have f := kp.at hfF (.inr rfl)
          exact ⟨cell_at (i := 0) g, cell_at (i := 0) f, cell_at (i := 1) f, cell_at (i := 2) f, lt_at g, lt_at f⟩)
        clear hwF hgF hfF
        have h10 := H10.out
        refine wp_region_plan (fun w' : World => ((w'.cell? ⟨w2.heap.size, 0, none⟩ = some (.slice ta 0 tc)) ∧ w'.cell? ⟨w2.heap.size + 1, 0, none⟩ = some (.int .i64 3) ∧ w'.cell? ⟨w2.heap.size + 1, 1, none⟩ = some (.int .i64 (10 * (i : Int))) ∧ w'.cell? ⟨w2.heap.size + 1, 2, none⟩ = some (.string ⟨(110 :: Lib.itoa (i : Int)).toArray⟩) ∧ w2.heap.size < w'.heap.size ∧ w2.heap.size + 1 < w'.heap.size)) [] (.take 0 (.take 1 (.take 2 (.take 3 (.one 4 (.one 5 (.one 6 (.take 7 (.take 8 (.take 9 (.take 10 (.take 11 (.take 12 (.one 13 (.done))))))))))))))) (by kernel_rfl) (by kernel_rfl) (fun _ _ _ _ h => h) ?_
        have hSw := HSK.out _ ((Kp.refl _ wF).drew)
        refine wpPlan_take (v := ?vn1) rfl hSw (by rfl) ?yn1 ?_
        case yn1 => (intro w hSx; (try dsimp only at hSx); go_simp; first | done | with_reducible rfl | rfl)
        (try simp only [Act.put, List.setIfInBounds_toArray, List.set_cons_zero, List.set_cons_succ])
        refine wpPlan_take (v := ?vn2) rfl hSw (by rfl) ?yn2 ?_
        case yn2 => (intro w hSx; (try dsimp only at hSx); go_simp; first | done | with_reducible rfl | rfl)
        (try simp only [Act.put, List.setIfInBounds_toArray, List.set_cons_zero, List.set_cons_succ])
        refine wpPlan_take (v := ?vn3) rfl hSw (by rfl) ?yn3 ?_
        case yn3 => (intro w hSx; (try dsimp only at hSx); go_simp; first | done | with_reducible rfl | rfl)
        (try simp only [Act.put, List.setIfInBounds_toArray, List.set_cons_zero, List.set_cons_succ])
        refine wpPlan_take (v := ?vn4) rfl hSw (by rfl) ?yn4 ?_
        case yn4 => (intro w hSx; (try dsimp only at hSx); go_simp; first | done | with_reducible rfl | rfl)
        (try simp only [Act.put, List.setIfInBounds_toArray, List.set_cons_zero, List.set_cons_succ])
        refine wpPlan_run rfl (by rfl) (fun K' hK => ?_)
        (go_simp; go_at_call 21; refine (ref_Digits (i : Int) _ (by omega) (by omega)).mono ?_; rintro e w5 ⟨rfl, hb5⟩; have hb5' : Below wF.heap.size wF w5 := below_undrew hb5)
        refine hK _ _ (.inr ?_) ?_
        · exact HSK.out _ (Kp.of_below hb5' (fun _ hk _ => hk))
        clear hK K' hSw
        have hSw := HSK.out _ (Kp.of_below hb5' (fun _ hk _ => hk))
        (try simp only [Act.put, List.setIfInBounds_toArray, List.set_cons_zero, List.set_cons_succ])
        refine wpPlan_run rfl (by rfl) (fun K' hK => ?_)
        go_simp
        refine hK _ _ (.inr ?_) ?_
        · exact HSK.out _ (Kp.of_below hb5' (fun _ hk _ => hk))
        clear hK K' hSw
        have hSw := HSK.out _ (Kp.of_below hb5' (fun _ hk _ => hk))
        (try simp only [Act.put, List.setIfInBounds_toArray, List.set_cons_zero, List.set_cons_succ])
        refine wpPlan_run rfl (by rfl) (fun K' hK => ?_)
        (go_simp; go_at_call 29; refine (ref_EqFaultG 3 (10 * (i : Int)) 3 (10 * (i : Int)) (110 :: Lib.itoa (i : Int)) (110 :: Lib.itoa (i : Int)) _).mono ?_; rintro e w6 ⟨rfl, hb6⟩; rw [show decide (((3 : Int) = 3 ∧ 10 * (i : Int) = 10 * (i : Int)) ∧ 110 :: Lib.itoa (i : Int) = 110 :: Lib.itoa (i : Int)) = true by simp]; have hb6' : Below wF.heap.size wF w6 := hb5'.trans (hb6.mono hb5'.size))
        refine hK _ _ (.inr ?_) ?_
        · exact HSK.out _ (Kp.of_below hb6' (fun _ hk _ => hk))
        clear hK K' hSw
        have hSw := HSK.out _ (Kp.of_below hb6' (fun _ hk _ => hk))
        (try simp only [Act.put, List.setIfInBounds_toArray, List.set_cons_zero, List.set_cons_succ])
        refine wpPlan_take (v := ?vn5) rfl hSw (by rfl) ?yn5 ?_
        case yn5 => (intro w hSx; (try dsimp only at hSx); go_simp; first | done | with_reducible rfl | rfl)
        (try simp only [Act.put, List.setIfInBounds_toArray, List.set_cons_zero, List.set_cons_succ])
        refine wpPlan_take (v := ?vn6) rfl hSw (by rfl) ?yn6 ?_
        case yn6 => (intro w hSx; (try dsimp only at hSx); go_simp; first | done | with_reducible rfl | rfl)
        (try simp only [Act.put, List.setIfInBounds_toArray, List.set_cons_zero, List.set_cons_succ])
        refine wpPlan_take (v := ?vn7) rfl hSw (by rfl) ?yn7 ?_
        case yn7 => (intro w hSx; (try dsimp only at hSx); go_simp; first | done | with_reducible rfl | rfl)
        (try simp only [Act.put, List.setIfInBounds_toArray, List.set_cons_zero, List.set_cons_succ])
        refine wpPlan_take (v := ?vn8) rfl hSw (by rfl) ?yn8 ?_
        case yn8 => (intro w hSx; (try dsimp only at hSx); go_simp; first | done | with_reducible rfl | rfl)
        (try simp only [Act.put, List.setIfInBounds_toArray, List.set_cons_zero, List.set_cons_succ])
        refine wpPlan_take (v := ?vn9) rfl hSw (by rfl) ?yn9 ?_
        case yn9 => (intro w hSx; (try dsimp only at hSx); go_simp; first | done | with_reducible rfl | rfl)
        (try simp only [Act.put, List.setIfInBounds_toArray, List.set_cons_zero, List.set_cons_succ])
        refine wpPlan_take (v := ?vn10) rfl hSw (by rfl) ?yn10 ?_
        case yn10 => (intro w hSx; (try dsimp only at hSx); go_simp; first | done | with_reducible rfl | rfl)
        (try simp only [Act.put, List.setIfInBounds_toArray, List.set_cons_zero, List.set_cons_succ])
        refine wpPlan_run rfl (by rfl) (fun K' hK => ?_)
        go_simp
        refine hK _ _ (.inr ?_) ?_
        · exact HSK.out _ (Kp.of_below hb6' (fun _ hk _ => hk))
        clear hK K' hSw
        (try simp only [Act.put, List.setIfInBounds_toArray, List.set_cons_zero, List.set_cons_succ])
        refine wpPlan_done ?_
        go_wp2_with fail
        go_ret
        exact ⟨rfl, HEND.out _ (HBF.out.trans (hb6'.mono HBF.out.size))⟩
      · rcases hg with ⟨hb7, hg⟩ | ⟨hb7, hg⟩
        · subst hb7
          have hof := HOF.out
          rw [hg] at hof
          have HOF2 := Lib.hid hof
          clear hof hg HCS HOF
          go_wp2_with fail
          refine HOF2.out.mono ?_
          rintro e w2 ⟨hb2, gv, rfl, hgo⟩
          obtain ⟨B, ta, tc, na, nc, pa, pc, rfl, _⟩ := hgo
          have HEND : Hid (∀ wa, Below w2.heap.size w2 wa → ∀ wb, Below wa.heap.size wa wb → Below W.heap.size W wb) := Lib.hid (fun wa ha wb hb => ((HBW.out.trans (hb2.mono HBW.out.size)).trans (ha.mono (Nat.le_trans HBW.out.size hb2.size))).trans (hb.mono (Nat.le_trans (Nat.le_trans HBW.out.size hb2.size) ha.size)))
          clear hb2 c0 c1 c2 c3 lb
          rw [show Sp.noGram.toks.length = 0 from rfl, show Sp.noGram.nons.length = 0 from rfl, show Sp.noGram.prods.length = 0 from rfl]
          rw [show faultV (Sp.noGram, (⟨3, 777, [120]⟩ : Sp.Fault)).2 = .agg #[.int .i64 3, .int .i64 777, .string ⟨#[120]⟩] from rfl]
          go_wp2_with fail
          refine (ref_EqFaultG 3 777 3 777 [120] [120] _).mono ?_
          rintro e w3' ⟨rfl, hb3⟩
          rw [show decide (((3 : Int) = 3 ∧ (777 : Int) = 777) ∧ ([120] : List UInt8) = [120]) = true by simp]
          obtain ⟨r0, _⟩ := two_firstc (hb3.mono (by simp))
          have k0 := cell_at (i := 0) r0; have k2 := cell_at (i := 2) r0
          have lk := lt_at r0
          have HB3 := Lib.hid hb3
          clear r0 hb3
          go_wp2_with fail
          go_ret
          exact ⟨rfl, HEND.out _ (((Below.refl _ w2).alloc (Nat.le_refl _) _).alloc (by simp) _) _ HB3.out⟩
        · subst hb7
          have hof := HOF.out
          rw [hg] at hof
          have HOF2 := Lib.hid hof
          clear hof hg HCS HOF
          obtain ⟨N, hN⟩ : ∃ N, N = 3 + k := ⟨_, rfl⟩
          have hN15 : N ≤ 15 := by omega
          have hnm := Sp.numGram_nums ns (fun n hn => (HBDS.out n hn).1)
          have htl : (Sp.numGram ns).toks.length = N + 1 := by
            have := congrArg List.length hnm
            rw [List.length_map, List.length_append, wantL_len, HNS.out] at this
            rw [this, hN]
            rfl
          have HNM := Lib.hid hnm
          have hwl : (Sp.wantL ns).length = N := by rw [wantL_len, HNS.out, hN]
          have HWL := Lib.hid hwl
          rw [← hN] at HWN ⊢
          have HNN := Lib.hid hN
          clear hN hnm hwl
          go_wp2_with fail
          refine HOF2.out.mono ?_
          rintro e w2 ⟨hb2, gv, rfl, hgo⟩
          have hga := hgo.at
          obtain ⟨B, ta, tc, na, nc, pa, pc, rfl, _⟩ := hgo
          obtain ⟨tv, nv, pv, ev, ht, hn, _⟩ := hga
          replace ev := Value.agg.inj ev
          simp only [Array.mk.injEq, List.cons.injEq] at ev
          obtain ⟨rfl, rfl, rfl, ev'⟩ := ev
          have hwi := (ints_own (by rw [HWL.out]; exact HWN.out)).below (hb2)
          have HEND : Hid (∀ wb, Below w2.heap.size w2 wb → Below W.heap.size W wb) := Lib.hid (fun wb hb => (HBW.out.trans (hb2.mono HBW.out.size)).trans (hb.mono (Nat.le_trans HBW.out.size hb2.size)))
          clear ev' hb2 c0 c1 c2 c3 lb
          rw [htl] at ht ⊢
          rw [show (Sp.numGram ns).nons.length = 2 from rfl, show (Sp.numGram ns).prods.length = 2 from rfl, show (Sp.numGram ns).pro = [] from rfl, show (Sp.numGram ns).tail = [] from rfl]
          have hrow : ∀ (j : Nat) (z : Int), (Sp.wantL ns ++ [120])[j]? = some z → ∃ u, (Sp.numGram ns).toks[j]? = some u ∧ u.num = z := fun j z hz => by
            rw [← HNM.out, List.getElem?_map] at hz
            exact Option.map_eq_some_iff.1 hz
          obtain ⟨u, hu, hu2⟩ := hrow N 120 (by rw [List.getElem?_append_right (by rw [HWL.out]; exact Nat.le_refl _), HWL.out, Nat.sub_self]; rfl)
          obtain ⟨bT, oT, rfl, htb, htc⟩ := ht.at (k := N) (row := tokC u) (by rw [List.getElem?_map, hu]; rfl)
          have t2 := htc w2 (Below.refl _ _) 2 _ rfl
          rw [hu2] at t2
          obtain ⟨z0, hz0⟩ : ∃ z, (Sp.wantL ns)[0]? = some z := ⟨0, rfl⟩
          obtain ⟨bV, oV, rfl, hvb, hvc⟩ := SlAt.at hwi (k := 0) (row := [.int .i64 z0]) (by rw [List.getElem?_map, hz0]; rfl)
          have HT := Lib.hid ht; have HWI := Lib.hid hwi; have HROW := Lib.hid hrow
          clear ht hn htc hu hu2 hwi hvc hz0 hrow htl
          rw [show faultV (Sp.numGram ns, (⟨0, 0, []⟩ : Sp.Fault)).2 = .agg #[.int .i64 0, .int .i64 0, .string ⟨#[]⟩] from rfl]
          go_wp2_with fail
          obtain ⟨wE, hwE⟩ : ∃ wE : World, wE = (w2.alloc (.cells #[.slice (some ⟨bT, oT, none⟩) (N + 1) tc, .slice na 2 nc, .slice pa 2 pc, .string ⟨#[]⟩, .string ⟨#[]⟩] 65)).alloc (.cells #[.int .i64 0, .int .i64 0, .string ⟨#[]⟩] 68) := ⟨_, rfl⟩
          rw [← hwE]
          have hgE : wE.heap[w2.heap.size]? = some (.cells #[.slice (some ⟨bT, oT, none⟩) (N + 1) tc, .slice na 2 nc, .slice pa 2 pc, .string ⟨#[]⟩, .string ⟨#[]⟩] 65 (0, 0)) := by rw [hwE]; exact heap_old (heap_last w2 _) _
          have HBE : Hid (Below w2.heap.size w2 wE) := Lib.hid (by rw [hwE]; exact ((Below.refl _ w2).alloc (Nat.le_refl _) _).alloc (by simp) _)
          have gc := cell_at (i := 0) hgE
          have gl := lt_at hgE
          have bl1 : bT < wE.heap.size := Nat.lt_of_lt_of_le htb HBE.out.size
          have bl2 : bV < wE.heap.size := Nat.lt_of_lt_of_le hvb HBE.out.size
          clear hwE hgE t2 htb hvb
          go_loopg [14] N (fun q iv wr => ∃ (j nn : Nat), j ≤ N ∧ q = N - j ∧ iv = .int .i64 j ∧ wr = wE.drewN nn)
          case atStart => exact ⟨0, 0, by omega, rfl, rfl, rfl⟩
          case round =>
            obtain ⟨j, nn, hj, rfl, rfl, rfl⟩ := hrel
            by_cases hjn : j < N
            · obtain ⟨z, hz⟩ : ∃ z, (Sp.wantL ns)[j]? = some z := ⟨_, List.getElem?_eq_getElem (by rw [HWL.out]; exact hjn)⟩
              obtain ⟨u, hu, hu2⟩ := HROW.out j z (by rw [List.getElem?_append_left (by rw [HWL.out]; exact hjn)]; exact hz)
              obtain ⟨b1, o1, e1, _, htc⟩ := HT.out.at (k := j) (row := tokC u) (by rw [List.getElem?_map, hu]; rfl)
              obtain ⟨rfl, rfl⟩ : bT = b1 ∧ oT = o1 := by simpa using e1
              obtain ⟨b2, o2, e2, _, hvc⟩ := SlAt.at HWI.out (k := j) (row := [.int .i64 z]) (by rw [List.getElem?_map, hz]; rfl)
              obtain ⟨rfl, rfl⟩ : bV = b2 ∧ oV = o2 := by simpa using e2
              have t2 := htc wE HBE.out 2 _ rfl
              rw [hu2] at t2
              have v0 := hvc wE HBE.out 0 _ rfl
              simp only [Nat.add_zero, Nat.mul_one] at v0
              clear htc hvc hz hu hu2 e1 e2
              go_wp2_with fail
              go_quiet (fail)
              go_wp2_with fail
              go_roundg (N - (j + 1))
              case measure => omega
              case rel => exact ⟨j + 1, _, by omega, rfl, by go_num, rfl⟩
            · obtain rfl : j = N := by omega
              go_wp2_with fail
              go_ret
              exact ⟨rfl, HEND.out _ (below_drewN HBE.out _)⟩
end Go.Proofs.YthmimcegiihcnaaDoor
