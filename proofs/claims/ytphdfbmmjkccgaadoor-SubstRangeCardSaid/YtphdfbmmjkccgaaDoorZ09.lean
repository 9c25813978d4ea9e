/- Layer 8, the reference: May. A law's own cut of a source, yucca/yuccalaw8.cut: its loops over parts, alternatives, rules. Plain functions: a grammar by numbers, and the source that is made of it (yuccalaw0.Source); it may be. No program in sight. The walks of what makes a source of a grammar by numbers: symbols. Rows of a call's own whose elements name rows, each with a block of its own: one of them written. The walk of yuccalaw0.Source: the source that is made of a grammar by numbers. -/
import Derived.Test.YtphdfbmmjkccgaaDoorZ07
import Derived.Test.YtphdfbmmjkccgaaDoorZ08
import Derived.Deep.RegionHeld3
import Derived.Deep.AppendLies
import Derived.Deep.DeepCutAuto
import Derived.Deep.CutBlock
import Derived.Deep.LoopGhost
import Derived.Lib.ItoaLen
import Derived.Test.YtphdfbmmjkccgaaDoorZ05
import Derived.Test.YtphdfbmmjkccgaaDoorZ02
import Derived.Test.YtphdfbmmjkccgaaDoorZ06
import Derived.Test.YtphdfbmmjkccgaaDoorZ04
import Derived.Test.YtphdfbmmjkccgaaDoorZ03
namespace Go.Proofs.YtphdfbmmjkccgaaDoor
open Go.RowKit

theorem idx_row {α : Type} {f : Nat → Value} {row : Value → α → List Value} {l : List α} {k : Nat} {a : α} (h : l[k]? = some a) : (l.mapIdx fun i a => row (f i) a)[k]? = some (row (f k) a) := by
  rw [List.getElem?_mapIdx, h]; rfl
theorem pair_test (l : List UInt8) (k : Nat) (h : k + 2 ≤ l.length) : ∃ c d, l.drop k = c :: d :: l.drop (k + 2) ∧ ((⟨l.toArray⟩ : ByteArray).extract k (k + 2)).data.toList = [c, d] := by
  have h1 : l.drop k = l[k] :: l.drop (k + 1) := List.drop_eq_getElem_cons (by omega)
  have h2 : l.drop (k + 1) = l[k + 1] :: l.drop (k + 2) := List.drop_eq_getElem_cons (by omega)
  refine ⟨l[k], l[k + 1], by rw [h1, h2], ?_⟩
  rw [ext_any]
  show (l.drop k).take (k + 2 - k) = _
  rw [show k + 2 - k = 2 by omega, h1, h2]
  rfl

set_option maxRecDepth 100000 in
set_option maxHeartbeats 12800000 in
theorem ref7_May (x : Sp.Source) (vd vr : Value) (W : World) (hd : DeclsAt W vd x.decls) (hr : RulesAt W vr x.rules) (hs : smallSrc x) :
    Calls Tryd.prog 37 #[.agg (srcC vd vr x).toArray] W fun e w' => e = .returned (.bool (Sp.may x)) ∧ Below W.heap.size W w' := by
  obtain ⟨hs1, hs2, hs3, hs4, hs5, hs6⟩ := hs
  have hq : Sp.may x = (!decide (0 ≤ Lib.index x.pro [37, 125]) && (x.decls.all Sp.mayDecl && (x.rules.all Sp.mayRule && decide (0 < x.rules.length)))) := by
    unfold Sp.may
    cases decide (0 ≤ Lib.index x.pro [37, 125]) <;> cases x.decls.all Sp.mayDecl <;> cases x.rules.all Sp.mayRule <;> cases decide (0 < x.rules.length) <;> rfl
  rw [hq]
  obtain ⟨pr, ds, rs, tl⟩ := x
  simp only at hs1 hs3 hs4 hs5 hs6 hd hr
  generalize hR1 : decide (0 ≤ Lib.index pr [37, 125]) = R1
  generalize hR2 : ds.all Sp.mayDecl = R2
  generalize hR3 : rs.all Sp.mayRule = R3
  obtain ⟨fd, hd1, hd2⟩ := hd
  obtain ⟨fr, hr1, hr2⟩ := hr
  obtain ⟨ad, cd, rfl⟩ := hd1.form
  obtain ⟨ar, cr, rfl⟩ := hr1.form
  have HD1 := Lib.hid hd1; have HD2 := Lib.hid hd2; have HR1 := Lib.hid hr1; have HR2 := Lib.hid hr2
  rw [List.length_mapIdx] at *
  rw [List.length_mapIdx] at *
  generalize hm : ds.length = m at *
  generalize hn : rs.length = n at *
  have HM := Lib.hid hm; have HN := Lib.hid hn
  have HQ1 := Lib.hid hR1; have HQ2 := Lib.hid hR2; have HQ3 := Lib.hid hR3
  have HS5 := Lib.hid hs5; have HS6 := Lib.hid hs6
  clear hd1 hd2 hr1 hr2 hm hn hR1 hR2 hR3 hs5 hs6 hs2 hq
  have hprl : (⟨pr.toArray⟩ : ByteArray).size = pr.length := by rw [Lib.size_eq]
  generalize hpl : pr.length = pl at *
  have HPL := Lib.hid hpl
  clear hpl
  show Calls _ _ #[.agg #[.string ⟨pr.toArray⟩, .slice ad m cd, .slice ar n cr, .string ⟨tl.toArray⟩]] _ _
  go_enter Tryd.func37, Tryd.ntmps37
  go_wp2_with fail
  go_loopg [3] pl (fun g iv wr => ∃ k : Nat, k ≤ pl ∧ g = pl - k ∧ iv = .int .i64 k ∧ decide (0 ≤ Lib.index (pr.drop k) [37, 125]) = R1 ∧ wr = W.alloc (.cells #[.string ⟨pr.toArray⟩, .slice ad m cd, .slice ar n cr, .string ⟨tl.toArray⟩] 29))
  case atStart => exact ⟨0, Nat.zero_le _, rfl, rfl, HQ1.out, rfl⟩
  case round =>
    obtain ⟨k, hk, rfl, rfl, hi, rfl⟩ := hrel
    have HI := Lib.hid hi
    clear hi
    have hk0 : (0 : Int) ≤ (k : Int) := Int.natCast_nonneg _
    by_cases hkn : k + 1 < pl
    · obtain ⟨c, d, hdr, hext⟩ := pair_test pr k (by have := HPL.out; omega)
      have hi := HI.out
      rw [hdr, Sp.index_two] at hi
      have hdr1 : pr.drop (k + 1) = d :: pr.drop (k + 2) := by
        have h2 : pr.drop (k + 1) = (pr.drop k).drop 1 := by rw [List.drop_drop]
        rw [h2, hdr]; rfl
      rw [← hdr1] at hi
      have hte : (((⟨pr.toArray⟩ : ByteArray).extract k (k + 2)).toList == [37, 125]) = (c == 37 && d == 125) := by
        rw [Lib.toList_data, hext]; simp
      generalize (c == 37 && d == 125) = q at hi hte
      have HI2 := Lib.hid hi
      have hk2 : k + 2 ≤ pl := by omega
      clear hi hdr hext hdr1 HI
      cases q with
      | true =>
        go_wp2_with fail
        go_ret
        exact ⟨ret_bool (by rw [← HI2.out]; rfl), below_box (Below.refl _ _)⟩
      | false =>
        go_wp2_with fail
        go_roundg (pl - (k + 1))
        case measure => omega
        case rel => exact ⟨k + 1, by omega, rfl, by go_num, by rw [← HI2.out]; rfl, rfl⟩
    · have hsh := Sp.index_short (pr.drop k) 37 125 (by rw [List.length_drop]; have := HPL.out; omega)
      have hR1 := HI.out
      rw [hsh] at hR1
      subst hR1
      clear HI hsh
      go_wp2_with fail
      go_loopg [4] m (fun g iv wr => ∃ k : Nat, k ≤ m ∧ g = m - k ∧ iv = .int .i64 k ∧ (ds.drop k).all Sp.mayDecl = R2 ∧ Below (W.heap.size + 1) (W.alloc (.cells #[.string ⟨pr.toArray⟩, .slice ad m cd, .slice ar n cr, .string ⟨tl.toArray⟩] 29)) wr)
      case atStart => exact ⟨0, Nat.zero_le _, rfl, rfl, HQ2.out, Below.refl _ _⟩
      case round =>
        clear hkn hk hk0
        obtain ⟨k, hk, rfl, rfl, hi, hbel⟩ := hrel
        have HI := Lib.hid hi
        have hF := (hbel.block W.heap.size (by omega)).trans (heap_last W _)
        have c1 := cell_at (i := 1) hF; have c2 := cell_at (i := 2) hF
        have hl1 := lt_at hF
        have HB := Lib.hid hbel
        have hk0 : (0 : Int) ≤ (k : Int) := Int.natCast_nonneg _
        have hsz : W.heap.size + 1 ≤ wr.heap.size := by have := HB.out.size; simp at this; omega
        clear hi hF hbel
        by_cases hkn : k < m
        · have hkl : k < ds.length := by have := HM.out; omega
          have hp : ds[k]? = some ds[k] := List.getElem?_eq_getElem hkl
          have hmem : ds[k] ∈ ds := List.getElem_mem hkl
          have hdr : ds.drop k = ds[k] :: ds.drop (k + 1) := List.drop_eq_getElem_cons hkl
          generalize ds[k] = d at *
          obtain ⟨b, off, rfl, hbl, hc⟩ := HD1.out.at (k := k) (idx_row hp)
          have hcc := hc _ (below_box HB.out)
          have hin := HD2.out k d hp
          have HC := Lib.hid (ref7_mayDecl d (fd k) wr (hin.below (below_box HB.out)) (HS5.out d hmem))
          obtain ⟨iv', ic', hiv⟩ := hin.form
          rw [List.length_map] at hiv
          rw [hiv] at HC hcc
          have hi := HI.out
          rw [hdr, List.all_cons] at hi
          generalize Sp.mayDecl d = q at HC hi
          have HI2 := Lib.hid hi
          obtain ⟨dk, dt, dsy, dp⟩ := d
          have a0 := hcc 0 _ rfl; have a1 := hcc 1 _ rfl; have a2 := hcc 2 _ rfl; have a3 := hcc 3 _ rfl
          simp only [Nat.add_zero] at a0
          have hk1 : (k : Int) < (m : Int) := by omega
          clear hc hcc hp hmem hdr hi HI hkl hin hiv
          go_wp2_with fail
          refine HC.out.mono ?_
          rintro e w' ⟨rfl, hb'⟩
          have HB2 := Lib.hid (HB.out.trans (hb'.mono hsz))
          clear hb'
          cases q with
          | false =>
            go_wp2_with fail
            go_ret
            exact ⟨ret_bool (by rw [← HI2.out]; rfl), below_box HB2.out⟩
          | true =>
            go_wp2_with fail
            go_roundg (m - (k + 1))
            case measure => omega
            case rel => exact ⟨k + 1, by omega, rfl, by go_num, by rw [← HI2.out]; rfl, HB2.out⟩
        · obtain rfl : m = k := by omega
          have hdn : ds.drop m = [] := List.drop_of_length_le (by have := HM.out; omega)
          have hR2 := HI.out
          rw [hdn] at hR2
          have hR2' : true = R2 := hR2
          subst hR2'
          clear HI hdn hR2
          go_wp2_with fail
          obtain ⟨wo, HB0⟩ : ∃ wo : World, Hid (Below (W.heap.size + 1) (W.alloc (.cells #[.string ⟨pr.toArray⟩, .slice ad m cd, .slice ar n cr, .string ⟨tl.toArray⟩] 29)) wo) := ⟨wr, HB⟩
          go_loopg [5] n (fun g iv wr => ∃ k : Nat, k ≤ n ∧ g = n - k ∧ iv = .int .i64 k ∧ (rs.drop k).all Sp.mayRule = R3 ∧ Below (W.heap.size + 1) (W.alloc (.cells #[.string ⟨pr.toArray⟩, .slice ad m cd, .slice ar n cr, .string ⟨tl.toArray⟩] 29)) wr)
          case atStart => exact ⟨0, Nat.zero_le _, rfl, rfl, HQ3.out, HB.out⟩
          case round =>
            clear hkn hk hk0 hsz c1 c2 hl1 HB HB0
            obtain ⟨k, hk, rfl, rfl, hi, hbel⟩ := hrel
            have HI := Lib.hid hi
            have hF := (hbel.block W.heap.size (by omega)).trans (heap_last W _)
            have c1 := cell_at (i := 1) hF; have c2 := cell_at (i := 2) hF
            have hl1 := lt_at hF
            have HB := Lib.hid hbel
            have hk0 : (0 : Int) ≤ (k : Int) := Int.natCast_nonneg _
            have hsz : W.heap.size + 1 ≤ wr.heap.size := by have := HB.out.size; simp at this; omega
            clear hi hF hbel
            by_cases hkn : k < n
            · have hkl : k < rs.length := by have := HN.out; omega
              have hp : rs[k]? = some rs[k] := List.getElem?_eq_getElem hkl
              have hmem : rs[k] ∈ rs := List.getElem_mem hkl
              have hdr : rs.drop k = rs[k] :: rs.drop (k + 1) := List.drop_eq_getElem_cons hkl
              generalize rs[k] = r at *
              obtain ⟨b, off, rfl, hbl, hc⟩ := HR1.out.at (k := k) (idx_row hp)
              have hcc := hc _ (below_box HB.out)
              obtain ⟨fa, ha1, ha2⟩ := HR2.out k r hp
              obtain ⟨hsr1, hsr2, hsr3⟩ := HS6.out r hmem
              obtain ⟨aa, ca, hfa⟩ := ha1.form
              rw [List.length_mapIdx] at hfa
              rw [hfa] at ha1 hcc
              have hi := HI.out
              rw [hdr, List.all_cons] at hi
              have hmr : Sp.mayRule r = (Sp.isName r.left && decide (0 < r.alts.length) && r.alts.all Sp.mayAlt) := rfl
              rw [hmr] at hi
              have HNM := Lib.hid (fun w => ref_Name ⟨r.left.toArray⟩ w (by rw [Lib.size_eq]; show r.left.length < _; omega))
              have HT : (⟨r.left.toArray⟩ : ByteArray).data.toList = r.left := rfl
              rw [HT] at HNM
              generalize Sp.isName r.left = q1 at HNM hi
              obtain ⟨lf, al, rp⟩ := r
              simp only at hsr2 hsr3 ha1 ha2 hi
              have HA1 := Lib.hid ha1; have HA2 := Lib.hid ha2; have HSR := Lib.hid hsr3
              generalize hal : al.length = na at *
              generalize hR4 : al.all Sp.mayAlt = R4 at *
              have HQ4 := Lib.hid hR4
              have HAL := Lib.hid hal
              have HI2 := Lib.hid hi
              have a0 := hcc 0 _ rfl; have a1 := hcc 1 _ rfl; have a2 := hcc 2 _ rfl
              simp only [Nat.add_zero] at a0
              have hk1 : (k : Int) < (n : Int) := by omega
              have hlb : b < wr.heap.size := by omega
              clear hc hcc hp hmem hdr hi HI hkl ha1 ha2 hsr3 hfa hmr hR4 hal HT
              cases q1 with
              | false =>
                go_wp2_with (go_at_call 69; refine (HNM.out _).mono ?_; rintro e w' ⟨rfl, rfl⟩)
                go_ret
                exact ⟨ret_bool (by rw [← HI2.out]; simp), below_box (HB.out.alloc hsz _)⟩
              | true =>
                by_cases hna : na = 0
                · subst hna
                  go_wp2_with (go_at_call 69; refine (HNM.out _).mono ?_; rintro e w' ⟨rfl, rfl⟩)
                  go_ret
                  exact ⟨ret_bool (by rw [← HI2.out]; simp), below_box (HB.out.alloc hsz _)⟩
                · have hnap : ((na : Int) == 0) = false := by rw [beq_eq_false_iff_ne]; omega
                  have hnad : decide (0 < na) = true := by rw [decide_eq_true_iff]; omega
                  have HI3 : Hid ((R4 && (rs.drop (k + 1)).all Sp.mayRule) = R3) := Lib.hid (by rw [← HI2.out, hnad]; simp)
                  clear HI2 hnad
                  go_wp2_with (go_at_call 69; refine (HNM.out _).mono ?_; rintro e w' ⟨rfl, rfl⟩)
                  obtain ⟨wo, hwo⟩ : ∃ wo : World, wo = wr := ⟨_, rfl⟩
                  subst hwo
                  obtain ⟨ko, hko⟩ : ∃ ko : Nat, ko = k := ⟨_, rfl⟩
                  subst hko
                  have HB0 := HB
                  have HF0 : Hid (∀ w2, Below (wo.heap.size + 1) (wo.alloc (.cells #[.string ⟨lf.toArray⟩, .slice aa na ca, .int .i64 rp] 37)) w2 → Below (W.heap.size + 1) (W.alloc (.cells #[.string ⟨pr.toArray⟩, .slice ad m cd, .slice (some ⟨b, off, none⟩) n cr, .string ⟨tl.toArray⟩] 29)) w2) := Lib.hid (fun w2 h => (HB0.out.alloc hsz _).trans (h.mono (by omega)))
                  go_loopg [7] na (fun g iv wr => ∃ k : Nat, k ≤ na ∧ g = na - k ∧ iv = .int .i64 k ∧ (al.drop k).all Sp.mayAlt = R4 ∧ Below (wo.heap.size + 1) (wo.alloc (.cells #[.string ⟨lf.toArray⟩, .slice aa na ca, .int .i64 rp] 37)) wr)
                  case atStart => exact ⟨0, Nat.zero_le _, rfl, rfl, HQ4.out, Below.refl _ _⟩
                  case round =>
                    obtain ⟨j, hj, rfl, rfl, hi, hbel⟩ := hrel
                    have HI := Lib.hid hi
                    have hF := (hbel.block wo.heap.size (by omega)).trans (heap_last wo _)
                    have e1 := cell_at (i := 1) hF
                    have hl2 := lt_at hF
                    have HBJ := Lib.hid hbel
                    have hj0 : (0 : Int) ≤ (j : Int) := Int.natCast_nonneg _
                    have hszj : wo.heap.size + 1 ≤ wr.heap.size := by have := HBJ.out.size; simp at this; omega
                    clear hi hF hbel c1 c2 a0 a1 a2
                    have hF := ((HF0.out _ HBJ.out).block W.heap.size (by omega)).trans (heap_last W _)
                    have c1 := cell_at (i := 1) hF; have c2 := cell_at (i := 2) hF
                    have hl1' := lt_at hF
                    clear hF
                    by_cases hjn : j < na
                    · have hkl : j < al.length := by have := HAL.out; omega
                      have hp : al[j]? = some al[j] := List.getElem?_eq_getElem hkl
                      have hmem : al[j] ∈ al := List.getElem_mem hkl
                      have hdr : al.drop j = al[j] :: al.drop (j + 1) := List.drop_eq_getElem_cons hkl
                      generalize al[j] = a at *
                      obtain ⟨b2, off2, rfl, hbl2, hc⟩ := HA1.out.at (k := j) (idx_row hp)
                      have hbw := below_box (HF0.out _ HBJ.out)
                      have hcc := hc _ hbw
                      have hin := HA2.out j a hp
                      have HC := Lib.hid (ref7_mayAlt a (fa j) wr (hin.below hbw) (HSR.out a hmem))
                      obtain ⟨iv', ic', hiv⟩ := hin.form
                      rw [List.length_map] at hiv
                      rw [hiv] at HC hcc
                      have hi := HI.out
                      rw [hdr, List.all_cons] at hi
                      generalize Sp.mayAlt a = q at HC hi
                      have HI4 := Lib.hid hi
                      obtain ⟨aps, ⟨anm, alt, anu, apa⟩, apb⟩ := a
                      have a0 := hcc 0 _ rfl; have a1 := hcc 1 _ rfl; have a2 := hcc 2 _ rfl; have a3 := hcc 3 _ rfl; have a4 := hcc 4 _ rfl; have a5 := hcc 5 _ rfl
                      simp only [Nat.add_zero] at a0
                      have hj1 : (j : Int) < (na : Int) := by omega
                      clear hc hcc hp hmem hdr hi HI hkl hin hiv hbw
                      go_wp2_with fail
                      refine HC.out.mono ?_
                      rintro e w' ⟨rfl, hb'⟩
                      have HBJ2 := Lib.hid (HBJ.out.trans (hb'.mono hszj))
                      clear hb'
                      cases q with
                      | false =>
                        go_wp2_with fail
                        go_ret
                        exact ⟨ret_bool (by rw [← HI3.out, ← HI4.out]; rfl), below_box (HF0.out _ HBJ2.out)⟩
                      | true =>
                        go_wp2_with fail
                        go_roundg (na - (j + 1))
                        case measure => omega
                        case rel => exact ⟨j + 1, by omega, rfl, by go_num, by rw [← HI4.out]; rfl, HBJ2.out⟩
                    · obtain rfl : j = na := by omega
                      have hdn : al.drop j = [] := List.drop_of_length_le (by have := HAL.out; omega)
                      have hR4 := HI.out
                      rw [hdn] at hR4
                      have hR4' : true = R4 := hR4
                      subst hR4'
                      clear HI hdn hR4
                      go_wp2_with fail
                      go_roundg (n - (ko + 1))
                      case measure => omega
                      case rel => exact ⟨ko + 1, by omega, rfl, by go_num, by rw [← HI3.out]; rfl, HF0.out _ HBJ.out⟩
            · obtain rfl : k = n := by omega
              have hdn : rs.drop k = [] := List.drop_of_length_le (by have := HN.out; omega)
              have hR3 := HI.out
              rw [hdn] at hR3
              have hR3' : true = R3 := hR3
              subst hR3'
              clear HI hdn hR3
              go_wp2_with fail
              go_ret
              exact ⟨ret_bool (by rw [Bool.eq_iff_iff]; simp), below_box HB.out⟩
end Go.Proofs.YtphdfbmmjkccgaaDoor

namespace Go.Proofs.YtphdfbmmjkccgaaDoor
open Go.RowKit

/-- A block of the function's own body, by its number. -/
def findBlock (n : Nat) : Code → Option Code
  | .block i c => if i == n then some (.block i c) else findBlock n c
  | .loop c => findBlock n c
  | .seq a b => match findBlock n a with
    | some c => some c
    | none => findBlock n b
  | .cond _ a b => match findBlock n a with
    | some c => some c
    | none => findBlock n b
  | .scope c => findBlock n c
  | _ => none
end Go.Proofs.YtphdfbmmjkccgaaDoor

namespace Go.Proofs.YtphdfbmmjkccgaaDoor
namespace Sp
open Go.Lib (index indexByte hasPrefix)

def within (i n : Int) : Int := i % n
/-! ### It may be -/
end Sp
open Sp
end Go.Proofs.YtphdfbmmjkccgaaDoor

namespace Go.Proofs.YtphdfbmmjkccgaaDoor
open Go.RowKit

theorem made_Within (i : Int) (n : Nat) (w : World) (hn : 0 < n) (hb : n ≤ 60000) (hi : (Lit.int .i64 i).wf = true) :
    Calls Tryd.prog 7 #[.int .i64 i, .int .i64 n] w fun e w' => e = .returned (.int .i64 (i % (n : Int))) ∧ w = w' := by
  have h1 := Int.tmod_lt_of_pos i (b := (n : Int)) (by omega)
  have h2 : -(n : Int) < i.tmod n := by
    by_cases hi : 0 ≤ i
    · have := Int.tmod_nonneg (n : Int) hi; omega
    · have := Int.tmod_lt_of_pos (-i) (b := (n : Int)) (by omega)
      rw [Int.neg_tmod] at this; omega
  have h3 : i % (n : Int) = if i.tmod n < 0 then i.tmod n + n else i.tmod n := by
    have e1 := Int.mul_tdiv_add_tmod i n
    split
    · refine Int.emod_eq_of_lt (a := i.tmod n + n) (b := (n : Int)) (by omega) (by omega) ▸ ?_
      conv => lhs; rw [← e1]
      rw [Int.mul_add_emod_self_left, Int.add_emod_right]
    · refine Int.emod_eq_of_lt (a := i.tmod n) (b := (n : Int)) (by omega) (by omega) ▸ ?_
      conv => lhs; rw [← e1]
      rw [Int.mul_add_emod_self_left]
  generalize i % (n : Int) = N at *
  have HN := Lib.hid h3
  clear h3
  go_enter Tryd.func7, Tryd.ntmps7
  go_wp2
  all_goals (go_ret; have h3 := HN.out; refine ⟨ret_int ?_, rfl⟩)
  · rw [if_pos (by omega)] at h3
    rw [h3]
  · rw [if_neg (by omega)] at h3
    rw [h3]

end Go.Proofs.YtphdfbmmjkccgaaDoor

namespace Go.Proofs.YtphdfbmmjkccgaaDoor
open Go.RowKit

/-- Each element names a row with a block of its own. -/
def distR (f : Nat → Value) (n : Nat) : Prop := ∀ i j c, i < n → j < n → i ≠ j → (f i).ownBlock = some c → (f j).ownBlock ≠ some c
def OwnD {α : Type} (row : Value → α → List Value) (e : TypeId) (size : Nat) (child : World → Value → α → Prop) (B : Nat) (w : World) (v : Value) (l : List α) : Prop :=
  ∃ f : Nat → Value, w.ownsRow B e size v l.length (l.mapIdx fun i a => row (f i) a).flatten ∧ (∀ (i : Nat) (a : α), l[i]? = some a → child w (f i) a) ∧ distR f l.length
section
variable {α : Type} {row : Value → α → List Value} {e : TypeId} {size : Nat} {child : World → Value → α → Prop} {B : Nat} {w w' : World} {v : Value} {l : List α}
theorem OwnD.nil (row : Value → α → List Value) (e : TypeId) (size : Nat) (child : World → Value → α → Prop) (B : Nat) (w : World) : OwnD row e size child B w (.slice none 0 0) [] :=
  ⟨fun _ => .bool false, World.ownsRow_nil _ _ _ _, by simp, fun i _ _ hi => by simp at hi⟩
theorem OwnD.kp {T : TypeId → Prop} (h : OwnD row e size child B w v l) (k : KpT T w w') (ht : T e) (hc : ∀ u a, child w u a → child w' u a) : OwnD row e size child B w' v l := by
  obtain ⟨f, h1, h2, h3⟩ := h
  exact ⟨f, ownsRow_kpT h1 k ht, fun i a ha => hc _ _ (h2 i a ha), h3⟩
end
end Go.Proofs.YtphdfbmmjkccgaaDoor

namespace Go.Proofs.YtphdfbmmjkccgaaDoor
open Go.RowKit

theorem ints_cell {W : World} {a : Option Addr} {n cap : Nat} {xs : List Int} (h : IntsAt W (.slice a n cap) xs) {j : Nat} {x : Int} (hx : xs[j]? = some x) :
    ∃ b off, a = some ⟨b, off, none⟩ ∧ b < W.heap.size ∧ ∀ w', Below W.heap.size W w' → w'.cell? ⟨b, off + j, none⟩ = some (.int .i64 x) := by
  obtain ⟨b, off, e, hb, hc⟩ := SlAt.at h (k := j) (row := [Value.int .i64 x]) (by rw [List.getElem?_map, hx]; rfl)
  refine ⟨b, off, e, hb, fun w' hw => ?_⟩
  have := hc w' hw 0 _ rfl
  simpa using this
theorem ints_form {W : World} {v : Value} {xs : List Int} (h : IntsAt W v xs) : ∃ a cap, v = .slice a xs.length cap := by
  obtain ⟨a, cap, e⟩ := SlAt.form h
  rw [List.length_map] at e
  exact ⟨a, cap, e⟩
end Go.Proofs.YtphdfbmmjkccgaaDoor
