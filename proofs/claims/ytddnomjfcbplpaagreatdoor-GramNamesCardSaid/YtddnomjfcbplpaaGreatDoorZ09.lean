import Derived.Test.YtddnomjfcbplpaaGreatDoorZ08
import Derived.BigQuiet
import Derived.Deep.QuietTactic
import Derived.Deep.RegionHeld3
import Derived.Deep.AppendLies
import Derived.Deep.DeepCutAuto
import Derived.Deep.CutBlock
import Derived.Deep.LoopGhost
namespace Go.Proofs.YtddnomjfcbplpaaGreatDoor
open Go.RowKit

theorem idx_row {α : Type} {f : Nat → Value} {row : Value → α → List Value} {l : List α} {k : Nat} {a : α} (h : l[k]? = some a) : (l.mapIdx fun i a => row (f i) a)[k]? = some (row (f k) a) := by
 rw [List.getElem?_mapIdx, h]; rfl
theorem pair_test (l : List UInt8) (k : Nat) (h : k + 2 ≤ l.length) : ∃ c d, l.drop k = c :: d :: l.drop (k + 2) ∧ ((⟨l.toArray⟩ : ByteArray).extract k (k + 2)).data.toList = [c, d] := by
 have h1 : l.drop k = l[k] :: l.drop (k + 1) := List.drop_eq_getElem_cons (by omega); have h2 : l.drop (k + 1) = l[k + 1] :: l.drop (k + 2) := List.drop_eq_getElem_cons (by omega); refine ⟨l[k], l[k + 1], by rw [h1, h2], ?_⟩; rw [ext_any]; show (l.drop k).take (k + 2 - k) = _
 rw [show k + 2 - k = 2 by omega, h1, h2]; rfl

set_option maxRecDepth 100000 in
set_option maxHeartbeats 12800000 in
theorem ref7_May (x : Sp.zM) (vd vr : Value) (W : World) (hd : xD W vd x.decls) (hr : xA W vr x.rules) (hs : xN x) :
  Calls Tryz.prog 26 #[.agg (srcC vd vr x).toArray] W fun e w' => e = .returned (.bool (Sp.may x)) ∧ Below W.heap.size W w' := by
 obtain ⟨hs1, hs2, hs3, hs4, hs5, hs6⟩ := hs
 have hq : Sp.may x = (!decide (0 ≤ Lib.index x.pro [37, 125]) && (x.decls.all Sp.yF && (x.rules.all Sp.qL && decide (0 < x.rules.length)))) := by
  unfold Sp.may; cases decide (0 ≤ Lib.index x.pro [37, 125]) <;> cases x.decls.all Sp.yF <;> cases x.rules.all Sp.qL <;> cases decide (0 < x.rules.length) <;> rfl
 rw [hq]; obtain ⟨pr, ds, rs, tl⟩ := x; simp only at hs1 hs3 hs4 hs5 hs6 hd hr; generalize hR1 : decide (0 ≤ Lib.index pr [37, 125]) = R1; generalize hR2 : ds.all Sp.yF = R2; generalize hR3 : rs.all Sp.qL = R3; obtain ⟨fd, hd1, hd2⟩ := hd; obtain ⟨fr, hr1, hr2⟩ := hr; obtain ⟨ad, cd, rfl⟩ := hd1.form; obtain ⟨ar, cr, rfl⟩ := hr1.form; have HD1 := zh hd1; have HD2 := zh hd2; have HR1 := zh hr1; have HR2 := zh hr2; rw [List.length_mapIdx] at *
 rw [List.length_mapIdx] at *
 generalize hm : ds.length = m at *
 generalize hn : rs.length = n at *
 have HM := zh hm; have HN := zh hn; have HQ1 := zh hR1; have HQ2 := zh hR2; have HQ3 := zh hR3; have HS5 := zh hs5; have HS6 := zh hs6; clear hd1 hd2 hr1 hr2 hm hn hR1 hR2 hR3 hs5 hs6 hs2 hq; have hprl : (⟨pr.toArray⟩ : ByteArray).size = pr.length := by rw [Lib.size_eq]
 generalize hpl : pr.length = pl at *
 have HPL := zh hpl; clear hpl; show Calls _ _ #[.agg #[.string ⟨pr.toArray⟩, .slice ad m cd, .slice ar n cr, .string ⟨tl.toArray⟩]] _ _
 go_enter Tryz.func26, Tryz.ntmps26
 go_wp2_with fail; go_loopg [3] pl (fun g iv wr => ∃ k : Nat, k ≤ pl ∧ g = pl - k ∧ iv = .int .i64 k ∧ decide (0 ≤ Lib.index (pr.drop k) [37, 125]) = R1 ∧ wr = W.alloc (.cells #[.string ⟨pr.toArray⟩, .slice ad m cd, .slice ar n cr, .string ⟨tl.toArray⟩] 25))
 case atStart => exact ⟨0, Nat.zero_le _, rfl, rfl, HQ1.out, rfl⟩
 case round =>
  obtain ⟨k, hk, rfl, rfl, hi, rfl⟩ := hrel; have HI := zh hi; clear hi; have hk0 : (0 : Int) ≤ (k : Int) := Int.natCast_nonneg _; by_cases hkn : k + 1 < pl
  ·obtain ⟨c, d, hdr, hext⟩ := pair_test pr k (by have := HPL.out; omega)
   have hi := HI.out; rw [hdr, Sp.index_two] at hi
   have hdr1 : pr.drop (k + 1) = d :: pr.drop (k + 2) := by
    have h2 : pr.drop (k + 1) = (pr.drop k).drop 1 := by rw [List.drop_drop]
    rw [h2, hdr]; rfl
   rw [← hdr1] at hi
   have hte : (((⟨pr.toArray⟩ : ByteArray).extract k (k + 2)).toList == [37, 125]) = (c == 37 && d == 125) := by
    rw [Lib.toList_data, hext]; simp
   generalize (c == 37 && d == 125) = q at hi hte; have HI2 := zh hi; have hk2 : k + 2 ≤ pl := by omega
   clear hi hdr hext hdr1 HI
   cases q with
   | true =>
    go_wp2_with fail; go_ret; exact ⟨zK (by rw [← HI2.out]; rfl), zT (Below.refl _ _)⟩
   | false =>
    go_wp2_with fail; go_roundg (pl - (k + 1))
    case measure => omega
    case rel => exact ⟨k + 1, by omega, rfl, by go_num, by rw [← HI2.out]; rfl, rfl⟩
  ·have hsh := Sp.index_short (pr.drop k) 37 125 (by rw [List.length_drop]; have := HPL.out; omega)
   have hR1 := HI.out; rw [hsh] at hR1; subst hR1; clear HI hsh; go_wp2_with fail; go_loopg [4] m (fun g iv wr => ∃ k : Nat, k ≤ m ∧ g = m - k ∧ iv = .int .i64 k ∧ (ds.drop k).all Sp.yF = R2 ∧ Below (W.heap.size + 1) (W.alloc (.cells #[.string ⟨pr.toArray⟩, .slice ad m cd, .slice ar n cr, .string ⟨tl.toArray⟩] 25)) wr)
   case atStart => exact ⟨0, Nat.zero_le _, rfl, rfl, HQ2.out, Below.refl _ _⟩
   case round =>
    clear hkn hk hk0; obtain ⟨k, hk, rfl, rfl, hi, hbel⟩ := hrel; have HI := zh hi; have hF := (hbel.block W.heap.size (by omega)).trans (zE W _); have c1 := zc 1 hF; have c2 := zc 2 hF; have hl1 := zC hF; have HB := zh hbel; have hk0 : (0 : Int) ≤ (k : Int) := Int.natCast_nonneg _; have hsz : W.heap.size + 1 ≤ wr.heap.size := by have := HB.out.size; simp at this; omega
    clear hi hF hbel; by_cases hkn : k < m
    ·have hkl : k < ds.length := by have := HM.out; omega
     have hp : ds[k]? = some ds[k] := List.getElem?_eq_getElem hkl; have hmem : ds[k] ∈ ds := List.getElem_mem hkl; have hdr : ds.drop k = ds[k] :: ds.drop (k + 1) := List.drop_eq_getElem_cons hkl; generalize ds[k] = d at *
     obtain ⟨b, off, rfl, hbl, hc⟩ := HD1.out.at (k := k) (idx_row hp); have hcc := hc _ (zT HB.out); have hin := HD2.out k d hp; have HC := zh (ref7_mayDecl d (fd k) wr (hin.below (zT HB.out)) (HS5.out d hmem)); obtain ⟨iv', ic', hiv⟩ := hin.form; rw [List.length_map] at hiv; rw [hiv] at HC hcc; have hi := HI.out; rw [hdr, List.all_cons] at hi; generalize Sp.yF d = q at HC hi; have HI2 := zh hi; obtain ⟨dk, dt, dsy, dp⟩ := d; have a0 := hcc 0 _ rfl; have a1 := hcc 1 _ rfl; have a2 := hcc 2 _ rfl; have a3 := hcc 3 _ rfl; simp only [Nat.add_zero] at a0; have hk1 : (k : Int) < (m : Int) := by omega
     clear hc hcc hp hmem hdr hi HI hkl hin hiv; go_wp2_with fail; refine HC.out.mono ?_; rintro e w' ⟨rfl, hb'⟩; have HB2 := zh (HB.out.trans (hb'.mono hsz)); clear hb'
     cases q with
     | false =>
      go_wp2_with fail; go_ret; exact ⟨zK (by rw [← HI2.out]; rfl), zT HB2.out⟩
     | true =>
      go_wp2_with fail; go_roundg (m - (k + 1))
      case measure => omega
      case rel => exact ⟨k + 1, by omega, rfl, by go_num, by rw [← HI2.out]; rfl, HB2.out⟩
    ·obtain rfl : m = k := by omega
     have hdn : ds.drop m = [] := List.drop_of_length_le (by have := HM.out; omega); have hR2 := HI.out; rw [hdn] at hR2; have hR2' : true = R2 := hR2; subst hR2'; clear HI hdn hR2; go_wp2_with fail; obtain ⟨wo, HB0⟩ : ∃ wo : World, Hid (Below (W.heap.size + 1) (W.alloc (.cells #[.string ⟨pr.toArray⟩, .slice ad m cd, .slice ar n cr, .string ⟨tl.toArray⟩] 25)) wo) := ⟨wr, HB⟩
     go_loopg [5] n (fun g iv wr => ∃ k : Nat, k ≤ n ∧ g = n - k ∧ iv = .int .i64 k ∧ (rs.drop k).all Sp.qL = R3 ∧ Below (W.heap.size + 1) (W.alloc (.cells #[.string ⟨pr.toArray⟩, .slice ad m cd, .slice ar n cr, .string ⟨tl.toArray⟩] 25)) wr)
     case atStart => exact ⟨0, Nat.zero_le _, rfl, rfl, HQ3.out, HB.out⟩
     case round =>
      clear hkn hk hk0 hsz c1 c2 hl1 HB HB0; obtain ⟨k, hk, rfl, rfl, hi, hbel⟩ := hrel; have HI := zh hi; have hF := (hbel.block W.heap.size (by omega)).trans (zE W _); have c1 := zc 1 hF; have c2 := zc 2 hF; have hl1 := zC hF; have HB := zh hbel; have hk0 : (0 : Int) ≤ (k : Int) := Int.natCast_nonneg _; have hsz : W.heap.size + 1 ≤ wr.heap.size := by have := HB.out.size; simp at this; omega
      clear hi hF hbel; by_cases hkn : k < n
      ·have hkl : k < rs.length := by have := HN.out; omega
       have hp : rs[k]? = some rs[k] := List.getElem?_eq_getElem hkl; have hmem : rs[k] ∈ rs := List.getElem_mem hkl; have hdr : rs.drop k = rs[k] :: rs.drop (k + 1) := List.drop_eq_getElem_cons hkl; generalize rs[k] = r at *
       obtain ⟨b, off, rfl, hbl, hc⟩ := HR1.out.at (k := k) (idx_row hp); have hcc := hc _ (zT HB.out); obtain ⟨fa, ha1, ha2⟩ := HR2.out k r hp; obtain ⟨hsr1, hsr2, hsr3⟩ := HS6.out r hmem; obtain ⟨aa, ca, hfa⟩ := ha1.form; rw [List.length_mapIdx] at hfa; rw [hfa] at ha1 hcc; have hi := HI.out; rw [hdr, List.all_cons] at hi; have hmr : Sp.qL r = (Sp.xI r.left && decide (0 < r.alts.length) && r.alts.all Sp.qZ) := rfl; rw [hmr] at hi; have HNM := zh (fun w => ref_Name ⟨r.left.toArray⟩ w (by rw [Lib.size_eq]; show r.left.length < _; omega)); have HT : (⟨r.left.toArray⟩ : ByteArray).data.toList = r.left := rfl; rw [HT] at HNM; generalize Sp.xI r.left = q1 at HNM hi; obtain ⟨lf, al, rp⟩ := r; simp only at hsr2 hsr3 ha1 ha2 hi; have HA1 := zh ha1; have HA2 := zh ha2; have HSR := zh hsr3; generalize hal : al.length = na at *
       generalize hR4 : al.all Sp.qZ = R4 at *
       have HQ4 := zh hR4; have HAL := zh hal; have HI2 := zh hi; have a0 := hcc 0 _ rfl; have a1 := hcc 1 _ rfl; have a2 := hcc 2 _ rfl; simp only [Nat.add_zero] at a0; have hk1 : (k : Int) < (n : Int) := by omega
       have hlb : b < wr.heap.size := by omega
       clear hc hcc hp hmem hdr hi HI hkl ha1 ha2 hsr3 hfa hmr hR4 hal HT
       cases q1 with
       | false =>
        go_wp2_with (go_at_call 49; refine (HNM.out _).mono ?_; rintro e w' ⟨rfl, rfl⟩)
        go_ret; exact ⟨zK (by rw [← HI2.out]; simp), zT (HB.out.alloc hsz _)⟩
       | true =>
        by_cases hna : na = 0
        ·subst hna
         go_wp2_with (go_at_call 49; refine (HNM.out _).mono ?_; rintro e w' ⟨rfl, rfl⟩)
         go_ret; exact ⟨zK (by rw [← HI2.out]; simp), zT (HB.out.alloc hsz _)⟩
        ·have hnap : ((na : Int) == 0) = false := by rw [beq_eq_false_iff_ne]; omega
         have hnad : decide (0 < na) = true := by rw [decide_eq_true_iff]; omega
         have HI3 : Hid ((R4 && (rs.drop (k + 1)).all Sp.qL) = R3) := zh (by rw [← HI2.out, hnad]; simp); clear HI2 hnad; go_wp2_with (go_at_call 49; refine (HNM.out _).mono ?_; rintro e w' ⟨rfl, rfl⟩)
         obtain ⟨wo, hwo⟩ : ∃ wo : World, wo = wr := ⟨_, rfl⟩
         subst hwo; obtain ⟨ko, hko⟩ : ∃ ko : Nat, ko = k := ⟨_, rfl⟩
         subst hko; have HB0 := HB; have HF0 : Hid (∀ w2, Below (wo.heap.size + 1) (wo.alloc (.cells #[.string ⟨lf.toArray⟩, .slice aa na ca, .int .i64 rp] 63)) w2 → Below (W.heap.size + 1) (W.alloc (.cells #[.string ⟨pr.toArray⟩, .slice ad m cd, .slice (some ⟨b, off, none⟩) n cr, .string ⟨tl.toArray⟩] 25)) w2) := zh (fun w2 h => (HB0.out.alloc hsz _).trans (h.mono (by omega))); go_loopg [7] na (fun g iv wr => ∃ k : Nat, k ≤ na ∧ g = na - k ∧ iv = .int .i64 k ∧ (al.drop k).all Sp.qZ = R4 ∧ Below (wo.heap.size + 1) (wo.alloc (.cells #[.string ⟨lf.toArray⟩, .slice aa na ca, .int .i64 rp] 63)) wr)
         case atStart => exact ⟨0, Nat.zero_le _, rfl, rfl, HQ4.out, Below.refl _ _⟩
         case round =>
          obtain ⟨j, hj, rfl, rfl, hi, hbel⟩ := hrel; have HI := zh hi; have hF := (hbel.block wo.heap.size (by omega)).trans (zE wo _); have e1 := zc 1 hF; have hl2 := zC hF; have HBJ := zh hbel; have hj0 : (0 : Int) ≤ (j : Int) := Int.natCast_nonneg _; have hszj : wo.heap.size + 1 ≤ wr.heap.size := by have := HBJ.out.size; simp at this; omega
          clear hi hF hbel c1 c2 a0 a1 a2; have hF := ((HF0.out _ HBJ.out).block W.heap.size (by omega)).trans (zE W _); have c1 := zc 1 hF; have c2 := zc 2 hF; have hl1' := zC hF; clear hF; by_cases hjn : j < na
          ·have hkl : j < al.length := by have := HAL.out; omega
           have hp : al[j]? = some al[j] := List.getElem?_eq_getElem hkl; have hmem : al[j] ∈ al := List.getElem_mem hkl; have hdr : al.drop j = al[j] :: al.drop (j + 1) := List.drop_eq_getElem_cons hkl; generalize al[j] = a at *
           obtain ⟨b2, off2, rfl, hbl2, hc⟩ := HA1.out.at (k := j) (idx_row hp); have hbw := zT (HF0.out _ HBJ.out); have hcc := hc _ hbw; have hin := HA2.out j a hp; have HC := zh (ref7_mayAlt a (fa j) wr (hin.below hbw) (HSR.out a hmem)); obtain ⟨iv', ic', hiv⟩ := hin.form; rw [List.length_map] at hiv; rw [hiv] at HC hcc; have hi := HI.out; rw [hdr, List.all_cons] at hi; generalize Sp.qZ a = q at HC hi; have HI4 := zh hi; obtain ⟨aps, ⟨anm, alt, anu, apa⟩, apb⟩ := a; have a0 := hcc 0 _ rfl; have a1 := hcc 1 _ rfl; have a2 := hcc 2 _ rfl; have a3 := hcc 3 _ rfl; have a4 := hcc 4 _ rfl; have a5 := hcc 5 _ rfl; simp only [Nat.add_zero] at a0; have hj1 : (j : Int) < (na : Int) := by omega
           clear hc hcc hp hmem hdr hi HI hkl hin hiv hbw; go_wp2_with fail; refine HC.out.mono ?_; rintro e w' ⟨rfl, hb'⟩; have HBJ2 := zh (HBJ.out.trans (hb'.mono hszj)); clear hb'
           cases q with
           | false =>
            go_wp2_with fail; go_ret; exact ⟨zK (by rw [← HI3.out, ← HI4.out]; rfl), zT (HF0.out _ HBJ2.out)⟩
           | true =>
            go_wp2_with fail; go_roundg (na - (j + 1))
            case measure => omega
            case rel => exact ⟨j + 1, by omega, rfl, by go_num, by rw [← HI4.out]; rfl, HBJ2.out⟩
          ·obtain rfl : j = na := by omega
           have hdn : al.drop j = [] := List.drop_of_length_le (by have := HAL.out; omega); have hR4 := HI.out; rw [hdn] at hR4; have hR4' : true = R4 := hR4; subst hR4'; clear HI hdn hR4; go_wp2_with fail; go_roundg (n - (ko + 1))
           case measure => omega
           case rel => exact ⟨ko + 1, by omega, rfl, by go_num, by rw [← HI3.out]; rfl, HF0.out _ HBJ.out⟩
      ·obtain rfl : k = n := by omega
       have hdn : rs.drop k = [] := List.drop_of_length_le (by have := HN.out; omega); have hR3 := HI.out; rw [hdn] at hR3; have hR3' : true = R3 := hR3; subst hR3'; clear HI hdn hR3; go_wp2_with fail; go_ret; exact ⟨zK (by rw [Bool.eq_iff_iff]; simp), zT HB.out⟩

namespace Sp
end Sp
open Go.RowKit

theorem xJ (w : World) (o1 o2 : Obj) : ((w.alloc o1).alloc o2).heap[w.heap.size + 1]? = some o2 := by
 have h := zE (w.alloc o1) o2; rw [World.size_alloc] at h; exact h


theorem cutTo_list (l : List UInt8) (k : Nat) : cutTo ⟨l.toArray⟩ k = ⟨(l.take k).toArray⟩ := by
 unfold cutTo; have hs : (⟨l.toArray⟩ : ByteArray).size = l.length := by rw [Lib.size_eq]
 split
 ·rw [Lib.extract_eq]; simp
 ·rw [List.take_of_length_le (by omega)]
theorem zCR (l : List UInt8) (k : Nat) (W : World) : Calls Tryz.prog 19 #[.string ⟨l.toArray⟩, .int .i64 k] W fun e w' => e = .returned (.string ⟨(l.take k).toArray⟩) ∧ W = w' := by
 have h := law_Text ⟨l.toArray⟩ k W; rw [cutTo_list] at h; exact h
def Cut8Post (c : CutN) (x : Sp.zM) (W : World) (e : Ending) (w' : World) : Prop :=
 ∃ pv qv B, e = .returned (.agg (srcC pv qv (xW c x)).toArray) ∧ Below W.heap.size W w' ∧ qK B w' pv (xW c x).decls ∧ jO B w' qv (xW c x).rules
theorem j3 {W w' : World} {o1 o2 : Obj} (h : Below (W.heap.size + 2) ((W.alloc o1).alloc o2) w') : Below W.heap.size W w' := (((Below.refl _ W).alloc (Nat.le_refl _) o1).alloc (by simp) o2).trans (h.mono (by omega))
theorem qX {W w' : World} {c1 c2 : Array Value} {t1 t2 : TypeId} (h : Below (W.heap.size + 2) ((W.alloc (.cells c1 t1)).alloc (.cells c2 t2)) w') : w'.heap[W.heap.size]? = some (.cells c1 t1 (0, 0)) ∧ w'.heap[W.heap.size + 1]? = some (.cells c2 t2 (0, 0)) :=
 ⟨(h.block W.heap.size (by omega)).trans ((Below.heap_alloc _ _ _ (by simp)).trans (zE W _)), (h.block (W.heap.size + 1) (by omega)).trans (xJ W _ _)⟩

def kU (n : Nat) : Code → Option Code
 | .block i c => if i == n then some (.block i c) else kU n c
 | .loop c => kU n c
 | .seq a b => match kU n a with
  | some c => some c
  | none => kU n b
 | .cond _ a b => match kU n a with
  | some c => some c
  | none => kU n b
 | .scope c => kU n c
 | _ => none

namespace Sp
open Go.Lib (index indexByte hasPrefix)

structure Gr where
 nons : Int
 rules : List (List Int)
 levels : List Int
 inner : List Int
 bare : Bool
def yM (i n : Int) : Int := i % n
theorem kI (i n : Int) (h : 0 < n) : 0 ≤ yM i n ∧ yM i n < n := by
 unfold yM; exact ⟨Int.emod_nonneg _ (by omega), Int.emod_lt_of_pos _ h⟩
def nonN (k : Int) : List UInt8 := [UInt8.ofNat (97 + k).toNat]
def litS (k : Int) : Sym := ⟨[([112, 113, 114, 115] : List UInt8).getD (k % 4).toNat 0], true, 0, 0⟩
def xC : Sym := ⟨[], false, 0, 0⟩
def zAK (x nons : Int) : Sym :=
 if yM x 14 < 5 then ⟨nonN (yM x 14 % nons), false, 0, 0⟩ else if yM x 14 = 13 then ⟨[101, 114, 114, 111, 114], false, 0, 0⟩ else litS (yM x 14 - 5)
def jV (s : Sym) : List Decl → List Decl
 | [] => []
 | [d] => [⟨d.kind, d.tag, d.syms ++ [s], d.at_⟩]
 | d :: e :: l => d :: jV s (e :: l)
def zAI (i : Nat) (x : Int) (out : List Decl) : List Decl :=
 if (yM x 8) % 4 = 0 then out else if 4 < yM x 8 ∧ out ≠ [] then jV (litS i) out else out ++ [⟨1 + (yM x 8) % 4, [], [litS i], 0⟩]
def vJ : Nat → List Int → List Decl → List Decl
 | _, [], out => out
 | i, x :: l, out => vJ (i + 1) l (zAI i x out)
def gQ (l : List Int) : List Decl := vJ 0 (l.take 4) []
def zCG : List UInt8 := [123, 36, 36, 32, 61, 32, 36, 49, 125]
def vZ : List UInt8 := [123, 102, 40, 36, 36, 41, 125]
def qU (nons : Int) (e : Bool) : Nat → List Int → List Part
 | _, [] => []
 | j, x :: l => ⟨zAK x nons, [], 0⟩ :: ((if j = 1 ∧ e = true then [⟨xC, zCG, 0⟩] else []) ++ qU nons e (j + 1) l)
def vF (s : Sym) : Bool := s.lit || (s.name == [101, 114, 114, 111, 114])
def plainRow (nons : Int) (row : List Int) : Bool := ((row.drop 1).take 4).all fun x => vF (zAK x nons)
def innEnd (o : Option Int) : Bool := match o with
 | none => false
 | some v => v.tmod 2 != 0
def j0 (o : Option Int) : Bool := match o with
 | none => false
 | some v => v.tmod 3 == 1
def altOf (nons : Int) (o : Option Int) (row : List Int) : Alt :=
 ⟨qU nons (j0 o) 1 ((row.drop 1).take 4) ++ (if innEnd o = true then [⟨xC, vZ, 0⟩] else []), xC, 0⟩
def zBB (a : Alt) : Nat → List Rule → List Rule
 | _, [] => []
 | 0, r :: l => ⟨r.left, r.alts ++ [a], r.at_⟩ :: l
 | k + 1, r :: l => r :: zBB a k l
def kZ (nons : Int) (inner : List Int) : Nat → List (List Int) → List Rule × List Bool → List Rule × List Bool
 | _, [], s => s
 | i, [] :: l, s => kZ nons inner (i + 1) l s
 | i, (x :: t) :: l, s => kZ nons inner (i + 1) l (zBB (altOf nons inner[i]? (x :: t)) (yM x nons).toNat s.1, s.2.set (yM x nons).toNat (s.2.getD (yM x nons).toNat false || plainRow nons (x :: t)))
def jM (bare : Bool) : Nat → List Rule → List Bool → List Rule
 | _, [], _ => []
 | i, r :: l, has => (if r.alts.length = 0 ∨ has.headD false = false ∧ bare = false then ⟨r.left, r.alts ++ [⟨[⟨litS i, [], 0⟩], xC, 0⟩], r.at_⟩ else r) :: jM bare (i + 1) l has.tail
def gM (x : Gr) : Nat := (1 + yM x.nons 4).toNat
def yK (n : Nat) : List Rule := (List.range n).map fun (i : Nat) => ⟨nonN (i : Int), [], 0⟩
def xV (x : Gr) : zM :=
 let s := kZ (gM x) x.inner 0 (x.rules.take 9) (yK (gM x), List.replicate (gM x) false)
 ⟨[], gQ x.levels, jM x.bare 0 s.1 s.2, []⟩

theorem nons_range (x : Gr) : 1 ≤ gM x ∧ gM x ≤ 4 := by
 have := kI x.nons 4 (by decide); unfold gM; omega
theorem nonN_cases (k : Int) (h0 : 0 ≤ k) (h : k < 5) : nonN k ∈ [[97], [98], [99], [100], [(101 : UInt8)]] := by
 unfold nonN; have : k = 0 ∨ k = 1 ∨ k = 2 ∨ k = 3 ∨ k = 4 := by omega
 rcases this with rfl | rfl | rfl | rfl | rfl <;> decide
theorem nonN_name (k : Int) (h0 : 0 ≤ k) (h : k < 5) : xI (nonN k) = true := by
 have := nonN_cases k h0 h; simp only [List.mem_cons, List.not_mem_nil, or_false] at this; rcases this with e | e | e | e | e <;> (rw [e]; decide)
theorem lit_ok (k : Int) (h0 : 0 ≤ k) : kE (litS k) = true ∧ (litS k).name.length = 1 := by
 have h1 := Int.emod_lt_of_pos k (show (0 : Int) < 4 by decide); have h2 : 0 ≤ k % 4 := Int.emod_nonneg _ (by decide); have : k % 4 = 0 ∨ k % 4 = 1 ∨ k % 4 = 2 ∨ k % 4 = 3 := by omega
 unfold litS; rcases this with e | e | e | e <;> (rw [e]; decide)
theorem symOf_ok (x nons : Int) (h1 : 1 ≤ nons) (h4 : nons ≤ 4) : kW (zAK x nons) = true ∧ (zAK x nons).name.length ≤ 5 := by
 obtain ⟨a, b⟩ := kI x 14 (by decide); unfold zAK; split
 ·have c1 := Int.emod_lt_of_pos (yM x 14) (show (0 : Int) < nons by omega)
  have c2 : 0 ≤ (yM x 14) % nons := Int.emod_nonneg _ (by omega); have h := nonN_name (yM x 14 % nons) c2 (by omega); refine ⟨?_, ?_⟩
  ·unfold kW kE
   rw [if_neg (by simp), h]; rfl
  ·show (nonN _).length ≤ 5
   unfold nonN; simp
 ·split
  ·decide
  ·obtain ⟨h, hl⟩ := lit_ok (yM x 14 - 5) (by omega)
   unfold kW; rw [h]; exact ⟨rfl, by omega⟩
def okD (d : Decl) : Prop := 2 ≤ d.kind ∧ d.kind ≤ 4 ∧ d.tag = [] ∧ d.syms ≠ [] ∧ ∀ s ∈ d.syms, kE s = true ∧ s.num = 0 ∧ s.name.length ≤ 5
theorem addLast_ok {s : Sym} (hs : kE s = true ∧ s.num = 0 ∧ s.name.length ≤ 5) : ∀ l : List Decl, (∀ d ∈ l, okD d) → ∀ d ∈ jV s l, okD d
 | [], _, d, hd => by simp [jV] at hd
 | [e], h, d, hd => by
  simp only [jV, List.mem_singleton] at hd; obtain ⟨h1, h2, h3, h4, h5⟩ := h e (by simp); subst hd; refine ⟨h1, h2, h3, by simp, fun t ht => ?_⟩; rcases List.mem_append.1 ht with ht | ht
  ·exact h5 t ht
  ·rw [List.mem_singleton] at ht; rw [ht]; exact hs
 | e :: f :: l, h, d, hd => by
  unfold jV at hd; rcases List.mem_cons.1 hd with rfl | hd
  ·exact h d (by simp)
  ·exact addLast_ok hs (f :: l) (fun x hx => h x (by simp [hx])) d hd
theorem declsGo_ok : ∀ (i : Nat) (l : List Int) (out : List Decl), (∀ d ∈ out, okD d) → ∀ d ∈ vJ i l out, okD d
 | _, [], out, h => h
 | i, x :: l, out, h => by
  unfold vJ; refine declsGo_ok (i + 1) l _ ?_; have hli := lit_ok (i : Int) (by omega); have hl : kE (litS i) = true ∧ (litS (i : Int)).num = 0 ∧ (litS i).name.length ≤ 5 := ⟨hli.1, rfl, by have := hli.2; omega⟩
  unfold zAI; obtain ⟨a, b⟩ := kI x 8 (by decide); have c1 := Int.emod_lt_of_pos (yM x 8) (show (0 : Int) < 4 by decide); have c2 : 0 ≤ (yM x 8) % 4 := Int.emod_nonneg _ (by decide); split
  ·exact h
  ·split
   ·exact addLast_ok hl out h
   ·intro d hd
    rcases List.mem_append.1 hd with hd | hd
    ·exact h d hd
    ·rw [List.mem_singleton] at hd
     rw [hd]; refine ⟨by show 2 ≤ 1 + (yM x 8) % 4; omega, by show 1 + (yM x 8) % 4 ≤ 4; omega, rfl, by simp, fun s hs => ?_⟩; rw [List.mem_singleton] at hs; rw [hs]; exact hl
def okP (p : Part) : Prop := xH p = true ∧ p.sym.name.length ≤ 5 ∧ p.sym.num = 0 ∧ p.code.length ≤ 9
theorem codeIn_ok : okP ⟨xC, zCG, 0⟩ := ⟨by decide +kernel, by decide, rfl, by decide⟩
theorem codeEnd_ok : okP ⟨xC, vZ, 0⟩ := ⟨by decide +kernel, by decide, rfl, by decide⟩
theorem symPart_ok (x nons : Int) (h1 : 1 ≤ nons) (h4 : nons ≤ 4) : okP ⟨zAK x nons, [], 0⟩ := by
 obtain ⟨a, b⟩ := symOf_ok x nons h1 h4; refine ⟨?_, b, ?_, by simp⟩
 ·unfold xH; rw [if_pos rfl]; exact a
 ·unfold kW at a; simp only [Bool.and_eq_true, beq_iff_eq] at a; exact a.2
theorem partsGo_ok (nons : Int) (e : Bool) (h1 : 1 ≤ nons) (h4 : nons ≤ 4) : ∀ (j : Nat) (l : List Int), ∀ p ∈ qU nons e j l, okP p
 | _, [], p, hp => by simp [qU] at hp
 | j, x :: l, p, hp => by
  unfold qU at hp; rcases List.mem_cons.1 hp with rfl | hp
  ·exact symPart_ok x nons h1 h4
  ·rcases List.mem_append.1 hp with hp | hp
   ·split at hp
    ·rw [List.mem_singleton] at hp; rw [hp]; exact codeIn_ok
    ·simp at hp
   ·exact partsGo_ok nons e h1 h4 (j + 1) l p hp
theorem zCY (nons : Int) (e : Bool) : ∀ (j : Nat) (l : List Int), (qU nons e j l).length ≤ l.length + (if j ≤ 1 then 1 else 0)
 | _, [] => by simp [qU]
 | j, x :: l => by
  have ih := zCY nons e (j + 1) l; unfold qU; rw [List.length_cons, List.length_append, List.length_cons]; by_cases hj : j = 1
  ·subst hj
   split <;> simp at ih ⊢ <;> omega
  ·rw [if_neg (by simp [hj])]
   split at ih <;> split <;> simp at ih ⊢ <;> omega
def okA (a : Alt) : Prop := a.prec = xC ∧ a.parts.length ≤ 6 ∧ ∀ p ∈ a.parts, okP p
theorem altOf_ok (nons : Int) (o : Option Int) (row : List Int) (h1 : 1 ≤ nons) (h4 : nons ≤ 4) : okA (altOf nons o row) := by
 refine ⟨rfl, ?_, fun p hp => ?_⟩
 ·show (qU nons (j0 o) 1 ((row.drop 1).take 4) ++ _).length ≤ 6
  have h := zCY nons (j0 o) 1 ((row.drop 1).take 4); have h2 : ((row.drop 1).take 4).length ≤ 4 := by simp; omega
  rw [if_pos (Nat.le_refl 1)] at h; rw [List.length_append]; split <;> simp only [List.length_cons, List.length_nil] <;> omega
 ·rcases List.mem_append.1 hp with hp | hp
  ·exact partsGo_ok nons _ h1 h4 _ _ p hp
  ·split at hp
   ·rw [List.mem_singleton] at hp; rw [hp]; exact codeEnd_ok
   ·simp at hp
def okR (m : Nat) (r : Rule) : Prop := (r.left.length = 1 ∧ xI r.left = true) ∧ r.alts.length ≤ m ∧ ∀ a ∈ r.alts, okA a
theorem zCZ {m n : Nat} {r : Rule} (h : okR m r) (hmn : m ≤ n) : okR n r := ⟨h.1, by have := h.2.1; omega, h.2.2⟩
theorem addAlt_ok {a : Alt} (ha : okA a) {m : Nat} : ∀ (k : Nat) (l : List Rule), (∀ r ∈ l, okR m r) → ∀ r ∈ zBB a k l, okR (m + 1) r
 | _, [], _, r, hr => by simp [zBB] at hr
 | 0, e :: l, h, r, hr => by
  simp only [zBB] at hr; rcases List.mem_cons.1 hr with rfl | hr
  ·obtain ⟨h1, h2, h3⟩ := h e (by simp)
   refine ⟨h1, by show (e.alts ++ [a]).length ≤ m + 1; simp; omega, fun b hb => ?_⟩; rcases List.mem_append.1 hb with hb | hb
   ·exact h3 b hb
   ·rw [List.mem_singleton] at hb; rw [hb]; exact ha
  ·exact zCZ (h r (by simp [hr])) (Nat.le_succ m)
 | k + 1, e :: l, h, r, hr => by
  simp only [zBB] at hr; rcases List.mem_cons.1 hr with rfl | hr
  ·exact zCZ (h r (by simp)) (Nat.le_succ m)
  ·exact addAlt_ok ha k l (fun x hx => h x (by simp [hx])) r hr
theorem addAlt_len (a : Alt) : ∀ (k : Nat) (l : List Rule), (zBB a k l).length = l.length
 | k, [] => by cases k <;> rfl
 | 0, _ :: _ => rfl
 | k + 1, e :: l => by simp [zBB, addAlt_len a k l]
theorem rulesGo_ok (nons : Int) (inner : List Int) (h1 : 1 ≤ nons) (h4 : nons ≤ 4) : ∀ (l : List (List Int)) (i : Nat) (s : List Rule × List Bool) (m : Nat), (∀ r ∈ s.1, okR m r) → (∀ r ∈ (kZ nons inner i l s).1, okR (m + l.length) r) ∧ (kZ nons inner i l s).1.length = s.1.length
 | [], i, s, m, h => ⟨h, rfl⟩
 | [] :: l, i, s, m, h => by
  have ih := rulesGo_ok nons inner h1 h4 l (i + 1) s m h; unfold kZ; exact ⟨fun r hr => zCZ (ih.1 r hr) (by simp), ih.2⟩
 | (x :: t) :: l, i, s, m, h => by
  have ih := rulesGo_ok nons inner h1 h4 l (i + 1) (zBB (altOf nons inner[i]? (x :: t)) (yM x nons).toNat s.1, s.2.set (yM x nons).toNat (s.2.getD (yM x nons).toNat false || plainRow nons (x :: t))) (m + 1) (addAlt_ok (altOf_ok nons _ _ h1 h4) _ _ h); unfold kZ; refine ⟨fun r hr => zCZ (ih.1 r hr) (by simp; omega), ?_⟩; rw [ih.2]; exact addAlt_len _ _ _
theorem fillGo_ok (bare : Bool) {m : Nat} : ∀ (l : List Rule) (i : Nat) (has : List Bool), (∀ r ∈ l, okR m r) → ∀ r ∈ jM bare i l has, okR (m + 1) r ∧ r.alts ≠ []
 | [], i, has, _, r, hr => by simp [jM] at hr
 | e :: l, i, has, h, r, hr => by
  unfold jM at hr; rcases List.mem_cons.1 hr with rfl | hr
  ·obtain ⟨h1, h2, h3⟩ := h e (by simp)
   split
   ·refine ⟨⟨h1, by show (e.alts ++ [_]).length ≤ m + 1; simp; omega, fun b hb => ?_⟩, by simp⟩
    rcases List.mem_append.1 hb with hb | hb
    ·exact h3 b hb
    ·rw [List.mem_singleton] at hb
     rw [hb]; have hl := lit_ok (i : Int) (by omega); refine ⟨rfl, by simp, fun p hp => ?_⟩; rw [List.mem_singleton] at hp; rw [hp]; refine ⟨?_, by have := hl.2; show (litS i).name.length ≤ 5; omega, rfl, by simp⟩; unfold xH kW; rw [if_pos rfl, hl.1]; rfl
   ·rename_i hn
    refine ⟨⟨h1, by omega, h3⟩, fun e0 => hn (.inl (by rw [e0]; rfl))⟩
  ·exact fillGo_ok bare l (i + 1) has.tail (fun x hx => h x (by simp [hx])) r hr
theorem fillGo_len (bare : Bool) : ∀ (l : List Rule) (i : Nat) (has : List Bool), (jM bare i l has).length = l.length
 | [], _, _ => rfl
 | e :: l, i, has => by simp [jM, fillGo_len bare l (i + 1) has.tail]
theorem startRules_ok (n : Nat) (h : n ≤ 4) : ∀ r ∈ yK n, okR 0 r := by
 intro r hr; unfold yK at hr; simp only [List.mem_map, List.mem_range] at hr; obtain ⟨i, hi, rfl⟩ := hr; exact ⟨⟨rfl, nonN_name _ (by omega) (by omega)⟩, by simp, by simp⟩
theorem grRules_ok (x : Gr) : (∀ r ∈ (xV x).rules, okR 10 r ∧ r.alts ≠ []) ∧ (xV x).rules.length = gM x := by
 obtain ⟨n1, n4⟩ := nons_range x; have h := rulesGo_ok (gM x) x.inner (by omega) (by omega) (x.rules.take 9) 0 (yK (gM x), List.replicate (gM x) false) 0 (startRules_ok _ n4); have hl : (x.rules.take 9).length ≤ 9 := by simp; omega
 refine ⟨fun r hr => ?_, ?_⟩
 ·have k := fillGo_ok x.bare (m := 9) _ 0 _ (fun r hr => zCZ (h.1 r hr) (by omega)) r hr
  exact k
 ·show (jM x.bare 0 _ _).length = _
  rw [fillGo_len, h.2]; unfold yK; simp
end Sp
open Sp
theorem zEH : ∀ (i : Nat) (l : List Int) (out : List Sp.Decl) (m k : Nat), out.length ≤ m → (∀ d ∈ out, d.syms.length ≤ k) → (Sp.vJ i l out).length ≤ m + l.length ∧ ∀ d ∈ Sp.vJ i l out, d.syms.length ≤ k + l.length + 1
 | _, [], out, m, k, h1, h2 => ⟨h1, fun d hd => by have := h2 d hd; simp [Sp.vJ] at *; omega⟩
 | i, x :: l, out, m, k, h1, h2 => by
  have add : ∀ l : List Sp.Decl, (∀ d ∈ l, d.syms.length ≤ k) → (Sp.jV (Sp.litS i) l).length = l.length ∧ ∀ d ∈ Sp.jV (Sp.litS i) l, d.syms.length ≤ k + 1 := by
   intro l
   induction l with
   | nil => intro _; exact ⟨rfl, by simp [Sp.jV]⟩
   | cons d l ih =>
    intro h
    cases l with
    | nil =>
     refine ⟨rfl, fun e he => ?_⟩; simp only [Sp.jV, List.mem_singleton] at he; subst he; have := h d (by simp); simp; omega
    | cons e l =>
     obtain ⟨a, b⟩ := ih (fun x hx => h x (by simp [hx])); unfold Sp.jV; refine ⟨by rw [List.length_cons, a]; rfl, fun f hf => ?_⟩; rcases List.mem_cons.1 hf with rfl | hf
     ·have := h f (by simp); omega
     ·exact b f hf
  have step : (Sp.zAI i x out).length ≤ m + 1 ∧ ∀ d ∈ Sp.zAI i x out, d.syms.length ≤ k + 1 := by
   unfold Sp.zAI; split
   ·exact ⟨by omega, fun d hd => by have := h2 d hd; omega⟩
   ·split
    ·obtain ⟨a, b⟩ := add out h2
     exact ⟨by omega, b⟩
    ·refine ⟨by simp; omega, fun d hd => ?_⟩
     rcases List.mem_append.1 hd with hd | hd
     ·have := h2 d hd; omega
     ·rw [List.mem_singleton] at hd; rw [hd]; simp
  obtain ⟨a, b⟩ := zEH (i + 1) l (Sp.zAI i x out) (m + 1) (k + 1) step.1 step.2; unfold Sp.vJ; exact ⟨by simp; omega, fun d hd => by have := b d hd; simp; omega⟩
theorem i64ok_zero : i64ok 0 := by unfold i64ok; omega
theorem zEF (x : Sp.Gr) : tinySrc (Sp.xV x) := by
 obtain ⟨h1, h2⟩ := Sp.grRules_ok x; have hn := Sp.nons_range x; have hd := zEH 0 (x.levels.take 4) [] 0 0 (by simp) (by simp); have hl : (x.levels.take 4).length ≤ 4 := by simp; omega
 refine ⟨by simp [Sp.xV], by simp [Sp.xV], by show (Sp.gQ x.levels).length ≤ 20; unfold Sp.gQ; omega, by omega, fun d hd' => ?_, fun r hr => ?_⟩
 ·have hk := Sp.declsGo_ok 0 (x.levels.take 4) [] (by simp) d hd'
  obtain ⟨_, _, t, _, s⟩ := hk; refine ⟨by rw [t]; simp, by have := hd.2 d hd'; omega, fun s' hs' => ?_⟩; obtain ⟨_, a, b⟩ := s s' hs'; exact ⟨by omega, by rw [a]; exact i64ok_zero⟩
 ·obtain ⟨⟨⟨a, _⟩, b, c⟩, _⟩ := h1 r hr
  refine ⟨by omega, by omega, fun al hal => ?_⟩; obtain ⟨p1, p2, p3⟩ := c al hal; refine ⟨by omega, fun p hp => ?_, ?_⟩
  ·obtain ⟨_, q2, q3, q4⟩ := p3 p hp
   exact ⟨⟨by omega, by rw [q3]; exact i64ok_zero⟩, by omega⟩
  ·rw [p1]; exact ⟨by decide, i64ok_zero⟩
end Go.Proofs.YtddnomjfcbplpaaGreatDoor
