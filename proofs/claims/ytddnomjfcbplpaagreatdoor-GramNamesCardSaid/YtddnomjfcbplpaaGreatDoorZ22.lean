import Derived.Test.YtddnomjfcbplpaaGreatDoorZ21
namespace Go.Proofs.YtddnomjfcbplpaaGreatDoor
open Go.RowKit Go.Maps

namespace Sp
def altsK (al : List Alt) (rs : List Rule) (s : Mk) : Except Stop Mk := match zCI al s with
 | .error e => .error e
 | .ok s => kN rs s
def precK (a : Alt) (al : List Alt) (rs : List Rule) (s : Mk) : Except Stop Mk := match (if a.prec.name = [] then Except.ok s else used s a.prec true) with
 | .error e => .error e
 | .ok s => altsK al rs s
def partK (ps : List Part) (a : Alt) (al : List Alt) (rs : List Rule) (s : Mk) : Except Stop Mk := match vG ps s with
 | .error e => .error e
 | .ok s => precK a al rs s
theorem partsMk_cons (r : Rule) (rs : List Rule) (s : Mk) : kN (r :: rs) s = altsK r.alts rs s := by
 conv => lhs; unfold kN
 rfl
theorem altsK_nil (rs : List Rule) (s : Mk) : altsK [] rs s = kN rs s := rfl
theorem altsK_cons (a : Alt) (al : List Alt) (rs : List Rule) (s : Mk) : altsK (a :: al) rs s = partK a.parts a al rs s := by
 unfold altsK partK precK altsK; conv => lhs; unfold zCI
 cases vG a.parts s with
 | error e => rfl
 | ok s1 =>
  simp only; by_cases hn : a.prec.name = []
  ·rw [if_pos hn, if_pos hn]
  ·rw [if_neg hn, if_neg hn]
   cases used s1 a.prec true <;> rfl
theorem partK_nil (a : Alt) (al : List Alt) (rs : List Rule) (s : Mk) : partK [] a al rs s = precK a al rs s := rfl
theorem partK_code (p : Part) (ps : List Part) (a : Alt) (al : List Alt) (rs : List Rule) (s : Mk) (h : p.code ≠ []) : partK (p :: ps) a al rs s = partK ps a al rs s := by
 unfold partK; conv => lhs; unfold vG
 rw [if_neg h]
theorem partK_sym (p : Part) (ps : List Part) (a : Alt) (al : List Alt) (rs : List Rule) (s : Mk) (h : p.code = []) : partK (p :: ps) a al rs s = match yX s p.sym false with
  | none => .error (p.sym.name, p.sym.at_)
  | some s => partK ps a al rs s := by
 unfold partK; conv => lhs; unfold vG
 rw [if_pos h, used_step]; cases yX s p.sym false <;> rfl
theorem precK_none (a : Alt) (al : List Alt) (rs : List Rule) (s : Mk) (h : a.prec.name = []) : precK a al rs s = altsK al rs s := by
 unfold precK; rw [if_pos h]
theorem precK_some (a : Alt) (al : List Alt) (rs : List Rule) (s : Mk) (h : a.prec.name ≠ []) : precK a al rs s = match yX s a.prec true with
  | none => .error (a.prec.name, a.prec.at_)
  | some s => altsK al rs s := by
 unfold precK; rw [if_neg h, used_step]; cases yX s a.prec true <;> rfl
theorem usedStep_len {s s' : Mk} {y : Sym} {b : Bool} (h : yX s y b = some s') : s'.toks.length ≤ s.toks.length + 1 := by
 have h1 := addTok_len y s; unfold yX at h
 (repeat' split at h) <;> (first | cases h) <;> omega
end Sp
theorem qO {α : Type} {l : List α} {k : Nat} (h : k < l.length) : ∃ a, l[k]? = some a ∧ l.drop k = a :: l.drop (k + 1) ∧ a ∈ l := ⟨l[k], List.getElem?_eq_getElem h, List.drop_eq_getElem_cons h, List.getElem_mem h⟩
def xZ (s : Sp.Mk) (k j i : Nat) : Prop := s.toks.length ≤ 1073741824 + k * 16004000 + j * 4001 + i
theorem xZ.all {s : Sp.Mk} {k j i : Nat} (h : xZ s k j i) (hk : k ≤ 4000) (hj : j ≤ 4000) (hi : i ≤ 4000) : s.toks.length ≤ 2 ^ 40 := by unfold xZ at h; omega
theorem xZ.nexti {s s' : Sp.Mk} {k j i : Nat} (h : xZ s k j i) (hl : s'.toks.length ≤ s.toks.length + 1) : xZ s' k j (i + 1) := by unfold xZ at *; omega
theorem xZ.skip {s : Sp.Mk} {k j i : Nat} (h : xZ s k j i) : xZ s k j (i + 1) := by unfold xZ at *; omega
theorem xZ.nextj {s s' : Sp.Mk} {k j i : Nat} (h : xZ s k j i) (hi : i ≤ 4000) (hl : s'.toks.length ≤ s.toks.length + 1) : xZ s' k (j + 1) 0 := by unfold xZ at *; omega
theorem xZ.nextk {s : Sp.Mk} {k j : Nat} (h : xZ s k j 0) (hj : j ≤ 4000) : xZ s (k + 1) 0 0 := by unfold xZ at *; omega
def AltOk (a : Sp.Alt) : Prop := (∀ p ∈ a.parts, p.code = [] → p.sym.lit = true → ∃ c, p.sym.name = [c]) ∧ (a.prec.name ≠ [] → a.prec.lit = true → ∃ c, a.prec.name = [c])
set_option maxRecDepth 100000 in
set_option maxHeartbeats 12800000 in
theorem maker_parts {W0 W : World} {m : Nat} {x : Sp.zM} {s : Sp.Mk} {v : MkV} (h : zS W0.heap.size W m x s v 0 0 []) (hw : Below W0.heap.size W0 W) (hd : xA W0 v.rv x.rules) (hs : xN x) (hg : ∀ r ∈ x.rules, ∀ a ∈ r.alts, AltOk a) (ht : xZ s 0 0 0) :
  Calls Tryz.prog 40 #[.pointer (some ⟨m, 0, none⟩)] W (zDI W0.heap.size m x v.dv v.rv W0 (Sp.kN x.rules s)) := by
 generalize hR : Sp.kN x.rules s = R; generalize hds : x.rules = rs at *
 obtain ⟨f, hd1, hd2⟩ := hd; obtain ⟨da, dc, hdv⟩ := hd1.form; rw [List.length_mapIdx] at hdv; have hlen := hs.2.2.2.1; have hsm := hs.2.2.2.2.2; rw [hds] at hlen hsm; generalize hdv0 : v.rv = rv at *
 subst hdv; generalize hn : rs.length = n at *
 have HH := zh h; have HR := zh hR; have HW := zh hw; have HD1 := zh hd1; have HD2 := zh hd2; have HG := zh hg; have HSM := zh hsm; have HN := zh hn; have HRV := zh hdv0; obtain ⟨dv, hrv⟩ : ∃ dv, dv = v.dv := ⟨_, rfl⟩
 rw [← hrv]; have HDV := zh hrv; have hb := h.block; unfold zX at hb; rw [hdv0] at hb; have c2 := zc 2 hb; have hl := zC hb; clear h hR hw hd1 hd2 hg hsm hn hdv0 hs hds hrv hb; go_enter Tryz.func40, Tryz.ntmps40
 go_wp2_with fail; clear c2; go_loopg [15] n (fun q iv wr => ∃ (k : Nat) (s1 : Sp.Mk) (v1 : MkV), k ≤ n ∧ q = n - k ∧ iv = .int .i64 k ∧ zS W0.heap.size wr m x s1 v1 0 0 [] ∧ v1.dv = dv ∧ v1.rv = .slice da n dc ∧ Below W0.heap.size W0 wr ∧ xZ s1 k 0 0 ∧ Sp.kN (rs.drop k) s1 = R)
 case atStart => exact ⟨0, s, v, Nat.zero_le _, rfl, rfl, HH.out, HDV.out.symm, HRV.out, HW.out, ht, HR.out⟩
 case round =>
  obtain ⟨k, s1, v1, hk, rfl, rfl, hmk, hdv, hrv, hbw, hlt, hR⟩ := hrel; have HMK := zh hmk; have HDV1 := zh hdv; have HRV1 := zh hrv; have HBW := zh hbw; have HRR := zh hR; have hk0 : (0 : Int) ≤ (k : Int) := Int.natCast_nonneg _; have hlm : m < wr.heap.size := zC hmk.block; clear hmk hdv hrv hbw hR; by_cases hkn : k < n
  ·have hk1 : (k : Int) < (n : Int) := by omega
   have hkd : k < rs.length := by have := HN.out; omega
   obtain ⟨⟨lf, al, rp⟩, hdk, hdr, hmem⟩ := qO hkd; have hgd := HG.out _ hmem; have hsd := HSM.out _ hmem; have hR := HRR.out; rw [hdr, Sp.partsMk_cons] at hR; obtain ⟨fa, ha1, ha2⟩ := HD2.out k _ hdk; obtain ⟨aa, ac, hfk⟩ := ha1.form; rw [List.length_mapIdx] at hfk; obtain ⟨bd, od, rfl, hbd, hcd⟩ := HD1.out.at (k := k) (row := qT (f k) ⟨lf, al, rp⟩) (by rw [List.getElem?_mapIdx, hdk]; rfl); rw [hfk] at hcd ha1; have hcells := hcd wr HBW.out; simp only at ha1 ha2 hgd hfk hcells hR; obtain ⟨na, hna⟩ : ∃ na, na = al.length := ⟨_, rfl⟩
   have hna4 : na ≤ 4000 := by have := hsd.2.1; simp only at this; omega
   rw [← hna] at hcells ha1; have HNA := zh hna; clear hna; have r0 := hcells 0 _ rfl; have r1 := hcells 1 _ rfl; have r2 := hcells 2 _ rfl; simp only [Nat.add_zero] at r0; have hlb : bd < wr.heap.size := by have := HBW.out.size; omega
   have HA1 := zh ha1; have HA2 := zh ha2; have HGD := zh hgd; have HSD := zh hsd; have HR1 := zh hR; clear ha1 ha2 hgd hsd hR hcells hcd hdr hdk hfk hmem; go_upto_region 4 with fail
   have hbx := zE wr (.cells #[.string ⟨lf.toArray⟩, .slice aa na ac, .int .i64 rp] 63); have b1 := zc 1 hbx; have hlbx := zC hbx; have HMK2 := zh (zU HMK.out ((Below.refl _ wr).alloc (Nat.le_refl _) (.cells #[.string ⟨lf.toArray⟩, .slice aa na ac, .int .i64 rp] 63))); have HBW2 := zh (HBW.out.alloc HBW.out.size (.cells #[.string ⟨lf.toArray⟩, .slice aa na ac, .int .i64 rp] 63)); clear hbx; go_wp2_with fail; clear b1 hlbx; go_loopg [22] na (fun q iv wr => ∃ (j : Nat) (s2 : Sp.Mk) (v2 : MkV), j ≤ na ∧ q = na - j ∧ iv = .int .i64 j ∧ zS W0.heap.size wr m x s2 v2 0 0 [] ∧ v2.dv = dv ∧ v2.rv = .slice (some ⟨bd, od, none⟩) n dc ∧ Below W0.heap.size W0 wr ∧ xZ s2 k j 0 ∧ Sp.altsK (al.drop j) (rs.drop (k + 1)) s2 = R)
   case atStart => exact ⟨0, s1, v1, Nat.zero_le _, rfl, rfl, HMK2.out, HDV1.out, HRV1.out, HBW2.out, hlt, HR1.out⟩
   case round =>
    clear HMK HDV1 HRV1 HBW HRR HMK2 HBW2 HR1; obtain ⟨j, s2, v2, hj, rfl, rfl, hmk, hdv, hrv, hbw, hlt2, hRj⟩ := hrel; have HMK := zh hmk; have HDV1 := zh hdv; have HRV1 := zh hrv; have HBW := zh hbw; have HRR := zh hRj; have hj0 : (0 : Int) ≤ (j : Int) := Int.natCast_nonneg _; have hlm2 : m < wr.heap.size := zC hmk.block; clear hmk hdv hrv hbw hRj; by_cases hjn : j < na
    ·have hj1 : (j : Int) < (na : Int) := by omega
     have hjd : j < al.length := by have := HNA.out; omega
     obtain ⟨⟨ps, ⟨qn, ql, qu, qa⟩, ap⟩, hdj, hdr, hmem⟩ := qO hjd; have hga := HGD.out _ hmem; have hsa := HSD.out.2.2 _ hmem; have hR := HRR.out; rw [hdr, Sp.altsK_cons] at hR; have hps := HA2.out j _ hdj; obtain ⟨pa, pc, hfj⟩ := hps.form; rw [List.length_map] at hfj; obtain ⟨ba, oa, rfl, hba, hcd⟩ := HA1.out.at (k := j) (row := altC (fa j) ⟨ps, ⟨qn, ql, qu, qa⟩, ap⟩) (by rw [List.getElem?_mapIdx, hdj]; rfl); rw [hfj] at hcd hps; have hcells := hcd wr HBW.out; simp only at hps hga hfj hcells hR; obtain ⟨np, hnp⟩ : ∃ np, np = ps.length := ⟨_, rfl⟩
     have hnp4 : np ≤ 4000 := by have := hsa.1; simp only at this; omega
     rw [← hnp] at hcells hps; have HNP := zh hnp; clear hnp; have r0 := hcells 0 _ rfl; have r1 := hcells 1 _ rfl; have r2 := hcells 2 _ rfl; have r3 := hcells 3 _ rfl; have r4 := hcells 4 _ rfl; have r5 := hcells 5 _ rfl; simp only [Nat.add_zero] at r0; have hlb2 : ba < wr.heap.size := by have := HBW.out.size; omega
     have HPS := zh hps; have HGA := zh hga; have HSA := zh hsa; have HR1 := zh hR; clear hps hga hsa hR hcells hcd hdr hdj hfj hmem; go_upto_region 7 with fail
     have hbx := zE wr (.cells #[.slice pa np pc, .string ⟨qn.toArray⟩, .bool ql, .int .i64 qu, .int .i64 qa, .int .i64 ap] 60); have b0 := zc 0 hbx; have hlbx := zC hbx; have HMK2 := zh (zU HMK.out ((Below.refl _ wr).alloc (Nat.le_refl _) (.cells #[.slice pa np pc, .string ⟨qn.toArray⟩, .bool ql, .int .i64 qu, .int .i64 qa, .int .i64 ap] 60))); have HBX := zh hbx; have HNB := zh (show ¬ yZ m v2 wr.heap.size from fun hm => absurd (HMK.out.lt_own _ hm) (Nat.lt_irrefl _)); have HBW2 := zh (HBW.out.alloc HBW.out.size (.cells #[.slice pa np pc, .string ⟨qn.toArray⟩, .bool ql, .int .i64 qu, .int .i64 qa, .int .i64 ap] 60)); obtain ⟨gd, hgd⟩ : ∃ gd, gd = wr.heap.size := ⟨_, rfl⟩
     rw [← hgd]; rw [← hgd] at b0 hbx; have HGD0 := zh hgd; clear hbx hgd; go_wp2_with fail; clear b0 hlbx; go_loopg [29] np (fun q iv wr => ∃ (i : Nat) (s3 : Sp.Mk) (v3 : MkV), i ≤ np ∧ q = np - i ∧ iv = .int .i64 i ∧ zS W0.heap.size wr m x s3 v3 0 0 [] ∧ v3.dv = dv ∧ v3.rv = .slice (some ⟨bd, od, none⟩) n dc ∧ Below W0.heap.size W0 wr ∧ wr.heap[gd]? = some (.cells #[.slice pa np pc, .string ⟨qn.toArray⟩, .bool ql, .int .i64 qu, .int .i64 qa, .int .i64 ap] 60 (0, 0)) ∧ ¬ yZ m v3 gd ∧ xZ s3 k j i ∧ Sp.partK (ps.drop i) ⟨ps, ⟨qn, ql, qu, qa⟩, ap⟩ (al.drop (j + 1)) (rs.drop (k + 1)) s3 = R)
     case atStart => exact ⟨0, s2, v2, Nat.zero_le _, rfl, rfl, HMK2.out, HDV1.out, HRV1.out, HBW2.out, by rw [HGD0.out]; exact HBX.out, by rw [HGD0.out]; exact HNB.out, hlt2, HR1.out⟩
     case round =>
      clear HMK HDV1 HRV1 HBW HRR HMK2 HBW2 HR1 HBX HNB; obtain ⟨i, s3, v3, hi, rfl, rfl, hmk, hdv, hrv, hbw, hbx, hnb, hlt3, hRi⟩ := hrel; have HMK := zh hmk; have HDV1 := zh hdv; have HRV1 := zh hrv; have HBW := zh hbw; have HRR := zh hRi; have HBX := zh hbx; have HNB := zh hnb; have hi0 : (0 : Int) ≤ (i : Int) := Int.natCast_nonneg _; have hlm3 : m < wr.heap.size := zC hmk.block; have hgdl : gd < wr.heap.size := zC hbx; clear hmk hdv hrv hbw hRi hbx hnb; by_cases hin : i < np
      ·have hi1 : (i : Int) < (np : Int) := by omega
       have hid : i < ps.length := by have := HNP.out; omega
       obtain ⟨⟨⟨nm, lt, nu, pp⟩, cd, cp⟩, hdi, hdr, hmem⟩ := qO hid; have hgp := HGA.out.1 _ hmem; have hsp := HSA.out.2.1 _ hmem; have hR := HRR.out; rw [hdr] at hR; obtain ⟨bp, op, rfl, hbp, hcd⟩ := HPS.out.at (k := i) (row := z6 ⟨⟨nm, lt, nu, pp⟩, cd, cp⟩) (by rw [List.getElem?_map, hdi]; rfl); have hcells := hcd wr HBW.out; have r0 := hcells 0 _ rfl; have r1 := hcells 1 _ rfl; have r2 := hcells 2 _ rfl; have r3 := hcells 3 _ rfl; have r4 := hcells 4 _ rfl; have r5 := hcells 5 _ rfl; simp only [Nat.add_zero] at r0 r1 r2 r3 r4 r5; have hlb3 : bp < wr.heap.size := by have := HBW.out.size; omega
       have HMKC := zh (zU HMK.out ((Below.refl _ wr).alloc (Nat.le_refl _) (.cells #[.string ⟨nm.toArray⟩, .bool lt, .int .i64 nu, .int .i64 pp, .string ⟨cd.toArray⟩, .int .i64 cp] 47))); have HBC := zh (HBW.out.alloc HBW.out.size (.cells #[.string ⟨nm.toArray⟩, .bool lt, .int .i64 nu, .int .i64 pp, .string ⟨cd.toArray⟩, .int .i64 cp] 47)); clear HRR; have HRR := zh hR; simp only at hgp; have HGP := zh hgp; have hnml : nm.length ≤ maxLen := by have h := hsp.1; unfold maxLen; simp only at h; omega
       clear hR hcells hcd hdr hdi hmem hgp hsp
       cases cd with
       | nil =>
        have HST := zh (maker_used ⟨nm, lt, nu, pp⟩ false HMKC.out (hlt3.all (by omega) (by omega) (by omega)) hnml (HGP.out rfl)); clear HGP; go_wp2_with fail; refine (HST.out).mono ?_; rintro e w4 hpost
        cases ho : Sp.yX s3 ⟨nm, lt, nu, pp⟩ false with
        | none =>
         rw [ho] at hpost; obtain ⟨rfl, s9, hm9, hk9⟩ := hpost
         have HE : Hid (R = .error (nm, pp)) := zh (by
          have h := HRR.out; rw [Sp.partK_sym _ _ _ _ _ _ rfl] at h; simp only [ho] at h
          exact h.symm)
         have HM9 := zh hm9; have HK9 := zh hk9; clear hm9 hk9 ho; go_wp2_with fail; go_ret; rw [HE.out]; exact zBJ (zK rfl) (HBC.out.trans (Kp.below HK9.out (by have := HBC.out.size; omega) (fun b hb e => by have := HMKC.out.behind.1; omega))) HM9.out
        | some s4 =>
         rw [ho] at hpost; obtain ⟨rfl, v4, hmk4, hfr4, hq1, hq2⟩ := hpost; have hlen4 := Sp.usedStep_len ho; have HE := zh HRR.out; have HE2 := HE.out; rw [Sp.partK_sym _ _ _ _ _ _ rfl] at HE2; simp only [ho] at HE2; have HE3 := zh HE2; have HBW4 := zh (HBC.out.trans (MkFr.belowB HMKC.out hfr4)); have HMK4 := zh hmk4; have HQ := zh (And.intro (hq1.trans HDV1.out) (hq2.trans HRV1.out)); have HFR4 := zh hfr4; clear hmk4 hfr4 hq1 hq2 ho HE2 HE; have HBX4 := zh ((HFR4.out.kp.block gd (by simp only [World.size_alloc]; omega) HNB.out).trans ((Below.heap_alloc _ _ _ hgdl).trans HBX.out))
         have HNB4 := zh (show ¬ yZ m v4 gd from fun hm => by
          rcases HFR4.out.new gd hm with h1 | h1
          ·exact HNB.out h1
          ·simp only [World.size_alloc] at h1; omega)
         go_wp2_with fail; go_roundg (np - (i + 1))
         case measure => omega
         case rel => exact ⟨i + 1, s4, v4, by omega, rfl, by go_num, HMK4.out, HQ.out.1, HQ.out.2, HBW4.out, HBX4.out, HNB4.out, hlt3.nexti hlen4, HE3.out⟩
       | cons c0 A0 =>
        have HBX4 := zh ((Below.heap_alloc wr (.cells #[.string ⟨nm.toArray⟩, .bool lt, .int .i64 nu, .int .i64 pp, .string ⟨(c0 :: A0).toArray⟩, .int .i64 cp] 47) gd hgdl).trans HBX.out)
        have HE3 : Hid (Sp.partK (ps.drop (i + 1)) ⟨ps, ⟨qn, ql, qu, qa⟩, ap⟩ (al.drop (j + 1)) (rs.drop (k + 1)) s3 = R) := zh (by
         have h := HRR.out; rw [Sp.partK_code _ _ _ _ _ _ (by simp)] at h
         exact h)
        clear HGP; go_wp2_with fail; go_roundg (np - (i + 1))
        case measure => omega
        case rel => exact ⟨i + 1, s3, v3, by omega, rfl, by go_num, HMKC.out, HDV1.out, HRV1.out, HBC.out, HBX4.out, HNB.out, hlt3.skip, HE3.out⟩
      ·obtain rfl : i = np := by omega
       have hR := HRR.out; rw [List.drop_eq_nil_of_le (by rw [← HNP.out]; exact Nat.le_refl _), Sp.partK_nil] at hR; clear HRR; have HRR := zh hR; have hbx := HBX.out; have b1 := zc 1 hbx; have b2 := zc 2 hbx; have b3 := zc 3 hbx; have b4 := zc 4 hbx; have hga2 := HGA.out.2; simp only at hga2; have HGP := zh hga2; have hqnl : qn.length ≤ maxLen := by have h := HSA.out.2.2; unfold maxLen; simp only at h; omega
       clear hR hbx hga2
       cases qn with
       | nil =>
        have HE3 : Hid (Sp.altsK (al.drop (j + 1)) (rs.drop (k + 1)) s3 = R) := zh (by
         have h := HRR.out; rw [Sp.precK_none _ _ _ _ rfl] at h
         exact h)
        clear HGP; go_wp2_with fail; go_roundg (na - (j + 1))
        case measure => omega
        case rel => exact ⟨j + 1, s3, v3, by omega, rfl, by go_num, HMK.out, HDV1.out, HRV1.out, HBW.out, hlt3.nextj hnp4 (by omega), HE3.out⟩
       | cons c0 A0 =>
        have HST := zh (maker_used ⟨c0 :: A0, ql, qu, qa⟩ true HMK.out (hlt3.all (by omega) (by omega) (by omega)) hqnl (HGP.out (by simp))); have HMKC := HMK; have HBC := HBW; clear HGP; go_wp2_with fail; refine (HST.out).mono ?_; rintro e w4 hpost
        cases ho : Sp.yX s3 ⟨c0 :: A0, ql, qu, qa⟩ true with
        | none =>
         rw [ho] at hpost; obtain ⟨rfl, s9, hm9, hk9⟩ := hpost
         have HE : Hid (R = .error (c0 :: A0, qa)) := zh (by
          have h := HRR.out; rw [Sp.precK_some _ _ _ _ (by simp)] at h; simp only [ho] at h
          exact h.symm)
         have HM9 := zh hm9; have HK9 := zh hk9; clear hm9 hk9 ho; go_wp2_with fail; go_ret; rw [HE.out]; exact zBJ (zK rfl) (HBC.out.trans (Kp.below HK9.out (by have := HBC.out.size; omega) (fun b hb e => by have := HMKC.out.behind.1; omega))) HM9.out
        | some s4 =>
         rw [ho] at hpost; obtain ⟨rfl, v4, hmk4, hfr4, hq1, hq2⟩ := hpost; have hlen4 := Sp.usedStep_len ho; have HE := zh HRR.out; have HE2 := HE.out; rw [Sp.precK_some _ _ _ _ (by simp)] at HE2; simp only [ho] at HE2; have HE3 := zh HE2; have HBW4 := zh (HBC.out.trans (MkFr.belowB HMKC.out hfr4)); have HMK4 := zh hmk4; have HQ := zh (And.intro (hq1.trans HDV1.out) (hq2.trans HRV1.out)); have HFR4 := zh hfr4; clear hmk4 hfr4 hq1 hq2 ho HE2 HE; go_wp2_with fail; go_roundg (na - (j + 1))
         case measure => omega
         case rel => exact ⟨j + 1, s4, v4, by omega, rfl, by go_num, HMK4.out, HQ.out.1, HQ.out.2, HBW4.out, hlt3.nextj hnp4 hlen4, HE3.out⟩
    ·obtain rfl : j = na := by omega
     have hR := HRR.out; rw [List.drop_eq_nil_of_le (by rw [← HNA.out]; exact Nat.le_refl _), Sp.altsK_nil] at hR; have HE := zh hR; clear hR HRR; go_wp2_with fail; go_roundg (n - (k + 1))
     case measure => omega
     case rel => exact ⟨k + 1, s2, v2, by omega, rfl, by go_num, HMK.out, HDV1.out, HRV1.out, HBW.out, hlt2.nextk hna4, HE.out⟩
  ·obtain rfl : k = n := by omega
   have hR := HRR.out; rw [List.drop_eq_nil_of_le (by rw [HN.out]; exact Nat.le_refl _)] at hR; have HR2 : Hid (R = .ok s1) := zh (by rw [← hR]; rfl); clear hR HRR; go_wp2_with fail; go_ret; rw [HR2.out]; exact pass_ok (zK rfl) HBW.out HMK.out HDV1.out HRV1.out
end Go.Proofs.YtddnomjfcbplpaaGreatDoor
