import Derived.Test.YtddnomjfcbplpaaGreatDoorZ20
namespace Go.Proofs.YtddnomjfcbplpaaGreatDoor
open Go.RowKit Go.Maps

def zDI (B m : Nat) (x : Sp.zM) (dv rv : Value) (W0 : World) (r : Except Sp.Stop Sp.Mk) (e : Ending) (w' : World) : Prop :=
 Below B W0 w' ∧ match r with
 | .error st => e = .returned (.bool true) ∧ ∃ (s : Sp.Mk) (v : MkV), w'.heap[m]? = some (.cells (zX x s v 3 st.2 st.1).toArray 99 (0, 0))
 | .ok s' => e = .returned (.bool false) ∧ ∃ v', zS B w' m x s' v' 0 0 [] ∧ v'.dv = dv ∧ v'.rv = rv
theorem MkFr.belowB {B m : Nat} {x : Sp.zM} {s : Sp.Mk} {v v' : MkV} {e at_ : Int} {nm : List UInt8} {w w' : World} (h : zS B w m x s v e at_ nm) (k : MkFr m v v' w w') : Below B w w' :=
 Kp.below k.kp (by have := h.behind.1; have := zC h.block; omega) (fun b hb hm => by
  rcases hm with rfl | h1 | h1 | h1 | h1 | rfl | rfl | rfl
  ·have := h.behind.1; omega
  ·have := (h.toks.lt b h1).1; omega
  ·have := (h.nons.lt b h1).1; omega
  ·obtain ⟨f, g, h2, _⟩ := h.prods; have := (h2.lt b h1).1; omega
  ·have := (h.given.lt b h1).1; omega
  ·have := h.behind.2.1; omega
  ·have := h.behind.2.2.1; omega
  ·have := h.behind.2.2.2; omega)
theorem gA.of_named {B m : Nat} {x : Sp.zM} {s : Sp.Mk} {v : MkV} {W w' : World} {nm : List UInt8} {at_ : Int} {r : Option Sp.Mk} {e : Ending} (h : kV B m x s v W nm at_ r e w') : gA B m x v W nm at_ r e w' := by
 unfold kV at h; unfold gA
 cases r with
 | none => exact ⟨h.1, s, h.2.1, h.2.2⟩
 | some s' => exact ⟨h.1, v, h.2.1, h.2.2, rfl, rfl⟩
theorem zBJ {B m : Nat} {x : Sp.zM} {dv rv : Value} {W0 w' : World} {st : Sp.Stop} {e : Ending} {s : Sp.Mk} {v : MkV} (he : e = .returned (.bool true)) (hb : Below B W0 w') (h : w'.heap[m]? = some (.cells (zX x s v 3 st.2 st.1).toArray 99 (0, 0))) :
  zDI B m x dv rv W0 (.error st) e w' := ⟨hb, he, s, v, h⟩
theorem pass_ok {B m : Nat} {x : Sp.zM} {dv rv : Value} {W0 w' : World} {s' : Sp.Mk} {e : Ending} {v' : MkV} (he : e = .returned (.bool false)) (hb : Below B W0 w') (h : zS B w' m x s' v' 0 0 []) (h1 : v'.dv = dv) (h2 : v'.rv = rv) :
  zDI B m x dv rv W0 (.ok s') e w' := ⟨hb, he, v', h, h1, h2⟩
def Sp.vV (d : Sp.Decl) (level : Int) (y : Sp.Sym) (s : Sp.Mk) : Option Sp.Mk := if 5 ≤ d.kind then Sp.yN s d y else Sp.kJ s d y level
theorem Sp.tokStep_len {s s' : Sp.Mk} {d : Sp.Decl} {y : Sp.Sym} {level : Int} (h : Sp.kJ s d y level = some s') : s'.toks.length ≤ s.toks.length + 1 ∧ s'.types = s.types := by
 have h1 := Sp.addTok_len y s; have h2 : (Sp.addTok s y).1.types = s.types := by unfold Sp.addTok; split <;> rfl
 unfold Sp.kJ at h; split at h
 ·cases h
 ·cases h
  simp only [Sp.jJ]
  (repeat' split) <;> (first | exact ⟨h1, h2⟩ | (simp only [List.length_set]; exact ⟨h1, h2⟩))
theorem Sp.symStep_len {s s' : Sp.Mk} {d : Sp.Decl} {y : Sp.Sym} {level : Int} (h : Sp.vV d level y s = some s') : s'.toks.length ≤ s.toks.length + 1 ∧ s'.types.length ≤ s.types.length + 1 := by
 unfold Sp.vV at h; split at h
 ·unfold Sp.yN at h
  (repeat' split at h) <;> (first | cases h) <;> simp
 ·obtain ⟨h1, h2⟩ := Sp.tokStep_len h
  exact ⟨h1, by rw [h2]; omega⟩
theorem Sp.zAJ (d : Sp.Decl) (level : Int) (y : Sp.Sym) (l : List Sp.Sym) (s : Sp.Mk) : Sp.zAS d level (y :: l) s = match Sp.vV d level y s with
  | none => .error (y.name, y.at_)
  | some s => Sp.zAS d level l s := by
 conv => lhs; unfold Sp.zAS
 unfold Sp.vV; split <;> (rename_i h; simp only [h])
def DeclOk (d : Sp.Decl) : Prop := (1 ≤ d.kind ∧ d.kind ≤ 6) ∧ ∀ y ∈ d.syms, y.lit = true → ∃ c, y.name = [c]
theorem maker_symStep {B : Nat} {W : World} {m : Nat} {x : Sp.zM} {s : Sp.Mk} {v : MkV} (d : Sp.Decl) (dsv : Value) (y : Sp.Sym) (level : Int) (h : zS B W m x s v 0 0 []) (hn40 : s.toks.length ≤ 2 ^ 40) (hn : s.types.length ≤ 2 ^ 40) (hy : y.name.length ≤ maxLen) (hy1 : y.lit = true → ∃ c, y.name = [c]) (hk : 1 ≤ d.kind ∧ d.kind ≤ 6) :
  (5 ≤ d.kind → Calls Tryz.prog 64 #[.pointer (some ⟨m, 0, none⟩), .agg (xP dsv d).toArray, symV y] W (gA B m x v W y.name y.at_ (Sp.vV d level y s))) ∧
  (¬ 5 ≤ d.kind → Calls Tryz.prog 65 #[.pointer (some ⟨m, 0, none⟩), .agg (xP dsv d).toArray, symV y, .int .i64 level] W (gA B m x v W y.name y.at_ (Sp.vV d level y s))) := by
 constructor
 ·intro h5
  unfold Sp.vV; rw [if_pos h5]; exact (maker_named d dsv y h hn hy (by omega)).mono fun _ _ h => gA.of_named h
 ·intro h5
  unfold Sp.vV; rw [if_neg h5]; exact maker_token d dsv y level h hn40 hy hy1 (by omega)
set_option maxRecDepth 100000 in
set_option maxHeartbeats 12800000 in
theorem maker_decls {W0 W : World} {m : Nat} {x : Sp.zM} {s : Sp.Mk} {v : MkV} (h : zS W0.heap.size W m x s v 0 0 []) (hw : Below W0.heap.size W0 W) (hd : xD W0 v.dv x.decls) (hs : xN x) (hg : ∀ d ∈ x.decls, DeclOk d) (ht : s.toks.length ≤ 4000) (hty : s.types.length ≤ 4000) :
  Calls Tryz.prog 38 #[.pointer (some ⟨m, 0, none⟩)] W (zDI W0.heap.size m x v.dv v.rv W0 (Sp.qM 0 x.decls s)) := by
 generalize hR : Sp.qM 0 x.decls s = R; obtain ⟨da, dc, hdv⟩ := hd.form; generalize hds : x.decls = ds at *
 obtain ⟨f, hd1, hd2⟩ := hd; have hlen := hs.2.2.1; have hsm := hs.2.2.2.2.1; rw [hds] at hlen hsm; generalize hdv0 : v.dv = dv at *
 subst hdv; generalize hn : ds.length = n at *
 have HH := zh h; have HR := zh hR; have HW := zh hw; have HD1 := zh hd1; have HD2 := zh hd2; have HG := zh hg; have HSM := zh hsm; have HN := zh hn; have HDV := zh hdv0; obtain ⟨rv, hrv⟩ : ∃ rv, rv = v.rv := ⟨_, rfl⟩
 rw [← hrv]; have HRV := zh hrv; have hb := h.block; unfold zX at hb; rw [hdv0] at hb; have c1 := zc 1 hb; have hl := zC hb; clear h hR hw hd1 hd2 hg hsm hn hdv0 hs hds hrv hb; go_enter Tryz.func38, Tryz.ntmps38
 go_wp2_with fail; clear c1; go_loopg [3, 14] n (fun q lv iv wr => ∃ (k : Nat) (level : Int) (s1 : Sp.Mk) (v1 : MkV), k ≤ n ∧ q = n - k ∧ lv = .int .i64 level ∧ iv = .int .i64 k ∧ 0 ≤ level ∧ level ≤ k ∧ zS W0.heap.size wr m x s1 v1 0 0 [] ∧ v1.dv = .slice da n dc ∧ v1.rv = rv ∧ Below W0.heap.size W0 wr ∧ s1.toks.length ≤ 4000 + k * 4000 ∧ s1.types.length ≤ 4000 + k * 4000 ∧ Sp.qM level (ds.drop k) s1 = R)
 case atStart => exact ⟨0, 0, s, v, Nat.zero_le _, rfl, rfl, rfl, by omega, by omega, HH.out, HDV.out, HRV.out.symm, HW.out, by omega, by omega, HR.out⟩
 case round =>
  obtain ⟨k, level, s1, v1, hk, rfl, rfl, rfl, hv0, hv1, hmk, hdv, hrv, hbw, hlt, hly, hR⟩ := hrel; have HMK := zh hmk; have HDV1 := zh hdv; have HRV1 := zh hrv; have HBW := zh hbw; have HRR := zh hR; have hk0 : (0 : Int) ≤ (k : Int) := Int.natCast_nonneg _; have hlm : m < wr.heap.size := zC hmk.block; clear hmk hdv hrv hbw hR; by_cases hkn : k < n
  ·have hk1 : (k : Int) < (n : Int) := by omega
   have hkd : k < ds.length := by have := HN.out; omega
   have hdk := List.getElem?_eq_getElem hkd; have hdr : ds.drop k = ds[k] :: ds.drop (k + 1) := List.drop_eq_getElem_cons hkd; have hgd := HG.out _ (List.getElem_mem hkd); have hsd := HSM.out _ (List.getElem_mem hkd); have hR := HRR.out; rw [hdr] at hR; unfold Sp.qM at hR; simp only at hR; generalize ds[k] = d at *
   have hsyms := HD2.out k d hdk; obtain ⟨sa, sc, hfk⟩ := hsyms.form; rw [List.length_map] at hfk; obtain ⟨bd, od, rfl, hbd, hcd⟩ := HD1.out.at (k := k) (row := xP (f k) d) (by rw [List.getElem?_mapIdx, hdk]; rfl); rw [hfk] at hcd hsyms; have hcells := hcd wr HBW.out; obtain ⟨dk, dt, dsy, dp⟩ := d; simp only at *
   obtain ⟨nd, hnd⟩ : ∃ nd, nd = dsy.length := ⟨_, rfl⟩
   have hnd4 : nd ≤ 4000 := by have := hsd.2.1; simp only at this; omega
   rw [← hnd] at hcells hsyms; have HND := zh hnd; clear hnd; have r0 := hcells 0 _ rfl; have r1 := hcells 1 _ rfl; have r2 := hcells 2 _ rfl; have r3 := hcells 3 _ rfl; simp only [Nat.add_zero] at r0; have hlb : bd < wr.heap.size := by have := HBW.out.size; omega
   have HSY := zh hsyms; have HGD := zh hgd; have HSD := zh hsd; have HR1 := zh hR; obtain ⟨lv1, hlv1⟩ : ∃ lv1 : Int, lv1 = if 2 ≤ dk ∧ dk ≤ 4 then level + 1 else level := ⟨_, rfl⟩
   have HLV := zh hlv1; have hlvb : 0 ≤ lv1 ∧ lv1 ≤ k + 1 := by rw [hlv1]; split <;> omega
   clear hsyms hgd hsd hR hcells hcd hdr hdk hfk hlv1; obtain ⟨b5, hb5⟩ : ∃ b5 : Bool, b5 = decide (2 ≤ dk ∧ dk ≤ 4) := ⟨_, rfl⟩
   have HB5 := zh hb5; clear hb5; go_upto_region 5 with fail
   go_cut [25] (fun c wx => c = .bool b5 ∧ wx = wr.alloc (.cells #[.int .i64 dk, .string ⟨dt.toArray⟩, .slice sa nd sc, .int .i64 dp] 57))
   case first =>
    by_cases h2 : 2 ≤ dk
    ·have E : Hid (decide (dk ≤ 4) = b5) := zh (by rw [HB5.out]; simp [h2])
     go_wp2_with fail; go_meet; exact ⟨by rw [← E.out], rfl⟩
    ·have E : Hid (false = b5) := zh (by rw [HB5.out]; simp [h2])
     go_wp2_with fail; go_meet; exact ⟨by rw [← E.out], rfl⟩
   case rest =>
    obtain ⟨rfl, rfl⟩ := hcut; go_upto_if 25 with fail
    go_cut [3] (fun c3 wx => c3 = .int .i64 lv1 ∧ wx = wr.alloc (.cells #[.int .i64 dk, .string ⟨dt.toArray⟩, .slice sa nd sc, .int .i64 dp] 57))
    case first =>
     cases b5 with
     | true =>
      have E : Hid (level + 1 = lv1) := zh (by
       have h := HB5.out
       rw [HLV.out, if_pos (of_decide_eq_true h.symm)])
      go_wp2_with fail; go_meet; exact ⟨by rw [← E.out], rfl⟩
     | false =>
      have E : Hid (level = lv1) := zh (by
       have h := HB5.out
       rw [HLV.out, if_neg (of_decide_eq_false h.symm)])
      go_wp2_with fail; go_meet; exact ⟨by rw [← E.out], rfl⟩
    case rest =>
     obtain ⟨rfl, rfl⟩ := hcut; have hbx := zE wr (.cells #[.int .i64 dk, .string ⟨dt.toArray⟩, .slice sa nd sc, .int .i64 dp] 57); have b2 := zc 2 hbx; have hlbx := zC hbx; have HMK2 := zh (zU HMK.out ((Below.refl _ wr).alloc (Nat.le_refl _) (.cells #[.int .i64 dk, .string ⟨dt.toArray⟩, .slice sa nd sc, .int .i64 dp] 57))); have HBX := zh hbx; have HNB := zh (show ¬ yZ m v1 wr.heap.size from fun hm => absurd (HMK.out.lt_own _ hm) (Nat.lt_irrefl _)); have HBW2 := zh (HBW.out.alloc HBW.out.size (.cells #[.int .i64 dk, .string ⟨dt.toArray⟩, .slice sa nd sc, .int .i64 dp] 57)); generalize hgd : wr.heap.size = gd at *
     clear hbx hgd; go_wp2_with fail; clear b2 hlbx; generalize hw2 : wr.alloc (.cells #[.int .i64 dk, .string ⟨dt.toArray⟩, .slice sa nd sc, .int .i64 dp] 57) = w2 at *
     clear hw2
     go_loopg [31] nd (fun q iv wx => ∃ (j : Nat) (s2 : Sp.Mk) (v2 : MkV), j ≤ nd ∧ q = nd - j ∧ iv = .int .i64 j ∧ zS W0.heap.size wx m x s2 v2 0 0 [] ∧ v2.dv = .slice (some ⟨bd, od, none⟩) n dc ∧ v2.rv = rv ∧ Below W0.heap.size W0 wx ∧ wx.heap[gd]? = some (.cells #[.int .i64 dk, .string ⟨dt.toArray⟩, .slice sa nd sc, .int .i64 dp] 57 (0, 0)) ∧ ¬ yZ m v2 gd ∧ s2.toks.length ≤ 4000 + k * 4000 + j ∧ s2.types.length ≤ 4000 + k * 4000 + j ∧ (match Sp.zAS ⟨dk, dt, dsy, dp⟩ lv1 (dsy.drop j) s2 with
      | .error e => .error e
      | .ok s => Sp.qM lv1 (ds.drop (k + 1)) s) = R)
     case atStart =>
      have h := HR1.out; rw [← HLV.out] at h; exact ⟨0, s1, v1, Nat.zero_le _, rfl, rfl, HMK2.out, HDV1.out, HRV1.out, HBW2.out, HBX.out, HNB.out, by omega, by omega, h⟩
     case round =>
      obtain ⟨j, s2, v2, hj, rfl, rfl, hmk, hdv, hrv, hbw, hbx, hnb, hlt2, hly2, hRj⟩ := hrel; have hj0 : (0 : Int) ≤ (j : Int) := Int.natCast_nonneg _; by_cases hjn : j < nd
      ·have hj1 : (j : Int) < (nd : Int) := by omega
       have hjd : j < dsy.length := by have := HND.out; omega
       have hdj := List.getElem?_eq_getElem hjd; have hdr : dsy.drop j = dsy[j] :: dsy.drop (j + 1) := List.drop_eq_getElem_cons hjd; have hgy := HGD.out.2 _ (List.getElem_mem hjd); have hsy := HSD.out.2.2 _ (List.getElem_mem hjd); rw [hdr] at hRj; generalize dsy[j] = y at *
       have hsl := HSY.out; obtain ⟨bs, os, rfl, hbs, hcd⟩ := hsl.at (k := j) (row := symC y) (by rw [List.getElem?_map, hdj]; rfl); have hcells := hcd wr hbw; obtain ⟨nm, lt, nu, pa⟩ := y; have r0 := hcells 0 _ rfl; have r1 := hcells 1 _ rfl; have r2 := hcells 2 _ rfl; have r3 := hcells 3 _ rfl; simp only [Nat.add_zero] at r0 r1 r2 r3; have hlb : bs < wr.heap.size := by have := hbw.size; omega
       have hmk3 := zU hmk ((Below.refl _ wr).alloc (Nat.le_refl _) (.cells #[.string ⟨nm.toArray⟩, .bool lt, .int .i64 nu, .int .i64 pa] 45)); have hst := maker_symStep ⟨dk, dt, dsy, dp⟩ (.slice (some ⟨bs, os, none⟩) nd sc) ⟨nm, lt, nu, pa⟩ lv1 hmk3 (by omega) (by omega) (by have h := hsy; unfold smallSym at h; unfold maxLen; simp only at h ⊢; omega) hgy HGD.out.1; have HST := zh hst; have HMK3 := zh hmk3; have HBA := zh (hbw.alloc hbw.size (.cells #[.string ⟨nm.toArray⟩, .bool lt, .int .i64 nu, .int .i64 pa] 45)); have HRJ := zh hRj; have HBX2 := zh hbx; have HNB2 := zh hnb; have HDV2 := zh hdv; have HRV2 := zh hrv; have hlx : m < wr.heap.size := zC hmk.block; have d0 := zc 0 hbx; have d1 := zc 1 hbx; have d2 := zc 2 hbx; have d3 := zc 3 hbx; have hld := zC hbx; clear hmk hdv hrv hbw hbx hnb hRj hcells hcd hsl hdr hdj hgy hsy hmk3 hst; by_cases h5 : 5 ≤ dk
       ·go_wp2_with fail
        refine (HST.out.1 h5).mono ?_; rintro e w3 hpost
        cases ho : Sp.vV ⟨dk, dt, dsy, dp⟩ lv1 ⟨nm, lt, nu, pa⟩ s2 with
        | none =>
         rw [ho] at hpost; obtain ⟨rfl, s9, hm9, hk9⟩ := hpost
         have HE : Hid (R = .error (nm, pa)) := zh (by
          have h := HRJ.out; rw [Sp.zAJ, ho] at h
          exact h.symm)
         have HM9 := zh hm9; have HK9 := zh hk9; clear hm9 hk9 ho; go_wp2_with fail; go_ret; rw [HE.out]; exact zBJ (zK rfl) (HBA.out.trans (Kp.below HK9.out (by have := HBA.out.size; omega) (fun b hb e => by have := HMK3.out.behind.1; omega))) HM9.out
        | some s3 =>
         rw [ho] at hpost; obtain ⟨rfl, v3, hmk3, hfr3, hq1, hq2⟩ := hpost
         have HE : Hid ((match Sp.zAS ⟨dk, dt, dsy, dp⟩ lv1 (dsy.drop (j + 1)) s3 with
              | .error e => .error e
              | .ok s => Sp.qM lv1 (ds.drop (k + 1)) s) = R) := zh (by
          have h := HRJ.out; rw [Sp.zAJ, ho] at h
          exact h)
         have hlen3 := Sp.symStep_len ho; have hbx3 := (hfr3.kp.block gd (by have := zC HBX2.out; simp only [World.size_alloc]; omega) HNB2.out).trans ((Below.heap_alloc _ _ _ (zC HBX2.out)).trans HBX2.out); have d0 := zc 0 hbx3; have d1 := zc 1 hbx3; have d2 := zc 2 hbx3; have d3 := zc 3 hbx3; have hld3 := zC hbx3; have HBX3 := zh hbx3
         have HNB3 := zh (show ¬ yZ m v3 gd from fun hm => by
          rcases hfr3.new gd hm with h1 | h1
          ·exact HNB2.out h1
          ·have := zC HBX2.out; simp only [World.size_alloc] at h1; omega)
         have HBW3 := zh (HBA.out.trans (MkFr.belowB HMK3.out hfr3)); have HMK4 := zh hmk3; have HQ := zh (And.intro (hq1.trans HDV2.out) (hq2.trans HRV2.out)); clear hmk3 hfr3 hq1 hq2 ho hbx3; go_wp2_with fail; go_roundg (nd - (j + 1))
         case measure => omega
         case rel => exact ⟨j + 1, s3, v3, by omega, rfl, by go_num, HMK4.out, HQ.out.1, HQ.out.2, HBW3.out, HBX3.out, HNB3.out, by omega, by omega, HE.out⟩
       ·go_wp2_with fail
        refine (HST.out.2 h5).mono ?_; rintro e w3 hpost
        cases ho : Sp.vV ⟨dk, dt, dsy, dp⟩ lv1 ⟨nm, lt, nu, pa⟩ s2 with
        | none =>
         rw [ho] at hpost; obtain ⟨rfl, s9, hm9, hk9⟩ := hpost
         have HE : Hid (R = .error (nm, pa)) := zh (by
          have h := HRJ.out; rw [Sp.zAJ, ho] at h
          exact h.symm)
         have HM9 := zh hm9; have HK9 := zh hk9; clear hm9 hk9 ho; go_wp2_with fail; go_ret; rw [HE.out]; exact zBJ (zK rfl) (HBA.out.trans (Kp.below HK9.out (by have := HBA.out.size; omega) (fun b hb e => by have := HMK3.out.behind.1; omega))) HM9.out
        | some s3 =>
         rw [ho] at hpost; obtain ⟨rfl, v3, hmk3, hfr3, hq1, hq2⟩ := hpost
         have HE : Hid ((match Sp.zAS ⟨dk, dt, dsy, dp⟩ lv1 (dsy.drop (j + 1)) s3 with
              | .error e => .error e
              | .ok s => Sp.qM lv1 (ds.drop (k + 1)) s) = R) := zh (by
          have h := HRJ.out; rw [Sp.zAJ, ho] at h
          exact h)
         have hlen3 := Sp.symStep_len ho; have hbx3 := (hfr3.kp.block gd (by have := zC HBX2.out; simp only [World.size_alloc]; omega) HNB2.out).trans ((Below.heap_alloc _ _ _ (zC HBX2.out)).trans HBX2.out); have d0 := zc 0 hbx3; have d1 := zc 1 hbx3; have d2 := zc 2 hbx3; have d3 := zc 3 hbx3; have hld3 := zC hbx3; have HBX3 := zh hbx3
         have HNB3 := zh (show ¬ yZ m v3 gd from fun hm => by
          rcases hfr3.new gd hm with h1 | h1
          ·exact HNB2.out h1
          ·have := zC HBX2.out; simp only [World.size_alloc] at h1; omega)
         have HBW3 := zh (HBA.out.trans (MkFr.belowB HMK3.out hfr3)); have HMK4 := zh hmk3; have HQ := zh (And.intro (hq1.trans HDV2.out) (hq2.trans HRV2.out)); clear hmk3 hfr3 hq1 hq2 ho hbx3; go_wp2_with fail; go_roundg (nd - (j + 1))
         case measure => omega
         case rel => exact ⟨j + 1, s3, v3, by omega, rfl, by go_num, HMK4.out, HQ.out.1, HQ.out.2, HBW3.out, HBX3.out, HNB3.out, by omega, by omega, HE.out⟩
      ·obtain rfl : j = nd := by omega
       rw [List.drop_eq_nil_of_le (by rw [← HND.out]; exact Nat.le_refl _)] at hRj; have HE : Hid (Sp.qM lv1 (ds.drop (k + 1)) s2 = R) := zh hRj; have HMK3 := zh hmk; have HBW3 := zh hbw; have HDV2 := zh hdv; have HRV2 := zh hrv; clear hRj hmk hbw hdv hrv hbx hnb; go_wp2_with fail; go_roundg (n - (k + 1))
       case measure => omega
       case rel => exact ⟨k + 1, lv1, s2, v2, by omega, rfl, rfl, by go_num, by omega, by omega, HMK3.out, HDV2.out, HRV2.out, HBW3.out, by omega, by omega, HE.out⟩
  ·obtain rfl : k = n := by omega
   have hR := HRR.out; rw [List.drop_eq_nil_of_le (by rw [HN.out]; exact Nat.le_refl _)] at hR; have HR2 : Hid (R = .ok s1) := zh (by rw [← hR]; rfl); clear hR HRR; go_wp2_with fail; go_ret; rw [HR2.out]; exact pass_ok (zK rfl) HBW.out HMK.out HDV1.out HRV1.out

def Sp.yX (s : Sp.Mk) (y : Sp.Sym) (prec : Bool) : Option Sp.Mk :=
 if y.lit = true then (if Sp.clash s y = true then none else some (Sp.addTok s y).1)
 else if (Sp.yD s.toks y.name y.lit).isNone = true ∧ (prec = true ∨ (Sp.yO s.lefts y.name).isNone = true) then none else some s
theorem Sp.used_step (s : Sp.Mk) (y : Sp.Sym) (prec : Bool) : Sp.used s y prec = match Sp.yX s y prec with
  | none => .error (y.name, y.at_)
  | some s => .ok s := by
 unfold Sp.used Sp.yX
 (repeat' split) <;> simp_all
set_option maxRecDepth 100000 in
set_option maxHeartbeats 6400000 in
theorem maker_used {B : Nat} {W : World} {m : Nat} {x : Sp.zM} {s : Sp.Mk} {v : MkV} (y : Sp.Sym) (prec : Bool) (h : zS B W m x s v 0 0 []) (hn40 : s.toks.length ≤ 2 ^ 40) (hy : y.name.length ≤ maxLen) (hy1 : y.lit = true → ∃ c, y.name = [c]) :
  Calls Tryz.prog 67 #[.pointer (some ⟨m, 0, none⟩), symV y, .bool prec] W (gA B m x v W y.name y.at_ (Sp.yX s y prec)) := by
 obtain ⟨nm, lt, nu, pa⟩ := y; simp only at hy hy1; have hb := h.block; unfold zX at hb; have hl := zC hb; have htm := h.tmap; generalize hbt : v.bt = bt at *
 obtain ⟨kl, hkl⟩ := zBO (b := lt) hy; have HH := zh h
 have hHS1 : ∀ (ov : Int) (ob : Bool), (match Sp.yD s.toks nm lt with
   | some k => ((k : Int), true)
   | none => ((0 : Int), false)) = (ov, ob) → ∀ w', Below (W.heap.size + 1) (W.alloc (.cells #[.string ⟨nm.toArray⟩, .bool lt, .int .i64 nu, .int .i64 pa] 45)) w' → (w'.cell? ⟨m, 9, none⟩ = some (.map (some bt)) ∧ w'.cell? ⟨W.heap.size, 0, none⟩ = some (.string ⟨nm.toArray⟩) ∧ w'.cell? ⟨W.heap.size, 1, none⟩ = some (.bool lt) ∧ w'.cell? ⟨W.heap.size, 2, none⟩ = some (.int .i64 nu) ∧ w'.cell? ⟨W.heap.size, 3, none⟩ = some (.int .i64 pa) ∧ (Instr.lookup 95 (.map (some bt)) (.agg #[.string ⟨nm.toArray⟩, .bool lt]) true).run Tryz.prog w' = .ok (.tuple #[.int .i64 ov, .bool ob]) w') := by
  intro ov ob hob w' hw'; have hbx := (hw'.block W.heap.size (by omega)).trans (zE W _); have hbm := (hw'.block m (by omega)).trans ((Below.heap_alloc _ _ _ hl).trans hb); have hk := (htm.block ((hw'.block bt (by have := htm.lt; omega)).trans (Below.heap_alloc _ _ _ htm.lt))).look true zAP Tryz.underlying95 (kQ w') hkl; refine ⟨zc 9 hbm, zc 0 hbx, zc 1 hbx, zc 2 hbx, zc 3 hbx, ?_⟩; rw [hk]; have e : tokL s.toks (.agg #[.string ⟨nm.toArray⟩, .bool lt]) = (Sp.yD s.toks nm lt).map fun (k : Nat) => Value.int .i64 (k : Int) := rfl
  rw [e]
  cases ho : Sp.yD s.toks nm lt with
  | some k => rw [ho] at hob; simp only [Prod.mk.injEq] at hob; obtain ⟨rfl, rfl⟩ := hob; rfl
  | none => rw [ho] at hob; simp only [Prod.mk.injEq] at hob; obtain ⟨rfl, rfl⟩ := hob; rfl
 have HKY := zh (fun w => (show Calls Tryz.prog 82 #[.agg #[.string ⟨nm.toArray⟩, .bool lt, .int .i64 nu, .int .i64 pa]] w (fun e w' => e = .returned (.agg #[.string ⟨nm.toArray⟩, .bool lt]) ∧ Below w.heap.size w w') from zAE ⟨nm, lt, nu, pa⟩ w)); have hnm := h.nmap; generalize hbn : v.bn = bn at *
 obtain ⟨kl2, hkl2⟩ := zBP hy
 obtain ⟨ov, ob, hob⟩ : ∃ (ov : Int) (ob : Bool), (match Sp.yD s.toks nm lt with
   | some k => ((k : Int), true)
   | none => ((0 : Int), false)) = (ov, ob) := ⟨_, _, rfl⟩
 have hob2 : ob = (Sp.yD s.toks nm lt).isSome := by
  cases ho : Sp.yD s.toks nm lt <;> rw [ho] at hob <;> simp only [Prod.mk.injEq] at hob <;> exact hob.2.symm
 have HS1 := zh (hHS1 _ _ hob)
 obtain ⟨nv, nb, hnb⟩ : ∃ (nv : Int) (nb : Bool), (match Sp.yO s.lefts nm with
   | some k => ((k : Int), true)
   | none => ((0 : Int), false)) = (nv, nb) := ⟨_, _, rfl⟩
 have hnb2 : nb = (Sp.yO s.lefts nm).isSome := by
  cases ho : Sp.yO s.lefts nm <;> rw [ho] at hnb <;> simp only [Prod.mk.injEq] at hnb <;> exact hnb.2.symm
 have HS2 : Hid (∀ w', Below (W.heap.size + 1) (W.alloc (.cells #[.string ⟨nm.toArray⟩, .bool lt, .int .i64 nu, .int .i64 pa] 45)) w' → (w'.cell? ⟨m, 11, none⟩ = some (.map (some bn)) ∧ w'.cell? ⟨W.heap.size, 0, none⟩ = some (.string ⟨nm.toArray⟩) ∧ (Instr.lookup 96 (.map (some bn)) (.string ⟨nm.toArray⟩) true).run Tryz.prog w' = .ok (.tuple #[.int .i64 nv, .bool nb]) w')) := zh (fun w' hw' => by
  have hbx := (hw'.block W.heap.size (by omega)).trans (zE W _); have hbm := (hw'.block m (by omega)).trans ((Below.heap_alloc _ _ _ hl).trans hb); have hk := (hnm.block ((hw'.block bn (by have := hnm.lt; omega)).trans (Below.heap_alloc _ _ _ hnm.lt))).look true vB Tryz.underlying96 (kQ w') hkl2; refine ⟨zc 11 hbm, zc 0 hbx, ?_⟩; rw [hk]; have e : nonL s.lefts (.string ⟨nm.toArray⟩) = (Sp.yO s.lefts nm).map fun (k : Nat) => Value.int .i64 (k : Int) := rfl
  rw [e]
  cases ho : Sp.yO s.lefts nm with
  | some k => rw [ho] at hnb; simp only [Prod.mk.injEq] at hnb; obtain ⟨rfl, rfl⟩ := hnb; rfl
  | none => rw [ho] at hnb; simp only [Prod.mk.injEq] at hnb; obtain ⟨rfl, rfl⟩ := hnb; rfl)
 have HOB := zh hob2; have HNB := zh hnb2; clear hHS1 htm hb h hnm hob hnb hob2 hnb2; show Calls _ _ #[_, .agg #[.string ⟨nm.toArray⟩, .bool lt, .int .i64 nu, .int .i64 pa], _] _ _
 go_enter Tryz.func67, Tryz.ntmps67
 go_wp2_with fail; refine zF (fun w' : World => (w'.cell? ⟨m, 9, none⟩ = some (.map (some bt)) ∧ w'.cell? ⟨W.heap.size, 0, none⟩ = some (.string ⟨nm.toArray⟩) ∧ w'.cell? ⟨W.heap.size, 1, none⟩ = some (.bool lt) ∧ w'.cell? ⟨W.heap.size, 2, none⟩ = some (.int .i64 nu) ∧ w'.cell? ⟨W.heap.size, 3, none⟩ = some (.int .i64 pa) ∧ (Instr.lookup 95 (.map (some bt)) (.agg #[.string ⟨nm.toArray⟩, .bool lt]) true).run Tryz.prog w' = .ok (.tuple #[.int .i64 ov, .bool ob]) w')) [] (.take 0 (.take 1 (.take 2 (.take 3 (.take 4 (.one 5 (.take 6 (.take 7 (.take 8 (.take 9 (.one 10 (.one 11 (.done))))))))))))) (by kernel_rfl) (by kernel_rfl) (fun _ _ _ _ h => h) ?_; have hSw := HS1.out _ (below_drewN (Below.refl _ _) 1); iterate 5 (refine zN (v := ?_) rfl hSw (by rfl) ?_ ?_; rotate_left 1; (focus (intro w hSx; (try dsimp only at hSx); go_simp; try rfl)); (try simp only [Act.put, zq0, zq1, zq2]))
 refine zB rfl (by rfl) (fun K' hK => ?_)
 (go_simp; go_at_call 82; refine (HKY.out _).mono ?_; rintro e w1 ⟨rfl, hb1⟩; have HB1 := zh (show Below (W.heap.size + 1) (W.alloc (.cells #[.string ⟨nm.toArray⟩, .bool lt, .int .i64 nu, .int .i64 pa] 45)) w1 from (zI hb1).mono (by show _ ≤ (W.alloc _).heap.size; simp)); clear hb1)
 refine hK _ _ (.inr (HS1.out _ HB1.out)) ?_; clear hK K' hSw; have hSw := HS1.out _ HB1.out; (try simp only [Act.put, zq0, zq1, zq2]); iterate 4 (refine zN (v := ?_) rfl hSw (by rfl) ?_ ?_; rotate_left 1; (focus (intro w hSx; (try dsimp only at hSx); go_simp; try rfl)); (try simp only [Act.put, zq0, zq1, zq2]))
 refine zB rfl (by rfl) (fun K' hK => ?_); go_simp; refine hK _ _ (.inr (HS1.out _ HB1.out)) ?_; clear hK K' hSw; (try simp only [Act.put, zq0, zq1, zq2]); refine zB rfl (by rfl) (fun K' hK => ?_); go_simp; refine hK _ _ (.inr (HS1.out _ HB1.out)) ?_; clear hK K'; (try simp only [Act.put, zq0, zq1, zq2]); refine zH ?_; go_upto_region 2 with fail
 refine zF (fun w' : World => (w'.cell? ⟨m, 11, none⟩ = some (.map (some bn)) ∧ w'.cell? ⟨W.heap.size, 0, none⟩ = some (.string ⟨nm.toArray⟩) ∧ (Instr.lookup 96 (.map (some bn)) (.string ⟨nm.toArray⟩) true).run Tryz.prog w' = .ok (.tuple #[.int .i64 nv, .bool nb]) w')) [] (.take 0 (.take 1 (.take 2 (.take 3 (.take 4 (.take 5 (.take 6 (.take 7 (.take 8 (.take 9 (.one 10 (.one 11 (.done))))))))))))) (by kernel_rfl) (by kernel_rfl) (fun _ _ _ _ h => h) ?_; have hSw := HS2.out _ (below_drewN HB1.out 1); iterate 10 (refine zN (v := ?_) rfl hSw (by rfl) ?_ ?_; rotate_left 1; (focus (intro w hSx; (try dsimp only at hSx); go_simp; try rfl)); (try simp only [Act.put, zq0, zq1, zq2]))
 refine zB rfl (by rfl) (fun K' hK => ?_); go_simp; refine hK _ _ (.inr (HS2.out _ (below_drewN HB1.out 1))) ?_; clear hK K' hSw; (try simp only [Act.put, zq0, zq1, zq2]); refine zB rfl (by rfl) (fun K' hK => ?_); go_simp; refine hK _ _ (.inr (HS2.out _ (below_drewN HB1.out 1))) ?_; clear hK K'; (try simp only [Act.put, zq0, zq1, zq2]); refine zH ?_; obtain ⟨w2, hw2⟩ : ∃ w2, w2 = w1.drew := ⟨_, rfl⟩
 have hb2 : Below (W.heap.size + 1) (W.alloc (.cells #[.string ⟨nm.toArray⟩, .bool lt, .int .i64 nu, .int .i64 pa] 45)) w2 := by rw [hw2]; exact below_drewN HB1.out 1
 rw [← hw2]; have hbx := (hb2.block W.heap.size (by omega)).trans (zE W _); have z0 := zc 0 hbx; have z1 := zc 1 hbx; have z2 := zc 2 hbx; have z3 := zc 3 hbx; have hlw := zC hbx; have hmk2 := zDO HH.out hb2; have HBW := zh (zT hb2); have HBX := zh hbx; have hlm := zC hmk2.block; have HMK := zh hmk2; have HWR := zh (qG nm pa hmk2); clear hw2 hb2 hbx hmk2
 cases lt with
 | true =>
  have HC1 := zh (hy1 rfl); clear hy1; obtain ⟨b3, hb3⟩ : ∃ b, b = Sp.clash s ⟨nm, true, nu, pa⟩ := ⟨_, rfl⟩
  have HB3 := zh hb3; clear hb3
  have HCL := zh (show Calls Tryz.prog 84 #[.pointer (some ⟨m, 0, none⟩), .agg #[.string ⟨nm.toArray⟩, .bool true, .int .i64 nu, .int .i64 pa]] w2 (fun e w' => e = .returned (.bool b3) ∧ Below w2.heap.size w2 w') from by
   rw [HB3.out]
   exact maker_clash ⟨nm, true, nu, pa⟩ HMK.out (by omega) hy (fun _ => HC1.out))
  go_wp2_with fail; refine (HCL.out).mono ?_; rintro e w3 ⟨rfl, hb3⟩; have HMK3 := zh (zU HMK.out hb3); have HBW3 := zh (HBW.out.trans (hb3.mono HBW.out.size)); have hbx3 := (hb3.block _ (zC HBX.out)).trans HBX.out; clear z0 z1 z2 z3 hlw; have z0 := zc 0 hbx3; have z1 := zc 1 hbx3; have z2 := zc 2 hbx3; have z3 := zc 3 hbx3; have hlw := zC hbx3; have hlm3 := zC HMK3.out.block; clear hb3 hbx3
  cases b3 with
  | true =>
   have HNS : Hid (Sp.yX s ⟨nm, true, nu, pa⟩ prec = none) := zh (by unfold Sp.yX; rw [if_pos rfl, if_pos HB3.out.symm]); go_wp2_with fail; refine (qG nm pa HMK3.out).mono ?_; rintro e w9 ⟨rfl, hm9, hk9⟩; have HM9 := zh hm9; have HK9 := zh hk9; clear hm9 hk9; go_wp2_with fail; go_ret; rw [HNS.out]; exact kK (zK rfl) HM9.out (jK HBW3.out HK9.out)
  | false =>
   have HNS : Hid (Sp.yX s ⟨nm, true, nu, pa⟩ prec = some (Sp.addTok s ⟨nm, true, nu, pa⟩).1) := zh (by unfold Sp.yX; rw [if_pos rfl, if_neg (by rw [← HB3.out]; simp)]); have HADD := zh (maker_add ⟨nm, true, nu, pa⟩ HMK3.out hn40 hy (fun _ => HC1.out)); go_wp2_with fail; refine (HADD.out).mono ?_; rintro e w4 hadd; unfold AddPost at hadd; obtain ⟨rfl, v1, hmk4, hfr4, hdv, hrv⟩ := hadd; have HMK4 := zh hmk4; have HFR := zh hfr4; have HD := zh (And.intro hdv hrv); clear hmk4 hfr4 hdv hrv; go_wp2_with fail; go_ret; rw [HNS.out]; exact gO (zK rfl) HMK4.out ((MkFr.below v HBW3.out).trans HFR.out) HD.out.1 HD.out.2
 | false =>
  have hu : Sp.yX s ⟨nm, false, nu, pa⟩ prec = if ob = false ∧ (prec = true ∨ nb = false) then none else some s := by
   unfold Sp.yX; rw [if_neg (by simp), HOB.out, HNB.out]; simp only; cases Sp.yD s.toks nm false <;> cases Sp.yO s.lefts nm <;> simp
  have HU := zh hu; clear hu
  cases ob with
  | true =>
   have HNS : Hid (Sp.yX s ⟨nm, false, nu, pa⟩ prec = some s) := zh (by rw [HU.out]; simp); go_wp2_with fail; go_ret; rw [HNS.out]; exact gO (zK rfl) HMK.out (MkFr.below v HBW.out) rfl rfl
  | false =>
   cases prec with
   | true =>
    have HNS : Hid (Sp.yX s ⟨nm, false, nu, pa⟩ true = none) := zh (by rw [HU.out]; simp); go_wp2_with fail; refine (HWR.out).mono ?_; rintro e w9 ⟨rfl, hm9, hk9⟩; have HM9 := zh hm9; have HK9 := zh hk9; clear hm9 hk9; go_wp2_with fail; go_ret; rw [HNS.out]; exact kK (zK rfl) HM9.out (jK HBW.out HK9.out)
   | false =>
    cases nb with
    | true =>
     have HNS : Hid (Sp.yX s ⟨nm, false, nu, pa⟩ false = some s) := zh (by rw [HU.out]; simp); go_wp2_with fail; go_ret; rw [HNS.out]; exact gO (zK rfl) HMK.out (MkFr.below v HBW.out) rfl rfl
    | false =>
     have HNS : Hid (Sp.yX s ⟨nm, false, nu, pa⟩ false = none) := zh (by rw [HU.out]; simp); go_wp2_with fail; refine (HWR.out).mono ?_; rintro e w9 ⟨rfl, hm9, hk9⟩; have HM9 := zh hm9; have HK9 := zh hk9; clear hm9 hk9; go_wp2_with fail; go_ret; rw [HNS.out]; exact kK (zK rfl) HM9.out (jK HBW.out HK9.out)
end Go.Proofs.YtddnomjfcbplpaaGreatDoor
