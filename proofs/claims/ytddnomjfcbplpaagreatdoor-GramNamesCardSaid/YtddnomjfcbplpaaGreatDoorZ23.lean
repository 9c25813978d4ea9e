import Derived.Deep.CutBlock
import Derived.Test.YtddnomjfcbplpaaGreatDoorZ22
namespace Go.Proofs.YtddnomjfcbplpaaGreatDoor
open Go.RowKit Go.Maps

theorem info_nonE : (Tryz.prog.info? 89).map (fun i => (i.zero, i.size, i.bytes)) = some (some (.agg #[.string ⟨#[]⟩, .string ⟨#[]⟩]), 2, 32) := by kernel_rfl
theorem nonL_snoc {lefts : List (List UInt8)} {l : List UInt8} (hn : Sp.yO lefts l = none) :
  nonL (lefts ++ [l]) (.string ⟨l.toArray⟩) = some (.int .i64 ((lefts.length + 1 : Nat) : Int)) ∧ ∀ key', key' ≠ Value.string ⟨l.toArray⟩ → nonL (lefts ++ [l]) key' = nonL lefts key' := by
 constructor
 ·simp only [nonL]
  rw [Sp.nonIx_snoc hn, if_pos rfl]; rfl
 ·intro key hne
  unfold nonL; split
  ·rename_i s'
   have hs : s'.data.toList ≠ l := by
    intro e; apply hne
    rw [← e]
   rw [Sp.nonIx_snoc hn, if_neg hs]
  ·rfl
theorem maker_left {B : Nat} {w w' : World} {m : Nat} {x : Sp.zM} {s : Sp.Mk} {v : MkV} {e at_ : Int} {nm lf tg : List UInt8} {gn cn n g1 c1 : Nat} (h : zS B w m x s v e at_ nm) (hv : v.nv = .slice (some ⟨gn, 0, none⟩) n cn) (hn : n = s.nons.length)
  (k : Kp (fun b => b ≠ v.bn ∧ b ≠ gn ∧ b ≠ m) w w') (hm : xE Tryz.prog 9 w' v.bn (s.lefts.length + 1) (nonL (s.lefts ++ [lf])))
  (hr : w'.ownsRow B 89 2 (.slice (some ⟨g1, 0, none⟩) (n + 1) c1) (n + 1) ((s.nons.map nonC).flatten ++ nonC ⟨lf, tg⟩))
  (hb : w'.heap[m]? = some (.cells (zX x s { v with nv := .slice (some ⟨g1, 0, none⟩) (n + 1) c1 } e at_ nm).toArray 99 (0, 0))) (ha : g1 = gn ∨ w.heap.size ≤ g1) :
  zS B w' m x { s with lefts := s.lefts ++ [lf], nons := s.nons ++ [⟨lf, tg⟩] } { v with nv := .slice (some ⟨g1, 0, none⟩) (n + 1) c1 } e at_ nm ∧ MkFr m v { v with nv := .slice (some ⟨g1, 0, none⟩) (n + 1) c1 } w w' := by
 have hno := h.nons; rw [hv, ← hn] at hno; obtain ⟨cu, hcu⟩ := yW hno; have hbm := h.block; have hmap := h.nmap.isMap; have hap := h.apart
 have hrow : ∀ {B' e' size n' : Nat} {u : Value} {xs : List Value}, w.ownsRow B' e' size u n' xs → 89 ≠ e' → 99 ≠ e' → w'.ownsRow B' e' size u n' xs := fun h e1 e2 =>
  zP h k (fun b hb => ⟨xR h hmap b hb, zG h hcu e1 b hb, zG h hbm e2 b hb⟩)
 have hmp : ∀ b, (∃ es c, w.heap[b]? = some (.map es c)) → b ≠ v.bn → b < w.heap.size → w'.heap[b]? = w.heap[b]? := by
  rintro b ⟨es, c, hy⟩ hne hlt; refine k.block b hlt ⟨hne, ?_, ?_⟩
  ·rintro rfl; rw [hcu] at hy; cases hy
  ·rintro rfl; rw [hbm] at hy; cases hy
 obtain ⟨f, g, p1, p2⟩ := h.prods; refine ⟨⟨hb, hrow h.toks (by decide) (by decide), hrow h.given (by decide) (by decide), ?_, ⟨f, g, hrow p1 (by decide) (by decide), fun i p hp => ?_⟩, h.tmap.block (hmp _ h.tmap.isMap hap.1 h.tmap.lt), ?_, h.ymap.block (hmp _ h.ymap.isMap (fun e => hap.2.2 e.symm) h.ymap.lt), h.behind, hap, h.same, h.three⟩, ⟨?_, ?_⟩⟩
 ·show World.ownsRow _ _ _ _ _ _ _
  have e : (List.map nonC [(⟨lf, tg⟩ : Sp.Non)]).flatten = nonC ⟨lf, tg⟩ := by simp
  rw [List.length_append, ← hn, List.map_append, List.flatten_append, e]; exact hr
 ·obtain ⟨⟨b, k1⟩, c, k2⟩ := p2 i p hp
  exact ⟨⟨b, hrow k1 (by decide) (by decide)⟩, c, hrow k2 (by decide) (by decide)⟩
 ·show xE _ _ _ _ _ _
  rw [List.length_append]; exact hm
 ·exact k.mono (fun b _ hn => ⟨fun e => hn (.inr (.inr (.inr (.inr (.inr (.inr (.inl e))))))), fun e => hn (.inr (.inr (.inl (by rw [hv, e]; rfl)))), fun e => hn (.inl e)⟩)
 ·rintro b (h | h | h | h | h | h | h | h)
  ·exact .inl (.inl h)
  ·exact .inl (.inr (.inl h))
  ·have e : g1 = b := Option.some.inj h
   rcases ha with e1 | e1
   ·exact .inl (.inr (.inr (.inl (by rw [hv, ← e, e1]; rfl))))
   ·exact .inr (by omega)
  ·exact .inl (.inr (.inr (.inr (.inl h))))
  ·exact .inl (.inr (.inr (.inr (.inr (.inl h)))))
  ·exact .inl (.inr (.inr (.inr (.inr (.inr (.inl h))))))
  ·exact .inl (.inr (.inr (.inr (.inr (.inr (.inr (.inl h)))))))
  ·exact .inl (.inr (.inr (.inr (.inr (.inr (.inr (.inr h)))))))
namespace Sp
theorem leftsGo_cons (r : Rule) (l : List Rule) (s : Mk) : jD (r :: l) s = if (yD s.toks r.left false).isSome = true then .error (r.left, r.at_)
  else if (yO s.lefts r.left).isSome = true then jD l s
  else jD l { s with lefts := s.lefts ++ [r.left], nons := s.nons ++ [⟨r.left, (xK s.types r.left).getD []⟩] } := by
 conv => lhs; unfold jD
def zAB (ds : List Decl) (r : Except Stop Mk) : Except Stop Mk := match r with
 | .error e => .error e
 | .ok s => match kA s ds with
  | some e => .error e
  | none => .ok s
theorem leftsMk_end (x : zM) (s : Mk) : vI x s = zAB x.decls (jD x.rules s) := by
 unfold vI zAB
 cases jD x.rules s with
 | error e => rfl
 | ok s1 => cases kA s1 x.decls <;> rfl
def toEx (o : Option Stop) (s : Mk) : Except Stop Mk := match o with
 | some e => .error e
 | none => .ok s
theorem leftsEnd_ok (ds : List Decl) (s : Mk) : zAB ds (.ok s) = toEx (kA s ds) s := by
 unfold zAB toEx; rfl
def namesK (s : Mk) (kind : Int) (ys : List Sym) (l : List Decl) : Option Stop := match namesOk s kind ys with
 | some e => some e
 | none => kA s l
theorem declsNames_cons (s : Mk) (d : Decl) (l : List Decl) : kA s (d :: l) = namesK s d.kind d.syms l := by
 conv => lhs; unfold kA
 rfl
theorem namesK_nil (s : Mk) (kind : Int) (l : List Decl) : namesK s kind [] l = kA s l := rfl
theorem namesK_cons (s : Mk) (kind : Int) (y : Sym) (ys : List Sym) (l : List Decl) : namesK s kind (y :: ys) l = if 5 ≤ kind ∧ (yO s.lefts y.name).isNone = true then some (y.name, y.at_) else namesK s kind ys l := by
 unfold namesK; conv => lhs; unfold namesOk
 by_cases h : 5 ≤ kind ∧ (yO s.lefts y.name).isNone = true
 ·rw [if_pos h, if_pos h]
 ·rw [if_neg h, if_neg h]
end Sp
set_option maxRecDepth 100000 in
set_option maxHeartbeats 12800000 in
theorem maker_lefts {W0 W : World} {m : Nat} {x : Sp.zM} {s : Sp.Mk} {v : MkV} (h : zS W0.heap.size W m x s v 0 0 []) (hw : Below W0.heap.size W0 W) (hd : xA W0 v.rv x.rules) (hdd : xD W0 v.dv x.decls) (hs : xN x) (hnl : s.nons.length = s.lefts.length + 1) (ht : s.lefts.length ≤ 4000) :
  Calls Tryz.prog 39 #[.pointer (some ⟨m, 0, none⟩)] W (zDI W0.heap.size m x v.dv v.rv W0 (Sp.vI x s)) := by
 generalize hR : Sp.jD x.rules s = R; rw [Sp.leftsMk_end, hR]; generalize hds : x.rules = rs at *
 obtain ⟨f, hd1, hd2⟩ := hd; obtain ⟨da, dc, hdv⟩ := hd1.form; rw [List.length_mapIdx] at hdv; have hlen := hs.2.2.2.1; have hsm := hs.2.2.2.2.2; rw [hds] at hlen hsm; generalize hdv0 : v.rv = rv at *
 subst hdv; generalize hn : rs.length = n at *
 have HH := zh h; have HR := zh hR; have HW := zh hw; have HD1 := zh hd1; have HSM := zh hsm; have HN := zh hn; have HRV := zh hdv0; have HNL := zh hnl; have HDD := zh hdd; have HSS := zh hs; obtain ⟨dv, hrv⟩ : ∃ dv, dv = v.dv := ⟨_, rfl⟩
 rw [← hrv]; have HDV := zh hrv; have hb := h.block; unfold zX at hb; rw [hdv0] at hb; have c2 := zc 2 hb; have hl := zC hb; clear h hR hw hd1 hsm hn hdv0 hs hds hrv hb hnl hdd; go_enter Tryz.func39, Tryz.ntmps39
 go_upto_block 0 with fail
 clear c2; go_cut [] (fun wx => ∃ (s1 : Sp.Mk) (v1 : MkV), zS W0.heap.size wx m x s1 v1 0 0 [] ∧ v1.dv = dv ∧ v1.rv = .slice da n dc ∧ Below W0.heap.size W0 wx ∧ R = .ok s1)
 case first =>
  go_wp2_with fail; go_loopg [21] n (fun q iv wr => ∃ (k : Nat) (s1 : Sp.Mk) (v1 : MkV), k ≤ n ∧ q = n - k ∧ iv = .int .i64 k ∧ zS W0.heap.size wr m x s1 v1 0 0 [] ∧ v1.dv = dv ∧ v1.rv = .slice da n dc ∧ Below W0.heap.size W0 wr ∧ s1.lefts.length ≤ 4000 + k ∧ s1.nons.length = s1.lefts.length + 1 ∧ Sp.jD (rs.drop k) s1 = R)
  case atStart => exact ⟨0, s, v, Nat.zero_le _, rfl, rfl, HH.out, HDV.out.symm, HRV.out, HW.out, by omega, HNL.out, HR.out⟩
  case round =>
   obtain ⟨k, s1, v1, hk, rfl, rfl, hmk, hdv, hrv, hbw, hlt, hnl, hR⟩ := hrel; have HMK := zh hmk; have HDV1 := zh hdv; have HRV1 := zh hrv; have HBW := zh hbw; have HRR := zh hR; have HNL1 := zh hnl; have hk0 : (0 : Int) ≤ (k : Int) := Int.natCast_nonneg _; have hlm : m < wr.heap.size := zC hmk.block; clear hmk hdv hrv hbw hR hnl; by_cases hkn : k < n
   ·have hk1 : (k : Int) < (n : Int) := by omega
    have hkd : k < rs.length := by have := HN.out; omega
    obtain ⟨⟨lf, al, rp⟩, hdk, hdr, hmem⟩ := qO hkd; have hsd := HSM.out _ hmem; have hR := HRR.out; rw [hdr, Sp.leftsGo_cons] at hR; obtain ⟨bd, od, rfl, hbd, hcd⟩ := HD1.out.at (k := k) (row := qT (f k) ⟨lf, al, rp⟩) (by rw [List.getElem?_mapIdx, hdk]; rfl); have hcells := hcd wr HBW.out; have hfc := hd2 k _ hdk; simp only at hR hfc
    obtain ⟨aa, na, ac, hfk⟩ : ∃ aa na ac, f k = .slice aa na ac := by
     obtain ⟨fa, ha1, _⟩ := hfc; obtain ⟨aa, ac, hv⟩ := ha1.form; exact ⟨aa, _, ac, hv⟩
    rw [hfk] at hcells; have r0 := hcells 0 _ rfl; have r1 := hcells 1 _ rfl; have r2 := hcells 2 _ rfl; simp only [Nat.add_zero] at r0; have hlb : bd < wr.heap.size := by have := HBW.out.size; omega
    have hlfl : lf.length ≤ maxLen := by have h := hsd.1; unfold maxLen; simp only at h; omega
    obtain ⟨kl, hkl⟩ := zBO (b := false) hlfl; obtain ⟨kl2, hkl2⟩ := zBP hlfl; have HRR := zh hR; clear hcells hcd hdr hdk hmem hsd hR hfc hfk; obtain ⟨gd, hgd⟩ : ∃ gd, gd = wr.heap.size := ⟨_, rfl⟩
    obtain ⟨w2, hw2⟩ : ∃ w2, w2 = wr.alloc (.cells #[.string ⟨lf.toArray⟩, .slice aa na ac, .int .i64 rp] 63) := ⟨_, rfl⟩
    have hbx : w2.heap[gd]? = some (.cells #[.string ⟨lf.toArray⟩, .slice aa na ac, .int .i64 rp] 63 (0, 0)) := by rw [hw2, hgd]; exact zE wr _
    have hb12 : Below wr.heap.size wr w2 := by rw [hw2]; exact (Below.refl _ wr).alloc (Nat.le_refl _) _
    have HMK2 := zh (zU HMK.out hb12); have HBW2 := zh (HBW.out.trans (hb12.mono HBW.out.size)); have HNB := zh (show ¬ yZ m v1 gd from fun hm => absurd (HMK.out.lt_own _ hm) (by omega)); have HBX := zh hbx; clear hbx hb12; go_upto_region 4 with fail
    rw [← hgd, ← hw2]; clear hgd hw2 r0 r1 r2; have hlm2 : m < w2.heap.size := zC HMK2.out.block; have hlg2 : gd < w2.heap.size := zC HBX.out
    obtain ⟨ov, ob, hob⟩ : ∃ (ov : Int) (ob : Bool), (match Sp.yD s1.toks lf false with
      | some k => ((k : Int), true)
      | none => ((0 : Int), false)) = (ov, ob) := ⟨_, _, rfl⟩
    have hob2 : ob = (Sp.yD s1.toks lf false).isSome := by
     cases ho : Sp.yD s1.toks lf false <;> rw [ho] at hob <;> simp only [Prod.mk.injEq] at hob <;> exact hob.2.symm
    have HS4 : Hid (∀ w', Below w2.heap.size w2 w' → (w'.cell? ⟨m, 9, none⟩ = some (.map (some v1.bt)) ∧ w'.cell? ⟨gd, 0, none⟩ = some (.string ⟨lf.toArray⟩) ∧ (Instr.lookup 95 (.map (some v1.bt)) (.agg #[.string ⟨lf.toArray⟩, .bool false]) true).run Tryz.prog w' = .ok (.tuple #[.int .i64 ov, .bool ob]) w')) := zh (fun w' hw' => by
     have hbx := (hw'.block gd hlg2).trans HBX.out; have hbm := (hw'.block m hlm2).trans HMK2.out.block; have hk := (HMK2.out.tmap.block (hw'.block _ HMK2.out.tmap.lt)).look true zAP Tryz.underlying95 (kQ w') hkl; refine ⟨zc 9 hbm, zc 0 hbx, ?_⟩; rw [hk]; have e : tokL s1.toks (.agg #[.string ⟨lf.toArray⟩, .bool false]) = (Sp.yD s1.toks lf false).map fun (k : Nat) => Value.int .i64 (k : Int) := rfl
     rw [e]
     cases ho : Sp.yD s1.toks lf false with
     | some k => rw [ho] at hob; simp only [Prod.mk.injEq] at hob; obtain ⟨rfl, rfl⟩ := hob; rfl
     | none => rw [ho] at hob; simp only [Prod.mk.injEq] at hob; obtain ⟨rfl, rfl⟩ := hob; rfl)
    have HOB := zh hob2; clear hob hob2 hkl; refine zF (fun w' : World => (w'.cell? ⟨m, 9, none⟩ = some (.map (some v1.bt)) ∧ w'.cell? ⟨gd, 0, none⟩ = some (.string ⟨lf.toArray⟩) ∧ (Instr.lookup 95 (.map (some v1.bt)) (.agg #[.string ⟨lf.toArray⟩, .bool false]) true).run Tryz.prog w' = .ok (.tuple #[.int .i64 ov, .bool ob]) w')) [] (.take 0 (.take 1 (.take 2 (.take 3 (.take 4 (.take 5 (.take 6 (.take 7 (.take 8 (.take 9 (.take 10 (.one 11 (.one 12 (.done)))))))))))))) (by kernel_rfl) (by kernel_rfl) (fun _ _ _ _ h => h) ?_; have hSw := HS4.out _ (below_drewN (Below.refl _ w2) 1); iterate 11 (refine zN (v := ?_) rfl hSw (by rfl) ?_ ?_; rotate_left 1; (focus (intro w hSx; (try dsimp only at hSx); go_simp; try rfl)); (try simp only [Act.put, zq0, zq1, zq2]))
    refine zB rfl (by rfl) (fun K' hK => ?_); go_simp; refine hK _ _ (.inr (HS4.out _ (below_drewN (Below.refl _ w2) 1))) ?_; clear hK K' hSw; (try simp only [Act.put, zq0, zq1, zq2]); refine zB rfl (by rfl) (fun K' hK => ?_); go_simp; refine hK _ _ (.inr (HS4.out _ (below_drewN (Below.refl _ w2) 1))) ?_; clear hK K'; (try simp only [Act.put, zq0, zq1, zq2]); refine zH ?_; obtain ⟨w3, hw3⟩ : ∃ w3, w3 = w2.drew := ⟨_, rfl⟩
    have hb23 : Below w2.heap.size w2 w3 := by rw [hw3]; exact below_drewN (Below.refl _ w2) 1
    rw [← hw3]; have HMK3 := zh (zU HMK2.out hb23); have HBW3 := zh (HBW2.out.trans (hb23.mono HBW2.out.size)); have hbx := (hb23.block gd hlg2).trans HBX.out; have HBX3 := zh hbx; have hlm3 : m < w3.heap.size := zC HMK3.out.block; have hlg3 : gd < w3.heap.size := zC hbx
    cases ob with
    | true =>
     have b0 := zc 0 hbx; have b2 := zc 2 hbx
     have HE : Hid (R = .error (lf, rp)) := zh (by
      have h := HRR.out; rw [if_pos HOB.out.symm] at h
      exact h.symm)
     have HWR := zh (qG lf rp HMK3.out); clear hb23 hw3 hbx; go_wp2_with fail; refine (HWR.out).mono ?_; rintro e w9 ⟨rfl, hm9, hk9⟩; have HM9 := zh hm9; have HK9 := zh hk9; clear hm9 hk9; go_wp2_with fail; go_ret; rw [HE.out]; exact zBJ (zK rfl) (HBW3.out.trans (Kp.below HK9.out (by have := HBW3.out.size; omega) (fun b hb e => by have := HMK3.out.behind.1; omega))) HM9.out
    | false =>
     have hR := HRR.out; rw [if_neg (by rw [← HOB.out]; simp)] at hR; have HRR := zh hR; clear hb23 hw3 hbx hR
     obtain ⟨nv, nb, hnb⟩ : ∃ (nv : Int) (nb : Bool), (match Sp.yO s1.lefts lf with
       | some k => ((k : Int), true)
       | none => ((0 : Int), false)) = (nv, nb) := ⟨_, _, rfl⟩
     have hnb2 : nb = (Sp.yO s1.lefts lf).isSome := by
      cases ho : Sp.yO s1.lefts lf <;> rw [ho] at hnb <;> simp only [Prod.mk.injEq] at hnb <;> exact hnb.2.symm
     have HS7 : Hid (∀ w', Below w3.heap.size w3 w' → (w'.cell? ⟨m, 11, none⟩ = some (.map (some v1.bn)) ∧ w'.cell? ⟨gd, 0, none⟩ = some (.string ⟨lf.toArray⟩) ∧ (Instr.lookup 96 (.map (some v1.bn)) (.string ⟨lf.toArray⟩) true).run Tryz.prog w' = .ok (.tuple #[.int .i64 nv, .bool nb]) w')) := zh (fun w' hw' => by
      have hbx := (hw'.block gd hlg3).trans HBX3.out; have hbm := (hw'.block m hlm3).trans HMK3.out.block; have hk := (HMK3.out.nmap.block (hw'.block _ HMK3.out.nmap.lt)).look true vB Tryz.underlying96 (kQ w') hkl2; refine ⟨zc 11 hbm, zc 0 hbx, ?_⟩; rw [hk]; have e : nonL s1.lefts (.string ⟨lf.toArray⟩) = (Sp.yO s1.lefts lf).map fun (k : Nat) => Value.int .i64 (k : Int) := rfl
      rw [e]
      cases ho : Sp.yO s1.lefts lf with
      | some k => rw [ho] at hnb; simp only [Prod.mk.injEq] at hnb; obtain ⟨rfl, rfl⟩ := hnb; rfl
      | none => rw [ho] at hnb; simp only [Prod.mk.injEq] at hnb; obtain ⟨rfl, rfl⟩ := hnb; rfl)
     have HNB2 := zh hnb2; clear hnb hnb2; go_upto_region 7 with fail
     refine zF (fun w' : World => (w'.cell? ⟨m, 11, none⟩ = some (.map (some v1.bn)) ∧ w'.cell? ⟨gd, 0, none⟩ = some (.string ⟨lf.toArray⟩) ∧ (Instr.lookup 96 (.map (some v1.bn)) (.string ⟨lf.toArray⟩) true).run Tryz.prog w' = .ok (.tuple #[.int .i64 nv, .bool nb]) w')) [] (.take 0 (.take 1 (.take 2 (.take 3 (.take 4 (.take 5 (.take 6 (.take 7 (.take 8 (.take 9 (.one 10 (.one 11 (.done))))))))))))) (by kernel_rfl) (by kernel_rfl) (fun _ _ _ _ h => h) ?_; have hSw := HS7.out _ (below_drewN (Below.refl _ w3) 1); iterate 10 (refine zN (v := ?_) rfl hSw (by rfl) ?_ ?_; rotate_left 1; (focus (intro w hSx; (try dsimp only at hSx); go_simp; try rfl)); (try simp only [Act.put, zq0, zq1, zq2]))
     refine zB rfl (by rfl) (fun K' hK => ?_); go_simp; refine hK _ _ (.inr (HS7.out _ (below_drewN (Below.refl _ w3) 1))) ?_; clear hK K' hSw; (try simp only [Act.put, zq0, zq1, zq2]); refine zB rfl (by rfl) (fun K' hK => ?_); go_simp; refine hK _ _ (.inr (HS7.out _ (below_drewN (Below.refl _ w3) 1))) ?_; clear hK K'; (try simp only [Act.put, zq0, zq1, zq2]); refine zH ?_; obtain ⟨w4, hw4⟩ : ∃ w4, w4 = w3.drew := ⟨_, rfl⟩
     have hb34 : Below w3.heap.size w3 w4 := by rw [hw4]; exact below_drewN (Below.refl _ w3) 1
     rw [← hw4]; have HMK4 := zh (zU HMK3.out hb34); have HBW4 := zh (HBW3.out.trans (hb34.mono HBW3.out.size)); have HBX4 := zh ((hb34.block gd hlg3).trans HBX3.out); have hlm4 : m < w4.heap.size := zC HMK4.out.block; have hlg4 : gd < w4.heap.size := zC HBX4.out; have hR := HRR.out; clear hw4 hb34
     cases nb with
     | true =>
      rw [if_pos HNB2.out.symm] at hR; have HRR := zh hR; clear hR; go_wp2_with fail; go_roundg (n - (k + 1))
      case measure => omega
      case rel => exact ⟨k + 1, s1, v1, by omega, rfl, by go_num, HMK4.out, HDV1.out, HRV1.out, HBW4.out, by omega, HNL1.out, HRR.out⟩
     | false =>
      rw [if_neg (by rw [← HNB2.out]; simp)] at hR; have HRR := zh hR; clear hR; have hno := HMK4.out.nons; obtain ⟨gn, cn, hnv⟩ := yB hno (by have := HNL1.out; omega); obtain ⟨nn, hnn⟩ : ∃ nn, nn = s1.nons.length := ⟨_, rfl⟩
      rw [← hnn] at hnv; rw [hnv, ← hnn] at hno; have hnnl : nn = s1.lefts.length + 1 := by rw [hnn]; exact HNL1.out
      have hnn9 : nn ≤ 8001 := by omega
      have hnone : Sp.yO s1.lefts lf = none := by have h := HNB2.out; cases ho : Sp.yO s1.lefts lf with | none => rfl | some k => rw [ho] at h; cases h
      have HNS : Hid (nonL (s1.lefts ++ [lf]) (.string ⟨lf.toArray⟩) = some (.int .i64 (nn : Int)) ∧ ∀ key', key' ≠ Value.string ⟨lf.toArray⟩ → nonL (s1.lefts ++ [lf]) key' = nonL s1.lefts key') := zh (by rw [hnnl]; exact nonL_snoc hnone); have HNV := zh hnv; have HNN := zh hnn; have HNO := zh hno; have HNNL := zh hnnl
      have HS9 : Hid (∀ w', Below w4.heap.size w4 w' → (w'.cell? ⟨m, 11, none⟩ = some (.map (some v1.bn)) ∧ w'.cell? ⟨gd, 0, none⟩ = some (.string ⟨lf.toArray⟩) ∧ w'.cell? ⟨m, 5, none⟩ = some (.slice (some ⟨gn, 0, none⟩) nn cn))) := zh (fun w' hw' => by
       have hbx := (hw'.block gd hlg4).trans HBX4.out; have hbm := (hw'.block m hlm4).trans HMK4.out.block; unfold zX at hbm; rw [hnv] at hbm
       exact ⟨zc 11 hbm, zc 0 hbx, zc 5 hbm⟩)
      obtain ⟨w6, hr5, hm5, hg5⟩ := (show xE Tryz.prog 9 w4.drew v1.bn s1.lefts.length (nonL s1.lefts) from (zU HMK4.out (below_drewN (Below.refl _ w4) 1)).nmap).update (val := .int .i64 (nn : Int)) vB Tryz.underlying96 (by unfold maxLen; omega) hkl2 (nonL (s1.lefts ++ [lf])) HNS.out.1 HNS.out.2; clear hnv hnn hno hnnl hnone; go_upto_region 9 with fail
      refine zF (fun w' : World => (w'.cell? ⟨m, 11, none⟩ = some (.map (some v1.bn)) ∧ w'.cell? ⟨gd, 0, none⟩ = some (.string ⟨lf.toArray⟩) ∧ w'.cell? ⟨m, 5, none⟩ = some (.slice (some ⟨gn, 0, none⟩) nn cn))) [12] (.take 0 (.take 1 (.take 2 (.take 3 (.take 4 (.take 5 (.take 6 (.take 7 (.take 8 (.take 9 (.take 10 (.take 11 (.one 12 (.done)))))))))))))) (by kernel_rfl) (by kernel_rfl) (fun _ _ _ _ h => h) ?_; have hSw := HS9.out _ (below_drewN (Below.refl _ w4) 1); iterate 12 (refine zN (v := ?_) rfl hSw (by rfl) ?_ ?_; rotate_left 1; (focus (intro w hSx; (try dsimp only at hSx); go_simp; try rfl)); (try simp only [Act.put, zq0, zq1, zq2]))
      refine zB rfl (by rfl) (fun K' hK => ?_); go_simp; refine hK _ _ (.inl rfl) ?_; clear hK K' hSw; (try simp only [Act.put, zq0, zq1, zq2]); refine zH ?_; have hk46 : Kp (fun b => b ≠ v1.bn) w4 w6 := ((Kp.refl _ w4).drew).grown hg5 (fun k hk hs => hs (Option.some.inj hk).symm); have HM5 := zh hm5; have HK46 := zh hk46; clear hr5 hm5 hg5 hk46
      have hmm : ∀ b, (∃ o, w4.heap[b]? = some o ∧ ∀ es c, o ≠ .map es c) → b ≠ v1.bn := by
       rintro b ⟨o, ho, hne⟩ rfl; obtain ⟨es, c, hy⟩ := HMK4.out.nmap.isMap; rw [ho] at hy; exact hne es c (Option.some.inj hy)
      have hbm6 := (HK46.out.block m hlm4 (hmm m ⟨_, HMK4.out.block, fun _ _ e => by cases e⟩)).trans HMK4.out.block; have hbx6 := (HK46.out.block gd hlg4 (hmm gd ⟨_, HBX4.out, fun _ _ e => by cases e⟩)).trans HBX4.out; have hnr : w6.ownsRow W0.heap.size 89 2 (.slice (some ⟨gn, 0, none⟩) nn cn) nn (s1.nons.map nonC).flatten := zP HNO.out HK46.out (xR HNO.out HMK4.out.nmap.isMap); have hym := HMK4.out.ymap.block (HK46.out.block _ HMK4.out.ymap.lt (fun e => HMK4.out.apart.2.2 e.symm)); obtain ⟨cug, hcug⟩ := yW hnr; have hgnm : m ≠ gn := by rintro rfl; rw [hbm6] at hcug; simp only [Option.some.injEq, Obj.cells.injEq] at hcug; exact absurd hcug.2.1 (by decide)
      have hgng : gd ≠ gn := by rintro rfl; rw [hbx6] at hcug; simp only [Option.some.injEq, Obj.cells.injEq] at hcug; exact absurd hcug.2.1 (by decide)
      have hgny : v1.by_ ≠ gn := by rintro rfl; obtain ⟨es, c, hy⟩ := hym.isMap; rw [hcug] at hy; cases hy
      have hgnb : v1.bn ≠ gn := by rintro rfl; obtain ⟨es, c, hy⟩ := HM5.out.isMap; rw [hcug] at hy; cases hy
      obtain ⟨nz, tg, htg⟩ : ∃ (nz tg : List UInt8), (match Sp.xK s1.types lf with
        | some t => (lf, t)
        | none => ([], [])) = (nz, tg) := ⟨_, _, rfl⟩
      have htg2 : tg = (Sp.xK s1.types lf).getD [] := by
       cases ho : Sp.xK s1.types lf <;> rw [ho] at htg <;> simp only [Prod.mk.injEq] at htg <;> exact htg.2.symm
      have hlm6 : m < w6.heap.size := zC hbm6; have hlg6 : gd < w6.heap.size := zC hbx6
      have HSK : Hid (∀ w', Kp (fun b => b ≠ gn) w6 w' → ((w'.cell? ⟨m, 5, none⟩ = some (.slice (some ⟨gn, 0, none⟩) nn cn) ∧ w'.frozen? ⟨m, 5, none⟩ = false) ∧ w'.cell? ⟨gd, 0, none⟩ = some (.string ⟨lf.toArray⟩) ∧ w'.cell? ⟨m, 12, none⟩ = some (.map (some v1.by_)) ∧ (Instr.lookup 97 (.map (some v1.by_)) (.string ⟨lf.toArray⟩) false).run Tryz.prog w' = .ok (.agg #[.string ⟨nz.toArray⟩, .string ⟨tg.toArray⟩]) w')) := zh (fun w' kp => by
       have hbx := (kp.block gd hlg6 hgng).trans hbx6; have hbm := (kp.block m hlm6 hgnm).trans hbm6; unfold zX at hbm; rw [HNV.out] at hbm; have hk := (hym.block (kp.block _ hym.lt hgny)).look false vB Tryz.underlying97 (zero_non w') hkl2; refine ⟨⟨zc 5 hbm, zf 5 hbm⟩, zc 0 hbx, zc 12 hbm, ?_⟩; rw [hk]; have e : typL s1.types (.string ⟨lf.toArray⟩) = (Sp.xK s1.types lf).map fun t => Value.agg #[.string ⟨lf.toArray⟩, .string ⟨t.toArray⟩] := rfl
       rw [e]
       cases ho : Sp.xK s1.types lf with
       | some k => rw [ho] at htg; simp only [Prod.mk.injEq] at htg; obtain ⟨rfl, rfl⟩ := htg; rfl
       | none => rw [ho] at htg; simp only [Prod.mk.injEq] at htg; obtain ⟨rfl, rfl⟩ := htg; rfl)
      have HBM6 := zh hbm6; have HNR := zh hnr; have HTG := zh htg2; have HNE := zh (And.intro hgnm hgnb); have hB6 : W0.heap.size ≤ w6.heap.size := Nat.le_trans HBW4.out.size HK46.out.size; obtain ⟨in0, hin0, hnz0, hnz1, hnz2⟩ := info_parts info_nonE; clear hmm hbm6 hbx6 hnr hym hcug hgnm hgng hgny hgnb htg htg2; go_upto_region 10 with fail
      refine zF (fun w' : World => ((w'.cell? ⟨m, 5, none⟩ = some (.slice (some ⟨gn, 0, none⟩) nn cn) ∧ w'.frozen? ⟨m, 5, none⟩ = false) ∧ w'.cell? ⟨gd, 0, none⟩ = some (.string ⟨lf.toArray⟩) ∧ w'.cell? ⟨m, 12, none⟩ = some (.map (some v1.by_)) ∧ (Instr.lookup 97 (.map (some v1.by_)) (.string ⟨lf.toArray⟩) false).run Tryz.prog w' = .ok (.agg #[.string ⟨nz.toArray⟩, .string ⟨tg.toArray⟩]) w')) [22] (.take 0 (.take 1 (.take 2 (.take 3 (.take 4 (.take 5 (.take 6 (.take 7 (.take 8 (.take 9 (.take 10 (.take 11 (.take 12 (.take 13 (.take 14 (.take 15 (.take 16 (.one 17 (.one 18 (.one 19 (.one 20 (.one 21 (.one 22 (.done)))))))))))))))))))))))) (by kernel_rfl) (by kernel_rfl) (fun _ _ _ _ h => h) ?_; have hSw := HSK.out _ ((Kp.refl _ w6).drew); iterate 17 (refine zN (v := ?_) rfl hSw (by rfl) ?_ ?_; rotate_left 1; (focus (intro w hSx; (try dsimp only at hSx); go_simp; try rfl)); (try simp only [Act.put, zq0, zq1, zq2]))
      refine zB rfl (by rfl) (fun K' hK => ?_); go_simp; refine hK _ _ (.inr (HSK.out _ (((Kp.refl _ w6).drew).alloc (.cells #[.string ⟨lf.toArray⟩, .string ⟨tg.toArray⟩] 89)))) ?_; clear hK K' hSw; (try simp only [Act.put, zq0, zq1, zq2]); refine zB rfl (by rfl) (fun K' hK => ?_)
      (refine wp_append_lies _ _ _ _ (by rfl) W0.heap.size 89 in0 _ 2 32 Tryz.underlying36 hin0 hnz0 hnz1 hnz2 rfl (by omega) _ _ _ (by rfl) (HNR.out.alloc _) ⟨w6.heap.size, 0, none⟩ 1 1 [.string ⟨lf.toArray⟩, .string ⟨tg.toArray⟩] (by rfl) (by rfl) (World.news_of_block (cs := #[.string ⟨lf.toArray⟩, .string ⟨tg.toArray⟩]) (t := 89) (fr := (0, 0)) (zE w6 _)) (by simp [Value.oneCell']) (by omega) (by unfold maxLen; omega) (by omega) (by show W0.heap.size ≤ (w6.alloc (.cells #[.string ⟨lf.toArray⟩, .string ⟨tg.toArray⟩] 89)).heap.size; simp only [World.size_alloc]; omega) _ rfl ?_; intro g1 c1 w7 hown1 hgrow1 hat1 hlt1; replace hgrow1 : (w6.alloc (.cells #[.string ⟨lf.toArray⟩, .string ⟨tg.toArray⟩] 89)).grownBy w7 (Value.slice (some ⟨gn, 0, none⟩) nn cn).ownBlock := ⟨hgrow1.os, hgrow1.tape, hgrow1.output, hgrow1.size, hgrow1.block⟩; have hk7 : Kp (fun b => b ≠ gn) w6 w7 := ((Kp.refl _ w6).alloc (.cells #[.string ⟨lf.toArray⟩, .string ⟨tg.toArray⟩] 89)).grown hgrow1 (fun k hk hs => hs (Option.some.inj hk).symm))
      refine hK _ _ (.inr (HSK.out _ hk7)) ?_; clear hK K'; (try simp only [Act.put, zq0, zq1, zq2]); iterate 2 (refine zB rfl (by rfl) (fun K' hK => ?_); go_simp; refine hK _ _ (.inr (HSK.out _ hk7)) ?_; clear hK K'; (try simp only [Act.put, zq0, zq1, zq2]))
      refine zB rfl (by rfl) (fun K' hK => ?_)
      (obtain ⟨⟨A5, A6⟩, _⟩ := HSK.out _ hk7; have hlm7 : m < w7.heap.size := Nat.lt_of_lt_of_le hlm6 hk7.size; go_simp)
      refine hK _ _ (.inr (HSK.out _ hk7)) ?_; clear hK K'; (try simp only [Act.put, zq0, zq1, zq2]); refine zB rfl (by rfl) (fun K' hK => ?_); go_simp; refine hK _ _ (.inl rfl) ?_; clear hK K'; (try simp only [Act.put, zq0, zq1, zq2]); refine zH ?_; have hkA : Kp (fun b => b ≠ v1.bn ∧ b ≠ gn ∧ b ≠ m) w4 w7 := (HK46.out.mono (fun b _ h => h.1)).trans (hk7.mono (fun b _ h => h.2.1)); have hbm7 := (hk7.block m hlm6 HNE.out.1).trans HBM6.out; unfold zX at hbm7; have hWle : w4.heap.size ≤ (w6.alloc (.cells #[.string ⟨lf.toArray⟩, .string ⟨tg.toArray⟩] 89)).heap.size := by have := HK46.out.size; simp only [World.size_alloc]; omega
      have hlt7 : g1 = gn ∨ w4.heap.size ≤ g1 := hat1.imp (fun e => (Option.some.inj e).symm) (fun e => by rw [e]; exact hWle)
      have hfin := maker_left (tg := tg) HMK4.out HNV.out HNN.out (hkA.setCell (p := ⟨m, 5, none⟩) (fun hn => hn.2.2 rfl) (.slice (some ⟨g1, 0, none⟩) (nn + 1) c1))
       (HM5.out.block ((Below.heap_setCell _ _ _ _ (fun e => by
        have e' : v1.bn = m := by simpa using e
        obtain ⟨es, c, hy⟩ := HMK4.out.nmap.isMap; rw [e', HMK4.out.block] at hy
        cases hy)).trans (hk7.block _ HM5.out.lt HNE.out.2)))
       (zR hown1 hbm7 (by decide) _) (zA hbm7) hlt7
      have HFIN := zh hfin; have HE : Hid (Sp.jD (rs.drop (k + 1)) { s1 with lefts := s1.lefts ++ [lf], nons := s1.nons ++ [⟨lf, tg⟩] } = R) := zh (by rw [HTG.out]; exact HRR.out); have HBW8 := zh (HBW4.out.trans (MkFr.belowB HMK4.out hfin.2)); have HLL : Hid ((s1.nons ++ [(⟨lf, tg⟩ : Sp.Non)]).length = (s1.lefts ++ [lf]).length + 1 ∧ (s1.lefts ++ [lf]).length ≤ 4000 + (k + 1)) := zh (by simp only [List.length_append, List.length_cons, List.length_nil]; have := HNL1.out; omega); clear hfin hkA hbm7 hlt7 hWle hk7 hown1 hgrow1 hat1 hlt1; go_wp2_with fail; go_roundg (n - (k + 1))
      case measure => omega
      case rel => exact ⟨k + 1, _, _, by omega, rfl, by go_num, HFIN.out.1, HDV1.out, HRV1.out, HBW8.out, HLL.out.2, HLL.out.1, HE.out⟩
   ·obtain rfl : k = n := by omega
    have hR := HRR.out; rw [List.drop_eq_nil_of_le (by rw [HN.out]; exact Nat.le_refl _)] at hR; have HR2 : Hid (R = .ok s1) := zh (by rw [← hR]; rfl); clear hR HRR; go_wp2_with fail; go_meet; exact ⟨s1, v1, HMK.out, HDV1.out, HRV1.out, HBW.out, HR2.out⟩
 case rest =>
  obtain ⟨s1, v1, hmk, hdv, hrv, hbw, hR⟩ := hcut; obtain ⟨w1, hw1⟩ : ∃ w1 : World, w1 = wc := ⟨_, rfl⟩
  subst hw1; clear HR HW HD1 HSM HN HNL HH hd2; have hdd := HDD.out; have hss := HSS.out.2.2.2.2.1; have hlen := HSS.out.2.2.1; rw [← HDV.out] at hdd; obtain ⟨f, hd1, hd2⟩ := hdd; obtain ⟨ea, ec, hdv2⟩ := hd1.form; rw [List.length_mapIdx] at hdv2; obtain ⟨QQ, hQQ⟩ : ∃ QQ, QQ = Sp.zAB x.decls R := ⟨_, rfl⟩
  have HQ := zh hQQ; rw [hR, Sp.leftsEnd_ok] at hQQ; generalize x.decls = ds at *
  obtain ⟨n, hn⟩ : ∃ n, n = ds.length := ⟨_, rfl⟩
  rw [← hn] at hdv2 hlen; subst hdv2; have HMK := zh hmk; have HDV1 := zh hdv; have HRV1 := zh hrv; have HBW := zh hbw; have HRR := zh hQQ; have HN := zh hn; have HD1 := zh hd1; have HD2 := zh hd2; have HSM := zh hss; have hb := hmk.block; unfold zX at hb; rw [hdv] at hb; have c1 := zc 1 hb; have hlm := zC hb; clear hmk hdv hrv hbw hQQ hn hd1 hd2 hss hR hb HDV HDD HSS; go_wp2_with fail; clear c1; go_loopg [96] n (fun q iv wr => ∃ (k : Nat), k ≤ n ∧ q = n - k ∧ iv = .int .i64 k ∧ zS W0.heap.size wr m x s1 v1 0 0 [] ∧ Below W0.heap.size W0 wr ∧ QQ = Sp.toEx (Sp.kA s1 (ds.drop k)) s1)
  case atStart => exact ⟨0, Nat.zero_le _, rfl, rfl, HMK.out, HBW.out, HRR.out⟩
  case round =>
   clear HMK HBW HRR hlm; obtain ⟨k, hk, rfl, rfl, hmk, hbw, hR⟩ := hrel; have HMK := zh hmk; have HBW := zh hbw; have HRR := zh hR; have hk0 : (0 : Int) ≤ (k : Int) := Int.natCast_nonneg _; have hlm : m < wr.heap.size := zC hmk.block; clear hmk hbw hR; by_cases hkn : k < n
   ·have hk1 : (k : Int) < (n : Int) := by omega
    have hkd : k < ds.length := by have := HN.out; omega
    obtain ⟨⟨dk, dt, dsy, dp⟩, hdk, hdr, hmem⟩ := qO hkd; have hsd := HSM.out _ hmem; have hR := HRR.out; rw [hdr, Sp.declsNames_cons] at hR; have hsyms := HD2.out k _ hdk; obtain ⟨sa, sc, hfk⟩ := hsyms.form; rw [List.length_map] at hfk; obtain ⟨bd, od, rfl, hbd, hcd⟩ := HD1.out.at (k := k) (row := xP (f k) ⟨dk, dt, dsy, dp⟩) (by rw [List.getElem?_mapIdx, hdk]; rfl); rw [hfk] at hcd hsyms; have hcells := hcd wr HBW.out; simp only at hR hcells hsyms; obtain ⟨nd, hnd⟩ : ∃ nd, nd = dsy.length := ⟨_, rfl⟩
    have hnd4 : nd ≤ 4000 := by have h := hsd.2.1; simp only at h; omega
    rw [← hnd] at hcells hsyms; have r0 := hcells 0 _ rfl; have r1 := hcells 1 _ rfl; have r2 := hcells 2 _ rfl; have r3 := hcells 3 _ rfl; simp only [Nat.add_zero] at r0; have hlb : bd < wr.heap.size := by have := HBW.out.size; omega
    have HSY := zh hsyms; have HSD := zh hsd; have HR1 := zh hR; have HND := zh hnd; clear hsyms hsd hR hcells hcd hdr hdk hfk hmem hnd; obtain ⟨gd, hgd⟩ : ∃ gd, gd = wr.heap.size := ⟨_, rfl⟩
    obtain ⟨w2, hw2⟩ : ∃ w2, w2 = wr.alloc (.cells #[.int .i64 dk, .string ⟨dt.toArray⟩, .slice sa nd sc, .int .i64 dp] 57) := ⟨_, rfl⟩
    have hbx : w2.heap[gd]? = some (.cells #[.int .i64 dk, .string ⟨dt.toArray⟩, .slice sa nd sc, .int .i64 dp] 57 (0, 0)) := by rw [hw2, hgd]; exact zE wr _
    have hb12 : Below wr.heap.size wr w2 := by rw [hw2]; exact (Below.refl _ wr).alloc (Nat.le_refl _) _
    have HMK2 := zh (zU HMK.out hb12); have HBW2 := zh (HBW.out.trans (hb12.mono HBW.out.size)); have HBX := zh hbx; have b2 := zc 2 hbx; have hlbx := zC hbx; clear hbx hb12; go_upto_region 15 with fail
    rw [← hgd, ← hw2]; clear hgd hw2 r0 r1 r2 r3; go_wp2_with fail; clear b2 hlbx; go_loopg [103] nd (fun q iv wr => ∃ (j : Nat), j ≤ nd ∧ q = nd - j ∧ iv = .int .i64 j ∧ zS W0.heap.size wr m x s1 v1 0 0 [] ∧ Below W0.heap.size W0 wr ∧ wr.heap[gd]? = some (.cells #[.int .i64 dk, .string ⟨dt.toArray⟩, .slice sa nd sc, .int .i64 dp] 57 (0, 0)) ∧ QQ = Sp.toEx (Sp.namesK s1 dk (dsy.drop j) (ds.drop (k + 1))) s1)
    case atStart => exact ⟨0, Nat.zero_le _, rfl, rfl, HMK2.out, HBW2.out, HBX.out, HR1.out⟩
    case round =>
     clear HMK HBW HRR HMK2 HBW2 HBX HR1 hlm hlb; obtain ⟨j, hj, rfl, rfl, hmk, hbw, hbx, hRj⟩ := hrel; have hj0 : (0 : Int) ≤ (j : Int) := Int.natCast_nonneg _; have HMK := zh hmk; have HBW := zh hbw; have HRR := zh hRj; have HBX := zh hbx; have hlm : m < wr.heap.size := zC hmk.block; clear hmk hbw hbx hRj; by_cases hjn : j < nd
     ·have hj1 : (j : Int) < (nd : Int) := by omega
      have hjd : j < dsy.length := by have := HND.out; omega
      obtain ⟨⟨nm, lt, nu, pa⟩, hdj, hdr, hmem⟩ := qO hjd; have hsy := HSD.out.2.2 _ hmem; have hR := HRR.out; rw [hdr, Sp.namesK_cons] at hR; obtain ⟨bs, os, rfl, hbs, hcd⟩ := HSY.out.at (k := j) (row := symC ⟨nm, lt, nu, pa⟩) (by rw [List.getElem?_map, hdj]; rfl); have hcells := hcd wr HBW.out; have r0 := hcells 0 _ rfl; have r1 := hcells 1 _ rfl; have r2 := hcells 2 _ rfl; have r3 := hcells 3 _ rfl; simp only [Nat.add_zero] at r0 r1 r2 r3 hR; have hlb : bs < wr.heap.size := by have := HBW.out.size; omega
      have hnml : nm.length ≤ maxLen := by have h := hsy; unfold smallSym at h; unfold maxLen; simp only at h; omega
      obtain ⟨kl2, hkl2⟩ := zBP hnml; have HRR := zh hR; clear hcells hcd hdr hdj hmem hsy hR; obtain ⟨ge, hge⟩ : ∃ ge, ge = wr.heap.size := ⟨_, rfl⟩
      obtain ⟨w3, hw3⟩ : ∃ w3, w3 = wr.alloc (.cells #[.string ⟨nm.toArray⟩, .bool lt, .int .i64 nu, .int .i64 pa] 45) := ⟨_, rfl⟩
      have hbs3 : w3.heap[ge]? = some (.cells #[.string ⟨nm.toArray⟩, .bool lt, .int .i64 nu, .int .i64 pa] 45 (0, 0)) := by rw [hw3, hge]; exact zE wr _
      have hb13 : Below wr.heap.size wr w3 := by rw [hw3]; exact (Below.refl _ wr).alloc (Nat.le_refl _) _
      have HMK3 := zh (zU HMK.out hb13); have HBW3 := zh (HBW.out.trans (hb13.mono HBW.out.size)); have HBX3 := zh ((hb13.block gd (zC HBX.out)).trans HBX.out); have HBS3 := zh hbs3; have hlm3 : m < w3.heap.size := zC HMK3.out.block; have hlg3 : gd < w3.heap.size := zC HBX3.out; have hle3 : ge < w3.heap.size := zC hbs3; clear hbs3 hb13; go_upto_region 18 with fail
      rw [← hge, ← hw3]; clear hge hw3 r0 r1 r2 r3
      obtain ⟨nv, nb, hnb⟩ : ∃ (nv : Int) (nb : Bool), (match Sp.yO s1.lefts nm with
        | some k => ((k : Int), true)
        | none => ((0 : Int), false)) = (nv, nb) := ⟨_, _, rfl⟩
      have hnb2 : nb = (Sp.yO s1.lefts nm).isSome := by
       cases ho : Sp.yO s1.lefts nm <;> rw [ho] at hnb <;> simp only [Prod.mk.injEq] at hnb <;> exact hnb.2.symm
      have HS18 : Hid (∀ w', Below w3.heap.size w3 w' → (w'.cell? ⟨m, 11, none⟩ = some (.map (some v1.bn)) ∧ w'.cell? ⟨ge, 0, none⟩ = some (.string ⟨nm.toArray⟩) ∧ (Instr.lookup 96 (.map (some v1.bn)) (.string ⟨nm.toArray⟩) true).run Tryz.prog w' = .ok (.tuple #[.int .i64 nv, .bool nb]) w')) := zh (fun w' hw' => by
       have hbx := (hw'.block ge hle3).trans HBS3.out; have hbm := (hw'.block m hlm3).trans HMK3.out.block; have hk := (HMK3.out.nmap.block (hw'.block _ HMK3.out.nmap.lt)).look true vB Tryz.underlying96 (kQ w') hkl2; refine ⟨zc 11 hbm, zc 0 hbx, ?_⟩; rw [hk]; have e : nonL s1.lefts (.string ⟨nm.toArray⟩) = (Sp.yO s1.lefts nm).map fun (k : Nat) => Value.int .i64 (k : Int) := rfl
       rw [e]
       cases ho : Sp.yO s1.lefts nm with
       | some k => rw [ho] at hnb; simp only [Prod.mk.injEq] at hnb; obtain ⟨rfl, rfl⟩ := hnb; rfl
       | none => rw [ho] at hnb; simp only [Prod.mk.injEq] at hnb; obtain ⟨rfl, rfl⟩ := hnb; rfl)
      have HNB2 := zh hnb2; clear hnb hnb2; refine zF (fun w' : World => (w'.cell? ⟨m, 11, none⟩ = some (.map (some v1.bn)) ∧ w'.cell? ⟨ge, 0, none⟩ = some (.string ⟨nm.toArray⟩) ∧ (Instr.lookup 96 (.map (some v1.bn)) (.string ⟨nm.toArray⟩) true).run Tryz.prog w' = .ok (.tuple #[.int .i64 nv, .bool nb]) w')) [] (.take 0 (.take 1 (.take 2 (.take 3 (.take 4 (.take 5 (.take 6 (.take 7 (.take 8 (.take 9 (.one 10 (.one 11 (.done))))))))))))) (by kernel_rfl) (by kernel_rfl) (fun _ _ _ _ h => h) ?_; have hSw := HS18.out _ (below_drewN (Below.refl _ w3) 1); iterate 10 (refine zN (v := ?_) rfl hSw (by rfl) ?_ ?_; rotate_left 1; (focus (intro w hSx; (try dsimp only at hSx); go_simp; try rfl)); (try simp only [Act.put, zq0, zq1, zq2]))
      refine zB rfl (by rfl) (fun K' hK => ?_); go_simp; refine hK _ _ (.inr (HS18.out _ (below_drewN (Below.refl _ w3) 1))) ?_; clear hK K' hSw; (try simp only [Act.put, zq0, zq1, zq2]); refine zB rfl (by rfl) (fun K' hK => ?_); go_simp; refine hK _ _ (.inr (HS18.out _ (below_drewN (Below.refl _ w3) 1))) ?_; clear hK K'; (try simp only [Act.put, zq0, zq1, zq2]); refine zH ?_; obtain ⟨w4, hw4⟩ : ∃ w4, w4 = w3.drew := ⟨_, rfl⟩
      have hb34 : Below w3.heap.size w3 w4 := by rw [hw4]; exact below_drewN (Below.refl _ w3) 1
      rw [← hw4]; have HMK4 := zh (zU HMK3.out hb34); have HBW4 := zh (HBW3.out.trans (hb34.mono HBW3.out.size)); have hbx4 := (hb34.block gd hlg3).trans HBX3.out; have hbs4 := (hb34.block ge hle3).trans HBS3.out; have HBX4 := zh hbx4; have d0 := zc 0 hbx4; have s0 := zc 0 hbs4; have s3 := zc 3 hbs4; have hlm4 : m < w4.heap.size := zC HMK4.out.block; have hlg4 : gd < w4.heap.size := zC hbx4; have hle4 : ge < w4.heap.size := zC hbs4; have hR := HRR.out; clear hw4 hb34 hbx4 hbs4; by_cases h5 : 5 ≤ dk
      ·cases nb with
       | true =>
        rw [if_neg (by rintro ⟨_, h⟩; have h2 := HNB2.out; cases ho : Sp.yO s1.lefts nm <;> rw [ho] at h h2 <;> simp at h h2)] at hR; have HRR := zh hR; clear hR; go_wp2_with fail; go_roundg (nd - (j + 1))
        case measure => omega
        case rel => exact ⟨j + 1, by omega, rfl, by go_num, HMK4.out, HBW4.out, HBX4.out, HRR.out⟩
       | false =>
        rw [if_pos ⟨h5, by have h2 := HNB2.out; cases ho : Sp.yO s1.lefts nm with | none => rfl | some k => rw [ho] at h2; cases h2⟩] at hR; have HE : Hid (Sp.zAB ds R = .error (nm, pa)) := zh (by rw [← HQ.out, hR]; rfl); have HWR := zh (qG nm pa HMK4.out); clear hR; go_wp2_with fail; refine (HWR.out).mono ?_; rintro e w9 ⟨rfl, hm9, hk9⟩; have HM9 := zh hm9; have HK9 := zh hk9; clear hm9 hk9; go_wp2_with fail; go_ret; rw [HE.out]; exact zBJ (zK rfl) (HBW4.out.trans (Kp.below HK9.out (by have := HBW4.out.size; omega) (fun b hb e => by have := HMK4.out.behind.1; omega))) HM9.out
      ·rw [if_neg (fun h => h5 h.1)] at hR
       have HRR := zh hR; clear hR; go_wp2_with fail; go_roundg (nd - (j + 1))
       case measure => omega
       case rel => exact ⟨j + 1, by omega, rfl, by go_num, HMK4.out, HBW4.out, HBX4.out, HRR.out⟩
     ·obtain rfl : j = nd := by omega
      have hR := HRR.out; rw [List.drop_eq_nil_of_le (by rw [← HND.out]; exact Nat.le_refl _), Sp.namesK_nil] at hR; have HRR := zh hR; clear hR; go_wp2_with fail; go_roundg (n - (k + 1))
      case measure => omega
      case rel => exact ⟨k + 1, by omega, rfl, by go_num, HMK.out, HBW.out, HRR.out⟩
   ·obtain rfl : k = n := by omega
    have hR := HRR.out; rw [List.drop_eq_nil_of_le (by rw [← HN.out]; exact Nat.le_refl _)] at hR; have HE : Hid (Sp.zAB ds R = .ok s1) := zh (by rw [← HQ.out, hR]; rfl); clear hR; go_wp2_with fail; go_ret; rw [HE.out]; exact pass_ok (zK rfl) HBW.out HMK.out HDV1.out HRV1.out
end Go.Proofs.YtddnomjfcbplpaaGreatDoor
