/- Layer 8, the reference: are two sources the same. -/
import Derived.Test.YthmimcegiihcnaaDoorEa
import Derived.BigQuiet
import Derived.Deep.QuietTactic
namespace Go.Proofs.YthmimcegiihcnaaDoor
namespace Sp
theorem all2_len {α : Type} (f : α → α → Bool) : ∀ l m : List α, l.length ≠ m.length → all2 f l m = false
  | [], [], h => absurd rfl h
  | [], _ :: _, _ => rfl
  | _ :: _, [], _ => rfl
  | a :: l, b :: m, h => by
    have ih := all2_len f l m (fun e => h (by simp [e]))
    simp [all2, ih]
end Sp
open Go.RowKit

theorem heap_sec (w : World) (o1 o2 : Obj) : ((w.alloc o1).alloc o2).heap[w.heap.size + 1]? = some o2 := by
  have h := heap_last (w.alloc o1) o2
  rw [World.size_alloc] at h
  exact h
theorem beq_str (a b : List UInt8) : ((⟨a.toArray⟩ : ByteArray).toList == (⟨b.toArray⟩ : ByteArray).toList) = (a == b) := by rw [toList_mk, toList_mk]
set_option maxHeartbeats 1600000 in
theorem ref7_EqSym (s t : Sp.Sym) (W : World) :
    Calls Tryd.prog 52 #[symV s, symV t] W fun e w' => e = .returned (.bool (Sp.sameSym s t)) ∧ Below W.heap.size W w' := by
  obtain ⟨nm, lt, nu, pa⟩ := s
  obtain ⟨nm2, lt2, nu2, pa2⟩ := t
  have HB := Lib.hid (fun o1 o2 : Obj => ((Below.refl _ W).alloc (Nat.le_refl _) o1).alloc (by simp) o2)
  have hq : Sp.sameSym ⟨nm, lt, nu, pa⟩ ⟨nm2, lt2, nu2, pa2⟩ = ((nm == nm2) && (lt == lt2) && (nu == nu2)) := rfl
  rw [hq]
  clear hq
  show Calls _ _ #[.agg #[.string ⟨nm.toArray⟩, .bool lt, .int .i64 nu, .int .i64 pa], .agg #[.string ⟨nm2.toArray⟩, .bool lt2, .int .i64 nu2, .int .i64 pa2]] _ _
  by_cases hnm : nm = nm2
  · subst hnm
    cases lt <;> cases lt2
    all_goals
      go_enter Tryd.func52, Tryd.ntmps52
      go_wp2_with fail
      go_ret
      exact ⟨ret_bool (by simp), HB.out _ _⟩
  · have e1 : (nm == nm2) = false := by rw [beq_eq_false_iff_ne]; exact hnm
    rw [e1]
    clear hnm
    go_enter Tryd.func52, Tryd.ntmps52
    go_wp2_with fail
    go_ret
    exact ⟨ret_bool (by simp), HB.out _ _⟩

set_option maxRecDepth 100000 in
set_option maxHeartbeats 6400000 in
theorem ref7_eqAlt (a c : Sp.Alt) (v v2 : Value) (W : World) (hsl : SlAt W v 6 (a.parts.map partC)) (hsl2 : SlAt W v2 6 (c.parts.map partC)) (hn : a.parts.length ≤ 4000) (hn2 : c.parts.length ≤ 4000) :
    Calls Tryd.prog 53 #[.agg (altC v a).toArray, .agg (altC v2 c).toArray] W fun e w' => e = .returned (.bool (Sp.sameAlt a c)) ∧ Below W.heap.size W w' := by
  obtain ⟨ps, ⟨nm, lt, nu, pa⟩, pb⟩ := a
  obtain ⟨ps2, ⟨nm2, lt2, nu2, pa2⟩, pb2⟩ := c
  simp only at hsl hsl2 hn hn2
  have HB := Lib.hid (fun o1 o2 : Obj => ((Below.refl _ W).alloc (Nat.le_refl _) o1).alloc (by simp) o2)
  have HEQ := Lib.hid (fun w => ref7_EqSym ⟨nm, lt, nu, pa⟩ ⟨nm2, lt2, nu2, pa2⟩ w)
  have hq : Sp.sameAlt ⟨ps, ⟨nm, lt, nu, pa⟩, pb⟩ ⟨ps2, ⟨nm2, lt2, nu2, pa2⟩, pb2⟩ = (Sp.sameSym ⟨nm, lt, nu, pa⟩ ⟨nm2, lt2, nu2, pa2⟩ && Sp.all2 Sp.samePart ps ps2) := rfl
  rw [hq]
  generalize Sp.sameSym ⟨nm, lt, nu, pa⟩ ⟨nm2, lt2, nu2, pa2⟩ = qp at HEQ
  obtain ⟨av, cap, rfl⟩ := hsl.form
  obtain ⟨av2, cap2, rfl⟩ := hsl2.form
  have HSL := Lib.hid hsl; have HSL2 := Lib.hid hsl2
  rw [List.length_map] at *
  rw [List.length_map] at *
  generalize hnl : ps.length = n at *
  generalize hnl2 : ps2.length = n2 at *
  clear hsl hsl2 hq
  show Calls _ _ #[.agg #[.slice av n cap, .string ⟨nm.toArray⟩, .bool lt, .int .i64 nu, .int .i64 pa, .int .i64 pb], .agg #[.slice av2 n2 cap2, .string ⟨nm2.toArray⟩, .bool lt2, .int .i64 nu2, .int .i64 pa2, .int .i64 pb2]] _ _
  by_cases hne : n = n2
  · subst hne
    generalize hR : Sp.all2 Sp.samePart ps ps2 = R
    have HR := Lib.hid hR
    have HNL := Lib.hid hnl; have HNL2 := Lib.hid hnl2
    clear hR hnl hnl2
    go_enter Tryd.func53, Tryd.ntmps53
    go_wp2_with fail
    refine (HEQ.out _).mono ?_
    rintro e w' ⟨rfl, hb'⟩
    have hbw : Below (W.heap.size + 2) ((W.alloc (.cells #[.slice av n cap, .string ⟨nm.toArray⟩, .bool lt, .int .i64 nu, .int .i64 pa, .int .i64 pb] 49)).alloc (.cells #[.slice av2 n cap2, .string ⟨nm2.toArray⟩, .bool lt2, .int .i64 nu2, .int .i64 pa2, .int .i64 pb2] 49)) w' := hb'.mono (by simp)
    clear hb'
    have HBW := Lib.hid hbw
    have hF1 := (hbw.block W.heap.size (by omega)).trans ((Below.heap_alloc _ _ _ (by simp)).trans (heap_last W _))
    have hF2 := (hbw.block (W.heap.size + 1) (by omega)).trans (heap_sec W _ _)
    have b0 := cell_at (i := 0) hF1; have b1 := cell_at (i := 0) hF2
    have hl1 := lt_at hF1; have hl2 := lt_at hF2
    clear hF1 hF2 hbw
    cases qp with
    | false =>
      go_wp2_with fail
      go_ret
      exact ⟨ret_bool (by simp), (HB.out _ _).trans (HBW.out.mono (by omega))⟩
    | true =>
      go_wp2_with fail
      clear b0 b1 hl1 hl2
      go_loopg [5] n (fun g iv wr => ∃ k : Nat, k ≤ n ∧ g = n - k ∧ iv = .int .i64 k ∧ Sp.all2 Sp.samePart (ps.drop k) (ps2.drop k) = R ∧ Below (W.heap.size + 2) ((W.alloc (.cells #[.slice av n cap, .string ⟨nm.toArray⟩, .bool lt, .int .i64 nu, .int .i64 pa, .int .i64 pb] 49)).alloc (.cells #[.slice av2 n cap2, .string ⟨nm2.toArray⟩, .bool lt2, .int .i64 nu2, .int .i64 pa2, .int .i64 pb2] 49)) wr)
      case atStart => exact ⟨0, Nat.zero_le _, rfl, rfl, HR.out, HBW.out⟩
      case round =>
        obtain ⟨k, hk, rfl, rfl, hi, hbel⟩ := hrel
        have HI := Lib.hid hi
        have hF1 := (hbel.block W.heap.size (by omega)).trans ((Below.heap_alloc _ _ _ (by simp)).trans (heap_last W _))
        have hF2 := (hbel.block (W.heap.size + 1) (by omega)).trans (heap_sec W _ _)
        have b0 := cell_at (i := 0) hF1; have b1 := cell_at (i := 0) hF2
        have hl1 := lt_at hF1; have hl2 := lt_at hF2
        have HBR := Lib.hid hbel
        have hk0 : (0 : Int) ≤ (k : Int) := Int.natCast_nonneg _
        have hsz : W.heap.size + 2 ≤ wr.heap.size := by have := hbel.size; simp at this; omega
        clear hi hbel hF1 hF2
        by_cases hkn : k < n
        · have hkl : k < ps.length := by have := HNL.out; omega
          have hkl2 : k < ps2.length := by have := HNL2.out; omega
          have hp : ps[k]? = some ps[k] := List.getElem?_eq_getElem hkl
          have hp2 : ps2[k]? = some ps2[k] := List.getElem?_eq_getElem hkl2
          have hdr : ps.drop k = ps[k] :: ps.drop (k + 1) := List.drop_eq_getElem_cons hkl
          have hdr2 : ps2.drop k = ps2[k] :: ps2.drop (k + 1) := List.drop_eq_getElem_cons hkl2
          generalize ps[k] = p at *
          generalize ps2[k] = p2 at *
          obtain ⟨b, off, rfl, hbl, hc⟩ := HSL.out.at (k := k) (row := partC p) (by rw [List.getElem?_map, hp]; rfl)
          obtain ⟨b2, off2, rfl, hbl2, hc2⟩ := HSL2.out.at (k := k) (row := partC p2) (by rw [List.getElem?_map, hp2]; rfl)
          have hbx := (HB.out (.cells #[.slice (some ⟨b, off, none⟩) n cap, .string ⟨nm.toArray⟩, .bool lt, .int .i64 nu, .int .i64 pa, .int .i64 pb] 49) (.cells #[.slice (some ⟨b2, off2, none⟩) n cap2, .string ⟨nm2.toArray⟩, .bool lt2, .int .i64 nu2, .int .i64 pa2, .int .i64 pb2] 49)).trans (HBR.out.mono (by omega))
          have hi := HI.out
          rw [hdr, hdr2] at hi
          have hi' : ((Sp.sameSym p.sym p2.sym && (p.code == p2.code)) && Sp.all2 Sp.samePart (ps.drop (k + 1)) (ps2.drop (k + 1))) = R := hi
          obtain ⟨⟨xn, xl, xu, xa⟩, xc, xp⟩ := p
          obtain ⟨⟨yn, yl, yu, ya⟩, yc, yp⟩ := p2
          have HES := Lib.hid (fun w => ref7_EqSym ⟨xn, xl, xu, xa⟩ ⟨yn, yl, yu, ya⟩ w)
          generalize Sp.sameSym ⟨xn, xl, xu, xa⟩ ⟨yn, yl, yu, ya⟩ = q at HES hi'
          have hi2 : ((q && (xc == yc)) && Sp.all2 Sp.samePart (ps.drop (k + 1)) (ps2.drop (k + 1))) = R := hi'
          have HI2 := Lib.hid hi2
          clear hi2
          have hks : ∀ w', Below (W.heap.size + 2) ((W.alloc (.cells #[.slice (some ⟨b, off, none⟩) n cap, .string ⟨nm.toArray⟩, .bool lt, .int .i64 nu, .int .i64 pa, .int .i64 pb] 49)).alloc (.cells #[.slice (some ⟨b2, off2, none⟩) n cap2, .string ⟨nm2.toArray⟩, .bool lt2, .int .i64 nu2, .int .i64 pa2, .int .i64 pb2] 49)) w' → w'.cell? ⟨W.heap.size, 0, none⟩ = some (.slice (some ⟨b, off, none⟩) n cap) ∧ w'.cell? ⟨W.heap.size + 1, 0, none⟩ = some (.slice (some ⟨b2, off2, none⟩) n cap2) ∧ (w'.cell? ⟨b, off + k * 6, none⟩ = some (.string ⟨xn.toArray⟩) ∧ w'.cell? ⟨b, off + k * 6 + 1, none⟩ = some (.bool xl) ∧ w'.cell? ⟨b, off + k * 6 + 2, none⟩ = some (.int .i64 xu) ∧ w'.cell? ⟨b, off + k * 6 + 3, none⟩ = some (.int .i64 xa) ∧ w'.cell? ⟨b, off + k * 6 + 4, none⟩ = some (.string ⟨xc.toArray⟩)) ∧ w'.cell? ⟨b2, off2 + k * 6, none⟩ = some (.string ⟨yn.toArray⟩) ∧ w'.cell? ⟨b2, off2 + k * 6 + 1, none⟩ = some (.bool yl) ∧ w'.cell? ⟨b2, off2 + k * 6 + 2, none⟩ = some (.int .i64 yu) ∧ w'.cell? ⟨b2, off2 + k * 6 + 3, none⟩ = some (.int .i64 ya) ∧ w'.cell? ⟨b2, off2 + k * 6 + 4, none⟩ = some (.string ⟨yc.toArray⟩) := fun w' h => by
            have hF1 := (h.block W.heap.size (by omega)).trans ((Below.heap_alloc _ _ _ (by simp)).trans (heap_last W _))
            have hF2 := (h.block (W.heap.size + 1) (by omega)).trans (heap_sec W _ _)
            have hbw := (HB.out (.cells #[.slice (some ⟨b, off, none⟩) n cap, .string ⟨nm.toArray⟩, .bool lt, .int .i64 nu, .int .i64 pa, .int .i64 pb] 49) (.cells #[.slice (some ⟨b2, off2, none⟩) n cap2, .string ⟨nm2.toArray⟩, .bool lt2, .int .i64 nu2, .int .i64 pa2, .int .i64 pb2] 49)).trans (h.mono (by omega))
            have hcc := hc _ hbw
            have hcc2 := hc2 _ hbw
            exact ⟨cell_at (i := 0) hF1, cell_at (i := 0) hF2, ⟨hcc 0 _ rfl, hcc 1 _ rfl, hcc 2 _ rfl, hcc 3 _ rfl, hcc 4 _ rfl⟩, hcc2 0 _ rfl, hcc2 1 _ rfl, hcc2 2 _ rfl, hcc2 3 _ rfl, hcc2 4 _ rfl⟩
          have HKS := Lib.hid hks
          have hk1 : (k : Int) < (n : Int) := by omega
          have HBX := Lib.hid hbx
          clear hc hc2 hp hp2 hdr hdr2 hi hi' HI hks hkl hkl2 hbx
          by_cases hxy : xc = yc
          rotate_left
          · have hxe : (xc == yc) = false := by rw [beq_eq_false_iff_ne]; exact hxy
            have HI3 := Lib.hid (show ((q && false) && Sp.all2 Sp.samePart (ps.drop (k + 1)) (ps2.drop (k + 1))) = R by rw [← hxe]; exact HI2.out)
            clear HI2 hxy
            have hks1 := HKS.out _ HBR.out
            obtain ⟨z1, z2, ⟨z3, z4, z5, z6, z7⟩, z8, z9, z10, z11, z12⟩ := hks1
            clear b0 b1
            go_wp2_with fail
            go_quiet (fail)
            go_wp2_with fail
            go_ret
            exact ⟨ret_bool (by rw [← HI3.out]; simp), below_drewN HBX.out _⟩
          · subst hxy
            have HI3 := Lib.hid (show (q && Sp.all2 Sp.samePart (ps.drop (k + 1)) (ps2.drop (k + 1))) = R by rw [← HI2.out]; simp)
            clear HI2
            go_wp2_with fail
            first
            | (go_region_held3 (fun w' => w'.cell? ⟨W.heap.size, 0, none⟩ = some (.slice (some ⟨b, off, none⟩) n cap) ∧ w'.cell? ⟨W.heap.size + 1, 0, none⟩ = some (.slice (some ⟨b2, off2, none⟩) n cap2) ∧ (w'.cell? ⟨b, off + k * 6, none⟩ = some (.string ⟨xn.toArray⟩) ∧ w'.cell? ⟨b, off + k * 6 + 1, none⟩ = some (.bool xl) ∧ w'.cell? ⟨b, off + k * 6 + 2, none⟩ = some (.int .i64 xu) ∧ w'.cell? ⟨b, off + k * 6 + 3, none⟩ = some (.int .i64 xa) ∧ w'.cell? ⟨b, off + k * 6 + 4, none⟩ = some (.string ⟨xc.toArray⟩)) ∧ w'.cell? ⟨b2, off2 + k * 6, none⟩ = some (.string ⟨yn.toArray⟩) ∧ w'.cell? ⟨b2, off2 + k * 6 + 1, none⟩ = some (.bool yl) ∧ w'.cell? ⟨b2, off2 + k * 6 + 2, none⟩ = some (.int .i64 yu) ∧ w'.cell? ⟨b2, off2 + k * 6 + 3, none⟩ = some (.int .i64 ya) ∧ w'.cell? ⟨b2, off2 + k * 6 + 4, none⟩ = some (.string ⟨xc.toArray⟩))
                (first
                  | exact HKS.out _ HBR.out
                  | exact HKS.out _ (below_drewN HBR.out 1)
                  | exact HKS.out _ ((below_drewN HBR.out 1).trans (hb'.mono hsz))
                  | go_keep)
                ((first
                  | (go_at_call 52; refine (HES.out _).mono ?_; rintro e w' ⟨rfl, hb'⟩))))
            | fail
            all_goals
              have HBR2 := Lib.hid (HBR.out.trans ((below_undrew hb').mono hsz))
              clear hb'
              cases q with
              | false =>
                go_wp2_with fail
                go_ret
                exact ⟨ret_bool (by rw [← HI3.out]; rfl), (HB.out _ _).trans (HBR2.out.mono (by omega))⟩
              | true =>
                go_wp2_with fail
                go_roundg (n - (k + 1))
                case measure => omega
                case rel => exact ⟨k + 1, by omega, rfl, by go_num, by rw [← HI3.out]; rfl, HBR2.out⟩
        · obtain rfl : k = n := by omega
          have hdn : ps.drop k = [] := List.drop_of_length_le (by have := HNL.out; omega)
          have hdn2 : ps2.drop k = [] := List.drop_of_length_le (by have := HNL2.out; omega)
          have hi := HI.out
          rw [hdn, hdn2] at hi
          have HI2 := Lib.hid (show true = R from hi)
          clear hi HI hdn hdn2
          go_wp2_with fail
          go_ret
          exact ⟨ret_bool (by rw [← HI2.out]; rfl), (HB.out _ _).trans (HBR.out.mono (by omega))⟩
  · have hd := Sp.all2_len Sp.samePart ps ps2 (by omega)
    rw [hd, Bool.and_false]
    have hnb : ((n : Int) != (n2 : Int)) = true := by rw [bne_iff_ne]; omega
    clear hd hne hnl hnl2
    go_enter Tryd.func53, Tryd.ntmps53
    go_wp2_with fail
    go_ret
    exact ⟨rfl, HB.out _ _⟩
end Go.Proofs.YthmimcegiihcnaaDoor
