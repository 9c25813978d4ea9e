import Derived.Test.YtddnomjfcbplpaaGreatDoorZ03
namespace Go.Proofs.YtddnomjfcbplpaaGreatDoor
open Go.RowKit

theorem kR {w : World} {b : Nat} {o : Obj} (h : w.heap[b]? = some o) (x : Obj) : (w.alloc x).heap[b]? = some o := (Below.heap_alloc _ _ _ (zC h)).trans h
theorem mayDecl_no {d : Sp.Decl} (h : d.kind < 1 ∨ 6 < d.kind ∨ d.syms.length = 0) : Sp.yF d = false := by unfold Sp.yF; rw [if_pos h]
def declHead (d : Sp.Decl) : Prop := ¬ (d.kind < 1 ∨ 6 < d.kind ∨ d.syms.length = 0) ∧ ¬ (d.kind = 6 ∧ (d.tag ≠ [] ∨ d.syms.length ≠ 1)) ∧ ¬ ((d.kind ≠ 6 ∧ (d.tag ≠ [] ∨ d.kind = 5)) ∧ Sp.xI d.tag = false)
theorem gG {d : Sp.Decl} (h : declHead d) : Sp.yF d = d.syms.all (Sp.yH d.kind) := by
 unfold Sp.yF; rw [if_neg h.1, if_neg h.2.1, if_neg h.2.2]

def smallSym (s : Sp.Sym) : Prop := s.name.length ≤ 4000
def zBC (d : Sp.Decl) : Prop := d.tag.length ≤ 4000 ∧ d.syms.length ≤ 4000 ∧ ∀ s ∈ d.syms, smallSym s

set_option maxRecDepth 100000 in
set_option maxHeartbeats 25600000 in
theorem print_decl (d : Sp.Decl) (v : Value) (W : World) (hsl : SlAt W v 4 (d.syms.map symC)) (hs : zBC d) :
  Calls Tryz.prog 60 #[.agg #[.int .i64 d.kind, .string ⟨d.tag.toArray⟩, v, .int .i64 d.at_]] W fun e w' => e = .returned (.bool (Sp.yF d)) ∧ Below W.heap.size W w' := by
 obtain ⟨kd, tg, sy, pa⟩ := d; obtain ⟨hs1, hs2, hs3⟩ := hs; simp only at hs1 hs2 hs3 hsl ⊢; have HB := zh (fun o : Obj => (Below.refl _ W).alloc (Nat.le_refl _) o); obtain ⟨a, cap, rfl⟩ := hsl.form; rw [List.length_map] at *
 have HN := zh (fun w => body_Name ⟨tg.toArray⟩ w (by rw [Lib.size_eq]; show tg.length < _; omega)); have HT : Hid ((⟨tg.toArray⟩ : ByteArray).data.toList = tg) := zh rfl; rw [HT.out] at HN; by_cases h1 : kd < 1
 ·rw [mayDecl_no (.inl h1)]
  clear hsl HN hs3; go_enter Tryz.func60, Tryz.ntmps60
  go_wp2_with fail; go_ret; exact ⟨rfl, HB.out _⟩
 by_cases h2 : 6 < kd
 ·rw [mayDecl_no (.inr (.inl h2))]
  clear hsl HN hs3; go_enter Tryz.func60, Tryz.ntmps60
  go_wp2_with fail; go_ret; exact ⟨rfl, HB.out _⟩
 by_cases h3 : sy.length = 0
 ·rw [mayDecl_no (.inr (.inr h3))]
  clear hsl HN hs3; go_enter Tryz.func60, Tryz.ntmps60
  go_wp2_with fail; go_ret; exact ⟨rfl, HB.out _⟩
 have h1' : ¬ (kd < 1 ∨ 6 < kd ∨ sy.length = 0) := by rintro (h | h | h) <;> contradiction
 have hz3 : ((sy.length : Int) == 0) = false := by rw [beq_eq_false_iff_ne]; omega
 by_cases h6 : kd = 6
 ·subst h6
  by_cases ht : tg = []
  ·subst ht
   by_cases hl : sy.length = 1
   ·have mh : declHead ⟨(6 : Int), [], sy, pa⟩ := ⟨h1', by rintro ⟨_, h | h⟩; exact h rfl; exact h hl, by rintro ⟨⟨h, _⟩, _⟩; exact h rfl⟩
    have hl' : ((sy.length : Int) != 1) = false := by rw [hl]; rfl
    clear HN hl; have e : Sp.yF ⟨(6 : Int), [], sy, pa⟩ = sy.all (Sp.yH (6 : Int)) := gG mh; rw [e]; clear e mh; have HSL := zh hsl; have HS3 := zh hs3; clear hsl hs3; go_enter Tryz.func60, Tryz.ntmps60
    go_wp2_with fail; go_loopw [58] (fun iv wr => ∃ k : Nat, k ≤ sy.length ∧ iv = .int .i64 k ∧ Hid (∀ (j : Nat) (x : Sp.Sym), j < k → sy[j]? = some x → Sp.yH (6 : Int) x = true) ∧ Hid (Below W.heap.size W wr) ∧ Hid (wr.heap[W.heap.size]? = some (.cells #[.int .i64 (6 : Int), .string ⟨#[]⟩, .slice a sy.length cap, .int .i64 pa] 57 (0, 0)))) (fun iv _ => sy.length - (intOf iv).toNat)
    case atStart => exact ⟨0, Nat.zero_le _, rfl, zh (fun j x hj => absurd hj (Nat.not_lt_zero _)), zh (HB.out _), zh (zE W _)⟩
    case round =>
     obtain ⟨k, hk, rfl, HG, HBL, HBX⟩ := hrel; have hk0 : (0 : Int) ≤ (k : Int) := Int.natCast_nonneg _; have hsz := HBL.out.size; have hlx := zC HBX.out; by_cases hkn : k < sy.length
     ·have hpx : sy[k]? = some sy[k] := List.getElem?_eq_getElem hkn
      have hsm := HS3.out _ (List.mem_of_getElem? hpx); generalize sy[k] = x at hpx hsm; obtain ⟨b, off, cap', hv, hb, hc⟩ := HSL.out.some (by intro h; have := congrArg List.length h; simp at this; rw [this] at hkn; simp at hkn); obtain ⟨rfl, rfl⟩ : a = some ⟨b, off, none⟩ ∧ cap = cap' := by simpa using hv
      have hcc := fun j u (h : (symC x)[j]? = some u) => (HBL.out.cell (p := ⟨b, _, none⟩) hb).trans (hc k (symC x) (by simp [hpx]) j u h)
      have a0 := hcc 0 _ rfl; have a1 := hcc 1 _ rfl; have a2 := hcc 2 _ rfl; have a3 := hcc 3 _ rfl; simp only [Nat.add_zero] at a0; have HPS := zh (fun w => jQ x w hsm); have HPX := zh hpx; have hk1 : (k : Int) < (sy.length : Int) := by omega
      generalize hq : Sp.kE x = q at HPS; have hmay : Sp.yH (6 : Int) x = if q = false ∨ x.lit = true ∧ 5 ≤ (6 : Int) then false else if x.num ≠ 0 ∧ ((6 : Int) ≠ 1 ∨ x.lit = true ∨ x.num < 1 ∨ 50000 < x.num) then false else true := by rw [← hq]; rfl
      obtain ⟨nm, lt, nu, pb⟩ := x; generalize hQ : Sp.yH (6 : Int) ⟨nm, lt, nu, pb⟩ = Q at hmay; have HQ := zh hQ; have HM := zh hmay; clear hv hcc hc hpx hsm hq hmay hQ
      have hfin : ∀ w, Q = false → Below wr.heap.size wr w → Ending.returned (.bool false) = .returned (.bool (sy.all (Sp.yH (6 : Int)))) ∧ Below W.heap.size W w := fun w hq hw => ⟨by
       have h1 : sy.all (Sp.yH (6 : Int)) = false := by
        rw [List.all_eq_false]; exact ⟨_, List.mem_of_getElem? HPX.out, by rw [HQ.out, hq]; simp⟩
       rw [h1], HBL.out.trans (hw.mono hsz)⟩
      have HFIN := zh hfin; clear hfin; go_wp2_with fail; refine (HPS.out _).mono ?_; rintro e w' ⟨rfl, hb'⟩; have hsz' := hb'.size; simp only [World.size_alloc] at hsz'; have hX := (hb'.block W.heap.size (by simp; omega)).trans (kR HBX.out _); have hY := (hb'.block wr.heap.size (by simp)).trans (zE wr _); have x0 := zc 0 hX; have y1 := zc 1 hY; have y2 := zc 2 hY; have HX := zh hX; have HBB := zh (((Below.refl _ wr).alloc (Nat.le_refl _) _).trans (hb'.mono (by simp))); have hlb : W.heap.size < w'.heap.size := by omega
      have hlb2 : wr.heap.size < w'.heap.size := by omega
      clear hX hY hb'
      cases q with
      | false =>
       go_wp2_with fail; go_ret; exact HFIN.out _ (by rw [HM.out, if_pos (by simp)]) HBB.out
      | true =>
       by_cases h5 : lt = true ∧ 5 ≤ (6 : Int)
       ·obtain ⟨rfl, h5⟩ := h5
        go_wp2_with fail; go_ret; exact HFIN.out _ (by rw [HM.out, if_pos (by first | exact .inr ⟨rfl, h5⟩ | exact .inr ⟨trivial, h5⟩ | simp)]) HBB.out
       ·have hn1 : ¬ ((true : Bool) = false ∨ lt = true ∧ 5 ≤ (6 : Int)) := by rintro (h | h); exact absurd h (by decide); exact h5 h
        by_cases hno : nu ≠ 0 ∧ ((6 : Int) ≠ 1 ∨ lt = true ∨ nu < 1 ∨ 50000 < nu)
        ·have HF := zh (HFIN.out w' (by rw [HM.out, if_neg hn1, if_pos hno]) HBB.out)
         obtain ⟨hn0, hno⟩ := hno; have hnb : (nu == 0) = false := by simpa using hn0
         clear hn1; rcases hno with h | h | h | h
         ·have h' : ((6 : Int) == 1) = false := by rw [beq_eq_false_iff_ne]; exact h
          go_wp2_with fail
          all_goals (go_ret; exact HF.out)
         ·subst h
          go_wp2_with fail
          all_goals (go_ret; exact HF.out)
         ·go_wp2_with fail
          all_goals (go_ret; exact HF.out)
         ·go_wp2_with fail
          all_goals (go_ret; exact HF.out)
        ·have HT : Hid (Q = true) := zh (by rw [HM.out, if_neg hn1, if_neg hno])
         clear hn1
         have hrel : ∀ w2, Below wr.heap.size wr w2 → w2.heap[W.heap.size]? = some (.cells #[.int .i64 (6 : Int), .string ⟨#[]⟩, .slice (some ⟨b, off, none⟩) sy.length cap, .int .i64 pa] 57 (0, 0)) →
           ∃ k' : Nat, k' ≤ sy.length ∧ Value.int .i64 ((k : Int) + 1) = .int .i64 k' ∧ Hid (∀ (j : Nat) (x : Sp.Sym), j < k' → sy[j]? = some x → Sp.yH (6 : Int) x = true) ∧ Hid (Below W.heap.size W w2) ∧ Hid (w2.heap[W.heap.size]? = some (.cells #[.int .i64 (6 : Int), .string ⟨#[]⟩, .slice (some ⟨b, off, none⟩) sy.length cap, .int .i64 pa] 57 (0, 0))) := fun w2 hw hx =>
          ⟨k + 1, by omega, by go_num, zh (fun j x hj hx' => by
           rcases Nat.lt_succ_iff_lt_or_eq.1 hj with h | rfl
           ·exact HG.out j x h hx'
           ·rw [HPX.out] at hx'
            cases hx'
            rw [HQ.out, HT.out]), zh (HBL.out.trans (hw.mono hsz)), zh hx⟩
         have HREL := zh hrel; clear hrel; by_cases hnz : nu = 0
         ·subst hnz
          clear hno
          cases lt with
          | false =>
           go_wp2_with fail
           all_goals first
            | (go_roundw
               case rel => go_light; exact HREL.out _ HBB.out HX.out
               case measure => go_light; simp [intOf]; omega)
            | exact ⟨HREL.out _ HBB.out HX.out, by simp [intOf]; omega⟩
          | true =>
           have h5' : ¬ 5 ≤ (6 : Int) := fun h => h5 ⟨rfl, h⟩
           exact absurd (by decide) h5'
         ·have hk1' : (6 : Int) = 1 := Classical.byContradiction fun h => hno ⟨hnz, .inl h⟩
          exact absurd hk1' (by decide)
     ·obtain rfl : k = sy.length := by omega
      go_wp2_with fail; go_ret; refine ⟨zK ?_, HBL.out⟩; symm
      rw [List.all_eq_true]; intro x hx; obtain ⟨j, hj, hx⟩ := List.getElem_of_mem hx; exact HG.out j x hj (by rw [← hx]; exact List.getElem?_eq_getElem hj)
   ·have e : Sp.yF ⟨(6 : Int), [], sy, pa⟩ = false := by unfold Sp.yF; rw [if_neg h1', if_pos ⟨rfl, .inr hl⟩]
    rw [e]; have hl' : ((sy.length : Int) != 1) = true := by rw [bne_iff_ne]; omega
    clear hsl HN hs3 e; go_enter Tryz.func60, Tryz.ntmps60
    go_wp2_with fail; go_ret; exact ⟨rfl, HB.out _⟩
  ·have e : Sp.yF ⟨6, tg, sy, pa⟩ = false := by unfold Sp.yF; rw [if_neg h1', if_pos ⟨rfl, .inl ht⟩]
   rw [e]; obtain ⟨c, u, rfl⟩ : ∃ c u, tg = c :: u := by cases tg with | nil => exact absurd rfl ht | cons c u => exact ⟨c, u, rfl⟩
   have hne : (c :: u).isEmpty = false := rfl; clear hsl HN hs3 e; go_enter Tryz.func60, Tryz.ntmps60
   go_wp2_with fail; go_ret; exact ⟨rfl, HB.out _⟩
 have h6b : (kd == 6) = false := by simpa using h6
 by_cases h5 : tg ≠ [] ∨ kd = 5
 ·cases hn : Sp.xI tg with
  | false =>
   rw [hn] at HN; have e : Sp.yF ⟨kd, tg, sy, pa⟩ = false := by unfold Sp.yF; rw [if_neg h1', if_neg (fun h => h6 h.1), if_pos ⟨⟨h6, h5⟩, hn⟩]
   rw [e]; clear hsl hs3 e hn; by_cases ht : tg = []
   ·subst ht
    obtain rfl : kd = 5 := by rcases h5 with h | h; exact absurd rfl h; exact h
    clear h1 h2 h1' h6 h6b; go_enter Tryz.func60, Tryz.ntmps60
    go_wp2_with fail; refine (HN.out _).mono ?_; rintro e w1 ⟨rfl, rfl⟩; go_wp2_with fail; go_ret; exact ⟨rfl, HB.out _⟩
   ·obtain ⟨c, u, rfl⟩ : ∃ c u, tg = c :: u := by cases tg with | nil => exact absurd rfl ht | cons c u => exact ⟨c, u, rfl⟩
    have hne : (c :: u).isEmpty = false := rfl; clear h1' h5 ht HT hs1; go_enter Tryz.func60, Tryz.ntmps60
    go_wp2_with fail; refine (HN.out _).mono ?_; rintro e w1 ⟨rfl, rfl⟩; go_wp2_with fail; go_ret; exact ⟨rfl, HB.out _⟩
  | true =>
   rw [hn] at HN; have mh : declHead ⟨kd, tg, sy, pa⟩ := ⟨h1', fun h => h6 h.1, fun h => by rw [hn] at h; exact absurd h.2 (by decide)⟩
   obtain ⟨c, u, rfl⟩ : ∃ c u, tg = c :: u := by cases tg with | nil => exact absurd hn (by decide) | cons c u => exact ⟨c, u, rfl⟩
   have hne : (c :: u).isEmpty = false := rfl; clear h5 h1' hn HT hs1; by_cases hk1n : kd = 1
   ·subst hk1n
    clear h1 h2 h6 h6b; have e : Sp.yF ⟨(1 : Int), (c :: u), sy, pa⟩ = sy.all (Sp.yH (1 : Int)) := gG mh; rw [e]; clear e mh; have HSL := zh hsl; have HS3 := zh hs3; clear hsl hs3; go_enter Tryz.func60, Tryz.ntmps60
    go_wp2_with fail; refine (HN.out _).mono ?_; rintro e w1 ⟨rfl, rfl⟩; go_wp2_with fail; go_loopw [58] (fun iv wr => ∃ k : Nat, k ≤ sy.length ∧ iv = .int .i64 k ∧ Hid (∀ (j : Nat) (x : Sp.Sym), j < k → sy[j]? = some x → Sp.yH (1 : Int) x = true) ∧ Hid (Below W.heap.size W wr) ∧ Hid (wr.heap[W.heap.size]? = some (.cells #[.int .i64 (1 : Int), .string ⟨((c :: u)).toArray⟩, .slice a sy.length cap, .int .i64 pa] 57 (0, 0)))) (fun iv _ => sy.length - (intOf iv).toNat)
    case atStart => exact ⟨0, Nat.zero_le _, rfl, zh (fun j x hj => absurd hj (Nat.not_lt_zero _)), zh (HB.out _), zh (zE W _)⟩
    case round =>
     obtain ⟨k, hk, rfl, HG, HBL, HBX⟩ := hrel; have hk0 : (0 : Int) ≤ (k : Int) := Int.natCast_nonneg _; have hsz := HBL.out.size; have hlx := zC HBX.out; by_cases hkn : k < sy.length
     ·have hpx : sy[k]? = some sy[k] := List.getElem?_eq_getElem hkn
      have hsm := HS3.out _ (List.mem_of_getElem? hpx); generalize sy[k] = x at hpx hsm; obtain ⟨b, off, cap', hv, hb, hc⟩ := HSL.out.some (by intro h; have := congrArg List.length h; simp at this; rw [this] at hkn; simp at hkn); obtain ⟨rfl, rfl⟩ : a = some ⟨b, off, none⟩ ∧ cap = cap' := by simpa using hv
      have hcc := fun j u (h : (symC x)[j]? = some u) => (HBL.out.cell (p := ⟨b, _, none⟩) hb).trans (hc k (symC x) (by simp [hpx]) j u h)
      have a0 := hcc 0 _ rfl; have a1 := hcc 1 _ rfl; have a2 := hcc 2 _ rfl; have a3 := hcc 3 _ rfl; simp only [Nat.add_zero] at a0; have HPS := zh (fun w => jQ x w hsm); have HPX := zh hpx; have hk1 : (k : Int) < (sy.length : Int) := by omega
      generalize hq : Sp.kE x = q at HPS; have hmay : Sp.yH (1 : Int) x = if q = false ∨ x.lit = true ∧ 5 ≤ (1 : Int) then false else if x.num ≠ 0 ∧ ((1 : Int) ≠ 1 ∨ x.lit = true ∨ x.num < 1 ∨ 50000 < x.num) then false else true := by rw [← hq]; rfl
      obtain ⟨nm, lt, nu, pb⟩ := x; generalize hQ : Sp.yH (1 : Int) ⟨nm, lt, nu, pb⟩ = Q at hmay; have HQ := zh hQ; have HM := zh hmay; clear hv hcc hc hpx hsm hq hmay hQ
      have hfin : ∀ w, Q = false → Below wr.heap.size wr w → Ending.returned (.bool false) = .returned (.bool (sy.all (Sp.yH (1 : Int)))) ∧ Below W.heap.size W w := fun w hq hw => ⟨by
       have h1 : sy.all (Sp.yH (1 : Int)) = false := by
        rw [List.all_eq_false]; exact ⟨_, List.mem_of_getElem? HPX.out, by rw [HQ.out, hq]; simp⟩
       rw [h1], HBL.out.trans (hw.mono hsz)⟩
      have HFIN := zh hfin; clear hfin; go_wp2_with fail; refine (HPS.out _).mono ?_; rintro e w' ⟨rfl, hb'⟩; have hsz' := hb'.size; simp only [World.size_alloc] at hsz'; have hX := (hb'.block W.heap.size (by simp; omega)).trans (kR HBX.out _); have hY := (hb'.block wr.heap.size (by simp)).trans (zE wr _); have x0 := zc 0 hX; have y1 := zc 1 hY; have y2 := zc 2 hY; have HX := zh hX; have HBB := zh (((Below.refl _ wr).alloc (Nat.le_refl _) _).trans (hb'.mono (by simp))); have hlb : W.heap.size < w'.heap.size := by omega
      have hlb2 : wr.heap.size < w'.heap.size := by omega
      clear hX hY hb'
      cases q with
      | false =>
       go_wp2_with fail; go_ret; exact HFIN.out _ (by rw [HM.out, if_pos (by simp)]) HBB.out
      | true =>
       by_cases h5 : lt = true ∧ 5 ≤ (1 : Int)
       ·exact absurd h5.2 (by decide)
       ·have hn1 : ¬ ((true : Bool) = false ∨ lt = true ∧ 5 ≤ (1 : Int)) := by rintro (h | h); exact absurd h (by decide); exact h5 h
        by_cases hno : nu ≠ 0 ∧ ((1 : Int) ≠ 1 ∨ lt = true ∨ nu < 1 ∨ 50000 < nu)
        ·have HF := zh (HFIN.out w' (by rw [HM.out, if_neg hn1, if_pos hno]) HBB.out)
         obtain ⟨hn0, hno⟩ := hno; have hnb : (nu == 0) = false := by simpa using hn0
         clear hn1; rcases hno with h | h | h | h
         ·exact absurd rfl h
         ·subst h
          go_wp2_with fail
          all_goals (go_ret; exact HF.out)
         ·go_wp2_with fail
          all_goals (go_ret; exact HF.out)
         ·go_wp2_with fail
          all_goals (go_ret; exact HF.out)
        ·have HT : Hid (Q = true) := zh (by rw [HM.out, if_neg hn1, if_neg hno])
         clear hn1
         have hrel : ∀ w2, Below wr.heap.size wr w2 → w2.heap[W.heap.size]? = some (.cells #[.int .i64 (1 : Int), .string ⟨((c :: u)).toArray⟩, .slice (some ⟨b, off, none⟩) sy.length cap, .int .i64 pa] 57 (0, 0)) →
           ∃ k' : Nat, k' ≤ sy.length ∧ Value.int .i64 ((k : Int) + 1) = .int .i64 k' ∧ Hid (∀ (j : Nat) (x : Sp.Sym), j < k' → sy[j]? = some x → Sp.yH (1 : Int) x = true) ∧ Hid (Below W.heap.size W w2) ∧ Hid (w2.heap[W.heap.size]? = some (.cells #[.int .i64 (1 : Int), .string ⟨((c :: u)).toArray⟩, .slice (some ⟨b, off, none⟩) sy.length cap, .int .i64 pa] 57 (0, 0))) := fun w2 hw hx =>
          ⟨k + 1, by omega, by go_num, zh (fun j x hj hx' => by
           rcases Nat.lt_succ_iff_lt_or_eq.1 hj with h | rfl
           ·exact HG.out j x h hx'
           ·rw [HPX.out] at hx'
            cases hx'
            rw [HQ.out, HT.out]), zh (HBL.out.trans (hw.mono hsz)), zh hx⟩
         have HREL := zh hrel; clear hrel; by_cases hnz : nu = 0
         ·subst hnz
          clear hno
          cases lt with
          | false =>
           go_wp2_with fail
           all_goals first
            | (go_roundw
               case rel => go_light; exact HREL.out _ HBB.out HX.out
               case measure => go_light; simp [intOf]; omega)
            | exact ⟨HREL.out _ HBB.out HX.out, by simp [intOf]; omega⟩
          | true =>
           have h5' : ¬ 5 ≤ (1 : Int) := fun h => h5 ⟨rfl, h⟩
           clear h5; go_wp2_with fail
           all_goals first
            | (go_roundw
               case rel => go_light; exact HREL.out _ HBB.out HX.out
               case measure => go_light; simp [intOf]; omega)
            | exact ⟨HREL.out _ HBB.out HX.out, by simp [intOf]; omega⟩
         ·have hk1' : (1 : Int) = 1 := Classical.byContradiction fun h => hno ⟨hnz, .inl h⟩
          obtain rfl : lt = false := by
           cases lt with
           | false => rfl
           | true => exact absurd ⟨hnz, .inr (.inl rfl)⟩ hno
          have hn1 : 1 ≤ nu := by
           rcases Int.lt_or_le nu 1 with h | h
           ·exact absurd ⟨hnz, .inr (.inr (.inl h))⟩ hno
           ·exact h
          have hn2 : nu ≤ 50000 := by
           rcases Int.lt_or_le 50000 nu with h | h
           ·exact absurd ⟨hnz, .inr (.inr (.inr h))⟩ hno
           ·exact h
          have hnb : (nu == 0) = false := by simpa using hnz
          clear hno h5 hk1'; go_wp2_with fail
          all_goals first
           | (go_roundw
              case rel => go_light; exact HREL.out _ HBB.out HX.out
              case measure => go_light; simp [intOf]; omega)
           | exact ⟨HREL.out _ HBB.out HX.out, by simp [intOf]; omega⟩
     ·obtain rfl : k = sy.length := by omega
      go_wp2_with fail; go_ret; refine ⟨zK ?_, HBL.out⟩; symm
      rw [List.all_eq_true]; intro x hx; obtain ⟨j, hj, hx⟩ := List.getElem_of_mem hx; exact HG.out j x hj (by rw [← hx]; exact List.getElem?_eq_getElem hj)
   ·skip
    have e : Sp.yF ⟨kd, (c :: u), sy, pa⟩ = sy.all (Sp.yH kd) := gG mh; rw [e]; clear e mh; have HSL := zh hsl; have HS3 := zh hs3; clear hsl hs3; go_enter Tryz.func60, Tryz.ntmps60
    go_wp2_with fail; refine (HN.out _).mono ?_; rintro e w1 ⟨rfl, rfl⟩; go_wp2_with fail; go_loopw [58] (fun iv wr => ∃ k : Nat, k ≤ sy.length ∧ iv = .int .i64 k ∧ Hid (∀ (j : Nat) (x : Sp.Sym), j < k → sy[j]? = some x → Sp.yH kd x = true) ∧ Hid (Below W.heap.size W wr) ∧ Hid (wr.heap[W.heap.size]? = some (.cells #[.int .i64 kd, .string ⟨((c :: u)).toArray⟩, .slice a sy.length cap, .int .i64 pa] 57 (0, 0)))) (fun iv _ => sy.length - (intOf iv).toNat)
    case atStart => exact ⟨0, Nat.zero_le _, rfl, zh (fun j x hj => absurd hj (Nat.not_lt_zero _)), zh (HB.out _), zh (zE W _)⟩
    case round =>
     obtain ⟨k, hk, rfl, HG, HBL, HBX⟩ := hrel; have hk0 : (0 : Int) ≤ (k : Int) := Int.natCast_nonneg _; have hsz := HBL.out.size; have hlx := zC HBX.out; by_cases hkn : k < sy.length
     ·have hpx : sy[k]? = some sy[k] := List.getElem?_eq_getElem hkn
      have hsm := HS3.out _ (List.mem_of_getElem? hpx); generalize sy[k] = x at hpx hsm; obtain ⟨b, off, cap', hv, hb, hc⟩ := HSL.out.some (by intro h; have := congrArg List.length h; simp at this; rw [this] at hkn; simp at hkn); obtain ⟨rfl, rfl⟩ : a = some ⟨b, off, none⟩ ∧ cap = cap' := by simpa using hv
      have hcc := fun j u (h : (symC x)[j]? = some u) => (HBL.out.cell (p := ⟨b, _, none⟩) hb).trans (hc k (symC x) (by simp [hpx]) j u h)
      have a0 := hcc 0 _ rfl; have a1 := hcc 1 _ rfl; have a2 := hcc 2 _ rfl; have a3 := hcc 3 _ rfl; simp only [Nat.add_zero] at a0; have HPS := zh (fun w => jQ x w hsm); have HPX := zh hpx; have hk1 : (k : Int) < (sy.length : Int) := by omega
      generalize hq : Sp.kE x = q at HPS; have hmay : Sp.yH kd x = if q = false ∨ x.lit = true ∧ 5 ≤ kd then false else if x.num ≠ 0 ∧ (kd ≠ 1 ∨ x.lit = true ∨ x.num < 1 ∨ 50000 < x.num) then false else true := by rw [← hq]; rfl
      obtain ⟨nm, lt, nu, pb⟩ := x; generalize hQ : Sp.yH kd ⟨nm, lt, nu, pb⟩ = Q at hmay; have HQ := zh hQ; have HM := zh hmay; clear hv hcc hc hpx hsm hq hmay hQ
      have hfin : ∀ w, Q = false → Below wr.heap.size wr w → Ending.returned (.bool false) = .returned (.bool (sy.all (Sp.yH kd))) ∧ Below W.heap.size W w := fun w hq hw => ⟨by
       have h1 : sy.all (Sp.yH kd) = false := by
        rw [List.all_eq_false]; exact ⟨_, List.mem_of_getElem? HPX.out, by rw [HQ.out, hq]; simp⟩
       rw [h1], HBL.out.trans (hw.mono hsz)⟩
      have HFIN := zh hfin; clear hfin; go_wp2_with fail; refine (HPS.out _).mono ?_; rintro e w' ⟨rfl, hb'⟩; have hsz' := hb'.size; simp only [World.size_alloc] at hsz'; have hX := (hb'.block W.heap.size (by simp; omega)).trans (kR HBX.out _); have hY := (hb'.block wr.heap.size (by simp)).trans (zE wr _); have x0 := zc 0 hX; have y1 := zc 1 hY; have y2 := zc 2 hY; have HX := zh hX; have HBB := zh (((Below.refl _ wr).alloc (Nat.le_refl _) _).trans (hb'.mono (by simp))); have hlb : W.heap.size < w'.heap.size := by omega
      have hlb2 : wr.heap.size < w'.heap.size := by omega
      clear hX hY hb'
      cases q with
      | false =>
       go_wp2_with fail; go_ret; exact HFIN.out _ (by rw [HM.out, if_pos (by simp)]) HBB.out
      | true =>
       by_cases h5 : lt = true ∧ 5 ≤ kd
       ·obtain ⟨rfl, h5⟩ := h5
        go_wp2_with fail; go_ret; exact HFIN.out _ (by rw [HM.out, if_pos (by first | exact .inr ⟨rfl, h5⟩ | exact .inr ⟨trivial, h5⟩ | simp)]) HBB.out
       ·have hn1 : ¬ ((true : Bool) = false ∨ lt = true ∧ 5 ≤ kd) := by rintro (h | h); exact absurd h (by decide); exact h5 h
        by_cases hno : nu ≠ 0 ∧ (kd ≠ 1 ∨ lt = true ∨ nu < 1 ∨ 50000 < nu)
        ·have HF := zh (HFIN.out w' (by rw [HM.out, if_neg hn1, if_pos hno]) HBB.out)
         obtain ⟨hn0, hno⟩ := hno; have hnb : (nu == 0) = false := by simpa using hn0
         clear hn1; rcases hno with h | h | h | h
         ·have h' : (kd == 1) = false := by rw [beq_eq_false_iff_ne]; exact h
          go_wp2_with fail
          all_goals (go_ret; exact HF.out)
         ·subst h
          go_wp2_with fail
          all_goals (go_ret; exact HF.out)
         ·go_wp2_with fail
          all_goals (go_ret; exact HF.out)
         ·go_wp2_with fail
          all_goals (go_ret; exact HF.out)
        ·have HT : Hid (Q = true) := zh (by rw [HM.out, if_neg hn1, if_neg hno])
         clear hn1
         have hrel : ∀ w2, Below wr.heap.size wr w2 → w2.heap[W.heap.size]? = some (.cells #[.int .i64 kd, .string ⟨((c :: u)).toArray⟩, .slice (some ⟨b, off, none⟩) sy.length cap, .int .i64 pa] 57 (0, 0)) →
           ∃ k' : Nat, k' ≤ sy.length ∧ Value.int .i64 ((k : Int) + 1) = .int .i64 k' ∧ Hid (∀ (j : Nat) (x : Sp.Sym), j < k' → sy[j]? = some x → Sp.yH kd x = true) ∧ Hid (Below W.heap.size W w2) ∧ Hid (w2.heap[W.heap.size]? = some (.cells #[.int .i64 kd, .string ⟨((c :: u)).toArray⟩, .slice (some ⟨b, off, none⟩) sy.length cap, .int .i64 pa] 57 (0, 0))) := fun w2 hw hx =>
          ⟨k + 1, by omega, by go_num, zh (fun j x hj hx' => by
           rcases Nat.lt_succ_iff_lt_or_eq.1 hj with h | rfl
           ·exact HG.out j x h hx'
           ·rw [HPX.out] at hx'
            cases hx'
            rw [HQ.out, HT.out]), zh (HBL.out.trans (hw.mono hsz)), zh hx⟩
         have HREL := zh hrel; clear hrel; by_cases hnz : nu = 0
         ·subst hnz
          clear hno
          cases lt with
          | false =>
           go_wp2_with fail
           all_goals first
            | (go_roundw
               case rel => go_light; exact HREL.out _ HBB.out HX.out
               case measure => go_light; simp [intOf]; omega)
            | exact ⟨HREL.out _ HBB.out HX.out, by simp [intOf]; omega⟩
          | true =>
           have h5' : ¬ 5 ≤ kd := fun h => h5 ⟨rfl, h⟩
           clear h5; go_wp2_with fail
           all_goals first
            | (go_roundw
               case rel => go_light; exact HREL.out _ HBB.out HX.out
               case measure => go_light; simp [intOf]; omega)
            | exact ⟨HREL.out _ HBB.out HX.out, by simp [intOf]; omega⟩
         ·have hk1' : kd = 1 := Classical.byContradiction fun h => hno ⟨hnz, .inl h⟩
          exact absurd hk1' hk1n
     ·obtain rfl : k = sy.length := by omega
      go_wp2_with fail; go_ret; refine ⟨zK ?_, HBL.out⟩; symm
      rw [List.all_eq_true]; intro x hx; obtain ⟨j, hj, hx⟩ := List.getElem_of_mem hx; exact HG.out j x hj (by rw [← hx]; exact List.getElem?_eq_getElem hj)
 ·have h5a : tg = [] := Classical.byContradiction fun h => h5 (.inl h)
  have h5b : (kd == 5) = false := by simpa using fun h => h5 (.inr h)
  subst h5a; have mh : declHead ⟨kd, [], sy, pa⟩ := ⟨h1', fun h => h6 h.1, fun h => h5 h.1.2⟩
  clear HN h5 h1'; by_cases hk1n : kd = 1
  ·subst hk1n
   clear h1 h2 h6 h6b h5b; have e : Sp.yF ⟨(1 : Int), [], sy, pa⟩ = sy.all (Sp.yH (1 : Int)) := gG mh; rw [e]; clear e mh; have HSL := zh hsl; have HS3 := zh hs3; clear hsl hs3; go_enter Tryz.func60, Tryz.ntmps60
   go_wp2_with fail; go_loopw [58] (fun iv wr => ∃ k : Nat, k ≤ sy.length ∧ iv = .int .i64 k ∧ Hid (∀ (j : Nat) (x : Sp.Sym), j < k → sy[j]? = some x → Sp.yH (1 : Int) x = true) ∧ Hid (Below W.heap.size W wr) ∧ Hid (wr.heap[W.heap.size]? = some (.cells #[.int .i64 (1 : Int), .string ⟨#[]⟩, .slice a sy.length cap, .int .i64 pa] 57 (0, 0)))) (fun iv _ => sy.length - (intOf iv).toNat)
   case atStart => exact ⟨0, Nat.zero_le _, rfl, zh (fun j x hj => absurd hj (Nat.not_lt_zero _)), zh (HB.out _), zh (zE W _)⟩
   case round =>
    obtain ⟨k, hk, rfl, HG, HBL, HBX⟩ := hrel; have hk0 : (0 : Int) ≤ (k : Int) := Int.natCast_nonneg _; have hsz := HBL.out.size; have hlx := zC HBX.out; by_cases hkn : k < sy.length
    ·have hpx : sy[k]? = some sy[k] := List.getElem?_eq_getElem hkn
     have hsm := HS3.out _ (List.mem_of_getElem? hpx); generalize sy[k] = x at hpx hsm; obtain ⟨b, off, cap', hv, hb, hc⟩ := HSL.out.some (by intro h; have := congrArg List.length h; simp at this; rw [this] at hkn; simp at hkn); obtain ⟨rfl, rfl⟩ : a = some ⟨b, off, none⟩ ∧ cap = cap' := by simpa using hv
     have hcc := fun j u (h : (symC x)[j]? = some u) => (HBL.out.cell (p := ⟨b, _, none⟩) hb).trans (hc k (symC x) (by simp [hpx]) j u h)
     have a0 := hcc 0 _ rfl; have a1 := hcc 1 _ rfl; have a2 := hcc 2 _ rfl; have a3 := hcc 3 _ rfl; simp only [Nat.add_zero] at a0; have HPS := zh (fun w => jQ x w hsm); have HPX := zh hpx; have hk1 : (k : Int) < (sy.length : Int) := by omega
     generalize hq : Sp.kE x = q at HPS; have hmay : Sp.yH (1 : Int) x = if q = false ∨ x.lit = true ∧ 5 ≤ (1 : Int) then false else if x.num ≠ 0 ∧ ((1 : Int) ≠ 1 ∨ x.lit = true ∨ x.num < 1 ∨ 50000 < x.num) then false else true := by rw [← hq]; rfl
     obtain ⟨nm, lt, nu, pb⟩ := x; generalize hQ : Sp.yH (1 : Int) ⟨nm, lt, nu, pb⟩ = Q at hmay; have HQ := zh hQ; have HM := zh hmay; clear hv hcc hc hpx hsm hq hmay hQ
     have hfin : ∀ w, Q = false → Below wr.heap.size wr w → Ending.returned (.bool false) = .returned (.bool (sy.all (Sp.yH (1 : Int)))) ∧ Below W.heap.size W w := fun w hq hw => ⟨by
      have h1 : sy.all (Sp.yH (1 : Int)) = false := by
       rw [List.all_eq_false]; exact ⟨_, List.mem_of_getElem? HPX.out, by rw [HQ.out, hq]; simp⟩
      rw [h1], HBL.out.trans (hw.mono hsz)⟩
     have HFIN := zh hfin; clear hfin; go_wp2_with fail; refine (HPS.out _).mono ?_; rintro e w' ⟨rfl, hb'⟩; have hsz' := hb'.size; simp only [World.size_alloc] at hsz'; have hX := (hb'.block W.heap.size (by simp; omega)).trans (kR HBX.out _); have hY := (hb'.block wr.heap.size (by simp)).trans (zE wr _); have x0 := zc 0 hX; have y1 := zc 1 hY; have y2 := zc 2 hY; have HX := zh hX; have HBB := zh (((Below.refl _ wr).alloc (Nat.le_refl _) _).trans (hb'.mono (by simp))); have hlb : W.heap.size < w'.heap.size := by omega
     have hlb2 : wr.heap.size < w'.heap.size := by omega
     clear hX hY hb'
     cases q with
     | false =>
      go_wp2_with fail; go_ret; exact HFIN.out _ (by rw [HM.out, if_pos (by simp)]) HBB.out
     | true =>
      by_cases h5 : lt = true ∧ 5 ≤ (1 : Int)
      ·exact absurd h5.2 (by decide)
      ·have hn1 : ¬ ((true : Bool) = false ∨ lt = true ∧ 5 ≤ (1 : Int)) := by rintro (h | h); exact absurd h (by decide); exact h5 h
       by_cases hno : nu ≠ 0 ∧ ((1 : Int) ≠ 1 ∨ lt = true ∨ nu < 1 ∨ 50000 < nu)
       ·have HF := zh (HFIN.out w' (by rw [HM.out, if_neg hn1, if_pos hno]) HBB.out)
        obtain ⟨hn0, hno⟩ := hno; have hnb : (nu == 0) = false := by simpa using hn0
        clear hn1; rcases hno with h | h | h | h
        ·exact absurd rfl h
        ·subst h
         go_wp2_with fail
         all_goals (go_ret; exact HF.out)
        ·go_wp2_with fail
         all_goals (go_ret; exact HF.out)
        ·go_wp2_with fail
         all_goals (go_ret; exact HF.out)
       ·have HT : Hid (Q = true) := zh (by rw [HM.out, if_neg hn1, if_neg hno])
        clear hn1
        have hrel : ∀ w2, Below wr.heap.size wr w2 → w2.heap[W.heap.size]? = some (.cells #[.int .i64 (1 : Int), .string ⟨#[]⟩, .slice (some ⟨b, off, none⟩) sy.length cap, .int .i64 pa] 57 (0, 0)) →
          ∃ k' : Nat, k' ≤ sy.length ∧ Value.int .i64 ((k : Int) + 1) = .int .i64 k' ∧ Hid (∀ (j : Nat) (x : Sp.Sym), j < k' → sy[j]? = some x → Sp.yH (1 : Int) x = true) ∧ Hid (Below W.heap.size W w2) ∧ Hid (w2.heap[W.heap.size]? = some (.cells #[.int .i64 (1 : Int), .string ⟨#[]⟩, .slice (some ⟨b, off, none⟩) sy.length cap, .int .i64 pa] 57 (0, 0))) := fun w2 hw hx =>
         ⟨k + 1, by omega, by go_num, zh (fun j x hj hx' => by
          rcases Nat.lt_succ_iff_lt_or_eq.1 hj with h | rfl
          ·exact HG.out j x h hx'
          ·rw [HPX.out] at hx'
           cases hx'
           rw [HQ.out, HT.out]), zh (HBL.out.trans (hw.mono hsz)), zh hx⟩
        have HREL := zh hrel; clear hrel; by_cases hnz : nu = 0
        ·subst hnz
         clear hno
         cases lt with
         | false =>
          go_wp2_with fail
          all_goals first
           | (go_roundw
              case rel => go_light; exact HREL.out _ HBB.out HX.out
              case measure => go_light; simp [intOf]; omega)
           | exact ⟨HREL.out _ HBB.out HX.out, by simp [intOf]; omega⟩
         | true =>
          have h5' : ¬ 5 ≤ (1 : Int) := fun h => h5 ⟨rfl, h⟩
          clear h5; go_wp2_with fail
          all_goals first
           | (go_roundw
              case rel => go_light; exact HREL.out _ HBB.out HX.out
              case measure => go_light; simp [intOf]; omega)
           | exact ⟨HREL.out _ HBB.out HX.out, by simp [intOf]; omega⟩
        ·have hk1' : (1 : Int) = 1 := Classical.byContradiction fun h => hno ⟨hnz, .inl h⟩
         obtain rfl : lt = false := by
          cases lt with
          | false => rfl
          | true => exact absurd ⟨hnz, .inr (.inl rfl)⟩ hno
         have hn1 : 1 ≤ nu := by
          rcases Int.lt_or_le nu 1 with h | h
          ·exact absurd ⟨hnz, .inr (.inr (.inl h))⟩ hno
          ·exact h
         have hn2 : nu ≤ 50000 := by
          rcases Int.lt_or_le 50000 nu with h | h
          ·exact absurd ⟨hnz, .inr (.inr (.inr h))⟩ hno
          ·exact h
         have hnb : (nu == 0) = false := by simpa using hnz
         clear hno h5 hk1'; go_wp2_with fail
         all_goals first
          | (go_roundw
             case rel => go_light; exact HREL.out _ HBB.out HX.out
             case measure => go_light; simp [intOf]; omega)
          | exact ⟨HREL.out _ HBB.out HX.out, by simp [intOf]; omega⟩
    ·obtain rfl : k = sy.length := by omega
     go_wp2_with fail; go_ret; refine ⟨zK ?_, HBL.out⟩; symm
     rw [List.all_eq_true]; intro x hx; obtain ⟨j, hj, hx⟩ := List.getElem_of_mem hx; exact HG.out j x hj (by rw [← hx]; exact List.getElem?_eq_getElem hj)
  ·skip
   have e : Sp.yF ⟨kd, [], sy, pa⟩ = sy.all (Sp.yH kd) := gG mh; rw [e]; clear e mh; have HSL := zh hsl; have HS3 := zh hs3; clear hsl hs3; go_enter Tryz.func60, Tryz.ntmps60
   go_wp2_with fail; go_loopw [58] (fun iv wr => ∃ k : Nat, k ≤ sy.length ∧ iv = .int .i64 k ∧ Hid (∀ (j : Nat) (x : Sp.Sym), j < k → sy[j]? = some x → Sp.yH kd x = true) ∧ Hid (Below W.heap.size W wr) ∧ Hid (wr.heap[W.heap.size]? = some (.cells #[.int .i64 kd, .string ⟨#[]⟩, .slice a sy.length cap, .int .i64 pa] 57 (0, 0)))) (fun iv _ => sy.length - (intOf iv).toNat)
   case atStart => exact ⟨0, Nat.zero_le _, rfl, zh (fun j x hj => absurd hj (Nat.not_lt_zero _)), zh (HB.out _), zh (zE W _)⟩
   case round =>
    obtain ⟨k, hk, rfl, HG, HBL, HBX⟩ := hrel; have hk0 : (0 : Int) ≤ (k : Int) := Int.natCast_nonneg _; have hsz := HBL.out.size; have hlx := zC HBX.out; by_cases hkn : k < sy.length
    ·have hpx : sy[k]? = some sy[k] := List.getElem?_eq_getElem hkn
     have hsm := HS3.out _ (List.mem_of_getElem? hpx); generalize sy[k] = x at hpx hsm; obtain ⟨b, off, cap', hv, hb, hc⟩ := HSL.out.some (by intro h; have := congrArg List.length h; simp at this; rw [this] at hkn; simp at hkn); obtain ⟨rfl, rfl⟩ : a = some ⟨b, off, none⟩ ∧ cap = cap' := by simpa using hv
     have hcc := fun j u (h : (symC x)[j]? = some u) => (HBL.out.cell (p := ⟨b, _, none⟩) hb).trans (hc k (symC x) (by simp [hpx]) j u h)
     have a0 := hcc 0 _ rfl; have a1 := hcc 1 _ rfl; have a2 := hcc 2 _ rfl; have a3 := hcc 3 _ rfl; simp only [Nat.add_zero] at a0; have HPS := zh (fun w => jQ x w hsm); have HPX := zh hpx; have hk1 : (k : Int) < (sy.length : Int) := by omega
     generalize hq : Sp.kE x = q at HPS; have hmay : Sp.yH kd x = if q = false ∨ x.lit = true ∧ 5 ≤ kd then false else if x.num ≠ 0 ∧ (kd ≠ 1 ∨ x.lit = true ∨ x.num < 1 ∨ 50000 < x.num) then false else true := by rw [← hq]; rfl
     obtain ⟨nm, lt, nu, pb⟩ := x; generalize hQ : Sp.yH kd ⟨nm, lt, nu, pb⟩ = Q at hmay; have HQ := zh hQ; have HM := zh hmay; clear hv hcc hc hpx hsm hq hmay hQ
     have hfin : ∀ w, Q = false → Below wr.heap.size wr w → Ending.returned (.bool false) = .returned (.bool (sy.all (Sp.yH kd))) ∧ Below W.heap.size W w := fun w hq hw => ⟨by
      have h1 : sy.all (Sp.yH kd) = false := by
       rw [List.all_eq_false]; exact ⟨_, List.mem_of_getElem? HPX.out, by rw [HQ.out, hq]; simp⟩
      rw [h1], HBL.out.trans (hw.mono hsz)⟩
     have HFIN := zh hfin; clear hfin; go_wp2_with fail; refine (HPS.out _).mono ?_; rintro e w' ⟨rfl, hb'⟩; have hsz' := hb'.size; simp only [World.size_alloc] at hsz'; have hX := (hb'.block W.heap.size (by simp; omega)).trans (kR HBX.out _); have hY := (hb'.block wr.heap.size (by simp)).trans (zE wr _); have x0 := zc 0 hX; have y1 := zc 1 hY; have y2 := zc 2 hY; have HX := zh hX; have HBB := zh (((Below.refl _ wr).alloc (Nat.le_refl _) _).trans (hb'.mono (by simp))); have hlb : W.heap.size < w'.heap.size := by omega
     have hlb2 : wr.heap.size < w'.heap.size := by omega
     clear hX hY hb'
     cases q with
     | false =>
      go_wp2_with fail; go_ret; exact HFIN.out _ (by rw [HM.out, if_pos (by simp)]) HBB.out
     | true =>
      by_cases h5 : lt = true ∧ 5 ≤ kd
      ·obtain ⟨rfl, h5⟩ := h5
       go_wp2_with fail; go_ret; exact HFIN.out _ (by rw [HM.out, if_pos (by first | exact .inr ⟨rfl, h5⟩ | exact .inr ⟨trivial, h5⟩ | simp)]) HBB.out
      ·have hn1 : ¬ ((true : Bool) = false ∨ lt = true ∧ 5 ≤ kd) := by rintro (h | h); exact absurd h (by decide); exact h5 h
       by_cases hno : nu ≠ 0 ∧ (kd ≠ 1 ∨ lt = true ∨ nu < 1 ∨ 50000 < nu)
       ·have HF := zh (HFIN.out w' (by rw [HM.out, if_neg hn1, if_pos hno]) HBB.out)
        obtain ⟨hn0, hno⟩ := hno; have hnb : (nu == 0) = false := by simpa using hn0
        clear hn1; rcases hno with h | h | h | h
        ·have h' : (kd == 1) = false := by rw [beq_eq_false_iff_ne]; exact h
         go_wp2_with fail
         all_goals (go_ret; exact HF.out)
        ·subst h
         go_wp2_with fail
         all_goals (go_ret; exact HF.out)
        ·go_wp2_with fail
         all_goals (go_ret; exact HF.out)
        ·go_wp2_with fail
         all_goals (go_ret; exact HF.out)
       ·have HT : Hid (Q = true) := zh (by rw [HM.out, if_neg hn1, if_neg hno])
        clear hn1
        have hrel : ∀ w2, Below wr.heap.size wr w2 → w2.heap[W.heap.size]? = some (.cells #[.int .i64 kd, .string ⟨#[]⟩, .slice (some ⟨b, off, none⟩) sy.length cap, .int .i64 pa] 57 (0, 0)) →
          ∃ k' : Nat, k' ≤ sy.length ∧ Value.int .i64 ((k : Int) + 1) = .int .i64 k' ∧ Hid (∀ (j : Nat) (x : Sp.Sym), j < k' → sy[j]? = some x → Sp.yH kd x = true) ∧ Hid (Below W.heap.size W w2) ∧ Hid (w2.heap[W.heap.size]? = some (.cells #[.int .i64 kd, .string ⟨#[]⟩, .slice (some ⟨b, off, none⟩) sy.length cap, .int .i64 pa] 57 (0, 0))) := fun w2 hw hx =>
         ⟨k + 1, by omega, by go_num, zh (fun j x hj hx' => by
          rcases Nat.lt_succ_iff_lt_or_eq.1 hj with h | rfl
          ·exact HG.out j x h hx'
          ·rw [HPX.out] at hx'
           cases hx'
           rw [HQ.out, HT.out]), zh (HBL.out.trans (hw.mono hsz)), zh hx⟩
        have HREL := zh hrel; clear hrel; by_cases hnz : nu = 0
        ·subst hnz
         clear hno
         cases lt with
         | false =>
          go_wp2_with fail
          all_goals first
           | (go_roundw
              case rel => go_light; exact HREL.out _ HBB.out HX.out
              case measure => go_light; simp [intOf]; omega)
           | exact ⟨HREL.out _ HBB.out HX.out, by simp [intOf]; omega⟩
         | true =>
          have h5' : ¬ 5 ≤ kd := fun h => h5 ⟨rfl, h⟩
          clear h5; go_wp2_with fail
          all_goals first
           | (go_roundw
              case rel => go_light; exact HREL.out _ HBB.out HX.out
              case measure => go_light; simp [intOf]; omega)
           | exact ⟨HREL.out _ HBB.out HX.out, by simp [intOf]; omega⟩
        ·have hk1' : kd = 1 := Classical.byContradiction fun h => hno ⟨hnz, .inl h⟩
         exact absurd hk1' hk1n
    ·obtain rfl : k = sy.length := by omega
     go_wp2_with fail; go_ret; refine ⟨zK ?_, HBL.out⟩; symm
     rw [List.all_eq_true]; intro x hx; obtain ⟨j, hj, hx⟩ := List.getElem_of_mem hx; exact HG.out j x hj (by rw [← hx]; exact List.getElem?_eq_getElem hj)
end Go.Proofs.YtddnomjfcbplpaaGreatDoor
