/- Layer 8: the walk of print.ruled. -/
import Derived.Test.YthmimcegiihcnaaDoorDg
import Derived.Test.YthmimcegiihcnaaDoorDd
import Derived.Deep.RegionHeld3
import Derived.Deep.AppendLies
namespace Go.Proofs.YthmimcegiihcnaaDoor
open Go.RowKit

theorem altsWords_snoc (a : Sp.Alt) : ∀ (l : List Sp.Alt) (k : Nat), Sp.altsWords k (l ++ [a]) = Sp.altsWords k l ++ ((if k + l.length = 0 then [58] else [124]) :: Sp.altWords a)
  | [], k => by simp [Sp.altsWords]
  | b :: l, k => by
    have ih := altsWords_snoc a l (k + 1)
    show ((if k = 0 then [58] else [124]) :: Sp.altWords b) ++ Sp.altsWords (k + 1) (l ++ [a]) = (((if k = 0 then [58] else [124]) :: Sp.altWords b) ++ Sp.altsWords (k + 1) l) ++ _
    have h1 : ¬ k + 1 + l.length = 0 := by omega
    have h2 : ¬ k + (b :: l).length = 0 := by simp only [List.length_cons]; omega
    rw [ih, if_neg h1, if_neg h2, List.append_assoc]
def okPart (p : Sp.Part) : Prop := p.code.length ≤ 4000 ∧ (p.code = [] → okSym p.sym)
def okAlt (a : Sp.Alt) : Prop := a.parts.length ≤ 4000 ∧ (∀ p ∈ a.parts, okPart p) ∧ (Sp.isNone a.prec = false → okSym a.prec)
def okRule (r : Sp.Rule) : Prop := r.left.length ≤ 4000 ∧ r.alts.length ≤ 4000 ∧ ∀ a ∈ r.alts, okAlt a
theorem partWords_len (p : Sp.Part) : (Sp.partWords p).length ≤ 2 := by
  unfold Sp.partWords
  split
  · exact symWords_len _
  · simp
theorem flatParts_len : ∀ l : List Sp.Part, (l.flatMap Sp.partWords).length ≤ 2 * l.length
  | [] => by simp
  | s :: l => by
    have := flatParts_len l
    have := partWords_len s
    simp only [List.flatMap_cons, List.length_append, List.length_cons]
    omega
theorem altsWords_len : ∀ (l : List Sp.Alt) (k : Nat), (∀ a ∈ l, okAlt a) → (Sp.altsWords k l).length ≤ 8004 * l.length
  | [], _, _ => by simp [Sp.altsWords]
  | a :: l, k, h => by
    have ih := altsWords_len l (k + 1) (fun x hx => h x (by simp [hx]))
    obtain ⟨h1, _, h2⟩ := h a (by simp)
    have h3 := flatParts_len a.parts
    have h5 := symWords_len a.prec
    have h4 : (Sp.altWords a).length ≤ (a.parts.flatMap Sp.partWords).length + 3 := by
      unfold Sp.altWords
      rw [List.length_append]
      split
      · simp
      · simp only [List.length_cons]; omega
    show ((_ :: Sp.altWords a) ++ _).length ≤ _
    simp only [List.length_append, List.length_cons]
    omega

set_option maxRecDepth 100000 in
set_option maxHeartbeats 6400000 in
theorem print_ruled (r : Sp.Rule) (v : Value) (W : World) (hsl : AltsAt W v r.alts) (hs : okRule r) (hg : Gl W) :
    Calls Tryd.prog 50 #[.agg (ruleC v r).toArray] W (StrsPost (Sp.ruleWords r) W) := by
  obtain ⟨lf, al, pa⟩ := r
  obtain ⟨hs1, hs2, hs3⟩ := hs
  simp only at hs1 hs2 hs3 hsl
  obtain ⟨i0, hi0, hz0, hz1, hz2⟩ := info_parts info_str
  obtain ⟨a, cap, rfl⟩ := hsl.form
  show Calls _ _ #[.agg #[.string ⟨lf.toArray⟩, .slice a al.length cap, .int .i64 pa]] _ _
  have hrw : Sp.ruleWords ⟨lf, al, pa⟩ = (lf :: Sp.altsWords 0 al) ++ [[59]] := rfl
  rw [hrw]
  obtain ⟨f, hf1, hf2⟩ := hsl
  have HSL := Lib.hid hf1
  have HF2 := Lib.hid hf2
  have HS3 := Lib.hid hs3
  have HB := Lib.hid (fun o : Obj => (Below.refl _ W).alloc (Nat.le_refl _) o)
  have hown : ((W.alloc (.cells #[.string ⟨lf.toArray⟩, .slice a al.length cap, .int .i64 pa] 52)).alloc (.cells #[.string ⟨lf.toArray⟩] 9)).ownsRow W.heap.size 9 1 (.slice (some ⟨W.heap.size + 1, 0, none⟩) 1 1) 1 [.string ⟨lf.toArray⟩] := by
    have h := World.ownsRow_lit (base := W.heap.size) (e := 9) (size := 1) (W.alloc (.cells #[.string ⟨lf.toArray⟩, .slice a al.length cap, .int .i64 pa] 52)) #[.string ⟨lf.toArray⟩] 1 (by simp) (by decide) rfl
    simp only [World.size_alloc] at h
    exact h
  have HOWN := Lib.hid hown
  clear hf1 hf2 hs3 hrw hown hs1
  go_enter Tryd.func50, Tryd.ntmps50
  go_wp2_with fail
  go_loopw [3, 14] (fun lv iv wr => ∃ k : Nat, k ≤ al.length ∧ iv = .int .i64 k ∧ Hid (wr.ownsRow W.heap.size 9 1 lv (lf :: Sp.altsWords 0 (al.take k)).length (strsC (lf :: Sp.altsWords 0 (al.take k)))) ∧ Hid (Below W.heap.size W wr)) (fun _ iv _ => al.length - (intOf iv).toNat)
  case atStart => exact ⟨0, Nat.zero_le _, rfl, HOWN, Lib.hid ((HB.out _).alloc (by simp) _)⟩
  case round =>
    obtain ⟨k, hk, rfl, HO, HBL⟩ := hrel
    obtain ⟨wo, hwo⟩ : ∃ wo, wo = wr := ⟨_, rfl⟩
    subst hwo
    have hk0 : (0 : Int) ≤ (k : Int) := Int.natCast_nonneg _
    have hsz := HBL.out.size
    have hlw := altsWords_len (al.take k) 0 (fun x hx => HS3.out x (List.mem_of_mem_take hx))
    have hlw2 : (al.take k).length ≤ 4000 := by rw [List.length_take]; omega
    have HO1 := HO.out
    have hnl : (lf :: Sp.altsWords 0 (al.take k)).length ≤ 32016001 := by simp only [List.length_cons]; omega
    generalize hLL : (lf :: Sp.altsWords 0 (al.take k)) = L at HO1 hnl
    have HLL := Lib.hid hLL
    have HOL := Lib.hid HO1
    obtain ⟨av, cpv, rfl⟩ := ownsRowS_some HOL.out
    clear HO1 hLL HO hlw hlw2
    by_cases hkn : k < al.length
    · have hpx : al[k]? = some al[k] := List.getElem?_eq_getElem hkn
      have hok := HS3.out _ (List.mem_of_getElem? hpx)
      generalize al[k] = x at hpx hok
      obtain ⟨b, off, cap', hv, hb, hc⟩ := HSL.out.some (by intro h; have := congrArg List.length h; simp at this; rw [this] at hkn; simp at hkn)
      rw [List.length_mapIdx] at hv
      obtain ⟨rfl, rfl⟩ : a = some ⟨b, off, none⟩ ∧ cap = cap' := by simpa using hv
      have hcc := fun j u (h : (altC (f k) x)[j]? = some u) => (HBL.out.cell (p := ⟨b, _, none⟩) hb).trans (hc k (altC (f k) x) (by simp [hpx]) j u h)
      have hps := HF2.out k x hpx
      obtain ⟨ap, cp, hfk⟩ := hps.form
      rw [hfk] at hcc hps
      rw [List.length_map] at *
      have a0 := hcc 0 _ rfl
      have a1 := hcc 1 _ rfl
      have a2 := hcc 2 _ rfl
      have a3 := hcc 3 _ rfl
      have a4 := hcc 4 _ rfl
      have a5 := hcc 5 _ rfl
      simp only [Nat.add_zero] at a0
      have HPS := Lib.hid hps
      have HPX := Lib.hid hpx
      have HOK := Lib.hid hok
      have hk1 : (k : Int) < (al.length : Int) := by omega
      obtain ⟨ps, ⟨nm, lt, nu, pb⟩, pc⟩ := x
      obtain ⟨hp1, hp2, hp3⟩ := hok
      simp only at a0 a1 a2 a3 a4 a5 hp1 hp2
      have HP2 := Lib.hid hp2
      clear hv hcc hc hpx hps hfk hp2 hp3
      have hsp : ((⟨#[58, 124]⟩ : ByteArray).extract (min (k : Int) 1).toNat (min (k : Int) 1 + 1).toNat) = ⟨(if k = 0 then ([58] : List UInt8) else [124]).toArray⟩ := by
        by_cases h : k = 0
        · subst h; rfl
        · rw [if_neg h, show min (k : Int) 1 = 1 by omega]; rfl
      have HSP := Lib.hid hsp
      have hown2 : ((wo.alloc (.cells #[.slice ap ps.length cp, .string ⟨nm.toArray⟩, .bool lt, .int .i64 nu, .int .i64 pb, .int .i64 pc] 49)).alloc (.cells #[.string ((⟨#[58, 124]⟩ : ByteArray).extract (min (k : Int) 1).toNat (min (k : Int) 1 + 1).toNat)] 9)).ownsRow W.heap.size 9 1 (.slice av L.length cpv) L.length (strsC L) := (HOL.out.alloc _).alloc _
      have hnews2 : ∀ jj uu, [Value.string ((⟨#[58, 124]⟩ : ByteArray).extract (min (k : Int) 1).toNat (min (k : Int) 1 + 1).toNat)][jj]? = some uu → ((wo.alloc (.cells #[.slice ap ps.length cp, .string ⟨nm.toArray⟩, .bool lt, .int .i64 nu, .int .i64 pb, .int .i64 pc] 49)).alloc (.cells #[.string ((⟨#[58, 124]⟩ : ByteArray).extract (min (k : Int) 1).toNat (min (k : Int) 1 + 1).toNat)] 9)).cell? ((⟨wo.heap.size + 1, 0, none⟩ : Addr).add jj) = some uu := by
        have h := new_cells (wo.alloc (.cells #[.slice ap ps.length cp, .string ⟨nm.toArray⟩, .bool lt, .int .i64 nu, .int .i64 pb, .int .i64 pc] 49)) [Value.string ((⟨#[58, 124]⟩ : ByteArray).extract (min (k : Int) 1).toNat (min (k : Int) 1 + 1).toNat)] 9
        simp only [World.size_alloc] at h
        exact h
      have hlt2 : wo.heap.size < ((wo.alloc (.cells #[.slice ap ps.length cp, .string ⟨nm.toArray⟩, .bool lt, .int .i64 nu, .int .i64 pb, .int .i64 pc] 49)).alloc (.cells #[.string ((⟨#[58, 124]⟩ : ByteArray).extract (min (k : Int) 1).toNat (min (k : Int) 1 + 1).toNat)] 9)).heap.size := by simp; omega
      have hne2 : some wo.heap.size ≠ (Value.slice av L.length cpv).ownBlock := fun h => by have := (HOL.out.lt _ h.symm).2; omega
      have hbl2 : Below W.heap.size W ((wo.alloc (.cells #[.slice ap ps.length cp, .string ⟨nm.toArray⟩, .bool lt, .int .i64 nu, .int .i64 pb, .int .i64 pc] 49)).alloc (.cells #[.string ((⟨#[58, 124]⟩ : ByteArray).extract (min (k : Int) 1).toNat (min (k : Int) 1 + 1).toNat)] 9)) := (HBL.out.alloc hsz _).alloc (by simp; omega) _
      have HOWN2 := Lib.hid hown2; have HNEWS2 := Lib.hid hnews2; have HBL2 := Lib.hid hbl2
      clear hsp hown2 hnews2 hbl2
      go_wp2_with (at_builtin; refine wpList_append_own _ rfl _ _ 88 rfl W.heap.size 9 i0 _ 1 16 Tryd.underlying88 hi0 hz0 hz1 hz2 rfl (by decide) _ _ _ rfl HOWN2.out ⟨wo.heap.size + 1, 0, none⟩ 1 1 [.string ((⟨#[58, 124]⟩ : ByteArray).extract (min (k : Int) 1).toNat (min (k : Int) 1 + 1).toNat)] rfl rfl HNEWS2.out (by simp [Value.oneCell']) (by unfold maxLen; omega) (by omega) (by simp; omega) ?_; intro v3 w3 ho3 hg3 _; have hF3 := (hg3.block wo.heap.size hlt2 hne2).trans (heap_oldG (heap_last wo _) _); have e0 := cell_at (i := 0) hF3; have hl3 := lt_at hF3; have HF3 := Lib.hid hF3; have HO3 := Lib.hid ho3; have HG3 := Lib.hid hg3; clear ho3 hg3 hF3)
      have HB3 := Lib.hid (HBL2.out.grown HG3.out (by simp; omega) (fun g hg => (HOWN2.out.lt g hg).1))
      go_loopw [3, 31] (fun lv iv wr2 => ∃ i : Nat, i ≤ ps.length ∧ iv = .int .i64 i ∧ Hid (wr2.ownsRow W.heap.size 9 1 lv (L ++ (if k = 0 then ([58] : List UInt8) else [124]) :: (ps.take i).flatMap Sp.partWords).length (strsC (L ++ (if k = 0 then ([58] : List UInt8) else [124]) :: (ps.take i).flatMap Sp.partWords))) ∧ Hid (Below W.heap.size W wr2) ∧ Hid (wr2.heap[wo.heap.size]? = some (.cells #[.slice ap ps.length cp, .string ⟨nm.toArray⟩, .bool lt, .int .i64 nu, .int .i64 pb, .int .i64 pc] 49 (0, 0)))) (fun _ iv _ => ps.length - (intOf iv).toNat)
      case atStart =>
        refine ⟨0, Nat.zero_le _, rfl, Lib.hid ?_, HB3, HF3⟩
        have h := HO3.out
        rw [HSP.out] at h
        rw [List.length_append, strsC_app]
        exact h
      case round =>
        obtain ⟨i, hi, rfl, HOI, HBI, HFI⟩ := hrel
        have hi00 : (0 : Int) ≤ (i : Int) := Int.natCast_nonneg _
        have hszi := HBI.out.size
        have hlfi := lt_at HFI.out
        have hOI := HOI.out
        have hnl2 : (L ++ (if k = 0 then ([58] : List UInt8) else [124]) :: (ps.take i).flatMap Sp.partWords).length ≤ 32026002 := by
          have h1 := flatParts_len (ps.take i)
          have h2 : (ps.take i).length ≤ 4000 := by rw [List.length_take]; omega
          rw [List.length_append, List.length_cons]; omega
        generalize hM : (L ++ (if k = 0 then ([58] : List UInt8) else [124]) :: (ps.take i).flatMap Sp.partWords) = M at hOI hnl2
        have HM := Lib.hid hM
        have HOM := Lib.hid hOI
        obtain ⟨bv, cpm, rfl⟩ := ownsRowS_some HOM.out
        clear hOI hM HOI
        by_cases hin : i < ps.length
        · have hpx2 : ps[i]? = some ps[i] := List.getElem?_eq_getElem hin
          have hok2 := HP2.out _ (List.mem_of_getElem? hpx2)
          generalize ps[i] = y at hpx2 hok2
          obtain ⟨b2, off2, cap2', hv2, hb2, hc2⟩ := HPS.out.some (by intro h; have := congrArg List.length h; simp at this; rw [this] at hin; simp at hin)
          rw [List.length_map] at hv2
          obtain ⟨rfl, rfl⟩ : ap = some ⟨b2, off2, none⟩ ∧ cp = cap2' := by simpa using hv2
          have hcc2 := fun j u (h : (partC y)[j]? = some u) => (HBI.out.cell (p := ⟨b2, _, none⟩) hb2).trans (hc2 i (partC y) (by simp [hpx2]) j u h)
          have d0 := hcc2 0 _ rfl
          have d1 := hcc2 1 _ rfl
          have d2 := hcc2 2 _ rfl
          have d3 := hcc2 3 _ rfl
          have d4 := hcc2 4 _ rfl
          have d5 := hcc2 5 _ rfl
          simp only [Nat.add_zero] at d0
          have hgi := hg.below HBI.out
          have HPX2 := Lib.hid hpx2
          have HOK2 := Lib.hid hok2
          have hii1 : (i : Int) < (ps.length : Int) := by omega
          obtain ⟨⟨nm2, lt2, nu2, pd⟩, cd, pe⟩ := y
          simp only at d0 d1 d2 d3 d4 d5
          have HGI := Lib.hid (fun o : Obj => hgi.alloc o)
          have hne3 : some wo.heap.size ≠ (Value.slice bv M.length cpm).ownBlock := fun h => ownsRow_ne HOM.out HFI.out (by decide) _ h.symm rfl
          clear hv2 hcc2 hc2 hpx2 hok2 hgi
          have hfin : ∀ (wx : List (List UInt8)) v6 w6, Sp.partWords ⟨⟨nm2, lt2, nu2, pd⟩, cd, pe⟩ = wx → w6.ownsRow W.heap.size 9 1 v6 (M.length + wx.length) (strsC M ++ strsC wx) → Below W.heap.size W w6 → w6.heap[wo.heap.size]? = some (.cells #[.slice (some ⟨b2, off2, none⟩) ps.length cp, .string ⟨nm.toArray⟩, .bool lt, .int .i64 nu, .int .i64 pb, .int .i64 pc] 49 (0, 0)) →
              ∃ i_1 : Nat, i_1 ≤ ps.length ∧ Value.int .i64 ((i : Int) + 1) = .int .i64 i_1 ∧ Hid (w6.ownsRow W.heap.size 9 1 v6 (L ++ (if k = 0 then ([58] : List UInt8) else [124]) :: (ps.take i_1).flatMap Sp.partWords).length (strsC (L ++ (if k = 0 then ([58] : List UInt8) else [124]) :: (ps.take i_1).flatMap Sp.partWords))) ∧ Hid (Below W.heap.size W w6) ∧ Hid (w6.heap[wo.heap.size]? = some (.cells #[.slice (some ⟨b2, off2, none⟩) ps.length cp, .string ⟨nm.toArray⟩, .bool lt, .int .i64 nu, .int .i64 pb, .int .i64 pc] 49 (0, 0))) := fun wx v6 w6 hwx ho hb hF =>
            ⟨i + 1, by omega, by go_num, Lib.hid (by
              have e : L ++ (if k = 0 then ([58] : List UInt8) else [124]) :: (ps.take (i + 1)).flatMap Sp.partWords = M ++ wx := by
                rw [List.take_add_one, HPX2.out, ← HM.out, ← hwx]
                simp [List.flatMap_append]
              rw [e, List.length_append, strsC_app]
              exact ho), Lib.hid hb, Lib.hid hF⟩
          have HFIN := Lib.hid hfin
          clear hfin
          by_cases hcd : cd = []
          · subst hcd
            have HPW := Lib.hid (fun w hw => print_word ⟨nm2, lt2, nu2, pd⟩ w (HOK2.out.2 rfl) hw)
            have hwl := symWords_len ⟨nm2, lt2, nu2, pd⟩
            have hpw : Sp.partWords ⟨⟨nm2, lt2, nu2, pd⟩, [], pe⟩ = Sp.symWords ⟨nm2, lt2, nu2, pd⟩ := rfl
            generalize Sp.symWords ⟨nm2, lt2, nu2, pd⟩ = wx at HPW hwl hpw
            have HPWX := Lib.hid hpw
            clear hpw
            go_wp2_with fail
            refine (HPW.out _ (HGI.out _)).mono ?_
            rintro e w5 ⟨g, rfl, hgg, hg1, hb5⟩
            have HO5 := Lib.hid (ownsRow_below (HOM.out.alloc _) hb5)
            have HB5 := Lib.hid (((Below.refl _ wr).alloc (Nat.le_refl _) _).trans (hb5.mono (by simp)))
            have hF5 := (hb5.block wo.heap.size (by simp; omega)).trans (heap_oldG HFI.out _)
            have HF5 := Lib.hid hF5
            have HNW := Lib.hid (news_at hgg)
            have hs5 := HB5.out.size
            have hl5 : wo.heap.size < w5.heap.size := by omega
            clear hgg hg1 hb5 hF5
            go_wp2_with (at_builtin; refine wpList_append_own _ rfl _ _ 88 rfl W.heap.size 9 i0 _ 1 16 Tryd.underlying88 hi0 hz0 hz1 hz2 rfl (by decide) _ _ _ rfl HO5.out ⟨g, 0, none⟩ wx.length wx.length (strsC wx) rfl (by rw [strsC_len]; omega) HNW.out (strsC_one wx) (by unfold maxLen; omega) (by omega) (by omega) ?_; intro v6 w6 ho6 hg6 _; have hF6 := (hg6.block wo.heap.size hl5 hne3).trans HF5.out; have HF6 := Lib.hid hF6; have HO6 := Lib.hid ho6; have HG6 := Lib.hid hg6; clear ho6 hg6 hF6)
            exact ⟨HFIN.out wx v6 w6 HPWX.out HO6.out ((HBI.out.trans (HB5.out.mono hszi)).grown HG6.out (by omega) (fun g hg => (HO5.out.lt g hg).1)) HF6.out, by simp [intOf]; omega⟩
          · obtain ⟨c, u, rfl⟩ : ∃ c u, cd = c :: u := by cases cd with | nil => exact absurd rfl hcd | cons c u => exact ⟨c, u, rfl⟩
            have hnec : (c :: u).isEmpty = false := rfl
            have HPWX : Hid (Sp.partWords ⟨⟨nm2, lt2, nu2, pd⟩, c :: u, pe⟩ = [c :: u]) := Lib.hid (by unfold Sp.partWords; rw [if_neg hcd])
            have hnews6 : ∀ jj uu, (strsC [c :: u])[jj]? = some uu → ((wr.alloc (.cells #[.string ⟨nm2.toArray⟩, .bool lt2, .int .i64 nu2, .int .i64 pd, .string ⟨(c :: u).toArray⟩, .int .i64 pe] 46)).alloc (.cells #[.string ⟨(c :: u).toArray⟩] 9)).cell? ((⟨wr.heap.size + 1, 0, none⟩ : Addr).add jj) = some uu := by
              have h := new_cells (wr.alloc (.cells #[.string ⟨nm2.toArray⟩, .bool lt2, .int .i64 nu2, .int .i64 pd, .string ⟨(c :: u).toArray⟩, .int .i64 pe] 46)) [Value.string ⟨(c :: u).toArray⟩] 9
              simp only [World.size_alloc] at h
              exact h
            have hown6 : ((wr.alloc (.cells #[.string ⟨nm2.toArray⟩, .bool lt2, .int .i64 nu2, .int .i64 pd, .string ⟨(c :: u).toArray⟩, .int .i64 pe] 46)).alloc (.cells #[.string ⟨(c :: u).toArray⟩] 9)).ownsRow W.heap.size 9 1 (.slice bv M.length cpm) M.length (strsC M) := (HOM.out.alloc _).alloc _
            have hl6 : wo.heap.size < ((wr.alloc (.cells #[.string ⟨nm2.toArray⟩, .bool lt2, .int .i64 nu2, .int .i64 pd, .string ⟨(c :: u).toArray⟩, .int .i64 pe] 46)).alloc (.cells #[.string ⟨(c :: u).toArray⟩] 9)).heap.size := by simp; omega
            have HOWN6 := Lib.hid hown6; have HNEWS6 := Lib.hid hnews6
            clear hown6 hnews6 hcd
            go_wp2_with (at_builtin; refine wpList_append_own _ rfl _ _ 88 rfl W.heap.size 9 i0 _ 1 16 Tryd.underlying88 hi0 hz0 hz1 hz2 rfl (by decide) _ _ _ rfl HOWN6.out ⟨wr.heap.size + 1, 0, none⟩ 1 1 (strsC [c :: u]) rfl rfl HNEWS6.out (strsC_one _) (by unfold maxLen; omega) (by omega) (by simp; omega) ?_; intro v6 w6 ho6 hg6 _; have hF6 := (hg6.block wo.heap.size hl6 hne3).trans (heap_oldG (heap_oldG HFI.out _) _); have HF6 := Lib.hid hF6; have HO6 := Lib.hid ho6; have HG6 := Lib.hid hg6; clear ho6 hg6 hF6)
            exact ⟨HFIN.out [c :: u] v6 w6 HPWX.out HO6.out (((HBI.out.alloc hszi _).alloc (by simp; omega) _).grown HG6.out (by simp; omega) (fun g hg => (HOWN6.out.lt g hg).1)) HF6.out, by simp [intOf]; omega⟩
        · obtain rfl : i = ps.length := by omega
          have x1 := cell_at (i := 1) HFI.out; have x2 := cell_at (i := 2) HFI.out; have x3 := cell_at (i := 3) HFI.out; have x4 := cell_at (i := 4) HFI.out
          have HEm := Lib.hid (fun w => print_empty ⟨nm, lt, nu, pb⟩ w)
          have hNO : Sp.isNone ⟨nm, lt, nu, pb⟩ = false → okSym ⟨nm, lt, nu, pb⟩ := HOK.out.2.2
          cases hq : Sp.isNone ⟨nm, lt, nu, pb⟩ with
          | true =>
            rw [hq] at HEm
            have HQ := Lib.hid hq
            clear hNO hq
            go_wp2_with fail
            refine (HEm.out _).mono ?_
            rintro e w4 ⟨rfl, hb4⟩
            have HB4 := Lib.hid (HBI.out.trans (hb4.mono hszi))
            have HO4 := Lib.hid (ownsRow_below HOM.out hb4)
            clear hb4
            go_wp2_with fail
            refine ⟨⟨k + 1, by omega, by go_num, Lib.hid ?_, HB4⟩, by simp [intOf]; omega⟩
            have e : lf :: Sp.altsWords 0 (al.take (k + 1)) = M := by
              have h1 : Sp.altWords ⟨ps, ⟨nm, lt, nu, pb⟩, pc⟩ = ps.flatMap Sp.partWords := by unfold Sp.altWords; rw [if_pos HQ.out, List.append_nil]
              have h2 : (0 + (al.take k).length = 0) = (k = 0) := by rw [List.length_take]; exact propext ⟨fun h => by omega, fun h => by omega⟩
              rw [List.take_add_one, HPX.out]
              show lf :: Sp.altsWords 0 (_ ++ [_]) = _
              rw [altsWords_snoc, h1, ← HM.out, List.take_length, ← HLL.out]
              simp only [h2]
              rfl
            rw [e]
            exact HO4.out
          | false =>
            rw [hq] at HEm
            have HQ := Lib.hid hq
            have HPW := Lib.hid (fun w hw => print_word ⟨nm, lt, nu, pb⟩ w (hNO hq) hw)
            have hwl := symWords_len ⟨nm, lt, nu, pb⟩
            have hw0 : 0 < (Sp.symWords ⟨nm, lt, nu, pb⟩).length := by unfold Sp.symWords; split; simp; split <;> simp
            generalize hWX : Sp.symWords ⟨nm, lt, nu, pb⟩ = wx at HPW hwl hw0
            have HWX := Lib.hid hWX
            clear hNO hq hWX
            go_wp2_with fail
            refine (HEm.out _).mono ?_
            rintro e w4 ⟨rfl, hb4⟩
            have HB4 := Lib.hid (HBI.out.trans (hb4.mono hszi))
            have HO4 := Lib.hid (ownsRow_below HOM.out hb4)
            have hF4 := (hb4.block wo.heap.size hlfi).trans HFI.out
            have HF4 := Lib.hid hF4
            have y1 := cell_at (i := 1) hF4; have y2 := cell_at (i := 2) hF4; have y3 := cell_at (i := 3) hF4; have y4 := cell_at (i := 4) hF4
            have hl4 := lt_at hF4
            have hs4 := HB4.out.size
            clear hb4 hF4
            have hcs : ∀ w2, w2.heap[wo.heap.size]? = some (.cells #[.slice ap ps.length cp, .string ⟨nm.toArray⟩, .bool lt, .int .i64 nu, .int .i64 pb, .int .i64 pc] 49 (0, 0)) → Below W.heap.size W w2 → w2.cell? ⟨wo.heap.size, 1, none⟩ = some (.string ⟨nm.toArray⟩) ∧ w2.cell? ⟨wo.heap.size, 2, none⟩ = some (.bool lt) ∧ w2.cell? ⟨wo.heap.size, 3, none⟩ = some (.int .i64 nu) ∧ w2.cell? ⟨wo.heap.size, 4, none⟩ = some (.int .i64 pb) ∧ w2.heap[wo.heap.size]? = some (.cells #[.slice ap ps.length cp, .string ⟨nm.toArray⟩, .bool lt, .int .i64 nu, .int .i64 pb, .int .i64 pc] 49 (0, 0)) ∧ Below W.heap.size W w2 := fun w2 hF hB => ⟨cell_at (i := 1) hF, cell_at (i := 2) hF, cell_at (i := 3) hF, cell_at (i := 4) hF, hF, hB⟩
            have HCS := Lib.hid hcs
            have hneA : some wo.heap.size ≠ (Value.slice bv M.length cpm).ownBlock := fun h => ownsRow_ne HO4.out HF4.out (by decide) _ h.symm rfl
            have HGB := Lib.hid (fun w2 (hB : Below W.heap.size W w2) => hg.below hB)
            have hbD : Below W.heap.size W w4.drew := below_drewN HB4.out 1
            have hbA : Below W.heap.size W (w4.alloc (.cells #[.string ⟨#[37, 112, 114, 101, 99]⟩] 9)).drew := below_drewN (HB4.out.alloc hs4 _) 1
            have hoD : w4.drew.ownsRow W.heap.size 9 1 (.slice bv M.length cpm) M.length (strsC M) := HO4.out.drew
            have hoA : (w4.alloc (.cells #[.string ⟨#[37, 112, 114, 101, 99]⟩] 9)).drew.ownsRow W.heap.size 9 1 (.slice bv M.length cpm) M.length (strsC M) := (HO4.out.alloc _).drew
            have hfD : w4.drew.heap[wo.heap.size]? = some (.cells #[.slice ap ps.length cp, .string ⟨nm.toArray⟩, .bool lt, .int .i64 nu, .int .i64 pb, .int .i64 pc] 49 (0, 0)) := HF4.out
            have hfA : (w4.alloc (.cells #[.string ⟨#[37, 112, 114, 101, 99]⟩] 9)).drew.heap[wo.heap.size]? = some (.cells #[.slice ap ps.length cp, .string ⟨nm.toArray⟩, .bool lt, .int .i64 nu, .int .i64 pb, .int .i64 pc] 49 (0, 0)) := heap_oldG HF4.out _
            have hpA : (w4.alloc (.cells #[.string ⟨#[37, 112, 114, 101, 99]⟩] 9)).drew.heap[w4.heap.size]? = some (.cells #[.string ⟨#[37, 112, 114, 101, 99]⟩] 9 (0, 0)) := heap_last w4 _
            have HBD := Lib.hid hbD; have HBA := Lib.hid hbA; have HOD := Lib.hid hoD; have HOA := Lib.hid hoA; have HFD := Lib.hid hfD; have HFA := Lib.hid hfA; have HPA := Lib.hid hpA
            clear hcs hbD hbA hoD hoA hfD hfA hpA
            go_wp2_with fail
            go_region_held3 (fun w2 => w2.cell? ⟨wo.heap.size, 1, none⟩ = some (.string ⟨nm.toArray⟩) ∧ w2.cell? ⟨wo.heap.size, 2, none⟩ = some (.bool lt) ∧ w2.cell? ⟨wo.heap.size, 3, none⟩ = some (.int .i64 nu) ∧ w2.cell? ⟨wo.heap.size, 4, none⟩ = some (.int .i64 pb) ∧ w2.heap[wo.heap.size]? = some (.cells #[.slice ap ps.length cp, .string ⟨nm.toArray⟩, .bool lt, .int .i64 nu, .int .i64 pb, .int .i64 pc] 49 (0, 0)) ∧ Below W.heap.size W w2)
              (first
                | exact HCS.out _ HF4.out HB4.out
                | exact HCS.out _ HFD.out HBD.out
                | exact HCS.out _ HFA.out HBA.out
                | exact HCS.out _ zF zB
                | exact HCS.out _ (heap_oldG zF _) (zB.alloc zB.size _)
                | exact HCS.out _ ((hgrow.block wo.heap.size (lt_at zF) (fun h => ownsRow_ne zO zF (by decide) _ h.symm rfl)).trans zF) yB
                | go_keep)
              ((first
                | (go_at_call 82; refine (HPW.out _ ?_).mono ?_; (first | exact HGB.out _ HBD.out | exact HGB.out _ HBA.out | exact HGB.out _ zB); rintro e w6 ⟨g2, rfl, nW, hg2, hb6⟩; first
                  | (have zF := (hb6.block wo.heap.size (by show _ < w4.heap.size; exact hl4)).trans HFD.out; have zB := HBD.out.trans (hb6.mono HBD.out.size); have zO := ownsRow_below HOD.out hb6)
                  | (have zF := (hb6.block wo.heap.size (by simp; omega)).trans HFA.out; have zB := HBA.out.trans (hb6.mono HBA.out.size); have zO := ownsRow_below HOA.out hb6; have zP := (hb6.block w4.heap.size (by simp)).trans HPA.out)
                  | (have zF2 := (hb6.block wo.heap.size (lt_at zF)).trans zF; have zB2 := zB.trans (hb6.mono zB.size); have zO2 := ownsRow_below zO hb6; clear zF zB zO; have zF := zF2; have zB := zB2; have zO := zO2))
                | (refine step_append_lies _ (by rfl) _ _ _ (by rfl) W.heap.size 9 i0 _ 1 16 Tryd.underlying88 hi0 hz0 hz1 hz2 rfl (by omega) _ _ _ (by rfl) HOA.out ⟨w4.heap.size, 0, none⟩ 1 1 [.string ⟨#[37, 112, 114, 101, 99]⟩] (by rfl) (by rfl) (World.news_of_block HPA.out) (by simp [Value.oneCell']) (by omega) (by unfold maxLen; omega) (by omega) HBA.out.size _ rfl ?_; intro gg cap w5 zO hgrow hat hlt; have zF := (hgrow.block wo.heap.size (by simp; omega) hneA).trans HFA.out; have zB := HBA.out.grown hgrow HBA.out.size (fun g hg => (HOA.out.lt g hg).1))
                | (refine step_append_lies _ (by rfl) _ _ _ (by rfl) W.heap.size 9 i0 _ 1 16 Tryd.underlying88 hi0 hz0 hz1 hz2 rfl (by omega) _ _ _ (by rfl) zO ⟨w4.heap.size, 0, none⟩ 1 1 [.string ⟨#[37, 112, 114, 101, 99]⟩] (by rfl) (by rfl) (World.news_of_block zP) (by simp [Value.oneCell']) (by omega) (by unfold maxLen; omega) (by omega) zB.size _ rfl ?_; intro gg cap w5 zO2 hgrow hat hlt; have zF2 := (hgrow.block wo.heap.size (lt_at zF) hneA).trans zF; have nW2 := (hgrow.block g2 (lt_at nW) (fun h => by have := (HOA.out.lt _ h.symm).2; omega)).trans nW; have zB2 := zB.grown hgrow zB.size (fun g hg => (zO.lt g hg).1); clear zF zB zO nW; have zF := zF2; have zB := zB2; have zO := zO2; have nW := nW2)
                | (refine step_append_lies _ (by rfl) _ _ _ (by rfl) W.heap.size 9 i0 _ 1 16 Tryd.underlying88 hi0 hz0 hz1 hz2 rfl (by omega) _ _ _ (by rfl) (zO.alloc _) ⟨w6.heap.size, 0, none⟩ 1 1 [.string ⟨#[37, 112, 114, 101, 99]⟩] (by rfl) (by rfl) (World.news_of_block (heap_last w6 _)) (by simp [Value.oneCell']) (by omega) (by unfold maxLen; omega) (by omega) (zB.alloc zB.size _).size _ rfl ?_; intro gg cap w5 zO2 hgrow hat hlt; have zF2 := (hgrow.block wo.heap.size (lt_at (heap_oldG zF _)) hneA).trans (heap_oldG zF _); have nW2 := (hgrow.block g2 (lt_at (heap_oldG nW _)) (fun h => by have := (HOD.out.lt _ h.symm).2; omega)).trans (heap_oldG nW _); have zB2 := (zB.alloc zB.size _).grown hgrow (zB.alloc zB.size _).size (fun g hg => (zO.lt g hg).1); clear zF zB zO nW; have zF := zF2; have zB := zB2; have zO := zO2; have nW := nW2)
                | (refine step_append_lies _ (by rfl) _ _ _ (by rfl) W.heap.size 9 i0 _ 1 16 Tryd.underlying88 hi0 hz0 hz1 hz2 rfl (by omega) _ _ _ (by rfl) zO ⟨g2, 0, none⟩ wx.length wx.length (strsC wx) (by rfl) (by rw [strsC_len]; omega) (news_at nW) (strsC_one wx) hw0 (by unfold maxLen; omega) (by omega) zB.size _ rfl ?_; intro gg cap w7 yO hgrow hat hlt; have yB := zB.grown hgrow zB.size (fun g hg => (zO.lt g hg).1); have zF2 := zF)))
            all_goals
              have YO := Lib.hid yO; have YB := Lib.hid yB
              clear yO yB
              go_wp2_with fail
              refine ⟨⟨k + 1, by omega, by go_num, Lib.hid ?_, YB⟩, by simp [intOf]; omega⟩
              have e : lf :: Sp.altsWords 0 (al.take (k + 1)) = M ++ ([37, 112, 114, 101, 99] :: wx) := by
                have h1 : Sp.altWords ⟨ps, ⟨nm, lt, nu, pb⟩, pc⟩ = ps.flatMap Sp.partWords ++ ([37, 112, 114, 101, 99] :: wx) := by
                  have h3 : Sp.altWords ⟨ps, ⟨nm, lt, nu, pb⟩, pc⟩ = ps.flatMap Sp.partWords ++ (if Sp.isNone ⟨nm, lt, nu, pb⟩ = true then [] else [37, 112, 114, 101, 99] :: Sp.symWords ⟨nm, lt, nu, pb⟩) := rfl
                  rw [h3, if_neg (by rw [HQ.out]; decide), HWX.out]
                have h2 : (0 + (al.take k).length = 0) = (k = 0) := by rw [List.length_take]; exact propext ⟨fun h => by omega, fun h => by omega⟩
                rw [List.take_add_one, HPX.out]
                show lf :: Sp.altsWords 0 (_ ++ [_]) = _
                rw [altsWords_snoc, h1, ← HM.out, List.take_length, ← HLL.out]
                simp only [h2]
                simp
              have h := YO.out
              rw [e, List.length_append, strsC_app, List.length_cons]
              rw [show M.length + (wx.length + 1) = M.length + 1 + wx.length by omega]
              simpa [strsC] using h
    · obtain rfl : k = al.length := by omega
      have hown5 : (wo.alloc (.cells #[.string ⟨#[59]⟩] 9)).ownsRow W.heap.size 9 1 (.slice av L.length cpv) L.length (strsC L) := HOL.out.alloc _
      have HOWN5 := Lib.hid hown5
      have HN5 := Lib.hid (new_cells wo [Value.string ⟨#[59]⟩] 9)
      clear hown5
      go_wp2_with (at_builtin; refine wpList_append_own _ rfl _ _ 88 rfl W.heap.size 9 i0 _ 1 16 Tryd.underlying88 hi0 hz0 hz1 hz2 rfl (by decide) _ _ _ rfl HOWN5.out ⟨wo.heap.size, 0, none⟩ 1 1 [.string ⟨#[59]⟩] rfl rfl HN5.out (by simp [Value.oneCell']) (by unfold maxLen; omega) (by omega) (by simp; omega) ?_; intro v3 w3 ho3 hg3 _; have HO3 := Lib.hid ho3; have HG3 := Lib.hid hg3; clear ho3 hg3)
      go_ret
      refine ⟨_, rfl, ?_, (HBL.out.alloc hsz _).grown HG3.out (by simp; omega) (fun g hg => (HOWN5.out.lt g hg).1)⟩
      have h := HO3.out
      rw [← HLL.out, List.take_length] at h
      rw [show (lf :: (Sp.altsWords 0 al ++ [[59]])) = (lf :: Sp.altsWords 0 al) ++ [[59]] from rfl, List.length_append, strsC_app]
      exact h
end Go.Proofs.YthmimcegiihcnaaDoor
