/- The walk of GramTags. -/
import Derived.Test.YthmimcegiihcnaaDoorIg
import Derived.Test.YthmimcegiihcnaaDoorJk
import Derived.Test.YthmimcegiihcnaaDoorGt
namespace Go.Proofs.YthmimcegiihcnaaDoor
open Go.RowKit Go.Maps

theorem heap_thd (w : World) (a b c : Obj) : (((w.alloc a).alloc b).alloc c).heap[w.heap.size + 1 + 1]? = some c := by
  have h := heap_last ((w.alloc a).alloc b) c
  simp only [World.size_alloc] at h
  exact h
theorem tag_small (non : Bool) (l : List Int) (k : Nat) (hk : k ≤ 8) : smallSrc (Sp.tagSrc (Sp.tagFn non) (Sp.tagEnt non l k)) := by
  refine ⟨by simp [Sp.tagSrc], by simp [Sp.tagSrc], ?_, by simp [Sp.tagSrc, Sp.tagRules], ?_, ?_⟩
  · have := Sp.tagEnt_len non l k
    simp only [Sp.tagSrc, List.length_map]
    omega
  · intro d hd
    simp only [Sp.tagSrc, List.mem_map] at hd
    obtain ⟨q, hq, rfl⟩ := hd
    have ht : q.1.length ≤ 4000 := by
      rcases (Sp.tagEnt_mem hq).1 with h | h | h <;> rw [h] <;> simp
    cases non with
    | false =>
      refine ⟨ht, by simp [Sp.tagFn, Sp.tokDecl], fun s hs => ?_⟩
      simp only [Sp.tagFn, Sp.tokDecl, Bool.false_eq_true, if_false, List.mem_singleton] at hs
      subst hs
      simp [smallSym]
    | true =>
      refine ⟨ht, by simp [Sp.tagFn, Sp.nonDecl], fun s hs => ?_⟩
      simp only [Sp.tagFn, Sp.nonDecl, if_true, List.mem_singleton] at hs
      subst hs
      simp [smallSym]
  · intro r hr
    simp only [Sp.tagSrc, Sp.tagRules, List.mem_singleton] at hr
    subst hr
    refine ⟨by simp, by simp, ?_⟩
    intro a ha
    rw [List.mem_singleton] at ha
    subst ha
    refine ⟨by simp, ?_, by simp⟩
    intro p hp
    rw [List.mem_singleton] at hp
    subst hp
    exact ⟨by simp, by simp⟩
/-- The source as it grows, and the tags' row. -/
structure TagI (W wr : World) (bs bt : Nat) (dv rv : Value) (ds : List Sp.Decl) : Prop where
  st : PassS2 W.heap.size wr bs dv rv ds Sp.tagRules
  tags : wr.heap[bt]? = some (.cells #[.string ⟨#[]⟩, .string ⟨#[117]⟩, .string ⟨#[118]⟩] 9 (0, 0))
  bel : Below W.heap.size W wr
/-- A declaration more. -/
theorem TagI.step {W wr w8 w' : World} {bs bt n c2 g2 bsy : Nat} {da : Option Addr} {dc : Nat} {rv : Value} {ds : List Sp.Decl} {d : Sp.Decl} {f : Nat → Value} (h : TagI W wr bs bt (.slice da n dc) rv ds) (hn : n = ds.length)
    (hch : ∀ (i : Nat) (a : Sp.Decl), ds[i]? = some a → symsOwn wr (f i) a) (hk8 : Kp (fun b => b = bs ∨ b = bt) wr w8) (hk9 : Kp (fun b => b < W.heap.size) wr w8) (kt8 : KpT (fun t => t ≠ 43) wr w8)
    (hsy : w8.ownsRow W.heap.size 40 4 (.slice (some ⟨bsy, 0, none⟩) 1 1) d.syms.length (d.syms.map symC).flatten)
    (hown : w8.ownsRow W.heap.size 43 4 (.slice (some ⟨g2, 0, none⟩) (n + 1) c2) (n + 1) ((ds.mapIdx fun i a => declC (f i) a).flatten ++ declC (.slice (some ⟨bsy, 0, none⟩) 1 1) d)) (hw : w' = w8.setCell ⟨bs, 1, none⟩ (.slice (some ⟨g2, 0, none⟩) (n + 1) c2)) :
    TagI W w' bs bt (.slice (some ⟨g2, 0, none⟩) (n + 1) c2) rv (ds ++ [d]) := by
  have hds : DeclsOwn W.heap.size w8 (.slice (some ⟨g2, 0, none⟩) (n + 1) c2) (ds ++ [d]) := by
    rw [hn] at hown ⊢
    exact OwnR.snoc hch hown (fun u a h => symsOwn_kp kt8 (by decide) u a h) ⟨_, hsy⟩
  have hne : bt ≠ bs := by
    rintro rfl
    have := h.tags.symm.trans h.st.src
    simp at this
  refine ⟨h.st.setDecls (hk8.mono (fun _ _ h => .inl h)) (rules_kp h.st.rules kt8 (by decide) (by decide) (by decide)) hds hw, ?_, ?_⟩
  · subst hw
    exact (Below.heap_setCell _ _ _ _ hne).trans (hk8.at h.tags (.inr rfl))
  · subst hw
    exact h.bel.trans (Kp.below (hk9.setCell (p := ⟨bs, 1, none⟩) (by have := h.st.ge; simp only; omega) _) h.bel.size (fun b hb => hb))
theorem TagI.keep {W wr w' : World} {bs bt : Nat} {dv rv : Value} {ds : List Sp.Decl} (h : TagI W wr bs bt dv rv ds) (hb : Below wr.heap.size wr w') : TagI W w' bs bt dv rv ds :=
  ⟨⟨(hb.block _ (lt_at h.st.src)).trans h.st.src, decls_kp h.st.decls (KpT.below (T := fun _ => True) hb) trivial trivial, rules_kp h.st.rules (KpT.below (T := fun _ => True) hb) trivial trivial trivial, h.st.ge⟩, (hb.block _ (lt_at h.tags)).trans h.tags, h.bel.trans (hb.mono h.bel.size)⟩
set_option maxRecDepth 100000 in
set_option maxHeartbeats 12800000 in
theorem law_GramTags (v0 : Value) (l : List Int) (non : Bool) (W : World) (hl : IntsAt W v0 l) (hlm : l.length ≤ maxLen) (hwf : ∀ t ∈ l, (Lit.int .i64 t).wf = true) (hg : Gl4 W) :
    Calls Tryd.prog 11 #[v0, .bool non] W fun e w' => e = .returned (.bool true) ∧ Below W.heap.size W w' := by
  unfold maxLen at hlm
  obtain ⟨la, lcap, rfl⟩ := SlAt.form hl
  rw [List.length_map] at hl ⊢
  have HG := Lib.hid hg; have HL := Lib.hid hl; have HWF := Lib.hid hwf
  obtain ⟨id0, hid0, hdz0, hdz1, hdz2⟩ := info_parts info_declE
  clear hg hl hwf
  go_enter Tryd.func11, Tryd.ntmps11
  go_wp2_with fail
  refine (wakes9 W HG.out).mono ?_
  rintro e w1 ⟨rfl, hb1⟩
  go_wp2_with fail
  refine (law9_lit [120] 0 _).mono ?_
  rintro e w2 ⟨rfl, hb2⟩
  go_wp2_with fail
  refine (law9_part [120] true 0 0 w2).mono ?_
  rintro e w3 ⟨rfl, hb3⟩
  have HTG : Hid (w3.heap[w1.heap.size]? = some (.cells #[.string ⟨#[]⟩, .string ⟨#[117]⟩, .string ⟨#[118]⟩] 9 (0, 0))) := Lib.hid ((hb3.block _ (by have := hb2.size; simp only [World.size_alloc] at this; omega)).trans ((hb2.block _ (by simp)).trans (heap_last w1 _)))
  have HB3 : Hid (Below W.heap.size W w3) := Lib.hid (((hb1.alloc hb1.size _).trans (hb2.mono (by have := hb1.size; simp only [World.size_alloc]; omega))).trans (hb3.mono (by have := hb2.size; have := hb1.size; simp only [World.size_alloc] at *; omega)))
  have HBT := Lib.hid hb1.size
  clear hb1 hb2 hb3
  go_wp2_with fail
  obtain ⟨w, hw4⟩ : ∃ w : World, w = (((w3.alloc (.cells #[.string ⟨#[120]⟩, .bool true, .int .i64 0, .int .i64 0, .string ⟨#[]⟩, .int .i64 0] 46)).alloc (.cells #[.slice (some ⟨w3.heap.size, 0, none⟩) 1 1, .string ⟨#[]⟩, .bool false, .int .i64 0, .int .i64 0, .int .i64 0] 49)).alloc (.cells #[.string ⟨#[97]⟩, .slice (some ⟨w3.heap.size + 1, 0, none⟩) 1 1, .int .i64 0] 52)).alloc (.cells #[.string ⟨#[]⟩, .slice none 0 0, .slice (some ⟨w3.heap.size + 1 + 1, 0, none⟩) 1 1, .string ⟨#[]⟩] 29) := ⟨_, rfl⟩
  rw [← hw4]
  have P4 : PassSt W.heap.size w (w3.heap.size + 1 + 1 + 1) (w3.heap.size + 1 + 1) (w3.heap.size + 1) (.slice none 0 0) (.slice (some ⟨w3.heap.size, 0, none⟩) 1 1) [] [⟨⟨[120], true, 0, 0⟩, [], 0⟩] := by
    have hsz := HB3.out.size
    obtain ⟨q0, q1, q2⟩ := three_c (W := w3) (w' := w) (c1 := #[.string ⟨#[120]⟩, .bool true, .int .i64 0, .int .i64 0, .string ⟨#[]⟩, .int .i64 0]) (c2 := #[.slice (some ⟨w3.heap.size, 0, none⟩) 1 1, .string ⟨#[]⟩, .bool false, .int .i64 0, .int .i64 0, .int .i64 0]) (c3 := #[.string ⟨#[97]⟩, .slice (some ⟨w3.heap.size + 1, 0, none⟩) 1 1, .int .i64 0]) (t1 := 46) (t2 := 49) (t3 := 52) (by rw [hw4]; exact (Below.refl _ _).alloc (by simp) _)
    refine ⟨?_, q2, q1, owns_block q0 hsz rfl (by decide), OwnR.nil _ _ _ _ _ _, by omega, by omega, by omega⟩
    rw [hw4]
    have h := heap_last (((w3.alloc (.cells #[.string ⟨#[120]⟩, .bool true, .int .i64 0, .int .i64 0, .string ⟨#[]⟩, .int .i64 0] 46)).alloc (.cells #[.slice (some ⟨w3.heap.size, 0, none⟩) 1 1, .string ⟨#[]⟩, .bool false, .int .i64 0, .int .i64 0, .int .i64 0] 49)).alloc (.cells #[.string ⟨#[97]⟩, .slice (some ⟨w3.heap.size + 1, 0, none⟩) 1 1, .int .i64 0] 52)) (.cells #[.string ⟨#[]⟩, .slice none 0 0, .slice (some ⟨w3.heap.size + 1 + 1, 0, none⟩) 1 1, .string ⟨#[]⟩] 29)
    simp only [World.size_alloc] at h
    exact h
  have HBW : Hid (Below W.heap.size W w) := Lib.hid (by rw [hw4]; exact (HB3.out.trans ((three_below w3 _ _ _).mono HB3.out.size)).alloc (by have := HB3.out.size; simp; omega) _)
  have HTW : Hid (w.heap[w1.heap.size]? = some (.cells #[.string ⟨#[]⟩, .string ⟨#[117]⟩, .string ⟨#[118]⟩] 9 (0, 0))) := Lib.hid (by rw [hw4]; exact heap_old (heap_old (heap_old (heap_old HTG.out _) _) _) _)
  have HBS : Hid (W.heap.size + 3 ≤ w3.heap.size + 1 + 1 + 1) := Lib.hid (by have := HB3.out.size; omega)
  clear hw4 HB3 HTG
  generalize w3.heap.size + 1 + 1 + 1 = bs at P4 HBS ⊢
  generalize w3.heap.size + 1 + 1 = br at P4 ⊢
  generalize w3.heap.size + 1 = ba at P4 ⊢
  generalize w3.heap.size = bp at P4 ⊢
  generalize w1.heap.size = bt at HTW HBT ⊢
  have HI0 : Hid (TagI W w bs bt (.slice none 0 0) (.slice (some ⟨br, 0, none⟩) 1 1) []) := Lib.hid ⟨P4.two, HTW.out, HBW.out⟩
  clear P4 HTW HBW
  go_loopg [7, 8, 9] 8 (fun q v7 v8 v9 wr => ∃ (k : Nat) (want : List UInt8) (bad : Int) (dv : Value), k ≤ 8 ∧ k ≤ l.length ∧ q = 8 - k ∧ v9 = .int .i64 k ∧ v7 = .string ⟨want.toArray⟩ ∧ v8 = .int .i64 bad ∧ Sp.TagRel (Sp.tagEnt non l k) want bad ∧ TagI W wr bs bt dv (.slice (some ⟨br, 0, none⟩) 1 1) ((Sp.tagEnt non l k).map (Sp.tagFn non)))
  case atStart =>
    exact ⟨0, [], -1, _, by omega, by omega, rfl, rfl, rfl, rfl, Sp.TagRel.start, HI0.out⟩
  case round =>
    clear HI0
    obtain ⟨k, want, bad, dv, hk8, hkl, rfl, rfl, rfl, rfl, hrl, hst⟩ := hrel
    have HRL := Lib.hid hrl
    have HST := Lib.hid hst
    clear hrl
    by_cases hkn : k < l.length ∧ k < 8
    · obtain ⟨hkn1, hkn2⟩ := hkn
      obtain ⟨n, hn⟩ : ∃ n, l[k]? = some n := ⟨_, List.getElem?_eq_getElem hkn1⟩
      obtain ⟨lb, lo, rfl, hlb, hlc⟩ := SlAt.at HL.out (k := k) (row := [.int .i64 n]) (by rw [List.getElem?_map, hn]; rfl)
      have hcl := hlc wr hst.bel 0 _ rfl
      simp only [Nat.add_zero, Nat.mul_one] at hcl
      have hlbw := hst.bel.size
      have hlw : lb < wr.heap.size := by omega
      have hwn := HWF.out n (List.mem_of_getElem? hn)
      obtain ⟨r, hr⟩ : ∃ r : Nat, n % ((3 : Nat) : Int) = (r : Int) := ⟨(n % 3).toNat, by have := Int.emod_nonneg n (b := 3) (by decide); omega⟩
      have hr3 : r < 3 := by have := Int.emod_lt_of_pos n (b := 3) (by decide); omega
      obtain ⟨t, ht⟩ : ∃ t, t = Sp.tagAt r := ⟨_, rfl⟩
      have htn : Sp.tagOf n = t := by
        rw [ht]
        unfold Sp.tagOf
        rw [show (n % 3).toNat = r by omega]
      have htt : Sp.isTag t := by rw [ht]; exact Sp.tagAt_tag r
      have hct : wr.cell? ⟨bt, r, none⟩ = some (.string ⟨t.toArray⟩) := by
        rw [cell_at hst.tags, ht]
        have hr' : r = 0 ∨ r = 1 ∨ r = 2 := by omega
        rcases hr' with rfl | rfl | rfl <;> rfl
      have hbt := lt_at hst.tags
      have hr3I : (r : Int) < 3 := by omega
      have hk8I : (k : Int) < 8 := by omega
      have HN := Lib.hid hn; have HWN := Lib.hid hwn; have HR := Lib.hid hr; have HTN := Lib.hid htn; have HTT := Lib.hid htt
      obtain ⟨f, ho, hch⟩ := hst.st.decls
      obtain ⟨nd, hnd⟩ : ∃ nd, nd = ((Sp.tagEnt non l k).map (Sp.tagFn non)).length := ⟨_, rfl⟩
      have hnd8 : nd ≤ 8 := by
        rw [hnd, List.length_map]
        exact Nat.le_trans (Sp.tagEnt_len non l k) (by omega)
      rw [← hnd] at ho
      obtain ⟨da, dc, rfl⟩ := ownsRowS_some ho
      have HO := Lib.hid ho; have HCH := Lib.hid hch; have HND := Lib.hid hnd
      have HSK : Hid (∀ w', Kp (fun b => b = bs) wr w' → (w'.cell? ⟨bs, 1, none⟩ = some (.slice da nd dc) ∧ w'.frozen? ⟨bs, 1, none⟩ = false) ∧ bs < w'.heap.size) := Lib.hid (fun w' kp => by
        have q0 := kp.at HST.out.st.src rfl
        exact ⟨⟨cell_at (i := 1) q0, frozen_at (i := 1) q0⟩, lt_at q0⟩)
      have HWS := Lib.hid hst.bel.size
      have HNB : Hid (∀ c, (Value.slice da nd dc).ownBlock = some c → ¬ (c = bs ∨ c = bt)) := Lib.hid (fun c hc hs => by
        rcases hs with rfl | rfl
        · exact row_ne_cells HO.out HST.out.st.src (by decide) _ hc rfl
        · exact row_ne_cells HO.out HST.out.tags (by decide) _ hc rfl)
      have HLO : Hid (∀ c, (Value.slice da nd dc).ownBlock = some c → ¬ c < W.heap.size) := Lib.hid (fun c hc => Nat.not_lt.2 (HO.out.lt c hc).1)
      obtain ⟨⟨s1, s2⟩, s3⟩ := HSK.out wr (Kp.refl _ _)
      clear hst ho hch hnd hlc hn hwn hr ht htn htt hlb hlbw
      go_wp2_with fail
      refine (ref_Within9 n 3 _ (by decide) (by decide) HWN.out).mono ?_
      rintro e w1' ⟨rfl, rfl⟩
      rw [HR.out]
      go_wp2_with fail
      refine (law9_lit [120] (k : Int) _).mono ?_
      rintro e w5 ⟨rfl, hb5⟩
      have HB5 := Lib.hid hb5
      clear hb5
      obtain ⟨⟨y1, y2⟩, y3⟩ := HSK.out w5 (Kp.of_below HB5.out (fun _ hk _ => hk))
      cases non with
      | false =>
        go_upto_region 15 with (at_builtin; refine wpList_append_lies _ rfl _ _ 26 rfl W.heap.size 43 id0 _ 4 56 Tryd.underlying26 hid0 hdz0 hdz1 hdz2 rfl (by decide) _ _ _ rfl ((((ownsRow_below HO.out HB5.out).alloc _).alloc _).alloc _) ⟨w5.heap.size + 1 + 1, 0, none⟩ 1 1 (declC (.slice (some ⟨w5.heap.size, 0, none⟩) 1 1) ⟨1, t, [⟨[120], true, 0, (k : Int)⟩], 0⟩) rfl rfl (World.news_of_block (cs := #[.int .i64 1, .string ⟨t.toArray⟩, .slice (some ⟨w5.heap.size, 0, none⟩) 1 1, .int .i64 0]) (t := 43) (fr := (0, 0)) (heap_thd w5 _ _ _)) (by simp [Value.oneCell', declC]) (by omega) (by unfold maxLen; omega) (by omega) (by have := HB5.out.size; have := HWS.out; simp only [World.size_alloc]; omega) _ rfl ?_; intro g2 c2 w8 hown2 hgrow2 hat2 hlt2; have HG8 := Lib.hid hgrow2; have HO8 := Lib.hid hown2; obtain ⟨⟨z1, z2⟩, hl8⟩ := HSK.out w8 ((((((Kp.of_below HB5.out (fun _ hk _ => hk)) : Kp (fun b => b = bs) wr w5).alloc _).alloc _).alloc _).grown hgrow2 (fun c hc hs => HNB.out c hc (.inl hs))); clear hgrow2 hown2 hat2)
        have hsz5 := HB5.out.size
        have hk8 : Kp (fun b => b = bs ∨ b = bt) wr w8 := (((((Kp.of_below HB5.out (fun _ hk _ => hk)) : Kp (fun b => b = bs ∨ b = bt) wr w5).alloc _).alloc _).alloc _).grown HG8.out (fun c hc hs => HNB.out c hc hs)
        have hk9 : Kp (fun b => b < W.heap.size) wr w8 := (((((Kp.of_below HB5.out (fun _ hk _ => hk)) : Kp (fun b => b < W.heap.size) wr w5).alloc _).alloc _).alloc _).grown HG8.out (fun c hc hs => HLO.out c hc hs)
        have kg : KpT (fun t => t ≠ 43) _ w8 := KpT.grown ((((ownsRow_below HO.out HB5.out).alloc _).alloc _).alloc _) HG8.out
        have kt8 : KpT (fun t => t ≠ 43) wr w8 := (((KpT.below HB5.out).alloc _).alloc _).alloc _ |>.trans kg
        have hsy := ownsRow_kpT (owns_block (B := W.heap.size) (size := 4) (n := 1) (heap_old (heap_old (heap_last w5 (.cells #[.string ⟨#[120]⟩, .bool true, .int .i64 0, .int .i64 (k : Int)] 40)) _) _) (by have := HWS.out; omega) rfl (by decide)) kg (by decide)
        have HEN : Hid (Sp.tagEnt false l (k + 1) = Sp.tagEnt false l k ++ [(t, (k : Int))]) := Lib.hid (by rw [Sp.tagEnt_tok HN.out, HTN.out])
        have hs2 := HST.out.step (d := ⟨1, t, [⟨[120], true, 0, (k : Int)⟩], 0⟩) HND.out HCH.out hk8 hk9 kt8 hsy HO8.out rfl
        rw [show ⟨1, t, [⟨[120], true, 0, (k : Int)⟩], 0⟩ = Sp.tagFn false (t, (k : Int)) from rfl, ← List.map_singleton (f := Sp.tagFn false), ← List.map_append, ← HEN.out] at hs2
        have HS2 := Lib.hid hs2
        clear hk8 hk9 kg kt8 hsy hs2 hsz5
        rcases (HRL.out : Sp.TagRel _ _ _).1 with h | h | h
        · subst h
          rcases (HTT.out : Sp.isTag t) with h | h | h
          · subst h
            go_wp2_with fail
            go_roundg (8 - (k + 1))
            case measure => omega
            case rel => exact ⟨k + 1, [], bad, _, by omega, by omega, rfl, by go_num, rfl, rfl, by rw [HEN.out]; exact HRL.out.first HTT.out _, HS2.out⟩
          · subst h
            go_wp2_with fail
            go_roundg (8 - (k + 1))
            case measure => omega
            case rel => exact ⟨k + 1, [117], bad, _, by omega, by omega, rfl, by go_num, rfl, rfl, by rw [HEN.out]; exact HRL.out.first HTT.out _, HS2.out⟩
          · subst h
            go_wp2_with fail
            go_roundg (8 - (k + 1))
            case measure => omega
            case rel => exact ⟨k + 1, [118], bad, _, by omega, by omega, rfl, by go_num, rfl, rfl, by rw [HEN.out]; exact HRL.out.first HTT.out _, HS2.out⟩
        · subst h
          rcases (HTT.out : Sp.isTag t) with h | h | h
          · subst h
            go_wp2_with fail
            go_roundg (8 - (k + 1))
            case measure => omega
            case rel => exact ⟨k + 1, [117], bad, _, by omega, by omega, rfl, by go_num, rfl, rfl, by rw [HEN.out]; exact HRL.out.same _ (by simp) (.inl rfl), HS2.out⟩
          · subst h
            go_wp2_with fail
            go_roundg (8 - (k + 1))
            case measure => omega
            case rel => exact ⟨k + 1, [117], bad, _, by omega, by omega, rfl, by go_num, rfl, rfl, by rw [HEN.out]; exact HRL.out.same _ (by simp) (.inr (.inl rfl)), HS2.out⟩
          · subst h
            by_cases hb : bad < 0
            · go_wp2_with fail
              go_roundg (8 - (k + 1))
              case measure => omega
              case rel => exact ⟨k + 1, [117], (k : Int), _, by omega, by omega, rfl, by go_num, rfl, rfl, by rw [HEN.out]; exact HRL.out.other (by omega) (by simp) (by simp) (by simp) hb, HS2.out⟩
            · go_wp2_with fail
              go_roundg (8 - (k + 1))
              case measure => omega
              case rel => exact ⟨k + 1, [117], bad, _, by omega, by omega, rfl, by go_num, rfl, rfl, by rw [HEN.out]; exact HRL.out.same _ (by simp) (.inr (.inr (by omega))), HS2.out⟩
        · subst h
          rcases (HTT.out : Sp.isTag t) with h | h | h
          · subst h
            go_wp2_with fail
            go_roundg (8 - (k + 1))
            case measure => omega
            case rel => exact ⟨k + 1, [118], bad, _, by omega, by omega, rfl, by go_num, rfl, rfl, by rw [HEN.out]; exact HRL.out.same _ (by simp) (.inl rfl), HS2.out⟩
          · subst h
            by_cases hb : bad < 0
            · go_wp2_with fail
              go_roundg (8 - (k + 1))
              case measure => omega
              case rel => exact ⟨k + 1, [118], (k : Int), _, by omega, by omega, rfl, by go_num, rfl, rfl, by rw [HEN.out]; exact HRL.out.other (by omega) (by simp) (by simp) (by simp) hb, HS2.out⟩
            · go_wp2_with fail
              go_roundg (8 - (k + 1))
              case measure => omega
              case rel => exact ⟨k + 1, [118], bad, _, by omega, by omega, rfl, by go_num, rfl, rfl, by rw [HEN.out]; exact HRL.out.same _ (by simp) (.inr (.inr (by omega))), HS2.out⟩
          · subst h
            go_wp2_with fail
            go_roundg (8 - (k + 1))
            case measure => omega
            case rel => exact ⟨k + 1, [118], bad, _, by omega, by omega, rfl, by go_num, rfl, rfl, by rw [HEN.out]; exact HRL.out.same _ (by simp) (.inr (.inl rfl)), HS2.out⟩
      | true =>
        rcases (HTT.out : Sp.isTag t) with h | h | h
        · subst h
          go_wp2_with fail
          go_roundg (8 - (k + 1))
          case measure => omega
          case rel =>
            refine ⟨k + 1, want, bad, .slice da nd dc, by omega, by omega, rfl, by go_num, rfl, rfl, by rw [Sp.tagEnt_skip HN.out HTN.out]; exact HRL.out, ?_⟩
            rw [Sp.tagEnt_skip HN.out HTN.out]
            exact HST.out.keep ((HB5.out.alloc HB5.out.size _).alloc (by have := HB5.out.size; simp only [World.size_alloc]; omega) _)
        · subst h
          go_wp2_with fail
          refine (law9_name [97] (k : Int) _).mono ?_
          rintro e w6 ⟨rfl, hb6⟩
          have HB6 := Lib.hid hb6
          have q0 := (hb6.block _ (by simp)).trans (heap_sec w5 _ _)
          have c0 := cell_at (i := 0) q0; have c1 := cell_at (i := 1) q0; have c2 := cell_at (i := 2) q0; have c3 := cell_at (i := 3) q0
          have f0 := frozen_at (i := 0) q0; have f1 := frozen_at (i := 1) q0; have f2 := frozen_at (i := 2) q0; have f3 := frozen_at (i := 3) q0
          have l0 := lt_at q0
          have HQ0 := Lib.hid q0
          clear q0 hb6
          go_upto_region 14 with fail
          obtain ⟨w7, hw7⟩ : ∃ w7 : World, w7 = (((((w6.setCell ⟨w5.heap.size + 1, 0, none⟩ (.int .i64 5)).setCell ⟨w5.heap.size + 1, 1, none⟩ (.string ⟨#[117]⟩)).setCell ⟨w5.heap.size + 1, 2, none⟩ (.slice (some ⟨w6.heap.size, 0, none⟩) 1 1)).setCell ⟨w5.heap.size + 1, 3, none⟩ (.int .i64 0)).alloc (.cells #[.string ⟨#[97]⟩, .bool false, .int .i64 0, .int .i64 (k : Int)] 40)) := ⟨_, rfl⟩
          rw [← hw7]
          have hq7 : w7.heap[w5.heap.size + 1]? = some (.cells #[.int .i64 5, .string ⟨#[117]⟩, .slice (some ⟨w6.heap.size, 0, none⟩) 1 1, .int .i64 0] 43 (0, 0)) := by
            rw [hw7]
            exact heap_old (heap_setCell_at (heap_setCell_at (heap_setCell_at (heap_setCell_at HQ0.out)))) _
          have hsz6 : wr.heap.size ≤ w5.heap.size + 1 ∧ w5.heap.size + 1 < w6.heap.size := by
            have h1 := HB5.out.size; have h2 := HB6.out.size
            simp only [World.size_alloc] at h2
            omega
          have HB7 : Hid (Below wr.heap.size wr w7) := Lib.hid (by
            rw [hw7]
            have h1 : Below wr.heap.size wr w6 := ((HB5.out.alloc HB5.out.size _).alloc (by have := HB5.out.size; simp only [World.size_alloc]; omega) _).trans (HB6.out.mono (by simp only [World.size_alloc]; omega))
            exact ((((h1.setCell (p := ⟨w5.heap.size + 1, 0, none⟩) hsz6.1 _).setCell (p := ⟨w5.heap.size + 1, 1, none⟩) hsz6.1 _).setCell (p := ⟨w5.heap.size + 1, 2, none⟩) hsz6.1 _).setCell (p := ⟨w5.heap.size + 1, 3, none⟩) hsz6.1 _).alloc (by show wr.heap.size ≤ _; simp only [World.setCell, Array.size_modify]; omega) _)
          have HS7 : Hid (w7.heap[w6.heap.size]? = some (.cells #[.string ⟨#[97]⟩, .bool false, .int .i64 0, .int .i64 (k : Int)] 40 (0, 0))) := Lib.hid (by
            have h := heap_last ((((w6.setCell ⟨w5.heap.size + 1, 0, none⟩ (.int .i64 5)).setCell ⟨w5.heap.size + 1, 1, none⟩ (.string ⟨#[117]⟩)).setCell ⟨w5.heap.size + 1, 2, none⟩ (.slice (some ⟨w6.heap.size, 0, none⟩) 1 1)).setCell ⟨w5.heap.size + 1, 3, none⟩ (.int .i64 0)) (.cells #[.string ⟨#[97]⟩, .bool false, .int .i64 0, .int .i64 (k : Int)] 40)
            rw [show ((((w6.setCell ⟨w5.heap.size + 1, 0, none⟩ (.int .i64 5)).setCell ⟨w5.heap.size + 1, 1, none⟩ (.string ⟨#[117]⟩)).setCell ⟨w5.heap.size + 1, 2, none⟩ (.slice (some ⟨w6.heap.size, 0, none⟩) 1 1)).setCell ⟨w5.heap.size + 1, 3, none⟩ (.int .i64 0)).heap.size = w6.heap.size by simp [World.setCell]] at h
            rw [hw7]
            exact h)
          have HSZ := Lib.hid hsz6
          obtain ⟨⟨x1, x2⟩, x3⟩ := HSK.out w7 (Kp.of_below HB7.out (fun _ hk _ => hk))
          have d0 := cell_at (i := 0) hq7; have d1 := cell_at (i := 1) hq7; have d2 := cell_at (i := 2) hq7; have d3 := cell_at (i := 3) hq7
          have l7 := lt_at hq7
          clear hw7 hq7 hsz6 c0 c1 c2 c3 f0 f1 f2 f3 l0
          go_upto_region 15 with (at_builtin; refine wpList_append_lies _ rfl _ _ 26 rfl W.heap.size 43 id0 _ 4 56 Tryd.underlying26 hid0 hdz0 hdz1 hdz2 rfl (by decide) _ _ _ rfl ((ownsRow_below HO.out HB7.out).alloc _) ⟨w7.heap.size, 0, none⟩ 1 1 (declC (.slice (some ⟨w6.heap.size, 0, none⟩) 1 1) ⟨5, [117], [⟨[97], false, 0, (k : Int)⟩], 0⟩) rfl rfl (World.news_of_block (cs := #[.int .i64 5, .string ⟨#[117]⟩, .slice (some ⟨w6.heap.size, 0, none⟩) 1 1, .int .i64 0]) (t := 43) (fr := (0, 0)) (heap_last w7 _)) (by simp [Value.oneCell', declC]) (by omega) (by unfold maxLen; omega) (by omega) (by have := HB7.out.size; have := HWS.out; simp only [World.size_alloc]; omega) _ rfl ?_; intro g2 c2 w8 hown2 hgrow2 hat2 hlt2; have HG8 := Lib.hid hgrow2; have HO8 := Lib.hid hown2; obtain ⟨⟨z1, z2⟩, hl8⟩ := HSK.out w8 ((((Kp.of_below HB7.out (fun _ hk _ => hk)) : Kp (fun b => b = bs) wr w7).alloc _).grown hgrow2 (fun c hc hs => HNB.out c hc (.inl hs))); clear hgrow2 hown2 hat2)
          have hk8 : Kp (fun b => b = bs ∨ b = bt) wr w8 := (((Kp.of_below HB7.out (fun _ hk _ => hk)) : Kp (fun b => b = bs ∨ b = bt) wr w7).alloc _).grown HG8.out (fun c hc hs => HNB.out c hc hs)
          have hk9 : Kp (fun b => b < W.heap.size) wr w8 := (((Kp.of_below HB7.out (fun _ hk _ => hk)) : Kp (fun b => b < W.heap.size) wr w7).alloc _).grown HG8.out (fun c hc hs => HLO.out c hc hs)
          have kg : KpT (fun t => t ≠ 43) _ w8 := KpT.grown ((ownsRow_below HO.out HB7.out).alloc _) HG8.out
          have kt8 : KpT (fun t => t ≠ 43) wr w8 := ((KpT.below HB7.out).alloc _).trans kg
          have hsy := ownsRow_kpT (owns_block (B := W.heap.size) (size := 4) (n := 1) (heap_old HS7.out _) (by have := HWS.out; have := HSZ.out; omega) rfl (by decide)) kg (by decide)
          have HEN : Hid (Sp.tagEnt true l (k + 1) = Sp.tagEnt true l k ++ [([117], (k : Int))]) := Lib.hid (by rw [Sp.tagEnt_non HN.out (by rw [HTN.out]; simp), HTN.out])
          have hs2 := HST.out.step (d := ⟨5, [117], [⟨[97], false, 0, (k : Int)⟩], 0⟩) HND.out HCH.out hk8 hk9 kt8 hsy HO8.out rfl
          rw [show ⟨5, [117], [⟨[97], false, 0, (k : Int)⟩], 0⟩ = Sp.tagFn true ([117], (k : Int)) from rfl, ← List.map_singleton (f := Sp.tagFn true), ← List.map_append, ← HEN.out] at hs2
          have HS2 := Lib.hid hs2
          clear hk8 hk9 kg kt8 hsy hs2
          rcases (HRL.out : Sp.TagRel _ _ _).1 with h | h | h
          · subst h
            · skip
              go_wp2_with fail
              go_roundg (8 - (k + 1))
              case measure => omega
              case rel => exact ⟨k + 1, [117], bad, _, by omega, by omega, rfl, by go_num, rfl, rfl, by rw [HEN.out]; exact HRL.out.first HTT.out _, HS2.out⟩
          · subst h
            · skip
              go_wp2_with fail
              go_roundg (8 - (k + 1))
              case measure => omega
              case rel => exact ⟨k + 1, [117], bad, _, by omega, by omega, rfl, by go_num, rfl, rfl, by rw [HEN.out]; exact HRL.out.same _ (by simp) (.inr (.inl rfl)), HS2.out⟩
          · subst h
            · skip
              by_cases hb : bad < 0
              · go_wp2_with fail
                go_roundg (8 - (k + 1))
                case measure => omega
                case rel => exact ⟨k + 1, [118], (k : Int), _, by omega, by omega, rfl, by go_num, rfl, rfl, by rw [HEN.out]; exact HRL.out.other (by omega) (by simp) (by simp) (by simp) hb, HS2.out⟩
              · go_wp2_with fail
                go_roundg (8 - (k + 1))
                case measure => omega
                case rel => exact ⟨k + 1, [118], bad, _, by omega, by omega, rfl, by go_num, rfl, rfl, by rw [HEN.out]; exact HRL.out.same _ (by simp) (.inr (.inr (by omega))), HS2.out⟩
        · subst h
          go_wp2_with fail
          refine (law9_name [97] (k : Int) _).mono ?_
          rintro e w6 ⟨rfl, hb6⟩
          have HB6 := Lib.hid hb6
          have q0 := (hb6.block _ (by simp)).trans (heap_sec w5 _ _)
          have c0 := cell_at (i := 0) q0; have c1 := cell_at (i := 1) q0; have c2 := cell_at (i := 2) q0; have c3 := cell_at (i := 3) q0
          have f0 := frozen_at (i := 0) q0; have f1 := frozen_at (i := 1) q0; have f2 := frozen_at (i := 2) q0; have f3 := frozen_at (i := 3) q0
          have l0 := lt_at q0
          have HQ0 := Lib.hid q0
          clear q0 hb6
          go_upto_region 14 with fail
          obtain ⟨w7, hw7⟩ : ∃ w7 : World, w7 = (((((w6.setCell ⟨w5.heap.size + 1, 0, none⟩ (.int .i64 5)).setCell ⟨w5.heap.size + 1, 1, none⟩ (.string ⟨#[118]⟩)).setCell ⟨w5.heap.size + 1, 2, none⟩ (.slice (some ⟨w6.heap.size, 0, none⟩) 1 1)).setCell ⟨w5.heap.size + 1, 3, none⟩ (.int .i64 0)).alloc (.cells #[.string ⟨#[97]⟩, .bool false, .int .i64 0, .int .i64 (k : Int)] 40)) := ⟨_, rfl⟩
          rw [← hw7]
          have hq7 : w7.heap[w5.heap.size + 1]? = some (.cells #[.int .i64 5, .string ⟨#[118]⟩, .slice (some ⟨w6.heap.size, 0, none⟩) 1 1, .int .i64 0] 43 (0, 0)) := by
            rw [hw7]
            exact heap_old (heap_setCell_at (heap_setCell_at (heap_setCell_at (heap_setCell_at HQ0.out)))) _
          have hsz6 : wr.heap.size ≤ w5.heap.size + 1 ∧ w5.heap.size + 1 < w6.heap.size := by
            have h1 := HB5.out.size; have h2 := HB6.out.size
            simp only [World.size_alloc] at h2
            omega
          have HB7 : Hid (Below wr.heap.size wr w7) := Lib.hid (by
            rw [hw7]
            have h1 : Below wr.heap.size wr w6 := ((HB5.out.alloc HB5.out.size _).alloc (by have := HB5.out.size; simp only [World.size_alloc]; omega) _).trans (HB6.out.mono (by simp only [World.size_alloc]; omega))
            exact ((((h1.setCell (p := ⟨w5.heap.size + 1, 0, none⟩) hsz6.1 _).setCell (p := ⟨w5.heap.size + 1, 1, none⟩) hsz6.1 _).setCell (p := ⟨w5.heap.size + 1, 2, none⟩) hsz6.1 _).setCell (p := ⟨w5.heap.size + 1, 3, none⟩) hsz6.1 _).alloc (by show wr.heap.size ≤ _; simp only [World.setCell, Array.size_modify]; omega) _)
          have HS7 : Hid (w7.heap[w6.heap.size]? = some (.cells #[.string ⟨#[97]⟩, .bool false, .int .i64 0, .int .i64 (k : Int)] 40 (0, 0))) := Lib.hid (by
            have h := heap_last ((((w6.setCell ⟨w5.heap.size + 1, 0, none⟩ (.int .i64 5)).setCell ⟨w5.heap.size + 1, 1, none⟩ (.string ⟨#[118]⟩)).setCell ⟨w5.heap.size + 1, 2, none⟩ (.slice (some ⟨w6.heap.size, 0, none⟩) 1 1)).setCell ⟨w5.heap.size + 1, 3, none⟩ (.int .i64 0)) (.cells #[.string ⟨#[97]⟩, .bool false, .int .i64 0, .int .i64 (k : Int)] 40)
            rw [show ((((w6.setCell ⟨w5.heap.size + 1, 0, none⟩ (.int .i64 5)).setCell ⟨w5.heap.size + 1, 1, none⟩ (.string ⟨#[118]⟩)).setCell ⟨w5.heap.size + 1, 2, none⟩ (.slice (some ⟨w6.heap.size, 0, none⟩) 1 1)).setCell ⟨w5.heap.size + 1, 3, none⟩ (.int .i64 0)).heap.size = w6.heap.size by simp [World.setCell]] at h
            rw [hw7]
            exact h)
          have HSZ := Lib.hid hsz6
          obtain ⟨⟨x1, x2⟩, x3⟩ := HSK.out w7 (Kp.of_below HB7.out (fun _ hk _ => hk))
          have d0 := cell_at (i := 0) hq7; have d1 := cell_at (i := 1) hq7; have d2 := cell_at (i := 2) hq7; have d3 := cell_at (i := 3) hq7
          have l7 := lt_at hq7
          clear hw7 hq7 hsz6 c0 c1 c2 c3 f0 f1 f2 f3 l0
          go_upto_region 15 with (at_builtin; refine wpList_append_lies _ rfl _ _ 26 rfl W.heap.size 43 id0 _ 4 56 Tryd.underlying26 hid0 hdz0 hdz1 hdz2 rfl (by decide) _ _ _ rfl ((ownsRow_below HO.out HB7.out).alloc _) ⟨w7.heap.size, 0, none⟩ 1 1 (declC (.slice (some ⟨w6.heap.size, 0, none⟩) 1 1) ⟨5, [118], [⟨[97], false, 0, (k : Int)⟩], 0⟩) rfl rfl (World.news_of_block (cs := #[.int .i64 5, .string ⟨#[118]⟩, .slice (some ⟨w6.heap.size, 0, none⟩) 1 1, .int .i64 0]) (t := 43) (fr := (0, 0)) (heap_last w7 _)) (by simp [Value.oneCell', declC]) (by omega) (by unfold maxLen; omega) (by omega) (by have := HB7.out.size; have := HWS.out; simp only [World.size_alloc]; omega) _ rfl ?_; intro g2 c2 w8 hown2 hgrow2 hat2 hlt2; have HG8 := Lib.hid hgrow2; have HO8 := Lib.hid hown2; obtain ⟨⟨z1, z2⟩, hl8⟩ := HSK.out w8 ((((Kp.of_below HB7.out (fun _ hk _ => hk)) : Kp (fun b => b = bs) wr w7).alloc _).grown hgrow2 (fun c hc hs => HNB.out c hc (.inl hs))); clear hgrow2 hown2 hat2)
          have hk8 : Kp (fun b => b = bs ∨ b = bt) wr w8 := (((Kp.of_below HB7.out (fun _ hk _ => hk)) : Kp (fun b => b = bs ∨ b = bt) wr w7).alloc _).grown HG8.out (fun c hc hs => HNB.out c hc hs)
          have hk9 : Kp (fun b => b < W.heap.size) wr w8 := (((Kp.of_below HB7.out (fun _ hk _ => hk)) : Kp (fun b => b < W.heap.size) wr w7).alloc _).grown HG8.out (fun c hc hs => HLO.out c hc hs)
          have kg : KpT (fun t => t ≠ 43) _ w8 := KpT.grown ((ownsRow_below HO.out HB7.out).alloc _) HG8.out
          have kt8 : KpT (fun t => t ≠ 43) wr w8 := ((KpT.below HB7.out).alloc _).trans kg
          have hsy := ownsRow_kpT (owns_block (B := W.heap.size) (size := 4) (n := 1) (heap_old HS7.out _) (by have := HWS.out; have := HSZ.out; omega) rfl (by decide)) kg (by decide)
          have HEN : Hid (Sp.tagEnt true l (k + 1) = Sp.tagEnt true l k ++ [([118], (k : Int))]) := Lib.hid (by rw [Sp.tagEnt_non HN.out (by rw [HTN.out]; simp), HTN.out])
          have hs2 := HST.out.step (d := ⟨5, [118], [⟨[97], false, 0, (k : Int)⟩], 0⟩) HND.out HCH.out hk8 hk9 kt8 hsy HO8.out rfl
          rw [show ⟨5, [118], [⟨[97], false, 0, (k : Int)⟩], 0⟩ = Sp.tagFn true ([118], (k : Int)) from rfl, ← List.map_singleton (f := Sp.tagFn true), ← List.map_append, ← HEN.out] at hs2
          have HS2 := Lib.hid hs2
          clear hk8 hk9 kg kt8 hsy hs2
          rcases (HRL.out : Sp.TagRel _ _ _).1 with h | h | h
          · subst h
            · skip
              go_wp2_with fail
              go_roundg (8 - (k + 1))
              case measure => omega
              case rel => exact ⟨k + 1, [118], bad, _, by omega, by omega, rfl, by go_num, rfl, rfl, by rw [HEN.out]; exact HRL.out.first HTT.out _, HS2.out⟩
          · subst h
            · skip
              by_cases hb : bad < 0
              · go_wp2_with fail
                go_roundg (8 - (k + 1))
                case measure => omega
                case rel => exact ⟨k + 1, [117], (k : Int), _, by omega, by omega, rfl, by go_num, rfl, rfl, by rw [HEN.out]; exact HRL.out.other (by omega) (by simp) (by simp) (by simp) hb, HS2.out⟩
              · go_wp2_with fail
                go_roundg (8 - (k + 1))
                case measure => omega
                case rel => exact ⟨k + 1, [117], bad, _, by omega, by omega, rfl, by go_num, rfl, rfl, by rw [HEN.out]; exact HRL.out.same _ (by simp) (.inr (.inr (by omega))), HS2.out⟩
          · subst h
            · skip
              go_wp2_with fail
              go_roundg (8 - (k + 1))
              case measure => omega
              case rel => exact ⟨k + 1, [118], bad, _, by omega, by omega, rfl, by go_num, rfl, rfl, by rw [HEN.out]; exact HRL.out.same _ (by simp) (.inr (.inl rfl)), HS2.out⟩
    · have hex : (k < l.length ∧ k = 8) ∨ ¬ k < l.length := by omega
      have q0 := hst.st.src
      have c0 := cell_at (i := 0) q0; have c1 := cell_at (i := 1) q0; have c2 := cell_at (i := 2) q0; have c3 := cell_at (i := 3) q0
      have lb := lt_at q0
      have hof := gram_Of (Sp.tagSrc (Sp.tagFn non) (Sp.tagEnt non l k)) dv (.slice (some ⟨br, 0, none⟩) 1 1) wr (decls_at hst.st.decls) (rules_at hst.st.rules) (tag_small non l k hk8) (HG.out.up hst.bel (by have := HG.out.2.1; have := HBS.out; omega))
      have HBW := Lib.hid hst.bel
      have hm : ∀ q ∈ Sp.tagEnt non l k, Sp.isTag q.1 ∧ (non = true → Sp.isTag2 q.1) := fun q hq => Sp.tagEnt_mem hq
      have hcs : (0 ≤ bad ∧ Sp.gramOf (Sp.tagSrc (Sp.tagFn non) (Sp.tagEnt non l k)) = (Sp.noGram, ⟨3, bad, if non = true then [97] else [120]⟩)) ∨ (¬ 0 ≤ bad ∧ Sp.gramOf (Sp.tagSrc (Sp.tagFn non) (Sp.tagEnt non l k)) = (if non = true then Sp.nonGram want else Sp.tokGram want, ⟨0, 0, []⟩)) := by
        by_cases hb : 0 ≤ bad
        · exact .inl ⟨hb, HRL.out.bad non hm hb⟩
        · exact .inr ⟨hb, HRL.out.fine non hm hb⟩
      have HCS := Lib.hid hcs; have HOF := Lib.hid hof; have HWT : Hid (Sp.isTag want) := Lib.hid HRL.out.1
      clear hcs hof hst q0 hm hkn hkl
      rcases hex with ⟨hx, rfl⟩ | hx
      all_goals
        clear HRL HST
        go_upto_region 19 with fail
        rcases HCS.out with ⟨hb, hg⟩ | ⟨hb, hg⟩
        · have hof := HOF.out
          rw [hg] at hof
          have HOF2 := Lib.hid hof
          clear hof hg HCS HOF
          go_wp2_with fail
          refine HOF2.out.mono ?_
          rintro e w2 ⟨hb2, gv, rfl, hgo⟩
          obtain ⟨B, ta, tc, na, nc, pa, pc, rfl, _⟩ := hgo
          have HEND : Hid (∀ wa, Below w2.heap.size w2 wa → ∀ wb, Below wa.heap.size wa wb → Below W.heap.size W wb) := Lib.hid (fun wa ha wb hb => ((HBW.out.trans (hb2.mono HBW.out.size)).trans (ha.mono (Nat.le_trans HBW.out.size hb2.size))).trans (hb.mono (Nat.le_trans (Nat.le_trans HBW.out.size hb2.size) ha.size)))
          clear hb2 c0 c1 c2 c3 lb
          cases non with
          | false =>
            rw [show faultV (Sp.noGram, (⟨3, bad, if false = true then [97] else [120]⟩ : Sp.Fault)).2 = .agg #[.int .i64 3, .int .i64 bad, .string ⟨#[120]⟩] from rfl]
            go_wp2_with fail
            refine (ref_EqFaultG 3 bad 3 bad [120] [120] _).mono ?_
            rintro e w3 ⟨rfl, hb3⟩
            rw [show decide (((3 : Int) = 3 ∧ bad = bad) ∧ ([120] : List UInt8) = [120]) = true by simp]
            go_wp2_with fail
            go_ret
            exact ⟨rfl, HEND.out _ (((Below.refl _ w2).alloc (Nat.le_refl _) _).alloc (by simp) _) _ hb3⟩
          | true =>
            rw [show faultV (Sp.noGram, (⟨3, bad, if true = true then [97] else [120]⟩ : Sp.Fault)).2 = .agg #[.int .i64 3, .int .i64 bad, .string ⟨#[97]⟩] from rfl]
            go_wp2_with fail
            refine (ref_EqFaultG 3 bad 3 bad [97] [97] _).mono ?_
            rintro e w3 ⟨rfl, hb3⟩
            rw [show decide (((3 : Int) = 3 ∧ bad = bad) ∧ ([97] : List UInt8) = [97]) = true by simp]
            go_wp2_with fail
            go_ret
            exact ⟨rfl, HEND.out _ (((Below.refl _ w2).alloc (Nat.le_refl _) _).alloc (by simp) _) _ hb3⟩
        · have hof := HOF.out
          rw [hg] at hof
          have HOF2 := Lib.hid hof
          clear hof hg HCS HOF
          have hbI : bad < 0 := by omega
          go_wp2_with fail
          refine HOF2.out.mono ?_
          rintro e w2 ⟨hb2, gv, rfl, hgo⟩
          have hga := hgo.at
          obtain ⟨B, ta, tc, na, nc, pa, pc, rfl, _⟩ := hgo
          have HEND : Hid (∀ wa, Below w2.heap.size w2 wa → ∀ wb, Below wa.heap.size wa wb → Below W.heap.size W wb) := Lib.hid (fun wa ha wb hb => ((HBW.out.trans (hb2.mono HBW.out.size)).trans (ha.mono (Nat.le_trans HBW.out.size hb2.size))).trans (hb.mono (Nat.le_trans (Nat.le_trans HBW.out.size hb2.size) ha.size)))
          obtain ⟨tv, nv, pv, ev, ht, hn, _⟩ := hga
          replace ev := Value.agg.inj ev
          simp only [Array.mk.injEq, List.cons.injEq] at ev
          obtain ⟨rfl, rfl, rfl, ev'⟩ := ev
          clear ev' hb2 c0 c1 c2 c3 lb
          cases non with
          | false =>
            simp only [Bool.false_eq_true, if_false] at ht hn ⊢
            rw [show (Sp.tokGram want).toks.length = 4 from rfl] at ht ⊢
            rw [show (Sp.tokGram want).nons.length = 2 from rfl] at hn ⊢
            rw [show (Sp.tokGram want).prods.length = 2 from rfl]
            obtain ⟨bT, oT, rfl, htb, htc⟩ := ht.at (k := 3) (row := tokC ⟨[120], true, 120, 0, 0, want⟩) (by rfl)
            obtain ⟨bN, oN, rfl, hnb, hnc⟩ := hn.at (k := 1) (row := nonC ⟨[97], []⟩) (by rfl)
            have t5 := htc w2 (Below.refl _ _) 5 _ rfl
            have n1 := hnc w2 (Below.refl _ _) 1 _ rfl
            simp only [Nat.reduceMul] at t5 n1
            clear ht hn htc hnc
            rw [show faultV (Sp.tokGram want, (⟨0, 0, []⟩ : Sp.Fault)).2 = .agg #[.int .i64 0, .int .i64 0, .string ⟨#[]⟩] from rfl]
            go_wp2_with fail
            go_ret
            exact ⟨rfl, HEND.out _ (((Below.refl _ w2).alloc (Nat.le_refl _) _).alloc (by simp) _) _ (Below.refl _ _)⟩
          | true =>
            simp only [if_true] at ht hn ⊢
            rw [show (Sp.nonGram want).toks.length = 4 from rfl] at ht ⊢
            rw [show (Sp.nonGram want).nons.length = 2 from rfl] at hn ⊢
            rw [show (Sp.nonGram want).prods.length = 2 from rfl]
            obtain ⟨bT, oT, rfl, htb, htc⟩ := ht.at (k := 3) (row := tokC ⟨[120], true, 120, 0, 0, []⟩) (by rfl)
            obtain ⟨bN, oN, rfl, hnb, hnc⟩ := hn.at (k := 1) (row := nonC ⟨[97], want⟩) (by rfl)
            have t5 := htc w2 (Below.refl _ _) 5 _ rfl
            have n1 := hnc w2 (Below.refl _ _) 1 _ rfl
            simp only [Nat.reduceMul] at t5 n1
            clear ht hn htc hnc
            rw [show faultV (Sp.nonGram want, (⟨0, 0, []⟩ : Sp.Fault)).2 = .agg #[.int .i64 0, .int .i64 0, .string ⟨#[]⟩] from rfl]
            go_wp2_with fail
            go_ret
            exact ⟨rfl, HEND.out _ (((Below.refl _ w2).alloc (Nat.le_refl _) _).alloc (by simp) _) _ (Below.refl _ _)⟩
end Go.Proofs.YthmimcegiihcnaaDoor
