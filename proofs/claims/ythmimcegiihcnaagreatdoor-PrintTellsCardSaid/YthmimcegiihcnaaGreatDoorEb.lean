/- Layer 8, the reference: texts. -/
import Derived.Test.YthmimcegiihcnaaGreatDoorEa
import Derived.Test.YthmimcegiihcnaaGreatDoorBZ
namespace Go.Proofs.YthmimcegiihcnaaGreatDoor
namespace Sp
open Go.Lib (index indexByte hasPrefix)

/-! ### The reference's texts -/
def symText (s : Sym) : List UInt8 := if s.lit = true then quoteText (s.name.headD 0) else s.name
def refSymT (s : Sym) : List UInt8 := 32 :: (symText s ++ if 0 < s.num then 32 :: Go.Lib.itoa s.num else [])
def refDeclT (d : Decl) : List UInt8 := keys.getD (d.kind - 1).toNat [] ++ (if d.tag = [] then [] else 32 :: 60 :: (d.tag ++ [62])) ++ d.syms.flatMap refSymT ++ [10]
def refPartT (p : Part) : List UInt8 := 32 :: (if p.code = [] then symText p.sym else p.code)
def refAltT (a : Alt) : List UInt8 := a.parts.flatMap refPartT ++ (if isNone a.prec = true then [] else [32, 37, 112, 114, 101, 99, 32] ++ symText a.prec)
def refAltsT : Nat → List Alt → List UInt8
  | _, [] => []
  | k, a :: l => (if k = 0 then [] else [32, 124]) ++ refAltT a ++ refAltsT (k + 1) l
def refRuleT (r : Rule) : List UInt8 := r.left ++ [32, 58] ++ refAltsT 0 r.alts ++ [32, 59, 10]
def refText (x : Source) : List UInt8 :=
  if may x = false then [] else
  (if x.pro = [] then [] else 37 :: 123 :: (x.pro ++ [37, 125, 10])) ++ x.decls.flatMap refDeclT ++ [37, 37, 10] ++ x.rules.flatMap refRuleT ++ (if x.tail = [] then [] else 37 :: 37 :: x.tail)
theorem joinSp_cons (w : List UInt8) (ws : List (List UInt8)) : joinSp (w :: ws) = w ++ ws.flatMap (32 :: ·) := by
  induction ws generalizing w with
  | nil => simp [joinSp]
  | cons v l ih => rw [joinSp, ih]; simp
theorem flatMap_flatMap {α β γ : Type} (l : List α) (f : α → List β) (g : β → List γ) : (l.flatMap f).flatMap g = l.flatMap fun a => (f a).flatMap g := by
  induction l with
  | nil => rfl
  | cons a l ih => simp [ih]
theorem flatMap_ext {α β : Type} (l : List α) (f g : α → List β) (h : ∀ a ∈ l, f a = g a) : l.flatMap f = l.flatMap g := by
  induction l with
  | nil => rfl
  | cons a l ih => simp only [List.flatMap_cons]; rw [h a (by simp), ih (fun b hb => h b (by simp [hb]))]
theorem maySym_num {k : Int} {s : Sym} (h : maySym k s = true) : (s.lit = true → s.num = 0) ∧ 0 ≤ s.num := by
  unfold maySym at h
  split at h
  · simp at h
  · split at h
    · simp at h
    · rename_i h2
      by_cases h0 : s.num = 0
      · simp [h0]
      · constructor
        · intro hl
          exact absurd ⟨h0, .inr (.inl hl)⟩ h2
        · have : ¬ s.num < 1 := fun hl => h2 ⟨h0, .inr (.inr (.inl hl))⟩
          omega
theorem bare_num {s : Sym} (h : isBare s = true) : s.num = 0 := by
  unfold isBare at h; simp at h; exact h.2
theorem symWords_text (s : Sym) (h : (s.lit = true → s.num = 0) ∧ 0 ≤ s.num) : (symWords s).flatMap (32 :: ·) = refSymT s := by
  unfold symWords refSymT symText
  by_cases hl : s.lit = true
  · have := h.1 hl
    simp [hl, this]
  · by_cases h0 : s.num = 0
    · simp [hl, h0]
    · have : 0 < s.num := by have := h.2; omega
      simp [hl, h0, this]
theorem symWords_bare (s : Sym) (h : s.num = 0) : symWords s = [symText s] := by
  unfold symWords symText
  by_cases hl : s.lit = true <;> simp [hl, h]
theorem mayDecl_syms {d : Decl} (h : mayDecl d = true) : ∀ s ∈ d.syms, maySym d.kind s = true := by
  unfold mayDecl at h
  split at h
  · simp at h
  · split at h
    · simp at h
    · split at h
      · simp at h
      · simpa using h
theorem refDeclT_eq (d : Decl) (h : mayDecl d = true) : joinSp (declWords d) ++ [10] = refDeclT d := by
  unfold declWords refDeclT
  simp only [List.cons_append]
  rw [joinSp_cons, List.flatMap_append, flatMap_flatMap, flatMap_ext d.syms _ refSymT (fun s hs => symWords_text s (maySym_num (mayDecl_syms h s hs)))]
  by_cases ht : d.tag = [] <;> simp [ht]
theorem mayAlt_parts {a : Alt} (h : mayAlt a = true) : (∀ p ∈ a.parts, mayPart p = true) ∧ (isNone a.prec = false → a.prec.num = 0) := by
  unfold mayAlt at h
  simp only [Bool.and_eq_true, List.all_eq_true, Bool.or_eq_true] at h
  refine ⟨h.2, fun hn => ?_⟩
  rcases h.1 with h1 | h1
  · rw [hn] at h1; simp at h1
  · exact bare_num h1
theorem refAltT_eq (a : Alt) (h : mayAlt a = true) : (altWords a).flatMap (32 :: ·) = refAltT a := by
  obtain ⟨h1, h2⟩ := mayAlt_parts h
  unfold altWords refAltT
  rw [List.flatMap_append, flatMap_flatMap, flatMap_ext a.parts _ refPartT (fun p hp => by
    have hm := h1 p hp
    unfold partWords refPartT
    by_cases hc : p.code = []
    · unfold mayPart at hm
      rw [if_pos hc] at hm
      rw [if_pos hc, if_pos hc, symWords_bare _ (bare_num hm)]
      simp
    · rw [if_neg hc, if_neg hc]
      simp)]
  cases hn : isNone a.prec
  · rw [symWords_bare _ (h2 hn)]
    simp
  · simp
theorem refAltsT_eq : ∀ (l : List Alt) (k : Nat), (∀ a ∈ l, mayAlt a = true) → 0 < k → (altsWords k l).flatMap (32 :: ·) = refAltsT k l
  | [], _, _, _ => rfl
  | a :: l, k, h, hk => by
    have ih := refAltsT_eq l (k + 1) (fun b hb => h b (by simp [hb])) (by omega)
    have hk0 : ¬ k = 0 := by omega
    simp only [altsWords, refAltsT, if_neg hk0, List.cons_append, List.flatMap_cons, List.flatMap_append, ih, refAltT_eq a (h a (by simp)), List.append_assoc]
theorem refRuleT_eq (r : Rule) (h : mayRule r = true) : joinSp (ruleWords r) ++ [10] = refRuleT r := by
  unfold mayRule at h
  simp only [Bool.and_eq_true, decide_eq_true_eq, List.all_eq_true] at h
  obtain ⟨⟨_, hlen⟩, ha⟩ := h
  obtain ⟨lf, al, at_⟩ := r
  simp only at hlen ha
  unfold ruleWords refRuleT
  cases al with
  | nil => simp at hlen
  | cons a l =>
    have ih := refAltsT_eq l 1 (fun b hb => ha b (by simp [hb])) (by omega)
    rw [joinSp_cons]
    simp only [altsWords, refAltsT, if_pos, List.cons_append, List.flatMap_cons, List.flatMap_append, Nat.zero_add, ih, refAltT_eq a (ha a (by simp)), List.append_assoc]
    simp
theorem refText_eq (x : Source) : refText x = text x := by
  unfold refText text
  cases hm : may x
  · simp
  · have h := hm
    unfold may at h
    simp only [Bool.and_eq_true, List.all_eq_true] at h
    obtain ⟨⟨_, hd⟩, hr⟩ := h
    rw [flatMap_ext x.decls _ refDeclT (fun d hdd => refDeclT_eq d (hd d hdd)), flatMap_ext x.rules _ refRuleT (fun r hrr => refRuleT_eq r (hr r hrr))]
end Sp
open Go.RowKit

def litOk (s : Sp.Sym) : Prop := s.lit = true → s.name ≠ []
set_option maxHeartbeats 800000 in
theorem ref7_symText (s : Sp.Sym) (W : World) (hs : litOk s) :
    Calls Tryz.prog 39 #[symV s] W fun e w' => e = .returned (.string ⟨(Sp.symText s).toArray⟩) ∧ Below W.heap.size W w' := by
  obtain ⟨nm, lt, nu, pa⟩ := s
  have HB := Lib.hid (fun o : Obj => (Below.refl _ W).alloc (Nat.le_refl _) o)
  show Calls _ _ #[.agg #[.string ⟨nm.toArray⟩, .bool lt, .int .i64 nu, .int .i64 pa]] _ _
  cases lt with
  | false =>
    go_enter Tryz.func39, Tryz.ntmps39
    go_wp2_with fail
    go_ret
    exact ⟨rfl, HB.out _⟩
  | true =>
    obtain ⟨c, u, rfl⟩ : ∃ c u, nm = c :: u := by cases nm with | nil => exact absurd rfl (hs rfl) | cons c u => exact ⟨c, u, rfl⟩
    have HQ := Lib.hid (fun w => ref_Quote c w)
    have hq : Sp.symText ⟨c :: u, true, nu, pa⟩ = Sp.quoteText c := rfl
    rw [hq]
    generalize Sp.quoteText c = T at HQ
    clear hq hs
    go_enter Tryz.func39, Tryz.ntmps39
    go_wp2_with fail
    refine (HQ.out _).mono ?_
    rintro e w' ⟨rfl, hb⟩
    have HB' := Lib.hid ((HB.out _).trans (hb.mono (by simp)))
    clear hb
    go_wp2_with fail
    go_ret
    exact ⟨rfl, HB'.out⟩

def txtPart (p : Sp.Part) : Prop := p.code = [] → litOk p.sym
def txtAlt (a : Sp.Alt) : Prop := (∀ p ∈ a.parts, txtPart p) ∧ (Sp.isNone a.prec = false → litOk a.prec)
set_option maxRecDepth 100000 in
set_option maxHeartbeats 3200000 in
theorem ref7_altText (a : Sp.Alt) (v : Value) (W : World) (hsl : SlAt W v 6 (a.parts.map partC)) (hs : txtAlt a) (hn : a.parts.length ≤ 4000) (hR : (Sp.refAltT a).length ≤ 100000000) :
    Calls Tryz.prog 41 #[.agg (altC v a).toArray] W fun e w' => e = .returned (.string ⟨(Sp.refAltT a).toArray⟩) ∧ Below W.heap.size W w' := by
  obtain ⟨hs1, hs2⟩ := hs
  obtain ⟨ps, ⟨nm, lt, nu, pa⟩, pb⟩ := a
  simp only at hs1 hs2 hsl hn
  have HNO := Lib.hid (fun w => ref7_none ⟨nm, lt, nu, pa⟩ w)
  generalize hTL : (if Sp.isNone ⟨nm, lt, nu, pa⟩ = true then ([] : List UInt8) else [32, 37, 112, 114, 101, 99, 32] ++ Sp.symText ⟨nm, lt, nu, pa⟩) = TL
  generalize hT : Sp.refAltT ⟨ps, ⟨nm, lt, nu, pa⟩, pb⟩ = T at hR
  have hT' : ps.flatMap Sp.refPartT ++ TL = T := by rw [← hT, ← hTL]; rfl
  have HPT := Lib.hid (fun w (hn : Sp.isNone ⟨nm, lt, nu, pa⟩ = false) => ref7_symText ⟨nm, lt, nu, pa⟩ w (hs2 hn))
  have HSY := Lib.hid (fun (p : Sp.Part) (hp : p ∈ ps) (hc : p.code = []) w => ref7_symText p.sym w (hs1 p hp hc))
  obtain ⟨av, cap, rfl⟩ := hsl.form
  have HSL := Lib.hid hsl
  have HT := Lib.hid hT'
  have HTL := Lib.hid hTL
  rw [List.length_map] at *
  generalize hnl : ps.length = n at *
  have HNL := Lib.hid hnl
  clear hsl hs1 hs2 hT hT' hTL hnl
  show Calls _ _ #[.agg #[.slice av n cap, .string ⟨nm.toArray⟩, .bool lt, .int .i64 nu, .int .i64 pa, .int .i64 pb]] _ _
  go_enter Tryz.func41, Tryz.ntmps41
  go_wp2_with fail
  go_loopg [3, 4] n (fun g sv iv wr => ∃ (k : Nat) (acc : List UInt8), k ≤ n ∧ g = n - k ∧ iv = .int .i64 k ∧ sv = .string ⟨acc.toArray⟩ ∧ acc ++ ((ps.drop k).flatMap Sp.refPartT ++ TL) = T ∧ Below (W.heap.size + 1) (W.alloc (.cells #[.slice av n cap, .string ⟨nm.toArray⟩, .bool lt, .int .i64 nu, .int .i64 pa, .int .i64 pb] 52)) wr)
  case atStart => exact ⟨0, [], Nat.zero_le _, rfl, rfl, rfl, HT.out, Below.refl _ _⟩
  case round =>
    obtain ⟨k, acc, hk, rfl, rfl, rfl, hi, hbel⟩ := hrel
    have HI := Lib.hid hi
    have hal : acc.length ≤ 100000000 := by have h := congrArg List.length hi; rw [List.length_append] at h; omega
    have hF := (hbel.block W.heap.size (by omega)).trans (heap_last W _)
    have c0 := cell_at (i := 0) hF; have c1 := cell_at (i := 1) hF; have c2 := cell_at (i := 2) hF; have c3 := cell_at (i := 3) hF; have c4 := cell_at (i := 4) hF
    have hl1 := lt_at hF
    have HF := Lib.hid hF
    have HB := Lib.hid hbel
    have hk0 : (0 : Int) ≤ (k : Int) := Int.natCast_nonneg _
    clear hi hF hbel
    by_cases hkn : k < n
    · have hkl : k < ps.length := by have := HNL.out; omega
      have hp : ps[k]? = some ps[k] := List.getElem?_eq_getElem hkl
      have hmem : ps[k] ∈ ps := List.getElem_mem hkl
      have hdr : ps.drop k = ps[k] :: ps.drop (k + 1) := List.drop_eq_getElem_cons hkl
      generalize ps[k] = p at *
      obtain ⟨b, off, rfl, hbl, hc⟩ := HSL.out.at (k := k) (row := partC p) (by rw [List.getElem?_map, hp]; rfl)
      have hcc := hc _ (below_box HB.out)
      obtain ⟨⟨snm, slt, snu, spa⟩, cd, pc⟩ := p
      have a0 := hcc 0 _ rfl; have a1 := hcc 1 _ rfl; have a2 := hcc 2 _ rfl; have a3 := hcc 3 _ rfl; have a4 := hcc 4 _ rfl
      simp only [Nat.add_zero] at a0
      have hk1 : (k : Int) < (n : Int) := by omega
      have hi := HI.out
      rw [hdr, List.flatMap_cons] at hi
      have HI2 := Lib.hid hi
      have hpl : acc.length + (Sp.refPartT ⟨⟨snm, slt, snu, spa⟩, cd, pc⟩).length ≤ 100000000 := by have h := congrArg List.length hi; simp only [List.length_append] at h; omega
      cases cd with
      | cons x xs =>
        have hpt : Sp.refPartT ⟨⟨snm, slt, snu, spa⟩, x :: xs, pc⟩ = 32 :: x :: xs := rfl
        rw [hpt] at hpl
        have HPL := Lib.hid hpt
        simp only [List.length_cons] at hpl
        clear hc hcc hp hmem hdr hi HI hpt
        go_wp2_with fail
        go_roundg (n - (k + 1))
        case measure => omega
        case rel => exact ⟨k + 1, acc ++ 32 :: x :: xs, by omega, rfl, by go_num, str_eq (by simp), by have h := HI2.out; rw [HPL.out] at h; simpa using h, HB.out⟩
      | nil =>
        have hpt : Sp.refPartT ⟨⟨snm, slt, snu, spa⟩, [], pc⟩ = 32 :: Sp.symText ⟨snm, slt, snu, spa⟩ := rfl
        have HCS := Lib.hid (fun w => HSY.out _ hmem rfl w)
        generalize Sp.symText ⟨snm, slt, snu, spa⟩ = ST at HCS hpt
        rw [hpt] at hpl
        have HPL := Lib.hid hpt
        simp only [List.length_cons] at hpl
        clear hc hcc hp hmem hdr hi HI hpt
        go_wp2_with fail
        refine (HCS.out _).mono ?_
        rintro e w' ⟨rfl, hb'⟩
        have HB' := Lib.hid (HB.out.trans (hb'.mono (by have := HB.out.size; simp at this; omega)))
        clear hb'
        go_wp2_with fail
        go_roundg (n - (k + 1))
        case measure => omega
        case rel => exact ⟨k + 1, acc ++ 32 :: ST, by omega, rfl, by go_num, str_eq (by simp), by have h := HI2.out; rw [HPL.out] at h; simpa using h, HB'.out⟩
    · obtain rfl : k = n := by omega
      have hdn : ps.drop k = [] := List.drop_of_length_le (by have := HNL.out; omega)
      have hi := HI.out
      rw [hdn, List.flatMap_nil, List.nil_append] at hi
      have HI2 := Lib.hid hi
      clear hi HI hdn
      go_wp2_with fail
      refine (HNO.out _).mono ?_
      rintro e w' ⟨rfl, hb'⟩
      have HB' := Lib.hid (HB.out.trans (hb'.mono (by have := HB.out.size; simp at this; omega)))
      have hF := (hb'.block W.heap.size hl1).trans HF.out
      have d1 := cell_at (i := 1) hF; have d2 := cell_at (i := 2) hF; have d3 := cell_at (i := 3) hF; have d4 := cell_at (i := 4) hF
      have hl2 := lt_at hF
      clear hb' hF
      cases hno : Sp.isNone ⟨nm, lt, nu, pa⟩ with
      | true =>
        have hTL := HTL.out
        rw [if_pos hno] at hTL
        have HTL2 := Lib.hid hTL
        clear hTL hno
        go_wp2_with fail
        go_ret
        refine ⟨?_, below_box HB'.out⟩
        rw [← HI2.out, ← HTL2.out, List.append_nil]
        rfl
      | false =>
        have HPT2 := Lib.hid (fun w => HPT.out w hno)
        have hTL := HTL.out
        rw [if_neg (by rw [hno]; simp)] at hTL
        have hlen : acc.length + 7 + (Sp.symText ⟨nm, lt, nu, pa⟩).length ≤ 100000000 := by
          have h := congrArg List.length HI2.out
          rw [← hTL] at h
          simp only [List.length_append, List.length_cons, List.length_nil] at h
          omega
        generalize Sp.symText ⟨nm, lt, nu, pa⟩ = ST at HPT2 hTL hlen
        have HTL2 := Lib.hid hTL
        clear hTL hno
        go_wp2_with fail
        refine (HPT2.out _).mono ?_
        rintro e w' ⟨rfl, hb'⟩
        have HB2 := Lib.hid (HB'.out.trans (hb'.mono (by have := HB'.out.size; simp at this; omega)))
        clear hb'
        go_wp2_with fail
        go_ret
        refine ⟨?_, below_box HB2.out⟩
        rw [← HI2.out, ← HTL2.out]
        exact congrArg Ending.returned (str_eq (by simp))
end Go.Proofs.YthmimcegiihcnaaGreatDoor
