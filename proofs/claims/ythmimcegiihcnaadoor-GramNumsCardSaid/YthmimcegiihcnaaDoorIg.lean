/- Sources that the statements of layer 9 make: their box, their rows, as they grow. -/
import Derived.Test.YthmimcegiihcnaaDoorId
namespace Go.Proofs.YthmimcegiihcnaaDoor
open Go.RowKit Go.Maps

set_option maxHeartbeats 1600000 in
theorem ref_Within9 (i : Int) (n : Nat) (w : World) (hn : 0 < n) (hb : n ≤ 60000) (hi : (Lit.int .i64 i).wf = true) :
    Calls Tryd.prog 23 #[.int .i64 i, .int .i64 n] w fun e w' => e = .returned (.int .i64 (i % (n : Int))) ∧ w = w' := by
  have h1 := Int.tmod_lt_of_pos i (b := (n : Int)) (by omega)
  have h2 : -(n : Int) < i.tmod n := by
    by_cases hi : 0 ≤ i
    · have := Int.tmod_nonneg (n : Int) hi; omega
    · have := Int.tmod_lt_of_pos (-i) (b := (n : Int)) (by omega)
      rw [Int.neg_tmod] at this; omega
  have h3 : i % (n : Int) = if i.tmod n < 0 then i.tmod n + n else i.tmod n := by
    have e1 := Int.mul_tdiv_add_tmod i n
    split
    · refine Int.emod_eq_of_lt (a := i.tmod n + n) (b := (n : Int)) (by omega) (by omega) ▸ ?_
      conv => lhs; rw [← e1]
      rw [Int.mul_add_emod_self_left, Int.add_emod_right]
    · refine Int.emod_eq_of_lt (a := i.tmod n) (b := (n : Int)) (by omega) (by omega) ▸ ?_
      conv => lhs; rw [← e1]
      rw [Int.mul_add_emod_self_left]
  generalize i % (n : Int) = N at *
  have HN := Lib.hid h3
  clear h3
  go_enter Tryd.func23, Tryd.ntmps23
  go_wp2
  all_goals (go_ret; have h3 := HN.out; refine ⟨ret_int ?_, rfl⟩)
  · rw [if_pos (by omega)] at h3
    rw [h3]
  · rw [if_neg (by omega)] at h3
    rw [h3]

theorem owns_block {w : World} {b B size n : Nat} {e : TypeId} {cs : Array Value} (h : w.heap[b]? = some (.cells cs e (0, 0))) (hb : B ≤ b) (hl : cs.size = n * size) (hm : n ≤ maxLen) : w.ownsRow B e size (.slice (some ⟨b, 0, none⟩) n n) n cs.toList :=
  ⟨by simpa using hl, .inr ⟨b, n, cs, rfl, hb, h, Nat.le_refl _, hm, hl, List.take_of_length_le (by rw [Array.length_toList, hl]; exact Nat.le_refl _)⟩⟩
/-- The source as it is made: its box, its one rule, its one alternative, the parts. -/
structure PassSt (B : Nat) (w : World) (bs br ba : Nat) (dv pv : Value) (ds : List Sp.Decl) (ps : List Sp.Part) : Prop where
  src : w.heap[bs]? = some (.cells #[.string ⟨#[]⟩, dv, .slice (some ⟨br, 0, none⟩) 1 1, .string ⟨#[]⟩] 29 (0, 0))
  rule : w.heap[br]? = some (.cells #[.string ⟨#[97]⟩, .slice (some ⟨ba, 0, none⟩) 1 1, .int .i64 0] 52 (0, 0))
  alt : w.heap[ba]? = some (.cells #[pv, .string ⟨#[]⟩, .bool false, .int .i64 0, .int .i64 0, .int .i64 0] 49 (0, 0))
  parts : w.ownsRow B 46 6 pv ps.length (ps.map partC).flatten
  decls : DeclsOwn B w dv ds
  ge : B ≤ bs ∧ B ≤ br ∧ B ≤ ba
theorem PassSt.rules {B : Nat} {w : World} {bs br ba : Nat} {dv pv : Value} {ds : List Sp.Decl} {ps : List Sp.Part} (h : PassSt B w bs br ba dv pv ds ps) :
    RulesOwn B w (.slice (some ⟨br, 0, none⟩) 1 1) [⟨[97], [⟨ps, ⟨[], false, 0, 0⟩, 0⟩], 0⟩] := by
  refine ⟨fun _ => .slice (some ⟨ba, 0, none⟩) 1 1, owns_block h.rule h.ge.2.1 rfl (by decide), fun i r hr => ?_⟩
  obtain ⟨rfl, rfl⟩ := one_at hr
  refine ⟨B, fun _ => pv, owns_block h.alt h.ge.2.2 rfl (by decide), fun i a ha => ?_⟩
  obtain ⟨rfl, rfl⟩ := one_at ha
  exact ⟨B, h.parts⟩
theorem KpT.of_kp {T : TypeId → Prop} {S : Nat → Prop} {w w' : World} (k : Kp S w w') (h : ∀ b cs t fr, w.heap[b]? = some (.cells cs t fr) → T t → S b) : KpT T w w' := fun b cs t fr hb ht => (k.block b (lt_at hb) (h b cs t fr hb ht)).trans hb
/-- A part more. -/
theorem PassSt.addPart {B : Nat} {w w8 w' : World} {bs br ba : Nat} {pv pv' : Value} {ps : List Sp.Part} {p : Sp.Part} (h : PassSt B w bs br ba (.slice none 0 0) pv [] ps) (hk : Kp (fun b => b = bs ∨ b = br ∨ b = ba) w w8) (hown : w8.ownsRow B 46 6 pv' (ps.length + 1) ((ps.map partC).flatten ++ partC p)) (hw : w' = w8.setCell ⟨ba, 0, none⟩ pv') :
    PassSt B w' bs br ba (.slice none 0 0) pv' [] (ps ++ [p]) := by
  subst hw
  have hne1 : bs ≠ ba := by
    rintro rfl
    have := h.src.symm.trans h.alt
    simp at this
  have hne2 : br ≠ ba := by
    rintro rfl
    have := h.rule.symm.trans h.alt
    simp at this
  have hal := hk.at h.alt (.inr (.inr rfl))
  refine ⟨(Below.heap_setCell _ _ _ _ hne1).trans (hk.at h.src (.inl rfl)), (Below.heap_setCell _ _ _ _ hne2).trans (hk.at h.rule (.inr (.inl rfl))), heap_setCell_at hal, ?_, OwnR.nil _ _ _ _ _ _, h.ge⟩
  have e : ((ps ++ [p]).map partC).flatten = (ps.map partC).flatten ++ partC p := by simp
  rw [e, List.length_append]
  exact ownsRow_kpT hown (KpT.setCell (T := fun t => t = 46) (fun _ _ _ _ h _ => h) hal (by decide) _) rfl
/-- The source, its rows. -/
structure PassS2 (B : Nat) (w : World) (bs : Nat) (dv rv : Value) (ds : List Sp.Decl) (rs : List Sp.Rule) : Prop where
  src : w.heap[bs]? = some (.cells #[.string ⟨#[]⟩, dv, rv, .string ⟨#[]⟩] 29 (0, 0))
  decls : DeclsOwn B w dv ds
  rules : RulesOwn B w rv rs
  ge : B ≤ bs
theorem PassS2.setDecls {B : Nat} {w w8 w' : World} {bs : Nat} {dv dv' rv : Value} {ds ds' : List Sp.Decl} {rs : List Sp.Rule} (h : PassS2 B w bs dv rv ds rs) (k : Kp (fun b => b = bs) w w8) (hr : RulesOwn B w8 rv rs) (hd : DeclsOwn B w8 dv' ds') (hw : w' = w8.setCell ⟨bs, 1, none⟩ dv') : PassS2 B w' bs dv' rv ds' rs := by
  subst hw
  have hs := k.at h.src rfl
  have kt : KpT (fun t => t ≠ 29) w8 (w8.setCell ⟨bs, 1, none⟩ dv') := KpT.setCell (fun _ _ _ _ h _ => h) hs (by simp) _
  exact ⟨heap_setCell_at hs, decls_kp hd kt (by decide) (by decide), rules_kp hr kt (by decide) (by decide) (by decide), h.ge⟩
theorem PassS2.setRules {B : Nat} {w w8 w' : World} {bs : Nat} {dv rv rv' : Value} {ds : List Sp.Decl} {rs rs' : List Sp.Rule} (h : PassS2 B w bs dv rv ds rs) (k : Kp (fun b => b = bs) w w8) (hd : DeclsOwn B w8 dv ds) (hr : RulesOwn B w8 rv' rs') (hw : w' = w8.setCell ⟨bs, 2, none⟩ rv') : PassS2 B w' bs dv rv' ds rs' := by
  subst hw
  have hs := k.at h.src rfl
  have kt : KpT (fun t => t ≠ 29) w8 (w8.setCell ⟨bs, 2, none⟩ rv') := KpT.setCell (fun _ _ _ _ h _ => h) hs (by simp) _
  exact ⟨heap_setCell_at hs, decls_kp hd kt (by decide) (by decide), rules_kp hr kt (by decide) (by decide) (by decide), h.ge⟩
theorem PassSt.two {B : Nat} {w : World} {bs br ba : Nat} {dv pv : Value} {ds : List Sp.Decl} {ps : List Sp.Part} (h : PassSt B w bs br ba dv pv ds ps) : PassS2 B w bs dv (.slice (some ⟨br, 0, none⟩) 1 1) ds [⟨[97], [⟨ps, ⟨[], false, 0, 0⟩, 0⟩], 0⟩] := ⟨h.src, h.decls, h.rules, h.ge.1⟩
end Go.Proofs.YthmimcegiihcnaaDoor
