/- Rows of a call's own: sources' declarations and rules; slices out of blocks. (Stood in Ei, Dl, Eu.) -/
import Derived.Test.YthmimcegiihcnaaDoorDe
import Derived.Test.YthmimcegiihcnaaDoorEp
namespace Go.Proofs.YthmimcegiihcnaaDoor
open Go.RowKit

/-! ### Rows of the call's own -/
theorem info_symE : (Tryd.prog.info? 40).map (fun i => (i.zero, i.size, i.bytes)) = some (some (.agg #[.string ⟨#[]⟩, .bool false, .int .i64 0, .int .i64 0]), 4, 40) := by kernel_rfl
theorem info_declE : (Tryd.prog.info? 43).map (fun i => (i.zero, i.size, i.bytes)) = some (some (.agg #[.int .i64 0, .string ⟨#[]⟩, .slice none 0 0, .int .i64 0]), 4, 56) := by kernel_rfl
theorem info_partE : (Tryd.prog.info? 46).map (fun i => (i.zero, i.size, i.bytes)) = some (some (.agg #[.string ⟨#[]⟩, .bool false, .int .i64 0, .int .i64 0, .string ⟨#[]⟩, .int .i64 0]), 6, 64) := by kernel_rfl
theorem info_altE : (Tryd.prog.info? 49).map (fun i => (i.zero, i.size, i.bytes)) = some (some (.agg #[.slice none 0 0, .string ⟨#[]⟩, .bool false, .int .i64 0, .int .i64 0, .int .i64 0]), 6, 72) := by kernel_rfl
theorem info_ruleE : (Tryd.prog.info? 52).map (fun i => (i.zero, i.size, i.bytes)) = some (some (.agg #[.string ⟨#[]⟩, .slice none 0 0, .int .i64 0]), 3, 48) := by kernel_rfl
def symsOwn (w : World) (v : Value) (d : Sp.Decl) : Prop := ∃ base, w.ownsRow base 40 4 v d.syms.length (d.syms.map symC).flatten
def partsOwn (w : World) (v : Value) (a : Sp.Alt) : Prop := ∃ base, w.ownsRow base 46 6 v a.parts.length (a.parts.map partC).flatten
abbrev DeclsOwn := OwnR declC 43 4 symsOwn
abbrev AltsOwn := OwnR altC 49 6 partsOwn
def altsOwn (w : World) (v : Value) (r : Sp.Rule) : Prop := ∃ base, AltsOwn base w v r.alts
abbrev RulesOwn := OwnR ruleC 52 3 altsOwn
theorem flat_snoc {α : Type} (f : α → List Value) (l : List α) (k : Nat) (a : α) (h : l[k]? = some a) (g : α → α) : (((l.take (k + 1)).map g).map f).flatten = (((l.take k).map g).map f).flatten ++ f (g a) := by
  rw [List.take_add_one, h]
  simp
theorem decls_at {B : Nat} {w : World} {v : Value} {l : List Sp.Decl} (h : DeclsOwn B w v l) : DeclsAt w v l := by
  obtain ⟨f, h1, h2⟩ := h.slAt (fun _ _ => rfl)
  refine ⟨f, h1, fun i d hd => ?_⟩
  obtain ⟨base, ho⟩ := h2 i d hd
  exact slAt_of_owns _ (fun r hr => by obtain ⟨s, _, rfl⟩ := List.mem_map.1 hr; rfl) (by rw [List.length_map]) ho
theorem alts_at {B : Nat} {w : World} {v : Value} {l : List Sp.Alt} (h : AltsOwn B w v l) : AltsAt w v l := by
  obtain ⟨f, h1, h2⟩ := h.slAt (fun _ _ => rfl)
  refine ⟨f, h1, fun i d hd => ?_⟩
  obtain ⟨base, ho⟩ := h2 i d hd
  exact slAt_of_owns _ (fun r hr => by obtain ⟨s, _, rfl⟩ := List.mem_map.1 hr; rfl) (by rw [List.length_map]) ho
theorem rules_at {B : Nat} {w : World} {v : Value} {l : List Sp.Rule} (h : RulesOwn B w v l) : RulesAt w v l := by
  obtain ⟨f, h1, h2⟩ := h.slAt (fun _ _ => rfl)
  refine ⟨f, h1, fun i d hd => ?_⟩
  obtain ⟨base, ho⟩ := h2 i d hd
  exact alts_at ho
theorem symsOwn_kp {T : TypeId → Prop} {w w' : World} (k : KpT T w w') (ht : T 40) (u : Value) (d : Sp.Decl) (h : symsOwn w u d) : symsOwn w' u d := by
  obtain ⟨b, h⟩ := h
  exact ⟨b, ownsRow_kpT h k ht⟩
theorem partsOwn_kp {T : TypeId → Prop} {w w' : World} (k : KpT T w w') (ht : T 46) (u : Value) (d : Sp.Alt) (h : partsOwn w u d) : partsOwn w' u d := by
  obtain ⟨b, h⟩ := h
  exact ⟨b, ownsRow_kpT h k ht⟩
theorem altsOwn_kp {T : TypeId → Prop} {w w' : World} (k : KpT T w w') (ht : T 46) (ht2 : T 49) (u : Value) (d : Sp.Rule) (h : altsOwn w u d) : altsOwn w' u d := by
  obtain ⟨b, h⟩ := h
  exact ⟨b, h.kp k ht2 (partsOwn_kp k ht)⟩
theorem decls_kp {T : TypeId → Prop} {B : Nat} {w w' : World} {v : Value} {l : List Sp.Decl} (h : DeclsOwn B w v l) (k : KpT T w w') (ht : T 40) (ht2 : T 43) : DeclsOwn B w' v l := h.kp k ht2 (symsOwn_kp k ht)
theorem alts_kp {T : TypeId → Prop} {B : Nat} {w w' : World} {v : Value} {l : List Sp.Alt} (h : AltsOwn B w v l) (k : KpT T w w') (ht : T 46) (ht2 : T 49) : AltsOwn B w' v l := h.kp k ht2 (partsOwn_kp k ht)
theorem rules_kp {T : TypeId → Prop} {B : Nat} {w w' : World} {v : Value} {l : List Sp.Rule} (h : RulesOwn B w v l) (k : KpT T w w') (ht : T 46) (ht2 : T 49) (ht3 : T 52) : RulesOwn B w' v l := h.kp k ht3 (altsOwn_kp k ht ht2)
theorem slAt_block {w : World} {b : Nat} {e : TypeId} (rows : List (List Value)) (size : Nat) (hrows : ∀ r ∈ rows, r.length = size) (h : w.heap[b]? = some (.cells rows.flatten.toArray e (0, 0))) (hm : rows.length ≤ maxLen) : SlAt w (.slice (some ⟨b, 0, none⟩) rows.length rows.length) size rows := by
  have hl : rows.flatten.length = rows.length * size := by
    clear h hm
    induction rows with
    | nil => simp
    | cons r rows ih => rw [List.flatten_cons, List.length_append, ih (fun x hx => hrows x (by simp [hx])), hrows r (by simp), List.length_cons, Nat.succ_mul, Nat.add_comm]
  exact slAt_of_owns (base := 0) (e := e) rows hrows rfl ⟨hl, .inr ⟨b, rows.length, _, rfl, Nat.zero_le _, h, Nat.le_refl _, hm, by simpa using hl, by rw [List.toList_toArray]; exact List.take_of_length_le (by rw [hl]; exact Nat.le_refl _)⟩⟩
theorem decls_none (w : World) : DeclsAt w (.slice none 0 0) [] := ⟨fun _ => .nilFunc, .inl ⟨rfl, none, 0, rfl⟩, by simp⟩
theorem rules_none (w : World) : RulesAt w (.slice none 0 0) [] := ⟨fun _ => .nilFunc, .inl ⟨rfl, none, 0, rfl⟩, by simp⟩
def IntsAt (w : World) (v : Value) (xs : List Int) : Prop := SlAt w v 1 (xs.map fun x => [Value.int .i64 x])
end Go.Proofs.YthmimcegiihcnaaDoor
