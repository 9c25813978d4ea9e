/- The walks of lex.between, lex.number. The walks of lex.number, lex.percent. The walk of lex.word. The walk of lex.word: an action's text; the word whole. The walk of lex.Words. The walks of the reference's between, Quoted, Quote, Take. -/
import Derived.Test.YthmimcegiihcnaaDoorCa
import Derived.Test.YthmimcegiihcnaaDoorBZ
import Derived.Test.YthmimcegiihcnaaDoorW1
import Derived.Lib.SlicesS
import Derived.Test.YthmimcegiihcnaaDoorBY
import Derived.Test.YthmimcegiihcnaaDoorSpZ
namespace Go.Proofs.YthmimcegiihcnaaDoor
open Go.RowKit

theorem ext_ext (s : ByteArray) (k j : Nat) : ((s.extract k s.size).extract j (s.size - k)).data.toList = s.data.toList.drop (k + j) := by
  rw [ext_any, ext_end, List.drop_drop, List.take_of_length_le (by simp; omega)]
theorem blank_at (c : UInt8) : (Sp.blank c = true ∧ 0 ≤ Lib.indexByte [32, 9, 10, 13] c) ∨ (Sp.blank c = false ∧ Lib.indexByte [32, 9, 10, 13] c < 0) := by
  by_cases h1 : c = 32
  · subst h1; left; decide
  by_cases h2 : c = 9
  · subst h2; left; decide
  by_cases h3 : c = 10
  · subst h3; left; decide
  by_cases h4 : c = 13
  · subst h4; left; decide
  right
  have key : ∀ x : UInt8, ¬ c = x → ((c.toNat : Int) == (x.toNat : Int)) = false := by
    intro x hx
    rw [← Bool.not_eq_true]
    exact fun h => hx ((Sp.byte_eq c x).2 h)
  have key2 : ∀ x : UInt8, ¬ c = x → ¬ ((x.toNat : Int) == (c.toNat : Int)) = true := fun x hx h => hx ((Sp.byte_eq x c).2 h).symm
  constructor
  · have e1 : ((c.toNat : Int) == 32) = false := key 32 h1
    have e2 : ((c.toNat : Int) == 9) = false := key 9 h2
    have e3 : ((c.toNat : Int) == 10) = false := key 10 h3
    have e4 : ((c.toNat : Int) == 13) = false := key 13 h4
    unfold Sp.blank
    rw [e1, e2, e3, e4]; rfl
  · rw [Sp.indexByte_cons, if_neg (key2 _ h1), Sp.indexByte_cons, if_neg (key2 _ h2), Sp.indexByte_cons, if_neg (key2 _ h3), Sp.indexByte_cons, if_neg (key2 _ h4)]
    simp [Lib.indexByte]
theorem gap_cons (c : UInt8) (t : List UInt8) : Sp.gap (c :: t) = if Sp.blank c = true then some 1 else if ((c.toNat : Int) == 47) = true then Sp.passLen (c :: t) else some 0 := rfl
theorem gap_line {r : List UInt8} (h : Lib.hasPrefix r [47, 47] = true) : Sp.gap r = some (Sp.line r) ∧ 2 ≤ Sp.line r := by
  rcases r with _ | ⟨a, _ | ⟨b, t⟩⟩
  · simp [Lib.hasPrefix, List.isPrefixOf] at h
  · simp [Lib.hasPrefix, List.isPrefixOf] at h
  · simp [Lib.hasPrefix, List.isPrefixOf] at h
    obtain ⟨rfl, rfl⟩ := h
    have h1 : Lib.hasPrefix (47 :: 47 :: t) [47, 47] = true := by simp [Lib.hasPrefix, List.isPrefixOf]
    rw [gap_cons, if_neg (by decide), if_pos (by decide), Sp.passLen_cons, if_neg (by decide), if_neg (by decide), if_neg (Sp.slash_not_star h1), if_pos h1]
    refine ⟨rfl, ?_⟩
    rw [Sp.line_slash, Sp.line_slash]
    omega
theorem gap_rem {r : List UInt8} (h : Lib.hasPrefix r [47, 42] = true) : Sp.gap r = (Sp.upto (r.drop 2) [42, 47]).map (· + 2) ∧ 2 ≤ r.length := by
  rcases r with _ | ⟨a, _ | ⟨b, t⟩⟩
  · simp [Lib.hasPrefix, List.isPrefixOf] at h
  · simp [Lib.hasPrefix, List.isPrefixOf] at h
  · simp [Lib.hasPrefix, List.isPrefixOf] at h
    obtain ⟨rfl, rfl⟩ := h
    rw [gap_cons, if_neg (by decide), if_pos (by decide), Sp.passLen_cons, if_neg (by decide), if_neg (by decide), if_pos (by simp [Lib.hasPrefix, List.isPrefixOf])]
    exact ⟨rfl, by simp⟩
theorem gap_none {c : UInt8} {t : List UInt8} (hb : Sp.blank c = false) (h1 : Lib.hasPrefix (c :: t) [47, 47] = false) (h2 : Lib.hasPrefix (c :: t) [47, 42] = false) : Sp.gap (c :: t) = some 0 := by
  rw [gap_cons, if_neg (by rw [hb]; decide)]
  split
  · rename_i hc
    have hc : c = 47 := (Sp.byte_eq c 47).2 hc
    subst hc
    rw [Sp.passLen_cons, if_neg (by decide), if_neg (by decide), if_neg (by rw [h2]; decide), if_neg (by rw [h1]; decide)]
  · rfl
theorem blank_not_slash {c : UInt8} {t : List UInt8} (hb : Sp.blank c = true) : Sp.gap (c :: t) = some 1 := by rw [gap_cons, if_pos hb]
theorem ret_ib {a a' : Int} {b b' : Bool} (h1 : a = a') (h2 : b = b') : Ending.returned (.tuple #[.int .i64 a, .bool b]) = .returned (.tuple #[.int .i64 a', .bool b']) := by rw [h1, h2]
theorem strings_IndexByte_b (l : List UInt8) (c : UInt8) (w : World) :
    Calls Tryd.prog 105 #[.string ⟨l.toArray⟩, .int .u8 (c.toNat : Int)] w fun e w' => e = .returned (.int .i64 (Lib.indexByte l c)) ∧ w = w' := by
  have := strings_IndexByte_gl ⟨l.toArray⟩ (c.toNat : Int) w
  have e : ((c.toNat : Int)).toNat.toUInt8 = c := by simp
  rw [e] at this
  have e2 : (⟨l.toArray⟩ : ByteArray).data.toList = l := by simp
  rwa [e2] at this

end Go.Proofs.YthmimcegiihcnaaDoor

namespace Go.Proofs.YthmimcegiihcnaaDoor
open Go.RowKit

theorem digits_span_eq (l : List UInt8) : Sp.span Sp.digit l = Sp.digits l := (Sp.digits_span l).symm
theorem alphas_span_eq (l : List UInt8) : Sp.span Sp.alpha l = Sp.alphas l := (Sp.alphas_span l).symm

/-- A word as a value, its place not yet laid. -/
def wordV (p : Int × List UInt8 × Nat) : Value := .agg #[.int .i64 p.1, .string ⟨p.2.1.toArray⟩, .int .i64 0]
theorem keys_contains (x : ByteArray) : Lib.containsS [⟨#[37, 116, 111, 107, 101, 110]⟩, ⟨#[37, 108, 101, 102, 116]⟩, ⟨#[37, 114, 105, 103, 104, 116]⟩, ⟨#[37, 110, 111, 110, 97, 115, 115, 111, 99]⟩, ⟨#[37, 116, 121, 112, 101]⟩, ⟨#[37, 115, 116, 97, 114, 116]⟩, ⟨#[37, 112, 114, 101, 99]⟩] x = Sp.keys.contains x.data.toList := by
  rw [Bool.eq_iff_iff, Lib.containsS_iff, List.contains_iff_mem]
  have e : ∀ l : List UInt8, x = ⟨l.toArray⟩ ↔ x.data.toList = l := by
    intro l
    constructor
    · rintro rfl; rfl
    · intro h; rw [← h]
  unfold Sp.keys
  simp only [List.mem_cons, List.not_mem_nil, or_false]
  rw [show (⟨#[37, 116, 111, 107, 101, 110]⟩ : ByteArray) = ⟨([37, 116, 111, 107, 101, 110] : List UInt8).toArray⟩ from rfl, show (⟨#[37, 108, 101, 102, 116]⟩ : ByteArray) = ⟨([37, 108, 101, 102, 116] : List UInt8).toArray⟩ from rfl,
    show (⟨#[37, 114, 105, 103, 104, 116]⟩ : ByteArray) = ⟨([37, 114, 105, 103, 104, 116] : List UInt8).toArray⟩ from rfl, show (⟨#[37, 110, 111, 110, 97, 115, 115, 111, 99]⟩ : ByteArray) = ⟨([37, 110, 111, 110, 97, 115, 115, 111, 99] : List UInt8).toArray⟩ from rfl,
    show (⟨#[37, 116, 121, 112, 101]⟩ : ByteArray) = ⟨([37, 116, 121, 112, 101] : List UInt8).toArray⟩ from rfl, show (⟨#[37, 115, 116, 97, 114, 116]⟩ : ByteArray) = ⟨([37, 115, 116, 97, 114, 116] : List UInt8).toArray⟩ from rfl, show (⟨#[37, 112, 114, 101, 99]⟩ : ByteArray) = ⟨([37, 112, 114, 101, 99] : List UInt8).toArray⟩ from rfl]
  rw [e, e, e, e, e, e, e]

theorem heap_alloc_of2 {w : World} {b : Nat} {o : Obj} (h : w.heap[b]? = some o) (x : Obj) : (w.alloc x).heap[b]? = some o := (Below.heap_alloc _ _ _ (lt_at h)).trans h
def keysB : List ByteArray := [⟨#[37, 116, 111, 107, 101, 110]⟩, ⟨#[37, 108, 101, 102, 116]⟩, ⟨#[37, 114, 105, 103, 104, 116]⟩, ⟨#[37, 110, 111, 110, 97, 115, 115, 111, 99]⟩, ⟨#[37, 116, 121, 112, 101]⟩, ⟨#[37, 115, 116, 97, 114, 116]⟩, ⟨#[37, 112, 114, 101, 99]⟩]
theorem keys_cells (w : World) (n : Nat) (hn : n = w.heap.size) : ∀ j, j < keysB.length → (w.alloc (.cells #[.string ⟨#[37, 116, 111, 107, 101, 110]⟩, .string ⟨#[37, 108, 101, 102, 116]⟩, .string ⟨#[37, 114, 105, 103, 104, 116]⟩, .string ⟨#[37, 110, 111, 110, 97, 115, 115, 111, 99]⟩, .string ⟨#[37, 116, 121, 112, 101]⟩, .string ⟨#[37, 115, 116, 97, 114, 116]⟩, .string ⟨#[37, 112, 114, 101, 99]⟩] 9)).cell? ⟨n, 0 + j, none⟩ = some (.string (keysB.getD j ByteArray.empty)) := by
  subst hn
  intro j hj
  have hj' : j < 7 := hj
  rw [cell_at (heap_last w _)]
  rcases j with _ | _ | _ | _ | _ | _ | _ | j
  · rfl
  · rfl
  · rfl
  · rfl
  · rfl
  · rfl
  · rfl
  · omega
theorem percent_eq (r : List UInt8) : Sp.percent r =
  if Lib.hasPrefix r [37, 37] = true then (7, [37, 37], 2)
  else if Lib.hasPrefix r [37, 123] = true then (if 0 ≤ Lib.index (r.drop 2) [37, 125] then (9, (r.drop 2).take (Lib.index (r.drop 2) [37, 125]).toNat, (Lib.index (r.drop 2) [37, 125]).toNat + 4) else Sp.noWord)
  else if Sp.keys.contains (r.take (1 + Sp.alphas (r.drop 1))) = true then (5, r.take (1 + Sp.alphas (r.drop 1)), 1 + Sp.alphas (r.drop 1))
  else Sp.noWord := by
  unfold Sp.percent
  split
  · rfl
  · split
    · unfold Sp.upto
      by_cases h : 0 ≤ Lib.index (r.drop 2) [37, 125]
      · rw [if_pos h, if_pos h]; simp
      · rw [if_neg h, if_neg h]
    · rfl

end Go.Proofs.YthmimcegiihcnaaDoor

namespace Go.Proofs.YthmimcegiihcnaaDoor
open Go.RowKit

/-- What lex.word leaves. -/
def WordPost (p : Int × List UInt8 × Nat) (w : World) (e : Ending) (w' : World) : Prop := e = .returned (.tuple #[wordV p, .int .i64 p.2.2]) ∧ Below w.heap.size w w'

theorem heap_last_drewN (w : World) (o : Obj) (n : Nat) : ((w.alloc o).drewN n).heap[w.heap.size]? = some o := heap_last w o
section
variable (s : ByteArray) (at_ : Nat) (w : World)
theorem ext_size (a : Nat) : (s.extract a s.size).size = s.size - a := by simp
theorem ext_get (a : Nat) (h : a < s.size) : (s.extract a s.size)[0]'(by simp; omega) = s[a] := by
  have h1 := ext_end s a
  rw [drop_at s a h] at h1
  have h2 := drop_at (s.extract a s.size) 0 (by simp; omega)
  rw [List.drop_zero, h1] at h2
  exact (List.cons.inj h2).1.symm
theorem ext_take (a n : Nat) : (⟨((s.data.toList.drop a).take n).toArray⟩ : ByteArray) = s.extract a (a + n) := by rw [Lib.extract_eq, Nat.add_sub_cancel_left]
theorem ext_ext2 (a i j : Nat) (h : a + j ≤ s.size) : (s.extract a s.size).extract i j = s.extract (a + i) (a + j) := by
  apply ByteArray.ext
  apply Array.ext'
  rw [Lib.extract_data, ext_end, Lib.extract_data, List.drop_drop]
  congr 1
  omega

/-- A byte that begins no name and no number. -/
theorem not_letter {c : UInt8} (hl : Sp.letter c = false) : Sp.alpha c = false ∧ ((c.toNat : Int) == 95) = false := by
  rw [Sp.letter_alpha] at hl
  constructor
  · cases h : Sp.alpha c <;> simp_all
  · cases h : ((c.toNat : Int) == 95) <;> simp_all

end
end Go.Proofs.YthmimcegiihcnaaDoor

namespace Go.Proofs.YthmimcegiihcnaaDoor
open Go.RowKit
section
variable (s : ByteArray) (at_ : Nat) (w : World)
end
end Go.Proofs.YthmimcegiihcnaaDoor

namespace Go.Proofs.YthmimcegiihcnaaDoor
open Go.RowKit

def wordC (x : Sp.Word) : List Value := [.int .i64 x.kind, .string ⟨x.text.toArray⟩, .int .i64 x.at_]
theorem ownsRow_old {w w' : World} {base : Nat} {e : TypeId} {size : Nat} {v : Value} {n : Nat} {xs : List Value} (h : w.ownsRow base e size v n xs) (k : Kp (fun k => k < w.heap.size) w w') : w'.ownsRow base e size v n xs :=
  ownsRow_kp h k (fun b hb => (h.lt b hb).2)
theorem new_cells_at (w : World) (cs : List Value) (t : TypeId) (n : Nat) (hn : n = w.heap.size) : ∀ j u, cs[j]? = some u → (w.alloc (.cells cs.toArray t)).cell? ((⟨n, 0, none⟩ : Addr).add j) = some u := by
  subst hn; exact new_cells w cs t
section
variable {P : Program} {fn : Func} {R : Ending → World → Prop} {a : Act} {W : World} {g : Nat} {t ty : TypeId} {cs : Array Value} {fr : Nat × Nat} {d : TypeDesc} {p u : Tmp}
theorem ret_tmp_cell (hf : fn.results = #[.tmp u, .cell p ty]) (hp : a.tmps.getD p undef = .pointer (some ⟨g, 0, none⟩)) (hg : W.heap[g]? = some (.cells cs t fr))
    (hd : (match d with | .struct _ | .array _ _ => true | _ => false) = true) (hu : P.underlying ty = some d) (hi : (P.info? ty).map (·.size) = some cs.size)
    (hdef : a.defers = []) (hR : R (.returned (.tuple #[a.tmps.getD u undef, .agg cs])) W) : bodyPost P fn R .ret a W := by
  refine bodyPost_ret ?_ hdef hR
  have hl := run_loadVar_row (P := P) W g t ty cs fr d hg hu (by cases d <;> simp_all) hi
  have hp' : a.tmps[p]?.getD undef = .pointer (some ⟨g, 0, none⟩) := by simpa using hp
  simp [results, hf, hp', asAddr, hl]
end

end Go.Proofs.YthmimcegiihcnaaDoor

namespace Go.Proofs.YthmimcegiihcnaaDoor
open Go.RowKit

/-- May a byte stand in quotes; its sign behind a backslash. -/
def quotedR (c : UInt8) : UInt8 × Bool := if c = 10 then (110, true) else if c = 9 then (116, true) else if c = 13 then (114, true) else if c = 92 then (92, true) else if c = 39 then (39, true) else (0, decide (32 ≤ c.toNat) && decide (c.toNat ≤ 126))
theorem byte_ne {c x : UInt8} (h : ¬ c = x) : ((c.toNat : Int) == (x.toNat : Int)) = false := by
  rw [← Bool.not_eq_true]; exact fun e => h ((Sp.byte_eq c x).2 e)
theorem ret_ub {a a' : Int} {x x' : Bool} (h1 : a = a') (h2 : x = x') : Ending.returned (.tuple #[.int .u8 a, .bool x]) = .returned (.tuple #[.int .u8 a', .bool x']) := by rw [h1, h2]
set_option maxHeartbeats 800000 in
theorem ref_Quoted (c : UInt8) (w : World) :
    Calls Tryd.prog 54 #[.int .u8 (c.toNat : Int)] w fun e w' => e = .returned (.tuple #[.int .u8 ((quotedR c).1.toNat : Int), .bool (quotedR c).2]) ∧ w = w' := by
  by_cases h1 : c = 10
  · subst h1
    go_enter Tryd.func54, Tryd.ntmps54
    go_wp2
    go_ret2
    exact ⟨rfl, rfl⟩
  by_cases h2 : c = 9
  · subst h2
    go_enter Tryd.func54, Tryd.ntmps54
    go_wp2
    go_ret2
    exact ⟨rfl, rfl⟩
  by_cases h3 : c = 13
  · subst h3
    go_enter Tryd.func54, Tryd.ntmps54
    go_wp2
    go_ret2
    exact ⟨rfl, rfl⟩
  by_cases h4 : c = 92
  · subst h4
    go_enter Tryd.func54, Tryd.ntmps54
    go_wp2
    go_ret2
    exact ⟨rfl, rfl⟩
  by_cases h5 : c = 39
  · subst h5
    go_enter Tryd.func54, Tryd.ntmps54
    go_wp2
    go_ret2
    exact ⟨rfl, rfl⟩
  have hq : quotedR c = (0, decide (32 ≤ c.toNat) && decide (c.toNat ≤ 126)) := by
    unfold quotedR
    rw [if_neg h1, if_neg h2, if_neg h3, if_neg h4, if_neg h5]
  rw [hq]
  have e1 : ((c.toNat : Int) == 10) = false := byte_ne (x := 10) h1
  have e2 : ((c.toNat : Int) == 9) = false := byte_ne (x := 9) h2
  have e3 : ((c.toNat : Int) == 13) = false := byte_ne (x := 13) h3
  have e4 : ((c.toNat : Int) == 92) = false := byte_ne (x := 92) h4
  have e5 : ((c.toNat : Int) == 39) = false := byte_ne (x := 39) h5
  clear hq h1 h2 h3 h4 h5
  go_enter Tryd.func54, Tryd.ntmps54
  go_wp2
  all_goals
    go_ret2
    exact ⟨ret_ub rfl (Bool.eq_iff_iff.2 (by simp; omega)), rfl⟩

theorem quoteText_quoted (c : UInt8) : Sp.quoteText c = if (quotedR c).2 = false then [] else if ((quotedR c).1.toNat : Int) != 0 then [39, 92, (quotedR c).1, 39] else [39, c, 39] := by
  by_cases h1 : c = 10
  · subst h1; rfl
  by_cases h2 : c = 9
  · subst h2; rfl
  by_cases h3 : c = 13
  · subst h3; rfl
  by_cases h4 : c = 92
  · subst h4; rfl
  by_cases h5 : c = 39
  · subst h5; rfl
  have hq : quotedR c = (0, decide (32 ≤ c.toNat) && decide (c.toNat ≤ 126)) := by
    unfold quotedR
    rw [if_neg h1, if_neg h2, if_neg h3, if_neg h4, if_neg h5]
  have e4 : ((c.toNat : Int) == 92) = false := byte_ne (x := 92) h4
  have e5 : ((c.toNat : Int) == 39) = false := byte_ne (x := 39) h5
  have hp : Sp.plainq c = (decide (32 ≤ c.toNat) && decide (c.toNat ≤ 126)) := by
    unfold Sp.plainq
    rw [e4, e5]; simp
  unfold Sp.quoteText
  rw [if_neg h1, if_neg h2, if_neg h3, if_neg h4, if_neg h5, hq, hp]
  cases decide (32 ≤ c.toNat) && decide (c.toNat ≤ 126) <;> rfl

set_option maxHeartbeats 800000 in
theorem ref_Quote (c : UInt8) (w : World) :
    Calls Tryd.prog 19 #[.int .u8 (c.toNat : Int)] w fun e w' => e = .returned (.string ⟨(Sp.quoteText c).toArray⟩) ∧ Below w.heap.size w w' := by
  have hN := quoteText_quoted c
  have HQ := Lib.hid (fun W => ref_Quoted c W)
  generalize Sp.quoteText c = N at hN
  generalize quotedR c = q at hN HQ
  obtain ⟨d, b⟩ := q
  simp only at hN HQ
  cases b with
  | false =>
    rw [if_pos rfl] at hN
    subst hN
    go_enter Tryd.func19, Tryd.ntmps19
    go_wp2_with (go_at_call 54; refine (HQ.out _).mono ?_; rintro e w' ⟨rfl, rfl⟩)
    go_ret
    exact ⟨rfl, Below.refl _ _⟩
  | true =>
    rw [if_neg (by decide)] at hN
    cases hd : ((d.toNat : Int) != 0) with
    | true =>
      rw [hd, if_pos rfl] at hN
      have HN := Lib.hid hN
      have hcv := convert_one w d
      clear hN
      go_enter Tryd.func19, Tryd.ntmps19
      go_wp2_with (go_at_call 54; refine (HQ.out _).mono ?_; rintro e w' ⟨rfl, rfl⟩)
      go_ret
      exact ⟨by rw [HN.out]; rfl, (Below.refl _ _).alloc (Nat.le_refl _) _⟩
    | false =>
      rw [hd, if_neg (by decide)] at hN
      have HN := Lib.hid hN
      have hcv := convert_one w c
      clear hN
      go_enter Tryd.func19, Tryd.ntmps19
      go_wp2_with (go_at_call 54; refine (HQ.out _).mono ?_; rintro e w' ⟨rfl, rfl⟩)
      go_ret
      exact ⟨by rw [HN.out]; rfl, (Below.refl _ _).alloc (Nat.le_refl _) _⟩
theorem ref_Quote_nat (k : Nat) (hk : k < 256) (w : World) :
    Calls Tryd.prog 19 #[.int .u8 (k : Int)] w fun e w' => e = .returned (.string ⟨(Sp.quoteText (UInt8.ofNat k)).toArray⟩) ∧ Below w.heap.size w w' := by
  have h := ref_Quote (UInt8.ofNat k) w
  rw [UInt8.toNat_ofNat_of_lt' (by have : UInt8.size = 256 := rfl; omega)] at h
  exact h

/-- No byte in quotes below a number stands there. -/
def noneBelow (r : List UInt8) (k : Nat) : Prop := ∀ c : UInt8, c.toNat < k → ¬ (Sp.quoteText c ≠ [] ∧ Lib.hasPrefix r (Sp.quoteText c) = true)
theorem noneBelow.start (r : List UInt8) : noneBelow r 9 := by
  intro c hc h
  have := Sp.quoteText_range c h.1
  omega
theorem noneBelow.step {r : List UInt8} {k : Nat} (h : noneBelow r k) (hk : k < 256) (h' : ¬ (Sp.quoteText (UInt8.ofNat k) ≠ [] ∧ Lib.hasPrefix r (Sp.quoteText (UInt8.ofNat k)) = true)) : noneBelow r (k + 1) := by
  intro c hc
  rcases Nat.lt_or_ge c.toNat k with h1 | h1
  · exact h c h1
  · have : c = UInt8.ofNat k := by
      apply UInt8.toNat_inj.1
      rw [UInt8.toNat_ofNat_of_lt' (by have : UInt8.size = 256 := rfl; omega)]
      omega
    rw [this]; exact h'
theorem noneBelow.out {r : List UInt8} {k : Nat} (h : noneBelow r k) (hk : 127 ≤ k) : Sp.charTake r = none := by
  cases hc : Sp.charTake r with
  | none => rfl
  | some p =>
    obtain ⟨c, n⟩ := p
    obtain ⟨h1, h2, _⟩ := Sp.charTake_some r c n hc
    have := Sp.quoteText_range c h1
    exact absurd ⟨h1, h2⟩ (h c (by omega))
end Go.Proofs.YthmimcegiihcnaaDoor
