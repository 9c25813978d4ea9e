/- yuccalaw7: wakes. Plain law of ReadRules: 510 texts, read one by one. No program in sight. Arguments that are lists of numbers or of truth values, opened to the cells that the walks read. yuccalaw7: ReadRules. -/
import Derived.Test.YtphdfbmmjkccgaaDoorZ16
import Derived.Test.YtphdfbmmjkccgaaDoorZ03
import Derived.Test.YtphdfbmmjkccgaaDoorZ06
import Derived.Test.YtphdfbmmjkccgaaDoorZ01
import Derived.Test.YtphdfbmmjkccgaaDoorZ02
namespace Go.Proofs.YtphdfbmmjkccgaaDoor
open Go.RowKit Go.Maps

theorem idx_at {α : Type} {row : Value → α → List Value} {f : Nat → Value} {l : List α} {k : Nat} {a : α} (h : l[k]? = some a) : (l.mapIdx fun i a => row (f i) a)[k]? = some (row (f k) a) := by rw [List.getElem?_mapIdx, h]; rfl
set_option maxRecDepth 100000 in
set_option maxHeartbeats 6400000 in
theorem wakes7R (W : World) (hg : Gl W) :
    Calls Tryd.prog 6 #[] W fun e w' => e = .returned (.bool true) ∧ Below W.heap.size W w' := by
  have h1 := read_Read ⟨Sp.wake7.toArray⟩ W (by decide) hg
  rw [show (⟨Sp.wake7.toArray⟩ : ByteArray).data.toList = Sp.wake7 from rfl, Sp.wake7_read] at h1
  have H2 := Lib.hid (fun (w' : World) (hb : Below W.heap.size W w') => (show Calls Tryd.prog 9 #[.string ⟨#[37, 37, 97, 32, 98]⟩] w' (RdReadPost (⟨[], [], [], []⟩, 2, 4) w') from by
    have h := read_Read ⟨#[37, 37, 97, 32, 98]⟩ w' (by decide) (hg.below hb)
    rw [show (⟨#[37, 37, 97, 32, 98]⟩ : ByteArray).data.toList = [37, 37, 97, 32, 98] from rfl, Sp.wake7_bad] at h
    exact h))
  have H1 := Lib.hid h1
  clear h1 hg
  unfold Sp.wake7 at H1
  go_enter Tryd.func6, Tryd.ntmps6
  go_wp2_with fail
  refine H1.out.mono ?_
  rintro e w1 ⟨dv, rv, rfl, ⟨b1, hd⟩, ⟨b2, hr⟩, hb1⟩
  obtain ⟨fd, hdo, hdc⟩ := hd
  obtain ⟨gd, cd, rfl⟩ := own_form hdo (by decide)
  obtain ⟨bs, hso⟩ := hdc 0 _ rfl
  obtain ⟨gs, cs, hsv⟩ := own_form hso (by decide)
  rw [hsv] at hso
  obtain ⟨fr, hro, hrc⟩ := hr
  obtain ⟨gr, cr, rfl⟩ := own_form hro (by decide)
  obtain ⟨ba, fa, hao, hac⟩ := hrc 0 _ rfl
  obtain ⟨ga, ca, hav⟩ := own_form hao (by decide)
  rw [hav] at hao
  obtain ⟨bb, fb, hbo, _⟩ := hrc 1 _ rfl
  obtain ⟨gb, cb, hbv⟩ := own_form hbo (by decide)
  obtain ⟨bp, hpo⟩ := hac 1 _ rfl
  obtain ⟨gp, cp, hpv⟩ := own_form hpo (by decide)
  rw [hpv] at hpo
  have HDO := Lib.hid hdo; have HSO := Lib.hid hso; have HSV := Lib.hid hsv; have HRO := Lib.hid hro; have HAO := Lib.hid hao; have HAV := Lib.hid hav; have HBV := Lib.hid hbv; have HPO := Lib.hid hpo; have HPV := Lib.hid hpv; have HB1 := Lib.hid hb1
  clear hdo hdc hso hsv hro hrc hao hac hav hbo hbv hpo hpv hb1 H1
  dsimp only [srcC, Sp.wake7Src]
  obtain ⟨w2, hw2⟩ : ∃ w2 : World, w2 = (w1.alloc (.cells #[.string ⟨#[]⟩, .slice (some ⟨gd, 0, none⟩) 2 cd, .slice (some ⟨gr, 0, none⟩) 2 cr, .string ⟨#[116, 97, 105, 108]⟩] 29)).alloc (.cells #[.int .i64 0, .int .i64 0, .string ⟨#[]⟩] 32) := ⟨_, rfl⟩
  have hb2 : Below w1.heap.size w1 w2 := by rw [hw2]; exact ((Below.refl _ w1).alloc (Nat.le_refl _) _).alloc (by simp) _
  have hx2 : w2.heap[w1.heap.size]? = some (.cells #[.string ⟨#[]⟩, .slice (some ⟨gd, 0, none⟩) 2 cd, .slice (some ⟨gr, 0, none⟩) 2 cr, .string ⟨#[116, 97, 105, 108]⟩] 29 (0, 0)) := by rw [hw2]; exact heap_fst1 w1 _ _
  have hf2 : w2.heap[w1.heap.size + 1]? = some (.cells #[.int .i64 0, .int .i64 0, .string ⟨#[]⟩] 32 (0, 0)) := by rw [hw2]; exact heap_sec w1 _ _
  have HB2 := Lib.hid hb2; have HX2 := Lib.hid hx2; have HF2 := Lib.hid hf2
  clear hb2 hx2 hf2
  go_upto_region 2 with fail
  rw [← hw2]
  clear hw2
  go_wp2_with fail
  refine (H2.out w2 (HB1.out.trans (HB2.out.mono HB1.out.size))).mono ?_
  rintro e w3 ⟨dv2, rv2, rfl, ⟨b3, f3, hd3, _⟩, ⟨b4, f4, hr3, _⟩, hb3⟩
  obtain ⟨da2, dc2, rfl⟩ := ownsRowS_some hd3
  obtain ⟨ra2, rc2, rfl⟩ := ownsRowS_some hr3
  have hb13 := HB2.out.trans (hb3.mono HB2.out.size)
  have hx := (hb3.block _ (lt_at HX2.out)).trans HX2.out
  have hf := (hb3.block _ (lt_at HF2.out)).trans HF2.out
  have hdo := ownsRow_below HDO.out hb13; have hso := ownsRow_below HSO.out hb13; have hro := ownsRow_below HRO.out hb13; have hao := ownsRow_below HAO.out hb13; have hpo := ownsRow_below HPO.out hb13
  have x1 := cell_at (i := 1) hx; have x2 := cell_at (i := 2) hx; have x3 := cell_at (i := 3) hx
  have y0 := cell_at (i := 0) hf
  have lx := lt_at hx; have lf := lt_at hf
  have ld := (hdo.lt gd rfl).2; have lsy := (hso.lt gs rfl).2; have lr := (hro.lt gr rfl).2; have la := (hao.lt ga rfl).2; have lp := (hpo.lt gp rfl).2
  have d0 : w3.cell? ⟨gd, 0, none⟩ = some (.int .i64 1) := hdo.cellAt 0 (by decide)
  have d1 : w3.cell? ⟨gd, 1, none⟩ = some (.string ⟨#[118]⟩) := hdo.cellAt 1 (by decide)
  have d2 : w3.cell? ⟨gd, 2, none⟩ = some (.slice (some ⟨gs, 0, none⟩) 2 cs) := (hdo.cellAt 2 (by decide)).trans (congrArg some HSV.out)
  have d3 : w3.cell? ⟨gd, 3, none⟩ = some (.int .i64 0) := hdo.cellAt 3 (by decide)
  have s2 : w3.cell? ⟨gs, 2, none⟩ = some (.int .i64 300) := hso.cellAt 2 (by decide)
  have s5 : w3.cell? ⟨gs, 5, none⟩ = some (.bool true) := hso.cellAt 5 (by decide)
  have r1 : w3.cell? ⟨gr, 1, none⟩ = some (.slice (some ⟨ga, 0, none⟩) 2 ca) := (hro.cellAt 1 (by decide)).trans (congrArg some HAV.out)
  have r4 : w3.cell? ⟨gr, 4, none⟩ = some (.slice (some ⟨gb, 0, none⟩) 1 cb) := (hro.cellAt 4 (by decide)).trans (congrArg some HBV.out)
  have q6 : w3.cell? ⟨ga, 6, none⟩ = some (.slice (some ⟨gp, 0, none⟩) 3 cp) := (hao.cellAt 6 (by decide)).trans (congrArg some HPV.out)
  have q7 : w3.cell? ⟨ga, 7, none⟩ = some (.string ⟨#[99]⟩) := hao.cellAt 7 (by decide)
  have p16 : w3.cell? ⟨gp, 16, none⟩ = some (.string ⟨#[123, 103, 125]⟩) := hpo.cellAt 16 (by decide)
  have mx : w1.heap.size < w3.heap.size + 1 + 1 := by omega
  have mf : w1.heap.size + 1 < w3.heap.size + 1 + 1 := by omega
  have md : gd < w3.heap.size + 1 + 1 := by omega
  have ms : gs < w3.heap.size + 1 + 1 := by omega
  have mr : gr < w3.heap.size + 1 + 1 := by omega
  have ma : ga < w3.heap.size + 1 + 1 := by omega
  have mp : gp < w3.heap.size + 1 + 1 := by omega
  have mg : w3.heap.size < w3.heap.size + 1 + 1 := by omega
  have HB3 := Lib.hid (HB1.out.trans (hb13.mono HB1.out.size))
  clear hd3 hr3 hb3 hb13 hx hf hdo hso hro hao hpo
  dsimp only [srcC]
  go_wp2_with fail
  go_ret
  exact ⟨rfl, ((HB3.out.alloc (HB3.out.size) _).alloc (by have := HB3.out.size; simp; omega) _).alloc (by have := HB3.out.size; simp; omega) _⟩
end Go.Proofs.YtphdfbmmjkccgaaDoor

namespace Go.Proofs.YtphdfbmmjkccgaaDoor
namespace Sp
open Go.Lib (itoa)

def rrRule (i : Nat) (b : Bool) : List UInt8 := 32 :: 97 :: (itoa (i : Int) ++ [58, 32, 98, 32, 39, 120, 39, 32, 124, 32, 99] ++ (if b = true then [59] else []))
def rrText (f : Nat → Bool) : Nat → List UInt8
  | 0 => [37, 37]
  | n + 1 => rrText f n ++ rrRule n (f n)
/-- What is looked at of a rule. -/
def rrAltOk (r : Rule) (i : Nat) : Bool := (r.left == 97 :: itoa (i : Int)) && (match r.alts with
  | [a, b] => (a.parts.length == 2) && (match b.parts with | [p] => p.sym.name == [99] | _ => false)
  | _ => false)
def rrGood (x : Source × Int × Int) (n : Nat) : Bool :=
  (x.2.1 == 0) && (x.1.rules.length == n) && (x.1.decls.length == 0) && (List.range n).all (fun i => match x.1.rules[i]? with | some r => rrAltOk r i | none => false)
def rrOk (m n : Nat) : Bool := rrGood (readTx (rrText m.testBit n)) n
set_option maxHeartbeats 4000000 in
theorem rr_all0 : ∀ n < 8, ∀ m < 2 ^ (n + 1), rrOk m (n + 1) = true := by decide +kernel
theorem rrText_congr {f g : Nat → Bool} : ∀ n, (∀ i < n, f i = g i) → rrText f n = rrText g n
  | 0, _ => rfl
  | n + 1, h => by
    unfold rrText
    rw [rrText_congr n (fun i hi => h i (by omega)), h n (by omega)]
theorem bits_of (f : Nat → Bool) : ∀ n, ∃ m < 2 ^ n, ∀ i < n, m.testBit i = f i
  | 0 => ⟨0, by decide, fun i hi => by omega⟩
  | n + 1 => by
    obtain ⟨m, hm, hb⟩ := bits_of f n
    have hp : 2 ^ (n + 1) = 2 ^ n + 2 ^ n := by rw [Nat.pow_succ]; omega
    by_cases h : f n = true
    · refine ⟨2 ^ n + m, by omega, fun i hi => ?_⟩
      by_cases e : i = n
      · subst e
        rw [Nat.testBit_two_pow_add_eq, Nat.testBit_lt_two_pow hm, h]
        rfl
      · rw [Nat.testBit_two_pow_add_gt (by omega), hb i (by omega)]
    · refine ⟨m, by omega, fun i hi => ?_⟩
      by_cases e : i = n
      · subst e
        rw [Nat.testBit_lt_two_pow hm]
        simpa using h
      · exact hb i (by omega)
theorem rr_all (f : Nat → Bool) (n : Nat) (hn : n < 8) : rrGood (readTx (rrText f (n + 1))) (n + 1) = true := by
  obtain ⟨m, hm, hb⟩ := bits_of f (n + 1)
  have h := rr_all0 n hn m hm
  unfold rrOk at h
  rwa [rrText_congr (n + 1) hb] at h
end Sp
end Go.Proofs.YtphdfbmmjkccgaaDoor

namespace Go.Proofs.YtphdfbmmjkccgaaDoor
open Go.ChangeShapes Go.WideShapes Go.Deep Go.RowKit

section
variable {H : Type} {enc : TypeId × Value → H} {w : World} {base : Nat} {spare : Nat → Bool} {held : Bool}
theorem open_row1 {S E : TypeId} (hS : Tryd.prog.underlying S = some (.slice E)) (hE : Tryd.prog.cellsOf E = 1) {T : Type} [Inhabited T] (valOf : T → Value) (good : T → Prop)
    (helem : ∀ (n : Nat) (cs : List Value) (y : DataW H × List MemPlace), DataW.trod enc Tryd.prog w base spare held n E cs = some y → ∃ t, cs = [valOf t] ∧ good t)
    {fuel : Nat} {cs : List Value} {x : DataW H × List MemPlace} (h : DataW.trod enc Tryd.prog w base spare held fuel S cs = some x) :
    ∃ (v : Value) (ts : List T), cs = [v] ∧ SlAt w v 1 (ts.map fun t => [valOf t]) ∧ ts.length ≤ maxLen ∧ ∀ t ∈ ts, good t := by
  rcases open_slice hS h with ⟨h0, _⟩ | ⟨a, len, cap, m, n, D, Pl, hcs, hb, hl, hm, hmm, hx, hi⟩
  · exact ⟨_, [], h0, .inl ⟨rfl, none, 0, rfl⟩, by simp, by simp⟩
  · have hlm : len ≤ m := by rw [hmm]; split <;> omega
    have key : ∀ i, ∃ t : T, i < len → w.cell? (a.add i) = some (valOf t) ∧ good t := by
      intro i
      by_cases hil : i < len
      · obtain ⟨cs', hc, ht'⟩ := hi i (by omega)
        rw [hE] at hc
        obtain ⟨t, rfl, hg⟩ := helem _ _ _ ht'
        obtain ⟨_, hcl, hat⟩ := World.cells?_some hc
        refine ⟨t, fun _ => ⟨?_, hg⟩⟩
        have h1 := hat 0 (by decide)
        rw [Nat.mul_one, Go.Deep.add_add, Nat.add_zero] at h1
        exact h1
      · exact ⟨default, fun h => absurd h hil⟩
    obtain ⟨f, hf⟩ := Classical.axiomOfChoice key
    refine ⟨_, (List.range len).map f, hcs, ?_, by simp; omega, ?_⟩
    · by_cases hz : len = 0
      · subst hz
        exact .inl ⟨rfl, _, _, rfl⟩
      · obtain ⟨b, off, spot⟩ := a
        have h0 := (hf 0 (by omega)).1
        have hsp : spot = none := by simpa [Addr.add] using World.cell?_spot h0
        subst hsp
        refine .inr ⟨b, off, cap, by simp, ?_, fun i r hr j u hu => ?_⟩
        · have := lt_at_cell h0
          simpa [Addr.add] using this
        · simp only [List.map_map, List.getElem?_map, Option.map_eq_some_iff] at hr
          obtain ⟨i', hi', rfl⟩ := hr
          obtain ⟨hil, rfl⟩ := List.getElem?_eq_some_iff.1 hi'
          simp only [List.length_range] at hil
          simp only [List.getElem_range, Function.comp] at hu
          obtain ⟨rfl, rfl⟩ : j = 0 ∧ valOf (f i) = u := by
            cases j with
            | zero => exact ⟨rfl, by simpa using hu⟩
            | succ j => simp at hu
          have := (hf i hil).1
          rw [show (⟨b, off, none⟩ : Addr).add i = ⟨b, off + i * 1 + 0, none⟩ by unfold Addr.add; split <;> simp_all [Nat.add_assoc]] at this
          exact this
    · intro p hp
      simp only [List.mem_map, List.mem_range] at hp
      obtain ⟨i, hi, rfl⟩ := hp
      exact (hf i hi).2
theorem one_boolA : Tryd.prog.cellsOf 4 = 1 := by kernel_rfl
def BoolsAt (w : World) (v : Value) (xs : List Bool) : Prop := SlAt w v 1 (xs.map fun x => [Value.bool x])
theorem open_boolsA {fuel : Nat} {cs : List Value} {x : DataW H × List MemPlace} (h : DataW.trod enc Tryd.prog w base spare held fuel 22 cs = some x) :
    ∃ (v : Value) (ts : List Bool), cs = [v] ∧ BoolsAt w v ts ∧ ts.length ≤ maxLen := by
  obtain ⟨v, ts, e, h1, h2, _⟩ := open_row1 Tryd.underlying22 one_boolA (fun x : Bool => Value.bool x) (fun _ => True)
    (fun n cs y h => by
      obtain ⟨z, e, _⟩ := DataW.trod_bool Tryd.underlying4 h
      exact ⟨z, by simpa using e, trivial⟩) h
  exact ⟨v, ts, e, h1, h2⟩
end
end Go.Proofs.YtphdfbmmjkccgaaDoor

namespace Go.Proofs.YtphdfbmmjkccgaaDoor
open Go.RowKit Go.Maps

namespace Sp
theorem itoa_one : ∀ k : Fin 8, (Go.Lib.itoa (k.val : Int)).length = 1 := by decide +kernel
theorem rrText_len (F : Nat → Bool) : ∀ k, k ≤ 8 → (rrText F k).length ≤ 2 + 16 * k
  | 0, _ => by simp [rrText]
  | k + 1, h => by
    have h1 := rrText_len F k (by omega)
    have h2 := itoa_one ⟨k, by omega⟩
    unfold rrText rrRule
    simp only at h2
    simp only [List.length_append, List.length_cons, List.length_nil, h2]
    split <;> simp <;> omega
end Sp
theorem rr_str {a b : List UInt8} (h : a = b) : Value.string ⟨a.toArray⟩ = Value.string ⟨b.toArray⟩ := by rw [h]
set_option maxRecDepth 100000 in
set_option maxHeartbeats 12800000 in
theorem law_ReadRules (n0 : Int) (v0 : Value) (ends : List Bool) (W : World) (hw0 : (Lit.int .i64 n0).wf = true) (hl : BoolsAt W v0 ends) (hlm : ends.length ≤ maxLen) (hg : Gl W) :
    Calls Tryd.prog 3 #[.int .i64 n0, v0] W fun e w' => e = .returned (.bool true) ∧ Below W.heap.size W w' := by
  unfold maxLen at hlm
  obtain ⟨la, lcap, rfl⟩ := SlAt.form hl
  unfold BoolsAt at hl
  rw [List.length_map] at hl ⊢
  obtain ⟨q, hq, hq8⟩ : ∃ q : Nat, n0 % 8 = (q : Int) ∧ q < 8 := ⟨(n0 % 8).toNat, by omega, by omega⟩
  have HWK := Lib.hid (wakes7R W hg)
  have HWI := Lib.hid (fun (w' : World) => (show Calls Tryd.prog 7 #[.int .i64 n0, .int .i64 8] w' (fun e w'' => e = .returned (.int .i64 (q : Int)) ∧ w' = w'') from by
    have h := ref_Within9 n0 8 w' (by decide) (by decide) hw0
    rw [show ((8 : Nat) : Int) = 8 from rfl, hq] at h
    exact h))
  have HG := Lib.hid (fun (w' : World) (hb : Below W.heap.size W w') => hg.below hb)
  obtain ⟨F, hF⟩ : ∃ F : Nat → Bool, F = fun i => ends.getD i false := ⟨_, rfl⟩
  have HF := Lib.hid hF; have HL := Lib.hid hl
  obtain ⟨ne, hne⟩ : ∃ ne, ne = ends.length := ⟨_, rfl⟩
  have hnm : ne ≤ 9223372036854775807 := by rw [hne]; omega
  rw [← hne]
  have HNE := Lib.hid hne
  have hw1 : IntKind.i64.wrap (1 + (q : Int)) = 1 + (q : Int) := IntWalk.i64_in _ ⟨by omega, by omega⟩
  clear hl hlm hq hw0 hg hF hne
  go_enter Tryd.func3, Tryd.ntmps3
  go_wp2_with fail
  refine HWK.out.mono ?_
  rintro e w1 ⟨rfl, hb1⟩
  have HB1 := Lib.hid hb1
  clear hb1 HWK
  go_wp2_with fail
  refine (HWI.out _).mono ?_
  rintro e w' ⟨rfl, rfl⟩
  clear HWI
  go_wp2_with fail
  go_loopg [5, 6] (q + 1) (fun g sv iv wr => ∃ k : Nat, k ≤ q + 1 ∧ g = q + 1 - k ∧ iv = .int .i64 k ∧ sv = .string ⟨(Sp.rrText F k).toArray⟩ ∧ Below w1.heap.size w1 wr)
  case atStart => exact ⟨0, by omega, rfl, rfl, rfl, Below.refl _ _⟩
  case round =>
    obtain ⟨k, hk, rfl, rfl, rfl, hbr⟩ := hrel
    have HBR := Lib.hid hbr
    have hk0 : (0 : Int) ≤ (k : Int) := Int.natCast_nonneg _
    by_cases hkn : k < q + 1
    · have hk1 : (k : Int) < 1 + (q : Int) := by omega
      have hal := Sp.rrText_len F k (by omega)
      have HST := Lib.hid (show Sp.rrText F (k + 1) = Sp.rrText F k ++ Sp.rrRule k (F k) from rfl)
      have hit := Sp.itoa_one ⟨k, by omega⟩
      simp only at hit
      have HDG := Lib.hid (fun w => ref_Digits (k : Int) w (by omega) (by omega))
      unfold Sp.rrRule at HST
      obtain ⟨acc, hacc⟩ : ∃ acc, acc = Sp.rrText F k := ⟨_, rfl⟩
      obtain ⟨IT, hIT⟩ : ∃ IT, IT = Go.Lib.itoa (k : Int) := ⟨_, rfl⟩
      rw [← hacc] at hal HST ⊢
      rw [← hIT] at hit HST HDG
      have hal2 : acc.length + IT.length + 40 ≤ 9223372036854775807 := by omega
      have hwk : IntKind.i64.wrap ((k : Int) + 1) = (k : Int) + 1 := IntWalk.i64_in _ ⟨by omega, by omega⟩
      clear hacc hIT hbr
      by_cases hkl : k < ne
      · have hkl1 : (k : Int) < (ne : Int) := by omega
        have hke : k < ends.length := by have := HNE.out; omega
        obtain ⟨b, off, rfl, hbb, hcc⟩ := HL.out.at (k := k) (row := [Value.bool ends[k]]) (by rw [List.getElem?_map, List.getElem?_eq_getElem hke]; rfl)
        have HC := Lib.hid (fun (w' : World) (hb : Below w1.heap.size w1 w') => hcc w' (HB1.out.trans (hb.mono HB1.out.size)) 0 _ rfl)
        have HBB := Lib.hid (show b < w1.heap.size from Nat.lt_of_lt_of_le hbb HB1.out.size)
        have hFk : F k = ends[k] := by rw [HF.out]; simp [List.getD_eq_getElem?_getD, List.getElem?_eq_getElem hke]
        rw [hFk] at HST
        generalize ends[k] = bk at *
        clear hcc hFk hke hbb
        go_wp2_with fail
        refine (HDG.out _).mono ?_
        rintro e w2 ⟨rfl, hb2⟩
        have hbr2 := HBR.out.trans (hb2.mono HBR.out.size)
        have c0 := HC.out w2 hbr2
        simp only [Nat.mul_one, Nat.add_zero] at c0
        have lb : b < w2.heap.size := Nat.lt_of_lt_of_le HBB.out hbr2.size
        have HB2 := Lib.hid hbr2
        clear hb2 hbr2 HC
        cases bk
        · go_wp2_with fail
          go_roundg (q + 1 - (k + 1))
          case measure => omega
          case rel => exact ⟨k + 1, by omega, rfl, by go_num, rr_str (by rw [HST.out]; simp), HB2.out⟩
        · go_wp2_with fail
          go_roundg (q + 1 - (k + 1))
          case measure => omega
          case rel => exact ⟨k + 1, by omega, rfl, by go_num, rr_str (by rw [HST.out]; simp), HB2.out⟩
      · have hkl1 : ¬ (k : Int) < (ne : Int) := by omega
        have hFk : F k = false := by rw [HF.out]; simp only; rw [List.getD_eq_getElem?_getD, List.getElem?_eq_none (by have := HNE.out; omega)]; rfl
        rw [hFk] at HST
        clear hFk
        go_wp2_with fail
        refine (HDG.out _).mono ?_
        rintro e w2 ⟨rfl, hb2⟩
        have HB2 := Lib.hid (HBR.out.trans (hb2.mono HBR.out.size))
        clear hb2
        go_wp2_with fail
        go_roundg (q + 1 - (k + 1))
        case measure => omega
        case rel => exact ⟨k + 1, by omega, rfl, by go_num, rr_str (by rw [HST.out]; simp), HB2.out⟩
    · obtain rfl : k = q + 1 := by omega
      have hrr := Sp.rr_all F q hq8
      have hal := Sp.rrText_len F (q + 1) (by omega)
      obtain ⟨TX, hTX⟩ : ∃ TX, TX = Sp.rrText F (q + 1) := ⟨_, rfl⟩
      rw [← hTX] at hrr hal ⊢
      have HRD := Lib.hid (fun (w' : World) (hb : Below W.heap.size W w') => read_Read ⟨TX.toArray⟩ w' (by rw [Lib.size_eq]; simp only; omega) (HG.out w' hb))
      rw [show (⟨TX.toArray⟩ : ByteArray).data.toList = TX from rfl] at HRD
      generalize Sp.readTx TX = RT at hrr HRD
      obtain ⟨⟨pro, ds, rs, tl⟩, er, ap⟩ := RT
      unfold Sp.rrGood at hrr
      simp only [Bool.and_eq_true, beq_iff_eq, List.all_eq_true, List.mem_range] at hrr
      obtain ⟨⟨⟨rfl, hrl⟩, hdl⟩, hall⟩ := hrr
      have HRL := Lib.hid hrl; have HALL := Lib.hid hall
      clear hTX hal hall
      go_wp2_with fail
      refine (HRD.out wr (HB1.out.trans (HBR.out.mono HB1.out.size))).mono ?_
      rintro e w3 ⟨dv, rv, rfl, ⟨bd, hd⟩, ⟨br, hr⟩, hb3⟩
      simp only at hd hr
      obtain ⟨fd, hdo, _⟩ := hd
      obtain ⟨da, dc, rfl⟩ := ownsRowS_some hdo
      obtain ⟨fr, hA, hB⟩ := rules_at hr
      obtain ⟨ra, rc, rfl⟩ := hA.form
      rw [List.length_mapIdx] at hA ⊢
      rw [hrl] at hA ⊢
      rw [hdl]
      have HA := Lib.hid hA; have HBB := Lib.hid hB
      have HB3 := Lib.hid (HB1.out.trans ((HBR.out.trans (hb3.mono HBR.out.size)).mono HB1.out.size))
      clear hdo hr hA hB hb3 HRD HBR hrl hdl
      dsimp only [srcC]
      obtain ⟨w4, hw4⟩ : ∃ w4 : World, w4 = (w3.alloc (.cells #[.string ⟨pro.toArray⟩, .slice da 0 dc, .slice ra (q + 1) rc, .string ⟨tl.toArray⟩] 29)).alloc (.cells #[.int .i64 0, .int .i64 ap, .string ⟨#[]⟩] 32) := ⟨_, rfl⟩
      have hb4 : Below w3.heap.size w3 w4 := by rw [hw4]; exact ((Below.refl _ w3).alloc (Nat.le_refl _) _).alloc (by simp) _
      have hx4 : w4.heap[w3.heap.size]? = some (.cells #[.string ⟨pro.toArray⟩, .slice da 0 dc, .slice ra (q + 1) rc, .string ⟨tl.toArray⟩] 29 (0, 0)) := by rw [hw4]; exact heap_fst1 w3 _ _
      have hf4 : w4.heap[w3.heap.size + 1]? = some (.cells #[.int .i64 0, .int .i64 ap, .string ⟨#[]⟩] 32 (0, 0)) := by rw [hw4]; exact heap_sec w3 _ _
      have HB4 := Lib.hid hb4; have HX4 := Lib.hid hx4
      have x1 := cell_at (i := 1) hx4; have x2 := cell_at (i := 2) hx4; have y0 := cell_at (i := 0) hf4
      have lx := lt_at hx4; have lf := lt_at hf4
      have hn1 : ((q : Int) + 1 != 1 + (q : Int)) = false := by rw [bne_eq_false_iff_eq]; omega
      have hn2 : ((q : Int) + 1 == 1 + (q : Int)) = true := by rw [beq_iff_eq]; omega
      have hn3 : ((q : Int) + 1 = 1 + (q : Int)) := by omega
      clear hb4 hx4 hf4
      go_upto_region 12 with fail
      rw [← hw4]
      clear hw4
      go_wp2_with fail
      clear x1 x2 y0 lx lf hn1 hn2 hn3
      go_loopg [9] (q + 1) (fun g iv wr => ∃ k : Nat, k ≤ q + 1 ∧ g = q + 1 - k ∧ iv = .int .i64 k ∧ Below w4.heap.size w4 wr)
      case atStart => exact ⟨0, by omega, rfl, rfl, Below.refl _ _⟩
      case round =>
        obtain ⟨k, hk, rfl, rfl, hbr⟩ := hrel
        have HBR := Lib.hid hbr
        have hk0 : (0 : Int) ≤ (k : Int) := Int.natCast_nonneg _
        by_cases hkn : k < q + 1
        · have hk1 : (k : Int) < 1 + (q : Int) := by omega
          have hk2 : (k : Int) < ((q + 1 : Nat) : Int) := by omega
          have hko := HALL.out k hkn
          have hkr : k < rs.length := by have := HRL.out; omega
          rw [List.getElem?_eq_getElem hkr] at hko
          have hg := List.getElem?_eq_getElem hkr
          generalize rs[k] = r at *
          simp only at hko
          unfold Sp.rrAltOk at hko
          rw [Bool.and_eq_true, beq_iff_eq] at hko
          obtain ⟨hleft, hko⟩ := hko
          obtain ⟨lf, als, rat⟩ := r
          simp only at hleft hko
          obtain ⟨ax, bx, rfl⟩ : ∃ ax bx, als = [ax, bx] := by
            split at hko
            · exact ⟨_, _, rfl⟩
            · cases hko
          simp only [Bool.and_eq_true, beq_iff_eq] at hko
          obtain ⟨hp2, hko⟩ := hko
          obtain ⟨bps, bpr, bat⟩ := bx
          simp only at hko
          obtain ⟨px, rfl⟩ : ∃ px, bps = [px] := by
            split at hko
            · exact ⟨_, rfl⟩
            · cases hko
          have hpn : px.sym.name = [99] := by simpa using hko
          subst hleft
          obtain ⟨bR, oR, rfl, hbR, hcR⟩ := HA.out.at (k := k) (row := ruleC (fr k) ⟨97 :: Go.Lib.itoa (k : Int), [ax, ⟨[px], bpr, bat⟩], rat⟩) (idx_at hg)
          obtain ⟨f2, hA2, hB2⟩ := HBB.out k _ hg
          simp only at hA2 hB2
          obtain ⟨aa, ca, hav⟩ := hA2.form
          rw [hav] at hA2 hcR
          simp only [List.length_mapIdx, List.length_cons, List.length_nil] at hA2 hcR
          obtain ⟨ga, oa, rfl, hga, hca⟩ := hA2.at (k := 0) (row := altC (f2 0) ax) rfl
          obtain ⟨ga', oa', hgg, _, hca1⟩ := hA2.at (k := 1) (row := altC (f2 1) ⟨[px], bpr, bat⟩) rfl
          simp only [Option.some.injEq, Addr.mk.injEq, and_true] at hgg
          obtain ⟨rfl, rfl⟩ := hgg
          have hq0 := hB2 0 _ rfl
          have hq1 := hB2 1 _ rfl
          obtain ⟨pa, pc, hpv⟩ := hq0.form
          obtain ⟨qa, cq, hqv⟩ := hq1.form
          rw [hqv] at hq1 hca1
          rw [hpv] at hca
          simp only [List.length_map, hp2] at hca
          simp only [List.length_map, List.length_cons, List.length_nil] at hq1 hca1
          obtain ⟨gq, oq, rfl, hgq, hcq⟩ := hq1.at (k := 0) (row := partC px) rfl
          have hwb := HB4.out.trans (HBR.out.mono HB4.out.size)
          have HCA := Lib.hid (fun (w' : World) (hb : Below w3.heap.size w3 w') => (show w'.cell? ⟨ga, oa, none⟩ = some (.slice pa 2 pc) from by have := hca w' hb 0 _ rfl; simpa using this))
          have HCB := Lib.hid (fun (w' : World) (hb : Below w3.heap.size w3 w') => (show w'.cell? ⟨ga, oa + 6, none⟩ = some (.slice (some ⟨gq, oq, none⟩) 1 cq) from by have := hca1 w' hb 0 _ rfl; simpa using this))
          have HCQ := Lib.hid (fun (w' : World) (hb : Below w3.heap.size w3 w') => (show w'.cell? ⟨gq, oq, none⟩ = some (.string ⟨#[99]⟩) from by have := hcq w' hb 0 _ rfl; rw [show (some (Value.string ⟨#[99]⟩)) = some (Value.string ⟨px.sym.name.toArray⟩) from by rw [hpn]]; simpa using this))
          have e0 := hcR wr hwb 0 _ rfl; have e1 := hcR wr hwb 1 _ rfl; have e2 := hcR wr hwb 2 _ rfl
          simp only [Nat.add_zero] at e0 e1 e2
          have x2 : wr.cell? ⟨w3.heap.size, 2, none⟩ = some (.slice (some ⟨bR, oR, none⟩) (q + 1) rc) := cell_at (i := 2) ((HBR.out.block _ (lt_at HX4.out)).trans HX4.out)
          have lx : w3.heap.size < wr.heap.size := lt_at ((HBR.out.block _ (lt_at HX4.out)).trans HX4.out)
          have lR : bR < wr.heap.size := by have := hwb.size; omega
          have HWB := Lib.hid hwb
          have HGA := Lib.hid hga; have HGQ := Lib.hid hgq
          have hit := Sp.itoa_one ⟨k, by omega⟩
          simp only at hit
          have HDG := Lib.hid (fun w => ref_Digits (k : Int) w (by omega) (by omega))
          obtain ⟨IT, hIT⟩ : ∃ IT, IT = Go.Lib.itoa (k : Int) := ⟨_, rfl⟩
          rw [← hIT] at hit HDG e0
          obtain ⟨X, hX⟩ : ∃ X, X = wr.heap.size := ⟨_, rfl⟩
          obtain ⟨w7, hw7⟩ : ∃ w7 : World, w7 = wr.alloc (.cells #[.string ⟨(97 :: IT).toArray⟩, .slice (some ⟨ga, oa, none⟩) 2 ca, .int .i64 rat] 37) := ⟨_, rfl⟩
          have hb7 : Below wr.heap.size wr w7 := by rw [hw7]; exact (Below.refl _ wr).alloc (Nat.le_refl _) _
          have hx7 : w7.heap[X]? = some (.cells #[.string ⟨(97 :: IT).toArray⟩, .slice (some ⟨ga, oa, none⟩) 2 ca, .int .i64 rat] 37 (0, 0)) := by rw [hw7, hX]; exact heap_last wr _
          have HB7 := Lib.hid hb7; have HX7 := Lib.hid hx7
          have HSK := Lib.hid (fun (w' : World) (hb : Below w7.heap.size w7 w') => (show ((w'.cell? ⟨X, 0, none⟩ = some (.string ⟨(97 :: IT).toArray⟩) ∧ w'.cell? ⟨X, 1, none⟩ = some (.slice (some ⟨ga, oa, none⟩) 2 ca)) ∧ (w'.cell? ⟨ga, oa, none⟩ = some (.slice pa 2 pc) ∧ w'.cell? ⟨ga, oa + 6, none⟩ = some (.slice (some ⟨gq, oq, none⟩) 1 cq) ∧ w'.cell? ⟨gq, oq, none⟩ = some (.string ⟨#[99]⟩)) ∧ X < w'.heap.size ∧ ga < w'.heap.size ∧ gq < w'.heap.size) from by
            have h1 := (hb.block _ (lt_at HX7.out)).trans HX7.out
            have h2 := HWB.out.trans ((HB7.out.trans (hb.mono HB7.out.size)).mono HWB.out.size)
            have h3 := HGA.out; have h4 := HGQ.out; have h5 := h2.size
            exact ⟨⟨cell_at (i := 0) h1, cell_at (i := 1) h1⟩, ⟨HCA.out w' h2, HCB.out w' h2, HCQ.out w' h2⟩, lt_at h1, by omega, by omega⟩))
          have hal2 : IT.length + 10 ≤ 9223372036854775807 := by omega
          have hcat : ((⟨#[97]⟩ : ByteArray) ++ (⟨IT.toArray⟩ : ByteArray)) = ⟨(97 :: IT).toArray⟩ := by
            apply ByteArray.ext
            simp [ByteArray.data_append]
          have hwk : IntKind.i64.wrap ((k : Int) + 1) = (k : Int) + 1 := IntWalk.i64_in _ ⟨by omega, by omega⟩
          clear hbr hko hkr hg hp2 hpn hcR hav hA2 hB2 hca hca1 hq0 hq1 hpv hqv hcq hwb hIT hb7 hx7 hga hgq hbR
          go_upto_region 18 with fail
          rw [← hw7, ← hX]
          clear hw7 hX e0 e1 e2 x2 lx lR
          refine wp_region_plan (fun w' : World => ((w'.cell? ⟨X, 0, none⟩ = some (.string ⟨(97 :: IT).toArray⟩) ∧ w'.cell? ⟨X, 1, none⟩ = some (.slice (some ⟨ga, oa, none⟩) 2 ca)) ∧ (w'.cell? ⟨ga, oa, none⟩ = some (.slice pa 2 pc) ∧ w'.cell? ⟨ga, oa + 6, none⟩ = some (.slice (some ⟨gq, oq, none⟩) 1 cq) ∧ w'.cell? ⟨gq, oq, none⟩ = some (.string ⟨#[99]⟩)) ∧ X < w'.heap.size ∧ ga < w'.heap.size ∧ gq < w'.heap.size)) [] (.take 0 (.take 1 (.take 2 (.one 3 (.take 4 (.take 5 (.take 6 (.take 7 (.take 8 (.take 9 (.take 10 (.take 11 (.take 12 (.take 13 (.take 14 (.take 15 (.take 16 (.take 17 (.take 18 (.take 19 (.take 20 (.take 21 (.take 22 (.take 23 (.take 24 (.take 25 (.take 26 (.take 27 (.take 28 (.take 29 (.take 30 (.take 31 (.take 32 (.take 33 (.take 34 (.take 35 (.take 36 (.take 37 (.take 38 (.take 39 (.take 40 (.take 41 (.done))))))))))))))))))))))))))))))))))))))))))) (by kernel_rfl) (by kernel_rfl) (fun _ _ _ _ h => h) ?_
          have hSw := HSK.out _ (below_drewN (Below.refl _ w7) 1)
          refine wpPlan_takeD (v := ?va1) rfl rfl hSw (by rfl) ?ya1 ?_
          case ya1 => (intro w hSx; (try dsimp only at hSx); go_simp; first | done | with_reducible rfl | rfl)
          (try simp only [Act.put, List.setIfInBounds_toArray, List.set_cons_zero, List.set_cons_succ])
          refine wpPlan_takeD (v := ?va2) rfl rfl hSw (by rfl) ?ya2 ?_
          case ya2 => (intro w hSx; (try dsimp only at hSx); go_simp; first | done | with_reducible rfl | rfl)
          (try simp only [Act.put, List.setIfInBounds_toArray, List.set_cons_zero, List.set_cons_succ])
          refine wpPlan_takeD (v := ?va3) rfl rfl hSw (by rfl) ?ya3 ?_
          case ya3 => (intro w hSx; (try dsimp only at hSx); go_simp; first | done | with_reducible rfl | rfl)
          (try simp only [Act.put, List.setIfInBounds_toArray, List.set_cons_zero, List.set_cons_succ])
          refine wpPlan_run rfl (by rfl) (fun K' hK => ?_)
          (go_simp; go_at_call 8; refine (HDG.out _).mono ?_; rintro e w8 ⟨rfl, hb8'⟩; have hb8 : Below w7.heap.size w7 w8 := below_undrew hb8'; clear hb8')
          refine hK _ _ (.inr ?_) ?_
          · exact HSK.out _ hb8
          clear hK K' hSw
          have hSw := HSK.out _ hb8
          (try simp only [Act.put, List.setIfInBounds_toArray, List.set_cons_zero, List.set_cons_succ])
          refine wpPlan_takeD (v := ?va4) rfl rfl hSw (by rfl) ?ya4 ?_
          case ya4 => (intro w hSx; (try dsimp only at hSx); go_simp; first | done | with_reducible rfl | rfl)
          (try simp only [Act.put, List.setIfInBounds_toArray, List.set_cons_zero, List.set_cons_succ])
          refine wpPlan_takeD (v := ?va5) rfl rfl hSw (by rfl) ?ya5 ?_
          case ya5 => (intro w hSx; (try dsimp only at hSx); go_simp; first | done | with_reducible rfl | rfl)
          (try simp only [Act.put, List.setIfInBounds_toArray, List.set_cons_zero, List.set_cons_succ])
          refine wpPlan_takeD (v := ?va6) rfl rfl hSw (by rfl) ?ya6 ?_
          case ya6 => (intro w hSx; (try dsimp only at hSx); go_simp; first | done | with_reducible rfl | rfl)
          (try simp only [Act.put, List.setIfInBounds_toArray, List.set_cons_zero, List.set_cons_succ])
          refine wpPlan_takeD (v := ?va7) rfl rfl hSw (by rfl) ?ya7 ?_
          case ya7 => (intro w hSx; (try dsimp only at hSx); go_simp; first | done | with_reducible rfl | rfl)
          (try simp only [Act.put, List.setIfInBounds_toArray, List.set_cons_zero, List.set_cons_succ])
          refine wpPlan_takeD (v := ?va8) rfl rfl hSw (by rfl) ?ya8 ?_
          case ya8 => (intro w hSx; (try dsimp only at hSx); go_simp; first | done | with_reducible rfl | rfl)
          (try simp only [Act.put, List.setIfInBounds_toArray, List.set_cons_zero, List.set_cons_succ])
          refine wpPlan_takeD (v := ?va9) rfl rfl hSw (by rfl) ?ya9 ?_
          case ya9 => (intro w hSx; (try dsimp only at hSx); go_simp; first | done | with_reducible rfl | rfl)
          (try simp only [Act.put, List.setIfInBounds_toArray, List.set_cons_zero, List.set_cons_succ])
          refine wpPlan_takeD (v := ?va10) rfl rfl hSw (by rfl) ?ya10 ?_
          case ya10 => (intro w hSx; (try dsimp only at hSx); go_simp; first | done | with_reducible rfl | rfl)
          (try simp only [Act.put, List.setIfInBounds_toArray, List.set_cons_zero, List.set_cons_succ])
          refine wpPlan_takeD (v := ?va11) rfl rfl hSw (by rfl) ?ya11 ?_
          case ya11 => (intro w hSx; (try dsimp only at hSx); go_simp; first | done | with_reducible rfl | rfl)
          (try simp only [Act.put, List.setIfInBounds_toArray, List.set_cons_zero, List.set_cons_succ])
          refine wpPlan_takeD (v := ?va12) rfl rfl hSw (by rfl) ?ya12 ?_
          case ya12 => (intro w hSx; (try dsimp only at hSx); go_simp; first | done | with_reducible rfl | rfl)
          (try simp only [Act.put, List.setIfInBounds_toArray, List.set_cons_zero, List.set_cons_succ])
          refine wpPlan_takeD (v := ?va13) rfl rfl hSw (by rfl) ?ya13 ?_
          case ya13 => (intro w hSx; (try dsimp only at hSx); go_simp; first | done | with_reducible rfl | rfl)
          (try simp only [Act.put, List.setIfInBounds_toArray, List.set_cons_zero, List.set_cons_succ])
          refine wpPlan_takeD (v := ?va14) rfl rfl hSw (by rfl) ?ya14 ?_
          case ya14 => (intro w hSx; (try dsimp only at hSx); go_simp; first | done | with_reducible rfl | rfl)
          (try simp only [Act.put, List.setIfInBounds_toArray, List.set_cons_zero, List.set_cons_succ])
          refine wpPlan_takeD (v := ?va15) rfl rfl hSw (by rfl) ?ya15 ?_
          case ya15 => (intro w hSx; (try dsimp only at hSx); go_simp; first | done | with_reducible rfl | rfl)
          (try simp only [Act.put, List.setIfInBounds_toArray, List.set_cons_zero, List.set_cons_succ])
          refine wpPlan_takeD (v := ?va16) rfl rfl hSw (by rfl) ?ya16 ?_
          case ya16 => (intro w hSx; (try dsimp only at hSx); go_simp; first | done | with_reducible rfl | rfl)
          (try simp only [Act.put, List.setIfInBounds_toArray, List.set_cons_zero, List.set_cons_succ])
          refine wpPlan_takeD (v := ?va17) rfl rfl hSw (by rfl) ?ya17 ?_
          case ya17 => (intro w hSx; (try dsimp only at hSx); go_simp; first | done | with_reducible rfl | rfl)
          (try simp only [Act.put, List.setIfInBounds_toArray, List.set_cons_zero, List.set_cons_succ])
          refine wpPlan_takeD (v := ?va18) rfl rfl hSw (by rfl) ?ya18 ?_
          case ya18 => (intro w hSx; (try dsimp only at hSx); go_simp; first | done | with_reducible rfl | rfl)
          (try simp only [Act.put, List.setIfInBounds_toArray, List.set_cons_zero, List.set_cons_succ])
          refine wpPlan_takeD (v := ?va19) rfl rfl hSw (by rfl) ?ya19 ?_
          case ya19 => (intro w hSx; (try dsimp only at hSx); go_simp; first | done | with_reducible rfl | rfl)
          (try simp only [Act.put, List.setIfInBounds_toArray, List.set_cons_zero, List.set_cons_succ])
          refine wpPlan_takeD (v := ?va20) rfl rfl hSw (by rfl) ?ya20 ?_
          case ya20 => (intro w hSx; (try dsimp only at hSx); go_simp; first | done | with_reducible rfl | rfl)
          (try simp only [Act.put, List.setIfInBounds_toArray, List.set_cons_zero, List.set_cons_succ])
          refine wpPlan_takeD (v := ?va21) rfl rfl hSw (by rfl) ?ya21 ?_
          case ya21 => (intro w hSx; (try dsimp only at hSx); go_simp; first | done | with_reducible rfl | rfl)
          (try simp only [Act.put, List.setIfInBounds_toArray, List.set_cons_zero, List.set_cons_succ])
          refine wpPlan_takeD (v := ?va22) rfl rfl hSw (by rfl) ?ya22 ?_
          case ya22 => (intro w hSx; (try dsimp only at hSx); go_simp; first | done | with_reducible rfl | rfl)
          (try simp only [Act.put, List.setIfInBounds_toArray, List.set_cons_zero, List.set_cons_succ])
          refine wpPlan_takeD (v := ?va23) rfl rfl hSw (by rfl) ?ya23 ?_
          case ya23 => (intro w hSx; (try dsimp only at hSx); go_simp; first | done | with_reducible rfl | rfl)
          (try simp only [Act.put, List.setIfInBounds_toArray, List.set_cons_zero, List.set_cons_succ])
          refine wpPlan_takeD (v := ?va24) rfl rfl hSw (by rfl) ?ya24 ?_
          case ya24 => (intro w hSx; (try dsimp only at hSx); go_simp; first | done | with_reducible rfl | rfl)
          (try simp only [Act.put, List.setIfInBounds_toArray, List.set_cons_zero, List.set_cons_succ])
          refine wpPlan_takeD (v := ?va25) rfl rfl hSw (by rfl) ?ya25 ?_
          case ya25 => (intro w hSx; (try dsimp only at hSx); go_simp; first | done | with_reducible rfl | rfl)
          (try simp only [Act.put, List.setIfInBounds_toArray, List.set_cons_zero, List.set_cons_succ])
          refine wpPlan_takeD (v := ?va26) rfl rfl hSw (by rfl) ?ya26 ?_
          case ya26 => (intro w hSx; (try dsimp only at hSx); go_simp; first | done | with_reducible rfl | rfl)
          (try simp only [Act.put, List.setIfInBounds_toArray, List.set_cons_zero, List.set_cons_succ])
          refine wpPlan_takeD (v := ?va27) rfl rfl hSw (by rfl) ?ya27 ?_
          case ya27 => (intro w hSx; (try dsimp only at hSx); go_simp; first | done | with_reducible rfl | rfl)
          (try simp only [Act.put, List.setIfInBounds_toArray, List.set_cons_zero, List.set_cons_succ])
          refine wpPlan_takeD (v := ?va28) rfl rfl hSw (by rfl) ?ya28 ?_
          case ya28 => (intro w hSx; (try dsimp only at hSx); go_simp; first | done | with_reducible rfl | rfl)
          (try simp only [Act.put, List.setIfInBounds_toArray, List.set_cons_zero, List.set_cons_succ])
          refine wpPlan_takeD (v := ?va29) rfl rfl hSw (by rfl) ?ya29 ?_
          case ya29 => (intro w hSx; (try dsimp only at hSx); go_simp; first | done | with_reducible rfl | rfl)
          (try simp only [Act.put, List.setIfInBounds_toArray, List.set_cons_zero, List.set_cons_succ])
          refine wpPlan_takeD (v := ?va30) rfl rfl hSw (by rfl) ?ya30 ?_
          case ya30 => (intro w hSx; (try dsimp only at hSx); go_simp; first | done | with_reducible rfl | rfl)
          (try simp only [Act.put, List.setIfInBounds_toArray, List.set_cons_zero, List.set_cons_succ])
          refine wpPlan_takeD (v := ?va31) rfl rfl hSw (by rfl) ?ya31 ?_
          case ya31 => (intro w hSx; (try dsimp only at hSx); go_simp; first | done | with_reducible rfl | rfl)
          (try simp only [Act.put, List.setIfInBounds_toArray, List.set_cons_zero, List.set_cons_succ])
          refine wpPlan_takeD (v := ?va32) rfl rfl hSw (by rfl) ?ya32 ?_
          case ya32 => (intro w hSx; (try dsimp only at hSx); go_simp; first | done | with_reducible rfl | rfl)
          (try simp only [Act.put, List.setIfInBounds_toArray, List.set_cons_zero, List.set_cons_succ])
          refine wpPlan_takeD (v := ?va33) rfl rfl hSw (by rfl) ?ya33 ?_
          case ya33 => (intro w hSx; (try dsimp only at hSx); go_simp; first | done | with_reducible rfl | rfl)
          (try simp only [Act.put, List.setIfInBounds_toArray, List.set_cons_zero, List.set_cons_succ])
          refine wpPlan_takeD (v := ?va34) rfl rfl hSw (by rfl) ?ya34 ?_
          case ya34 => (intro w hSx; (try dsimp only at hSx); go_simp; first | done | with_reducible rfl | rfl)
          (try simp only [Act.put, List.setIfInBounds_toArray, List.set_cons_zero, List.set_cons_succ])
          refine wpPlan_takeD (v := ?va35) rfl rfl hSw (by rfl) ?ya35 ?_
          case ya35 => (intro w hSx; (try dsimp only at hSx); go_simp; first | done | with_reducible rfl | rfl)
          (try simp only [Act.put, List.setIfInBounds_toArray, List.set_cons_zero, List.set_cons_succ])
          refine wpPlan_takeD (v := ?va36) rfl rfl hSw (by rfl) ?ya36 ?_
          case ya36 => (intro w hSx; (try dsimp only at hSx); go_simp; first | done | with_reducible rfl | rfl)
          (try simp only [Act.put, List.setIfInBounds_toArray, List.set_cons_zero, List.set_cons_succ])
          refine wpPlan_takeD (v := ?va37) rfl rfl hSw (by rfl) ?ya37 ?_
          case ya37 => (intro w hSx; (try dsimp only at hSx); go_simp; first | done | with_reducible rfl | rfl)
          (try simp only [Act.put, List.setIfInBounds_toArray, List.set_cons_zero, List.set_cons_succ])
          refine wpPlan_takeD (v := ?va38) rfl rfl hSw (by rfl) ?ya38 ?_
          case ya38 => (intro w hSx; (try dsimp only at hSx); go_simp; first | done | with_reducible rfl | rfl)
          (try simp only [Act.put, List.setIfInBounds_toArray, List.set_cons_zero, List.set_cons_succ])
          refine wpPlan_takeD (v := ?va39) rfl rfl hSw (by rfl) ?ya39 ?_
          case ya39 => (intro w hSx; (try dsimp only at hSx); go_simp; first | done | with_reducible rfl | rfl)
          (try simp only [Act.put, List.setIfInBounds_toArray, List.set_cons_zero, List.set_cons_succ])
          refine wpPlan_takeD (v := ?va40) rfl rfl hSw (by rfl) ?ya40 ?_
          case ya40 => (intro w hSx; (try dsimp only at hSx); go_simp; first | done | with_reducible rfl | rfl)
          (try simp only [Act.put, List.setIfInBounds_toArray, List.set_cons_zero, List.set_cons_succ])
          refine wpPlan_takeD (v := ?va41) rfl rfl hSw (by rfl) ?ya41 ?_
          case ya41 => (intro w hSx; (try dsimp only at hSx); go_simp; first | done | with_reducible rfl | rfl)
          (try simp only [Act.put, List.setIfInBounds_toArray, List.set_cons_zero, List.set_cons_succ])
          refine wpPlan_done ?_
          have HB8 := Lib.hid (HBR.out.trans ((HB7.out.trans (hb8.mono HB7.out.size)).mono HBR.out.size))
          clear hb8 HSK
          go_wp2_with fail
          go_roundg (q + 1 - (k + 1))
          case measure => omega
          case rel => exact ⟨k + 1, by omega, rfl, by go_num, HB8.out⟩
        · obtain rfl : k = q + 1 := by omega
          clear hbr
          go_wp2_with fail
          go_ret
          exact ⟨rfl, HB3.out.trans ((HB4.out.trans (HBR.out.mono HB4.out.size)).mono HB3.out.size)⟩
end Go.Proofs.YtphdfbmmjkccgaaDoor
