/- gram.Name. A drawn region walked by what stands, for any slots: wp_region_vals. The small functions of yuccalaw9. -/
import Derived.Test.YthmimcegiihcnaaDoorHz
import Derived.Test.YthmimcegiihcnaaDoorDa
import Derived.Test.YthmimcegiihcnaaDoorHy
namespace Go.Proofs.YthmimcegiihcnaaDoor
open Go.RowKit Go.Maps

/-- A symbol's name. -/
def Sp.gName (g : Sp.Gram) (s : Int) : List UInt8 :=
  if 0 ≤ s ∧ s < (g.toks.length : Int) then (match g.toks[s.toNat]? with
    | some t => if t.lit = true then Sp.quoteText (t.name.headD 0) else t.name
    | none => [])
  else if 1000 ≤ s ∧ s - 1000 < (g.nons.length : Int) then (match g.nons[(s - 1000).toNat]? with
    | some n => n.name
    | none => [])
  else []
set_option maxRecDepth 100000 in
set_option maxHeartbeats 6400000 in
theorem gram_Name (g : Sp.Gram) (gv : Value) (s : Int) (W : World) (hw : -9223372036854775808 ≤ s ∧ s ≤ 9223372036854775807) (hg : GramAt W gv g) (hl1 : g.toks.length ≤ 2 ^ 40) (hl2 : g.nons.length ≤ 2 ^ 40)
    (hok : ∀ t, g.toks[s.toNat]? = some t → t.lit = true → ∃ c, t.name = [c]) :
    Calls Tryd.prog 56 #[gv, .int .i64 s] W fun e w' => e = .returned (.string ⟨(Sp.gName g s).toArray⟩) ∧ Below W.heap.size W w' := by
  obtain ⟨hw1, hw2⟩ := hw
  obtain ⟨tv, nv, pv, rfl, ht, hn, hp⟩ := hg
  obtain ⟨ta, tc, htv⟩ := ht.form
  obtain ⟨na, nc, hnv⟩ := hn.form
  obtain ⟨f, g', hp1, _⟩ := hp
  obtain ⟨pa, pc, hpv⟩ := hp1.form
  subst htv hnv hpv
  rw [List.length_map] at ht hn ⊢
  obtain ⟨toks, nons, prods, pro, tl⟩ := g
  simp only at *
  clear hp1
  rw [List.length_map] at *
  obtain ⟨nt, hnt⟩ : ∃ nt, nt = toks.length := ⟨_, rfl⟩
  obtain ⟨nn, hnn⟩ : ∃ nn, nn = nons.length := ⟨_, rfl⟩
  rw [← hnt] at ht hl1 ⊢
  rw [← hnn] at hn hl2 ⊢
  by_cases h1 : 0 ≤ s ∧ s < (nt : Int)
  · obtain ⟨k, rfl⟩ : ∃ k : Nat, s = (k : Int) := ⟨s.toNat, by omega⟩
    have hk : k < toks.length := by omega
    obtain ⟨t, hta⟩ : ∃ t, toks[k]? = some t := ⟨_, List.getElem?_eq_getElem hk⟩
    obtain ⟨b, off, rfl, hb, hc⟩ := ht.at (k := k) (row := tokC t) (by rw [List.getElem?_map, hta]; rfl)
    have hc' := hc (W.alloc (.cells #[.slice (some ⟨b, off, none⟩) nt tc, .slice na nn nc, .slice pa prods.length pc, .string ⟨pro.toArray⟩, .string ⟨tl.toArray⟩] 65)) ((Below.refl _ W).alloc (Nat.le_refl _) _)
    have c0 := hc' 0 _ rfl; have c1 := hc' 1 _ rfl
    simp only [Nat.add_zero] at c0
    have hR : Hid (Sp.gName ⟨toks, nons, prods, pro, tl⟩ (k : Int) = if t.lit = true then Sp.quoteText (t.name.headD 0) else t.name) := Lib.hid (by
      unfold Sp.gName
      rw [if_pos (by simp only; omega), show (k : Int).toNat = k by omega]
      simp only [hta])
    have hok' := hok t (by rw [show (k : Int).toNat = k by omega]; exact hta)
    have h2 : (k : Int) < (nt : Int) := h1.2
    have h0 : (0 : Int) ≤ (k : Int) := h1.1
    clear hc hc' hok hnt hnn ht hn hta h1 hk
    obtain ⟨nm, lt, nu, lv, asc, tg⟩ := t
    simp only at c0 c1 hok' hR
    cases lt with
    | true =>
      obtain ⟨c, rfl⟩ := hok' rfl
      have HT := Lib.hid (fun W' => char_Text c W')
      clear hok'
      go_enter Tryd.func56, Tryd.ntmps56
      go_wp2_with fail
      refine (HT.out _).mono ?_
      rintro e w' ⟨rfl, hb'⟩
      go_wp2_with fail
      go_ret
      exact ⟨by rw [hR.out]; rfl, ((Below.refl _ W).alloc (Nat.le_refl _) _).trans (hb'.mono (by simp))⟩
    | false =>
      clear hok'
      go_enter Tryd.func56, Tryd.ntmps56
      go_wp2_with fail
      go_ret
      exact ⟨by rw [hR.out]; rfl, (Below.refl _ W).alloc (Nat.le_refl _) _⟩
  · by_cases h2 : 1000 ≤ s ∧ s - 1000 < (nn : Int)
    · obtain ⟨k, rfl⟩ : ∃ k : Nat, s = 1000 + (k : Int) := ⟨(s - 1000).toNat, by omega⟩
      have hk : k < nons.length := by omega
      obtain ⟨t, hta⟩ : ∃ t, nons[k]? = some t := ⟨_, List.getElem?_eq_getElem hk⟩
      obtain ⟨b, off, rfl, hb, hc⟩ := hn.at (k := k) (row := nonC t) (by rw [List.getElem?_map, hta]; rfl)
      have hc' := hc (W.alloc (.cells #[.slice ta nt tc, .slice (some ⟨b, off, none⟩) nn nc, .slice pa prods.length pc, .string ⟨pro.toArray⟩, .string ⟨tl.toArray⟩] 65)) ((Below.refl _ W).alloc (Nat.le_refl _) _)
      have c0 := hc' 0 _ rfl
      simp only [Nat.add_zero] at c0
      have hR : Hid (Sp.gName ⟨toks, nons, prods, pro, tl⟩ (1000 + (k : Int)) = t.name) := Lib.hid (by
        unfold Sp.gName
        rw [if_neg (by simp only; omega), if_pos (by simp only; omega), show (1000 + (k : Int) - 1000).toNat = k by omega]
        simp only [hta])
      have hd0 : (0 : Int) ≤ 1000 + (k : Int) := by omega
      have hd1 : ¬ 1000 + (k : Int) < (nt : Int) := by omega
      have hd2 : (1000 : Int) ≤ 1000 + (k : Int) := h2.1
      have hd3 : (k : Int) < (nn : Int) := by omega
      have hsub : IntKind.i64.wrap (1000 + (k : Int) - 1000) = (k : Int) := by rw [show 1000 + (k : Int) - 1000 = (k : Int) by omega]; exact IntWalk.i64_in _ ⟨by omega, by omega⟩
      clear hc hc' hok hnt hnn ht hn hta h1 h2 hk
      obtain ⟨nm, tg⟩ := t
      go_enter Tryd.func56, Tryd.ntmps56
      go_wp2_with fail
      go_ret
      exact ⟨by rw [hR.out]; rfl, (Below.refl _ W).alloc (Nat.le_refl _) _⟩
    · have hR : Hid (Sp.gName ⟨toks, nons, prods, pro, tl⟩ s = []) := Lib.hid (by
        unfold Sp.gName
        rw [if_neg (by simp only; omega), if_neg (by simp only; omega)])
      clear hok hn ht
      by_cases h0 : 0 ≤ s
      · have hd1 : ¬ s < (nt : Int) := by omega
        by_cases h3 : 1000 ≤ s
        · have hd3 : ¬ s - 1000 < (nn : Int) := by omega
          have hsub : IntKind.i64.wrap (s - 1000) = s - 1000 := IntWalk.i64_in _ ⟨by omega, by omega⟩
          clear h1 h2 hnt hnn
          go_enter Tryd.func56, Tryd.ntmps56
          go_wp2_with fail
          go_ret
          exact ⟨by rw [hR.out]; rfl, (Below.refl _ W).alloc (Nat.le_refl _) _⟩
        · clear h1 h2 hnt hnn
          go_enter Tryd.func56, Tryd.ntmps56
          go_wp2_with fail
          go_ret
          exact ⟨by rw [hR.out]; rfl, (Below.refl _ W).alloc (Nat.le_refl _) _⟩
      · have h3 : ¬ 1000 ≤ s := by omega
        clear h1 h2 hnt hnn
        go_enter Tryd.func56, Tryd.ntmps56
        go_wp2_with fail
        go_ret
        exact ⟨by rw [hR.out]; rfl, (Below.refl _ W).alloc (Nat.le_refl _) _⟩
end Go.Proofs.YthmimcegiihcnaaDoor

namespace Go.Proofs.YthmimcegiihcnaaDoor
open Go.RowKit

/-- Slots ds hold what V says. -/
def putV : List Nat → Act → (Nat → Value) → Act
  | [], a, _ => a
  | d :: l, a, V => putV l (a.put (some d) (V d)) V
def updV (V : Nat → Value) (d : Nat) (v : Value) : Nat → Value := fun j => if j = d then v else V j
theorem updV_eq (V : Nat → Value) (d : Nat) (v : Value) : updV V d v d = v := if_pos rfl
theorem updV_ne (V : Nat → Value) {d j : Nat} (v : Value) (h : (j == d) = false) : updV V d v j = V j := if_neg (by simpa using h)
theorem updL_eq (L : Nat → Bool) (d : Nat) : updL L d d = true := if_pos rfl
theorem updL_ne (L : Nat → Bool) {d j : Nat} (h : (j == d) = false) : updL L d j = L j := if_neg (by simpa using h)
theorem wp_region_vals {P : Program} {ops : Array Oper} {Q : Exit → Act → World → Prop} (ds : List Nat) (I : (Nat → Bool) → (Nat → Value) → World → Prop) {id : Nat} {a : Act} {w : World} (hm : P.follows .mixedOrders = true)
    (hc : ((List.range ops.size).all fun i => match ops[i]? with
      | some o => o.after.all fun e => !Region.binds .any e || decide (e.on < i)
      | none => true) = true)
    (hstep : ∀ (L : Nat → Bool) (V : Nat → Value) (w : World) (i : Nat), i < ops.size → L i = false → (∀ j, waits ops i j = true → L j = true) → (∀ i j, waits ops i j = true → L i = true → L j = true) → I L V w → wpOp P ops Q i (fun a' w' => ∃ V', a' = putV ds a V' ∧ I (updL L i) V' w') (putV ds a V) w)
    (hend : ∀ (L : Nat → Bool) (V : Nat → Value) (w : World), (∀ i, i < ops.size → L i = true) → I L V w → Q .normal (putV ds a V) w)
    (V0 : Nat → Value) (h0 : a = putV ds a V0) (h1 : I (fun _ => false) V0 w.drew) : (Code.region id ops true).wp P Q a w := by
  refine wp_region_inv (fun listed a' w' => listed.size = ops.size ∧ ∃ V, a' = putV ds a V ∧ I (fun i => listed.getD i false) V w') hm ?_ ?_ ?_
  · rintro listed a' w' i hcl hi ⟨hsz, r, rfl, hI⟩
    have hun := (mem_ready.1 hi).1
    have hlt : i < ops.size := by
      obtain ⟨_, o, ho, _⟩ := mem_ready.1 hi
      exact (Array.getElem?_eq_some_iff.1 ho).1
    refine wpOp_mono ?_ (hstep (fun i => listed.getD i false) r w' i hlt (getD_false_of_true hun) (fun j hj => ready_waits hi hj) (fun i j hw h => closed_waits hcl hw h) hI)
    rintro a2 w2 ⟨r2, rfl, h2⟩
    refine ⟨by rw [Array.size_setIfInBounds]; exact hsz, r2, rfl, ?_⟩
    rw [updL_listed hun]
    exact h2
  · rintro listed a' w' hcl hr ⟨hsz, r, rfl, hI⟩
    refine hend _ r w' ?_ hI
    intro i
    induction i using Nat.strongRecOn with
    | _ i ih =>
      intro hi
      apply Classical.byContradiction
      intro hn
      have hmem : i ∈ Region.ready .any ops listed := by
        rw [mem_ready]
        refine ⟨?_, ops[i], Array.getElem?_eq_getElem hi, fun e he hb => ?_⟩
        · rw [Array.getD_eq_getD_getElem?, Array.getElem?_eq_getElem (by omega)] at hn ⊢
          simpa using hn
        · have h1 := List.all_eq_true.1 hc i (List.mem_range.2 hi)
          rw [Array.getElem?_eq_getElem hi] at h1
          have h2 := Array.all_eq_true_iff_forall_mem.1 h1 e he
          rw [hb] at h2
          have h3 : e.on < i := by simpa using h2
          exact ih e.on h3 (by omega)
      rw [hr] at hmem
      cases hmem
  · refine ⟨by simp, V0, h0, ?_⟩
    have e : (fun i => (Array.replicate ops.size false).getD i false) = fun _ => false := by
      funext i
      exact getD_replicate_false ops.size i
    rw [e]
    exact h1
/-! ### The library's variables, as the rows' lists give them -/
def Gl4 (w : World) : Prop := (∃ m : Int, w.cell? ⟨0, 0, none⟩ = some (.int .i64 m)) ∧ 4 ≤ w.heap.size ∧ Lib.TabIs Tryd.prog w "internal/strconv.uint64pow10" .u64 Lib.pow10Tab
theorem Gl4.up {w w' : World} (h : Gl4 w) (hb : Below w.heap.size w w') (h6 : 6 ≤ w'.heap.size) : Gl w' := by
  obtain ⟨⟨m, hm⟩, hz, ht⟩ := h
  exact ⟨⟨m, (hb.cell (p := ⟨0, 0, none⟩) (by show 0 < _; omega)).trans hm⟩, h6, var?_below hb (by kernel_rfl : Tryd.prog.globalNamed "internal/strconv.uint64pow10" = some 1) (by omega) ht⟩
/-! ### The small functions of the statements -/
set_option maxHeartbeats 800000 in
theorem law9_name (s : List UInt8) (at_ : Int) (W : World) :
    Calls Tryd.prog 24 #[.string ⟨s.toArray⟩, .int .i64 at_] W fun e w' => e = .returned (.agg #[.string ⟨s.toArray⟩, .bool false, .int .i64 0, .int .i64 at_]) ∧ Below W.heap.size W w' := by
  go_enter Tryd.func24, Tryd.ntmps24
  go_wp2_with fail
  refine ret_cell (g := W.heap.size) rfl rfl (heap_last W _) rfl Tryd.underlying40 (by kernel_rfl) rfl ⟨rfl, ?_⟩
  exact (Below.refl _ W).alloc (Nat.le_refl _) _
set_option maxHeartbeats 800000 in
theorem law9_lit (s : List UInt8) (at_ : Int) (W : World) :
    Calls Tryd.prog 27 #[.string ⟨s.toArray⟩, .int .i64 at_] W fun e w' => e = .returned (.agg #[.string ⟨s.toArray⟩, .bool true, .int .i64 0, .int .i64 at_]) ∧ Below W.heap.size W w' := by
  go_enter Tryd.func27, Tryd.ntmps27
  go_wp2_with fail
  refine ret_cell (g := W.heap.size) rfl rfl (heap_last W _) rfl Tryd.underlying40 (by kernel_rfl) rfl ⟨rfl, ?_⟩
  exact (Below.refl _ W).alloc (Nat.le_refl _) _
set_option maxHeartbeats 800000 in
theorem law9_part (s : List UInt8) (l : Bool) (n at_ : Int) (W : World) :
    Calls Tryd.prog 26 #[.agg #[.string ⟨s.toArray⟩, .bool l, .int .i64 n, .int .i64 at_]] W fun e w' => e = .returned (.agg #[.string ⟨s.toArray⟩, .bool l, .int .i64 n, .int .i64 at_, .string ⟨#[]⟩, .int .i64 at_]) ∧ Below W.heap.size W w' := by
  go_enter Tryd.func26, Tryd.ntmps26
  go_wp2_with fail
  refine ret_cell (g := W.heap.size + 1) rfl rfl (heap_sec W _ _) rfl Tryd.underlying46 (by kernel_rfl) rfl ⟨rfl, ?_⟩
  exact ((Below.refl _ W).alloc (Nat.le_refl _) _).alloc (by simp) _
end Go.Proofs.YthmimcegiihcnaaDoor
