/- Lw -/
import Derived.Test.YtddnomjfcbplpaaDoorZ00
import Derived.Test.YtddnomjfcbplpaaDoorZ01
import Derived.Test.YtddnomjfcbplpaaDoorZ02
import Derived.Test.YtddnomjfcbplpaaDoorZ03
import Derived.Test.YtddnomjfcbplpaaDoorZ04
import Derived.Test.YtddnomjfcbplpaaDoorZ05
import Derived.Test.YtddnomjfcbplpaaDoorZ06
import Derived.Test.YtddnomjfcbplpaaDoorZ07
import Derived.Test.YtddnomjfcbplpaaDoorZ08
import Derived.Test.YtddnomjfcbplpaaDoorZ09
import Derived.Test.YtddnomjfcbplpaaDoorZ10
import Derived.Test.YtddnomjfcbplpaaDoorZ11
import Derived.Test.YtddnomjfcbplpaaDoorZ12
import Derived.Test.YtddnomjfcbplpaaDoorZ13
import Derived.Test.YtddnomjfcbplpaaDoorZ14
import Derived.Test.YtddnomjfcbplpaaDoorZ15
import Derived.Test.YtddnomjfcbplpaaDoorZ16
import Derived.Test.YtddnomjfcbplpaaDoorZ17
import Derived.Test.YtddnomjfcbplpaaDoorZ18
import Derived.Test.YtddnomjfcbplpaaDoorZ19
import Derived.Test.YtddnomjfcbplpaaDoorZ20
import Derived.Test.YtddnomjfcbplpaaDoorZ21
import Derived.Test.YtddnomjfcbplpaaDoorZ22
import Derived.Test.YtddnomjfcbplpaaDoorZ23
import Derived.Test.YtddnomjfcbplpaaDoorZ24
import Derived.Test.YtddnomjfcbplpaaDoorZ25
import Derived.Test.YtddnomjfcbplpaaDoorY0
/- SubstPieces returns true for every list of whole numbers and every truth value, and its arguments read as before; condition: the listed library variables hold what the text of the program lays (the tied card). -/
namespace Go.Proofs.YtddnomjfcbplpaaDoor.substPiecesDone
open Go.ChangeShapes Go.WideShapes Go.ChangeAt Go.RowKit
open Go.ChangeMaps (open_string shut_string)

set_option maxRecDepth 100000 in
/-- WHAT THE WALK GIVES, for every argument and every world that holds the list. -/
theorem contract (H : Type) (enc : TypeId × Value → H) (W : World) (base : Nat) (args : Array Value) (ds gs : List (DataW H)) (before : List MemPlace)
    (hval0 : ∀ (j : Nat) t v, Tryd.f4.params[j]? = some t → args[j]? = some v → Value.okWide Tryd.prog W .any base t v)
    (hW : DataW.Whole enc Tryd.prog Tryd.f4.params.toList Rows.substPiecesSpec.vars false W args.toList ds gs before) (hL : laidMetH Tryd.prog laid5 W) (hsh : W.ShapedOpen Tryd.prog) :
    Calls Tryd.prog 4 args W fun e W' => ∃ v, e = .returned v ∧ Rows.substPiecesSpec.post enc Tryd.prog Tryd.f4 false true false false W args v W' := by
  have hval : ∀ (j : Nat) t v, Tryd.f4.params[j]? = some t → args[j]? = some v → Value.okWide Tryd.prog W .any base t v := hval0
  have hW' := hW
  obtain ⟨p, q, hA0, hV, rfl, hfz, hnd⟩ := hW
  have hA : DataW.TrodAll enc Tryd.prog W 0 (fun _ => true) true Tryd.f4.params.toList args.toList ds p := hA0
  rw [Tryd.params4] at hA hval
  obtain ⟨v0, vs0, d0, ds0, p0, q0, hargs, rfl, rfl, h0, r0⟩ := trodAll_cons hA
  obtain ⟨v1, vs1, d1, ds1, p1, q1, rfl, rfl, rfl, h1, r1⟩ := trodAll_cons r0
  obtain ⟨rfl, rfl, rfl⟩ := trodAll_nil r1
  obtain rfl : args = #[v0, v1] := by cases args; simp_all
  obtain ⟨rfl, rfl⟩ := trodVars_none hV
  obtain ⟨b0, len0, cap0, rfl⟩ := okWide_slice Tryd.underlying22 (hval 0 22 v0 rfl rfl)
  have k0 := h0
  have lt0 : ∀ x ∈ p0, x.block < W.heap.size := by obtain ⟨m, hm⟩ := k0; exact DataW.trod_lt m _ _ _ hm
  obtain ⟨a0, l0, rfl, x0, y0, z0⟩ : ∃ (v : Value) (ts : List Int), Value.slice b0 len0 cap0 = v ∧ IntsAt W v ts ∧ ts.length ≤ maxLen ∧ ∀ t ∈ ts, (Lit.int .i64 t).wf = true := by
    obtain ⟨fuel, hf⟩ := h0
    obtain ⟨v, ts, hcs, hsl, hml, hwf⟩ := open_intsA hf
    exact ⟨v, ts, by simpa [Value.cells] using hcs, hsl, hml, hwf⟩
  obtain ⟨a1, rfl, rfl, rfl⟩ := open_bool Tryd.underlying4 (hval 1 4 v1 rfl rfl) h1
  clear hA0 hval0
  refine (law_SubstPieces _ l0 a1 W x0 y0 z0 (gl4_of_gl2 (gl_of hL hsh))).mono fun e W' ⟨he, bel⟩ => ?_
  subst he
  exact ⟨_, rfl, _, _, _, [], _, [], hW', trodAll_mk1 (shut_bool Tryd.underlying4 _), (trodAll_cons_mk (Below.trod laidOut (by kernel_rfl) (of_decide_eq_true (by kernel_rfl)) k0 bel lt0) (trodAll_cons_mk (shut_bool Tryd.underlying4 _) trodAll_mk0)), rfl, bel.frame _, fun h => by cases h⟩

theorem reads (os : Os) {H : Type} (enc : TypeId × Value → H) : ∃ places, DataW.whole enc Tryd.prog ((laidWorld os).forCall (fun _ _ => 0) ⟨#[], #[.slice none 0 0, .bool false], []⟩).memory Tryd.f4.params.toList Rows.substPiecesSpec.vars false #[Value.slice none 0 0, .bool false].toList 8 = some ([.nil, .lit (.bool false)], [], places) :=
  ⟨[], by kernel_rfl⟩

set_option maxRecDepth 100000 in
theorem lifted (os : Os) (started : os.Started) (H : Type) (enc : TypeId × Value → H) (F : Stop.Interp) :
    ReturnsInHanded {} Tryd.checked os 4 .any ((OpenSpec.ofChange Rows.substPiecesSpec).preRow enc Tryd.prog Tryd.f4 Rows.substPiecesRow.domain false Rows.substPiecesRow.laid) (((OpenSpec.ofChange Rows.substPiecesSpec).at F).post enc Tryd.prog Tryd.f4 false true false false) := by
  obtain ⟨places, hx⟩ := reads os enc
  refine returnsInHanded_of_row (C := Tryd.checked) (s := OpenSpec.ofChange Rows.substPiecesSpec) own started (by kernel_rfl) Tryd.func4
    (witness_row_at (enc := enc) (C := Tryd.checked) false (laidWorld os) #[.slice none 0 0, .bool false] rfl (by kernel_rfl) (by kernel_rfl) (by kernel_rfl)
      (OpenSpec.preRow_of_cond 8 hx (by kernel_rfl) (fun k hk => by cases hk) (by kernel_rfl) (laid_met os _))) ?_
  intro W base args ds gs before hval hW _ _ _ hL hsh _
  exact contract H enc W base args ds gs before hval hW hL hsh

theorem said : Rows.SubstPiecesSaid :=
  OpenClaim.holds_of_cond 4 Tryd.f4 rfl rfl rfl rfl rfl rfl rfl ⟨rfl, rfl, rfl, rfl, rfl⟩ rfl rfl rfl rfl rfl (by kernel_rfl) Tryd.func4 (by kernel_rfl)
    (of_decide_eq_true (by kernel_rfl)) (by unfold Func.isWrapper; first | (rw [if_pos (by decide +kernel)]; kernel_rfl) | (rw [if_neg (by decide +kernel)]; exact ⟨rfl, rfl⟩))
    (fun os started H enc _ F => by rw [OpenClaim.pre_eq_preRow]; exact lifted os started H enc F)

/-- No parameter wants a stand-in; the program's own looks are as the card says. -/
theorem plain (f : FuncId) (fn : Func) (hf : Tryd.pinned.checked.prog.funcNamed "yucca/yuccalaw27.SubstPieces" = some f) (hfn : Tryd.pinned.checked.prog.funcs[f]? = some fn) :
    true = Tryd.pinned.checked.prog.looks [] ∧ ∀ (j : Nat) t, fn.params[j]? = some t → Tryd.pinned.checked.prog.wantsStandIn t = false := by
  obtain rfl : f = 4 := Option.some.inj ((show Tryd.prog.funcNamed "yucca/yuccalaw27.SubstPieces" = some 4 by kernel_rfl).symm.trans hf) |>.symm
  obtain rfl : fn = Tryd.f4 := (Option.some.inj (Tryd.func4.symm.trans hfn)).symm
  refine ⟨by kernel_rfl, fun j t ht => ?_⟩
  rw [Tryd.params4] at ht
  have hm : t ∈ [22, 4] := by simpa using Array.mem_of_getElem? ht
  have hall : ([22, 4].all fun u => !Tryd.prog.wantsStandIn u) = true := by kernel_rfl
  exact (show Tryd.prog.wantsStandIn t = false by simpa using List.all_eq_true.1 hall t hm)

/-- THE CARD. -/
theorem card : Rows.SubstPiecesCardSaid :=
  Claim7.holds_tied_plain_at .later [] _ _ _ _ said (fun _ h => by cases h) (by kernel_rfl) (fun _ h => by cases h) substPieces_row_tie rfl ⟨rfl, rfl⟩ (by kernel_rfl) rfl plain (by kernel_rfl)
#print axioms card
end Go.Proofs.YtddnomjfcbplpaaDoor.substPiecesDone
