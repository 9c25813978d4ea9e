/- The walk of LexBytes. -/
import Derived.Test.YticdgfljaphhgaaDoorCp
namespace Go.Proofs.YticdgfljaphhgaaDoor
open Go.RowKit

theorem byte_of {a : Int} (h : (Lit.int .u8 a).wf = true) : ∃ c : UInt8, a = (c.toNat : Int) := by
  have h' : 0 ≤ a ∧ a < 256 := by
    have := h
    simp [Lit.wf, IntKind.min, IntKind.max, IntKind.signed, IntKind.bits] at this
    omega
  refine ⟨UInt8.ofNat a.toNat, ?_⟩
  rw [UInt8.toNat_ofNat_of_lt' (by have : UInt8.size = 256 := rfl; omega)]
  omega
theorem convert_four (W : World) (x0 x1 x2 x3 : UInt8) : (convert 45 9 (.slice (some ⟨W.heap.size, 0, none⟩) 4 4)).run Tryd.prog (W.alloc (.cells #[.int .u8 (x0.toNat : Int), .int .u8 (x1.toNat : Int), .int .u8 (x2.toNat : Int), .int .u8 (x3.toNat : Int)] 5)) = .ok (.string ⟨#[x0, x1, x2, x3]⟩) (W.alloc (.cells #[.int .u8 (x0.toNat : Int), .int .u8 (x1.toNat : Int), .int .u8 (x2.toNat : Int), .int .u8 (x3.toNat : Int)] 5)) := by
  refine run_convert_bytes_back (P := Tryd.prog) _ 45 9 5 ⟨W.heap.size, 0, none⟩ 4 [x0, x1, x2, x3] Tryd.underlying45 Tryd.underlying5 Tryd.underlying9 ?_
  intro j hj
  have hj' : j < 4 := by simpa using hj
  have hc := new_cells W [.int .u8 (x0.toNat : Int), .int .u8 (x1.toNat : Int), .int .u8 (x2.toNat : Int), .int .u8 (x3.toNat : Int)] 5 j
  rcases j with _ | _ | _ | _ | j
  · exact hc _ rfl
  · exact hc _ rfl
  · exact hc _ rfl
  · exact hc _ rfl
  · omega

set_option maxRecDepth 100000 in
set_option maxHeartbeats 3200000 in
theorem law_LexBytes (a b c d : Int) (w : World) (h0 : (Lit.int .u8 a).wf = true) (h1 : (Lit.int .u8 b).wf = true) (h2 : (Lit.int .u8 c).wf = true) (h3 : (Lit.int .u8 d).wf = true) (hg : Gl w) :
    Calls Tryd.prog 9 #[.int .u8 a, .int .u8 b, .int .u8 c, .int .u8 d] w fun e w' => e = .returned (.bool true) ∧ Below w.heap.size w w' := by
  obtain ⟨x0, rfl⟩ := byte_of h0
  obtain ⟨x1, rfl⟩ := byte_of h1
  obtain ⟨x2, rfl⟩ := byte_of h2
  obtain ⟨x3, rfl⟩ := byte_of h3
  clear h0 h1 h2 h3
  obtain ⟨S, hS⟩ : ∃ S : ByteArray, S = ⟨#[x0, x1, x2, x3]⟩ := ⟨_, rfl⟩
  have hsz : S.size = 4 := by rw [hS]; rfl
  have HCV := Lib.hid (fun W => hS ▸ convert_four W x0 x1 x2 x3)
  have hm : ∀ A B : ByteArray, A.size ≤ 3 → B.size ≤ 7 → (A ++ S ++ B).size < 4294967200 := by
    intro A B hA hB
    rw [ByteArray.size_append, ByteArray.size_append, hsz]; omega
  have HM := Lib.hid hm
  have hs4 : S.size ≤ 4 := by omega
  have HSZ := Lib.hid hsz
  clear hS hm hsz
  go_enter Tryd.func9, Tryd.ntmps9
  go_wp2_with fail
  refine (wakes6 w hg).mono ?_
  rintro e w1 ⟨rfl, hb1⟩
  have hg1 := hg.below hb1
  have hcv := HCV.out w1
  have hg2 : Gl (w1.alloc (.cells #[.int .u8 (x0.toNat : Int), .int .u8 (x1.toNat : Int), .int .u8 (x2.toNat : Int), .int .u8 (x3.toNat : Int)] 5)) := hg1.alloc _
  have hb2 : Below w.heap.size w (w1.alloc (.cells #[.int .u8 (x0.toNat : Int), .int .u8 (x1.toNat : Int), .int .u8 (x2.toNat : Int), .int .u8 (x3.toNat : Int)] 5)) := hb1.alloc hb1.size _
  have HB2 := Lib.hid hb2
  clear hb2
  go_wp2_with fail
  refine (law_same S _ (by rw [HSZ.out]; decide) hg2).mono ?_
  rintro e w2 ⟨rfl, hb⟩
  have hg3 := hg2.below hb
  have HB3 := Lib.hid (HB2.out.trans (hb.mono HB2.out.size))
  clear hb hcv
  go_wp2_with fail
  refine (law_same _ _ (HM.out ⟨#[120, 32]⟩ ⟨#[32, 121]⟩ (by decide) (by decide)) hg3).mono ?_
  rintro e w3 ⟨rfl, hb⟩
  have hg4 := hg3.below hb
  have HB4 := Lib.hid (HB3.out.trans (hb.mono HB3.out.size))
  clear hb
  go_wp2_with fail
  refine (law_same _ _ (HM.out ⟨#[123]⟩ ⟨#[125]⟩ (by decide) (by decide)) hg4).mono ?_
  rintro e w4 ⟨rfl, hb⟩
  have hg5 := hg4.below hb
  have HB5 := Lib.hid (HB4.out.trans (hb.mono HB4.out.size))
  clear hb
  go_wp2_with fail
  refine (law_same _ _ (by rw [ByteArray.size_append, HSZ.out]; decide) hg5).mono ?_
  rintro e w5 ⟨rfl, hb⟩
  have hg6 := hg5.below hb
  have HB6 := Lib.hid (HB5.out.trans (hb.mono HB5.out.size))
  clear hb
  go_wp2_with fail
  refine (law_same _ _ (by rw [ByteArray.size_append, HSZ.out]; decide) hg6).mono ?_
  rintro e w6 ⟨rfl, hb⟩
  have hg7 := hg6.below hb
  have HB7 := Lib.hid (HB6.out.trans (hb.mono HB6.out.size))
  clear hb
  go_wp2_with fail
  refine (law_same _ _ (by rw [ByteArray.size_append, ByteArray.size_append, ByteArray.size_append, HSZ.out]; decide) hg7).mono ?_
  rintro e w7 ⟨rfl, hb⟩
  have HB8 := Lib.hid (HB7.out.trans (hb.mono HB7.out.size))
  go_wp2_with fail
  go_ret
  exact ⟨rfl, HB8.out⟩
end Go.Proofs.YticdgfljaphhgaaDoor
