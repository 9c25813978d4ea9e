/- The walk of BodyEnds. -/
import Derived.Test.YticdgfljaphhgaaDoorBp
namespace Go.Proofs.YticdgfljaphhgaaDoor
open Go.RowKit

/-- A braced text. -/
def brac (N : ByteArray) : ByteArray := ⟨#[123]⟩ ++ N ++ ⟨#[125]⟩
theorem brac_size (N : ByteArray) : (brac N).size = N.size + 2 := by
  unfold brac
  simp only [ByteArray.size_append]
  show 1 + N.size + 1 = _
  omega

set_option maxRecDepth 100000 in
set_option maxHeartbeats 1600000 in
theorem law_BodyEnds (s : ByteArray) (a : Int) (w : World) (ha : (Lit.int .i64 a).wf = true) (hg : Gl w) :
    Calls Tryd.prog 3 #[.string s, .int .i64 a] w fun e w' => e = .returned (.bool true) ∧ Below w.heap.size w w' := by
  have hN := cutTo_size s 120
  generalize hNN : cutTo s 120 = N at hN
  have HN := Lib.hid hNN
  clear hNN
  go_enter Tryd.func3, Tryd.ntmps3
  go_wp2_with fail
  refine (wakes5 w hg).mono ?_
  rintro e w1 ⟨rfl, hb1⟩
  have hg1 := hg.below hb1
  go_wp2_with fail
  refine (law_Text s 120 w1).mono ?_
  rintro e w' ⟨rfl, rfl⟩
  rw [HN.out]
  go_wp2_with fail
  go_loopw [5] (fun iv wr => ∃ k : Int, -1 ≤ k ∧ k ≤ N.size + 1 ∧ iv = .int .i64 k ∧ ∃ n, wr = w1.drewN n) (fun iv _ => (N.size + 1 - intOf iv).toNat)
  case atStart => exact ⟨-1, by omega, by omega, rfl, 0, rfl⟩
  case round =>
    obtain ⟨k, hk0, hk1, rfl, n, rfl⟩ := hrel
    have HE := Lib.hid (fun W (hW : Gl W) => body_End N k W (by omega) hW)
    have HR := Lib.hid (fun W => ref_End N k W (by omega))
    generalize Sp.endAt N.data.toList k = E at HE HR
    by_cases hlt : k ≤ N.size
    · go_wp2_with (first
        | (go_at_call 17; refine (HE.out _ (hg1.drewN _)).mono ?_; rintro e w' ⟨rfl, n1, rfl⟩)
        | (go_at_call 18; refine (HR.out _).mono ?_; rintro e w' ⟨rfl, n2, rfl⟩))
      · exact ⟨⟨k + 1, by omega, by omega, rfl, _, rfl⟩, by simp only [intOf]; omega⟩
    · go_wp2_with fail
      have HE1 := Lib.hid (fun W (hW : Gl W) => body_End N a W (by omega) hW)
      have HR1 := Lib.hid (fun W => ref_End N a W (by omega))
      generalize Sp.endAt N.data.toList a = E1 at HE1 HR1
      have hbs := brac_size N
      have HE2 := Lib.hid (fun W (hW : Gl W) => body_End (brac N) 0 W (by omega) hW)
      have HR2 := Lib.hid (fun W => ref_End (brac N) 0 W (by omega))
      unfold brac at HE2 HR2
      generalize Sp.endAt (⟨#[123]⟩ ++ N ++ ⟨#[125]⟩ : ByteArray).data.toList 0 = E2 at HE2 HR2
      go_wp2_with fail
      refine (HE1.out _ (hg1.drewN _)).mono ?_
      rintro e w' ⟨rfl, n1, rfl⟩
      go_wp2_with fail
      refine (HR1.out _).mono ?_
      rintro e w' ⟨rfl, n2, rfl⟩
      go_wp2_with fail
      refine (HE2.out _ (hg1.drewN _)).mono ?_
      rintro e w' ⟨rfl, n3, rfl⟩
      go_wp2_with fail
      refine (HR2.out _).mono ?_
      rintro e w' ⟨rfl, n4, rfl⟩
      go_wp2_with fail
      go_ret
      exact ⟨rfl, below_drewN hb1 _⟩
end Go.Proofs.YticdgfljaphhgaaDoor
