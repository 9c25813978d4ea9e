/- Layer 8: the walk of strings.Join with a blank between. -/
import Derived.Test.YthmimcegiihcnaaDoorDa
import Derived.Test.YthmimcegiihcnaaDoorBY
import Derived.Deep.OwnRows
namespace Go.Proofs.YthmimcegiihcnaaDoor
open Go.RowKit

def strC (x : List UInt8) : List Value := [.string ⟨x.toArray⟩]
theorem joinSp_snoc (xs : List (List UInt8)) (x : List UInt8) (h : xs ≠ []) : Sp.joinSp (xs ++ [x]) = Sp.joinSp xs ++ 32 :: x := by
  induction xs with
  | nil => exact absurd rfl h
  | cons w l ih =>
    cases l with
    | nil => rfl
    | cons v l =>
      have := ih (by simp)
      show w ++ 32 :: Sp.joinSp (v :: (l ++ [x])) = (w ++ 32 :: Sp.joinSp (v :: l)) ++ 32 :: x
      rw [show v :: (l ++ [x]) = (v :: l) ++ [x] from rfl, this]
      simp
theorem joinSp_len (B : Nat) : ∀ xs : List (List UInt8), (∀ x ∈ xs, x.length ≤ B) → (Sp.joinSp xs).length ≤ xs.length * (B + 1)
  | [], _ => by simp [Sp.joinSp]
  | [w], h => by have := h w (by simp); simp [Sp.joinSp]; omega
  | w :: v :: l, h => by
    have h1 := h w (by simp)
    have h2 := joinSp_len B (v :: l) (fun x hx => h x (by simp [hx]))
    show (w ++ 32 :: Sp.joinSp (v :: l)).length ≤ _
    simp only [List.length_append, List.length_cons, Nat.succ_mul] at *
    omega

set_option maxRecDepth 100000 in
set_option maxHeartbeats 3200000 in
theorem strings_Join (a : Option Addr) (cap : Nat) (xs : List (List UInt8)) (w : World) (hsl : SlAt w (.slice a xs.length cap) 1 (xs.map strC)) (hcap : xs.length ≤ cap) (hn : xs.length ≤ 100000000) (hsz : ∀ x ∈ xs, x.length ≤ 5000) :
    Calls Tryd.prog 48 #[.slice a xs.length cap, .string ⟨#[32]⟩] w fun e w' => e = .returned (.string ⟨(Sp.joinSp xs).toArray⟩) ∧ Below w.heap.size w w' := by
  have HS := Lib.hid hsl
  have HSZ := Lib.hid hsz
  clear hsl hsz
  have hcell : ∀ wr, Below w.heap.size w wr → ∀ k x, xs[k]? = some x → ∃ b off, a = some ⟨b, off, none⟩ ∧ b < w.heap.size ∧ wr.cell? ⟨b, off + k, none⟩ = some (.string ⟨x.toArray⟩) := by
    intro wr hb k x hx
    obtain ⟨b, off, cap', hv, hlt, hc⟩ := HS.out.some (by intro h; have := congrArg List.length h; simp at this; rw [this] at hx; simp at hx)
    obtain ⟨rfl, rfl⟩ : a = some ⟨b, off, none⟩ ∧ cap = cap' := by simpa using hv
    refine ⟨b, off, rfl, hlt, ?_⟩
    rw [hb.cell (p := ⟨b, _, none⟩) hlt]
    have := hc k (strC x) (by simp [hx]) 0 _ rfl
    simpa using this
  have HC := Lib.hid hcell
  clear hcell
  rcases xs with _ | ⟨x0, _ | ⟨x1, xr⟩⟩
  · go_enter Tryd.func48, Tryd.ntmps48
    go_wp2_with fail
    go_ret
    exact ⟨rfl, Below.refl _ _⟩
  · obtain ⟨b, off, rfl, hlt, hc⟩ := HC.out w (Below.refl _ _) 0 x0 rfl
    rw [Nat.add_zero] at hc
    go_enter Tryd.func48, Tryd.ntmps48
    go_wp2_with fail
    go_ret
    exact ⟨rfl, Below.refl _ _⟩
  · generalize hxs : x0 :: x1 :: xr = xs at *
    have hl2 : 2 ≤ xs.length := by rw [← hxs]; simp
    have hx0 : xs[0]? = some x0 := by rw [← hxs]; rfl
    have h10 : xs.take 1 = [x0] := by rw [← hxs]; rfl
    have HX0 := Lib.hid hx0
    have H10 := Lib.hid h10
    clear hxs hx0 h10
    generalize hnn : xs.length = n at *
    have HNN := Lib.hid hnn
    clear hnn
    have hn0 : ((n : Int) == 0) = false := by rw [beq_eq_false_iff_ne]; omega
    have hn1 : ((n : Int) == 1) = false := by rw [beq_eq_false_iff_ne]; omega
    obtain ⟨b, off, rfl, hlt, _⟩ := HC.out w (Below.refl _ _) 0 x0 HX0.out
    have HC' : Hid (∀ wr, Below w.heap.size w wr → ∀ k x, xs[k]? = some x → wr.cell? ⟨b, off + k, none⟩ = some (.string ⟨x.toArray⟩)) := Lib.hid (fun wr hb k x hx => by
      obtain ⟨b', off', he, _, hc⟩ := HC.out wr hb k x hx
      obtain ⟨rfl, rfl⟩ : b = b' ∧ off = off' := by simpa using he
      exact hc)
    clear HC HS
    obtain ⟨Q, hQ, hQ1, hQ2⟩ : ∃ Q : Int, Int.tdiv 9223372036854775807 ((n : Int) - 1) = Q ∧ 2 ≤ Q ∧ Q ≤ 9223372036854775807 := by
      refine ⟨_, rfl, ?_, ?_⟩
      · rw [Int.tdiv_eq_ediv_of_nonneg (by decide)]
        exact Int.le_ediv_of_mul_le (by omega) (by omega)
      · rw [Int.tdiv_eq_ediv_of_nonneg (by decide)]
        exact Int.ediv_le_self _ (by decide)
    go_enter Tryd.func48, Tryd.ntmps48
    go_wp2_with fail
    go_loopw [5, 41] (fun nv iv wr => ∃ (k m : Nat), k ≤ n ∧ iv = .int .i64 k ∧ nv = .int .i64 m ∧ m ≤ n + 5000 * k ∧ w = wr) (fun _ iv _ => n - (intOf iv).toNat)
    case atStart => exact ⟨0, n - 1, Nat.zero_le _, rfl, by go_num, by omega, rfl⟩
    case round =>
      obtain ⟨k, m, hk, rfl, rfl, hm, rfl⟩ := hrel
      have hk0 : (0 : Int) ≤ (k : Int) := Int.natCast_nonneg _
      have hm0 : (0 : Int) ≤ (m : Int) := Int.natCast_nonneg _
      by_cases hkn : k < n
      · have hkl : k < xs.length := by have := HNN.out; omega
        have hx : xs[k]? = some xs[k] := List.getElem?_eq_getElem hkl
        have hxl := HSZ.out _ (List.mem_of_getElem? hx)
        generalize xs[k] = x at hx hxl
        have hc := HC'.out w (Below.refl _ _) k x hx
        have hsx : (⟨x.toArray⟩ : ByteArray).size = x.length := Lib.size_eq _
        have hk1 : (k : Int) < (n : Int) := by omega
        clear hx
        go_wp2_with fail
        exact ⟨⟨k + 1, m + x.length, by omega, by go_num, by go_num, by omega, trivial⟩, by simp [intOf]; omega⟩
      · obtain rfl : k = n := by omega
        go_wp2_with fail
        refine (Tryd.Builder_Grow_fresh w.heap.size w.heap.size m _ (Nat.le_refl _) (heap_last _ _) (by simp) (by omega)).mono ?_
        rintro e w2 ⟨rfl, hbd2, hbel2⟩
        have HB2 := Lib.hid (((Below.refl _ w).alloc (Nat.le_refl _) _).trans hbel2)
        have hs2 := hbel2.size
        simp only [World.size_alloc] at hs2
        have hc0 := HC'.out w2 HB2.out 0 x0 HX0.out
        rw [Nat.add_zero] at hc0
        have HBD2 := Lib.hid hbd2
        have hlb : b < w2.heap.size := by omega
        have hx0l := HSZ.out x0 (List.mem_of_getElem? HX0.out)
        have hsx0 : (⟨x0.toArray⟩ : ByteArray).size = x0.length := Lib.size_eq _
        have hw := fun W hW hbd => Tryd.Builder_WriteString w.heap.size w.heap.size [] ⟨x0.toArray⟩ W hbd (by rw [hsx0]; simp; omega) hW
        have HW := Lib.hid hw
        clear hbd2 hbel2 hw
        go_wp2_with fail
        refine (HW.out w2 (by omega) (.inr HBD2.out)).mono ?_
        rintro e w3 ⟨rfl, hbd3, hbel3⟩
        have HB3 := Lib.hid (HB2.out.trans hbel3)
        have hs3 := hbel3.size
        have HBD3 := Lib.hid hbd3
        have hc1 : ¬ cap = 1 := by omega
        have hk2 : (1 : Int) ≤ (k : Int) := by omega
        have hk3 : (k : Int) ≤ (cap : Int) := by omega
        clear hbd3 hbel3 hc0
        go_wp2_with fail
        go_loopw [65] (fun iv wr' => ∃ (j : Nat) (acc : List UInt8), j + 1 ≤ k ∧ iv = .int .i64 j ∧ acc.length ≤ (j + 1) * 5001 ∧ w.heap.size < wr'.heap.size ∧ Hid (acc = Sp.joinSp (xs.take (j + 1))) ∧ Hid (Lib.IsBuilder 101 5 w.heap.size w.heap.size (Lib.byteCells acc) wr') ∧ Hid (Below w.heap.size w wr')) (fun iv _ => k - (intOf iv).toNat)
        case atStart =>
          refine ⟨0, x0, by omega, rfl, by omega, by omega, Lib.hid (by rw [H10.out]; rfl), Lib.hid (.inr ?_), HB3⟩
          have h := HBD3.out
          rw [List.nil_append, strCells_mk] at h
          exact h
        case round =>
          obtain ⟨j, acc, hj, rfl, hacc, hlt2, HA, HBD, HBL⟩ := hrel
          have hj0 : (0 : Int) ≤ (j : Int) := Int.natCast_nonneg _
          have hlb' : b < w.heap.size := hlt
          by_cases hjk : j + 1 < k
          · have hjl : j + 1 < xs.length := by have := HNN.out; omega
            have hx : xs[j + 1]? = some xs[j + 1] := List.getElem?_eq_getElem hjl
            have hxl := HSZ.out _ (List.mem_of_getElem? hx)
            generalize xs[j + 1] = x at hx hxl
            have hc := HC'.out _ HBL.out (j + 1) x hx
            rw [show off + (j + 1) = off + 1 + j by omega] at hc
            have hsx : (⟨x.toArray⟩ : ByteArray).size = x.length := Lib.size_eq _
            have hjk1 : (j : Int) < (k : Int) - 1 := by omega
            have hjk2 : j < k - 1 := by omega
            have HX := Lib.hid hx
            have hw1 := fun W hW hbd => Tryd.Builder_WriteString w.heap.size w.heap.size (Lib.byteCells acc) ⟨#[32]⟩ W hbd (by rw [Lib.byteCells_length]; show acc.length + 1 ≤ _; omega) hW
            have hw2 := fun W hW hbd => Tryd.Builder_WriteString w.heap.size w.heap.size (Lib.byteCells acc ++ Lib.strCells ⟨#[32]⟩) ⟨x.toArray⟩ W hbd (by rw [hsx, List.length_append, Lib.byteCells_length]; show acc.length + 1 + x.length ≤ _; omega) hW
            have HW1 := Lib.hid hw1; have HW2 := Lib.hid hw2
            clear hx hw1 hw2
            go_wp2_with fail
            refine (HW1.out _ (by omega) HBD.out).mono ?_
            rintro e w4 ⟨rfl, hbd4, hbel4⟩
            have hs4 := hbel4.size
            have HBD4 := Lib.hid hbd4; have HB4 := Lib.hid hbel4
            clear hbd4 hbel4
            go_wp2_with fail
            refine (HW2.out _ (by omega) (.inr HBD4.out)).mono ?_
            rintro e w5 ⟨rfl, hbd5, hbel5⟩
            have hs5 := hbel5.size
            have HBD5 := Lib.hid hbd5; have HB5 := Lib.hid (HBL.out.trans (HB4.out.trans hbel5))
            clear hbd5 hbel5
            go_wp2_with fail
            refine ⟨⟨j + 1, acc ++ 32 :: x, by omega, by go_num, by simp; omega, by omega, Lib.hid ?_, Lib.hid (.inr ?_), HB5⟩, by simp [intOf]; omega⟩
            · rw [List.take_add_one, HX.out]
              show _ = Sp.joinSp (_ ++ [x])
              rw [joinSp_snoc _ _ (by intro h; have h2 := congrArg List.length h; rw [List.length_take, HNN.out, List.length_nil] at h2; omega), ← HA.out]
            · have h := HBD5.out
              simpa [Lib.byteCells_append, strCells_mk, Lib.byteCells, Lib.strCells] using h
          · obtain rfl : k = j + 1 := by omega
            have hall : Sp.joinSp xs = acc := by
              rw [HA.out, List.take_of_length_le (by rw [HNN.out]; exact Nat.le_refl _)]
            have HALL := Lib.hid hall
            clear hall
            go_wp2_with fail
            refine (Tryd.Builder_String_any w.heap.size w.heap.size acc _ HBD.out (by omega)).mono ?_
            rintro e w4 ⟨rfl, hbel4⟩
            have HB4 := Lib.hid (HBL.out.trans hbel4)
            clear hbel4
            go_wp2_with fail
            go_ret
            rw [HALL.out]
            exact ⟨rfl, HB4.out⟩
end Go.Proofs.YthmimcegiihcnaaDoor
