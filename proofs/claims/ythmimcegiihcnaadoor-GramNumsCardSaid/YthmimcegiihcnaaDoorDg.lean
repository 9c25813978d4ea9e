/- Layer 8: the walks of print.word, declared, ruled. -/
import Derived.Test.YthmimcegiihcnaaDoorDf
import Derived.Test.YthmimcegiihcnaaDoorW1
import Derived.Deep.RegionHeld3
namespace Go.Proofs.YthmimcegiihcnaaDoor
open Go.RowKit

def strsC (ws : List (List UInt8)) : List Value := ws.map fun x => .string ⟨x.toArray⟩
/-- A new slice of strings. -/
def NewStrs (ws : List (List UInt8)) (W : World) (e : Ending) (w' : World) : Prop :=
  ∃ g, e = .returned (.slice (some ⟨g, 0, none⟩) ws.length ws.length) ∧ w'.heap[g]? = some (.cells (strsC ws).toArray 9 (0, 0)) ∧ W.heap.size ≤ g ∧ Below W.heap.size W w'
def okSym (s : Sp.Sym) : Prop := s.name.length ≤ 4000 ∧ (s.lit = true → s.name ≠ []) ∧ -9223372036854775808 ≤ s.num ∧ s.num ≤ 9223372036854775807

set_option maxRecDepth 100000 in
set_option maxHeartbeats 3200000 in
theorem print_word (s : Sp.Sym) (W : World) (hs : okSym s) (hg : Gl W) :
    Calls Tryd.prog 82 #[symV s] W (NewStrs (Sp.symWords s) W) := by
  obtain ⟨nm, lt, nu, pa⟩ := s
  obtain ⟨hs1, hs2, hs3, hs4⟩ := hs
  simp only at hs1 hs2 hs3 hs4
  have HB := Lib.hid (fun o : Obj => (Below.refl _ W).alloc (Nat.le_refl _) o)
  have HG := Lib.hid (fun o : Obj => hg.alloc o)
  show Calls _ _ #[.agg #[.string ⟨nm.toArray⟩, .bool lt, .int .i64 nu, .int .i64 pa]] _ _
  cases lt with
  | true =>
    obtain ⟨c, t, rfl⟩ : ∃ c t, nm = c :: t := by cases nm with | nil => exact absurd rfl (hs2 rfl) | cons c t => exact ⟨c, t, rfl⟩
    have HC := Lib.hid (fun w => char_Text c w)
    have e : Sp.symWords ⟨c :: t, true, nu, pa⟩ = [Sp.quoteText c] := rfl
    rw [e]
    generalize Sp.quoteText c = Q at HC
    have hsz : 0 < (⟨(c :: t).toArray⟩ : ByteArray).size := by rw [Lib.size_eq]; simp
    clear hs1 hs2 hs3 hs4 e
    go_enter Tryd.func82, Tryd.ntmps82
    go_wp2_with fail
    refine (HC.out _).mono ?_
    rintro e w1 ⟨rfl, hb⟩
    have HB' := Lib.hid ((HB.out _).trans (hb.mono (by simp)))
    clear hb
    go_wp2_with fail
    go_ret
    exact ⟨_, rfl, heap_last _ _, HB'.out.size, HB'.out.alloc HB'.out.size _⟩
  | false =>
    by_cases hn : nu = 0
    · subst hn
      have e : Sp.symWords ⟨nm, false, 0, pa⟩ = [nm] := rfl
      rw [e]
      clear hs1 hs2 hs3 hs4 e
      go_enter Tryd.func82, Tryd.ntmps82
      go_wp2_with fail
      go_ret
      have h := heap_last (W.alloc (.cells #[.string ⟨nm.toArray⟩, .bool false, .int .i64 0, .int .i64 pa] 40)) (.cells (strsC [nm]).toArray 9 (0, 0))
      rw [World.size_alloc] at h
      exact ⟨_, rfl, h, by omega, (HB.out _).alloc (by simp) _⟩
    · have e : Sp.symWords ⟨nm, false, nu, pa⟩ = [nm, Lib.itoa nu] := by unfold Sp.symWords; rw [if_neg (by simp), if_neg hn]
      rw [e]
      have hnb : (nu == 0) = false := by simpa using hn
      have HI := Lib.hid (fun w hw => strconv_Itoa_gl nu hs3 hs4 w hw)
      generalize Lib.itoa nu = I at HI
      have hcs : ∀ w2, Below (W.heap.size + 1) (W.alloc (.cells #[.string ⟨nm.toArray⟩, .bool false, .int .i64 nu, .int .i64 pa] 40)) w2 →
          w2.cell? ⟨W.heap.size, 0, none⟩ = some (.string ⟨nm.toArray⟩) ∧ w2.cell? ⟨W.heap.size, 2, none⟩ = some (.int .i64 nu) ∧ Below (W.heap.size + 1) (W.alloc (.cells #[.string ⟨nm.toArray⟩, .bool false, .int .i64 nu, .int .i64 pa] 40)) w2 := fun w2 h => by
        have hF := (h.block W.heap.size (by omega)).trans (heap_last W _)
        exact ⟨cell_at (i := 0) hF, cell_at (i := 2) hF, h⟩
      have HS1 := Lib.hid (hcs _ (Below.refl _ _)); have HS2 := Lib.hid (hcs _ (below_drewN (Below.refl _ _) 1))
      have HI' := Lib.hid (fun W' (hW' : Below (W.heap.size + 1) (W.alloc (.cells #[.string ⟨nm.toArray⟩, .bool false, .int .i64 nu, .int .i64 pa] 40)) W') => (HI.out W' ((HG.out _).below (hW'.mono (by simp)))).mono fun e w'' (h : e = .returned (.string ⟨I.toArray⟩) ∧ Below W'.heap.size W' w'') => And.intro h.1 (hcs w'' (hW'.trans (h.2.mono (by have := hW'.size; simp at this; omega)))))
      have HFIN : Hid (∀ w2, Below (W.heap.size + 1) (W.alloc (.cells #[.string ⟨nm.toArray⟩, .bool false, .int .i64 nu, .int .i64 pa] 40)) w2 → Below W.heap.size W w2) := Lib.hid (fun w2 h => (HB.out _).trans (h.mono (by omega)))
      have HCS := Lib.hid hcs
      clear hs1 hs2 hs3 hs4 e hn hcs HI
      go_enter Tryd.func82, Tryd.ntmps82
      go_wp2_with fail
      go_region_held3 (fun w' => w'.cell? ⟨W.heap.size, 0, none⟩ = some (.string ⟨nm.toArray⟩) ∧ w'.cell? ⟨W.heap.size, 2, none⟩ = some (.int .i64 nu) ∧ Below (W.heap.size + 1) (W.alloc (.cells #[.string ⟨nm.toArray⟩, .bool false, .int .i64 nu, .int .i64 pa] 40)) w')
        (first
          | exact HS1.out
          | exact HS2.out
          | exact ⟨d1, d2, d3⟩
          | exact HCS.out _ (d3.alloc (by have := d3.size; simp at this; omega) _)
          | go_keep)
        ((first
          | (go_at_call 103; refine (HI'.out _ ?_).mono ?_; (first | assumption | exact HS2.out.2.2 | exact HS1.out.2.2); rintro e w' ⟨rfl, d1, d2, d3⟩)))
      go_wp2_with fail
      go_ret
      exact ⟨_, rfl, heap_last _ _, by have := d3.size; simp at this; omega, (HFIN.out _ d3).alloc (HFIN.out _ d3).size _⟩

theorem heap_oldG {w : World} {b : Nat} {o : Obj} (h : w.heap[b]? = some o) (x : Obj) : (w.alloc x).heap[b]? = some o := (Below.heap_alloc _ _ _ (lt_at h)).trans h
theorem ownsRowS_some {w : World} {base : Nat} {e : TypeId} {size : Nat} {v : Value} {n : Nat} {xs : List Value} (h : w.ownsRow base e size v n xs) : ∃ a cap, v = .slice a n cap := by
  rcases h.2 with ⟨rfl, rfl⟩ | ⟨g, cap, cur, rfl, _⟩
  · exact ⟨_, _, rfl⟩
  · exact ⟨_, _, rfl⟩

/-! ### Declarations -/
theorem info_str : (Tryd.prog.info? 9).map (fun i => (i.zero, i.size, i.bytes)) = some (some (.string ⟨#[]⟩), 1, 16) := by kernel_rfl
/-- A slice of strings of one's own. -/
def StrsPost (ws : List (List UInt8)) (W : World) (e : Ending) (w' : World) : Prop :=
  ∃ v, e = .returned v ∧ w'.ownsRow W.heap.size 9 1 v ws.length (strsC ws) ∧ Below W.heap.size W w'
theorem strsC_app (a b : List (List UInt8)) : strsC (a ++ b) = strsC a ++ strsC b := by simp [strsC]
theorem strsC_len (a : List (List UInt8)) : (strsC a).length = a.length := by simp [strsC]
theorem strsC_one (a : List (List UInt8)) : ∀ u ∈ strsC a, u.oneCell' = true := by
  intro u hu
  simp only [strsC, List.mem_map] at hu
  obtain ⟨x, _, rfl⟩ := hu
  rfl
theorem news_at {w : World} {g : Nat} {ws : List (List UInt8)} (h : w.heap[g]? = some (.cells (strsC ws).toArray 9 (0, 0))) : ∀ j u, (strsC ws)[j]? = some u → w.cell? ((⟨g, 0, none⟩ : Addr).add j) = some u := by
  intro j u hu
  have e : (⟨g, 0, none⟩ : Addr).add j = ⟨g, j, none⟩ := by unfold Addr.add; split <;> simp_all
  rw [e, cell_at h]
  simpa using hu
theorem symWords_len (s : Sp.Sym) : (Sp.symWords s).length ≤ 2 := by
  unfold Sp.symWords
  split
  · simp
  split
  · simp
  · simp
theorem flatWords_len : ∀ l : List Sp.Sym, (l.flatMap Sp.symWords).length ≤ 2 * l.length
  | [] => by simp
  | s :: l => by
    have := flatWords_len l
    have := symWords_len s
    simp only [List.flatMap_cons, List.length_append, List.length_cons]
    omega
def okDecl (d : Sp.Decl) : Prop := 1 ≤ d.kind ∧ d.kind ≤ 6 ∧ d.tag.length ≤ 4000 ∧ d.syms.length ≤ 4000 ∧ ∀ s ∈ d.syms, okSym s
theorem key6 (j : Nat) (hj : j < 6) (h : j < [Value.string ⟨#[37, 116, 111, 107, 101, 110]⟩, .string ⟨#[37, 108, 101, 102, 116]⟩, .string ⟨#[37, 114, 105, 103, 104, 116]⟩, .string ⟨#[37, 110, 111, 110, 97, 115, 115, 111, 99]⟩, .string ⟨#[37, 116, 121, 112, 101]⟩, .string ⟨#[37, 115, 116, 97, 114, 116]⟩].length) :
    [Value.string ⟨#[37, 116, 111, 107, 101, 110]⟩, .string ⟨#[37, 108, 101, 102, 116]⟩, .string ⟨#[37, 114, 105, 103, 104, 116]⟩, .string ⟨#[37, 110, 111, 110, 97, 115, 115, 111, 99]⟩, .string ⟨#[37, 116, 121, 112, 101]⟩, .string ⟨#[37, 115, 116, 97, 114, 116]⟩][j] = .string ⟨(Sp.keys.getD j []).toArray⟩ := by
  rcases j with _ | _ | _ | _ | _ | _ | j <;> first | rfl | omega

set_option maxRecDepth 100000 in
set_option maxHeartbeats 6400000 in
theorem print_declared (d : Sp.Decl) (v : Value) (W : World) (hsl : SlAt W v 4 (d.syms.map symC)) (hs : okDecl d) (hg : Gl W) :
    Calls Tryd.prog 49 #[.agg #[.int .i64 d.kind, .string ⟨d.tag.toArray⟩, v, .int .i64 d.at_]] W (StrsPost (Sp.declWords d) W) := by
  obtain ⟨kd, tg, sy, pa⟩ := d
  obtain ⟨hs1, hs2, hs3, hs4, hs5⟩ := hs
  simp only at hs1 hs2 hs3 hs4 hs5 hsl ⊢
  obtain ⟨j, rfl, hj⟩ : ∃ j : Nat, kd = (j : Int) + 1 ∧ j < 6 := ⟨(kd - 1).toNat, by omega, by omega⟩
  have hkey := key6 j hj
  have hdw : Sp.declWords ⟨(j : Int) + 1, tg, sy, pa⟩ = (Sp.keys.getD j [] :: (if tg = [] then [] else [60 :: (tg ++ [62])])) ++ sy.flatMap Sp.symWords := by
    unfold Sp.declWords
    rw [show ((j : Int) + 1 - 1).toNat = j by omega]
  rw [hdw]
  generalize Sp.keys.getD j [] = K at hkey
  obtain ⟨i0, hi0, hz0, hz1, hz2⟩ := info_parts info_str
  obtain ⟨a, cap, rfl⟩ := hsl.form
  rw [List.length_map] at *
  have HSL := Lib.hid hsl
  have HS5 := Lib.hid hs5
  have HB := Lib.hid (fun o : Obj => (Below.refl _ W).alloc (Nat.le_refl _) o)
  have hj0 : (0 : Int) ≤ (j : Int) := Int.natCast_nonneg _
  have hj6 : (j : Int) < 6 := by omega
  clear hsl hs5 hdw hs1 hs2
  by_cases ht : tg = []
  · subst ht
    rw [if_pos rfl]
    have hK : (strsC [K]) = [.string ⟨K.toArray⟩] := rfl
    have hown : ∀ W1 : World, W.heap.size ≤ W1.heap.size → (W1.alloc (.cells #[.string ⟨K.toArray⟩] 9)).ownsRow W.heap.size 9 1 (.slice (some ⟨W1.heap.size, 0, none⟩) 1 1) 1 [.string ⟨K.toArray⟩] := fun W1 h1 => World.ownsRow_lit W1 #[.string ⟨K.toArray⟩] 1 h1 (by decide) rfl
    have HOWN := Lib.hid hown
    clear hown hK
    go_enter Tryd.func49, Tryd.ntmps49
    go_wp2_with fail
    go_loopw [4, 28] (fun lv iv wr => ∃ k : Nat, k ≤ sy.length ∧ iv = .int .i64 k ∧ Hid (wr.ownsRow W.heap.size 9 1 lv ([K] ++ (sy.take k).flatMap Sp.symWords).length (strsC ([K] ++ (sy.take k).flatMap Sp.symWords))) ∧ Hid (Below W.heap.size W wr)) (fun _ iv _ => sy.length - (intOf iv).toNat)
    case atStart => exact ⟨0, Nat.zero_le _, rfl, Lib.hid (by have h := HOWN.out _ (show W.heap.size ≤ ((W.alloc (.cells #[.int .i64 ((j : Int) + 1), .string ⟨#[]⟩, .slice a sy.length cap, .int .i64 pa] 43)).alloc (.cells #[.string ⟨#[37, 116, 111, 107, 101, 110]⟩, .string ⟨#[37, 108, 101, 102, 116]⟩, .string ⟨#[37, 114, 105, 103, 104, 116]⟩, .string ⟨#[37, 110, 111, 110, 97, 115, 115, 111, 99]⟩, .string ⟨#[37, 116, 121, 112, 101]⟩, .string ⟨#[37, 115, 116, 97, 114, 116]⟩] 9)).heap.size by simp; omega); simp only [World.size_alloc] at h; exact h), Lib.hid ((((HB.out _).alloc (by simp) _)).alloc (by simp; omega) _)⟩
    case round =>
      obtain ⟨k, hk, rfl, HO, HBL⟩ := hrel
      have hk0 : (0 : Int) ≤ (k : Int) := Int.natCast_nonneg _
      have hsz := HBL.out.size
      by_cases hkn : k < sy.length
      · have hpx : sy[k]? = some sy[k] := List.getElem?_eq_getElem hkn
        have hok := HS5.out _ (List.mem_of_getElem? hpx)
        generalize sy[k] = x at hpx hok
        obtain ⟨b, off, cap', hv, hb, hc⟩ := HSL.out.some (by intro h; have := congrArg List.length h; simp at this; rw [this] at hkn; simp at hkn)
        obtain ⟨rfl, rfl⟩ : a = some ⟨b, off, none⟩ ∧ cap = cap' := by simpa using hv
        have hcc := fun j u (h : (symC x)[j]? = some u) => (HBL.out.cell (p := ⟨b, _, none⟩) hb).trans (hc k (symC x) (by simp [hpx]) j u h)
        have a0 := hcc 0 _ rfl
        have a1 := hcc 1 _ rfl
        have a2 := hcc 2 _ rfl
        have a3 := hcc 3 _ rfl
        simp only [Nat.add_zero] at a0
        have hgr := hg.below HBL.out
        have HPW := Lib.hid (fun w hw => print_word x w hok hw)
        have HPX := Lib.hid hpx
        have hk1 : (k : Int) < (sy.length : Int) := by omega
        have hwl := symWords_len x
        have hfl := flatWords_len (sy.take k)
        have hfl2 : (sy.take k).length ≤ 4000 := by rw [List.length_take]; omega
        have hnl : ([K] ++ (sy.take k).flatMap Sp.symWords).length ≤ 8002 := by rw [List.length_append]; simp only [List.length_cons, List.length_nil]; omega
        generalize hWX : Sp.symWords x = wx at HPW hwl
        have HO1 := HO.out
        generalize hLL : ([K] ++ (sy.take k).flatMap Sp.symWords) = L at HO1 hnl
        have HLL := Lib.hid hLL
        have HOL := Lib.hid HO1
        have HWX := Lib.hid hWX
        obtain ⟨av, cpv, rfl⟩ := ownsRowS_some HOL.out
        have HG := Lib.hid (fun o : Obj => hgr.alloc o)
        obtain ⟨nm, lt, nu, pb⟩ := x
        clear hv hcc hc hpx hok hWX hfl hfl2 hgr HO1 hLL HO
        go_wp2_with fail
        refine (HPW.out _ (HG.out _)).mono ?_
        rintro e w2 ⟨g, rfl, hgg, hg1, hb2⟩
        have HO2 := Lib.hid (ownsRow_below (HOL.out.alloc _) hb2)
        have HB2 := Lib.hid (((Below.refl _ wr).alloc (Nat.le_refl _) _).trans (hb2.mono (by simp)))
        have HNW := Lib.hid (news_at hgg)
        have hs2 := HB2.out.size
        clear hgg hg1 hb2
        go_wp2_with (at_builtin; refine wpList_append_own _ rfl _ _ 88 rfl W.heap.size 9 i0 _ 1 16 Tryd.underlying88 hi0 hz0 hz1 hz2 rfl (by decide) _ _ _ rfl HO2.out ⟨g, 0, none⟩ wx.length wx.length (strsC wx) rfl (by rw [strsC_len]; omega) HNW.out (strsC_one wx) (by unfold maxLen; omega) (by omega) (by omega) ?_; intro v3 w3 ho3 hg3 _; have HO3 := Lib.hid ho3; have HG3 := Lib.hid hg3; clear ho3 hg3)
        refine ⟨⟨k + 1, by omega, by go_num, Lib.hid ?_, Lib.hid ?_⟩, by simp [intOf]; omega⟩
        · have e : [K] ++ (sy.take (k + 1)).flatMap Sp.symWords = L ++ wx := by
            rw [List.take_add_one, HPX.out, ← HLL.out, ← HWX.out]
            simp [List.flatMap_append]
          rw [e, List.length_append, strsC_app]
          exact HO3.out
        · exact (HBL.out.trans (HB2.out.mono hsz)).grown HG3.out (by omega) (fun g hg => (HO2.out.lt g hg).1)
      · obtain rfl : k = sy.length := by omega
        go_wp2_with fail
        go_ret
        have h := HO.out
        rw [List.take_length] at h
        exact ⟨_, rfl, h, HBL.out⟩
  · obtain ⟨c, u, rfl⟩ : ∃ c u, tg = c :: u := by cases tg with | nil => exact absurd rfl ht | cons c u => exact ⟨c, u, rfl⟩
    rw [if_neg ht]
    have hne : (c :: u).isEmpty = false := rfl
    have hTG : (⟨#[60]⟩ ++ ⟨(c :: u).toArray⟩ ++ ⟨#[62]⟩ : ByteArray) = ⟨(60 :: ((c :: u) ++ [62])).toArray⟩ := by
      apply ByteArray.ext
      apply Array.toList_inj.1
      simp
    have hul : u.length + 1 ≤ 4000 := hs3
    have hown : ((((W.alloc (.cells #[.int .i64 ((j : Int) + 1), .string ⟨(c :: u).toArray⟩, .slice a sy.length cap, .int .i64 pa] 43)).alloc (.cells #[.string ⟨#[37, 116, 111, 107, 101, 110]⟩, .string ⟨#[37, 108, 101, 102, 116]⟩, .string ⟨#[37, 114, 105, 103, 104, 116]⟩, .string ⟨#[37, 110, 111, 110, 97, 115, 115, 111, 99]⟩, .string ⟨#[37, 116, 121, 112, 101]⟩, .string ⟨#[37, 115, 116, 97, 114, 116]⟩] 9)).alloc (.cells #[.string ⟨K.toArray⟩] 9)).alloc (.cells #[.string (⟨#[60]⟩ ++ ⟨(c :: u).toArray⟩ ++ ⟨#[62]⟩)] 9)).ownsRow W.heap.size 9 1 (.slice (some ⟨W.heap.size + 1 + 1, 0, none⟩) 1 1) 1 [.string ⟨K.toArray⟩] := by
      have h := (World.ownsRow_lit (base := W.heap.size) (e := 9) (size := 1) ((W.alloc (.cells #[.int .i64 ((j : Int) + 1), .string ⟨(c :: u).toArray⟩, .slice a sy.length cap, .int .i64 pa] 43)).alloc (.cells #[.string ⟨#[37, 116, 111, 107, 101, 110]⟩, .string ⟨#[37, 108, 101, 102, 116]⟩, .string ⟨#[37, 114, 105, 103, 104, 116]⟩, .string ⟨#[37, 110, 111, 110, 97, 115, 115, 111, 99]⟩, .string ⟨#[37, 116, 121, 112, 101]⟩, .string ⟨#[37, 115, 116, 97, 114, 116]⟩] 9)) #[.string ⟨K.toArray⟩] 1 (by simp; omega) (by decide) rfl).alloc (.cells #[.string (⟨#[60]⟩ ++ ⟨(c :: u).toArray⟩ ++ ⟨#[62]⟩)] 9)
      simp only [World.size_alloc] at h
      exact h
    have hnews : ∀ jj uu, [Value.string (⟨#[60]⟩ ++ ⟨(c :: u).toArray⟩ ++ ⟨#[62]⟩)][jj]? = some uu → ((((W.alloc (.cells #[.int .i64 ((j : Int) + 1), .string ⟨(c :: u).toArray⟩, .slice a sy.length cap, .int .i64 pa] 43)).alloc (.cells #[.string ⟨#[37, 116, 111, 107, 101, 110]⟩, .string ⟨#[37, 108, 101, 102, 116]⟩, .string ⟨#[37, 114, 105, 103, 104, 116]⟩, .string ⟨#[37, 110, 111, 110, 97, 115, 115, 111, 99]⟩, .string ⟨#[37, 116, 121, 112, 101]⟩, .string ⟨#[37, 115, 116, 97, 114, 116]⟩] 9)).alloc (.cells #[.string ⟨K.toArray⟩] 9)).alloc (.cells #[.string (⟨#[60]⟩ ++ ⟨(c :: u).toArray⟩ ++ ⟨#[62]⟩)] 9)).cell? ((⟨W.heap.size + 1 + 1 + 1, 0, none⟩ : Addr).add jj) = some uu := by
      have h := new_cells (((W.alloc (.cells #[.int .i64 ((j : Int) + 1), .string ⟨(c :: u).toArray⟩, .slice a sy.length cap, .int .i64 pa] 43)).alloc (.cells #[.string ⟨#[37, 116, 111, 107, 101, 110]⟩, .string ⟨#[37, 108, 101, 102, 116]⟩, .string ⟨#[37, 114, 105, 103, 104, 116]⟩, .string ⟨#[37, 110, 111, 110, 97, 115, 115, 111, 99]⟩, .string ⟨#[37, 116, 121, 112, 101]⟩, .string ⟨#[37, 115, 116, 97, 114, 116]⟩] 9)).alloc (.cells #[.string ⟨K.toArray⟩] 9)) [Value.string (⟨#[60]⟩ ++ ⟨(c :: u).toArray⟩ ++ ⟨#[62]⟩)] 9
      simp only [World.size_alloc] at h
      exact h
    have hb4 : Below W.heap.size W ((((W.alloc (.cells #[.int .i64 ((j : Int) + 1), .string ⟨(c :: u).toArray⟩, .slice a sy.length cap, .int .i64 pa] 43)).alloc (.cells #[.string ⟨#[37, 116, 111, 107, 101, 110]⟩, .string ⟨#[37, 108, 101, 102, 116]⟩, .string ⟨#[37, 114, 105, 103, 104, 116]⟩, .string ⟨#[37, 110, 111, 110, 97, 115, 115, 111, 99]⟩, .string ⟨#[37, 116, 121, 112, 101]⟩, .string ⟨#[37, 115, 116, 97, 114, 116]⟩] 9)).alloc (.cells #[.string ⟨K.toArray⟩] 9)).alloc (.cells #[.string (⟨#[60]⟩ ++ ⟨(c :: u).toArray⟩ ++ ⟨#[62]⟩)] 9)) := (((HB.out _).alloc (by simp) _).alloc (by simp; omega) _).alloc (by simp; omega) _
    have hlt4 : W.heap.size < ((((W.alloc (.cells #[.int .i64 ((j : Int) + 1), .string ⟨(c :: u).toArray⟩, .slice a sy.length cap, .int .i64 pa] 43)).alloc (.cells #[.string ⟨#[37, 116, 111, 107, 101, 110]⟩, .string ⟨#[37, 108, 101, 102, 116]⟩, .string ⟨#[37, 114, 105, 103, 104, 116]⟩, .string ⟨#[37, 110, 111, 110, 97, 115, 115, 111, 99]⟩, .string ⟨#[37, 116, 121, 112, 101]⟩, .string ⟨#[37, 115, 116, 97, 114, 116]⟩] 9)).alloc (.cells #[.string ⟨K.toArray⟩] 9)).alloc (.cells #[.string (⟨#[60]⟩ ++ ⟨(c :: u).toArray⟩ ++ ⟨#[62]⟩)] 9)).heap.size := by simp; omega
    have hne4 : some W.heap.size ≠ (Value.slice (some ⟨W.heap.size + 1 + 1, 0, none⟩) 1 1).ownBlock := by
      intro h
      have h2 : W.heap.size = W.heap.size + 1 + 1 := Option.some.inj h
      omega
    have HOWN := Lib.hid hown; have HNEWS := Lib.hid hnews; have HB4 := Lib.hid hb4; have HTG := Lib.hid hTG
    clear hown hnews hb4 hTG ht hs3
    go_enter Tryd.func49, Tryd.ntmps49
    go_wp2_with (at_builtin; refine wpList_append_own _ rfl _ _ 88 rfl W.heap.size 9 i0 _ 1 16 Tryd.underlying88 hi0 hz0 hz1 hz2 rfl (by decide) _ _ _ rfl HOWN.out ⟨W.heap.size + 1 + 1 + 1, 0, none⟩ 1 1 [.string (⟨#[60]⟩ ++ ⟨(c :: u).toArray⟩ ++ ⟨#[62]⟩)] rfl rfl HNEWS.out (by simp [Value.oneCell']) (by unfold maxLen; omega) (by omega) (by simp; omega) ?_; intro v3 w3 ho3 hg3 _; have hF3 := (hg3.block W.heap.size hlt4 hne4).trans (heap_oldG (heap_oldG (heap_oldG (heap_last W _) _) _) _); have e2 := cell_at (i := 2) hF3; have hl3 := lt_at hF3; have HO3 := Lib.hid ho3; have HG3 := Lib.hid hg3; clear ho3 hg3 hF3)
    go_loopw [4, 28] (fun lv iv wr => ∃ k : Nat, k ≤ sy.length ∧ iv = .int .i64 k ∧ Hid (wr.ownsRow W.heap.size 9 1 lv ([K, 60 :: ((c :: u) ++ [62])] ++ (sy.take k).flatMap Sp.symWords).length (strsC ([K, 60 :: ((c :: u) ++ [62])] ++ (sy.take k).flatMap Sp.symWords))) ∧ Hid (Below W.heap.size W wr)) (fun _ iv _ => sy.length - (intOf iv).toNat)
    case atStart => exact ⟨0, Nat.zero_le _, rfl, Lib.hid (by have h := HO3.out; rw [HTG.out] at h; exact h), Lib.hid (HB4.out.grown HG3.out (by simp; omega) (fun g hg => (HOWN.out.lt g hg).1))⟩
    case round =>
      obtain ⟨k, hk, rfl, HO, HBL⟩ := hrel
      have hk0 : (0 : Int) ≤ (k : Int) := Int.natCast_nonneg _
      have hsz := HBL.out.size
      by_cases hkn : k < sy.length
      · have hpx : sy[k]? = some sy[k] := List.getElem?_eq_getElem hkn
        have hok := HS5.out _ (List.mem_of_getElem? hpx)
        generalize sy[k] = x at hpx hok
        obtain ⟨b, off, cap', hv, hb, hc⟩ := HSL.out.some (by intro h; have := congrArg List.length h; simp at this; rw [this] at hkn; simp at hkn)
        obtain ⟨rfl, rfl⟩ : a = some ⟨b, off, none⟩ ∧ cap = cap' := by simpa using hv
        have hcc := fun j u (h : (symC x)[j]? = some u) => (HBL.out.cell (p := ⟨b, _, none⟩) hb).trans (hc k (symC x) (by simp [hpx]) j u h)
        have a0 := hcc 0 _ rfl
        have a1 := hcc 1 _ rfl
        have a2 := hcc 2 _ rfl
        have a3 := hcc 3 _ rfl
        simp only [Nat.add_zero] at a0
        have hgr := hg.below HBL.out
        have HPW := Lib.hid (fun w hw => print_word x w hok hw)
        have HPX := Lib.hid hpx
        have hk1 : (k : Int) < (sy.length : Int) := by omega
        have hwl := symWords_len x
        have hfl := flatWords_len (sy.take k)
        have hfl2 : (sy.take k).length ≤ 4000 := by rw [List.length_take]; omega
        have hnl : ([K, 60 :: ((c :: u) ++ [62])] ++ (sy.take k).flatMap Sp.symWords).length ≤ 8002 := by rw [List.length_append]; simp only [List.length_cons, List.length_nil]; omega
        generalize hWX : Sp.symWords x = wx at HPW hwl
        have HO1 := HO.out
        generalize hLL : ([K, 60 :: ((c :: u) ++ [62])] ++ (sy.take k).flatMap Sp.symWords) = L at HO1 hnl
        have HLL := Lib.hid hLL
        have HOL := Lib.hid HO1
        have HWX := Lib.hid hWX
        obtain ⟨av, cpv, rfl⟩ := ownsRowS_some HOL.out
        have HG := Lib.hid (fun o : Obj => hgr.alloc o)
        obtain ⟨nm, lt, nu, pb⟩ := x
        clear hv hcc hc hpx hok hWX hfl hfl2 hgr HO1 hLL HO
        go_wp2_with fail
        refine (HPW.out _ (HG.out _)).mono ?_
        rintro e w2 ⟨g, rfl, hgg, hg1, hb2⟩
        have HO2 := Lib.hid (ownsRow_below (HOL.out.alloc _) hb2)
        have HB2 := Lib.hid (((Below.refl _ wr).alloc (Nat.le_refl _) _).trans (hb2.mono (by simp)))
        have HNW := Lib.hid (news_at hgg)
        have hs2 := HB2.out.size
        clear hgg hg1 hb2
        go_wp2_with (at_builtin; refine wpList_append_own _ rfl _ _ 88 rfl W.heap.size 9 i0 _ 1 16 Tryd.underlying88 hi0 hz0 hz1 hz2 rfl (by decide) _ _ _ rfl HO2.out ⟨g, 0, none⟩ wx.length wx.length (strsC wx) rfl (by rw [strsC_len]; omega) HNW.out (strsC_one wx) (by unfold maxLen; omega) (by omega) (by omega) ?_; intro v3 w3 ho3 hg3 _; have HO3 := Lib.hid ho3; have HG3 := Lib.hid hg3; clear ho3 hg3)
        refine ⟨⟨k + 1, by omega, by go_num, Lib.hid ?_, Lib.hid ?_⟩, by simp [intOf]; omega⟩
        · have e : [K, 60 :: ((c :: u) ++ [62])] ++ (sy.take (k + 1)).flatMap Sp.symWords = L ++ wx := by
            rw [List.take_add_one, HPX.out, ← HLL.out, ← HWX.out]
            simp [List.flatMap_append]
          rw [e, List.length_append, strsC_app]
          exact HO3.out
        · exact (HBL.out.trans (HB2.out.mono hsz)).grown HG3.out (by omega) (fun g hg => (HO2.out.lt g hg).1)
      · obtain rfl : k = sy.length := by omega
        go_wp2_with fail
        go_ret
        have h := HO.out
        rw [List.take_length] at h
        exact ⟨_, rfl, h, HBL.out⟩
end Go.Proofs.YthmimcegiihcnaaDoor
