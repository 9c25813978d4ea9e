/- The walk of Cut. -/
import Derived.Test.YticdgfljaphhgaaDoorBj
import Derived.Test.YticdgfljaphhgaaDoorBf
import Derived.Test.YticdgfljaphhgaaDoorBh
namespace Go.Proofs.YticdgfljaphhgaaDoor
open Go.RowKit

/-- What Cut leaves. -/
def CutPost (r : List Sp.Piece × Int) (w : World) (e : Ending) (w' : World) : Prop :=
  ∃ v, e = .returned (.tuple #[v, .int .i64 r.2]) ∧ w'.ownsRow w.heap.size 28 4 v r.1.length (r.1.flatMap pieceC) ∧ Below w.heap.size w w'

set_option maxRecDepth 100000 in
set_option maxHeartbeats 1600000 in
theorem body_Cut_form (s : ByteArray) (w : World) (hs : s.size < 4294967281) (hg : Gl w) (hb : s.data.toList = [] ∨ Sp.endAt s.data.toList 0 ≠ s.data.toList.length) :
    Calls Tryd.prog 22 #[.string s] w (CutPost ([], 1) w) := by
  have hl : s.data.toList.length = s.size := by simp
  rw [hl] at hb
  have hle : s.toList = s.data.toList := Lib.toList_data s
  rw [← hle] at hb
  by_cases he : s.toList = []
  · have h1 : s.toList.isEmpty = true := by rw [he]; rfl
    clear hb hl hle
    go_enter Tryd.func22, Tryd.ntmps22
    go_wp2
    go_quiet (fail)
    go_wp2
    go_ret2
    exact ⟨_, rfl, World.ownsRow_nil _ _ _ _, below_drewN ((Below.refl _ _).alloc (Nat.le_refl _) _) _⟩
  · have h1 : s.toList.isEmpty = false := by simpa using he
    have hend : Sp.endAt s.data.toList 0 ≠ (s.size : Int) := by rw [← hle]; exact hb.resolve_left he
    generalize hE : Sp.endAt s.data.toList 0 = E at hend
    have hE2 : (E != (s.size : Int)) = true := by rw [bne_iff_ne]; exact hend
    have HC := Lib.hid (show ∀ W, Gl W → Calls Tryd.prog 17 #[.string s, .int .i64 0] W fun e w' => e = .returned (.int .i64 E) ∧ ∃ n, w' = W.drewN n from fun W h => by rw [← hE]; exact body_End s 0 W hs h)
    clear hb hl hle he hend hE
    go_enter Tryd.func22, Tryd.ntmps22
    go_wp2
    go_quiet ((go_at_call 17; exact Calls.quiet_of (HC.out _ (hg.alloc _))))
    go_wp2
    go_ret2
    exact ⟨_, rfl, World.ownsRow_nil _ _ _ _, below_drewN ((Below.refl _ _).alloc (Nat.le_refl _) _) _⟩

theorem heap_alloc_of {w : World} {b : Nat} {o : Obj} (h : w.heap[b]? = some o) (x : Obj) : (w.alloc x).heap[b]? = some o := (Below.heap_alloc _ _ _ (lt_at h)).trans h
theorem take_more (l : List UInt8) (a b c : Nat) (h : a ≤ b) : ((l.drop a).take (b - a)) ++ ((l.drop b).take c) = (l.drop a).take (b + c - a) := by
  rw [show b + c - a = (b - a) + c by omega, List.take_add, List.drop_drop, show a + (b - a) = b by omega]
theorem cutGo_cons (f : Nat) (pend : List UInt8) (c : UInt8) (t : List UInt8) : Sp.cutGo (f + 1) pend (c :: t) =
    match Sp.passLen (c :: t) with
    | none => none
    | some (n + 1) => Sp.cutGo f (pend ++ (c :: t).take (n + 1)) ((c :: t).drop (n + 1))
    | some 0 =>
      if ((c.toNat : Int) == 36) = true then
        if ((Sp.dollar t).2.2 != 0) = true then none
        else if 0 < (Sp.dollar t).2.1 then (Sp.cutGo f [] ((c :: t).drop (Sp.dollar t).2.1)).map (Sp.flush pend ++ (Sp.dollar t).1 :: ·)
        else Sp.cutGo f (pend ++ [c]) t
      else Sp.cutGo f (pend ++ [c]) t := rfl

/-- What a round of Cut's loop finds: blocks N (the text), N + 1 (the list), N + 2 (from where on the text stands). -/
def CutI (s : ByteArray) (R : Option (List Sp.Piece)) (w : World) (p : Nat) (wr : World) : Prop :=
  ∃ (from_ f : Nat) (ps : List Sp.Piece) (v : Value), from_ ≤ p ∧ wr.heap[w.heap.size]? = some (.cells #[.string s] 9 (0, 0)) ∧ wr.heap[w.heap.size + 1]? = some (.cells #[v] 26 (0, 0)) ∧
    wr.heap[w.heap.size + 1 + 1]? = some (.cells #[.int .i64 from_] 3 (0, 0)) ∧ wr.ownsRow (w.heap.size + 1 + 1 + 1) 28 4 v ps.length (ps.flatMap pieceC) ∧ Below w.heap.size w wr ∧ s.size - p < f ∧
    (Sp.cutGo f ((s.data.toList.drop from_).take (p - from_)) (s.data.toList.drop p)).map (ps ++ ·) = R ∧ Sp.Ok (s.data.toList.drop p) ∧ ps.length ≤ 2 * p

set_option maxRecDepth 100000 in
set_option maxHeartbeats 3200000 in
theorem body_Cut_go (s : ByteArray) (w : World) (hs : s.size < 4294967281) (hg : Gl w) (he : s.toList ≠ []) (hend : Sp.endAt s.data.toList 0 = (s.size : Int)) (R : Option (List Sp.Piece)) (hR : Sp.cutGo (s.size + 1) [] s.data.toList = R) :
    Calls Tryd.prog 22 #[.string s] w (CutPost (Sp.cutRes R) w) := by
  have h1 : s.toList.isEmpty = false := by simpa using he
  have hE2 : ((s.size : Int) != (s.size : Int)) = false := by simp
  have hok : Sp.Ok s.data.toList := Sp.Ok.start (by rw [hend]; simp)
  have HC := Lib.hid (show ∀ W, Gl W → Calls Tryd.prog 17 #[.string s, .int .i64 0] W fun e w' => e = .returned (.int .i64 (s.size : Int)) ∧ ∃ n, w' = W.drewN n from fun W h => by rw [← hend]; exact body_End s 0 W hs h)
  have HR := Lib.hid hR
  have HK := Lib.hid hok
  clear he hend hR hok
  go_enter Tryd.func22, Tryd.ntmps22
  go_wp2
  go_quiet ((go_at_call 17; exact Calls.quiet_of (HC.out _ (hg.alloc _))))
  go_wp2
  go_loopw [7] (fun i wr => ∃ p : Nat, p ≤ s.size ∧ i = .int .i64 p ∧ CutI s R w p wr) (fun i _ => s.size - (intOf i).toNat)
  case atStart =>
    refine ⟨0, Nat.zero_le _, rfl, 0, s.size + 1, [], _, Nat.le_refl _, ?_, ?_, ?_, World.ownsRow_nil _ _ _ _, ?_, by omega, ?_, by simpa using HK.out, by simp⟩
    · exact heap_alloc_of (heap_alloc_of (heap_last w _) _) _
    · exact heap_alloc_of (by simpa using heap_last ((w.alloc (.cells #[.string s] 9)).drewN nq) (.cells #[.slice none 0 0] 26)) _
    · simpa using heap_last (((w.alloc (.cells #[.string s] 9)).drewN nq).alloc (.cells #[.slice none 0 0] 26)) (.cells #[.int .i64 0] 3)
    · exact ((below_drewN ((Below.refl _ _).alloc (Nat.le_refl _) _) _).alloc (by simp) _).alloc (by simp; omega) _
    · have := HR.out
      simpa using this
  case round =>
    obtain ⟨p, hp, rfl, from_, f, ps, v, hfp, hb0, hb1, hb2, hown, hbel, hf, hi, hok, hlen⟩ := hrel
    clear HC HR HK hE2
    have c0 := cell_at (i := 0) hb0
    have hgr := hg.below hbel
    have HB0 := Lib.hid hb0; have HB1 := Lib.hid hb1; have HB2 := Lib.hid hb2; have HO := Lib.hid hown; have HBel := Lib.hid hbel
    clear hb0 hb1 hb2 hown hbel
    by_cases hlt : p < s.size
    · obtain ⟨f, rfl⟩ : ∃ g, f = g + 1 := ⟨f - 1, by omega⟩
      have hd := drop_at s p hlt
      rw [hd, cutGo_cons, ← hd] at hi
      have hpl := Sp.passLen_le (s.data.toList.drop p)
      have hl : (s.data.toList.drop p).length = s.size - p := by simp
      rw [hl] at hpl
      have hnn := hok.pass (by rw [hd]; simp)
      cases hps : Sp.passLen (s.data.toList.drop p) with
      | none => exact absurd hps hnn
      | some m =>
        have hm := hpl m hps
        cases m with
        | succ m =>
          rw [hps] at hi
          simp only at hi
          have hok' := hok.skip hps
          rw [List.drop_drop] at hok'
          rw [take_more _ _ _ _ hfp, List.drop_drop] at hi
          have HI := Lib.hid hi
          have HOK := Lib.hid hok'
          have HP := Lib.hid hps
          clear hi hok' hps hpl hl hd hok hnn
          go_wp2_with (go_at_call 36; refine (body_pass s p _ hs hlt hgr).mono ?_; rintro e w' ⟨rfl, n2, rfl⟩; rw [HP.out]; simp only [Sp.place])
          go_roundw
          case rel =>
            go_light
            exact ⟨p + (m + 1), by omega, by go_num, from_, f, ps, v, by omega, HB0.out, HB1.out, HB2.out, HO.out, below_drewN HBel.out _, by omega, HI.out, HOK.out, by omega⟩
          case measure => go_light; simp [intOf]; omega
        | zero =>
          rw [hps] at hi
          simp only at hi
          rw [hd] at hps hok
          have HP := Lib.hid (hd ▸ hps)
          have hone : ∀ q, Sp.cutGo f ((s.data.toList.drop from_).take (p - from_) ++ [s[p]]) q = Sp.cutGo f ((s.data.toList.drop from_).take (p + 1 - from_)) q := by
            intro q
            rw [← take_more _ _ _ 1 hfp, hd]; rfl
          rw [hone] at hi
          cases h36 : ((s[p].toNat : Int) == 36) with
          | false =>
            rw [h36, if_neg (by simp)] at hi
            have hok' := hok.step hps
            have HI := Lib.hid hi
            have HOK := Lib.hid hok'
            clear hi hok' hps hpl hl hd hok hnn hone
            go_wp2_with (go_at_call 36; refine (body_pass s p _ hs hlt hgr).mono ?_; rintro e w' ⟨rfl, n2, rfl⟩; rw [HP.out]; simp only [Sp.place, Nat.add_zero])
            go_roundw
            case rel =>
              go_light
              exact ⟨p + 1, by omega, by go_num, from_, f, ps, v, by omega, HB0.out, HB1.out, HB2.out, HO.out, below_drewN HBel.out _, by omega, HI.out, HOK.out, by omega⟩
            case measure => go_light; simp [intOf]; omega
          | true =>
            rw [if_pos h36] at hi
            have hdl := Sp.dollar_le (s.data.toList.drop (p + 1))
            have hderr := Sp.dollar_err (s.data.toList.drop (p + 1))
            have hokd := hok.dollar h36
            have hok1 := hok.step hps
            have hl1 : (s.data.toList.drop (p + 1)).length = s.size - (p + 1) := by simp
            rw [hl1] at hdl
            have hdc := Lib.hid (fun W => body_dollar s p W hs hlt)
            generalize hD : Sp.dollar (s.data.toList.drop (p + 1)) = D at hi hdl hderr hokd hdc
            obtain ⟨P, k, e⟩ := D
            clear hD hps hpl hl hl1 hok hnn hone
            simp only at hi hdl hderr hokd hdc
            cases he : (e != 0) with
            | true =>
              rw [if_pos he] at hi
              have hsix := hderr he
              have HI := Lib.hid (show R = none by rw [← hi]; rfl)
              have HS := Lib.hid hsix
              clear hi hsix hderr hokd hok1 hd
              go_wp2_with (first
                | (go_at_call 36; refine (body_pass s p _ hs hlt hgr).mono ?_; rintro e w' ⟨rfl, n2, rfl⟩; rw [HP.out]; simp only [Sp.place, Nat.add_zero])
                | (go_at_call 43; refine (hdc.out _).mono ?_; rintro e w1 ⟨rfl, hb⟩; simp only [pieceV]))
              go_ret2
              refine ⟨_, by rw [HI.out, HS.out]; rfl, ?_, ?_⟩
              · rw [HI.out]; exact World.ownsRow_nil _ _ _ _
              · exact (((below_drewN HBel.out _).trans (hb.mono (by have := HBel.out.size; simp; omega))).alloc (by have := HBel.out.size; have := hb.size; simp at this; omega) _)
            | false =>
              rw [he, if_neg (by simp)] at hi
              have h0 : e = 0 := by simpa using he
              subst h0
              clear hderr
              by_cases hk : 0 < k
              · rw [if_pos hk] at hi
                rw [← hd, List.drop_drop] at hokd
                rw [List.drop_drop] at hi
                have HI := Lib.hid hi
                have HOK := Lib.hid hokd
                clear hi hokd hok1 hd
                have hnlt : ps.length < 4294967281 - 2 ∨ True := .inr trivial
                go_wp2_with (first
                  | (go_at_call 36; refine (body_pass s p _ hs hlt hgr).mono ?_; rintro e w' ⟨rfl, n2, rfl⟩; rw [HP.out]; simp only [Sp.place, Nat.add_zero])
                  | (go_at_call 43; refine (hdc.out _).mono ?_; rintro e w1 ⟨rfl, hb⟩; simp only [pieceV]))
                have hb' : Below wr.heap.size wr w1 := (below_drewN (Below.refl _ _) n2).trans hb
                have hsz := HBel.out.size
                have hsz1 := hb'.size
                have hl2w := lt_at ((hb'.block _ (lt_at HB2.out)).trans HB2.out)
                have e0 := heap_alloc_of ((hb'.block _ (lt_at HB0.out)).trans HB0.out) (.cells #[.int .i64 P.kind, .string ⟨P.text.toArray⟩, .int .i64 P.n, .string ⟨P.tag.toArray⟩] 28)
                have e1 := heap_alloc_of ((hb'.block _ (lt_at HB1.out)).trans HB1.out) (.cells #[.int .i64 P.kind, .string ⟨P.text.toArray⟩, .int .i64 P.n, .string ⟨P.tag.toArray⟩] 28)
                have e2 := heap_alloc_of ((hb'.block _ (lt_at HB2.out)).trans HB2.out) (.cells #[.int .i64 P.kind, .string ⟨P.text.toArray⟩, .int .i64 P.n, .string ⟨P.tag.toArray⟩] 28)
                have eo := (ownsRow_below HO.out hb')
                have hlto := eo.lt
                have e3 := eo.alloc (.cells #[.int .i64 P.kind, .string ⟨P.text.toArray⟩, .int .i64 P.n, .string ⟨P.tag.toArray⟩] 28)
                have hfl : (Sp.flush ((s.data.toList.drop from_).take (p - from_))).length ≤ 1 := by unfold Sp.flush; split <;> simp
                refine (cut_text s from_ p _ _ _ _ _ _ _ _ (by omega) e2 e1 e0 e3 (by omega) (by simp; omega)).mono ?_
                rintro e w2 ⟨rfl, v', hl2, hown2, hkp⟩
                generalize hF : Sp.flush ((s.data.toList.drop from_).take (p - from_)) = F at *
                have n1 := ownsRow_ne e3 e1 (by decide)
                have n0 := ownsRow_ne e3 e0 (by decide)
                have nn2 := ownsRow_ne e3 e2 (by decide)
                have q0 := hkp.at e0 ⟨by omega, fun g hg h => n0 g hg h.symm⟩
                have q2 := hkp.at e2 ⟨by omega, fun g hg h => nn2 g hg h.symm⟩
                have qp := hkp.at (heap_last w1 (.cells #[.int .i64 P.kind, .string ⟨P.text.toArray⟩, .int .i64 P.n, .string ⟨P.tag.toArray⟩] 28)) ⟨by omega, fun g hg h => by have := (hlto g hg).2; omega⟩
                have hbel2 : Below w.heap.size w w2 := (((HBel.out.trans (hb'.mono hsz)).alloc (by omega) _).trans (hkp.below (by simp; omega) (fun k hk => ⟨by omega, fun g hg h => by have := (hlto g hg).1; omega⟩)))
                have hsz2 := hkp.size
                simp only [World.size_alloc] at hsz2
                have k1 := cell_at (i := 0) hl2; have m1 := frozen_at (i := 0) hl2
                have k2 := cell_at (i := 0) q2; have m2 := frozen_at (i := 0) q2
                have p0 := cell_at (i := 0) qp; have p1 := cell_at (i := 1) qp; have p2 := cell_at (i := 2) qp; have p3 := cell_at (i := 3) qp
                obtain ⟨i0, hi0, hz0, hz1, hz2⟩ := info_parts info_piece
                have r1 := ownsRow_ne hown2 hl2 (by decide)
                have r2 := ownsRow_ne hown2 q2 (by decide)
                have r0 := ownsRow_ne hown2 q0 (by decide)
                have hlt2 := hown2.lt
                have Q0 := Lib.hid q0; have Q2 := Lib.hid q2; have HL2 := Lib.hid hl2; have HOW := Lib.hid hown2; have HBL2 := Lib.hid hbel2
                have R0 := Lib.hid r0; have R1 := Lib.hid r1; have R2 := Lib.hid r2; have HLT := Lib.hid hlt2
                have hl2lt := lt_at hl2; have q2lt := lt_at q2; have q0lt := lt_at q0
                clear e0 e1 e2 e3 eo hlto n0 n1 nn2 qp hkp q0 q2 hl2 hown2 hbel2 r0 r1 r2 hlt2 hb hb' HO HBel HB0 HB1 HB2 hF
                go_wp2_with (at_builtin; refine wpList_append_own _ rfl (.tmp 53) (.tmp 55) 26 rfl (w.heap.size + 1 + 1 + 1) 28 i0 _ 4 48 Tryd.underlying26 hi0 hz0 hz1 hz2 rfl (by decide) _ _ _ rfl (HOW.out.alloc _) ⟨w2.heap.size, 0, none⟩ 1 1 (pieceC P) rfl rfl (new_cells _ _ _) (by simp [pieceC, Value.oneCell']) (by unfold maxLen; omega) (by omega) (by simp; omega) ?_; intro v3 w3 ho3 hg3 _; obtain ⟨g3, cp3, rfl⟩ := own_form ho3 (by omega); have s1 := (hg3.block _ (by simp; omega) (fun h => R1.out _ h.symm rfl)).trans (heap_alloc_of HL2.out _); have s2 := (hg3.block _ (by simp; omega) (fun h => R2.out _ h.symm rfl)).trans (heap_alloc_of Q2.out _); have s0 := (hg3.block _ (by simp; omega) (fun h => R0.out _ h.symm rfl)).trans (heap_alloc_of Q0.out _); have k1' := cell_at (i := 0) s1; have m1' := frozen_at (i := 0) s1; have k2' := cell_at (i := 0) s2; have m2' := frozen_at (i := 0) s2; have HO3 := Lib.hid ho3; have HG3 := Lib.hid hg3; have S0 := Lib.hid s0; have S1 := Lib.hid s1; have S2 := Lib.hid s2; clear ho3 hg3 s0 s1 s2)
                go_roundw
                case rel =>
                  go_light
                  refine ⟨p + k, by omega, by go_num, p + k, f, ps ++ F ++ [P], .slice (some ⟨g3, 0, none⟩) (ps.length + F.length + 1) cp3, Nat.le_refl _, ?_, ?_, ?_, ?_, ?_, by omega, ?_, HOK.out, by simp; omega⟩
                  · exact (Below.heap_setCell _ _ _ _ (by simp; omega)).trans ((Below.heap_setCell _ _ _ _ (by simp)).trans S0.out)
                  · exact (Below.heap_setCell _ _ _ _ (by simp)).trans (heap_setCell_at S1.out)
                  · have := heap_setCell_at (i := 0) (v := .int .i64 ((p + k : Nat) : Int)) ((Below.heap_setCell w3 ⟨w.heap.size + 1, 0, none⟩ (.slice (some ⟨g3, 0, none⟩) (ps.length + F.length + 1) cp3) (w.heap.size + 1 + 1) (by simp)).trans S2.out)
                    simpa using this
                  · have h1 := ownsRow_setCell_ne (i := 0) HO3.out S1.out (by decide) (.slice (some ⟨g3, 0, none⟩) (ps.length + F.length + 1) cp3)
                    have h2 := ownsRow_setCell_ne (i := 0) h1 ((Below.heap_setCell w3 ⟨w.heap.size + 1, 0, none⟩ (.slice (some ⟨g3, 0, none⟩) (ps.length + F.length + 1) cp3) (w.heap.size + 1 + 1) (by simp)).trans S2.out) (by decide) (.int .i64 ((p + k : Nat) : Int))
                    simpa [List.flatMap_append, List.append_assoc, Nat.add_assoc] using h2
                  · exact ((((HBL2.out.alloc (by omega) _).grown HG3.out (by simp; omega) (fun k hk => by have := (HLT.out k hk).1; omega)).setCell (by simp) _).setCell (by simp; omega) _)
                  · have := HI.out
                    simp only [Option.map_map] at this
                    rw [← this]
                    simp [Function.comp_def]
                case measure => go_light; simp [intOf]; omega
              · rw [if_neg hk] at hi
                have HI := Lib.hid hi
                have HOK := Lib.hid hok1
                clear hi hokd hok1 hd
                go_wp2_with (first
                  | (go_at_call 36; refine (body_pass s p _ hs hlt hgr).mono ?_; rintro e w' ⟨rfl, n2, rfl⟩; rw [HP.out]; simp only [Sp.place, Nat.add_zero])
                  | (go_at_call 43; refine (hdc.out _).mono ?_; rintro e w1 ⟨rfl, hb⟩; simp only [pieceV]; have c0' := (hb.cell (p := ⟨w.heap.size, 0, none⟩) (by have := lt_at HB0.out; simpa using this)).trans c0))
                go_roundw
                case rel =>
                  go_light
                  have hb' : Below wr.heap.size wr w1 := (below_drewN (Below.refl _ _) n2).trans hb
                  exact ⟨p + 1, by omega, by go_num, from_, f, ps, v, by omega, heap_alloc_of ((hb'.block _ (lt_at HB0.out)).trans HB0.out) _, heap_alloc_of ((hb'.block _ (lt_at HB1.out)).trans HB1.out) _, heap_alloc_of ((hb'.block _ (lt_at HB2.out)).trans HB2.out) _, (ownsRow_below HO.out hb').alloc _, (HBel.out.trans (hb'.mono HBel.out.size)).alloc (by have := HBel.out.size; have := hb'.size; omega) _, by omega, HI.out, HOK.out, by omega⟩
                case measure => go_light; simp [intOf]; omega
    · have hpe : p = s.size := by omega
      rw [drop_end s p hlt] at hi
      obtain ⟨f, rfl⟩ : ∃ g, f = g + 1 := ⟨f - 1, by omega⟩
      simp only [Sp.cutGo, Option.map_some] at hi
      have HI := Lib.hid hi
      have HPE := Lib.hid hpe
      have hsz := HBel.out.size
      have hl2w := lt_at HB2.out
      have hlto := HO.out.lt
      clear hi hpe hok
      go_wp2_with fail
      refine (cut_text s from_ s.size _ _ _ _ _ _ _ _ (Nat.le_refl _) HB2.out HB1.out HB0.out HO.out (by omega) (by omega)).mono ?_
      rintro e w2 ⟨rfl, v', hl2, hown2, hkp⟩
      have hbel2 : Below w.heap.size w w2 := HBel.out.trans (hkp.below hsz (fun k hk => ⟨by omega, fun g hg h => by have := (hlto g hg).1; omega⟩))
      obtain ⟨a2, cp2, rfl⟩ := ownsRow_some hown2
      have k1 := cell_at (i := 0) hl2
      have HOW := Lib.hid hown2; have HBL2 := Lib.hid hbel2
      clear hl2 hown2 hbel2 hkp HB0 HB1 HB2 HO HBel hlto
      go_wp2
      go_ret2
      have hR := HI.out
      rw [HPE.out] at hR
      subst hR
      refine ⟨_, rfl, ?_, HBL2.out⟩
      have := ownsRow_mono HOW.out (base' := w.heap.size) (by omega)
      simpa [Sp.cutRes, List.flatMap_append] using this

theorem body_Cut (s : ByteArray) (w : World) (hs : s.size < 4294967281) (hg : Gl w) :
    Calls Tryd.prog 22 #[.string s] w (CutPost (Sp.cut s.data.toList) w) := by
  by_cases h : s.data.toList = [] ∨ Sp.endAt s.data.toList 0 ≠ s.data.toList.length
  · rw [Sp.cut, if_pos h]
    exact body_Cut_form s w hs hg h
  · rw [Sp.cut, if_neg h]
    have hl : s.data.toList.length = s.size := by simp
    refine body_Cut_go s w hs hg ?_ ?_ _ (by rw [hl])
    · rw [Lib.toList_data]; exact fun e => h (.inl e)
    · rw [← hl]; exact Classical.not_not.1 fun e => h (.inr e)
end Go.Proofs.YticdgfljaphhgaaDoor
