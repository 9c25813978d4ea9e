/- read.reader's decl: its loop over the symbols. -/
import Derived.Deep.AppendLies
import Derived.Test.YtphdfbmmjkccgaaDoorZ11
import Derived.Test.YtphdfbmmjkccgaaDoorZ07
namespace Go.Proofs.YtphdfbmmjkccgaaDoor
open Go.RowKit Go.Maps

theorem Sp.atoi_all {l : List UInt8} (h : ∀ c ∈ l, Sp.digit c = true) (h0 : l ≠ []) : Go.Lib.atoi l = some (Sp.num l) := by
  have hd : ∀ (l : List UInt8), (∀ c ∈ l, Sp.digit c = true) → Sp.digits l = l.length := by
    intro l
    induction l with
    | nil => intro _; rfl
    | cons c t ih =>
      intro h
      unfold Sp.digits
      rw [if_pos (h c (by simp)), ih (fun x hx => h x (by simp [hx]))]
      simp
  have e := hd l h
  have := Sp.atoi_digits l (by rw [e]; cases l with | nil => exact absurd rfl h0 | cons => simp)
  rwa [e, List.take_length] at this
noncomputable def declBlk (n : Nat) : Code := (Tryd.f35.body.bind (findBlock n)).getD .skip
set_option maxRecDepth 100000 in
set_option maxHeartbeats 12800000 in
theorem decl_syms {B : Nat} {W wm : World} {m D : Nat} {ws : List Sp.Word} {s0 s1 : Sp.RdS} {v : RdV} {k at_ : Int} {tag : List UInt8}
    (u4 u5 u6 u7 u8 u9 u10 u11 u12 u13 u14 u15 u16 u17 u18 u19 u20 u21 u22 u23 u24 u25 u26 u27 u28 u29 u30 u31 u32 u33 u34 u35 u36 u37 u38 u39 u40 u41 u42 u43 u44 u45 u46 u47 u48 u49 u50 u51 u52 u53 u54 u55 u56 u57 u58 u59 u60 u61 u62 u63 u64 u65 u66 u67 u68 u69 u70 u71 u72 u73 u74 u75 u76 u77 u78 u79 u80 u81 u82 u83 u84 u85 u86 u87 u88 u89 u90 u91 u92 u93 u94 u95 u96 u97 u98 u99 u100 u101 u102 u103 u104 u105 u106 u107 u108 u109 u110 u111 u112 u113 u114 u115 u116 u117 u118 u119 u120 u121 u122 u123 u124 u125 u126 u127 u128 u129 u130 u131 u132 u133 u134 u135 u136 u137 u138 u139 u140 u141 u142 u143 u144 u145 u146 u147 u148 u149 u150 u151 u152 u153 u154 u155 u156 : Value) (K : Act → World → Prop) (Q : Exit → Act → World → Prop)
    (hst : DeclR B W m ws s0 s1 ⟨k, tag, [], at_⟩ (.slice none 0 0) v D wm) (hb : s1.bad = false) (hgood : ∀ w ∈ ws, Sp.GoodW w)
    (hQ : ∀ c (t : Array Value) (a : Act) w, Q (.panic c) ⟨t, a.defers⟩ w → Q (.panic c) a w)
    (hK : ∀ (x4 x100 x101 x102 x103 x104 x105 x106 x107 x108 x109 x110 x111 x112 x113 x114 x115 x116 x117 x118 x119 x120 x121 x122 x123 x124 x125 x126 x127 x128 x129 x130 x131 x132 x133 x134 x135 x136 x137 x138 x139 x140 x141 x142 x143 x144 : Value) (wx : World) (s2 : Sp.RdS) (sy : List Sp.Sym) (sv : Value), DeclR B W m ws s0 s2 ⟨k, tag, sy, at_⟩ sv v D wx → s2.bad = false → s1.i ≤ s2.i → Sp.rdSyms k s1.ws = (sy, s2.ws) → K ⟨#[.pointer (some ⟨m, 0, none⟩), .pointer (some ⟨W.heap.size, 0, none⟩), .pointer (some ⟨D, 0, none⟩), .func (.func 63) #[] #[.pointer (some ⟨W.heap.size, 0, none⟩), .pointer (some ⟨D, 0, none⟩)], x4, u5, u6, u7, u8, u9, u10, u11, u12, u13, u14, u15, u16, u17, u18, u19, u20, u21, u22, u23, u24, u25, u26, u27, u28, u29, u30, u31, u32, u33, u34, u35, u36, u37, u38, u39, u40, u41, u42, u43, u44, u45, u46, u47, u48, u49, u50, u51, u52, u53, u54, u55, u56, u57, u58, u59, u60, u61, u62, u63, u64, u65, u66, u67, u68, u69, u70, u71, u72, u73, u74, u75, u76, u77, u78, u79, u80, u81, u82, u83, u84, u85, u86, u87, u88, u89, u90, u91, u92, u93, u94, u95, u96, u97, u98, u99, x100, x101, x102, x103, x104, x105, x106, x107, x108, x109, x110, x111, x112, x113, x114, x115, x116, x117, x118, x119, x120, x121, x122, x123, x124, x125, x126, x127, x128, x129, x130, x131, x132, x133, x134, x135, x136, x137, x138, x139, x140, x141, x142, x143, x144, u145, u146, u147, u148, u149, u150, u151, u152, u153, u154, u155, u156], []⟩ wx) :
    Code.wp Tryd.prog (declBlk 0) (Exit.then K Q) ⟨#[.pointer (some ⟨m, 0, none⟩), .pointer (some ⟨W.heap.size, 0, none⟩), .pointer (some ⟨D, 0, none⟩), .func (.func 63) #[] #[.pointer (some ⟨W.heap.size, 0, none⟩), .pointer (some ⟨D, 0, none⟩)], u4, u5, u6, u7, u8, u9, u10, u11, u12, u13, u14, u15, u16, u17, u18, u19, u20, u21, u22, u23, u24, u25, u26, u27, u28, u29, u30, u31, u32, u33, u34, u35, u36, u37, u38, u39, u40, u41, u42, u43, u44, u45, u46, u47, u48, u49, u50, u51, u52, u53, u54, u55, u56, u57, u58, u59, u60, u61, u62, u63, u64, u65, u66, u67, u68, u69, u70, u71, u72, u73, u74, u75, u76, u77, u78, u79, u80, u81, u82, u83, u84, u85, u86, u87, u88, u89, u90, u91, u92, u93, u94, u95, u96, u97, u98, u99, u100, u101, u102, u103, u104, u105, u106, u107, u108, u109, u110, u111, u112, u113, u114, u115, u116, u117, u118, u119, u120, u121, u122, u123, u124, u125, u126, u127, u128, u129, u130, u131, u132, u133, u134, u135, u136, u137, u138, u139, u140, u141, u142, u143, u144, u145, u146, u147, u148, u149, u150, u151, u152, u153, u154, u155, u156], []⟩ wm := by
  have HST0 := Lib.hid hst; have HB0 := Lib.hid hb; have HGOOD := Lib.hid hgood
  obtain ⟨R0, hR0⟩ : ∃ R0, R0 = Sp.rdSyms k s1.ws := ⟨_, rfl⟩
  rw [← hR0] at hK
  have HR0 := Lib.hid hR0
  clear hst hb hgood hR0
  have HKK := Lib.hid hK
  have hM : ∀ a w, Met K a w → K a w := fun _ _ h => h
  clear hK
  conv => arg 2; whnf
  go_wp2_with fail
  go_loopg [4] s1.ws.length (fun q c4 wr => ∃ (s2 : Sp.RdS) (sy : List Sp.Sym) (sv : Value), DeclR B W m ws s0 s2 ⟨k, tag, sy, at_⟩ sv v D wr ∧ s2.bad = false ∧ s1.i ≤ s2.i ∧ q = s2.ws.length ∧ R0 = (sy ++ (Sp.rdSyms k s2.ws).1, (Sp.rdSyms k s2.ws).2))
  case atStart => exact ⟨s1, [], _, HST0.out, HB0.out, Nat.le_refl _, rfl, HR0.out⟩
  case round =>
    clear HST0 HB0 HR0
    obtain ⟨sa, sy, sv, hst, hba, hia, rfl, hR⟩ := hrel
    have HMAY := Lib.hid (decl_may hst)
    have HST := Lib.hid hst; have HBA := Lib.hid hba; have HIA := Lib.hid hia; have HR := Lib.hid hR
    have HD := Lib.hid (fun n => hst.below (below_drewN (Below.refl _ wr) n))
    obtain ⟨x, l, hx⟩ := hst.rd.ends.cons
    have hrb := hst.rbox
    have r0 : wr.cell? ⟨W.heap.size, 0, none⟩ = some (.pointer (some ⟨m, 0, none⟩)) := cell_at (i := 0) hrb
    have lr := lt_at hrb
    clear hst hba hia hR hrb
    cases hsh : Sp.symHere k sa.ws with
    | false =>
      have hR := HR.out
      rw [Sp.syms_stop _ _ hsh, List.append_nil] at hR
      have HR2 := Lib.hid hR
      rw [hsh] at HMAY
      clear hR HR hsh hx
      go_wp2_with (go_at_call 63; refine HMAY.out.mono ?_; rintro e w' ⟨rfl, n1, rfl⟩)
      exact HKK.out _ _ _ _ _ _ _ _ _ _ _ _ _ _ _ _ _ _ _ _ _ _ _ _ _ _ _ _ _ _ _ _ _ _ _ _ _ _ _ _ _ _ _ _ _ _ _ sa sy sv (HD.out n1) HBA.out HIA.out HR2.out
    | true =>
      have hk : x.kind ≠ 10 := by rw [hx] at hsh; exact Sp.symHere_ne hsh
      have HX := Lib.hid hx; have HK := Lib.hid hk; have HSH := Lib.hid hsh
      rw [hsh] at HMAY
      have HSY := Lib.hid (fun n => (show Calls Tryd.prog 62 #[.pointer (some ⟨m, 0, none⟩)] (wr.drewN n) (fun e w' => e = .returned (.agg #[.string ⟨x.text.toArray⟩, .bool (x.kind == 2), .int .i64 0, .int .i64 x.at_]) ∧ ReaderAt B w' m ws sa.next v ∧ BoxFr B (wr.drewN n) w') from reader_sym (HD.out n).rd hx hk))
      clear hk hx hsh
      go_wp2_with (go_at_call 63; refine HMAY.out.mono ?_; rintro e w' ⟨rfl, n1, rfl⟩)
      go_upto_region 14 with fail
      refine (HSY.out n1).mono ?_
      rintro e w3 ⟨rfl, h3, hf3⟩
      obtain ⟨S, hS⟩ : ∃ S, S = w3.heap.size := ⟨_, rfl⟩
      obtain ⟨w4, hw4⟩ : ∃ w4 : World, w4 = w3.alloc (.cells #[.string ⟨x.text.toArray⟩, .bool (x.kind == 2), .int .i64 0, .int .i64 x.at_] 40) := ⟨_, rfl⟩
      have hb4 : Below w3.heap.size w3 w4 := by rw [hw4]; exact (Below.refl _ w3).alloc (Nat.le_refl _) _
      have hsb : w4.heap[S]? = some (.cells #[.string ⟨x.text.toArray⟩, .bool (x.kind == 2), .int .i64 0, .int .i64 x.at_] 40 (0, 0)) := by rw [hw4, hS]; exact heap_last w3 _
      have hst4 := ((HD.out n1).step h3 hf3 rfl rfl rfl rfl (by unfold Sp.RdS.next; simp)).below hb4
      have hli : sy.length + 1 < sa.next.i := by
        have := HST.out.len
        unfold Sp.RdS.next
        simp only at *
        omega
      have hSD : S ≠ D := by
        have h1 := (HD.out n1).dbox
        have h2 := hf3.size
        have h3 := lt_at h1
        omega
      have HST4 := Lib.hid hst4; have HSB := Lib.hid hsb; have HLI := Lib.hid hli; have HSD := Lib.hid hSD
      have HSW := Lib.hid (show W.heap.size < S from by
        have h1 := lt_at ((HD.out n1).rbox)
        have h2 := hf3.size
        omega)
      have HSO := Lib.hid (show sv.ownBlock ≠ some S from fun e => by
        have h1 := ((HD.out n1).row.lt S e).2
        have h2 := hf3.size
        omega)
      go_upto_region 15 with fail
      rw [← hS, ← hw4]
      clear hS hw4 hb4 hsb h3 hf3 hst4 HSY HMAY HD r0 lr hli hSD
      obtain ⟨s2, hs2⟩ : ∃ s2 : Sp.RdS, s2 = sa.next := ⟨_, rfl⟩
      rw [← hs2] at HST4 HLI
      have HW2 := Lib.hid (show s2.ws = l from by rw [hs2]; unfold Sp.RdS.next; simp only; rw [HX.out]; rfl)
      have HB2 := Lib.hid (show s2.bad = false from by rw [hs2]; exact HBA.out)
      have HI2 := Lib.hid (show s1.i ≤ s2.i from by rw [hs2]; have := HIA.out; unfold Sp.RdS.next; simp only; omega)
      clear hs2
      obtain ⟨C, hC⟩ : ∃ C : Bool, C = ((k == 1) && (!(x.kind == 2) && Sp.isW 3 [] s2.ws)) := ⟨_, rfl⟩
      have HC := Lib.hid hC
      clear hC
      go_cut [115] from 100 to 144 (fun c wx => c = .bool C ∧ DeclR B W m ws s0 s2 ⟨k, tag, sy, at_⟩ sv v D wx ∧ wx.heap[S]? = some (.cells #[.string ⟨x.text.toArray⟩, .bool (x.kind == 2), .int .i64 0, .int .i64 x.at_] 40 (0, 0)))
      case first =>
        have hd := HST4.out.dbox; have hr := HST4.out.rbox; have hs := HSB.out
        have d0 : w4.cell? ⟨D, 0, none⟩ = some (.int .i64 k) := cell_at (i := 0) hd
        have s1' : w4.cell? ⟨S, 1, none⟩ = some (.bool (x.kind == 2)) := cell_at (i := 1) hs
        have r0 : w4.cell? ⟨W.heap.size, 0, none⟩ = some (.pointer (some ⟨m, 0, none⟩)) := cell_at (i := 0) hr
        have ld := lt_at hd; have lr := lt_at hr; have ls := lt_at hs
        have H3 := Lib.hid (reader_is 3 [] HST4.out.rd)
        have HBL := Lib.hid (fun n => HST4.out.below (below_drewN (Below.refl _ w4) n))
        have HSL := Lib.hid (fun n => (show (w4.drewN n).heap[S]? = _ from HSB.out))
        clear hd hr hs
        generalize Sp.isW 3 [] s2.ws = b3 at *
        generalize (x.kind == 2) = lit at *
        by_cases hk1 : k = 1
        · subst hk1
          cases lit
          · go_wp2_with fail
            refine H3.out.mono ?_
            rintro e w' ⟨rfl, n2, rfl⟩
            cases b3
            all_goals
              go_wp2_with fail
              go_meet
              exact ⟨by rw [HC.out]; rfl, HBL.out n2, HSL.out n2⟩
          · go_wp2_with fail
            go_meet
            exact ⟨by rw [HC.out]; rfl, HBL.out 0, HSL.out 0⟩
        · have hkb : (k == 1) = false := by rw [beq_eq_false_iff_ne]; exact hk1
          have hkd : decide (k = 1) = false := decide_eq_false hk1
          go_wp2_with fail
          go_meet
          exact ⟨by rw [HC.out, hkb]; rfl, HBL.out 0, HSL.out 0⟩
      case rest =>
        obtain ⟨w5, hw5⟩ : ∃ w5 : World, w5 = wc := ⟨_, rfl⟩
        subst hw5
        obtain ⟨rfl, hst5, hsb5⟩ := hcut
        have HST5 := Lib.hid hst5; have HSB5 := Lib.hid hsb5
        clear hst5 hsb5 HST4 HSB
        obtain ⟨y, l2, hy⟩ := (show Sp.WEnd l from by rw [← HW2.out]; exact HST5.out.rd.ends).cons
        have HYL := Lib.hid hy
        cases C with
        | true =>
          have hC := HC.out
          rw [HW2.out, hy, Sp.isW_any] at hC
          have hC2 := hC.symm
          rw [Bool.and_eq_true, Bool.and_eq_true, beq_iff_eq, beq_iff_eq, Bool.not_eq_true', beq_eq_false_iff_ne] at hC2
          have hR := HR.out
          have hsh := HSH.out
          rw [HX.out] at hsh hR
          rw [hy] at hsh hR
          rw [Sp.syms_num k x y l2 hsh ⟨hC2.1, hC2.2.1, hC2.2.2⟩] at hR
          have HR2 := Lib.hid hR
          have hyk : y.kind ≠ 10 := by have := hC2.2.2; omega
          have hs2w : s2.ws = y :: l2 := by rw [HW2.out, hy]
          have hh := HST5.out.rd.head hs2w
          have hgy := (HGOOD.out y (List.mem_of_getElem? hh)).2.2.1 hC2.2.2
          obtain ⟨gw, cap, hv, hgl, hil, a0, a1, a2⟩ := HST5.out.rd.words.cells hh
          have hmb := HST5.out.rd.block
          unfold rdCells at hmb
          rw [hv] at hmb
          obtain ⟨yk, nt, ya⟩ := y
          simp only at hgy a1 hR
          have HNS : Hid ((⟨nt.toArray⟩ : ByteArray).size ≤ 18) := Lib.hid (by rw [Lib.size_eq]; have := hgy.2.1; simp; omega)
          have HAT : Hid (Go.Lib.atoi (⟨nt.toArray⟩ : ByteArray).data.toList = some (Sp.num nt)) := Lib.hid (Sp.atoi_all hgy.1 hgy.2.2.1)
          have HMB := Lib.hid hmb; have HA1 := Lib.hid a1; have HGL := Lib.hid hgl
          have HSK := Lib.hid (fun (w' : World) (hb : Below w5.heap.size w5 w') => (show ((w'.cell? ⟨W.heap.size, 0, none⟩ = some (.pointer (some ⟨m, 0, none⟩)) ∧ w'.cell? ⟨m, 0, none⟩ = some (.slice (some ⟨gw, 0, none⟩) ws.length cap) ∧ w'.cell? ⟨m, 1, none⟩ = some (.int .i64 (s2.i : Int)) ∧ w'.cell? ⟨gw, s2.i * 3 + 1, none⟩ = some (.string ⟨nt.toArray⟩) ∧ w'.cell? ⟨S, 2, none⟩ = some (.int .i64 0) ∧ w'.frozen? ⟨S, 2, none⟩ = false) ∧ W.heap.size < w'.heap.size ∧ m < w'.heap.size ∧ gw < w'.heap.size ∧ S < w'.heap.size) from by
            have h1 := (hb.block _ (lt_at HST5.out.rbox)).trans HST5.out.rbox
            have h2 := (hb.block _ (lt_at HMB.out)).trans HMB.out
            have h3 := (hb.block _ (lt_at HSB5.out)).trans HSB5.out
            exact ⟨⟨cell_at (i := 0) h1, cell_at (i := 0) h2, cell_at (i := 1) h2, (hb.cell (p := ⟨gw, s2.i * 3 + 1, none⟩) HGL.out).trans HA1.out, cell_at (i := 2) h3, frozen_at (i := 2) h3⟩, lt_at h1, lt_at h2, Nat.lt_of_lt_of_le HGL.out hb.size, lt_at h3⟩))
          have HS2W := Lib.hid hs2w; have HYK := Lib.hid (show (⟨yk, nt, ya⟩ : Sp.Word).kind ≠ 10 from hyk)
          have hlt := HST5.out.rd.lt
          have hsm := HST5.out.rd.small
          clear hC hC2 hR HR hsh hyk hs2w hh hgy hv hil a0 a1 a2 hmb hy hgl
          go_upto_region 16 with fail
          refine wp_region_planU (fun w' : World => ((w'.cell? ⟨W.heap.size, 0, none⟩ = some (.pointer (some ⟨m, 0, none⟩)) ∧ w'.cell? ⟨m, 0, none⟩ = some (.slice (some ⟨gw, 0, none⟩) ws.length cap) ∧ w'.cell? ⟨m, 1, none⟩ = some (.int .i64 (s2.i : Int)) ∧ w'.cell? ⟨gw, s2.i * 3 + 1, none⟩ = some (.string ⟨nt.toArray⟩) ∧ w'.cell? ⟨S, 2, none⟩ = some (.int .i64 0) ∧ w'.frozen? ⟨S, 2, none⟩ = false) ∧ W.heap.size < w'.heap.size ∧ m < w'.heap.size ∧ gw < w'.heap.size ∧ S < w'.heap.size)) [16] (.take 0 (.take 1 (.take 2 (.take 3 (.take 4 (.take 5 (.take 6 (.take 7 (.take 8 (.take 9 (.take 10 (.one 11 (.take 12 (.take 13 (.free 14 (.take 15 (.one 16 (.done)))))))))))))))))) (by kernel_rfl) (by kernel_rfl) (fun c t a w h => hQ c t a w h) ?_
          have hSw := HSK.out _ (below_drewN (Below.refl _ w5) 1)
          refine wpPlanU_takeD (v := ?va1) rfl rfl hSw (by rfl) ?ya1 ?_
          case ya1 => (intro w hSx; (try dsimp only at hSx); go_simp; first | done | with_reducible rfl | rfl)
          (try simp only [Act.put, List.setIfInBounds_toArray, List.set_cons_zero, List.set_cons_succ])
          refine wpPlanU_takeD (v := ?va2) rfl rfl hSw (by rfl) ?ya2 ?_
          case ya2 => (intro w hSx; (try dsimp only at hSx); go_simp; first | done | with_reducible rfl | rfl)
          (try simp only [Act.put, List.setIfInBounds_toArray, List.set_cons_zero, List.set_cons_succ])
          refine wpPlanU_takeD (v := ?va3) rfl rfl hSw (by rfl) ?ya3 ?_
          case ya3 => (intro w hSx; (try dsimp only at hSx); go_simp; first | done | with_reducible rfl | rfl)
          (try simp only [Act.put, List.setIfInBounds_toArray, List.set_cons_zero, List.set_cons_succ])
          refine wpPlanU_takeD (v := ?va4) rfl rfl hSw (by rfl) ?ya4 ?_
          case ya4 => (intro w hSx; (try dsimp only at hSx); go_simp; first | done | with_reducible rfl | rfl)
          (try simp only [Act.put, List.setIfInBounds_toArray, List.set_cons_zero, List.set_cons_succ])
          refine wpPlanU_takeD (v := ?va5) rfl rfl hSw (by rfl) ?ya5 ?_
          case ya5 => (intro w hSx; (try dsimp only at hSx); go_simp; first | done | with_reducible rfl | rfl)
          (try simp only [Act.put, List.setIfInBounds_toArray, List.set_cons_zero, List.set_cons_succ])
          refine wpPlanU_takeD (v := ?va6) rfl rfl hSw (by rfl) ?ya6 ?_
          case ya6 => (intro w hSx; (try dsimp only at hSx); go_simp; first | done | with_reducible rfl | rfl)
          (try simp only [Act.put, List.setIfInBounds_toArray, List.set_cons_zero, List.set_cons_succ])
          refine wpPlanU_takeD (v := ?va7) rfl rfl hSw (by rfl) ?ya7 ?_
          case ya7 => (intro w hSx; (try dsimp only at hSx); go_simp; first | done | with_reducible rfl | rfl)
          (try simp only [Act.put, List.setIfInBounds_toArray, List.set_cons_zero, List.set_cons_succ])
          refine wpPlanU_takeD (v := ?va8) rfl rfl hSw (by rfl) ?ya8 ?_
          case ya8 => (intro w hSx; (try dsimp only at hSx); go_simp; first | done | with_reducible rfl | rfl)
          (try simp only [Act.put, List.setIfInBounds_toArray, List.set_cons_zero, List.set_cons_succ])
          refine wpPlanU_takeD (v := ?va9) rfl rfl hSw (by rfl) ?ya9 ?_
          case ya9 => (intro w hSx; (try dsimp only at hSx); go_simp; first | done | with_reducible rfl | rfl)
          (try simp only [Act.put, List.setIfInBounds_toArray, List.set_cons_zero, List.set_cons_succ])
          refine wpPlanU_takeD (v := ?va10) rfl rfl hSw (by rfl) ?ya10 ?_
          case ya10 => (intro w hSx; (try dsimp only at hSx); go_simp; first | done | with_reducible rfl | rfl)
          (try simp only [Act.put, List.setIfInBounds_toArray, List.set_cons_zero, List.set_cons_succ])
          refine wpPlanU_takeD (v := ?va11) rfl rfl hSw (by rfl) ?ya11 ?_
          case ya11 => (intro w hSx; (try dsimp only at hSx); go_simp; first | done | with_reducible rfl | rfl)
          (try simp only [Act.put, List.setIfInBounds_toArray, List.set_cons_zero, List.set_cons_succ])
          refine wpPlanU_run rfl (by rfl) (fun K' hK => ?_)
          (go_simp; go_at_call 64; refine (strconv_Atoi_gl ⟨nt.toArray⟩ (Sp.num nt) HNS.out HAT.out _).mono ?_; rintro e w6 ⟨rfl, hb6'⟩; have hb6 : Below w5.heap.size w5 w6 := below_undrew hb6'; clear hb6')
          refine hK _ _ (.inr ?_) ?_
          · exact HSK.out _ hb6
          clear hK K' hSw
          have hSw := HSK.out _ hb6
          (try simp only [Act.put, List.setIfInBounds_toArray, List.set_cons_zero, List.set_cons_succ])
          refine wpPlanU_takeD (v := ?va12) rfl rfl hSw (by rfl) ?ya12 ?_
          case ya12 => (intro w hSx; (try dsimp only at hSx); go_simp; first | done | with_reducible rfl | rfl)
          (try simp only [Act.put, List.setIfInBounds_toArray, List.set_cons_zero, List.set_cons_succ])
          refine wpPlanU_takeD (v := ?va13) rfl rfl hSw (by rfl) ?ya13 ?_
          case ya13 => (intro w hSx; (try dsimp only at hSx); go_simp; first | done | with_reducible rfl | rfl)
          (try simp only [Act.put, List.setIfInBounds_toArray, List.set_cons_zero, List.set_cons_succ])
          refine wpPlanU_free (v := ?va14) rfl (by rfl) ?ya14 ?_
          case ya14 => (intro w _; go_simp; first | done | with_reducible rfl | rfl)
          (try simp only [Act.put, List.setIfInBounds_toArray, List.set_cons_zero, List.set_cons_succ])
          refine wpPlanU_takeD (v := ?va15) rfl rfl hSw (by rfl) ?ya15 ?_
          case ya15 => (intro w hSx; (try dsimp only at hSx); go_simp; first | done | with_reducible rfl | rfl)
          (try simp only [Act.put, List.setIfInBounds_toArray, List.set_cons_zero, List.set_cons_succ])
          refine wpPlanU_run rfl (by rfl) (fun K' hK => ?_)
          (obtain ⟨⟨_, _, _, _, z1, z2⟩, _, _, _, hlz⟩ := HSK.out _ hb6; go_simp)
          refine hK _ _ (.inl rfl) ?_
          clear hK K' hSw
          (try simp only [Act.put, List.setIfInBounds_toArray, List.set_cons_zero, List.set_cons_succ])
          refine wpPlanU_done ?_
          have hst6 := HST5.out.below hb6
          have hsb6 := (hb6.block _ (lt_at HSB5.out)).trans HSB5.out
          have hst7 := hst6.aside ((Kp.refl _ w6).setCell (p := ⟨S, 2, none⟩) (by simp) (.int .i64 (Sp.num nt))) HSW.out HSD.out HSO.out
          have hsb7 := heap_setCell_at (i := 2) (v := .int .i64 (Sp.num nt)) hsb6
          obtain ⟨w7, hw7⟩ : ∃ w7 : World, w7 = w6.setCell ⟨S, 2, none⟩ (.int .i64 (Sp.num nt)) := ⟨_, rfl⟩
          rw [← hw7] at hst7 hsb7 ⊢
          have hmb := hst7.rd.block
          unfold rdCells at hmb
          have hrb := hst7.rbox
          have r0 : w7.cell? ⟨W.heap.size, 0, none⟩ = some (.pointer (some ⟨m, 0, none⟩)) := cell_at (i := 0) hrb
          have b1 : w7.cell? ⟨m, 1, none⟩ = some (.int .i64 (s2.i : Int)) := cell_at (i := 1) hmb
          have f1 : w7.frozen? ⟨m, 1, none⟩ = false := frozen_at (i := 1) hmb
          have lm := lt_at hmb
          have lr := lt_at hrb
          have hw : IntKind.i64.wrap ((s2.i : Int) + 1) = (s2.i : Int) + 1 := IntWalk.i64_in _ ⟨by omega, by omega⟩
          obtain ⟨hs8, hf8⟩ := hst7.rd.step HS2W.out HYK.out
          have hst8 := hst7.step hs8 hf8 rfl rfl rfl rfl (by unfold Sp.RdS.next; simp)
          have hsb8 := hf8.at hsb7 (by unfold BoxT; decide)
          obtain ⟨w9, hw9⟩ : ∃ w9 : World, w9 = w7.setCell ⟨m, 1, none⟩ (.int .i64 ((s2.i : Int) + 1)) := ⟨_, rfl⟩
          rw [← hw9] at hst8 hsb8
          have HST8 := Lib.hid hst8
          have HLI8 := Lib.hid (show sy.length + 1 < s2.next.i from by have := HLI.out; unfold Sp.RdS.next; simp only; omega)
          have HW8 := Lib.hid (show s2.next.ws = l2 from by unfold Sp.RdS.next; simp only; rw [HS2W.out]; rfl)
          have HI8 := Lib.hid (show s1.i ≤ s2.next.i from by have := HI2.out; unfold Sp.RdS.next; simp only; omega)
          clear hw7 hst6 hsb6 hst7 hmb hrb hs8 hf8 hst8 hb6 z1 z2 hlz hsb7
          go_upto_region 18 with fail
          rw [← hw9]
          have s0' : w9.cell? ⟨S, 0, none⟩ = some (.string ⟨x.text.toArray⟩) := cell_at (i := 0) hsb8
          have s1' : w9.cell? ⟨S, 1, none⟩ = some (.bool (x.kind == 2)) := cell_at (i := 1) hsb8
          have s2' : w9.cell? ⟨S, 2, none⟩ = some (.int .i64 (Sp.num nt)) := cell_at (i := 2) hsb8
          have s3' : w9.cell? ⟨S, 3, none⟩ = some (.int .i64 x.at_) := cell_at (i := 3) hsb8
          have ls := lt_at hsb8
          clear hsb8 hw9 hw r0 b1 f1 lm lr hlt hsm HSK
          obtain ⟨ra, rc, hsv⟩ := ownsRowS_some HST8.out.row
          obtain ⟨ns, hns⟩ : ∃ ns, ns = sy.length := ⟨_, rfl⟩
          have hrow := HST8.out.row
          simp only at hsv hrow
          rw [← hns] at hsv hrow
          subst hsv
          have HNS2 := Lib.hid hns
          have hn4 : ns ≤ 4001 := by have := HST8.out.len; have := HST8.out.rd.lt; have := HST8.out.rd.small; simp only at *; omega
          have hdb := HST8.out.dbox
          have p2 : w9.cell? ⟨D, 2, none⟩ = some (.slice ra ns rc) := cell_at (i := 2) hdb
          have g2 : w9.frozen? ⟨D, 2, none⟩ = false := frozen_at (i := 2) hdb
          have ld := lt_at hdb
          have hWle := HST8.out.fr.size
          obtain ⟨is0, his0, hsz0, hsz1, hsz2⟩ := info_parts info_symE
          have HROW := Lib.hid hrow; have HDB := Lib.hid hdb
          clear hns hrow hdb
          go_upto_region 18 with fail
          go_wp2_with (at_builtin; refine wpList_append_lies _ rfl _ _ _ rfl W.heap.size 40 is0 _ 4 40 Tryd.underlying49 his0 hsz0 hsz1 hsz2 rfl (by decide) _ _ _ rfl (HROW.out.alloc _) ⟨w9.heap.size, 0, none⟩ 1 1 (symC { Sp.rdSym x with num := Sp.num nt }) rfl rfl (World.news_of_block (cs := #[.string ⟨x.text.toArray⟩, .bool (x.kind == 2), .int .i64 (Sp.num nt), .int .i64 x.at_]) (t := 40) (fr := (0, 0)) (heap_last w9 _)) (by simp [Value.oneCell', symC]) (by decide) (by unfold maxLen; omega) (by omega) (by show W.heap.size ≤ (w9.alloc (.cells #[.string ⟨x.text.toArray⟩, .bool (x.kind == 2), .int .i64 (Sp.num nt), .int .i64 x.at_] 40)).heap.size; simp only [World.size_alloc]; omega) _ rfl ?_; intro g1 c1 w8 hown1 hgrow1 hat1 hlt1; replace hgrow1 : (w9.alloc (.cells #[.string ⟨x.text.toArray⟩, .bool (x.kind == 2), .int .i64 (Sp.num nt), .int .i64 x.at_] 40)).grownBy w8 (Value.slice ra ns rc).ownBlock := ⟨hgrow1.os, hgrow1.tape, hgrow1.output, hgrow1.size, hgrow1.block⟩; have hk8 : Kp (fun b => (Value.slice ra ns rc).ownBlock ≠ some b) w9 w8 := ((Kp.refl _ w9).alloc (.cells #[.string ⟨x.text.toArray⟩, .bool (x.kind == 2), .int .i64 (Sp.num nt), .int .i64 x.at_] 40)).grown hgrow1 (fun k hk hs => hs hk); have kt8 : KpT (fun t => t ≠ 40) w9 w8 := (KpT.below ((Below.refl _ w9).alloc (Nat.le_refl _) (.cells #[.string ⟨x.text.toArray⟩, .bool (x.kind == 2), .int .i64 (Sp.num nt), .int .i64 x.at_] 40))).trans (KpT.grown (HROW.out.alloc _) hgrow1); have hdb8 := kt8 _ _ _ _ HDB.out (by decide); have p8 := cell_at (i := 2) hdb8; have g8 := frozen_at (i := 2) hdb8; have ld8 := lt_at hdb8)

          have hst9 := HST8.out.push (q := { Sp.rdSym x with num := Sp.num nt }) HLI8.out hk8 kt8 (by rw [← HNS2.out]; exact hown1)
          have HST9 := Lib.hid hst9
          clear hst9 hown1 hk8 kt8 hat1 hgrow1 hlt1 hdb8 p8 g8 ld8 p2 g2 ld
          go_roundg l2.length
          case measure => rw [HX.out, HYL.out]; simp; omega
          case rel => exact ⟨s2.next, sy ++ [{ Sp.rdSym x with num := Sp.num nt }], _, HST9.out, HB2.out, HI8.out, by rw [HW8.out], by rw [HR2.out, HW8.out]; simp⟩
        | false =>
          have hR := HR.out
          have hsh := HSH.out
          rw [HX.out] at hsh hR
          rw [hy] at hsh hR
          have hcn : ¬ (k = 1 ∧ x.kind ≠ 2 ∧ y.kind = 3) := by
            intro h
            have hC := HC.out
            rw [HW2.out, hy, Sp.isW_any] at hC
            rw [show (k == 1) = true from by rw [beq_iff_eq]; exact h.1, show (x.kind == 2) = false from by rw [beq_eq_false_iff_ne]; exact h.2.1, show (y.kind == 3) = true from by rw [beq_iff_eq]; exact h.2.2] at hC
            exact absurd hC (by decide)
          rw [Sp.syms_plain k x y l2 hsh hcn, ← hy, ← HW2.out] at hR
          have HR2 := Lib.hid hR
          clear hR HR hsh hcn hy
          have hsb := HSB5.out
          have s0' : w5.cell? ⟨S, 0, none⟩ = some (.string ⟨x.text.toArray⟩) := cell_at (i := 0) hsb
          have s1' : w5.cell? ⟨S, 1, none⟩ = some (.bool (x.kind == 2)) := cell_at (i := 1) hsb
          have s2' : w5.cell? ⟨S, 2, none⟩ = some (.int .i64 0) := cell_at (i := 2) hsb
          have s3' : w5.cell? ⟨S, 3, none⟩ = some (.int .i64 x.at_) := cell_at (i := 3) hsb
          have ls := lt_at hsb
          clear hsb
          obtain ⟨ra, rc, hsv⟩ := ownsRowS_some HST5.out.row
          obtain ⟨ns, hns⟩ : ∃ ns, ns = sy.length := ⟨_, rfl⟩
          have hrow := HST5.out.row
          simp only at hsv hrow
          rw [← hns] at hsv hrow
          subst hsv
          have HNS2 := Lib.hid hns
          have hn4 : ns ≤ 4001 := by have := HST5.out.len; have := HST5.out.rd.lt; have := HST5.out.rd.small; simp only at *; omega
          have hdb := HST5.out.dbox
          have p2 : w5.cell? ⟨D, 2, none⟩ = some (.slice ra ns rc) := cell_at (i := 2) hdb
          have g2 : w5.frozen? ⟨D, 2, none⟩ = false := frozen_at (i := 2) hdb
          have ld := lt_at hdb
          have hWle := HST5.out.fr.size
          obtain ⟨is0, his0, hsz0, hsz1, hsz2⟩ := info_parts info_symE
          have HROW := Lib.hid hrow; have HDB := Lib.hid hdb
          clear hns hrow hdb
          go_upto_region 18 with fail
          go_wp2_with (at_builtin; refine wpList_append_lies _ rfl _ _ _ rfl W.heap.size 40 is0 _ 4 40 Tryd.underlying49 his0 hsz0 hsz1 hsz2 rfl (by decide) _ _ _ rfl (HROW.out.alloc _) ⟨w5.heap.size, 0, none⟩ 1 1 (symC (Sp.rdSym x)) rfl rfl (World.news_of_block (cs := #[.string ⟨x.text.toArray⟩, .bool (x.kind == 2), .int .i64 0, .int .i64 x.at_]) (t := 40) (fr := (0, 0)) (heap_last w5 _)) (by simp [Value.oneCell', symC]) (by decide) (by unfold maxLen; omega) (by omega) (by show W.heap.size ≤ (w5.alloc (.cells #[.string ⟨x.text.toArray⟩, .bool (x.kind == 2), .int .i64 0, .int .i64 x.at_] 40)).heap.size; simp only [World.size_alloc]; omega) _ rfl ?_; intro g1 c1 w8 hown1 hgrow1 hat1 hlt1; replace hgrow1 : (w5.alloc (.cells #[.string ⟨x.text.toArray⟩, .bool (x.kind == 2), .int .i64 0, .int .i64 x.at_] 40)).grownBy w8 (Value.slice ra ns rc).ownBlock := ⟨hgrow1.os, hgrow1.tape, hgrow1.output, hgrow1.size, hgrow1.block⟩; have hk8 : Kp (fun b => (Value.slice ra ns rc).ownBlock ≠ some b) w5 w8 := ((Kp.refl _ w5).alloc (.cells #[.string ⟨x.text.toArray⟩, .bool (x.kind == 2), .int .i64 0, .int .i64 x.at_] 40)).grown hgrow1 (fun k hk hs => hs hk); have kt8 : KpT (fun t => t ≠ 40) w5 w8 := (KpT.below ((Below.refl _ w5).alloc (Nat.le_refl _) (.cells #[.string ⟨x.text.toArray⟩, .bool (x.kind == 2), .int .i64 0, .int .i64 x.at_] 40))).trans (KpT.grown (HROW.out.alloc _) hgrow1); have hdb8 := kt8 _ _ _ _ HDB.out (by decide); have p8 := cell_at (i := 2) hdb8; have g8 := frozen_at (i := 2) hdb8; have ld8 := lt_at hdb8)

          have hst9 := HST5.out.push (q := Sp.rdSym x) HLI.out hk8 kt8 (by rw [← HNS2.out]; exact hown1)
          have HST9 := Lib.hid hst9
          clear hst9 hown1 hk8 kt8 hat1 hgrow1 hlt1 hdb8 p8 g8 ld8 p2 g2 ld
          go_roundg s2.ws.length
          case measure => rw [HW2.out, HX.out]; simp
          case rel => exact ⟨_, sy ++ [Sp.rdSym x], _, HST9.out, HB2.out, HI2.out, rfl, by rw [HR2.out]; simp⟩
end Go.Proofs.YtphdfbmmjkccgaaDoor
