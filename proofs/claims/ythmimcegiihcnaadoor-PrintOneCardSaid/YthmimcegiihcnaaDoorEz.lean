/- The walk of yuccalaw0.Source: the source that is made of a grammar by numbers. -/
import Derived.Test.YthmimcegiihcnaaDoorEy
namespace Go.Proofs.YthmimcegiihcnaaDoor
open Go.RowKit

def MadePost (s : Sp.Source) (W : World) (e : Ending) (w' : World) : Prop :=
  ∃ pv qv B C, e = .returned (.agg (srcC pv qv s).toArray) ∧ Below W.heap.size W w' ∧ DeclsOwn B w' pv s.decls ∧ RulesOwn C w' qv s.rules
/-- A grammar by numbers, as it lies. -/
def GrAt (W : World) (v : Value) (x : Sp.Gr) : Prop :=
  ∃ rv lv iv, v = .agg #[.int .i64 x.nons, rv, lv, iv, .bool x.bare] ∧ (Lit.int .i64 x.nons).wf = true ∧
    (∃ f : Nat → Value, SlAt W rv 1 (x.rules.mapIdx fun i _ => [f i]) ∧ ∀ (i : Nat) (row : List Int), x.rules[i]? = some row → IntsAt W (f i) row ∧ row.length ≤ 2 ^ 63 - 1 ∧ ∀ m ∈ row, (Lit.int .i64 m).wf = true) ∧
    IntsAt W lv x.levels ∧ IntsAt W iv x.inner ∧ (∀ m ∈ x.levels, (Lit.int .i64 m).wf = true) ∧ (∀ m ∈ x.inner, (Lit.int .i64 m).wf = true) ∧ x.rules.length ≤ 2 ^ 63 - 1 ∧ x.levels.length ≤ 2 ^ 63 - 1 ∧ x.inner.length ≤ 2 ^ 63 - 1
theorem ints_cell {W : World} {a : Option Addr} {n cap : Nat} {xs : List Int} (h : IntsAt W (.slice a n cap) xs) {j : Nat} {x : Int} (hx : xs[j]? = some x) :
    ∃ b off, a = some ⟨b, off, none⟩ ∧ b < W.heap.size ∧ ∀ w', Below W.heap.size W w' → w'.cell? ⟨b, off + j, none⟩ = some (.int .i64 x) := by
  obtain ⟨b, off, e, hb, hc⟩ := SlAt.at h (k := j) (row := [Value.int .i64 x]) (by rw [List.getElem?_map, hx]; rfl)
  refine ⟨b, off, e, hb, fun w' hw => ?_⟩
  have := hc w' hw 0 _ rfl
  simpa using this
theorem ints_form {W : World} {v : Value} {xs : List Int} (h : IntsAt W v xs) : ∃ a cap, v = .slice a xs.length cap := by
  obtain ⟨a, cap, e⟩ := SlAt.form h
  rw [List.length_map] at e
  exact ⟨a, cap, e⟩
theorem rulesD_own {B : Nat} {w : World} {v : Value} {l : List Sp.Rule} (h : RulesD B w v l) : RulesOwn B w v l := by
  obtain ⟨f, h1, h2, _⟩ := h
  exact ⟨f, h1, fun i r hr => ⟨B, h2 i r hr⟩⟩
set_option maxRecDepth 100000 in
set_option maxHeartbeats 12800000 in
theorem made_Source (x : Sp.Gr) (v : Value) (W : World) (hx : GrAt W v x) : Calls Tryd.prog 13 #[v] W (MadePost (Sp.grSource x) W) := by
  obtain ⟨rv, lv, iv, rfl, hnw, ⟨rf, hr1, hr2⟩, hl, hi, hlw, hiw, hrn, hln, hinl⟩ := hx
  obtain ⟨rva, rcp, rfl⟩ := hr1.form
  obtain ⟨la, lc, rfl⟩ := ints_form hl
  obtain ⟨ia, icp, rfl⟩ := ints_form hi
  rw [List.length_mapIdx] at hr1 ⊢
  obtain ⟨nons, rows, levels, inner, bare⟩ := x
  simp only at *
  obtain ⟨wm0, wm1⟩ := Sp.within_range nons 4 (by decide)
  obtain ⟨nn, hnn⟩ : ∃ nn : Nat, 1 + Sp.within nons 4 = (nn : Int) := ⟨(1 + Sp.within nons 4).toNat, by omega⟩
  have hno : Sp.nonsOf ⟨nons, rows, levels, inner, bare⟩ = nn := by unfold Sp.nonsOf; simp only; omega
  have hgs : Sp.grSource ⟨nons, rows, levels, inner, bare⟩ = ⟨[], Sp.declsOf levels, Sp.fillGo bare 0 (Sp.rulesGo nn inner 0 (rows.take 9) (Sp.startRules nn, List.replicate nn false)).1 (Sp.rulesGo nn inner 0 (rows.take 9) (Sp.startRules nn, List.replicate nn false)).2, []⟩ := by
    unfold Sp.grSource
    simp only [hno]
  rw [hgs]
  clear hgs hno
  have HWI := Lib.hid (fun w => (show Calls Tryd.prog 23 #[.int .i64 nons, .int .i64 4] w (fun e w' => e = .returned (.int .i64 (Sp.within nons 4)) ∧ w = w') from made_Within nons 4 w (by decide) (by decide) hnw))
  obtain ⟨b, off, hbW, hrb⟩ : ∃ b off, b < W.heap.size + 1 ∧ ∀ (i : Nat) (row : List Int), rows[i]? = some row → rva = some ⟨b, off, none⟩ ∧ ∀ w', Below W.heap.size W w' → w'.cell? ⟨b, off + i, none⟩ = some (rf i) := by
    cases hrows : rows with
    | nil => exact ⟨0, 0, by omega, fun i row h => by simp at h⟩
    | cons r0 rs0 =>
      rw [← hrows]
      obtain ⟨b, off, e, hb, _⟩ := hr1.at (k := 0) (row := [rf 0]) (by rw [List.getElem?_mapIdx, hrows]; rfl)
      refine ⟨b, off, by omega, fun i row hi => ⟨e, fun w' hw => ?_⟩⟩
      obtain ⟨b', off', e', _, hc⟩ := hr1.at (k := i) (row := [rf i]) (by rw [List.getElem?_mapIdx, hi]; rfl)
      rw [e] at e'
      simp only [Option.some.injEq, Addr.mk.injEq, and_true] at e'
      obtain ⟨rfl, rfl⟩ := e'
      have := hc w' hw 0 _ rfl
      simpa using this
  have HROWS : Hid (∀ (i : Nat) (row : List Int), rows[i]? = some row → rva = some ⟨b, off, none⟩ ∧ row.length ≤ 2 ^ 63 - 1 ∧ (∀ x ∈ row, (Lit.int .i64 x).wf = true) ∧ ∃ a sc, (∀ w', Below W.heap.size W w' → w'.cell? ⟨b, off + i, none⟩ = some (.slice a row.length sc)) ∧ ∀ j x, row[j]? = some x → ∃ b3 off3, a = some ⟨b3, off3, none⟩ ∧ b3 < W.heap.size ∧ ∀ w', Below W.heap.size W w' → w'.cell? ⟨b3, off3 + j, none⟩ = some (.int .i64 x)) := Lib.hid (fun i row hi => by
    obtain ⟨e, hc⟩ := hrb i row hi
    obtain ⟨h1, h2, h3⟩ := hr2 i row hi
    obtain ⟨a, sc, hf⟩ := ints_form h1
    refine ⟨e, h2, h3, a, sc, fun w' hw => by rw [hc w' hw, hf], fun j x hj => ?_⟩
    rw [hf] at h1
    exact ints_cell h1 hj)
  have HINN : Hid (∀ (w : World) (i : Nat), Below W.heap.size W w → InnAt w ia inner.length i inner[i]?) := Lib.hid (fun w i hw => by
    cases hio : inner[i]? with
    | none => exact .inl ⟨rfl, by simpa using hio⟩
    | some v =>
      obtain ⟨bi, offi, e, hb, hc⟩ := ints_cell hi hio
      have hil := (List.getElem?_eq_some_iff.1 hio).1
      have := hw.size
      exact .inr ⟨v, bi, offi, rfl, e, hil, by omega, hiw v (List.mem_of_getElem? hio), fun w' h => hc w' (hw.trans (h.mono hw.size))⟩)
  generalize hrl : rows.length = n at *
  generalize hil : inner.length = inn at *
  have HL := Lib.hid hl; have HLW := Lib.hid hlw; have HLN := Lib.hid hln; have HRL := Lib.hid hrl
  generalize hll : levels.length = nl at *
  have HLL := Lib.hid hll
  clear hr1 hr2 hl hi hlw hiw hrb hnw hrl hll hln
  go_enter Tryd.func13, Tryd.ntmps13
  go_upto_region 1 with fail
  go_cut [3] (fun s3 wx => s3 = .int .i64 (nn : Int) ∧ wx = ((W.alloc (.cells #[.int .i64 nons, .slice rva n rcp, .slice la nl lc, .slice ia inn icp, .bool bare] 25)).alloc (.cells #[.string ⟨#[]⟩, .slice none 0 0, .slice none 0 0, .string ⟨#[]⟩] 29)))
  case first =>
    go_wp2_with (first | (go_at_call 23; refine (HWI.out _).mono ?_; rintro e w' ⟨rfl, rfl⟩))
    go_meet
    exact ⟨rfl, rfl⟩
  case rest =>
    obtain ⟨rfl, rfl⟩ := hcut
    clear HWI
    have HB2 := Lib.hid ((((Below.refl _ W).alloc (Nat.le_refl _) (.cells #[.int .i64 nons, .slice rva n rcp, .slice la nl lc, .slice ia inn icp, .bool bare] 25)).alloc (by simp) (.cells #[.string ⟨#[]⟩, .slice none 0 0, .slice none 0 0, .string ⟨#[]⟩] 29)) : Below W.heap.size W ((W.alloc (.cells #[.int .i64 nons, .slice rva n rcp, .slice la nl lc, .slice ia inn icp, .bool bare] 25)).alloc (.cells #[.string ⟨#[]⟩, .slice none 0 0, .slice none 0 0, .string ⟨#[]⟩] 29)))
    have HDE := Lib.hid (made_decls levels (.slice la nl lc) ((W.alloc (.cells #[.int .i64 nons, .slice rva n rcp, .slice la nl lc, .slice ia inn icp, .bool bare] 25)).alloc (.cells #[.string ⟨#[]⟩, .slice none 0 0, .slice none 0 0, .string ⟨#[]⟩] 29)) (SlAt.below HL.out ⟨HB2.out.os, HB2.out.tape, HB2.out.output, HB2.out.size, HB2.out.block⟩) HLW.out (by rw [HLL.out]; exact HLN.out))
    have hmk := fun w => run_make_row' (P := Tryd.prog) 75 4 (.bool false) 1 Tryd.underlying75 (by kernel_rfl) rfl .i64 .i64 nn (by omega) (by omega) w
    go_upto_block 0 with (first | (go_at_call 35; refine (HDE.out).mono ?_; rintro e w' ⟨pv, rfl, hdd, hb'⟩; obtain ⟨fd, hd1, hd2, hd3⟩ := hdd; obtain ⟨pa, pc, rfl⟩ := ownsRowS_some hd1))
    have hn4 : nn ≤ 4 := by omega
    have hn1 : 1 ≤ nn := by omega
    have hb0 : Below (W.heap.size + 2) ((W.alloc (.cells #[.int .i64 nons, .slice rva n rcp, .slice la nl lc, .slice ia inn icp, .bool bare] 25)).alloc (.cells #[.string ⟨#[]⟩, .slice none 0 0, .slice none 0 0, .string ⟨#[]⟩] 29)) w' := hb'.mono (by simp)
    have hlw : W.heap.size + 2 ≤ w'.heap.size := by have := hb'.size; simpa using this
    have hdd : DeclsD ((W.alloc (.cells #[.int .i64 nons, .slice rva n rcp, .slice la nl lc, .slice ia inn icp, .bool bare] 25)).alloc (.cells #[.string ⟨#[]⟩, .slice none 0 0, .slice none 0 0, .string ⟨#[]⟩] 29)).heap.size w' (.slice pa (Sp.declsOf levels).length pc) (Sp.declsOf levels) := ⟨fd, hd1, hd2, hd3⟩
    clear hd1 hd2 hd3 hmk hb' HDE
    generalize Sp.declsOf levels = DL at *
    generalize hdn : DL.length = dn at *
    have hmc : madeCells #[Value.bool false] nn = ((List.replicate nn false).map Value.bool).toArray := by
      apply Array.toList_inj.1
      rw [toList_madeCells_one]
      simp
    rw [hmc]
    obtain ⟨wm, hwm⟩ : ∃ wm, wm = (w'.alloc (.cells #[.string ⟨#[]⟩, .slice pa dn pc, .slice none 0 0, .string ⟨#[]⟩] 29)).alloc (.cells ((List.replicate nn false).map Value.bool).toArray 4) := ⟨_, rfl⟩
    have hms : wm.heap.size = w'.heap.size + 2 := by rw [hwm]; simp
    have hS : wm.heap[w'.heap.size]? = some (.cells #[.string ⟨#[]⟩, .slice pa dn pc, .slice none 0 0, .string ⟨#[]⟩] 29 (0, 0)) := by rw [hwm]; exact (Below.heap_alloc _ _ _ (by simp)).trans (heap_last w' _)
    have hH : wm.heap[w'.heap.size + 1]? = some (.cells ((List.replicate nn false).map Value.bool).toArray 4 (0, 0)) := by rw [hwm]; exact heap_sec w' _ _
    have hba : Below w'.heap.size w' wm := by rw [hwm]; exact ((Below.refl _ w').alloc (Nat.le_refl _) _).alloc (by simp) _
    have hDm := declsD_below hdd hba
    have hBm : Below (W.heap.size + 2) ((W.alloc (.cells #[.int .i64 nons, .slice rva n rcp, .slice la nl lc, .slice ia inn icp, .bool bare] 25)).alloc (.cells #[.string ⟨#[]⟩, .slice none 0 0, .slice none 0 0, .string ⟨#[]⟩] 29)) wm := hb0.trans (hba.mono hlw)
    rw [← hwm]
    have HBm := Lib.hid hBm; have HDm := Lib.hid hDm; have HH := Lib.hid hH; have HS := Lib.hid hS; have HDN := Lib.hid hdn; have HMS := Lib.hid hms
    clear hwm hmc hba hb0 hdd hH hBm hDm hdn
    refine made_start wm W.heap.size w'.heap.size (w'.heap.size + 1) nn (.slice pa dn pc) _ _ _ _ _ _ _ _ _ _ _ _ _ _ _ _ _ _ _ _ _ _ _ _ _ _ _ _ _ _ _ _ _ _ _ _ _ _ _ _ _ _ _ _ _ _ _ _ _ _ _ _ _ _ _ _ _ _ _ _ _ _ _ _ _ _ _ _ _ _ _ _ _ _ _ _ _ _ _ _ _ _ _ _ _ _ _ _ _ _ _ _ _ _ _ _ _ _ _ _ _ _ _ _ _ _ _ _ _ _ _ _ _ _ _ _ _ _ _ _ _ _ _ _ _ _ _ _ _ _ _ _ _ _ _ _ _ _ _ _ _ _ _ _ _ _ _ _ _ _ _ _ _ _ _ _ _ _ _ _ _ _ _ _ _ _ _ _ _ _ _ _ _ _ _ _ _ _ _ _ _ _ _ _ _ _ _ _ _ _ _ _ _ _ _ _ _ _ _ _ _ _ _ _ _ _ _ _ _ _ _ _ _ _ hn4 hS (fun _ _ _ _ h => h) ?_
    intro y6 y24 y25 y26 y27 y28 y29 y30 y31 y32 y33 y34 y35 y36 wx qv hS1 hR1 hK1
    dsimp only
    have hBX : Below (W.heap.size + 2) ((W.alloc (.cells #[.int .i64 nons, .slice rva n rcp, .slice la nl lc, .slice ia inn icp, .bool bare] 25)).alloc (.cells #[.string ⟨#[]⟩, .slice none 0 0, .slice none 0 0, .string ⟨#[]⟩] 29)) wx := HBm.out.trans (Kp.below hK1 (by omega) (fun k hk => by omega))
    have hD1 := declsD_kp HDm.out (kp_kpT hK1 HS.out) (by decide) (by decide)
    have hH1 := Kp.at hK1 HH.out (by omega)
    obtain ⟨fr, hr1, hr2, hr3⟩ := hR1
    have hsl : (Sp.startRules nn).length = nn := by unfold Sp.startRules; simp
    rw [hsl] at hr1
    obtain ⟨gr, vc, rfl⟩ := own_form hr1 (by omega)
    have hR1 : RulesD wm.heap.size wx (.slice (some ⟨gr, 0, none⟩) nn vc) (Sp.startRules nn) := ⟨fr, by rw [hsl]; exact hr1, hr2, hr3⟩
    have hszx : wm.heap.size ≤ wx.heap.size := hK1.size
    have hWX : Below W.heap.size W wx := below_two2 hBX
    have HBX := Lib.hid hBX; have HWX := Lib.hid hWX; have HS1 := Lib.hid hS1; have HD1 := Lib.hid hD1; have HH1 := Lib.hid hH1; have HR1 := Lib.hid hR1
    have HSL := Lib.hid hsl
    clear hS hK1 hBX hD1 hH1 hr1 hr2 hr3 hR1 hWX hS1 hsl HBm HDm HH HS
    go_upto_block 2 with fail
    refine made_rows wx W.heap.size w'.heap.size (w'.heap.size + 1) gr nn vc wm.heap.size ((W.alloc (.cells #[.int .i64 nons, .slice rva n rcp, .slice la nl lc, .slice ia inn icp, .bool bare] 25)).alloc (.cells #[.string ⟨#[]⟩, .slice none 0 0, .slice none 0 0, .string ⟨#[]⟩] 29)).heap.size n b off rcp inn icp rva ia (.slice pa dn pc) DL (Sp.startRules nn) (List.replicate nn false) rows inner _ _ _ _ _ _ _ _ _ _ _ _ _ _ _ _ _ _ _ _ _ _ _ _ _ _ _ _ _ _ _ _ _ _ _ _ _ _ _ _ _ _ _ _ _ _ _ _ _ _ _ _ _ _ _ _ _ _ _ _ _ _ _ _ _ _ _ _ _ _ _ _ _ _ _ _ _ _ _ _ _ _ _ _ _ _ _ _ _ _ _ _ _ _ _ _ _ _ _ _ _ _ _ _ _ _ _ _ _ _ _ _ _ _ _ _ _ _ _ _ _ _ _ _ _ _ _ _ _ _ _ _ _ _ _ _ _ _ _ _ _ _ _ _ _ _ _ _ _ _ _ _ _ _ _ _ _ _ _ _ _ _ _ _ _ _ _ _ _ _ _ _ _ _ _ _ _ _ _ _ _ _ _ _ _ _ _ _ _ _ _ _ _ _ _ _ _ _ _ _ _ _ _ _ _ _ _ _ _ _ _ _ _ _ hn4 hn1 HS1.out HD1.out HR1.out HSL.out (by simp) (fun r hr => by unfold Sp.startRules at hr; obtain ⟨i, _, rfl⟩ := List.mem_map.1 hr; rfl) HH1.out (by omega) (by omega) (by omega) (by omega) hszx HRL.out hrn hinl ?hx ?hrw ?hiw (fun _ _ _ _ h => h) ?_
    case hx =>
      intro w'' h
      have h1 := (two_first2 (HBX.out.trans (h.mono (by omega)))).1
      exact ⟨cell_at (i := 1) h1, cell_at (i := 3) h1⟩
    case hrw =>
      intro i row hi
      obtain ⟨e, h1, h2, a, sc, h3, h4⟩ := HROWS.out i row hi
      refine ⟨e, h1, h2, a, sc, fun w'' h => h3 w'' (HWX.out.trans (h.mono (by omega))), fun j x hj => ?_⟩
      obtain ⟨b3, off3, e2, hb3, h5⟩ := h4 j x hj
      exact ⟨b3, off3, e2, by omega, fun w'' h => h5 w'' (HWX.out.trans (h.mono (by omega)))⟩
    case hiw => exact fun w'' i h => HINN.out w'' i (HWX.out.trans (h.mono (by omega)))
    intro y7 y8 y9 y10 y11 y12 y37 y38 y39 y40 y41 y42 y43 y44 y45 y46 y47 y48 y49 y50 y51 y52 y53 y54 y55 y56 y57 y58 y59 y60 y61 y62 y63 y64 y65 y66 y67 y68 y69 y70 y71 y72 y73 y74 y75 y76 y77 y78 y79 y80 y81 y82 y83 y84 y85 y86 y87 y88 y89 y90 y91 y92 y93 y94 y95 y96 y97 y98 y99 y100 y101 y102 y103 y104 y105 y106 y107 y108 y109 y110 y111 y112 y113 y114 y115 y116 y117 y118 y119 y120 y121 y122 y123 y124 y125 y126 y127 y128 y129 y130 y131 y132 y133 y134 y135 y136 y137 y138 y139 y140 y141 y142 y143 y144 y145 y146 y147 y148 y149 y150 y151 y152 y153 y154 y155 y156 y157 y158 y159 y160 y161 y162 y163 y164 y165 y166 y167 y168 y169 y170 y171 y172 wy RX hsx hF hS2 hD2 hR2 hl2 hhl2 hH2 hsm2 hb2
    dsimp only
    have hBY : Below (W.heap.size + 2) ((W.alloc (.cells #[.int .i64 nons, .slice rva n rcp, .slice la nl lc, .slice ia inn icp, .bool bare] 25)).alloc (.cells #[.string ⟨#[]⟩, .slice none 0 0, .slice none 0 0, .string ⟨#[]⟩] 29)) wy := HBX.out.trans (hb2.mono (by omega))
    have hszy : wx.heap.size ≤ wy.heap.size := hb2.size
    have HBY := Lib.hid hBY; have HF := Lib.hid hF
    clear hb2 hBY hF HBX HWX HS1 HD1 HH1 HR1 HSL
    go_upto_block 6 with fail
    refine made_fill wy W.heap.size w'.heap.size (w'.heap.size + 1) gr nn vc wm.heap.size ((W.alloc (.cells #[.int .i64 nons, .slice rva n rcp, .slice la nl lc, .slice ia inn icp, .bool bare] 25)).alloc (.cells #[.string ⟨#[]⟩, .slice none 0 0, .slice none 0 0, .string ⟨#[]⟩] 29)).heap.size (.slice pa dn pc) DL RX hsx bare _ _ _ _ _ _ _ _ _ _ _ _ _ _ _ _ _ _ _ _ _ _ _ _ _ _ _ _ _ _ _ _ _ _ _ _ _ _ _ _ _ _ _ _ _ _ _ _ _ _ _ _ _ _ _ _ _ _ _ _ _ _ _ _ _ _ _ _ _ _ _ _ _ _ _ _ _ _ _ _ _ _ _ _ _ _ _ _ _ _ _ _ _ _ _ _ _ _ _ _ _ _ _ _ _ _ _ _ _ _ _ _ _ _ _ _ _ _ _ _ _ _ _ _ _ _ _ _ _ _ _ _ _ _ _ _ _ _ _ _ _ _ _ _ _ _ _ _ _ _ _ _ _ _ _ _ _ _ _ _ _ _ _ _ _ _ _ _ _ _ _ _ _ _ _ _ _ _ _ _ _ _ _ _ _ _ _ _ _ _ _ _ _ _ _ _ _ _ _ _ _ _ _ _ _ _ _ _ _ _ _ _ _ _ hn4 hS2 hD2 hR2 hl2 hhl2 hsm2 hH2 (by omega) (by omega) (by omega) (by omega) ?hx4 (fun _ _ _ _ h => h) ?_
    case hx4 =>
      intro w'' h
      have h1 := (two_first2 (HBY.out.trans (h.mono (by omega)))).1
      exact cell_at (i := 4) h1
    intro y13 y173 y174 y175 y176 y177 y178 y179 y180 y181 y182 y183 y184 y185 y186 y187 y188 y189 y190 y191 y192 y193 y194 y195 y196 y197 y198 y199 y200 y201 y202 y203 y204 y205 y206 y207 y208 y209 y210 y211 y212 y213 y214 y215 wz hS3 hD3 hR3 hb3
    dsimp only
    have hBZ : Below (W.heap.size + 2) ((W.alloc (.cells #[.int .i64 nons, .slice rva n rcp, .slice la nl lc, .slice ia inn icp, .bool bare] 25)).alloc (.cells #[.string ⟨#[]⟩, .slice none 0 0, .slice none 0 0, .string ⟨#[]⟩] 29)) wz := HBY.out.trans (hb3.mono (by omega))
    have s0 := cell_at (i := 0) hS3; have s1 := cell_at (i := 1) hS3; have s2 := cell_at (i := 2) hS3; have s3 := cell_at (i := 3) hS3
    obtain ⟨hF1, hF2⟩ := two_first2 hBZ
    have r0 := cell_at (i := 0) hF2; have r1 := cell_at (i := 1) hF2; have r2 := cell_at (i := 2) hF2; have r3 := cell_at (i := 3) hF2
    have z0 := frozen_at (i := 0) hF2; have z1 := frozen_at (i := 1) hF2; have z2 := frozen_at (i := 2) hF2; have z3 := frozen_at (i := 3) hF2
    have hl1 := lt_at hF2; have hl4 := lt_at hS3
    have HF2 := Lib.hid hF2; have HBZ := Lib.hid hBZ; have HD3 := Lib.hid hD3; have HR3 := Lib.hid hR3
    clear hS2 hD2 hR2 hl2 hhl2 hsm2 hH2 hb3 hF1 hF2 hBZ hD3 hR3 hS3
    go_wp2_with fail
    refine ret_cell (g := W.heap.size + 1) (cs := (srcC (.slice pa dn pc) (.slice (some ⟨gr, 0, none⟩) nn vc) ⟨[], DL, Sp.fillGo bare 0 RX hsx, []⟩).toArray) (t := 29) (fr := (0, 0)) rfl rfl (heap_setCell_at (heap_setCell_at (heap_setCell_at (heap_setCell_at HF2.out)))) rfl Tryd.underlying29 (by kernel_rfl) rfl ?_
    rw [← HF.out]
    refine ⟨.slice pa dn pc, .slice (some ⟨gr, 0, none⟩) nn vc, ((W.alloc (.cells #[.int .i64 nons, .slice rva n rcp, .slice la nl lc, .slice ia inn icp, .bool bare] 25)).alloc (.cells #[.string ⟨#[]⟩, .slice none 0 0, .slice none 0 0, .string ⟨#[]⟩] 29)).heap.size, wm.heap.size, rfl, ?_, ?_, ?_⟩
    · exact ((((below_two2 HBZ.out).setCell (p := ⟨W.heap.size + 1, 0, none⟩) (by simp) _).setCell (p := ⟨W.heap.size + 1, 1, none⟩) (by simp) _).setCell (p := ⟨W.heap.size + 1, 2, none⟩) (by simp) _).setCell (p := ⟨W.heap.size + 1, 3, none⟩) (by simp) _
    · refine declsD_own (declsD_kp (T := (· ≠ 29)) (w := wz) HD3.out ?_ (by decide) (by decide))
      exact ((((KpT.below (Below.refl _ wz)).setCell HF2.out (by simp) _).setCell (heap_setCell_at HF2.out) (by simp) _).setCell (heap_setCell_at (heap_setCell_at HF2.out)) (by simp) _).setCell (heap_setCell_at (heap_setCell_at (heap_setCell_at HF2.out))) (by simp) _
    · refine rulesD_own (rulesD_kp (T := (· ≠ 29)) (w := wz) HR3.out ?_ (by decide) (by decide) (by decide))
      exact ((((KpT.below (Below.refl _ wz)).setCell HF2.out (by simp) _).setCell (heap_setCell_at HF2.out) (by simp) _).setCell (heap_setCell_at (heap_setCell_at HF2.out)) (by simp) _).setCell (heap_setCell_at (heap_setCell_at (heap_setCell_at HF2.out))) (by simp) _
end Go.Proofs.YthmimcegiihcnaaDoor
