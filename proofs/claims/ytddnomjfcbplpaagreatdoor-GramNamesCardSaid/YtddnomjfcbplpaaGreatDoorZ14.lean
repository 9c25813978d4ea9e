import Derived.Test.YtddnomjfcbplpaaGreatDoorZ13
import Derived.Maps.Own
import Derived.Maps.Views
import Derived.DeepKeys4
namespace Go.Proofs.YtddnomjfcbplpaaGreatDoor
open Go.RowKit Go.ChangeShapes Go.WideShapes Go.Deep Go.Maps

def MadePostS (s : Sp.zM) (W : World) (e : Ending) (w' : World) : Prop :=
 ∃ pv qv B C, e = .returned (.agg (srcC pv qv s).toArray) ∧ Below W.heap.size W w' ∧ qK B w' pv s.decls ∧ jO C w' qv s.rules ∧ W.heap.size ≤ B ∧ B ≤ w'.heap.size
def GrAt (W : World) (v : Value) (x : Sp.Gr) : Prop :=
 ∃ rv lv iv, v = .agg #[.int .i64 x.nons, rv, lv, iv, .bool x.bare] ∧ (Lit.int .i64 x.nons).wf = true ∧
  (∃ f : Nat → Value, SlAt W rv 1 (x.rules.mapIdx fun i _ => [f i]) ∧ ∀ (i : Nat) (row : List Int), x.rules[i]? = some row → vT W (f i) row ∧ row.length ≤ 2 ^ 63 - 1 ∧ ∀ m ∈ row, (Lit.int .i64 m).wf = true) ∧
  vT W lv x.levels ∧ vT W iv x.inner ∧ (∀ m ∈ x.levels, (Lit.int .i64 m).wf = true) ∧ (∀ m ∈ x.inner, (Lit.int .i64 m).wf = true) ∧ x.rules.length ≤ 2 ^ 63 - 1 ∧ x.levels.length ≤ 2 ^ 63 - 1 ∧ x.inner.length ≤ 2 ^ 63 - 1
theorem ints_cell {W : World} {a : Option Addr} {n cap : Nat} {xs : List Int} (h : vT W (.slice a n cap) xs) {j : Nat} {x : Int} (hx : xs[j]? = some x) :
  ∃ b off, a = some ⟨b, off, none⟩ ∧ b < W.heap.size ∧ ∀ w', Below W.heap.size W w' → w'.cell? ⟨b, off + j, none⟩ = some (.int .i64 x) := by
 obtain ⟨b, off, e, hb, hc⟩ := SlAt.at h (k := j) (row := [Value.int .i64 x]) (by rw [List.getElem?_map, hx]; rfl); refine ⟨b, off, e, hb, fun w' hw => ?_⟩; have := hc w' hw 0 _ rfl; simpa using this
theorem zBK {W : World} {v : Value} {xs : List Int} (h : vT W v xs) : ∃ a cap, v = .slice a xs.length cap := by
 obtain ⟨a, cap, e⟩ := SlAt.form h; rw [List.length_map] at e; exact ⟨a, cap, e⟩
theorem rulesD_own {B : Nat} {w : World} {v : Value} {l : List Sp.Rule} (h : vS B w v l) : jO B w v l := by
 obtain ⟨f, h1, h2, _⟩ := h; exact ⟨f, h1, fun i r hr => ⟨B, h2 i r hr⟩⟩
set_option maxRecDepth 100000 in
set_option maxHeartbeats 12800000 in
theorem made_SourceS (x : Sp.Gr) (v : Value) (W : World) (hx : GrAt W v x) : Calls Tryz.prog 8 #[v] W (MadePostS (Sp.xV x) W) := by
 obtain ⟨rv, lv, iv, rfl, hnw, ⟨rf, hr1, hr2⟩, hl, hi, hlw, hiw, hrn, hln, hinl⟩ := hx; obtain ⟨rva, rcp, rfl⟩ := hr1.form; obtain ⟨la, lc, rfl⟩ := zBK hl; obtain ⟨ia, icp, rfl⟩ := zBK hi; rw [List.length_mapIdx] at hr1 ⊢; obtain ⟨nons, rows, levels, inner, bare⟩ := x; simp only at *
 obtain ⟨wm0, wm1⟩ := Sp.kI nons 4 (by decide); obtain ⟨nn, hnn⟩ : ∃ nn : Nat, 1 + Sp.yM nons 4 = (nn : Int) := ⟨(1 + Sp.yM nons 4).toNat, by omega⟩
 have hno : Sp.gM ⟨nons, rows, levels, inner, bare⟩ = nn := by unfold Sp.gM; simp only; omega
 have hgs : Sp.xV ⟨nons, rows, levels, inner, bare⟩ = ⟨[], Sp.gQ levels, Sp.jM bare 0 (Sp.kZ nn inner 0 (rows.take 9) (Sp.yK nn, List.replicate nn false)).1 (Sp.kZ nn inner 0 (rows.take 9) (Sp.yK nn, List.replicate nn false)).2, []⟩ := by
  unfold Sp.xV; simp only [hno]
 rw [hgs]; clear hgs hno; have HWI := zh (fun w => (show Calls Tryz.prog 21 #[.int .i64 nons, .int .i64 4] w (fun e w' => e = .returned (.int .i64 (Sp.yM nons 4)) ∧ w = w') from zAO nons 4 w (by decide) (by decide) hnw))
 obtain ⟨b, off, hbW, hrb⟩ : ∃ b off, b < W.heap.size + 1 ∧ ∀ (i : Nat) (row : List Int), rows[i]? = some row → rva = some ⟨b, off, none⟩ ∧ ∀ w', Below W.heap.size W w' → w'.cell? ⟨b, off + i, none⟩ = some (rf i) := by
  cases hrows : rows with
  | nil => exact ⟨0, 0, by omega, fun i row h => by simp at h⟩
  | cons r0 rs0 =>
   rw [← hrows]; obtain ⟨b, off, e, hb, _⟩ := hr1.at (k := 0) (row := [rf 0]) (by rw [List.getElem?_mapIdx, hrows]; rfl); refine ⟨b, off, by omega, fun i row hi => ⟨e, fun w' hw => ?_⟩⟩; obtain ⟨b', off', e', _, hc⟩ := hr1.at (k := i) (row := [rf i]) (by rw [List.getElem?_mapIdx, hi]; rfl); rw [e] at e'; simp only [Option.some.injEq, Addr.mk.injEq, and_true] at e'; obtain ⟨rfl, rfl⟩ := e'; have := hc w' hw 0 _ rfl; simpa using this
 have HROWS : Hid (∀ (i : Nat) (row : List Int), rows[i]? = some row → rva = some ⟨b, off, none⟩ ∧ row.length ≤ 2 ^ 63 - 1 ∧ (∀ x ∈ row, (Lit.int .i64 x).wf = true) ∧ ∃ a sc, (∀ w', Below W.heap.size W w' → w'.cell? ⟨b, off + i, none⟩ = some (.slice a row.length sc)) ∧ ∀ j x, row[j]? = some x → ∃ b3 off3, a = some ⟨b3, off3, none⟩ ∧ b3 < W.heap.size ∧ ∀ w', Below W.heap.size W w' → w'.cell? ⟨b3, off3 + j, none⟩ = some (.int .i64 x)) := zh (fun i row hi => by
  obtain ⟨e, hc⟩ := hrb i row hi; obtain ⟨h1, h2, h3⟩ := hr2 i row hi; obtain ⟨a, sc, hf⟩ := zBK h1; refine ⟨e, h2, h3, a, sc, fun w' hw => by rw [hc w' hw, hf], fun j x hj => ?_⟩; rw [hf] at h1
  exact ints_cell h1 hj)
 have HINN : Hid (∀ (w : World) (i : Nat), Below W.heap.size W w → InnAt w ia inner.length i inner[i]?) := zh (fun w i hw => by
  cases hio : inner[i]? with
  | none => exact .inl ⟨rfl, by simpa using hio⟩
  | some v =>
   obtain ⟨bi, offi, e, hb, hc⟩ := ints_cell hi hio; have hil := (List.getElem?_eq_some_iff.1 hio).1; have := hw.size
   exact .inr ⟨v, bi, offi, rfl, e, hil, by omega, hiw v (List.mem_of_getElem? hio), fun w' h => hc w' (hw.trans (h.mono hw.size))⟩)
 generalize hrl : rows.length = n at *
 generalize hil : inner.length = inn at *
 have HL := zh hl; have HLW := zh hlw; have HLN := zh hln; have HRL := zh hrl; generalize hll : levels.length = nl at *
 have HLL := zh hll; clear hr1 hr2 hl hi hlw hiw hrb hnw hrl hll hln; go_enter Tryz.func8, Tryz.ntmps8
 go_upto_region 1 with fail
 go_cut [3] (fun s3 wx => s3 = .int .i64 (nn : Int) ∧ wx = ((W.alloc (.cells #[.int .i64 nons, .slice rva n rcp, .slice la nl lc, .slice ia inn icp, .bool bare] 32)).alloc (.cells #[.string ⟨#[]⟩, .slice none 0 0, .slice none 0 0, .string ⟨#[]⟩] 25)))
 case first =>
  go_wp2_with (first | (go_at_call 21; refine (HWI.out _).mono ?_; rintro e w' ⟨rfl, rfl⟩))
  go_meet; exact ⟨rfl, rfl⟩
 case rest =>
  obtain ⟨rfl, rfl⟩ := hcut; clear HWI; have HB2 := zh ((((Below.refl _ W).alloc (Nat.le_refl _) (.cells #[.int .i64 nons, .slice rva n rcp, .slice la nl lc, .slice ia inn icp, .bool bare] 32)).alloc (by simp) (.cells #[.string ⟨#[]⟩, .slice none 0 0, .slice none 0 0, .string ⟨#[]⟩] 25)) : Below W.heap.size W ((W.alloc (.cells #[.int .i64 nons, .slice rva n rcp, .slice la nl lc, .slice ia inn icp, .bool bare] 32)).alloc (.cells #[.string ⟨#[]⟩, .slice none 0 0, .slice none 0 0, .string ⟨#[]⟩] 25))); have HDE := zh (made_decls levels (.slice la nl lc) ((W.alloc (.cells #[.int .i64 nons, .slice rva n rcp, .slice la nl lc, .slice ia inn icp, .bool bare] 32)).alloc (.cells #[.string ⟨#[]⟩, .slice none 0 0, .slice none 0 0, .string ⟨#[]⟩] 25)) (SlAt.below HL.out ⟨HB2.out.os, HB2.out.tape, HB2.out.output, HB2.out.size, HB2.out.block⟩) HLW.out (by rw [HLL.out]; exact HLN.out)); have hmk := fun w => run_make_row' (P := Tryz.prog) 75 4 (.bool false) 1 Tryz.underlying75 (by kernel_rfl) rfl .i64 .i64 nn (by omega) (by omega) w
  go_upto_block 0 with (first | (go_at_call 22; refine (HDE.out).mono ?_; rintro e w' ⟨pv, rfl, hdd, hb'⟩; obtain ⟨fd, hd1, hd2, hd3⟩ := hdd; obtain ⟨pa, pc, rfl⟩ := zJ hd1))
  have hn4 : nn ≤ 4 := by omega
  have hn1 : 1 ≤ nn := by omega
  have hb0 : Below (W.heap.size + 2) ((W.alloc (.cells #[.int .i64 nons, .slice rva n rcp, .slice la nl lc, .slice ia inn icp, .bool bare] 32)).alloc (.cells #[.string ⟨#[]⟩, .slice none 0 0, .slice none 0 0, .string ⟨#[]⟩] 25)) w' := hb'.mono (by simp); have hlw : W.heap.size + 2 ≤ w'.heap.size := by have := hb'.size; simpa using this
  have hdd : vL ((W.alloc (.cells #[.int .i64 nons, .slice rva n rcp, .slice la nl lc, .slice ia inn icp, .bool bare] 32)).alloc (.cells #[.string ⟨#[]⟩, .slice none 0 0, .slice none 0 0, .string ⟨#[]⟩] 25)).heap.size w' (.slice pa (Sp.gQ levels).length pc) (Sp.gQ levels) := ⟨fd, hd1, hd2, hd3⟩
  clear hd1 hd2 hd3 hmk hb' HDE; generalize Sp.gQ levels = DL at *
  generalize hdn : DL.length = dn at *
  have hmc : madeCells #[Value.bool false] nn = ((List.replicate nn false).map Value.bool).toArray := by
   apply Array.toList_inj.1
   rw [toList_madeCells_one]; simp
  rw [hmc]; obtain ⟨wm, hwm⟩ : ∃ wm, wm = (w'.alloc (.cells #[.string ⟨#[]⟩, .slice pa dn pc, .slice none 0 0, .string ⟨#[]⟩] 25)).alloc (.cells ((List.replicate nn false).map Value.bool).toArray 4) := ⟨_, rfl⟩
  have hms : wm.heap.size = w'.heap.size + 2 := by rw [hwm]; simp
  have hS : wm.heap[w'.heap.size]? = some (.cells #[.string ⟨#[]⟩, .slice pa dn pc, .slice none 0 0, .string ⟨#[]⟩] 25 (0, 0)) := by rw [hwm]; exact (Below.heap_alloc _ _ _ (by simp)).trans (zE w' _)
  have hH : wm.heap[w'.heap.size + 1]? = some (.cells ((List.replicate nn false).map Value.bool).toArray 4 (0, 0)) := by rw [hwm]; exact xJ w' _ _
  have hba : Below w'.heap.size w' wm := by rw [hwm]; exact ((Below.refl _ w').alloc (Nat.le_refl _) _).alloc (by simp) _
  have hDm := declsD_below hdd hba; have hBm : Below (W.heap.size + 2) ((W.alloc (.cells #[.int .i64 nons, .slice rva n rcp, .slice la nl lc, .slice ia inn icp, .bool bare] 32)).alloc (.cells #[.string ⟨#[]⟩, .slice none 0 0, .slice none 0 0, .string ⟨#[]⟩] 25)) wm := hb0.trans (hba.mono hlw); rw [← hwm]; have HBm := zh hBm; have HDm := zh hDm; have HH := zh hH; have HS := zh hS; have HDN := zh hdn; have HMS := zh hms; clear hwm hmc hba hb0 hdd hH hBm hDm hdn; refine made_start wm W.heap.size w'.heap.size (w'.heap.size + 1) nn (.slice pa dn pc) _ _ hn4 hS (fun _ _ _ _ h => h) ?_; intro y6 y24 y25 y26 y27 y28 y29 y30 y31 y32 y33 y34 y35 y36 wx qv hS1 hR1 hK1; dsimp only; have hBX : Below (W.heap.size + 2) ((W.alloc (.cells #[.int .i64 nons, .slice rva n rcp, .slice la nl lc, .slice ia inn icp, .bool bare] 32)).alloc (.cells #[.string ⟨#[]⟩, .slice none 0 0, .slice none 0 0, .string ⟨#[]⟩] 25)) wx := HBm.out.trans (Kp.below hK1 (by omega) (fun k hk => by omega)); have hD1 := vR HDm.out (kp_kpT hK1 HS.out) (by decide) (by decide); have hH1 := Kp.at hK1 HH.out (by omega); obtain ⟨fr, hr1, hr2, hr3⟩ := hR1; have hsl : (Sp.yK nn).length = nn := by unfold Sp.yK; simp
  rw [hsl] at hr1; obtain ⟨gr, vc, rfl⟩ := yB hr1 (by omega); have hR1 : vS wm.heap.size wx (.slice (some ⟨gr, 0, none⟩) nn vc) (Sp.yK nn) := ⟨fr, by rw [hsl]; exact hr1, hr2, hr3⟩
  have hszx : wm.heap.size ≤ wx.heap.size := hK1.size; have hWX : Below W.heap.size W wx := j3 hBX; have HBX := zh hBX; have HWX := zh hWX; have HS1 := zh hS1; have HD1 := zh hD1; have HH1 := zh hH1; have HR1 := zh hR1; have HSL := zh hsl; clear hS hK1 hBX hD1 hH1 hr1 hr2 hr3 hR1 hWX hS1 hsl HBm HDm HH HS; go_upto_block 2 with fail
  refine made_rows wx W.heap.size w'.heap.size (w'.heap.size + 1) gr nn vc wm.heap.size ((W.alloc (.cells #[.int .i64 nons, .slice rva n rcp, .slice la nl lc, .slice ia inn icp, .bool bare] 32)).alloc (.cells #[.string ⟨#[]⟩, .slice none 0 0, .slice none 0 0, .string ⟨#[]⟩] 25)).heap.size n b off rcp inn icp rva ia (.slice pa dn pc) DL (Sp.yK nn) (List.replicate nn false) rows inner _ _ hn4 hn1 HS1.out HD1.out HR1.out HSL.out (by simp) (fun r hr => by unfold Sp.yK at hr; obtain ⟨i, _, rfl⟩ := List.mem_map.1 hr; rfl) HH1.out (by omega) (by omega) (by omega) (by omega) hszx HRL.out hrn hinl ?hx ?hrw ?hiw (fun _ _ _ _ h => h) ?_
  case hx =>
   intro w'' h; have h1 := (qX (HBX.out.trans (h.mono (by omega)))).1; exact ⟨zc 1 h1, zc 3 h1⟩
  case hrw =>
   intro i row hi; obtain ⟨e, h1, h2, a, sc, h3, h4⟩ := HROWS.out i row hi; refine ⟨e, h1, h2, a, sc, fun w'' h => h3 w'' (HWX.out.trans (h.mono (by omega))), fun j x hj => ?_⟩; obtain ⟨b3, off3, e2, hb3, h5⟩ := h4 j x hj; exact ⟨b3, off3, e2, by omega, fun w'' h => h5 w'' (HWX.out.trans (h.mono (by omega)))⟩
  case hiw => exact fun w'' i h => HINN.out w'' i (HWX.out.trans (h.mono (by omega)))
  intro y7 y8 y9 X6 Xh Xs y37 y38 y39 y40 y41 y42 y43 y44 y45 y46 y47 y48 y49 y50 y51 y52 y53 y54 y55 y56 y57 y58 y59 y60 y61 y62 y63 y64 y65 y66 y67 y68 y69 y70 y71 y72 y73 y74 y75 y76 y77 y78 y79 y80 y81 y82 y83 y84 y85 y86 y87 y88 y89 y90 y91 y92 y93 y94 y95 y96 y97 y98 y99 X7 X8 X9 Xa Xb Xc Xd Xe Xf Xg Xi Xj Xk Xl Xm Xn Xo Xp Xq Xr Xt Xu Xv Xw Xx Xy Xz Y0 Y1 Y2 Y4 Y5 Y6 Y7 Y8 Y9 Ya Yb Yc Yd Yf Yg Yh Yi Yj Yk Yl Ym Yn Yo Yq Yr Ys Yt Yu Yv Yw Yx Yy Yz Z1 Z2 Z3 Z4 Z5 Z6 Z7 Z8 Z9 Za Zc Zd Ze wy RX hsx hF hS2 hD2 hR2 hl2 hhl2 hH2 hsm2 hb2; dsimp only; have hBY : Below (W.heap.size + 2) ((W.alloc (.cells #[.int .i64 nons, .slice rva n rcp, .slice la nl lc, .slice ia inn icp, .bool bare] 32)).alloc (.cells #[.string ⟨#[]⟩, .slice none 0 0, .slice none 0 0, .string ⟨#[]⟩] 25)) wy := HBX.out.trans (hb2.mono (by omega)); have hszy : wx.heap.size ≤ wy.heap.size := hb2.size; have HBY := zh hBY; have HF := zh hF; clear hb2 hBY hF HBX HWX HS1 HD1 HH1 HR1 HSL; go_upto_block 6 with fail
  refine made_fill wy W.heap.size w'.heap.size (w'.heap.size + 1) gr nn vc wm.heap.size ((W.alloc (.cells #[.int .i64 nons, .slice rva n rcp, .slice la nl lc, .slice ia inn icp, .bool bare] 32)).alloc (.cells #[.string ⟨#[]⟩, .slice none 0 0, .slice none 0 0, .string ⟨#[]⟩] 25)).heap.size (.slice pa dn pc) DL RX hsx bare _ _ hn4 hS2 hD2 hR2 hl2 hhl2 hsm2 hH2 (by omega) (by omega) (by omega) (by omega) ?hx4 (fun _ _ _ _ h => h) ?_
  case hx4 =>
   intro w'' h; have h1 := (qX (HBY.out.trans (h.mono (by omega)))).1; exact zc 4 h1
  intro Y3 Zf Zg Zh Zi Zj Zk Zl Zn Zo Zp Zq Zr Zs Zt Zu Zv Zw Zy Zz y192 y193 y194 y195 y196 y197 y198 y199 y200 y201 y202 y203 y204 y205 y206 y207 y208 y209 y210 y211 y212 y213 y214 y215 wz hS3 hD3 hR3 hb3; dsimp only; have hBZ : Below (W.heap.size + 2) ((W.alloc (.cells #[.int .i64 nons, .slice rva n rcp, .slice la nl lc, .slice ia inn icp, .bool bare] 32)).alloc (.cells #[.string ⟨#[]⟩, .slice none 0 0, .slice none 0 0, .string ⟨#[]⟩] 25)) wz := HBY.out.trans (hb3.mono (by omega)); have s0 := zc 0 hS3; have s1 := zc 1 hS3; have s2 := zc 2 hS3; have s3 := zc 3 hS3; obtain ⟨hF1, hF2⟩ := qX hBZ; have r0 := zc 0 hF2; have r1 := zc 1 hF2; have r2 := zc 2 hF2; have r3 := zc 3 hF2; have z0 := zf 0 hF2; have z1 := zf 1 hF2; have z2 := zf 2 hF2; have z3 := zf 3 hF2; have hl1 := zC hF2; have hl4 := zC hS3; have HF2 := zh hF2; have HBZ := zh hBZ; have HD3 := zh hD3; have HR3 := zh hR3; clear hS2 hD2 hR2 hl2 hhl2 hsm2 hH2 hb3 hF1 hF2 hBZ hD3 hR3 hS3; go_wp2_with fail; refine jH (g := W.heap.size + 1) (cs := (srcC (.slice pa dn pc) (.slice (some ⟨gr, 0, none⟩) nn vc) ⟨[], DL, Sp.jM bare 0 RX hsx, []⟩).toArray) (t := 25) (fr := (0, 0)) rfl rfl (zA (zA (zA (zA HF2.out)))) rfl Tryz.underlying25 (by kernel_rfl) rfl ?_; rw [← HF.out]; refine ⟨.slice pa dn pc, .slice (some ⟨gr, 0, none⟩) nn vc, ((W.alloc (.cells #[.int .i64 nons, .slice rva n rcp, .slice la nl lc, .slice ia inn icp, .bool bare] 32)).alloc (.cells #[.string ⟨#[]⟩, .slice none 0 0, .slice none 0 0, .string ⟨#[]⟩] 25)).heap.size, wm.heap.size, rfl, ?_, ?_, ?_, by simp only [World.size_alloc]; omega, by have h := HBZ.out.size; simpa [World.setCell] using h⟩
  ·exact ((((j3 HBZ.out).setCell (p := ⟨W.heap.size + 1, 0, none⟩) (by simp) _).setCell (p := ⟨W.heap.size + 1, 1, none⟩) (by simp) _).setCell (p := ⟨W.heap.size + 1, 2, none⟩) (by simp) _).setCell (p := ⟨W.heap.size + 1, 3, none⟩) (by simp) _
  ·refine declsD_own (vR (T := (· ≠ 25)) (w := wz) HD3.out ?_ (by decide) (by decide))
   exact ((((KpT.below (Below.refl _ wz)).setCell HF2.out (by simp) _).setCell (zA HF2.out) (by simp) _).setCell (zA (zA HF2.out)) (by simp) _).setCell (zA (zA (zA HF2.out))) (by simp) _
  ·refine rulesD_own (rulesD_kp (T := (· ≠ 25)) (w := wz) HR3.out ?_ (by decide) (by decide) (by decide))
   exact ((((KpT.below (Below.refl _ wz)).setCell HF2.out (by simp) _).setCell (zA HF2.out) (by simp) _).setCell (zA (zA HF2.out)) (by simp) _).setCell (zA (zA (zA HF2.out))) (by simp) _


section
variable {H : Type} {enc : TypeId × Value → H} {w : World} {base : Nat} {spare : Nat → Bool} {held : Bool}
theorem one_ints : Tryz.prog.cellsOf 30 = 1 := by kernel_rfl
theorem one_rows : Tryz.prog.cellsOf 29 = 1 := by kernel_rfl
theorem cells_gr : Tryz.prog.cellsOf 32 = 5 := by kernel_rfl
theorem five {α : Type} (l : List α) (h : l.length = 5) : ∃ a b c d e, l = [a, b, c, d, e] := by
 rcases l with _ | ⟨a, _ | ⟨b, _ | ⟨c, _ | ⟨d, _ | ⟨e, _ | ⟨f, l⟩⟩⟩⟩⟩⟩ <;> simp at h
 exact ⟨a, b, c, d, e, rfl⟩
theorem open_ints {fuel : Nat} {cs : List Value} {x : DataW H × List MemPlace} (h : DataW.trod enc Tryz.prog w base spare held fuel 30 cs = some x) :
  ∃ (v : Value) (ts : List Int), cs = [v] ∧ vT w v ts ∧ ts.length ≤ maxLen ∧ ∀ t ∈ ts, (Lit.int .i64 t).wf = true :=
 vP 1 Tryz.underlying30 zBW (fun x : Int => [Value.int .i64 x]) (fun x => (Lit.int .i64 x).wf = true) (fun _ => rfl) (by decide)
  (fun n cs y h => by
   obtain ⟨z, e, _, hw⟩ := DataW.trod_int Tryz.underlying3 h
   exact ⟨z, by simpa using e, hw⟩) h
instance : Inhabited (List Int × Value) := ⟨([], .bool false)⟩
theorem open_rows {fuel : Nat} {cs : List Value} {x : DataW H × List MemPlace} (h : DataW.trod enc Tryz.prog w base spare held fuel 29 cs = some x) :
  ∃ (v : Value) (rows : List (List Int)), cs = [v] ∧ rows.length ≤ maxLen ∧ ∃ f : Nat → Value, SlAt w v 1 (rows.mapIdx fun i _ => [f i]) ∧ ∀ (i : Nat) (row : List Int), rows[i]? = some row → vT w (f i) row ∧ row.length ≤ 2 ^ 63 - 1 ∧ ∀ m ∈ row, (Lit.int .i64 m).wf = true := by
 obtain ⟨v, ts, e, hs, hl, hg⟩ := vP 1 Tryz.underlying29 one_ints (fun t : List Int × Value => [t.2]) (fun t => vT w t.2 t.1 ∧ t.1.length ≤ 2 ^ 63 - 1 ∧ ∀ m ∈ t.1, (Lit.int .i64 m).wf = true) (fun _ => rfl) (by decide)
  (fun n cs y h => by
   obtain ⟨v, ts, e, hi, hl, hw⟩ := open_ints h
   exact ⟨(ts, v), e, hi, by unfold maxLen at hl; omega, hw⟩) h
 refine ⟨v, ts.map (·.1), e, by rw [List.length_map]; exact hl, fun i => (ts[i]?.map (·.2)).getD (.bool false), ?_, fun i row hr => ?_⟩
 ·have k := zDN (fun (v : Value) (_ : List Int) => [v]) ts
  rw [← k]; exact hs
 ·rw [List.getElem?_map] at hr
  obtain ⟨t, ht, rfl⟩ := Option.map_eq_some_iff.1 hr; have := hg t (List.mem_of_getElem? ht); simp only [ht, Option.map_some, Option.getD_some]; exact this
theorem open_gr {n : Nat} {cs : List Value} {y : DataW H × List MemPlace} (h : DataW.trod enc Tryz.prog w base spare held n 32 cs = some y) : ∃ x : Sp.Gr, GrAt w (.agg cs.toArray) x := by
 obtain ⟨ys, n', _, _, hlen, hyl, hf⟩ := DataW.trod_struct Tryz.underlying32 h; rw [cells_gr] at hlen; obtain ⟨c0, c1, c2, c3, c4, rfl⟩ := five cs hlen; obtain ⟨y0, y1, y2, y3, y4, rfl⟩ := five ys (by simpa using hyl); have g0 := hf 0 _ rfl; have g1 := hf 1 _ rfl; have g2 := hf 2 _ rfl; have g3 := hf 3 _ rfl; have g4 := hf 4 _ rfl; change DataW.trod enc Tryz.prog w base spare held n' 3 (([c0, c1, c2, c3, c4].drop 0).take (Tryz.prog.cellsOf 3)) = _ at g0; change DataW.trod enc Tryz.prog w base spare held n' 29 (([c0, c1, c2, c3, c4].drop 1).take (Tryz.prog.cellsOf 29)) = _ at g1; change DataW.trod enc Tryz.prog w base spare held n' 30 (([c0, c1, c2, c3, c4].drop 2).take (Tryz.prog.cellsOf 30)) = _ at g2; change DataW.trod enc Tryz.prog w base spare held n' 30 (([c0, c1, c2, c3, c4].drop 3).take (Tryz.prog.cellsOf 30)) = _ at g3; change DataW.trod enc Tryz.prog w base spare held n' 4 (([c0, c1, c2, c3, c4].drop 4).take (Tryz.prog.cellsOf 4)) = _ at g4; rw [zBW] at g0; rw [one_rows] at g1; rw [one_ints] at g2 g3; rw [one_bool] at g4; obtain ⟨z0, e0, _, w0⟩ := DataW.trod_int Tryz.underlying3 g0; obtain ⟨v1, rows, e1, l1, r1⟩ := open_rows g1; obtain ⟨v2, lv, e2, i2, l2, w2⟩ := open_ints g2; obtain ⟨v3, iv, e3, i3, l3, w3⟩ := open_ints g3; obtain ⟨b4, e4, _⟩ := DataW.trod_bool Tryz.underlying4 g4; obtain rfl : c0 = _ := by simpa using e0
 obtain rfl : c1 = _ := by simpa using e1
 obtain rfl : c2 = _ := by simpa using e2
 obtain rfl : c3 = _ := by simpa using e3
 obtain rfl : c4 = _ := by simpa using e4
 unfold maxLen at l1 l2 l3; exact ⟨⟨z0, rows, lv, iv, b4⟩, c1, c2, c3, rfl, w0, r1, i2, i3, w2, w3, by omega, by omega, by omega⟩
end


def heldR (v : Value) : Option (DataW Value × List MemPlace) := some (.held v, [])
def xE (P : Program) (k : TypeId) (w : World) (b n : Nat) (L : Value → Option Value) : Prop :=
 ∃ D : DataW Value, w.ownsMap P k heldR b n D ∧ ∀ key kl, keyOf P k key = some kl → ∀ z, D.atKey kl z = (match L key with | some v => .held v | none => z)
section
variable {P : Program} {k : TypeId} {w w' : World} {b n : Nat} {L : Value → Option Value}
theorem xE.kept {row : Option Nat} (h : xE P k w b n L) (hg : w.grownBy w' row) (hne : some b ≠ row) : xE P k w' b n L := by
 obtain ⟨D, h1, h2⟩ := h; exact ⟨D, h1.kept hg hne, h2⟩
theorem xE.block (h : xE P k w b n L) (hb : w'.heap[b]? = w.heap[b]?) : xE P k w' b n L := by
 obtain ⟨D, ⟨es, c, h1, h2⟩, h3⟩ := h; exact ⟨D, ⟨es, c, hb.trans h1, h2⟩, h3⟩
theorem xE.lt (h : xE P k w b n L) : b < w.heap.size := by
 obtain ⟨D, h1, _⟩ := h; exact h1.lt
theorem xE.isMap (h : xE P k w b n L) : ∃ es c, w.heap[b]? = some (.map es c) := by
 obtain ⟨D, ⟨es, c, h1, _⟩, _⟩ := h; exact ⟨es, c, h1⟩
theorem xE.mono (h : xE P k w b n L) {m : Nat} (hn : n ≤ m) : xE P k w b m L := by
 obtain ⟨D, h1, h2⟩ := h; exact ⟨D, h1.mono hn, h2⟩
theorem xE.made (P : Program) (k : TypeId) (w : World) : xE P k (w.alloc (.map #[] 0)) w.heap.size 0 (fun _ => none) :=
 ⟨.map [], World.ownsMap_made w P k heldR, fun _ _ _ _ => rfl⟩
theorem xE.look {t e : TypeId} (c : Bool) (h : xE P k w b n L) (K : Keyed P k) (ht : P.underlying t = some (.map k e)) {z : Value} (hz : (zeroValue e).run P w = .ok z w) {key : Value} {kl : Lit} (hkey : keyOf P k key = some kl) :
  (Instr.lookup t (.map (some b)) key c).run P w = .ok (match L key with
   | some v => if c then .tuple #[v, .bool true] else v
   | none => if c then .tuple #[z, .bool false] else z) w := by
 obtain ⟨D, ⟨es, clock, hb, F, _, rfl⟩, hL⟩ := h; have hk := hL key kl hkey; rcases Maps.fit_look c K ht hz hb F hkey with ⟨hrun, _, hat⟩ | ⟨e0, y, _, _, hrun, hRv, hat, _⟩
 ·rw [hrun]
  cases hl : L key with
  | none => rfl
  | some v =>
   have h1 := hk .nil; rw [hat, hl] at h1; simp at h1
 ·rw [hrun]
  unfold heldR at hRv; simp only [Option.some.injEq] at hRv; subst hRv
  cases hl : L key with
  | none =>
   have h1 := hk .nil; rw [hat, hl] at h1; simp at h1
  | some v =>
   have h1 := hk .nil; rw [hat, hl] at h1; simp only [DataW.held.injEq] at h1; rw [h1]
theorem xE.update {t e : TypeId} (h : xE P k w b n L) (K : Keyed P k) (ht : P.underlying t = some (.map k e)) (hn : n < maxLen) {key val : Value} {kl : Lit} (hkey : keyOf P k key = some kl)
  (L' : Value → Option Value) (h1 : L' key = some val) (h2 : ∀ key', key' ≠ key → L' key' = L key') :
  ∃ w', (Instr.mapUpdate t (.map (some b)) key val).run P w = .ok () w' ∧ xE P k w' b (n + 1) L' ∧ w.grownBy w' (some b) := by
 obtain ⟨D, hD, hL⟩ := h; obtain ⟨w', hr, ho, hg⟩ := hD.update K ht hn hkey (show heldR val = some (.held val, []) from rfl); refine ⟨w', hr, ⟨_, ho, fun key' kl' hk' z => ?_⟩, hg⟩
 have hm : IsMap D := by
  obtain ⟨es, c, _, _, _, e⟩ := hD; exact ⟨_, e⟩
 by_cases hkk : key' = key
 ·subst hkk
  rw [hkey] at hk'; cases hk'
  rw [h1, atKey_put_same hm (K.key hkey)]
 ·have hll : kl' ≠ kl := fun e0 => hkk (K.inj (e0 ▸ hk') hkey)
  rw [atKey_put_other hll, hL key' kl' hk' z, h2 key' hkk]
end

namespace Sp

structure Tok where
 name : List UInt8
 lit : Bool
 num : Int
 level : Int
 assoc : Int
 tag : List UInt8
deriving DecidableEq
structure Non where
 name : List UInt8
 tag : List UInt8
deriving DecidableEq
structure Prod where
 left : Int
 right : List Int
 prec : Int
 code : List UInt8
 args : List Int
 at_ : Int
deriving DecidableEq
structure Gram where
 toks : List Tok
 nons : List Non
 prods : List Prod
 pro : List UInt8
 tail : List UInt8
deriving DecidableEq
def yI {α : Type} (p : α → Bool) : List α → Nat → Option Nat
 | [], _ => none
 | x :: l, i => if p x = true then some i else yI p l (i + 1)
def jE : List UInt8 := [101, 114, 114, 111, 114]
def yD (toks : List Tok) (nm : List UInt8) (lt : Bool) : Option Nat :=
 if nm = jE ∧ lt = false then some 1 else yI (fun t => t.name == nm && t.lit == lt) (toks.drop 3) 3
def yO (lefts : List (List UInt8)) (nm : List UInt8) : Option Nat := yI (fun l => l == nm) lefts 1
structure Mk where
 toks : List Tok
 given : List Bool
 lefts : List (List UInt8)
 nons : List Non
 prods : List Prod
 types : List (List UInt8 × List UInt8)
 start : List UInt8
def gF : Tok := ⟨[], false, 0, 0, 0, []⟩
def mk0 : Mk := ⟨[⟨[36, 101, 110, 100], false, 0, 0, 0, []⟩, ⟨jE, false, -1, 0, 0, []⟩, ⟨[36, 117, 110, 107], false, -1, 0, 0, []⟩], [false, false, false], [], [⟨[36, 97, 99, 99, 101, 112, 116], []⟩], [], [], []⟩
def vU (num but : Int) : Nat → List Tok → List Bool → Bool
 | i, t :: ts, g :: gs => ((decide ((i : Int) ≠ but) && g) && (t.num == num)) || vU num but (i + 1) ts gs
 | _, _, _ => false
def taken (s : Mk) (num but : Int) : Bool := vU num but 3 (s.toks.drop 3) (s.given.drop 3)
def byte0 (l : List UInt8) : Int := ((l.headD 0).toNat : Int)
def addTok (s : Mk) (x : Sym) : Mk × Nat :=
 match yD s.toks x.name x.lit with
 | some t => (s, t)
 | none => ({ s with toks := s.toks ++ [⟨x.name, x.lit, if x.lit = true then byte0 x.name else 0, 0, 0, []⟩], given := s.given ++ [x.lit] }, s.toks.length)
def clash (s : Mk) (x : Sym) : Bool := (x.lit && (yD s.toks x.name x.lit).isNone) && taken s (byte0 x.name) (-1)
def tokBad (s : Mk) (d : Decl) (x : Sym) : Bool :=
 let o := yD s.toks x.name x.lit
 let k : Int := match o with
  | some t => (t : Int)
  | none => -1
 let t := match o with
  | some t => s.toks.getD t gF
  | none => gF
 let g := match o with
  | some t => s.given.getD t false
  | none => false
 (decide (d.kind ≠ 1) && decide (0 < t.level)) || (decide (0 < x.num) && ((decide (k = 1) || g) || taken s x.num k)) || clash s x || ((decide (d.tag ≠ []) && decide (t.tag ≠ [])) && decide (t.tag ≠ d.tag))
def jJ (s : Mk) (k : Nat) (f : Tok → Tok) : Mk := { s with toks := s.toks.set k (f (s.toks.getD k gF)) }
def kJ (s : Mk) (d : Decl) (x : Sym) (level : Int) : Option Mk :=
 if tokBad s d x = true then none else
  let r := addTok s x
  let s1 := if 0 < x.num then { jJ r.1 r.2 (fun t => { t with num := x.num }) with given := r.1.given.set r.2 true } else r.1
  let s2 := if d.tag ≠ [] then jJ s1 r.2 (fun t => { t with tag := d.tag }) else s1
  some (if d.kind ≠ 1 then jJ s2 r.2 (fun t => { t with level := level, assoc := d.kind - 2 + 1 }) else s2)
def xK : List (List UInt8 × List UInt8) → List UInt8 → Option (List UInt8)
 | [], _ => none
 | (n, t) :: l, nm => if n = nm then some t else xK l nm
def yN (s : Mk) (d : Decl) (x : Sym) : Option Mk :=
 if d.kind = 5 ∧ (∃ t, xK s.types x.name = some t ∧ t ≠ d.tag) ∨ d.kind = 6 ∧ s.start ≠ [] then none
 else if d.kind = 5 then some { s with types := (x.name, d.tag) :: s.types } else some { s with start := x.name }
abbrev Stop := List UInt8 × Int
def zAS (d : Decl) (level : Int) : List Sym → Mk → Except Stop Mk
 | [], s => .ok s
 | x :: l, s =>
  match (if 5 ≤ d.kind then yN s d x else kJ s d x level) with
  | none => .error (x.name, x.at_)
  | some s => zAS d level l s
def qM : Int → List Decl → Mk → Except Stop Mk
 | _, [], s => .ok s
 | level, d :: l, s =>
  let level := if 2 ≤ d.kind ∧ d.kind ≤ 4 then level + 1 else level
  match zAS d level d.syms s with
  | .error e => .error e
  | .ok s => qM level l s
def jD : List Rule → Mk → Except Stop Mk
 | [], s => .ok s
 | r :: l, s =>
  if (yD s.toks r.left false).isSome = true then .error (r.left, r.at_)
  else if (yO s.lefts r.left).isSome = true then jD l s
  else jD l { s with lefts := s.lefts ++ [r.left], nons := s.nons ++ [⟨r.left, (xK s.types r.left).getD []⟩] }
def namesOk (s : Mk) (kind : Int) : List Sym → Option Stop
 | [] => none
 | x :: l => if 5 ≤ kind ∧ (yO s.lefts x.name).isNone = true then some (x.name, x.at_) else namesOk s kind l
def kA (s : Mk) : List Decl → Option Stop
 | [] => none
 | d :: l =>
  match namesOk s d.kind d.syms with
  | some e => some e
  | none => kA s l
def vI (x : zM) (s : Mk) : Except Stop Mk :=
 match jD x.rules s with
 | .error e => .error e
 | .ok s =>
  match kA s x.decls with
  | some e => .error e
  | none => .ok s
def used (s : Mk) (x : Sym) (prec : Bool) : Except Stop Mk :=
 if x.lit = true then (if clash s x = true then .error (x.name, x.at_) else .ok (addTok s x).1)
 else if (yD s.toks x.name x.lit).isNone = true ∧ (prec = true ∨ (yO s.lefts x.name).isNone = true) then .error (x.name, x.at_) else .ok s
def vG : List Part → Mk → Except Stop Mk
 | [], s => .ok s
 | p :: l, s =>
  if p.code = [] then
   match used s p.sym false with
   | .error e => .error e
   | .ok s => vG l s
  else vG l s
def zCI : List Alt → Mk → Except Stop Mk
 | [], s => .ok s
 | a :: l, s =>
  match vG a.parts s with
  | .error e => .error e
  | .ok s =>
   if a.prec.name = [] then zCI l s else
    match used s a.prec true with
    | .error e => .error e
    | .ok s => zCI l s
def kN : List Rule → Mk → Except Stop Mk
 | [], s => .ok s
 | r :: l, s =>
  match zCI r.alts s with
  | .error e => .error e
  | .ok s => kN l s
def zAL (s : Mk) (x : Sym) : Int :=
 match yD s.toks x.name x.lit with
 | some t => (t : Int)
 | none => 1000 + (((yO s.lefts x.name).getD 0 : Nat) : Int)
def kH (n : Nat) : Nat → List Part → Prod × Nat × Mk → Prod × Nat × Mk
 | _, [], r => r
 | k, x :: l, (p, inner, s) =>
  if x.code = [] then
   let c := zAL s x.sym
   kH n (k + 1) l ({ p with right := p.right ++ [c], prec := if c < 1000 then c else p.prec }, inner, s)
  else if k + 1 = n then kH n (k + 1) l ({ p with code := x.code, at_ := x.at_ }, inner, s)
  else
   let s1 : Mk := { s with nons := s.nons ++ [⟨64 :: Lib.itoa ((inner + 1 : Nat) : Int), []⟩] }
   let s2 : Mk := { s1 with prods := s1.prods ++ [⟨(s1.nons.length : Int) - 1, [], -1, x.code, p.right, x.at_⟩] }
   kH n (k + 1) l ({ p with right := p.right ++ [1000 + (s2.nons.length : Int) - 1] }, inner + 1, s2)
def altMk (left : Int) (a : Alt) (inner : Nat) (s : Mk) : Nat × Mk :=
 let r := kH a.parts.length 0 a.parts (⟨left, [], -1, [], [], a.at_⟩, inner, s)
 let p := if a.prec.name = [] then r.1 else { r.1 with prec := zAL r.2.2 a.prec }
 (r.2.1, { r.2.2 with prods := r.2.2.prods ++ [{ p with args := p.right }] })
def altsMk (left : Int) : List Alt → Nat × Mk → Nat × Mk
 | [], r => r
 | a :: l, r => altsMk left l (altMk left a r.1 r.2)
def vW : List Rule → Nat × Mk → Nat × Mk
 | [], r => r
 | x :: l, r => vW l (altsMk (((yO r.2.lefts x.left).getD 0 : Nat) : Int) x.alts r)
def kB (x : zM) (s : Mk) : Mk :=
 let first := if s.start = [] then (match x.rules with
  | [] => []
  | r :: _ => r.left) else s.start
 (vW x.rules (0, { s with prods := s.prods ++ [⟨0, [1000 + (((yO s.lefts first).getD 0 : Nat) : Int)], -1, [], [], 0⟩] })).2
def jC : Int → List Tok → List Bool → List Tok
 | next, t :: ts, g :: gs => if g = true then t :: jC next ts gs else { t with num := next } :: jC (next + 1) ts gs
 | _, ts, _ => ts
def xX (s : Mk) : Mk := { s with toks := s.toks.take 3 ++ jC 57346 (s.toks.drop 3) (s.given.drop 3) }
def great (s : Mk) : Bool := (s.prods.any fun p => decide (8 < p.right.length)) || decide (40 < s.toks.length) || decide (24 < s.nons.length) || decide (60 < s.prods.length)
structure Fault where
 err : Int
 at_ : Int
 name : List UInt8
deriving DecidableEq
def xG : Gram := ⟨[], [], [], [], []⟩
def jL (x : zM) : Gram × Fault :=
 if may x = false then (xG, ⟨1, 0, []⟩) else
  match qM 0 x.decls mk0 with
  | .error e => (xG, ⟨3, e.2, e.1⟩)
  | .ok s =>
   match vI x s with
   | .error e => (xG, ⟨3, e.2, e.1⟩)
   | .ok s =>
    match kN x.rules s with
    | .error e => (xG, ⟨3, e.2, e.1⟩)
    | .ok s =>
     let s := xX (kB x s)
     if great s = true then (xG, ⟨4, 0, []⟩) else (⟨s.toks, s.nons, s.prods, x.pro, x.tail⟩, ⟨0, 0, []⟩)

theorem zDF {α : Type} {p : α → Bool} : ∀ {l : List α} {i : Nat}, yI p l i = none ↔ ∀ x ∈ l, p x = false
 | [], i => by simp [yI]
 | x :: l, i => by
  unfold yI; by_cases h : p x = true
  ·simp [h]
  ·simp [h, zDF (l := l) (i := i + 1)]
theorem zDE {α : Type} {p : α → Bool} {x : α} : ∀ {l : List α} {i : Nat}, yI p (l ++ [x]) i = match yI p l i with
  | some k => some k
  | none => if p x = true then some (i + l.length) else none
 | [], i => by simp [yI]
 | y :: l, i => by
  unfold yI; by_cases h : p y = true
  ·simp [h]
  ·have ih := zDE (p := p) (x := x) (l := l) (i := i + 1)
   simp only [List.cons_append, yI, h, if_false, Bool.false_eq_true]; rw [ih]
   cases yI p l (i + 1) with
   | some k => rfl
   | none => simp only [List.length_cons]; split <;> simp_all; omega
theorem zDD {α : Type} {p : α → Bool} : ∀ {l : List α} {i k : Nat}, yI p l i = some k → i ≤ k ∧ ∃ x, l[k - i]? = some x ∧ p x = true
 | [], i, k, h => by simp [yI] at h
 | x :: l, i, k, h => by
  unfold yI at h; by_cases hp : p x = true
  ·rw [if_pos hp] at h
   cases h
   exact ⟨Nat.le_refl _, x, by simp, hp⟩
  ·rw [if_neg hp] at h
   obtain ⟨h1, y, h2, h3⟩ := zDD h; refine ⟨by omega, y, ?_, h3⟩; obtain ⟨m, hm⟩ : ∃ m, k - i = m + 1 := ⟨k - i - 1, by omega⟩
   rw [hm, List.getElem?_cons_succ]; have : k - (i + 1) = m := by omega
   rw [this] at h2; exact h2
theorem tokIx_snoc {toks : List Tok} {t : Tok} {nm : List UInt8} {lt : Bool} (h3 : 3 ≤ toks.length) (hn : yD toks t.name t.lit = none) :
  yD (toks ++ [t]) nm lt = if nm = t.name ∧ lt = t.lit then some toks.length else yD toks nm lt := by
 unfold yD at hn ⊢; by_cases he : nm = jE ∧ lt = false
 ·rw [if_pos he, if_pos he, if_neg]
  rintro ⟨h1, h2⟩; rw [if_pos ⟨h1 ▸ he.1, h2 ▸ he.2⟩] at hn; cases hn
 ·rw [if_neg he, if_neg he, List.drop_append_of_le_length h3, zDE]
  by_cases hk : nm = t.name ∧ lt = t.lit
  ·obtain ⟨rfl, rfl⟩ := hk
   rw [if_neg he] at hn; rw [hn]; simp; omega
  ·rw [if_neg hk]
   have hp : (t.name == nm && t.lit == lt) = false := by
    rw [Bool.and_eq_false_iff, beq_eq_false_iff_ne, beq_eq_false_iff_ne]; by_cases h : t.name = nm
    ·right; intro e; exact hk ⟨h.symm, e.symm⟩
    ·left; exact h
   cases hf : yI (fun t => t.name == nm && t.lit == lt) (toks.drop 3) 3 with
   | some k => rfl
   | none => simp [hp]
theorem tokIx_lt {toks : List Tok} {nm : List UInt8} {lt : Bool} {k : Nat} (h3 : 3 ≤ toks.length) (h : yD toks nm lt = some k) : k < toks.length ∧ (k = 1 ∨ 3 ≤ k) := by
 unfold yD at h; split at h
 ·cases h; omega
 ·obtain ⟨h1, x, h2, _⟩ := zDD h
  have := (List.getElem?_eq_some_iff.1 h2).1; rw [List.length_drop] at this; omega
theorem nonIx_snoc {lefts : List (List UInt8)} {l nm : List UInt8} (hn : yO lefts l = none) : yO (lefts ++ [l]) nm = if nm = l then some (lefts.length + 1) else yO lefts nm := by
 unfold yO at hn ⊢; rw [zDE]; by_cases h : nm = l
 ·subst h
  rw [hn, if_pos rfl]; simp; omega
 ·rw [if_neg h]
  have : (l == nm) = false := by rw [beq_eq_false_iff_ne]; exact fun e => h e.symm
  cases yI (fun x => x == nm) lefts 1 with
  | some k => rfl
  | none => simp [this]
end Sp
end Go.Proofs.YtddnomjfcbplpaaGreatDoor
