/- The walk of yuccalaw0.Source: its loop over the rules. -/
import Derived.Test.YthmimcegiihcnaaDoorZ08
namespace Go.Proofs.YthmimcegiihcnaaDoor
open Go.RowKit

set_option maxRecDepth 100000 in
set_option maxHeartbeats 12800000 in
theorem made_rows (wm : World) (B0 g4 g5 gr nn vc B Bd n b off cr inn icp : Nat) (rva ia : Option Addr) (pv : Value) (DL : List Sp.Decl) (RL : List Sp.Rule) (has : List Bool) (rows : List (List Int)) (inner : List Int)
    (u0 u2 u6 u8 u9 u10 u11 u12 u13 u14 u15 u16 u17 u18 u19 u20 u21 u22 u23 u24 u25 u26 u27 u28 u29 u30 u31 u32 u33 u34 u35 u36 u37 u38 u39 u40 u41 u42 u43 u44 u45 u46 u47 u48 u49 u50 u51 u52 u53 u54 u55 u56 u57 u58 u59 u60 u61 u62 u63 u64 u65 u66 u67 u68 u69 u70 u71 u72 u73 u74 u75 u76 u77 u78 u79 u80 u81 u82 u83 u84 u85 u86 u87 u88 u89 u90 u91 u92 u93 u94 u95 u96 u97 u98 u99 u100 u101 u102 u103 u104 u105 u106 u107 u108 u109 u110 u111 u112 u113 u114 u115 u116 u117 u118 u119 u120 u121 u122 u123 u124 u125 u126 u127 u128 u129 u130 u131 u132 u133 u134 u135 u136 u137 u138 u139 u140 u141 u142 u143 u144 u145 u146 u147 u148 u149 u150 u151 u152 u153 u154 u155 u156 u157 u158 u159 u160 u161 u162 u163 u164 u165 u166 u167 u168 u169 u170 u171 u172 u173 u174 u175 u176 u177 u178 u179 u180 u181 u182 u183 u184 u185 u186 u187 u188 u189 u190 u191 u192 u193 u194 u195 u196 u197 u198 u199 u200 u201 u202 u203 u204 u205 u206 u207 u208 u209 u210 u211 u212 u213 u214 u215 u216 : Value) (K : Act → World → Prop) (Q : Exit → Act → World → Prop)
    (hn4 : nn ≤ 4) (hn1 : 1 ≤ nn) (hS : wm.heap[g4]? = some (.cells #[.string ⟨#[]⟩, pv, (.slice (some ⟨gr, 0, none⟩) nn vc), .string ⟨#[]⟩] 29 (0, 0))) (hdd : DeclsD Bd wm pv DL) (hr : RulesD B wm (.slice (some ⟨gr, 0, none⟩) nn vc) RL) (hrl : RL.length = nn) (hhl : has.length = nn) (hsm : ∀ r ∈ RL, r.alts.length = 0)
    (hH : wm.heap[g5]? = some (.cells (has.map Value.bool).toArray 4 (0, 0))) (hg45 : g4 < g5) (hg5B : g5 < B) (hB0 : B0 < g4) (hb : b < g4) (hBm : B ≤ wm.heap.size) (hnr : rows.length = n) (hn63 : n ≤ 2 ^ 63 - 1) (hinn63 : inn ≤ 2 ^ 63 - 1)
    (hx : ∀ w', Below g5 wm w' → w'.cell? ⟨B0, 1, none⟩ = some (.slice rva n cr) ∧ w'.cell? ⟨B0, 3, none⟩ = some (.slice ia inn icp))
    (hrows : ∀ (i : Nat) (row : List Int), rows[i]? = some row → rva = some ⟨b, off, none⟩ ∧ row.length ≤ 2 ^ 63 - 1 ∧ (∀ x ∈ row, (Lit.int .i64 x).wf = true) ∧ ∃ a sc, (∀ w', Below g5 wm w' → w'.cell? ⟨b, off + i, none⟩ = some (.slice a row.length sc)) ∧ ∀ j x, row[j]? = some x → ∃ b3 off3, a = some ⟨b3, off3, none⟩ ∧ b3 < g4 ∧ ∀ w', Below g5 wm w' → w'.cell? ⟨b3, off3 + j, none⟩ = some (.int .i64 x))
    (hinn : ∀ (w : World) (i : Nat), Below g5 wm w → InnAt w ia inn i inner[i]?)
    (hQ : ∀ c (t : Array Value) (a : Act) w, Q (.panic c) ⟨t, a.defers⟩ w → Q (.panic c) a w)
    (hK : ∀ (x7 x8 x9 x10 x11 x12 x37 x38 x39 x40 x41 x42 x43 x44 x45 x46 x47 x48 x49 x50 x51 x52 x53 x54 x55 x56 x57 x58 x59 x60 x61 x62 x63 x64 x65 x66 x67 x68 x69 x70 x71 x72 x73 x74 x75 x76 x77 x78 x79 x80 x81 x82 x83 x84 x85 x86 x87 x88 x89 x90 x91 x92 x93 x94 x95 x96 x97 x98 x99 x100 x101 x102 x103 x104 x105 x106 x107 x108 x109 x110 x111 x112 x113 x114 x115 x116 x117 x118 x119 x120 x121 x122 x123 x124 x125 x126 x127 x128 x129 x130 x131 x132 x133 x134 x135 x136 x137 x138 x139 x140 x141 x142 x143 x144 x145 x146 x147 x148 x149 x150 x151 x152 x153 x154 x155 x156 x157 x158 x159 x160 x161 x162 x163 x164 x165 x166 x167 x168 x169 x170 x171 x172 : Value) (wx : World) (RX : List Sp.Rule) (hsx : List Bool), (RX, hsx) = Sp.rulesGo nn inner 0 (rows.take 9) (RL, has) → wx.heap[g4]? = some (.cells #[.string ⟨#[]⟩, pv, (.slice (some ⟨gr, 0, none⟩) nn vc), .string ⟨#[]⟩] 29 (0, 0)) → DeclsD Bd wx pv DL → RulesD B wx (.slice (some ⟨gr, 0, none⟩) nn vc) RX → RX.length = nn → hsx.length = nn → wx.heap[g5]? = some (.cells (hsx.map Value.bool).toArray 4 (0, 0)) → (∀ r ∈ RX, r.alts.length ≤ 1000) → Below g5 wm wx → K ⟨#[u0, .pointer (some ⟨B0, 0, none⟩), u2, .int .i64 (nn : Int), .pointer (some ⟨g4, 0, none⟩), .slice (some ⟨g5, 0, none⟩) nn nn, u6, x7, x8, x9, x10, x11, x12, u13, u14, u15, u16, u17, u18, u19, u20, u21, u22, u23, u24, u25, u26, u27, u28, u29, u30, u31, u32, u33, u34, u35, u36, x37, x38, x39, x40, x41, x42, x43, x44, x45, x46, x47, x48, x49, x50, x51, x52, x53, x54, x55, x56, x57, x58, x59, x60, x61, x62, x63, x64, x65, x66, x67, x68, x69, x70, x71, x72, x73, x74, x75, x76, x77, x78, x79, x80, x81, x82, x83, x84, x85, x86, x87, x88, x89, x90, x91, x92, x93, x94, x95, x96, x97, x98, x99, x100, x101, x102, x103, x104, x105, x106, x107, x108, x109, x110, x111, x112, x113, x114, x115, x116, x117, x118, x119, x120, x121, x122, x123, x124, x125, x126, x127, x128, x129, x130, x131, x132, x133, x134, x135, x136, x137, x138, x139, x140, x141, x142, x143, x144, x145, x146, x147, x148, x149, x150, x151, x152, x153, x154, x155, x156, x157, x158, x159, x160, x161, x162, x163, x164, x165, x166, x167, x168, x169, x170, x171, x172, u173, u174, u175, u176, u177, u178, u179, u180, u181, u182, u183, u184, u185, u186, u187, u188, u189, u190, u191, u192, u193, u194, u195, u196, u197, u198, u199, u200, u201, u202, u203, u204, u205, u206, u207, u208, u209, u210, u211, u212, u213, u214, u215, u216], []⟩ wx) :
    Code.wp Tryd.prog (madeBlk 2) (Exit.then K Q) ⟨#[u0, .pointer (some ⟨B0, 0, none⟩), u2, .int .i64 (nn : Int), .pointer (some ⟨g4, 0, none⟩), .slice (some ⟨g5, 0, none⟩) nn nn, u6, .int .i64 0, u8, u9, u10, u11, u12, u13, u14, u15, u16, u17, u18, u19, u20, u21, u22, u23, u24, u25, u26, u27, u28, u29, u30, u31, u32, u33, u34, u35, u36, u37, u38, u39, u40, u41, u42, u43, u44, u45, u46, u47, u48, u49, u50, u51, u52, u53, u54, u55, u56, u57, u58, u59, u60, u61, u62, u63, u64, u65, u66, u67, u68, u69, u70, u71, u72, u73, u74, u75, u76, u77, u78, u79, u80, u81, u82, u83, u84, u85, u86, u87, u88, u89, u90, u91, u92, u93, u94, u95, u96, u97, u98, u99, u100, u101, u102, u103, u104, u105, u106, u107, u108, u109, u110, u111, u112, u113, u114, u115, u116, u117, u118, u119, u120, u121, u122, u123, u124, u125, u126, u127, u128, u129, u130, u131, u132, u133, u134, u135, u136, u137, u138, u139, u140, u141, u142, u143, u144, u145, u146, u147, u148, u149, u150, u151, u152, u153, u154, u155, u156, u157, u158, u159, u160, u161, u162, u163, u164, u165, u166, u167, u168, u169, u170, u171, u172, u173, u174, u175, u176, u177, u178, u179, u180, u181, u182, u183, u184, u185, u186, u187, u188, u189, u190, u191, u192, u193, u194, u195, u196, u197, u198, u199, u200, u201, u202, u203, u204, u205, u206, u207, u208, u209, u210, u211, u212, u213, u214, u215, u216], []⟩ wm := by
  obtain ⟨ia0, hia0, haz0, haz1, haz2⟩ := info_parts info_altE
  obtain ⟨ip0, hip0, hpz0, hpz1, hpz2⟩ := info_parts info_partE
  generalize hF : Sp.rulesGo nn inner 0 (rows.take 9) (RL, has) = F at *
  have HS0 := Lib.hid hS; have HDD0 := Lib.hid hdd; have HR0 := Lib.hid hr; have HH0 := Lib.hid hH; have HX := Lib.hid hx; have HF := Lib.hid hF; have HSM := Lib.hid hsm; have HRL := Lib.hid hrl; have HHL := Lib.hid hhl; have HROWS := Lib.hid hrows; have HINN := Lib.hid hinn; have HNR := Lib.hid hnr
  have HKK := Lib.hid hK
  have hM : ∀ a w, Met K a w → K a w := fun _ _ h => h
  clear hS hK hdd hr hH hx hF hsm hrl hhl hrows hinn hnr
  conv => arg 2; whnf
  go_wp2_with fail
  go_loopg [7] 9 (fun g iv wr => ∃ (k : Nat) (RC : List Sp.Rule) (hs : List Bool), k ≤ n ∧ k ≤ 9 ∧ g = 9 - k ∧ iv = .int .i64 k ∧ wr.heap[g4]? = some (.cells #[.string ⟨#[]⟩, pv, (.slice (some ⟨gr, 0, none⟩) nn vc), .string ⟨#[]⟩] 29 (0, 0)) ∧ DeclsD Bd wr pv DL ∧ RulesD B wr (.slice (some ⟨gr, 0, none⟩) nn vc) RC ∧ RC.length = nn ∧ hs.length = nn ∧ wr.heap[g5]? = some (.cells (hs.map Value.bool).toArray 4 (0, 0)) ∧ Sp.rulesGo nn inner k ((rows.take 9).drop k) (RC, hs) = F ∧ (∀ r ∈ RC, r.alts.length ≤ k) ∧ Below g5 wm wr)
  case atStart => exact ⟨0, RL, has, Nat.zero_le _, Nat.zero_le _, rfl, rfl, HS0.out, HDD0.out, HR0.out, HRL.out, HHL.out, HH0.out, HF.out, fun r hr => by rw [HSM.out r hr]; exact Nat.le_refl _, Below.refl _ _⟩
  case round =>
    obtain ⟨k, RC, hs, hk, hk9, rfl, rfl, hS, hdd, hrd, hlen, hhl, hh, hF, hsm, hbel⟩ := hrel
    obtain ⟨wo, hwo⟩ : ∃ wo : World, wo = wr := ⟨_, rfl⟩
    subst hwo
    obtain ⟨ko, hko⟩ : ∃ ko : Nat, ko = k := ⟨_, rfl⟩
    subst hko
    have HS := Lib.hid hS; have HRD := Lib.hid hrd; have HB := Lib.hid hbel; have HDD := Lib.hid hdd; have HLEN := Lib.hid hlen; have HHS := Lib.hid hhl; have HH := Lib.hid hh; have HF2 := Lib.hid hF; have HSM2 := Lib.hid hsm
    have hszr : wm.heap.size ≤ wo.heap.size := hbel.size
    have hk0 : (0 : Int) ≤ (ko : Int) := Int.natCast_nonneg _
    obtain ⟨x1, x3⟩ := HX.out _ hbel
    have hlB0 : B0 < wo.heap.size := by omega
    have hlb : b < wo.heap.size := by omega
    clear hS hrd hbel hdd hlen hhl hh hF hsm
    by_cases hkn : ko < n ∧ ko < 9
    · obtain ⟨hks, hkN⟩ := hkn
      have hkl : ko < rows.length := by have := HNR.out; omega
      have hdr : (rows.take 9).drop ko = rows[ko] :: (rows.take 9).drop (ko + 1) := by
        rw [List.drop_eq_getElem_cons (by simp; omega)]
        simp
      have hrw := HROWS.out ko _ (List.getElem?_eq_getElem hkl)
      have hF := HF2.out
      rw [hdr] at hF
      generalize rows[ko] = row at *
      obtain ⟨rfl, hr63, hrwf, ra, sc, hrc, hrx⟩ := hrw
      have y0 := hrc _ HB.out
      have hk1 : (ko : Int) < (n : Int) := by omega
      have HRC := Lib.hid hrc; have HRX := Lib.hid hrx; have HRWF := Lib.hid hrwf
      clear hrc hrx hdr hkl hrwf
      cases row with
      | nil =>
        have HF3 := Lib.hid (show Sp.rulesGo nn inner (ko + 1) ((rows.take 9).drop (ko + 1)) (RC, hs) = F from hF)
        clear hF
        go_wp2_with fail
        go_roundg (9 - (ko + 1))
        case measure => omega
        case rel => exact ⟨ko + 1, RC, hs, by omega, by omega, rfl, by go_num, HS.out, HDD.out, HRD.out, HLEN.out, HHS.out, HH.out, HF3.out, fun r hr => Nat.le_succ_of_le (HSM2.out r hr), HB.out⟩
      | cons x t =>
        unfold Sp.rulesGo at hF
        obtain ⟨b3, off3, rfl, hb3, hz0⟩ := HRX.out 0 x rfl
        have HROW := Lib.hid (fun (w' : World) (h : Below g5 wm w') (j : Nat) (y : Int) (hj : (x :: t)[j]? = some y) => (show w'.cell? ⟨b3, off3 + j, none⟩ = some (.int .i64 y) from by
          obtain ⟨b3', off3', e, _, h2⟩ := HRX.out j y hj
          simp only [Option.some.injEq, Addr.mk.injEq, and_true] at e
          obtain ⟨rfl, rfl⟩ := e
          exact h2 w' h))
        have z0 := hz0 _ HB.out
        simp only [Nat.add_zero] at z0
        have hxw := HRWF.out x (by simp)
        obtain ⟨w0, w1⟩ := Sp.within_range x nn (by omega)
        obtain ⟨kk, hkk⟩ : ∃ kk : Nat, Sp.within x nn = (kk : Int) := ⟨(Sp.within x nn).toNat, by omega⟩
        have hwi := fun w => made_Within x nn w (by omega) (by omega) hxw
        have HWI : Hid (∀ w, Calls Tryd.prog 23 #[.int .i64 x, .int .i64 (nn : Int)] w fun e w' => e = .returned (.int .i64 (kk : Int)) ∧ w = w') := Lib.hid (fun w => by rw [← hkk]; exact hwi w)
        have hkkn : kk < nn := by omega
        have hdt : ((x :: t).drop 1).take 4 = ((x :: t).take 5).drop 1 := by rw [List.drop_take]
        rw [hkk, Int.toNat_natCast] at hF
        unfold Sp.altOf Sp.plainRow at hF
        rw [hdt] at hF
        have HINO := Lib.hid (fun w h => HINN.out w ko h)
        generalize inner[ko]? = o at *
        generalize hrn : (x :: t).length = rn at *
        have hrn1 : 1 ≤ rn := by rw [← hrn]; simp
        have HRN := Lib.hid hrn
        have hpl : (Sp.partsGo nn (Sp.innMid o) 1 (((x :: t).take 5).drop 1)).length ≤ 5 := by
          have h := Sp.partsGo_len nn (Sp.innMid o) 1 (((x :: t).take 5).drop 1)
          rw [if_pos (Nat.le_refl 1)] at h
          have h2 : (((x :: t).take 5).drop 1).length ≤ 4 := by rw [List.length_drop, List.length_take]; omega
          omega
        have HF3 := Lib.hid hF
        clear hF hwi hkk w0 w1 hdt hz0 hrn hxw
        go_upto_block 4 with (first | (go_at_call 23; refine (HWI.out _).mono ?_; rintro e w' ⟨rfl, rfl⟩))
        refine made_syms wo B0 nn ko n b off b3 off3 rn cr sc inn icp ia (x :: t) o _ _ _ _ _ _ _ _ _ _ _ _ _ _ _ _ _ _ _ _ _ _ _ _ _ _ _ _ _ _ _ _ _ _ _ _ _ _ _ _ _ _ _ _ _ _ _ _ _ _ _ _ _ _ _ _ _ _ _ _ _ _ _ _ _ _ _ _ _ _ _ _ _ _ _ _ _ _ _ _ _ _ _ _ _ _ _ _ _ _ _ _ _ _ _ _ _ _ _ _ _ _ _ _ _ _ _ _ _ _ _ _ _ _ _ _ _ _ _ _ _ _ _ _ _ _ _ _ _ _ _ _ _ _ _ _ _ _ _ _ _ _ _ _ _ _ _ _ _ _ _ _ _ _ _ _ _ _ _ _ _ _ _ _ _ _ _ _ _ _ _ _ _ _ _ _ _ _ _ _ _ _ _ _ _ _ _ _ _ _ _ _ _ _ _ _ _ _ _ _ _ _ _ _ _ _ _ _ _ _ _ _ _ hn1 hn4 HRN.out hrn1 (by omega) HRWF.out hks hn63 hinn63 (by omega) (by omega) (by omega) (fun w' h => ⟨(HX.out w' (HB.out.trans (h.mono (by omega)))).1, HRC.out w' (HB.out.trans (h.mono (by omega))), (HX.out w' (HB.out.trans (h.mono (by omega)))).2⟩) (fun w' h j y hj => HROW.out w' (HB.out.trans (h.mono (by omega))) j y hj) (HINO.out wo HB.out) (fun c t a w h => hQ c t a w h) ?_
        intro y11 y12 y64 y65 y66 y67 y68 y69 y70 y71 y72 y73 y74 y75 y76 y77 y78 y79 y80 y81 y82 y83 y84 y85 y86 y87 y88 y89 y90 y91 y92 y93 y94 y95 y96 y97 y98 y99 y100 y101 y102 y103 y104 y105 y106 y107 y108 y109 y110 y111 y112 y113 y114 y115 y116 y117 y118 y119 y120 y121 y122 y123 y124 y125 y126 y127 y128 wx v hD hown hbel
        dsimp only
        generalize Sp.partsGo nn (Sp.innMid o) 1 (((x :: t).take 5).drop 1) = PP at *
        generalize (((x :: t).take 5).drop 1 |>.all fun x => Sp.plainSym (Sp.symOf x nn)) = FF at *
        obtain ⟨va, vcc, rfl⟩ := ownsRowS_some hown
        have hbx : Below g5 wm wx := HB.out.trans (hbel.mono (by omega))
        obtain ⟨x1', x3'⟩ := HX.out _ hbx
        have HIO := Lib.hid (HINO.out wx hbx)
        have HDx := Lib.hid hD; have HOx := Lib.hid hown; have HBx := Lib.hid hbel
        have e0 := cell_at (i := 0) hD; have g0 := frozen_at (i := 0) hD
        have hlgx := lt_at hD
        have hszx : wo.heap.size ≤ wx.heap.size := hbel.size
        have hlBx : B0 < wx.heap.size := by omega
        clear x1 x3 y0 z0 hD hown hbel hbx hlB0 hlb
        go_upto_region 23 with fail
        go_cut [142] from 37 to 172 (fun v142 wc => v142 = .bool (Sp.innEnd o) ∧ wx = wc)
        case first =>
          rcases HIO.out with ⟨rfl, hie⟩ | ⟨v, bi, offi, rfl, rfl, hii, hbi, hvw, hcv⟩
          · have hii : decide (ko < inn) = false := by rw [decide_eq_false_iff_not]; omega
            have hii2 : ¬ ko < inn := by omega
            go_wp2_with fail
            go_meet
            exact ⟨rfl, rfl⟩
          · have cv := hcv _ (Below.refl _ _)
            have hii1 : (ko : Int) < (inn : Int) := by omega
            have HV : Hid (Sp.innEnd (some v) = (v.tmod 2 != 0)) := Lib.hid rfl
            clear HIO
            go_wp2_with fail
            go_meet
            exact ⟨by rw [HV.out], rfl⟩
        case rest =>
          obtain ⟨rfl, rfl⟩ := hcut
          go_upto_if 142 with fail
          go_cut [] from 37 to 172 (fun wc => ∃ v, wc.heap[wo.heap.size]? = some (.cells #[v, .string ⟨#[]⟩, .bool false, .int .i64 0, .int .i64 0, .int .i64 0] 49 (0, 0)) ∧ wc.ownsRow (wo.heap.size + 1) 46 6 v (PP ++ (if Sp.innEnd o = true then [(⟨Sp.noSym, Sp.codeEnd, 0⟩ : Sp.Part)] else [])).length ((PP ++ (if Sp.innEnd o = true then [(⟨Sp.noSym, Sp.codeEnd, 0⟩ : Sp.Part)] else [])).map partC).flatten ∧ Below wo.heap.size wo wc)
          case first =>
            cases hie : Sp.innEnd o with
            | false =>
              go_wp2_with fail
              go_meet
              exact ⟨_, HDx.out, by rw [if_neg (by rw [hie]; decide), List.append_nil]; exact HOx.out, HBx.out⟩
            | true =>
              go_upto_region 24 with fail
              go_wp2_with (at_builtin; refine wpList_append_lies _ rfl _ _ _ rfl (wo.heap.size + 1) 46 ip0 _ 6 64 Tryd.underlying47 hip0 hpz0 hpz1 hpz2 rfl (by decide) _ _ _ rfl (HOx.out.alloc _) ⟨wx.heap.size, 0, none⟩ 1 1 (partC ⟨Sp.noSym, Sp.codeEnd, 0⟩) rfl rfl ?c1A ?c2A (by decide) ?c3A ?c4A ?c5A _ rfl ?_)
              case c1A => exact World.news_of_block (cs := (partC ⟨Sp.noSym, Sp.codeEnd, 0⟩).toArray) (t := 46) (fr := (0, 0)) (heap_last wx _)
              case c2A => simp [Value.oneCell', partC, symC, Sp.noSym]
              case c3A => unfold maxLen; omega
              case c4A => omega
              case c5A => simp only [World.size_alloc]; omega
              intro gg2 cap2 w7 hown1 hgrow hat hlt
              have hB7 := ((Below.refl (wo.heap.size + 1) wx).alloc (by omega) (.cells (partC ⟨Sp.noSym, Sp.codeEnd, 0⟩).toArray 46)).grown hgrow (by simp only [World.size_alloc]; omega) (fun g' hg' => (HOx.out.lt g' hg').1)
              have hD7 := (hB7.block wo.heap.size (by omega)).trans HDx.out
              have v0 := cell_at (i := 0) hD7; have v1 := frozen_at (i := 0) hD7
              have hlg7 := lt_at hD7
              have HD7 := Lib.hid hD7; have HB7 := Lib.hid hB7; have HO7 := Lib.hid hown1
              clear hB7 hD7 hown1 hgrow hat e0 g0
              go_wp2_with fail
              go_meet
              refine ⟨_, heap_setCell_at HD7.out, ?_, (HBx.out.trans (HB7.out.mono (by omega))).setCell (p := ⟨wo.heap.size, 0, none⟩) (Nat.le_refl _) _⟩
              rw [if_pos hie, List.length_append, List.map_append, List.flatten_append]
              have e : (List.map partC [(⟨Sp.noSym, Sp.codeEnd, 0⟩ : Sp.Part)]).flatten = partC ⟨Sp.noSym, Sp.codeEnd, 0⟩ := by simp
              rw [e]
              exact ownsRow_setCell_ne HO7.out HD7.out (by decide) _
          case rest =>
            obtain ⟨v, hD, hown, hbel⟩ := hcut
            clear e0 g0 x1' x3' HIO HDx HOx HBx hlgx hszx hlBx
            generalize PP ++ (if Sp.innEnd o = true then [(⟨Sp.noSym, Sp.codeEnd, 0⟩ : Sp.Part)] else []) = PS at *
            obtain ⟨va, vcc, rfl⟩ := ownsRowS_some hown
            obtain ⟨wy, hwy⟩ : ∃ wy : World, wy = wc := ⟨_, rfl⟩
            subst hwy
            have hszy : wo.heap.size ≤ wy.heap.size := hbel.size
            have hhy := (hbel.block g5 (by omega)).trans HH.out
            have hkh : kk < hs.length := by have := HHS.out; omega
            have hhk : hs[kk]? = some hs[kk] := List.getElem?_eq_getElem hkh
            have hgd : hs.getD kk false = hs[kk] := by rw [List.getD_eq_getElem?_getD, hhk]; rfl
            have hF := HF3.out
            rw [hgd] at hF
            generalize hs[kk] = hb0 at *
            have c5 : wy.cell? ⟨g5, kk, none⟩ = some (.bool hb0) := by
              simp only [World.cell?, hhy, bind, Option.bind]
              simp [hhk]
            have f5 : wy.frozen? ⟨g5, kk, none⟩ = false := frozen_at (i := kk) hhy
            have hlg5 := lt_at hhy
            have hkk1 : (kk : Int) < (nn : Int) := by omega
            have hkk0 : (0 : Int) ≤ (kk : Int) := Int.natCast_nonneg _
            have HHY := Lib.hid hhy; have HDY := Lib.hid hD; have HOY := Lib.hid hown; have HBY := Lib.hid hbel; have HF4 := Lib.hid hF
            clear hhy hkh hhk hgd hF hD hown hbel HF3
            go_upto_region 25 with fail
            go_cut [] from 37 to 172 (fun wc => wy.setCell ⟨g5, kk, none⟩ (.bool (hb0 || FF)) = wc)
            case first =>
              cases hb0 with
              | true => go_wp2_with fail; go_meet; rfl
              | false => go_wp2_with fail; go_meet; rw [Bool.false_or]
            case rest =>
              subst hcut
              have hsetb : ∀ u, KpT (· ≠ 4) wy (wy.setCell ⟨g5, kk, none⟩ u) := fun u => KpT.setCell (fun _ _ _ _ h _ => h) HHY.out (by simp) u
              obtain ⟨wz, hwz⟩ : ∃ wz, wz = wy.setCell ⟨g5, kk, none⟩ (.bool (hb0 || FF)) := ⟨_, rfl⟩
              have kz : KpT (· ≠ 4) wo wz := by rw [hwz]; exact (KpT.below HBY.out).trans (hsetb _)
              have HKZ := Lib.hid kz
              have hSz := kz g4 _ _ _ HS.out (by decide)
              have hgz : wz.heap[wo.heap.size]? = some (.cells #[.slice va PS.length vcc, .string ⟨#[]⟩, .bool false, .int .i64 0, .int .i64 0, .int .i64 0] 49 (0, 0)) := by rw [hwz]; exact hsetb _ _ _ _ _ HDY.out (by decide)
              have hoz : wz.ownsRow (wo.heap.size + 1) 46 6 (.slice va PS.length vcc) PS.length (PS.map partC).flatten := by rw [hwz]; exact ownsRow_setCell_ne HOY.out HHY.out (by decide) _
              have hhz : wz.heap[g5]? = some (.cells ((hs.set kk (hb0 || FF)).map Value.bool).toArray 4 (0, 0)) := by
                rw [hwz, heap_setCell_at HHY.out]
                simp [List.map_set]
              have hbz : Below g5 wm wz := by rw [hwz]; exact (HB.out.trans (HBY.out.mono (by omega))).setCell (p := ⟨g5, kk, none⟩) (Nat.le_refl _) _
              have hszz : wo.heap.size < wz.heap.size := lt_at hgz
              rw [← hwz]
              obtain ⟨f, h1, h2, h3⟩ := HRD.out
              rw [HLEN.out] at h1
              have hkr : kk < RC.length := by have := HLEN.out; omega
              have hrk := List.getElem?_eq_getElem hkr
              have hsmr := HSM2.out _ (List.getElem_mem hkr)
              generalize RC[kk] = r at *
              have hfb := altsOwnB_lt (h2 kk r hrk)
              have h1z := ownsRow_kpT h1 kz (by decide)
              have h2z : ∀ (i : Nat) (r : Sp.Rule), RC[i]? = some r → altsOwnB B wz (f i) r := fun i r hi => altsOwnB_kp kz (by decide) (by decide) (h2 i r hi)
              obtain ⟨f', ha1, ha2⟩ := h2z kk r hrk
              obtain ⟨ua, uc, hfm⟩ := ownsRowS_some ha1
              have HFM := Lib.hid hfm; have HA1 := Lib.hid ha1; have HA2 := Lib.hid ha2; have HRK := Lib.hid hrk
              have hc1 := rules_cell h1z hrk hkkn
              rw [hfm] at hc1 ha1 hfb
              obtain ⟨c1, c2⟩ := hc1
              generalize hus : r.alts.length = us at *
              have HUS := Lib.hid hus
              have hlr : gr < wz.heap.size := (h1z.lt gr rfl).2
              have hl4 : g4 < wz.heap.size := by omega
              have HO := Lib.hid h1z; have HC := Lib.hid h2z; have HD3 := Lib.hid h3; have HFB := Lib.hid (fun c hc => (hfb c hc).2)
              have HSz := Lib.hid hSz; have HDZ := Lib.hid hgz; have HOZ := Lib.hid hoz; have HHZ := Lib.hid hhz; have HBZ := Lib.hid hbz; have HOW := Lib.hid ha1; have HCC := Lib.hid (And.intro c1 c2)
              have HKS := Lib.hid (fun (w' : World) (h : Below wz.heap.size wz w') => (show ((w'.cell? ⟨g4, 2, none⟩ = some (.slice (some ⟨gr, 0, none⟩) nn vc) ∧ w'.cell? ⟨gr, kk * 3 + 1, none⟩ = some (.slice ua us uc) ∧ w'.frozen? ⟨gr, kk * 3 + 1, none⟩ = false) ∧ w'.cell? ⟨wo.heap.size, 0, none⟩ = some (.slice va PS.length vcc) ∧ w'.cell? ⟨wo.heap.size, 1, none⟩ = some (.string ⟨#[]⟩) ∧ w'.cell? ⟨wo.heap.size, 2, none⟩ = some (.bool false) ∧ w'.cell? ⟨wo.heap.size, 3, none⟩ = some (.int .i64 0) ∧ w'.cell? ⟨wo.heap.size, 4, none⟩ = some (.int .i64 0) ∧ w'.cell? ⟨wo.heap.size, 5, none⟩ = some (.int .i64 0)) from by
                have hd := (h.block wo.heap.size hszz).trans HDZ.out
                exact ⟨⟨cell_at (i := 2) ((h.block g4 hl4).trans HSz.out), by rw [h.cell (p := ⟨gr, _, none⟩) hlr]; exact HCC.out.1, by rw [World.frozen?_of_block (h.block gr hlr)]; exact HCC.out.2⟩, cell_at (i := 0) hd, cell_at (i := 1) hd, cell_at (i := 2) hd, cell_at (i := 3) hd, cell_at (i := 4) hd, cell_at (i := 5) hd⟩))
              clear hsetb hwz kz hSz hgz hoz hhz hbz h1 h2 h3 h1z h2z ha1 ha2 hfm hrk hus c1 c2 c5 f5 hfb hkr
              go_upto_region 26 with fail
              refine wp_region_plan (fun w' : World => ((w'.cell? ⟨g4, 2, none⟩ = some (.slice (some ⟨gr, 0, none⟩) nn vc) ∧ w'.cell? ⟨gr, kk * 3 + 1, none⟩ = some (.slice ua us uc) ∧ w'.frozen? ⟨gr, kk * 3 + 1, none⟩ = false) ∧ w'.cell? ⟨wo.heap.size, 0, none⟩ = some (.slice va PS.length vcc) ∧ w'.cell? ⟨wo.heap.size, 1, none⟩ = some (.string ⟨#[]⟩) ∧ w'.cell? ⟨wo.heap.size, 2, none⟩ = some (.bool false) ∧ w'.cell? ⟨wo.heap.size, 3, none⟩ = some (.int .i64 0) ∧ w'.cell? ⟨wo.heap.size, 4, none⟩ = some (.int .i64 0) ∧ w'.cell? ⟨wo.heap.size, 5, none⟩ = some (.int .i64 0))) [14] (.take 0 (.take 1 (.take 2 (.take 3 (.take 4 (.take 5 (.take 6 (.take 7 (.take 8 (.take 9 (.one 10 (.one 11 (.one 12 (.one 13 (.one 14 (.done)))))))))))))))) (by kernel_rfl) (by kernel_rfl) (fun c t a w h => hQ c t a w h) ?_
              have hSw := HKS.out _ (below_drewN (Below.refl _ wz) 1)
              refine wpPlan_take (v := ?vp17) rfl hSw (by rfl) ?yp17 ?_
              case yp17 => (intro w hSx; (try dsimp only at hSx); go_simp; first | done | with_reducible rfl | rfl)
              (try simp only [Act.put, List.setIfInBounds_toArray, List.set_cons_zero, List.set_cons_succ])
              refine wpPlan_take (v := ?vp18) rfl hSw (by rfl) ?yp18 ?_
              case yp18 => (intro w hSx; (try dsimp only at hSx); go_simp; first | done | with_reducible rfl | rfl)
              (try simp only [Act.put, List.setIfInBounds_toArray, List.set_cons_zero, List.set_cons_succ])
              refine wpPlan_take (v := ?vp19) rfl hSw (by rfl) ?yp19 ?_
              case yp19 => (intro w hSx; (try dsimp only at hSx); go_simp; first | done | with_reducible rfl | rfl)
              (try simp only [Act.put, List.setIfInBounds_toArray, List.set_cons_zero, List.set_cons_succ])
              refine wpPlan_take (v := ?vp20) rfl hSw (by rfl) ?yp20 ?_
              case yp20 => (intro w hSx; (try dsimp only at hSx); go_simp; first | done | with_reducible rfl | rfl)
              (try simp only [Act.put, List.setIfInBounds_toArray, List.set_cons_zero, List.set_cons_succ])
              refine wpPlan_take (v := ?vp21) rfl hSw (by rfl) ?yp21 ?_
              case yp21 => (intro w hSx; (try dsimp only at hSx); go_simp; first | done | with_reducible rfl | rfl)
              (try simp only [Act.put, List.setIfInBounds_toArray, List.set_cons_zero, List.set_cons_succ])
              refine wpPlan_take (v := ?vp22) rfl hSw (by rfl) ?yp22 ?_
              case yp22 => (intro w hSx; (try dsimp only at hSx); go_simp; first | done | with_reducible rfl | rfl)
              (try simp only [Act.put, List.setIfInBounds_toArray, List.set_cons_zero, List.set_cons_succ])
              refine wpPlan_take (v := ?vp23) rfl hSw (by rfl) ?yp23 ?_
              case yp23 => (intro w hSx; (try dsimp only at hSx); go_simp; first | done | with_reducible rfl | rfl)
              (try simp only [Act.put, List.setIfInBounds_toArray, List.set_cons_zero, List.set_cons_succ])
              refine wpPlan_take (v := ?vp24) rfl hSw (by rfl) ?yp24 ?_
              case yp24 => (intro w hSx; (try dsimp only at hSx); go_simp; first | done | with_reducible rfl | rfl)
              (try simp only [Act.put, List.setIfInBounds_toArray, List.set_cons_zero, List.set_cons_succ])
              refine wpPlan_take (v := ?vp25) rfl hSw (by rfl) ?yp25 ?_
              case yp25 => (intro w hSx; (try dsimp only at hSx); go_simp; first | done | with_reducible rfl | rfl)
              (try simp only [Act.put, List.setIfInBounds_toArray, List.set_cons_zero, List.set_cons_succ])
              refine wpPlan_take (v := ?vp26) rfl hSw (by rfl) ?yp26 ?_
              case yp26 => (intro w hSx; (try dsimp only at hSx); go_simp; first | done | with_reducible rfl | rfl)
              (try simp only [Act.put, List.setIfInBounds_toArray, List.set_cons_zero, List.set_cons_succ])
              refine wpPlan_run rfl (by rfl) (fun K' hK => ?_)
              go_simp
              refine hK _ _ (.inr ?_) ?_
              · exact HKS.out _ ((below_undrew (Below.refl _ _)).alloc (Nat.le_refl _) _)
              clear hK K' hSw
              (try simp only [Act.put, List.setIfInBounds_toArray, List.set_cons_zero, List.set_cons_succ])
              refine wpPlan_run rfl (by rfl) (fun K' hK => ?_)
              (refine wp_append_lies _ _ _ _ (by rfl) B 49 ia0 _ 6 72 Tryd.underlying50 hia0 haz0 haz1 haz2 rfl (by omega) _ _ _ (by rfl) (HOW.out.alloc _) ⟨wz.heap.size, 0, none⟩ 1 1 (altC (.slice va PS.length vcc) ⟨PS, Sp.noSym, 0⟩) (by rfl) (by rfl) (World.news_of_block (cs := (altC (.slice va PS.length vcc) ⟨PS, Sp.noSym, 0⟩).toArray) (t := 49) (fr := (0, 0)) (heap_last wz _)) (by simp [Value.oneCell', altC, symC, Sp.noSym]) (by omega) (by unfold maxLen; omega) (by omega) (by show B ≤ (wz.alloc _).heap.size; simp only [World.size_alloc]; omega) (wz.heap.size + 1) (by simp) ?_; intro gg cap2 w5 hown1 hgrow hat hlt; replace hgrow : (wz.alloc (.cells (altC (.slice va PS.length vcc) ⟨PS, Sp.noSym, 0⟩).toArray 49)).grownBy w5 (Value.slice ua us uc).ownBlock := ⟨hgrow.os, hgrow.tape, hgrow.output, hgrow.size, hgrow.block⟩; have hk5 : KpT (· ≠ 49) wz w5 := (KpT.below ((Below.refl _ wz).alloc (Nat.le_refl _) _)).trans (KpT.grown (HOW.out.alloc _) hgrow); have hS5 := hk5 g4 _ _ _ HSz.out (by decide); have v0 := cell_at (i := 2) hS5; have hr5 := ownsRow_kpT HO.out hk5 (by decide); have v1 := rules_cell hr5 HRK.out (by omega); rw [HFM.out] at v1; have hlr5 : gr < w5.heap.size := (hr5.lt gr rfl).2; have hlg5 := lt_at hS5; have hga5 := (hgrow.block wo.heap.size (by simp only [World.size_alloc]; omega) (fun e => by have := HFB.out wo.heap.size e.symm; omega)).trans ((Below.heap_alloc _ _ _ (by omega)).trans HDZ.out); have q0 := cell_at (i := 0) hga5; have q1 := cell_at (i := 1) hga5; have q2 := cell_at (i := 2) hga5; have q3 := cell_at (i := 3) hga5; have q4 := cell_at (i := 4) hga5; have q5 := cell_at (i := 5) hga5)
              refine hK _ _ (.inr ?_) ?_
              · exact ⟨⟨v0, v1⟩, q0, q1, q2, q3, q4, q5⟩
              clear hK K'
              (try simp only [Act.put, List.setIfInBounds_toArray, List.set_cons_zero, List.set_cons_succ])
              refine wpPlan_run rfl (by rfl) (fun K' hK => ?_)
              go_simp
              refine hK _ _ (.inr ?_) ?_
              · exact ⟨⟨v0, v1⟩, q0, q1, q2, q3, q4, q5⟩
              clear hK K'
              (try simp only [Act.put, List.setIfInBounds_toArray, List.set_cons_zero, List.set_cons_succ])
              refine wpPlan_run rfl (by rfl) (fun K' hK => ?_)
              go_simp
              refine hK _ _ (.inr ?_) ?_
              · exact ⟨⟨v0, v1⟩, q0, q1, q2, q3, q4, q5⟩
              clear hK K'
              (try simp only [Act.put, List.setIfInBounds_toArray, List.set_cons_zero, List.set_cons_succ])
              refine wpPlan_run rfl (by rfl) (fun K' hK => ?_)
              go_simp
              refine hK _ _ (.inl rfl) ?_
              clear hK K'
              (try simp only [Act.put, List.setIfInBounds_toArray, List.set_cons_zero, List.set_cons_succ])
              refine wpPlan_done ?_
              have HG := Lib.hid hgrow; have HAT := Lib.hid hat; have HO1 := Lib.hid hown1; have HK5 := Lib.hid hk5; have HR5 := Lib.hid hr5; have HS5 := Lib.hid hS5
              clear hgrow hat hown1 hk5 hr5 hS5 v0 v1 hga5 q0 q1 q2 q3 q4 q5
              go_wp2_with fail
              go_roundg (9 - (ko + 1))
              case measure => omega
              case rel =>
                have HBW : Below wz.heap.size wz (wz.alloc (.cells (altC (.slice va PS.length vcc) ⟨PS, Sp.noSym, 0⟩).toArray 49)) := (Below.refl _ _).alloc (Nat.le_refl _) _
                have h := rulesD_add (k := kk) (a := ⟨PS, Sp.noSym, 0⟩) (H := wz.heap.size + 1) HO.out HLEN.out HC.out HD3.out HRK.out (by rw [HUS.out]; exact HA1.out) HA2.out HBW ⟨wo.heap.size + 1, HOZ.out.alloc _⟩ (by rw [HFM.out]; exact HG.out) (by rw [HUS.out]; exact HO1.out) (by rw [HFM.out]; exact HAT.out) (by omega)
                rw [HUS.out] at h
                obtain ⟨cu, hgb⟩ := row_block HR5.out
                have hset : ∀ u, KpT (· ≠ 52) w5 (w5.setCell ⟨gr, kk * 3 + 1, none⟩ u) := fun u => KpT.setCell (fun _ _ _ _ h _ => h) hgb (by simp) u
                refine ⟨ko + 1, _, _, by omega, by omega, rfl, by go_num, hset _ g4 _ _ _ HS5.out (by decide), declsD_kp (hset _) (by decide) (by decide) (h := ?dd), h, by rw [List.length_set]; exact HLEN.out, by rw [List.length_set]; exact HHS.out, hset _ g5 _ _ _ (HK5.out g5 _ _ _ HHZ.out (by decide)) (by decide), ?_, ?_, ?_⟩
                case dd => exact declsD_kp (declsD_kp HDD.out HKZ.out (by decide) (by decide)) HK5.out (by decide) (by decide)
                · rw [← HF4.out, Sp.addAlt_set _ kk RC r HRK.out]
                · intro e he
                  rcases List.mem_or_eq_of_mem_set he with he | rfl
                  · have := HSM2.out e he; omega
                  · show (r.alts ++ [_]).length ≤ ko + 1
                    have := HUS.out
                    rw [List.length_append]; simp only [List.length_cons, List.length_nil]; omega
                · exact ((HBZ.out.trans (HBW.mono (by omega))).grown HG.out (by simp only [World.size_alloc]; omega) (fun g' hg' => by have := (HOW.out.lt g' hg').1; omega)).setCell (p := ⟨gr, _, none⟩) (by have := (HO.out.lt gr rfl).1; show g5 ≤ gr; omega) _
    · have hfin : (rows.take 9).drop ko = [] := by
        rw [List.drop_eq_nil_iff, List.length_take]
        have := HNR.out; omega
      have hFe : (RC, hs) = F := by have h := HF2.out; rw [hfin] at h; exact h
      have HFE := Lib.hid hFe
      clear hfin hFe
      by_cases hks : ko < n
      · have hkN : decide ((ko : Int) < 9) = false := by rw [decide_eq_false_iff_not]; omega
        have HKN := Lib.hid hkn
        clear hkn
        go_wp2_with fail
        exact (HKK.out _ _ _ _ _ _ _ _ _ _ _ _ _ _ _ _ _ _ _ _ _ _ _ _ _ _ _ _ _ _ _ _ _ _ _ _ _ _ _ _ _ _ _ _ _ _ _ _ _ _ _ _ _ _ _ _ _ _ _ _ _ _ _ _ _ _ _ _ _ _ _ _ _ _ _ _ _ _ _ _ _ _ _ _ _ _ _ _ _ _ _ _ _ _ _ _ _ _ _ _ _ _ _ _ _ _ _ _ _ _ _ _ _ _ _ _ _ _ _ _ _ _ _ _ _ _ _ _ _ _ _ _ _ _ _ _ _ _ _ _ _ _ wo RC hs HFE.out HS.out HDD.out HRD.out HLEN.out HHS.out HH.out (fun r hr => by have := HSM2.out r hr; omega) HB.out : K _ _)
      · have hks' : decide (ko < n) = false := by rw [decide_eq_false_iff_not]; exact hks
        have HKN := Lib.hid hkn
        clear hkn hks
        go_wp2_with fail
        exact (HKK.out _ _ _ _ _ _ _ _ _ _ _ _ _ _ _ _ _ _ _ _ _ _ _ _ _ _ _ _ _ _ _ _ _ _ _ _ _ _ _ _ _ _ _ _ _ _ _ _ _ _ _ _ _ _ _ _ _ _ _ _ _ _ _ _ _ _ _ _ _ _ _ _ _ _ _ _ _ _ _ _ _ _ _ _ _ _ _ _ _ _ _ _ _ _ _ _ _ _ _ _ _ _ _ _ _ _ _ _ _ _ _ _ _ _ _ _ _ _ _ _ _ _ _ _ _ _ _ _ _ _ _ _ _ _ _ _ _ _ _ _ _ _ wo RC hs HFE.out HS.out HDD.out HRD.out HLEN.out HHS.out HH.out (fun r hr => by have := HSM2.out r hr; omega) HB.out : K _ _)
end Go.Proofs.YthmimcegiihcnaaDoor
