import Derived.Test.YtddnomjfcbplpaaGreatDoorZ25
namespace Go.Proofs.YtddnomjfcbplpaaGreatDoor
open Go.RowKit Go.Maps

theorem Sp.zAR (n : Nat) : ∀ (l : List Sp.Part) (k : Nat) (p : Sp.Prod) (inner : Nat) (s : Sp.Mk) (T : Nat), qA s inner T → qA (Sp.kH n k l (p, inner, s)).2.2 (Sp.kH n k l (p, inner, s)).2.1 (T + l.length) ∧ (Sp.kH n k l (p, inner, s)).2.2.lefts = s.lefts ∧ s.nons.length ≤ (Sp.kH n k l (p, inner, s)).2.2.nons.length
 | [], _, _, _, _, _, h => ⟨h, rfl, Nat.le_refl _⟩
 | w :: l, k, p, inner, s, T, h => by
  have e : T + (w :: l).length = T + 1 + l.length := by rw [List.length_cons]; omega
  rw [e]; by_cases hc : w.code = []
  ·rw [Sp.altGo_sym _ _ _ _ _ _ _ hc]
   exact Sp.zAR n l (k + 1) _ inner s (T + 1) h.up
  ·by_cases hk : k + 1 = n
   ·rw [Sp.altGo_last _ _ _ _ _ _ _ hc hk]
    exact Sp.zAR n l (k + 1) _ inner s (T + 1) h.up
   ·rw [Sp.altGo_inner _ _ _ _ _ _ _ hc hk]
    have h2 := Sp.zAR n l (k + 1) { p with right := p.right ++ [1000 + ((s.nons.length + 1 : Nat) : Int) - 1] } (inner + 1) { s with nons := s.nons ++ [⟨64 :: Lib.itoa ((inner + 1 : Nat) : Int), []⟩], prods := s.prods ++ [⟨((s.nons.length + 1 : Nat) : Int) - 1, [], -1, w.code, p.right, w.at_⟩] } (T + 1) (by
     unfold qA at h ⊢; simp only [List.length_append, List.length_cons, List.length_nil]
     omega)
    exact ⟨h2.1, h2.2.1, Nat.le_trans (by simp) h2.2.2⟩
theorem Sp.altMk_bound (left : Int) (a : Sp.Alt) (inner : Nat) (s : Sp.Mk) (T : Nat) (h : qA s inner T) (hp : 0 < s.nons.length) : qA (Sp.altMk left a inner s).2 (Sp.altMk left a inner s).1 (T + (a.parts.length + 1)) ∧ (Sp.altMk left a inner s).2.lefts = s.lefts ∧ 0 < (Sp.altMk left a inner s).2.nons.length := by
 obtain ⟨h1, h2, h3⟩ := Sp.zAR a.parts.length a.parts 0 ⟨left, [], -1, [], [], a.at_⟩ inner s T h; unfold Sp.altMk; simp only; refine ⟨?_, h2, Nat.lt_of_lt_of_le hp h3⟩; unfold qA at h1 ⊢; simp only [List.length_append, List.length_cons, List.length_nil]; omega
def ProdsPost (B m : Nat) (x : Sp.zM) (dv rv : Value) (W0 : World) (s' : Sp.Mk) (e : Ending) (w' : World) : Prop :=
 e = .returned (.tuple #[]) ∧ Below B W0 w' ∧ ∃ v', zS B w' m x s' v' 0 0 [] ∧ v'.dv = dv ∧ v'.rv = rv
def jW (k j : Nat) : Nat := 8001 + k * 16008000 + j * 4002
set_option maxRecDepth 100000 in
theorem roomAt_le {k j : Nat} (hk : k ≤ 4000) (hj : j ≤ 4000) : jW k j ≤ 2 ^ 38 := by
 have h1 : k * 16008000 ≤ 4000 * 16008000 := Nat.mul_le_mul_right _ hk; have h2 : j * 4002 ≤ 4000 * 4002 := Nat.mul_le_mul_right _ hj; have h3 : 8001 + 4000 * 16008000 + 4000 * 4002 ≤ 2 ^ 38 := by decide
 exact Nat.le_trans (Nat.add_le_add (Nat.add_le_add_left h1 _) h2) h3
theorem qA.mono {s : Sp.Mk} {i T T' : Nat} (h : qA s i T) (hT : T ≤ T') : qA s i T' := ⟨Nat.le_trans h.1 hT, Nat.le_trans h.2.1 hT, Nat.le_trans h.2.2 hT⟩
theorem roomAt_j {s : Sp.Mk} {i k j : Nat} {n : Nat} (hn : n ≤ 4001) (h : qA s i (jW k j + n)) : qA s i (jW k (j + 1)) := by
 refine h.mono ?_; have e : jW k (j + 1) = jW k j + 4002 := by unfold jW; rw [Nat.succ_mul, ← Nat.add_assoc]
 rw [e]; exact Nat.add_le_add_left (Nat.le_trans hn (by decide)) _
theorem roomAt_k {s : Sp.Mk} {i k j : Nat} (hj : j ≤ 4000) (h : qA s i (jW k j)) : qA s i (jW (k + 1) 0) := by
 refine h.mono ?_; unfold jW; rw [Nat.succ_mul, Nat.zero_mul, Nat.add_zero, ← Nat.add_assoc]; exact Nat.add_le_add_left (Nat.le_trans (Nat.mul_le_mul_right 4002 hj) (by decide)) _
set_option maxRecDepth 100000 in
set_option maxHeartbeats 12800000 in
theorem maker_prods {W0 W : World} {m : Nat} {x : Sp.zM} {s : Sp.Mk} {v : MkV} (h : zS W0.heap.size W m x s v 0 0 []) (hw : Below W0.heap.size W0 W) (hd : xA W0 v.rv x.rules) (hs : xN x) (hg : Gl W0) (hr0 : 0 < x.rules.length) (hp0 : s.prods = []) (hnl : s.nons.length = s.lefts.length + 1) (hl0 : s.lefts.length ≤ 8000) (hst0 : s.start.length ≤ 4000) :
  Calls Tryz.prog 41 #[.pointer (some ⟨m, 0, none⟩)] W (ProdsPost W0.heap.size m x v.dv v.rv W0 (Sp.kB x s)) := by
 obtain ⟨fst, hfst⟩ : ∃ fst : List UInt8, fst = if s.start = [] then (match x.rules with
  | [] => []
  | r :: _ => r.left) else s.start := ⟨_, rfl⟩
 obtain ⟨fi, hfi⟩ : ∃ fi : Nat, fi = (Sp.yO s.lefts fst).getD 0 := ⟨_, rfl⟩
 obtain ⟨RR, hRR⟩ : ∃ RR, RR = Sp.vW x.rules (0, { s with prods := [⟨0, [1000 + (fi : Int)], -1, [], [], 0⟩] }) := ⟨_, rfl⟩
 have hRE : Sp.kB x s = RR.2 := by
  rw [hRR, hfi, hfst]; unfold Sp.kB; rw [hp0]; rfl
 rw [hRE]; obtain ⟨f, hd1, hd2⟩ := hd; obtain ⟨da, dc, hdv⟩ := hd1.form; rw [List.length_mapIdx] at hdv; have hlen := hs.2.2.2.1; have hsm := hs.2.2.2.2.2
 obtain ⟨r0, rs0, hx0⟩ : ∃ r0 rs0, x.rules = r0 :: rs0 := by
  cases hx : x.rules with
  | nil => rw [hx] at hr0; simp at hr0
  | cons a l => exact ⟨a, l, rfl⟩
 have hfst2 : fst = if s.start = [] then r0.left else s.start := by rw [hfst, hx0]
 have hr00 : x.rules[0]? = some r0 := by rw [hx0]; rfl
 have hr0m : r0 ∈ x.rules := by rw [hx0]; simp
 have hfstl : fst.length ≤ maxLen := by
  have h1 := (hsm r0 hr0m).1; unfold maxLen; rw [hfst2]; split <;> omega
 clear hfst hRE; generalize hds : x.rules = rs at *
 obtain ⟨n, hn⟩ : ∃ n, n = rs.length := ⟨_, rfl⟩
 rw [← hn] at hdv hlen hr0; obtain ⟨dv, hdv1⟩ : ∃ dv, dv = v.dv := ⟨_, rfl⟩
 rw [← hdv1, hdv]; obtain ⟨bd0, od0, hda, hbd0, hcd0⟩ := (show SlAt W0 (.slice da n dc) 3 _ from hdv ▸ hd1).at (k := 0) (row := qT (f 0) r0) (by rw [List.getElem?_mapIdx, hr00]; rfl); subst hda; have hcells0 := hcd0 W hw; obtain ⟨lf0, al0, rp0⟩ := r0; have q0 := hcells0 0 _ rfl; simp only [Nat.add_zero, Nat.zero_mul] at q0; have hl0b : bd0 < W.heap.size := by have := hw.size; omega
 have hmkb := h.block; unfold zX at hmkb; rw [hdv] at hmkb; have c2 := zc 2 hmkb; have c13 := zc 13 hmkb; have hlm := zC hmkb; have HH := zh h; have HW := zh hw; have HD1 := zh (show SlAt W0 (.slice (some ⟨bd0, od0, none⟩) n dc) 3 _ from hdv ▸ hd1); have HD2 := zh hd2; have HSM := zh hsm; have HN := zh hn; have HGL := zh hg; have HDV1 := zh hdv1; have HRV := zh hdv; have HR := zh hRR; have HFI := zh hfi; have HFST := zh hfst2; have HP0 := zh hp0; have HNL := zh hnl; have hfi8 : fi ≤ 8000 := by rw [hfi]; exact Nat.le_trans Sp.nonIx_getD hl0
 obtain ⟨kl2, hkl2⟩ := zBP hfstl; have hn0 : (0 : Int) < (n : Int) := by omega
 clear h hw hd1 hd2 hsm hn hg hdv1 hdv hRR hfi hfst2 hp0 hnl hr00 hr0m hx0 hds hcells0 hcd0 hmkb hs; go_enter Tryz.func41, Tryz.ntmps41
 go_upto_if 20 with fail
 go_cut [2] (fun c wx => c = .string ⟨fst.toArray⟩ ∧ W = wx)
 case first =>
  generalize hst : s.start = st at *
  cases st with
  | nil =>
   have E : Hid (fst = lf0) := zh (by rw [HFST.out]; simp); clear hst; go_wp2_with fail; go_meet; exact ⟨by rw [E.out], rfl⟩
  | cons a0 A0 =>
   have E : Hid (fst = a0 :: A0) := zh (by rw [HFST.out]; simp); clear hst; go_wp2_with fail; go_meet; exact ⟨by rw [E.out], rfl⟩
 case rest =>
  obtain ⟨rfl, rfl⟩ := hcut; clear c2 c13 q0 hl0b; obtain ⟨w2, hw2⟩ : ∃ w2 : World, w2 = W := ⟨_, rfl⟩
  obtain ⟨fo, go, hpo, hpc⟩ := HH.out.prods; obtain ⟨qa0, qc0, hpv⟩ := zJ hpo; rw [HP0.out] at hpv hpo; rw [hpv] at hpo; simp only [List.length_nil, List.mapIdx_nil, List.flatten_nil] at hpv hpo; rw [← hw2] at hpo; have HMK2 := zh (show zS W0.heap.size w2 m x s v 0 0 [] from hw2 ▸ HH.out); have HPO := zh hpo; have HPV := zh hpv; have HBW2 := zh (show Below W0.heap.size W0 w2 from hw2 ▸ HW.out); have hlm2 : m < w2.heap.size := zC HMK2.out.block
  have HSK := zh (fun (w' : World) (kp : Kp (fun b => (Value.slice qa0 0 qc0).ownBlock ≠ some b) w2 w') => (show ((w'.cell? ⟨m, 6, none⟩ = some (.slice qa0 0 qc0) ∧ w'.frozen? ⟨m, 6, none⟩ = false) ∧ w'.cell? ⟨m, 11, none⟩ = some (.map (some v.bn)) ∧ (Instr.lookup 96 (.map (some v.bn)) (.string ⟨fst.toArray⟩) false).run Tryz.prog w' = .ok (.int .i64 (fi : Int)) w') from by
   have hmk := HMK2.out.block; have h1 := kp.at hmk (fun e => zG HPO.out hmk (by decide) _ e rfl); unfold zX at h1; simp only [HPV.out] at h1; have hk := (HMK2.out.nmap.block (kp.block _ HMK2.out.nmap.lt (fun e => xR HPO.out HMK2.out.nmap.isMap _ e rfl))).look false vB Tryz.underlying96 (kQ w') hkl2; refine ⟨⟨zc 6 h1, zf 6 h1⟩, zc 11 h1, ?_⟩; rw [hk, HFI.out]; have e : nonL s.lefts (.string ⟨fst.toArray⟩) = (Sp.yO s.lefts fst).map fun (k : Nat) => Value.int .i64 (k : Int) := rfl
   rw [e]
   cases Sp.yO s.lefts fst <;> rfl))
  have hB2 : W0.heap.size ≤ w2.heap.size := HBW2.out.size; have HP3 : Hid (W0.heap.size ≤ ((w2.alloc (.cells #[.int .i64 (1000 + (fi : Int))] 3)).alloc (.cells #[.int .i64 0, .slice (some ⟨w2.heap.size, 0, none⟩) 1 1, .int .i64 (-1), .string ⟨#[]⟩, .slice none 0 0, .int .i64 0] 68)).heap.size) := zh (by simp only [World.size_alloc]; omega); have HWL : Hid (w2.heap.size ≤ ((w2.alloc (.cells #[.int .i64 (1000 + (fi : Int))] 3)).alloc (.cells #[.int .i64 0, .slice (some ⟨w2.heap.size, 0, none⟩) 1 1, .int .i64 (-1), .string ⟨#[]⟩, .slice none 0 0, .int .i64 0] 68)).heap.size) := zh (by simp only [World.size_alloc]; omega); obtain ⟨ip0, hip0, hpz0, hpz1, hpz2⟩ := info_parts info_prodE; have e1 : IntKind.i64.wrap (1000 + (fi : Int)) = 1000 + (fi : Int) := IntWalk.i64_in _ ⟨by omega, by omega⟩; have HW2 := zh hw2; clear hpo hpv hpc hw2 hlm; go_upto_region 3 with fail
  rw [← HW2.out]; refine zF (fun w' : World => ((w'.cell? ⟨m, 6, none⟩ = some (.slice qa0 0 qc0) ∧ w'.frozen? ⟨m, 6, none⟩ = false) ∧ w'.cell? ⟨m, 11, none⟩ = some (.map (some v.bn)) ∧ (Instr.lookup 96 (.map (some v.bn)) (.string ⟨fst.toArray⟩) false).run Tryz.prog w' = .ok (.int .i64 (fi : Int)) w')) [20] (.take 0 (.take 1 (.take 2 (.take 3 (.take 4 (.take 5 (.take 6 (.take 7 (.take 8 (.take 9 (.take 10 (.take 11 (.take 12 (.one 13 (.take 14 (.one 15 (.one 16 (.one 17 (.one 18 (.one 19 (.one 20 (.done)))))))))))))))))))))) (by kernel_rfl) (by kernel_rfl) (fun _ _ _ _ h => h) ?_; have hSw := HSK.out _ ((Kp.refl _ w2).drew); iterate 13 (refine zO (v := ?_) rfl rfl hSw (by rfl) ?_ ?_; rotate_left 1; (focus (intro w hSx; (try dsimp only at hSx); go_simp; try rfl)); (try simp only [Act.put, zq0, zq1, zq2]))
  refine zB rfl (by rfl) (fun K' hK => ?_); go_simp; refine hK _ _ (.inr (HSK.out _ (((Kp.refl _ w2).drew).alloc (.cells #[.int .i64 (1000 + (fi : Int))] 3)))) ?_; clear hK K' hSw; have hSw := HSK.out _ (((Kp.refl _ w2).drew).alloc (.cells #[.int .i64 (1000 + (fi : Int))] 3)); (try simp only [Act.put, zq0, zq1, zq2])
  (refine zO (v := ?_) rfl rfl hSw (by rfl) ?_ ?_; rotate_left 1; (focus (intro w hSx; (try dsimp only at hSx); go_simp; try rfl)); (try simp only [Act.put, zq0, zq1, zq2]))
  refine zB rfl (by rfl) (fun K' hK => ?_); go_simp; refine hK _ _ (.inr (HSK.out _ ((((Kp.refl _ w2).drew).alloc (.cells #[.int .i64 (1000 + (fi : Int))] 3)).alloc (.cells #[.int .i64 0, .slice (some ⟨w2.heap.size, 0, none⟩) 1 1, .int .i64 (-1), .string ⟨#[]⟩, .slice none 0 0, .int .i64 0] 68)))) ?_; clear hK K' hSw; (try simp only [Act.put, zq0, zq1, zq2]); refine zB rfl (by rfl) (fun K' hK => ?_)
  (refine wp_append_lies _ _ _ _ (by rfl) W0.heap.size 68 ip0 _ 6 88 Tryz.underlying37 hip0 hpz0 hpz1 hpz2 rfl (by decide) _ _ _ (by rfl) ((HPO.out.alloc _).alloc _) ⟨w2.heap.size + 1, 0, none⟩ 1 1 (xF (.slice (some ⟨w2.heap.size, 0, none⟩) 1 1) (.slice none 0 0) ⟨0, [1000 + (fi : Int)], -1, [], [], 0⟩) (by rfl) (by rfl) (World.news_of_block (cs := #[.int .i64 0, .slice (some ⟨w2.heap.size, 0, none⟩) 1 1, .int .i64 (-1), .string ⟨#[]⟩, .slice none 0 0, .int .i64 0]) (t := 68) (fr := (0, 0)) (xJ w2 _ _)) (by simp [Value.oneCell', xF]) (by decide) (by decide) (by decide) HP3.out _ rfl ?_; intro g2 c2 w8 hown2 hgrow2 hat2 hlt2; replace hgrow2 : ((w2.alloc (.cells #[.int .i64 (1000 + (fi : Int))] 3)).alloc (.cells #[.int .i64 0, .slice (some ⟨w2.heap.size, 0, none⟩) 1 1, .int .i64 (-1), .string ⟨#[]⟩, .slice none 0 0, .int .i64 0] 68)).grownBy w8 (Value.slice qa0 0 qc0).ownBlock := ⟨hgrow2.os, hgrow2.tape, hgrow2.output, hgrow2.size, hgrow2.block⟩; have hkr : Kp (fun b => (Value.slice qa0 0 qc0).ownBlock ≠ some b) (w2.alloc (.cells #[.int .i64 (1000 + (fi : Int))] 3)) w8 := (((Kp.refl _ (w2.alloc (.cells #[.int .i64 (1000 + (fi : Int))] 3))).alloc (.cells #[.int .i64 0, .slice (some ⟨w2.heap.size, 0, none⟩) 1 1, .int .i64 (-1), .string ⟨#[]⟩, .slice none 0 0, .int .i64 0] 68))).grown hgrow2 (fun k hk hs => hs hk); have hk8 : Kp (fun b => (Value.slice qa0 0 qc0).ownBlock ≠ some b) w2 w8 := (((Kp.refl _ w2).alloc (.cells #[.int .i64 (1000 + (fi : Int))] 3)).alloc (.cells #[.int .i64 0, .slice (some ⟨w2.heap.size, 0, none⟩) 1 1, .int .i64 (-1), .string ⟨#[]⟩, .slice none 0 0, .int .i64 0] 68)).grown hgrow2 (fun k hk hs => hs hk))
  refine hK _ _ (.inr (HSK.out _ hk8)) ?_; clear hK K'; (try simp only [Act.put, zq0, zq1, zq2]); iterate 2 (refine zB rfl (by rfl) (fun K' hK => ?_); go_simp; refine hK _ _ (.inr (HSK.out _ hk8)) ?_; clear hK K'; (try simp only [Act.put, zq0, zq1, zq2]))
  refine zB rfl (by rfl) (fun K' hK => ?_)
  (obtain ⟨⟨z1, z2⟩, _⟩ := HSK.out _ hk8; have hlz : m < w8.heap.size := Nat.lt_of_lt_of_le hlm2 hk8.size; go_simp)
  refine hK _ _ (.inr (HSK.out _ hk8)) ?_; clear hK K'; (try simp only [Act.put, zq0, zq1, zq2]); refine zB rfl (by rfl) (fun K' hK => ?_); go_simp; refine hK _ _ (.inl rfl) ?_; clear hK K'; (try simp only [Act.put, zq0, zq1, zq2]); refine zH ?_; clear e1; have hk8' : Kp (fun b => v.pv.ownBlock ≠ some b) w2 w8 := by rw [HPV.out]; exact hk8
  have hi1 : (w2.alloc (.cells #[.int .i64 (1000 + (fi : Int))] 3)).ownsRow 0 3 1 (.slice (some ⟨w2.heap.size, 0, none⟩) 1 1) 1 [.int .i64 (1000 + (fi : Int))] := World.ownsRow_lit (base := 0) (e := 3) (size := 1) w2 #[.int .i64 (1000 + (fi : Int))] 1 (Nat.zero_le _) (by decide) rfl
  have hi2 : w8.ownsRow 0 3 1 (.slice (some ⟨w2.heap.size, 0, none⟩) 1 1) 1 [.int .i64 (1000 + (fi : Int))] := zP hi1 hkr (fun b hb e => by
   have e1 : w2.heap.size = b := Option.some.inj hb; have := (HPO.out.lt b e).2
   omega)
  have hlt2 : ∀ c, v.pv.ownBlock = some c → c < w2.heap.size := fun c hc => (HPO.out.lt c (by rw [← HPV.out]; exact hc)).2
  have hp9 := zBV (w := w2) (l := s.prods) (f := fun _ => .bool false) (g := fun _ => .bool false) (S := fun c => v.pv.ownBlock ≠ some c) (T := fun b => v.pv.ownBlock ≠ some b) (p := ⟨0, [1000 + (fi : Int)], -1, [], [], 0⟩) (fun i p hp => by rw [HP0.out] at hp; simp at hp) hk8' (fun c h => h) (v' := .slice (some ⟨g2, 0, none⟩) (0 + 1) c2) (by rw [HP0.out]; exact hown2) ⟨0, hi2⟩ ⟨0, World.ownsRow_nil _ _ _ _⟩ (fun c hc e => by
   have e1 : w2.heap.size = c := Option.some.inj hc; have := hlt2 c e
   omega) (fun c hc => by simp [Value.ownBlock] at hc)
  have hbm5 := hk8'.at HMK2.out.block (fun e => zG HPO.out HMK2.out.block (by decide) _ (by rw [← HPV.out]; exact e) rfl); have hbm6 := hbm5; unfold zX at hbm6; have k9 : Kp (fun b => b ≠ m) w8 (w8.setCell ⟨m, 6, none⟩ (.slice (some ⟨g2, 0, none⟩) (0 + 1) c2)) := (Kp.refl _ w8).setCell (by simp) _; obtain ⟨f', g', hpo', _⟩ := hp9.own; have hp10 := (hp9.ne hbm5 (by decide)).kp k9 (fun b hb => zG hpo' hbm5 (by decide) b hb) (fun c hc => hc.2); have hfin := maker_prod HMK2.out ((hk8'.mono (fun b _ h => h.1)).setCell (p := ⟨m, 6, none⟩) (fun hn => hn.2 rfl) (.slice (some ⟨g2, 0, none⟩) (0 + 1) c2)) hp10.own (zA hbm6) (g1 := g2) rfl (hat2.imp (fun e => by rw [HPV.out]; exact e) (fun e => by rw [e]; exact HWL.out)); rw [HP0.out] at hfin; obtain ⟨w3, hw3⟩ : ∃ w3, w3 = w8.setCell ⟨m, 6, none⟩ (.slice (some ⟨g2, 0, none⟩) (0 + 1) c2) := ⟨_, rfl⟩
  have hB3 : Below W0.heap.size W0 w3 := by rw [hw3]; exact HBW2.out.trans (MkFr.belowB HMK2.out hfin.2)
  rw [← hw3] at hfin; obtain ⟨s3, hs3⟩ : ∃ s3 : Sp.Mk, s3 = { s with prods := [⟨0, [1000 + (fi : Int)], -1, [], [], 0⟩] } := ⟨_, rfl⟩
  have hR3 := HR.out; rw [← hs3] at hR3; have hm3 : zS W0.heap.size w3 m x s3 { v with pv := .slice (some ⟨g2, 0, none⟩) (0 + 1) c2 } 0 0 [] := by rw [hs3]; exact hfin.1
  obtain ⟨v3, hv3⟩ : ∃ v3 : MkV, v3 = { v with pv := .slice (some ⟨g2, 0, none⟩) (0 + 1) c2 } := ⟨_, rfl⟩
  have hv3d : v3.dv = dv ∧ v3.rv = .slice (some ⟨bd0, od0, none⟩) n dc := by rw [hv3]; exact ⟨HDV1.out.symm, HRV.out⟩
  rw [← hv3] at hm3
  have HAB : Hid (qA s3 0 (jW 0 0)) := zh (by
   have e : jW 0 0 = 8001 := rfl; rw [e, hs3]; refine ⟨?_, ?_, ?_⟩
   ·show s.nons.length ≤ 8001
    have := HNL.out; omega
   ·show 1 ≤ 8001
    decide
   ·decide)
  have HKE : Hid (s3.lefts = s.lefts ∧ s3.nons.length = s.nons.length) := zh (by rw [hs3]; exact ⟨rfl, rfl⟩); have HMK3 := zh hm3; have HB3 := zh hB3; have HR3 := zh hR3; have HVD := zh hv3d; have HW3 := zh hw3; have hmb := hm3.block; unfold zX at hmb; rw [hv3d.2] at hmb; have c2' := zc 2 hmb; have hlm3 := zC hmb; clear hk8' hi1 hi2 hlt2 hp9 hbm5 hbm6 k9 hpo' hp10 hfin hw3 hB3 hs3 hR3 hm3 hv3 hv3d hmb hk8 hkr hown2 hgrow2 hat2 HMK2 HPO HPV HSK hlm2 hB2; go_upto_region 5 with fail
  rw [← HW3.out]; go_wp2_with fail; clear c2' hlm3; go_loopg [3, 51] n (fun q iv3 iv wr => ∃ (k inner1 : Nat) (s1 : Sp.Mk) (v1 : MkV), k ≤ n ∧ q = n - k ∧ iv3 = .int .i64 inner1 ∧ iv = .int .i64 k ∧ zS W0.heap.size wr m x s1 v1 0 0 [] ∧ v1.dv = dv ∧ v1.rv = .slice (some ⟨bd0, od0, none⟩) n dc ∧ Below W0.heap.size W0 wr ∧ qA s1 inner1 (jW k 0) ∧ s1.lefts = s.lefts ∧ 0 < s1.nons.length ∧ Sp.vW (rs.drop k) (inner1, s1) = RR)
  case atStart => exact ⟨0, 0, s3, v3, Nat.zero_le _, rfl, rfl, rfl, HMK3.out, HVD.out.1, HVD.out.2, HB3.out, HAB.out, HKE.out.1, by rw [HKE.out.2, HNL.out]; omega, HR3.out.symm⟩
  case round =>
   clear HMK3 HB3 HR3 HAB HKE HVD; obtain ⟨k, inner1, s1, v1, hk, rfl, rfl, rfl, hmk, hdv, hrv, hbw, hab, hlf, hpos, hR⟩ := hrel; have HMK := zh hmk; have HDV2 := zh hdv; have HRV2 := zh hrv; have HBW := zh hbw; have HAB := zh hab; have HLF := zh hlf; have HPOS := zh hpos; have HRR := zh hR; have hk0 : (0 : Int) ≤ (k : Int) := Int.natCast_nonneg _; have hlm : m < wr.heap.size := zC hmk.block; clear hmk hdv hrv hbw hab hlf hpos hR; by_cases hkn : k < n
   ·have hk1 : (k : Int) < (n : Int) := by omega
    have hkd : k < rs.length := by have := HN.out; omega
    obtain ⟨⟨lf, al, rp⟩, hdk, hdr, hmem⟩ := qO hkd; have hsd := HSM.out _ hmem; have hR := HRR.out; rw [hdr] at hR; obtain ⟨fa, ha1, ha2⟩ := HD2.out k _ hdk; obtain ⟨aa, ac, hfk⟩ := ha1.form; rw [List.length_mapIdx] at hfk; obtain ⟨bd, od, hbe, hbd, hcd⟩ := HD1.out.at (k := k) (row := qT (f k) ⟨lf, al, rp⟩) (by rw [List.getElem?_mapIdx, hdk]; rfl); simp only [Option.some.injEq, Addr.mk.injEq, and_true] at hbe; obtain ⟨rfl, rfl⟩ := hbe; rw [hfk] at hcd ha1; have hcells := hcd wr HBW.out; simp only at ha1 ha2 hfk hcells; obtain ⟨na, hna⟩ : ∃ na, na = al.length := ⟨_, rfl⟩
    have hna4 : na ≤ 4000 := by have h := hsd.2.1; simp only at h; omega
    rw [← hna] at hcells ha1; have r0 := hcells 0 _ rfl; have r1 := hcells 1 _ rfl; have r2 := hcells 2 _ rfl; simp only [Nat.add_zero] at r0; have hlb : bd0 < wr.heap.size := by have := HBW.out.size; omega
    have hlfl : lf.length ≤ maxLen := by have h := hsd.1; unfold maxLen; simp only at h; omega
    obtain ⟨kl, hkl⟩ := zBP hlfl; obtain ⟨li, hli⟩ : ∃ li : Nat, li = (Sp.yO s.lefts lf).getD 0 := ⟨_, rfl⟩
    have HR1 : Hid (Sp.vW (rs.drop (k + 1)) (Sp.altsMk (li : Int) al (inner1, s1)) = RR) := zh (by rw [← hR, hli, ← HLF.out]; rfl); have HNA := zh hna; have HA1 := zh ha1; have HA2 := zh ha2; have HSD := zh hsd; have HLI := zh hli; clear hcells hcd hdr hdk hmem hR hfk ha1 ha2 hna hsd hli; obtain ⟨gd, hgd⟩ : ∃ gd, gd = wr.heap.size := ⟨_, rfl⟩
    obtain ⟨w2', hw2'⟩ : ∃ w2', w2' = wr.alloc (.cells #[.string ⟨lf.toArray⟩, .slice aa na ac, .int .i64 rp] 63) := ⟨_, rfl⟩
    have hbx : w2'.heap[gd]? = some (.cells #[.string ⟨lf.toArray⟩, .slice aa na ac, .int .i64 rp] 63 (0, 0)) := by rw [hw2', hgd]; exact zE wr _
    have hb12 : Below wr.heap.size wr w2' := by rw [hw2']; exact (Below.refl _ wr).alloc (Nat.le_refl _) _
    have HMK2 := zh (zU HMK.out hb12); have HBW2' := zh (HBW.out.trans (hb12.mono HBW.out.size)); have HBX := zh hbx; have HNB := zh (show ¬ yZ m v1 gd from fun hm => absurd (HMK.out.lt_own _ hm) (by omega)); have b1 := zc 1 hbx; have hlbx := zC hbx; go_upto_region 8 with fail
    rw [← hgd, ← hw2']; clear hgd hw2' hbx hb12 r0 r1 r2; go_wp2_with fail; clear b1 hlbx hlb hlm; go_loopg [3, 58] na (fun q iv3 iv wr => ∃ (j inner2 : Nat) (s2 : Sp.Mk) (v2 : MkV), j ≤ na ∧ q = na - j ∧ iv3 = .int .i64 inner2 ∧ iv = .int .i64 j ∧ zS W0.heap.size wr m x s2 v2 0 0 [] ∧ v2.dv = dv ∧ v2.rv = .slice (some ⟨bd0, od0, none⟩) n dc ∧ Below W0.heap.size W0 wr ∧ qA s2 inner2 (jW k j) ∧ s2.lefts = s.lefts ∧ 0 < s2.nons.length ∧ wr.heap[gd]? = some (.cells #[.string ⟨lf.toArray⟩, .slice aa na ac, .int .i64 rp] 63 (0, 0)) ∧ ¬ yZ m v2 gd ∧ Sp.vW (rs.drop (k + 1)) (Sp.altsMk (li : Int) (al.drop j) (inner2, s2)) = RR)
    case atStart => exact ⟨0, inner1, s1, v1, Nat.zero_le _, rfl, rfl, rfl, HMK2.out, HDV2.out, HRV2.out, HBW2'.out, HAB.out, HLF.out, HPOS.out, HBX.out, HNB.out, HR1.out⟩
    case round =>
     clear HMK2 HBW2' HBX HNB HR1 HMK HBW HAB HLF HPOS HRR HDV2 HRV2; obtain ⟨j, inner2, s2, v2, hj, rfl, rfl, rfl, hmk, hdv, hrv, hbw, hab, hlf, hpos, hbx, hnb, hR⟩ := hrel; have HMK := zh hmk; have HDV2 := zh hdv; have HRV2 := zh hrv; have HBW := zh hbw; have HAB := zh hab; have HLF := zh hlf; have HPOS := zh hpos; have HRR := zh hR; have HBX := zh hbx; have HNB := zh hnb; have hj0 : (0 : Int) ≤ (j : Int) := Int.natCast_nonneg _; have hlm : m < wr.heap.size := zC hmk.block; have hlgd : gd < wr.heap.size := zC hbx; clear hmk hdv hrv hbw hab hlf hpos hR hbx hnb; by_cases hjn : j < na
     ·have hj1 : (j : Int) < (na : Int) := by omega
      have hjd : j < al.length := by have := HNA.out; omega
      obtain ⟨⟨ps, ⟨qn, ql, qu, qa⟩, ap⟩, hdj, hdr, hmem⟩ := qO hjd; have hsa := HSD.out.2.2 _ hmem; have hR := HRR.out; rw [hdr] at hR; have hps := HA2.out j _ hdj; obtain ⟨pa, pc, hfj⟩ := hps.form; rw [List.length_map] at hfj; obtain ⟨ba, oa, rfl, hba, hcd⟩ := HA1.out.at (k := j) (row := altC (fa j) ⟨ps, ⟨qn, ql, qu, qa⟩, ap⟩) (by rw [List.getElem?_mapIdx, hdj]; rfl); rw [hfj] at hcd hps; have hcells := hcd wr HBW.out; simp only at hps hfj hcells; obtain ⟨np, hnp⟩ : ∃ np, np = ps.length := ⟨_, rfl⟩
      rw [← hnp] at hcells hps; have r0 := hcells 0 _ rfl; have r1 := hcells 1 _ rfl; have r2 := hcells 2 _ rfl; have r3 := hcells 3 _ rfl; have r4 := hcells 4 _ rfl; have r5 := hcells 5 _ rfl; simp only [Nat.add_zero] at r0; have hlb2 : ba < wr.heap.size := by have := HBW.out.size; omega
      obtain ⟨r, hr⟩ : ∃ r, r = Sp.altMk (li : Int) ⟨ps, ⟨qn, ql, qu, qa⟩, ap⟩ inner2 s2 := ⟨_, rfl⟩
      have HRE : Hid (Sp.vW (rs.drop (k + 1)) (Sp.altsMk (li : Int) (al.drop (j + 1)) r) = RR) := zh (by rw [hr]; exact hR); have hbd := Sp.altMk_bound (li : Int) ⟨ps, ⟨qn, ql, qu, qa⟩, ap⟩ inner2 s2 _ HAB.out HPOS.out; rw [← hr] at hbd; have HBD := zh hbd; have HRQ := zh hr; have HPS := zh hps; have HSA := zh hsa; clear hR hcells hcd hdr hdj hmem hfj hnp hr hbd hps hsa; obtain ⟨ge, hge⟩ : ∃ ge, ge = wr.heap.size := ⟨_, rfl⟩
      obtain ⟨w4, hw4⟩ : ∃ w4, w4 = wr.alloc (.cells #[.slice pa np pc, .string ⟨qn.toArray⟩, .bool ql, .int .i64 qu, .int .i64 qa, .int .i64 ap] 60) := ⟨_, rfl⟩
      have hbs4 : w4.heap[ge]? = some (.cells #[.slice pa np pc, .string ⟨qn.toArray⟩, .bool ql, .int .i64 qu, .int .i64 qa, .int .i64 ap] 60 (0, 0)) := by rw [hw4, hge]; exact zE wr _
      have hb14 : Below wr.heap.size wr w4 := by rw [hw4]; exact (Below.refl _ wr).alloc (Nat.le_refl _) _
      have HMK4 := zh (zU HMK.out hb14); have HBW4 := zh (HBW.out.trans (hb14.mono HBW.out.size)); have HBX4 := zh ((hb14.block gd hlgd).trans HBX.out); have HBS4 := zh hbs4; have hlm4 : m < w4.heap.size := zC HMK4.out.block; have hlg4 : gd < w4.heap.size := zC HBX4.out; have hle4 : ge < w4.heap.size := zC hbs4; clear hbs4 hb14
      have HSK := zh (fun (w' : World) (hb : Below w4.heap.size w4 w') => (show (w'.cell? ⟨m, 11, none⟩ = some (.map (some v2.bn)) ∧ w'.cell? ⟨gd, 0, none⟩ = some (.string ⟨lf.toArray⟩) ∧ (Instr.lookup 96 (.map (some v2.bn)) (.string ⟨lf.toArray⟩) false).run Tryz.prog w' = .ok (.int .i64 (li : Int)) w' ∧ w'.cell? ⟨ge, 0, none⟩ = some (.slice pa np pc) ∧ w'.cell? ⟨ge, 1, none⟩ = some (.string ⟨qn.toArray⟩) ∧ w'.cell? ⟨ge, 2, none⟩ = some (.bool ql) ∧ w'.cell? ⟨ge, 3, none⟩ = some (.int .i64 qu) ∧ w'.cell? ⟨ge, 4, none⟩ = some (.int .i64 qa) ∧ w'.cell? ⟨ge, 5, none⟩ = some (.int .i64 ap)) from by
       have h1 := (hb.block m hlm4).trans HMK4.out.block; have h2 := (hb.block gd hlg4).trans HBX4.out; have h3 := (hb.block ge hle4).trans HBS4.out; have hk := (HMK4.out.nmap.block (hb.block _ HMK4.out.nmap.lt)).look false vB Tryz.underlying96 (kQ w') hkl; refine ⟨zc 11 h1, zc 0 h2, ?_, zc 0 h3, zc 1 h3, zc 2 h3, zc 3 h3, zc 4 h3, zc 5 h3⟩; rw [hk, HLI.out, HLF.out]; have e : nonL s.lefts (.string ⟨lf.toArray⟩) = (Sp.yO s.lefts lf).map fun (k : Nat) => Value.int .i64 (k : Int) := rfl
       rw [e]
       cases Sp.yO s.lefts lf <;> rfl))
      have HAL := zh (fun (w' : World) (hb : Below w4.heap.size w4 w') => (show Calls Tryz.prog 68 #[.pointer (some ⟨m, 0, none⟩), .int .i64 (li : Int), .agg #[.slice pa np pc, .string ⟨qn.toArray⟩, .bool ql, .int .i64 qu, .int .i64 qa, .int .i64 ap], .int .i64 (inner2 : Int)] w' (fun e w'' => e = .returned (.int .i64 (r.1 : Int)) ∧ ∃ v', zS W0.heap.size w'' m x r.2 v' 0 0 [] ∧ MkFr m v2 v' w' w'' ∧ v'.dv = v2.dv ∧ v'.rv = v2.rv) from by
       rw [HRQ.out]
       exact maker_alt (W0 := W0) (li : Int) ⟨ps, ⟨qn, ql, qu, qa⟩, ap⟩ (.slice pa np pc) inner2 (jW k j) (zU HMK4.out hb) (HBW4.out.trans (hb.mono HBW4.out.size)) HPS.out HSA.out (by rw [HLF.out]; exact Nat.le_trans hl0 (by decide)) HGL.out (roomAt_le (by omega) (by omega)) HAB.out HPOS.out))
      go_upto_region 11 with fail
      rw [← hge, ← hw4]; clear hge hw4 r0 r1 r2 r3 r4 r5; refine zF (fun w' : World => (w'.cell? ⟨m, 11, none⟩ = some (.map (some v2.bn)) ∧ w'.cell? ⟨gd, 0, none⟩ = some (.string ⟨lf.toArray⟩) ∧ (Instr.lookup 96 (.map (some v2.bn)) (.string ⟨lf.toArray⟩) false).run Tryz.prog w' = .ok (.int .i64 (li : Int)) w' ∧ w'.cell? ⟨ge, 0, none⟩ = some (.slice pa np pc) ∧ w'.cell? ⟨ge, 1, none⟩ = some (.string ⟨qn.toArray⟩) ∧ w'.cell? ⟨ge, 2, none⟩ = some (.bool ql) ∧ w'.cell? ⟨ge, 3, none⟩ = some (.int .i64 qu) ∧ w'.cell? ⟨ge, 4, none⟩ = some (.int .i64 qa) ∧ w'.cell? ⟨ge, 5, none⟩ = some (.int .i64 ap))) [10, 11] (.take 0 (.take 1 (.take 2 (.take 3 (.take 4 (.take 5 (.take 6 (.take 7 (.take 8 (.take 9 (.one 10 (.one 11 (.done))))))))))))) (by kernel_rfl) (by kernel_rfl) (fun _ _ _ _ h => h) ?_; have hSw := HSK.out _ (below_drewN (Below.refl _ w4) 1); iterate 10 (refine zO (v := ?_) rfl rfl hSw (by rfl) ?_ ?_; rotate_left 1; (focus (intro w hSx; (try dsimp only at hSx); go_simp; try rfl)); (try simp only [Act.put, zq0, zq1, zq2]))
      refine zB rfl (by rfl) (fun K' hK => ?_)
      (go_simp; go_at_call 68; refine (HAL.out _ (by first | exact Below.refl _ _ | exact below_drewN (Below.refl _ w4) 1)).mono ?_; rintro e w5 ⟨rfl, v3, hmk5, hfr5, hq1, hq2⟩)
      refine hK _ _ (.inl rfl) ?_; clear hK K' hSw; (try simp only [Act.put, zq0, zq1, zq2]); refine zB rfl (by rfl) (fun K' hK => ?_); go_simp; refine hK _ _ (.inl rfl) ?_; clear hK K'; (try simp only [Act.put, zq0, zq1, zq2]); refine zH ?_; have hfr5 : MkFr m v2 v3 w4 w5 := ⟨⟨hfr5.kp.os, hfr5.kp.tape, hfr5.kp.output, hfr5.kp.size, hfr5.kp.block⟩, hfr5.new⟩
      have HBX5 := zh ((hfr5.kp.block gd hlg4 HNB.out).trans HBX4.out)
      have HNB5 := zh (show ¬ yZ m v3 gd from fun hm => by
       rcases hfr5.new gd hm with h1 | h1
       ·exact HNB.out h1
       ·omega)
      have HBW5 := zh (HBW4.out.trans (MkFr.belowB HMK4.out hfr5)); have HMK5 := zh hmk5; have HQ := zh (And.intro (hq1.trans HDV2.out) (hq2.trans HRV2.out)); have HAB5 : Hid (qA r.2 r.1 (jW k (j + 1))) := zh (roomAt_j (by have h := HSA.out.1; simp only at h ⊢; omega) HBD.out.1); have HLF5 : Hid (r.2.lefts = s.lefts) := zh (HBD.out.2.1.trans HLF.out); have HPOS5 := zh HBD.out.2.2; clear hmk5 hfr5 hq1 hq2; obtain ⟨ri, rsk⟩ := r; go_wp2_with fail; go_roundg (na - (j + 1))
      case measure => omega
      case rel => exact ⟨j + 1, ri, rsk, v3, by omega, rfl, rfl, by go_num, HMK5.out, HQ.out.1, HQ.out.2, HBW5.out, HAB5.out, HLF5.out, HPOS5.out, HBX5.out, HNB5.out, HRE.out⟩
     ·obtain rfl : na = j := by omega
      have hR := HRR.out; rw [show al.drop na = [] from List.drop_eq_nil_of_le (by rw [← HNA.out]; exact Nat.le_refl _)] at hR; have HE : Hid (Sp.vW (rs.drop (k + 1)) (inner2, s2) = RR) := zh hR; clear hR HRR; go_wp2_with fail; go_roundg (n - (k + 1))
      case measure => omega
      case rel => exact ⟨k + 1, inner2, s2, v2, by omega, rfl, rfl, by go_num, HMK.out, HDV2.out, HRV2.out, HBW.out, roomAt_k hna4 HAB.out, HLF.out, HPOS.out, HE.out⟩
   ·obtain rfl : n = k := by omega
    have hR := HRR.out; rw [List.drop_eq_nil_of_le (by rw [← HN.out]; exact Nat.le_refl _)] at hR; have HE : Hid (RR.2 = s1) := zh (by rw [← hR]; rfl); clear hR HRR; go_wp2_with fail; refine bodyPost_end (results_none rfl _ _ _) rfl ?_; rw [HE.out]; exact ⟨rfl, HBW.out, v1, HMK.out, HDV2.out, HRV2.out⟩


section
variable {P : Program} {ops : Array Oper} {Q : Exit → Act → World → Prop} {md : Region.Mode}
theorem ready_of_all {listed : Array Bool} (h : listed.toList.count false = 0) : Region.ready md ops listed = [] := by
 apply List.eq_nil_iff_forall_not_mem.2
 intro j hj; have h1 := (mem_ready.1 hj).1
 have hlt : j < listed.size := by
  apply Classical.byContradiction
  intro hn; rw [Array.getD_eq_getD_getElem?, Array.getElem?_eq_none (by omega)] at h1; cases h1
 have h2 : listed[j] = false := by
  rw [Array.getD_eq_getD_getElem?, Array.getElem?_eq_getElem hlt] at h1; exact h1
 have hm : false ∈ listed.toList := by
  rw [← h2]; exact Array.getElem_mem_toList hlt
 have := List.count_pos_iff.2 hm; omega
theorem count_set {listed : Array Bool} {i : Nat} (h : listed.getD i true = false) : (listed.setIfInBounds i true).toList.count false + 1 = listed.toList.count false := by
 have hlt : i < listed.size := by
  apply Classical.byContradiction
  intro hn; rw [Array.getD_eq_getD_getElem?, Array.getElem?_eq_none (by omega)] at h; cases h
 have h2 : listed[i] = false := by
  rw [Array.getD_eq_getD_getElem?, Array.getElem?_eq_getElem hlt] at h; exact h
 have hl : i < listed.toList.length := by simpa using hlt
 have h3 : listed.toList[i] = false := by simpa using h2
 have hp : 0 < listed.toList.count false := List.count_pos_iff.2 (by rw [← h3]; exact List.getElem_mem hl); rw [Array.toList_setIfInBounds, List.count_set hl, h3]; show List.count false listed.toList - 1 + 0 + 1 = List.count false listed.toList
 omega
theorem wpAny_inv (Inv : Array Bool → Act → World → Prop)
  (hstep : ∀ (listed : Array Bool) (a : Act) (w : World) (i : Nat), xL md ops listed → i ∈ Region.ready md ops listed → Inv listed a w → wpOp P ops Q i (fun a' w' => Inv (listed.setIfInBounds i true) a' w') a w)
  (hend : ∀ (listed : Array Bool) (a : Act) (w : World), xL md ops listed → Region.ready md ops listed = [] → Inv listed a w → Q .normal a w) :
  ∀ (fuel : Nat) (listed : Array Bool) (a : Act) (w : World), xL md ops listed → listed.toList.count false ≤ fuel → Inv listed a w → wpAny P md ops Q fuel listed a w
 | 0, listed, a, w, hcl, hc, hi => by
  have hr := ready_of_all (md := md) (ops := ops) (show listed.toList.count false = 0 by omega); exact ⟨hr, hend listed a w hcl hr hi⟩
 | fuel + 1, listed, a, w, hcl, hc, hi =>
  ⟨fun hr => hend listed a w hcl hr hi, fun i hm => wpOp_mono (fun a' w' h => wpAny_inv Inv hstep hend fuel _ a' w' (hcl.set hm) (by have := count_set (mem_ready.1 hm).1; omega) h) (hstep listed a w i hcl hm hi)⟩
theorem zDV (Inv : Array Bool → Act → World → Prop) {id : Nat} {a : Act} {w : World} (hm : P.follows .mixedOrders = true)
  (hstep : ∀ (listed : Array Bool) (a : Act) (w : World) (i : Nat), xL .any ops listed → i ∈ Region.ready .any ops listed → Inv listed a w → wpOp P ops Q i (fun a' w' => Inv (listed.setIfInBounds i true) a' w') a w)
  (hend : ∀ (listed : Array Bool) (a : Act) (w : World), xL .any ops listed → Region.ready .any ops listed = [] → Inv listed a w → Q .normal a w)
  (h0 : Inv (Array.replicate ops.size false) a w.drew) : (Code.region id ops true).wp P Q a w :=
 wp_region_any hm (wpAny_inv Inv hstep hend ops.size _ _ _ (xL.start _) (by simp) h0)
end
end Go.Proofs.YtddnomjfcbplpaaGreatDoor
