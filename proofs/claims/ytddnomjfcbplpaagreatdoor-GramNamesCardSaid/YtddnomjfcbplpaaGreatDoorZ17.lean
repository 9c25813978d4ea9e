import Derived.Test.YtddnomjfcbplpaaGreatDoorZ16
namespace Go.Proofs.YtddnomjfcbplpaaGreatDoor
open Go.RowKit Go.Maps

def yZ (m : Nat) (v : MkV) (b : Nat) : Prop := b = m ∨ v.tv.ownBlock = some b ∨ v.nv.ownBlock = some b ∨ v.pv.ownBlock = some b ∨ v.gv.ownBlock = some b ∨ b = v.bt ∨ b = v.bn ∨ b = v.by_
structure MkFr (m : Nat) (v v' : MkV) (W w' : World) : Prop where
 kp : Kp (fun b => ¬ yZ m v b) W w'
 new : ∀ b, yZ m v' b → yZ m v b ∨ W.heap.size ≤ b
theorem MkFr.trans {m : Nat} {v v1 v2 : MkV} {W w1 w2 : World} (h : MkFr m v v1 W w1) (k : MkFr m v1 v2 w1 w2) : MkFr m v v2 W w2 := by
 refine ⟨⟨k.kp.os.trans h.kp.os, k.kp.tape.trans h.kp.tape, k.kp.output.trans h.kp.output, Nat.le_trans h.kp.size k.kp.size, fun b hb hn => ?_⟩, fun b hb => ?_⟩
 ·refine (k.kp.block b (Nat.lt_of_lt_of_le hb h.kp.size) (fun h1 => ?_)).trans (h.kp.block b hb hn)
  rcases h.new b h1 with h2 | h2
  ·exact hn h2
  ·omega
 ·rcases k.new b hb with h1 | h1
  ·exact h.new b h1
  ·right; exact Nat.le_trans h.kp.size h1
theorem MkFr.below {m : Nat} (v : MkV) {W w' : World} (h : Below W.heap.size W w') : MkFr m v v W w' := ⟨Kp.of_below h (fun _ hk _ => hk), fun _ h => .inl h⟩
theorem zero_non (w : World) : (zeroValue 89).run Tryz.prog w = .ok (.agg #[.string ⟨#[]⟩, .string ⟨#[]⟩]) w := by kernel_rfl
theorem two_firstc {W w' : World} {c1 c2 : Array Value} {t1 t2 : TypeId} (h : Below (W.heap.size + 2) ((W.alloc (.cells c1 t1)).alloc (.cells c2 t2)) w') : w'.heap[W.heap.size]? = some (.cells c1 t1 (0, 0)) ∧ w'.heap[W.heap.size + 1]? = some (.cells c2 t2 (0, 0)) :=
 ⟨(h.block W.heap.size (by omega)).trans ((Below.heap_alloc _ _ _ (by simp)).trans (zE W _)), (h.block (W.heap.size + 1) (by omega)).trans (xJ W _ _)⟩
theorem xR {w : World} {B e size n : Nat} {v : Value} {xs : List Value} {b0 : Nat} (h : w.ownsRow B e size v n xs) (hm : ∃ es c, w.heap[b0]? = some (.map es c)) : ∀ b, v.ownBlock = some b → b ≠ b0 := by
 rintro b hb rfl; obtain ⟨es, c, hm⟩ := hm; rcases h.2 with ⟨rfl, _⟩ | ⟨g, cap, cur, rfl, _, hg, _⟩
 ·simp [Value.ownBlock] at hb
 ·simp only [Value.ownBlock, Option.some.injEq] at hb
  subst hb; rw [hg] at hm; cases hm
theorem zG {w : World} {B e size n : Nat} {v : Value} {xs : List Value} {b0 : Nat} {cs : Array Value} {t : TypeId} {fr : Nat × Nat} (h : w.ownsRow B e size v n xs) (hm : w.heap[b0]? = some (.cells cs t fr)) (ht : t ≠ e) : ∀ b, v.ownBlock = some b → b ≠ b0 := qY h hm ht
theorem maker_ymap {B : Nat} {w w' : World} {m : Nat} {x : Sp.zM} {s : Sp.Mk} {v : MkV} {e at_ : Int} {nm0 nm tg : List UInt8} (h : zS B w m x s v e at_ nm0) (hg : w.grownBy w' (some v.by_)) (hm : xE Tryz.prog 9 w' v.by_ (s.types.length + 1) (typL ((nm, tg) :: s.types))) :
  zS B w' m x { s with types := (nm, tg) :: s.types } v e at_ nm0 ∧ MkFr m v v w w' := by
 have hy := h.ymap.isMap; have k : Kp (fun b => b ≠ v.by_) w w' := (Kp.refl _ w).grown hg (fun k hk hn => hn (Option.some.inj hk).symm); obtain ⟨h1, h2, h3, h4, ⟨f, g, p1, p2⟩, h6, h7, h8, h9, ha, hs, h3'⟩ := h; refine ⟨⟨(k.block m (zC h1) (fun e => ?_)).trans h1, zP h2 k (xR h2 hy), zP h3 k (xR h3 hy), zP h4 k (xR h4 hy), ⟨f, g, zP p1 k (xR p1 hy), fun i p hp => ?_⟩, h6.block (k.block _ h6.lt ha.2.1), h7.block (k.block _ h7.lt ha.2.2), hm, h9, ha, hs, h3'⟩, ⟨k.mono (fun b _ hn e => hn (.inr (.inr (.inr (.inr (.inr (.inr (.inr e)))))))), fun _ h => .inl h⟩⟩
 ·obtain ⟨es, c, hy⟩ := hy
  rw [← e, h1] at hy; cases hy
 ·obtain ⟨⟨b, k1⟩, c, k2⟩ := p2 i p hp
  exact ⟨⟨b, zP k1 k (xR k1 hy)⟩, c, zP k2 k (xR k2 hy)⟩
theorem maker_self {B : Nat} {w w' : World} {m : Nat} {x : Sp.zM} {s : Sp.Mk} {v : MkV} {e at_ e' at' : Int} {nm0 nm' st : List UInt8} (h : zS B w m x s v e at_ nm0) (k : Kp (fun b => b ≠ m) w w') (hb : w'.heap[m]? = some (.cells (zX x { s with start := st } v e' at' nm').toArray 99 (0, 0))) :
  zS B w' m x { s with start := st } v e' at' nm' ∧ MkFr m v v w w' := by
 obtain ⟨h1, h2, h3, h4, ⟨f, g, p1, p2⟩, h6, h7, h8, h9, ha, hs, h3'⟩ := h
 have hmm : ∀ b, (∃ es c, w.heap[b]? = some (.map es c)) → b ≠ m := by
  rintro b ⟨es, c, hy⟩ rfl; rw [h1] at hy; cases hy
 refine ⟨⟨hb, zP h2 k (zG h2 h1 (by decide)), zP h3 k (zG h3 h1 (by decide)), zP h4 k (zG h4 h1 (by decide)), ⟨f, g, zP p1 k (zG p1 h1 (by decide)), fun i p hp => ?_⟩, h6.block (k.block _ h6.lt (hmm _ h6.isMap)), h7.block (k.block _ h7.lt (hmm _ h7.isMap)), h8.block (k.block _ h8.lt (hmm _ h8.isMap)), h9, ha, hs, h3'⟩, ⟨k.mono (fun b _ hn e => hn (.inl e)), fun _ h => .inl h⟩⟩; obtain ⟨⟨b, k1⟩, c, k2⟩ := p2 i p hp; exact ⟨⟨b, zP k1 k (zG k1 h1 (by decide))⟩, c, zP k2 k (zG k2 h1 (by decide))⟩
theorem jK {S : Nat → Prop} {W w w' : World} (hb : Below W.heap.size W w) (k : Kp S w w') : Kp S W w' :=
 ⟨k.os.trans hb.os, k.tape.trans hb.tape, k.output.trans hb.output, Nat.le_trans hb.size k.size, fun b hl hs => (k.block b (Nat.lt_of_lt_of_le hl hb.size) hs).trans (hb.block b hl)⟩
theorem zDJ {types : List (List UInt8 × List UInt8)} {nm tg : List UInt8} : typL ((nm, tg) :: types) (.string ⟨nm.toArray⟩) = some (.agg #[.string ⟨nm.toArray⟩, .string ⟨tg.toArray⟩]) ∧ ∀ key', key' ≠ Value.string ⟨nm.toArray⟩ → typL ((nm, tg) :: types) key' = typL types key' := by
 constructor
 ·simp [typL, Sp.xK]
 ·intro key hne
  unfold typL; split
  ·rename_i s'
   have hs : nm ≠ s'.data.toList := by
    intro e; apply hne
    rw [e]
   simp [Sp.xK, hs]
  ·rfl
def kV (B m : Nat) (x : Sp.zM) (s : Sp.Mk) (v : MkV) (W : World) (nm : List UInt8) (at_ : Int) (r : Option Sp.Mk) (e : Ending) (w' : World) : Prop :=
 match r with
 | none => e = .returned (.bool true) ∧ w'.heap[m]? = some (.cells (zX x s v 3 at_ nm).toArray 99 (0, 0)) ∧ Kp (fun b => b ≠ m) W w'
 | some s' => e = .returned (.bool false) ∧ zS B w' m x s' v 0 0 [] ∧ MkFr m v v W w'
set_option maxRecDepth 100000 in
set_option maxHeartbeats 6400000 in
theorem maker_named {B : Nat} {W : World} {m : Nat} {x : Sp.zM} {s : Sp.Mk} {v : MkV} (d : Sp.Decl) (dsv : Value) (y : Sp.Sym) (h : zS B W m x s v 0 0 []) (hn : s.types.length ≤ 2 ^ 40) (hy : y.name.length ≤ maxLen) (hk : d.kind = 5 ∨ d.kind = 6) :
  Calls Tryz.prog 64 #[.pointer (some ⟨m, 0, none⟩), .agg (xP dsv d).toArray, symV y] W (kV B m x s v W y.name y.at_ (Sp.yN s d y)) := by
 obtain ⟨nm, lt, nu, pa⟩ := y; obtain ⟨dk, dt, dsy, dp⟩ := d; simp only at hy hk ⊢; have hb := h.block; unfold zX at hb; have hl := zC hb; have hym := h.ymap; generalize hby : v.by_ = by0 at *
 obtain ⟨kl, hkl⟩ := zBP hy; have HH := zh h
 have hHS1 : ∀ (old : Value) (ob : Bool), (match Sp.xK s.types nm with
   | some t => (Value.agg #[.string ⟨nm.toArray⟩, .string ⟨t.toArray⟩], true)
   | none => (Value.agg #[.string ⟨#[]⟩, .string ⟨#[]⟩], false)) = (old, ob) → ∀ w', Below (W.heap.size + 2) ((W.alloc (.cells #[.int .i64 dk, .string ⟨dt.toArray⟩, dsv, .int .i64 dp] 57)).alloc (.cells #[.string ⟨nm.toArray⟩, .bool lt, .int .i64 nu, .int .i64 pa] 45)) w' → ((w'.cell? ⟨m, 12, none⟩ = some (.map (some by0)) ∧ w'.cell? ⟨m, 13, none⟩ = some (.string ⟨s.start.toArray⟩) ∧ w'.frozen? ⟨m, 13, none⟩ = false ∧ w'.cell? ⟨W.heap.size, 0, none⟩ = some (.int .i64 dk) ∧ w'.cell? ⟨W.heap.size, 1, none⟩ = some (.string ⟨dt.toArray⟩) ∧ w'.cell? ⟨W.heap.size + 1, 0, none⟩ = some (.string ⟨nm.toArray⟩) ∧ w'.cell? ⟨W.heap.size + 1, 3, none⟩ = some (.int .i64 pa)) ∧ (Instr.lookup 97 (.map (some by0)) (.string ⟨nm.toArray⟩) true).run Tryz.prog w' = .ok (.tuple #[old, .bool ob]) w') := by
  intro old ob hob w' hw'; obtain ⟨hbd, hbs⟩ := two_firstc hw'; have hbm := (hw'.block m (by omega)).trans ((Below.heap_alloc _ _ _ (by simp; omega)).trans ((Below.heap_alloc _ _ _ hl).trans hb)); have hk := (hym.block ((hw'.block by0 (by have := hym.lt; omega)).trans ((Below.heap_alloc _ _ _ (by have := hym.lt; simp; omega)).trans (Below.heap_alloc _ _ _ hym.lt)))).look true vB Tryz.underlying97 (zero_non w') hkl; refine ⟨⟨zc 12 hbm, zc 13 hbm, zf 13 hbm, zc 0 hbd, zc 1 hbd, zc 0 hbs, zc 3 hbs⟩, ?_⟩; rw [hk]; have e : typL s.types (.string ⟨nm.toArray⟩) = (Sp.xK s.types nm).map fun t => Value.agg #[.string ⟨nm.toArray⟩, .string ⟨t.toArray⟩] := rfl
  rw [e]
  cases ho : Sp.xK s.types nm with
  | some k => rw [ho] at hob; simp only [Prod.mk.injEq] at hob; obtain ⟨rfl, rfl⟩ := hob; rfl
  | none => rw [ho] at hob; simp only [Prod.mk.injEq] at hob; obtain ⟨rfl, rfl⟩ := hob; rfl
 show Calls _ _ #[_, .agg #[.int .i64 dk, .string ⟨dt.toArray⟩, dsv, .int .i64 dp], .agg #[.string ⟨nm.toArray⟩, .bool lt, .int .i64 nu, .int .i64 pa]] _ _
 cases ho : Sp.xK s.types nm with
 | some tg =>
  rw [ho] at hHS1; have HS1 := zh (hHS1 _ _ rfl); clear hHS1 hym hb h; go_enter Tryz.func64, Tryz.ntmps64
  go_wp2_with fail; refine zF (fun w' : World => ((w'.cell? ⟨m, 12, none⟩ = some (.map (some by0)) ∧ w'.cell? ⟨m, 13, none⟩ = some (.string ⟨s.start.toArray⟩) ∧ w'.frozen? ⟨m, 13, none⟩ = false ∧ w'.cell? ⟨W.heap.size, 0, none⟩ = some (.int .i64 dk) ∧ w'.cell? ⟨W.heap.size, 1, none⟩ = some (.string ⟨dt.toArray⟩) ∧ w'.cell? ⟨W.heap.size + 1, 0, none⟩ = some (.string ⟨nm.toArray⟩) ∧ w'.cell? ⟨W.heap.size + 1, 3, none⟩ = some (.int .i64 pa)) ∧ (Instr.lookup 97 (.map (some by0)) (.string ⟨nm.toArray⟩) true).run Tryz.prog w' = .ok (.tuple #[.agg #[.string ⟨nm.toArray⟩, .string ⟨tg.toArray⟩], .bool true]) w')) [] (.take 0 (.take 1 (.take 2 (.take 3 (.take 4 (.take 5 (.take 6 (.take 7 (.take 8 (.take 9 (.one 10 (.one 11 (.one 12 (.done)))))))))))))) (by kernel_rfl) (by kernel_rfl) (fun _ _ _ _ h => h) ?_; have hSw := HS1.out _ (below_drewN (Below.refl _ _) 1); iterate 10 (refine zN (v := ?_) rfl hSw (by rfl) ?_ ?_; rotate_left 1; (focus (intro w hSx; (try dsimp only at hSx); go_simp; try rfl)); (try simp only [Act.put, zq0, zq1, zq2]))
  refine zB rfl (by rfl) (fun K' hK => ?_); go_simp; refine hK _ _ (.inr (HS1.out _ (below_drewN ((Below.refl _ _).alloc (by simp only [World.size_alloc]; omega) _) 1))) ?_; clear hK K' hSw; (try simp only [Act.put, zq0, zq1, zq2]); iterate 2 (refine zB rfl (by rfl) (fun K' hK => ?_); go_simp; refine hK _ _ (.inr (HS1.out _ (below_drewN ((Below.refl _ _).alloc (by simp only [World.size_alloc]; omega) _) 1))) ?_; clear hK K'; (try simp only [Act.put, zq0, zq1, zq2]))
  refine zH ?_; obtain ⟨W3, hW3⟩ : ∃ W3, W3 = (((W.alloc (.cells #[.int .i64 dk, .string ⟨dt.toArray⟩, dsv, .int .i64 dp] 57)).alloc (.cells #[.string ⟨nm.toArray⟩, .bool lt, .int .i64 nu, .int .i64 pa] 45)).alloc (.cells #[.string ⟨nm.toArray⟩, .string ⟨tg.toArray⟩] 89)).drew := ⟨_, rfl⟩
  have hb23 : Below (W.heap.size + 2) ((W.alloc (.cells #[.int .i64 dk, .string ⟨dt.toArray⟩, dsv, .int .i64 dp] 57)).alloc (.cells #[.string ⟨nm.toArray⟩, .bool lt, .int .i64 nu, .int .i64 pa] 45)) W3 := by rw [hW3]; exact below_drewN ((Below.refl _ _).alloc (by simp only [World.size_alloc]; omega) _) 1
  have hbW : Below W.heap.size W W3 := (((Below.refl _ W).alloc (Nat.le_refl _) _).alloc (by simp) _).trans (hb23.mono (by omega))
  have hold : W3.heap[W.heap.size + 1 + 1]? = some (.cells #[.string ⟨nm.toArray⟩, .string ⟨tg.toArray⟩] 89 (0, 0)) := by
   have h := zE ((W.alloc (.cells #[.int .i64 dk, .string ⟨dt.toArray⟩, dsv, .int .i64 dp] 57)).alloc (.cells #[.string ⟨nm.toArray⟩, .bool lt, .int .i64 nu, .int .i64 pa] 45)) (.cells #[.string ⟨nm.toArray⟩, .string ⟨tg.toArray⟩] 89); have e : ((W.alloc (.cells #[.int .i64 dk, .string ⟨dt.toArray⟩, dsv, .int .i64 dp] 57)).alloc (.cells #[.string ⟨nm.toArray⟩, .bool lt, .int .i64 nu, .int .i64 pa] 45)).heap.size = W.heap.size + 1 + 1 := by simp
   rw [e] at h; rw [hW3]; exact h
  have o1 := zc 1 hold; have hlo := zC hold; obtain ⟨⟨k12, k13, f13, d0, d1, s0, s3⟩, _⟩ := HS1.out _ hb23; have hl3 : m < W3.heap.size := by omega
  rw [← hW3]; have HB3 := zh hb23; have HBW := zh hbW; have HWR := zh (qG nm pa (zU HH.out hbW)); clear hW3 hb23 hbW hold; rcases hk with rfl | rfl
  ·by_cases htd : tg = dt
   ·subst htd
    have hns : Sp.yN s ⟨5, tg, dsy, dp⟩ ⟨nm, lt, nu, pa⟩ = some { s with types := (nm, tg) :: s.types } := by
     unfold Sp.yN; rw [if_neg, if_pos rfl]; rintro (⟨_, t, h1, h2⟩ | ⟨h1, _⟩)
     ·rw [ho] at h1; exact h2 (Option.some.inj h1).symm
     ·cases h1
    go_upto_region 7 with fail
    obtain ⟨w5, hr, hm5, hg5⟩ := (show xE Tryz.prog 9 W3.drew v.by_ s.types.length (typL s.types) from (zU HH.out HBW.out).ymap).update vB Tryz.underlying97 (by unfold maxLen; omega) hkl (typL ((nm, tg) :: s.types)) zDJ.1 zDJ.2; rw [hby] at hr; refine zF (fun w' : World => (w'.cell? ⟨m, 12, none⟩ = some (.map (some by0)) ∧ w'.cell? ⟨m, 13, none⟩ = some (.string ⟨s.start.toArray⟩) ∧ w'.frozen? ⟨m, 13, none⟩ = false ∧ w'.cell? ⟨W.heap.size, 0, none⟩ = some (.int .i64 5) ∧ w'.cell? ⟨W.heap.size, 1, none⟩ = some (.string ⟨tg.toArray⟩) ∧ w'.cell? ⟨W.heap.size + 1, 0, none⟩ = some (.string ⟨nm.toArray⟩) ∧ w'.cell? ⟨W.heap.size + 1, 3, none⟩ = some (.int .i64 pa))) [11] (.take 0 (.take 1 (.take 2 (.take 3 (.take 4 (.take 5 (.take 6 (.take 7 (.take 8 (.take 9 (.take 10 (.one 11 (.done))))))))))))) (by kernel_rfl) (by kernel_rfl) (fun _ _ _ _ h => h) ?_; have hSw := (And.intro k12 (And.intro k13 (And.intro f13 (And.intro d0 (And.intro d1 (And.intro s0 s3))))))
    iterate 11 (refine zN (v := ?_) rfl hSw (by rfl) ?_ ?_; rotate_left 1; (focus (intro w hSx; (try dsimp only at hSx); go_simp; try rfl)); (try simp only [Act.put, zq0, zq1, zq2]))
    refine zB rfl (by rfl) (fun K' hK => ?_); go_simp; refine hK _ _ (.inl rfl) ?_; clear hK K' hSw; (try simp only [Act.put, zq0, zq1, zq2]); refine zH ?_; go_wp2_with fail; go_ret; rw [hns]; unfold kV; have hm := maker_ymap (nm := nm) (tg := tg) (zU HH.out HBW.out) (w' := w5) ⟨hg5.os, hg5.tape, hg5.output, hg5.size, hg5.block⟩ hm5; exact ⟨zK rfl, hm.1, (MkFr.below v HBW.out).trans hm.2⟩
   ·have hnb : (tg == dt) = false := by rw [beq_eq_false_iff_ne]; exact htd
    have hnd : decide (tg = dt) = false := decide_eq_false htd; have hns : Sp.yN s ⟨5, dt, dsy, dp⟩ ⟨nm, lt, nu, pa⟩ = none := by unfold Sp.yN; exact if_pos (.inl ⟨rfl, tg, ho, htd⟩)
    go_upto_region 5 with fail
    go_wp2_with fail; refine HWR.out.mono ?_; rintro e w4 ⟨rfl, hm4, hk4⟩; go_wp2_with fail; go_ret; rw [hns]; unfold kV; exact ⟨zK rfl, hm4, jK HBW.out hk4⟩
  ·generalize hst : s.start = st at *
   cases st with
   | nil =>
    have hns : Sp.yN s ⟨6, dt, dsy, dp⟩ ⟨nm, lt, nu, pa⟩ = some { s with start := nm } := by
     unfold Sp.yN; rw [if_neg, if_neg (show ¬ ((6 : Int) = 5) by decide)]; rintro (⟨h1, _⟩ | ⟨_, h2⟩)
     ·cases h1
     ·exact h2 hst
    go_wp2_with fail; go_ret; rw [hns]; unfold kV; have hbm := (zU HH.out HBW.out).block; have hm := maker_self (st := nm) (zU HH.out HBW.out) ((Kp.refl _ W3).setCell (p := ⟨m, 13, none⟩) (by simp) (.string ⟨nm.toArray⟩)) (by have h := zA (i := 13) (v := .string ⟨nm.toArray⟩) hbm; exact h); exact ⟨zK rfl, hm.1, (MkFr.below v HBW.out).trans hm.2⟩
   | cons c u =>
    have hns : Sp.yN s ⟨6, dt, dsy, dp⟩ ⟨nm, lt, nu, pa⟩ = none := by unfold Sp.yN; exact if_pos (.inr ⟨rfl, by rw [hst]; simp⟩)
    go_upto_region 5 with fail
    go_wp2_with fail; refine HWR.out.mono ?_; rintro e w4 ⟨rfl, hm4, hk4⟩; go_wp2_with fail; go_ret; rw [hns]; unfold kV; exact ⟨zK rfl, hm4, jK HBW.out hk4⟩
 | none =>
  rw [ho] at hHS1; have HS1 := zh (hHS1 _ _ rfl); clear hHS1 hym hb h; go_enter Tryz.func64, Tryz.ntmps64
  go_wp2_with fail; refine zF (fun w' : World => ((w'.cell? ⟨m, 12, none⟩ = some (.map (some by0)) ∧ w'.cell? ⟨m, 13, none⟩ = some (.string ⟨s.start.toArray⟩) ∧ w'.frozen? ⟨m, 13, none⟩ = false ∧ w'.cell? ⟨W.heap.size, 0, none⟩ = some (.int .i64 dk) ∧ w'.cell? ⟨W.heap.size, 1, none⟩ = some (.string ⟨dt.toArray⟩) ∧ w'.cell? ⟨W.heap.size + 1, 0, none⟩ = some (.string ⟨nm.toArray⟩) ∧ w'.cell? ⟨W.heap.size + 1, 3, none⟩ = some (.int .i64 pa)) ∧ (Instr.lookup 97 (.map (some by0)) (.string ⟨nm.toArray⟩) true).run Tryz.prog w' = .ok (.tuple #[.agg #[.string ⟨#[]⟩, .string ⟨#[]⟩], .bool false]) w')) [] (.take 0 (.take 1 (.take 2 (.take 3 (.take 4 (.take 5 (.take 6 (.take 7 (.take 8 (.take 9 (.one 10 (.one 11 (.one 12 (.done)))))))))))))) (by kernel_rfl) (by kernel_rfl) (fun _ _ _ _ h => h) ?_; have hSw := HS1.out _ (below_drewN (Below.refl _ _) 1); iterate 10 (refine zN (v := ?_) rfl hSw (by rfl) ?_ ?_; rotate_left 1; (focus (intro w hSx; (try dsimp only at hSx); go_simp; try rfl)); (try simp only [Act.put, zq0, zq1, zq2]))
  refine zB rfl (by rfl) (fun K' hK => ?_); go_simp; refine hK _ _ (.inr (HS1.out _ (below_drewN ((Below.refl _ _).alloc (by simp only [World.size_alloc]; omega) _) 1))) ?_; clear hK K' hSw; (try simp only [Act.put, zq0, zq1, zq2]); iterate 2 (refine zB rfl (by rfl) (fun K' hK => ?_); go_simp; refine hK _ _ (.inr (HS1.out _ (below_drewN ((Below.refl _ _).alloc (by simp only [World.size_alloc]; omega) _) 1))) ?_; clear hK K'; (try simp only [Act.put, zq0, zq1, zq2]))
  refine zH ?_; obtain ⟨W3, hW3⟩ : ∃ W3, W3 = (((W.alloc (.cells #[.int .i64 dk, .string ⟨dt.toArray⟩, dsv, .int .i64 dp] 57)).alloc (.cells #[.string ⟨nm.toArray⟩, .bool lt, .int .i64 nu, .int .i64 pa] 45)).alloc (.cells #[.string ⟨#[]⟩, .string ⟨#[]⟩] 89)).drew := ⟨_, rfl⟩
  have hb23 : Below (W.heap.size + 2) ((W.alloc (.cells #[.int .i64 dk, .string ⟨dt.toArray⟩, dsv, .int .i64 dp] 57)).alloc (.cells #[.string ⟨nm.toArray⟩, .bool lt, .int .i64 nu, .int .i64 pa] 45)) W3 := by rw [hW3]; exact below_drewN ((Below.refl _ _).alloc (by simp only [World.size_alloc]; omega) _) 1
  have hbW : Below W.heap.size W W3 := (((Below.refl _ W).alloc (Nat.le_refl _) _).alloc (by simp) _).trans (hb23.mono (by omega))
  have hold : W3.heap[W.heap.size + 1 + 1]? = some (.cells #[.string ⟨#[]⟩, .string ⟨#[]⟩] 89 (0, 0)) := by
   have h := zE ((W.alloc (.cells #[.int .i64 dk, .string ⟨dt.toArray⟩, dsv, .int .i64 dp] 57)).alloc (.cells #[.string ⟨nm.toArray⟩, .bool lt, .int .i64 nu, .int .i64 pa] 45)) (.cells #[.string ⟨#[]⟩, .string ⟨#[]⟩] 89); have e : ((W.alloc (.cells #[.int .i64 dk, .string ⟨dt.toArray⟩, dsv, .int .i64 dp] 57)).alloc (.cells #[.string ⟨nm.toArray⟩, .bool lt, .int .i64 nu, .int .i64 pa] 45)).heap.size = W.heap.size + 1 + 1 := by simp
   rw [e] at h; rw [hW3]; exact h
  have o1 := zc 1 hold; have hlo := zC hold; obtain ⟨⟨k12, k13, f13, d0, d1, s0, s3⟩, _⟩ := HS1.out _ hb23; have hl3 : m < W3.heap.size := by omega
  rw [← hW3]; have HB3 := zh hb23; have HBW := zh hbW; have HWR := zh (qG nm pa (zU HH.out hbW)); clear hW3 hb23 hbW hold; rcases hk with rfl | rfl
  ·have hns : Sp.yN s ⟨5, dt, dsy, dp⟩ ⟨nm, lt, nu, pa⟩ = some { s with types := (nm, dt) :: s.types } := by
    unfold Sp.yN; rw [if_neg, if_pos rfl]; rintro (⟨_, t, h1, _⟩ | ⟨h1, _⟩)
    ·rw [ho] at h1; cases h1
    ·cases h1
   go_upto_region 7 with fail
   obtain ⟨w5, hr, hm5, hg5⟩ := (show xE Tryz.prog 9 W3.drew v.by_ s.types.length (typL s.types) from (zU HH.out HBW.out).ymap).update vB Tryz.underlying97 (by unfold maxLen; omega) hkl (typL ((nm, dt) :: s.types)) zDJ.1 zDJ.2; rw [hby] at hr; refine zF (fun w' : World => (w'.cell? ⟨m, 12, none⟩ = some (.map (some by0)) ∧ w'.cell? ⟨m, 13, none⟩ = some (.string ⟨s.start.toArray⟩) ∧ w'.frozen? ⟨m, 13, none⟩ = false ∧ w'.cell? ⟨W.heap.size, 0, none⟩ = some (.int .i64 5) ∧ w'.cell? ⟨W.heap.size, 1, none⟩ = some (.string ⟨dt.toArray⟩) ∧ w'.cell? ⟨W.heap.size + 1, 0, none⟩ = some (.string ⟨nm.toArray⟩) ∧ w'.cell? ⟨W.heap.size + 1, 3, none⟩ = some (.int .i64 pa))) [11] (.take 0 (.take 1 (.take 2 (.take 3 (.take 4 (.take 5 (.take 6 (.take 7 (.take 8 (.take 9 (.take 10 (.one 11 (.done))))))))))))) (by kernel_rfl) (by kernel_rfl) (fun _ _ _ _ h => h) ?_; have hSw := (And.intro k12 (And.intro k13 (And.intro f13 (And.intro d0 (And.intro d1 (And.intro s0 s3))))))
   iterate 11 (refine zN (v := ?_) rfl hSw (by rfl) ?_ ?_; rotate_left 1; (focus (intro w hSx; (try dsimp only at hSx); go_simp; try rfl)); (try simp only [Act.put, zq0, zq1, zq2]))
   refine zB rfl (by rfl) (fun K' hK => ?_); go_simp; refine hK _ _ (.inl rfl) ?_; clear hK K' hSw; (try simp only [Act.put, zq0, zq1, zq2]); refine zH ?_; go_wp2_with fail; go_ret; rw [hns]; unfold kV; have hm := maker_ymap (nm := nm) (tg := dt) (zU HH.out HBW.out) (w' := w5) ⟨hg5.os, hg5.tape, hg5.output, hg5.size, hg5.block⟩ hm5; exact ⟨zK rfl, hm.1, (MkFr.below v HBW.out).trans hm.2⟩
  ·generalize hst : s.start = st at *
   cases st with
   | nil =>
    have hns : Sp.yN s ⟨6, dt, dsy, dp⟩ ⟨nm, lt, nu, pa⟩ = some { s with start := nm } := by
     unfold Sp.yN; rw [if_neg, if_neg (show ¬ ((6 : Int) = 5) by decide)]; rintro (⟨h1, _⟩ | ⟨_, h2⟩)
     ·cases h1
     ·exact h2 hst
    go_wp2_with fail; go_ret; rw [hns]; unfold kV; have hbm := (zU HH.out HBW.out).block; have hm := maker_self (st := nm) (zU HH.out HBW.out) ((Kp.refl _ W3).setCell (p := ⟨m, 13, none⟩) (by simp) (.string ⟨nm.toArray⟩)) (by have h := zA (i := 13) (v := .string ⟨nm.toArray⟩) hbm; exact h); exact ⟨zK rfl, hm.1, (MkFr.below v HBW.out).trans hm.2⟩
   | cons c u =>
    have hns : Sp.yN s ⟨6, dt, dsy, dp⟩ ⟨nm, lt, nu, pa⟩ = none := by unfold Sp.yN; exact if_pos (.inr ⟨rfl, by rw [hst]; simp⟩)
    go_upto_region 5 with fail
    go_wp2_with fail; refine HWR.out.mono ?_; rintro e w4 ⟨rfl, hm4, hk4⟩; go_wp2_with fail; go_ret; rw [hns]; unfold kV; exact ⟨zK rfl, hm4, jK HBW.out hk4⟩

theorem prods_cells {B : Nat} {w : World} {f g : Nat → Value} {gp n cap k : Nat} {l : List Sp.Prod} {p : Sp.Prod} (ho : w.ownsRow B 68 6 (.slice (some ⟨gp, 0, none⟩) n cap) n (l.mapIdx fun i p => xF (f i) (g i) p).flatten) (hk : l[k]? = some p) (hkn : k < n) {j : Nat} {u : Value} (hj : (xF (f k) (g k) p)[j]? = some u) :
  w.cell? ⟨gp, k * 6 + j, none⟩ = some u := by
 have hjs : j < 6 := (List.getElem?_eq_some_iff.1 hj).1; rw [ho.cellAt (k * 6 + j) (by omega)]; refine j1 6 _ (fun r hr' => ?_) k (xF (f k) (g k) p) (by rw [List.getElem?_mapIdx, hk]; rfl) j u hj; obtain ⟨i, hi⟩ := List.mem_iff_getElem?.1 hr'; rw [List.getElem?_mapIdx] at hi; obtain ⟨b, _, rfl⟩ := Option.map_eq_some_iff.1 hi; rfl
set_option maxRecDepth 100000 in
set_option maxHeartbeats 6400000 in
theorem gram_great {B : Nat} {W : World} (ta na : Option Addr) (nt tc nn nc : Nat) (pv : Value) (pro tl : List UInt8) (prods : List Sp.Prod) (hp : zBM B W pv prods) (h63 : prods.length ≤ 2 ^ 62) (h64 : ∀ p ∈ prods, p.right.length ≤ 2 ^ 62) (h65 : nt ≤ 2 ^ 62) (h66 : nn ≤ 2 ^ 62) :
  Calls Tryz.prog 43 #[.agg #[.slice ta nt tc, .slice na nn nc, pv, .string ⟨pro.toArray⟩, .string ⟨tl.toArray⟩]] W fun e w' =>
   e = .returned (.bool ((((prods.any fun p => decide (8 < p.right.length)) || decide (40 < nt)) || decide (24 < nn)) || decide (60 < prods.length))) ∧ Below W.heap.size W w' := by
 obtain ⟨f, g, ho, hc⟩ := hp; obtain ⟨pa, pc, rfl⟩ := zJ ho; generalize hR : (prods.any fun p => decide (8 < p.right.length)) = R; have HO := zh ho; have HC := zh hc; have H64 := zh h64; generalize hn : prods.length = n at *
 have HN := zh hn; have HR := zh hR; clear ho hc h64 hn hR; go_enter Tryz.func43, Tryz.ntmps43
 go_wp2_with fail; go_loopg [8] n (fun q iv wr => ∃ k : Nat, k ≤ n ∧ q = n - k ∧ iv = .int .i64 k ∧ ((prods.drop k).any fun p => decide (8 < p.right.length)) = R ∧ Below (W.heap.size + 1) (W.alloc (.cells #[.slice ta nt tc, .slice na nn nc, .slice pa n pc, .string ⟨pro.toArray⟩, .string ⟨tl.toArray⟩] 39)) wr)
 case atStart => exact ⟨0, Nat.zero_le _, rfl, rfl, HR.out, Below.refl _ _⟩
 case round =>
  obtain ⟨k, hk, rfl, rfl, hR, hbel⟩ := hrel; have HRR := zh hR; have hF := (hbel.block W.heap.size (by omega)).trans (zE W _); have b0 := zc 0 hF; have b1 := zc 1 hF; have b2 := zc 2 hF; have hl := zC hF; have hbW : Below W.heap.size W wr := zT hbel; have HB := zh hbW; have HBB := zh hbel; have hk0 : (0 : Int) ≤ (k : Int) := Int.natCast_nonneg _; clear hR hF hbel hbW; by_cases hkn : k < n
  ·have hk1 : (k : Int) < (n : Int) := by omega
   have hkl : k < prods.length := by have := HN.out; omega
   have hp := List.getElem?_eq_getElem hkl; have hd : prods.drop k = prods[k] :: prods.drop (k + 1) := List.drop_eq_getElem_cons hkl; have h8 := H64.out _ (List.getElem_mem hkl); have hR := HRR.out; rw [hd, List.any_cons] at hR; generalize prods[k] = p at *
   obtain ⟨gp, cp, hv⟩ := yB HO.out (by omega); simp only [Value.slice.injEq] at hv; obtain ⟨rfl, _, rfl⟩ := hv; obtain ⟨⟨bb, hr⟩, ⟨bc, ha⟩⟩ := HC.out k p hp; obtain ⟨ra, rc, hf⟩ := zJ hr; obtain ⟨aa, ac, hg⟩ := zJ ha; have hlp : gp < W.heap.size := (HO.out.lt gp rfl).2
   have hcell : ∀ (j : Nat) (u : Value), (xF (.slice ra p.right.length rc) (.slice aa p.args.length ac) p)[j]? = some u → wr.cell? ⟨gp, k * 6 + j, none⟩ = some u := fun j u hj => by
    rw [HB.out.cell (p := ⟨gp, _, none⟩) hlp]; exact prods_cells HO.out hp hkn (by rw [hf, hg]; exact hj)
   obtain ⟨pl, pr, pp, pcd, pas, pat⟩ := p; simp only at *
   generalize pr.length = rn at *
   generalize pas.length = an at *
   have c0 := hcell 0 _ rfl; have c1 := hcell 1 _ rfl; have c2 := hcell 2 _ rfl; have c3 := hcell 3 _ rfl; have c4 := hcell 4 _ rfl; have c5 := hcell 5 _ rfl; simp only [Nat.add_zero] at c0; have hlpr : gp < wr.heap.size := Nat.lt_of_lt_of_le hlp HB.out.size; clear hcell hp hd hkl HRR hf hg hr ha; by_cases h9 : 8 < rn
   ·have HT : Hid (true = R) := zh (by rw [← hR]; simp [h9])
    clear hR; go_wp2_with fail; go_ret; exact ⟨zK (by rw [← HT.out]; rfl), HB.out.alloc HB.out.size _⟩
   ·have hd9 : decide (8 < rn) = false := decide_eq_false h9
    have HT : Hid (((prods.drop (k + 1)).any fun p => decide (8 < p.right.length)) = R) := zh (by rw [← hR, hd9, Bool.false_or]); clear hR; go_wp2_with fail; go_roundg (n - (k + 1))
    case measure => omega
    case rel => exact ⟨k + 1, by omega, rfl, by go_num, HT.out, HBB.out.alloc (by omega) _⟩
  ·obtain rfl : k = n := by omega
   have HT : Hid (false = R) := zh (by
    have h := HRR.out; rw [List.drop_eq_nil_of_le (by rw [HN.out]; exact Nat.le_refl _)] at h
    exact h)
   clear HRR; by_cases h1 : 40 < nt
   ·go_wp2_with fail
    go_ret; exact ⟨zK (by first | rfl | simp [h1]), HB.out⟩
   ·have d1 : decide (40 < nt) = false := decide_eq_false h1
    by_cases h2 : 24 < nn
    ·go_wp2_with fail
     go_ret; exact ⟨zK (by first | rfl | simp [h2]), HB.out⟩
    ·have d2 : decide (24 < nn) = false := decide_eq_false h2
     go_wp2_with fail; go_ret; exact ⟨zK (by rw [← HT.out, Bool.eq_iff_iff]; simp; omega), HB.out⟩
end Go.Proofs.YtddnomjfcbplpaaGreatDoor
