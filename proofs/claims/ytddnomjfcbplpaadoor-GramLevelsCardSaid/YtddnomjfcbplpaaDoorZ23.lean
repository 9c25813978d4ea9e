/- The walk of GramLevels. -/
import Derived.Test.YtddnomjfcbplpaaDoorZ22
import Derived.Test.YtddnomjfcbplpaaDoorZ04
namespace Go.Proofs.YtddnomjfcbplpaaDoor
open Go.RowKit Go.Maps

theorem info_intE4 : (Tryd.prog.info? 3).map (fun i => (i.zero, i.size, i.bytes)) = some (some (.int .i64 0), 1, 8) := by kernel_rfl
/-- The source as it grows, the two lists beside it. -/
structure LvI (W wr : World) (bs : Nat) (dv rv lv av : Value) (ds : List Sp.Decl) (ls al : List Int) : Prop where
  st : PassS2 W.heap.size wr bs dv rv ds [⟨[97], [⟨[], ⟨[], false, 0, 0⟩, 0⟩], 0⟩]
  levs : wr.ownsRow W.heap.size 3 1 lv ls.length (intsC ls)
  asss : wr.ownsRow W.heap.size 3 1 av al.length (intsC al)
  sep : ∀ c d, lv.ownBlock = some c → av.ownBlock = some d → c ≠ d
  bel : Below W.heap.size W wr
/-- Within a declaration: its box, its symbols (rows and boxes behind w0 alone), the two lists. -/
structure LvD (W w0 wr : World) (bd : Nat) (kind : Int) (sv lv av : Value) (ss : List Sp.Sym) (ls al : List Int) : Prop where
  old : KpT (fun t => t ≠ 3) w0 wr
  box : wr.heap[bd]? = some (.cells #[.int .i64 kind, .string ⟨#[]⟩, sv, .int .i64 0] 39 (0, 0))
  syms : wr.ownsRow w0.heap.size 26 4 sv ss.length (ss.map symC).flatten
  levs : wr.ownsRow W.heap.size 3 1 lv ls.length (intsC ls)
  asss : wr.ownsRow W.heap.size 3 1 av al.length (intsC al)
  sep : ∀ c d, lv.ownBlock = some c → av.ownBlock = some d → c ≠ d
  bel : Below W.heap.size W wr
  ge : w0.heap.size ≤ bd
  ge0 : W.heap.size ≤ w0.heap.size
  gew : w0.heap.size ≤ wr.heap.size
theorem ints_snoc (l : List Int) (x : Int) : intsC (l ++ [x]) = intsC l ++ [.int .i64 x] := by unfold intsC; rw [List.map_append]; rfl
section
variable {W w0 wr w8 w' : World} {bd : Nat} {kind : Int} {sv lv av : Value} {ss : List Sp.Sym} {ls al : List Int}
/-- A symbol more. -/
theorem LvD.addSym (h : LvD W w0 wr bd kind sv lv av ss ls al) (hk : Kp (fun b => b = bd ∨ b < w0.heap.size) wr w8) (kt : KpT (fun t => t ≠ 26) wr w8) {sv' : Value} {s : Sp.Sym} (hown : w8.ownsRow w0.heap.size 26 4 sv' (ss.length + 1) ((ss.map symC).flatten ++ symC s)) (hw : w' = w8.setCell ⟨bd, 2, none⟩ sv') : LvD W w0 w' bd kind sv' lv av (ss ++ [s]) ls al := by
  subst hw
  have hb := hk.at h.box (.inl rfl)
  have ktd : KpT (fun t => t ≠ 39) w8 (w8.setCell ⟨bd, 2, none⟩ sv') := KpT.setCell (fun _ _ _ _ h _ => h) hb (by simp) _
  have hk0 : Kp (fun b => b < w0.heap.size) wr (w8.setCell ⟨bd, 2, none⟩ sv') := (hk.mono (fun _ _ h => .inr h)).setCell (p := ⟨bd, 2, none⟩) (by have := h.ge; simp only; omega) _
  refine ⟨fun b cs t fr hb0 ht => hk0.at (h.old b cs t fr hb0 ht) (lt_at hb0), heap_setCell_at hb, ?_, ownsRow_kpT (ownsRow_kpT h.levs kt (by decide)) ktd (by decide), ownsRow_kpT (ownsRow_kpT h.asss kt (by decide)) ktd (by decide), h.sep, h.bel.trans (Kp.below hk0 h.bel.size (fun b hb => by have := h.ge0; omega)), h.ge, h.ge0, Nat.le_trans h.gew hk0.size⟩
  rw [List.length_append, List.map_append, List.flatten_append]
  simp only [List.map_cons, List.map_nil, List.flatten_cons, List.flatten_nil, List.append_nil, List.length_singleton]
  exact ownsRow_kpT hown ktd (by decide)
/-- A number more in each list: the first list's row is written, then the second's. -/
theorem LvD.addTwo (h : LvD W w0 wr bd kind sv lv av ss ls al) {g1 n1 c1 g2 n2 c2 : Nat} {x y : Int} (hk8 : Kp (fun b => ∀ d, lv.ownBlock = some d → b ≠ d) wr w8) (hown8 : w8.ownsRow W.heap.size 3 1 (.slice (some ⟨g1, 0, none⟩) n1 c1) (ls.length + 1) (intsC ls ++ [.int .i64 x])) (hat8 : lv.ownBlock = some g1 ∨ wr.heap.size ≤ g1) (hlt8 : g1 < w8.heap.size)
    (hk9 : Kp (fun b => ∀ d, av.ownBlock = some d → b ≠ d) w8 w') (hown9 : w'.ownsRow W.heap.size 3 1 (.slice (some ⟨g2, 0, none⟩) n2 c2) (al.length + 1) (intsC al ++ [.int .i64 y])) (hat9 : av.ownBlock = some g2 ∨ w8.heap.size ≤ g2) :
    LvD W w0 w' bd kind sv (.slice (some ⟨g1, 0, none⟩) n1 c1) (.slice (some ⟨g2, 0, none⟩) n2 c2) ss (ls ++ [x]) (al ++ [y]) := by
  have nl : ∀ {B s n : Nat} {e : TypeId} {v : Value} {xs : List Value}, wr.ownsRow B e s v n xs → e ≠ 3 → ∀ b, v.ownBlock = some b → ∀ d, lv.ownBlock = some d → b ≠ d := fun h1 he b hb d hd => by
    rcases h.levs.2 with ⟨rfl, _⟩ | ⟨g, cap, cur, rfl, _, hgg, _⟩
    · simp [Value.ownBlock] at hd
    · have e1 : g = d := by simpa [Value.ownBlock] using hd
      subst e1
      exact ownsRow_ne h1 hgg (fun h => he h.symm) b hb
  have na : ∀ {B s n : Nat} {e : TypeId} {v : Value} {xs : List Value}, wr.ownsRow B e s v n xs → e ≠ 3 → ∀ b, v.ownBlock = some b → ∀ d, av.ownBlock = some d → b ≠ d := fun h1 he b hb d hd => by
    rcases h.asss.2 with ⟨rfl, _⟩ | ⟨g, cap, cur, rfl, _, hgg, _⟩
    · simp [Value.ownBlock] at hd
    · have e1 : g = d := by simpa [Value.ownBlock] using hd
      subst e1
      exact ownsRow_ne h1 hgg (fun h => he h.symm) b hb
  have cl : ∀ (b : Nat) (cs : Array Value) (t : TypeId) (fr : Nat × Nat), wr.heap[b]? = some (.cells cs t fr) → t ≠ 3 → w'.heap[b]? = some (.cells cs t fr) := fun b cs t fr hb ht => by
    have h1 : ∀ d, lv.ownBlock = some d → b ≠ d := by
      rintro d hd rfl
      rcases h.levs.2 with ⟨rfl, _⟩ | ⟨g, cap, cur, rfl, _, hgg, _⟩
      · simp [Value.ownBlock] at hd
      · have e1 : g = b := by simpa [Value.ownBlock] using hd
        subst e1
        rw [hgg] at hb
        simp at hb
        exact ht hb.2.1.symm
    have h2 : ∀ d, av.ownBlock = some d → b ≠ d := by
      rintro d hd rfl
      rcases h.asss.2 with ⟨rfl, _⟩ | ⟨g, cap, cur, rfl, _, hgg, _⟩
      · simp [Value.ownBlock] at hd
      · have e1 : g = b := by simpa [Value.ownBlock] using hd
        subst e1
        rw [hgg] at hb
        simp at hb
        exact ht hb.2.1.symm
    exact hk9.at (hk8.at hb h1) h2
  refine ⟨fun b cs t fr hb ht => cl b cs t fr (h.old b cs t fr hb ht) ht, cl _ _ _ _ h.box (by decide), ?_, ?_, ?_, ?_, ?_, h.ge, h.ge0, Nat.le_trans h.gew (Nat.le_trans hk8.size hk9.size)⟩
  · exact ownsRow_kp (ownsRow_kp h.syms hk8 (nl h.syms (by decide))) hk9 (na h.syms (by decide))
  · rw [ints_snoc, List.length_append]
    refine ownsRow_kp hown8 hk9 (fun b hb d hd => ?_)
    have e : g1 = b := by simpa [Value.ownBlock] using hb
    subst e
    rcases hat8 with hg | hg
    · exact h.sep g1 d hg hd
    · have := (h.asss.lt d hd).2
      omega
  · rw [ints_snoc, List.length_append]
    exact hown9
  · intro c d hc hd
    have e1 : g1 = c := by simpa [Value.ownBlock] using hc
    have e2 : g2 = d := by simpa [Value.ownBlock] using hd
    subst e1 e2
    rcases hat9 with hg | hg
    · rcases hat8 with hg8 | hg8
      · exact h.sep g1 g2 hg8 hg
      · have := (h.asss.lt g2 hg).2
        omega
    · omega
  · refine h.bel.trans (Kp.below (S := fun b => b < W.heap.size) ?_ h.bel.size (fun b hb => hb))
    exact (hk8.mono (fun b _ hb d hd => by have := (h.levs.lt d hd).1; omega)).trans (hk9.mono (fun b _ hb d hd => by have := (h.asss.lt d hd).1; omega))
end
theorem LvI.step {W w0 wr w8 w' : World} {bs bd : Nat} {kind : Int} {dv dv' rv lv av lv' av' sv : Value} {ds : List Sp.Decl} {ls al ls' al' : List Int} {ss : List Sp.Sym} {f : Nat → Value} {o : Obj} (h : LvI W w0 bs dv rv lv av ds ls al) (hd : LvD W w0 wr bd kind sv lv' av' ss ls' al')
    (ho : wr.ownsRow W.heap.size 39 4 dv ds.length (ds.mapIdx fun i a => declC (f i) a).flatten) (hch : ∀ (i : Nat) (a : Sp.Decl), ds[i]? = some a → symsOwn wr (f i) a) (hgrow : (wr.alloc o).grownBy w8 dv.ownBlock)
    (hown : w8.ownsRow W.heap.size 39 4 dv' (ds.length + 1) ((ds.mapIdx fun i a => declC (f i) a).flatten ++ declC sv ⟨kind, [], ss, 0⟩)) (hw : w' = w8.setCell ⟨bs, 1, none⟩ dv') : LvI W w' bs dv' rv lv' av' (ds ++ [⟨kind, [], ss, 0⟩]) ls' al' := by
  have src := hd.old _ _ _ _ h.st.src (by decide)
  have kt8 : KpT (fun t => t ≠ 39) wr w8 := (KpT.below ((Below.refl _ wr).alloc (Nat.le_refl _) _)).trans (KpT.grown (ho.alloc _) hgrow)
  have hk8 : Kp (fun b => b = bs) wr w8 := ((Kp.refl _ wr).alloc _).grown hgrow (fun c hc hs => row_ne_cells ho src (by decide) c hc hs)
  have hk9 : Kp (fun b => b < W.heap.size) wr w8 := ((Kp.refl _ wr).alloc _).grown hgrow (fun c hc hs => Nat.not_lt.2 (ho.lt c hc).1 hs)
  have hP : PassS2 W.heap.size wr bs dv rv ds [⟨[97], [⟨[], ⟨[], false, 0, 0⟩, 0⟩], 0⟩] := ⟨src, ⟨f, ho, hch⟩, rules_kp h.st.rules hd.old (by decide) (by decide) (by decide), h.st.ge⟩
  have src8 := hk8.at src rfl
  have hst := hP.setDecls hk8 (rules_kp hP.rules kt8 (by decide) (by decide) (by decide)) (OwnR.snoc hch hown (fun u a h => symsOwn_kp kt8 (by decide) u a h) ⟨_, ownsRow_kpT hd.syms kt8 (by decide)⟩) hw
  subst hw
  have kts : KpT (fun t => t ≠ 35) w8 (w8.setCell ⟨bs, 1, none⟩ dv') := KpT.setCell (fun _ _ _ _ h _ => h) src8 (by simp) _
  exact ⟨hst, ownsRow_kpT (ownsRow_kpT hd.levs kt8 (by decide)) kts (by decide), ownsRow_kpT (ownsRow_kpT hd.asss kt8 (by decide)) kts (by decide), hd.sep, hd.bel.trans (Kp.below (hk9.setCell (p := ⟨bs, 1, none⟩) (by have := h.st.ge; simp only; omega) _) hd.bel.size (fun b hb => hb))⟩
theorem LvI.below {W wr w8 : World} {bs : Nat} {dv rv lv av : Value} {ds : List Sp.Decl} {ls al : List Int} (h : LvI W wr bs dv rv lv av ds ls al) (hb : Below wr.heap.size wr w8) : LvI W w8 bs dv rv lv av ds ls al :=
  ⟨⟨(hb.block _ (lt_at h.st.src)).trans h.st.src, decls_kp h.st.decls (KpT.below (T := fun _ => True) hb) trivial trivial, rules_kp h.st.rules (KpT.below (T := fun _ => True) hb) trivial trivial trivial, h.st.ge⟩, ownsRow_below h.levs hb, ownsRow_below h.asss hb, h.sep, h.bel.trans (hb.mono h.bel.size)⟩
theorem symsC_small (N c : Nat) (h : N + c ≤ 24) : ∀ s ∈ Sp.symsC N c, smallSym s := by
  intro s hs
  unfold Sp.symsC at hs
  obtain ⟨j, hj, rfl⟩ := List.mem_map.1 hs
  rw [List.mem_range] at hj
  have := of_decide_eq_true (List.all_eq_true.1 (show ((List.range 24).all fun i => decide ((Lib.itoa (i : Int)).length ≤ 3)) = true by decide +kernel) (N + j) (List.mem_range.2 (by omega)))
  show (116 :: Lib.itoa ((N + j : Nat) : Int)).length ≤ 4000
  rw [List.length_cons]
  omega
theorem lev_small (l : List Int) : ∀ (k : Nat), k ≤ l.length → k ≤ 15 → ∀ d ∈ (Sp.levAt l k).decls, smallDecl d
  | 0, _, _, d, hd => by
    have : (Sp.levAt l 0).decls = [] := rfl
    rw [this] at hd
    cases hd
  | k + 1, h1, h2, d, hd => by
    have hok := Sp.levAt_ok (l := l) (k := k) (by omega) (by omega)
    have hlen := hok.len
    rw [Sp.levAt_snoc (List.getElem?_eq_getElem (by omega)), Sp.levStep_C] at hd
    rcases List.mem_append.1 hd with hd | hd
    · exact lev_small l k (by omega) (by omega) d hd
    · rw [List.mem_singleton] at hd
      subst hd
      refine ⟨by simp, ?_, symsC_small _ _ (by omega)⟩
      show (Sp.symsC _ _).length ≤ 4000
      rw [Sp.symsC_len]
      omega
theorem levSrc_small {ds : List Sp.Decl} (hl : ds.length ≤ 4000) (h : ∀ d ∈ ds, smallDecl d) : smallSrc ⟨[], ds, [⟨[97], [⟨[], ⟨[], false, 0, 0⟩, 0⟩], 0⟩], []⟩ := by
  refine ⟨by simp, by simp, hl, by simp, h, ?_⟩
  intro r hr
  rw [List.mem_singleton] at hr
  subst hr
  refine ⟨by simp, by simp, ?_⟩
  intro a ha
  rw [List.mem_singleton] at ha
  subst ha
  exact ⟨by simp, by simp, by simp⟩
theorem LvI.again {W wr w8 w' : World} {bs : Nat} {dv dv' rv lv av sy : Value} {ds : List Sp.Decl} {ls al : List Int} {d : Sp.Decl} {f : Nat → Value} (h : LvI W wr bs dv rv lv av ds ls al) (hch : ∀ (i : Nat) (a : Sp.Decl), ds[i]? = some a → symsOwn wr (f i) a)
    (hk8 : Kp (fun b => b = bs) wr w8) (hk9 : Kp (fun b => b < W.heap.size) wr w8) (kt8 : KpT (fun t => t ≠ 39) wr w8) (hsy : w8.ownsRow W.heap.size 26 4 sy d.syms.length (d.syms.map symC).flatten)
    (hown : w8.ownsRow W.heap.size 39 4 dv' (ds.length + 1) ((ds.mapIdx fun i a => declC (f i) a).flatten ++ declC sy d)) (hw : w' = w8.setCell ⟨bs, 1, none⟩ dv') :
    LvI W w' bs dv' rv lv av (ds ++ [d]) ls al ∧ KpT (fun t => t ≠ 39 ∧ t ≠ 35) wr w' := by
  have src8 := hk8.at h.st.src rfl
  have hst := h.st.setDecls hk8 (rules_kp h.st.rules kt8 (by decide) (by decide) (by decide)) (OwnR.snoc hch hown (fun u a h => symsOwn_kp kt8 (by decide) u a h) ⟨_, hsy⟩) hw
  subst hw
  have kts : KpT (fun t => t ≠ 35) w8 (w8.setCell ⟨bs, 1, none⟩ dv') := KpT.setCell (fun _ _ _ _ h _ => h) src8 (by simp) _
  exact ⟨⟨hst, ownsRow_kpT (ownsRow_kpT h.levs kt8 (by decide)) kts (by decide), ownsRow_kpT (ownsRow_kpT h.asss kt8 (by decide)) kts (by decide), h.sep, h.bel.trans (Kp.below (hk9.setCell (p := ⟨bs, 1, none⟩) (by have := h.st.ge; simp only; omega) _) h.bel.size (fun b hb => hb))⟩, (kt8.mono (fun _ h => h.1)).trans (kts.mono (fun _ h => h.2))⟩
theorem LvD.start {W wr wB : World} {bs bd : Nat} {kind : Int} {dv rv lv av : Value} {ds : List Sp.Decl} {ls al : List Int} (h : LvI W wr bs dv rv lv av ds ls al) (hb : Below wr.heap.size wr wB) (hq : wB.heap[bd]? = some (.cells #[.int .i64 kind, .string ⟨#[]⟩, .slice none 0 0, .int .i64 0] 39 (0, 0))) (hd : bd = wr.heap.size) : LvD W wr wB bd kind (.slice none 0 0) lv av [] ls al :=
  ⟨KpT.below hb, hq, World.ownsRow_nil _ _ _ _, ownsRow_below h.levs hb, ownsRow_below h.asss hb, h.sep, h.bel.trans (hb.mono h.bel.size), by omega, h.bel.size, hb.size⟩
theorem t_str (i : Nat) : ({ data := #[116] } : ByteArray) ++ ({ data := (Lib.itoa (i : Int)).toArray } : ByteArray) = ⟨(116 :: Lib.itoa (i : Int)).toArray⟩ := by
  apply ByteArray.ext
  simp
theorem tName_sm_all : ((List.range 24).all fun i => decide ((Lib.itoa (i : Int)).length ≤ 3)) = true := by decide +kernel
theorem tName_sm {i : Nat} (h : i < 24) : (Lib.itoa (i : Int)).length ≤ 3 := of_decide_eq_true (List.all_eq_true.1 tName_sm_all i (List.mem_range.2 h))
set_option maxRecDepth 100000 in
set_option maxHeartbeats 12800000 in
theorem law_GramLevels (v0 : Value) (l : List Int) (k0 : Int) (W : World) (hl : IntsAt W v0 l) (hlm : l.length ≤ maxLen) (hwf : ∀ t ∈ l, (Lit.int .i64 t).wf = true) (hw1 : (Lit.int .i64 k0).wf = true) (hg : Gl4 W) :
    Calls Tryd.prog 3 #[v0, .int .i64 k0] W fun e w' => e = .returned (.bool true) ∧ Below W.heap.size W w' := by
  unfold maxLen at hlm
  obtain ⟨la, lcap, rfl⟩ := SlAt.form hl
  rw [List.length_map] at hl ⊢
  have HG := Lib.hid hg; have HL := Lib.hid hl; have HWF := Lib.hid hwf; have HW1 := Lib.hid hw1
  obtain ⟨is0, his0, hsz0, hsz1, hsz2⟩ := info_parts info_symE
  obtain ⟨id0, hid0, hdz0, hdz1, hdz2⟩ := info_parts info_declE
  obtain ⟨ii0, hii0, hiz0, hiz1, hiz2⟩ := info_parts info_intE4
  clear hg hl hwf hw1
  go_enter Tryd.func3, Tryd.ntmps3
  go_wp2_with fail
  refine (wakes9 W HG.out).mono ?_
  rintro e w1 ⟨rfl, hb1⟩
  go_upto_block 0 with fail
  obtain ⟨w, hw4⟩ : ∃ w : World, w = ((w1.alloc (.cells #[.slice none 0 0, .string ⟨#[]⟩, .bool false, .int .i64 0, .int .i64 0, .int .i64 0] 28)).alloc (.cells #[.string ⟨#[97]⟩, .slice (some ⟨w1.heap.size, 0, none⟩) 1 1, .int .i64 0] 31)).alloc (.cells #[.string ⟨#[]⟩, .slice none 0 0, .slice (some ⟨w1.heap.size + 1, 0, none⟩) 1 1, .string ⟨#[]⟩] 35) := ⟨_, rfl⟩
  rw [← hw4]
  have hI0 : PassSt W.heap.size w (w1.heap.size + 1 + 1) (w1.heap.size + 1) w1.heap.size (.slice none 0 0) (.slice none 0 0) [] [] := by
    have hsz := hb1.size
    refine ⟨?_, ?_, ?_, World.ownsRow_nil _ _ _ _, OwnR.nil _ _ _ _ _ _, by omega, by omega, by omega⟩
    · rw [hw4]
      have h := heap_last ((w1.alloc (.cells #[.slice none 0 0, .string ⟨#[]⟩, .bool false, .int .i64 0, .int .i64 0, .int .i64 0] 28)).alloc (.cells #[.string ⟨#[97]⟩, .slice (some ⟨w1.heap.size, 0, none⟩) 1 1, .int .i64 0] 31)) (.cells #[.string ⟨#[]⟩, .slice none 0 0, .slice (some ⟨w1.heap.size + 1, 0, none⟩) 1 1, .string ⟨#[]⟩] 35)
      simp only [World.size_alloc] at h
      exact h
    · rw [hw4]
      exact heap_old (heap_sec w1 _ _) _
    · rw [hw4]
      exact heap_old (heap_old (heap_last w1 _) _) _
  have HI0 : Hid (LvI W w (w1.heap.size + 1 + 1) (.slice none 0 0) (.slice (some ⟨w1.heap.size + 1, 0, none⟩) 1 1) (.slice none 0 0) (.slice none 0 0) [] [] []) := Lib.hid ⟨hI0.two, World.ownsRow_nil _ _ _ _, World.ownsRow_nil _ _ _ _, (fun c d hc => by simp [Value.ownBlock] at hc), (by
    rw [hw4]
    have hsz := hb1.size
    exact ((hb1.alloc hsz _).alloc (by simp only [World.size_alloc]; omega) _).alloc (by simp only [World.size_alloc]; omega) _)⟩
  have HBS : Hid (W.heap.size + 2 ≤ w1.heap.size + 1 + 1) := Lib.hid (by have := hb1.size; omega)
  clear hw4 hI0 hb1
  generalize w1.heap.size + 1 + 1 = bs at HI0 HBS ⊢
  obtain ⟨rv, hrv⟩ : ∃ rv : Value, rv = .slice (some ⟨w1.heap.size + 1, 0, none⟩) 1 1 := ⟨_, rfl⟩
  rw [← hrv] at HI0
  clear hrv
  go_cut [6, 7, 8, 9] (fun v6 v7 v8 v9 wx => ∃ (k : Nat) (dv : Value), k ≤ l.length ∧ k ≤ 15 ∧ v6 = .int .i64 ((Sp.levAt l k).toks.length : Int) ∧ v7 = .int .i64 (Sp.levAt l k).level ∧ LvI W wx bs dv rv v8 v9 (Sp.levAt l k).decls ((Sp.levAt l k).toks.map (·.level)) ((Sp.levAt l k).toks.map (·.assoc)))
  case first =>
    go_wp2_with fail
    go_loopg [6, 7, 8, 9, 10] 15 (fun q v6 v7 v8 v9 v10 wr => ∃ (k : Nat) (dv : Value), k ≤ l.length ∧ k ≤ 15 ∧ q = 15 - k ∧ v10 = .int .i64 k ∧ v6 = .int .i64 ((Sp.levAt l k).toks.length : Int) ∧ v7 = .int .i64 (Sp.levAt l k).level ∧ LvI W wr bs dv rv v8 v9 (Sp.levAt l k).decls ((Sp.levAt l k).toks.map (·.level)) ((Sp.levAt l k).toks.map (·.assoc)))
    case atStart =>
      exact ⟨0, _, by omega, by omega, rfl, rfl, rfl, rfl, HI0.out⟩
    case round =>
      obtain ⟨k, dv, hkl, hk15, rfl, rfl, rfl, rfl, hst⟩ := hrel
      obtain ⟨w0, hw0⟩ : ∃ w0 : World, w0 = wr := ⟨_, rfl⟩
      subst hw0
      have hok := Sp.levAt_ok hkl hk15
      by_cases hkn : k < l.length ∧ k < 15
      · obtain ⟨hkn1, hkn2⟩ := hkn
        obtain ⟨n, hn⟩ : ∃ n, l[k]? = some n := ⟨_, List.getElem?_eq_getElem hkn1⟩
        have hsn := Sp.levAt_snoc hn
        obtain ⟨S, hS⟩ : ∃ S, S = Sp.levAt l k := ⟨_, rfl⟩
        rw [← hS] at hst hok hsn ⊢
        obtain ⟨lb, lo, rfl, hlb, hlc⟩ := SlAt.at HL.out (k := k) (row := [.int .i64 n]) (by rw [List.getElem?_map, hn]; rfl)
        have hcl := hlc w0 hst.bel 0 _ rfl
        simp only [Nat.add_zero, Nat.mul_one] at hcl
        have hlbw := hst.bel.size
        have hlw : lb < w0.heap.size := by omega
        have hwn := HWF.out n (List.mem_of_getElem? hn)
        obtain ⟨r, hr⟩ : ∃ r : Nat, n % ((4 : Nat) : Int) = (r : Int) := ⟨(n % 4).toNat, by have := Int.emod_nonneg n (b := 4) (by decide); omega⟩
        have hr4 : r < 4 := by have := Int.emod_lt_of_pos n (b := 4) (by decide); omega
        have hkd : Sp.kindOf n = 1 + (r : Int) := by unfold Sp.kindOf; rw [show n % 4 = (r : Int) from hr]
        rw [hkd] at hsn
        have HWN := Lib.hid hwn; have HR := Lib.hid hr; have HST := Lib.hid hst; have HOK := Lib.hid hok; have HSN := Lib.hid hsn; have HS := Lib.hid hS
        have hk15I : (k : Int) < 15 := by omega
        have hk0I : (0 : Int) ≤ (k : Int) := by omega
        obtain ⟨N, hN⟩ : ∃ N, N = S.toks.length := ⟨_, rfl⟩
        have hN22 : N ≤ 21 := by rw [hN, hok.len]; omega
        obtain ⟨lev, hlev⟩ : ∃ lev, lev = S.level := ⟨_, rfl⟩
        have hlv : 0 ≤ lev ∧ lev ≤ 15 := by rw [hlev]; have := hok.nonneg; omega
        obtain ⟨hlv0, hlv15⟩ := hlv
        rw [← hN, ← hlev]
        have HN := Lib.hid hN; have HLEV := Lib.hid hlev
        clear hst hn hwn hr hlc hlb hlbw hkd hsn hok hS hN hlev
        go_wp2_with fail
        refine (ref_Within9 n 4 _ (by decide) (by decide) HWN.out).mono ?_
        rintro e w1' ⟨rfl, rfl⟩
        rw [HR.out]
        go_upto_region 11 with fail
        obtain ⟨wB, hwB⟩ : ∃ wB : World, wB = w0.alloc (.cells #[.int .i64 (1 + (r : Int)), .string ⟨#[]⟩, .slice none 0 0, .int .i64 0] 39) := ⟨_, rfl⟩
        rw [← hwB]
        have hqb : wB.heap[w0.heap.size]? = some (.cells #[.int .i64 (1 + (r : Int)), .string ⟨#[]⟩, .slice none 0 0, .int .i64 0] 39 (0, 0)) := by rw [hwB]; exact heap_last w0 _
        have HQB := Lib.hid hqb
        have HBB : Hid (Below w0.heap.size w0 wB) := Lib.hid (by rw [hwB]; exact (Below.refl _ w0).alloc (Nat.le_refl _) _)
        have c0 := cell_at (i := 0) hqb
        have lq := lt_at hqb
        clear hwB hqb hcl hlw
        obtain ⟨bd, hbd⟩ : ∃ bd, bd = w0.heap.size := ⟨_, rfl⟩
        rw [← hbd] at c0 lq HQB ⊢
        have HBD := Lib.hid hbd
        clear hbd
        go_upto_if 43 with fail
        go_cut [7] from 43 to 45 (fun v7 wx => v7 = .int .i64 (Sp.levUp (1 + (r : Int)) lev) ∧ wx = wB)
        case first =>
          by_cases hr0 : 0 < r
          · have h1 : (1 : Int) < 1 + (r : Int) := by omega
            have h2 : Sp.levUp (1 + (r : Int)) lev = lev + 1 := by unfold Sp.levUp; rw [if_pos h1]
            have H2 := Lib.hid h2
            clear h2
            go_wp2_with fail
            go_meet
            exact ⟨by rw [H2.out], rfl⟩
          · have h1 : ¬ (1 : Int) < 1 + (r : Int) := by omega
            have h2 : Sp.levUp (1 + (r : Int)) lev = lev := by unfold Sp.levUp; rw [if_neg h1]
            have H2 := Lib.hid h2
            clear h2
            go_wp2_with fail
            go_meet
            exact ⟨by rw [H2.out], rfl⟩
        case rest =>
          obtain ⟨rfl, rfl⟩ := hcut
          obtain ⟨lv, hlvd⟩ : ∃ lv, lv = Sp.levUp (1 + (r : Int)) lev := ⟨_, rfl⟩
          have hlv16 : 0 ≤ lv ∧ lv ≤ 16 := by rw [hlvd]; unfold Sp.levUp; split <;> omega
          rw [← hlvd]
          have HLVD := Lib.hid hlvd
          have HLD := Lib.hid (LvD.start HST.out HBB.out HQB.out HBD.out)
          clear hlvd c0 lq HQB HBB
          go_wp2_with fail
          go_loopg [6, 8, 9, 12] 2 (fun q v6 v8 v9 v12 wr => ∃ (c : Nat) (sv : Value), c ≤ 1 + k % 2 ∧ q = 2 - c ∧ v12 = .int .i64 c ∧ v6 = .int .i64 ((N + c : Nat) : Int) ∧ LvD W w0 wr bd (1 + (r : Int)) sv v8 v9 (Sp.symsC N c) ((S.toks ++ Sp.toksC (1 + (r : Int)) lv N c).map (·.level)) ((S.toks ++ Sp.toksC (1 + (r : Int)) lv N c).map (·.assoc)))
          case atStart =>
            refine ⟨0, .slice none 0 0, by omega, rfl, rfl, rfl, ?_⟩
            rw [show Sp.toksC (1 + (r : Int)) lv N 0 = [] from rfl, List.append_nil]
            exact HLD.out
          case round =>
            obtain ⟨c, sv, hc, rfl, rfl, h6, hld⟩ := hrel
            obtain ⟨m, hm⟩ : ∃ m, m = N + c := ⟨_, rfl⟩
            rw [← hm] at h6
            subst h6
            have hm24 : m < 24 := by omega
            by_cases hcn : c ≤ k % 2
            · have hos := hld.syms
              rw [Sp.symsC_len] at hos
              obtain ⟨sa, sc, rfl⟩ := ownsRowS_some hos
              have HO := Lib.hid hos
              have HL2 := Lib.hid hld
              have HWS := Lib.hid hld.gew
              have HM := Lib.hid hm
              have HSK : Hid (∀ w', Kp (fun b => b = bd) wr w' → ((w'.cell? ⟨bd, 2, none⟩ = some (.slice sa c sc) ∧ w'.frozen? ⟨bd, 2, none⟩ = false) ∧ bd < w'.heap.size)) := Lib.hid (fun w' k => by
                have q0 := k.at HL2.out.box rfl
                exact ⟨⟨cell_at (i := 2) q0, frozen_at (i := 2) q0⟩, lt_at q0⟩)
              have HNB : Hid (∀ b, (Value.slice sa c sc).ownBlock = some b → ¬ (b = bd ∨ b < w0.heap.size)) := Lib.hid (fun b hb hs => by
                rcases hs with rfl | hs
                · exact row_ne_cells HO.out HL2.out.box (by decide) _ hb rfl
                · exact Nat.not_lt.2 (HO.out.lt b hb).1 hs)
              have hbig : ¬ 9223372036854775807 < 1 + (Lib.itoa (m : Int)).length := by
                have := tName_sm (i := m) hm24
                omega
              have hm0 : (0 : Int) ≤ (m : Int) := by omega
              have hc0 : (0 : Int) ≤ (c : Int) := by omega
              have hck : (c : Int) ≤ ((k % 2 : Nat) : Int) := by omega
              have htm : (k : Int).tmod 2 = ((k % 2 : Nat) : Int) := by rw [Int.tmod_eq_emod_of_nonneg (by omega)]; omega
              clear hld hos hm
              go_upto_block 3 with fail
              go_cut [6, 8, 9] from 46 to 82 (fun v6 v8 v9 wx => v6 = .int .i64 ((m + 1 : Nat) : Int) ∧ ∃ sv, LvD W w0 wx bd (1 + (r : Int)) sv v8 v9 (Sp.symsC N (c + 1)) ((S.toks ++ Sp.toksC (1 + (r : Int)) lv N c).map (·.level) ++ [(Sp.levTok (1 + (r : Int)) lv m).level]) ((S.toks ++ Sp.toksC (1 + (r : Int)) lv N c).map (·.assoc) ++ [(Sp.levTok (1 + (r : Int)) lv m).assoc]))
              case first =>
                go_upto_region 16 with fail
                refine wp_region_plan (fun w' : World => ((w'.cell? ⟨bd, 2, none⟩ = some (.slice sa c sc) ∧ w'.frozen? ⟨bd, 2, none⟩ = false) ∧ bd < w'.heap.size)) [10] (.take 0 (.take 1 (.take 2 (.take 5 (.one 3 (.one 4 (.one 6 (.one 7 (.one 8 (.one 9 (.one 10 (.done)))))))))))) (by kernel_rfl) (by kernel_rfl) (fun _ _ _ _ h => h) ?_
                have hSw := HSK.out _ ((Kp.refl _ wr).drew)
                refine wpPlan_take (v := ?va1) rfl hSw (by rfl) ?ya1 ?_
                case ya1 => (intro w hSx; (try dsimp only at hSx); go_simp; first | done | with_reducible rfl | rfl)
                (try simp only [Act.put, List.setIfInBounds_toArray, List.set_cons_zero, List.set_cons_succ])
                refine wpPlan_take (v := ?va2) rfl hSw (by rfl) ?ya2 ?_
                case ya2 => (intro w hSx; (try dsimp only at hSx); go_simp; first | done | with_reducible rfl | rfl)
                (try simp only [Act.put, List.setIfInBounds_toArray, List.set_cons_zero, List.set_cons_succ])
                refine wpPlan_take (v := ?va3) rfl hSw (by rfl) ?ya3 ?_
                case ya3 => (intro w hSx; (try dsimp only at hSx); go_simp; first | done | with_reducible rfl | rfl)
                (try simp only [Act.put, List.setIfInBounds_toArray, List.set_cons_zero, List.set_cons_succ])
                refine wpPlan_take (v := ?va4) rfl hSw (by rfl) ?ya4 ?_
                case ya4 => (intro w hSx; (try dsimp only at hSx); go_simp; first | done | with_reducible rfl | rfl)
                (try simp only [Act.put, List.setIfInBounds_toArray, List.set_cons_zero, List.set_cons_succ])
                refine wpPlan_run rfl (by rfl) (fun K' hK => ?_)
                (go_simp; go_at_call 10; refine (ref_Digits (m : Int) _ (by omega) (by omega)).mono ?_; rintro e w5 ⟨rfl, hb5⟩; have hb5' : Below wr.heap.size wr w5 := below_undrew hb5)
                refine hK _ _ (.inr ?_) ?_
                · exact HSK.out _ (Kp.of_below hb5' (fun _ hk _ => hk))
                clear hK K' hSw
                (try simp only [Act.put, List.setIfInBounds_toArray, List.set_cons_zero, List.set_cons_succ])
                refine wpPlan_run rfl (by rfl) (fun K' hK => ?_)
                go_simp
                refine hK _ _ (.inr ?_) ?_
                · exact HSK.out _ (Kp.of_below hb5' (fun _ hk _ => hk))
                clear hK K'
                (try simp only [Act.put, List.setIfInBounds_toArray, List.set_cons_zero, List.set_cons_succ])
                refine wpPlan_run rfl (by rfl) (fun K' hK => ?_)
                (go_simp; go_at_call 9; refine (law9_name (116 :: Lib.itoa (m : Int)) (m : Int) _).mono ?_; rintro e w6 ⟨rfl, hb6⟩; have hb6' : Below wr.heap.size wr w6 := hb5'.trans (hb6.mono hb5'.size))
                refine hK _ _ (.inr ?_) ?_
                · exact HSK.out _ (Kp.of_below hb6' (fun _ hk _ => hk))
                clear hK K'
                (try simp only [Act.put, List.setIfInBounds_toArray, List.set_cons_zero, List.set_cons_succ])
                refine wpPlan_run rfl (by rfl) (fun K' hK => ?_)
                go_simp
                refine hK _ _ (.inr ?_) ?_
                · exact HSK.out _ (Kp.of_below (hb6'.alloc hb6'.size _) (fun _ hk _ => hk))
                clear hK K'
                (try simp only [Act.put, List.setIfInBounds_toArray, List.set_cons_zero, List.set_cons_succ])
                refine wpPlan_run rfl (by rfl) (fun K' hK => ?_)
                (refine wp_append_lies _ _ _ _ (by rfl) w0.heap.size 26 is0 _ 4 40 Tryd.underlying37 his0 hsz0 hsz1 hsz2 rfl (by decide) _ _ _ (by rfl) ((ownsRow_below HO.out hb6').alloc _) ⟨w6.heap.size, 0, none⟩ 1 1 (symC ⟨116 :: Lib.itoa (m : Int), false, 0, (m : Int)⟩) (by rfl) (by rfl) (World.news_of_block (cs := (symC ⟨116 :: Lib.itoa (m : Int), false, 0, (m : Int)⟩).toArray) (t := 26) (fr := (0, 0)) (heap_alloc_new w6 _)) (by simp [Value.oneCell', symC]) (by omega) (by unfold maxLen; omega) (by omega) (by have := hb6'.size; have := HWS.out; simp only [World.size_alloc]; omega) _ rfl ?_; intro g2 c2 w8 hown2 hgrow2 hat2 hlt2; have hk8 : Kp (fun b => b = bd ∨ b < w0.heap.size) wr w8 := (((Kp.of_below hb6' (fun _ hk _ => hk)) : Kp (fun b => b = bd ∨ b < w0.heap.size) wr w6).alloc _).grown hgrow2 (fun k hk hs => HNB.out k hk hs))
                refine hK _ _ (.inr ?_) ?_
                · exact HSK.out _ (hk8.mono (fun _ _ h => .inl h))
                clear hK K'
                (try simp only [Act.put, List.setIfInBounds_toArray, List.set_cons_zero, List.set_cons_succ])
                refine wpPlan_run rfl (by rfl) (fun K' hK => ?_)
                go_simp
                refine hK _ _ (.inr ?_) ?_
                · exact HSK.out _ (hk8.mono (fun _ _ h => .inl h))
                clear hK K'
                (try simp only [Act.put, List.setIfInBounds_toArray, List.set_cons_zero, List.set_cons_succ])
                refine wpPlan_run rfl (by rfl) (fun K' hK => ?_)
                (obtain ⟨⟨z1, z2⟩, hl8⟩ := HSK.out _ (hk8.mono (fun _ _ h => .inl h)); go_simp)
                refine hK _ _ (.inl rfl) ?_
                clear hK K'
                (try simp only [Act.put, List.setIfInBounds_toArray, List.set_cons_zero, List.set_cons_succ])
                refine wpPlan_done ?_
                obtain ⟨wS, hwS⟩ : ∃ wS : World, wS = w8.setCell ⟨bd, 2, none⟩ (.slice (some ⟨g2, 0, none⟩) (c + 1) c2) := ⟨_, rfl⟩
                rw [← hwS]
                have kt8 : KpT (fun t => t ≠ 26) wr w8 := (KpT.below hb6').trans ((KpT.below ((Below.refl _ w6).alloc (Nat.le_refl _) _)).trans (KpT.grown ((ownsRow_below HO.out hb6').alloc _) hgrow2))
                have hl3 := HL2.out.addSym (s := ⟨116 :: Lib.itoa (m : Int), false, 0, (m : Int)⟩) hk8 kt8 (by rw [Sp.symsC_len]; exact hown2) hwS
                rw [show Sp.symsC N c ++ [⟨116 :: Lib.itoa (m : Int), false, 0, (m : Int)⟩] = Sp.symsC N (c + 1) by rw [Sp.symsC_snoc, ← HM.out]; rfl] at hl3
                have hlvs := hl3.levs; have hass := hl3.asss
                rw [List.length_map, List.length_append, Sp.toksC_len, ← HN.out, ← HM.out] at hlvs hass
                obtain ⟨xa, xc, rfl⟩ := ownsRowS_some hlvs
                obtain ⟨ya, yc, rfl⟩ := ownsRowS_some hass
                have HX := Lib.hid hlvs; have HY := Lib.hid hass
                have HL3 := Lib.hid hl3
                have HXY : Hid (∀ b, (Value.slice ya m yc).ownBlock = some b → ∀ d, (Value.slice xa m xc).ownBlock = some d → b ≠ d) := Lib.hid (fun b hb d hd h => HL3.out.sep d b hd hb h.symm)
                have HWW : Hid (W.heap.size ≤ wS.heap.size) := Lib.hid (Nat.le_trans HL3.out.ge0 HL3.out.gew)
                have q3 := hl3.box
                have c0 := cell_at (i := 0) q3
                have l3 := lt_at q3
                clear hwS kt8 hl3 hlvs hass q3 z1 z2 hl8 hlt2 hk8 hown2 hgrow2 hat2 hb5 hb6 hb5' hb6' HO HL2 HSK HNB HWS hbig
                by_cases hr0 : 0 < r
                · have h1 : (1 : Int) < 1 + (r : Int) := by omega
                  have e1 : (Sp.levTok (1 + (r : Int)) lv m).level = lv := by show (if _ then _ else _) = _; rw [if_pos h1]
                  have e2 : (Sp.levTok (1 + (r : Int)) lv m).assoc = IntKind.i64.wrap (1 + (r : Int) - 1) := by show (if _ then _ else _) = _; rw [if_pos h1]; exact (IntWalk.i64_in _ ⟨by omega, by omega⟩).symm
                  have E1 := Lib.hid e1; have E2 := Lib.hid e2
                  have HS19 : Hid (∀ w', Kp (fun b => b = bd) wS w' → ((w'.cell? ⟨bd, 0, none⟩ = some (.int .i64 (1 + (r : Int)))) ∧ bd < w'.heap.size)) := Lib.hid (fun w' k => by
                    have q0 := k.at HL3.out.box rfl
                    exact ⟨cell_at (i := 0) q0, lt_at q0⟩)
                  have HNX : Hid (∀ b, (Value.slice xa m xc).ownBlock = some b → ¬ b = bd) := Lib.hid (fun b hb h => row_ne_cells HX.out HL3.out.box (by decide) b hb h)
                  have HNY : Hid (∀ b, (Value.slice ya m yc).ownBlock = some b → ¬ b = bd) := Lib.hid (fun b hb h => row_ne_cells HY.out HL3.out.box (by decide) b hb h)
                  clear e1 e2 c0 l3
                  have c0 := cell_at (i := 0) HL3.out.box
                  have l3 := lt_at HL3.out.box
                  go_upto_region 19 with fail
                  clear c0 l3
                  refine wp_region_plan (fun w' : World => ((w'.cell? ⟨bd, 0, none⟩ = some (.int .i64 (1 + (r : Int)))) ∧ bd < w'.heap.size)) [11] (.take 0 (.take 1 (.take 4 (.take 5 (.take 6 (.take 7 (.two 2 8 (.two 3 8 (.one 8 (.one 9 (.one 10 (.one 11 (.done))))) (.one 3 (.one 9 (.one 10 (.one 11 (.done)))))) (.one 2 (.one 3 (.one 9 (.one 10 (.one 11 (.done))))))))))))) (by kernel_rfl) (by kernel_rfl) (fun _ _ _ _ h => h) ?_
                  have hSw := HS19.out _ ((Kp.refl _ wS).drew)
                  refine wpPlan_take (v := ?vb5) rfl hSw (by rfl) ?yb5 ?_
                  case yb5 => (intro w hSx; (try dsimp only at hSx); go_simp; first | done | with_reducible rfl | rfl)
                  (try simp only [Act.put, List.setIfInBounds_toArray, List.set_cons_zero, List.set_cons_succ])
                  refine wpPlan_take (v := ?vb6) rfl hSw (by rfl) ?yb6 ?_
                  case yb6 => (intro w hSx; (try dsimp only at hSx); go_simp; first | done | with_reducible rfl | rfl)
                  (try simp only [Act.put, List.setIfInBounds_toArray, List.set_cons_zero, List.set_cons_succ])
                  refine wpPlan_take (v := ?vb7) rfl hSw (by rfl) ?yb7 ?_
                  case yb7 => (intro w hSx; (try dsimp only at hSx); go_simp; first | done | with_reducible rfl | rfl)
                  (try simp only [Act.put, List.setIfInBounds_toArray, List.set_cons_zero, List.set_cons_succ])
                  refine wpPlan_take (v := ?vb8) rfl hSw (by rfl) ?yb8 ?_
                  case yb8 => (intro w hSx; (try dsimp only at hSx); go_simp; first | done | with_reducible rfl | rfl)
                  (try simp only [Act.put, List.setIfInBounds_toArray, List.set_cons_zero, List.set_cons_succ])
                  refine wpPlan_take (v := ?vb9) rfl hSw (by rfl) ?yb9 ?_
                  case yb9 => (intro w hSx; (try dsimp only at hSx); go_simp; first | done | with_reducible rfl | rfl)
                  (try simp only [Act.put, List.setIfInBounds_toArray, List.set_cons_zero, List.set_cons_succ])
                  refine wpPlan_take (v := ?vb10) rfl hSw (by rfl) ?yb10 ?_
                  case yb10 => (intro w hSx; (try dsimp only at hSx); go_simp; first | done | with_reducible rfl | rfl)
                  (try simp only [Act.put, List.setIfInBounds_toArray, List.set_cons_zero, List.set_cons_succ])
                  refine wpPlan_two ?_ ?_
                  · refine wpPlan_run rfl (by rfl) (fun K' hK => ?_)
                    go_simp
                    refine hK _ _ (.inr ?_) ?_
                    · exact HS19.out _ (((Kp.refl _ wS).drew).alloc _)
                    clear hK K' hSw
                    (try simp only [Act.put, List.setIfInBounds_toArray, List.set_cons_zero, List.set_cons_succ])
                    refine wpPlan_two ?_ ?_
                    · refine wpPlan_run rfl (by rfl) (fun K' hK => ?_)
                      (refine wp_append_lies _ _ _ _ (by rfl) W.heap.size 3 ii0 _ 1 8 Tryd.underlying22 hii0 hiz0 hiz1 hiz2 rfl (by decide) _ _ _ (by rfl) (HX.out.alloc _) ⟨wS.heap.size, 0, none⟩ 1 1 [.int .i64 (lv)] (by rfl) (by rfl) (World.news_of_block (cs := #[.int .i64 (lv)]) (t := 3) (fr := (0, 0)) (heap_alloc_new wS _)) (by simp [Value.oneCell']) (by omega) (by unfold maxLen; omega) (by omega) (by have := HWW.out; show W.heap.size ≤ ((wS.alloc (.cells #[.int .i64 lv] 3))).heap.size; simp only [World.size_alloc]; omega) _ rfl ?_; intro gx cx w10 hownx hgrowx hatx hltx; have hgx : (wS.alloc (.cells #[.int .i64 lv] 3)).grownBy w10 (Value.slice xa m xc).ownBlock := ⟨hgrowx.os, hgrowx.tape, hgrowx.output, hgrowx.size, hgrowx.block⟩; have kx : Kp (fun b => ∀ d, (Value.slice xa m xc).ownBlock = some d → b ≠ d) wS w10 := (((Kp.refl _ wS).alloc _)).grown hgx (fun c hc hs => hs c hc rfl); have kb10 : Kp (fun b => b = bd) wS w10 := (((Kp.refl _ wS).alloc _)).grown hgx (fun c hc hs => HNX.out c hc hs); have hy10 := ownsRow_kp HY.out kx HXY.out)
                      refine hK _ _ (.inr ?_) ?_
                      · exact HS19.out _ kb10
                      clear hK K'
                      (try simp only [Act.put, List.setIfInBounds_toArray, List.set_cons_zero, List.set_cons_succ])
                      refine wpPlan_run rfl (by rfl) (fun K' hK => ?_)
                      go_simp
                      refine hK _ _ (.inr ?_) ?_
                      · exact HS19.out _ (kb10.alloc _)
                      clear hK K'
                      (try simp only [Act.put, List.setIfInBounds_toArray, List.set_cons_zero, List.set_cons_succ])
                      refine wpPlan_run rfl (by rfl) (fun K' hK => ?_)
                      (refine wp_append_lies _ _ _ _ (by rfl) W.heap.size 3 ii0 _ 1 8 Tryd.underlying22 hii0 hiz0 hiz1 hiz2 rfl (by decide) _ _ _ (by rfl) (hy10.alloc _) ⟨w10.heap.size, 0, none⟩ 1 1 [.int .i64 (IntKind.i64.wrap (1 + (r : Int) - 1))] (by rfl) (by rfl) (World.news_of_block (cs := #[.int .i64 (IntKind.i64.wrap (1 + (r : Int) - 1))]) (t := 3) (fr := (0, 0)) (heap_alloc_new w10 _)) (by simp [Value.oneCell']) (by omega) (by unfold maxLen; omega) (by omega) (by have := HWW.out; have := kx.size; (try simp only [World.size_alloc]); omega) _ rfl ?_; intro gy cy w11 howny hgrowy haty hlty; have hgy : (w10.alloc (.cells #[.int .i64 (IntKind.i64.wrap (1 + (r : Int) - 1))] 3)).grownBy w11 (Value.slice ya m yc).ownBlock := ⟨hgrowy.os, hgrowy.tape, hgrowy.output, hgrowy.size, hgrowy.block⟩; have ky : Kp (fun b => ∀ d, (Value.slice ya m yc).ownBlock = some d → b ≠ d) w10 w11 := (((Kp.refl _ w10).alloc _)).grown hgy (fun c hc hs => hs c hc rfl); have kb11 : Kp (fun b => b = bd) wS w11 := ((kb10.alloc _)).grown hgy (fun c hc hs => HNY.out c hc hs))
                      refine hK _ _ (.inr ?_) ?_
                      · exact HS19.out _ kb11
                      clear hK K'
                      (try simp only [Act.put, List.setIfInBounds_toArray, List.set_cons_zero, List.set_cons_succ])
                      refine wpPlan_run rfl (by rfl) (fun K' hK => ?_)
                      go_simp
                      refine hK _ _ (.inr ?_) ?_
                      · exact HS19.out _ kb11
                      clear hK K'
                      (try simp only [Act.put, List.setIfInBounds_toArray, List.set_cons_zero, List.set_cons_succ])
                      refine wpPlan_run rfl (by rfl) (fun K' hK => ?_)
                      go_simp
                      refine hK _ _ (.inl rfl) ?_
                      clear hK K'
                      (try simp only [Act.put, List.setIfInBounds_toArray, List.set_cons_zero, List.set_cons_succ])
                      refine wpPlan_done ?_
                      go_wp2_with fail
                      go_meet
                      refine ⟨by go_num, .slice (some ⟨g2, 0, none⟩) (c + 1) c2, ?_⟩
                      rw [E1.out, E2.out]
                      exact HL3.out.addTwo kx (by rw [List.length_map, List.length_append, Sp.toksC_len, ← HN.out, ← HM.out]; exact hownx) (hatx.imp id (fun h => by rw [h]; simp <;> omega)) hltx ky (by rw [List.length_map, List.length_append, Sp.toksC_len, ← HN.out, ← HM.out]; exact howny) (haty.imp id (fun h => by rw [h]; (try simp only [World.size_alloc]); first | omega | exact Nat.le_refl _))
                    · refine wpPlan_run rfl (by rfl) (fun K' hK => ?_)
                      go_simp
                      refine hK _ _ (.inr ?_) ?_
                      · exact HS19.out _ ((((Kp.refl _ wS).drew).alloc _).alloc _)
                      clear hK K'
                      (try simp only [Act.put, List.setIfInBounds_toArray, List.set_cons_zero, List.set_cons_succ])
                      refine wpPlan_run rfl (by rfl) (fun K' hK => ?_)
                      (refine wp_append_lies _ _ _ _ (by rfl) W.heap.size 3 ii0 _ 1 8 Tryd.underlying22 hii0 hiz0 hiz1 hiz2 rfl (by decide) _ _ _ (by rfl) ((HX.out.alloc _).alloc _) ⟨wS.heap.size, 0, none⟩ 1 1 [.int .i64 (lv)] (by rfl) (by rfl) (World.news_of_block (cs := #[.int .i64 (lv)]) (t := 3) (fr := (0, 0)) (heap_old (heap_last wS _) _)) (by simp [Value.oneCell']) (by omega) (by unfold maxLen; omega) (by omega) (by have := HWW.out; show W.heap.size ≤ (((wS.alloc (.cells #[.int .i64 lv] 3)).alloc (.cells #[.int .i64 (IntKind.i64.wrap (1 + (r : Int) - 1))] 3))).heap.size; simp only [World.size_alloc]; omega) _ rfl ?_; intro gx cx w10 hownx hgrowx hatx hltx; have hgx : ((wS.alloc (.cells #[.int .i64 lv] 3)).alloc (.cells #[.int .i64 (IntKind.i64.wrap (1 + (r : Int) - 1))] 3)).grownBy w10 (Value.slice xa m xc).ownBlock := ⟨hgrowx.os, hgrowx.tape, hgrowx.output, hgrowx.size, hgrowx.block⟩; have kx : Kp (fun b => ∀ d, (Value.slice xa m xc).ownBlock = some d → b ≠ d) wS w10 := ((((Kp.refl _ wS).alloc _).alloc _)).grown hgx (fun c hc hs => hs c hc rfl); have kb10 : Kp (fun b => b = bd) wS w10 := ((((Kp.refl _ wS).alloc _).alloc _)).grown hgx (fun c hc hs => HNX.out c hc hs); have hy10 := ownsRow_kp HY.out kx HXY.out)
                      refine hK _ _ (.inr ?_) ?_
                      · exact HS19.out _ kb10
                      clear hK K'
                      (try simp only [Act.put, List.setIfInBounds_toArray, List.set_cons_zero, List.set_cons_succ])
                      refine wpPlan_run rfl (by rfl) (fun K' hK => ?_)
                      (refine wp_append_lies _ _ _ _ (by rfl) W.heap.size 3 ii0 _ 1 8 Tryd.underlying22 hii0 hiz0 hiz1 hiz2 rfl (by decide) _ _ _ (by rfl) hy10 ⟨(wS.heap.size + 1), 0, none⟩ 1 1 [.int .i64 (IntKind.i64.wrap (1 + (r : Int) - 1))] (by rfl) (by rfl) (World.news_of_block (cs := #[.int .i64 (IntKind.i64.wrap (1 + (r : Int) - 1))]) (t := 3) (fr := (0, 0)) ((((Kp.refl _ ((wS.alloc (.cells #[.int .i64 lv] 3)).alloc (.cells #[.int .i64 (IntKind.i64.wrap (1 + (r : Int) - 1))] 3))).grown hgx (fun c hc hs => hs c hc rfl)) : Kp (fun b => ∀ d, (Value.slice xa m xc).ownBlock = some d → b ≠ d) ((wS.alloc (.cells #[.int .i64 lv] 3)).alloc (.cells #[.int .i64 (IntKind.i64.wrap (1 + (r : Int) - 1))] 3)) w10).at (heap_sec wS _ _) (fun d hd => by have := (HX.out.lt d hd).2; omega))) (by simp [Value.oneCell']) (by omega) (by unfold maxLen; omega) (by omega) (by have := HWW.out; have := kx.size; (try simp only [World.size_alloc]); omega) _ rfl ?_; intro gy cy w11 howny hgrowy haty hlty; have hgy : w10.grownBy w11 (Value.slice ya m yc).ownBlock := ⟨hgrowy.os, hgrowy.tape, hgrowy.output, hgrowy.size, hgrowy.block⟩; have ky : Kp (fun b => ∀ d, (Value.slice ya m yc).ownBlock = some d → b ≠ d) w10 w11 := ((Kp.refl _ w10)).grown hgy (fun c hc hs => hs c hc rfl); have kb11 : Kp (fun b => b = bd) wS w11 := (kb10).grown hgy (fun c hc hs => HNY.out c hc hs))
                      refine hK _ _ (.inr ?_) ?_
                      · exact HS19.out _ kb11
                      clear hK K'
                      (try simp only [Act.put, List.setIfInBounds_toArray, List.set_cons_zero, List.set_cons_succ])
                      refine wpPlan_run rfl (by rfl) (fun K' hK => ?_)
                      go_simp
                      refine hK _ _ (.inr ?_) ?_
                      · exact HS19.out _ kb11
                      clear hK K'
                      (try simp only [Act.put, List.setIfInBounds_toArray, List.set_cons_zero, List.set_cons_succ])
                      refine wpPlan_run rfl (by rfl) (fun K' hK => ?_)
                      go_simp
                      refine hK _ _ (.inl rfl) ?_
                      clear hK K'
                      (try simp only [Act.put, List.setIfInBounds_toArray, List.set_cons_zero, List.set_cons_succ])
                      refine wpPlan_done ?_
                      go_wp2_with fail
                      go_meet
                      refine ⟨by go_num, .slice (some ⟨g2, 0, none⟩) (c + 1) c2, ?_⟩
                      rw [E1.out, E2.out]
                      exact HL3.out.addTwo kx (by rw [List.length_map, List.length_append, Sp.toksC_len, ← HN.out, ← HM.out]; exact hownx) (hatx.imp id (fun h => by rw [h]; simp <;> omega)) hltx ky (by rw [List.length_map, List.length_append, Sp.toksC_len, ← HN.out, ← HM.out]; exact howny) (haty.imp id (fun h => by rw [h]; (try simp only [World.size_alloc]); first | omega | exact Nat.le_refl _))
                  · refine wpPlan_run rfl (by rfl) (fun K' hK => ?_)
                    go_simp
                    refine hK _ _ (.inr ?_) ?_
                    · exact HS19.out _ (((Kp.refl _ wS).drew).alloc _)
                    clear hK K' hSw
                    (try simp only [Act.put, List.setIfInBounds_toArray, List.set_cons_zero, List.set_cons_succ])
                    refine wpPlan_run rfl (by rfl) (fun K' hK => ?_)
                    go_simp
                    refine hK _ _ (.inr ?_) ?_
                    · exact HS19.out _ ((((Kp.refl _ wS).drew).alloc _).alloc _)
                    clear hK K'
                    (try simp only [Act.put, List.setIfInBounds_toArray, List.set_cons_zero, List.set_cons_succ])
                    refine wpPlan_run rfl (by rfl) (fun K' hK => ?_)
                    (refine wp_append_lies _ _ _ _ (by rfl) W.heap.size 3 ii0 _ 1 8 Tryd.underlying22 hii0 hiz0 hiz1 hiz2 rfl (by decide) _ _ _ (by rfl) ((HX.out.alloc _).alloc _) ⟨(wS.heap.size + 1), 0, none⟩ 1 1 [.int .i64 (lv)] (by rfl) (by rfl) (World.news_of_block (cs := #[.int .i64 (lv)]) (t := 3) (fr := (0, 0)) (heap_sec wS _ _)) (by simp [Value.oneCell']) (by omega) (by unfold maxLen; omega) (by omega) (by have := HWW.out; show W.heap.size ≤ (((wS.alloc (.cells #[.int .i64 (IntKind.i64.wrap (1 + (r : Int) - 1))] 3)).alloc (.cells #[.int .i64 lv] 3))).heap.size; simp only [World.size_alloc]; omega) _ rfl ?_; intro gx cx w10 hownx hgrowx hatx hltx; have hgx : ((wS.alloc (.cells #[.int .i64 (IntKind.i64.wrap (1 + (r : Int) - 1))] 3)).alloc (.cells #[.int .i64 lv] 3)).grownBy w10 (Value.slice xa m xc).ownBlock := ⟨hgrowx.os, hgrowx.tape, hgrowx.output, hgrowx.size, hgrowx.block⟩; have kx : Kp (fun b => ∀ d, (Value.slice xa m xc).ownBlock = some d → b ≠ d) wS w10 := ((((Kp.refl _ wS).alloc _).alloc _)).grown hgx (fun c hc hs => hs c hc rfl); have kb10 : Kp (fun b => b = bd) wS w10 := ((((Kp.refl _ wS).alloc _).alloc _)).grown hgx (fun c hc hs => HNX.out c hc hs); have hy10 := ownsRow_kp HY.out kx HXY.out)
                    refine hK _ _ (.inr ?_) ?_
                    · exact HS19.out _ kb10
                    clear hK K'
                    (try simp only [Act.put, List.setIfInBounds_toArray, List.set_cons_zero, List.set_cons_succ])
                    refine wpPlan_run rfl (by rfl) (fun K' hK => ?_)
                    (refine wp_append_lies _ _ _ _ (by rfl) W.heap.size 3 ii0 _ 1 8 Tryd.underlying22 hii0 hiz0 hiz1 hiz2 rfl (by decide) _ _ _ (by rfl) hy10 ⟨wS.heap.size, 0, none⟩ 1 1 [.int .i64 (IntKind.i64.wrap (1 + (r : Int) - 1))] (by rfl) (by rfl) (World.news_of_block (cs := #[.int .i64 (IntKind.i64.wrap (1 + (r : Int) - 1))]) (t := 3) (fr := (0, 0)) ((((Kp.refl _ ((wS.alloc (.cells #[.int .i64 (IntKind.i64.wrap (1 + (r : Int) - 1))] 3)).alloc (.cells #[.int .i64 lv] 3))).grown hgx (fun c hc hs => hs c hc rfl)) : Kp (fun b => ∀ d, (Value.slice xa m xc).ownBlock = some d → b ≠ d) ((wS.alloc (.cells #[.int .i64 (IntKind.i64.wrap (1 + (r : Int) - 1))] 3)).alloc (.cells #[.int .i64 lv] 3)) w10).at (heap_old (heap_last wS _) _) (fun d hd => by have := (HX.out.lt d hd).2; omega))) (by simp [Value.oneCell']) (by omega) (by unfold maxLen; omega) (by omega) (by have := HWW.out; have := kx.size; (try simp only [World.size_alloc]); omega) _ rfl ?_; intro gy cy w11 howny hgrowy haty hlty; have hgy : w10.grownBy w11 (Value.slice ya m yc).ownBlock := ⟨hgrowy.os, hgrowy.tape, hgrowy.output, hgrowy.size, hgrowy.block⟩; have ky : Kp (fun b => ∀ d, (Value.slice ya m yc).ownBlock = some d → b ≠ d) w10 w11 := ((Kp.refl _ w10)).grown hgy (fun c hc hs => hs c hc rfl); have kb11 : Kp (fun b => b = bd) wS w11 := (kb10).grown hgy (fun c hc hs => HNY.out c hc hs))
                    refine hK _ _ (.inr ?_) ?_
                    · exact HS19.out _ kb11
                    clear hK K'
                    (try simp only [Act.put, List.setIfInBounds_toArray, List.set_cons_zero, List.set_cons_succ])
                    refine wpPlan_run rfl (by rfl) (fun K' hK => ?_)
                    go_simp
                    refine hK _ _ (.inr ?_) ?_
                    · exact HS19.out _ kb11
                    clear hK K'
                    (try simp only [Act.put, List.setIfInBounds_toArray, List.set_cons_zero, List.set_cons_succ])
                    refine wpPlan_run rfl (by rfl) (fun K' hK => ?_)
                    go_simp
                    refine hK _ _ (.inl rfl) ?_
                    clear hK K'
                    (try simp only [Act.put, List.setIfInBounds_toArray, List.set_cons_zero, List.set_cons_succ])
                    refine wpPlan_done ?_
                    go_wp2_with fail
                    go_meet
                    refine ⟨by go_num, .slice (some ⟨g2, 0, none⟩) (c + 1) c2, ?_⟩
                    rw [E1.out, E2.out]
                    exact HL3.out.addTwo kx (by rw [List.length_map, List.length_append, Sp.toksC_len, ← HN.out, ← HM.out]; exact hownx) (hatx.imp id (fun h => by rw [h]; simp <;> omega)) hltx ky (by rw [List.length_map, List.length_append, Sp.toksC_len, ← HN.out, ← HM.out]; exact howny) (haty.imp id (fun h => by rw [h]; (try simp only [World.size_alloc]); first | omega | exact Nat.le_refl _))
                · have h1 : ¬ (1 : Int) < 1 + (r : Int) := by omega
                  have e1 : (Sp.levTok (1 + (r : Int)) lv m).level = 0 := by show (if _ then _ else _) = _; rw [if_neg h1]
                  have e2 : (Sp.levTok (1 + (r : Int)) lv m).assoc = 0 := by show (if _ then _ else _) = _; rw [if_neg h1]
                  have E1 := Lib.hid e1; have E2 := Lib.hid e2
                  clear e1 e2
                  go_wp2_with (first | (at_builtin; refine wpList_append_lies _ rfl _ _ 22 rfl W.heap.size 3 ii0 _ 1 8 Tryd.underlying22 hii0 hiz0 hiz1 hiz2 rfl (by decide) _ _ _ rfl (HX.out.alloc _) ⟨wS.heap.size, 0, none⟩ 1 1 [.int .i64 (0)] rfl rfl (World.news_of_block (cs := #[.int .i64 (0)]) (t := 3) (fr := (0, 0)) (heap_alloc_new wS _)) (by simp [Value.oneCell']) (by omega) (by unfold maxLen; omega) (by omega) (by have := HWW.out; simp only [World.size_alloc]; omega) _ rfl ?_; intro gx cx w10 hownx hgrowx hatx hltx) | (at_builtin; refine wpList_append_lies _ rfl _ _ 22 rfl W.heap.size 3 ii0 _ 1 8 Tryd.underlying22 hii0 hiz0 hiz1 hiz2 rfl (by decide) _ _ _ rfl ((ownsRow_kp HY.out (((Kp.refl _ wS).alloc _).grown hgrowx (fun c hc hs => hs c hc rfl) : Kp (fun b => ∀ d, (Value.slice xa m xc).ownBlock = some d → b ≠ d) wS w10) HXY.out).alloc _) ⟨w10.heap.size, 0, none⟩ 1 1 [.int .i64 (0)] rfl rfl (World.news_of_block (cs := #[.int .i64 (0)]) (t := 3) (fr := (0, 0)) (heap_alloc_new w10 _)) (by simp [Value.oneCell']) (by omega) (by unfold maxLen; omega) (by omega) (by have := HWW.out; have := hgrowx.size; simp only [World.size_alloc] at *; omega) _ rfl ?_; intro gy cy w11 howny hgrowy haty hlty))
                  go_meet
                  refine ⟨by go_num, .slice (some ⟨g2, 0, none⟩) (c + 1) c2, ?_⟩
                  rw [E1.out, E2.out]
                  refine HL3.out.addTwo (((Kp.refl _ wS).alloc _).grown hgrowx (fun c hc hs => hs c hc rfl)) ?_ (hatx.imp id (fun h => by rw [h]; simp)) hltx (((Kp.refl _ w10).alloc _).grown hgrowy (fun c hc hs => hs c hc rfl)) ?_ (haty.imp id (fun h => by rw [h]; simp))
                  · rw [List.length_map, List.length_append, Sp.toksC_len, ← HN.out, ← HM.out]
                    exact hownx
                  · rw [List.length_map, List.length_append, Sp.toksC_len, ← HN.out, ← HM.out]
                    exact howny
              case rest =>
                obtain ⟨h6, sv2, hcut2⟩ := hcut
                subst h6
                have HC := Lib.hid hcut2
                clear hcut2
                go_wp2_with fail
                go_roundg (2 - (c + 1))
                case measure => omega
                case rel =>
                  refine ⟨c + 1, sv2, by omega, by omega, by go_num, by rw [HM.out]; go_num, ?_⟩
                  rw [Sp.toksC_snoc, ← HM.out, ← List.append_assoc, List.map_append (l₂ := [_]), List.map_append (l₂ := [_])]
                  exact HC.out
            · obtain rfl : c = 1 + k % 2 := by omega
              obtain ⟨c, hce⟩ : ∃ c, c = 1 + k % 2 := ⟨_, rfl⟩
              rw [← hce] at hld hm hc ⊢
              have hos := hld.syms
              rw [Sp.symsC_len] at hos
              obtain ⟨sa, sc, rfl⟩ := ownsRowS_some hos
              have hds := decls_kp HST.out.st.decls hld.old (by decide) (by decide)
              obtain ⟨f, ho, hch⟩ := hds
              have hct := HOK.out.count
              rw [hct] at ho
              obtain ⟨da, dc, rfl⟩ := ownsRowS_some ho
              have HO := Lib.hid ho; have HCH := Lib.hid hch; have HLD2 := Lib.hid hld; have HM := Lib.hid hm; have HCT := Lib.hid hct; have HCE := Lib.hid hce
              have HWW : Hid (W.heap.size ≤ wr.heap.size) := Lib.hid (Nat.le_trans hld.ge0 hld.gew)
              have hsrc := hld.old _ _ _ _ HST.out.st.src (by decide)
              have HSRC := Lib.hid hsrc
              have q0 := hld.box
              have c0 := cell_at (i := 0) q0; have c1 := cell_at (i := 1) q0; have c2 := cell_at (i := 2) q0; have c3 := cell_at (i := 3) q0
              have l0 := lt_at q0
              have s1 := cell_at (i := 1) hsrc
              have s2 := frozen_at (i := 1) hsrc
              have s3 := lt_at hsrc
              have hck : ¬ (c : Int) ≤ ((k % 2 : Nat) : Int) := by omega
              have htm : (k : Int).tmod 2 = ((k % 2 : Nat) : Int) := by rw [Int.tmod_eq_emod_of_nonneg (by omega)]; omega
              have hfin : Sp.levAt l (k + 1) = ⟨S.decls ++ [⟨1 + (r : Int), [], Sp.symsC N c, 0⟩], S.toks ++ Sp.toksC (1 + (r : Int)) lv N c, lv⟩ := by
                rw [HSN.out, Sp.levStep_C, ← HN.out, ← HLEV.out, ← HLVD.out, ← hce]
              have HFIN := Lib.hid hfin
              clear hld hos ho hch hct hm hce q0 hsrc hfin hcn
              go_wp2_with (at_builtin; refine wpList_append_lies _ rfl _ _ 33 rfl W.heap.size 39 id0 _ 4 56 Tryd.underlying33 hid0 hdz0 hdz1 hdz2 rfl (by decide) _ _ _ rfl (HO.out.alloc _) ⟨wr.heap.size, 0, none⟩ 1 1 (declC (.slice sa c sc) ⟨1 + (r : Int), [], Sp.symsC N c, 0⟩) rfl rfl (World.news_of_block (cs := #[.int .i64 (1 + (r : Int)), .string ⟨#[]⟩, .slice sa c sc, .int .i64 0]) (t := 39) (fr := (0, 0)) (heap_alloc_new wr _)) (by simp [Value.oneCell', declC]) (by omega) (by unfold maxLen; omega) (by omega) (by have := HWW.out; simp only [World.size_alloc]; omega) _ rfl ?_; intro g2 c2 w8 hown2 hgrow2 hat2 hlt2; have q8 := (((Kp.refl _ wr).alloc _).grown hgrow2 (fun c hc hs => row_ne_cells HO.out HSRC.out (by decide) c hc hs) : Kp (fun b => b = bs) wr w8).at HSRC.out rfl; have z1 := cell_at (i := 1) q8; have z2 := frozen_at (i := 1) q8; have z3 := lt_at q8; clear q8)
              go_roundg (15 - (k + 1))
              case measure => omega
              case rel =>
                refine ⟨k + 1, .slice (some ⟨g2, 0, none⟩) (k + 1) c2, by omega, by omega, by omega, by go_num, ?_, ?_, ?_⟩
                · rw [HFIN.out]
                  show _ = Value.int .i64 (((S.toks ++ Sp.toksC (1 + (r : Int)) lv N c).length : Nat) : Int)
                  rw [List.length_append, Sp.toksC_len, ← HN.out, ← HM.out]
                · rw [HFIN.out]
                · rw [HFIN.out]
                  have ho2 := HO.out
                  rw [← HCT.out] at ho2
                  refine LvI.step HST.out HLD2.out ?_ HCH.out hgrow2 ?_ rfl
                  · rw [HCT.out]
                    exact HO.out
                  · rw [HCT.out]
                    exact hown2
      · have hcs : k = l.length ∨ k = 15 := by omega
        have HST := Lib.hid hst
        clear hst hok
        by_cases hkl2 : k < l.length
        · have hk15b : ¬ (k : Int) < 15 := by omega
          have hkI : (k : Int) < (l.length : Int) := by omega
          have hk0I : (0 : Int) ≤ (k : Int) := by omega
          go_wp2_with fail
          go_meet
          exact ⟨k, dv, hkl, hk15, rfl, rfl, HST.out⟩
        · have hkI : ¬ (k : Int) < (l.length : Int) := by omega
          have hk0I : (0 : Int) ≤ (k : Int) := by omega
          go_wp2_with fail
          go_meet
          exact ⟨k, dv, hkl, hk15, rfl, rfl, HST.out⟩
  case rest =>
    obtain ⟨w, hw⟩ : ∃ w : World, w = wc := ⟨_, rfl⟩
    subst hw
    obtain ⟨k, dv, hkl, hk15, rfl, rfl, hst⟩ := hcut
    have hok := Sp.levAt_ok hkl hk15
    have hfine := Sp.lev_fine hkl hk15
    have hsm := lev_small l k hkl hk15
    have hag : ∀ t, t < (Sp.levAt l k).toks.length → _ := fun t ht => Sp.lev_again hkl hk15 t ht
    obtain ⟨S, hS⟩ : ∃ S, S = Sp.levAt l k := ⟨_, rfl⟩
    rw [← hS] at hst hok hfine hsm hag ⊢
    clear hS
    obtain ⟨N, hN⟩ : ∃ N, N = S.toks.length := ⟨_, rfl⟩
    have hN22 : N ≤ 22 := by rw [hN, hok.len]; omega
    obtain ⟨lev, hlev⟩ : ∃ lev, lev = S.level := ⟨_, rfl⟩
    have hlv : 0 ≤ lev ∧ lev ≤ 15 := by rw [hlev]; have := hok.nonneg; omega
    have hcd : S.decls.length ≤ 15 := by rw [hok.count]; exact hk15
    rw [← hN, ← hlev]
    have hlvs := hst.levs; have hass := hst.asss
    rw [List.length_map, ← hN] at hlvs hass
    obtain ⟨xa, xc, rfl⟩ := ownsRowS_some hlvs
    obtain ⟨ya, yc, rfl⟩ := ownsRowS_some hass
    have HX := Lib.hid hlvs; have HY := Lib.hid hass; have HST := Lib.hid hst; have HN := Lib.hid hN; have HLEV := Lib.hid hlev; have HSM := Lib.hid hsm; have HAG := Lib.hid hag; have HLV := Lib.hid hlv
    have q0 := hst.st.src
    have c0 := cell_at (i := 0) q0; have c1 := cell_at (i := 1) q0; have c2 := cell_at (i := 2) q0; have c3 := cell_at (i := 3) q0
    have l0 := lt_at q0
    have hz6 : 6 ≤ w.heap.size := by have := HG.out.2.1; have := HBS.out; omega
    have hof := gram_Of ⟨[], S.decls, [⟨[97], [⟨[], ⟨[], false, 0, 0⟩, 0⟩], 0⟩], []⟩ dv rv w (decls_at hst.st.decls) (rules_at hst.st.rules) (levSrc_small (by omega) hsm) (HG.out.up hst.bel hz6)
    rw [show Sp.gramOf ⟨[], S.decls, [⟨[97], [⟨[], ⟨[], false, 0, 0⟩, 0⟩], 0⟩], []⟩ = (Sp.levGram S.toks, ⟨0, 0, []⟩) from hfine] at hof
    have hgl := Sp.levGram_len S.toks
    have htk : ∀ (j : Nat) (t : Sp.Tok), S.toks[j]? = some t → _ := fun j t h => Sp.levGram_tok h
    rw [← hN] at hgl
    obtain ⟨G, hG⟩ : ∃ G, G = Sp.levGram S.toks := ⟨_, rfl⟩
    rw [← hG] at hof hgl htk
    have HOF := Lib.hid hof; have HGL := Lib.hid hgl; have HTK := Lib.hid htk; have HZ6 := Lib.hid hz6; have HOK := Lib.hid hok
    clear hof hgl htk hz6 hok hfine hsm hag hst hlvs hass q0 hN hlev hlv hG hkl hk15 hcd
    go_wp2_with fail
    refine HOF.out.mono ?_
    rintro e w2 ⟨hb2, gv, rfl, hgo⟩
    have hga := hgo.at
    obtain ⟨B, ta, tc, nna, nnc, ppa, ppc, rfl, _⟩ := hgo
    obtain ⟨tv, nv, pv, ev, ht, _⟩ := hga
    replace ev := Value.agg.inj ev
    simp only [Array.mk.injEq, List.cons.injEq] at ev
    obtain ⟨rfl, rfl, rfl, ev'⟩ := ev
    clear ev'
    rw [HGL.out] at ht ⊢
    have HT := Lib.hid ht
    have HS2 := Lib.hid (HST.out.below hb2)
    have HZ2 : Hid (6 ≤ w2.heap.size) := Lib.hid (Nat.le_trans HZ6.out hb2.size)
    have HSWW : Hid (W.heap.size ≤ w2.heap.size) := Lib.hid (Nat.le_trans HST.out.bel.size hb2.size)
    have HX2 := Lib.hid (ownsRow_below HX.out hb2); have HY2 := Lib.hid (ownsRow_below HY.out hb2)
    clear ht hb2 HOF HST HX HY HZ6 c0 c1 c2 c3 l0
    rw [show faultV (G, (⟨0, 0, []⟩ : Sp.Fault)).2 = .agg #[.int .i64 0, .int .i64 0, .string ⟨#[]⟩] from rfl]
    go_upto_block 4 with fail
    obtain ⟨wE, hwE⟩ : ∃ wE : World, wE = (w2.alloc (.cells #[.slice ta (N + 3) tc, .slice nna G.nons.length nnc, .slice ppa G.prods.length ppc, .string ⟨G.pro.toArray⟩, .string ⟨G.tail.toArray⟩] 46)).alloc (.cells #[.int .i64 0, .int .i64 0, .string ⟨#[]⟩] 49) := ⟨_, rfl⟩
    rw [← hwE]
    have HGE : Hid (wE.heap[w2.heap.size]? = some (.cells #[.slice ta (N + 3) tc, .slice nna G.nons.length nnc, .slice ppa G.prods.length ppc, .string ⟨G.pro.toArray⟩, .string ⟨G.tail.toArray⟩] 46 (0, 0)) ∧ wE.heap[w2.heap.size + 1]? = some (.cells #[.int .i64 0, .int .i64 0, .string ⟨#[]⟩] 49 (0, 0))) := Lib.hid (by rw [hwE]; exact ⟨heap_old (heap_last w2 _) _, heap_sec w2 _ _⟩)
    have HBE : Hid (Below w2.heap.size w2 wE) := Lib.hid (by rw [hwE]; exact ((Below.refl _ w2).alloc (Nat.le_refl _) _).alloc (by simp) _)
    clear hwE
    go_cut [] (fun wx => Below wE.heap.size wE wx)
    case first =>
      go_wp2_with fail
      go_loopg [15] N (fun q v15 wr => ∃ i : Nat, i ≤ N ∧ q = N - i ∧ v15 = .int .i64 i ∧ Below wE.heap.size wE wr)
      case atStart => exact ⟨0, by omega, rfl, rfl, Below.refl _ _⟩
      case round =>
        obtain ⟨i, hi, rfl, rfl, hbw⟩ := hrel
        by_cases hin : i < N
        · obtain ⟨t, ht⟩ : ∃ t, S.toks[i]? = some t := ⟨_, List.getElem?_eq_getElem (by rw [← HN.out]; exact hin)⟩
          have hnm := (HOK.out.names i t ht).1
          rw [Nat.zero_add] at hnm
          obtain ⟨u, hu, hu1, hu2, hu3, _⟩ := HTK.out i t ht
          obtain ⟨bt, ot, rfl, hbt, t1⟩ := HT.out.at (k := i + 3) (row := tokC u) (by rw [List.getElem?_map, hu]; rfl)
          have hx := HX2.out; have hy := HY2.out
          obtain ⟨xb, xbc, hxb⟩ := own_form hx (by omega)
          obtain ⟨yb, ybc, hyb⟩ := own_form hy (by omega)
          simp only [Value.slice.injEq] at hxb hyb
          obtain ⟨rfl, _, rfl⟩ := hxb
          obtain ⟨rfl, _, rfl⟩ := hyb
          obtain ⟨tl, htl⟩ : ∃ tl, tl = t.level := ⟨_, rfl⟩
          obtain ⟨tq, htq⟩ : ∃ tq, tq = t.assoc := ⟨_, rfl⟩
          have hcx : w2.cell? ⟨xb, i, none⟩ = some (.int .i64 tl) := by
            rw [hx.cellAt i (by omega), htl]
            unfold intsC
            rw [List.getElem?_map, List.getElem?_map, ht]
            rfl
          have hcy : w2.cell? ⟨yb, i, none⟩ = some (.int .i64 tq) := by
            rw [hy.cellAt i (by omega), htq]
            unfold intsC
            rw [List.getElem?_map, List.getElem?_map, ht]
            rfl
          have hxl := (hx.lt xb rfl).2; have hyl := (hy.lt yb rfl).2
          have HSE : Hid (∀ w', Below wE.heap.size wE w' → ((w'.cell? ⟨w2.heap.size, 0, none⟩ = some (.slice (some ⟨bt, ot, none⟩) (N + 3) tc)) ∧ w'.cell? ⟨bt, ot + (i + 3) * 6, none⟩ = some (.string ⟨(116 :: Lib.itoa (i : Int)).toArray⟩) ∧ w'.cell? ⟨bt, ot + (i + 3) * 6 + 3, none⟩ = some (.int .i64 tl) ∧ w'.cell? ⟨bt, ot + (i + 3) * 6 + 4, none⟩ = some (.int .i64 tq) ∧ w'.cell? ⟨xb, i, none⟩ = some (.int .i64 tl) ∧ w'.cell? ⟨yb, i, none⟩ = some (.int .i64 tq) ∧ w2.heap.size < w'.heap.size ∧ bt < w'.heap.size ∧ xb < w'.heap.size ∧ yb < w'.heap.size)) := Lib.hid (fun w' h => by
            have h2 := HBE.out.trans (h.mono HBE.out.size)
            have v0 := t1 w' h2 0 _ rfl; have v3 := t1 w' h2 3 _ rfl; have v4 := t1 w' h2 4 _ rfl
            rw [hu1, hnm] at v0
            rw [hu2, ← htl] at v3
            rw [hu3, ← htq] at v4
            simp only [Nat.add_zero] at v0
            have g := (h.block _ (lt_at HGE.out.1)).trans HGE.out.1
            refine ⟨cell_at (i := 0) g, v0, v3, v4, (h2.cell (p := ⟨xb, i, none⟩) hxl).trans hcx, (h2.cell (p := ⟨yb, i, none⟩) hyl).trans hcy, lt_at g, ?_, ?_, ?_⟩
            · have := h2.size; omega
            · have := h2.size; omega
            · have := h2.size; omega)
          have HBW := Lib.hid hbw
          have HSB : Hid (∀ w', Below wr.heap.size wr w' → ((w'.cell? ⟨w2.heap.size, 0, none⟩ = some (.slice (some ⟨bt, ot, none⟩) (N + 3) tc)) ∧ w'.cell? ⟨bt, ot + (i + 3) * 6, none⟩ = some (.string ⟨(116 :: Lib.itoa (i : Int)).toArray⟩) ∧ w'.cell? ⟨bt, ot + (i + 3) * 6 + 3, none⟩ = some (.int .i64 tl) ∧ w'.cell? ⟨bt, ot + (i + 3) * 6 + 4, none⟩ = some (.int .i64 tq) ∧ w'.cell? ⟨xb, i, none⟩ = some (.int .i64 tl) ∧ w'.cell? ⟨yb, i, none⟩ = some (.int .i64 tq) ∧ w2.heap.size < w'.heap.size ∧ bt < w'.heap.size ∧ xb < w'.heap.size ∧ yb < w'.heap.size)) := Lib.hid (fun w' h => HSE.out w' (HBW.out.trans (h.mono HBW.out.size)))
          have hiI : (i : Int) < (N : Int) := by omega
          have hi3I : (i : Int) + 3 < (N : Int) + 3 := by omega
          have hi3N : i + 3 < N + 3 := by omega
          have hi0 : (0 : Int) ≤ (i : Int) := by omega
          have hi03 : (0 : Int) ≤ (i : Int) + 3 := by omega
          have htn : ((i : Int) + 3).toNat = i + 3 := by omega
          have hw3 : IntKind.i64.wrap ((i : Int) + 3) = (i : Int) + 3 := IntWalk.i64_in _ ⟨by omega, by omega⟩
          have HD1 : Hid ((0 : Int) ≤ (i : Int) ∧ (i : Int) < 60001) := Lib.hid ⟨by omega, by omega⟩
          have hns := t_str i
          have hbig : ¬ 9223372036854775807 < 1 + (Lib.itoa (i : Int)).length := by
            have := tName_sm (i := i) (by omega)
            clear hw3
            omega
          clear ht hnm hu hu1 hu2 hu3 t1 hbt hx hy htl htq hcx hcy hxl hyl hbw HSE
          go_upto_region 28 with fail
          refine wp_region_plan (fun w' : World => ((w'.cell? ⟨w2.heap.size, 0, none⟩ = some (.slice (some ⟨bt, ot, none⟩) (N + 3) tc)) ∧ w'.cell? ⟨bt, ot + (i + 3) * 6, none⟩ = some (.string ⟨(116 :: Lib.itoa (i : Int)).toArray⟩) ∧ w'.cell? ⟨bt, ot + (i + 3) * 6 + 3, none⟩ = some (.int .i64 tl) ∧ w'.cell? ⟨bt, ot + (i + 3) * 6 + 4, none⟩ = some (.int .i64 tq) ∧ w'.cell? ⟨xb, i, none⟩ = some (.int .i64 tl) ∧ w'.cell? ⟨yb, i, none⟩ = some (.int .i64 tq) ∧ w2.heap.size < w'.heap.size ∧ bt < w'.heap.size ∧ xb < w'.heap.size ∧ yb < w'.heap.size)) [] (.take 0 (.take 1 (.take 2 (.take 3 (.take 4 (.take 5 (.take 6 (.take 7 (.take 8 (.take 9 (.take 10 (.take 11 (.take 12 (.take 13 (.take 14 (.take 15 (.take 16 (.take 17 (.take 18 (.take 19 (.take 20 (.take 21 (.take 22 (.take 23 (.take 24 (.take 25 (.take 26 (.take 27 (.take 28 (.take 29 (.take 30 (.take 31 (.take 32 (.take 33 (.take 34 (.one 35 (.take 36 (.take 37 (.take 38 (.done)))))))))))))))))))))))))))))))))))))))) (by kernel_rfl) (by kernel_rfl) (fun _ _ _ _ h => h) ?_
          have hSw := HSB.out _ (below_drewN (Below.refl _ wr) 1)
          refine wpPlan_takeD (v := ?vg11) rfl rfl hSw (by rfl) ?yg11 ?_
          case yg11 => (intro w hSx; (try dsimp only at hSx); go_simp; first | done | with_reducible rfl | rfl)
          (try simp only [Act.put, List.setIfInBounds_toArray, List.set_cons_zero, List.set_cons_succ])
          refine wpPlan_takeD (v := ?vg12) rfl rfl hSw (by rfl) ?yg12 ?_
          case yg12 => (intro w hSx; (try dsimp only at hSx); go_simp; first | done | with_reducible rfl | rfl)
          (try simp only [Act.put, List.setIfInBounds_toArray, List.set_cons_zero, List.set_cons_succ])
          refine wpPlan_takeD (v := ?vg13) rfl rfl hSw (by rfl) ?yg13 ?_
          case yg13 => (intro w hSx; (try dsimp only at hSx); go_simp; first | done | with_reducible rfl | rfl)
          (try simp only [Act.put, List.setIfInBounds_toArray, List.set_cons_zero, List.set_cons_succ])
          refine wpPlan_takeD (v := ?vg14) rfl rfl hSw (by rfl) ?yg14 ?_
          case yg14 => (intro w hSx; (try dsimp only at hSx); go_simp; first | done | with_reducible rfl | rfl)
          (try simp only [Act.put, List.setIfInBounds_toArray, List.set_cons_zero, List.set_cons_succ])
          refine wpPlan_takeD (v := ?vg15) rfl rfl hSw (by rfl) ?yg15 ?_
          case yg15 => (intro w hSx; (try dsimp only at hSx); go_simp; first | done | with_reducible rfl | rfl)
          (try simp only [Act.put, List.setIfInBounds_toArray, List.set_cons_zero, List.set_cons_succ])
          refine wpPlan_takeD (v := ?vg16) rfl rfl hSw (by rfl) ?yg16 ?_
          case yg16 => (intro w hSx; (try dsimp only at hSx); go_simp; first | done | with_reducible rfl | rfl)
          (try simp only [Act.put, List.setIfInBounds_toArray, List.set_cons_zero, List.set_cons_succ])
          refine wpPlan_takeD (v := ?vg17) rfl rfl hSw (by rfl) ?yg17 ?_
          case yg17 => (intro w hSx; (try dsimp only at hSx); go_simp; first | done | with_reducible rfl | rfl)
          (try simp only [Act.put, List.setIfInBounds_toArray, List.set_cons_zero, List.set_cons_succ])
          refine wpPlan_takeD (v := ?vg18) rfl rfl hSw (by rfl) ?yg18 ?_
          case yg18 => (intro w hSx; (try dsimp only at hSx); go_simp; first | done | with_reducible rfl | rfl)
          (try simp only [Act.put, List.setIfInBounds_toArray, List.set_cons_zero, List.set_cons_succ])
          refine wpPlan_takeD (v := ?vg19) rfl rfl hSw (by rfl) ?yg19 ?_
          case yg19 => (intro w hSx; (try dsimp only at hSx); go_simp; first | done | with_reducible rfl | rfl)
          (try simp only [Act.put, List.setIfInBounds_toArray, List.set_cons_zero, List.set_cons_succ])
          refine wpPlan_takeD (v := ?vg20) rfl rfl hSw (by rfl) ?yg20 ?_
          case yg20 => (intro w hSx; (try dsimp only at hSx); go_simp; first | done | with_reducible rfl | rfl)
          (try simp only [Act.put, List.setIfInBounds_toArray, List.set_cons_zero, List.set_cons_succ])
          refine wpPlan_takeD (v := ?vg21) rfl rfl hSw (by rfl) ?yg21 ?_
          case yg21 => (intro w hSx; (try dsimp only at hSx); go_simp; first | done | with_reducible rfl | rfl)
          (try simp only [Act.put, List.setIfInBounds_toArray, List.set_cons_zero, List.set_cons_succ])
          refine wpPlan_takeD (v := ?vg22) rfl rfl hSw (by rfl) ?yg22 ?_
          case yg22 => (intro w hSx; (try dsimp only at hSx); go_simp; first | done | with_reducible rfl | rfl)
          (try simp only [Act.put, List.setIfInBounds_toArray, List.set_cons_zero, List.set_cons_succ])
          refine wpPlan_takeD (v := ?vg23) rfl rfl hSw (by rfl) ?yg23 ?_
          case yg23 => (intro w hSx; (try dsimp only at hSx); go_simp; first | done | with_reducible rfl | rfl)
          (try simp only [Act.put, List.setIfInBounds_toArray, List.set_cons_zero, List.set_cons_succ])
          refine wpPlan_takeD (v := ?vg24) rfl rfl hSw (by rfl) ?yg24 ?_
          case yg24 => (intro w hSx; (try dsimp only at hSx); go_simp; first | done | with_reducible rfl | rfl)
          (try simp only [Act.put, List.setIfInBounds_toArray, List.set_cons_zero, List.set_cons_succ])
          refine wpPlan_takeD (v := ?vg25) rfl rfl hSw (by rfl) ?yg25 ?_
          case yg25 => (intro w hSx; (try dsimp only at hSx); go_simp; first | done | with_reducible rfl | rfl)
          (try simp only [Act.put, List.setIfInBounds_toArray, List.set_cons_zero, List.set_cons_succ])
          refine wpPlan_takeD (v := ?vg26) rfl rfl hSw (by rfl) ?yg26 ?_
          case yg26 => (intro w hSx; (try dsimp only at hSx); go_simp; first | done | with_reducible rfl | rfl)
          (try simp only [Act.put, List.setIfInBounds_toArray, List.set_cons_zero, List.set_cons_succ])
          refine wpPlan_takeD (v := ?vg27) rfl rfl hSw (by rfl) ?yg27 ?_
          case yg27 => (intro w hSx; (try dsimp only at hSx); go_simp; first | done | with_reducible rfl | rfl)
          (try simp only [Act.put, List.setIfInBounds_toArray, List.set_cons_zero, List.set_cons_succ])
          refine wpPlan_takeD (v := ?vg28) rfl rfl hSw (by rfl) ?yg28 ?_
          case yg28 => (intro w hSx; (try dsimp only at hSx); go_simp; first | done | with_reducible rfl | rfl)
          (try simp only [Act.put, List.setIfInBounds_toArray, List.set_cons_zero, List.set_cons_succ])
          refine wpPlan_takeD (v := ?vg29) rfl rfl hSw (by rfl) ?yg29 ?_
          case yg29 => (intro w hSx; (try dsimp only at hSx); go_simp; first | done | with_reducible rfl | rfl)
          (try simp only [Act.put, List.setIfInBounds_toArray, List.set_cons_zero, List.set_cons_succ])
          refine wpPlan_takeD (v := ?vg30) rfl rfl hSw (by rfl) ?yg30 ?_
          case yg30 => (intro w hSx; (try dsimp only at hSx); go_simp; first | done | with_reducible rfl | rfl)
          (try simp only [Act.put, List.setIfInBounds_toArray, List.set_cons_zero, List.set_cons_succ])
          refine wpPlan_takeD (v := ?vg31) rfl rfl hSw (by rfl) ?yg31 ?_
          case yg31 => (intro w hSx; (try dsimp only at hSx); go_simp; first | done | with_reducible rfl | rfl)
          (try simp only [Act.put, List.setIfInBounds_toArray, List.set_cons_zero, List.set_cons_succ])
          refine wpPlan_takeD (v := ?vg32) rfl rfl hSw (by rfl) ?yg32 ?_
          case yg32 => (intro w hSx; (try dsimp only at hSx); go_simp; first | done | with_reducible rfl | rfl)
          (try simp only [Act.put, List.setIfInBounds_toArray, List.set_cons_zero, List.set_cons_succ])
          refine wpPlan_takeD (v := ?vg33) rfl rfl hSw (by rfl) ?yg33 ?_
          case yg33 => (intro w hSx; (try dsimp only at hSx); go_simp; first | done | with_reducible rfl | rfl)
          (try simp only [Act.put, List.setIfInBounds_toArray, List.set_cons_zero, List.set_cons_succ])
          refine wpPlan_takeD (v := ?vg34) rfl rfl hSw (by rfl) ?yg34 ?_
          case yg34 => (intro w hSx; (try dsimp only at hSx); go_simp; first | done | with_reducible rfl | rfl)
          (try simp only [Act.put, List.setIfInBounds_toArray, List.set_cons_zero, List.set_cons_succ])
          refine wpPlan_takeD (v := ?vg35) rfl rfl hSw (by rfl) ?yg35 ?_
          case yg35 => (intro w hSx; (try dsimp only at hSx); go_simp; first | done | with_reducible rfl | rfl)
          (try simp only [Act.put, List.setIfInBounds_toArray, List.set_cons_zero, List.set_cons_succ])
          refine wpPlan_takeD (v := ?vg36) rfl rfl hSw (by rfl) ?yg36 ?_
          case yg36 => (intro w hSx; (try dsimp only at hSx); go_simp; first | done | with_reducible rfl | rfl)
          (try simp only [Act.put, List.setIfInBounds_toArray, List.set_cons_zero, List.set_cons_succ])
          refine wpPlan_takeD (v := ?vg37) rfl rfl hSw (by rfl) ?yg37 ?_
          case yg37 => (intro w hSx; (try dsimp only at hSx); go_simp; first | done | with_reducible rfl | rfl)
          (try simp only [Act.put, List.setIfInBounds_toArray, List.set_cons_zero, List.set_cons_succ])
          refine wpPlan_takeD (v := ?vg38) rfl rfl hSw (by rfl) ?yg38 ?_
          case yg38 => (intro w hSx; (try dsimp only at hSx); go_simp; first | done | with_reducible rfl | rfl)
          (try simp only [Act.put, List.setIfInBounds_toArray, List.set_cons_zero, List.set_cons_succ])
          refine wpPlan_takeD (v := ?vg39) rfl rfl hSw (by rfl) ?yg39 ?_
          case yg39 => (intro w hSx; (try dsimp only at hSx); go_simp; first | done | with_reducible rfl | rfl)
          (try simp only [Act.put, List.setIfInBounds_toArray, List.set_cons_zero, List.set_cons_succ])
          refine wpPlan_takeD (v := ?vg40) rfl rfl hSw (by rfl) ?yg40 ?_
          case yg40 => (intro w hSx; (try dsimp only at hSx); go_simp; first | done | with_reducible rfl | rfl)
          (try simp only [Act.put, List.setIfInBounds_toArray, List.set_cons_zero, List.set_cons_succ])
          refine wpPlan_takeD (v := ?vg41) rfl rfl hSw (by rfl) ?yg41 ?_
          case yg41 => (intro w hSx; (try dsimp only at hSx); go_simp; first | done | with_reducible rfl | rfl)
          (try simp only [Act.put, List.setIfInBounds_toArray, List.set_cons_zero, List.set_cons_succ])
          refine wpPlan_takeD (v := ?vg42) rfl rfl hSw (by rfl) ?yg42 ?_
          case yg42 => (intro w hSx; (try dsimp only at hSx); go_simp; first | done | with_reducible rfl | rfl)
          (try simp only [Act.put, List.setIfInBounds_toArray, List.set_cons_zero, List.set_cons_succ])
          refine wpPlan_takeD (v := ?vg43) rfl rfl hSw (by rfl) ?yg43 ?_
          case yg43 => (intro w hSx; (try dsimp only at hSx); go_simp; first | done | with_reducible rfl | rfl)
          (try simp only [Act.put, List.setIfInBounds_toArray, List.set_cons_zero, List.set_cons_succ])
          refine wpPlan_takeD (v := ?vg44) rfl rfl hSw (by rfl) ?yg44 ?_
          case yg44 => (intro w hSx; (try dsimp only at hSx); go_simp; first | done | with_reducible rfl | rfl)
          (try simp only [Act.put, List.setIfInBounds_toArray, List.set_cons_zero, List.set_cons_succ])
          refine wpPlan_takeD (v := ?vg45) rfl rfl hSw (by rfl) ?yg45 ?_
          case yg45 => (intro w hSx; (try dsimp only at hSx); go_simp; first | done | with_reducible rfl | rfl)
          (try simp only [Act.put, List.setIfInBounds_toArray, List.set_cons_zero, List.set_cons_succ])
          refine wpPlan_run rfl (by rfl) (fun K' hK => ?_)
          (go_simp; go_at_call 10; refine (ref_Digits (i : Int) _ HD1.out.1 HD1.out.2).mono ?_; rintro e w5 ⟨rfl, hb5⟩; have hb5' : Below wr.heap.size wr w5 := below_undrew hb5)
          refine hK _ _ (.inr ?_) ?_
          · exact HSB.out _ hb5'
          clear hK K' hSw
          have hSw := HSB.out _ hb5'
          (try simp only [Act.put, List.setIfInBounds_toArray, List.set_cons_zero, List.set_cons_succ])
          refine wpPlan_takeD (v := ?vg46) rfl rfl hSw (by rfl) ?yg46 ?_
          case yg46 => (intro w hSx; (try dsimp only at hSx); go_simp; first | done | with_reducible rfl | rfl)
          (try simp only [Act.put, List.setIfInBounds_toArray, List.set_cons_zero, List.set_cons_succ])
          refine wpPlan_takeD (v := ?vg47) rfl rfl hSw (by rfl) ?yg47 ?_
          case yg47 => (intro w hSx; (try dsimp only at hSx); go_simp; first | done | with_reducible rfl | rfl)
          (try simp only [Act.put, List.setIfInBounds_toArray, List.set_cons_zero, List.set_cons_succ])
          refine wpPlan_takeD (v := ?vg48) rfl rfl hSw (by rfl) ?yg48 ?_
          case yg48 => (intro w hSx; (try dsimp only at hSx); go_simp; first | done | with_reducible rfl | rfl)
          (try simp only [Act.put, List.setIfInBounds_toArray, List.set_cons_zero, List.set_cons_succ])
          refine wpPlan_done ?_
          clear hns hbig htn hw3 hiI hi3I hi3N hi0 hi03
          go_wp2_with fail
          go_roundg (N - (i + 1))
          case measure => omega
          case rel => exact ⟨i + 1, by omega, rfl, by go_num, HBW.out.trans (hb5'.mono HBW.out.size)⟩
        · obtain rfl : i = N := by omega
          have HBW := Lib.hid hbw
          clear hbw
          go_wp2_with fail
          go_meet
          exact HBW.out
    case rest =>
      obtain ⟨wr, hwr⟩ : ∃ wr : World, wr = wc := ⟨_, rfl⟩
      subst hwr
      have HS3 := Lib.hid ((HS2.out.below HBE.out).below hcut)
      have HGE3 : Hid (wr.heap[w2.heap.size]? = _ ∧ wr.heap[w2.heap.size + 1]? = _) := Lib.hid ⟨(hcut.block _ (lt_at HGE.out.1)).trans HGE.out.1, (hcut.block _ (lt_at HGE.out.2)).trans HGE.out.2⟩
      have HZ3 : Hid (6 ≤ wr.heap.size) := Lib.hid (Nat.le_trans HZ2.out (Nat.le_trans HBE.out.size hcut.size))
      clear hcut HS2 HGE HZ2 HBE HT HX2 HY2
      by_cases hN0 : N = 0
      · subst hN0
        go_wp2_with fail
        go_ret
        exact ⟨rfl, HS3.out.bel⟩
      have hNp : 0 < N := Nat.pos_of_ne_zero hN0
      have hNI : ¬ (N : Int) = 0 := by omega
      have hNI2 : decide ((N : Int) = 0) = false := decide_eq_false hNI
      obtain ⟨t, ht⟩ : ∃ t : Nat, k0 % (N : Int) = (t : Int) := ⟨(k0 % N).toNat, by have := Int.emod_nonneg k0 (b := (N : Int)) (by omega); omega⟩
      have htN : t < N := by have := Int.emod_lt_of_pos k0 (b := (N : Int)) (by omega); omega
      have HTE := Lib.hid ht
      clear ht
      go_wp2_with fail
      refine (ref_Within9 k0 N _ (by omega) (by omega) HW1.out).mono ?_
      rintro e w' ⟨rfl, rfl⟩
      rw [HTE.out]
      obtain ⟨f, ho, hch⟩ := HS3.out.st.decls
      obtain ⟨nd, hnd⟩ : ∃ nd, nd = S.decls.length := ⟨_, rfl⟩
      rw [← hnd] at ho
      have hnd15 : nd ≤ 22 := by have h1 := HOK.out.count; have h2 := HOK.out.len; have h3 := HN.out; omega
      obtain ⟨da, dc, rfl⟩ := ownsRowS_some ho
      have HO := Lib.hid ho; have HCH := Lib.hid hch; have HND := Lib.hid hnd
      have HWW : Hid (W.heap.size ≤ wr.heap.size) := Lib.hid HS3.out.bel.size
      have HSK : Hid (∀ w', Kp (fun b => b = bs) wr w' → ((w'.cell? ⟨bs, 1, none⟩ = some (.slice da nd dc) ∧ w'.frozen? ⟨bs, 1, none⟩ = false) ∧ bs < w'.heap.size)) := Lib.hid (fun w' k => by
        have q0 := k.at HS3.out.st.src rfl
        exact ⟨⟨cell_at (i := 1) q0, frozen_at (i := 1) q0⟩, lt_at q0⟩)
      have HNB : Hid (∀ c, (Value.slice da nd dc).ownBlock = some c → ¬ c = bs) := Lib.hid (fun c hc h => row_ne_cells HO.out HS3.out.st.src (by decide) c hc h)
      have HD1 : Hid ((0 : Int) ≤ (t : Int) ∧ (t : Int) < 60001) := Lib.hid ⟨by omega, by omega⟩
      have hbig : ¬ 9223372036854775807 < 1 + (Lib.itoa (t : Int)).length := by
        have := tName_sm (i := t) (by omega)
        omega
      clear ho hch hnd
      go_upto_region 33 with fail
      refine wp_region_plan (fun w' : World => ((w'.cell? ⟨bs, 1, none⟩ = some (.slice da nd dc) ∧ w'.frozen? ⟨bs, 1, none⟩ = false) ∧ bs < w'.heap.size)) [11] (.take 0 (.take 1 (.take 2 (.one 3 (.one 4 (.one 5 (.one 6 (.one 7 (.one 8 (.one 9 (.one 10 (.one 11 (.done))))))))))))) (by kernel_rfl) (by kernel_rfl) (fun _ _ _ _ h => h) ?_
      have hSw := HSK.out _ ((Kp.refl _ wr).drew)
      refine wpPlan_take (v := ?vh49) rfl hSw (by rfl) ?yh49 ?_
      case yh49 => (intro w hSx; (try dsimp only at hSx); go_simp; first | done | with_reducible rfl | rfl)
      (try simp only [Act.put, List.setIfInBounds_toArray, List.set_cons_zero, List.set_cons_succ])
      refine wpPlan_take (v := ?vh50) rfl hSw (by rfl) ?yh50 ?_
      case yh50 => (intro w hSx; (try dsimp only at hSx); go_simp; first | done | with_reducible rfl | rfl)
      (try simp only [Act.put, List.setIfInBounds_toArray, List.set_cons_zero, List.set_cons_succ])
      refine wpPlan_take (v := ?vh51) rfl hSw (by rfl) ?yh51 ?_
      case yh51 => (intro w hSx; (try dsimp only at hSx); go_simp; first | done | with_reducible rfl | rfl)
      (try simp only [Act.put, List.setIfInBounds_toArray, List.set_cons_zero, List.set_cons_succ])
      refine wpPlan_run rfl (by rfl) (fun K' hK => ?_)
      (go_simp; go_at_call 10; refine (ref_Digits (t : Int) _ HD1.out.1 HD1.out.2).mono ?_; rintro e w5 ⟨rfl, hb5⟩; have hb5' : Below wr.heap.size wr w5 := below_undrew hb5)
      refine hK _ _ (.inr ?_) ?_
      · exact HSK.out _ (Kp.of_below hb5' (fun _ hk _ => hk))
      clear hK K' hSw
      (try simp only [Act.put, List.setIfInBounds_toArray, List.set_cons_zero, List.set_cons_succ])
      refine wpPlan_run rfl (by rfl) (fun K' hK => ?_)
      go_simp
      refine hK _ _ (.inr ?_) ?_
      · exact HSK.out _ (Kp.of_below hb5' (fun _ hk _ => hk))
      clear hK K'
      (try simp only [Act.put, List.setIfInBounds_toArray, List.set_cons_zero, List.set_cons_succ])
      refine wpPlan_run rfl (by rfl) (fun K' hK => ?_)
      (go_simp; go_at_call 9; refine (law9_name (116 :: Lib.itoa (t : Int)) 500 _).mono ?_; rintro e w6 ⟨rfl, hb6⟩; have hb6' : Below wr.heap.size wr w6 := hb5'.trans (hb6.mono hb5'.size))
      refine hK _ _ (.inr ?_) ?_
      · exact HSK.out _ (Kp.of_below hb6' (fun _ hk _ => hk))
      clear hK K'
      (try simp only [Act.put, List.setIfInBounds_toArray, List.set_cons_zero, List.set_cons_succ])
      refine wpPlan_run rfl (by rfl) (fun K' hK => ?_)
      go_simp
      refine hK _ _ (.inr ?_) ?_
      · exact HSK.out _ (Kp.of_below (hb6'.alloc hb6'.size _) (fun _ hk _ => hk))
      clear hK K'
      (try simp only [Act.put, List.setIfInBounds_toArray, List.set_cons_zero, List.set_cons_succ])
      refine wpPlan_run rfl (by rfl) (fun K' hK => ?_)
      go_simp
      refine hK _ _ (.inr ?_) ?_
      · exact HSK.out _ (Kp.of_below (hb6'.alloc hb6'.size _) (fun _ hk _ => hk))
      clear hK K'
      (try simp only [Act.put, List.setIfInBounds_toArray, List.set_cons_zero, List.set_cons_succ])
      refine wpPlan_run rfl (by rfl) (fun K' hK => ?_)
      go_simp
      refine hK _ _ (.inr ?_) ?_
      · exact HSK.out _ (Kp.of_below ((hb6'.alloc hb6'.size _).alloc (by have := hb6'.size; simp only [World.size_alloc]; omega) _) (fun _ hk _ => hk))
      clear hK K'
      (try simp only [Act.put, List.setIfInBounds_toArray, List.set_cons_zero, List.set_cons_succ])
      refine wpPlan_run rfl (by rfl) (fun K' hK => ?_)
      (refine wp_append_lies _ _ _ _ (by rfl) W.heap.size 39 id0 _ 4 56 Tryd.underlying33 hid0 hdz0 hdz1 hdz2 rfl (by decide) _ _ _ (by rfl) (((ownsRow_below HO.out hb6').alloc _).alloc _) ⟨w6.heap.size + 1, 0, none⟩ 1 1 (declC (.slice (some ⟨w6.heap.size, 0, none⟩) 1 1) ⟨3, [], [⟨116 :: Lib.itoa (t : Int), false, 0, 500⟩], 0⟩) (by rfl) (by rfl) (World.news_of_block (cs := #[.int .i64 3, .string ⟨#[]⟩, .slice (some ⟨w6.heap.size, 0, none⟩) 1 1, .int .i64 0]) (t := 39) (fr := (0, 0)) (heap_sec w6 _ _)) (by simp [Value.oneCell', declC]) (by omega) (by unfold maxLen; omega) (by omega) (by have := hb6'.size; have := HWW.out; simp only [World.size_alloc]; omega) _ rfl ?_; intro g2 c2 w8 hown2 hgrow2 hat2 hlt2; have hk8 : Kp (fun b => b = bs) wr w8 := (((((Kp.of_below hb6' (fun _ hk _ => hk)) : Kp (fun b => b = bs) wr w6).alloc _).alloc _)).grown hgrow2 (fun c hc hs => HNB.out c hc hs))
      refine hK _ _ (.inr ?_) ?_
      · exact HSK.out _ hk8
      clear hK K'
      (try simp only [Act.put, List.setIfInBounds_toArray, List.set_cons_zero, List.set_cons_succ])
      refine wpPlan_run rfl (by rfl) (fun K' hK => ?_)
      go_simp
      refine hK _ _ (.inr ?_) ?_
      · exact HSK.out _ hk8
      clear hK K'
      (try simp only [Act.put, List.setIfInBounds_toArray, List.set_cons_zero, List.set_cons_succ])
      refine wpPlan_run rfl (by rfl) (fun K' hK => ?_)
      (obtain ⟨⟨z1, z2⟩, hl8⟩ := HSK.out _ hk8; go_simp)
      refine hK _ _ (.inl rfl) ?_
      clear hK K'
      (try simp only [Act.put, List.setIfInBounds_toArray, List.set_cons_zero, List.set_cons_succ])
      refine wpPlan_done ?_
      have hk9 : Kp (fun b => b < W.heap.size) wr w8 := (((((Kp.of_below hb6' (fun _ hk _ => hk)) : Kp (fun b => b < W.heap.size) wr w6).alloc _).alloc _)).grown hgrow2 (fun c hc hs => Nat.not_lt.2 (HO.out.lt c hc).1 hs)
      have kt8 : KpT (fun t => t ≠ 39) wr w8 := (KpT.below ((hb6'.alloc hb6'.size _).alloc (by have := hb6'.size; simp only [World.size_alloc]; omega) _)).trans (KpT.grown (((ownsRow_below HO.out hb6').alloc _).alloc _) hgrow2)
      have hsy8 := ownsRow_kpT (owns_block (B := W.heap.size) (size := 4) (n := 1) (heap_old (heap_last w6 _) _) (by have := hb6'.size; have := HWW.out; omega) rfl (by decide)) (KpT.grown (((ownsRow_below HO.out hb6').alloc _).alloc _) hgrow2) (by decide)
      obtain ⟨ws, hws⟩ : ∃ ws : World, ws = w8.setCell ⟨bs, 1, none⟩ (.slice (some ⟨g2, 0, none⟩) (nd + 1) c2) := ⟨_, rfl⟩
      rw [← hws]
      obtain ⟨hst, kts⟩ := HS3.out.again (d := ⟨3, [], [⟨116 :: Lib.itoa (t : Int), false, 0, 500⟩], 0⟩) HCH.out hk8 hk9 kt8 hsy8 (by rw [← HND.out]; exact hown2) hws
      have hszs : wr.heap.size ≤ ws.heap.size := by rw [hws]; simpa [World.setCell] using hk8.size
      have HS4 := Lib.hid hst
      have HGE4 : Hid (ws.heap[w2.heap.size]? = _ ∧ ws.heap[w2.heap.size + 1]? = _) := Lib.hid ⟨kts _ _ _ _ HGE3.out.1 (by decide), kts _ _ _ _ HGE3.out.2 (by decide)⟩
      have HZ4 : Hid (6 ≤ ws.heap.size) := Lib.hid (Nat.le_trans HZ3.out hszs)
      clear hws hst kts hszs hk8 hk9 kt8 hsy8 hown2 hgrow2 hat2 hlt2 hb5 hb5' hb6 hb6' HS3 HGE3 HZ3 HSK HNB HO HCH HWW z1 z2 hl8
      have q0 := HS4.out.st.src
      have c0 := cell_at (i := 0) q0; have c1 := cell_at (i := 1) q0; have c2' := cell_at (i := 2) q0; have c3 := cell_at (i := 3) q0
      have l0 := lt_at q0
      have hof := gram_Of ⟨[], S.decls ++ [⟨3, [], [⟨116 :: Lib.itoa (t : Int), false, 0, 500⟩], 0⟩], [⟨[97], [⟨[], ⟨[], false, 0, 0⟩, 0⟩], 0⟩], []⟩ (.slice (some ⟨g2, 0, none⟩) (nd + 1) c2) rv ws (decls_at HS4.out.st.decls) (rules_at HS4.out.st.rules) (levSrc_small (by rw [List.length_append, ← HND.out]; simp; omega) (fun d hd => by
        rcases List.mem_append.1 hd with hd | hd
        · exact HSM.out d hd
        · rw [List.mem_singleton] at hd
          subst hd
          refine ⟨by simp, by simp, fun s hs => ?_⟩
          rw [List.mem_singleton] at hs
          subst hs
          show (116 :: Lib.itoa (t : Int)).length ≤ 4000
          have := tName_sm (i := t) (by omega)
          rw [List.length_cons]
          omega)) (HG.out.up HS4.out.bel HZ4.out)
      have hlaw := HAG.out t (by rw [← HN.out]; exact htN)
      rw [show Sp.gramOf ⟨[], S.decls ++ [⟨3, [], [⟨116 :: Lib.itoa (t : Int), false, 0, 500⟩], 0⟩], [⟨[97], [⟨[], ⟨[], false, 0, 0⟩, 0⟩], 0⟩], []⟩ = Sp.gramOf (Sp.levSrc (S.decls ++ [Sp.againDecl t])) from rfl, hlaw] at hof
      obtain ⟨tt, htt⟩ : ∃ tt, S.toks[t]? = some tt := ⟨_, List.getElem?_eq_getElem (by rw [← HN.out]; exact htN)⟩
      have hgd : S.toks.getD t Sp.noTok = tt := by rw [List.getD_eq_getElem?_getD, htt]; rfl
      rw [hgd] at hof
      have HTT := Lib.hid htt
      have HS4B : Hid (Below W.heap.size W ws) := Lib.hid HS4.out.bel
      clear q0 hlaw htt hgd
      by_cases hlp : 0 < tt.level
      · rw [if_pos hlp] at hof
        have HOF := Lib.hid hof
        clear hof
        go_wp2_with fail
        refine HOF.out.mono ?_
        rintro e w3 ⟨hb3, gv, rfl, hgo⟩
        obtain ⟨B3, ta3, tc3, na3, nc3, pa3, pc3, rfl, _⟩ := hgo
        have hg1 := (hb3.block _ (lt_at HGE4.out.1)).trans HGE4.out.1
        have hg2 := (hb3.block _ (lt_at HGE4.out.2)).trans HGE4.out.2
        rw [show Sp.noGram.toks.length = 0 from rfl, show Sp.noGram.nons.length = 0 from rfl, show Sp.noGram.prods.length = 0 from rfl]
        rw [show faultV (Sp.noGram, (⟨3, 500, Sp.tName t⟩ : Sp.Fault)).2 = .agg #[.int .i64 3, .int .i64 500, .string ⟨(116 :: Lib.itoa (t : Int)).toArray⟩] from rfl]
        have hlx := ownsRow_below HS4.out.levs hb3
        have HSW2 : Hid (W.heap.size ≤ w2.heap.size) := Lib.hid HSWW.out
        have HLX := Lib.hid hlx; have HG1 := Lib.hid hg1; have HG2 := Lib.hid hg2
        have HB3 := Lib.hid (HS4B.out.trans (hb3.mono HS4B.out.size))
        have b0 := cell_at (i := 0) hg1; have b1 := cell_at (i := 1) hg1; have b2 := cell_at (i := 2) hg1; have b3 := cell_at (i := 3) hg1; have b4 := cell_at (i := 4) hg1
        have u0 := frozen_at (i := 0) hg1; have u1 := frozen_at (i := 1) hg1; have u2 := frozen_at (i := 2) hg1; have u3 := frozen_at (i := 3) hg1; have u4 := frozen_at (i := 4) hg1
        have e0 := cell_at (i := 0) hg2; have e1 := cell_at (i := 1) hg2; have e2 := cell_at (i := 2) hg2
        have y0 := frozen_at (i := 0) hg2; have y1 := frozen_at (i := 1) hg2; have y2 := frozen_at (i := 2) hg2
        have lg1 := lt_at hg1; have lg2 := lt_at hg2
        clear hlx hg1 hg2 hb3 HOF HGE4 HS4 HZ4 c0 c1 c2' c3 l0
        go_upto_region 35 with fail
        obtain ⟨wF, hwF⟩ : ∃ wF : World, wF = (((((((w3.setCell ⟨w2.heap.size, 0, none⟩ (.slice ta3 0 tc3)).setCell ⟨w2.heap.size, 1, none⟩ (.slice na3 0 nc3)).setCell ⟨w2.heap.size, 2, none⟩ (.slice pa3 0 pc3)).setCell ⟨w2.heap.size, 3, none⟩ (.string ⟨Sp.noGram.pro.toArray⟩)).setCell ⟨w2.heap.size, 4, none⟩ (.string ⟨Sp.noGram.tail.toArray⟩)).setCell ⟨w2.heap.size + 1, 0, none⟩ (.int .i64 3)).setCell ⟨w2.heap.size + 1, 1, none⟩ (.int .i64 500)).setCell ⟨w2.heap.size + 1, 2, none⟩ (.string ⟨(116 :: Lib.itoa (t : Int)).toArray⟩) := ⟨_, rfl⟩
        rw [← hwF]
        obtain ⟨q1, q2, kF⟩ := gf_stored HG1.out HG2.out (by omega) _ _ _ _ _ _ _ _ hwF
        have hBF : Below W.heap.size W wF := HB3.out.trans (Kp.below kF HB3.out.size (fun b hb => ⟨by have := HSW2.out; omega, by have := HSW2.out; omega⟩))
        have HBF := Lib.hid hBF
        have hx := ownsRow_kp HLX.out kF (fun b hb => ⟨row_ne_cells HLX.out HG1.out (by decide) b hb, row_ne_cells HLX.out HG2.out (by decide) b hb⟩)
        rw [List.length_map, ← HN.out] at hx
        obtain ⟨xb, xbc, hxb⟩ := own_form hx (by omega)
        simp only [Value.slice.injEq] at hxb
        obtain ⟨rfl, _, rfl⟩ := hxb
        have hcx : wF.cell? ⟨xb, t, none⟩ = some (.int .i64 tt.level) := by
          rw [hx.cellAt t (by omega)]
          unfold intsC
          rw [List.getElem?_map, List.getElem?_map, HTT.out]
          rfl
        have hxl := (hx.lt xb rfl).2
        have htI : (t : Int) < (N : Int) := by omega
        have ht0 : (0 : Int) ≤ (t : Int) := Int.natCast_nonneg _
        clear b0 b1 b2 b3 b4 u0 u1 u2 u3 u4 e0 e1 e2 y0 y1 y2 lg1 lg2 hBF hx hwF
        have HSF : Hid (∀ w', Below wF.heap.size wF w' → (w'.cell? ⟨w2.heap.size + 1, 0, none⟩ = some (.int .i64 3) ∧ w'.cell? ⟨w2.heap.size + 1, 1, none⟩ = some (.int .i64 500) ∧ w'.cell? ⟨w2.heap.size + 1, 2, none⟩ = some (.string ⟨(116 :: Lib.itoa (t : Int)).toArray⟩) ∧ w2.heap.size + 1 < w'.heap.size)) := Lib.hid (fun w' h => by
          have g := (h.block _ (lt_at q2)).trans q2
          exact ⟨cell_at (i := 0) g, cell_at (i := 1) g, cell_at (i := 2) g, lt_at g⟩)
        have hns := t_str t
        clear q1 q2 kF
        go_upto_region 36 with fail
        refine wp_region_plan (fun w' : World => (w'.cell? ⟨w2.heap.size + 1, 0, none⟩ = some (.int .i64 3) ∧ w'.cell? ⟨w2.heap.size + 1, 1, none⟩ = some (.int .i64 500) ∧ w'.cell? ⟨w2.heap.size + 1, 2, none⟩ = some (.string ⟨(116 :: Lib.itoa (t : Int)).toArray⟩) ∧ w2.heap.size + 1 < w'.heap.size)) [] (.take 0 (.take 1 (.one 2 (.one 3 (.one 4 (.one 5 (.done))))))) (by kernel_rfl) (by kernel_rfl) (fun _ _ _ _ h => h) ?_
        have hSw := HSF.out _ (below_drewN (Below.refl _ wF) 1)
        refine wpPlan_takeD (v := ?vk52) rfl rfl hSw (by rfl) ?yk52 ?_
        case yk52 => (intro w hSx; (try dsimp only at hSx); go_simp; first | done | with_reducible rfl | rfl)
        (try simp only [Act.put, List.setIfInBounds_toArray, List.set_cons_zero, List.set_cons_succ])
        refine wpPlan_takeD (v := ?vk53) rfl rfl hSw (by rfl) ?yk53 ?_
        case yk53 => (intro w hSx; (try dsimp only at hSx); go_simp; first | done | with_reducible rfl | rfl)
        (try simp only [Act.put, List.setIfInBounds_toArray, List.set_cons_zero, List.set_cons_succ])
        refine wpPlan_run rfl (by rfl) (fun K' hK => ?_)
        (go_simp; go_at_call 10; refine (ref_Digits (t : Int) _ HD1.out.1 HD1.out.2).mono ?_; rintro e w5 ⟨rfl, hb5⟩; have hb5' : Below wF.heap.size wF w5 := below_undrew hb5)
        refine hK _ _ (.inr ?_) ?_
        · exact HSF.out _ hb5'
        clear hK K' hSw
        (try simp only [Act.put, List.setIfInBounds_toArray, List.set_cons_zero, List.set_cons_succ])
        refine wpPlan_run rfl (by rfl) (fun K' hK => ?_)
        go_simp
        refine hK _ _ (.inr ?_) ?_
        · exact HSF.out _ hb5'
        clear hK K'
        (try simp only [Act.put, List.setIfInBounds_toArray, List.set_cons_zero, List.set_cons_succ])
        refine wpPlan_run rfl (by rfl) (fun K' hK => ?_)
        (go_simp; go_at_call 12; refine (ref_EqFaultG 3 500 3 500 (116 :: Lib.itoa (t : Int)) (116 :: Lib.itoa (t : Int)) _).mono ?_; rintro e w6 ⟨rfl, hb6⟩)
        refine hK _ _ (.inr ?_) ?_
        · exact HSF.out _ (hb5'.trans (hb6.mono hb5'.size))
        clear hK K'
        (try simp only [Act.put, List.setIfInBounds_toArray, List.set_cons_zero, List.set_cons_succ])
        refine wpPlan_run rfl (by rfl) (fun K' hK => ?_)
        go_simp
        refine hK _ _ (.inr ?_) ?_
        · exact HSF.out _ (hb5'.trans (hb6.mono hb5'.size))
        clear hK K'
        (try simp only [Act.put, List.setIfInBounds_toArray, List.set_cons_zero, List.set_cons_succ])
        refine wpPlan_done ?_
        go_wp2_with fail
        go_ret
        exact ⟨ret_bool (by simp), HBF.out.trans ((hb5'.trans (hb6.mono hb5'.size)).mono HBF.out.size)⟩
      · rw [if_neg hlp] at hof
        obtain ⟨G2, hG2⟩ : ∃ G2, G2 = Sp.levGram (S.toks.set t { tt with level := S.level + 1, assoc := 2 }) := ⟨_, rfl⟩
        rw [← hG2] at hof
        have hgl := Sp.levGram_len (S.toks.set t { tt with level := S.level + 1, assoc := 2 })
        obtain ⟨u, hu, _, hu2, hu3, _⟩ := Sp.levGram_tok (T := S.toks.set t { tt with level := S.level + 1, assoc := 2 }) (j := t) (t := { tt with level := S.level + 1, assoc := 2 }) (by rw [List.getElem?_set_self (by rw [← HN.out]; exact htN)])
        rw [← hG2] at hgl hu
        rw [List.length_set, ← HN.out] at hgl
        have HOF := Lib.hid hof; have HGL := Lib.hid hgl; have HU := Lib.hid hu
        have HU2 := Lib.hid (hu2.trans (by show S.level + 1 = lev + 1; rw [HLEV.out])); have HU3 := Lib.hid (hu3.trans (by rfl : _ = (2 : Int)))
        clear hof hG2 hgl hu hu2 hu3
        go_wp2_with fail
        refine HOF.out.mono ?_
        rintro e w3 ⟨hb3, gv, rfl, hgo⟩
        obtain ⟨B3, ta3, tc3, na3, nc3, pa3, pc3, rfl, ho3, _⟩ := hgo
        have hg1 := (hb3.block _ (lt_at HGE4.out.1)).trans HGE4.out.1
        have hg2 := (hb3.block _ (lt_at HGE4.out.2)).trans HGE4.out.2
        rw [HGL.out] at ho3 ⊢
        rw [show faultV (G2, (⟨0, 0, []⟩ : Sp.Fault)).2 = .agg #[.int .i64 0, .int .i64 0, .string ⟨#[]⟩] from rfl]
        have hlx := ownsRow_below HS4.out.levs hb3
        have HSW2 : Hid (W.heap.size ≤ w2.heap.size) := Lib.hid HSWW.out
        have HO3 := Lib.hid ho3
        have HLX := Lib.hid hlx; have HG1 := Lib.hid hg1; have HG2 := Lib.hid hg2
        have HB3 := Lib.hid (HS4B.out.trans (hb3.mono HS4B.out.size))
        have b0 := cell_at (i := 0) hg1; have b1 := cell_at (i := 1) hg1; have b2 := cell_at (i := 2) hg1; have b3 := cell_at (i := 3) hg1; have b4 := cell_at (i := 4) hg1
        have u0 := frozen_at (i := 0) hg1; have u1 := frozen_at (i := 1) hg1; have u2 := frozen_at (i := 2) hg1; have u3 := frozen_at (i := 3) hg1; have u4 := frozen_at (i := 4) hg1
        have e0 := cell_at (i := 0) hg2; have e1 := cell_at (i := 1) hg2; have e2 := cell_at (i := 2) hg2
        have y0 := frozen_at (i := 0) hg2; have y1 := frozen_at (i := 1) hg2; have y2 := frozen_at (i := 2) hg2
        have lg1 := lt_at hg1; have lg2 := lt_at hg2
        clear hlx hg1 hg2 hb3 HOF HGE4 HS4 HZ4 c0 c1 c2' c3 l0 ho3
        go_upto_region 35 with fail
        obtain ⟨wF, hwF⟩ : ∃ wF : World, wF = (((((((w3.setCell ⟨w2.heap.size, 0, none⟩ (.slice ta3 (N + 3) tc3)).setCell ⟨w2.heap.size, 1, none⟩ (.slice na3 G2.nons.length nc3)).setCell ⟨w2.heap.size, 2, none⟩ (.slice pa3 G2.prods.length pc3)).setCell ⟨w2.heap.size, 3, none⟩ (.string ⟨G2.pro.toArray⟩)).setCell ⟨w2.heap.size, 4, none⟩ (.string ⟨G2.tail.toArray⟩)).setCell ⟨w2.heap.size + 1, 0, none⟩ (.int .i64 0)).setCell ⟨w2.heap.size + 1, 1, none⟩ (.int .i64 0)).setCell ⟨w2.heap.size + 1, 2, none⟩ (.string ⟨#[]⟩) := ⟨_, rfl⟩
        rw [← hwF]
        obtain ⟨q1, q2, kF⟩ := gf_stored HG1.out HG2.out (by omega) _ _ _ _ _ _ _ _ hwF
        have hBF : Below W.heap.size W wF := HB3.out.trans (Kp.below kF HB3.out.size (fun b hb => ⟨by have := HSW2.out; omega, by have := HSW2.out; omega⟩))
        have HBF := Lib.hid hBF
        have hx := ownsRow_kp HLX.out kF (fun b hb => ⟨row_ne_cells HLX.out HG1.out (by decide) b hb, row_ne_cells HLX.out HG2.out (by decide) b hb⟩)
        rw [List.length_map, ← HN.out] at hx
        obtain ⟨xb, xbc, hxb⟩ := own_form hx (by omega)
        simp only [Value.slice.injEq] at hxb
        obtain ⟨rfl, _, rfl⟩ := hxb
        have hcx : wF.cell? ⟨xb, t, none⟩ = some (.int .i64 tt.level) := by
          rw [hx.cellAt t (by omega)]
          unfold intsC
          rw [List.getElem?_map, List.getElem?_map, HTT.out]
          rfl
        have hxl := (hx.lt xb rfl).2
        have htI : (t : Int) < (N : Int) := by omega
        have ht0 : (0 : Int) ≤ (t : Int) := Int.natCast_nonneg _
        clear b0 b1 b2 b3 b4 u0 u1 u2 u3 u4 e0 e1 e2 y0 y1 y2 lg1 lg2 hBF hx hwF
        have htw := ownsRow_kp HO3.out kF (fun b hb => ⟨row_ne_cells HO3.out HG1.out (by decide) b hb, row_ne_cells HO3.out HG2.out (by decide) b hb⟩)
        obtain ⟨tb, tbc, htb⟩ := own_form htw (by omega)
        simp only [Value.slice.injEq] at htb
        obtain ⟨rfl, _, rfl⟩ := htb
        have k3 := row_cell htw (fun _ => rfl) HU.out (by omega) (j := 3) (u := .int .i64 u.level) rfl
        have k4 := row_cell htw (fun _ => rfl) HU.out (by omega) (j := 4) (u := .int .i64 u.assoc) rfl
        rw [HU2.out] at k3
        rw [HU3.out] at k4
        have htl := (htw.lt tb rfl).2
        have z0 := cell_at (i := 0) q1; have z5 := cell_at (i := 0) q2
        have lq1 := lt_at q1; have lq2 := lt_at q2
        have hlpd : decide (0 < tt.level) = false := decide_eq_false (by omega)
        have ht3I : (t : Int) + 3 < (N : Int) + 3 := by omega
        have ht3N : t + 3 < N + 3 := by omega
        have ht03 : (0 : Int) ≤ (t : Int) + 3 := by omega
        have htn : ((t : Int) + 3).toNat = t + 3 := by omega
        have hw3 : IntKind.i64.wrap ((t : Int) + 3) = (t : Int) + 3 := IntWalk.i64_in _ ⟨by omega, by omega⟩
        have hw4 : IntKind.i64.wrap (lev + 1) = lev + 1 := IntWalk.i64_in _ ⟨by have := HLV.out; omega, by have := HLV.out; omega⟩
        have hw5 : IntKind.i64.wrap ((N : Int) + 3) = (N : Int) + 3 := IntWalk.i64_in _ ⟨by omega, by omega⟩
        clear htw q1 q2 kF
        go_wp2_with fail
        go_ret
        exact ⟨rfl, HBF.out⟩
end Go.Proofs.YtddnomjfcbplpaaDoor
