/- The walk of lex.Words. -/
import Derived.Test.YthmimcegiihcnaaGreatDoorCe
import Derived.Test.YthmimcegiihcnaaGreatDoorBk
import Derived.Test.YthmimcegiihcnaaGreatDoorSpZ
namespace Go.Proofs.YthmimcegiihcnaaGreatDoor
open Go.RowKit

def wordC (x : Sp.Word) : List Value := [.int .i64 x.kind, .string ⟨x.text.toArray⟩, .int .i64 x.at_]
theorem ownsRow_old {w w' : World} {base : Nat} {e : TypeId} {size : Nat} {v : Value} {n : Nat} {xs : List Value} (h : w.ownsRow base e size v n xs) (k : Kp (fun k => k < w.heap.size) w w') : w'.ownsRow base e size v n xs :=
  ownsRow_kp h k (fun b hb => (h.lt b hb).2)
theorem new_cells_at (w : World) (cs : List Value) (t : TypeId) (n : Nat) (hn : n = w.heap.size) : ∀ j u, cs[j]? = some u → (w.alloc (.cells cs.toArray t)).cell? ((⟨n, 0, none⟩ : Addr).add j) = some u := by
  subst hn; exact new_cells w cs t
section
variable {P : Program} {fn : Func} {R : Ending → World → Prop} {a : Act} {W : World} {g : Nat} {t ty : TypeId} {cs : Array Value} {fr : Nat × Nat} {d : TypeDesc} {p u : Tmp}
theorem ret_tmp_cell (hf : fn.results = #[.tmp u, .cell p ty]) (hp : a.tmps.getD p undef = .pointer (some ⟨g, 0, none⟩)) (hg : W.heap[g]? = some (.cells cs t fr))
    (hd : (match d with | .struct _ | .array _ _ => true | _ => false) = true) (hu : P.underlying ty = some d) (hi : (P.info? ty).map (·.size) = some cs.size)
    (hdef : a.defers = []) (hR : R (.returned (.tuple #[a.tmps.getD u undef, .agg cs])) W) : bodyPost P fn R .ret a W := by
  refine bodyPost_ret ?_ hdef hR
  have hl := run_loadVar_row (P := P) W g t ty cs fr d hg hu (by cases d <;> simp_all) hi
  have hp' : a.tmps[p]?.getD undef = .pointer (some ⟨g, 0, none⟩) := by simpa using hp
  simp [results, hf, hp', asAddr, hl]
end

end Go.Proofs.YthmimcegiihcnaaGreatDoor
