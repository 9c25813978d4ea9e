/- Plain laws of gram.Of at the sources that the statements of layer 9 make: passes, limits, inner actions; by the kernel's run of the plain machine. -/
import Derived.Test.YthmimcegiihcnaaDoorZ05
namespace Go.Proofs.YthmimcegiihcnaaDoor
namespace Sp
def codeOf (i : Nat) : List UInt8 := 123 :: (Lib.itoa (i : Int) ++ [125])
def innerParts (n : Nat) : Nat → List Bool → List Part
  | _, [] => []
  | i, b :: l => ⟨⟨[120], true, 0, (i : Int)⟩, [], (i : Int)⟩ :: ((if b = true then [⟨⟨[], false, 0, 0⟩, codeOf i, 50 + (i : Int)⟩] else []) ++ innerParts n (i + 1) l)
def innerSrc (l : List Bool) : Source := ⟨[], [], [⟨[97], [⟨innerParts l.length 0 l, ⟨[], false, 0, 0⟩, 40⟩], 0⟩], []⟩
structure InnSt where
  right : List Int
  prods : List Prod
  nons : List Non
  last : List UInt8
  at_ : Int
def innGo (n : Nat) : Nat → List Bool → InnSt → InnSt
  | _, [], s => s
  | i, b :: l, s =>
    let right := s.right ++ [3]
    if b = false then innGo n (i + 1) l { s with right := right }
    else if i + 1 = n then innGo n (i + 1) l { s with right := right, last := codeOf i, at_ := 50 + (i : Int) }
    else
      let k := s.prods.length
      innGo n (i + 1) l { s with right := right ++ [1001 + ((k + 1 : Nat) : Int)], prods := s.prods ++ [⟨((k + 2 : Nat) : Int), [], -1, codeOf i, right, 50 + (i : Int)⟩], nons := s.nons ++ [⟨64 :: Lib.itoa ((k + 1 : Nat) : Int), []⟩] }
def innExp (l : List Bool) : Gram × Fault :=
  let s := innGo l.length 0 l ⟨[], [], [], [], 40⟩
  if 8 < s.right.length then (noGram, ⟨4, 0, []⟩)
  else (⟨mk0.toks ++ (if l = [] then [] else [⟨[120], true, 120, 0, 0, []⟩]), mk0.nons ++ [⟨[97], []⟩] ++ s.nons, ⟨0, [1001], -1, [], [], 0⟩ :: s.prods ++ [⟨1, s.right, if l = [] then -1 else 3, s.last, s.right, s.at_⟩], [], []⟩, ⟨0, 0, []⟩)
def boolsOf : Nat → List (List Bool)
  | 0 => [[]]
  | n + 1 => (boolsOf n).flatMap fun l => [true :: l, false :: l]
theorem inn_all : ((List.range 8).all fun n => (boolsOf n).all fun l => decide (gramOf (innerSrc l) = innExp l)) = true := by decide +kernel
theorem boolsOf_mem : ∀ (l : List Bool), l ∈ boolsOf l.length
  | [] => by simp [boolsOf]
  | b :: l => by
    have h := boolsOf_mem l
    show b :: l ∈ (boolsOf l.length).flatMap _
    rw [List.mem_flatMap]
    exact ⟨l, h, by cases b <;> simp⟩
theorem inn_law (l : List Bool) (h : l.length ≤ 7) : gramOf (innerSrc l) = innExp l := by
  have h1 := List.all_eq_true.1 inn_all l.length (List.mem_range.2 (by omega))
  have h2 := List.all_eq_true.1 h1 l (boolsOf_mem l)
  exact of_decide_eq_true h2
/-! ### What the document fixes -/
def wakeGram : Source := ⟨[], [⟨2, [], [⟨[43], true, 0, 0⟩], 0⟩], [⟨[101], [⟨[⟨⟨[101], false, 0, 0⟩, [], 0⟩, ⟨⟨[43], true, 0, 0⟩, [], 0⟩, ⟨⟨[101], false, 0, 0⟩, [], 0⟩], ⟨[], false, 0, 0⟩, 0⟩, ⟨[⟨⟨[120], true, 0, 0⟩, [], 0⟩], ⟨[], false, 0, 0⟩, 0⟩], 0⟩], []⟩
theorem wake_gram : gramOf wakeGram = (⟨[⟨[36, 101, 110, 100], false, 0, 0, 0, []⟩, ⟨errName, false, -1, 0, 0, []⟩, ⟨[36, 117, 110, 107], false, -1, 0, 0, []⟩, ⟨[43], true, 43, 1, 1, []⟩, ⟨[120], true, 120, 0, 0, []⟩], [⟨[36, 97, 99, 99, 101, 112, 116], []⟩, ⟨[101], []⟩], [⟨0, [1001], -1, [], [], 0⟩, ⟨1, [1001, 3, 1001], 3, [], [1001, 3, 1001], 0⟩, ⟨1, [4], 4, [], [4], 0⟩], [], []⟩, ⟨0, 0, []⟩) := by decide +kernel
theorem wake_none : gramOf ⟨[], [], [], []⟩ = (noGram, ⟨1, 0, []⟩) := by decide +kernel
end Sp
end Go.Proofs.YthmimcegiihcnaaDoor
