import Derived.Test.YtddnomjfcbplpaaGreatDoorZ14
namespace Go.Proofs.YtddnomjfcbplpaaGreatDoor
namespace Sp
def vA : zM := ⟨[], [⟨2, [], [⟨[43], true, 0, 0⟩], 0⟩], [⟨[101], [⟨[⟨⟨[101], false, 0, 0⟩, [], 0⟩, ⟨⟨[43], true, 0, 0⟩, [], 0⟩, ⟨⟨[101], false, 0, 0⟩, [], 0⟩], ⟨[], false, 0, 0⟩, 0⟩, ⟨[⟨⟨[120], true, 0, 0⟩, [], 0⟩], ⟨[], false, 0, 0⟩, 0⟩], 0⟩], []⟩
theorem wake_gram : jL vA = (⟨[⟨[36, 101, 110, 100], false, 0, 0, 0, []⟩, ⟨jE, false, -1, 0, 0, []⟩, ⟨[36, 117, 110, 107], false, -1, 0, 0, []⟩, ⟨[43], true, 43, 1, 1, []⟩, ⟨[120], true, 120, 0, 0, []⟩], [⟨[36, 97, 99, 99, 101, 112, 116], []⟩, ⟨[101], []⟩], [⟨0, [1001], -1, [], [], 0⟩, ⟨1, [1001, 3, 1001], 3, [], [1001, 3, 1001], 0⟩, ⟨1, [4], 4, [], [4], 0⟩], [], []⟩, ⟨0, 0, []⟩) := by decide +kernel
theorem wake_none : jL ⟨[], [], [], []⟩ = (xG, ⟨1, 0, []⟩) := by decide +kernel
end Sp
end Go.Proofs.YtddnomjfcbplpaaGreatDoor
