/- The walk of lex.word: an action's text; the word whole. -/
import Derived.Test.YthmimcegiihcnaaGreatDoorCd
namespace Go.Proofs.YthmimcegiihcnaaGreatDoor
open Go.RowKit
section
variable (s : ByteArray) (at_ : Nat) (w : World)
end
end Go.Proofs.YthmimcegiihcnaaGreatDoor
