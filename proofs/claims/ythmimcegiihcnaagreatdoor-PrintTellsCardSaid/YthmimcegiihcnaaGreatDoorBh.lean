/- The walk of dollar behind a tag; dollar whole. -/
import Derived.Test.YthmimcegiihcnaaGreatDoorW0
import Derived.Test.YthmimcegiihcnaaGreatDoorBg
import Derived.Test.YthmimcegiihcnaaGreatDoorBZ
namespace Go.Proofs.YthmimcegiihcnaaGreatDoor
open Go.RowKit


end Go.Proofs.YthmimcegiihcnaaGreatDoor
