/- The walk of dollar. -/
import Derived.Test.YthmimcegiihcnaaGreatDoorW0
import Derived.Test.YthmimcegiihcnaaGreatDoorSpZ
import Derived.Test.YthmimcegiihcnaaGreatDoorBZ
namespace Go.Proofs.YthmimcegiihcnaaGreatDoor
open Go.RowKit

def pieceV (p : Sp.Piece) : Value := .agg #[.int .i64 p.kind, .string ⟨p.text.toArray⟩, .int .i64 p.n, .string ⟨p.tag.toArray⟩]
theorem toArr (s : ByteArray) : (⟨s.data.toList.toArray⟩ : ByteArray) = s := Lib.mk_data s
theorem ext_toArr (s : ByteArray) (a b : Nat) : (⟨((s.data.toList.drop a).take (b - a)).toArray⟩ : ByteArray) = s.extract a b := (Lib.extract_eq s a b).symm
theorem digits_cons (c : UInt8) (t : List UInt8) : Sp.digits (c :: t) = if Sp.digit c = true then Sp.digits t + 1 else 0 := rfl

end Go.Proofs.YthmimcegiihcnaaGreatDoor
