/- Layer 8, the reference: an alternative. -/
import Derived.Test.YthmimcegiihcnaaDoorKs
import Derived.Test.YthmimcegiihcnaaDoorEa
namespace Go.Proofs.YthmimcegiihcnaaDoor
open Go.RowKit

/-! ### An alternative -/
end Go.Proofs.YthmimcegiihcnaaDoor
