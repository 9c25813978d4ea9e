/- Layer 8, the reference: a declaration. -/
import Derived.Test.YthmimcegiihcnaaDoorEa
namespace Go.Proofs.YthmimcegiihcnaaDoor
open Go.RowKit

end Go.Proofs.YthmimcegiihcnaaDoor
