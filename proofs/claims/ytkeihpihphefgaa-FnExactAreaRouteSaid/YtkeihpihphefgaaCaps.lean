/- The room behind a slice. No program is named here. -/
import Derived.Test.YtkeihpihphefgaaMem
namespace Go.Proofs.Ytkeihpihphefgaa
open Go.RowKit
/-- There is room behind a slice, and no more than there may be. -/
def Caps (len cap : Nat) : Prop := len ≤ cap ∧ cap ≤ maxLen
end Go.Proofs.Ytkeihpihphefgaa
