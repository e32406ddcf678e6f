/-
  The statements' own helpers on nets: toNet.
-/
import Derived.Test.YtmaecadflilbgaaNetR
namespace Go.Proofs.Ytmaecadflilbgaa
open Go.RowKit

end Go.Proofs.Ytmaecadflilbgaa
