/- Part of the proofs of the statements about requests (layer 7): a symbolic executor over the code, that it is sound, and contracts of functions; it has no conditions of its own. -/
import Derived.Test.YtefelnhpfdcleaaGreatDoorSzPat
import Derived.Test.YtefelnhpfdcleaaGreatDoorSzPao
namespace Go.Sx
set_option maxRecDepth 10000
open Go
end Go.Sx
