/- PLAIN: is what was read written to just these bytes? -/
import Derived.Test.YtloglpamnalmeaaMem
namespace Go.Proofs.Ytloglpamnalmeaa
def chkGood (bad : Bool) (rest bs : List (BitVec 8)) (r : Bool) (X : List (BitVec 8)) : Bool := !bad && rest.isEmpty && !r && (bs == X)
end Go.Proofs.Ytloglpamnalmeaa
