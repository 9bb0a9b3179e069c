/- Nothing of the library is wanted. -/
import Derived.Test.YtoookjadbhdfhaaDoorProg
namespace Go.Proofs.YtoookjadbhdfhaaDoor
end Go.Proofs.YtoookjadbhdfhaaDoor
