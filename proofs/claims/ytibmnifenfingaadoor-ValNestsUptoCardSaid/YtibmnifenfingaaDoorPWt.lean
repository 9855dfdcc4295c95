/- How many lie in a value. Plain data. -/
import Derived.Test.YtibmnifenfingaaDoorPA
namespace Go.Proofs.YtibmnifenfingaaDoor
set_option maxRecDepth 100000
namespace VT
mutual
def wt : VT → Nat
  | .mk _ _ s => 1 + wtL s
def wtL : List VT → Nat
  | [] => 0
  | x :: s => wt x + wtL s
end
end VT
end Go.Proofs.YtibmnifenfingaaDoor
