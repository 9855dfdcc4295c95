/- How many lie in a value. Plain data. -/
import Derived.Test.YtlhdiekibkdiaaaDoorPA
namespace Go.Proofs.YtlhdiekibkdiaaaDoor
set_option maxRecDepth 100000
namespace VT
mutual
def wt : VT → Nat
  | .mk _ _ s => 1 + wtL s
def wtL : List VT → Nat
  | [] => 0
  | x :: s => wt x + wtL s
end
end VT
end Go.Proofs.YtlhdiekibkdiaaaDoor
