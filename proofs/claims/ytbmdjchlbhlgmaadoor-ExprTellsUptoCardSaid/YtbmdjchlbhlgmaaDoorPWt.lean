/- How many lie in a value. Plain data. -/
import Derived.Test.YtbmdjchlbhlgmaaDoorPRefE
namespace Go.Proofs.YtbmdjchlbhlgmaaDoor
set_option maxRecDepth 100000
namespace VT
mutual
def wt : VT → Nat
  | .mk _ _ s => 1 + wtL s
def wtL : List VT → Nat
  | [] => 0
  | x :: s => wt x + wtL s
end
theorem leaves_wt (v : VT) : (leaves v).length ≤ wt v := by
  induction v using VT.ind with
  | h l n s ih =>
    have hL : ∀ (t : List VT), (∀ x ∈ t, x ∈ s) → (leavesL t).length ≤ wtL t := by
      intro t
      induction t with
      | nil => intro _; simp [leavesL, wtL]
      | cons y t iht =>
        intro hx
        have h1 := ih y (hx y (by simp))
        have h2 := iht (fun z hz => hx z (by simp [hz]))
        simp only [leavesL, wtL, List.length_append]
        omega
    have h3 := hL s (fun x hx => hx)
    cases l with
    | true => simp only [leaves, wt, if_true]; omega
    | false => simp [leaves, wt]
end VT
end Go.Proofs.YtbmdjchlbhlgmaaDoor
