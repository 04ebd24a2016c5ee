/- The law's own awake() tells true. -/
import Derived.Test.YtgmgkjbcohjmlaaGreatRa
namespace Go.Ev
open Go.Proofs Go.Proofs.Wag
noncomputable section
def isTrue : Res (Value × St) → Bool
  | .ok p => match p.1 with
    | .bool b => b
    | _ => false
  | .no _ => false
theorem awake42 : isTrue (run Tryz.prog ora 2000 9 [] ⟨.lf, 0⟩) = true := by kernel_rfl
end
end Go.Ev
