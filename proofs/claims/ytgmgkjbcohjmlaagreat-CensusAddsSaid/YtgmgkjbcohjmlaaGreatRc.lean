/- What stands for awake, High and Same in the evaluation of CensusAdds, and the form of its paths. -/
import Derived.Test.YtgmgkjbcohjmlaaGreatEvF
import Derived.Test.YtgmgkjbcohjmlaaGreatRa
import Derived.Test.YtgmgkjbcohjmlaaGreatWa
namespace Go.Ev
open Go.Proofs Go.Proofs.Wag
noncomputable section

def intsOf : List Value → Option (List Int)
  | [] => some []
  | v :: l => match v with
    | .int k n => match k with
      | .i64 => match intsOf l with
        | some r => some (n :: r)
        | none => none
      | _ => none
    | _ => none

def sameO : List Int → List Int → Option Bool
  | [a0, a1, a2, k0, k1, k2, k3, k4, k5, a3, _, _], [b0, b1, b2, j0, j1, j2, j3, j4, j5, b3, _, _] =>
    some ((k0 == j0 && k1 == j1 && k2 == j2 && k3 == j3 && k4 == j4 && k5 == j5) && ((a0 == b0) && (a1 == b1) && (a2 == b2) && (a3 == b3)))
  | _, _ => none

def samesO (S : St) : List Value → Option (Res (Value × St))
  | [u, v] => match u with
    | .agg a => match v with
      | .agg b => match intsOf a.toList with
        | some l => match intsOf b.toList with
          | some l' => match sameO l l' with
            | some r => some (.ok (.bool r, S))
            | none => none
          | none => none
        | none => none
      | _ => none
    | _ => none
  | _ => none

def highO (S : St) : List Value → Option (Res (Value × St))
  | [u, v] => match u with
    | .int k a => match k with
      | .i64 => match v with
        | .int k' b => match k' with
          | .i64 => some (.ok (.int .i64 (if a > b then a else b), S))
          | _ => none
        | _ => none
      | _ => none
    | _ => none
  | _ => none

def awakeO (S : St) : List Value → Option (Res (Value × St))
  | [] => some (.ok (.bool true, S))
  | _ => none

def oraC (f : FuncId) (args : List Value) (S : St) : Option (Res (Value × St)) :=
  match Nat.beq f 9 with
  | true => awakeO S args
  | false => match Nat.beq f 15 with
    | true => highO S args
    | false => match Nat.beq f 16 with
      | true => samesO S args
      | false => none

def dsC : List Nat := [60, 68, 78, 84, 91, 98, 117, 128, 149, 159, 169, 179, 189, 199, 204, 219, 225]

theorem early0 (a0 a1 a2 k0 k1 k2 k3 k4 k5 a3 a4 a5 b0 b1 b2 j0 j1 j2 j3 j4 j5 b3 b4 b5 : Int) :
    runP Tryz.prog oraC dsC 1000 1000 4 [cen a0 a1 a2 k0 k1 k2 k3 k4 k5 a3 a4 a5, cen b0 b1 b2 j0 j1 j2 j3 j4 j5 b3 b4 b5] ⟨.lf, 0⟩ [true] (fun v _ => v = .bool true) =
      (decide (1099511627776 < a0) = true ∧ Value.bool true = Value.bool true) := by kernel_rfl
end
end Go.Ev
namespace Go.Ev
open Go.Proofs Go.Proofs.Wag
def PathC (m : Nat) (a0 a1 a2 k0 k1 k2 k3 k4 k5 a3 a4 a5 b0 b1 b2 j0 j1 j2 j3 j4 j5 b3 b4 b5 : Int) (sc : List Bool) : Prop := runP Tryz.prog oraC dsC m m 4 [cen a0 a1 a2 k0 k1 k2 k3 k4 k5 a3 a4 a5, cen b0 b1 b2 j0 j1 j2 j3 j4 j5 b3 b4 b5] ⟨.lf, 0⟩ sc (fun v _ => v = .bool true)
end Go.Ev
