/- The paths of StoreNone on unknown values. -/
import Derived.Test.YtojhefbnlmlilaaGreatDoorEvF
import Derived.Test.YtojhefbnlmlilaaGreatDoorProg
import Derived.KernelRfl
set_option linter.unusedVariables false
set_option linter.unusedSimpArgs false
namespace Go.Ev
open Go.Proofs
noncomputable section
def awakeO (S : St) : List Value → Option (Res (Value × St))
  | [] => some (.ok (.bool true, S))
  | _ => none

def oraA (f : FuncId) (args : List Value) (S : St) : Option (Res (Value × St)) :=
  match Nat.beq f 4 with
  | true => awakeO S args
  | false => none

def argS (n : Nat) (prio id now : Int) : Value := .agg ⟨[.slice (some ⟨0, 0, none⟩) n 0, .int .i64 prio, .int .u64 id, .int .u64 now]⟩
def argN (prio id now : Int) : Value := .agg ⟨[.slice none 0 0, .int .i64 prio, .int .u64 id, .int .u64 now]⟩

def PathS (m n : Nat) (prio id now : Int) (sc : List Bool) : Prop := runP Tryz.prog oraA [26] m m 3 [argS n prio id now] ⟨.lf, 1⟩ sc (fun v _ => v = .bool true)
def PathN (m : Nat) (prio id now : Int) (sc : List Bool) : Prop := runP Tryz.prog oraA [26] m m 3 [argN prio id now] ⟨.lf, 1⟩ sc (fun v _ => v = .bool true)

theorem path_far (n : Nat) (prio id now : Int) : PathS 1000 n prio id now [true] = (decide (100 < (Int.ofNat n)) = true ∧ Value.bool true = Value.bool true) := by kernel_rfl
theorem path_near (n : Nat) (prio id now : Int) : PathS 1000 n prio id now [false] = (decide (100 < (Int.ofNat n)) = false ∧ Value.bool true = Value.bool true) := by kernel_rfl
theorem path_nil (prio id now : Int) : PathN 1000 prio id now [false] = (false = false ∧ Value.bool true = Value.bool true) := by kernel_rfl
end
end Go.Ev
