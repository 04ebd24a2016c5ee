/- What hot functions tell, in numbers: definitions. -/
import Derived.Test.YtnmmmiliogogfaaGreatDoorEvG
set_option linter.unusedVariables false
set_option linter.unusedSimpArgs false
namespace Go.Proofs.Wag
/-! What hot functions tell, in numbers. -/
def zer8 (n : Nat) : Nat := 8 - (n % 2 + n / 2 % 2 + n / 4 % 2 + n / 8 % 2 + n / 16 % 2 + n / 32 % 2 + n / 64 % 2 + n / 128 % 2)
def zq (n : Nat) : Nat := match Nat.beq n 255 with | true => 0 | false => zer8 n
def sumZ : List Nat → Nat
  | [] => 0
  | n :: l => zq n + sumZ l
def atN (l : List Nat) (i : Nat) : Nat := match Ev.nth l i with | some b => b | none => 0
def getN (l : List Nat) (k : Nat) : Nat → Nat
  | 0 => 0
  | i + 1 => getN l k i * 256 + atN l (k + i)
def putN (n w : Nat) : Nat → List Nat
  | 0 => []
  | k + 1 => putN n w k ++ [n / 2 ^ (8 * (w - 1 - k)) % 256]
def progN (c b m : Nat) : Nat := Nat.land c (Nat.lor b (Nat.xor 255 m))
def progM (os bs ms : List Nat) (k : Nat) : List Nat := (List.range k).map fun i => if bs.length ≤ i then atN os i else progN (atN os i) (atN bs i) (atN ms (i % ms.length))
def eraM (os ms : List Nat) (k : Nat) : List Nat := (List.range k).map fun i => Nat.lor (atN os i) (atN ms (i % ms.length))
end Go.Proofs.Wag
namespace Go.Ev
open Go.Proofs Go.Proofs.Wag
noncomputable section
def bytesN : List Value → Option (List Nat)
  | [] => some []
  | v :: r => match v with
    | .int .u8 (.ofNat n) => match Nat.blt n 256 with
      | true => match bytesN r with
        | some l => some (n :: l)
        | none => none
      | false => none
    | _ => none

def bytesAt (S : St) : Value → Option (List Nat)
  | .slice (some ⟨F, off, none⟩) n _ => match Nat.blt 0 n && Nat.ble n 1000000 with
    | true => match loadRow S F off n with
      | .ok l => bytesN l
      | .no _ => none
    | false => none
  | _ => none

def cellsN (l : List Nat) : List Value := l.map fun n => .int .u8 (Int.ofNat n)
def freshO (S : St) (l : List Nat) : Option (Res (Value × St)) := some (.ok (.slice (some ⟨S.next, 0, none⟩) l.length 0, S.new (mkRow (cellsN l) 1)))

def countO (args : List Value) (S : St) : Option (Res (Value × St)) :=
  match args with
  | [v] => match bytesAt S v with
    | some l => some (.ok (.int .i64 (Int.ofNat (sumZ l)), S))
    | none => none
  | _ => none

def ck (n k : Nat) : Nat := match Nat.blt n k with | true => n | false => k
def cw (w : Nat) : Nat := match Nat.ble w 8 with | true => w | false => 8
def getO (args : List Value) (S : St) : Option (Res (Value × St)) :=
  match args with
  | [v, .int .i64 (.ofNat k), .int .i64 (.ofNat w)] => match Nat.ble k 1000000 with
    | true => match bytesAt S v with
      | some l => some (.ok (.int .u64 (Int.ofNat (getN l (ck l.length k) (cw w))), S))
      | none => none
    | false => none
  | _ => none

def putO (args : List Value) (S : St) : Option (Res (Value × St)) :=
  match args with
  | [v, .int .i64 (.ofNat w), .int .u64 (.ofNat n)] => match Nat.ble w 8 && Nat.blt 0 w with
    | true => match v with
      | .slice none 0 0 => freshO S (putN n w w)
      | v => match bytesAt S v with
        | some l => freshO S (l ++ putN n w w)
        | none => none
    | false => none
  | _ => none

def progO (args : List Value) (S : St) : Option (Res (Value × St)) :=
  match args with
  | [o, b, m] => match bytesAt S o with
    | some os => match bytesAt S b with
      | some bs => match bytesAt S m with
        | some ms => freshO S (progM os bs ms os.length)
        | none => none
      | none => none
    | none => none
  | _ => none

def eraO (args : List Value) (S : St) : Option (Res (Value × St)) :=
  match args with
  | [o, m] => match bytesAt S o with
    | some os => match bytesAt S m with
      | some ms => freshO S (eraM os ms os.length)
      | none => none
    | none => none
  | _ => none

def onesO (args : List Value) (S : St) : Option (Res (Value × St)) :=
  match args with
  | [.int .i64 (.ofNat n)] => match Nat.ble n 1000000 && Nat.blt 0 n with
    | true => freshO S (List.replicate n 255)
    | false => none
  | _ => none

def ora (f : FuncId) (args : List Value) (S : St) : Option (Res (Value × St)) :=
  match Nat.beq f 213 with
  | true => countO args S
  | false => match Nat.beq f 29 with
    | true => onesO args S
    | false => match Nat.beq f 50 with
      | true => getO args S
      | false => match Nat.beq f 163 with
        | true => putO args S
        | false => match Nat.beq f 151 with
          | true => progO args S
          | false => match Nat.beq f 181 with
            | true => eraO args S
            | false => none
end
end Go.Ev
