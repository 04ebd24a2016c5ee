/- An evaluator of the model's code on abstract memory, and first laws about it: helper texts, no condition. -/
import GoSem.Claims
import Derived.Laws.Cells
import Derived.Laws.CopyRow
import Derived.Laws.Tables
set_option linter.unusedVariables false
set_option linter.unusedSimpArgs false
namespace Go.Ev
noncomputable section

inductive Res (α : Type) where
  | ok (a : α)
  | no (why : Nat)

def Res.bind {α β : Type} (r : Res α) (f : α → Res β) : Res β :=
  match r with
  | .ok a => f a
  | .no n => .no n

def Res.ofOpt {α : Type} (why : Nat) (o : Option α) : Res α :=
  match o with
  | some a => .ok a
  | none => .no why

def nth {α : Type} : List α → Nat → Option α
  | [], _ => none
  | x :: xs, n => match n with
    | 0 => some x
    | m + 1 => nth xs m

/-- The way to number k in a tree. -/
def bitsF : Nat → Nat → List Bool
  | 0, _ => []
  | n + 1, k =>
    match Nat.beq k 0 with
    | true => []
    | false => Nat.beq (Nat.mod k 2) 1 :: bitsF n (Nat.div (Nat.sub k 1) 2)

def bits (k : Nat) : List Bool := bitsF k k

inductive Tr (α : Type) where
  | lf
  | nd (l : Tr α) (v : Option α) (r : Tr α)

def Tr.val {α : Type} : Tr α → Option α
  | .lf => none
  | .nd _ v _ => v
def Tr.left {α : Type} : Tr α → Tr α
  | .lf => .lf
  | .nd l _ _ => l
def Tr.right {α : Type} : Tr α → Tr α
  | .lf => .lf
  | .nd _ _ r => r

def Tr.getP {α : Type} (p : List Bool) : Tr α → Option α :=
  List.rec (motive := fun _ => Tr α → Option α) Tr.val (fun b _ ih t => Bool.rec (ih t.right) (ih t.left) b) p

def Tr.setP {α : Type} (o : Option α) (p : List Bool) : Tr α → Tr α :=
  List.rec (motive := fun _ => Tr α → Tr α)
    (fun t => Tr.casesOn (motive := fun _ => Tr α) t (.nd .lf o .lf) (fun l _ r => .nd l o r))
    (fun b _ ih t => Tr.casesOn (motive := fun _ => Tr α) t
      (Bool.rec (.nd .lf none (ih .lf)) (.nd (ih .lf) none .lf) b)
      (fun l v r => Bool.rec (.nd l v (ih r)) (.nd (ih l) v r) b)) p

def Tr.get {α : Type} (t : Tr α) (k : Nat) : Option α := Tr.getP (bits k) t
def Tr.set {α : Type} (t : Tr α) (k : Nat) (o : Option α) : Tr α := Tr.setP o (bits k) t

def Tr.pushL {α : Type} (t : Tr α) (k : Nat) (l : List α) : Tr α :=
  List.rec (motive := fun _ => Tr α → Nat → Tr α) (fun t _ => t) (fun v _ ih t k => ih (t.set k (some v)) (Nat.succ k)) l t k

/-- n values from k on. -/
def Tr.take {α : Type} (t : Tr α) (n k : Nat) : Res (List α) :=
  Nat.rec (motive := fun _ => Nat → Res (List α)) (fun _ => .ok [])
    (fun _ ih k => (Res.ofOpt 1 (t.get k)).bind fun v => (ih (Nat.succ k)).bind fun vs => .ok (v :: vs)) n k

abbrev Ts := Tr Value

def Tr.tmp (T : Ts) (k : Nat) : Value := match T.get k with
  | some v => v
  | none => .tuple #[]

/-- What lies at a block. -/
inductive Ob where
  | row (cs : Tr Value) (n s : Nat) (stale : Bool) (old : Option Nat)
  | map (es : List (Value × Value)) (bs : List Nat) (clk : Nat)
  | iter (m : Option Nat) (since : Nat) (seen : List Nat) (last : Nat)
  | siter (s : ByteArray) (pos : Nat)

structure St where
  heap : Tr Ob
  next : Nat

def St.get (S : St) (F : Nat) : Option Ob := S.heap.get F
def St.put (S : St) (F : Nat) (o : Ob) : St := ⟨S.heap.set F (some o), S.next⟩
def St.drop (S : St) (F : Option Nat) : St := match F with | some f => ⟨S.heap.set f none, S.next⟩ | none => S
def St.new (S : St) (o : Ob) : St := ⟨S.heap.set S.next (some o), Nat.succ S.next⟩

/-- No address in it. -/
def plainD : Nat → Value → Bool
  | 0, _ => false
  | n + 1, v => match v with
    | .bool _ | .int .. | .float .. | .complex .. | .string _ | .nilFunc | .nilIface => true
    | .pointer none | .slice none 0 0 | .map none | .chan none => true
    | .func _ a b => a.toList.all (plainD n) && b.toList.all (plainD n)
    | .iface _ w => plainD n w
    | .agg cs => cs.toList.all (plainD n)
    | .tuple cs => cs.toList.all (plainD n)
    | _ => false

def plain (v : Value) : Bool := plainD 4 v

/-- A program of the model that asks nothing of memory. -/
def peek {α : Type} (P : Program) : Sem α → Option α
  | .pure a => some a
  | .program k => peek P (k P)
  | .mark _ k => peek P k
  | _ => none

/-- What an operation does: a value and what memory is behind it; or a call. -/
inductive Act1 where
  /-- a value; memory stays -/
  | val (v : Value)
  /-- a value, and one new thing, at the next number -/
  | new (v : Value) (o : Ob)
  /-- a value; memory turns -/
  | upd (v : Value) (S : St)
  | call (f : FuncId) (args : List Value)

def un (r : Res (Value × St)) : Res Act1 := r.bind fun p => .ok (.upd p.1 p.2)
def un1 (r : Res Value) : Res Act1 := r.bind fun v => .ok (.val v)
def unN (r : Res (Value × Ob)) : Res Act1 := r.bind fun p => .ok (.new p.1 p.2)
def un0 (r : Res St) : Res Act1 := r.bind fun S => .ok (.upd undef S)

section
variable (P : Program)

/-- Is a type one of several cells? -/
def aggT (t : TypeId) : Option Bool := match P.underlying t with | some (.struct _) => some true | some (.array _ _) => some true | some _ => some false | none => none
def knownT (t : TypeId) : Bool := match P.info? t with | some _ => true | none => false
def sizeT (t : TypeId) : Nat := match P.info? t with | some i => i.size | none => 0
def bytesT (t : TypeId) : Nat := match P.info? t with | some i => i.bytes | none => 0
def zeroT (t : TypeId) : Option (List Value) := match P.info? t with | some i => (match i.zero with | some v => some v.cells.toList | none => none) | none => none
/-- Is the zero of a type of the type's own size? -/
def zlenOk (t : TypeId) : Bool := match zeroT P t with | some z => Nat.beq z.length (sizeT P t) | none => false
def elemT (t : TypeId) : Option TypeId := match P.underlying t with | some (.slice e) => some e | _ => none

def loadRow (S : St) (F off n : Nat) : Res (List Value) :=
  match S.get F with
  | some (.row cs m _ _ _) => match Nat.ble (Nat.add off n) m with
    | true => cs.take n off
    | false => .no 2
  | _ => .no 3

def loadT (S : St) (t : TypeId) (F off : Nat) : Res Value :=
  match aggT P t with
  | some true => (loadRow S F off (sizeT P t)).bind fun l => .ok (.agg ⟨l⟩)
  | some false => (loadRow S F off 1).bind fun l => match l with
    | [v] => .ok v
    | _ => .no 4
  | none => .no 4

def isCell : Value → Bool
  | .agg _ | .tuple _ => false
  | _ => true

def writeRow (S : St) (F off : Nat) (vs : List Value) : Res St :=
  match S.get F with
  | some (.row cs m s st old) =>
    match st with
    | true => .no 5
    | false => match Nat.ble (Nat.add off vs.length) m && vs.all isCell with
      | true => .ok ((S.drop old).put F (.row (cs.pushL off vs) m s false none))
      | false => .no 6
  | _ => .no 7

def storeT (S : St) (t : TypeId) (F off : Nat) (v : Value) : Res St :=
  let vs := v.cells.toList
  match Nat.beq vs.length (sizeT P t) && knownT P t with
  | true => writeRow S F off vs
  | false => .no 8

/-- A new row of cells. -/
def mkRow (cs : List Value) (s : Nat) : Ob := .row (Tr.pushL .lf 0 cs) cs.length s false none

def opnd (T : Ts) : Operand → Res Value
  | .tmp t => .ok (T.tmp t)
  | .const v => match plain v with | true => .ok v | false => .no 10
  | .global _ => .no 11
  | .func f => .ok (.func (.func f) #[] #[])

def opnds (T : Ts) : List Operand → Res (List Value)
  | [] => .ok []
  | x :: xs => (opnd T x).bind fun v => (opnds T xs).bind fun vs => .ok (v :: vs)

def opnds2 (T : Ts) : List (Nat × Operand) → Res (List (Nat × Value))
  | [] => .ok []
  | (i, x) :: xs => (opnd T x).bind fun v => (opnds2 T xs).bind fun vs => .ok ((i, v) :: vs)

def opndO (T : Ts) : Option Operand → Res (Option Value)
  | none => .ok none
  | some x => (opnd T x).bind fun v => .ok (some v)

/-- x == y where one of both is nil. -/
def nilEq (d : TypeDesc) (x y : Value) : Option Bool :=
  match d with
  | .pointer _ => match x, y with
    | .pointer none, .pointer b => some b.isNone
    | .pointer (some _), .pointer none => some false
    | _, _ => none
  | .slice _ => match x, y with
    | .slice none _ _, .slice b _ _ => some b.isNone
    | .slice (some _) _ _, .slice none _ _ => some false
    | _, _ => none
  | .map _ _ => match x, y with
    | .map none, .map b => some b.isNone
    | .map (some _), .map none => some false
    | _, _ => none
  | .func _ _ _ => match x, y with
    | .nilFunc, .func _ _ _ => some false
    | .func _ _ _, .nilFunc => some false
    | _, _ => none
  | .interface _ => match x, y with
    | .nilIface, .iface _ _ => some false
    | .iface _ _, .nilIface => some false
    | _, _ => none
  | _ => none

def eqBytes : List UInt8 → List UInt8 → Bool
  | [], [] => true
  | a :: x, b :: y => match Nat.beq a.toNat b.toNat with | true => eqBytes x y | false => false
  | _, _ => false

def binR (op : BinOp) (t : TypeId) (x y : Operand) (a b : Value) : Res Value :=
  match a, b with
  | .string p, .string q => match op with
    | .eql => .ok (.bool (eqBytes p.data.toList q.data.toList))
    | .neq => .ok (.bool (!eqBytes p.data.toList q.data.toList))
    | .add => match Nat.ble (Nat.add p.data.toList.length q.data.toList.length) 1000000000 with
      | true => .ok (.string ⟨⟨p.data.toList ++ q.data.toList⟩⟩)
      | false => .no 12
    | _ => .no 12
  | _, _ =>
    match plain a && plain b with
    | true => match peek P (do eqGuard op t x y a b; binOp op t a b) with
      | some v => match plain v with
        | true => .ok v
        | false => .no 13
      | none => .no 13
    | false => match P.underlying t with
      | none => .no 14
      | some d => match op with
        | .eql => match nilEq d a b with | some r => .ok (.bool r) | none => .no 14
        | .neq => match nilEq d a b with | some r => .ok (.bool (!r)) | none => .no 14
        | _ => .no 15

def byteCells (s : ByteArray) : List Value := s.data.toList.map fun b => .int .u8 b.toNat

def bytesOfCells : List Value → Option (List UInt8)
  | [] => some []
  | .int .u8 n :: r => match bytesOfCells r with | some l => some (UInt8.ofNat n.toNat :: l) | none => none
  | _ :: _ => none

/-- The cells of a slice value. -/
def sliceCells (S : St) (size : Nat) : Value → Res (List Value)
  | .slice none _ _ => .ok []
  | .slice (some a) len _ => loadRow S a.block a.off (len * size)
  | .string s => .ok (byteCells s)
  | _ => .no 16

/-- The cells of a slice value as a tree (behind its end there may be others). -/
def rowOf (S : St) (size : Nat) : Value → Res (Tr Value)
  | .slice none _ _ => .ok .lf
  | .slice (some a) len _ => match Nat.beq a.off 0 with
    | true => match S.get a.block with
      | some (.row cs m _ _ _) => match Nat.ble (Nat.mul len size) m with
        | true => .ok cs
        | false => .no 2
      | _ => .no 3
    | false => (loadRow S a.block a.off (Nat.mul len size)).bind fun l => .ok (Tr.pushL .lf 0 l)
  | _ => .no 16

def lenV : Value → Res Nat
  | .slice _ n _ => .ok n
  | .string s => .ok s.data.toList.length
  | _ => .no 17

def convR (S : St) (src dst : TypeId) (x : Value) : Res Act1 :=
  match P.underlying src, P.underlying dst, x with
  | some (.slice e), some .string, .slice a len c =>
    match P.underlying e with
    | some (.int .u8) => (sliceCells S 1 (.slice a len c)).bind fun cs => match bytesOfCells cs with
      | some l => .ok (.val (.string ⟨⟨l⟩⟩))
      | none => .no 18
    | _ => .no 19
  | some .string, some (.slice e), .string s =>
    match P.underlying e with
    | some (.int .u8) => .ok (.new (.slice (some ⟨S.next, 0, none⟩) s.data.toList.length 0) (mkRow (byteCells s) 1))
    | _ => .no 20
  | some .string, some .string, .string s => .ok (.val (.string s))
  | _, _, _ => match plain x with
    | true => match peek P (convert src dst x) with
      | some v => match plain v with
        | true => .ok (.val v)
        | false => .no 21
      | none => .no 21
    | false => .no 22

/-- Is a type one of slices, or of strings? -/
def strOrSlice (t : TypeId) : Bool := match P.underlying t with | some (.slice _) => true | some .string => true | _ => false

def appendR (S : St) (argTypes : List TypeId) (s x : Value) : Res (Value × St) :=
  match argTypes with
  | sT :: xT :: _ =>
    match elemT P sT, strOrSlice P xT with
    | none, _ => .no 24
    | some _, false => .no 23
    | some e, true =>
      let size := sizeT P e
      (lenV x).bind fun n =>
      match s with
      | .slice base len c =>
       match Nat.blt 0 size && zlenOk P e with
       | false => .no 25
       | true =>
        match Nat.beq n 0 with
        | true => .ok (s, S)
        | false => (sliceCells S size x).bind fun new =>
          match Nat.ble ((len + n) * (bytesT P e + 1)) 1000000000 && Nat.beq new.length (n * size) with
          | false => .no 25
          | true =>
          let fresh : Res (Value × St) := (rowOf S size s).bind fun oldc =>
            .ok (.slice (some ⟨S.next, 0, none⟩) (len + n) 0, S.new (.row (oldc.pushL (len * size) new) ((len + n) * size) size false none))
          match base with
          | none => fresh
          | some a =>
            match c with
            | k + 1 => match Nat.ble (len + n) k with
              | true => (writeRow S a.block (a.off + len * size) new).bind fun S' => .ok (.slice base (len + n) c, S')
              | false => fresh
            | 0 =>
              match S.get a.block with
              | some (.row cs m s' st old) =>
                match Nat.beq s' size && !st with
                | false => .no 26
                | true =>
                  match Nat.ble (a.off + (len + n) * size) m with
                  | true => (writeRow S a.block (a.off + len * size) new).bind fun S' => .ok (.slice base (len + n) c, S')
                  | false => match Nat.beq (a.off + len * size) m && new.all isCell with
                    | false => .no 27
                    | true =>
                      (rowOf S size s).bind fun oldc =>
                      .ok (.slice (some ⟨S.next, 0, none⟩) (len + n) 0,
                        ((S.drop old).put a.block (.row cs m s' true none)).new (.row (oldc.pushL (len * size) new) ((len + n) * size) size false (some a.block)))
              | _ => .no 28
      | _ => .no 29
  | _ => .no 30

def boundR (x : Value) (y : Nat) : Res Nat :=
  match x with
  | .int _ n => match n with
    | .ofNat m => match Nat.ble m y with | true => .ok m | false => .no 31
    | _ => .no 32
  | _ => .no 33

def sliceR (S : St) (t : TypeId) (x : Value) (lo hi mx : Option Value) : Res Value :=
  match P.underlying t, x with
  | some .string, .string s =>
    match mx with
    | some _ => .no 34
    | none =>
      let l := s.data.toList
      let n := l.length
      (match hi with | some v => boundR v n | none => .ok n).bind fun h =>
      (match lo with | some v => boundR v h | none => .ok 0).bind fun b =>
      .ok (.string ⟨⟨(l.drop b).take (h - b)⟩⟩)
  | some (.slice e), .slice base len c =>
    let size := sizeT P e
    match knownT P e with
    | false => .no 36
    | true =>
    match base with
    | none =>
      match c, mx with
      | 0, none => (match hi with | some v => boundR v 0 | none => .ok 0).bind fun _ =>
        (match lo with | some v => boundR v 0 | none => .ok 0).bind fun _ => match Nat.beq len 0 with | true => .ok x | false => .no 35
      | _, _ => .no 36
    | some a =>
      match c with
      | k + 1 =>
        (match mx with | some v => boundR v k | none => .ok k).bind fun m =>
        (match hi with | some v => boundR v m | none => (match mx with | some _ => .no 37 | none => .ok len)).bind fun h =>
        (match lo with | some v => boundR v h | none => .ok 0).bind fun l =>
        .ok (.slice (some ⟨a.block, a.off + l * size, none⟩) (h - l) (m - l + 1))
      | 0 =>
        match S.get a.block with
        | some (.row _ m s' _ _) =>
          match Nat.beq s' size && Nat.blt 0 size with
          | false => .no 38
          | true =>
            -- what is surely there: (m - off) / size elements
            let have' := (m - a.off) / size
            match mx with
            | some v => (boundR v have').bind fun mm =>
              (match hi with | some v => boundR v mm | none => .no 37).bind fun h =>
              (match lo with | some v => boundR v h | none => .ok 0).bind fun l =>
              .ok (.slice (some ⟨a.block, a.off + l * size, none⟩) (h - l) (mm - l + 1))
            | none =>
              (match hi with | some v => boundR v have' | none => .ok len).bind fun h =>
              (match lo with | some v => boundR v h | none => .ok 0).bind fun l =>
              .ok (.slice (some ⟨a.block, a.off + l * size, none⟩) (h - l) 0)
        | _ => .no 39
  | some (.array n e), .pointer (some a) =>
    let size := sizeT P e
    match knownT P e with
    | false => .no 40
    | true =>
    (match mx with | some v => boundR v n | none => .ok n).bind fun m =>
    (match hi with | some v => boundR v m | none => (match mx with | some _ => .no 37 | none => .ok n)).bind fun h =>
    (match lo with | some v => boundR v h | none => .ok 0).bind fun l =>
    .ok (.slice (some ⟨a.block, a.off + l * size, none⟩) (h - l) (m - l + 1))
  | _, _ => .no 40

def indexAddrR (t : TypeId) (x i : Value) : Res Value :=
  match i with
  | .int _ (.ofNat n) =>
    match P.underlying t, x with
    | some (.slice e), .slice (some a) len _ => match Nat.blt n len && knownT P e with
      | true => .ok (.pointer (some ⟨a.block, a.off + n * sizeT P e, none⟩))
      | false => .no 41
    | some (.array len e), .pointer (some a) => match Nat.blt n len && knownT P e with
      | true => .ok (.pointer (some ⟨a.block, a.off + n * sizeT P e, none⟩))
      | false => .no 42
    | _, _ => .no 43
  | _ => .no 44

def fieldAddrR (t : TypeId) (x : Value) (f : Nat) : Res Value :=
  match P.underlying t, x with
  | some (.struct fs), .pointer (some a) => match nth fs.toList f with
    | some fd => match Nat.beq (sizeT P fd.type) 0 with
      | false => .ok (.pointer (some ⟨a.block, a.off + fd.offset, none⟩))
      | true => .no 45
    | none => .no 46
  | _, _ => .no 47

def partR (t : TypeId) (cs : List Value) (off : Nat) : Res Value :=
  match aggT P t with
  | some true => .ok (.agg ⟨(cs.drop off).take (sizeT P t)⟩)
  | some false => match nth cs off with
    | some v => .ok v
    | none => .no 49
  | none => .no 48

def fieldR (t : TypeId) (x : Value) (f : Nat) : Res Value :=
  match P.underlying t, x with
  | some (.struct fs), .agg cs => match nth fs.toList f with
    | some fd => partR P fd.type cs.toList fd.offset
    | none => .no 50
  | _, _ => .no 51

def indexR (t : TypeId) (x i : Value) : Res Value :=
  match i with
  | .int _ (.ofNat n) =>
    match P.underlying t, x with
    | some (.array len e), .agg cs => match Nat.blt n len && knownT P e with
      | true => partR P e cs.toList (n * sizeT P e)
      | false => .no 52
    | some .string, .string s => match nth s.data.toList n with
      | some b => .ok (.int .u8 b.toNat)
      | none => .no 53
    | _, _ => .no 54
  | _ => .no 55

def buildR (t : TypeId) (parts : List (Nat × Value)) : Res Value :=
  match zeroT P t with
  | none => .no 56
  | some zero =>
   match zero.all plain with
   | false => .no 56
   | true =>
    match P.underlying t with
    | some (.struct fs) =>
     match fs.toList.all fun f => knownT P f.type with
     | false => .no 57
     | true =>
      match Instr.fill (fun i => match nth fs.toList i with | some f => some (f.offset, sizeT P f.type) | none => none) ⟨zero⟩ parts with
      | some cs => .ok (.agg cs)
      | none => .no 57
    | some (.array _ e) =>
     match knownT P e with
     | false => .no 58
     | true =>
      match Instr.fill (fun i => some (i * sizeT P e, sizeT P e)) ⟨zero⟩ parts with
      | some cs => .ok (.agg cs)
      | none => .no 58
    | _ => .no 59

def repCells (n : Nat) (zero : List Value) : List Value :=
  match n with
  | 0 => []
  | m + 1 => zero ++ repCells m zero

def buildSliceR (S : St) (t : TypeId) (len : Nat) (parts : List (Nat × Value)) : Res (Value × Ob) :=
  match elemT P t with
  | none => .no 60
  | some e =>
    let size := sizeT P e
    match zeroT P e with
    | none => .no 61
    | some zero =>
      match Nat.ble (len * size) 65536 && Nat.beq zero.length size && zero.all plain with
      | false => .no 62
      | true =>
        match Instr.fill (fun i => some (i * size, size)) ⟨repCells len zero⟩ parts with
        | some cs => .ok (.slice (some ⟨S.next, 0, none⟩) len (len + 1), mkRow cs.toList size)
        | none => .no 63

def makeSliceR (S : St) (t : TypeId) (l c : Value) : Res (Value × Ob) :=
  match elemT P t, l, c with
  | some e, .int _ (.ofNat l), .int _ (.ofNat c) =>
    match zeroT P e with
    | none => .no 64
    | some zero =>
      match Nat.ble l c && Nat.ble (c * (bytesT P e + 1)) 1000000000 && Nat.beq zero.length (sizeT P e) && zero.all plain with
      | false => .no 65
      | true => let cs := repCells c zero
        .ok (.slice (some ⟨S.next, 0, none⟩) l (c + 1), mkRow cs (sizeT P e))
  | _, _, _ => .no 66

/-- Where a key stands among entries: by the model's own test of plain kinds. -/
def findE (kind : TypeDesc) (k : Value) : List (Value × Value) → Nat → Res (Option (Nat × Value))
  | [], _ => .ok none
  | e :: es, i =>
    match Instr.sameNow kind k e.1 with
    | some true => .ok (some (i, e.2))
    | some false => findE kind k es (i + 1)
    | none => .no 67

def keyKind (t : TypeId) : Option (TypeDesc × TypeId) :=
  match P.underlying t with
  | some (.map k e) => match P.underlying k with
    | some (.int q) => some (.int q, e)
    | _ => none
  | _ => none

def mapEs (S : St) : Value → Res (List (Value × Value))
  | .map none => .ok []
  | .map (some m) => match S.get m with
    | some (.map es _ _) => .ok es
    | _ => .no 68
  | _ => .no 69

def lookupR (S : St) (t : TypeId) (x k : Value) (ok : Bool) : Res Value :=
  match keyKind P t, plain k with
  | some (kd, e), true =>
    (mapEs S x).bind fun es =>
    (findE kd k es 0).bind fun r =>
    (match r with
      | some (_, v) => Res.ok (v, true)
      | none => match P.info? e with
        | some i => match i.zero with
          | some z => match plain z with
            | true => Res.ok (z, false)
            | false => .no 70
          | none => .no 71
        | none => .no 72).bind fun p =>
    .ok (match ok with | true => .tuple #[p.1, .bool p.2] | false => p.1)
  | _, _ => .no 73

def setE : List (Value × Value) → Nat → Value → List (Value × Value)
  | [], _, _ => []
  | e :: es, i, v => match i with
    | 0 => (e.1, v) :: es
    | j + 1 => e :: setE es j v

def mapUpdateR (S : St) (t : TypeId) (x k v : Value) : Res St :=
  match keyKind P t, plain k, x with
  | some (kd, _), true, .map (some m) =>
    match S.get m with
    | some (.map es bs clk) =>
      (findE kd k es 0).bind fun r =>
      match r with
      | some (i, _) => .ok (S.put m (.map (setE es i v) bs clk))
      | none => .ok (S.put m (.map (es ++ [(k, v)]) (bs ++ [clk]) (clk + 1)))
    | _ => .no 74
  | _, _, _ => .no 75

def eraseE {α : Type} : List α → Nat → List α
  | [], _ => []
  | e :: es, i => match i with
    | 0 => es
    | j + 1 => e :: eraseE es j

def deleteR (S : St) (t : TypeId) (x k : Value) : Res (Value × St) :=
  match keyKind P t, plain k, x with
  | some (kd, _), true, .map (some m) =>
    match S.get m with
    | some (.map es bs clk) =>
      (findE kd k es 0).bind fun r =>
      match r with
      | some (i, _) => .ok (.tuple #[], S.put m (.map (eraseE es i) (eraseE bs i) clk))
      | none => .ok (.tuple #[], S.put m (.map es bs clk))
    | _ => .no 76
  | some _, true, .map none => .ok (.tuple #[], S)
  | _, _, _ => .no 77

def copyR (S : St) (argTypes : List TypeId) (d x : Value) : Res (Value × St) :=
  match argTypes with
  | dT :: _ =>
    match elemT P dT, d with
    | some e, .slice base dLen _ =>
      (lenV x).bind fun n0 =>
      let n := Nat.min n0 dLen
      (sliceCells S (sizeT P e) x).bind fun cs =>
      match Nat.beq cs.length (n0 * sizeT P e) && knownT P e with
      | false => .no 78
      | true =>
      let cs' := cs.take (n * sizeT P e)
      match base with
      | none => .ok (goInt (Int.ofNat n), S)
      | some a => match Nat.beq n 0 with
        | true => .ok (goInt (Int.ofNat n), S)
        | false => (writeRow S a.block a.off cs').bind fun S' => .ok (goInt (Int.ofNat n), S')
    | _, _ => .no 79
  | _ => .no 80

def clearR (S : St) (argTypes : List TypeId) (x : Value) : Res (Value × St) :=
  match argTypes, x with
  | t :: _, .slice base n _ =>
    match elemT P t with
    | none => .no 82
    | some e =>
      match base with
      | none => .ok (.tuple #[], S)
      | some a => match Nat.beq n 0 with
        | true => .ok (.tuple #[], S)
        | false => match zeroT P e with
          | some z => match Nat.beq z.length (sizeT P e) && z.all plain with
            | true => (writeRow S a.block a.off (repCells n z)).bind fun S' => .ok (.tuple #[], S')
            | false => .no 81
          | none => .no 81
  | _, _ => .no 84

def lenR (S : St) (argTypes : List TypeId) (x : Value) : Res Value :=
  match argTypes with
  | t :: _ =>
    match P.underlying t, x with
    | some .string, .string s => .ok (goInt (Int.ofNat s.data.toList.length))
    | some (.slice _), .slice _ n _ => .ok (goInt (Int.ofNat n))
    | some (.map _ _), .map none => .ok (goInt 0)
    | some (.map _ _), .map (some m) => match S.get m with
      | some (.map es _ _) => .ok (goInt (Int.ofNat es.length))
      | _ => .no 85
    | some (.array n _), _ => .ok (goInt (Int.ofNat n))
    | _, _ => .no 86
  | _ => .no 87

/-- What a type assertion that fails tells. -/
def failR (asserted : TypeId) (ok : Bool) : Res Value :=
  match ok, P.info? asserted with
  | true, some i => match i.zero with
    | some z => match plain z with
      | true => .ok (.tuple #[z, .bool false])
      | false => .no 88
    | none => .no 88
  | _, _ => .no 88

def holdR (v : Value) (ok : Bool) : Res Value :=
  match ok with
  | true => .ok (.tuple #[v, .bool true])
  | false => .ok v

def typeAssertR (x : Value) (asserted : TypeId) (ok : Bool) : Res Value :=
  match P.underlying asserted, x with
  | some (.interface _), .nilIface => failR P asserted ok
  | some (.interface want), .iface t v => match P.info? t with
    | some i => match Instr.missingMethod want i.methods with
      | none => holdR (.iface t v) ok
      | some _ => failR P asserted ok
    | none => .no 88
  | some _, .nilIface => failR P asserted ok
  | some _, .iface t v => match Nat.beq t asserted with
    | true => holdR v ok
    | false => failR P asserted ok
  | _, _ => .no 88

def ofPeek : Option Value → Res Act1
  | some r => match plain r with
    | true => .ok (.val r)
    | false => .no 99
  | none => .no 99
def builtinR (S : St) (b : Builtin) (argTypes : List TypeId) (t : TypeId) (args : List Value) : Res Act1 :=
  match b, args with
  | .append, [s, x] => un (appendR P S argTypes s x)
  | .copy, [d, x] => un (copyR P S argTypes d x)
  | .len, [x] => un1 (lenR P S argTypes x)
  | .clear, [x] => un (clearR P S argTypes x)
  | .delete, [m, k] => match argTypes with
    | mt :: _ => un (deleteR P S mt m k)
    | _ => .no 89
  | .min, _ => match args.all plain with
    | true => ofPeek (peek P (Builtin.min_ ⟨argTypes⟩ t ⟨args⟩))
    | false => .no 91
  | .max, _ => match args.all plain with
    | true => ofPeek (peek P (Builtin.max_ ⟨argTypes⟩ t ⟨args⟩))
    | false => .no 91
  | _, _ => .no 92

abbrev Kop := Program → TypeId → Ts → St → Res Act1
end
section
def oMove (x : Operand) : Kop := fun _ _ T _ => un1 (opnd T x)
def oPick2 (T : Ts) (a b : Operand) : Value → Res Act1
  | .bool c => match c with
    | true => un1 (opnd T a)
    | false => un1 (opnd T b)
  | _ => .no 93
def oPick (c a b : Operand) : Kop := fun _ _ T _ => (opnd T c).bind (oPick2 T a b)
def oAlloc2 (S : St) : Option (List Value) → Res Act1
  | some z => match z.all plain with
    | true => .ok (.new (.pointer (some ⟨S.next, 0, none⟩)) (mkRow z z.length))
    | false => .no 94
  | none => .no 95
def oAlloc (e : TypeId) : Kop := fun P _ _ S => oAlloc2 S (zeroT P e)
def oBox2 (S : St) (cs : List Value) : Res Act1 := .ok (.new (.pointer (some ⟨S.next, 0, none⟩)) (mkRow cs cs.length))
def oBox (_ : TypeId) (x : Operand) : Kop := fun _ _ T S => (opnd T x).bind fun v => oBox2 S v.cells.toList
def oBuild (t : TypeId) (ps : Array (Nat × Operand)) : Kop := fun P _ T _ => (opnds2 T ps.toList).bind fun vs => un1 (buildR P t vs)
def oBuildSlice (t : TypeId) (n : Nat) (ps : Array (Nat × Operand)) : Kop := fun P _ T S => (opnds2 T ps.toList).bind fun vs => unN (buildSliceR P S t n vs)
def spot? : Addr → Option (Nat × Nat)
  | ⟨F, off, s⟩ => match s with
    | none => some (F, off)
    | some _ => none
def ptr? : Value → Option (Nat × Nat)
  | .pointer a => match a with
    | some a => spot? a
    | none => none
  | _ => none
def oLoad2 (P : Program) (S : St) (t : TypeId) : Option (Nat × Nat) → Res Act1
  | some a => un1 (loadT P S t a.1 a.2)
  | none => .no 96
def oLoad (t : TypeId) (a : Operand) : Kop := fun P _ T S => (opnd T a).bind fun v => oLoad2 P S t (ptr? v)
def oStore2 (P : Program) (S : St) (t : TypeId) (v : Value) : Option (Nat × Nat) → Res Act1
  | some a => un0 (storeT P S t a.1 a.2 v)
  | none => .no 97
def oStore (t : TypeId) (a x : Operand) : Kop := fun P _ T S => (opnd T a).bind fun p => (opnd T x).bind fun v => oStore2 P S t v (ptr? p)
def oNil2 : Value → Res Act1
  | .pointer (some a) => .ok (.val (.pointer (some a)))
  | .func (.func f) a b => .ok (.val (.func (.func f) a b))
  | _ => .no 98
def oNil (x : Operand) : Kop := fun _ _ T _ => (opnd T x).bind oNil2
def oBin (op : BinOp) (t : TypeId) (x y : Operand) (_ : TypeId) : Kop := fun P _ T _ => (opnd T x).bind fun a => (opnd T y).bind fun b => un1 (binR P op t x y a b)
def oUn2 (P : Program) (op : UnOp) (v : Value) : Res Act1 := match plain v with
  | true => ofPeek (peek P (Op.unary op v))
  | false => .no 100
def oUn (op : UnOp) (_ : TypeId) (x : Operand) : Kop := fun P _ T _ => (opnd T x).bind (oUn2 P op)
def oConv (src dst : TypeId) (x : Operand) : Kop := fun P _ T S => (opnd T x).bind fun v => convR P S src dst v
def oMkIf2 (t : TypeId) (v : Value) : Option TypeDesc → Res Act1
  | some (.interface _) => .no 101
  | some _ => .ok (.val (.iface t v))
  | none => .no 102
def oMkIf (t : TypeId) (x : Operand) : Kop := fun P _ T _ => (opnd T x).bind fun v => oMkIf2 t v (P.underlying t)
def oMkFn (fn : Fn) (a b : Array Operand) : Kop := fun _ _ T _ => (opnds T a.toList).bind fun a => (opnds T b.toList).bind fun b => .ok (.val (.func fn ⟨a⟩ ⟨b⟩))
def oMkMap2 (S : St) : Option Operand → Res Act1
  | none => .ok (.new (.map (some S.next)) (.map [] [] 0))
  | some _ => .no 111
def oMkMap (_ : TypeId) (r : Option Operand) : Kop := fun _ _ _ S => oMkMap2 S r
def oMkSl (t : TypeId) (l c : Operand) : Kop := fun P _ T S => (opnd T l).bind fun l => (opnd T c).bind fun c => unN (makeSliceR P S t l c)
def oSlice (t : TypeId) (x : Operand) (lo hi mx : Option Operand) : Kop := fun P _ T S =>
  (opnd T x).bind fun x => (opndO T lo).bind fun lo => (opndO T hi).bind fun hi => (opndO T mx).bind fun mx => un1 (sliceR P S t x lo hi mx)
def oFieldAddr (t : TypeId) (x : Operand) (f : Nat) : Kop := fun P _ T _ => (opnd T x).bind fun x => un1 (fieldAddrR P t x f)
def oField (t : TypeId) (x : Operand) (f : Nat) : Kop := fun P _ T _ => (opnd T x).bind fun x => un1 (fieldR P t x f)
def oIndexAddr (t : TypeId) (x i : Operand) : Kop := fun P _ T _ => (opnd T x).bind fun x => (opnd T i).bind fun i => un1 (indexAddrR P t x i)
def oIndex (t : TypeId) (x i : Operand) : Kop := fun P _ T _ => (opnd T x).bind fun x => (opnd T i).bind fun i => un1 (indexR P t x i)
def oLookup (t : TypeId) (x i : Operand) (ok : Bool) : Kop := fun P _ T S => (opnd T x).bind fun x => (opnd T i).bind fun i => un1 (lookupR P S t x i ok)
def oMapUpd (t : TypeId) (m k x : Operand) : Kop := fun P _ T S => (opnd T m).bind fun m => (opnd T k).bind fun k => (opnd T x).bind fun x => un0 (mapUpdateR P S t m k x)
def oRange3 (S : St) (m : Nat) : Option Ob → Res Act1
  | some (.map _ _ clk) => .ok (.upd (.pointer (some ⟨S.next, 0, none⟩)) (S.new (.iter (some m) clk [] clk)))
  | _ => .no 103
def oRange2 (S : St) : Value → Res Act1
  | .map none => .ok (.upd (.pointer (some ⟨S.next, 0, none⟩)) (S.new (.iter none 0 [] 0)))
  | .map (some m) => oRange3 S m (S.get m)
  | _ => .no 103
def oRangeS (S : St) : Value → Res Act1
  | .string s => .ok (.upd (.pointer (some ⟨S.next, 0, none⟩)) (S.new (.siter s 0)))
  | _ => .no 103
def isMapT : Option TypeDesc → Option Bool
  | some (.map _ _) => some true
  | some .string => some false
  | _ => none
def oRange (t : TypeId) (x : Operand) : Kop := fun P _ T S => match isMapT (P.underlying t) with
  | some true => (opnd T x).bind (oRange2 S)
  | some false => (opnd T x).bind (oRangeS S)
  | none => .no 103
def inN (l : List Nat) (b : Nat) : Bool := l.any (Nat.beq b)
/-- Is there nothing more to come? -/
def overB (bs seen : List Nat) (last : Nat) : Bool := bs.all (inN seen) && !(!seen.isEmpty && !bs.isEmpty && bs.all (Nat.ble last))
def oNext4 (seen : List Nat) (last : Nat) : Option Ob → Res Act1
  | some (.map _ bs _) => match overB bs seen last with
    | true => .ok (.val (.tuple #[.bool false]))
    | false => .no 104
  | _ => .no 104
def oNext3 (S : St) : Option Ob → Res Act1
  | some (.iter none _ _ _) => .ok (.val (.tuple #[.bool false]))
  | some (.iter (some m) _ seen last) => oNext4 seen last (S.get m)
  | _ => .no 105
def oNext2 (S : St) : Value → Res Act1
  | .pointer (some ⟨r, 0, none⟩) => oNext3 S (S.get r)
  | _ => .no 106
/-- One step in a string of plain letters. -/
def oNextS3 (S : St) (r : Nat) (s : ByteArray) (pos : Nat) : Res Act1 :=
  match Nat.blt pos s.data.toList.length with
  | false => .ok (.upd (.tuple #[.bool false]) S)
  | true => match nth s.data.toList pos with
    | some b => match Nat.blt b.toNat 128 with
      | true => .ok (.upd (.tuple #[.bool true, goInt (Int.ofNat pos), .int .i32 (Int.ofNat b.toNat)]) (S.put r (.siter s (pos + 1))))
      | false => .no 104
    | none => .no 104
def oNextS2 (S : St) (r : Nat) : Option Ob → Res Act1
  | some (.siter s pos) => oNextS3 S r s pos
  | _ => .no 105
def oNextS (S : St) : Value → Res Act1
  | .pointer (some ⟨r, 0, none⟩) => oNextS2 S r (S.get r)
  | _ => .no 106
def oNext (x : Operand) (b : Bool) : Kop := fun _ _ T S => match b with
  | false => (opnd T x).bind (oNext2 S)
  | true => (opnd T x).bind (oNextS S)
def lastN : List Nat → Option Nat
  | [] => none
  | b :: l => match l with
    | [] => some b
    | c :: l' => lastN (c :: l')
def entryAt (stamp : Nat) : List Nat → List (Value × Value) → Option (Value × Value)
  | b :: bs, e :: es => match Nat.beq b stamp with
    | true => some e
    | false => entryAt stamp bs es
  | _, _ => none
def oEntry4 : Option (Value × Value) → Res Act1
  | some e => .ok (.val (.tuple #[e.1, e.2]))
  | none => .no 105
def oEntry3 (stamp last : Nat) : Option Ob → Res Act1
  | some (.map es bs clk) => match Nat.beq clk last with
    | true => oEntry4 (entryAt stamp bs es)
    | false => .no 105
  | _ => .no 105
def oEntry2 (S : St) (m last : Nat) : Option Nat → Res Act1
  | some stamp => oEntry3 stamp last (S.get m)
  | none => .no 105
def oEntry1 (S : St) : Option Ob → Res Act1
  | some (.iter (some m) _ seen last) => oEntry2 S m last (lastN seen)
  | _ => .no 105
def oEntry0 (S : St) : Value → Res Act1
  | .pointer (some ⟨r, 0, none⟩) => oEntry1 S (S.get r)
  | _ => .no 106
def oEntry (x : Operand) : Kop := fun _ _ T S => (opnd T x).bind (oEntry0 S)
def oAssert (x : Operand) (_ u : TypeId) (ok : Bool) : Kop := fun P _ T _ => (opnd T x).bind fun v => un1 (typeAssertR P v u ok)
def oExtract2 (i : Nat) : Value → Res Act1
  | .tuple vs => un1 (Res.ofOpt 107 (nth vs.toList i))
  | _ => .no 108
def oExtract (x : Operand) (i : Nat) : Kop := fun _ _ T _ => (opnd T x).bind (oExtract2 i)
/-- Is the function one that is entered? -/
def okFn (P : Program) (f : FuncId) : Bool :=
  match nth P.funcs.toList f with
  | some fn => (match fn.body with | some _ => true | none => false) && !(fn.name == "runtime.NumGoroutine")
  | none => false

def oCall3 (P : Program) (args : List Value) : Value → Res Act1
  | .func (.func f) first capt => match okFn P f with
    | true => .ok (.call f (first.toList ++ args ++ capt.toList))
    | false => .no 109
  | _ => .no 109
def oCall2 (P : Program) (T : Ts) (S : St) (c : Call) (t : TypeId) (args : List Value) : Callee → Res Act1
  | .builtin b => builtinR P S b c.argTypes.toList t args
  | .value f => (opnd T f).bind (oCall3 P args)
  | .invoke _ _ => .no 110
def oCall (c : Call) : Kop := fun P t T S => (opnds T c.args.toList).bind fun args => oCall2 P T S c t args c.callee
def oBad : Kop := fun _ _ _ _ => .no 111

def opR2 : Op → Kop
  | .move x => oMove x
  | .assign x => oMove x
  | .pick c a b => oPick c a b
  | .alloc e => oAlloc e
  | .box t x => oBox t x
  | .build t ps => oBuild t ps
  | .buildSlice t n ps => oBuildSlice t n ps
  | .load t a => oLoad t a
  | .store t a x => oStore t a x
  | .nilCheck x => oNil x
  | .binOp op t x y u => oBin op t x y u
  | .unOp op t x => oUn op t x
  | .convert src dst x => oConv src dst x
  | .makeInterface t x => oMkIf t x
  | .makeFunc fn a b => oMkFn fn a b
  | .makeMap t r => oMkMap t r
  | .makeSlice t l c => oMkSl t l c
  | .slice t x lo hi mx => oSlice t x lo hi mx
  | .fieldAddr t x f => oFieldAddr t x f
  | .field t x f => oField t x f
  | .indexAddr t x i => oIndexAddr t x i
  | .index t x i => oIndex t x i
  | .lookup t x i ok => oLookup t x i ok
  | .mapUpdate t m k x => oMapUpd t m k x
  | .insert t m k x => oMapUpd t m k x
  | .range t x => oRange t x
  | .next x b => oNext x b
  | .entry x => oEntry x
  | .typeAssert x xT u ok => oAssert x xT u ok
  | .extract x i => oExtract x i
  | .call c => oCall c
  | _ => oBad
end
section
variable (P : Program)

def opR (o : Oper) (T : Ts) (S : St) : Res Act1 := opR2 o.op P o.type T S

/-- Does the operation change memory that is there? (A guess, for the order: the run looks itself.) -/
def isC : Op → Bool
  | .store .. => true
  | .mapUpdate .. => true
  | .insert .. => true
  | .next .. => true
  | .call c => match c.callee with
    | .builtin .len | .builtin .min | .builtin .max | .builtin .cap => false
    | _ => true
  | _ => false

inductive Ex where
  | normal
  | exit (id : Nat)
  | ret

structure Out where
  ex : Ex
  T : Ts
  S : St

def putT (T : Ts) (d : Option Tmp) (v : Value) : Ts :=
  match d with
  | some d => T.set d (some v)
  | none => T

def isBool (want : Bool) : Value → Bool
  | .bool b => b == want
  | _ => false

def wantedR (ops : List Oper) (T : Ts) (o : Oper) : Bool :=
  match o.guard with
  | none => true
  | some (j, want) => match nth ops j with
    | some p => match p.dst with
      | some d => isBool want (T.tmp d)
      | none => false
    | none => false

abbrev CallR := FuncId → List Value → St → Res (Value × St)

def Act1.go (c : CallR) (S : St) : Act1 → Res (Value × St)
  | .val v => .ok (v, S)
  | .new v o => .ok (v, S.new o)
  | .upd v S' => match Nat.ble S.next S'.next with
    | true => .ok (v, S')
    | false => .no 127
  | .call f args => (c f args S).bind fun p => match Nat.ble S.next p.2.next with
    | true => .ok p
    | false => .no 127

/-- One operation, its call carried out by c. -/
def oneR (c : CallR) (ops : List Oper) (o : Oper) (T : Ts) (S : St) : Res (Value × St) :=
  match wantedR ops T o with
  | false => .ok (undef, S)
  | true => (opR P o T S).bind (Act1.go c S)

def seqOps (c : CallR) (ops l : List Oper) : Ts → St → Res (Ts × St) :=
  List.rec (motive := fun _ => Ts → St → Res (Ts × St)) (fun T S => .ok (T, S))
    (fun o _ ih T S => (oneR P c ops o T S).bind fun p => ih (putT T o.dst p.1) p.2) l

/-! ### A region that draws its order -/

/-- Of each operation a number whose bits are those that surely stand ahead of it. -/
def masks (ops : List Oper) : List Nat :=
  List.rec (motive := fun _ => List Nat → List Nat) (fun acc => acc)
    (fun o _ ih acc => ih (acc ++ [o.after.toList.foldl (fun s e => match Region.binds .any e && Nat.blt e.on acc.length with
      | true => Nat.lor s (Nat.lor (Nat.pow 2 e.on) (match nth acc e.on with | some m => m | none => 0))
      | false => s) 0])) ops []

def maskOf (ms : List Nat) (i : Nat) : Nat := match nth ms i with | some m => m | none => 0

/-- The numbers below n of which something is so. -/
def numbers (p : Nat → Bool) (n : Nat) : List Nat :=
  Nat.rec (motive := fun _ => List Nat → List Nat) (fun acc => acc) (fun k ih acc => ih (match p k with | true => k :: acc | false => acc)) n []

/-- An order: of each operation that changes memory what stands ahead of it, then it; at last the rest. -/
def orderOf (ops : List Oper) (ms : List Nat) : List Nat :=
  let n := ops.length
  let cs := numbers (fun i => match nth ops i with | some o => isC o.op | none => false) n
  let r := cs.foldl (fun (p : List Nat × Nat) c =>
    let l := numbers (fun i => Nat.testBit (maskOf ms c) i && !Nat.testBit p.2 i) n
    (p.1 ++ l ++ [c], Nat.lor (Nat.lor p.2 (maskOf ms c)) (Nat.pow 2 c))) ([], 0)
  r.1 ++ numbers (fun i => !Nat.testBit r.2 i) n

def tmpsOf (ops : List Oper) (o : Oper) : List Nat :=
  (o.op.operands.toList.filterMap fun | .tmp t => some t | _ => none) ++
  (match o.guard with
    | some (g, _) => match nth ops g with
      | some p => p.dst.toList
      | none => []
    | none => [])

def allIdx (p : Nat → Bool) (n : Nat) : Bool :=
  Nat.rec (motive := fun _ => Bool) true (fun k ih => p k && ih) n

/-- Are temporaries written once, and read ahead of that or behind it for sure? -/
def regionOk (ops : List Oper) (ms : List Nat) : Bool :=
  allIdx (fun i => match nth ops i with
    | none => false
    | some o => allIdx (fun j => Nat.beq i j || (match nth ops j with
        | none => false
        | some q => match q.dst with
          | none => true
          | some d => (match o.dst with | some d' => !Nat.beq d d' | none => true) &&
            (!(tmpsOf ops o).contains d || Nat.testBit (maskOf ms i) j || Nat.testBit (maskOf ms j) i))) ops.length) ops.length

/-- Is each operation that another one waits for in its mask? -/
def afterOk (ops : List Oper) (ms : List Nat) : Bool :=
  allIdx (fun i => match nth ops i with
    | none => false
    | some o => o.after.toList.all fun e => !Region.binds .any e || Nat.testBit (maskOf ms i) e.on) ops.length

/-- What stands while a region is carried out: temporaries, the next number, memory behind the last change, what was done by then, all that was made, memory ahead of each change (with what was done, and which one changed it), and what is done. -/
structure Dr where
  T : Ts
  next : Nat
  base : Tr Ob
  bdone : Nat
  all : List (Nat × Nat × Ob)
  past : List (Tr Ob × Nat × Nat)
  done : Nat

/-- Memory, and what was made: that which a mask has, and another one has not. -/
def addSel (m b : Nat) (l : List (Nat × Nat × Ob)) : Tr Ob → Tr Ob :=
  List.rec (motive := fun _ => Tr Ob → Tr Ob) (fun h => h)
    (fun a _ ih h => ih (match Nat.testBit m a.1 && !Nat.testBit b a.1 with
      | true => h.set a.2.1 (some a.2.2)
      | false => h)) l

def sameAddr? (a b : Addr) : Bool := Nat.beq a.block b.block && Nat.beq a.off b.off && (match a.spot, b.spot with | none, none => true | _, _ => false)

def sameVs (f : Value → Value → Bool) : List Value → List Value → Bool
  | [], [] => true
  | a :: x, b :: y => f a b && sameVs f x y
  | _, _ => false

/-- Surely the same value. -/
def sameV : Nat → Value → Value → Bool
  | 0, _, _ => false
  | n + 1, v, w => match v, w with
    | .bool a, .bool b => a == b
    | .int j a, .int k b => j == k && a == b
    | .string s, .string t => eqBytes s.data.toList t.data.toList
    | .pointer none, .pointer none => true
    | .pointer (some a), .pointer (some b) => sameAddr? a b
    | .slice none m c, .slice none m' c' => Nat.beq m m' && Nat.beq c c'
    | .slice (some a) m c, .slice (some b) m' c' => sameAddr? a b && Nat.beq m m' && Nat.beq c c'
    | .map none, .map none => true
    | .map (some a), .map (some b) => Nat.beq a b
    | .nilFunc, .nilFunc => true
    | .nilIface, .nilIface => true
    | .func f a b, .func g c d => f == g && sameVs (sameV n) a.toList c.toList && sameVs (sameV n) b.toList d.toList
    | .iface t x, .iface u y => Nat.beq t u && sameV n x y
    | .agg a, .agg b => sameVs (sameV n) a.toList b.toList
    | .tuple a, .tuple b => sameVs (sameV n) a.toList b.toList
    | _, _ => false

def isVal (v : Value) : Res Act1 → Bool
  | .ok (.val w) => sameV 4 v w
  | _ => false

/-- Does an operation tell the same value at each time at which it may be carried out? -/
def stable (o : Oper) (m : Nat) (T : Ts) (next : Nat) (all : List (Nat × Nat × Ob)) (v : Value) : List (Tr Ob × Nat × Nat) → Bool
  | [] => true
  | p :: ps => (Nat.testBit m p.2.2 || isVal v (opR P o T ⟨addSel m p.2.1 all p.1, next⟩)) && stable o m T next all v ps

/-- Behind an operation that changed no memory. -/
def Dr.did (D : Dr) (i : Nat) (dst : Option Tmp) (v : Value) : Dr := ⟨putT D.T dst v, D.next, D.base, D.bdone, D.all, D.past, Nat.lor D.done (Nat.pow 2 i)⟩
/-- Behind one that made something. -/
def Dr.made (D : Dr) (i : Nat) (dst : Option Tmp) (v : Value) (b : Ob) : Dr := ⟨putT D.T dst v, Nat.succ D.next, D.base, D.bdone, (i, D.next, b) :: D.all, D.past, Nat.lor D.done (Nat.pow 2 i)⟩
/-- Behind one that changed memory. -/
def Dr.turned (D : Dr) (i : Nat) (dst : Option Tmp) (v : Value) (S : St) : Dr :=
  ⟨putT D.T dst v, S.next, S.heap, Nat.lor D.done (Nat.pow 2 i), D.all, (D.base, D.bdone, i) :: D.past, Nat.lor D.done (Nat.pow 2 i)⟩

/-- Is a type one of numbers, values of truth or strings? -/
def basicT (t : TypeId) : Bool := match P.underlying t with | some .bool => true | some (.int _) => true | some .string => true | _ => false

def plainRes : Res (Value × St) → Option Value
  | .ok p => match plain p.1 with
    | true => some p.1
    | false => none
  | .no _ => none

/-- Is it a call of a function? -/
def isCallV : Op → Bool
  | .call c => match c.callee with
    | .value _ => true
    | _ => false
  | _ => false

/-- A call with plain arguments that tells a plain value without a look at memory. -/
def pureCall (c : CallR) (o : Oper) (f : FuncId) (args : List Value) : Option Value :=
  match (isCallV o.op && basicT P o.type) && args.all plain with
  | true => plainRes (c f args ⟨.lf, 0⟩)
  | false => none

def drawCall (c : CallR) (i m : Nat) (o : Oper) (D : Dr) (f : FuncId) (args : List Value) : Option Value → Res Dr
  | some v => .ok (D.did i o.dst v)
  | none => match Nat.beq (Nat.land D.done m) D.done with
    | true => (c f args ⟨addSel m D.bdone D.all D.base, D.next⟩).bind fun p => match Nat.ble D.next p.2.next with
      | true => .ok (D.turned i o.dst p.1 p.2)
      | false => .no 127
    | false => .no 122

def drawOne (c : CallR) (i m : Nat) (o : Oper) (D : Dr) : Act1 → Res Dr
  | .val v => match stable P o m D.T D.next D.all v D.past with
    | true => .ok (D.did i o.dst v)
    | false => .no 120
  | .new v b => .ok (D.made i o.dst v b)
  | .upd v S => match Nat.beq (Nat.land D.done m) D.done && Nat.ble D.next S.next with
    | true => .ok (D.turned i o.dst v S)
    | false => .no 121
  | .call f args => drawCall c i m o D f args (pureCall P c o f args)

def drawStep (c : CallR) (ops : List Oper) (ms : List Nat) (i : Nat) (D : Dr) : Res Dr :=
  match nth ops i with
  | none => .no 123
  | some o =>
    match Nat.beq (Nat.land D.done (maskOf ms i)) (maskOf ms i) && !Nat.testBit D.done i with
    | false => .no 124
    | true => match wantedR ops D.T o with
      | false => .ok (D.did i o.dst undef)
      | true => (opR P o D.T ⟨addSel (maskOf ms i) D.bdone D.all D.base, D.next⟩).bind fun a => drawOne P c i (maskOf ms i) o D a

def drawGo (c : CallR) (ops : List Oper) (ms ord : List Nat) : Dr → Res Dr :=
  List.rec (motive := fun _ => Dr → Res Dr) (fun D => .ok D)
    (fun i _ ih D => (drawStep P c ops ms i D).bind fun D' => ih D') ord

def drawEnd (n : Nat) (D : Dr) : Res (Ts × St) :=
  match allIdx (fun i => Nat.testBit D.done i) n with
  | true => .ok (D.T, ⟨addSel D.done D.bdone D.all D.base, D.next⟩)
  | false => .no 128

def drawAll (c : CallR) (ops : List Oper) (ms ord : List Nat) (T : Ts) (S : St) : Res (Ts × St) :=
  match regionOk ops ms && afterOk ops ms with
  | true => (drawGo P c ops ms ord ⟨T, S.next, S.heap, 0, [], [], 0⟩).bind fun D => drawEnd ops.length D
  | false => .no 125

def drawR (c : CallR) (ops : List Oper) (T : Ts) (S : St) : Res (Ts × St) :=
  drawAll P c ops (masks ops) (orderOf ops (masks ops)) T S

def resOne (T : Ts) (S : St) : ResultVar → Res Value
  | .tmp t => .ok (T.tmp t)
  | .cell a t => match ptr? (T.tmp a) with
    | some p => loadT P S t p.1 p.2
    | none => .no 113
def resGo (T : Ts) (S : St) : List ResultVar → Res (List Value)
  | [] => .ok []
  | r :: rs => (resOne P T S r).bind fun v => (resGo T S rs).bind fun vs => .ok (v :: vs)
def res1 : List Value → Value
  | [] => .tuple ⟨[]⟩
  | v :: vs => match vs with
    | [] => v
    | u :: us => .tuple ⟨v :: u :: us⟩
/-- The value of a call: its frame's results. -/
def resultsR (fn : Func) (T : Ts) (S : St) : Res Value := (resGo P T S fn.results.toList).bind fun vs => .ok (res1 vs)

def undefs : Nat → List Value
  | 0 => []
  | n + 1 => undef :: undefs n

variable (O : FuncId → List Value → St → Option (Res (Value × St)))

/-- What a piece of code is carried out with: the calls, and (ih) what lies within. -/
structure Env where
  call : CallR
  ih : Code → Ts → St → Res Out

abbrev Kc := Program → Env → Ts → St → Res Out

def cSkip : Kc := fun _ _ T S => .ok ⟨.normal, T, S⟩
def cReg (ops : Array Oper) : Bool → Kc
  | false => fun P E T S => (seqOps P E.call ops.toList ops.toList T S).bind fun p => .ok ⟨.normal, p.1, p.2⟩
  | true => fun P E T S => (drawR P E.call ops.toList T S).bind fun p => .ok ⟨.normal, p.1, p.2⟩
def cSeq2 (E : Env) (b : Code) (o : Out) : Ex → Res Out
  | .normal => E.ih b o.T o.S
  | _ => .ok o
def cSeq (a b : Code) : Kc := fun _ E T S => (E.ih a T S).bind fun o => cSeq2 E b o o.ex
def cCond2 (E : Env) (a b : Code) (T : Ts) (S : St) : Value → Res Out
  | .bool c => match c with
    | true => E.ih a T S
    | false => E.ih b T S
  | _ => .no 114
def cCond (c : Operand) (a b : Code) : Kc := fun _ E T S => (opnd T c).bind (cCond2 E a b T S)
def cBlock2 (id : Nat) (o : Out) : Ex → Res Out
  | .exit j => match Nat.beq j id with
    | true => .ok ⟨.normal, o.T, o.S⟩
    | false => .ok o
  | _ => .ok o
def cBlock (id : Nat) (c : Code) : Kc := fun _ E T S => (E.ih c T S).bind fun o => cBlock2 id o o.ex
def cLoop (c : Code) : Kc := fun _ E T S => (E.ih c T S).bind fun o => cSeq2 E (.loop c) o o.ex
def cScope (c : Code) : Kc := fun _ E T S => E.ih c T S
def cExit (id : Nat) : Kc := fun _ _ T S => .ok ⟨.exit id, T, S⟩
def cRet : Kc := fun _ _ T S => .ok ⟨.ret, T, S⟩
def cBad : Kc := fun _ _ _ _ => .no 115

def codeK : Code → Kc
  | .skip => cSkip
  | .label _ => cSkip
  | .region _ ops d => cReg ops d
  | .seq a b => cSeq a b
  | .cond c a b => cCond c a b
  | .block id c => cBlock id c
  | .loop c => cLoop c
  | .scope c => cScope c
  | .exit id => cExit id
  | .ret => cRet
  | _ => cBad

def callF3 (fn : Func) (o : Out) : Ex → Res (Value × St)
  | .exit _ => .no 118
  | _ => (resultsR P fn o.T o.S).bind fun v => .ok (v, o.S)
/-- Does code write to temporaries below n alone? -/
def bndC (n : Nat) : Code → Bool
  | .region _ ops _ => ops.toList.all fun o => match o.dst with | some d => Nat.blt d n | none => true
  | .seq a b => bndC n a && bndC n b
  | .cond _ a b => bndC n a && bndC n b
  | .block _ c => bndC n c
  | .loop c => bndC n c
  | .scope c => bndC n c
  | .skip | .label _ | .exit _ | .ret => true
  | _ => false

def callF2 (ih : Code → Ts → St → Res Out) (args : List Value) (S : St) (fn : Func) : Option Code → Res (Value × St)
  | none => .no 117
  | some c => match bndC fn.ntmps c with
    | true => (ih c (Tr.pushL .lf 0 args) S).bind fun o => callF3 P fn o o.ex
    | false => .no 126
def callF1 (ih : Code → Ts → St → Res Out) (args : List Value) (S : St) : Option Func → Res (Value × St)
  | none => .no 116
  | some fn => callF2 P ih args S fn fn.body
def callF0 (ih : Code → Ts → St → Res Out) (f : FuncId) (args : List Value) (S : St) : Option (Res (Value × St)) → Res (Value × St)
  | some r => r
  | none => callF1 P ih args S (nth P.funcs.toList f)
def callF (ih : Code → Ts → St → Res Out) (f : FuncId) (args : List Value) (S : St) : Res (Value × St) := callF0 P ih f args S (O f args S)

def exec (n : Nat) : Code → Ts → St → Res Out :=
  Nat.rec (motive := fun _ => Code → Ts → St → Res Out) (fun _ _ _ => .no 119)
    (fun _ ih c T S => codeK c P ⟨callF P O ih, ih⟩ T S) n

def run (n : Nat) (f : FuncId) (args : List Value) (S : St) : Res (Value × St) := callF P O (exec P O n) f args S

end
end
end Go.Ev
namespace Go.Ev

/-! ### Trees -/

theorem bitsF_fuel : ∀ (n m k : Nat), k ≤ n → k ≤ m → bitsF n k = bitsF m k
  | 0, 0, _, _, _ => rfl
  | 0, m + 1, k, h, _ => by
    obtain rfl : k = 0 := by omega
    simp [bitsF]
  | n + 1, 0, k, _, h => by
    obtain rfl : k = 0 := by omega
    simp [bitsF]
  | n + 1, m + 1, k, h, h' => by
    simp only [bitsF]
    cases hk : Nat.beq k 0
    · have hk0 : k ≠ 0 := fun e => by subst e; simp at hk
      have e : Nat.div (Nat.sub k 1) 2 = (k - 1) / 2 := rfl
      rw [e, bitsF_fuel n m ((k - 1) / 2) (by omega) (by omega)]
    · rfl

theorem bits_zero : bits 0 = [] := rfl
theorem bits_pos (k : Nat) (h : k ≠ 0) : bits k = Nat.beq (k % 2) 1 :: bits ((k - 1) / 2) := by
  obtain ⟨n, rfl⟩ : ∃ n, k = n + 1 := ⟨k - 1, by omega⟩
  unfold bits
  simp only [bitsF]
  have hb : Nat.beq (n + 1) 0 = false := rfl
  rw [hb]
  simp only
  have e : Nat.div (Nat.sub (n + 1) 1) 2 = n / 2 := rfl
  have e2 : (n + 1 - 1) / 2 = n / 2 := rfl
  have e3 : Nat.mod (n + 1) 2 = (n + 1) % 2 := rfl
  rw [e, e2, e3, bitsF_fuel n (n / 2) (n / 2) (by omega) (by omega)]

theorem bits_inj : ∀ (n i j : Nat), i ≤ n → bits i = bits j → i = j := by
  intro n
  induction n with
  | zero =>
    intro i j hi h
    obtain rfl : i = 0 := by omega
    by_cases hj : j = 0
    · omega
    · rw [bits_pos j hj] at h; simp [bits_zero] at h
  | succ n ih =>
    intro i j hi h
    by_cases hi0 : i = 0
    · subst hi0
      by_cases hj : j = 0
      · omega
      · rw [bits_pos j hj] at h; simp [bits_zero] at h
    · by_cases hj : j = 0
      · subst hj; rw [bits_pos i hi0] at h; simp [bits_zero] at h
      · rw [bits_pos i hi0, bits_pos j hj] at h
        simp only [List.cons.injEq] at h
        obtain ⟨h1, h2⟩ := h
        have h3 := ih ((i - 1) / 2) ((j - 1) / 2) (by omega) h2
        have h4 : i % 2 = j % 2 := by
          have := Nat.mod_two_eq_zero_or_one i
          have := Nat.mod_two_eq_zero_or_one j
          rcases ‹i % 2 = 0 ∨ i % 2 = 1› with a | a <;> rcases ‹j % 2 = 0 ∨ j % 2 = 1› with b | b <;> simp [a, b] at h1 ⊢
        omega

section
variable {α : Type}
theorem Tr.getP_nil (t : Tr α) : Tr.getP [] t = t.val := rfl
theorem Tr.getP_true (p : List Bool) (t : Tr α) : Tr.getP (true :: p) t = Tr.getP p t.left := rfl
theorem Tr.getP_false (p : List Bool) (t : Tr α) : Tr.getP (false :: p) t = Tr.getP p t.right := rfl
theorem Tr.getP_lf (p : List Bool) : Tr.getP p (.lf : Tr α) = none := by
  induction p with
  | nil => rfl
  | cons b p ih => cases b <;> exact ih
theorem Tr.getP_setP (o : Option α) (p : List Bool) : ∀ t : Tr α, Tr.getP p (Tr.setP o p t) = o := by
  induction p with
  | nil => intro t; cases t <;> rfl
  | cons b p ih => intro t; cases b <;> cases t <;> exact ih _
theorem Tr.getP_setP_ne (o : Option α) (p : List Bool) : ∀ (q : List Bool) (t : Tr α), q ≠ p → Tr.getP q (Tr.setP o p t) = Tr.getP q t := by
  induction p with
  | nil =>
    intro q t h
    cases q with
    | nil => exact absurd rfl h
    | cons b q => cases b <;> cases t <;> rfl
  | cons c p ih =>
    intro q t h
    cases q with
    | nil => cases c <;> cases t <;> rfl
    | cons b q =>
      cases c <;> cases b <;> cases t <;> first
        | rfl
        | exact ih q _ (fun e => h (by rw [e]))
theorem Tr.get_lf (j : Nat) : (.lf : Tr α).get j = none := Tr.getP_lf _
theorem Tr.get_set (t : Tr α) (k j : Nat) (o : Option α) : (t.set k o).get j = if j = k then o else t.get j := by
  unfold Tr.get Tr.set
  by_cases h : j = k
  · subst h; rw [if_pos rfl, Tr.getP_setP]
  · rw [if_neg h, Tr.getP_setP_ne]
    exact fun e => h (bits_inj _ _ _ (Nat.le_refl _) e)

theorem Tr.pushL_nil (t : Tr α) (k : Nat) : t.pushL k [] = t := rfl
theorem Tr.pushL_cons (t : Tr α) (k : Nat) (v : α) (l : List α) : t.pushL k (v :: l) = (t.set k (some v)).pushL (k + 1) l := rfl
theorem Tr.get_pushL (l : List α) : ∀ (t : Tr α) (k j : Nat), (t.pushL k l).get j = if k ≤ j ∧ j < k + l.length then l[j - k]? else t.get j := by
  induction l with
  | nil => intro t k j; rw [Tr.pushL_nil, if_neg (by simp)]
  | cons v l ih =>
    intro t k j
    rw [Tr.pushL_cons, ih, Tr.get_set]
    by_cases h1 : j = k
    · subst h1; rw [if_neg (by omega), if_pos rfl, if_pos (by simp)]; simp
    · by_cases h2 : k + 1 ≤ j ∧ j < k + 1 + l.length
      · rw [if_pos h2, if_pos (by simp; omega)]
        obtain ⟨m, hm⟩ : ∃ m, j - k = m + 1 := ⟨j - k - 1, by omega⟩
        rw [hm, List.getElem?_cons_succ, show j - (k + 1) = m by omega]
      · rw [if_neg h2, if_neg h1, if_neg (by simp; omega)]

theorem Res.bind_ok {β γ : Type} {r : Res β} {f : β → Res γ} {c : γ} (h : r.bind f = .ok c) : ∃ b, r = .ok b ∧ f b = .ok c := by
  cases r with
  | ok b => exact ⟨b, rfl, h⟩
  | no n => simp [Res.bind] at h
theorem Res.ofOpt_ok {β : Type} {n : Nat} {o : Option β} {b : β} (h : Res.ofOpt n o = .ok b) : o = some b := by
  cases o with
  | some x => simp [Res.ofOpt] at h; rw [h]
  | none => simp [Res.ofOpt] at h

theorem Tr.take_zero (t : Tr α) (k : Nat) : t.take 0 k = .ok [] := rfl
theorem Tr.take_succ (t : Tr α) (n k : Nat) : t.take (n + 1) k = (Res.ofOpt 1 (t.get k)).bind fun v => (t.take n (k + 1)).bind fun vs => .ok (v :: vs) := rfl
theorem Tr.take_ok (t : Tr α) : ∀ (n k : Nat) (l : List α), t.take n k = .ok l → l.length = n ∧ ∀ i, i < n → l[i]? = t.get (k + i) := by
  intro n
  induction n with
  | zero => intro k l h; rw [Tr.take_zero] at h; cases h; exact ⟨rfl, fun i hi => absurd hi (by omega)⟩
  | succ n ih =>
    intro k l h
    rw [Tr.take_succ] at h
    obtain ⟨v, hv, h⟩ := Res.bind_ok h
    obtain ⟨vs, hvs, h⟩ := Res.bind_ok h
    cases h
    obtain ⟨h1, h2⟩ := ih _ _ hvs
    refine ⟨by simp [h1], fun i hi => ?_⟩
    cases i with
    | zero => simp [Res.ofOpt_ok hv]
    | succ i => rw [List.getElem?_cons_succ, h2 i (by omega)]; congr 1; omega

theorem nth_eq (l : List α) : ∀ n, nth l n = l[n]? := by
  induction l with
  | nil => intro n; cases n <;> rfl
  | cons x xs ih => intro n; cases n <;> simp [nth, ih]
end

theorem Nat_beq {a b : Nat} (h : Nat.beq a b = true) : a = b := by simpa using h
theorem Nat_beq_false {a b : Nat} (h : Nat.beq a b = false) : a ≠ b := fun e => by subst e; simp at h
theorem Nat_ble {a b : Nat} (h : Nat.ble a b = true) : a ≤ b := by simpa using h
theorem Nat_blt {a b : Nat} (h : Nat.blt a b = true) : a < b := by simpa using h

/-! ### The relation: what stands for what -/

structure Loc where
  blk : Nat
  base : Nat
  hi : Nat
  s : Nat

abbrev Phi := Nat → Option Loc

mutual
inductive RelV (φ : Phi) : Value → Value → Prop
  | bool (b : Bool) : RelV φ (.bool b) (.bool b)
  | int (k : IntKind) (n : Int) : RelV φ (.int k n) (.int k n)
  | float (k : FloatKind) (n : Nat) : RelV φ (.float k n) (.float k n)
  | complex (k : FloatKind) (a b : Nat) : RelV φ (.complex k a b) (.complex k a b)
  | string (s : ByteArray) : RelV φ (.string s) (.string s)
  | nilFunc : RelV φ .nilFunc .nilFunc
  | nilIface : RelV φ .nilIface .nilIface
  | ptr0 : RelV φ (.pointer none) (.pointer none)
  | sl0 : RelV φ (.slice none 0 0) (.slice none 0 0)
  | map0 : RelV φ (.map none) (.map none)
  | chan0 : RelV φ (.chan none) (.chan none)
  | ptr (F off : Nat) (l : Loc) (h : φ F = some l) : RelV φ (.pointer (some ⟨F, off, none⟩)) (.pointer (some ⟨l.blk, l.base + off, none⟩))
  | sl (F off n c : Nat) (l : Loc) (a : Addr) (cap : Nat) (h : φ F = some l) (ha : cap ≠ 0 → a = ⟨l.blk, l.base + off, none⟩)
      (hc : match c with | 0 => off + cap * l.s = l.hi | k + 1 => cap = k) (hn : n ≤ cap) :
      RelV φ (.slice (some ⟨F, off, none⟩) n c) (.slice (some a) n cap)
  | map (M : Nat) (l : Loc) (h : φ M = some l) : RelV φ (.map (some M)) (.map (some l.blk))
  | func (fn : Fn) (a b a' b' : List Value) (h : RelL φ a a') (h' : RelL φ b b') : RelV φ (.func fn ⟨a⟩ ⟨b⟩) (.func fn ⟨a'⟩ ⟨b'⟩)
  | iface (t : TypeId) (v v' : Value) (h : RelV φ v v') : RelV φ (.iface t v) (.iface t v')
  | agg (l l' : List Value) (h : RelL φ l l') : RelV φ (.agg ⟨l⟩) (.agg ⟨l'⟩)
  | tuple (l l' : List Value) (h : RelL φ l l') : RelV φ (.tuple ⟨l⟩) (.tuple ⟨l'⟩)
inductive RelL (φ : Phi) : List Value → List Value → Prop
  | nil : RelL φ [] []
  | cons (v v' : Value) (l l' : List Value) (h : RelV φ v v') (h' : RelL φ l l') : RelL φ (v :: l) (v' :: l')
end

def Phi.le (φ φ' : Phi) : Prop := ∀ F l, φ F = some l → φ' F = some l

mutual
theorem RelV.mono {φ φ' : Phi} (hl : φ.le φ') {v v' : Value} (h : RelV φ v v') : RelV φ' v v' := by
  cases h with
  | bool b => exact .bool b
  | int k n => exact .int k n
  | float k n => exact .float k n
  | complex k a b => exact .complex k a b
  | string s => exact .string s
  | nilFunc => exact .nilFunc
  | nilIface => exact .nilIface
  | ptr0 => exact .ptr0
  | sl0 => exact .sl0
  | map0 => exact .map0
  | chan0 => exact .chan0
  | ptr F off l h => exact .ptr F off l (hl _ _ h)
  | sl F off n c l a cap h ha hc hn => exact .sl F off n c l a cap (hl _ _ h) ha hc hn
  | map M l h => exact .map M l (hl _ _ h)
  | func fn a b a' b' h h' => exact .func fn a b a' b' (h.mono hl) (h'.mono hl)
  | iface t v v' h => exact .iface t v v' (h.mono hl)
  | agg l l' h => exact .agg l l' (h.mono hl)
  | tuple l l' h => exact .tuple l l' (h.mono hl)
theorem RelL.mono {φ φ' : Phi} (hl : φ.le φ') {v v' : List Value} (h : RelL φ v v') : RelL φ' v v' := by
  cases h with
  | nil => exact .nil
  | cons v v' l l' h h' => exact .cons v v' l l' (h.mono hl) (h'.mono hl)
end

section
variable {φ : Phi}
theorem RelL.length {l l' : List Value} (h : RelL φ l l') : l'.length = l.length := by
  induction l generalizing l' with
  | nil => cases h; rfl
  | cons v l ih => cases h with | cons v v' l l' h h' => simp [ih h']
theorem RelL.get {l l' : List Value} (h : RelL φ l l') : ∀ {i : Nat} {v : Value}, l[i]? = some v → ∃ v', l'[i]? = some v' ∧ RelV φ v v' := by
  induction l generalizing l' with
  | nil => intro i v hi; simp at hi
  | cons x l ih =>
    cases h with
    | cons _ x' _ l' h h' =>
      intro i v hi
      cases i with
      | zero => simp at hi; subst hi; exact ⟨x', rfl, h⟩
      | succ i => simp at hi; simpa using ih h' hi
theorem RelL.of_get {l l' : List Value} (hl : l'.length = l.length) (h : ∀ (i : Nat) (v v' : Value), l[i]? = some v → l'[i]? = some v' → RelV φ v v') : RelL φ l l' := by
  induction l generalizing l' with
  | nil => cases l' with
    | nil => exact .nil
    | cons => simp at hl
  | cons x l ih => cases l' with
    | nil => simp at hl
    | cons x' l' =>
      refine .cons _ _ _ _ (h 0 x x' rfl rfl) (ih (by simpa using hl) fun i v v' a b => h (i + 1) v v' (by simpa using a) (by simpa using b))
theorem RelL.append {a a' b b' : List Value} (h : RelL φ a a') (h' : RelL φ b b') : RelL φ (a ++ b) (a' ++ b') := by
  induction a generalizing a' with
  | nil => cases h; exact h'
  | cons x a ih => cases h with | cons _ x' _ a' h1 h2 => exact .cons _ _ _ _ h1 (ih h2)
theorem RelL.drop {a a' : List Value} (h : RelL φ a a') : ∀ n, RelL φ (a.drop n) (a'.drop n) := by
  induction a generalizing a' with
  | nil => cases h; intro n; simp; exact .nil
  | cons x a ih => cases h with | cons _ x' _ a' h1 h2 => intro n; cases n with
    | zero => exact .cons _ _ _ _ h1 h2
    | succ n => simpa using ih h2 n
theorem RelL.take {a a' : List Value} (h : RelL φ a a') : ∀ n, RelL φ (a.take n) (a'.take n) := by
  induction a generalizing a' with
  | nil => cases h; intro n; simp; exact .nil
  | cons x a ih => cases h with | cons _ x' _ a' h1 h2 => intro n; cases n with
    | zero => exact .nil
    | succ n => simp; exact .cons _ _ _ _ h1 (ih h2 n)

/-- What has no address stands for itself. -/
theorem plainD_self : ∀ (n : Nat) (v : Value), plainD n v = true → RelV φ v v
  | 0, _, h => by simp [plainD] at h
  | n + 1, v, h => by
    have key : ∀ l : List Value, l.all (plainD n) = true → RelL φ l l := by
      intro l
      induction l with
      | nil => intro _; exact .nil
      | cons x l ih => intro hl; simp at hl; exact .cons _ _ _ _ (plainD_self n x hl.1) (ih (by simpa using hl.2))
    cases v with
    | bool b => exact .bool b
    | int k n => exact .int k n
    | float k n => exact .float k n
    | complex k a b => exact .complex k a b
    | string s => exact .string s
    | nilFunc => exact .nilFunc
    | nilIface => exact .nilIface
    | pointer a => cases a with
      | none => exact .ptr0
      | some a => simp [plainD] at h
    | slice a m c => cases a with
      | none =>
        cases m <;> cases c <;> simp [plainD] at h
        exact .sl0
      | some a => simp [plainD] at h
    | map a => cases a with
      | none => exact .map0
      | some a => simp [plainD] at h
    | chan a => cases a with
      | none => exact .chan0
      | some a => simp [plainD] at h
    | func fn a b =>
      obtain ⟨a⟩ := a; obtain ⟨b⟩ := b
      simp only [plainD, Bool.and_eq_true] at h
      exact .func _ _ _ _ _ (key _ h.1) (key _ h.2)
    | iface t w => exact .iface _ _ _ (plainD_self n w (by simpa [plainD] using h))
    | agg cs => obtain ⟨cs⟩ := cs; exact .agg _ _ (key _ (by simpa only [plainD] using h))
    | tuple cs => obtain ⟨cs⟩ := cs; exact .tuple _ _ (key _ (by simpa only [plainD] using h))

theorem plainD_eq : ∀ (n : Nat) (v v' : Value), plainD n v = true → RelV φ v v' → v' = v
  | 0, _, _, h, _ => by simp [plainD] at h
  | n + 1, v, v', h, hr => by
    have key : ∀ l l' : List Value, l.all (plainD n) = true → RelL φ l l' → l' = l := by
      intro l
      induction l with
      | nil => intro l' _ hl; cases hl; rfl
      | cons x l ih =>
        intro l' hl hr
        cases hr with
        | cons _ x' _ l' h1 h2 =>
          simp at hl
          rw [plainD_eq n x x' hl.1 h1, ih l' (by simpa using hl.2) h2]
    cases hr with
    | ptr F off l _ => simp [plainD] at h
    | sl => simp [plainD] at h
    | map => simp [plainD] at h
    | func fn a b a' b' h1 h2 =>
      simp only [plainD, Bool.and_eq_true] at h
      rw [key _ _ h.1 h1, key _ _ h.2 h2]
    | iface t w w' h1 => rw [plainD_eq n w w' (by simpa [plainD] using h) h1]
    | agg l l' h1 => rw [key _ _ (by simpa only [plainD] using h) h1]
    | tuple l l' h1 => rw [key _ _ (by simpa only [plainD] using h) h1]
    | _ => rfl

theorem plain_self {v : Value} (h : plain v = true) : RelV φ v v := plainD_self 4 v h
theorem plain_eq {v v' : Value} (h : plain v = true) (hr : RelV φ v v') : v' = v := plainD_eq 4 v v' h hr

theorem RelV.cells {v v' : Value} (h : RelV φ v v') : RelL φ v.cells.toList v'.cells.toList := by
  have one : ∀ x x', RelV φ x x' → RelL φ [x] [x'] := fun x x' h => .cons _ _ _ _ h .nil
  cases h with
  | agg l l' h => exact h
  | _ => first | exact one _ _ (by constructor <;> assumption)

theorem RelV.isCell {v v' : Value} (h : RelV φ v v') : isCell v' = isCell v := by cases h <;> rfl
theorem RelL.isCell {l l' : List Value} (h : RelL φ l l') : l'.all Ev.isCell = l.all Ev.isCell := by
  induction l generalizing l' with
  | nil => cases h; rfl
  | cons x l ih => cases h with | cons _ x' _ l' h1 h2 => simp [h1.isCell, ih h2]
end

/-! ### Memory -/

/-- No cell of a block of n cells is frozen. -/
def unfrozen (fz : Nat × Nat) (n : Nat) : Prop := fz.2 ≤ fz.1 ∨ n ≤ fz.1

def RelE (φ : Phi) (es : List (Value × Value)) (es' : List MapEntry) : Prop :=
  es'.length = es.length ∧ ∀ (i : Nat) (e : Value × Value) (e' : MapEntry), es[i]? = some e → es'[i]? = some e' → (plain e.1 = true ∧ e'.key = e.1) ∧ RelV φ e.2 e'.val

def RelOb (φ : Phi) (w : World) (l : Loc) : Ob → Prop
  | .row cs n s _ _ => ∃ c e fz, w.heap[l.blk]? = some (.cells c e fz) ∧ unfrozen fz c.size ∧ l.s = s ∧ l.base + l.hi ≤ c.size ∧ n ≤ l.hi ∧
      ∀ i, i < n → ∃ x y, cs.get i = some x ∧ c[l.base + i]? = some y ∧ RelV φ x y
  | .map es bs k => ∃ es', w.heap[l.blk]? = some (.map es' k) ∧ RelE φ es es'.toList ∧ es'.toList.map (·.born) = bs
  | .iter m since seen last => ∃ m' seen', w.heap[l.blk]? = some (.mapIter m' since seen' last) ∧ seen'.toList = seen ∧ l.base = 0 ∧
      match m with | none => m' = none | some M => ∃ k, φ M = some k ∧ m' = some k.blk
  | .siter s pos => w.heap[l.blk]? = some (.stringIter s pos) ∧ l.base = 0

/-- May F be written while G lies at the same block? -/
def ShareOk (lF : Loc) (G : Nat) (lG : Loc) : Ob → Ob → Prop
  | .row _ n _ st old, .row _ m _ _ _ => st = false → old = some G ∧ lG.base + m ≤ lF.base + n
  | _, _ => False

structure Rel (φ : Phi) (S : St) (w : World) : Prop where
  obs : ∀ F ob, S.get F = some ob → ∃ l, φ F = some l ∧ RelOb φ w l ob
  excl : ∀ F G obF obG lF lG, F ≠ G → S.get F = some obF → S.get G = some obG → φ F = some lF → φ G = some lG → lF.blk = lG.blk → ShareOk lF G lG obF obG
  ids : ∀ F l, φ F = some l → l.blk < w.heap.size
  dom : ∀ F ob, S.get F = some ob → F < S.next

/-- The numbers from n on, below m, stand for nothing yet. -/
def Free (φ : Phi) (n m : Nat) : Prop := ∀ F, n ≤ F → F < m → φ F = none

structure Good (φ φ' : Phi) (S S' : St) (w w' : World) : Prop where
  ext : φ.le φ'
  rng : ∀ F l, φ F = none → φ' F = some l → S.next ≤ F ∧ F < S'.next
  nxt : S.next ≤ S'.next
  rel : Rel φ' S' w'
  os : w'.os = w.os
  tape : w'.tape = w.tape
  output : w'.output = w.output
  size : w.heap.size ≤ w'.heap.size
  frame : ∀ b, b < w.heap.size → (∀ F ob l, S.get F = some ob → φ F = some l → l.blk ≠ b) → w'.heap[b]? = w.heap[b]?
  blk : ∀ F l, φ F = none → φ' F = some l → w.heap.size ≤ l.blk ∨ ∃ G ob m, S.get G = some ob ∧ φ G = some m ∧ m.blk = l.blk
  dom : ∀ F ob, S'.get F = some ob → (∃ ob0, S.get F = some ob0) ∨ φ F = none

theorem Good.refl {φ : Phi} {S : St} {w : World} (h : Rel φ S w) : Good φ φ S S w w where
  ext := fun _ _ h => h
  rng := fun F l h h' => by simp [h] at h'
  nxt := Nat.le_refl _
  rel := h
  os := rfl
  tape := rfl
  output := rfl
  size := Nat.le_refl _
  frame := fun _ _ _ => rfl
  blk := fun F l h h' => by simp [h] at h'
  dom := fun F ob h => .inl ⟨ob, h⟩

theorem Good.trans {φ φ1 φ2 : Phi} {S S1 S2 : St} {w w1 w2 : World} (h : Good φ φ1 S S1 w w1) (k : Good φ1 φ2 S1 S2 w1 w2) :
    Good φ φ2 S S2 w w2 where
  ext := fun F l hF => k.ext F l (h.ext F l hF)
  rng := fun F l hF hF2 => by
    cases h1 : φ1 F with
    | none => have := k.rng F l h1 hF2; have := h.nxt; omega
    | some m => have := h.rng F m hF h1; have := k.nxt; omega
  nxt := Nat.le_trans h.nxt k.nxt
  rel := k.rel
  os := k.os.trans h.os
  tape := k.tape.trans h.tape
  output := k.output.trans h.output
  size := Nat.le_trans h.size k.size
  frame := fun b hb hn => by
    rw [k.frame b (Nat.lt_of_lt_of_le hb h.size) ?_, h.frame b hb hn]
    intro F ob l hF hl hbl
    cases h0 : φ F with
    | some m =>
      have : φ1 F = some m := h.ext F m h0
      rw [hl] at this; cases this
      rcases h.dom F ob hF with ⟨ob0, hob⟩ | hno
      · exact hn F ob0 l hob h0 hbl
      · rw [h0] at hno; cases hno
    | none =>
      rcases h.blk F l h0 hl with hge | ⟨G, ob', m, hG, hm, hbm⟩
      · omega
      · exact hn G ob' m hG hm (hbm.trans hbl)
  blk := fun F l hF hF2 => by
    cases h1 : φ1 F with
    | some m =>
      have := k.ext F m h1; rw [hF2] at this; cases this
      exact h.blk F l hF h1
    | none =>
      rcases k.blk F l h1 hF2 with hge | ⟨G, ob, m, hG, hm, hbm⟩
      · exact .inl (Nat.le_trans h.size hge)
      · cases h0 : φ G with
        | none =>
          rcases h.blk G m h0 hm with hge | ⟨G', ob', m', hG', hm', hbm'⟩
          · exact .inl (by omega)
          · exact .inr ⟨G', ob', m', hG', hm', hbm'.trans hbm⟩
        | some m0 =>
          have := h.ext G m0 h0; rw [hm] at this; cases this
          rcases h.dom G ob hG with ⟨ob0, hob⟩ | hno
          · exact .inr ⟨G, ob0, m, hob, h0, hbm⟩
          · rw [h0] at hno; cases hno
  dom := fun F ob hF => by
    rcases k.dom F ob hF with ⟨ob0, h0⟩ | hno
    · exact h.dom F ob0 h0
    · cases h0 : φ F with
      | none => exact .inr rfl
      | some m => have := h.ext F m h0; rw [hno] at this; cases this

end Go.Ev
namespace Go.Ev

theorem St.get_put (S : St) (F G : Nat) (o : Ob) : (S.put F o).get G = if G = F then some o else S.get G := by
  unfold St.put St.get; exact Tr.get_set _ _ _ _
theorem St.get_drop (S : St) (F : Option Nat) (G : Nat) : (S.drop F).get G = if F = some G then none else S.get G := by
  cases F with
  | none => simp [St.drop]
  | some f =>
    unfold St.drop St.get
    simp only
    rw [Tr.get_set]
    by_cases h : G = f
    · subst h; simp
    · rw [if_neg h, if_neg (fun e => h (by simpa using e.symm))]
theorem St.get_new (S : St) (G : Nat) (o : Ob) : (S.new o).get G = if G = S.next then some o else S.get G := by
  unfold St.new St.get; exact Tr.get_set _ _ _ _
theorem St.next_put (S : St) (F : Nat) (o : Ob) : (S.put F o).next = S.next := rfl
theorem St.next_drop (S : St) (F : Option Nat) : (S.drop F).next = S.next := by cases F <;> rfl
theorem St.next_new (S : St) (o : Ob) : (S.new o).next = S.next + 1 := rfl

section
variable {φ φ' : Phi} {w w' : World}

theorem RelE.mono (hl : φ.le φ') {es : List (Value × Value)} {es' : List MapEntry} (h : RelE φ es es') : RelE φ' es es' :=
  ⟨h.1, fun i e e' a b => ⟨(h.2 i e e' a b).1, (h.2 i e e' a b).2.mono hl⟩⟩

theorem RelOb.mono (hl : φ.le φ') {l : Loc} {ob : Ob} (h : RelOb φ w l ob) : RelOb φ' w l ob := by
  cases ob with
  | row cs n s st old =>
    obtain ⟨c, e, fz, h1, h2, h3, h4, h5, h6⟩ := h
    exact ⟨c, e, fz, h1, h2, h3, h4, h5, fun i hi => let ⟨x, y, a, b, r⟩ := h6 i hi; ⟨x, y, a, b, r.mono hl⟩⟩
  | map es bs k => obtain ⟨es', h1, h2, h3⟩ := h; exact ⟨es', h1, h2.mono hl, h3⟩
  | iter m =>
    obtain ⟨m', b, h1, hs, h2, h3⟩ := h
    refine ⟨m', b, h1, hs, h2, ?_⟩
    cases m with
    | none => exact h3
    | some M => obtain ⟨k, hk, e⟩ := h3; exact ⟨k, hl _ _ hk, e⟩
  | siter s pos => exact h

theorem RelOb.same {l : Loc} {ob : Ob} (he : w'.heap[l.blk]? = w.heap[l.blk]?) (h : RelOb φ w l ob) : RelOb φ w' l ob := by
  cases ob with
  | row cs n s st old => obtain ⟨c, e, fz, h1, h⟩ := h; exact ⟨c, e, fz, he.trans h1, h⟩
  | map es bs k => obtain ⟨es', h1, h2⟩ := h; exact ⟨es', he.trans h1, h2⟩
  | iter m => obtain ⟨m', b, h1, h2⟩ := h; exact ⟨m', b, he.trans h1, h2⟩
  | siter s pos => exact ⟨he.trans h.1, h.2⟩

/-- A world with the same memory. -/
theorem Rel.world {S : St} (h : Rel φ S w) (he : w'.heap = w.heap) : Rel φ S w' where
  obs := fun F ob hF => let ⟨l, hl, hr⟩ := h.obs F ob hF; ⟨l, hl, hr.same (by rw [he])⟩
  excl := h.excl
  ids := fun F l hl => by rw [he]; exact h.ids F l hl
  dom := h.dom

/-- A part of memory. -/
theorem Rel.sub {S S0 : St} (h : Rel φ S w) (hs : ∀ F ob, S0.get F = some ob → S.get F = some ob) (hd : ∀ F ob, S0.get F = some ob → F < S0.next) : Rel φ S0 w where
  obs := fun F ob hF => h.obs F ob (hs F ob hF)
  excl := fun F G obF obG lF lG hne hF hG => h.excl F G obF obG lF lG hne (hs _ _ hF) (hs _ _ hG)
  ids := h.ids
  dom := hd

/-- The loaded cells of a row. -/
theorem loadRow_sound (P : Program) {S : St} {F off n : Nat} {l : List Value} {loc : Loc} (h : Rel φ S w) (hl : loadRow S F off n = .ok l) (hφ : φ F = some loc) :
    ∃ l', RelL φ l l' ∧ l.length = n ∧ (∀ (i : Nat) v, l'[i]? = some v → w.cell? ⟨loc.blk, loc.base + off + i, none⟩ = some v) ∧
      (loadCells ⟨loc.blk, loc.base + off, none⟩ n).run P w = .ok l'.toArray w := by
  unfold loadRow at hl
  split at hl
  case h_2 => cases hl
  rename_i cs m s st old hget
  split at hl
  case h_2 => cases hl
  rename_i hble
  have hb : off + n ≤ m := Nat_ble hble
  obtain ⟨l1, hl1, c, e, fz, hc, hfz, hs, hhi, hn, hcells⟩ := h.obs F _ hget
  rw [hφ] at hl1; cases hl1
  obtain ⟨hlen, hi⟩ := Tr.take_ok _ _ _ _ hl
  have hex : ∃ l' : List Value, l' = (List.range n).map fun i => c.getD (loc.base + off + i) undef := ⟨_, rfl⟩
  obtain ⟨l', hl'⟩ := hex
  have hget' : ∀ i, i < n → ∃ x y, l[i]? = some x ∧ l'[i]? = some y ∧ c[loc.base + off + i]? = some y ∧ RelV φ x y := by
    intro i hin
    obtain ⟨x, y, hx, hy, hr⟩ := hcells (off + i) (by omega)
    rw [← Nat.add_assoc] at hy
    refine ⟨x, y, by rw [hi i hin, hx], ?_, hy, hr⟩
    rw [hl']
    simp [hin, hy]
  have hl'len : l'.length = n := by rw [hl']; simp
  refine ⟨l', RelL.of_get (by rw [hl'len, hlen]) ?_, hlen, ?_, ?_⟩
  · intro i v v' hv hv'
    have hin : i < n := by
      have := (List.getElem?_eq_some_iff.1 hv).1
      omega
    obtain ⟨x, y, hx, hy, _, hr⟩ := hget' i hin
    rw [hv] at hx; cases hx
    rw [hv'] at hy; cases hy
    exact hr
  · intro i v hv
    have hin : i < n := by have := (List.getElem?_eq_some_iff.1 hv).1; omega
    obtain ⟨x, y, hx, hy, hcy, hr⟩ := hget' i hin
    rw [hv] at hy; cases hy
    simp [World.cell?, hc, hcy]
  · rw [← hl'len]
    refine run_loadCells_list w _ l' ?_
    intro j v hv
    have hin : j < n := by have := (List.getElem?_eq_some_iff.1 hv).1; omega
    obtain ⟨x, y, hx, hy, hcy, hr⟩ := hget' j hin
    rw [hv] at hy; cases hy
    have hadd : (⟨loc.blk, loc.base + off, none⟩ : Addr).add j = ⟨loc.blk, loc.base + off + j, none⟩ := by unfold Addr.add; split <;> simp_all
    rw [hadd]
    simp [World.cell?, hc, hcy]

theorem isCell_one {v : Value} (h : isCell v = true) : v.oneCell' = true := by cases v <;> simp_all [isCell, Value.oneCell']

theorem run_storeU (P : Program) (g o : Nat) (t : TypeId) (fz : Nat × Nat) : ∀ (vs : List Value) (i : Nat) (cur : Array Value) (w : World), w.heap[g]? = some (.cells cur t fz) → unfrozen fz cur.size →
    o + i + vs.length ≤ cur.size → (∀ v ∈ vs, isCell v = true) →
    (storeCells ⟨g, o, none⟩ vs i).run P w = .ok () (w.setRow g (cur.toList.take (o + i) ++ vs ++ cur.toList.drop (o + i + vs.length)).toArray)
  | [], i, cur, w, hg, _, _, _ => by
    simp only [storeCells, List.append_nil, List.length_nil, Nat.add_zero, List.take_append_drop, Array.toArray_toList]
    rw [setRow_self w g cur t fz hg]
    rfl
  | v :: rest, i, cur, w, hg, hfz, hl, h1 => by
    have hi : o + i < cur.size := by simp at hl; omega
    have hadd : (⟨g, o, none⟩ : Addr).add i = ⟨g, o + i, none⟩ := by unfold Addr.add; split <;> simp_all
    have hcell : w.cell? ⟨g, o + i, none⟩ = some cur[o + i] := by simp [World.cell?, hg, hi]
    have hfro : w.frozen? ⟨g, o + i, none⟩ = false := by
      obtain ⟨lo, hi'⟩ := fz
      simp only [unfrozen] at hfz
      simp only [World.frozen?, hg, Bool.and_eq_false_iff, decide_eq_false_iff_not]
      omega
    have hst : (store ((⟨g, o, none⟩ : Addr).add i) v).run P w = .ok () (w.setRow g (cur.setIfInBounds (o + i) v)) := by
      rw [hadd, run_store P w _ v _ (isCell_one (h1 v (by simp))), hcell]
      simp [hfro, setCell_eq_setRow w g (o + i) cur t fz v hg]
    have ih := run_storeU P g o t fz rest (i + 1) (cur.setIfInBounds (o + i) v) (w.setRow g (cur.setIfInBounds (o + i) v)) (setRow_heap w g cur _ t _ hg) (by simpa using hfz) (by simp at hl ⊢; omega) (fun x hx => h1 x (by simp [hx]))
    simp only [storeCells, Sem.run_bind, hst, Result.andThen_ok, ih, setRow_setRow]
    congr 3
    have e := list_seg_step cur.toList (o + i) v rest (by simp at hl ⊢; omega)
    simpa [Array.toList_setIfInBounds, Nat.add_assoc] using e

/-- What is written over a part of a row. -/
theorem splice_get {α : Type} (c vs : List α) (k i : Nat) (h : k + vs.length ≤ c.length) :
    (c.take k ++ vs ++ c.drop (k + vs.length))[i]? = if k ≤ i ∧ i < k + vs.length then vs[i - k]? else c[i]? := by
  have hk : (c.take k).length = k := by simp; omega
  by_cases h1 : i < k
  · rw [if_neg (by omega), List.append_assoc, List.getElem?_append_left (by omega), List.getElem?_take_of_lt h1]
  · by_cases h2 : i < k + vs.length
    · rw [if_pos (by omega), List.getElem?_append_left (by simp; omega), List.getElem?_append_right (by omega), hk]
    · rw [if_neg (by omega), List.getElem?_append_right (by simp; omega), List.getElem?_drop]
      congr 1
      simp
      omega

theorem writeRow_sound (P : Program) {S S' : St} {F off : Nat} {vs vs' : List Value} {loc : Loc} (h : Rel φ S w) (hw : writeRow S F off vs = .ok S') (hφ : φ F = some loc) (hv : RelL φ vs vs') :
    ∃ w', (storeCells ⟨loc.blk, loc.base + off, none⟩ vs').run P w = .ok () w' ∧ w'.drawn = w.drawn ∧ Good φ φ S S' w w' := by
  unfold writeRow at hw
  split at hw
  case h_2 => cases hw
  rename_i cs m s st old hget
  split at hw
  · cases hw
  split at hw
  case h_2 => cases hw
  rename_i hb
  simp only [Bool.and_eq_true] at hb
  obtain ⟨hble, hall⟩ := hb
  have hle : off + vs.length ≤ m := Nat_ble hble
  cases hw
  obtain ⟨l1, hl1, c, e, fz, hc, hfz, hs, hhi, hn, hcells⟩ := h.obs F _ hget
  rw [hφ] at hl1; cases hl1
  have hlen := hv.length
  have hall' : ∀ v ∈ vs', isCell v = true := by
    have := hv.isCell; rw [hall] at this; simpa using this
  have hrun := run_storeU P loc.blk (loc.base + off) e fz vs' 0 c w hc hfz (by omega) hall'
  simp only [Nat.add_zero] at hrun
  refine ⟨_, hrun, rfl, ?_⟩
  have hblk : ∀ b, b ≠ loc.blk → (w.setRow loc.blk (c.toList.take (loc.base + off) ++ vs' ++ c.toList.drop (loc.base + off + vs'.length)).toArray).heap[b]? = w.heap[b]? := fun b hb => setRow_other w _ b _ hb
  have hget' : ∀ G, ((S.drop old).put F (.row (cs.pushL off vs) m s false none)).get G = if G = F then some (.row (cs.pushL off vs) m s false none) else if old = some G then none else S.get G := by
    intro G; rw [St.get_put, St.get_drop]
  have hother : ∀ G ob, G ≠ F → ((S.drop old).put F (.row (cs.pushL off vs) m s false none)).get G = some ob → S.get G = some ob ∧ old ≠ some G := by
    intro G ob hne hG
    rw [hget', if_neg hne] at hG
    split at hG
    · cases hG
    · exact ⟨hG, by assumption⟩
  have hblk2 : ∀ G ob lG, G ≠ F → S.get G = some ob → old ≠ some G → φ G = some lG → lG.blk ≠ loc.blk := by
    intro G ob lG hne hG ho hlG heq
    have := h.excl F G _ ob loc lG (Ne.symm hne) hget hG hφ hlG heq.symm
    cases ob with
    | row => exact ho (this rfl).1
    | map => exact this
    | iter => exact this
    | siter => exact this
  refine ⟨fun _ _ h => h, fun F l a b => by simp [a] at b, by rw [St.next_put, St.next_drop]; exact Nat.le_refl _, ⟨?_, ?_, ?_, ?_⟩, rfl, rfl, rfl, by simp, ?_, fun F l a b => by simp [a] at b, ?_⟩
  · intro G ob hG
    by_cases hne : G = F
    · subst hne
      rw [hget', if_pos rfl] at hG
      cases hG
      refine ⟨loc, hφ, _, e, fz, setRow_heap w _ c _ e fz hc, ?_, hs, ?_, hn, ?_⟩
      · have : (c.toList.take (loc.base + off) ++ vs' ++ c.toList.drop (loc.base + off + vs'.length)).toArray.size = c.size := by simp; omega
        rw [this]; exact hfz
      · simp; omega
      · intro i hi
        rw [Tr.get_pushL]
        have hsp := splice_get c.toList vs' (loc.base + off) (loc.base + i) (by simp; omega)
        by_cases hin : off ≤ i ∧ i < off + vs.length
        · rw [if_pos hin]
          rw [if_pos (by omega)] at hsp
          obtain ⟨x, hx⟩ : ∃ x, vs[i - off]? = some x := ⟨vs[i - off]'(by omega), by rw [List.getElem?_eq_getElem]⟩
          obtain ⟨y, hy, hr⟩ := hv.get hx
          refine ⟨x, y, hx, ?_, hr⟩
          rw [List.getElem?_toArray, hsp, ← hy]
          congr 1
          omega
        · rw [if_neg hin]
          rw [if_neg (by omega)] at hsp
          obtain ⟨x, y, hx, hy, hr⟩ := hcells i hi
          exact ⟨x, y, hx, by rw [List.getElem?_toArray, hsp]; simpa using hy, hr⟩
    · obtain ⟨hG', ho⟩ := hother G ob hne hG
      obtain ⟨lG, hlG, hr⟩ := h.obs G ob hG'
      exact ⟨lG, hlG, hr.same (hblk _ (hblk2 G ob lG hne hG' ho hlG))⟩
  · intro A B obA obB lA lB hne hA hB hlA hlB heq
    by_cases hAF : A = F
    · subst hAF
      obtain ⟨hB', ho⟩ := hother B obB (Ne.symm hne) hB
      rw [hφ] at hlA; cases hlA
      exact absurd heq.symm (hblk2 B obB lB (Ne.symm hne) hB' ho hlB)
    · obtain ⟨hA', hoA⟩ := hother A obA hAF hA
      by_cases hBF : B = F
      · subst hBF
        rw [hφ] at hlB; cases hlB
        exact absurd heq (hblk2 A obA lA hAF hA' hoA hlA)
      · obtain ⟨hB', hoB⟩ := hother B obB hBF hB
        exact h.excl A B obA obB lA lB hne hA' hB' hlA hlB heq
  · intro G l hl; simp; exact h.ids G l hl
  · intro G ob hG
    rw [St.next_put, St.next_drop]
    by_cases hne : G = F
    · subst hne; exact h.dom G _ hget
    · exact h.dom G ob (hother G ob hne hG).1
  · intro b hb hn
    exact hblk b (fun e => hn F _ loc hget hφ e.symm)
  · intro G ob hG
    by_cases hne : G = F
    · subst hne; exact .inl ⟨_, hget⟩
    · exact .inl ⟨ob, (hother G ob hne hG).1⟩

/-- φ with one number more. -/
def Phi.put (φ : Phi) (n : Nat) (l : Loc) : Phi := fun F => if F = n then some l else φ F
theorem Phi.put_same (φ : Phi) (n : Nat) (l : Loc) : φ.put n l n = some l := by simp [Phi.put]
theorem Phi.put_le {n : Nat} {l : Loc} (h : φ n = none) : φ.le (φ.put n l) := by
  intro F m hF
  unfold Phi.put
  split
  · rename_i e; subst e; rw [h] at hF; cases hF
  · exact hF

/-- A thing of the world's own, that nobody shares. -/
def Ob.own : Ob → Prop
  | .row _ _ _ st old => st = false ∧ old = none
  | _ => True

/-- One new block. -/
theorem new_good {S : St} {ob : Ob} {l : Loc} (h : Rel φ S w) (hf : φ S.next = none) (hl : l.blk = w.heap.size) (hos : w'.os = w.os) (htape : w'.tape = w.tape) (hout : w'.output = w.output)
    (hsize : w'.heap.size = w.heap.size + 1) (hheap : ∀ b, b < w.heap.size → w'.heap[b]? = w.heap[b]?) (hob : RelOb (φ.put S.next l) w' l ob) : Good φ (φ.put S.next l) S (S.new ob) w w' := by
  have hle : φ.le (φ.put S.next l) := Phi.put_le hf
  have hget : ∀ G, (S.new ob).get G = if G = S.next then some ob else S.get G := fun G => St.get_new S G ob
  have hold : ∀ G o, G ≠ S.next → (S.new ob).get G = some o → S.get G = some o := fun G o hne hG => by rw [hget, if_neg hne] at hG; exact hG
  have hput : ∀ G m, G ≠ S.next → (φ.put S.next l) G = some m → φ G = some m := fun G m hne hm => by simpa [Phi.put, hne] using hm
  refine ⟨hle, ?_, by rw [St.next_new]; omega, ⟨?_, ?_, ?_, ?_⟩, hos, htape, hout, by omega, fun b hb _ => hheap b hb, ?_, ?_⟩
  · intro F m hF hm
    rw [St.next_new]
    by_cases e : F = S.next
    · omega
    · rw [hput F m e hm] at hF; cases hF
  · intro G o hG
    by_cases e : G = S.next
    · subst e
      rw [hget, if_pos rfl] at hG; cases hG
      exact ⟨l, Phi.put_same _ _ _, hob⟩
    · obtain ⟨lG, hlG, hr⟩ := h.obs G o (hold G o e hG)
      exact ⟨lG, hle _ _ hlG, (hr.mono hle).same (hheap _ (h.ids _ _ hlG))⟩
  · intro A B obA obB lA lB hne hA hB hlA hlB heq
    by_cases eA : A = S.next
    · by_cases eB : B = S.next
      · omega
      · subst eA
        rw [Phi.put_same] at hlA; cases hlA
        have := h.ids B lB (hput B lB eB hlB)
        omega
    · by_cases eB : B = S.next
      · subst eB
        rw [Phi.put_same] at hlB; cases hlB
        have := h.ids A lA (hput A lA eA hlA)
        omega
      · exact h.excl A B obA obB lA lB hne (hold _ _ eA hA) (hold _ _ eB hB) (hput _ _ eA hlA) (hput _ _ eB hlB) heq
  · intro G m hm
    by_cases e : G = S.next
    · subst e; rw [Phi.put_same] at hm; cases hm; omega
    · have := h.ids G m (hput G m e hm); omega
  · intro G o hG
    rw [St.next_new]
    by_cases e : G = S.next
    · omega
    · have := h.dom G o (hold G o e hG); omega
  · intro F m hF hm
    by_cases e : F = S.next
    · subst e; rw [Phi.put_same] at hm; cases hm; exact .inl (by omega)
    · rw [hput F m e hm] at hF; cases hF
  · intro G o hG
    by_cases e : G = S.next
    · subst e; exact .inr hf
    · exact .inl ⟨o, hold G o e hG⟩
end
end Go.Ev
