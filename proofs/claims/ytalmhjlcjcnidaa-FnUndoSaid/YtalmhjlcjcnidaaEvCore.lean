/- A big-step evaluator over typed trees for the programs of the model: what a Go function computes, told without memory. Definitions alone. -/
import Derived.WalkKit
import Derived.Below
import Derived.Orders
set_option linter.all false
namespace Go.Proofs.Ytalmhjlcjcnidaa.Ev

/-- the kinds of plain data -/
inductive Kd where
  | int (k : IntKind) | bool | str | sl (f : Kd) | pair (a b : Kd)
  deriving DecidableEq
abbrev Kd.T : Kd → Type
  | .int _ => Int
  | .bool => Bool
  | .str => ByteArray
  | .sl f => List f.T
  | .pair a b => a.T × b.T
def Kd.size : Kd → Nat
  | .pair a b => a.size + b.size
  | _ => 1
def Kd.zero : (f : Kd) → f.T
  | .int _ => (0 : Int)
  | .bool => false
  | .str => (⟨#[]⟩ : ByteArray)
  | .sl f => ([] : List f.T)
  | .pair a b => (a.zero, b.zero)
/-- no slice inside -/
def Kd.flat : Kd → Bool
  | .sl _ => false
  | .pair a b => a.flat && b.flat
  | _ => true

/-- a captured variable -/
inductive Cap where
  | own (r : Nat)
  | sh (f : Kd) (x : f.T)
/-- what one cell holds -/
inductive Leaf where
  | undef
  | nil
  | int (k : IntKind) (n : Int)
  | bool (b : Bool)
  | str (s : ByteArray)
  | sh (f : Kd) (xs : List f.T)
  | od (f : Kd) (xs : List f.T)
  | ow (r : Nat)
  | sub (r off len : Nat)
  | pa (r i c : Nat)
  | ptr (r i c : Nat)
  | spt (f : Kd) (x : f.T) (c : Nat)
  | clo (f : Nat) (caps : List Cap)
inductive TV where
  | one (l : Leaf)
  | agg (ls : List Leaf)
inductive AV where
  | v (x : TV)
  | tup (vs : List TV)
def TV.leaves : TV → List Leaf
  | .one l => [l]
  | .agg ls => ls
inductive ARow where
  | dead
  | box (f : Kd) (ls : List Leaf)
  | data (f : Kd) (xs : List f.T)
  /-- the slice in cell c of element i is taken out: it stands in row n, or is still to be stored -/
  | hol (f : Kd) (xs : List f.T) (i c n : Nat)
structure St where
  slots : List AV
  rows : List (Nat × ARow)
  pins : List Leaf
def look {α : Type} (n : Nat) : List (Nat × α) → Option α
  | [] => none
  | (k, v) :: t => bif Nat.beq k n then some v else look n t
/-- put at its place -/
def insRow (n : Nat) (v : ARow) : List (Nat × ARow) → List (Nat × ARow)
  | [] => [(n, v)]
  | (k, u) :: t => bif Nat.blt n k then (n, v) :: (k, u) :: t else bif Nat.beq k n then (n, v) :: t else (k, u) :: insRow n v t

structure Ti where
  size : Nat
  eb : Nat
  agg : Bool
  offs : List (Nat × Nat)
  kd : Kd
inductive Md where
  | ro | give | io | bx (f : Kd)
structure Sig where
  modes : List Md
  deep : Bool
  /-- the one result is a pointer to a box of this kind -/
  rbx : Option Kd := none
  /-- the cells of the answer that are handed back to be read only -/
  soft : List Nat := []
structure Keep where
  mask : Nat
  rows : List Nat
structure Env where
  tyT : List (Nat × Ti)
  fnT : List (Nat × Func)
  sgT : List (Nat × Sig)
  kpT : List (Nat × List (Nat × Keep))
  eqT : List Nat
abbrev CF := (R : Type) → Nat → List TV → (AV → Option R) → Option R

def undefAV : AV := .v (.one .undef)
/-- what an operation leaves that was not wanted -/
def skipAV : AV := .tup []
def shLeaves : (f : Kd) → f.T → List Leaf
  | .int k, n => [.int k n]
  | .bool, b => [.bool b]
  | .str, s => [.str s]
  | .sl f, xs => [.sh f xs]
  | .pair a b, p => shLeaves a p.1 ++ shLeaves b p.2
def owLeaves (r i : Nat) : (f : Kd) → f.T → Nat → List Leaf
  | .int k, n, _ => [.int k n]
  | .bool, b, _ => [.bool b]
  | .str, s, _ => [.str s]
  | .sl _, _, c => [.pa r i c]
  | .pair a b, p, c => owLeaves r i a p.1 c ++ owLeaves r i b p.2 (c + a.size)
/-- the cells of an element as a reader sees them -/
def elLeaves (deep : Bool) (r i : Nat) (f : Kd) (x : f.T) : List Leaf := bif deep then owLeaves r i f x 0 else shLeaves f x
/-- the slice that stands in cell c of an element -/
def cellSl : (f : Kd) → f.T → Nat → Option (Sigma fun g : Kd => List g.T)
  | .sl g, xs, 0 => some ⟨g, xs⟩
  | .pair a b, p, c => bif Nat.blt c a.size then cellSl a p.1 c else cellSl b p.2 (c - a.size)
  | _, _, _ => none

def castL' {f g : Kd} (h : f = g) (xs : List f.T) : List g.T := h ▸ xs
/-- an element with another slice in cell c -/
def putCell : (f : Kd) → f.T → Nat → (g : Kd) → List g.T → Option f.T
  | .sl f, _, 0, g, ys => if h : g = f then some (castL' h ys : List f.T) else none
  | .pair a b, p, c, g, ys => bif Nat.blt c a.size then (putCell a p.1 c g ys).map fun x => (x, p.2) else (putCell b p.2 (c - a.size) g ys).map fun x => (p.1, x)
  | _, _, _, _, _ => none
def castL {f g : Kd} (h : f = g) (xs : List f.T) : List g.T := h ▸ xs
/-- a slice's leaf as data of kind f: with the row that is used up -/
def slOf (deep : Bool) (rows : List (Nat × ARow)) (f : Kd) : Leaf → Option (List f.T × List Nat)
  | .sh g xs => bif deep then none else if h : g = f then some (castL h xs, []) else none
  | .nil => some ([], [])
  | .ow r => match look r rows with
    | some (.data g xs) => if h : g = f then some (castL h xs, [r]) else none
    | _ => none
  | _ => none
/-- cells as an element: with the rows that are used up, and the cells left -/
def ofLeaves (deep : Bool) (rows : List (Nat × ARow)) : (f : Kd) → List Leaf → Option (f.T × List Nat × List Leaf)
  | .int k, .int j n :: t => bif decide (j = k) then some ((n : Int), [], t) else none
  | .bool, .bool b :: t => some ((b : Bool), [], t)
  | .str, .str s :: t => some ((s : ByteArray), [], t)
  | .sl f, l :: t => (slOf deep rows f l).bind fun q => some ((q.1 : List f.T), q.2, t)
  | .pair a b, ls => (ofLeaves deep rows a ls).bind fun q => (ofLeaves deep rows b q.2.2).bind fun p => some ((q.1, p.1), q.2.1 ++ p.2.1, p.2.2)
  | _, _ => none
/-- an element with some cells from place c on written anew: with the rows used up, and the cells left -/
def putLeaves (deep : Bool) (rows : List (Nat × ARow)) : (f : Kd) → f.T → Nat → List Leaf → Option (f.T × List Nat × List Leaf)
  | _, x, _, [] => some (x, [], [])
  | .pair a b, p, c, ls =>
    bif Nat.blt c a.size then
      (putLeaves deep rows a p.1 c ls).bind fun q => (putLeaves deep rows b p.2 0 q.2.2).bind fun s => some ((q.1, s.1), q.2.1 ++ s.2.1, s.2.2)
    else (putLeaves deep rows b p.2 (c - a.size) ls).bind fun s => some ((p.1, s.1), s.2.1, s.2.2)
  | f, _, 0, ls => ofLeaves deep rows f ls
  | _, _, _ + 1, _ => none

def Leaf.refs : Leaf → List Nat
  | .ow r | .sub r _ _ | .pa r _ _ | .ptr r _ _ => [r]
  | .clo _ caps => caps.filterMap fun | .own r => some r | _ => none
  | _ => []
def AV.leaves : AV → List Leaf
  | .v x => x.leaves
  | .tup vs => vs.flatMap TV.leaves
def AV.refs (a : AV) : List Nat := a.leaves.flatMap Leaf.refs
def ARow.refs : ARow → List Nat
  | .box _ ls => ls.flatMap Leaf.refs
  | .hol _ _ _ _ n => [n]
  | _ => []
def ARow.isHol : ARow → Bool
  | .hol _ _ _ _ _ => true
  | _ => false
def memN (n : Nat) : List Nat → Bool
  | [] => false
  | k :: t => bif Nat.beq k n then true else memN n t
def distinct : List Nat → Bool
  | [] => true
  | k :: t => bif memN k t then false else distinct t

def St.put (σ : St) (dst : Option Nat) (a : AV) : St :=
  match dst with
  | some d => { σ with slots := σ.slots.set d a }
  | none => σ
def St.look (σ : St) (r : Nat) : Option ARow := Ev.look r σ.rows
def St.setRow (σ : St) (r : Nat) (row : ARow) : St := { σ with rows := insRow r row σ.rows }
def St.kill (σ : St) (rs : List Nat) : St := { σ with rows := rs.foldl (fun l r => insRow r .dead l) σ.rows }
/-- new rows: none of them may be there -/
def St.addRows (σ : St) : List (Nat × ARow) → Option St
  | [] => some σ
  | (r, row) :: t => match σ.look r with
    | none => (σ.setRow r row).addRows t
    | some _ => none
def key (dst : Option Nat) (j : Nat) : Nat := match dst with | some d => d * 64 + j | none => j

def constAV : Value → Option AV
  | .int k n => some (.v (.one (.int k n)))
  | .bool b => some (.v (.one (.bool b)))
  | .string s => some (.v (.one (.str s)))
  | .slice none 0 0 => some (.v (.one .nil))
  | .pointer none => some undefAV
  | _ => none
def St.ev (σ : St) : Operand → Option AV
  | .tmp t => some (σ.slots.getD t undefAV)
  | .const v => constAV v
  | .func f => some (.v (.one (.clo f [])))
  | .global _ => none
def St.ev1 (σ : St) (x : Operand) : Option Leaf :=
  match σ.ev x with
  | some (.v (.one l)) => some l
  | _ => none
def St.evT (σ : St) (x : Operand) : Option TV :=
  match σ.ev x with
  | some (.v (.one .undef)) => none
  | some (.v x) => some x
  | _ => none

section
variable (E : Env)
def Env.ty (t : Nat) : Option Ti := look t E.tyT
/-- the kind of a type that is no struct -/
def Env.pl (t : Nat) : Option Kd := match E.ty t with
  | some i => bif i.agg then none else some i.kd
  | none => none
def Env.elemKd (t : Nat) : Option Kd := match E.pl t with
  | some (.sl f) => some f
  | _ => none

/-- the zero cells of a kind: an empty row of the call's own for each slice -/
def zeroLeaves (dst : Option Nat) : (f : Kd) → Nat → List Leaf
  | .int k, _ => [.int k 0]
  | .bool, _ => [.bool false]
  | .str, _ => [.str ⟨#[]⟩]
  | .sl _, c => [.ow (key dst (c + 1))]
  | .pair a b, c => zeroLeaves dst a c ++ zeroLeaves dst b (c + a.size)
def zeroRows (dst : Option Nat) : (f : Kd) → Nat → List (Nat × ARow)
  | .sl f, c => [(key dst (c + 1), .data f [])]
  | .pair a b, c => zeroRows dst a c ++ zeroRows dst b (c + a.size)
  | _, _ => []
def putAt (ls : List Leaf) (c : Nat) (ws : List Leaf) : List Leaf := ls.take c ++ ws ++ ls.drop (c + ws.length)

/-- what a caller hands over: an argument that is only read -/
def roLeaf (σ : St) : Leaf → Option Leaf
  | .ow r => match σ.look r with
    | some (.data f xs) => some (.sh f xs)
    | _ => none
  | .sub r off len => match σ.look r with
    | some (.data f xs) => some (.sh f ((xs.drop off).take len))
    | _ => none
  | .pa r i c => match σ.look r with
    | some (.data f xs) => (cellSl f (xs.getD i f.zero) c).map fun p => .sh p.1 p.2
    | _ => none
  | .int k n => some (.int k n)
  | .bool b => some (.bool b)
  | .str s => some (.str s)
  | .sh f xs => some (.sh f xs)
  | .spt f x c => some (.spt f x c)
  | .clo g caps => (caps.mapM fun (c : Cap) => match c with
      | Cap.sh f x => some (Cap.sh f x)
      | Cap.own r => match σ.look r with
        | some (.box f ls) => (ofLeaves false σ.rows f ls).bind fun q => match q.2.2 with
          | [] => some (Cap.sh f q.1)
          | _ => none
        | _ => none).map fun cs => .clo g cs
  | _ => none
/-- one that is handed over with its memory -/
def odLeaf (deep : Bool) (σ : St) : Leaf → Option Leaf
  | .ow r => match σ.look r with
    | some (.data f xs) => bif deep || f.flat then some (.od f xs) else none
    | _ => none
  | .int k n => some (.int k n)
  | .bool b => some (.bool b)
  | .str s => some (.str s)
  | .sh f xs => some (.sh f xs)
  | _ => none
/-- one that comes back: a whole row, or the slice in a cell of an element -/
def ioLeaf (deep : Bool) (σ : St) : Leaf → Option Leaf
  | .pa r i c => bif deep then match σ.look r with
    | some (.data f xs) => (cellSl f (xs.getD i f.zero) c).map fun p => .od p.1 p.2
    | _ => none else none
  | l => odLeaf deep σ l
def TV.mapM (f : Leaf → Option Leaf) : TV → Option TV
  | .one l => (f l).map TV.one
  | .agg ls => (ls.mapM f).map TV.agg

def Env.isStr (t : Nat) : Bool := match E.pl t with
  | some .str => true
  | _ => false
def Env.isBool (t : Nat) : Bool := match E.pl t with
  | some .bool => true
  | _ => false
def Env.isSl (t : Nat) : Bool := match E.pl t with
  | some (.sl _) => true
  | _ => false
def okS (σ : St) : Option (Bool × St) := some (true, σ)
def St.put1 (σ : St) (o : Oper) (l : Leaf) : Option (Bool × St) := okS (σ.put o.dst (.v (.one l)))
/-- a new row, its handle to the destination -/
def St.freeKey (σ : St) (dst : Option Nat) (j : Nat) : Nat := match σ.look (key dst j) with
  | none => key dst j
  | some _ => match σ.look (key dst (32 + j)) with
    | none => key dst (32 + j)
    | some _ => key dst (34 + j)
def St.fresh (σ : St) (o : Oper) (j : Nat) (f : Kd) (xs : List f.T) : Option St :=
  (σ.addRows [(σ.freeKey o.dst j, .data f xs)]).map fun σ' => σ'.put o.dst (.v (.one (.ow (σ.freeKey o.dst j))))

def opMove (o : Oper) (x : Operand) (σ : St) : Option (Bool × St) :=
  match σ.ev x with
  | some (.v (.one .nil)) => (E.elemKd o.type).bind fun f => (σ.fresh o 0 f []).bind okS
  | some a => okS (σ.put o.dst a)
  | none => none
def opPick (o : Oper) (c a b : Operand) (σ : St) : Option (Bool × St) :=
  match σ.ev1 c, σ.ev a, σ.ev b with
  | some (.bool c), some (.v (.one (.bool p))), some (.v (.one (.bool q))) => σ.put1 o (.bool (bif c then p else q))
  | some (.bool c), some a, some b => okS (σ.put o.dst (bif c then a else b))
  | _, _, _ => none
def opAlloc (o : Oper) (elem : Nat) (σ : St) : Option (Bool × St) :=
  (E.ty elem).bind fun i =>
  (σ.addRows (zeroRows o.dst i.kd 0)).bind fun σ1 => (σ1.addRows [(key o.dst 0, .box i.kd (zeroLeaves o.dst i.kd 0))]).bind fun σ' => σ'.put1 o (.ptr (key o.dst 0) 0 0)
def opBox (o : Oper) (elem : Nat) (x : Operand) (σ : St) : Option (Bool × St) :=
  match σ.evT x, E.ty elem with
  | some x, some i => bif Nat.beq x.leaves.length i.size then
      (σ.addRows [(key o.dst 0, .box i.kd x.leaves)]).bind fun σ' => σ'.put1 o (.ptr (key o.dst 0) 0 0)
    else none
  | _, _ => none
/-- the parts of a struct, laid over its zero cells -/
def fillParts (σ : St) (offs : List (Nat × Nat)) : List (Nat × Operand) → List Leaf → Option (List Leaf)
  | [], ls => some ls
  | (i, x) :: t, ls => match σ.evT x, offs[i]? with
    | some x, some c => bif Nat.beq x.leaves.length c.2 && Nat.ble (c.1 + c.2) ls.length then fillParts σ offs t (putAt ls c.1 x.leaves) else none
    | _, _ => none
/-- of a struct's zero rows those that stand in its cells at the end -/
def usedRows (ls : List Leaf) (rs : List (Nat × ARow)) : List (Nat × ARow) := rs.filter fun q => memN q.1 (ls.flatMap Leaf.refs)
def opBuild (o : Oper) (t : Nat) (parts : Array (Nat × Operand)) (σ : St) : Option (Bool × St) :=
  (E.ty t).bind fun i =>
  (fillParts σ i.offs parts.toList (zeroLeaves o.dst i.kd 0)).bind fun ls =>
  bif i.agg then
    (σ.addRows (usedRows ls (zeroRows o.dst i.kd 0))).bind fun σ' => okS (σ'.put o.dst (.v (.agg ls)))
  else none
/-- elements out of operands, one after the other: with the rows used up -/
def elemsOf (deep : Bool) (σ : St) (f : Kd) : Nat → List (Nat × Operand) → Option (List f.T × List Nat)
  | _, [] => some ([], [])
  | n, (i, x) :: t => bif Nat.beq i n then
      match σ.evT x with
      | some x => (ofLeaves deep σ.rows f x.leaves).bind fun q => match q.2.2 with
        | [] => (elemsOf deep σ f (n + 1) t).bind fun p => some (q.1 :: p.1, q.2.1 ++ p.2)
        | _ => none
      | none => none
    else none
def opBuildSlice (deep : Bool) (o : Oper) (t : Nat) (len : Nat) (parts : Array (Nat × Operand)) (σ : St) : Option (Bool × St) :=
  (E.elemKd t).bind fun f =>
  match elemsOf deep σ f 0 parts.toList with
  | some q => bif Nat.beq q.1.length len && Nat.ble (len * f.size) 16777216 then bif distinct q.2 then
      ((σ.kill q.2).fresh o 0 f q.1).bind okS
    else none else none
  | none => bif deep then (elemsOf false σ f 0 parts.toList).bind fun q =>
      bif Nat.beq q.1.length len && Nat.ble (len * f.size) 16777216 && q.2.isEmpty then okS (σ.put o.dst (.v (.one (.sh f q.1)))) else none
    else none
def asVal (agg : Bool) (ls : List Leaf) : Option TV :=
  bif agg then some (.agg ls) else match ls with
    | [l] => some (.one l)
    | _ => none
/-- the n cells from c on -/
def cut (ls : List Leaf) (c n : Nat) : Option (List Leaf) := bif Nat.ble (c + n) ls.length then some ((ls.drop c).take n) else none
def loadLeaves (deep : Bool) (σ : St) (n : Nat) : Leaf → Option (List Leaf)
  | .ptr r i c => match σ.look r with
    | some (.box _ ls) => match i with
      | 0 => cut ls c n
      | _ => none
    | some (.data f xs) => cut (elLeaves deep r i f (xs.getD i f.zero)) c n
    | _ => none
  | .spt f x c => cut (shLeaves f x) c n
  | _ => none
def loadT (deep : Bool) (t : Nat) (a : Operand) (σ : St) : Option TV :=
  match E.ty t, σ.ev1 a with
  | some i, some l => (loadLeaves deep σ i.size l).bind (asVal i.agg)
  | _, _ => none
def opLoad (deep : Bool) (o : Oper) (t : Nat) (a : Operand) (σ : St) : Option (Bool × St) :=
  (loadT E deep t a σ).bind fun x => okS (σ.put o.dst (.v x))
/-- leaves that look into a row's cells are no longer good when these are written -/
def dropPa (r : Nat) : Leaf → Leaf
  | .pa q i c => bif Nat.beq q r then .undef else .pa q i c
  | l => l
def TV.map (f : Leaf → Leaf) : TV → TV
  | .one l => .one (f l)
  | .agg ls => .agg (ls.map f)
def AV.map (f : Leaf → Leaf) : AV → AV
  | .v x => .v (x.map f)
  | .tup vs => .tup (vs.map (TV.map f))
def ARow.map (f : Leaf → Leaf) : ARow → ARow
  | .box k ls => .box k (ls.map f)
  | row => row
def St.map (f : Leaf → Leaf) (σ : St) : St := { slots := σ.slots.map (AV.map f), rows := σ.rows.map fun q => (q.1, q.2.map f), pins := σ.pins.map f }
def isNil1 : TV → Bool
  | .one .nil => true
  | _ => false
/-- the row of a nil slice that is stored -/
def nilKey (a : Operand) : Nat := match a with
  | .tmp t => key (some t) 60
  | _ => 0
def opStore (deep : Bool) (o : Oper) (t : Nat) (a v : Operand) (σ : St) : Option (Bool × St) :=
  match E.ty t, σ.ev1 a, σ.evT v with
  | some ti, some (.ptr r i c), some x =>
    bif Nat.beq x.leaves.length ti.size then
      match σ.look r with
      | some (.box f ls) => match i with
        | 0 => bif Nat.ble (c + ti.size) ls.length then
          bif isNil1 x then (E.elemKd t).bind fun g => (σ.addRows [(nilKey a, .data g [])]).bind fun τ => okS ((τ.setRow r (.box f (putAt ls c [.ow (nilKey a)]))).put o.dst undefAV)
          else okS ((σ.setRow r (.box f (putAt ls c x.leaves))).put o.dst undefAV)
          else none
        | _ => none
      | some (.data f xs) =>
        (putLeaves deep σ.rows f (xs.getD i f.zero) c x.leaves).bind fun q => match q.2.2 with
          | [] => bif distinct q.2.1 then bif memN r q.2.1 then none else
              okS (((((σ.map (dropPa r)).kill q.2.1)).setRow r (.data f (xs.set i q.1))).put o.dst undefAV)
            else none
          | _ => none
      | some (.hol f xs i0 c0 n) => match x with
        | .one (.ow k) => match σ.look k with
          | some (.data g zs) => bif Nat.beq n k then none else (putCell f (xs.getD i0 f.zero) c0 g zs).bind fun x' =>
              some (Nat.beq c c0 && Nat.beq i i0, ((((σ.map (dropPa r)).kill [k]).setRow r (.data f (xs.set i0 x'))).put o.dst undefAV))
          | _ => none
        | _ => none
      | _ => none
    else none
  | _, _, _ => none
def opNilCheck (o : Oper) (x : Operand) (σ : St) : Option (Bool × St) :=
  match σ.ev1 x with
  | some (.ptr r i c) => match σ.look r with
    | some (.data _ _) => σ.put1 o (.ptr r i c)
    | some (.box _ _) => σ.put1 o (.ptr r i c)
    | some (.hol _ _ _ _ _) => σ.put1 o (.ptr r i c)
    | _ => none
  | some (.spt f y c) => σ.put1 o (.spt f y c)
  | some (.clo g cs) => σ.put1 o (.clo g cs)
  | _ => none
def sameL (E : Env) : List Leaf → List Leaf → Option Bool
  | [], [] => some true
  | .int k a :: s, .int j b :: t => bif decide (k = j) then (sameL E s t).map fun e => (a == b && e) else none
  | .bool a :: s, .bool b :: t => (sameL E s t).map fun e => (a == b && e)
  | .str a :: s, .str b :: t => (sameL E s t).map fun e => (a.toList == b.toList && e)
  | _, _ => none
/-- plain cells of this kind -/
def kdMatch : Kd → List Leaf → Option (List Leaf)
  | .int k, .int j _ :: t => bif decide (j = k) then some t else none
  | .bool, .bool _ :: t => some t
  | .str, .str _ :: t => some t
  | .pair a b, ls => (kdMatch a ls).bind (kdMatch b)
  | _, _ => none
def kdIs (f : Kd) (ls : List Leaf) : Bool := match kdMatch f ls with
  | some [] => true
  | _ => false
def opBin (o : Oper) (op : BinOp) (t : Nat) (x y : Operand) (σ : St) : Option (Bool × St) :=
  match σ.ev x, σ.ev y with
  | some (.v (.one (.int k a))), some (.v (.one (.int j b))) =>
    match op with
    | .shl => some (decide (0 ≤ b), σ.put o.dst (.v (.one (.int k (k.wrap (a * 2 ^ min b.toNat k.bits))))))
    | .shr => some (decide (0 ≤ b), σ.put o.dst (.v (.one (.int k (a.fdiv (2 ^ min b.toNat k.bits))))))
    | _ => bif decide (k = j) then
      match op with
      | .add => σ.put1 o (.int k (k.wrap (a + b)))
      | .sub => σ.put1 o (.int k (k.wrap (a - b)))
      | .mul => σ.put1 o (.int k (k.wrap (a * b)))
      | .quo => some (!decide (b = 0), σ.put o.dst (.v (.one (.int k (k.wrap (a.tdiv b))))))
      | .rem => some (!decide (b = 0), σ.put o.dst (.v (.one (.int k (a.tmod b)))))
      | .and => σ.put1 o (.int k (k.wrap (BitVec.ofInt k.bits a &&& BitVec.ofInt k.bits b).toNat))
      | .or => σ.put1 o (.int k (k.wrap (BitVec.ofInt k.bits a ||| BitVec.ofInt k.bits b).toNat))
      | .xor => σ.put1 o (.int k (k.wrap (BitVec.ofInt k.bits a ^^^ BitVec.ofInt k.bits b).toNat))
      | .eql => σ.put1 o (.bool (a == b))
      | .neq => σ.put1 o (.bool (a != b))
      | .lss => σ.put1 o (.bool (decide (a < b)))
      | .leq => σ.put1 o (.bool (decide (a ≤ b)))
      | .gtr => σ.put1 o (.bool (decide (b < a)))
      | .geq => σ.put1 o (.bool (decide (b ≤ a)))
      | _ => none
    else none
  | some (.v (.one (.str a))), some (.v (.one (.str b))) =>
    match op with
    | .add => some (decide (a.size + b.size ≤ 9223372036854775807), σ.put o.dst (.v (.one (.str (a ++ b)))))
    | .eql => σ.put1 o (.bool (a.toList == b.toList))
    | .neq => σ.put1 o (.bool (!(a.toList == b.toList)))
    | .lss => σ.put1 o (.bool (Op.bytesLess a.toList b.toList))
    | .leq => σ.put1 o (.bool (Op.bytesLess a.toList b.toList || a.toList == b.toList))
    | .gtr => σ.put1 o (.bool (!(Op.bytesLess a.toList b.toList || a.toList == b.toList)))
    | .geq => σ.put1 o (.bool (!Op.bytesLess a.toList b.toList))
    | _ => none
  | some (.v (.one (.bool a))), some (.v (.one (.bool b))) =>
    bif E.isBool t then
      match op with
      | .eql => σ.put1 o (.bool (a == b))
      | .neq => σ.put1 o (.bool (!(a == b)))
      | _ => none
    else none
  | some (.v (.agg a)), some (.v (.agg b)) =>
    match E.ty t with
    | some i => bif memN t E.eqT && kdIs i.kd a && kdIs i.kd b then
      match op with
      | .eql => (sameL E a b).bind fun e => σ.put1 o (.bool e)
      | .neq => (sameL E a b).bind fun e => σ.put1 o (.bool (!e))
      | _ => none
      else none
    | none => none
  | _, _ => none
def opUn (o : Oper) (op : UnOp) (x : Operand) (σ : St) : Option (Bool × St) :=
  match op, σ.ev1 x with
  | .neg, some (.int k n) => σ.put1 o (.int k (k.wrap (0 - n)))
  | .not, some (.bool b) => σ.put1 o (.bool (!b))
  | _, _ => none
def opConvert (o : Oper) (src dst : Nat) (x : Operand) (σ : St) : Option (Bool × St) :=
  match E.pl src, E.pl dst, σ.ev1 x with
  | some i, some j, some l =>
    match i, j, l with
    | .int _, .int k, .int _ n => σ.put1 o (.int k (k.wrap n))
    | .str, .str, .str s => σ.put1 o (.str s)
    | .str, .sl (.int .u8), .str s => (σ.fresh o 0 (.int .u8) (s.data.toList.map fun b => (b.toNat : Int))).bind okS
    | .sl (.int .u8), .str, l => match roLeaf σ l with
      | some (.sh (.int .u8) xs) => σ.put1 o (.str (strOfNums xs))
      | _ => none
    | _, _, _ => none
  | _, _, _ => none
def opMakeFunc (o : Oper) (fn : Fn) (first captured : Array Operand) (σ : St) : Option (Bool × St) :=
  match fn, first.toList with
  | .func g, [] => (captured.toList.mapM fun x => match σ.ev1 x with
      | some (.ptr r 0 0) => match σ.look r with
        | some (.box _ _) => some (Cap.own r)
        | _ => none
      | _ => none).bind fun cs => σ.put1 o (.clo g cs)
  | _, _ => none
/-- an element's kind and bytes -/
def Env.el (t : Nat) : Option (Kd × Nat) := match E.elemKd t, E.ty t with
  | some f, some i => some (f, i.eb)
  | _, _ => none
/-- so many elements of so many bytes have room -/
def room (n bytes : Nat) : Bool := decide (n * bytes ≤ 140737488355328 ∧ n ≤ 140737488355328)
def opMakeSlice (o : Oper) (t : Nat) (len cap : Operand) (σ : St) : Option (Bool × St) :=
  match E.el t, σ.ev1 len, σ.ev1 cap with
  | some e, some (.int .i64 n), some (.int .i64 m) =>
    (σ.fresh o 0 e.1 (List.replicate n.toNat e.1.zero)).bind fun σ' => some (decide (n = m ∧ 0 ≤ n) && room n.toNat e.2, σ')
  | _, _, _ => none
/-- a bound of a slice expression: what is given, or the default -/
def bound (σ : St) (x : Option Operand) (d : Nat) : Option Int :=
  match x with
  | none => some (d : Int)
  | some x => match σ.ev1 x with
    | some (.int _ n) => some n
    | _ => none
/-- is f the kind of a slice type's elements? -/
def Env.isEl (t : Nat) (f : Kd) : Bool := match E.elemKd t with
  | some g => decide (g = f)
  | none => false
def opSlice (o : Oper) (t : Nat) (x : Operand) (lo hi mx : Option Operand) (σ : St) : Option (Bool × St) :=
  match mx, σ.ev1 x with
  | none, some (.str s) => bif E.isStr t then match bound σ lo 0, bound σ hi s.size with
    | some l, some h => some (decide (0 ≤ l ∧ l ≤ h ∧ h ≤ s.size), σ.put o.dst (.v (.one (.str (s.extract l.toNat h.toNat)))))
    | _, _ => none
    else none
  | none, some (.sh f xs) => bif E.isEl t f then match bound σ lo 0, bound σ hi xs.length with
    | some l, some h => some (decide (0 ≤ l ∧ l ≤ h ∧ h ≤ xs.length), σ.put o.dst (.v (.one (.sh f ((xs.take h.toNat).drop l.toNat)))))
    | _, _ => none
    else none
  | none, some (.ow r) => match σ.look r with
    | some (.data f xs) => bif E.isEl t f then match bound σ lo 0, bound σ hi xs.length with
      | some l, some h => some (decide (0 ≤ l ∧ l ≤ h ∧ h ≤ xs.length), σ.put o.dst (.v (.one (.sub r l.toNat (h.toNat - l.toNat)))))
      | _, _ => none
      else none
    | _ => none
  | none, some (.sub r off len) => match σ.look r with
    | some (.data f _) => bif E.isEl t f then match bound σ lo 0, bound σ hi len with
      | some l, some h => some (decide (0 ≤ l ∧ l ≤ h ∧ h ≤ len), σ.put o.dst (.v (.one (.sub r (off + l.toNat) (h.toNat - l.toNat)))))
      | _, _ => none
      else none
    | _ => none
  | _, _ => none
def opFieldAddr (o : Oper) (s : Nat) (x : Operand) (f : Nat) (σ : St) : Option (Bool × St) :=
  match E.ty s, σ.ev1 x with
  | some i, some l => (i.offs[f]?).bind fun d => match l with
    | .ptr r j c => match σ.look r with
      | some (.data _ _) => σ.put1 o (.ptr r j (c + d.1))
      | some (.box _ _) => σ.put1 o (.ptr r j (c + d.1))
      | some (.hol _ _ _ _ _) => σ.put1 o (.ptr r j (c + d.1))
      | _ => none
    | .spt g y c => σ.put1 o (.spt g y (c + d.1))
    | _ => none
  | _, _ => none
def inR (i : Int) (n : Nat) : Bool := decide (0 ≤ i ∧ i < n)
def opIndexAddr0 (o : Oper) (t : Nat) (x i : Operand) (σ : St) : Option (Bool × St) :=
  match σ.ev1 i, σ.ev1 x with
  | some (.int _ n), some (.sh f xs) => bif E.isEl t f then some (inR n xs.length, σ.put o.dst (.v (.one (.spt f (xs.getD n.toNat f.zero) 0)))) else none
  | some (.int _ n), some (.ow r) => match σ.look r with
    | some (.data f xs) => bif E.isEl t f then some (inR n xs.length, σ.put o.dst (.v (.one (.ptr r n.toNat 0)))) else none
    | some (.hol f xs _ _ _) => bif E.isEl t f then some (inR n xs.length, σ.put o.dst (.v (.one (.ptr r n.toNat 0)))) else none
    | _ => none
  | some (.int _ n), some (.sub r off len) => match σ.look r with
    | some (.data f _) => bif E.isEl t f then some (inR n len, σ.put o.dst (.v (.one (.ptr r (off + n.toNat) 0)))) else none
    | _ => none
  | _, _ => none
def bt (s : ByteArray) (i : Int) : Int := if h : i.toNat < s.size then ((s[i.toNat]'h).toNat : Int) else 0
def opIndex (o : Oper) (t : Nat) (x i : Operand) (σ : St) : Option (Bool × St) :=
  match σ.ev1 i, σ.ev1 x with
  | some (.int _ n), some (.str s) => bif E.isStr t then some (inR n s.size, σ.put o.dst (.v (.one (.int .u8 (bt s n))))) else none
  | _, _ => none
def opExtract (o : Oper) (x : Operand) (k : Nat) (σ : St) : Option (Bool × St) :=
  match σ.ev x with
  | some (.tup vs) => match vs[k]? with
    | some y => okS (σ.put o.dst (.v y))
    | none => none
  | _ => none
def opLen (o : Oper) (t : Nat) (x : Operand) (σ : St) : Option (Bool × St) :=
  match σ.ev1 x with
  | some (.str s) => bif E.isStr t then σ.put1 o (.int .i64 s.size) else none
  | some .nil => bif E.isSl t then σ.put1 o (.int .i64 0) else none
  | some (.sh _ xs) => bif E.isSl t then σ.put1 o (.int .i64 xs.length) else none
  | some (.ow r) => match σ.look r with
    | some (.data _ xs) => bif E.isSl t then σ.put1 o (.int .i64 xs.length) else none
    | _ => none
  | some (.sub r off len) => match σ.look r with
    | some (.data _ _) => bif E.isSl t then σ.put1 o (.int .i64 len) else none
    | _ => none
  | some (.pa r i c) => match σ.look r with
    | some (.data f xs) => match cellSl f (xs.getD i f.zero) c with
      | some p => bif E.isSl t then σ.put1 o (.int .i64 p.2.length) else none
      | none => none
    | _ => none
  | _ => none
/-- a slice in an element's cell gets a row of its own -/
def St.takePa (σ : St) (n r i c : Nat) : Option St := match σ.look r, σ.look n with
  | some (.data f xs), none => (cellSl f (xs.getD i f.zero) c).map fun p => (σ.setRow r (.hol f xs i c n)).setRow n (.data p.1 p.2)
  | _, _ => none
/-- what is appended: its elements, and the rows that are used up -/
def srcOf (deep : Bool) (σ : St) (f : Kd) : Leaf → Option (List f.T × List Nat)
  | .nil => some ([], [])
  | .str s => if h : f = .int .u8 then some (castL h.symm (s.data.toList.map fun b => (b.toNat : Int)), []) else none
  | .ow r => match σ.look r with
    | some (.data g xs) => if h : g = f then some (castL h xs, bif deep && !f.flat then [r] else []) else none
    | _ => none
  | l => match roLeaf σ l with
    | some (.sh g xs) => bif deep && !f.flat then none else if h : g = f then some (castL h xs, []) else none
    | _ => none
/-- an element of a row -/
def idxRow (o : Oper) (t r : Nat) (i : Operand) (σ : St) : Option (Bool × St) :=
  match σ.ev1 i, σ.look r with
  | some (.int _ n), some (.data f xs) => bif E.isEl t f then some (inR n xs.length, σ.put o.dst (.v (.one (.ptr r n.toNat 0)))) else none
  | _, _ => none
def opIndexAddr (deep : Bool) (o : Oper) (t : Nat) (x i : Operand) (σ : St) : Option (Bool × St) :=
  match σ.ev1 x with
  | some (.pa r j c) => bif deep then match σ.takePa (key o.dst 50) r j c with
      | some τ => idxRow E o t (key o.dst 50) i τ
      | none => none
    else none
  | _ => opIndexAddr0 E o t x i σ
def opAppend (deep : Bool) (o : Oper) (t u : Nat) (x y : Operand) (σ : St) : Option (Bool × St) :=
  bif E.isSl u || E.isStr u then match E.el t, σ.ev1 x, σ.ev1 y with
  | some e, some d, some s =>
    match d with
    | .nil => (srcOf deep σ e.1 s).bind fun q => bif distinct q.2 then ((σ.kill q.2).fresh o 0 e.1 q.1).bind fun σ' => some (room q.1.length e.2, σ') else none
    | .ow r => (srcOf deep σ e.1 s).bind fun q => match σ.look r with
      | some (.data g xs) => if h : g = e.1 then
          bif distinct (r :: q.2) then
            ((σ.kill (r :: q.2)).fresh o 0 e.1 (castL h xs ++ q.1)).bind fun σ' => some (room (xs.length + q.1.length) e.2, σ')
          else none
        else none
      | _ => none
    | .pa r i c => bif deep then match σ.takePa (key o.dst 50) r i c with
      | some τ => (srcOf deep τ e.1 s).bind fun q => match τ.look (key o.dst 50) with
        | some (.data g xs) => if h : g = e.1 then
            bif distinct (key o.dst 50 :: q.2) then
              ((τ.kill (key o.dst 50 :: q.2)).fresh o 0 e.1 (castL h xs ++ q.1)).bind fun σ' => some (room (xs.length + q.1.length) e.2, σ')
            else none
          else none
        | _ => none
      | none => none
      else none
    | _ => none
  | _, _, _ => none
  else none
def opMax (o : Oper) (x y : Operand) (σ : St) : Option (Bool × St) :=
  match σ.ev1 x, σ.ev1 y with
  | some (.int k a), some (.int _ b) => σ.put1 o (.int k (bif decide (a < b) then b else a))
  | _, _ => none

/-- a part of an own row of plain elements is set to nothing -/
def opClear (o : Oper) (t : Nat) (x : Operand) (σ : St) : Option (Bool × St) :=
  match E.el t, σ.ev1 x with
  | some e, some (.sub r off len) => match σ.look r with
    | some (.data f xs) => bif decide (e.1 = f) && f.flat then
        okS (((σ.map (dropPa r)).setRow r (.data f (xs.take off ++ List.replicate len f.zero ++ xs.drop (off + len)))).put o.dst undefAV)
      else none
    | _ => none
  | _, _ => none

/-- an operation that calls no Go function -/
def evalOp1 (deep : Bool) (o : Oper) (σ : St) : Option (Bool × St) :=
  match o.op with
  | .move x | .assign x => opMove E o x σ
  | .pick c a b => opPick o c a b σ
  | .alloc e => opAlloc E o e σ
  | .box e x => opBox E o e x σ
  | .build t ps => opBuild E o t ps σ
  | .buildSlice t n ps => opBuildSlice E deep o t n ps σ
  | .load t a => opLoad E deep o t a σ
  | .store t a v => opStore E deep o t a v σ
  | .nilCheck x => opNilCheck o x σ
  | .binOp op t x y _ => opBin E o op t x y σ
  | .unOp op _ x => opUn o op x σ
  | .convert s d x => opConvert E o s d x σ
  | .makeFunc fn a b => opMakeFunc o fn a b σ
  | .makeSlice t l c => opMakeSlice E o t l c σ
  | .slice t x lo hi mx => opSlice E o t x lo hi mx σ
  | .fieldAddr s x f => opFieldAddr E o s x f σ
  | .indexAddr t x i => opIndexAddr E deep o t x i σ
  | .index t x i => opIndex E o t x i σ
  | .extract x k => opExtract o x k σ
  | .call c => match c.callee, c.argTypes.toList, c.args.toList with
    | .builtin .len, t :: _, [x] => opLen E o t x σ
    | .builtin .append, t :: u :: _, [x, y] => opAppend E deep o t u x y σ
    | .builtin .max, _, [x, y] => opMax o x y σ
    | .builtin .clear, t :: _, [x] => opClear E o t x σ
    | _, _, _ => none
  | _ => none

/-! ### functions of the library that are told by contracts of their own -/
/-- slices.Delete of at least one element -/
def delF {α : Type} (xs : List α) (i j : Int) : Option (List α) := bif decide (0 ≤ i ∧ i < j ∧ j ≤ xs.length) then some (xs.take i.toNat ++ xs.drop j.toNat) else none
/-- slices.Insert of one element -/
def insF {α : Type} (eb : Nat) (xs : List α) (i : Int) (ys : List α) : Option (List α) := bif decide (ys.length = 1 ∧ 0 ≤ i ∧ i ≤ xs.length) && room (xs.length + 1) eb then some (xs.take i.toNat ++ ys ++ xs.drop i.toNat) else none
/-- slices.Sort of texts -/
def sortF (xs : List ByteArray) : Option (List ByteArray) := bif decide (xs.length < 4611686018427387904) then some (xs.mergeSort fun a b => !Op.bytesLess b.toList a.toList) else none

/-! ### calls -/
def argOf (deep : Bool) (σ : St) : Md → Operand → Option TV
  | .ro, x => (σ.evT x).bind (TV.mapM (roLeaf σ))
  | .give, x => (σ.evT x).bind (TV.mapM (odLeaf deep σ))
  | .io, x => (σ.evT x).bind (TV.mapM (ioLeaf deep σ))
  | .bx f, x => match σ.ev1 x with
    | some (.ptr r 0 0) => match σ.look r with
      | some (.box g ls) => bif decide (g = f) then (ls.mapM (odLeaf deep σ)).map TV.agg else none
      | _ => none
    | _ => none
def modeAt (ms : List Md) (i : Nat) : Md := ms.getD i .ro
def argsOf (deep : Bool) (σ : St) (ms : List Md) : Nat → List Operand → Option (List TV)
  | _, [] => some []
  | i, x :: xs => (argOf deep σ (modeAt ms i) x).bind fun y => (argsOf deep σ ms (i + 1) xs).bind fun ys => some (y :: ys)
/-- a row, and the rows that its cells name -/
def St.below (σ : St) (r : Nat) : List Nat := match σ.look r with
  | some row => r :: row.refs
  | none => [r]
/-- the rows that an argument hands over, and those that it names to be read -/
def ownRefs (σ : St) (ms : List Md) : Nat → List Operand → List Nat
  | _, [] => []
  | i, x :: xs => (match modeAt ms i, σ.ev x with
      | .give, some a => a.refs
      | .io, some a => a.refs
      | .bx _, some a => a.refs.flatMap σ.below
      | _, _ => []) ++ ownRefs σ ms (i + 1) xs
/-- of these, those that come back: a row, and the place in it -/
def ioPart : Leaf → List (Nat × Option (Nat × Nat))
  | .pa r i c => [(r, some (i, c))]
  | l => l.refs.map fun r => (r, none)
def ioRows (σ : St) (ms : List Md) : Nat → List Operand → List (Nat × Option (Nat × Nat))
  | _, [] => []
  | i, x :: xs => (match modeAt ms i, σ.ev x with
      | .io, some a => a.leaves.flatMap ioPart
      | .bx _, some a => a.refs.map fun r => (r, none)
      | _, _ => []) ++ ioRows σ ms (i + 1) xs
def roRefs (σ : St) (ms : List Md) : Nat → List Operand → List Nat
  | _, [] => []
  | i, x :: xs => (match modeAt ms i, σ.ev x with
      | .ro, some a => a.refs.flatMap σ.below
      | _, _ => []) ++ roRefs σ ms (i + 1) xs
def apartL (xs ys : List Nat) : Bool := xs.all fun x => !memN x ys
def hasSh : List Leaf → Bool
  | [] => false
  | .sh _ _ :: _ => true
  | _ :: t => hasSh t
/-- a row that is read alone from now on: its handles become what they tell -/
def frzLeaf (r : Nat) (f : Kd) (xs : List f.T) : Leaf → Leaf
  | .ow q => bif Nat.beq q r then .sh f xs else .ow q
  | .sub q off len => bif Nat.beq q r then .sh f ((xs.drop off).take len) else .sub q off len
  | .pa q i c => bif Nat.beq q r then .undef else .pa q i c
  | .ptr q i c => bif Nat.beq q r then .undef else .ptr q i c
  | l => l
def St.freeze (σ : St) : List Nat → Option St
  | [] => some σ
  | r :: rs => match σ.look r with
    | some (.data f xs) => ((σ.map (frzLeaf r f xs)).kill [r]).freeze rs
    | some .dead => σ.freeze rs
    | _ => none
/-- what a call returned, made the caller's own -/
def instLeaves (dst : Option Nat) : Nat → List Leaf → List Leaf × List (Nat × ARow)
  | _, [] => ([], [])
  | j, l :: t => match l with
    | .od f xs => ((.ow (key dst j)) :: (instLeaves dst (j + 1) t).1, (key dst j, .data f xs) :: (instLeaves dst (j + 1) t).2)
    | l => (l :: (instLeaves dst (j + 1) t).1, (instLeaves dst (j + 1) t).2)
def instTV (dst : Option Nat) (j : Nat) : TV → TV × List (Nat × ARow)
  | .one (.od f xs) => (.one (.ow (key dst j)), [(key dst j, .data f xs)])
  | .one l => (.one l, [])
  | .agg ls => (.agg (instLeaves dst j ls).1, (instLeaves dst j ls).2)
def instTVs (dst : Option Nat) : Nat → List TV → List TV × List (Nat × ARow)
  | _, [] => ([], [])
  | j, x :: t => ((instTV dst j x).1 :: (instTVs dst (j + x.leaves.length) t).1, (instTV dst j x).2 ++ (instTVs dst (j + x.leaves.length) t).2)
def instAV (dst : Option Nat) : AV → AV × List (Nat × ARow)
  | .v x => (.v (instTV dst 0 x).1, (instTV dst 0 x).2)
  | .tup vs => (.tup (instTVs dst 0 vs).1, (instTVs dst 0 vs).2)
def Env.sig (g : Nat) : Sig := (look g E.sgT).getD ⟨[], true, none, []⟩
def mkAV : List TV → AV
  | [x] => .v x
  | xs => .tup xs
/-- a row as it comes back: what it is, and new rows below it -/
def ioUp (σ : St) (dst : Option Nat) (j : Nat) (r : Nat × Option (Nat × Nat)) (y : TV) : Option (ARow × List (Nat × ARow)) :=
  match r.2 with
  | none => match σ.look r.1, y with
    | some (.data f _), .one (.od g xs) => bif decide (g = f) then some (.data g xs, []) else none
    | some (.box f _), .agg ls => bif Nat.beq ls.length f.size then some (.box f (instLeaves dst j ls).1, (instLeaves dst j ls).2) else none
    | _, _ => none
  | some ic => match σ.look r.1, y with
    | some (.data f xs), .one (.od g ys) => (putCell f (xs.getD ic.1 f.zero) ic.2 g ys).map fun x => (.data f (xs.set ic.1 x), [])
    | _, _ => none
def ioUps (σ : St) (dst : Option Nat) : Nat → List (Nat × Option (Nat × Nat)) → List TV → Option (List (Nat × ARow) × List (Nat × ARow))
  | _, [], [] => some ([], [])
  | j, r :: rs, y :: ys => (ioUp σ dst j r y).bind fun p => (ioUps σ dst (j + y.leaves.length) rs ys).bind fun q => some ((r.1, p.1) :: q.1, p.2 ++ q.2)
  | _, _, _ => none
def dropIo (σ : St) (r : Nat) : St := match σ.look r with
  | some (.data _ _) => σ.map (dropPa r)
  | _ => σ
def setUps (σ : St) (us : List (Nat × ARow)) : St := us.foldl (fun σ u => σ.setRow u.1 u.2) σ
def finIo (σ : St) (dst : Option Nat) (own : List Nat) (ios : List (Nat × Option (Nat × Nat))) (out : AV) : Option St := match out with
  | .v _ => none
  | .tup ys =>
    (ioUps σ dst ((ys.take (ys.length - ios.length)).flatMap TV.leaves).length ios (ys.drop (ys.length - ios.length))).bind fun q =>
    ((((ios.map (·.1)).foldl dropIo σ).kill own).addRows ((instTVs dst 0 (ys.take (ys.length - ios.length))).2 ++ q.2)).bind fun σ3 =>
    some ((setUps σ3 q.1).put dst (instAV dst (mkAV (ys.take (ys.length - ios.length)))).1)
/-- a pointer came back: a box of the caller's own -/
def finPtr (σ : St) (dst : Option Nat) (own : List Nat) (f : Kd) (out : AV) : Option St := match out with
  | .tup [.agg ls] => bif Nat.beq ls.length f.size then
      ((σ.kill own).addRows ((instLeaves dst 0 ls).2 ++ [(key dst 63, .box f (instLeaves dst 0 ls).1)])).bind fun σ2 => some (σ2.put dst (.v (.one (.ptr (key dst 63) 0 0))))
    else none
  | _ => none
def finCall (σ : St) (dst : Option Nat) (ro own : List Nat) (ios : List (Nat × Option (Nat × Nat))) (rb : Option Kd) (out : AV) : Option St :=
  (bif hasSh out.leaves then σ.freeze ro else some σ).bind fun σ1 => match rb with
    | some f => match ios with
      | [] => finPtr σ1 dst own f out
      | _ => none
    | none => match ios with
      | [] => ((σ1.kill own).addRows (instAV dst out).2).bind fun σ2 => some (σ2.put dst (instAV dst out).1)
      | ios => finIo σ1 dst own ios out
/-- a call of function g with these operands, captured variables behind them -/
def callG {R : Type} (C : CF) (deep : Bool) (dst : Option Nat) (g : Nat) (xs : List Operand) (more : List TV) (σ : St) (κ : St → Option R) : Option R :=
  match argsOf deep σ (E.sig g).modes 0 xs with
  | some as =>
    bif distinct (ownRefs σ (E.sig g).modes 0 xs) && apartL (roRefs σ (E.sig g).modes 0 xs) (ownRefs σ (E.sig g).modes 0 xs) && Nat.ble (E.sig g).modes.length xs.length then
      C R g (as ++ more) fun out => match finCall σ dst (roRefs σ (E.sig g).modes 0 xs) (ownRefs σ (E.sig g).modes 0 xs) (ioRows σ (E.sig g).modes 0 xs) (E.sig g).rbx out with
        | some σ' => κ σ'
        | none => none
    else none
  | none => none
/-! ### a slice in an element's cell gets a row of its own, and goes back -/
def takeT (deep : Bool) (n : Nat) (σ : St) (x : Operand) : St := match x with
  | .tmp t => match σ.slots.getD t undefAV with
    | .v (.one (.pa r i c)) => bif deep then match σ.takePa n r i c with
        | some τ => τ.put (some t) (.v (.one (.ow n)))
        | none => σ
      else σ
    | _ => σ
  | _ => σ
/-- of each argument that is given -/
def takeArgs (deep : Bool) (dst : Option Nat) (ms : List Md) : Nat → List Operand → St → St
  | _, [], σ => σ
  | i, x :: xs, σ => takeArgs deep dst ms (i + 1) xs (match modeAt ms i with
    | .give => takeT deep (key dst (50 + i)) σ x
    | _ => σ)
def preOp (deep : Bool) (o : Oper) (σ : St) : St := match o.op with
  | .call c => match c.callee with
    | .value x => match σ.ev1 x with
      | some (.clo g _) => takeArgs deep o.dst (E.sig g).modes 0 c.args.toList σ
      | _ => σ
    | _ => σ
  | _ => σ
def findHole (n : Nat) : List (Nat × ARow) → Option Nat
  | [] => none
  | (r, .hol _ _ _ _ m) :: t => bif Nat.beq m n then some r else findHole n t
  | _ :: t => findHole n t
/-- the row n goes back to its cell -/
def St.close1 (σ : St) (n : Nat) : Option (Nat × St) := (findHole n σ.rows).bind fun r => match σ.look r, σ.look n with
  | some (.hol f xs i c m), some (.data g ys) => bif Nat.beq m n then (putCell f (xs.getD i f.zero) c g ys).map fun x => (r, ((σ.map (dropPa r)).kill [n]).setRow r (.data f (xs.set i x))) else none
  | _, _ => none
def closeUp : Nat → Nat → St → St
  | 0, _, σ => σ
  | k + 1, n, σ => match σ.close1 n with
    | some q => closeUp k q.1 q.2
    | none => σ
/-- behind a store through an address -/
def postOp (o : Oper) (σ τ : St) : St := match o.op with
  | .store _ a _ => match σ.ev1 a with
    | some (.ptr n _ _) => match σ.look n with
      | some (.box _ _) => τ
      | _ => closeUp 4 n τ
    | _ => τ
  | _ => τ
/-- nothing is taken out of its cell -/
def noPaT (σ : St) (x : Operand) : Bool := match σ.ev1 x with
  | some (.pa _ _ _) => false
  | _ => true
def noPaArgs (ms : List Md) (σ : St) : Nat → List Operand → Bool
  | _, [] => true
  | i, x :: xs => (match modeAt ms i with
    | .give => noPaT σ x
    | _ => true) && noPaArgs ms σ (i + 1) xs
def noPre (o : Oper) (σ : St) : Bool := match o.op with
  | .call c => match c.callee with
    | .value x => match σ.ev1 x with
      | some (.clo g _) => noPaArgs (E.sig g).modes σ 0 c.args.toList
      | _ => true
    | _ => true
  | _ => true
def capArg : Cap → Option TV
  | .sh f x => some (.one (.spt f x 0))
  | .own _ => none
def evalCall {R : Type} (C : CF) (deep : Bool) (o : Oper) (c : Call) (σ : St) (κ : St → Option R) : Option R :=
  match c.callee with
  | .value x => match σ.ev1 x with
    | some (.clo g cs) => match cs.mapM capArg with
      | some more => callG E C deep o.dst g c.args.toList more σ κ
      | none => none
    | _ => none
  | _ => none
def isGoCall : Oper → Option Call
  | { op := .call { callee := .value x, args, argTypes }, .. } => some { callee := .value x, args, argTypes }
  | _ => none
/-- one operation, its guard not asked -/
def evalOp {R : Type} (C : CF) (deep : Bool) (o : Oper) (σ : St) (κ : St → Option R) : Option R :=
  match isGoCall o with
  | some c => evalCall E C deep o c (preOp E deep o σ) κ
  | none => match evalOp1 E deep o (preOp E deep o σ) with
    | some (c, σ') => bif c then κ (postOp o σ σ') else none
    | none => none
def guardTmp (ops : Array Oper) (o : Oper) : Option (Option Nat × Bool) :=
  match o.guard with
  | none => none
  | some (j, want) => some ((ops[j]?).bind (·.dst), want)
def evalStep {R : Type} (C : CF) (deep : Bool) (ops : Array Oper) (o : Oper) (σ : St) (κ : St → Option R) : Option R :=
  match guardTmp ops o with
  | none => evalOp E C deep o σ κ
  | some (none, _) => none
  | some (some d, want) => match σ.slots.getD d undefAV with
    | .v (.one (.bool b)) =>
      bif b then (bif want then evalOp E C deep o (σ.put (some d) (.v (.one (.bool true)))) κ else κ ((σ.put (some d) (.v (.one (.bool true)))).put o.dst skipAV))
      else (bif want then κ ((σ.put (some d) (.v (.one (.bool false)))).put o.dst skipAV) else evalOp E C deep o (σ.put (some d) (.v (.one (.bool false)))) κ)
    | .tup [] => κ (σ.put o.dst skipAV)
    | _ => none
def evalOps {R : Type} (C : CF) (deep : Bool) (ops : Array Oper) : List Oper → St → (St → Option R) → Option R
  | [], σ, κ => κ σ
  | o :: t, σ, κ => evalStep E C deep ops o σ fun σ' => evalOps C deep ops t σ' κ

/-! ### regions whose order is open -/
def tmpsOf (o : Oper) : List Nat := o.op.operands.toList.filterMap fun | .tmp t => some t | _ => none
/-- the rows that an operation may look at -/
def quietMove (o : Oper) : Bool := match o.op with
  | .move _ | .assign _ | .extract .. | .pick .. => true
  | _ => false
/-- those that look at the rows that they name, and not below -/
def lightOp (o : Oper) : Bool := match o.op with
  | .load .. | .store .. | .nilCheck _ | .fieldAddr .. | .indexAddr .. | .slice .. | .buildSlice .. => true
  | _ => false
def rdOf (o : Oper) (σ : St) : List Nat := bif quietMove o then [] else bif lightOp o then (tmpsOf o).flatMap fun t => (σ.slots.getD t undefAV).refs else (tmpsOf o).flatMap fun t => (σ.slots.getD t undefAV).refs.flatMap σ.below
/-- those that it may use up or write -/
def consOf (o : Oper) (σ : St) : List Nat :=
  match o.op with
  | .buildSlice .. | .store .. => (tmpsOf o).flatMap fun t => (σ.slots.getD t undefAV).refs
  | .indexAddr _ x _ => match σ.ev1 x with
    | some (.pa r _ _) => [r]
    | _ => []
  | .call c => match c.callee with
    | .builtin .append => match c.args.toList with
      | [x, y] => (match σ.ev1 x with
        | some l => l.refs
        | none => []) ++ (match σ.ev1 y with
        | some (.ow r) => [r]
        | _ => [])
      | _ => []
    | .value x => match σ.ev1 x with
      | some (.clo g _) => ownRefs σ (E.sig g).modes 0 c.args.toList
      | _ => []
    | _ => []
  | _ => []
def newOf (σ σ' : St) : List Nat := (σ'.rows.map (·.1)).filter fun r => match σ.look r with
  | none => true
  | some _ => false
def tchOf (o : Oper) (σ σ' : St) : List Nat := consOf E o σ ++ newOf σ σ'
/-- a row that is a box -/
def isBox (σ : St) (r : Nat) : Bool := match σ.look r with
  | some (.box _ _) => true
  | _ => false
/-- what may stand in such a region -/
def mayDraw0 (o : Oper) (σ σ' : St) : Bool :=
  match o.op with
  | .move _ | .assign _ | .pick .. | .load .. | .nilCheck _ | .binOp .. | .unOp .. | .convert .. | .slice .. | .fieldAddr .. | .indexAddr .. | .index .. | .extract .. | .build .. | .buildSlice .. | .alloc _ => true
  | .store _ a _ => match σ.ev1 a with
    | some (.ptr r _ _) => match σ.look r with
      | some (.box _ _) => true
      | _ => false
    | _ => false
  | .call c => match c.callee with
    | .builtin .len | .builtin .append | .builtin .max => true
    | .value x => match σ.ev1 x, o.dst with
      | some (.clo g _), some d => Nat.blt d σ.slots.length && ((match roRefs σ (E.sig g).modes 0 c.args.toList with
        | [] => true
        | _ => false) || (!hasSh (σ'.slots.getD d undefAV).leaves && (ioRows σ (E.sig g).modes 0 c.args.toList).isEmpty)) &&
        (ioRows σ (E.sig g).modes 0 c.args.toList).all (fun r => isBox σ r.1) && (E.sig g).rbx.isNone
      | _, _ => false
    | _ => false
  | _ => false
def mayDraw (o : Oper) (σ σ' : St) : Bool := noPre E o σ && mayDraw0 E o σ σ'
def bindsB (e : Edge) : Bool := Region.binds .any e
/-- of each operation all those that come before it, as bits -/
def befores : List Oper → List Nat → List Nat
  | [], acc => acc
  | o :: t, acc => befores t (acc ++ [o.after.toList.foldl (fun s e => bif bindsB e then s ||| 2 ^ e.on ||| acc.getD e.on 0 else s) 0])
/-- all that it waits for stands ahead of it in the list -/
def aheadB : Nat → List Oper → Bool
  | _, [] => true
  | k, o :: t => o.after.toList.all (fun e => !bindsB e || Nat.blt e.on k) && aheadB (k + 1) t
def keys3 (d : Option Nat) : List Nat := [key d 0, key d 32, key d 34]
/-- two operations that know nothing of each other -/
def pairB (ops : Array Oper) (x y : Oper) (p q : List Nat × List Nat) : Bool :=
  x.apart ops y && apartL p.1 q.2 && apartL q.1 p.2 && apartL p.2 q.2 && apartL (keys3 x.dst) q.2 && apartL (keys3 y.dst) p.2
def rowB (ops : Array Oper) (k : Nat) (x : Oper) (p : List Nat × List Nat) : List Oper → List Nat → List (List Nat × List Nat) → Bool
  | y :: ys, b :: bs, q :: qs => (b.testBit k || pairB ops x y p q) && rowB ops k x p ys bs qs
  | [], [], [] => true
  | _, _, _ => false
def pairsB (ops : Array Oper) : Nat → List Oper → List Nat → List (List Nat × List Nat) → Bool
  | k, x :: xs, _ :: bs, p :: ps => rowB ops k x p xs bs ps && pairsB ops (k + 1) xs bs ps
  | _, [], [], [] => true
  | _, _, _, _ => false
/-- from place k on each waits for all that stand ahead of it -/
def fullAll : Nat → List Nat → Bool
  | _, [] => true
  | k, b :: t => Nat.beq b (2 ^ k - 1) && fullAll (k + 1) t
/-- how many stand ahead of that part -/
def openLen : Nat → List Nat → Nat
  | _, [] => 0
  | k, b :: t => bif fullAll k (b :: t) then 0 else openLen (k + 1) t + 1
def drawB (ops : Array Oper) (m : Nat) (fs : List (List Nat × List Nat)) : Bool :=
  Region.noSelect ops && aheadB 0 ops.toList && pairsB ops 0 (ops.toList.take m) ((befores ops.toList []).take m) fs && fullAll m ((befores ops.toList []).drop m)
def evalDraw {R : Type} (C : CF) (deep : Bool) (ops : Array Oper) (m : Nat) : List Oper → List (List Nat × List Nat) → St → (St → Option R) → Option R
  | [], fs, σ, κ => bif drawB ops m fs then κ σ else none
  | o :: t, fs, σ, κ => evalStep E C deep ops o σ fun σ' => bif mayDraw E o σ σ' then evalDraw C deep ops m t (fs ++ [(rdOf o σ, tchOf E o σ σ')]) σ' κ else none
/-- a region whose order is open up to a place, and behind it only one -/
def evalOpen {R : Type} (C : CF) (deep : Bool) (ops : Array Oper) (m : Nat) (σ : St) (κ : St → Option R) : Option R :=
  evalDraw E C deep ops m (ops.toList.take m) [] σ fun σ' => evalOps E C deep ops (ops.toList.drop m) σ' κ

/-! ### code -/
inductive Ex where
  | normal | exit (id : Nat) | ret
def keepAV (rows : List Nat) (a : AV) : Option AV := bif a.refs.all (memN · rows) then some a else none
def cleanSlots (mask : Nat) (rows : List Nat) : Nat → List AV → Option (List AV)
  | _, [] => some []
  | i, a :: t => bif mask.testBit i then (keepAV rows a).bind fun a => (cleanSlots mask rows (i + 1) t).bind fun t => some (a :: t)
    else (cleanSlots mask rows (i + 1) t).bind fun t => some (undefAV :: t)
def cleanRows (rows : List Nat) : List (Nat × ARow) → Option (List (Nat × ARow))
  | [] => some []
  | (r, row) :: t => bif memN r rows then
      bif row.refs.all (memN · rows) && !row.isHol then (cleanRows rows t).bind fun t => some ((r, row) :: t) else none
    else cleanRows rows t
/-- rows numbered anew -/
def renN (ren : List (Nat × Nat)) (r : Nat) : Nat := (look r ren).getD 0
def renCap (ren : List (Nat × Nat)) : Cap → Cap
  | .own r => .own (renN ren r)
  | .sh f x => .sh f x
def renLeaf (ren : List (Nat × Nat)) : Leaf → Leaf
  | .ow r => .ow (renN ren r)
  | .sub r o n => .sub (renN ren r) o n
  | .pa r i c => .pa (renN ren r) i c
  | .ptr r i c => .ptr (renN ren r) i c
  | .clo g caps => .clo g (caps.map (renCap ren))
  | l => l
def renRows (ren : List (Nat × Nat)) (σ : St) : List (Nat × Nat) → List (Nat × ARow)
  | [] => []
  | (r, n) :: t => match σ.look r with
    | some row => insRow n (row.map (renLeaf ren)) (renRows ren σ t)
    | none => renRows ren σ t
def addRefs (n : Nat) : List Nat → List (Nat × Nat) → List (Nat × Nat)
  | [], acc => acc
  | r :: t, acc => match look r acc with
    | some _ => addRefs n t acc
    | none => addRefs (n + 1) t (acc ++ [(r, n)])
def renSlots (mask : Nat) : Nat → List AV → List (Nat × Nat) → List (Nat × Nat)
  | _, [], acc => acc
  | i, a :: t, acc => bif mask.testBit i then renSlots mask (i + 1) t (addRefs (i * 64 + 40) a.refs acc) else renSlots mask (i + 1) t acc
def renBoxes (σ : St) : List (Nat × Nat) → List (Nat × Nat) → List (Nat × Nat)
  | [], acc => acc
  | (r, n) :: t, acc => match σ.look r with
    | some row => renBoxes σ t (addRefs (n + 8) row.refs acc)
    | none => renBoxes σ t acc
/-- at a loop's head: what is no longer asked goes -/
def St.clean0 (k : Keep) (σ : St) : Option St :=
  bif σ.pins.all (fun l => l.refs.all (memN · k.rows)) then
    (cleanSlots k.mask k.rows 0 σ.slots).bind fun ss => (cleanRows k.rows σ.rows).bind fun rs => some { slots := ss, rows := rs, pins := σ.pins }
  else none
def St.renTop (σ : St) (mask : Nat) : List (Nat × Nat) := addRefs 1 (σ.pins.flatMap Leaf.refs) (renSlots mask 0 σ.slots [])
def St.renOf (σ : St) (mask : Nat) : List (Nat × Nat) := renBoxes σ (σ.renTop mask) (σ.renTop mask)
/-- the rows that a slot names, or the box behind it -/
def frzL (σ : St) : Leaf → List Nat
  | .ow r => match σ.look r with
    | some (.data _ _) => [r]
    | _ => []
  | _ => []
def frzB (σ : St) : Leaf → List Nat
  | .ptr r _ _ => match σ.look r with
    | some (.box _ ls) => ls.flatMap (frzL σ)
    | _ => []
  | l => frzL σ l
def frzOf (σ : St) (ss : List Nat) : List Nat := ss.flatMap fun i => (σ.slots.getD i undefAV).leaves.flatMap (frzB σ)
/-- the rows are numbered by the slots that name them; those of the slots k.rows are only read from now on -/
def St.clean (k : Keep) (σ : St) : Option St := (σ.freeze (frzOf σ k.rows)).bind fun σ =>
  bif distinct ((σ.renOf k.mask).map (·.1)) && distinct ((σ.renOf k.mask).map (·.2)) then
    (σ.clean0 ⟨k.mask, (σ.renOf k.mask).map (·.1)⟩).bind fun τ => some { slots := τ.slots.map (AV.map (renLeaf (σ.renOf k.mask))), rows := renRows (σ.renOf k.mask) τ (σ.renOf k.mask), pins := τ.pins.map (renLeaf (σ.renOf k.mask)) }
  else none
def firstRegion : Code → Option Nat
  | .region id _ _ => some id
  | .seq a b => match firstRegion a with
    | some i => some i
    | none => firstRegion b
  | .cond _ a b => match firstRegion a with
    | some i => some i
    | none => firstRegion b
  | .block _ a | .loop a | .scope a => firstRegion a
  | _ => none
/-- where a part of a code stands: the way from the root, its last step first -/
inductive Dir where
  | l | r | t | f | b | p
def Dir.same : Dir → Dir → Bool
  | .l, .l | .r, .r | .t, .t | .f, .f | .b, .b | .p, .p => true
  | _, _ => false
def samePath : List Dir → List Dir → Bool
  | [], [] => true
  | a :: s, b :: t => bif a.same b then samePath s t else false
  | _, _ => false
/-- what the loops come to: by the place, by how many turns are left to the loop and to those around it, at a state of its head -/
abbrev Orc (R : Type) := List Dir → List Nat → St → Option R
abbrev Tab (R : Type) := List (List Dir × (List Nat → St → Option R))
def lookP {α : Type} (p : List Dir) : List (List Dir × α) → Option α
  | [] => none
  | (q, v) :: t => bif samePath q p then some v else lookP p t
def orcOf {R : Type} (T : Tab R) : Orc R := fun p js σ => match lookP p T with
  | some w => w js σ
  | none => none
def cSeq {R : Type} (f : St → (Ex → St → Option R) → Option R) (κ : Ex → St → Option R) : Ex → St → Option R := fun e σ' => match e with
  | .normal => f σ' κ
  | e => κ e σ'
def cBlock {R : Type} (id : Nat) (κ : Ex → St → Option R) : Ex → St → Option R := fun e σ' => match e with
  | .exit j => bif Nat.beq j id then κ .normal σ' else κ (.exit j) σ'
  | e => κ e σ'
def cLoop {R : Type} (k : Keep) (f : St → Option R) (κ : Ex → St → Option R) : Ex → St → Option R := fun e σ' => match e with
  | .normal => match σ'.clean k with
    | some σ'' => f σ''
    | none => none
  | e => κ e σ'
/-- the keeps of the loops of one function -/
def keepOf (ks : List (Nat × Keep)) (body : Code) : Keep := ((firstRegion body).bind fun i => look i ks).getD ⟨0, []⟩
/-- the keep at a join: where the second part of two is asked of the oracle -/
def cutOf (ks : List (Nat × Keep)) (b : Code) : Option Keep := match b with
  | .loop _ => none
  | b => match ks with
    | [] => none
    | ks => (firstRegion b).bind fun i => look (i + 1000000) ks
/-- a join behind which rows share their parts -/
def isSoft (ks : List (Nat × Keep)) (b : Code) : Bool := match cutOf ks b, firstRegion b with
  | some _, some i => match look (i + 2000000) ks with
    | some _ => true
    | none => false
  | _, _ => false
/-- the part of a code at a way of second parts -/
def codeR (c : Code) : List Dir → Option Code
  | [] => some c
  | .r :: p => match codeR c p with
    | some (.seq _ b) => some b
    | _ => none
  | _ => none
/-- a place behind such a join -/
def flatAt (ks : List (Nat × Keep)) (c : Code) : List Dir → Bool
  | [] => false
  | .r :: p => flatAt ks c p || (match codeR c (.r :: p) with
    | some y => isSoft ks y
    | none => false)
  | _ :: p => flatAt ks c p
def cThen {R : Type} (o : Option Keep) (f : St → Option R) (g : St → (Ex → St → Option R) → Option R) (κ : Ex → St → Option R) : Ex → St → Option R := match o with
  | some k => cLoop k f κ
  | none => cSeq g κ
section
variable {R : Type} (C : CF) (deep : Bool) (ks : List (Nat × Keep)) (n : Nat) (W : Orc R)
/-- a code, up to the loops' heads: what a loop comes to is asked of W -/
def evalCode : Code → List Nat → List Dir → St → (Ex → St → Option R) → Option R
  | .skip, _, _, σ, κ => κ .normal σ
  | .label _, _, _, σ, κ => κ .normal σ
  | .region _ ops draw, _, _, σ, κ => bif draw then evalOpen E C deep ops (openLen 0 (befores ops.toList [])) σ fun σ' => κ .normal σ' else evalOps E C deep ops ops.toList σ fun σ' => κ .normal σ'
  | .seq a b, js, p, σ, κ => evalCode a js (.l :: p) σ (cThen (cutOf ks b) (W (.r :: p) (1 :: js)) (evalCode b js (.r :: p)) κ)
  | .cond c x y, js, p, σ, κ => match c with
    | .tmp t => match σ.slots.getD t undefAV with
      | .v (.one (.bool b)) => bif b then evalCode x js (.t :: p) (σ.put (some t) (.v (.one (.bool true)))) κ else evalCode y js (.f :: p) (σ.put (some t) (.v (.one (.bool false)))) κ
      | _ => none
    | .const (.bool b) => bif b then evalCode x js (.t :: p) σ κ else evalCode y js (.f :: p) σ κ
    | _ => none
  | .block id body, js, p, σ, κ => evalCode body js (.b :: p) σ (cBlock id κ)
  | .loop body, js, p, σ, _ => match σ.clean (keepOf ks body) with
    | some σ => W p (n :: js) σ
    | none => none
  | .exit id, _, _, σ, κ => κ (.exit id) σ
  | .ret, _, _, σ, κ => κ .ret σ
  | _, _, _, _, _ => none
/-- a part of a code with what follows it -/
def partAt (c : Code) (κ : Ex → St → Option R) : List Dir → List Nat → Option (Code × (Ex → St → Option R))
  | [], [] => some (c, κ)
  | .l :: p, js => match partAt c κ p js with
    | some (.seq a b, κ) => some (a, cThen (cutOf ks b) (W (.r :: p) (1 :: js)) (evalCode E C deep ks n W b js (.r :: p)) κ)
    | _ => none
  | .r :: p, js => match partAt c κ p js with
    | some (.seq _ b, κ) => some (b, κ)
    | _ => none
  | .t :: p, js => match partAt c κ p js with
    | some (.cond _ x _, κ) => some (x, κ)
    | _ => none
  | .f :: p, js => match partAt c κ p js with
    | some (.cond _ _ y, κ) => some (y, κ)
    | _ => none
  | .b :: p, js => match partAt c κ p js with
    | some (.block id body, κ) => some (body, cBlock id κ)
    | _ => none
  | .p :: p, j :: js => match partAt c κ p js with
    | some (.loop body, κ) => some (body, cLoop (keepOf ks body) (W p (j :: js)) κ)
    | _ => none
  | _, _ => none
/-- one turn of the loop at p -/
def turnAt (c : Code) (κ : Ex → St → Option R) (p : List Dir) (js : List Nat) (j : Nat) (σ : St) : Option R := match partAt E C deep ks n W c κ p js with
  | some (.loop body, κ) => evalCode E C deep ks n W body (j :: js) (.p :: p) σ (cLoop (keepOf ks body) (W p (j :: js)) κ)
  | some (b, κ) => evalCode E C deep ks n W b js p σ κ
  | none => none
end

/-! ### functions -/
/-- a function's arguments in its first frame -/
def entArg (md : Md) (p : Nat) (x : TV) : TV × List (Nat × ARow) := match md with
  | .bx f => (.one (.ptr (key (some p) 63) 0 0), (key (some p) 63, .box f (instLeaves (some p) 0 x.leaves).1) :: (instLeaves (some p) 0 x.leaves).2)
  | _ => instTV (some p) 0 x
def entPin (md : Md) (p : Nat) (x : TV) : List Leaf := match md with
  | .bx _ => [.ptr (key (some p) 63) 0 0]
  | .io => (instLeaves (some p) 0 x.leaves).1.filter fun | .ow _ => true | _ => false
  | _ => []
def entArgs (ms : List Md) : Nat → List TV → List AV × List (Nat × ARow)
  | _, [] => ([], [])
  | p, x :: t => (.v (entArg (modeAt ms p) p x).1 :: (entArgs ms (p + 1) t).1, (entArg (modeAt ms p) p x).2 ++ (entArgs ms (p + 1) t).2)
def entPins (ms : List Md) : Nat → List TV → List Leaf
  | _, [] => []
  | p, x :: t => entPin (modeAt ms p) p x ++ entPins ms (p + 1) t
def entry (ms : List Md) (ntmps : Nat) (args : List TV) : Option St :=
  bif !args.all (fun x => Nat.ble x.leaves.length 63) then none else ({ slots := (entArgs ms 0 args).1 ++ List.replicate (ntmps - args.length) undefAV, rows := [], pins := entPins ms 0 args } : St).addRows (entArgs ms 0 args).2
def resTV (deep : Bool) (σ : St) : ResultVar → Option TV
  | .tmp t => σ.evT (.tmp t)
  | .cell a t => (loadT E deep t (.tmp a) σ).bind fun x => match x with
    | .one .undef => none
    | x => some x
/-- the rows that are handed back with their memory -/
def backRefs (deep : Bool) (σ : St) : List Leaf → List Nat
  | [] => []
  | .ow r :: t => (match σ.look r with
      | some (.data f _) => bif deep || f.flat then [r] else []
      | _ => []) ++ backRefs deep σ t
  | .sub r off _ :: t => (match σ.look r with
      | some (.data f _) => bif (deep || f.flat) && Nat.beq off 0 then [r] else []
      | _ => []) ++ backRefs deep σ t
  | _ :: t => backRefs deep σ t
/-- what is handed back: a row of the call's own as the caller's -/
def retLeaf (deep : Bool) (back : List Nat) (σ : St) : Leaf → Option Leaf
  | .ow r => match σ.look r with
    | some (.data f xs) => bif deep || f.flat then some (.od f xs) else some (.sh f xs)
    | _ => none
  | .sub r off len => match σ.look r with
    | some (.data f xs) => bif (deep || f.flat) && Nat.beq off 0 then some (.od f (xs.take len)) else bif memN r back then none else roLeaf σ (.sub r off len)
    | _ => none
  | .int k n => some (.int k n)
  | .bool b => some (.bool b)
  | .str s => some (.str s)
  | .sh f xs => some (.sh f xs)
  | _ => none
/-- what an in-out argument holds at the end -/
def pinTV (σ : St) : Leaf → Option TV
  | .ow r => match σ.look r with
    | some (.data _ _) => some (.one (.ow r))
    | _ => none
  | .ptr r 0 0 => match σ.look r with
    | some (.box _ ls) => some (.agg ls)
    | _ => none
  | _ => none
def pinBoxes : List Leaf → List Nat
  | [] => []
  | .ptr r _ _ :: t => r :: pinBoxes t
  | _ :: t => pinBoxes t
def retOf (deep : Bool) (fn : Func) (σ : St) : Option AV :=
  (fn.results.toList.mapM (resTV E deep σ)).bind fun rs =>
  (σ.pins.mapM (pinTV σ)).bind fun ps =>
  bif distinct (backRefs deep σ ((rs ++ ps).flatMap TV.leaves)) && distinct (pinBoxes σ.pins) then
    ((rs ++ ps).mapM (TV.mapM (retLeaf deep (backRefs deep σ ((rs ++ ps).flatMap TV.leaves)) σ))).bind fun ys => some (match σ.pins with
      | [] => mkAV ys
      | _ => .tup ys)
  else none
/-- a pointer to a box of the call's own is handed back -/
def retPtr (deep : Bool) (f : Kd) (fn : Func) (σ : St) : Option AV :=
  (fn.results.toList.mapM (resTV E deep σ)).bind fun rs => match rs, σ.pins with
    | [.one (.ptr r 0 0)], [] => match σ.look r with
      | some (.box g ls) => bif decide (g = f) && distinct (backRefs deep σ ls) then (ls.mapM (retLeaf deep (backRefs deep σ ls) σ)).map fun ms => .tup [.agg ms] else none
      | _ => none
    | _, _ => none
/-- the rows of an answer that are handed back to be read only -/
def softRows (deep : Bool) (fn : Func) (σ : St) (ss : List Nat) : List Nat := match fn.results.toList.mapM (resTV E deep σ) with
  | some rs => ss.flatMap fun j => match (rs.flatMap TV.leaves)[j]? with
    | some l => frzL σ l
    | none => []
  | none => []
/-- the end of a function, its answer typed -/
def finU {T : Type} (deep : Bool) (rb : Option Kd) (soft : List Nat) (fn : Func) (U : AV → Option T) : Ex → St → Option T := fun e σ => match e with
  | .ret | .normal => (match rb with
    | none => (σ.freeze (softRows E deep fn σ soft)).bind fun σ => retOf E deep fn σ
    | some f => retPtr E deep f fn σ).bind U
  | _ => none
def evalBodyU {T : Type} (C : CF) (n : Nat) (g : Nat) (W : Tab T) (args : List TV) (U : AV → Option T) : Option T :=
  match look g E.fnT with
  | some fn => match fn.body with
    | some c => match entry (E.sig g).modes fn.ntmps args with
      | some σ => evalCode E C (E.sig g).deep ((look g E.kpT).getD []) n (orcOf W) c [] [] σ (finU E (E.sig g).deep (E.sig g).rbx (E.sig g).soft fn U)
      | none => none
    | none => none
  | none => none
def turnU {T : Type} (C : CF) (n : Nat) (g : Nat) (W : Tab T) (U : AV → Option T) (p : List Dir) (js : List Nat) (j : Nat) (σ : St) : Option T :=
  match look g E.fnT with
  | some fn => match fn.body with
    | some c => match flatAt ((look g E.kpT).getD []) c p with
      | false => turnAt E C (E.sig g).deep ((look g E.kpT).getD []) n (orcOf W) c (finU E (E.sig g).deep (E.sig g).rbx (E.sig g).soft fn U) p js j σ
      | true => turnAt E C false ((look g E.kpT).getD []) n (orcOf W) c (finU E false (E.sig g).rbx (E.sig g).soft fn U) p js j σ
    | none => none
  | none => none
end
end Go.Proofs.Ytalmhjlcjcnidaa.Ev
