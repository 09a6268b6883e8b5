/- A big-step evaluator over typed trees for the programs of the model: what a Go function computes, told C1t memory. Definitions alone. -/
import Derived.WalkKit
import Derived.Below
import Derived.Orders
set_option linter.all false
namespace Go.Proofs.Ytalmhjlcjcnidaa.Ev
theorem oB {α β:Type}{x:Option α}{f:α→Option β}{b:β}(h:x.bind f=some b):∃a,x=some a∧f a=some b:=Option.bind_eq_some_iff.mp h
theorem oM {α β:Type}{x:Option α}{f:α→β}{b:β}(h:x.map f=some b):∃a,x=some a∧f a=b:=Option.map_eq_some_iff.mp h
theorem oI {α:Type}{a b:α}(h:some a=some b):a=b:=Option.some.inj h
abbrev zA:=@cond_false
abbrev zB:=@cond_true
abbrev zC:=@Option.bind_some
abbrev zD:=@decide_eq_true
abbrev zE:=@Int.toNat_natCast
abbrev zF:=@List.mem_cons_of_mem
abbrev zG:=@decide_eq_true_eq
abbrev zH:=@decide_false
abbrev zI:=@decide_true
abbrev zJ:=@Bool.and_eq_true
abbrev zK:=@decide_eq_false
abbrev zL:=@List.getElem_mem
abbrev zM:=@List.mem_cons_self
abbrev zN:=@Nat.eq_of_beq_eq_true
abbrev zO:=@Option.some.injEq
abbrev zP:=@Nat.lt_irrefl
abbrev zQ:=@Prod.mk.inj
abbrev zR:=@Prod.mk.injEq
abbrev zS:=@Nat.zero_add
abbrev zT:=@Bool.not_true
abbrev zU:=@Bool.not_false
abbrev zV:=@List.flatMap_cons
abbrev zW:=@List.length_cons
abbrev zX:=@List.length_nil
abbrev zY:=@List.mem_append
abbrev zZ:=@List.mem_append_left
abbrev zA1:=@List.mem_append_right
abbrev zB1:=@List.mem_flatMap
abbrev zC1:=@List.drop_eq_getElem_cons
abbrev zD1:=@Nat.add_mul
abbrev zE1:=@Nat.lt_or_ge
abbrev zF1:=@List.mem_singleton
abbrev zG1:=@Bool.true_and
abbrev zH1:=@List.append_nil
abbrev zI1:=@Array.length_toList

inductive Kd where
 |int (k:IntKind)|bool|str|sl (f:Kd)|pair (a b:Kd)
 deriving DecidableEq
abbrev Kd.T:Kd→Type
 | .int _=>Int
 | .bool=>Bool
 | .str=>ByteArray
 | .sl f=>List f.T
 | .pair a b=>a.T×b.T
def Kd.size:Kd→Nat
 | .pair a b=>a.size+b.size
 |_=>1
def Kd.zero:(f:Kd)→f.T
 | .int _=>(0:Int)
 | .bool=>false
 | .str=>(⟨#[]⟩:ByteArray)
 | .sl f=>([]:List f.T)
 | .pair a b=>(a.zero,b.zero)
def Kd.flat:Kd→Bool
 | .sl _=>false
 | .pair a b=>a.flat&&b.flat
 |_=>true

inductive Cap where
 |own (r:Nat)
 |sh (f:Kd) (x:f.T)
inductive A0 where
 |undef
 |nil
 |int (k:IntKind) (n:Int)
 |bool (b:Bool)
 |str (s:ByteArray)
 |sh (f:Kd) (xs:List f.T)
 |od (f:Kd) (xs:List f.T)
 |ow (r:Nat)
 |sub (r off len:Nat)
 |pa (r i c:Nat)
 |ptr (r i c:Nat)
 |spt (f:Kd) (x:f.T) (c:Nat)
 |clo (f:Nat) (caps:List Cap)
inductive TV where
 |one (l:A0)
 |agg (ls:List A0)
inductive AV where
 |v (x:TV)
 |tup (vs:List TV)
def TV.leaves:TV→List A0
 | .one l=>[l]
 | .agg ls=>ls
inductive A6 where
 |dead
 |box (f:Kd) (ls:List A0)
 |data (f:Kd) (xs:List f.T)
 |hol (f:Kd) (xs:List f.T) (i c n:Nat)
structure St where
 slots:List AV
 rows:List (Nat×A6)
 pins:List A0
def look {α:Type}(n:Nat):List (Nat×α)→Option α
 |[]=>none
 |(k,v)::t=>bif Nat.beq k n then some v else look n t
def W5 (n:Nat)(v:A6):List (Nat×A6)→List (Nat×A6)
 |[]=>[(n,v)]
 |(k,u)::t=>bif Nat.blt n k then(n,v)::(k,u)::t else bif Nat.beq k n then(n,v)::t else(k,u)::W5 n v t

structure Ti where
 size:Nat
 eb:Nat
 agg:Bool
 offs:List (Nat×Nat)
 kd:Kd
inductive Md where
 |ro|give|io|bx (f:Kd)
structure Sig where
 modes:List Md
 deep:Bool
 rbx:Option Kd:=none
 soft:List Nat:=[]
structure U8 where
 mask:Nat
 rows:List Nat
structure Env where
 tyT:List (Nat×Ti)
 fnT:List (Nat×Func)
 sgT:List (Nat×Sig)
 kpT:List (Nat×List (Nat×U8))
 eqT:List Nat
abbrev CF:=(R:Type)→Nat→List TV→(AV→Option R)→Option R

def A1:AV:= .v (.one .undef)
def S7:AV:= .tup []
def E2:(f:Kd)→f.T→List A0
 | .int k,n=>[.int k n]
 | .bool,b=>[.bool b]
 | .str,s=>[.str s]
 | .sl f,xs=>[.sh f xs]
 | .pair a b,p=>E2 a p.1++E2 b p.2
def H2 (r i:Nat):(f:Kd)→f.T→Nat→List A0
 | .int k,n,_=>[.int k n]
 | .bool,b,_=>[.bool b]
 | .str,s,_=>[.str s]
 | .sl _,_,c=>[.pa r i c]
 | .pair a b,p,c=>H2 r i a p.1 c++H2 r i b p.2 (c+a.size)
def A10 (deep:Bool)(r i:Nat)(f:Kd)(x:f.T):List A0:=bif deep then H2 r i f x 0 else E2 f x
def E3:(f:Kd)→f.T→Nat→Option (Sigma fun g:Kd=>List g.T)
 | .sl g,xs,0=>some ⟨g,xs⟩
 | .pair a b,p,c=>bif Nat.blt c a.size then E3 a p.1 c else E3 b p.2 (c - a.size)
 |_,_,_=>none

def B0l {f g:Kd}(h:f=g)(xs:List f.T):List g.T:=h▸xs
def M5:(f:Kd)→f.T→Nat→(g:Kd)→List g.T→Option f.T
 | .sl f,_,0,g,ys=>if h:g=f then some (B0l h ys:List f.T)else none
 | .pair a b,p,c,g,ys=>bif Nat.blt c a.size then(M5 a p.1 c g ys).map fun x=>(x,p.2)else(M5 b p.2 (c - a.size) g ys).map fun x=>(p.1,x)
 |_,_,_,_,_=>none
def L7 {f g:Kd}(h:f=g)(xs:List f.T):List g.T:=h▸xs
def A3s (deep:Bool)(rows:List (Nat×A6))(f:Kd):A0→Option (List f.T×List Nat)
 | .sh g xs=>bif deep then none else if h:g=f then some (L7 h xs,[])else none
 | .nil=>some ([],[])
 | .ow r=>match look r rows with
  |some (.data g xs)=>if h:g=f then some (L7 h xs,[r])else none
  |_=>none
 |_=>none
def A4 (deep:Bool)(rows:List (Nat×A6)):(f:Kd)→List A0→Option (f.T×List Nat×List A0)
 | .int k,.int j n::t=>bif decide (j=k)then some ((n:Int),[],t)else none
 | .bool,.bool b::t=>some ((b:Bool),[],t)
 | .str,.str s::t=>some ((s:ByteArray),[],t)
 | .sl f,l::t=>(A3s deep rows f l).bind fun q=>some ((q.1:List f.T),q.2,t)
 | .pair a b,ls=>(A4 deep rows a ls).bind fun q=>(A4 deep rows b q.2.2).bind fun p=>some ((q.1,p.1),q.2.1++p.2.1,p.2.2)
 |_,_=>none
def C7 (deep:Bool)(rows:List (Nat×A6)):(f:Kd)→f.T→Nat→List A0→Option (f.T×List Nat×List A0)
 |_,x,_,[]=>some (x,[],[])
 | .pair a b,p,c,ls=>
  bif Nat.blt c a.size then
   (C7 deep rows a p.1 c ls).bind fun q=>(C7 deep rows b p.2 0 q.2.2).bind fun s=>some ((q.1,s.1),q.2.1++s.2.1,s.2.2)
  else(C7 deep rows b p.2 (c - a.size) ls).bind fun s=>some ((p.1,s.1),s.2.1,s.2.2)
 |f,_,0,ls=>A4 deep rows f ls
 |_,_,_+1,_=>none

def A0.refs:A0→List Nat
 | .ow r| .sub r _ _| .pa r _ _| .ptr r _ _=>[r]
 | .clo _ caps=>caps.filterMap fun| .own r=>some r|_=>none
 |_=>[]
def AV.leaves:AV→List A0
 | .v x=>x.leaves
 | .tup vs=>vs.flatMap TV.leaves
def AV.refs (a:AV):List Nat:=a.leaves.flatMap A0.refs
def A6.refs:A6→List Nat
 | .box _ ls=>ls.flatMap A0.refs
 | .hol _ _ _ _ n=>[n]
 |_=>[]
def A6.isHol:A6→Bool
 | .hol _ _ _ _ _=>true
 |_=>false
def E6 (n:Nat):List Nat→Bool
 |[]=>false
 |k::t=>bif Nat.beq k n then true else E6 n t
def distinct:List Nat→Bool
 |[]=>true
 |k::t=>bif E6 k t then false else distinct t

def St.put (σ:St)(dst:Option Nat)(a:AV):St:=
 match dst with
 |some d=>{σ with slots:=σ.slots.set d a}
 |none=>σ
def St.look (σ:St)(r:Nat):Option A6:=Ev.look r σ.rows
def St.setRow (σ:St)(r:Nat)(row:A6):St:={σ with rows:=W5 r row σ.rows}
def St.kill (σ:St)(rs:List Nat):St:={σ with rows:=rs.foldl (fun l r=>W5 r .dead l) σ.rows}
def St.addRows (σ:St):List (Nat×A6)→Option St
 |[]=>some σ
 |(r,row)::t=>match σ.look r with
  |none=>(σ.setRow r row).addRows t
  |some _=>none
def key (dst:Option Nat)(j:Nat):Nat:=match dst with|some d=>d*64+j|none=>j

def X4:Value→Option AV
 | .int k n=>some (.v (.one (.int k n)))
 | .bool b=>some (.v (.one (.bool b)))
 | .string s=>some (.v (.one (.str s)))
 | .slice none 0 0=>some (.v (.one .nil))
 | .pointer none=>some A1
 |_=>none
def St.ev (σ:St):Operand→Option AV
 | .tmp t=>some (σ.slots.getD t A1)
 | .const v=>X4 v
 | .func f=>some (.v (.one (.clo f [])))
 | .global _=>none
def St.ev1 (σ:St)(x:Operand):Option A0:=
 match σ.ev x with
 |some (.v (.one l))=>some l
 |_=>none
def St.evT (σ:St)(x:Operand):Option TV:=
 match σ.ev x with
 |some (.v (.one .undef))=>none
 |some (.v x)=>some x
 |_=>none

section
variable (E:Env)
def Env.ty (t:Nat):Option Ti:=look t E.tyT
def Env.pl (t:Nat):Option Kd:=match E.ty t with
 |some i=>bif i.agg then none else some i.kd
 |none=>none
def Env.elemKd (t:Nat):Option Kd:=match E.pl t with
 |some (.sl f)=>some f
 |_=>none

def B6 (dst:Option Nat):(f:Kd)→Nat→List A0
 | .int k,_=>[.int k 0]
 | .bool,_=>[.bool false]
 | .str,_=>[.str ⟨#[]⟩]
 | .sl _,c=>[.ow (key dst (c+1))]
 | .pair a b,c=>B6 dst a c++B6 dst b (c+a.size)
def B7 (dst:Option Nat):(f:Kd)→Nat→List (Nat×A6)
 | .sl f,c=>[(key dst (c+1),.data f [])]
 | .pair a b,c=>B7 dst a c++B7 dst b (c+a.size)
 |_,_=>[]
def putAt (ls:List A0)(c:Nat)(ws:List A0):List A0:=ls.take c++ws++ls.drop (c+ws.length)

def H3 (σ:St):A0→Option A0
 | .ow r=>match σ.look r with
  |some (.data f xs)=>some (.sh f xs)
  |_=>none
 | .sub r off len=>match σ.look r with
  |some (.data f xs)=>some (.sh f ((xs.drop off).take len))
  |_=>none
 | .pa r i c=>match σ.look r with
  |some (.data f xs)=>(E3 f (xs.getD i f.zero) c).map fun p=> .sh p.1 p.2
  |_=>none
 | .int k n=>some (.int k n)
 | .bool b=>some (.bool b)
 | .str s=>some (.str s)
 | .sh f xs=>some (.sh f xs)
 | .spt f x c=>some (.spt f x c)
 | .clo g caps=>(caps.mapM fun(c:Cap)=>match c with
   |Cap.sh f x=>some (Cap.sh f x)
   |Cap.own r=>match σ.look r with
    |some (.box f ls)=>(A4 false σ.rows f ls).bind fun q=>match q.2.2 with
     |[]=>some (Cap.sh f q.1)
     |_=>none
    |_=>none).map fun cs=> .clo g cs
 |_=>none
def G4 (deep:Bool)(σ:St):A0→Option A0
 | .ow r=>match σ.look r with
  |some (.data f xs)=>bif deep||f.flat then some (.od f xs)else none
  |_=>none
 | .int k n=>some (.int k n)
 | .bool b=>some (.bool b)
 | .str s=>some (.str s)
 | .sh f xs=>some (.sh f xs)
 |_=>none
def N2 (deep:Bool)(σ:St):A0→Option A0
 | .pa r i c=>bif deep then match σ.look r with
  |some (.data f xs)=>(E3 f (xs.getD i f.zero) c).map fun p=> .od p.1 p.2
  |_=>none else none
 |l=>G4 deep σ l
def TV.mapM (f:A0→Option A0):TV→Option TV
 | .one l=>(f l).map TV.one
 | .agg ls=>(ls.mapM f).map TV.agg

def Env.isStr (t:Nat):Bool:=match E.pl t with
 |some .str=>true
 |_=>false
def Env.isBool (t:Nat):Bool:=match E.pl t with
 |some .bool=>true
 |_=>false
def Env.isSl (t:Nat):Bool:=match E.pl t with
 |some (.sl _)=>true
 |_=>false
def okS (σ:St):Option (Bool×St):=some (true,σ)
def St.put1 (σ:St)(o:Oper)(l:A0):Option (Bool×St):=okS (σ.put o.dst (.v (.one l)))
def St.freeKey (σ:St)(dst:Option Nat)(j:Nat):Nat:=match σ.look (key dst j)with
 |none=>key dst j
 |some _=>match σ.look (key dst (32+j))with
  |none=>key dst (32+j)
  |some _=>key dst (34+j)
def St.fresh (σ:St)(o:Oper)(j:Nat)(f:Kd)(xs:List f.T):Option St:=
 (σ.addRows [(σ.freeKey o.dst j,.data f xs)]).map fun σ'=>σ'.put o.dst (.v (.one (.ow (σ.freeKey o.dst j))))

def A1y (o:Oper)(x:Operand)(σ:St):Option (Bool×St):=
 match σ.ev x with
 |some (.v (.one .nil))=>(E.elemKd o.type).bind fun f=>(σ.fresh o 0 f []).bind okS
 |some a=>okS (σ.put o.dst a)
 |none=>none
def A1z (o:Oper)(c a b:Operand)(σ:St):Option (Bool×St):=
 match σ.ev1 c,σ.ev a,σ.ev b with
 |some (.bool c),some (.v (.one (.bool p))),some (.v (.one (.bool q)))=>σ.put1 o (.bool (bif c then p else q))
 |some (.bool c),some a,some b=>okS (σ.put o.dst (bif c then a else b))
 |_,_,_=>none
def A01 (o:Oper)(elem:Nat)(σ:St):Option (Bool×St):=
 (E.ty elem).bind fun i=>
 (σ.addRows (B7 o.dst i.kd 0)).bind fun σ1=>(σ1.addRows [(key o.dst 0,.box i.kd (B6 o.dst i.kd 0))]).bind fun σ'=>σ'.put1 o (.ptr (key o.dst 0) 0 0)
def A9d (o:Oper)(elem:Nat)(x:Operand)(σ:St):Option (Bool×St):=
 match σ.evT x,E.ty elem with
 |some x,some i=>bif Nat.beq x.leaves.length i.size then
   (σ.addRows [(key o.dst 0,.box i.kd x.leaves)]).bind fun σ'=>σ'.put1 o (.ptr (key o.dst 0) 0 0)
  else none
 |_,_=>none
def K6 (σ:St)(offs:List (Nat×Nat)):List (Nat×Operand)→List A0→Option (List A0)
 |[],ls=>some ls
 |(i,x)::t,ls=>match σ.evT x,offs[i]? with
  |some x,some c=>bif Nat.beq x.leaves.length c.2&&Nat.ble (c.1+c.2) ls.length then K6 σ offs t (putAt ls c.1 x.leaves)else none
  |_,_=>none
def A1j (ls:List A0)(rs:List (Nat×A6)):List (Nat×A6):=rs.filter fun q=>E6 q.1 (ls.flatMap A0.refs)
def A02 (o:Oper)(t:Nat)(parts:Array (Nat×Operand))(σ:St):Option (Bool×St):=
 (E.ty t).bind fun i=>
 (K6 σ i.offs parts.toList (B6 o.dst i.kd 0)).bind fun ls=>
 bif i.agg then
  (σ.addRows (A1j ls (B7 o.dst i.kd 0))).bind fun σ'=>okS (σ'.put o.dst (.v (.agg ls)))
 else none
def F4 (deep:Bool)(σ:St)(f:Kd):Nat→List (Nat×Operand)→Option (List f.T×List Nat)
 |_,[]=>some ([],[])
 |n,(i,x)::t=>bif Nat.beq i n then
   match σ.evT x with
   |some x=>(A4 deep σ.rows f x.leaves).bind fun q=>match q.2.2 with
    |[]=>(F4 deep σ f (n+1) t).bind fun p=>some (q.1::p.1,q.2.1++p.2)
    |_=>none
   |none=>none
  else none
def K0 (deep:Bool)(o:Oper)(t:Nat)(len:Nat)(parts:Array (Nat×Operand))(σ:St):Option (Bool×St):=
 (E.elemKd t).bind fun f=>
 match F4 deep σ f 0 parts.toList with
 |some q=>bif Nat.beq q.1.length len&&Nat.ble (len*f.size) 16777216 then bif distinct q.2 then
   ((σ.kill q.2).fresh o 0 f q.1).bind okS
  else none else none
 |none=>bif deep then(F4 false σ f 0 parts.toList).bind fun q=>
   bif Nat.beq q.1.length len&&Nat.ble (len*f.size) 16777216&&q.2.isEmpty then okS (σ.put o.dst (.v (.one (.sh f q.1))))else none
  else none
def A48 (agg:Bool)(ls:List A0):Option TV:=
 bif agg then some (.agg ls)else match ls with
  |[l]=>some (.one l)
  |_=>none
def cut (ls:List A0)(c n:Nat):Option (List A0):=bif Nat.ble (c+n) ls.length then some ((ls.drop c).take n)else none
def R0 (deep:Bool)(σ:St)(n:Nat):A0→Option (List A0)
 | .ptr r i c=>match σ.look r with
  |some (.box _ ls)=>match i with
   |0=>cut ls c n
   |_=>none
  |some (.data f xs)=>cut (A10 deep r i f (xs.getD i f.zero)) c n
  |_=>none
 | .spt f x c=>cut (E2 f x) c n
 |_=>none
def loadT (deep:Bool)(t:Nat)(a:Operand)(σ:St):Option TV:=
 match E.ty t,σ.ev1 a with
 |some i,some l=>(R0 deep σ i.size l).bind (A48 i.agg)
 |_,_=>none
def A0n (deep:Bool)(o:Oper)(t:Nat)(a:Operand)(σ:St):Option (Bool×St):=
 (loadT E deep t a σ).bind fun x=>okS (σ.put o.dst (.v x))
def dropPa (r:Nat):A0→A0
 | .pa q i c=>bif Nat.beq q r then .undef else .pa q i c
 |l=>l
def TV.map (f:A0→A0):TV→TV
 | .one l=> .one (f l)
 | .agg ls=> .agg (ls.map f)
def AV.map (f:A0→A0):AV→AV
 | .v x=> .v (x.map f)
 | .tup vs=> .tup (vs.map (TV.map f))
def A6.map (f:A0→A0):A6→A6
 | .box k ls=> .box k (ls.map f)
 |row=>row
def St.map (f:A0→A0)(σ:St):St:={slots:=σ.slots.map (AV.map f),rows:=σ.rows.map fun q=>(q.1,q.2.map f),pins:=σ.pins.map f}
def A4y:TV→Bool
 | .one .nil=>true
 |_=>false
def A3e (a:Operand):Nat:=match a with
 | .tmp t=>key (some t) 60
 |_=>0
def A05 (deep:Bool)(o:Oper)(t:Nat)(a v:Operand)(σ:St):Option (Bool×St):=
 match E.ty t,σ.ev1 a,σ.evT v with
 |some ti,some (.ptr r i c),some x=>
  bif Nat.beq x.leaves.length ti.size then
   match σ.look r with
   |some (.box f ls)=>match i with
    |0=>bif Nat.ble (c+ti.size) ls.length then
     bif A4y x then(E.elemKd t).bind fun g=>(σ.addRows [(A3e a,.data g [])]).bind fun τ=>okS ((τ.setRow r (.box f (putAt ls c [.ow (A3e a)]))).put o.dst A1)
     else okS ((σ.setRow r (.box f (putAt ls c x.leaves))).put o.dst A1)
     else none
    |_=>none
   |some (.data f xs)=>
    (C7 deep σ.rows f (xs.getD i f.zero) c x.leaves).bind fun q=>match q.2.2 with
     |[]=>bif distinct q.2.1 then bif E6 r q.2.1 then none else
       okS (((((σ.map (dropPa r)).kill q.2.1)).setRow r (.data f (xs.set i q.1))).put o.dst A1)
      else none
     |_=>none
   |some (.hol f xs i0 c0 n)=>match x with
    | .one (.ow k)=>match σ.look k with
     |some (.data g zs)=>bif Nat.beq n k then none else(M5 f (xs.getD i0 f.zero) c0 g zs).bind fun x'=>
       some (Nat.beq c c0&&Nat.beq i i0,((((σ.map (dropPa r)).kill [k]).setRow r (.data f (xs.set i0 x'))).put o.dst A1))
     |_=>none
    |_=>none
   |_=>none
  else none
 |_,_,_=>none
def M3 (o:Oper)(x:Operand)(σ:St):Option (Bool×St):=
 match σ.ev1 x with
 |some (.ptr r i c)=>match σ.look r with
  |some (.data _ _)=>σ.put1 o (.ptr r i c)
  |some (.box _ _)=>σ.put1 o (.ptr r i c)
  |some (.hol _ _ _ _ _)=>σ.put1 o (.ptr r i c)
  |_=>none
 |some (.spt f y c)=>σ.put1 o (.spt f y c)
 |some (.clo g cs)=>σ.put1 o (.clo g cs)
 |_=>none
def A0c (E:Env):List A0→List A0→Option Bool
 |[],[]=>some true
 | .int k a::s,.int j b::t=>bif decide (k=j)then(A0c E s t).map fun e=>(a==b&&e)else none
 | .bool a::s,.bool b::t=>(A0c E s t).map fun e=>(a==b&&e)
 | .str a::s,.str b::t=>(A0c E s t).map fun e=>(a.toList==b.toList&&e)
 |_,_=>none
def N7:Kd→List A0→Option (List A0)
 | .int k,.int j _::t=>bif decide (j=k)then some t else none
 | .bool,.bool _::t=>some t
 | .str,.str _::t=>some t
 | .pair a b,ls=>(N7 a ls).bind (N7 b)
 |_,_=>none
def A5x (f:Kd)(ls:List A0):Bool:=match N7 f ls with
 |some []=>true
 |_=>false
def A4h (o:Oper)(op:BinOp)(t:Nat)(x y:Operand)(σ:St):Option (Bool×St):=
 match σ.ev x,σ.ev y with
 |some (.v (.one (.int k a))),some (.v (.one (.int j b)))=>
  match op with
  | .shl=>some (decide (0≤b),σ.put o.dst (.v (.one (.int k (k.wrap (a*2^min b.toNat k.bits))))))
  | .shr=>some (decide (0≤b),σ.put o.dst (.v (.one (.int k (a.fdiv (2^min b.toNat k.bits))))))
  |_=>bif decide (k=j)then
   match op with
   | .add=>σ.put1 o (.int k (k.wrap (a+b)))
   | .sub=>σ.put1 o (.int k (k.wrap (a - b)))
   | .mul=>σ.put1 o (.int k (k.wrap (a*b)))
   | .quo=>some (!decide (b=0),σ.put o.dst (.v (.one (.int k (k.wrap (a.tdiv b))))))
   | .rem=>some (!decide (b=0),σ.put o.dst (.v (.one (.int k (a.tmod b)))))
   | .and=>σ.put1 o (.int k (k.wrap (BitVec.ofInt k.bits a&&&BitVec.ofInt k.bits b).toNat))
   | .or=>σ.put1 o (.int k (k.wrap (BitVec.ofInt k.bits a|||BitVec.ofInt k.bits b).toNat))
   | .xor=>σ.put1 o (.int k (k.wrap (BitVec.ofInt k.bits a^^^BitVec.ofInt k.bits b).toNat))
   | .eql=>σ.put1 o (.bool (a==b))
   | .neq=>σ.put1 o (.bool (a !=b))
   | .lss=>σ.put1 o (.bool (decide (a<b)))
   | .leq=>σ.put1 o (.bool (decide (a≤b)))
   | .gtr=>σ.put1 o (.bool (decide (b<a)))
   | .geq=>σ.put1 o (.bool (decide (b≤a)))
   |_=>none
  else none
 |some (.v (.one (.str a))),some (.v (.one (.str b)))=>
  match op with
  | .add=>some (decide (a.size+b.size≤9223372036854775807),σ.put o.dst (.v (.one (.str (a++b)))))
  | .eql=>σ.put1 o (.bool (a.toList==b.toList))
  | .neq=>σ.put1 o (.bool (!(a.toList==b.toList)))
  | .lss=>σ.put1 o (.bool (Op.bytesLess a.toList b.toList))
  | .leq=>σ.put1 o (.bool (Op.bytesLess a.toList b.toList||a.toList==b.toList))
  | .gtr=>σ.put1 o (.bool (!(Op.bytesLess a.toList b.toList||a.toList==b.toList)))
  | .geq=>σ.put1 o (.bool (!Op.bytesLess a.toList b.toList))
  |_=>none
 |some (.v (.one (.bool a))),some (.v (.one (.bool b)))=>
  bif E.isBool t then
   match op with
   | .eql=>σ.put1 o (.bool (a==b))
   | .neq=>σ.put1 o (.bool (!(a==b)))
   |_=>none
  else none
 |some (.v (.agg a)),some (.v (.agg b))=>
  match E.ty t with
  |some i=>bif E6 t E.eqT&&A5x i.kd a&&A5x i.kd b then
   match op with
   | .eql=>(A0c E a b).bind fun e=>σ.put1 o (.bool e)
   | .neq=>(A0c E a b).bind fun e=>σ.put1 o (.bool (!e))
   |_=>none
   else none
  |none=>none
 |_,_=>none
def A87 (o:Oper)(op:UnOp)(x:Operand)(σ:St):Option (Bool×St):=
 match op,σ.ev1 x with
 | .neg,some (.int k n)=>σ.put1 o (.int k (k.wrap (0 - n)))
 | .not,some (.bool b)=>σ.put1 o (.bool (!b))
 |_,_=>none
def P3 (o:Oper)(src dst:Nat)(x:Operand)(σ:St):Option (Bool×St):=
 match E.pl src,E.pl dst,σ.ev1 x with
 |some i,some j,some l=>
  match i,j,l with
  | .int _,.int k,.int _ n=>σ.put1 o (.int k (k.wrap n))
  | .str,.str,.str s=>σ.put1 o (.str s)
  | .str,.sl (.int .u8),.str s=>(σ.fresh o 0 (.int .u8) (s.data.toList.map fun b=>(b.toNat:Int))).bind okS
  | .sl (.int .u8),.str,l=>match H3 σ l with
   |some (.sh (.int .u8) xs)=>σ.put1 o (.str (strOfNums xs))
   |_=>none
  |_,_,_=>none
 |_,_,_=>none
def A0o (o:Oper)(fn:Fn)(first captured:Array Operand)(σ:St):Option (Bool×St):=
 match fn,first.toList with
 | .func g,[]=>(captured.toList.mapM fun x=>match σ.ev1 x with
   |some (.ptr r 0 0)=>match σ.look r with
    |some (.box _ _)=>some (Cap.own r)
    |_=>none
   |_=>none).bind fun cs=>σ.put1 o (.clo g cs)
 |_,_=>none
def Env.el (t:Nat):Option (Kd×Nat):=match E.elemKd t,E.ty t with
 |some f,some i=>some (f,i.eb)
 |_,_=>none
def room (n bytes:Nat):Bool:=decide (n*bytes≤140737488355328∧n≤140737488355328)
def W9 (o:Oper)(t:Nat)(len cap:Operand)(σ:St):Option (Bool×St):=
 match E.el t,σ.ev1 len,σ.ev1 cap with
 |some e,some (.int .i64 n),some (.int .i64 m)=>
  (σ.fresh o 0 e.1 (List.replicate n.toNat e.1.zero)).bind fun σ'=>some (decide (n=m∧0≤n)&&room n.toNat e.2,σ')
 |_,_,_=>none
def bound (σ:St)(x:Option Operand)(d:Nat):Option Int:=
 match x with
 |none=>some (d:Int)
 |some x=>match σ.ev1 x with
  |some (.int _ n)=>some n
  |_=>none
def Env.isEl (t:Nat)(f:Kd):Bool:=match E.elemKd t with
 |some g=>decide (g=f)
 |none=>false
def A04 (o:Oper)(t:Nat)(x:Operand)(lo hi mx:Option Operand)(σ:St):Option (Bool×St):=
 match mx,σ.ev1 x with
 |none,some (.str s)=>bif E.isStr t then match bound σ lo 0,bound σ hi s.size with
  |some l,some h=>some (decide (0≤l∧l≤h∧h≤s.size),σ.put o.dst (.v (.one (.str (s.extract l.toNat h.toNat)))))
  |_,_=>none
  else none
 |none,some (.sh f xs)=>bif E.isEl t f then match bound σ lo 0,bound σ hi xs.length with
  |some l,some h=>some (decide (0≤l∧l≤h∧h≤xs.length),σ.put o.dst (.v (.one (.sh f ((xs.take h.toNat).drop l.toNat)))))
  |_,_=>none
  else none
 |none,some (.ow r)=>match σ.look r with
  |some (.data f xs)=>bif E.isEl t f then match bound σ lo 0,bound σ hi xs.length with
   |some l,some h=>some (decide (0≤l∧l≤h∧h≤xs.length),σ.put o.dst (.v (.one (.sub r l.toNat (h.toNat - l.toNat)))))
   |_,_=>none
   else none
  |_=>none
 |none,some (.sub r off len)=>match σ.look r with
  |some (.data f _)=>bif E.isEl t f then match bound σ lo 0,bound σ hi len with
   |some l,some h=>some (decide (0≤l∧l≤h∧h≤len),σ.put o.dst (.v (.one (.sub r (off+l.toNat) (h.toNat - l.toNat)))))
   |_,_=>none
   else none
  |_=>none
 |_,_=>none
def K9 (o:Oper)(s:Nat)(x:Operand)(f:Nat)(σ:St):Option (Bool×St):=
 match E.ty s,σ.ev1 x with
 |some i,some l=>(i.offs[f]?).bind fun d=>match l with
  | .ptr r j c=>match σ.look r with
   |some (.data _ _)=>σ.put1 o (.ptr r j (c+d.1))
   |some (.box _ _)=>σ.put1 o (.ptr r j (c+d.1))
   |some (.hol _ _ _ _ _)=>σ.put1 o (.ptr r j (c+d.1))
   |_=>none
  | .spt g y c=>σ.put1 o (.spt g y (c+d.1))
  |_=>none
 |_,_=>none
def inR (i:Int)(n:Nat):Bool:=decide (0≤i∧i<n)
def G8 (o:Oper)(t:Nat)(x i:Operand)(σ:St):Option (Bool×St):=
 match σ.ev1 i,σ.ev1 x with
 |some (.int _ n),some (.sh f xs)=>bif E.isEl t f then some (inR n xs.length,σ.put o.dst (.v (.one (.spt f (xs.getD n.toNat f.zero) 0))))else none
 |some (.int _ n),some (.ow r)=>match σ.look r with
  |some (.data f xs)=>bif E.isEl t f then some (inR n xs.length,σ.put o.dst (.v (.one (.ptr r n.toNat 0))))else none
  |some (.hol f xs _ _ _)=>bif E.isEl t f then some (inR n xs.length,σ.put o.dst (.v (.one (.ptr r n.toNat 0))))else none
  |_=>none
 |some (.int _ n),some (.sub r off len)=>match σ.look r with
  |some (.data f _)=>bif E.isEl t f then some (inR n len,σ.put o.dst (.v (.one (.ptr r (off+n.toNat) 0))))else none
  |_=>none
 |_,_=>none
def bt (s:ByteArray)(i:Int):Int:=if h:i.toNat<s.size then((s[i.toNat]'h).toNat:Int)else 0
def A03 (o:Oper)(t:Nat)(x i:Operand)(σ:St):Option (Bool×St):=
 match σ.ev1 i,σ.ev1 x with
 |some (.int _ n),some (.str s)=>bif E.isStr t then some (inR n s.size,σ.put o.dst (.v (.one (.int .u8 (bt s n)))))else none
 |_,_=>none
def P4 (o:Oper)(x:Operand)(k:Nat)(σ:St):Option (Bool×St):=
 match σ.ev x with
 |some (.tup vs)=>match vs[k]? with
  |some y=>okS (σ.put o.dst (.v y))
  |none=>none
 |_=>none
def A4i (o:Oper)(t:Nat)(x:Operand)(σ:St):Option (Bool×St):=
 match σ.ev1 x with
 |some (.str s)=>bif E.isStr t then σ.put1 o (.int .i64 s.size)else none
 |some .nil=>bif E.isSl t then σ.put1 o (.int .i64 0)else none
 |some (.sh _ xs)=>bif E.isSl t then σ.put1 o (.int .i64 xs.length)else none
 |some (.ow r)=>match σ.look r with
  |some (.data _ xs)=>bif E.isSl t then σ.put1 o (.int .i64 xs.length)else none
  |_=>none
 |some (.sub r off len)=>match σ.look r with
  |some (.data _ _)=>bif E.isSl t then σ.put1 o (.int .i64 len)else none
  |_=>none
 |some (.pa r i c)=>match σ.look r with
  |some (.data f xs)=>match E3 f (xs.getD i f.zero) c with
   |some p=>bif E.isSl t then σ.put1 o (.int .i64 p.2.length)else none
   |none=>none
  |_=>none
 |_=>none
def St.takePa (σ:St)(n r i c:Nat):Option St:=match σ.look r,σ.look n with
 |some (.data f xs),none=>(E3 f (xs.getD i f.zero) c).map fun p=>(σ.setRow r (.hol f xs i c n)).setRow n (.data p.1 p.2)
 |_,_=>none
def N4 (deep:Bool)(σ:St)(f:Kd):A0→Option (List f.T×List Nat)
 | .nil=>some ([],[])
 | .str s=>if h:f= .int .u8 then some (L7 h.symm (s.data.toList.map fun b=>(b.toNat:Int)),[])else none
 | .ow r=>match σ.look r with
  |some (.data g xs)=>if h:g=f then some (L7 h xs,bif deep&& !f.flat then [r]else [])else none
  |_=>none
 |l=>match H3 σ l with
  |some (.sh g xs)=>bif deep&& !f.flat then none else if h:g=f then some (L7 h xs,[])else none
  |_=>none
def A4w (o:Oper)(t r:Nat)(i:Operand)(σ:St):Option (Bool×St):=
 match σ.ev1 i,σ.look r with
 |some (.int _ n),some (.data f xs)=>bif E.isEl t f then some (inR n xs.length,σ.put o.dst (.v (.one (.ptr r n.toNat 0))))else none
 |_,_=>none
def L0 (deep:Bool)(o:Oper)(t:Nat)(x i:Operand)(σ:St):Option (Bool×St):=
 match σ.ev1 x with
 |some (.pa r j c)=>bif deep then match σ.takePa (key o.dst 50) r j c with
   |some τ=>A4w E o t (key o.dst 50) i τ
   |none=>none
  else none
 |_=>G8 E o t x i σ
def T3 (deep:Bool)(o:Oper)(t u:Nat)(x y:Operand)(σ:St):Option (Bool×St):=
 bif E.isSl u||E.isStr u then match E.el t,σ.ev1 x,σ.ev1 y with
 |some e,some d,some s=>
  match d with
  | .nil=>(N4 deep σ e.1 s).bind fun q=>bif distinct q.2 then((σ.kill q.2).fresh o 0 e.1 q.1).bind fun σ'=>some (room q.1.length e.2,σ')else none
  | .ow r=>(N4 deep σ e.1 s).bind fun q=>match σ.look r with
   |some (.data g xs)=>if h:g=e.1 then
     bif distinct (r::q.2)then
      ((σ.kill (r::q.2)).fresh o 0 e.1 (L7 h xs++q.1)).bind fun σ'=>some (room (xs.length+q.1.length) e.2,σ')
     else none
    else none
   |_=>none
  | .pa r i c=>bif deep then match σ.takePa (key o.dst 50) r i c with
   |some τ=>(N4 deep τ e.1 s).bind fun q=>match τ.look (key o.dst 50)with
    |some (.data g xs)=>if h:g=e.1 then
      bif distinct (key o.dst 50::q.2)then
       ((τ.kill (key o.dst 50::q.2)).fresh o 0 e.1 (L7 h xs++q.1)).bind fun σ'=>some (room (xs.length+q.1.length) e.2,σ')
      else none
     else none
    |_=>none
   |none=>none
   else none
  |_=>none
 |_,_,_=>none
 else none
def A4j (o:Oper)(x y:Operand)(σ:St):Option (Bool×St):=
 match σ.ev1 x,σ.ev1 y with
 |some (.int k a),some (.int _ b)=>σ.put1 o (.int k (bif decide (a<b)then b else a))
 |_,_=>none

def A53 (o:Oper)(t:Nat)(x:Operand)(σ:St):Option (Bool×St):=
 match E.el t,σ.ev1 x with
 |some e,some (.sub r off len)=>match σ.look r with
  |some (.data f xs)=>bif decide (e.1=f)&&f.flat then
    okS (((σ.map (dropPa r)).setRow r (.data f (xs.take off++List.replicate len f.zero++xs.drop (off+len)))).put o.dst A1)
   else none
  |_=>none
 |_,_=>none

def R7 (deep:Bool)(o:Oper)(σ:St):Option (Bool×St):=
 match o.op with
 | .move x| .assign x=>A1y E o x σ
 | .pick c a b=>A1z o c a b σ
 | .alloc e=>A01 E o e σ
 | .box e x=>A9d E o e x σ
 | .build t ps=>A02 E o t ps σ
 | .buildSlice t n ps=>K0 E deep o t n ps σ
 | .load t a=>A0n E deep o t a σ
 | .store t a v=>A05 E deep o t a v σ
 | .nilCheck x=>M3 o x σ
 | .binOp op t x y _=>A4h E o op t x y σ
 | .unOp op _ x=>A87 o op x σ
 | .convert s d x=>P3 E o s d x σ
 | .makeFunc fn a b=>A0o o fn a b σ
 | .makeSlice t l c=>W9 E o t l c σ
 | .slice t x lo hi mx=>A04 E o t x lo hi mx σ
 | .fieldAddr s x f=>K9 E o s x f σ
 | .indexAddr t x i=>L0 E deep o t x i σ
 | .index t x i=>A03 E o t x i σ
 | .extract x k=>P4 o x k σ
 | .call c=>match c.callee,c.argTypes.toList,c.args.toList with
  | .builtin .len,t::_,[x]=>A4i E o t x σ
  | .builtin .append,t::u::_,[x,y]=>T3 E deep o t u x y σ
  | .builtin .max,_,[x,y]=>A4j o x y σ
  | .builtin .clear,t::_,[x]=>A53 E o t x σ
  |_,_,_=>none
 |_=>none

def B1f {α:Type}(xs:List α)(i j:Int):Option (List α):=bif decide (0≤i∧i<j∧j≤xs.length)then some (xs.take i.toNat++xs.drop j.toNat)else none
def B1k {α:Type}(eb:Nat)(xs:List α)(i:Int)(ys:List α):Option (List α):=bif decide (ys.length=1∧0≤i∧i≤xs.length)&&room (xs.length+1) eb then some (xs.take i.toNat++ys++xs.drop i.toNat)else none
def B0g (xs:List ByteArray):Option (List ByteArray):=bif decide (xs.length<4611686018427387904)then some (xs.mergeSort fun a b=> !Op.bytesLess b.toList a.toList)else none

def U4 (deep:Bool)(σ:St):Md→Operand→Option TV
 | .ro,x=>(σ.evT x).bind (TV.mapM (H3 σ))
 | .give,x=>(σ.evT x).bind (TV.mapM (G4 deep σ))
 | .io,x=>(σ.evT x).bind (TV.mapM (N2 deep σ))
 | .bx f,x=>match σ.ev1 x with
  |some (.ptr r 0 0)=>match σ.look r with
   |some (.box g ls)=>bif decide (g=f)then(ls.mapM (G4 deep σ)).map TV.agg else none
   |_=>none
  |_=>none
def B0 (ms:List Md)(i:Nat):Md:=ms.getD i .ro
def F9 (deep:Bool)(σ:St)(ms:List Md):Nat→List Operand→Option (List TV)
 |_,[]=>some []
 |i,x::xs=>(U4 deep σ (B0 ms i) x).bind fun y=>(F9 deep σ ms (i+1) xs).bind fun ys=>some (y::ys)
def St.below (σ:St)(r:Nat):List Nat:=match σ.look r with
 |some row=>r::row.refs
 |none=>[r]
def C2 (σ:St)(ms:List Md):Nat→List Operand→List Nat
 |_,[]=>[]
 |i,x::xs=>(match B0 ms i,σ.ev x with
   | .give,some a=>a.refs
   | .io,some a=>a.refs
   | .bx _,some a=>a.refs.flatMap σ.below
   |_,_=>[])++C2 σ ms (i+1) xs
def L3:A0→List (Nat×Option (Nat×Nat))
 | .pa r i c=>[(r,some (i,c))]
 |l=>l.refs.map fun r=>(r,none)
def D8 (σ:St)(ms:List Md):Nat→List Operand→List (Nat×Option (Nat×Nat))
 |_,[]=>[]
 |i,x::xs=>(match B0 ms i,σ.ev x with
   | .io,some a=>a.leaves.flatMap L3
   | .bx _,some a=>a.refs.map fun r=>(r,none)
   |_,_=>[])++D8 σ ms (i+1) xs
def L4 (σ:St)(ms:List Md):Nat→List Operand→List Nat
 |_,[]=>[]
 |i,x::xs=>(match B0 ms i,σ.ev x with
   | .ro,some a=>a.refs.flatMap σ.below
   |_,_=>[])++L4 σ ms (i+1) xs
def S5 (xs ys:List Nat):Bool:=xs.all fun x=> !E6 x ys
def F5:List A0→Bool
 |[]=>false
 | .sh _ _::_=>true
 |_::t=>F5 t
def G7 (r:Nat)(f:Kd)(xs:List f.T):A0→A0
 | .ow q=>bif Nat.beq q r then .sh f xs else .ow q
 | .sub q off len=>bif Nat.beq q r then .sh f ((xs.drop off).take len)else .sub q off len
 | .pa q i c=>bif Nat.beq q r then .undef else .pa q i c
 | .ptr q i c=>bif Nat.beq q r then .undef else .ptr q i c
 |l=>l
def St.freeze (σ:St):List Nat→Option St
 |[]=>some σ
 |r::rs=>match σ.look r with
  |some (.data f xs)=>((σ.map (G7 r f xs)).kill [r]).freeze rs
  |some .dead=>σ.freeze rs
  |_=>none
def instLeaves (dst:Option Nat):Nat→List A0→List A0×List (Nat×A6)
 |_,[]=>([],[])
 |j,l::t=>match l with
  | .od f xs=>((.ow (key dst j))::(instLeaves dst (j+1) t).1,(key dst j,.data f xs)::(instLeaves dst (j+1) t).2)
  |l=>(l::(instLeaves dst (j+1) t).1,(instLeaves dst (j+1) t).2)
def instTV (dst:Option Nat)(j:Nat):TV→TV×List (Nat×A6)
 | .one (.od f xs)=>(.one (.ow (key dst j)),[(key dst j,.data f xs)])
 | .one l=>(.one l,[])
 | .agg ls=>(.agg (instLeaves dst j ls).1,(instLeaves dst j ls).2)
def instTVs (dst:Option Nat):Nat→List TV→List TV×List (Nat×A6)
 |_,[]=>([],[])
 |j,x::t=>((instTV dst j x).1::(instTVs dst (j+x.leaves.length) t).1,(instTV dst j x).2++(instTVs dst (j+x.leaves.length) t).2)
def instAV (dst:Option Nat):AV→AV×List (Nat×A6)
 | .v x=>(.v (instTV dst 0 x).1,(instTV dst 0 x).2)
 | .tup vs=>(.tup (instTVs dst 0 vs).1,(instTVs dst 0 vs).2)
def Env.sig (g:Nat):Sig:=(look g E.sgT).getD ⟨[],true,none,[]⟩
def A2n:List TV→AV
 |[x]=> .v x
 |xs=> .tup xs
def A6v (σ:St)(dst:Option Nat)(j:Nat)(r:Nat×Option (Nat×Nat))(y:TV):Option (A6×List (Nat×A6)):=
 match r.2 with
 |none=>match σ.look r.1,y with
  |some (.data f _),.one (.od g xs)=>bif decide (g=f)then some (.data g xs,[])else none
  |some (.box f _),.agg ls=>bif Nat.beq ls.length f.size then some (.box f (instLeaves dst j ls).1,(instLeaves dst j ls).2)else none
  |_,_=>none
 |some ic=>match σ.look r.1,y with
  |some (.data f xs),.one (.od g ys)=>(M5 f (xs.getD ic.1 f.zero) ic.2 g ys).map fun x=>(.data f (xs.set ic.1 x),[])
  |_,_=>none
def S1 (σ:St)(dst:Option Nat):Nat→List (Nat×Option (Nat×Nat))→List TV→Option (List (Nat×A6)×List (Nat×A6))
 |_,[],[]=>some ([],[])
 |j,r::rs,y::ys=>(A6v σ dst j r y).bind fun p=>(S1 σ dst (j+y.leaves.length) rs ys).bind fun q=>some ((r.1,p.1)::q.1,p.2++q.2)
 |_,_,_=>none
def E8 (σ:St)(r:Nat):St:=match σ.look r with
 |some (.data _ _)=>σ.map (dropPa r)
 |_=>σ
def setUps (σ:St)(us:List (Nat×A6)):St:=us.foldl (fun σ u=>σ.setRow u.1 u.2) σ
def finIo (σ:St)(dst:Option Nat)(own:List Nat)(ios:List (Nat×Option (Nat×Nat)))(out:AV):Option St:=match out with
 | .v _=>none
 | .tup ys=>
  (S1 σ dst ((ys.take (ys.length - ios.length)).flatMap TV.leaves).length ios (ys.drop (ys.length - ios.length))).bind fun q=>
  ((((ios.map (·.1)).foldl E8 σ).kill own).addRows ((instTVs dst 0 (ys.take (ys.length - ios.length))).2++q.2)).bind fun σ3=>
  some ((setUps σ3 q.1).put dst (instAV dst (A2n (ys.take (ys.length - ios.length)))).1)
def A6u (σ:St)(dst:Option Nat)(own:List Nat)(f:Kd)(out:AV):Option St:=match out with
 | .tup [.agg ls]=>bif Nat.beq ls.length f.size then
   ((σ.kill own).addRows ((instLeaves dst 0 ls).2++[(key dst 63,.box f (instLeaves dst 0 ls).1)])).bind fun σ2=>some (σ2.put dst (.v (.one (.ptr (key dst 63) 0 0))))
  else none
 |_=>none
def X7 (σ:St)(dst:Option Nat)(ro own:List Nat)(ios:List (Nat×Option (Nat×Nat)))(rb:Option Kd)(out:AV):Option St:=
 (bif F5 out.leaves then σ.freeze ro else some σ).bind fun σ1=>match rb with
  |some f=>match ios with
   |[]=>A6u σ1 dst own f out
   |_=>none
  |none=>match ios with
   |[]=>((σ1.kill own).addRows (instAV dst out).2).bind fun σ2=>some (σ2.put dst (instAV dst out).1)
   |ios=>finIo σ1 dst own ios out
def A2y {R:Type}(C:CF)(deep:Bool)(dst:Option Nat)(g:Nat)(xs:List Operand)(more:List TV)(σ:St)(κ:St→Option R):Option R:=
 match F9 deep σ (E.sig g).modes 0 xs with
 |some as=>
  bif distinct (C2 σ (E.sig g).modes 0 xs)&&S5 (L4 σ (E.sig g).modes 0 xs) (C2 σ (E.sig g).modes 0 xs)&&Nat.ble (E.sig g).modes.length xs.length then
   C R g (as++more) fun out=>match X7 σ dst (L4 σ (E.sig g).modes 0 xs) (C2 σ (E.sig g).modes 0 xs) (D8 σ (E.sig g).modes 0 xs) (E.sig g).rbx out with
    |some σ'=>κ σ'
    |none=>none
  else none
 |none=>none
def takeT (deep:Bool)(n:Nat)(σ:St)(x:Operand):St:=match x with
 | .tmp t=>match σ.slots.getD t A1 with
  | .v (.one (.pa r i c))=>bif deep then match σ.takePa n r i c with
    |some τ=>τ.put (some t) (.v (.one (.ow n)))
    |none=>σ
   else σ
  |_=>σ
 |_=>σ
def takeArgs (deep:Bool)(dst:Option Nat)(ms:List Md):Nat→List Operand→St→St
 |_,[],σ=>σ
 |i,x::xs,σ=>takeArgs deep dst ms (i+1) xs (match B0 ms i with
  | .give=>takeT deep (key dst (50+i)) σ x
  |_=>σ)
def preOp (deep:Bool)(o:Oper)(σ:St):St:=match o.op with
 | .call c=>match c.callee with
  | .value x=>match σ.ev1 x with
   |some (.clo g _)=>takeArgs deep o.dst (E.sig g).modes 0 c.args.toList σ
   |_=>σ
  |_=>σ
 |_=>σ
def A32 (n:Nat):List (Nat×A6)→Option Nat
 |[]=>none
 |(r,.hol _ _ _ _ m)::t=>bif Nat.beq m n then some r else A32 n t
 |_::t=>A32 n t
def St.close1 (σ:St)(n:Nat):Option (Nat×St):=(A32 n σ.rows).bind fun r=>match σ.look r,σ.look n with
 |some (.hol f xs i c m),some (.data g ys)=>bif Nat.beq m n then(M5 f (xs.getD i f.zero) c g ys).map fun x=>(r,((σ.map (dropPa r)).kill [n]).setRow r (.data f (xs.set i x)))else none
 |_,_=>none
def closeUp:Nat→Nat→St→St
 |0,_,σ=>σ
 |k+1,n,σ=>match σ.close1 n with
  |some q=>closeUp k q.1 q.2
  |none=>σ
def postOp (o:Oper)(σ τ:St):St:=match o.op with
 | .store _ a _=>match σ.ev1 a with
  |some (.ptr n _ _)=>match σ.look n with
   |some (.box _ _)=>τ
   |_=>closeUp 4 n τ
  |_=>τ
 |_=>τ
def A4f (σ:St)(x:Operand):Bool:=match σ.ev1 x with
 |some (.pa _ _ _)=>false
 |_=>true
def R4 (ms:List Md)(σ:St):Nat→List Operand→Bool
 |_,[]=>true
 |i,x::xs=>(match B0 ms i with
  | .give=>A4f σ x
  |_=>true)&&R4 ms σ (i+1) xs
def A4g (o:Oper)(σ:St):Bool:=match o.op with
 | .call c=>match c.callee with
  | .value x=>match σ.ev1 x with
   |some (.clo g _)=>R4 (E.sig g).modes σ 0 c.args.toList
   |_=>true
  |_=>true
 |_=>true
def A8s:Cap→Option TV
 | .sh f x=>some (.one (.spt f x 0))
 | .own _=>none
def H1 {R:Type}(C:CF)(deep:Bool)(o:Oper)(c:Call)(σ:St)(κ:St→Option R):Option R:=
 match c.callee with
 | .value x=>match σ.ev1 x with
  |some (.clo g cs)=>match cs.mapM A8s with
   |some more=>A2y E C deep o.dst g c.args.toList more σ κ
   |none=>none
  |_=>none
 |_=>none
def A39:Oper→Option Call
 |{op:= .call {callee:= .value x,args,argTypes},.. }=>some {callee:= .value x,args,argTypes}
 |_=>none
def P9 {R:Type}(C:CF)(deep:Bool)(o:Oper)(σ:St)(κ:St→Option R):Option R:=
 match A39 o with
 |some c=>H1 E C deep o c (preOp E deep o σ) κ
 |none=>match R7 E deep o (preOp E deep o σ)with
  |some (c,σ')=>bif c then κ (postOp o σ σ')else none
  |none=>none
def M8 (ops:Array Oper)(o:Oper):Option (Option Nat×Bool):=
 match o.guard with
 |none=>none
 |some (j,want)=>some ((ops[j]?).bind (·.dst),want)
def G0 {R:Type}(C:CF)(deep:Bool)(ops:Array Oper)(o:Oper)(σ:St)(κ:St→Option R):Option R:=
 match M8 ops o with
 |none=>P9 E C deep o σ κ
 |some (none,_)=>none
 |some (some d,want)=>match σ.slots.getD d A1 with
  | .v (.one (.bool b))=>
   bif b then(bif want then P9 E C deep o (σ.put (some d) (.v (.one (.bool true)))) κ else κ ((σ.put (some d) (.v (.one (.bool true)))).put o.dst S7))
   else(bif want then κ ((σ.put (some d) (.v (.one (.bool false)))).put o.dst S7)else P9 E C deep o (σ.put (some d) (.v (.one (.bool false)))) κ)
  | .tup []=>κ (σ.put o.dst S7)
  |_=>none
def R8 {R:Type}(C:CF)(deep:Bool)(ops:Array Oper):List Oper→St→(St→Option R)→Option R
 |[],σ,κ=>κ σ
 |o::t,σ,κ=>G0 E C deep ops o σ fun σ'=>R8 C deep ops t σ' κ

def H9 (o:Oper):List Nat:=o.op.operands.toList.filterMap fun| .tmp t=>some t|_=>none
def A8 (o:Oper):Bool:=match o.op with
 | .move _| .assign _| .extract .. | .pick .. =>true
 |_=>false
def F6 (o:Oper):Bool:=match o.op with
 | .load .. | .store .. | .nilCheck _| .fieldAddr .. | .indexAddr .. | .slice .. | .buildSlice .. =>true
 |_=>false
def rdOf (o:Oper)(σ:St):List Nat:=bif A8 o then []else bif F6 o then(H9 o).flatMap fun t=>(σ.slots.getD t A1).refs else(H9 o).flatMap fun t=>(σ.slots.getD t A1).refs.flatMap σ.below
def consOf (o:Oper)(σ:St):List Nat:=
 match o.op with
 | .buildSlice .. | .store .. =>(H9 o).flatMap fun t=>(σ.slots.getD t A1).refs
 | .indexAddr _ x _=>match σ.ev1 x with
  |some (.pa r _ _)=>[r]
  |_=>[]
 | .call c=>match c.callee with
  | .builtin .append=>match c.args.toList with
   |[x,y]=>(match σ.ev1 x with
    |some l=>l.refs
    |none=>[])++(match σ.ev1 y with
    |some (.ow r)=>[r]
    |_=>[])
   |_=>[]
  | .value x=>match σ.ev1 x with
   |some (.clo g _)=>C2 σ (E.sig g).modes 0 c.args.toList
   |_=>[]
  |_=>[]
 |_=>[]
def B0d (σ σ':St):List Nat:=(σ'.rows.map (·.1)).filter fun r=>match σ.look r with
 |none=>true
 |some _=>false
def A6m (o:Oper)(σ σ':St):List Nat:=consOf E o σ++B0d σ σ'
def A2f (σ:St)(r:Nat):Bool:=match σ.look r with
 |some (.box _ _)=>true
 |_=>false
def K3 (o:Oper)(σ σ':St):Bool:=
 match o.op with
 | .move _| .assign _| .pick .. | .load .. | .nilCheck _| .binOp .. | .unOp .. | .convert .. | .slice .. | .fieldAddr .. | .indexAddr .. | .index .. | .extract .. | .build .. | .buildSlice .. | .alloc _=>true
 | .store _ a _=>match σ.ev1 a with
  |some (.ptr r _ _)=>match σ.look r with
   |some (.box _ _)=>true
   |_=>false
  |_=>false
 | .call c=>match c.callee with
  | .builtin .len| .builtin .append| .builtin .max=>true
  | .value x=>match σ.ev1 x,o.dst with
   |some (.clo g _),some d=>Nat.blt d σ.slots.length&&((match L4 σ (E.sig g).modes 0 c.args.toList with
    |[]=>true
    |_=>false)||(!F5 (σ'.slots.getD d A1).leaves&&(D8 σ (E.sig g).modes 0 c.args.toList).isEmpty))&&
    (D8 σ (E.sig g).modes 0 c.args.toList).all (fun r=>A2f σ r.1)&&(E.sig g).rbx.isNone
   |_,_=>false
  |_=>false
 |_=>false
def mayDraw (o:Oper)(σ σ':St):Bool:=A4g E o σ&&K3 E o σ σ'
def A1p (e:Edge):Bool:=Region.binds .any e
def C9:List Oper→List Nat→List Nat
 |[],acc=>acc
 |o::t,acc=>C9 t (acc++[o.after.toList.foldl (fun s e=>bif A1p e then s|||2^e.on|||acc.getD e.on 0 else s) 0])
def T6:Nat→List Oper→Bool
 |_,[]=>true
 |k,o::t=>o.after.toList.all (fun e=> !A1p e||Nat.blt e.on k)&&T6 (k+1) t
def T1 (d:Option Nat):List Nat:=[key d 0,key d 32,key d 34]
def A7o (ops:Array Oper)(x y:Oper)(p q:List Nat×List Nat):Bool:=
 x.apart ops y&&S5 p.1 q.2&&S5 q.1 p.2&&S5 p.2 q.2&&S5 (T1 x.dst) q.2&&S5 (T1 y.dst) p.2
def A77 (ops:Array Oper)(k:Nat)(x:Oper)(p:List Nat×List Nat):List Oper→List Nat→List (List Nat×List Nat)→Bool
 |y::ys,b::bs,q::qs=>(b.testBit k||A7o ops x y p q)&&A77 ops k x p ys bs qs
 |[],[],[]=>true
 |_,_,_=>false
def A0p (ops:Array Oper):Nat→List Oper→List Nat→List (List Nat×List Nat)→Bool
 |k,x::xs,_::bs,p::ps=>A77 ops k x p xs bs ps&&A0p ops (k+1) xs bs ps
 |_,[],[],[]=>true
 |_,_,_,_=>false
def N6:Nat→List Nat→Bool
 |_,[]=>true
 |k,b::t=>Nat.beq b (2^k - 1)&&N6 (k+1) t
def M4:Nat→List Nat→Nat
 |_,[]=>0
 |k,b::t=>bif N6 k (b::t)then 0 else M4 (k+1) t+1
def A5j (ops:Array Oper)(m:Nat)(fs:List (List Nat×List Nat)):Bool:=
 Region.noSelect ops&&T6 0 ops.toList&&A0p ops 0 (ops.toList.take m) ((C9 ops.toList []).take m) fs&&N6 m ((C9 ops.toList []).drop m)
def V9 {R:Type}(C:CF)(deep:Bool)(ops:Array Oper)(m:Nat):List Oper→List (List Nat×List Nat)→St→(St→Option R)→Option R
 |[],fs,σ,κ=>bif A5j ops m fs then κ σ else none
 |o::t,fs,σ,κ=>G0 E C deep ops o σ fun σ'=>bif mayDraw E o σ σ' then V9 C deep ops m t (fs++[(rdOf o σ,A6m E o σ σ')]) σ' κ else none
def A30 {R:Type}(C:CF)(deep:Bool)(ops:Array Oper)(m:Nat)(σ:St)(κ:St→Option R):Option R:=
 V9 E C deep ops m (ops.toList.take m) [] σ fun σ'=>R8 E C deep ops (ops.toList.drop m) σ' κ

inductive Ex where
 |normal|exit (id:Nat)|ret
def A93 (rows:List Nat)(a:AV):Option AV:=bif a.refs.all (E6 · rows)then some a else none
def L9 (mask:Nat)(rows:List Nat):Nat→List AV→Option (List AV)
 |_,[]=>some []
 |i,a::t=>bif mask.testBit i then(A93 rows a).bind fun a=>(L9 mask rows (i+1) t).bind fun t=>some (a::t)
  else(L9 mask rows (i+1) t).bind fun t=>some (A1::t)
def P2 (rows:List Nat):List (Nat×A6)→Option (List (Nat×A6))
 |[]=>some []
 |(r,row)::t=>bif E6 r rows then
   bif row.refs.all (E6 · rows)&& !row.isHol then(P2 rows t).bind fun t=>some ((r,row)::t)else none
  else P2 rows t
def A2q (ren:List (Nat×Nat))(r:Nat):Nat:=(look r ren).getD 0
def A75 (ren:List (Nat×Nat)):Cap→Cap
 | .own r=> .own (A2q ren r)
 | .sh f x=> .sh f x
def C4 (ren:List (Nat×Nat)):A0→A0
 | .ow r=> .ow (A2q ren r)
 | .sub r o n=> .sub (A2q ren r) o n
 | .pa r i c=> .pa (A2q ren r) i c
 | .ptr r i c=> .ptr (A2q ren r) i c
 | .clo g caps=> .clo g (caps.map (A75 ren))
 |l=>l
def N8 (ren:List (Nat×Nat))(σ:St):List (Nat×Nat)→List (Nat×A6)
 |[]=>[]
 |(r,n)::t=>match σ.look r with
  |some row=>W5 n (row.map (C4 ren)) (N8 ren σ t)
  |none=>N8 ren σ t
def A0x (n:Nat):List Nat→List (Nat×Nat)→List (Nat×Nat)
 |[],acc=>acc
 |r::t,acc=>match look r acc with
  |some _=>A0x n t acc
  |none=>A0x (n+1) t (acc++[(r,n)])
def A3o (mask:Nat):Nat→List AV→List (Nat×Nat)→List (Nat×Nat)
 |_,[],acc=>acc
 |i,a::t,acc=>bif mask.testBit i then A3o mask (i+1) t (A0x (i*64+40) a.refs acc)else A3o mask (i+1) t acc
def A3n (σ:St):List (Nat×Nat)→List (Nat×Nat)→List (Nat×Nat)
 |[],acc=>acc
 |(r,n)::t,acc=>match σ.look r with
  |some row=>A3n σ t (A0x (n+8) row.refs acc)
  |none=>A3n σ t acc
def St.clean0 (k:U8)(σ:St):Option St:=
 bif σ.pins.all (fun l=>l.refs.all (E6 · k.rows))then
  (L9 k.mask k.rows 0 σ.slots).bind fun ss=>(P2 k.rows σ.rows).bind fun rs=>some {slots:=ss,rows:=rs,pins:=σ.pins}
 else none
def St.renTop (σ:St)(mask:Nat):List (Nat×Nat):=A0x 1 (σ.pins.flatMap A0.refs) (A3o mask 0 σ.slots [])
def St.renOf (σ:St)(mask:Nat):List (Nat×Nat):=A3n σ (σ.renTop mask) (σ.renTop mask)
def B0q (σ:St):A0→List Nat
 | .ow r=>match σ.look r with
  |some (.data _ _)=>[r]
  |_=>[]
 |_=>[]
def B20 (σ:St):A0→List Nat
 | .ptr r _ _=>match σ.look r with
  |some (.box _ ls)=>ls.flatMap (B0q σ)
  |_=>[]
 |l=>B0q σ l
def B1j (σ:St)(ss:List Nat):List Nat:=ss.flatMap fun i=>(σ.slots.getD i A1).leaves.flatMap (B20 σ)
def St.clean (k:U8)(σ:St):Option St:=(σ.freeze (B1j σ k.rows)).bind fun σ=>
 bif distinct ((σ.renOf k.mask).map (·.1))&&distinct ((σ.renOf k.mask).map (·.2))then
  (σ.clean0 ⟨k.mask,(σ.renOf k.mask).map (·.1)⟩).bind fun τ=>some {slots:=τ.slots.map (AV.map (C4 (σ.renOf k.mask))),rows:=N8 (σ.renOf k.mask) τ (σ.renOf k.mask),pins:=τ.pins.map (C4 (σ.renOf k.mask))}
 else none
def G5:Code→Option Nat
 | .region id _ _=>some id
 | .seq a b=>match G5 a with
  |some i=>some i
  |none=>G5 b
 | .cond _ a b=>match G5 a with
  |some i=>some i
  |none=>G5 b
 | .block _ a| .loop a| .scope a=>G5 a
 |_=>none
inductive Dir where
 |l|r|t|f|b|p
def Dir.same:Dir→Dir→Bool
 | .l,.l| .r,.r| .t,.t| .f,.f| .b,.b| .p,.p=>true
 |_,_=>false
def X1:List Dir→List Dir→Bool
 |[],[]=>true
 |a::s,b::t=>bif a.same b then X1 s t else false
 |_,_=>false
abbrev Orc (R:Type):=List Dir→List Nat→St→Option R
abbrev Tab (R:Type):=List (List Dir×(List Nat→St→Option R))
def A4b {α:Type}(p:List Dir):List (List Dir×α)→Option α
 |[]=>none
 |(q,v)::t=>bif X1 q p then some v else A4b p t
def A1a {R:Type}(T:Tab R):Orc R:=fun p js σ=>match A4b p T with
 |some w=>w js σ
 |none=>none
def B1w {R:Type}(f:St→(Ex→St→Option R)→Option R)(κ:Ex→St→Option R):Ex→St→Option R:=fun e σ'=>match e with
 | .normal=>f σ' κ
 |e=>κ e σ'
def A6o {R:Type}(id:Nat)(κ:Ex→St→Option R):Ex→St→Option R:=fun e σ'=>match e with
 | .exit j=>bif Nat.beq j id then κ .normal σ' else κ (.exit j) σ'
 |e=>κ e σ'
def A5g {R:Type}(k:U8)(f:St→Option R)(κ:Ex→St→Option R):Ex→St→Option R:=fun e σ'=>match e with
 | .normal=>match σ'.clean k with
  |some σ''=>f σ''
  |none=>none
 |e=>κ e σ'
def A6w (ks:List (Nat×U8))(body:Code):U8:=((G5 body).bind fun i=>look i ks).getD ⟨0,[]⟩
def V6 (ks:List (Nat×U8))(b:Code):Option U8:=match b with
 | .loop _=>none
 |b=>match ks with
  |[]=>none
  |ks=>(G5 b).bind fun i=>look (i+1000000) ks
def A91 (ks:List (Nat×U8))(b:Code):Bool:=match V6 ks b,G5 b with
 |some _,some i=>match look (i+2000000) ks with
  |some _=>true
  |none=>false
 |_,_=>false
def L2 (c:Code):List Dir→Option Code
 |[]=>some c
 | .r::p=>match L2 c p with
  |some (.seq _ b)=>some b
  |_=>none
 |_=>none
def M1 (ks:List (Nat×U8))(c:Code):List Dir→Bool
 |[]=>false
 | .r::p=>M1 ks c p||(match L2 c (.r::p)with
  |some y=>A91 ks y
  |none=>false)
 |_::p=>M1 ks c p
def A8p {R:Type}(o:Option U8)(f:St→Option R)(g:St→(Ex→St→Option R)→Option R)(κ:Ex→St→Option R):Ex→St→Option R:=match o with
 |some k=>A5g k f κ
 |none=>B1w g κ
section
variable {R:Type} (C:CF) (deep:Bool) (ks:List (Nat×U8)) (n:Nat) (W:Orc R)
def B9:Code→List Nat→List Dir→St→(Ex→St→Option R)→Option R
 | .skip,_,_,σ,κ=>κ .normal σ
 | .label _,_,_,σ,κ=>κ .normal σ
 | .region _ ops draw,_,_,σ,κ=>bif draw then A30 E C deep ops (M4 0 (C9 ops.toList [])) σ fun σ'=>κ .normal σ' else R8 E C deep ops ops.toList σ fun σ'=>κ .normal σ'
 | .seq a b,js,p,σ,κ=>B9 a js (.l::p) σ (A8p (V6 ks b) (W (.r::p) (1::js)) (B9 b js (.r::p)) κ)
 | .cond c x y,js,p,σ,κ=>match c with
  | .tmp t=>match σ.slots.getD t A1 with
   | .v (.one (.bool b))=>bif b then B9 x js (.t::p) (σ.put (some t) (.v (.one (.bool true)))) κ else B9 y js (.f::p) (σ.put (some t) (.v (.one (.bool false)))) κ
   |_=>none
  | .const (.bool b)=>bif b then B9 x js (.t::p) σ κ else B9 y js (.f::p) σ κ
  |_=>none
 | .block id body,js,p,σ,κ=>B9 body js (.b::p) σ (A6o id κ)
 | .loop body,js,p,σ,_=>match σ.clean (A6w ks body)with
  |some σ=>W p (n::js) σ
  |none=>none
 | .exit id,_,_,σ,κ=>κ (.exit id) σ
 | .ret,_,_,σ,κ=>κ .ret σ
 |_,_,_,_,_=>none
def partAt (c:Code)(κ:Ex→St→Option R):List Dir→List Nat→Option (Code×(Ex→St→Option R))
 |[],[]=>some (c,κ)
 | .l::p,js=>match partAt c κ p js with
  |some (.seq a b,κ)=>some (a,A8p (V6 ks b) (W (.r::p) (1::js)) (B9 E C deep ks n W b js (.r::p)) κ)
  |_=>none
 | .r::p,js=>match partAt c κ p js with
  |some (.seq _ b,κ)=>some (b,κ)
  |_=>none
 | .t::p,js=>match partAt c κ p js with
  |some (.cond _ x _,κ)=>some (x,κ)
  |_=>none
 | .f::p,js=>match partAt c κ p js with
  |some (.cond _ _ y,κ)=>some (y,κ)
  |_=>none
 | .b::p,js=>match partAt c κ p js with
  |some (.block id body,κ)=>some (body,A6o id κ)
  |_=>none
 | .p::p,j::js=>match partAt c κ p js with
  |some (.loop body,κ)=>some (body,A5g (A6w ks body) (W p (j::js)) κ)
  |_=>none
 |_,_=>none
def A0u (c:Code)(κ:Ex→St→Option R)(p:List Dir)(js:List Nat)(j:Nat)(σ:St):Option R:=match partAt E C deep ks n W c κ p js with
 |some (.loop body,κ)=>B9 E C deep ks n W body (j::js) (.p::p) σ (A5g (A6w ks body) (W p (j::js)) κ)
 |some (b,κ)=>B9 E C deep ks n W b js p σ κ
 |none=>none
end

def K5 (md:Md)(p:Nat)(x:TV):TV×List (Nat×A6):=match md with
 | .bx f=>(.one (.ptr (key (some p) 63) 0 0),(key (some p) 63,.box f (instLeaves (some p) 0 x.leaves).1)::(instLeaves (some p) 0 x.leaves).2)
 |_=>instTV (some p) 0 x
def V7 (md:Md)(p:Nat)(x:TV):List A0:=match md with
 | .bx _=>[.ptr (key (some p) 63) 0 0]
 | .io=>(instLeaves (some p) 0 x.leaves).1.filter fun| .ow _=>true|_=>false
 |_=>[]
def F8 (ms:List Md):Nat→List TV→List AV×List (Nat×A6)
 |_,[]=>([],[])
 |p,x::t=>(.v (K5 (B0 ms p) p x).1::(F8 ms (p+1) t).1,(K5 (B0 ms p) p x).2++(F8 ms (p+1) t).2)
def X5 (ms:List Md):Nat→List TV→List A0
 |_,[]=>[]
 |p,x::t=>V7 (B0 ms p) p x++X5 ms (p+1) t
def entry (ms:List Md)(ntmps:Nat)(args:List TV):Option St:=
 bif !args.all (fun x=>Nat.ble x.leaves.length 63)then none else({slots:=(F8 ms 0 args).1++List.replicate (ntmps - args.length) A1,rows:=[],pins:=X5 ms 0 args}:St).addRows (F8 ms 0 args).2
def A3p (deep:Bool)(σ:St):ResultVar→Option TV
 | .tmp t=>σ.evT (.tmp t)
 | .cell a t=>(loadT E deep t (.tmp a) σ).bind fun x=>match x with
  | .one .undef=>none
  |x=>some x
def E1 (deep:Bool)(σ:St):List A0→List Nat
 |[]=>[]
 | .ow r::t=>(match σ.look r with
   |some (.data f _)=>bif deep||f.flat then [r]else []
   |_=>[])++E1 deep σ t
 | .sub r off _::t=>(match σ.look r with
   |some (.data f _)=>bif(deep||f.flat)&&Nat.beq off 0 then [r]else []
   |_=>[])++E1 deep σ t
 |_::t=>E1 deep σ t
def A1c (deep:Bool)(back:List Nat)(σ:St):A0→Option A0
 | .ow r=>match σ.look r with
  |some (.data f xs)=>bif deep||f.flat then some (.od f xs)else some (.sh f xs)
  |_=>none
 | .sub r off len=>match σ.look r with
  |some (.data f xs)=>bif(deep||f.flat)&&Nat.beq off 0 then some (.od f (xs.take len))else bif E6 r back then none else H3 σ (.sub r off len)
  |_=>none
 | .int k n=>some (.int k n)
 | .bool b=>some (.bool b)
 | .str s=>some (.str s)
 | .sh f xs=>some (.sh f xs)
 |_=>none
def A7p (σ:St):A0→Option TV
 | .ow r=>match σ.look r with
  |some (.data _ _)=>some (.one (.ow r))
  |_=>none
 | .ptr r 0 0=>match σ.look r with
  |some (.box _ ls)=>some (.agg ls)
  |_=>none
 |_=>none
def R5:List A0→List Nat
 |[]=>[]
 | .ptr r _ _::t=>r::R5 t
 |_::t=>R5 t
def A6a (deep:Bool)(fn:Func)(σ:St):Option AV:=
 (fn.results.toList.mapM (A3p E deep σ)).bind fun rs=>
 (σ.pins.mapM (A7p σ)).bind fun ps=>
 bif distinct (E1 deep σ ((rs++ps).flatMap TV.leaves))&&distinct (R5 σ.pins)then
  ((rs++ps).mapM (TV.mapM (A1c deep (E1 deep σ ((rs++ps).flatMap TV.leaves)) σ))).bind fun ys=>some (match σ.pins with
   |[]=>A2n ys
   |_=> .tup ys)
 else none
def A58 (deep:Bool)(f:Kd)(fn:Func)(σ:St):Option AV:=
 (fn.results.toList.mapM (A3p E deep σ)).bind fun rs=>match rs,σ.pins with
  |[.one (.ptr r 0 0)],[]=>match σ.look r with
   |some (.box g ls)=>bif decide (g=f)&&distinct (E1 deep σ ls)then(ls.mapM (A1c deep (E1 deep σ ls) σ)).map fun ms=> .tup [.agg ms]else none
   |_=>none
  |_,_=>none
def A6i (deep:Bool)(fn:Func)(σ:St)(ss:List Nat):List Nat:=match fn.results.toList.mapM (A3p E deep σ)with
 |some rs=>ss.flatMap fun j=>match(rs.flatMap TV.leaves)[j]? with
  |some l=>B0q σ l
  |none=>[]
 |none=>[]
def A5t {T:Type}(deep:Bool)(rb:Option Kd)(soft:List Nat)(fn:Func)(U:AV→Option T):Ex→St→Option T:=fun e σ=>match e with
 | .ret| .normal=>(match rb with
  |none=>(σ.freeze (A6i E deep fn σ soft)).bind fun σ=>A6a E deep fn σ
  |some f=>A58 E deep f fn σ).bind U
 |_=>none
def A1r {T:Type}(C:CF)(n:Nat)(g:Nat)(W:Tab T)(args:List TV)(U:AV→Option T):Option T:=
 match look g E.fnT with
 |some fn=>match fn.body with
  |some c=>match entry (E.sig g).modes fn.ntmps args with
   |some σ=>B9 E C (E.sig g).deep ((look g E.kpT).getD []) n (A1a W) c [] [] σ (A5t E (E.sig g).deep (E.sig g).rbx (E.sig g).soft fn U)
   |none=>none
  |none=>none
 |none=>none
def A3u {T:Type}(C:CF)(n:Nat)(g:Nat)(W:Tab T)(U:AV→Option T)(p:List Dir)(js:List Nat)(j:Nat)(σ:St):Option T:=
 match look g E.fnT with
 |some fn=>match fn.body with
  |some c=>match M1 ((look g E.kpT).getD []) c p with
   |false=>A0u E C (E.sig g).deep ((look g E.kpT).getD []) n (A1a W) c (A5t E (E.sig g).deep (E.sig g).rbx (E.sig g).soft fn U) p js j σ
   |true=>A0u E C false ((look g E.kpT).getD []) n (A1a W) c (A5t E false (E.sig g).rbx (E.sig g).soft fn U) p js j σ
  |none=>none
 |none=>none
end
end Go.Proofs.Ytalmhjlcjcnidaa.Ev
