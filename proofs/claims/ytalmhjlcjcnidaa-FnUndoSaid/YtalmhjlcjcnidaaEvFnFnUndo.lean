/- The functions that the law FnUndo reaches, as typed functions. -/
import Derived.Test.YtalmhjlcjcnidaaEvCore
set_option linter.all false
namespace Go.Proofs.Ytalmhjlcjcnidaa.Ev
open Go
abbrev Y1:Type:=(Int×(Int×ByteArray))
abbrev Y2:Type:=((List Int)×(Int×Int))
abbrev Y3:Type:=List Y1
abbrev Y4:Type:=(Y3)
abbrev Y5:Type:=(Bool×Y1)
abbrev Y6:Type:=List Y4
abbrev Y7:Type:=(Y6)
abbrev Y8:Type:=(Int×(Y2×Unit))
abbrev Y9:Type:=(Bool×Y5)
abbrev Y10:Type:=(ByteArray×(Y2×Unit))
abbrev Y11:Type:=(Int×Y9)
abbrev Y12:Type:=(Y7×(Int×Unit))
abbrev Y13:Type:=(ByteArray×Y11)
abbrev Y14:Type:=(Y1×(Y2×Unit))
abbrev Y15:Type:=List Y13
abbrev Y16:Type:=(Y15)
abbrev Y17:Type:=(Y4×(Y2×Unit))
abbrev Y18:Type:=(Y7×(Y2×Unit))
abbrev Y19:Type:=(Y16×(List ByteArray))
abbrev Y20:Type:=(ByteArray×Y19)
abbrev Y21:Type:=(Y20×(Y2×Unit))
abbrev Y22:Type:=(Y20×Y18)
def B45 (n:Nat):Nat→List Int→Int→Int→Option (Y2×Unit)
  |0,_,_,_=>none
  |j+1,x3,x4,x5=>bif decide (x5<(x3.length:Int))then bif decide (x5<(4000:Int))then bif inR x5 x3.length then let v6:Int:=(IntKind.wrap .i64 (x3.getD x5.toNat 0));let v7:Int:=(IntKind.wrap .i64 ((IntKind.wrap .i64 (x4*(157:Int)))+v6));let v8:Int:=(IntKind.wrap .i64 ((BitVec.ofInt (IntKind.bits .i64) (IntKind.wrap .i64 (v7+(7:Int)))&&&BitVec.ofInt (IntKind.bits .i64) 1073741823).toNat:Int));B45 n j x3 v8 (IntKind.wrap .i64 (x5+(1:Int)))else none else some ((x3,((0:Int),x4)),())else some ((x3,((0:Int),x4)),())
def B6x:Nat→(List Int)→Option (Y2×Unit)
  |0,_=>none
  |n+1,a1=>let v2:Int:=(IntKind.wrap .i64 ((942001:Int)+(a1.length:Int)));B45 n n a1 v2 0
def B3f:Nat→(List Int)→Int→Int→Option Y8
  |0,_,_,_=>none
  |n+1,a1,a2,a3=>let v4:Int:=(IntKind.wrap .i64 (a3*(6364136223846793005:Int)));let v5:Int:=(IntKind.wrap .i64 (v4+(1442695040888963407:Int)));bif decide (0≤(33:Int))then let v6:Int:=(Int.fdiv v5 (2^min (33:Int).toNat (IntKind.bits .i64)));bif decide (0≤(45:Int))then let v7:Int:=(Int.fdiv v5 (2^min (45:Int).toNat (IntKind.bits .i64)));let v8:Int:=(IntKind.wrap .i64 ((BitVec.ofInt (IntKind.bits .i64) v6^^^BitVec.ofInt (IntKind.bits .i64) v7).toNat:Int));let v9:Int:=(IntKind.wrap .i64 ((BitVec.ofInt (IntKind.bits .i64) v8&&&BitVec.ofInt (IntKind.bits .i64) 255).toNat:Int));bif decide (a2<(a1.length:Int))then bif inR a2 a1.length then let v10:Int:=(IntKind.wrap .i64 (a1.getD a2.toNat 0));let v11:Int:=(IntKind.wrap .i64 ((BitVec.ofInt (IntKind.bits .i64) (IntKind.wrap .i64 (v9+v10))&&&BitVec.ofInt (IntKind.bits .i64) 255).toNat:Int));some (v11,((a1,((IntKind.wrap .i64 (a2+(1:Int))),v5)),()))else none else some (v9,((a1,(a2,v5)),()))else none else none
def C3:Nat→(List Int)→Int→Int→Int→Option Y8
  |0,_,_,_,_=>none
  |n+1,a1,a2,a3,a4=>bif decide (a4≤(0:Int))then some ((0:Int),((a1,(a2,a3)),()))else bif decide (a4≤(256:Int))then (B3f n a1 a2 a3).bind fun r5=>bif !decide (a4=0)then some ((Int.tmod r5.1 a4),((r5.2.1.1,(r5.2.1.2.1,r5.2.1.2.2)),()))else none else (B3f n a1 a2 a3).bind fun r6=>(B3f n r6.2.1.1 r6.2.1.2.1 r6.2.1.2.2).bind fun r7=>(B3f n r7.2.1.1 r7.2.1.2.1 r7.2.1.2.2).bind fun r8=>(B3f n r8.2.1.1 r8.2.1.2.1 r8.2.1.2.2).bind fun r9=>let v10:Int:=(IntKind.wrap .i64 (r6.1*(16777216:Int)));let v11:Int:=(IntKind.wrap .i64 (r7.1*(65536:Int)));let v12:Int:=(IntKind.wrap .i64 (r8.1*(256:Int)));let v13:Int:=(IntKind.wrap .i64 ((IntKind.wrap .i64 (v10+v11))+v12));bif !decide (a4=0)then let v14:Int:=(Int.tmod (IntKind.wrap .i64 (v13+r9.1)) a4);some (v14,((r9.2.1.1,(r9.2.1.2.1,r9.2.1.2.2)),()))else none
def B5v:Nat→(List Int)→Int→Int→Option Y10
  |0,_,_,_=>none
  |n+1,a1,a2,a3=>let v4:List ByteArray:=[(⟨#[105,100]⟩:ByteArray),(⟨#[97]⟩:ByteArray),(⟨#[98]⟩:ByteArray),(⟨#[99]⟩:ByteArray),(⟨#[100]⟩:ByteArray),(⟨#[101]⟩:ByteArray)];(C3 n a1 a2 a3 6).bind fun r5=>bif inR r5.1 v4.length then let v6:ByteArray:=(v4.getD r5.1.toNat ⟨#[]⟩);some (v6,((r5.2.1.1,(r5.2.1.2.1,r5.2.1.2.2)),()))else none
def B4m (n:Nat):Nat→ByteArray→Y15→Int→Int→Option Int
  |0,_,_,_,_=>none
  |j+1,x5,x6,x7,x8=>bif decide (x8<x7)then bif inR x8 x6.length then let v9:=(x6.getD x8.toNat (⟨#[]⟩,(0,(false,(false,(0,(0,⟨#[]⟩)))))));bif v9.1.toList==x5.toList then some x8 else B4m n j x5 x6 x7 (IntKind.wrap .i64 (x8+(1:Int)))else none else some (-1:Int)
def B5j:Nat→ByteArray→Y16→(List ByteArray)→ByteArray→Option Int
  |0,_,_,_,_=>none
  |n+1,a1,a2,a3,a4=>B4m n n a4 a2 a2.length 0
def B46 (n:Nat):Nat→Int→Int→List Int→Int→Int→List Int→Option Y10
  |0,_,_,_,_,_,_=>none
  |j+1,x8,x9,x10,x11,x12,x13=>bif decide (x9<x8)then (B3f n x10 x11 x12).bind fun r14=>bif room (x13.length+([(IntKind.wrap .u8 r14.1)]:List Int).length) 1 then let v15:List Int:=(x13++([(IntKind.wrap .u8 r14.1)]:List Int));B46 n j x8 (IntKind.wrap .i64 (x9+(1:Int))) r14.2.1.1 r14.2.1.2.1 r14.2.1.2.2 v15 else none else some ((strOfNums x13),((x10,(x11,x12)),()))
def B6z:Nat→(List Int)→Int→Int→Option Y10
  |0,_,_,_=>none
  |n+1,a1,a2,a3=>(C3 n a1 a2 a3 10).bind fun r4=>bif decide (r4.1<(7:Int))then let v5:List ByteArray:=[(⟨#[]⟩:ByteArray),(⟨#[97]⟩:ByteArray),(⟨#[98]⟩:ByteArray),(⟨#[97,98]⟩:ByteArray),(⟨#[116,114,117,101]⟩:ByteArray),(⟨#[102,97,108,115,101]⟩:ByteArray),(⟨#[49,50]⟩:ByteArray)];bif inR r4.1 v5.length then let v6:ByteArray:=(v5.getD r4.1.toNat ⟨#[]⟩);some (v6,((r4.2.1.1,(r4.2.1.2.1,r4.2.1.2.2)),()))else none else bif r4.1==(7:Int)then some ((⟨#[105,116,39,115,32,53,37,10]⟩:ByteArray),((r4.2.1.1,(r4.2.1.2.1,r4.2.1.2.2)),()))else (C3 n r4.2.1.1 r4.2.1.2.1 r4.2.1.2.2 31).bind fun r7=>B46 n n r7.1 0 r7.2.1.1 r7.2.1.2.1 r7.2.1.2.2 ([]:List Int)
def B5k:Nat→(List Int)→Int→Int→Int→Option Y14
  |0,_,_,_,_=>none
  |n+1,a1,a2,a3,a4=>(C3 n a1 a2 a3 8).bind fun r5=>bif r5.1==(0:Int)then some (((0:Int),((0:Int),(⟨#[]⟩:ByteArray))),((r5.2.1.1,(r5.2.1.2.1,r5.2.1.2.2)),()))else bif a4==(1:Int)then (C3 n r5.2.1.1 r5.2.1.2.1 r5.2.1.2.2 2).bind fun r6=>some ((a4,(r6.1,(⟨#[]⟩:ByteArray))),((r6.2.1.1,(r6.2.1.2.1,r6.2.1.2.2)),()))else bif a4==(2:Int)then (C3 n r5.2.1.1 r5.2.1.2.1 r5.2.1.2.2 12).bind fun r7=>some ((a4,((IntKind.wrap .i64 (r7.1 - 2)),(⟨#[]⟩:ByteArray))),((r7.2.1.1,(r7.2.1.2.1,r7.2.1.2.2)),()))else bif a4==(3:Int)then (B6z n r5.2.1.1 r5.2.1.2.1 r5.2.1.2.2).bind fun r8=>some ((a4,((0:Int),r8.1)),((r8.2.1.1,(r8.2.1.2.1,r8.2.1.2.2)),()))else some (((0:Int),((0:Int),(⟨#[]⟩:ByteArray))),((r5.2.1.1,(r5.2.1.2.1,r5.2.1.2.2)),()))
def B72:Nat→(List Int)→Int→Int→ByteArray→Option (Y13×(Y2×Unit))
  |0,_,_,_,_=>none
  |n+1,a1,a2,a3,a4=>(C3 n a1 a2 a3 3).bind fun r5=>(C3 n r5.2.1.1 r5.2.1.2.1 r5.2.1.2.2 3).bind fun r6=>(C3 n r6.2.1.1 r6.2.1.2.1 r6.2.1.2.2 2).bind fun r7=>bif r7.1==(0:Int)then (B5k n r7.2.1.1 r7.2.1.2.1 r7.2.1.2.2 (IntKind.wrap .i64 ((1:Int)+r5.1))).bind fun r8=>bif r6.1==(0:Int)then bif r8.1.1==(0:Int)then some ((a4,((IntKind.wrap .i64 ((1:Int)+r5.1)),((r6.1==(0:Int)),((r7.1==(0:Int)),((IntKind.wrap .i64 ((1:Int)+r5.1)),((0:Int),(⟨#[]⟩:ByteArray))))))),((r8.2.1.1,(r8.2.1.2.1,r8.2.1.2.2)),()))else some ((a4,((IntKind.wrap .i64 ((1:Int)+r5.1)),((r6.1==(0:Int)),((r7.1==(0:Int)),(r8.1.1,(r8.1.2.1,r8.1.2.2)))))),((r8.2.1.1,(r8.2.1.2.1,r8.2.1.2.2)),()))else some ((a4,((IntKind.wrap .i64 ((1:Int)+r5.1)),((r6.1==(0:Int)),((r7.1==(0:Int)),(r8.1.1,(r8.1.2.1,r8.1.2.2)))))),((r8.2.1.1,(r8.2.1.2.1,r8.2.1.2.2)),()))else some ((a4,((IntKind.wrap .i64 ((1:Int)+r5.1)),((r6.1==(0:Int)),((r7.1==(0:Int)),((0:Int),((0:Int),(⟨#[]⟩:ByteArray))))))),((r7.2.1.1,(r7.2.1.2.1,r7.2.1.2.2)),()))
def B3b (n:Nat):Nat→Int→List Int→Int→Int→ByteArray→Y15→List ByteArray→ByteArray→Y15→List ByteArray→Option Y21
  |0,_,_,_,_,_,_,_,_,_,_=>none
  |j+1,x10,x11,x12,x13,x14,x15,x16,x17,x18,x19=>bif decide ((0:Int)<x10)then (B5v n x11 x12 x13).bind fun r20=>(B5j n x17 x18 x19 r20.1).bind fun r21=>bif decide (r21<(0:Int))then (B72 n r20.2.1.1 r20.2.1.2.1 r20.2.1.2.2 r20.1).bind fun r22=>let v23:Y15:=[(r22.1.1,(r22.1.2.1,(r22.1.2.2.1,(r22.1.2.2.2.1,(r22.1.2.2.2.2.1,(r22.1.2.2.2.2.2.1,r22.1.2.2.2.2.2.2))))))];bif room (x18.length+v23.length) 64 then B3b n j (IntKind.wrap .i64 (x10 - 1)) r22.2.1.1 r22.2.1.2.1 r22.2.1.2.2 x14 x15 x16 x17 (x18++v23) x19 else none else B3b n j (IntKind.wrap .i64 (x10 - 1)) r20.2.1.1 r20.2.1.2.1 r20.2.1.2.2 x14 x15 x16 x17 x18 x19 else let v24:Int:=(IntKind.wrap .i64 ((x18.length:Int) - 1));bif inR v24 x18.length then let v25:ByteArray:=(x18.getD v24.toNat (⟨#[]⟩,(0,(false,(false,(0,(0,⟨#[]⟩))))))).1;let v26:Int:=(x18.getD v24.toNat (⟨#[]⟩,(0,(false,(false,(0,(0,⟨#[]⟩))))))).2.1;let v27:Bool:=(x18.getD v24.toNat (⟨#[]⟩,(0,(false,(false,(0,(0,⟨#[]⟩))))))).2.2.1;let v28:Bool:=(x18.getD v24.toNat (⟨#[]⟩,(0,(false,(false,(0,(0,⟨#[]⟩))))))).2.2.2.1;let v29:Int:=(x18.getD v24.toNat (⟨#[]⟩,(0,(false,(false,(0,(0,⟨#[]⟩))))))).2.2.2.2.1;let v30:Int:=(x18.getD v24.toNat (⟨#[]⟩,(0,(false,(false,(0,(0,⟨#[]⟩))))))).2.2.2.2.2.1;let v31:ByteArray:=(x18.getD v24.toNat (⟨#[]⟩,(0,(false,(false,(0,(0,⟨#[]⟩))))))).2.2.2.2.2.2;bif v27 then let v32:Bool:=(decide ((1:Int)<(x18.length:Int)));bif v32 then (C3 n x11 x12 x13 3).bind fun r33=>bif r33.1==(0:Int)then bif room (x19.length+([v25]:List ByteArray).length) 16 then some ((x17,(x18,(x19++([v25]:List ByteArray)))),((r33.2.1.1,(r33.2.1.2.1,r33.2.1.2.2)),()))else none else some ((x17,(x18,x19)),((r33.2.1.1,(r33.2.1.2.1,r33.2.1.2.2)),()))else some ((x17,(x18,x19)),((x11,(x12,x13)),()))else some ((x17,(x18,x19)),((x11,(x12,x13)),()))else none
def B5u:Nat→(List Int)→Int→Int→ByteArray→Option Y21
  |0,_,_,_,_=>none
  |n+1,a1,a2,a3,a4=>let v5:Y15:=[];let v6:Y15:=[((⟨#[105,100]⟩:ByteArray),((2:Int),(true,(false,((0:Int),((0:Int),(⟨#[]⟩:ByteArray)))))))];let v7:List ByteArray:=[(⟨#[105,100]⟩:ByteArray)];let v8:Y15:=[];(C3 n a1 a2 a3 4).bind fun r9=>B3b n n r9.1 r9.2.1.1 r9.2.1.2.1 r9.2.1.2.2 (⟨#[]⟩:ByteArray) v5 ([]:List ByteArray) a4 v6 v7
def B3t (n:Nat)(k0:Y15→Int→Int→List Int→Int→Int→Y3→Y3→Option Y17):Nat→Int→Y15→Int→Int→List Int→Int→Int→Y3→Y3→ByteArray→Int→Bool→Bool→Int→Int→ByteArray→Int→Int→ByteArray→Option Y17
  |0,_,_,_,_,_,_,_,_,_,_,_,_,_,_,_,_,_,_,_=>none
  |j+1,x17,x18,x19,x20,x21,x22,x23,x24,x25,x26,x27,x28,x29,x30,x31,x32,x33,x34,x35=>bif decide (x17<(9:Int))then bif x28 then bif x33==(0:Int)then (B5k n x21 x22 x23 x27).bind fun r36=>B3t n k0 j (IntKind.wrap .i64 (x17+(1:Int))) x18 x19 x20 r36.2.1.1 r36.2.1.2.1 r36.2.1.2.2 x24 x25 x26 x27 x28 x29 x30 x31 x32 r36.1.1 r36.1.2.1 r36.1.2.2 else let v37:Y3:=[(x33,(x34,x35))];bif room (x25.length+v37.length) 32 then k0 x18 x19 (IntKind.wrap .i64 (x20+(1:Int))) x21 x22 x23 x24 (x25++v37)else none else let v38:Y3:=[(x33,(x34,x35))];bif room (x25.length+v38.length) 32 then k0 x18 x19 (IntKind.wrap .i64 (x20+(1:Int))) x21 x22 x23 x24 (x25++v38)else none else let v39:Y3:=[(x33,(x34,x35))];bif room (x25.length+v39.length) 32 then k0 x18 x19 (IntKind.wrap .i64 (x20+(1:Int))) x21 x22 x23 x24 (x25++v39)else none
def B2q (n:Nat):Nat→Y15→Int→Int→List Int→Int→Int→Y3→Y3→Option Y17
  |0,_,_,_,_,_,_,_,_=>none
  |j+1,x7,x8,x9,x10,x11,x12,x13,x14=>bif decide (x9<x8)then bif inR x9 x7.length then let v15:=(x7.getD x9.toNat (⟨#[]⟩,(0,(false,(false,(0,(0,⟨#[]⟩)))))));(B5k n x10 x11 x12 v15.2.1).bind fun r16=>B3t n (fun y40 y41 y42 y43 y44 y45 y46 y47=>B2q n j y40 y41 y42 y43 y44 y45 y46 y47) n 0 x7 x8 x9 r16.2.1.1 r16.2.1.2.1 r16.2.1.2.2 x13 x14 v15.1 v15.2.1 v15.2.2.1 v15.2.2.2.1 v15.2.2.2.2.1 v15.2.2.2.2.2.1 v15.2.2.2.2.2.2 r16.1.1 r16.1.2.1 r16.1.2.2 else none else some (x14,((x10,(x11,x12)),()))
def B5x:Nat→(List Int)→Int→Int→ByteArray→Y16→(List ByteArray)→Option Y17
  |0,_,_,_,_,_,_=>none
  |n+1,a1,a2,a3,a4,a5,a6=>B2q n n a5 a5.length 0 a1 a2 a3 ([]:Y3) ([]:Y3)
def B44 (n:Nat):Nat→ByteArray→Int→Option Bool
  |0,_,_=>none
  |j+1,x2,x3=>bif decide (x3<(x2.size:Int))then bif inR x3 x2.size then bif decide ((bt x2 x3)<97)then some false else bif inR x3 x2.size then bif decide ((122:Int)<(bt x2 x3))then some false else B44 n j x2 (IntKind.wrap .i64 (x3+(1:Int)))else none else none else bif decide ((1:Int)≤(x2.size:Int))then some (decide ((x2.size:Int)≤8))else some false
def B6d:Nat→ByteArray→Option Bool
  |0,_=>none
  |n+1,a1=>B44 n n a1 0
def B6y:Nat→Int→Option Bool
  |0,_=>none
  |n+1,a1=>bif decide ((-1099511627775:Int)≤a1)then some (decide (a1≤(1099511627775:Int)))else some false
def B4u:Nat→Int→Int→ByteArray→Option Bool
  |0,_,_,_=>none
  |n+1,a1,a2,a3=>bif a1==(0:Int)then bif a2==(0:Int)then let v4:Bool:=(a3.toList==(⟨#[]⟩:ByteArray).toList);some v4 else some false else bif a1==(1:Int)then bif a2==(0:Int)then let v5:Bool:=(a3.toList==(⟨#[]⟩:ByteArray).toList);some v5 else bif a2==(1:Int)then let v6:Bool:=(a3.toList==(⟨#[]⟩:ByteArray).toList);some v6 else some false else bif a1==(2:Int)then (B6y n a2).bind fun r7=>bif r7 then let v8:Bool:=(a3.toList==(⟨#[]⟩:ByteArray).toList);some v8 else some false else bif a1==(3:Int)then bif a2==(0:Int)then some (decide ((a3.size:Int)≤30))else some false else some false
def B7p:Nat→ByteArray→Int→Bool→Bool→Int→Int→ByteArray→Option Bool
  |0,_,_,_,_,_,_,_=>none
  |n+1,a1,a2,a3,a4,a5,a6,a7=>let v8:Bool:=((a5==(0:Int))&&((a6==(0:Int))&&((a7.toList==(⟨#[]⟩:ByteArray).toList)&&true)));(B6d n a1).bind fun r9=>bif !r9 then some false else bif decide (a2<(1:Int))then some false else bif decide ((3:Int)<a2)then some false else bif !a4 then some v8 else (B4u n a5 a6 a7).bind fun r10=>bif r10 then bif v8 then bif v8 then some (!a3)else some true else bif a5==a2 then bif v8 then some (!a3)else some true else some false else some false
def B3a (n:Nat):Nat→Int→List ByteArray→Int→Int→ByteArray→Y15→List ByteArray→Option Bool
  |0,_,_,_,_,_,_,_=>none
  |j+1,x17,x18,x19,x20,x21,x22,x23=>bif decide (x20<x19)then bif inR x20 x18.length then let v24:ByteArray:=(x18.getD x20.toNat ⟨#[]⟩);(B5j n x21 x22 x23 v24).bind fun r25=>bif decide (r25≤x17)then some false else bif inR r25 x22.length then let v26:=(x22.getD r25.toNat (⟨#[]⟩,(0,(false,(false,(0,(0,⟨#[]⟩)))))));bif !v26.2.2.1 then some false else B3a n j r25 x18 x19 (IntKind.wrap .i64 (x20+(1:Int))) x21 x22 x23 else none else none else some true
def B39 (n:Nat):Nat→Y15→Int→Int→ByteArray→Y15→List ByteArray→Option Bool
  |0,_,_,_,_,_,_=>none
  |j+1,x8,x9,x10,x11,x12,x13=>bif decide (x10<x9)then bif inR x10 x8.length then let v14:=(x8.getD x10.toNat (⟨#[]⟩,(0,(false,(false,(0,(0,⟨#[]⟩)))))));(B7p n v14.1 v14.2.1 v14.2.2.1 v14.2.2.2.1 v14.2.2.2.2.1 v14.2.2.2.2.2.1 v14.2.2.2.2.2.2).bind fun r15=>bif !r15 then some false else (B5j n x11 x12 x13 v14.1).bind fun r16=>bif r16 !=x10 then some false else B39 n j x8 x9 (IntKind.wrap .i64 (x10+(1:Int))) x11 x12 x13 else none else B3a n n (-1:Int) x13 x13.length 0 x11 x12 x13
def B5s:Nat→ByteArray→Y16→(List ByteArray)→Option Bool
  |0,_,_,_=>none
  |n+1,a1,a2,a3=>(B6d n a1).bind fun r4=>bif !r4 then some false else let v5:Bool:=(decide ((a2.length:Int)<1));bif v5 then some false else let v6:Bool:=(decide ((8:Int)<(a2.length:Int)));bif v6 then some false else let v7:Bool:=(decide ((a3.length:Int)<1));bif v7 then some false else B39 n n a2 a2.length 0 a1 a2 a3
def B6k:Nat→ByteArray→Int→Bool→Bool→Int→Int→ByteArray→Int→Int→ByteArray→Option Bool
  |0,_,_,_,_,_,_,_,_,_,_=>none
  |n+1,a1,a2,a3,a4,a5,a6,a7,a8,a9,a10=>bif a8==(0:Int)then (B4u n a8 a9 a10).bind fun r11=>bif r11 then some (!a3)else some false else (B4u n a8 a9 a10).bind fun r12=>bif r12 then some (a8==a2)else some false
def B4o (n:Nat):Nat→Y15→Int→Int→Y3→Option Bool
  |0,_,_,_,_=>none
  |j+1,x7,x8,x9,x10=>bif decide (x9<x8)then bif inR x9 x7.length then let v11:=(x7.getD x9.toNat (⟨#[]⟩,(0,(false,(false,(0,(0,⟨#[]⟩)))))));bif inR x9 x10.length then let v12:=(x10.getD x9.toNat (0,(0,⟨#[]⟩)));(B6k n v11.1 v11.2.1 v11.2.2.1 v11.2.2.2.1 v11.2.2.2.2.1 v11.2.2.2.2.2.1 v11.2.2.2.2.2.2 v12.1 v12.2.1 v12.2.2).bind fun r13=>bif !r13 then some false else B4o n j x7 x8 (IntKind.wrap .i64 (x9+(1:Int))) x10 else none else none else some true
def B6q:Nat→ByteArray→Y16→(List ByteArray)→Y4→Option Bool
  |0,_,_,_,_=>none
  |n+1,a1,a2,a3,a4=>(B5s n a1 a2 a3).bind fun r5=>bif !r5 then some false else let v6:Bool:=((a4.length:Int) !=(a2.length:Int));bif v6 then some false else B4o n n a2 a2.length 0 a4
def B4c (n:Nat):Nat→List ByteArray→Int→Int→ByteArray→Y15→List ByteArray→Y3→Y3→Option Y4
  |0,_,_,_,_,_,_,_,_=>none
  |j+1,x5,x6,x7,x8,x9,x10,x11,x12=>bif decide (x7<x6)then bif inR x7 x5.length then (B5j n x8 x9 x10 (x5.getD x7.toNat ⟨#[]⟩)).bind fun r13=>bif inR r13 x11.length then let v14:=(x11.getD r13.toNat (0,(0,⟨#[]⟩)));let v15:Y3:=[(v14.1,(v14.2.1,v14.2.2))];bif room (x12.length+v15.length) 32 then B4c n j x5 x6 (IntKind.wrap .i64 (x7+(1:Int))) x8 x9 x10 x11 (x12++v15)else none else none else none else some x12
def B3y:Nat→ByteArray→Y16→(List ByteArray)→Y4→Option Y4
  |0,_,_,_,_=>none
  |n+1,a1,a2,a3,a4=>B4c n n a3 a3.length 0 a1 a2 a3 a4 ([]:Y3)
def B5t:Nat→Int→Int→ByteArray→Int→Int→ByteArray→Option Bool
  |0,_,_,_,_,_,_=>none
  |n+1,a1,a2,a3,a4,a5,a6=>(B4u n a1 a2 a3).bind fun r7=>bif !r7 then some false else (B4u n a4 a5 a6).bind fun r8=>bif !r8 then some false else bif a1 !=a4 then some (decide (a1<a4))else bif decide (a2<a5)then some true else bif a2==a5 then some (Op.bytesLess a3.toList a6.toList)else some false
def B2x (n:Nat):Nat→Y3→Y3→Int→Option Bool
  |0,_,_,_=>none
  |j+1,x3,x4,x5=>bif decide (x5<(x3.length:Int))then bif decide (x5<(x4.length:Int))then bif inR x5 x3.length then let v6:=(x3.getD x5.toNat (0,(0,⟨#[]⟩)));bif inR x5 x4.length then let v7:=(x4.getD x5.toNat (0,(0,⟨#[]⟩)));let v8:Bool:=(!((v6.1==v7.1)&&((v6.2.1==v7.2.1)&&((v6.2.2.toList==v7.2.2.toList)&&true))));bif v8 then bif inR x5 x3.length then let v9:=(x3.getD x5.toNat (0,(0,⟨#[]⟩)));bif inR x5 x4.length then let v10:=(x4.getD x5.toNat (0,(0,⟨#[]⟩)));(B5t n v9.1 v9.2.1 v9.2.2 v10.1 v10.2.1 v10.2.2).bind fun r11=>some r11 else none else none else B2x n j x3 x4 (IntKind.wrap .i64 (x5+(1:Int)))else none else none else let v12:Bool:=(decide ((x3.length:Int)<(x4.length:Int)));some v12 else let v13:Bool:=(decide ((x3.length:Int)<(x4.length:Int)));some v13
def B55:Nat→Y4→Y4→Option Bool
  |0,_,_=>none
  |n+1,a1,a2=>B2x n n a1 a2 0
def B3l (n:Nat):Nat→Y6→Y6→Int→Int→ByteArray→Y15→List ByteArray→Option Bool
  |0,_,_,_,_,_,_,_=>none
  |j+1,x7,x8,x9,x10,x11,x12,x13=>bif decide (x10<x9)then bif inR x10 x8.length then let v14:=(x8.getD x10.toNat []);(B6q n x11 x12 x13 v14).bind fun r15=>bif !r15 then some false else bif decide ((0:Int)<x10)then bif inR (IntKind.wrap .i64 (x10 - 1)) x7.length then let v16:=(x7.getD (IntKind.wrap .i64 (x10 - 1)).toNat []);(B3y n x11 x12 x13 v16).bind fun r17=>(B3y n x11 x12 x13 v14).bind fun r18=>(B55 n r17 r18).bind fun r19=>bif !r19 then some false else B3l n j x7 x8 x9 (IntKind.wrap .i64 (x10+(1:Int))) x11 x12 x13 else none else B3l n j x7 x8 x9 (IntKind.wrap .i64 (x10+(1:Int))) x11 x12 x13 else none else some true
def B6c:Nat→ByteArray→Y16→(List ByteArray)→Y7→Option Bool
  |0,_,_,_,_=>none
  |n+1,a1,a2,a3,a4=>(B5s n a1 a2 a3).bind fun r5=>bif !r5 then some false else let v6:Bool:=(decide ((60:Int)<(a4.length:Int)));bif v6 then some false else B3l n n a4 a4 a4.length 0 a1 a2 a3
def B2w (n:Nat):Nat→Y3→Y3→Int→Int→Option Bool
  |0,_,_,_,_=>none
  |j+1,x4,x5,x6,x7=>bif decide (x7<x6)then bif inR x7 x4.length then let v8:=(x4.getD x7.toNat (0,(0,⟨#[]⟩)));bif inR x7 x5.length then let v9:=(x5.getD x7.toNat (0,(0,⟨#[]⟩)));let v10:Bool:=(!((v8.1==v9.1)&&((v8.2.1==v9.2.1)&&((v8.2.2.toList==v9.2.2.toList)&&true))));bif v10 then some false else B2w n j x4 x5 x6 (IntKind.wrap .i64 (x7+(1:Int)))else none else none else some true
def B56:Nat→Y4→Y4→Option Bool
  |0,_,_=>none
  |n+1,a1,a2=>let v3:Bool:=((a1.length:Int) !=(a2.length:Int));bif v3 then some false else B2w n n a1 a2 a1.length 0
def B4n (n:Nat):Nat→Y3→Y6→Int→Int→ByteArray→Y15→List ByteArray→Option Int
  |0,_,_,_,_,_,_,_=>none
  |j+1,x7,x8,x9,x10,x11,x12,x13=>bif decide (x10<x9)then bif inR x10 x8.length then let v14:=(x8.getD x10.toNat []);(B3y n x11 x12 x13 v14).bind fun r15=>(B56 n r15 x7).bind fun r16=>bif r16 then some x10 else B4n n j x7 x8 x9 (IntKind.wrap .i64 (x10+(1:Int))) x11 x12 x13 else none else some (-1:Int)
def B7q:Nat→ByteArray→Y16→(List ByteArray)→Y7→Y4→Option Int
  |0,_,_,_,_,_=>none
  |n+1,a1,a2,a3,a4,a5=>(B6c n a1 a2 a3 a4).bind fun r6=>bif !r6 then some (-1:Int)else B4n n n a5 a4 a4.length 0 a1 a2 a3
def B4e:Nat→Y4→Option Y4
  |0,_=>none
  |n+1,a1=>bif room (([]:Y3).length+a1.length) 32 then let v2:Y3:=(([]:Y3)++a1);some v2 else none
def B32 (n:Nat):Nat→Bool→Y6→Int→Int→ByteArray→Y15→List ByteArray→Y3→Y6→Option Y7
  |0,_,_,_,_,_,_,_,_,_=>none
  |j+1,x8,x9,x10,x11,x12,x13,x14,x15,x16=>bif decide (x11<x10)then bif inR x11 x9.length then let v17:=(x9.getD x11.toNat []);bif !x8 then (B3y n x12 x13 x14 x15).bind fun r18=>(B3y n x12 x13 x14 v17).bind fun r19=>(B55 n r18 r19).bind fun r20=>bif r20 then (B4e n x15).bind fun r21=>let v22:Y6:=[r21];bif room (x16.length+v22.length) 24 then (B4e n v17).bind fun r23=>let v24:Y6:=[r23];bif room ((x16++v22).length+v24.length) 24 then B32 n j true x9 x10 (IntKind.wrap .i64 (x11+(1:Int))) x12 x13 x14 x15 ((x16++v22)++v24)else none else none else (B4e n v17).bind fun r25=>let v26:Y6:=[r25];bif room (x16.length+v26.length) 24 then B32 n j x8 x9 x10 (IntKind.wrap .i64 (x11+(1:Int))) x12 x13 x14 x15 (x16++v26)else none else (B4e n v17).bind fun r27=>let v28:Y6:=[r27];bif room (x16.length+v28.length) 24 then B32 n j x8 x9 x10 (IntKind.wrap .i64 (x11+(1:Int))) x12 x13 x14 x15 (x16++v28)else none else none else bif !x8 then (B4e n x15).bind fun r29=>let v30:Y6:=[r29];bif room (x16.length+v30.length) 24 then some (x16++v30)else none else some x16
def B74:Nat→ByteArray→Y16→(List ByteArray)→Y7→Y4→Option Y7
  |0,_,_,_,_,_=>none
  |n+1,a1,a2,a3,a4,a5=>let v6:Y6:=[];let v7:Y6:=[];B32 n n false a4 a4.length 0 a1 a2 a3 a5 v7
def B6b:Nat→ByteArray→Y16→(List ByteArray)→Y7→Y4→Option Y12
  |0,_,_,_,_,_=>none
  |n+1,a1,a2,a3,a4,a5=>let v6:Y6:=[];(B6c n a1 a2 a3 a4).bind fun r7=>bif !r7 then let v8:Y6:=[];some (v8,((1:Int),()))else (B6q n a1 a2 a3 a5).bind fun r9=>bif !r9 then let v10:Y6:=[];some (v10,((2:Int),()))else (B3y n a1 a2 a3 a5).bind fun r11=>(B7q n a1 a2 a3 a4 r11).bind fun r12=>bif decide ((0:Int)≤r12)then let v13:Y6:=[];some (v13,((3:Int),()))else bif (a4.length:Int)==60 then let v14:Y6:=[];some (v14,((4:Int),()))else (B74 n a1 a2 a3 a4 a5).bind fun r15=>some (r15,((0:Int),()))
def B3c (n:Nat):Nat→Int→List Int→Int→Int→ByteArray→Y15→List ByteArray→Y6→Option Y18
  |0,_,_,_,_,_,_,_,_=>none
  |j+1,x10,x11,x12,x13,x14,x15,x16,x17=>bif decide ((0:Int)<x10)then (B5x n x11 x12 x13 x14 x15 x16).bind fun r18=>(B6b n x14 x15 x16 x17 r18.1).bind fun r19=>bif r19.2.1==(0:Int)then B3c n j (IntKind.wrap .i64 (x10 - 1)) r18.2.1.1 r18.2.1.2.1 r18.2.1.2.2 x14 x15 x16 r19.1 else B3c n j (IntKind.wrap .i64 (x10 - 1)) r18.2.1.1 r18.2.1.2.1 r18.2.1.2.2 x14 x15 x16 x17 else some (x17,((x11,(x12,x13)),()))
def B6l:Nat→(List Int)→Int→Int→ByteArray→Y16→(List ByteArray)→Option Y18
  |0,_,_,_,_,_,_=>none
  |n+1,a1,a2,a3,a4,a5,a6=>let v7:Y6:=[];let v8:Y6:=[];(C3 n a1 a2 a3 7).bind fun r9=>B3c n n r9.1 r9.2.1.1 r9.2.1.2.1 r9.2.1.2.2 a4 a5 a6 v8
def B70:Nat→(List Int)→Int→Int→Option Y14
  |0,_,_,_=>none
  |n+1,a1,a2,a3=>(C3 n a1 a2 a3 4).bind fun r4=>(B5k n r4.2.1.1 r4.2.1.2.1 r4.2.1.2.2 r4.1).bind fun r5=>some ((r5.1.1,(r5.1.2.1,r5.1.2.2)),((r5.2.1.1,(r5.2.1.2.1,r5.2.1.2.2)),()))
def B5m:Nat→(List Int)→Int→Int→Option Y8
  |0,_,_,_=>none
  |n+1,a1,a2,a3=>(C3 n a1 a2 a3 9).bind fun r4=>bif decide (r4.1<(4:Int))then (C3 n r4.2.1.1 r4.2.1.2.1 r4.2.1.2.2 24).bind fun r5=>some ((IntKind.wrap .i64 (r5.1 - 3)),((r5.2.1.1,(r5.2.1.2.1,r5.2.1.2.2)),()))else bif r4.1==(4:Int)then (C3 n r4.2.1.1 r4.2.1.2.1 r4.2.1.2.2 3).bind fun r6=>let v7:Int:=(IntKind.wrap .i64 ((1099511627774:Int)+r6.1));some (v7,((r6.2.1.1,(r6.2.1.2.1,r6.2.1.2.2)),()))else bif r4.1==(5:Int)then (C3 n r4.2.1.1 r4.2.1.2.1 r4.2.1.2.2 3).bind fun r8=>let v9:Int:=(IntKind.wrap .i64 ((-1099511627776:Int)+r8.1));some (v9,((r8.2.1.1,(r8.2.1.2.1,r8.2.1.2.2)),()))else bif r4.1==(6:Int)then (C3 n r4.2.1.1 r4.2.1.2.1 r4.2.1.2.2 2).bind fun r10=>let v11:Int:=(IntKind.wrap .i64 ((9223372036854775807:Int) - r10.1));some (v11,((r10.2.1.1,(r10.2.1.2.1,r10.2.1.2.2)),()))else bif r4.1==(7:Int)then (C3 n r4.2.1.1 r4.2.1.2.1 r4.2.1.2.2 2).bind fun r12=>let v13:Int:=(IntKind.wrap .i64 ((-9223372036854775807:Int) - r12.1));some (v13,((r12.2.1.1,(r12.2.1.2.1,r12.2.1.2.2)),()))else (C3 n r4.2.1.1 r4.2.1.2.1 r4.2.1.2.2 2000000).bind fun r14=>some (r14.1,((r14.2.1.1,(r14.2.1.2.1,r14.2.1.2.2)),()))
def B5l:Nat→(List Int)→Int→Int→Option Y14
  |0,_,_,_=>none
  |n+1,a1,a2,a3=>(B70 n a1 a2 a3).bind fun r4=>(C3 n r4.2.1.1 r4.2.1.2.1 r4.2.1.2.2 12).bind fun r5=>bif r5.1==(0:Int)then (B5m n r5.2.1.1 r5.2.1.2.1 r5.2.1.2.2).bind fun r6=>bif r5.1==(1:Int)then (B5m n r6.2.1.1 r6.2.1.2.1 r6.2.1.2.2).bind fun r7=>bif r5.1==(2:Int)then (C3 n r7.2.1.1 r7.2.1.2.1 r7.2.1.2.2 2).bind fun r8=>bif decide ((IntKind.wrap .i64 ((30:Int)+r8.1))=(IntKind.wrap .i64 ((30:Int)+r8.1))∧0≤(IntKind.wrap .i64 ((30:Int)+r8.1)))&&room (IntKind.wrap .i64 ((30:Int)+r8.1)).toNat 1 then let v9:List Int:=(List.replicate (IntKind.wrap .i64 ((30:Int)+r8.1)).toNat 0);some ((r6.1,(r7.1,(strOfNums v9))),((r8.2.1.1,(r8.2.1.2.1,r8.2.1.2.2)),()))else none else some ((r6.1,(r7.1,r4.1.2.2)),((r7.2.1.1,(r7.2.1.2.1,r7.2.1.2.2)),()))else bif r5.1==(2:Int)then (C3 n r6.2.1.1 r6.2.1.2.1 r6.2.1.2.2 2).bind fun r10=>let v11:Int:=(IntKind.wrap .i64 ((30:Int)+r10.1));bif decide (v11=v11∧0≤v11)&&room v11.toNat 1 then let v12:ByteArray:=(strOfNums (List.replicate v11.toNat 0));some ((r6.1,(r4.1.2.1,v12)),((r10.2.1.1,(r10.2.1.2.1,r10.2.1.2.2)),()))else none else some ((r6.1,(r4.1.2.1,r4.1.2.2)),((r6.2.1.1,(r6.2.1.2.1,r6.2.1.2.2)),()))else bif r5.1==(1:Int)then (B5m n r5.2.1.1 r5.2.1.2.1 r5.2.1.2.2).bind fun r13=>bif r5.1==(2:Int)then (C3 n r13.2.1.1 r13.2.1.2.1 r13.2.1.2.2 2).bind fun r14=>let v15:Int:=(IntKind.wrap .i64 ((30:Int)+r14.1));bif decide (v15=v15∧0≤v15)&&room v15.toNat 1 then let v16:ByteArray:=(strOfNums (List.replicate v15.toNat 0));some ((r4.1.1,(r13.1,v16)),((r14.2.1.1,(r14.2.1.2.1,r14.2.1.2.2)),()))else none else some ((r4.1.1,(r13.1,r4.1.2.2)),((r13.2.1.1,(r13.2.1.2.1,r13.2.1.2.2)),()))else bif r5.1==(2:Int)then (C3 n r5.2.1.1 r5.2.1.2.1 r5.2.1.2.2 2).bind fun r17=>let v18:Int:=(IntKind.wrap .i64 ((30:Int)+r17.1));bif decide (v18=v18∧0≤v18)&&room v18.toNat 1 then let v19:ByteArray:=(strOfNums (List.replicate v18.toNat 0));some ((r4.1.1,(r4.1.2.1,v19)),((r17.2.1.1,(r17.2.1.2.1,r17.2.1.2.2)),()))else none else some ((r4.1.1,(r4.1.2.1,r4.1.2.2)),((r5.2.1.1,(r5.2.1.2.1,r5.2.1.2.2)),()))
def B51 (n:Nat):Nat→List Int→Int→Int→ByteArray→Y15→List ByteArray→ByteArray→Y15→List ByteArray→Option Y21
  |0,_,_,_,_,_,_,_,_,_=>none
  |j+1,x90,x91,x92,x93,x94,x95,x96,x97,x98=>some ((x96,(x97,x98)),((x90,(x91,x92)),()))
def B50 (n:Nat):Nat→Int→List Int→Int→Int→ByteArray→Y15→List ByteArray→ByteArray→Y15→List ByteArray→Option Y21
  |0,_,_,_,_,_,_,_,_,_,_=>none
  |j+1,x79,x80,x81,x82,x83,x84,x85,x86,x87,x88=>bif x79==(6:Int)then bif inR 0 x87.length then let v89:=(x87.set (0:Int).toNat ((x87.getD (0:Int).toNat (⟨#[]⟩,(0,(false,(false,(0,(0,⟨#[]⟩))))))).1,((x87.getD (0:Int).toNat (⟨#[]⟩,(0,(false,(false,(0,(0,⟨#[]⟩))))))).2.1,(false,(x87.getD (0:Int).toNat (⟨#[]⟩,(0,(false,(false,(0,(0,⟨#[]⟩))))))).2.2.2))));B51 n 1 x80 x81 x82 x83 x84 x85 x86 v89 x88 else none else B51 n 1 x80 x81 x82 x83 x84 x85 x86 x87 x88
def B4z (n:Nat):Nat→Int→List Int→Int→Int→ByteArray→Y15→List ByteArray→ByteArray→Y15→List ByteArray→Option Y21
  |0,_,_,_,_,_,_,_,_,_,_=>none
  |j+1,x69,x70,x71,x72,x73,x74,x75,x76,x77,x78=>bif x69==(5:Int)then B50 n 1 x69 x70 x71 x72 x73 x74 x75 x76 x77 ([]:List ByteArray)else B50 n 1 x69 x70 x71 x72 x73 x74 x75 x76 x77 x78
def B4y (n:Nat):Nat→Int→Int→List Int→Int→Int→ByteArray→Y15→List ByteArray→ByteArray→Y15→List ByteArray→Option Y21
  |0,_,_,_,_,_,_,_,_,_,_,_=>none
  |j+1,x50,x51,x52,x53,x54,x55,x56,x57,x58,x59,x60=>bif x50==(4:Int)then bif inR x51 x59.length then let v61:ByteArray:=(x59.getD x51.toNat (⟨#[]⟩,(0,(false,(false,(0,(0,⟨#[]⟩))))))).1;let v62:Int:=(x59.getD x51.toNat (⟨#[]⟩,(0,(false,(false,(0,(0,⟨#[]⟩))))))).2.1;let v63:Bool:=(x59.getD x51.toNat (⟨#[]⟩,(0,(false,(false,(0,(0,⟨#[]⟩))))))).2.2.1;let v64:Bool:=(x59.getD x51.toNat (⟨#[]⟩,(0,(false,(false,(0,(0,⟨#[]⟩))))))).2.2.2.1;let v65:Int:=(x59.getD x51.toNat (⟨#[]⟩,(0,(false,(false,(0,(0,⟨#[]⟩))))))).2.2.2.2.1;let v66:Int:=(x59.getD x51.toNat (⟨#[]⟩,(0,(false,(false,(0,(0,⟨#[]⟩))))))).2.2.2.2.2.1;let v67:ByteArray:=(x59.getD x51.toNat (⟨#[]⟩,(0,(false,(false,(0,(0,⟨#[]⟩))))))).2.2.2.2.2.2;let v68:Y15:=[(v61,(v62,(v63,(v64,(v65,(v66,v67))))))];bif room (x59.length+v68.length) 64 then B4z n 1 x50 x52 x53 x54 x55 x56 x57 x58 (x59++v68) x60 else none else none else B4z n 1 x50 x52 x53 x54 x55 x56 x57 x58 x59 x60
def B4x (n:Nat):Nat→Int→Int→List Int→Int→Int→ByteArray→Y15→List ByteArray→ByteArray→Y15→List ByteArray→Option Y21
  |0,_,_,_,_,_,_,_,_,_,_,_=>none
  |j+1,x38,x39,x40,x41,x42,x43,x44,x45,x46,x47,x48=>bif x38==(3:Int)then (B5v n x40 x41 x42).bind fun r49=>bif room (x48.length+([r49.1]:List ByteArray).length) 16 then B4y n 1 x38 x39 r49.2.1.1 r49.2.1.2.1 r49.2.1.2.2 x43 x44 x45 x46 x47 (x48++([r49.1]:List ByteArray))else none else B4y n 1 x38 x39 x40 x41 x42 x43 x44 x45 x46 x47 x48
def B4w (n:Nat):Nat→Int→Int→List Int→Int→Int→ByteArray→Y15→List ByteArray→ByteArray→Y15→List ByteArray→Option Y21
  |0,_,_,_,_,_,_,_,_,_,_,_=>none
  |j+1,x25,x26,x27,x28,x29,x30,x31,x32,x33,x34,x35=>bif x25==(2:Int)then (B5l n x27 x28 x29).bind fun r36=>bif inR x26 x34.length then let v37:=(x34.set x26.toNat ((x34.getD x26.toNat (⟨#[]⟩,(0,(false,(false,(0,(0,⟨#[]⟩))))))).1,((x34.getD x26.toNat (⟨#[]⟩,(0,(false,(false,(0,(0,⟨#[]⟩))))))).2.1,((x34.getD x26.toNat (⟨#[]⟩,(0,(false,(false,(0,(0,⟨#[]⟩))))))).2.2.1,((x34.getD x26.toNat (⟨#[]⟩,(0,(false,(false,(0,(0,⟨#[]⟩))))))).2.2.2.1,(r36.1.1,(r36.1.2.1,r36.1.2.2)))))));B4x n 1 x25 x26 r36.2.1.1 r36.2.1.2.1 r36.2.1.2.2 x30 x31 x32 x33 v37 x35 else none else B4x n 1 x25 x26 x27 x28 x29 x30 x31 x32 x33 x34 x35
def B4v (n:Nat):Nat→Int→Int→List Int→Int→Int→ByteArray→Y15→List ByteArray→ByteArray→Y15→List ByteArray→Option Y21
  |0,_,_,_,_,_,_,_,_,_,_,_=>none
  |j+1,x12,x13,x14,x15,x16,x17,x18,x19,x20,x21,x22=>bif x12==(1:Int)then (C3 n x14 x15 x16 6).bind fun r23=>bif inR x13 x21.length then let v24:=(x21.set x13.toNat ((x21.getD x13.toNat (⟨#[]⟩,(0,(false,(false,(0,(0,⟨#[]⟩))))))).1,((IntKind.wrap .i64 (r23.1 - 1)),(x21.getD x13.toNat (⟨#[]⟩,(0,(false,(false,(0,(0,⟨#[]⟩))))))).2.2)));B4w n 1 x12 x13 r23.2.1.1 r23.2.1.2.1 r23.2.1.2.2 x17 x18 x19 x20 v24 x22 else none else B4w n 1 x12 x13 x14 x15 x16 x17 x18 x19 x20 x21 x22
def B71:Nat→(List Int)→Int→Int→Option Y21
  |0,_,_,_=>none
  |n+1,a1,a2,a3=>let v4:Y15:=[];(B5u n a1 a2 a3 (⟨#[116]⟩:ByteArray)).bind fun r5=>let v6:Y15:=[];(C3 n r5.2.1.1 r5.2.1.2.1 r5.2.1.2.2 14).bind fun r7=>(C3 n r7.2.1.1 r7.2.1.2.1 r7.2.1.2.2 r5.1.2.1.length).bind fun r8=>bif r7.1==(0:Int)then let v9:List ByteArray:=[(⟨#[]⟩:ByteArray),(⟨#[84]⟩:ByteArray),(⟨#[97,98,99,100,101,102,103,104,105]⟩:ByteArray)];(C3 n r8.2.1.1 r8.2.1.2.1 r8.2.1.2.2 3).bind fun r10=>bif inR r10.1 v9.length then let v11:ByteArray:=(v9.getD r10.1.toNat ⟨#[]⟩);B4v n 1 r7.1 r8.1 r10.2.1.1 r10.2.1.2.1 r10.2.1.2.2 (⟨#[]⟩:ByteArray) v4 ([]:List ByteArray) v11 r5.1.2.1 r5.1.2.2 else none else B4v n 1 r7.1 r8.1 r8.2.1.1 r8.2.1.2.1 r8.2.1.2.2 (⟨#[]⟩:ByteArray) v4 ([]:List ByteArray) r5.1.1 r5.1.2.1 r5.1.2.2
def B4a (n:Nat):Nat→List Int→Int→Int→ByteArray→Y15→List ByteArray→ByteArray→Y15→List ByteArray→Y6→Option Y22
  |0,_,_,_,_,_,_,_,_,_,_=>none
  |j+1,x85,x86,x87,x88,x89,x90,x91,x92,x93,x94=>some ((x91,(x92,x93)),(x94,((x85,(x86,x87)),())))
def B4b (n:Nat):Nat→Int→List Int→Int→Int→ByteArray→Y15→List ByteArray→ByteArray→Y15→List ByteArray→Y6→Option Y22
  |0,_,_,_,_,_,_,_,_,_,_,_=>none
  |j+1,x70,x71,x72,x73,x74,x75,x76,x77,x78,x79,x80=>(C3 n x71 x72 x73 3).bind fun r81=>let v82:Int:=(IntKind.wrap .i64 ((59:Int)+r81.1));bif decide (x70<v82)then let v83:Y3:=[((2:Int),((IntKind.wrap .i64 ((20:Int)+x70)),(⟨#[]⟩:ByteArray)))];let v84:Y6:=[v83];bif room (x80.length+v84.length) 24 then B4b n j (IntKind.wrap .i64 (x70+(1:Int))) r81.2.1.1 r81.2.1.2.1 r81.2.1.2.2 x74 x75 x76 x77 x78 x79 (x80++v84)else none else B4a n 1 r81.2.1.1 r81.2.1.2.1 r81.2.1.2.2 x74 x75 x76 x77 x78 x79 x80
def B49 (n:Nat):Nat→Int→List Int→Int→Int→ByteArray→Y15→List ByteArray→ByteArray→Y15→List ByteArray→Y6→Option Y22
  |0,_,_,_,_,_,_,_,_,_,_,_=>none
  |j+1,x55,x56,x57,x58,x59,x60,x61,x62,x63,x64,x65=>bif x55==(4:Int)then (C3 n x56 x57 x58 5).bind fun r66=>bif r66.1==(0:Int)then let v67:Y15:=[((⟨#[105,100]⟩:ByteArray),((2:Int),(true,(false,((0:Int),((0:Int),(⟨#[]⟩:ByteArray)))))))];let v68:List ByteArray:=[(⟨#[105,100]⟩:ByteArray)];let v69:Y6:=[];B4b n n 0 r66.2.1.1 r66.2.1.2.1 r66.2.1.2.2 x59 x60 x61 (⟨#[116]⟩:ByteArray) v67 v68 v69 else B4a n 1 r66.2.1.1 r66.2.1.2.1 r66.2.1.2.2 x59 x60 x61 x62 x63 x64 x65 else B4a n 1 x56 x57 x58 x59 x60 x61 x62 x63 x64 x65
def B48 (n:Nat):Nat→Int→Int→List Int→Int→Int→ByteArray→Y15→List ByteArray→ByteArray→Y15→List ByteArray→Y6→Option Y22
  |0,_,_,_,_,_,_,_,_,_,_,_,_=>none
  |j+1,x41,x42,x43,x44,x45,x46,x47,x48,x49,x50,x51,x52=>bif x41==(3:Int)then bif decide ((0:Int)<x42)then bif inR (IntKind.wrap .i64 (x42 - 1)) x52.length then let v53:=(x52.getD (IntKind.wrap .i64 (x42 - 1)).toNat []);let v54:Y6:=[v53];bif room (x52.length+v54.length) 24 then B49 n 1 x41 x43 x44 x45 x46 x47 x48 x49 x50 x51 (x52++v54)else none else none else B49 n 1 x41 x43 x44 x45 x46 x47 x48 x49 x50 x51 x52 else B49 n 1 x41 x43 x44 x45 x46 x47 x48 x49 x50 x51 x52
def B47 (n:Nat):Nat→Int→Int→List Int→Int→Int→ByteArray→Y15→List ByteArray→ByteArray→Y15→List ByteArray→Y6→Option Y22
  |0,_,_,_,_,_,_,_,_,_,_,_,_=>none
  |j+1,x26,x27,x28,x29,x30,x31,x32,x33,x34,x35,x36,x37=>bif x26==(2:Int)then bif decide ((1:Int)<x27)then bif inR 0 x37.length then let v38:=(x37.getD (0:Int).toNat []);bif inR (IntKind.wrap .i64 (x27 - 1)) x37.length then let v39:=(x37.getD (IntKind.wrap .i64 (x27 - 1)).toNat []);bif inR 0 x37.length then bif inR (IntKind.wrap .i64 (x27 - 1)) (x37.set (0:Int).toNat v39).length then let v40:=((x37.set (0:Int).toNat v39).set (IntKind.wrap .i64 (x27 - 1)).toNat v38);B48 n 1 x26 x27 x28 x29 x30 x31 x32 x33 x34 x35 x36 v40 else none else none else none else none else B48 n 1 x26 x27 x28 x29 x30 x31 x32 x33 x34 x35 x36 x37 else B48 n 1 x26 x27 x28 x29 x30 x31 x32 x33 x34 x35 x36 x37
def B52 (n:Nat):Nat→Int→Int→List Int→Int→Int→ByteArray→Y15→List ByteArray→ByteArray→Y15→List ByteArray→Y6→Option Y22
  |0,_,_,_,_,_,_,_,_,_,_,_,_=>none
  |j+1,x11,x12,x13,x14,x15,x16,x17,x18,x19,x20,x21,x22=>bif x11==(1:Int)then bif decide ((0:Int)<x12)then bif inR 0 x22.length then (B5l n x13 x14 x15).bind fun r23=>bif inR 0 (x22.getD (0:Int).toNat []).length then let v24:=(x22.getD (0:Int).toNat []);let v25:=(x22.set (0:Int).toNat (v24.set (0:Int).toNat (r23.1.1,(r23.1.2.1,r23.1.2.2))));B47 n 1 x11 x12 r23.2.1.1 r23.2.1.2.1 r23.2.1.2.2 x16 x17 x18 x19 x20 x21 v25 else none else none else B47 n 1 x11 x12 x13 x14 x15 x16 x17 x18 x19 x20 x21 x22 else B47 n 1 x11 x12 x13 x14 x15 x16 x17 x18 x19 x20 x21 x22
def B73:Nat→(List Int)→Int→Int→Option Y22
  |0,_,_,_=>none
  |n+1,a1,a2,a3=>let v4:Y15:=[];let v5:Y6:=[];(B5u n a1 a2 a3 (⟨#[116]⟩:ByteArray)).bind fun r6=>let v7:Y15:=[];(B6l n r6.2.1.1 r6.2.1.2.1 r6.2.1.2.2 r6.1.1 r6.1.2.1 r6.1.2.2).bind fun r8=>(C3 n r8.2.1.1 r8.2.1.2.1 r8.2.1.2.2 14).bind fun r9=>bif r9.1==(0:Int)then (B71 n r9.2.1.1 r9.2.1.2.1 r9.2.1.2.2).bind fun r10=>B52 n 1 r9.1 r8.1.length r10.2.1.1 r10.2.1.2.1 r10.2.1.2.2 (⟨#[]⟩:ByteArray) v4 ([]:List ByteArray) r10.1.1 r10.1.2.1 r10.1.2.2 r8.1 else B52 n 1 r9.1 r8.1.length r9.2.1.1 r9.2.1.2.1 r9.2.1.2.2 (⟨#[]⟩:ByteArray) v4 ([]:List ByteArray) r6.1.1 r6.1.2.1 r6.1.2.2 r8.1
def B36 (n:Nat):Nat→List Int→Int→Int→Y3→Y3→Option Y17
  |0,_,_,_,_,_=>none
  |j+1,x20,x21,x22,x23,x24=>some (x24,((x20,(x21,x22)),()))
def B3x (n:Nat):Nat→Int→List Int→Int→Int→Y3→Y3→Option Y17
  |0,_,_,_,_,_,_=>none
  |j+1,x10,x11,x12,x13,x14,x15=>bif x10==(1:Int)then let v16:Bool:=(decide ((0:Int)<(x15.length:Int)));bif v16 then (C3 n x11 x12 x13 x15.length).bind fun r17=>(B5l n r17.2.1.1 r17.2.1.2.1 r17.2.1.2.2).bind fun r18=>bif inR r17.1 x15.length then let v19:=(x15.set r17.1.toNat (r18.1.1,(r18.1.2.1,r18.1.2.2)));B36 n 1 r18.2.1.1 r18.2.1.2.1 r18.2.1.2.2 x14 v19 else none else B36 n 1 x11 x12 x13 x14 x15 else B36 n 1 x11 x12 x13 x14 x15
def B5w:Nat→(List Int)→Int→Int→ByteArray→Y16→(List ByteArray)→Option Y17
  |0,_,_,_,_,_,_=>none
  |n+1,a1,a2,a3,a4,a5,a6=>(B5x n a1 a2 a3 a4 a5 a6).bind fun r7=>(C3 n r7.2.1.1 r7.2.1.2.1 r7.2.1.2.2 12).bind fun r8=>bif r8.1==(0:Int)then let v9:Y3:=[((0:Int),((0:Int),(⟨#[]⟩:ByteArray)))];bif room (r7.1.length+v9.length) 32 then B3x n 1 r8.1 r8.2.1.1 r8.2.1.2.1 r8.2.1.2.2 ([]:Y3) (r7.1++v9)else none else B3x n 1 r8.1 r8.2.1.1 r8.2.1.2.1 r8.2.1.2.2 ([]:Y3) r7.1
def B5f:Nat→(List Int)→Option (Y20×(Y7×(Y4×Unit)))
  |0,_=>none
  |n+1,a1=>let v2:Y15:=[];let v3:Y6:=[];(B6x n a1).bind fun r4=>(B73 n r4.1.1 r4.1.2.1 r4.1.2.2).bind fun r5=>let v6:Y15:=[];(B5w n r5.2.2.1.1 r5.2.2.1.2.1 r5.2.2.1.2.2 r5.1.1 r5.1.2.1 r5.1.2.2).bind fun r7=>some ((r5.1.1,(r5.1.2.1,r5.1.2.2)),(r5.2.1,(r7.1,())))
def B4d:Nat→Int→Int→Int→Option Bool
  |0,_,_,_=>none
  |n+1,a1,a2,a3=>bif decide (a2≤a1)then some (decide (a1≤a3))else some false
def B42 (n:Nat):Nat→ByteArray→Int→Option Bool
  |0,_,_=>none
  |j+1,x2,x3=>bif decide (x3<(x2.size:Int))then bif inR x3 x2.size then bif decide ((bt x2 x3)<97)then some false else bif inR x3 x2.size then bif decide ((122:Int)<(bt x2 x3))then some false else B42 n j x2 (IntKind.wrap .i64 (x3+(1:Int)))else none else none else (B4d n (x2.size:Int) 1 8).bind fun r4=>some r4
def B69:Nat→ByteArray→Option Bool
  |0,_=>none
  |n+1,a1=>B42 n n a1 0
def B4s:Nat→Int→Int→ByteArray→Option Bool
  |0,_,_,_=>none
  |n+1,a1,a2,a3=>bif a1==(0:Int)then let v4:Bool:=((a1==(0:Int))&&((a2==(0:Int))&&((a3.toList==(⟨#[]⟩:ByteArray).toList)&&true)));some v4 else bif a1==(1:Int)then (B4d n a2 0 1).bind fun r5=>bif r5 then let v6:Bool:=(a3.toList==(⟨#[]⟩:ByteArray).toList);some v6 else some false else bif a1==(2:Int)then (B4d n a2 (-1099511627775:Int) 1099511627775).bind fun r7=>bif r7 then let v8:Bool:=(a3.toList==(⟨#[]⟩:ByteArray).toList);some v8 else some false else bif a1==(3:Int)then bif a2==(0:Int)then some (decide ((a3.size:Int)≤30))else some false else some false
def B7j:Nat→ByteArray→Int→Bool→Bool→Int→Int→ByteArray→Option Bool
  |0,_,_,_,_,_,_,_=>none
  |n+1,a1,a2,a3,a4,a5,a6,a7=>(B69 n a1).bind fun r8=>bif !r8 then some false else (B4d n a2 1 3).bind fun r9=>bif !r9 then some false else (B4s n a5 a6 a7).bind fun r10=>bif !r10 then some false else bif !a4 then let v11:Bool:=((a5==(0:Int))&&((a6==(0:Int))&&((a7.toList==(⟨#[]⟩:ByteArray).toList)&&true)));some v11 else bif a5==a2 then some true else bif a5==(0:Int)then some (!a3)else some false
def B6h:Nat→ByteArray→Int→Bool→Bool→Int→Int→ByteArray→ByteArray→Option Bool
  |0,_,_,_,_,_,_,_,_=>none
  |n+1,a1,a2,a3,a4,a5,a6,a7,a8=>some (a1.toList==a8.toList)
def D1 (n:Nat):Nat→Y15→ByteArray→Int→Int→Option Int
  |0,_,_,_,_=>none
  |j+1,x3,x4,x5,x6=>bif decide (x6<x5)then bif inR x6 x3.length then let v7:=(x3.getD x6.toNat (⟨#[]⟩,(0,(false,(false,(0,(0,⟨#[]⟩)))))));(B6h n v7.1 v7.2.1 v7.2.2.1 v7.2.2.2.1 v7.2.2.2.2.1 v7.2.2.2.2.2.1 v7.2.2.2.2.2.2 x4).bind fun r8=>bif r8 then some x6 else D1 n j x3 x4 x5 (IntKind.wrap .i64 (x6+(1:Int)))else none else some (-1:Int)
def A7d:Nat→Y16→ByteArray→Option Int
  |0,_,_=>none
  |n+1,a1,a2=>D1 n n a1 a2 a1.length 0
def B3z:Nat→ByteArray→Y16→(List ByteArray)→ByteArray→Option Int
  |0,_,_,_,_=>none
  |n+1,a1,a2,a3,a4=>(A7d n a2 a4).bind fun r5=>some r5
def B38 (n:Nat):Nat→Int→List ByteArray→Int→Int→ByteArray→Y15→List ByteArray→Option Bool
  |0,_,_,_,_,_,_,_=>none
  |j+1,x13,x14,x15,x16,x17,x18,x19=>bif decide (x16<x15)then bif inR x16 x14.length then let v20:ByteArray:=(x14.getD x16.toNat ⟨#[]⟩);(B3z n x17 x18 x19 v20).bind fun r21=>bif decide (r21≤x13)then some false else bif inR r21 x18.length then let v22:=(x18.getD r21.toNat (⟨#[]⟩,(0,(false,(false,(0,(0,⟨#[]⟩)))))));bif !v22.2.2.1 then some false else B38 n j r21 x14 x15 (IntKind.wrap .i64 (x16+(1:Int))) x17 x18 x19 else none else none else (B69 n x17).bind fun r23=>bif r23 then (B4d n x18.length 1 8).bind fun r24=>bif r24 then let v25:Bool:=(decide ((0:Int)<(x19.length:Int)));some v25 else some false else some false
def B3r (n:Nat):Nat→Y15→Int→Int→ByteArray→Y15→List ByteArray→Option Bool
  |0,_,_,_,_,_,_=>none
  |j+1,x4,x5,x6,x7,x8,x9=>bif decide (x6<x5)then bif inR x6 x4.length then let v10:=(x4.getD x6.toNat (⟨#[]⟩,(0,(false,(false,(0,(0,⟨#[]⟩)))))));(B7j n v10.1 v10.2.1 v10.2.2.1 v10.2.2.2.1 v10.2.2.2.2.1 v10.2.2.2.2.2.1 v10.2.2.2.2.2.2).bind fun r11=>bif !r11 then some false else (B3z n x7 x8 x9 v10.1).bind fun r12=>bif r12 !=x6 then some false else B3r n j x4 x5 (IntKind.wrap .i64 (x6+(1:Int))) x7 x8 x9 else none else B38 n n (-1:Int) x9 x9.length 0 x7 x8 x9
def B54:Nat→ByteArray→Y16→(List ByteArray)→Option Bool
  |0,_,_,_=>none
  |n+1,a1,a2,a3=>B3r n n a2 a2.length 0 a1 a2 a3
def B6v:Nat→ByteArray→Int→Bool→Bool→Int→Int→ByteArray→Int→Int→ByteArray→Option Bool
  |0,_,_,_,_,_,_,_,_,_,_=>none
  |n+1,a1,a2,a3,a4,a5,a6,a7,a8,a9,a10=>(B4s n a8 a9 a10).bind fun r11=>bif r11 then bif a8==a2 then some true else bif a8==(0:Int)then some (!a3)else some false else some false
def B4l (n:Nat):Nat→Y3→Int→Int→ByteArray→Y15→List ByteArray→Option Bool
  |0,_,_,_,_,_,_=>none
  |j+1,x6,x7,x8,x9,x10,x11=>bif decide (x8<x7)then bif inR x8 x6.length then let v12:=(x6.getD x8.toNat (0,(0,⟨#[]⟩)));bif inR x8 x10.length then let v13:=(x10.getD x8.toNat (⟨#[]⟩,(0,(false,(false,(0,(0,⟨#[]⟩)))))));(B6v n v13.1 v13.2.1 v13.2.2.1 v13.2.2.2.1 v13.2.2.2.2.1 v13.2.2.2.2.2.1 v13.2.2.2.2.2.2 v12.1 v12.2.1 v12.2.2).bind fun r14=>bif !r14 then some false else B4l n j x6 x7 (IntKind.wrap .i64 (x8+(1:Int))) x9 x10 x11 else none else none else some true
def B60:Nat→ByteArray→Y16→(List ByteArray)→Y4→Option Bool
  |0,_,_,_,_=>none
  |n+1,a1,a2,a3,a4=>let v5:Bool:=((a4.length:Int) !=(a2.length:Int));bif v5 then some false else B4l n n a4 a4.length 0 a1 a2 a3
def B4k (n:Nat):Nat→List ByteArray→Int→Int→ByteArray→Y15→List ByteArray→Y3→Y3→Option Y4
  |0,_,_,_,_,_,_,_,_=>none
  |j+1,x5,x6,x7,x8,x9,x10,x11,x12=>bif decide (x7<x6)then bif inR x7 x5.length then (B3z n x8 x9 x10 (x5.getD x7.toNat ⟨#[]⟩)).bind fun r13=>bif inR r13 x11.length then let v14:=(x11.getD r13.toNat (0,(0,⟨#[]⟩)));let v15:Y3:=[(v14.1,(v14.2.1,v14.2.2))];bif room (x12.length+v15.length) 32 then B4k n j x5 x6 (IntKind.wrap .i64 (x7+(1:Int))) x8 x9 x10 x11 (x12++v15)else none else none else none else some x12
def B40:Nat→ByteArray→Y16→(List ByteArray)→Y4→Option Y4
  |0,_,_,_,_=>none
  |n+1,a1,a2,a3,a4=>B4k n n a3 a3.length 0 a1 a2 a3 a4 ([]:Y3)
def B5r:Nat→Int→Int→ByteArray→Int→Int→ByteArray→Option Bool
  |0,_,_,_,_,_,_=>none
  |n+1,a1,a2,a3,a4,a5,a6=>(B4s n a1 a2 a3).bind fun r7=>bif !r7 then some false else (B4s n a4 a5 a6).bind fun r8=>bif !r8 then some false else bif a1 !=a4 then some (decide (a1<a4))else bif a2 !=a5 then some (decide (a2<a5))else some (Op.bytesLess a3.toList a6.toList)
def B4g (n:Nat):Nat→Y3→Y3→Int→Option Bool
  |0,_,_,_=>none
  |j+1,x3,x4,x5=>bif decide (x5<(x3.length:Int))then bif decide (x5<(x4.length:Int))then bif inR x5 x3.length then let v6:=(x3.getD x5.toNat (0,(0,⟨#[]⟩)));bif inR x5 x4.length then let v7:=(x4.getD x5.toNat (0,(0,⟨#[]⟩)));let v8:Bool:=(!((v6.1==v7.1)&&((v6.2.1==v7.2.1)&&((v6.2.2.toList==v7.2.2.toList)&&true))));bif v8 then bif inR x5 x3.length then let v9:=(x3.getD x5.toNat (0,(0,⟨#[]⟩)));bif inR x5 x4.length then let v10:=(x4.getD x5.toNat (0,(0,⟨#[]⟩)));(B5r n v9.1 v9.2.1 v9.2.2 v10.1 v10.2.1 v10.2.2).bind fun r11=>some r11 else none else none else B4g n j x3 x4 (IntKind.wrap .i64 (x5+(1:Int)))else none else none else let v12:Bool:=(decide ((x3.length:Int)<(x4.length:Int)));some v12 else let v13:Bool:=(decide ((x3.length:Int)<(x4.length:Int)));some v13
def B5p:Nat→Y4→Y4→Option Bool
  |0,_,_=>none
  |n+1,a1,a2=>B4g n n a1 a2 0
def B3k (n:Nat):Nat→Y6→Y6→Int→Int→ByteArray→Y15→List ByteArray→Option Bool
  |0,_,_,_,_,_,_,_=>none
  |j+1,x7,x8,x9,x10,x11,x12,x13=>bif decide (x10<x9)then bif inR x10 x8.length then let v14:=(x8.getD x10.toNat []);(B60 n x11 x12 x13 v14).bind fun r15=>bif !r15 then some false else bif decide ((0:Int)<x10)then bif inR (IntKind.wrap .i64 (x10 - 1)) x7.length then let v16:=(x7.getD (IntKind.wrap .i64 (x10 - 1)).toNat []);(B40 n x11 x12 x13 v16).bind fun r17=>(B40 n x11 x12 x13 v14).bind fun r18=>(B5p n r17 r18).bind fun r19=>bif !r19 then some false else B3k n j x7 x8 x9 (IntKind.wrap .i64 (x10+(1:Int))) x11 x12 x13 else none else B3k n j x7 x8 x9 (IntKind.wrap .i64 (x10+(1:Int))) x11 x12 x13 else none else some true
def B4r:Nat→ByteArray→Y16→(List ByteArray)→Y7→Option Bool
  |0,_,_,_,_=>none
  |n+1,a1,a2,a3,a4=>(B54 n a1 a2 a3).bind fun r5=>bif !r5 then some false else let v6:Bool:=(decide ((60:Int)<(a4.length:Int)));bif v6 then some false else B3k n n a4 a4 a4.length 0 a1 a2 a3
def B28 (n:Nat):Nat→Y3→Y3→Int→Int→Option Bool
  |0,_,_,_,_=>none
  |j+1,x4,x5,x6,x7=>bif decide (x7<x6)then bif inR x7 x4.length then let v8:=(x4.getD x7.toNat (0,(0,⟨#[]⟩)));bif inR x7 x5.length then let v9:=(x5.getD x7.toNat (0,(0,⟨#[]⟩)));let v10:Bool:=(!((v8.1==v9.1)&&((v8.2.1==v9.2.1)&&((v8.2.2.toList==v9.2.2.toList)&&true))));bif v10 then some false else B28 n j x4 x5 x6 (IntKind.wrap .i64 (x7+(1:Int)))else none else none else some true
def B2g:Nat→Y4→Y4→Option Bool
  |0,_,_=>none
  |n+1,a1,a2=>let v3:Bool:=((a1.length:Int) !=(a2.length:Int));bif v3 then some false else B28 n n a1 a2 a1.length 0
def B6i:Nat→Y4→Y20→Y4→Option Bool
  |0,_,_,_=>none
  |n+1,a1,a2,a3=>(B40 n a2.1 a2.2.1 a2.2.2 a1).bind fun r4=>(B2g n r4 a3).bind fun r5=>some r5
def D2 (n:Nat):Nat→Y6→Y20→Y4→Int→Int→Option Int
  |0,_,_,_,_,_=>none
  |j+1,x4,x5,x6,x7,x8=>bif decide (x8<x7)then bif inR x8 x4.length then let v9:=(x4.getD x8.toNat []);(B6i n v9 x5 x6).bind fun r10=>bif r10 then some x8 else D2 n j x4 x5 x6 x7 (IntKind.wrap .i64 (x8+(1:Int)))else none else some (-1:Int)
def B25:Nat→Y7→Y20→Y4→Option Int
  |0,_,_,_=>none
  |n+1,a1,a2,a3=>D2 n n a1 a2 a3 a1.length 0
def B5h:Nat→ByteArray→Y16→(List ByteArray)→Y7→Y4→Option Int
  |0,_,_,_,_,_=>none
  |n+1,a1,a2,a3,a4,a5=>(B25 n a4 (a1,(a2,a3)) a5).bind fun r6=>some r6
def B4j:Nat→Y4→Option Y4
  |0,_=>none
  |n+1,a1=>bif room a1.length 32 then some a1 else none
def B3g (n:Nat):Nat→Y6→Int→Int→Y6→Option Y7
  |0,_,_,_,_=>none
  |j+1,x4,x5,x6,x7=>bif decide (x6<x5)then bif inR x6 x4.length then let v8:=(x4.getD x6.toNat []);(B4j n v8).bind fun r9=>let v10:Y6:=[r9];bif room (x7.length+v10.length) 24 then B3g n j x4 x5 (IntKind.wrap .i64 (x6+(1:Int))) (x7++v10)else none else none else some x7
def B4i:Nat→Y7→Option Y7
  |0,_=>none
  |n+1,a1=>let v2:Y6:=[];let v3:Y6:=[];B3g n n a1 a1.length 0 v3
def B2e:Nat→Y7→Int→Y7→Option Y7
  |0,_,_,_=>none
  |n+1,a1,a2,a3=>B1k 24 a1 a2 a3
def B43 (n:Nat):Nat→Y6→Int→ByteArray→Y15→List ByteArray→Y3→Option Y7
  |0,_,_,_,_,_,_=>none
  |j+1,x7,x8,x9,x10,x11,x12=>bif decide (x8<(x7.length:Int))then bif inR x8 x7.length then let v13:=(x7.getD x8.toNat []);(B40 n x9 x10 x11 v13).bind fun r14=>(B40 n x9 x10 x11 x12).bind fun r15=>(B5p n r14 r15).bind fun r16=>bif r16 then B43 n j x7 (IntKind.wrap .i64 (x8+(1:Int))) x9 x10 x11 x12 else (B4i n x7).bind fun r17=>(B4j n x12).bind fun r18=>let v19:Y6:=[r18];(B2e n r17 x8 v19).bind fun r20=>some r20 else none else (B4i n x7).bind fun r21=>(B4j n x12).bind fun r22=>let v23:Y6:=[r22];(B2e n r21 x8 v23).bind fun r24=>some r24
def B6u:Nat→ByteArray→Y16→(List ByteArray)→Y7→Y4→Option Y7
  |0,_,_,_,_,_=>none
  |n+1,a1,a2,a3,a4,a5=>let v6:Y6:=[];B43 n n a4 0 a1 a2 a3 a5
def B68:Nat→ByteArray→Y16→(List ByteArray)→Y7→Y4→Option Y12
  |0,_,_,_,_,_=>none
  |n+1,a1,a2,a3,a4,a5=>let v6:Y6:=[];(B4r n a1 a2 a3 a4).bind fun r7=>bif !r7 then let v8:Y6:=[];some (v8,((1:Int),()))else (B60 n a1 a2 a3 a5).bind fun r9=>bif !r9 then let v10:Y6:=[];some (v10,((2:Int),()))else (B40 n a1 a2 a3 a5).bind fun r11=>(B5h n a1 a2 a3 a4 r11).bind fun r12=>bif decide ((0:Int)≤r12)then let v13:Y6:=[];some (v13,((3:Int),()))else bif (a4.length:Int)==60 then let v14:Y6:=[];some (v14,((4:Int),()))else (B6u n a1 a2 a3 a4 a5).bind fun r15=>some (r15,((0:Int),()))
def B7n:Nat→ByteArray→Y16→(List ByteArray)→Y4→Option Bool
  |0,_,_,_,_=>none
  |n+1,a1,a2,a3,a4=>(B54 n a1 a2 a3).bind fun r5=>bif r5 then (B60 n a1 a2 a3 a4).bind fun r6=>some r6 else some false
def B7k:Nat→ByteArray→Y16→(List ByteArray)→Y4→Option Y4
  |0,_,_,_,_=>none
  |n+1,a1,a2,a3,a4=>(B7n n a1 a2 a3 a4).bind fun r5=>bif !r5 then some ([]:Y3)else (B40 n a1 a2 a3 a4).bind fun r6=>some r6
def B7m:Nat→ByteArray→Y16→(List ByteArray)→Y7→Y4→Option Int
  |0,_,_,_,_,_=>none
  |n+1,a1,a2,a3,a4,a5=>(B4r n a1 a2 a3 a4).bind fun r6=>bif !r6 then some (-1:Int)else (B5h n a1 a2 a3 a4 a5).bind fun r7=>some r7
def B4h (n:Nat):Nat→Y3→List ByteArray→Int→Int→ByteArray→Y15→List ByteArray→Option Bool
  |0,_,_,_,_,_,_,_=>none
  |j+1,x7,x8,x9,x10,x11,x12,x13=>bif decide (x10<x9)then bif inR x10 x8.length then bif inR x10 x7.length then let v14:=(x7.getD x10.toNat (0,(0,⟨#[]⟩)));(B4s n v14.1 v14.2.1 v14.2.2).bind fun r15=>bif !r15 then some false else bif inR x10 x7.length then let v16:=(x7.getD x10.toNat (0,(0,⟨#[]⟩)));(B3z n x11 x12 x13 (x8.getD x10.toNat ⟨#[]⟩)).bind fun r17=>bif inR r17 x12.length then let v18:=(x12.getD r17.toNat (⟨#[]⟩,(0,(false,(false,(0,(0,⟨#[]⟩)))))));bif v16.1 !=v18.2.1 then some false else B4h n j x7 x8 x9 (IntKind.wrap .i64 (x10+(1:Int))) x11 x12 x13 else none else none else none else none else some true
def B7l:Nat→ByteArray→Y16→(List ByteArray)→Y4→Option Bool
  |0,_,_,_,_=>none
  |n+1,a1,a2,a3,a4=>(B54 n a1 a2 a3).bind fun r5=>bif !r5 then some false else let v6:Bool:=((a4.length:Int) !=(a3.length:Int));bif v6 then some false else B4h n n a4 a3 a3.length 0 a1 a2 a3
def B2y:Nat→Y7→Int→Int→Option Y7
  |0,_,_,_=>none
  |n+1,a1,a2,a3=>B1f a1 a2 a3
def B6t:Nat→ByteArray→Y16→(List ByteArray)→Y7→Y4→Option Y12
  |0,_,_,_,_,_=>none
  |n+1,a1,a2,a3,a4,a5=>let v6:Y6:=[];(B4r n a1 a2 a3 a4).bind fun r7=>bif !r7 then let v8:Y6:=[];some (v8,((1:Int),()))else (B7l n a1 a2 a3 a5).bind fun r9=>bif !r9 then let v10:Y6:=[];some (v10,((5:Int),()))else (B5h n a1 a2 a3 a4 a5).bind fun r11=>bif decide (r11<(0:Int))then let v12:Y6:=[];some (v12,((5:Int),()))else (B5h n a1 a2 a3 a4 a5).bind fun r13=>(B4i n a4).bind fun r14=>(B2y n r14 r13 (IntKind.wrap .i64 (r13+(1:Int)))).bind fun r15=>some (r15,((0:Int),()))
def B5d:Nat→Y4→Y4→Option Bool
  |0,_,_=>none
  |n+1,a1,a2=>(B2g n a1 a2).bind fun r3=>some r3
def C1 (n:Nat):Nat→Y6→Y6→Int→Int→Option Bool
  |0,_,_,_,_=>none
  |j+1,x4,x5,x6,x7=>bif decide (x7<x6)then bif inR x7 x5.length then let v8:=(x5.getD x7.toNat []);bif inR x7 x4.length then let v9:=(x4.getD x7.toNat []);(B5d n v8 v9).bind fun r10=>bif !r10 then some false else C1 n j x4 x5 x6 (IntKind.wrap .i64 (x7+(1:Int)))else none else none else some true
def D4:Nat→Y7→Y7→Option Bool
  |0,_,_=>none
  |n+1,a1,a2=>let v3:Bool:=((a1.length:Int) !=(a2.length:Int));bif v3 then some false else C1 n n a2 a1 a1.length 0
def B63:Nat→Y7→Y7→Option Bool
  |0,_,_=>none
  |n+1,a1,a2=>(D4 n a1 a2).bind fun r3=>some r3
def B8k:Nat→(List Int)→Option Bool
  |0,_=>none
  |n+1,a1=>let v2:Bool:=(decide ((1048576:Int)<(a1.length:Int)));bif v2 then some true else (B5f n a1).bind fun r3=>let v4:Y15:=[];(B68 n r3.1.1 r3.1.2.1 r3.1.2.2 r3.2.1 r3.2.2.1).bind fun r5=>(B6b n r3.1.1 r3.1.2.1 r3.1.2.2 r3.2.1 r3.2.2.1).bind fun r6=>bif r5.2.1 !=r6.2.1 then some false else bif r5.2.1 !=(0:Int)then some ((r5.1.length:Int)==0)else (B7k n r3.1.1 r3.1.2.1 r3.1.2.2 r3.2.2.1).bind fun r7=>(B7m n r3.1.1 r3.1.2.1 r3.1.2.2 r5.1 r7).bind fun r8=>(B6t n r3.1.1 r3.1.2.1 r3.1.2.2 r5.1 r7).bind fun r9=>(B68 n r3.1.1 r3.1.2.1 r3.1.2.2 r5.1 r3.2.2.1).bind fun r10=>bif decide ((0:Int)≤r8)then bif r9.2.1==(0:Int)then bif r10.2.1==(3:Int)then (B63 n r9.1 r3.2.1).bind fun r11=>bif r11 then (B4r n r3.1.1 r3.1.2.1 r3.1.2.2 r5.1).bind fun r12=>some r12 else some false else some false else some false else some false
end Go.Proofs.Ytalmhjlcjcnidaa.Ev
