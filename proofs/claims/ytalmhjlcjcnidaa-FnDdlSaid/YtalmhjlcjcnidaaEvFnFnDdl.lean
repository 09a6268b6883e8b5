/- The functions that the law FnDdl reaches, as typed functions. -/
import Derived.Test.YtalmhjlcjcnidaaEvCore
set_option linter.all false
namespace Go.Proofs.Ytalmhjlcjcnidaa.Ev
open Go
abbrev Y1:Type:=(Int×(Int×ByteArray))
abbrev Y2:Type:=((List Int)×(Int×Int))
abbrev Y3:Type:=List Y1
abbrev Y4:Type:=(Y3)
abbrev Y5:Type:=(Bool×Y1)
abbrev Y6:Type:=List Y4
abbrev Y7:Type:=(Y6)
abbrev Y8:Type:=(Int×(Y2×Unit))
abbrev Y9:Type:=(Bool×Y5)
abbrev Y10:Type:=((List ByteArray)×(ByteArray×ByteArray))
abbrev Y11:Type:=(ByteArray×(Y2×Unit))
abbrev Y12:Type:=(Int×Y9)
abbrev Y13:Type:=(Y7×(Int×Unit))
abbrev Y14:Type:=(ByteArray×Y12)
abbrev Y15:Type:=(Y1×(Y2×Unit))
abbrev Y16:Type:=List Y14
abbrev Y17:Type:=(Y16)
abbrev Y18:Type:=(Y4×(Y2×Unit))
abbrev Y19:Type:=(Y7×(Y2×Unit))
abbrev Y20:Type:=(Y17×(List ByteArray))
abbrev Y21:Type:=(ByteArray×Y20)
abbrev Y22:Type:=List Y21
abbrev Y23:Type:=(Y22)
abbrev Y24:Type:=(Y17×Y10)
abbrev Y25:Type:=(Y23×(Int×Unit))
abbrev Y26:Type:=(ByteArray×Y24)
abbrev Y27:Type:=(Int×Y26)
abbrev Y28:Type:=(Y21×(Y2×Unit))
abbrev Y29:Type:=(Y27×Unit)
abbrev Y30:Type:=(Y27×(Y2×Unit))
abbrev Y31:Type:=(Y21×Y19)
abbrev Y32:Type:=(Y7×Y29)
abbrev Y33:Type:=(Y21×Y32)
def B5h (n:Nat):Nat→List Int→Int→Int→Option (Y2×Unit)
  |0,_,_,_=>none
  |j+1,x3,x4,x5=>bif decide (x5<(x3.length:Int))then bif decide (x5<(4000:Int))then bif inR x5 x3.length then let v6:Int:=(IntKind.wrap .i64 (x3.getD x5.toNat 0));let v7:Int:=(IntKind.wrap .i64 ((IntKind.wrap .i64 (x4*(157:Int)))+v6));let v8:Int:=(IntKind.wrap .i64 ((BitVec.ofInt (IntKind.bits .i64) (IntKind.wrap .i64 (v7+(7:Int)))&&&BitVec.ofInt (IntKind.bits .i64) 1073741823).toNat:Int));B5h n j x3 v8 (IntKind.wrap .i64 (x5+(1:Int)))else none else some ((x3,((0:Int),x4)),())else some ((x3,((0:Int),x4)),())
def B9i:Nat→(List Int)→Option (Y2×Unit)
  |0,_=>none
  |n+1,a1=>let v2:Int:=(IntKind.wrap .i64 ((942001:Int)+(a1.length:Int)));B5h n n a1 v2 0
def B4c:Nat→(List Int)→Int→Int→Option Y8
  |0,_,_,_=>none
  |n+1,a1,a2,a3=>let v4:Int:=(IntKind.wrap .i64 (a3*(6364136223846793005:Int)));let v5:Int:=(IntKind.wrap .i64 (v4+(1442695040888963407:Int)));bif decide (0≤(33:Int))then let v6:Int:=(Int.fdiv v5 (2^min (33:Int).toNat (IntKind.bits .i64)));bif decide (0≤(45:Int))then let v7:Int:=(Int.fdiv v5 (2^min (45:Int).toNat (IntKind.bits .i64)));let v8:Int:=(IntKind.wrap .i64 ((BitVec.ofInt (IntKind.bits .i64) v6^^^BitVec.ofInt (IntKind.bits .i64) v7).toNat:Int));let v9:Int:=(IntKind.wrap .i64 ((BitVec.ofInt (IntKind.bits .i64) v8&&&BitVec.ofInt (IntKind.bits .i64) 255).toNat:Int));bif decide (a2<(a1.length:Int))then bif inR a2 a1.length then let v10:Int:=(IntKind.wrap .i64 (a1.getD a2.toNat 0));let v11:Int:=(IntKind.wrap .i64 ((BitVec.ofInt (IntKind.bits .i64) (IntKind.wrap .i64 (v9+v10))&&&BitVec.ofInt (IntKind.bits .i64) 255).toNat:Int));some (v11,((a1,((IntKind.wrap .i64 (a2+(1:Int))),v5)),()))else none else some (v9,((a1,(a2,v5)),()))else none else none
def D0:Nat→(List Int)→Int→Int→Int→Option Y8
  |0,_,_,_,_=>none
  |n+1,a1,a2,a3,a4=>bif decide (a4≤(0:Int))then some ((0:Int),((a1,(a2,a3)),()))else bif decide (a4≤(256:Int))then (B4c n a1 a2 a3).bind fun r5=>bif !decide (a4=0)then some ((Int.tmod r5.1 a4),((r5.2.1.1,(r5.2.1.2.1,r5.2.1.2.2)),()))else none else (B4c n a1 a2 a3).bind fun r6=>(B4c n r6.2.1.1 r6.2.1.2.1 r6.2.1.2.2).bind fun r7=>(B4c n r7.2.1.1 r7.2.1.2.1 r7.2.1.2.2).bind fun r8=>(B4c n r8.2.1.1 r8.2.1.2.1 r8.2.1.2.2).bind fun r9=>let v10:Int:=(IntKind.wrap .i64 (r6.1*(16777216:Int)));let v11:Int:=(IntKind.wrap .i64 (r7.1*(65536:Int)));let v12:Int:=(IntKind.wrap .i64 (r8.1*(256:Int)));let v13:Int:=(IntKind.wrap .i64 ((IntKind.wrap .i64 (v10+v11))+v12));bif !decide (a4=0)then let v14:Int:=(Int.tmod (IntKind.wrap .i64 (v13+r9.1)) a4);some (v14,((r9.2.1.1,(r9.2.1.2.1,r9.2.1.2.2)),()))else none
def B4d:Nat→(List Int)→Int→Int→Option Y11
  |0,_,_,_=>none
  |n+1,a1,a2,a3=>let v4:List ByteArray:=[(⟨#[105,100]⟩:ByteArray),(⟨#[97]⟩:ByteArray),(⟨#[98]⟩:ByteArray),(⟨#[99]⟩:ByteArray),(⟨#[100]⟩:ByteArray),(⟨#[101]⟩:ByteArray)];(D0 n a1 a2 a3 6).bind fun r5=>bif inR r5.1 v4.length then let v6:ByteArray:=(v4.getD r5.1.toNat ⟨#[]⟩);some (v6,((r5.2.1.1,(r5.2.1.2.1,r5.2.1.2.2)),()))else none
def B65 (n:Nat):Nat→ByteArray→Y16→Int→Int→Option Int
  |0,_,_,_,_=>none
  |j+1,x5,x6,x7,x8=>bif decide (x8<x7)then bif inR x8 x6.length then let v9:=(x6.getD x8.toNat (⟨#[]⟩,(0,(false,(false,(0,(0,⟨#[]⟩)))))));bif v9.1.toList==x5.toList then some x8 else B65 n j x5 x6 x7 (IntKind.wrap .i64 (x8+(1:Int)))else none else some (-1:Int)
def B4l:Nat→ByteArray→Y17→(List ByteArray)→ByteArray→Option Int
  |0,_,_,_,_=>none
  |n+1,a1,a2,a3,a4=>B65 n n a4 a2 a2.length 0
def B5i (n:Nat):Nat→Int→Int→List Int→Int→Int→List Int→Option Y11
  |0,_,_,_,_,_,_=>none
  |j+1,x8,x9,x10,x11,x12,x13=>bif decide (x9<x8)then (B4c n x10 x11 x12).bind fun r14=>bif room (x13.length+([(IntKind.wrap .u8 r14.1)]:List Int).length) 1 then let v15:List Int:=(x13++([(IntKind.wrap .u8 r14.1)]:List Int));B5i n j x8 (IntKind.wrap .i64 (x9+(1:Int))) r14.2.1.1 r14.2.1.2.1 r14.2.1.2.2 v15 else none else some ((strOfNums x13),((x10,(x11,x12)),()))
def B9k:Nat→(List Int)→Int→Int→Option Y11
  |0,_,_,_=>none
  |n+1,a1,a2,a3=>(D0 n a1 a2 a3 10).bind fun r4=>bif decide (r4.1<(7:Int))then let v5:List ByteArray:=[(⟨#[]⟩:ByteArray),(⟨#[97]⟩:ByteArray),(⟨#[98]⟩:ByteArray),(⟨#[97,98]⟩:ByteArray),(⟨#[116,114,117,101]⟩:ByteArray),(⟨#[102,97,108,115,101]⟩:ByteArray),(⟨#[49,50]⟩:ByteArray)];bif inR r4.1 v5.length then let v6:ByteArray:=(v5.getD r4.1.toNat ⟨#[]⟩);some (v6,((r4.2.1.1,(r4.2.1.2.1,r4.2.1.2.2)),()))else none else bif r4.1==(7:Int)then some ((⟨#[105,116,39,115,32,53,37,10]⟩:ByteArray),((r4.2.1.1,(r4.2.1.2.1,r4.2.1.2.2)),()))else (D0 n r4.2.1.1 r4.2.1.2.1 r4.2.1.2.2 31).bind fun r7=>B5i n n r7.1 0 r7.2.1.1 r7.2.1.2.1 r7.2.1.2.2 ([]:List Int)
def B73:Nat→(List Int)→Int→Int→Int→Option Y15
  |0,_,_,_,_=>none
  |n+1,a1,a2,a3,a4=>(D0 n a1 a2 a3 8).bind fun r5=>bif r5.1==(0:Int)then some (((0:Int),((0:Int),(⟨#[]⟩:ByteArray))),((r5.2.1.1,(r5.2.1.2.1,r5.2.1.2.2)),()))else bif a4==(1:Int)then (D0 n r5.2.1.1 r5.2.1.2.1 r5.2.1.2.2 2).bind fun r6=>some ((a4,(r6.1,(⟨#[]⟩:ByteArray))),((r6.2.1.1,(r6.2.1.2.1,r6.2.1.2.2)),()))else bif a4==(2:Int)then (D0 n r5.2.1.1 r5.2.1.2.1 r5.2.1.2.2 12).bind fun r7=>some ((a4,((IntKind.wrap .i64 (r7.1 - 2)),(⟨#[]⟩:ByteArray))),((r7.2.1.1,(r7.2.1.2.1,r7.2.1.2.2)),()))else bif a4==(3:Int)then (B9k n r5.2.1.1 r5.2.1.2.1 r5.2.1.2.2).bind fun r8=>some ((a4,((0:Int),r8.1)),((r8.2.1.1,(r8.2.1.2.1,r8.2.1.2.2)),()))else some (((0:Int),((0:Int),(⟨#[]⟩:ByteArray))),((r5.2.1.1,(r5.2.1.2.1,r5.2.1.2.2)),()))
def B78:Nat→(List Int)→Int→Int→ByteArray→Option (Y14×(Y2×Unit))
  |0,_,_,_,_=>none
  |n+1,a1,a2,a3,a4=>(D0 n a1 a2 a3 3).bind fun r5=>(D0 n r5.2.1.1 r5.2.1.2.1 r5.2.1.2.2 3).bind fun r6=>(D0 n r6.2.1.1 r6.2.1.2.1 r6.2.1.2.2 2).bind fun r7=>bif r7.1==(0:Int)then (B73 n r7.2.1.1 r7.2.1.2.1 r7.2.1.2.2 (IntKind.wrap .i64 ((1:Int)+r5.1))).bind fun r8=>bif r6.1==(0:Int)then bif r8.1.1==(0:Int)then some ((a4,((IntKind.wrap .i64 ((1:Int)+r5.1)),((r6.1==(0:Int)),((r7.1==(0:Int)),((IntKind.wrap .i64 ((1:Int)+r5.1)),((0:Int),(⟨#[]⟩:ByteArray))))))),((r8.2.1.1,(r8.2.1.2.1,r8.2.1.2.2)),()))else some ((a4,((IntKind.wrap .i64 ((1:Int)+r5.1)),((r6.1==(0:Int)),((r7.1==(0:Int)),(r8.1.1,(r8.1.2.1,r8.1.2.2)))))),((r8.2.1.1,(r8.2.1.2.1,r8.2.1.2.2)),()))else some ((a4,((IntKind.wrap .i64 ((1:Int)+r5.1)),((r6.1==(0:Int)),((r7.1==(0:Int)),(r8.1.1,(r8.1.2.1,r8.1.2.2)))))),((r8.2.1.1,(r8.2.1.2.1,r8.2.1.2.2)),()))else some ((a4,((IntKind.wrap .i64 ((1:Int)+r5.1)),((r6.1==(0:Int)),((r7.1==(0:Int)),((0:Int),((0:Int),(⟨#[]⟩:ByteArray))))))),((r7.2.1.1,(r7.2.1.2.1,r7.2.1.2.2)),()))
def B45 (n:Nat):Nat→Int→List Int→Int→Int→ByteArray→Y16→List ByteArray→ByteArray→Y16→List ByteArray→Option Y28
  |0,_,_,_,_,_,_,_,_,_,_=>none
  |j+1,x10,x11,x12,x13,x14,x15,x16,x17,x18,x19=>bif decide ((0:Int)<x10)then (B4d n x11 x12 x13).bind fun r20=>(B4l n x17 x18 x19 r20.1).bind fun r21=>bif decide (r21<(0:Int))then (B78 n r20.2.1.1 r20.2.1.2.1 r20.2.1.2.2 r20.1).bind fun r22=>let v23:Y16:=[(r22.1.1,(r22.1.2.1,(r22.1.2.2.1,(r22.1.2.2.2.1,(r22.1.2.2.2.2.1,(r22.1.2.2.2.2.2.1,r22.1.2.2.2.2.2.2))))))];bif room (x18.length+v23.length) 64 then B45 n j (IntKind.wrap .i64 (x10 - 1)) r22.2.1.1 r22.2.1.2.1 r22.2.1.2.2 x14 x15 x16 x17 (x18++v23) x19 else none else B45 n j (IntKind.wrap .i64 (x10 - 1)) r20.2.1.1 r20.2.1.2.1 r20.2.1.2.2 x14 x15 x16 x17 x18 x19 else let v24:Int:=(IntKind.wrap .i64 ((x18.length:Int) - 1));bif inR v24 x18.length then let v25:ByteArray:=(x18.getD v24.toNat (⟨#[]⟩,(0,(false,(false,(0,(0,⟨#[]⟩))))))).1;let v26:Int:=(x18.getD v24.toNat (⟨#[]⟩,(0,(false,(false,(0,(0,⟨#[]⟩))))))).2.1;let v27:Bool:=(x18.getD v24.toNat (⟨#[]⟩,(0,(false,(false,(0,(0,⟨#[]⟩))))))).2.2.1;let v28:Bool:=(x18.getD v24.toNat (⟨#[]⟩,(0,(false,(false,(0,(0,⟨#[]⟩))))))).2.2.2.1;let v29:Int:=(x18.getD v24.toNat (⟨#[]⟩,(0,(false,(false,(0,(0,⟨#[]⟩))))))).2.2.2.2.1;let v30:Int:=(x18.getD v24.toNat (⟨#[]⟩,(0,(false,(false,(0,(0,⟨#[]⟩))))))).2.2.2.2.2.1;let v31:ByteArray:=(x18.getD v24.toNat (⟨#[]⟩,(0,(false,(false,(0,(0,⟨#[]⟩))))))).2.2.2.2.2.2;bif v27 then let v32:Bool:=(decide ((1:Int)<(x18.length:Int)));bif v32 then (D0 n x11 x12 x13 3).bind fun r33=>bif r33.1==(0:Int)then bif room (x19.length+([v25]:List ByteArray).length) 16 then some ((x17,(x18,(x19++([v25]:List ByteArray)))),((r33.2.1.1,(r33.2.1.2.1,r33.2.1.2.2)),()))else none else some ((x17,(x18,x19)),((r33.2.1.1,(r33.2.1.2.1,r33.2.1.2.2)),()))else some ((x17,(x18,x19)),((x11,(x12,x13)),()))else some ((x17,(x18,x19)),((x11,(x12,x13)),()))else none
def B6t:Nat→(List Int)→Int→Int→ByteArray→Option Y28
  |0,_,_,_,_=>none
  |n+1,a1,a2,a3,a4=>let v5:Y16:=[];let v6:Y16:=[((⟨#[105,100]⟩:ByteArray),((2:Int),(true,(false,((0:Int),((0:Int),(⟨#[]⟩:ByteArray)))))))];let v7:List ByteArray:=[(⟨#[105,100]⟩:ByteArray)];let v8:Y16:=[];(D0 n a1 a2 a3 4).bind fun r9=>B45 n n r9.1 r9.2.1.1 r9.2.1.2.1 r9.2.1.2.2 (⟨#[]⟩:ByteArray) v5 ([]:List ByteArray) a4 v6 v7
def B4u (n:Nat)(k0:Y16→Int→Int→List Int→Int→Int→Y3→Y3→Option Y18):Nat→Int→Y16→Int→Int→List Int→Int→Int→Y3→Y3→ByteArray→Int→Bool→Bool→Int→Int→ByteArray→Int→Int→ByteArray→Option Y18
  |0,_,_,_,_,_,_,_,_,_,_,_,_,_,_,_,_,_,_,_=>none
  |j+1,x17,x18,x19,x20,x21,x22,x23,x24,x25,x26,x27,x28,x29,x30,x31,x32,x33,x34,x35=>bif decide (x17<(9:Int))then bif x28 then bif x33==(0:Int)then (B73 n x21 x22 x23 x27).bind fun r36=>B4u n k0 j (IntKind.wrap .i64 (x17+(1:Int))) x18 x19 x20 r36.2.1.1 r36.2.1.2.1 r36.2.1.2.2 x24 x25 x26 x27 x28 x29 x30 x31 x32 r36.1.1 r36.1.2.1 r36.1.2.2 else let v37:Y3:=[(x33,(x34,x35))];bif room (x25.length+v37.length) 32 then k0 x18 x19 (IntKind.wrap .i64 (x20+(1:Int))) x21 x22 x23 x24 (x25++v37)else none else let v38:Y3:=[(x33,(x34,x35))];bif room (x25.length+v38.length) 32 then k0 x18 x19 (IntKind.wrap .i64 (x20+(1:Int))) x21 x22 x23 x24 (x25++v38)else none else let v39:Y3:=[(x33,(x34,x35))];bif room (x25.length+v39.length) 32 then k0 x18 x19 (IntKind.wrap .i64 (x20+(1:Int))) x21 x22 x23 x24 (x25++v39)else none
def B39 (n:Nat):Nat→Y16→Int→Int→List Int→Int→Int→Y3→Y3→Option Y18
  |0,_,_,_,_,_,_,_,_=>none
  |j+1,x7,x8,x9,x10,x11,x12,x13,x14=>bif decide (x9<x8)then bif inR x9 x7.length then let v15:=(x7.getD x9.toNat (⟨#[]⟩,(0,(false,(false,(0,(0,⟨#[]⟩)))))));(B73 n x10 x11 x12 v15.2.1).bind fun r16=>B4u n (fun y40 y41 y42 y43 y44 y45 y46 y47=>B39 n j y40 y41 y42 y43 y44 y45 y46 y47) n 0 x7 x8 x9 r16.2.1.1 r16.2.1.2.1 r16.2.1.2.2 x13 x14 v15.1 v15.2.1 v15.2.2.1 v15.2.2.2.1 v15.2.2.2.2.1 v15.2.2.2.2.2.1 v15.2.2.2.2.2.2 r16.1.1 r16.1.2.1 r16.1.2.2 else none else some (x14,((x10,(x11,x12)),()))
def B8n:Nat→(List Int)→Int→Int→ByteArray→Y17→(List ByteArray)→Option Y18
  |0,_,_,_,_,_,_=>none
  |n+1,a1,a2,a3,a4,a5,a6=>B39 n n a5 a5.length 0 a1 a2 a3 ([]:Y3) ([]:Y3)
def B5g (n:Nat):Nat→ByteArray→Int→Option Bool
  |0,_,_=>none
  |j+1,x2,x3=>bif decide (x3<(x2.size:Int))then bif inR x3 x2.size then bif decide ((bt x2 x3)<97)then some false else bif inR x3 x2.size then bif decide ((122:Int)<(bt x2 x3))then some false else B5g n j x2 (IntKind.wrap .i64 (x3+(1:Int)))else none else none else bif decide ((1:Int)≤(x2.size:Int))then some (decide ((x2.size:Int)≤8))else some false
def B52:Nat→ByteArray→Option Bool
  |0,_=>none
  |n+1,a1=>B5g n n a1 0
def B9j:Nat→Int→Option Bool
  |0,_=>none
  |n+1,a1=>bif decide ((-1099511627775:Int)≤a1)then some (decide (a1≤(1099511627775:Int)))else some false
def B6e:Nat→Int→Int→ByteArray→Option Bool
  |0,_,_,_=>none
  |n+1,a1,a2,a3=>bif a1==(0:Int)then bif a2==(0:Int)then let v4:Bool:=(a3.toList==(⟨#[]⟩:ByteArray).toList);some v4 else some false else bif a1==(1:Int)then bif a2==(0:Int)then let v5:Bool:=(a3.toList==(⟨#[]⟩:ByteArray).toList);some v5 else bif a2==(1:Int)then let v6:Bool:=(a3.toList==(⟨#[]⟩:ByteArray).toList);some v6 else some false else bif a1==(2:Int)then (B9j n a2).bind fun r7=>bif r7 then let v8:Bool:=(a3.toList==(⟨#[]⟩:ByteArray).toList);some v8 else some false else bif a1==(3:Int)then bif a2==(0:Int)then some (decide ((a3.size:Int)≤30))else some false else some false
def B7q:Nat→ByteArray→Int→Bool→Bool→Int→Int→ByteArray→Option Bool
  |0,_,_,_,_,_,_,_=>none
  |n+1,a1,a2,a3,a4,a5,a6,a7=>let v8:Bool:=((a5==(0:Int))&&((a6==(0:Int))&&((a7.toList==(⟨#[]⟩:ByteArray).toList)&&true)));(B52 n a1).bind fun r9=>bif !r9 then some false else bif decide (a2<(1:Int))then some false else bif decide ((3:Int)<a2)then some false else bif !a4 then some v8 else (B6e n a5 a6 a7).bind fun r10=>bif r10 then bif v8 then bif v8 then some (!a3)else some true else bif a5==a2 then bif v8 then some (!a3)else some true else some false else some false
def B44 (n:Nat):Nat→Int→List ByteArray→Int→Int→ByteArray→Y16→List ByteArray→Option Bool
  |0,_,_,_,_,_,_,_=>none
  |j+1,x17,x18,x19,x20,x21,x22,x23=>bif decide (x20<x19)then bif inR x20 x18.length then let v24:ByteArray:=(x18.getD x20.toNat ⟨#[]⟩);(B4l n x21 x22 x23 v24).bind fun r25=>bif decide (r25≤x17)then some false else bif inR r25 x22.length then let v26:=(x22.getD r25.toNat (⟨#[]⟩,(0,(false,(false,(0,(0,⟨#[]⟩)))))));bif !v26.2.2.1 then some false else B44 n j r25 x18 x19 (IntKind.wrap .i64 (x20+(1:Int))) x21 x22 x23 else none else none else some true
def B43 (n:Nat):Nat→Y16→Int→Int→ByteArray→Y16→List ByteArray→Option Bool
  |0,_,_,_,_,_,_=>none
  |j+1,x8,x9,x10,x11,x12,x13=>bif decide (x10<x9)then bif inR x10 x8.length then let v14:=(x8.getD x10.toNat (⟨#[]⟩,(0,(false,(false,(0,(0,⟨#[]⟩)))))));(B7q n v14.1 v14.2.1 v14.2.2.1 v14.2.2.2.1 v14.2.2.2.2.1 v14.2.2.2.2.2.1 v14.2.2.2.2.2.2).bind fun r15=>bif !r15 then some false else (B4l n x11 x12 x13 v14.1).bind fun r16=>bif r16 !=x10 then some false else B43 n j x8 x9 (IntKind.wrap .i64 (x10+(1:Int))) x11 x12 x13 else none else B44 n n (-1:Int) x13 x13.length 0 x11 x12 x13
def B51:Nat→ByteArray→Y17→(List ByteArray)→Option Bool
  |0,_,_,_=>none
  |n+1,a1,a2,a3=>(B52 n a1).bind fun r4=>bif !r4 then some false else let v5:Bool:=(decide ((a2.length:Int)<1));bif v5 then some false else let v6:Bool:=(decide ((8:Int)<(a2.length:Int)));bif v6 then some false else let v7:Bool:=(decide ((a3.length:Int)<1));bif v7 then some false else B43 n n a2 a2.length 0 a1 a2 a3
def B8o:Nat→ByteArray→Int→Bool→Bool→Int→Int→ByteArray→Int→Int→ByteArray→Option Bool
  |0,_,_,_,_,_,_,_,_,_,_=>none
  |n+1,a1,a2,a3,a4,a5,a6,a7,a8,a9,a10=>bif a8==(0:Int)then (B6e n a8 a9 a10).bind fun r11=>bif r11 then some (!a3)else some false else (B6e n a8 a9 a10).bind fun r12=>bif r12 then some (a8==a2)else some false
def B67 (n:Nat):Nat→Y16→Int→Int→Y3→Option Bool
  |0,_,_,_,_=>none
  |j+1,x7,x8,x9,x10=>bif decide (x9<x8)then bif inR x9 x7.length then let v11:=(x7.getD x9.toNat (⟨#[]⟩,(0,(false,(false,(0,(0,⟨#[]⟩)))))));bif inR x9 x10.length then let v12:=(x10.getD x9.toNat (0,(0,⟨#[]⟩)));(B8o n v11.1 v11.2.1 v11.2.2.1 v11.2.2.2.1 v11.2.2.2.2.1 v11.2.2.2.2.2.1 v11.2.2.2.2.2.2 v12.1 v12.2.1 v12.2.2).bind fun r13=>bif !r13 then some false else B67 n j x7 x8 (IntKind.wrap .i64 (x9+(1:Int))) x10 else none else none else some true
def B96:Nat→ByteArray→Y17→(List ByteArray)→Y4→Option Bool
  |0,_,_,_,_=>none
  |n+1,a1,a2,a3,a4=>(B51 n a1 a2 a3).bind fun r5=>bif !r5 then some false else let v6:Bool:=((a4.length:Int) !=(a2.length:Int));bif v6 then some false else B67 n n a2 a2.length 0 a4
def B5p (n:Nat):Nat→List ByteArray→Int→Int→ByteArray→Y16→List ByteArray→Y3→Y3→Option Y4
  |0,_,_,_,_,_,_,_,_=>none
  |j+1,x5,x6,x7,x8,x9,x10,x11,x12=>bif decide (x7<x6)then bif inR x7 x5.length then (B4l n x8 x9 x10 (x5.getD x7.toNat ⟨#[]⟩)).bind fun r13=>bif inR r13 x11.length then let v14:=(x11.getD r13.toNat (0,(0,⟨#[]⟩)));let v15:Y3:=[(v14.1,(v14.2.1,v14.2.2))];bif room (x12.length+v15.length) 32 then B5p n j x5 x6 (IntKind.wrap .i64 (x7+(1:Int))) x8 x9 x10 x11 (x12++v15)else none else none else none else some x12
def B59:Nat→ByteArray→Y17→(List ByteArray)→Y4→Option Y4
  |0,_,_,_,_=>none
  |n+1,a1,a2,a3,a4=>B5p n n a3 a3.length 0 a1 a2 a3 a4 ([]:Y3)
def B7h:Nat→Int→Int→ByteArray→Int→Int→ByteArray→Option Bool
  |0,_,_,_,_,_,_=>none
  |n+1,a1,a2,a3,a4,a5,a6=>(B6e n a1 a2 a3).bind fun r7=>bif !r7 then some false else (B6e n a4 a5 a6).bind fun r8=>bif !r8 then some false else bif a1 !=a4 then some (decide (a1<a4))else bif decide (a2<a5)then some true else bif a2==a5 then some (Op.bytesLess a3.toList a6.toList)else some false
def B3i (n:Nat):Nat→Y3→Y3→Int→Option Bool
  |0,_,_,_=>none
  |j+1,x3,x4,x5=>bif decide (x5<(x3.length:Int))then bif decide (x5<(x4.length:Int))then bif inR x5 x3.length then let v6:=(x3.getD x5.toNat (0,(0,⟨#[]⟩)));bif inR x5 x4.length then let v7:=(x4.getD x5.toNat (0,(0,⟨#[]⟩)));let v8:Bool:=(!((v6.1==v7.1)&&((v6.2.1==v7.2.1)&&((v6.2.2.toList==v7.2.2.toList)&&true))));bif v8 then bif inR x5 x3.length then let v9:=(x3.getD x5.toNat (0,(0,⟨#[]⟩)));bif inR x5 x4.length then let v10:=(x4.getD x5.toNat (0,(0,⟨#[]⟩)));(B7h n v9.1 v9.2.1 v9.2.2 v10.1 v10.2.1 v10.2.2).bind fun r11=>some r11 else none else none else B3i n j x3 x4 (IntKind.wrap .i64 (x5+(1:Int)))else none else none else let v12:Bool:=(decide ((x3.length:Int)<(x4.length:Int)));some v12 else let v13:Bool:=(decide ((x3.length:Int)<(x4.length:Int)));some v13
def B6s:Nat→Y4→Y4→Option Bool
  |0,_,_=>none
  |n+1,a1,a2=>B3i n n a1 a2 0
def B4m (n:Nat):Nat→Y6→Y6→Int→Int→ByteArray→Y16→List ByteArray→Option Bool
  |0,_,_,_,_,_,_,_=>none
  |j+1,x7,x8,x9,x10,x11,x12,x13=>bif decide (x10<x9)then bif inR x10 x8.length then let v14:=(x8.getD x10.toNat []);(B96 n x11 x12 x13 v14).bind fun r15=>bif !r15 then some false else bif decide ((0:Int)<x10)then bif inR (IntKind.wrap .i64 (x10 - 1)) x7.length then let v16:=(x7.getD (IntKind.wrap .i64 (x10 - 1)).toNat []);(B59 n x11 x12 x13 v16).bind fun r17=>(B59 n x11 x12 x13 v14).bind fun r18=>(B6s n r17 r18).bind fun r19=>bif !r19 then some false else B4m n j x7 x8 x9 (IntKind.wrap .i64 (x10+(1:Int))) x11 x12 x13 else none else B4m n j x7 x8 x9 (IntKind.wrap .i64 (x10+(1:Int))) x11 x12 x13 else none else some true
def B76:Nat→ByteArray→Y17→(List ByteArray)→Y7→Option Bool
  |0,_,_,_,_=>none
  |n+1,a1,a2,a3,a4=>(B51 n a1 a2 a3).bind fun r5=>bif !r5 then some false else let v6:Bool:=(decide ((60:Int)<(a4.length:Int)));bif v6 then some false else B4m n n a4 a4 a4.length 0 a1 a2 a3
def B3g (n:Nat):Nat→Y3→Y3→Int→Int→Option Bool
  |0,_,_,_,_=>none
  |j+1,x4,x5,x6,x7=>bif decide (x7<x6)then bif inR x7 x4.length then let v8:=(x4.getD x7.toNat (0,(0,⟨#[]⟩)));bif inR x7 x5.length then let v9:=(x5.getD x7.toNat (0,(0,⟨#[]⟩)));let v10:Bool:=(!((v8.1==v9.1)&&((v8.2.1==v9.2.1)&&((v8.2.2.toList==v9.2.2.toList)&&true))));bif v10 then some false else B3g n j x4 x5 x6 (IntKind.wrap .i64 (x7+(1:Int)))else none else none else some true
def B6u:Nat→Y4→Y4→Option Bool
  |0,_,_=>none
  |n+1,a1,a2=>let v3:Bool:=((a1.length:Int) !=(a2.length:Int));bif v3 then some false else B3g n n a1 a2 a1.length 0
def B66 (n:Nat):Nat→Y3→Y6→Int→Int→ByteArray→Y16→List ByteArray→Option Int
  |0,_,_,_,_,_,_,_=>none
  |j+1,x7,x8,x9,x10,x11,x12,x13=>bif decide (x10<x9)then bif inR x10 x8.length then let v14:=(x8.getD x10.toNat []);(B59 n x11 x12 x13 v14).bind fun r15=>(B6u n r15 x7).bind fun r16=>bif r16 then some x10 else B66 n j x7 x8 x9 (IntKind.wrap .i64 (x10+(1:Int))) x11 x12 x13 else none else some (-1:Int)
def C0e:Nat→ByteArray→Y17→(List ByteArray)→Y7→Y4→Option Int
  |0,_,_,_,_,_=>none
  |n+1,a1,a2,a3,a4,a5=>(B76 n a1 a2 a3 a4).bind fun r6=>bif !r6 then some (-1:Int)else B66 n n a5 a4 a4.length 0 a1 a2 a3
def B5s:Nat→Y4→Option Y4
  |0,_=>none
  |n+1,a1=>bif room (([]:Y3).length+a1.length) 32 then let v2:Y3:=(([]:Y3)++a1);some v2 else none
def B3v (n:Nat):Nat→Bool→Y6→Int→Int→ByteArray→Y16→List ByteArray→Y3→Y6→Option Y7
  |0,_,_,_,_,_,_,_,_,_=>none
  |j+1,x8,x9,x10,x11,x12,x13,x14,x15,x16=>bif decide (x11<x10)then bif inR x11 x9.length then let v17:=(x9.getD x11.toNat []);bif !x8 then (B59 n x12 x13 x14 x15).bind fun r18=>(B59 n x12 x13 x14 v17).bind fun r19=>(B6s n r18 r19).bind fun r20=>bif r20 then (B5s n x15).bind fun r21=>let v22:Y6:=[r21];bif room (x16.length+v22.length) 24 then (B5s n v17).bind fun r23=>let v24:Y6:=[r23];bif room ((x16++v22).length+v24.length) 24 then B3v n j true x9 x10 (IntKind.wrap .i64 (x11+(1:Int))) x12 x13 x14 x15 ((x16++v22)++v24)else none else none else (B5s n v17).bind fun r25=>let v26:Y6:=[r25];bif room (x16.length+v26.length) 24 then B3v n j x8 x9 x10 (IntKind.wrap .i64 (x11+(1:Int))) x12 x13 x14 x15 (x16++v26)else none else (B5s n v17).bind fun r27=>let v28:Y6:=[r27];bif room (x16.length+v28.length) 24 then B3v n j x8 x9 x10 (IntKind.wrap .i64 (x11+(1:Int))) x12 x13 x14 x15 (x16++v28)else none else none else bif !x8 then (B5s n x15).bind fun r29=>let v30:Y6:=[r29];bif room (x16.length+v30.length) 24 then some (x16++v30)else none else some x16
def B9r:Nat→ByteArray→Y17→(List ByteArray)→Y7→Y4→Option Y7
  |0,_,_,_,_,_=>none
  |n+1,a1,a2,a3,a4,a5=>let v6:Y6:=[];let v7:Y6:=[];B3v n n false a4 a4.length 0 a1 a2 a3 a5 v7
def B9h:Nat→ByteArray→Y17→(List ByteArray)→Y7→Y4→Option Y13
  |0,_,_,_,_,_=>none
  |n+1,a1,a2,a3,a4,a5=>let v6:Y6:=[];(B76 n a1 a2 a3 a4).bind fun r7=>bif !r7 then let v8:Y6:=[];some (v8,((1:Int),()))else (B96 n a1 a2 a3 a5).bind fun r9=>bif !r9 then let v10:Y6:=[];some (v10,((2:Int),()))else (B59 n a1 a2 a3 a5).bind fun r11=>(C0e n a1 a2 a3 a4 r11).bind fun r12=>bif decide ((0:Int)≤r12)then let v13:Y6:=[];some (v13,((3:Int),()))else bif (a4.length:Int)==60 then let v14:Y6:=[];some (v14,((4:Int),()))else (B9r n a1 a2 a3 a4 a5).bind fun r15=>some (r15,((0:Int),()))
def B46 (n:Nat):Nat→Int→List Int→Int→Int→ByteArray→Y16→List ByteArray→Y6→Option Y19
  |0,_,_,_,_,_,_,_,_=>none
  |j+1,x10,x11,x12,x13,x14,x15,x16,x17=>bif decide ((0:Int)<x10)then (B8n n x11 x12 x13 x14 x15 x16).bind fun r18=>(B9h n x14 x15 x16 x17 r18.1).bind fun r19=>bif r19.2.1==(0:Int)then B46 n j (IntKind.wrap .i64 (x10 - 1)) r18.2.1.1 r18.2.1.2.1 r18.2.1.2.2 x14 x15 x16 r19.1 else B46 n j (IntKind.wrap .i64 (x10 - 1)) r18.2.1.1 r18.2.1.2.1 r18.2.1.2.2 x14 x15 x16 x17 else some (x17,((x11,(x12,x13)),()))
def B8p:Nat→(List Int)→Int→Int→ByteArray→Y17→(List ByteArray)→Option Y19
  |0,_,_,_,_,_,_=>none
  |n+1,a1,a2,a3,a4,a5,a6=>let v7:Y6:=[];let v8:Y6:=[];(D0 n a1 a2 a3 7).bind fun r9=>B46 n n r9.1 r9.2.1.1 r9.2.1.2.1 r9.2.1.2.2 a4 a5 a6 v8
def B9l:Nat→(List Int)→Int→Int→Option Y15
  |0,_,_,_=>none
  |n+1,a1,a2,a3=>(D0 n a1 a2 a3 4).bind fun r4=>(B73 n r4.2.1.1 r4.2.1.2.1 r4.2.1.2.2 r4.1).bind fun r5=>some ((r5.1.1,(r5.1.2.1,r5.1.2.2)),((r5.2.1.1,(r5.2.1.2.1,r5.2.1.2.2)),()))
def B77:Nat→(List Int)→Int→Int→Option Y8
  |0,_,_,_=>none
  |n+1,a1,a2,a3=>(D0 n a1 a2 a3 9).bind fun r4=>bif decide (r4.1<(4:Int))then (D0 n r4.2.1.1 r4.2.1.2.1 r4.2.1.2.2 24).bind fun r5=>some ((IntKind.wrap .i64 (r5.1 - 3)),((r5.2.1.1,(r5.2.1.2.1,r5.2.1.2.2)),()))else bif r4.1==(4:Int)then (D0 n r4.2.1.1 r4.2.1.2.1 r4.2.1.2.2 3).bind fun r6=>let v7:Int:=(IntKind.wrap .i64 ((1099511627774:Int)+r6.1));some (v7,((r6.2.1.1,(r6.2.1.2.1,r6.2.1.2.2)),()))else bif r4.1==(5:Int)then (D0 n r4.2.1.1 r4.2.1.2.1 r4.2.1.2.2 3).bind fun r8=>let v9:Int:=(IntKind.wrap .i64 ((-1099511627776:Int)+r8.1));some (v9,((r8.2.1.1,(r8.2.1.2.1,r8.2.1.2.2)),()))else bif r4.1==(6:Int)then (D0 n r4.2.1.1 r4.2.1.2.1 r4.2.1.2.2 2).bind fun r10=>let v11:Int:=(IntKind.wrap .i64 ((9223372036854775807:Int) - r10.1));some (v11,((r10.2.1.1,(r10.2.1.2.1,r10.2.1.2.2)),()))else bif r4.1==(7:Int)then (D0 n r4.2.1.1 r4.2.1.2.1 r4.2.1.2.2 2).bind fun r12=>let v13:Int:=(IntKind.wrap .i64 ((-9223372036854775807:Int) - r12.1));some (v13,((r12.2.1.1,(r12.2.1.2.1,r12.2.1.2.2)),()))else (D0 n r4.2.1.1 r4.2.1.2.1 r4.2.1.2.2 2000000).bind fun r14=>some (r14.1,((r14.2.1.1,(r14.2.1.2.1,r14.2.1.2.2)),()))
def B83:Nat→(List Int)→Int→Int→Option Y15
  |0,_,_,_=>none
  |n+1,a1,a2,a3=>(B9l n a1 a2 a3).bind fun r4=>(D0 n r4.2.1.1 r4.2.1.2.1 r4.2.1.2.2 12).bind fun r5=>bif r5.1==(0:Int)then (B77 n r5.2.1.1 r5.2.1.2.1 r5.2.1.2.2).bind fun r6=>bif r5.1==(1:Int)then (B77 n r6.2.1.1 r6.2.1.2.1 r6.2.1.2.2).bind fun r7=>bif r5.1==(2:Int)then (D0 n r7.2.1.1 r7.2.1.2.1 r7.2.1.2.2 2).bind fun r8=>bif decide ((IntKind.wrap .i64 ((30:Int)+r8.1))=(IntKind.wrap .i64 ((30:Int)+r8.1))∧0≤(IntKind.wrap .i64 ((30:Int)+r8.1)))&&room (IntKind.wrap .i64 ((30:Int)+r8.1)).toNat 1 then let v9:List Int:=(List.replicate (IntKind.wrap .i64 ((30:Int)+r8.1)).toNat 0);some ((r6.1,(r7.1,(strOfNums v9))),((r8.2.1.1,(r8.2.1.2.1,r8.2.1.2.2)),()))else none else some ((r6.1,(r7.1,r4.1.2.2)),((r7.2.1.1,(r7.2.1.2.1,r7.2.1.2.2)),()))else bif r5.1==(2:Int)then (D0 n r6.2.1.1 r6.2.1.2.1 r6.2.1.2.2 2).bind fun r10=>let v11:Int:=(IntKind.wrap .i64 ((30:Int)+r10.1));bif decide (v11=v11∧0≤v11)&&room v11.toNat 1 then let v12:ByteArray:=(strOfNums (List.replicate v11.toNat 0));some ((r6.1,(r4.1.2.1,v12)),((r10.2.1.1,(r10.2.1.2.1,r10.2.1.2.2)),()))else none else some ((r6.1,(r4.1.2.1,r4.1.2.2)),((r6.2.1.1,(r6.2.1.2.1,r6.2.1.2.2)),()))else bif r5.1==(1:Int)then (B77 n r5.2.1.1 r5.2.1.2.1 r5.2.1.2.2).bind fun r13=>bif r5.1==(2:Int)then (D0 n r13.2.1.1 r13.2.1.2.1 r13.2.1.2.2 2).bind fun r14=>let v15:Int:=(IntKind.wrap .i64 ((30:Int)+r14.1));bif decide (v15=v15∧0≤v15)&&room v15.toNat 1 then let v16:ByteArray:=(strOfNums (List.replicate v15.toNat 0));some ((r4.1.1,(r13.1,v16)),((r14.2.1.1,(r14.2.1.2.1,r14.2.1.2.2)),()))else none else some ((r4.1.1,(r13.1,r4.1.2.2)),((r13.2.1.1,(r13.2.1.2.1,r13.2.1.2.2)),()))else bif r5.1==(2:Int)then (D0 n r5.2.1.1 r5.2.1.2.1 r5.2.1.2.2 2).bind fun r17=>let v18:Int:=(IntKind.wrap .i64 ((30:Int)+r17.1));bif decide (v18=v18∧0≤v18)&&room v18.toNat 1 then let v19:ByteArray:=(strOfNums (List.replicate v18.toNat 0));some ((r4.1.1,(r4.1.2.1,v19)),((r17.2.1.1,(r17.2.1.2.1,r17.2.1.2.2)),()))else none else some ((r4.1.1,(r4.1.2.1,r4.1.2.2)),((r5.2.1.1,(r5.2.1.2.1,r5.2.1.2.2)),()))
def B6l (n:Nat):Nat→List Int→Int→Int→ByteArray→Y16→List ByteArray→ByteArray→Y16→List ByteArray→Option Y28
  |0,_,_,_,_,_,_,_,_,_=>none
  |j+1,x90,x91,x92,x93,x94,x95,x96,x97,x98=>some ((x96,(x97,x98)),((x90,(x91,x92)),()))
def B6k (n:Nat):Nat→Int→List Int→Int→Int→ByteArray→Y16→List ByteArray→ByteArray→Y16→List ByteArray→Option Y28
  |0,_,_,_,_,_,_,_,_,_,_=>none
  |j+1,x79,x80,x81,x82,x83,x84,x85,x86,x87,x88=>bif x79==(6:Int)then bif inR 0 x87.length then let v89:=(x87.set (0:Int).toNat ((x87.getD (0:Int).toNat (⟨#[]⟩,(0,(false,(false,(0,(0,⟨#[]⟩))))))).1,((x87.getD (0:Int).toNat (⟨#[]⟩,(0,(false,(false,(0,(0,⟨#[]⟩))))))).2.1,(false,(x87.getD (0:Int).toNat (⟨#[]⟩,(0,(false,(false,(0,(0,⟨#[]⟩))))))).2.2.2))));B6l n 1 x80 x81 x82 x83 x84 x85 x86 v89 x88 else none else B6l n 1 x80 x81 x82 x83 x84 x85 x86 x87 x88
def B6j (n:Nat):Nat→Int→List Int→Int→Int→ByteArray→Y16→List ByteArray→ByteArray→Y16→List ByteArray→Option Y28
  |0,_,_,_,_,_,_,_,_,_,_=>none
  |j+1,x69,x70,x71,x72,x73,x74,x75,x76,x77,x78=>bif x69==(5:Int)then B6k n 1 x69 x70 x71 x72 x73 x74 x75 x76 x77 ([]:List ByteArray)else B6k n 1 x69 x70 x71 x72 x73 x74 x75 x76 x77 x78
def B6i (n:Nat):Nat→Int→Int→List Int→Int→Int→ByteArray→Y16→List ByteArray→ByteArray→Y16→List ByteArray→Option Y28
  |0,_,_,_,_,_,_,_,_,_,_,_=>none
  |j+1,x50,x51,x52,x53,x54,x55,x56,x57,x58,x59,x60=>bif x50==(4:Int)then bif inR x51 x59.length then let v61:ByteArray:=(x59.getD x51.toNat (⟨#[]⟩,(0,(false,(false,(0,(0,⟨#[]⟩))))))).1;let v62:Int:=(x59.getD x51.toNat (⟨#[]⟩,(0,(false,(false,(0,(0,⟨#[]⟩))))))).2.1;let v63:Bool:=(x59.getD x51.toNat (⟨#[]⟩,(0,(false,(false,(0,(0,⟨#[]⟩))))))).2.2.1;let v64:Bool:=(x59.getD x51.toNat (⟨#[]⟩,(0,(false,(false,(0,(0,⟨#[]⟩))))))).2.2.2.1;let v65:Int:=(x59.getD x51.toNat (⟨#[]⟩,(0,(false,(false,(0,(0,⟨#[]⟩))))))).2.2.2.2.1;let v66:Int:=(x59.getD x51.toNat (⟨#[]⟩,(0,(false,(false,(0,(0,⟨#[]⟩))))))).2.2.2.2.2.1;let v67:ByteArray:=(x59.getD x51.toNat (⟨#[]⟩,(0,(false,(false,(0,(0,⟨#[]⟩))))))).2.2.2.2.2.2;let v68:Y16:=[(v61,(v62,(v63,(v64,(v65,(v66,v67))))))];bif room (x59.length+v68.length) 64 then B6j n 1 x50 x52 x53 x54 x55 x56 x57 x58 (x59++v68) x60 else none else none else B6j n 1 x50 x52 x53 x54 x55 x56 x57 x58 x59 x60
def B6h (n:Nat):Nat→Int→Int→List Int→Int→Int→ByteArray→Y16→List ByteArray→ByteArray→Y16→List ByteArray→Option Y28
  |0,_,_,_,_,_,_,_,_,_,_,_=>none
  |j+1,x38,x39,x40,x41,x42,x43,x44,x45,x46,x47,x48=>bif x38==(3:Int)then (B4d n x40 x41 x42).bind fun r49=>bif room (x48.length+([r49.1]:List ByteArray).length) 16 then B6i n 1 x38 x39 r49.2.1.1 r49.2.1.2.1 r49.2.1.2.2 x43 x44 x45 x46 x47 (x48++([r49.1]:List ByteArray))else none else B6i n 1 x38 x39 x40 x41 x42 x43 x44 x45 x46 x47 x48
def B6g (n:Nat):Nat→Int→Int→List Int→Int→Int→ByteArray→Y16→List ByteArray→ByteArray→Y16→List ByteArray→Option Y28
  |0,_,_,_,_,_,_,_,_,_,_,_=>none
  |j+1,x25,x26,x27,x28,x29,x30,x31,x32,x33,x34,x35=>bif x25==(2:Int)then (B83 n x27 x28 x29).bind fun r36=>bif inR x26 x34.length then let v37:=(x34.set x26.toNat ((x34.getD x26.toNat (⟨#[]⟩,(0,(false,(false,(0,(0,⟨#[]⟩))))))).1,((x34.getD x26.toNat (⟨#[]⟩,(0,(false,(false,(0,(0,⟨#[]⟩))))))).2.1,((x34.getD x26.toNat (⟨#[]⟩,(0,(false,(false,(0,(0,⟨#[]⟩))))))).2.2.1,((x34.getD x26.toNat (⟨#[]⟩,(0,(false,(false,(0,(0,⟨#[]⟩))))))).2.2.2.1,(r36.1.1,(r36.1.2.1,r36.1.2.2)))))));B6h n 1 x25 x26 r36.2.1.1 r36.2.1.2.1 r36.2.1.2.2 x30 x31 x32 x33 v37 x35 else none else B6h n 1 x25 x26 x27 x28 x29 x30 x31 x32 x33 x34 x35
def B6f (n:Nat):Nat→Int→Int→List Int→Int→Int→ByteArray→Y16→List ByteArray→ByteArray→Y16→List ByteArray→Option Y28
  |0,_,_,_,_,_,_,_,_,_,_,_=>none
  |j+1,x12,x13,x14,x15,x16,x17,x18,x19,x20,x21,x22=>bif x12==(1:Int)then (D0 n x14 x15 x16 6).bind fun r23=>bif inR x13 x21.length then let v24:=(x21.set x13.toNat ((x21.getD x13.toNat (⟨#[]⟩,(0,(false,(false,(0,(0,⟨#[]⟩))))))).1,((IntKind.wrap .i64 (r23.1 - 1)),(x21.getD x13.toNat (⟨#[]⟩,(0,(false,(false,(0,(0,⟨#[]⟩))))))).2.2)));B6g n 1 x12 x13 r23.2.1.1 r23.2.1.2.1 r23.2.1.2.2 x17 x18 x19 x20 v24 x22 else none else B6g n 1 x12 x13 x14 x15 x16 x17 x18 x19 x20 x21 x22
def B9m:Nat→(List Int)→Int→Int→Option Y28
  |0,_,_,_=>none
  |n+1,a1,a2,a3=>let v4:Y16:=[];(B6t n a1 a2 a3 (⟨#[116]⟩:ByteArray)).bind fun r5=>let v6:Y16:=[];(D0 n r5.2.1.1 r5.2.1.2.1 r5.2.1.2.2 14).bind fun r7=>(D0 n r7.2.1.1 r7.2.1.2.1 r7.2.1.2.2 r5.1.2.1.length).bind fun r8=>bif r7.1==(0:Int)then let v9:List ByteArray:=[(⟨#[]⟩:ByteArray),(⟨#[84]⟩:ByteArray),(⟨#[97,98,99,100,101,102,103,104,105]⟩:ByteArray)];(D0 n r8.2.1.1 r8.2.1.2.1 r8.2.1.2.2 3).bind fun r10=>bif inR r10.1 v9.length then let v11:ByteArray:=(v9.getD r10.1.toNat ⟨#[]⟩);B6f n 1 r7.1 r8.1 r10.2.1.1 r10.2.1.2.1 r10.2.1.2.2 (⟨#[]⟩:ByteArray) v4 ([]:List ByteArray) v11 r5.1.2.1 r5.1.2.2 else none else B6f n 1 r7.1 r8.1 r8.2.1.1 r8.2.1.2.1 r8.2.1.2.2 (⟨#[]⟩:ByteArray) v4 ([]:List ByteArray) r5.1.1 r5.1.2.1 r5.1.2.2
def B5n (n:Nat):Nat→List Int→Int→Int→ByteArray→Y16→List ByteArray→ByteArray→Y16→List ByteArray→Y6→Option Y31
  |0,_,_,_,_,_,_,_,_,_,_=>none
  |j+1,x85,x86,x87,x88,x89,x90,x91,x92,x93,x94=>some ((x91,(x92,x93)),(x94,((x85,(x86,x87)),())))
def B5o (n:Nat):Nat→Int→List Int→Int→Int→ByteArray→Y16→List ByteArray→ByteArray→Y16→List ByteArray→Y6→Option Y31
  |0,_,_,_,_,_,_,_,_,_,_,_=>none
  |j+1,x70,x71,x72,x73,x74,x75,x76,x77,x78,x79,x80=>(D0 n x71 x72 x73 3).bind fun r81=>let v82:Int:=(IntKind.wrap .i64 ((59:Int)+r81.1));bif decide (x70<v82)then let v83:Y3:=[((2:Int),((IntKind.wrap .i64 ((20:Int)+x70)),(⟨#[]⟩:ByteArray)))];let v84:Y6:=[v83];bif room (x80.length+v84.length) 24 then B5o n j (IntKind.wrap .i64 (x70+(1:Int))) r81.2.1.1 r81.2.1.2.1 r81.2.1.2.2 x74 x75 x76 x77 x78 x79 (x80++v84)else none else B5n n 1 r81.2.1.1 r81.2.1.2.1 r81.2.1.2.2 x74 x75 x76 x77 x78 x79 x80
def B5m (n:Nat):Nat→Int→List Int→Int→Int→ByteArray→Y16→List ByteArray→ByteArray→Y16→List ByteArray→Y6→Option Y31
  |0,_,_,_,_,_,_,_,_,_,_,_=>none
  |j+1,x55,x56,x57,x58,x59,x60,x61,x62,x63,x64,x65=>bif x55==(4:Int)then (D0 n x56 x57 x58 5).bind fun r66=>bif r66.1==(0:Int)then let v67:Y16:=[((⟨#[105,100]⟩:ByteArray),((2:Int),(true,(false,((0:Int),((0:Int),(⟨#[]⟩:ByteArray)))))))];let v68:List ByteArray:=[(⟨#[105,100]⟩:ByteArray)];let v69:Y6:=[];B5o n n 0 r66.2.1.1 r66.2.1.2.1 r66.2.1.2.2 x59 x60 x61 (⟨#[116]⟩:ByteArray) v67 v68 v69 else B5n n 1 r66.2.1.1 r66.2.1.2.1 r66.2.1.2.2 x59 x60 x61 x62 x63 x64 x65 else B5n n 1 x56 x57 x58 x59 x60 x61 x62 x63 x64 x65
def B5l (n:Nat):Nat→Int→Int→List Int→Int→Int→ByteArray→Y16→List ByteArray→ByteArray→Y16→List ByteArray→Y6→Option Y31
  |0,_,_,_,_,_,_,_,_,_,_,_,_=>none
  |j+1,x41,x42,x43,x44,x45,x46,x47,x48,x49,x50,x51,x52=>bif x41==(3:Int)then bif decide ((0:Int)<x42)then bif inR (IntKind.wrap .i64 (x42 - 1)) x52.length then let v53:=(x52.getD (IntKind.wrap .i64 (x42 - 1)).toNat []);let v54:Y6:=[v53];bif room (x52.length+v54.length) 24 then B5m n 1 x41 x43 x44 x45 x46 x47 x48 x49 x50 x51 (x52++v54)else none else none else B5m n 1 x41 x43 x44 x45 x46 x47 x48 x49 x50 x51 x52 else B5m n 1 x41 x43 x44 x45 x46 x47 x48 x49 x50 x51 x52
def B5k (n:Nat):Nat→Int→Int→List Int→Int→Int→ByteArray→Y16→List ByteArray→ByteArray→Y16→List ByteArray→Y6→Option Y31
  |0,_,_,_,_,_,_,_,_,_,_,_,_=>none
  |j+1,x26,x27,x28,x29,x30,x31,x32,x33,x34,x35,x36,x37=>bif x26==(2:Int)then bif decide ((1:Int)<x27)then bif inR 0 x37.length then let v38:=(x37.getD (0:Int).toNat []);bif inR (IntKind.wrap .i64 (x27 - 1)) x37.length then let v39:=(x37.getD (IntKind.wrap .i64 (x27 - 1)).toNat []);bif inR 0 x37.length then bif inR (IntKind.wrap .i64 (x27 - 1)) (x37.set (0:Int).toNat v39).length then let v40:=((x37.set (0:Int).toNat v39).set (IntKind.wrap .i64 (x27 - 1)).toNat v38);B5l n 1 x26 x27 x28 x29 x30 x31 x32 x33 x34 x35 x36 v40 else none else none else none else none else B5l n 1 x26 x27 x28 x29 x30 x31 x32 x33 x34 x35 x36 x37 else B5l n 1 x26 x27 x28 x29 x30 x31 x32 x33 x34 x35 x36 x37
def B6m (n:Nat):Nat→Int→Int→List Int→Int→Int→ByteArray→Y16→List ByteArray→ByteArray→Y16→List ByteArray→Y6→Option Y31
  |0,_,_,_,_,_,_,_,_,_,_,_,_=>none
  |j+1,x11,x12,x13,x14,x15,x16,x17,x18,x19,x20,x21,x22=>bif x11==(1:Int)then bif decide ((0:Int)<x12)then bif inR 0 x22.length then (B83 n x13 x14 x15).bind fun r23=>bif inR 0 (x22.getD (0:Int).toNat []).length then let v24:=(x22.getD (0:Int).toNat []);let v25:=(x22.set (0:Int).toNat (v24.set (0:Int).toNat (r23.1.1,(r23.1.2.1,r23.1.2.2))));B5k n 1 x11 x12 r23.2.1.1 r23.2.1.2.1 r23.2.1.2.2 x16 x17 x18 x19 x20 x21 v25 else none else none else B5k n 1 x11 x12 x13 x14 x15 x16 x17 x18 x19 x20 x21 x22 else B5k n 1 x11 x12 x13 x14 x15 x16 x17 x18 x19 x20 x21 x22
def B9q:Nat→(List Int)→Int→Int→Option Y31
  |0,_,_,_=>none
  |n+1,a1,a2,a3=>let v4:Y16:=[];let v5:Y6:=[];(B6t n a1 a2 a3 (⟨#[116]⟩:ByteArray)).bind fun r6=>let v7:Y16:=[];(B8p n r6.2.1.1 r6.2.1.2.1 r6.2.1.2.2 r6.1.1 r6.1.2.1 r6.1.2.2).bind fun r8=>(D0 n r8.2.1.1 r8.2.1.2.1 r8.2.1.2.2 14).bind fun r9=>bif r9.1==(0:Int)then (B9m n r9.2.1.1 r9.2.1.2.1 r9.2.1.2.2).bind fun r10=>B6m n 1 r9.1 r8.1.length r10.2.1.1 r10.2.1.2.1 r10.2.1.2.2 (⟨#[]⟩:ByteArray) v4 ([]:List ByteArray) r10.1.1 r10.1.2.1 r10.1.2.2 r8.1 else B6m n 1 r9.1 r8.1.length r9.2.1.1 r9.2.1.2.1 r9.2.1.2.2 (⟨#[]⟩:ByteArray) v4 ([]:List ByteArray) r6.1.1 r6.1.2.1 r6.1.2.2 r8.1
def B9n:Nat→(List Int)→Int→Int→Option Y30
  |0,_,_,_=>none
  |n+1,a1,a2,a3=>let v4:Y16:=[];(D0 n a1 a2 a3 5).bind fun r5=>let v6:List ByteArray:=[(⟨#[111]⟩:ByteArray),(⟨#[116]⟩:ByteArray),(⟨#[117]⟩:ByteArray),(⟨#[118]⟩:ByteArray)];(D0 n r5.2.1.1 r5.2.1.2.1 r5.2.1.2.2 4).bind fun r7=>bif inR r7.1 v6.length then let v8:ByteArray:=(v6.getD r7.1.toNat ⟨#[]⟩);let v9:Y16:=[];let v10:Y16:=[];let v11:Bool:=((IntKind.wrap .i64 ((1:Int)+r5.1))==1);bif v11 then (B6t n r7.2.1.1 r7.2.1.2.1 r7.2.1.2.2 v8).bind fun r12=>let v13:Y16:=[];some (((IntKind.wrap .i64 ((1:Int)+r5.1)),(v8,(r12.1.2.1,(r12.1.2.2,((⟨#[]⟩:ByteArray),(⟨#[]⟩:ByteArray)))))),((r12.2.1.1,(r12.2.1.2.1,r12.2.1.2.2)),()))else let v14:Bool:=((IntKind.wrap .i64 ((1:Int)+r5.1))==3);bif v14 then (B4d n r7.2.1.1 r7.2.1.2.1 r7.2.1.2.2).bind fun r15=>(B78 n r15.2.1.1 r15.2.1.2.1 r15.2.1.2.2 r15.1).bind fun r16=>bif r16.1.2.2.1 then bif !r16.1.2.2.2.1 then let v17:Y16:=[(r16.1.1,(r16.1.2.1,(false,(r16.1.2.2.2.1,(r16.1.2.2.2.2.1,(r16.1.2.2.2.2.2.1,r16.1.2.2.2.2.2.2))))))];some (((IntKind.wrap .i64 ((1:Int)+r5.1)),(v8,(v17,(([]:List ByteArray),((⟨#[]⟩:ByteArray),(⟨#[]⟩:ByteArray)))))),((r16.2.1.1,(r16.2.1.2.1,r16.2.1.2.2)),()))else let v18:Y16:=[(r16.1.1,(r16.1.2.1,(r16.1.2.2.1,(r16.1.2.2.2.1,(r16.1.2.2.2.2.1,(r16.1.2.2.2.2.2.1,r16.1.2.2.2.2.2.2))))))];some (((IntKind.wrap .i64 ((1:Int)+r5.1)),(v8,(v18,(([]:List ByteArray),((⟨#[]⟩:ByteArray),(⟨#[]⟩:ByteArray)))))),((r16.2.1.1,(r16.2.1.2.1,r16.2.1.2.2)),()))else let v19:Y16:=[(r16.1.1,(r16.1.2.1,(r16.1.2.2.1,(r16.1.2.2.2.1,(r16.1.2.2.2.2.1,(r16.1.2.2.2.2.2.1,r16.1.2.2.2.2.2.2))))))];some (((IntKind.wrap .i64 ((1:Int)+r5.1)),(v8,(v19,(([]:List ByteArray),((⟨#[]⟩:ByteArray),(⟨#[]⟩:ByteArray)))))),((r16.2.1.1,(r16.2.1.2.1,r16.2.1.2.2)),()))else let v20:Bool:=((IntKind.wrap .i64 ((1:Int)+r5.1))==4);bif v20 then (B4d n r7.2.1.1 r7.2.1.2.1 r7.2.1.2.2).bind fun r21=>some (((IntKind.wrap .i64 ((1:Int)+r5.1)),(v8,(v9,(([]:List ByteArray),(r21.1,(⟨#[]⟩:ByteArray)))))),((r21.2.1.1,(r21.2.1.2.1,r21.2.1.2.2)),()))else let v22:Bool:=((IntKind.wrap .i64 ((1:Int)+r5.1))==5);bif v22 then (B4d n r7.2.1.1 r7.2.1.2.1 r7.2.1.2.2).bind fun r23=>(B4d n r23.2.1.1 r23.2.1.2.1 r23.2.1.2.2).bind fun r24=>some (((IntKind.wrap .i64 ((1:Int)+r5.1)),(v8,(v9,(([]:List ByteArray),(r23.1,r24.1))))),((r24.2.1.1,(r24.2.1.2.1,r24.2.1.2.2)),()))else some (((IntKind.wrap .i64 ((1:Int)+r5.1)),(v8,(v9,(([]:List ByteArray),((⟨#[]⟩:ByteArray),(⟨#[]⟩:ByteArray)))))),((r7.2.1.1,(r7.2.1.2.1,r7.2.1.2.2)),()))else none
def B58 (n:Nat):Nat→List Int→Int→Int→Int→ByteArray→ByteArray→ByteArray→Y16→List ByteArray→Int→ByteArray→ByteArray→ByteArray→Y16→List ByteArray→Option Y30
  |0,_,_,_,_,_,_,_,_,_,_,_,_,_,_,_=>none
  |j+1,x92,x93,x94,x95,x96,x97,x98,x99,x100,x101,x102,x103,x104,x105,x106=>some ((x101,(x102,(x105,(x106,(x103,x104))))),((x92,(x93,x94)),()))
def B57 (n:Nat):Nat→Int→List Int→Int→Int→Int→ByteArray→ByteArray→ByteArray→Y16→List ByteArray→Int→ByteArray→ByteArray→ByteArray→Y16→List ByteArray→Option Y30
  |0,_,_,_,_,_,_,_,_,_,_,_,_,_,_,_,_=>none
  |j+1,x75,x76,x77,x78,x79,x80,x81,x82,x83,x84,x85,x86,x87,x88,x89,x90=>bif x75==(5:Int)then let v91:List ByteArray:=[(⟨#[105,100]⟩:ByteArray)];bif room (x90.length+v91.length) 16 then B58 n 1 x76 x77 x78 x79 x80 x81 x82 x83 x84 x85 x86 x87 x88 x89 (x90++v91)else none else B58 n 1 x76 x77 x78 x79 x80 x81 x82 x83 x84 x85 x86 x87 x88 x89 x90
def B56 (n:Nat):Nat→Int→List Int→Int→Int→Int→ByteArray→ByteArray→ByteArray→Y16→List ByteArray→Int→ByteArray→ByteArray→ByteArray→Y16→List ByteArray→Option Y30
  |0,_,_,_,_,_,_,_,_,_,_,_,_,_,_,_,_=>none
  |j+1,x57,x58,x59,x60,x61,x62,x63,x64,x65,x66,x67,x68,x69,x70,x71,x72=>bif x57==(4:Int)then (B78 n x58 x59 x60 (⟨#[122]⟩:ByteArray)).bind fun r73=>let v74:Y16:=[(r73.1.1,(r73.1.2.1,(r73.1.2.2.1,(r73.1.2.2.2.1,(r73.1.2.2.2.2.1,(r73.1.2.2.2.2.2.1,r73.1.2.2.2.2.2.2))))))];bif room (x71.length+v74.length) 64 then B57 n 1 x57 r73.2.1.1 r73.2.1.2.1 r73.2.1.2.2 x61 x62 x63 x64 x65 x66 x67 x68 x69 x70 (x71++v74) x72 else none else B57 n 1 x57 x58 x59 x60 x61 x62 x63 x64 x65 x66 x67 x68 x69 x70 x71 x72
def B55 (n:Nat):Nat→Int→List Int→Int→Int→Int→ByteArray→ByteArray→ByteArray→Y16→List ByteArray→Int→ByteArray→ByteArray→ByteArray→Y16→List ByteArray→Option Y30
  |0,_,_,_,_,_,_,_,_,_,_,_,_,_,_,_,_=>none
  |j+1,x41,x42,x43,x44,x45,x46,x47,x48,x49,x50,x51,x52,x53,x54,x55,x56=>bif x41==(3:Int)then B56 n 1 x41 x42 x43 x44 x45 x46 x47 x48 x49 x50 x51 x52 x53 (⟨#[120]⟩:ByteArray) x55 x56 else B56 n 1 x41 x42 x43 x44 x45 x46 x47 x48 x49 x50 x51 x52 x53 x54 x55 x56
def B54 (n:Nat):Nat→Int→List Int→Int→Int→Int→ByteArray→ByteArray→ByteArray→Y16→List ByteArray→Int→ByteArray→ByteArray→ByteArray→Y16→List ByteArray→Option Y30
  |0,_,_,_,_,_,_,_,_,_,_,_,_,_,_,_,_=>none
  |j+1,x25,x26,x27,x28,x29,x30,x31,x32,x33,x34,x35,x36,x37,x38,x39,x40=>bif x25==(2:Int)then B55 n 1 x25 x26 x27 x28 x29 x30 x31 x32 x33 x34 x35 x36 (⟨#[88]⟩:ByteArray) x38 x39 x40 else B55 n 1 x25 x26 x27 x28 x29 x30 x31 x32 x33 x34 x35 x36 x37 x38 x39 x40
def B53 (n:Nat):Nat→Int→List Int→Int→Int→Int→ByteArray→ByteArray→ByteArray→Y16→List ByteArray→Int→ByteArray→ByteArray→ByteArray→Y16→List ByteArray→Option Y30
  |0,_,_,_,_,_,_,_,_,_,_,_,_,_,_,_,_=>none
  |j+1,x9,x10,x11,x12,x13,x14,x15,x16,x17,x18,x19,x20,x21,x22,x23,x24=>bif x9==(1:Int)then B54 n 1 x9 x10 x11 x12 x13 x14 x15 x16 x17 x18 x19 (⟨#[]⟩:ByteArray) x21 x22 x23 x24 else B54 n 1 x9 x10 x11 x12 x13 x14 x15 x16 x17 x18 x19 x20 x21 x22 x23 x24
def B7i:Nat→(List Int)→Int→Int→Option Y30
  |0,_,_,_=>none
  |n+1,a1,a2,a3=>let v4:Y16:=[];(B9n n a1 a2 a3).bind fun r5=>let v6:Y16:=[];(D0 n r5.2.1.1 r5.2.1.2.1 r5.2.1.2.2 14).bind fun r7=>bif r7.1==(0:Int)then (D0 n r7.2.1.1 r7.2.1.2.1 r7.2.1.2.2 8).bind fun r8=>B53 n 1 r7.1 r8.2.1.1 r8.2.1.2.1 r8.2.1.2.2 0 (⟨#[]⟩:ByteArray) (⟨#[]⟩:ByteArray) (⟨#[]⟩:ByteArray) v4 ([]:List ByteArray) (IntKind.wrap .i64 (r8.1 - 1)) r5.1.2.1 r5.1.2.2.2.2.1 r5.1.2.2.2.2.2 r5.1.2.2.1 r5.1.2.2.2.1 else B53 n 1 r7.1 r7.2.1.1 r7.2.1.2.1 r7.2.1.2.2 0 (⟨#[]⟩:ByteArray) (⟨#[]⟩:ByteArray) (⟨#[]⟩:ByteArray) v4 ([]:List ByteArray) r5.1.1 r5.1.2.1 r5.1.2.2.2.2.1 r5.1.2.2.2.2.2 r5.1.2.2.1 r5.1.2.2.2.1
def B2y (n:Nat):Nat→Y6→ByteArray→Y16→List ByteArray→Int→ByteArray→ByteArray→ByteArray→Y16→List ByteArray→ByteArray→Y16→List ByteArray→Int→ByteArray→ByteArray→ByteArray→Y16→List ByteArray→Option Y33
  |0,_,_,_,_,_,_,_,_,_,_,_,_,_,_,_,_,_,_,_=>none
  |j+1,x37,x38,x39,x40,x41,x42,x43,x44,x45,x46,x47,x48,x49,x50,x51,x52,x53,x54,x55=>some ((x47,(x48,x49)),(x37,((x50,(x51,(x54,(x55,(x52,x53))))),())))
def B49 (n:Nat):Nat→Y6→ByteArray→Y16→List ByteArray→Int→ByteArray→ByteArray→ByteArray→Y16→List ByteArray→List Int→Int→Int→ByteArray→Y16→List ByteArray→Int→ByteArray→ByteArray→ByteArray→Y16→List ByteArray→Option Y33
  |0,_,_,_,_,_,_,_,_,_,_,_,_,_,_,_,_,_,_,_,_,_,_=>none
  |j+1,x11,x12,x13,x14,x15,x16,x17,x18,x19,x20,x21,x22,x23,x24,x25,x26,x27,x28,x29,x30,x31,x32=>let v33:Bool:=(decide ((0:Int)<(x25.length:Int)));bif v33 then (D0 n x21 x22 x23 2).bind fun r34=>bif r34.1==(0:Int)then bif x27==(4:Int)then (D0 n r34.2.1.1 r34.2.1.2.1 r34.2.1.2.2 x25.length).bind fun r35=>bif inR r35.1 x25.length then let v36:=(x25.getD r35.1.toNat (⟨#[]⟩,(0,(false,(false,(0,(0,⟨#[]⟩)))))));B2y n 1 x11 x12 x13 x14 x15 x16 x17 x18 x19 x20 x24 x25 x26 x27 x28 v36.1 x30 x31 x32 else none else bif x27==(5:Int)then (D0 n r34.2.1.1 r34.2.1.2.1 r34.2.1.2.2 x25.length).bind fun r56=>bif inR r56.1 x25.length then let v57:=(x25.getD r56.1.toNat (⟨#[]⟩,(0,(false,(false,(0,(0,⟨#[]⟩)))))));B2y n 1 x11 x12 x13 x14 x15 x16 x17 x18 x19 x20 x24 x25 x26 x27 x28 v57.1 x30 x31 x32 else none else B2y n 1 x11 x12 x13 x14 x15 x16 x17 x18 x19 x20 x24 x25 x26 x27 x28 x29 x30 x31 x32 else B2y n 1 x11 x12 x13 x14 x15 x16 x17 x18 x19 x20 x24 x25 x26 x27 x28 x29 x30 x31 x32 else B2y n 1 x11 x12 x13 x14 x15 x16 x17 x18 x19 x20 x24 x25 x26 x27 x28 x29 x30 x31 x32
def B6r:Nat→(List Int)→Option Y33
  |0,_=>none
  |n+1,a1=>let v2:Y16:=[];let v3:Y6:=[];let v4:Y16:=[];(B9i n a1).bind fun r5=>(B9q n r5.1.1 r5.1.2.1 r5.1.2.2).bind fun r6=>let v7:Y16:=[];(B7i n r6.2.2.1.1 r6.2.2.1.2.1 r6.2.2.1.2.2).bind fun r8=>let v9:Y16:=[];(D0 n r8.2.1.1 r8.2.1.2.1 r8.2.1.2.2 4).bind fun r10=>bif decide ((0:Int)<r10.1)then B49 n 1 r6.2.1 (⟨#[]⟩:ByteArray) v2 ([]:List ByteArray) 0 (⟨#[]⟩:ByteArray) (⟨#[]⟩:ByteArray) (⟨#[]⟩:ByteArray) v4 ([]:List ByteArray) r10.2.1.1 r10.2.1.2.1 r10.2.1.2.2 r6.1.1 r6.1.2.1 r6.1.2.2 r8.1.1 (⟨#[116]⟩:ByteArray) r8.1.2.2.2.2.1 r8.1.2.2.2.2.2 r8.1.2.2.1 r8.1.2.2.2.1 else B49 n 1 r6.2.1 (⟨#[]⟩:ByteArray) v2 ([]:List ByteArray) 0 (⟨#[]⟩:ByteArray) (⟨#[]⟩:ByteArray) (⟨#[]⟩:ByteArray) v4 ([]:List ByteArray) r10.2.1.1 r10.2.1.2.1 r10.2.1.2.2 r6.1.1 r6.1.2.1 r6.1.2.2 r8.1.1 r8.1.2.1 r8.1.2.2.2.2.1 r8.1.2.2.2.2.2 r8.1.2.2.1 r8.1.2.2.2.1
def B5r:Nat→Int→Int→Int→Option Bool
  |0,_,_,_=>none
  |n+1,a1,a2,a3=>bif decide (a2≤a1)then some (decide (a1≤a3))else some false
def B5f (n:Nat):Nat→ByteArray→Int→Option Bool
  |0,_,_=>none
  |j+1,x2,x3=>bif decide (x3<(x2.size:Int))then bif inR x3 x2.size then bif decide ((bt x2 x3)<97)then some false else bif inR x3 x2.size then bif decide ((122:Int)<(bt x2 x3))then some false else B5f n j x2 (IntKind.wrap .i64 (x3+(1:Int)))else none else none else (B5r n (x2.size:Int) 1 8).bind fun r4=>some r4
def B4z:Nat→ByteArray→Option Bool
  |0,_=>none
  |n+1,a1=>B5f n n a1 0
def B72:Nat→Int→Int→ByteArray→Option Bool
  |0,_,_,_=>none
  |n+1,a1,a2,a3=>bif a1==(0:Int)then let v4:Bool:=((a1==(0:Int))&&((a2==(0:Int))&&((a3.toList==(⟨#[]⟩:ByteArray).toList)&&true)));some v4 else bif a1==(1:Int)then (B5r n a2 0 1).bind fun r5=>bif r5 then let v6:Bool:=(a3.toList==(⟨#[]⟩:ByteArray).toList);some v6 else some false else bif a1==(2:Int)then (B5r n a2 (-1099511627775:Int) 1099511627775).bind fun r7=>bif r7 then let v8:Bool:=(a3.toList==(⟨#[]⟩:ByteArray).toList);some v8 else some false else bif a1==(3:Int)then bif a2==(0:Int)then some (decide ((a3.size:Int)≤30))else some false else some false
def B8x:Nat→ByteArray→Int→Bool→Bool→Int→Int→ByteArray→Option Bool
  |0,_,_,_,_,_,_,_=>none
  |n+1,a1,a2,a3,a4,a5,a6,a7=>(B4z n a1).bind fun r8=>bif !r8 then some false else (B5r n a2 1 3).bind fun r9=>bif !r9 then some false else (B72 n a5 a6 a7).bind fun r10=>bif !r10 then some false else bif !a4 then let v11:Bool:=((a5==(0:Int))&&((a6==(0:Int))&&((a7.toList==(⟨#[]⟩:ByteArray).toList)&&true)));some v11 else bif a5==a2 then some true else bif a5==(0:Int)then some (!a3)else some false
def B8h:Nat→ByteArray→Int→Bool→Bool→Int→Int→ByteArray→ByteArray→Option Bool
  |0,_,_,_,_,_,_,_,_=>none
  |n+1,a1,a2,a3,a4,a5,a6,a7,a8=>some (a1.toList==a8.toList)
def V1 (n:Nat):Nat→Y16→ByteArray→Int→Int→Option Int
  |0,_,_,_,_=>none
  |j+1,x3,x4,x5,x6=>bif decide (x6<x5)then bif inR x6 x3.length then let v7:=(x3.getD x6.toNat (⟨#[]⟩,(0,(false,(false,(0,(0,⟨#[]⟩)))))));(B8h n v7.1 v7.2.1 v7.2.2.1 v7.2.2.2.1 v7.2.2.2.2.1 v7.2.2.2.2.2.1 v7.2.2.2.2.2.2 x4).bind fun r8=>bif r8 then some x6 else V1 n j x3 x4 x5 (IntKind.wrap .i64 (x6+(1:Int)))else none else some (-1:Int)
def B2e:Nat→Y17→ByteArray→Option Int
  |0,_,_=>none
  |n+1,a1,a2=>V1 n n a1 a2 a1.length 0
def B29:Nat→ByteArray→Y17→(List ByteArray)→ByteArray→Option Int
  |0,_,_,_,_=>none
  |n+1,a1,a2,a3,a4=>(B2e n a2 a4).bind fun r5=>some r5
def B42 (n:Nat):Nat→Int→List ByteArray→Int→Int→ByteArray→Y16→List ByteArray→Option Bool
  |0,_,_,_,_,_,_,_=>none
  |j+1,x13,x14,x15,x16,x17,x18,x19=>bif decide (x16<x15)then bif inR x16 x14.length then let v20:ByteArray:=(x14.getD x16.toNat ⟨#[]⟩);(B29 n x17 x18 x19 v20).bind fun r21=>bif decide (r21≤x13)then some false else bif inR r21 x18.length then let v22:=(x18.getD r21.toNat (⟨#[]⟩,(0,(false,(false,(0,(0,⟨#[]⟩)))))));bif !v22.2.2.1 then some false else B42 n j r21 x14 x15 (IntKind.wrap .i64 (x16+(1:Int))) x17 x18 x19 else none else none else (B4z n x17).bind fun r23=>bif r23 then (B5r n x18.length 1 8).bind fun r24=>bif r24 then let v25:Bool:=(decide ((0:Int)<(x19.length:Int)));some v25 else some false else some false
def B4r (n:Nat):Nat→Y16→Int→Int→ByteArray→Y16→List ByteArray→Option Bool
  |0,_,_,_,_,_,_=>none
  |j+1,x4,x5,x6,x7,x8,x9=>bif decide (x6<x5)then bif inR x6 x4.length then let v10:=(x4.getD x6.toNat (⟨#[]⟩,(0,(false,(false,(0,(0,⟨#[]⟩)))))));(B8x n v10.1 v10.2.1 v10.2.2.1 v10.2.2.2.1 v10.2.2.2.2.1 v10.2.2.2.2.2.1 v10.2.2.2.2.2.2).bind fun r11=>bif !r11 then some false else (B29 n x7 x8 x9 v10.1).bind fun r12=>bif r12 !=x6 then some false else B4r n j x4 x5 (IntKind.wrap .i64 (x6+(1:Int))) x7 x8 x9 else none else B42 n n (-1:Int) x9 x9.length 0 x7 x8 x9
def B6p:Nat→ByteArray→Y17→(List ByteArray)→Option Bool
  |0,_,_,_=>none
  |n+1,a1,a2,a3=>B4r n n a2 a2.length 0 a1 a2 a3
def B9f:Nat→ByteArray→Int→Bool→Bool→Int→Int→ByteArray→Int→Int→ByteArray→Option Bool
  |0,_,_,_,_,_,_,_,_,_,_=>none
  |n+1,a1,a2,a3,a4,a5,a6,a7,a8,a9,a10=>(B72 n a8 a9 a10).bind fun r11=>bif r11 then bif a8==a2 then some true else bif a8==(0:Int)then some (!a3)else some false else some false
def B62 (n:Nat):Nat→Y3→Int→Int→ByteArray→Y16→List ByteArray→Option Bool
  |0,_,_,_,_,_,_=>none
  |j+1,x6,x7,x8,x9,x10,x11=>bif decide (x8<x7)then bif inR x8 x6.length then let v12:=(x6.getD x8.toNat (0,(0,⟨#[]⟩)));bif inR x8 x10.length then let v13:=(x10.getD x8.toNat (⟨#[]⟩,(0,(false,(false,(0,(0,⟨#[]⟩)))))));(B9f n v13.1 v13.2.1 v13.2.2.1 v13.2.2.2.1 v13.2.2.2.2.1 v13.2.2.2.2.2.1 v13.2.2.2.2.2.2 v12.1 v12.2.1 v12.2.2).bind fun r14=>bif !r14 then some false else B62 n j x6 x7 (IntKind.wrap .i64 (x8+(1:Int))) x9 x10 x11 else none else none else some true
def C0c:Nat→ByteArray→Y17→(List ByteArray)→Y4→Option Bool
  |0,_,_,_,_=>none
  |n+1,a1,a2,a3,a4=>let v5:Bool:=((a4.length:Int) !=(a2.length:Int));bif v5 then some false else B62 n n a4 a4.length 0 a1 a2 a3
def B61 (n:Nat):Nat→List ByteArray→Int→Int→ByteArray→Y16→List ByteArray→Y3→Y3→Option Y4
  |0,_,_,_,_,_,_,_,_=>none
  |j+1,x5,x6,x7,x8,x9,x10,x11,x12=>bif decide (x7<x6)then bif inR x7 x5.length then (B29 n x8 x9 x10 (x5.getD x7.toNat ⟨#[]⟩)).bind fun r13=>bif inR r13 x11.length then let v14:=(x11.getD r13.toNat (0,(0,⟨#[]⟩)));let v15:Y3:=[(v14.1,(v14.2.1,v14.2.2))];bif room (x12.length+v15.length) 32 then B61 n j x5 x6 (IntKind.wrap .i64 (x7+(1:Int))) x8 x9 x10 x11 (x12++v15)else none else none else none else some x12
def B91:Nat→ByteArray→Y17→(List ByteArray)→Y4→Option Y4
  |0,_,_,_,_=>none
  |n+1,a1,a2,a3,a4=>B61 n n a3 a3.length 0 a1 a2 a3 a4 ([]:Y3)
def B7c:Nat→Int→Int→ByteArray→Int→Int→ByteArray→Option Bool
  |0,_,_,_,_,_,_=>none
  |n+1,a1,a2,a3,a4,a5,a6=>(B72 n a1 a2 a3).bind fun r7=>bif !r7 then some false else (B72 n a4 a5 a6).bind fun r8=>bif !r8 then some false else bif a1 !=a4 then some (decide (a1<a4))else bif a2 !=a5 then some (decide (a2<a5))else some (Op.bytesLess a3.toList a6.toList)
def B5z (n:Nat):Nat→Y3→Y3→Int→Option Bool
  |0,_,_,_=>none
  |j+1,x3,x4,x5=>bif decide (x5<(x3.length:Int))then bif decide (x5<(x4.length:Int))then bif inR x5 x3.length then let v6:=(x3.getD x5.toNat (0,(0,⟨#[]⟩)));bif inR x5 x4.length then let v7:=(x4.getD x5.toNat (0,(0,⟨#[]⟩)));let v8:Bool:=(!((v6.1==v7.1)&&((v6.2.1==v7.2.1)&&((v6.2.2.toList==v7.2.2.toList)&&true))));bif v8 then bif inR x5 x3.length then let v9:=(x3.getD x5.toNat (0,(0,⟨#[]⟩)));bif inR x5 x4.length then let v10:=(x4.getD x5.toNat (0,(0,⟨#[]⟩)));(B7c n v9.1 v9.2.1 v9.2.2 v10.1 v10.2.1 v10.2.2).bind fun r11=>some r11 else none else none else B5z n j x3 x4 (IntKind.wrap .i64 (x5+(1:Int)))else none else none else let v12:Bool:=(decide ((x3.length:Int)<(x4.length:Int)));some v12 else let v13:Bool:=(decide ((x3.length:Int)<(x4.length:Int)));some v13
def B8i:Nat→Y4→Y4→Option Bool
  |0,_,_=>none
  |n+1,a1,a2=>B5z n n a1 a2 0
def B4k (n:Nat):Nat→Y6→Y6→Int→Int→ByteArray→Y16→List ByteArray→Option Bool
  |0,_,_,_,_,_,_,_=>none
  |j+1,x7,x8,x9,x10,x11,x12,x13=>bif decide (x10<x9)then bif inR x10 x8.length then let v14:=(x8.getD x10.toNat []);(C0c n x11 x12 x13 v14).bind fun r15=>bif !r15 then some false else bif decide ((0:Int)<x10)then bif inR (IntKind.wrap .i64 (x10 - 1)) x7.length then let v16:=(x7.getD (IntKind.wrap .i64 (x10 - 1)).toNat []);(B91 n x11 x12 x13 v16).bind fun r17=>(B91 n x11 x12 x13 v14).bind fun r18=>(B8i n r17 r18).bind fun r19=>bif !r19 then some false else B4k n j x7 x8 x9 (IntKind.wrap .i64 (x10+(1:Int))) x11 x12 x13 else none else B4k n j x7 x8 x9 (IntKind.wrap .i64 (x10+(1:Int))) x11 x12 x13 else none else some true
def B82:Nat→ByteArray→Y17→(List ByteArray)→Y7→Option Bool
  |0,_,_,_,_=>none
  |n+1,a1,a2,a3,a4=>(B6p n a1 a2 a3).bind fun r5=>bif !r5 then some false else let v6:Bool:=(decide ((60:Int)<(a4.length:Int)));bif v6 then some false else B4k n n a4 a4 a4.length 0 a1 a2 a3
def B7d:Nat→(List ByteArray)→Option (List ByteArray)
  |0,_=>none
  |n+1,a1=>bif room a1.length 16 then some a1 else none
def B6c:Nat→ByteArray→Y17→(List ByteArray)→Option Y21
  |0,_,_,_=>none
  |n+1,a1,a2,a3=>let v4:Y16:=[];bif room a2.length 64 then (B7d n a3).bind fun r5=>some (a1,(a2,r5))else none
def B60:Nat→Int→ByteArray→Y17→(List ByteArray)→ByteArray→ByteArray→Option Y21
  |0,_,_,_,_,_,_=>none
  |n+1,a1,a2,a3,a4,a5,a6=>let v7:Y16:=[];(B6c n a2 a3 a4).bind fun r8=>some (r8.1,(r8.2.1,r8.2.2))
def B2f (n:Nat):Nat→Y16→Y16→Int→Int→Option Bool
  |0,_,_,_,_=>none
  |j+1,x4,x5,x6,x7=>bif decide (x7<x6)then bif inR x7 x4.length then let v8:=(x4.getD x7.toNat (⟨#[]⟩,(0,(false,(false,(0,(0,⟨#[]⟩)))))));bif inR x7 x5.length then let v9:=(x5.getD x7.toNat (⟨#[]⟩,(0,(false,(false,(0,(0,⟨#[]⟩)))))));let v10:Bool:=(!((v8.1.toList==v9.1.toList)&&((v8.2.1==v9.2.1)&&((v8.2.2.1==v9.2.2.1)&&((v8.2.2.2.1==v9.2.2.2.1)&&((v8.2.2.2.2.1==v9.2.2.2.2.1)&&((v8.2.2.2.2.2.1==v9.2.2.2.2.2.1)&&((v8.2.2.2.2.2.2.toList==v9.2.2.2.2.2.2.toList)&&true))))))));bif v10 then some false else B2f n j x4 x5 x6 (IntKind.wrap .i64 (x7+(1:Int)))else none else none else some true
def B35:Nat→Y17→Y17→Option Bool
  |0,_,_=>none
  |n+1,a1,a2=>let v3:Bool:=((a1.length:Int) !=(a2.length:Int));bif v3 then some false else B2f n n a1 a2 a1.length 0
def B2m (n:Nat):Nat→List ByteArray→List ByteArray→Int→Int→Option Bool
  |0,_,_,_,_=>none
  |j+1,x4,x5,x6,x7=>bif decide (x7<x6)then bif inR x7 x4.length then bif inR x7 x5.length then let v8:Bool:=(!((x4.getD x7.toNat ⟨#[]⟩).toList==(x5.getD x7.toNat ⟨#[]⟩).toList));bif v8 then some false else B2m n j x4 x5 x6 (IntKind.wrap .i64 (x7+(1:Int)))else none else none else some true
def B3f:Nat→(List ByteArray)→(List ByteArray)→Option Bool
  |0,_,_=>none
  |n+1,a1,a2=>let v3:Bool:=((a1.length:Int) !=(a2.length:Int));bif v3 then some false else B2m n n a1 a2 a1.length 0
def B5b:Nat→Int→ByteArray→Y17→(List ByteArray)→ByteArray→ByteArray→Int→ByteArray→Y17→(List ByteArray)→ByteArray→ByteArray→Option Bool
  |0,_,_,_,_,_,_,_,_,_,_,_,_=>none
  |n+1,a1,a2,a3,a4,a5,a6,a7,a8,a9,a10,a11,a12=>bif a1==a7 then bif a2.toList==a8.toList then (B35 n a3 a9).bind fun r13=>bif r13 then (B3f n a4 a10).bind fun r14=>bif r14 then bif a5.toList==a11.toList then some (a6.toList==a12.toList)else some false else some false else some false else some false else some false
def B8y:Nat→Int→ByteArray→Y17→(List ByteArray)→ByteArray→ByteArray→Option Bool
  |0,_,_,_,_,_,_=>none
  |n+1,a1,a2,a3,a4,a5,a6=>(B4z n a2).bind fun r7=>bif !r7 then some false else let v8:Y16:=[];let v9:Y16:=[];bif a1==(1:Int)then (B60 n a1 a2 a3 a4 a5 a6).bind fun r10=>(B6p n r10.1 r10.2.1 r10.2.2).bind fun r11=>bif r11 then let v12:Bool:=(a5.toList==(⟨#[]⟩:ByteArray).toList);bif v12 then let v13:Bool:=(a6.toList==(⟨#[]⟩:ByteArray).toList);some v13 else some false else some false else bif a1==(2:Int)then (B5b n a1 a2 a3 a4 a5 a6 a1 a2 v8 ([]:List ByteArray) (⟨#[]⟩:ByteArray) (⟨#[]⟩:ByteArray)).bind fun r14=>some r14 else bif a1==(3:Int)then (B5b n a1 a2 a3 a4 a5 a6 a1 a2 a3 ([]:List ByteArray) (⟨#[]⟩:ByteArray) (⟨#[]⟩:ByteArray)).bind fun r15=>bif r15 then bif (a3.length:Int)==1 then bif inR 0 a3.length then let v16:=(a3.getD (0:Int).toNat (⟨#[]⟩,(0,(false,(false,(0,(0,⟨#[]⟩)))))));(B8x n v16.1 v16.2.1 v16.2.2.1 v16.2.2.2.1 v16.2.2.2.2.1 v16.2.2.2.2.2.1 v16.2.2.2.2.2.2).bind fun r17=>bif r17 then bif inR 0 a3.length then let v18:=(a3.getD (0:Int).toNat (⟨#[]⟩,(0,(false,(false,(0,(0,⟨#[]⟩)))))));bif v18.2.2.2.1 then some true else bif inR 0 a3.length then let v19:=(a3.getD (0:Int).toNat (⟨#[]⟩,(0,(false,(false,(0,(0,⟨#[]⟩)))))));some (!v19.2.2.1)else none else none else some false else none else some false else some false else bif a1==(4:Int)then (B5b n a1 a2 a3 a4 a5 a6 a1 a2 v8 ([]:List ByteArray) a5 (⟨#[]⟩:ByteArray)).bind fun r20=>bif r20 then (B4z n a5).bind fun r21=>some r21 else some false else bif a1==(5:Int)then (B5b n a1 a2 a3 a4 a5 a6 a1 a2 v8 ([]:List ByteArray) a5 a6).bind fun r22=>bif r22 then (B4z n a5).bind fun r23=>bif r23 then (B4z n a6).bind fun r24=>some r24 else some false else some false else some false
def B7s:Nat→ByteArray→Y17→(List ByteArray)→ByteArray→Option Bool
  |0,_,_,_,_=>none
  |n+1,a1,a2,a3,a4=>some (a1.toList==a4.toList)
def D5 (n:Nat):Nat→Y22→ByteArray→Int→Int→Option Int
  |0,_,_,_,_=>none
  |j+1,x3,x4,x5,x6=>bif decide (x6<x5)then bif inR x6 x3.length then let v7:=(x3.getD x6.toNat (⟨#[]⟩,([],[])));(B7s n v7.1 v7.2.1 v7.2.2 x4).bind fun r8=>bif r8 then some x6 else D5 n j x3 x4 x5 (IntKind.wrap .i64 (x6+(1:Int)))else none else some (-1:Int)
def B2b:Nat→Y23→ByteArray→Option Int
  |0,_,_=>none
  |n+1,a1,a2=>D5 n n a1 a2 a1.length 0
def B81:Nat→Y23→ByteArray→Option Int
  |0,_,_=>none
  |n+1,a1,a2=>(B2b n a1 a2).bind fun r3=>some r3
def B2n (n:Nat):Nat→List ByteArray→ByteArray→Int→Int→Option Int
  |0,_,_,_,_=>none
  |j+1,x3,x4,x5,x6=>bif decide (x6<x5)then bif inR x6 x3.length then let v7:Bool:=(x4.toList==(x3.getD x6.toNat ⟨#[]⟩).toList);bif v7 then some x6 else B2n n j x3 x4 x5 (IntKind.wrap .i64 (x6+(1:Int)))else none else some (-1:Int)
def B31:Nat→(List ByteArray)→ByteArray→Option Int
  |0,_,_=>none
  |n+1,a1,a2=>B2n n n a1 a2 a1.length 0
def C1:Nat→(List ByteArray)→ByteArray→Option Bool
  |0,_,_=>none
  |n+1,a1,a2=>(B31 n a1 a2).bind fun r3=>some (decide ((0:Int)≤r3))
def B7e:Nat→Y23→Int→ByteArray→Y17→(List ByteArray)→ByteArray→ByteArray→Option Int
  |0,_,_,_,_,_,_,_=>none
  |n+1,a1,a2,a3,a4,a5,a6,a7=>(B81 n a1 a3).bind fun r8=>bif a2==(1:Int)then bif decide ((0:Int)≤r8)then some 2 else bif (a1.length:Int)==6 then some 3 else some 0 else bif decide (r8<(0:Int))then some 4 else bif inR r8 a1.length then let v9:=(a1.getD r8.toNat (⟨#[]⟩,([],[])));let v10:Y16:=[];bif a2==(3:Int)then bif inR 0 a4.length then let v11:=(a4.getD (0:Int).toNat (⟨#[]⟩,(0,(false,(false,(0,(0,⟨#[]⟩)))))));(B29 n v9.1 v9.2.1 v9.2.2 v11.1).bind fun r12=>bif decide ((0:Int)≤r12)then some 5 else bif a2==(5:Int)then (B29 n v9.1 v9.2.1 v9.2.2 a7).bind fun r13=>bif decide ((0:Int)≤r13)then some 5 else bif a2==(3:Int)then bif (v9.2.1.length:Int)==8 then some 6 else bif a2==(4:Int)then (B29 n v9.1 v9.2.1 v9.2.2 a6).bind fun r14=>bif decide (r14<(0:Int))then some 7 else bif a2==(4:Int)then (C1 n v9.2.2 a6).bind fun r15=>bif r15 then some 8 else some 0 else some 0 else bif a2==(5:Int)then (B29 n v9.1 v9.2.1 v9.2.2 a6).bind fun r16=>bif decide (r16<(0:Int))then some 7 else bif a2==(4:Int)then (C1 n v9.2.2 a6).bind fun r17=>bif r17 then some 8 else some 0 else some 0 else bif a2==(4:Int)then (C1 n v9.2.2 a6).bind fun r18=>bif r18 then some 8 else some 0 else some 0 else bif a2==(4:Int)then (B29 n v9.1 v9.2.1 v9.2.2 a6).bind fun r19=>bif decide (r19<(0:Int))then some 7 else bif a2==(4:Int)then (C1 n v9.2.2 a6).bind fun r20=>bif r20 then some 8 else some 0 else some 0 else bif a2==(5:Int)then (B29 n v9.1 v9.2.1 v9.2.2 a6).bind fun r21=>bif decide (r21<(0:Int))then some 7 else bif a2==(4:Int)then (C1 n v9.2.2 a6).bind fun r22=>bif r22 then some 8 else some 0 else some 0 else bif a2==(4:Int)then (C1 n v9.2.2 a6).bind fun r23=>bif r23 then some 8 else some 0 else some 0 else bif a2==(3:Int)then bif (v9.2.1.length:Int)==8 then some 6 else bif a2==(4:Int)then (B29 n v9.1 v9.2.1 v9.2.2 a6).bind fun r24=>bif decide (r24<(0:Int))then some 7 else bif a2==(4:Int)then (C1 n v9.2.2 a6).bind fun r25=>bif r25 then some 8 else some 0 else some 0 else bif a2==(5:Int)then (B29 n v9.1 v9.2.1 v9.2.2 a6).bind fun r26=>bif decide (r26<(0:Int))then some 7 else bif a2==(4:Int)then (C1 n v9.2.2 a6).bind fun r27=>bif r27 then some 8 else some 0 else some 0 else bif a2==(4:Int)then (C1 n v9.2.2 a6).bind fun r28=>bif r28 then some 8 else some 0 else some 0 else bif a2==(4:Int)then (B29 n v9.1 v9.2.1 v9.2.2 a6).bind fun r29=>bif decide (r29<(0:Int))then some 7 else bif a2==(4:Int)then (C1 n v9.2.2 a6).bind fun r30=>bif r30 then some 8 else some 0 else some 0 else bif a2==(5:Int)then (B29 n v9.1 v9.2.1 v9.2.2 a6).bind fun r31=>bif decide (r31<(0:Int))then some 7 else bif a2==(4:Int)then (C1 n v9.2.2 a6).bind fun r32=>bif r32 then some 8 else some 0 else some 0 else bif a2==(4:Int)then (C1 n v9.2.2 a6).bind fun r33=>bif r33 then some 8 else some 0 else some 0 else none else bif a2==(5:Int)then (B29 n v9.1 v9.2.1 v9.2.2 a7).bind fun r34=>bif decide ((0:Int)≤r34)then some 5 else bif a2==(3:Int)then bif (v9.2.1.length:Int)==8 then some 6 else bif a2==(4:Int)then (B29 n v9.1 v9.2.1 v9.2.2 a6).bind fun r35=>bif decide (r35<(0:Int))then some 7 else bif a2==(4:Int)then (C1 n v9.2.2 a6).bind fun r36=>bif r36 then some 8 else some 0 else some 0 else bif a2==(5:Int)then (B29 n v9.1 v9.2.1 v9.2.2 a6).bind fun r37=>bif decide (r37<(0:Int))then some 7 else bif a2==(4:Int)then (C1 n v9.2.2 a6).bind fun r38=>bif r38 then some 8 else some 0 else some 0 else bif a2==(4:Int)then (C1 n v9.2.2 a6).bind fun r39=>bif r39 then some 8 else some 0 else some 0 else bif a2==(4:Int)then (B29 n v9.1 v9.2.1 v9.2.2 a6).bind fun r40=>bif decide (r40<(0:Int))then some 7 else bif a2==(4:Int)then (C1 n v9.2.2 a6).bind fun r41=>bif r41 then some 8 else some 0 else some 0 else bif a2==(5:Int)then (B29 n v9.1 v9.2.1 v9.2.2 a6).bind fun r42=>bif decide (r42<(0:Int))then some 7 else bif a2==(4:Int)then (C1 n v9.2.2 a6).bind fun r43=>bif r43 then some 8 else some 0 else some 0 else bif a2==(4:Int)then (C1 n v9.2.2 a6).bind fun r44=>bif r44 then some 8 else some 0 else some 0 else bif a2==(3:Int)then bif (v9.2.1.length:Int)==8 then some 6 else bif a2==(4:Int)then (B29 n v9.1 v9.2.1 v9.2.2 a6).bind fun r45=>bif decide (r45<(0:Int))then some 7 else bif a2==(4:Int)then (C1 n v9.2.2 a6).bind fun r46=>bif r46 then some 8 else some 0 else some 0 else bif a2==(5:Int)then (B29 n v9.1 v9.2.1 v9.2.2 a6).bind fun r47=>bif decide (r47<(0:Int))then some 7 else bif a2==(4:Int)then (C1 n v9.2.2 a6).bind fun r48=>bif r48 then some 8 else some 0 else some 0 else bif a2==(4:Int)then (C1 n v9.2.2 a6).bind fun r49=>bif r49 then some 8 else some 0 else some 0 else bif a2==(4:Int)then (B29 n v9.1 v9.2.1 v9.2.2 a6).bind fun r50=>bif decide (r50<(0:Int))then some 7 else bif a2==(4:Int)then (C1 n v9.2.2 a6).bind fun r51=>bif r51 then some 8 else some 0 else some 0 else bif a2==(5:Int)then (B29 n v9.1 v9.2.1 v9.2.2 a6).bind fun r52=>bif decide (r52<(0:Int))then some 7 else bif a2==(4:Int)then (C1 n v9.2.2 a6).bind fun r53=>bif r53 then some 8 else some 0 else some 0 else bif a2==(4:Int)then (C1 n v9.2.2 a6).bind fun r54=>bif r54 then some 8 else some 0 else some 0 else none
def B7v:Nat→Y4→Option Y4
  |0,_=>none
  |n+1,a1=>bif room a1.length 32 then some a1 else none
def B4g (n:Nat):Nat→Y6→Int→Int→Y6→Option Y7
  |0,_,_,_,_=>none
  |j+1,x4,x5,x6,x7=>bif decide (x6<x5)then bif inR x6 x4.length then let v8:=(x4.getD x6.toNat []);(B7v n v8).bind fun r9=>let v10:Y6:=[r9];bif room (x7.length+v10.length) 24 then B4g n j x4 x5 (IntKind.wrap .i64 (x6+(1:Int))) (x7++v10)else none else none else some x7
def B7u:Nat→Y7→Option Y7
  |0,_=>none
  |n+1,a1=>let v2:Y6:=[];let v3:Y6:=[];B4g n n a1 a1.length 0 v3
def B3l:Nat→Y4→Int→Int→Option Y4
  |0,_,_,_=>none
  |n+1,a1,a2,a3=>B1f a1 a2 a3
def B4p (n:Nat):Nat→Int→Int→Int→ByteArray→Y16→List ByteArray→ByteArray→ByteArray→Y6→Option Y13
  |0,_,_,_,_,_,_,_,_,_=>none
  |j+1,x23,x24,x25,x26,x27,x28,x29,x30,x31=>bif decide (x24<x23)then bif inR x24 x31.length then bif inR 0 x27.length then let v32:=(x27.getD (0:Int).toNat (⟨#[]⟩,(0,(false,(false,(0,(0,⟨#[]⟩)))))));let v33:Y3:=[(v32.2.2.2.2.1,(v32.2.2.2.2.2.1,v32.2.2.2.2.2.2))];bif room ((x31.getD x24.toNat []).length+v33.length) 32 then let v34:=((x31.getD x24.toNat [])++v33);bif inR x24 x31.length then bif Nat.beq x24.toNat x24.toNat then B4p n j x23 (IntKind.wrap .i64 (x24+(1:Int))) x25 x26 x27 x28 x29 x30 (x31.set x24.toNat v34)else none else none else none else none else none else some (x31,((0:Int),()))
def B4q (n:Nat):Nat→Int→Int→Int→Y6→Option Y13
  |0,_,_,_,_=>none
  |j+1,x36,x37,x38,x39=>bif decide (x38<x37)then bif inR x38 x39.length then (B3l n (x39.getD x38.toNat []) x36 (IntKind.wrap .i64 (x36+(1:Int)))).bind fun r40=>bif inR x38 x39.length then bif Nat.beq x38.toNat x38.toNat then B4q n j x36 x37 (IntKind.wrap .i64 (x38+(1:Int))) (x39.set x38.toNat r40)else none else none else none else some (x39,((0:Int),()))
def B8j:Nat→ByteArray→Y17→(List ByteArray)→Y7→Int→ByteArray→Y17→(List ByteArray)→ByteArray→ByteArray→Option Y13
  |0,_,_,_,_,_,_,_,_,_,_=>none
  |n+1,a1,a2,a3,a4,a5,a6,a7,a8,a9,a10=>let v11:Y6:=[];(B82 n a1 a2 a3 a4).bind fun r12=>bif !r12 then let v13:Y6:=[];some (v13,((1:Int),()))else (B8y n a5 a6 a7 a8 a9 a10).bind fun r14=>bif !r14 then let v15:Y6:=[];some (v15,((1:Int),()))else bif !(a6.toList==a1.toList)then let v16:Y6:=[];some (v16,((1:Int),()))else bif a5==(1:Int)then let v17:Y6:=[];some (v17,((1:Int),()))else let v18:Y22:=[(a1,(a2,a3))];(B7e n v18 a5 a6 a7 a8 a9 a10).bind fun r19=>bif r19 !=(0:Int)then let v20:Y6:=[];some (v20,(r19,()))else (B7u n a4).bind fun r21=>bif a5==(2:Int)then let v22:Y6:=[];some (v22,((0:Int),()))else bif a5==(3:Int)then B4p n n r21.length 0 a5 a6 a7 a8 a9 a10 r21 else bif a5==(4:Int)then (B29 n a1 a2 a3 a9).bind fun r35=>B4q n n r35 r21.length 0 r21 else some (r21,((0:Int),()))
def B95:Nat→Int→ByteArray→Y17→(List ByteArray)→ByteArray→ByteArray→Option Bool
  |0,_,_,_,_,_,_=>none
  |n+1,a1,a2,a3,a4,a5,a6=>(B52 n a2).bind fun r7=>bif !r7 then some false else bif (a3.length:Int)==0 then bif a1==(1:Int)then let v8:Bool:=(a5.toList==(⟨#[]⟩:ByteArray).toList);bif v8 then let v9:Bool:=(a6.toList==(⟨#[]⟩:ByteArray).toList);bif v9 then (B51 n a2 a3 a4).bind fun r10=>some r10 else some false else some false else bif a1==(2:Int)then bif (a4.length:Int)==0 then let v11:Bool:=(a5.toList==(⟨#[]⟩:ByteArray).toList);bif v11 then let v12:Bool:=(a6.toList==(⟨#[]⟩:ByteArray).toList);some v12 else some false else some false else bif a1==(3:Int)then bif (a3.length:Int)==1 then bif inR 0 a3.length then let v13:=(a3.getD (0:Int).toNat (⟨#[]⟩,(0,(false,(false,(0,(0,⟨#[]⟩)))))));(B7q n v13.1 v13.2.1 v13.2.2.1 v13.2.2.2.1 v13.2.2.2.2.1 v13.2.2.2.2.2.1 v13.2.2.2.2.2.2).bind fun r14=>bif r14 then bif inR 0 a3.length then let v15:=(a3.getD (0:Int).toNat (⟨#[]⟩,(0,(false,(false,(0,(0,⟨#[]⟩)))))));bif v15.2.2.2.1 then bif (a4.length:Int)==0 then let v16:Bool:=(a5.toList==(⟨#[]⟩:ByteArray).toList);bif v16 then let v17:Bool:=(a6.toList==(⟨#[]⟩:ByteArray).toList);some v17 else some false else some false else bif inR 0 a3.length then let v18:=(a3.getD (0:Int).toNat (⟨#[]⟩,(0,(false,(false,(0,(0,⟨#[]⟩)))))));bif !v18.2.2.1 then bif (a4.length:Int)==0 then let v19:Bool:=(a5.toList==(⟨#[]⟩:ByteArray).toList);bif v19 then let v20:Bool:=(a6.toList==(⟨#[]⟩:ByteArray).toList);some v20 else some false else some false else some false else none else none else some false else none else some false else bif a1==(4:Int)then bif (a4.length:Int)==0 then (B52 n a5).bind fun r21=>bif r21 then let v22:Bool:=(a6.toList==(⟨#[]⟩:ByteArray).toList);some v22 else some false else some false else bif a1==(5:Int)then bif (a4.length:Int)==0 then (B52 n a5).bind fun r23=>bif r23 then (B52 n a6).bind fun r24=>some r24 else some false else some false else some false else bif a1==(1:Int)then let v25:Bool:=(a5.toList==(⟨#[]⟩:ByteArray).toList);bif v25 then let v26:Bool:=(a6.toList==(⟨#[]⟩:ByteArray).toList);bif v26 then (B51 n a2 a3 a4).bind fun r27=>some r27 else some false else some false else bif a1==(2:Int)then some false else bif a1==(3:Int)then bif (a3.length:Int)==1 then bif inR 0 a3.length then let v28:=(a3.getD (0:Int).toNat (⟨#[]⟩,(0,(false,(false,(0,(0,⟨#[]⟩)))))));(B7q n v28.1 v28.2.1 v28.2.2.1 v28.2.2.2.1 v28.2.2.2.2.1 v28.2.2.2.2.2.1 v28.2.2.2.2.2.2).bind fun r29=>bif r29 then bif inR 0 a3.length then let v30:=(a3.getD (0:Int).toNat (⟨#[]⟩,(0,(false,(false,(0,(0,⟨#[]⟩)))))));bif v30.2.2.2.1 then bif (a4.length:Int)==0 then let v31:Bool:=(a5.toList==(⟨#[]⟩:ByteArray).toList);bif v31 then let v32:Bool:=(a6.toList==(⟨#[]⟩:ByteArray).toList);some v32 else some false else some false else bif inR 0 a3.length then let v33:=(a3.getD (0:Int).toNat (⟨#[]⟩,(0,(false,(false,(0,(0,⟨#[]⟩)))))));bif !v33.2.2.1 then bif (a4.length:Int)==0 then let v34:Bool:=(a5.toList==(⟨#[]⟩:ByteArray).toList);bif v34 then let v35:Bool:=(a6.toList==(⟨#[]⟩:ByteArray).toList);some v35 else some false else some false else some false else none else none else some false else none else some false else bif a1==(4:Int)then some false else bif a1==(5:Int)then some false else some false
def B4e (n:Nat):Nat→Y22→Int→Int→Y22→Option Bool
  |0,_,_,_,_=>none
  |j+1,x3,x4,x5,x6=>bif decide (x5<x4)then bif inR x5 x3.length then let v7:=(x3.getD x5.toNat (⟨#[]⟩,([],[])));let v8:Y16:=[];(B51 n v7.1 v7.2.1 v7.2.2).bind fun r9=>bif !r9 then some false else bif decide ((0:Int)<x5)then bif inR (IntKind.wrap .i64 (x5 - 1)) x6.length then let v10:=(x6.getD (IntKind.wrap .i64 (x5 - 1)).toNat (⟨#[]⟩,([],[])));let v11:Bool:=(!(Op.bytesLess v10.1.toList v7.1.toList));bif v11 then some false else B4e n j x3 x4 (IntKind.wrap .i64 (x5+(1:Int))) x6 else none else B4e n j x3 x4 (IntKind.wrap .i64 (x5+(1:Int))) x6 else none else some true
def C0d:Nat→Y23→Option Bool
  |0,_=>none
  |n+1,a1=>let v2:Bool:=(decide ((6:Int)<(a1.length:Int)));bif v2 then some false else B4e n n a1 a1.length 0 a1
def B68 (n:Nat):Nat→ByteArray→Y22→Int→Int→Option Int
  |0,_,_,_,_=>none
  |j+1,x3,x4,x5,x6=>bif decide (x6<x5)then bif inR x6 x4.length then let v7:=(x4.getD x6.toNat (⟨#[]⟩,([],[])));let v8:Y16:=[];bif v7.1.toList==x3.toList then some x6 else B68 n j x3 x4 x5 (IntKind.wrap .i64 (x6+(1:Int)))else none else some (-1:Int)
def C0f:Nat→Y23→ByteArray→Option Int
  |0,_,_=>none
  |n+1,a1,a2=>B68 n n a2 a1 a1.length 0
def B70:Nat→ByteArray→Y17→(List ByteArray)→Option Y21
  |0,_,_,_=>none
  |n+1,a1,a2,a3=>let v4:Y16:=[];let v5:Y16:=[];bif room (v5.length+a2.length) 64 then bif room (([]:List ByteArray).length+a3.length) 16 then some (a1,((v5++a2),(([]:List ByteArray)++a3)))else none else none
def B4t (n:Nat):Nat→Y22→Int→Int→Y22→Y22→Option Y23
  |0,_,_,_,_,_=>none
  |j+1,x5,x6,x7,x8,x9=>bif decide (x7<x6)then bif inR x7 x5.length then let v10:=(x5.getD x7.toNat (⟨#[]⟩,([],[])));let v11:Y16:=[];(B70 n v10.1 v10.2.1 v10.2.2).bind fun r12=>let v13:Y22:=[(r12.1,(r12.2.1,r12.2.2))];bif room (x9.length+v13.length) 64 then B4t n j x5 x6 (IntKind.wrap .i64 (x7+(1:Int))) x8 (x9++v13)else none else none else some x9
def B8m:Nat→Y23→Option Y23
  |0,_=>none
  |n+1,a1=>let v2:Y22:=[];let v3:Y22:=[];let v4:Y22:=[];B4t n n a1 a1.length 0 v2 v3
def B3u (n:Nat):Nat→Bool→Y22→Int→Int→ByteArray→Y16→List ByteArray→Y22→Y22→Option Y23
  |0,_,_,_,_,_,_,_,_,_=>none
  |j+1,x8,x9,x10,x11,x12,x13,x14,x15,x16=>bif decide (x11<x10)then bif inR x11 x9.length then let v17:=(x9.getD x11.toNat (⟨#[]⟩,([],[])));let v18:Y16:=[];bif !x8 then bif Op.bytesLess x12.toList v17.1.toList then let v19:Y22:=[(x12,(x13,x14))];bif room (x16.length+v19.length) 64 then let v20:Y22:=[(v17.1,(v17.2.1,v17.2.2))];bif room ((x16++v19).length+v20.length) 64 then B3u n j true x9 x10 (IntKind.wrap .i64 (x11+(1:Int))) x12 x13 x14 x15 ((x16++v19)++v20)else none else none else let v21:Y22:=[(v17.1,(v17.2.1,v17.2.2))];bif room (x16.length+v21.length) 64 then B3u n j x8 x9 x10 (IntKind.wrap .i64 (x11+(1:Int))) x12 x13 x14 x15 (x16++v21)else none else let v22:Y22:=[(v17.1,(v17.2.1,v17.2.2))];bif room (x16.length+v22.length) 64 then B3u n j x8 x9 x10 (IntKind.wrap .i64 (x11+(1:Int))) x12 x13 x14 x15 (x16++v22)else none else none else bif !x8 then let v23:Y22:=[(x12,(x13,x14))];bif room (x16.length+v23.length) 64 then some (x16++v23)else none else some x16
def B9p:Nat→Y23→ByteArray→Y17→(List ByteArray)→Option Y23
  |0,_,_,_,_=>none
  |n+1,a1,a2,a3,a4=>let v5:Y22:=[];let v6:Y22:=[];let v7:Y22:=[];B3u n n false a1 a1.length 0 a2 a3 a4 v5 v6
def B5j (n:Nat):Nat→ByteArray→List ByteArray→Int→Int→Option Bool
  |0,_,_,_,_=>none
  |j+1,x3,x4,x5,x6=>bif decide (x6<x5)then bif inR x6 x4.length then let v7:Bool:=((x4.getD x6.toNat ⟨#[]⟩).toList==x3.toList);bif v7 then some true else B5j n j x3 x4 x5 (IntKind.wrap .i64 (x6+(1:Int)))else none else some false
def B9o:Nat→(List ByteArray)→ByteArray→Option Bool
  |0,_,_=>none
  |n+1,a1,a2=>B5j n n a2 a1 a1.length 0
def B7y:Nat→ByteArray→Y17→(List ByteArray)→Int→ByteArray→Y17→(List ByteArray)→ByteArray→ByteArray→Option Int
  |0,_,_,_,_,_,_,_,_,_=>none
  |n+1,a1,a2,a3,a4,a5,a6,a7,a8,a9=>(B4l n a1 a2 a3 a8).bind fun r10=>bif a4==(3:Int)then bif inR 0 a6.length then let v11:=(a6.getD (0:Int).toNat (⟨#[]⟩,(0,(false,(false,(0,(0,⟨#[]⟩)))))));(B4l n a1 a2 a3 v11.1).bind fun r12=>bif decide ((0:Int)≤r12)then some 5 else bif (a2.length:Int)==8 then some 6 else some 0 else none else bif a4==(4:Int)then bif decide (r10<(0:Int))then some 7 else (B9o n a3 a8).bind fun r13=>bif r13 then some 8 else some 0 else bif a4==(5:Int)then (B4l n a1 a2 a3 a9).bind fun r14=>bif decide ((0:Int)≤r14)then some 5 else bif decide (r10<(0:Int))then some 7 else some 0 else some 0
def B36 (n:Nat):Nat→Int→Int→Int→ByteArray→Y16→List ByteArray→ByteArray→ByteArray→ByteArray→Y16→List ByteArray→ByteArray→Y16→List ByteArray→Option Y21
  |0,_,_,_,_,_,_,_,_,_,_,_,_,_,_=>none
  |j+1,x35,x36,x37,x38,x39,x40,x41,x42,x43,x44,x45,x46,x47,x48=>bif decide (x36<x35)then bif x37==(5:Int)then bif inR x36 x48.length then let v49:ByteArray:=(x48.getD x36.toNat ⟨#[]⟩);bif v49.toList==x41.toList then bif inR x36 x48.length then B36 n j x35 (IntKind.wrap .i64 (x36+(1:Int))) x37 x38 x39 x40 x41 x42 x43 x44 x45 x46 x47 (x48.set x36.toNat x42)else none else B36 n j x35 (IntKind.wrap .i64 (x36+(1:Int))) x37 x38 x39 x40 x41 x42 x43 x44 x45 x46 x47 x48 else none else B36 n j x35 (IntKind.wrap .i64 (x36+(1:Int))) x37 x38 x39 x40 x41 x42 x43 x44 x45 x46 x47 x48 else bif x37==(3:Int)then bif inR 0 x39.length then let v50:=(x39.getD (0:Int).toNat (⟨#[]⟩,(0,(false,(false,(0,(0,⟨#[]⟩)))))));let v51:Y16:=[(v50.1,(v50.2.1,(v50.2.2.1,(v50.2.2.2.1,(v50.2.2.2.2.1,(v50.2.2.2.2.2.1,v50.2.2.2.2.2.2))))))];bif room (x47.length+v51.length) 64 then some (x46,((x47++v51),x48))else none else none else some (x46,(x47,x48))
def B2l (n:Nat):Nat→Y16→Int→Int→Int→ByteArray→Y16→List ByteArray→ByteArray→ByteArray→ByteArray→Y16→List ByteArray→ByteArray→Y16→List ByteArray→Option Y21
  |0,_,_,_,_,_,_,_,_,_,_,_,_,_,_,_=>none
  |j+1,x13,x14,x15,x16,x17,x18,x19,x20,x21,x22,x23,x24,x25,x26,x27=>bif decide (x15<x14)then bif inR x15 x13.length then let v28:=(x13.getD x15.toNat (⟨#[]⟩,(0,(false,(false,(0,(0,⟨#[]⟩)))))));bif x16==(4:Int)then bif v28.1.toList==x20.toList then B2l n j x13 x14 (IntKind.wrap .i64 (x15+(1:Int))) x16 x17 x18 x19 x20 x21 x22 x23 x24 x25 x26 x27 else bif x16==(5:Int)then bif v28.1.toList==x20.toList then let v29:Y16:=[(x21,(v28.2.1,(v28.2.2.1,(v28.2.2.2.1,(v28.2.2.2.2.1,(v28.2.2.2.2.2.1,v28.2.2.2.2.2.2))))))];bif room (x26.length+v29.length) 64 then B2l n j x13 x14 (IntKind.wrap .i64 (x15+(1:Int))) x16 x17 x18 x19 x20 x21 x22 x23 x24 x25 (x26++v29) x27 else none else let v30:Y16:=[(v28.1,(v28.2.1,(v28.2.2.1,(v28.2.2.2.1,(v28.2.2.2.2.1,(v28.2.2.2.2.2.1,v28.2.2.2.2.2.2))))))];bif room (x26.length+v30.length) 64 then B2l n j x13 x14 (IntKind.wrap .i64 (x15+(1:Int))) x16 x17 x18 x19 x20 x21 x22 x23 x24 x25 (x26++v30) x27 else none else let v31:Y16:=[(v28.1,(v28.2.1,(v28.2.2.1,(v28.2.2.2.1,(v28.2.2.2.2.1,(v28.2.2.2.2.2.1,v28.2.2.2.2.2.2))))))];bif room (x26.length+v31.length) 64 then B2l n j x13 x14 (IntKind.wrap .i64 (x15+(1:Int))) x16 x17 x18 x19 x20 x21 x22 x23 x24 x25 (x26++v31) x27 else none else bif x16==(5:Int)then bif v28.1.toList==x20.toList then let v32:Y16:=[(x21,(v28.2.1,(v28.2.2.1,(v28.2.2.2.1,(v28.2.2.2.2.1,(v28.2.2.2.2.2.1,v28.2.2.2.2.2.2))))))];bif room (x26.length+v32.length) 64 then B2l n j x13 x14 (IntKind.wrap .i64 (x15+(1:Int))) x16 x17 x18 x19 x20 x21 x22 x23 x24 x25 (x26++v32) x27 else none else let v33:Y16:=[(v28.1,(v28.2.1,(v28.2.2.1,(v28.2.2.2.1,(v28.2.2.2.2.1,(v28.2.2.2.2.2.1,v28.2.2.2.2.2.2))))))];bif room (x26.length+v33.length) 64 then B2l n j x13 x14 (IntKind.wrap .i64 (x15+(1:Int))) x16 x17 x18 x19 x20 x21 x22 x23 x24 x25 (x26++v33) x27 else none else let v34:Y16:=[(v28.1,(v28.2.1,(v28.2.2.1,(v28.2.2.2.1,(v28.2.2.2.2.1,(v28.2.2.2.2.2.1,v28.2.2.2.2.2.2))))))];bif room (x26.length+v34.length) 64 then B2l n j x13 x14 (IntKind.wrap .i64 (x15+(1:Int))) x16 x17 x18 x19 x20 x21 x22 x23 x24 x25 (x26++v34) x27 else none else none else B36 n n x27.length 0 x16 x17 x18 x19 x20 x21 x22 x23 x24 x25 x26 x27
def B7j:Nat→ByteArray→Y17→(List ByteArray)→Int→ByteArray→Y17→(List ByteArray)→ByteArray→ByteArray→Option Y21
  |0,_,_,_,_,_,_,_,_,_=>none
  |n+1,a1,a2,a3,a4,a5,a6,a7,a8,a9=>let v10:Y16:=[];bif room (([]:List ByteArray).length+a3.length) 16 then let v11:Y16:=[];let v12:Y16:=[];B2l n n a2 a2.length 0 a4 a5 a6 a7 a8 a9 (⟨#[]⟩:ByteArray) v10 ([]:List ByteArray) a1 v11 (([]:List ByteArray)++a3)else none
def B7x:Nat→Y23→Int→ByteArray→Y17→(List ByteArray)→ByteArray→ByteArray→Option Y25
  |0,_,_,_,_,_,_,_=>none
  |n+1,a1,a2,a3,a4,a5,a6,a7=>let v8:Y22:=[];(C0d n a1).bind fun r9=>bif !r9 then let v10:Y22:=[];some (v10,((1:Int),()))else (B95 n a2 a3 a4 a5 a6 a7).bind fun r11=>bif !r11 then let v12:Y22:=[];some (v12,((1:Int),()))else (C0f n a1 a3).bind fun r13=>(B8m n a1).bind fun r14=>let v15:Y22:=[];bif a2==(1:Int)then bif decide ((0:Int)≤r13)then let v16:Y22:=[];some (v16,((2:Int),()))else bif (a1.length:Int)==6 then let v17:Y22:=[];some (v17,((3:Int),()))else (B70 n a3 a4 a5).bind fun r18=>(B9p n r14 r18.1 r18.2.1 r18.2.2).bind fun r19=>some (r19,((0:Int),()))else bif decide (r13<(0:Int))then let v20:Y22:=[];some (v20,((4:Int),()))else bif inR r13 a1.length then let v21:=(a1.getD r13.toNat (⟨#[]⟩,([],[])));(B7y n v21.1 v21.2.1 v21.2.2 a2 a3 a4 a5 a6 a7).bind fun r22=>bif r22 !=(0:Int)then let v23:Y22:=[];some (v23,(r22,()))else bif a2==(2:Int)then let v24:Y22:=[];bif decide (0≤((0:Nat):Int)∧((0:Nat):Int)≤r13∧r13≤(r14.length:Int))then bif room (v24.length+((r14.drop ((0:Nat):Int).toNat).take (r13.toNat - ((0:Nat):Int).toNat)).length) 64 then let v25:=(v24++((r14.drop ((0:Nat):Int).toNat).take (r13.toNat - ((0:Nat):Int).toNat)));bif decide (0≤(IntKind.wrap .i64 (r13+(1:Int)))∧(IntKind.wrap .i64 (r13+(1:Int)))≤((r14.length:Nat):Int)∧((r14.length:Nat):Int)≤(r14.length:Int))then bif room (v25.length+((r14.drop (IntKind.wrap .i64 (r13+(1:Int))).toNat).take (((r14.length:Nat):Int).toNat - (IntKind.wrap .i64 (r13+(1:Int))).toNat)).length) 64 then let v26:=(v25++((r14.drop (IntKind.wrap .i64 (r13+(1:Int))).toNat).take (((r14.length:Nat):Int).toNat - (IntKind.wrap .i64 (r13+(1:Int))).toNat)));some (v26,((0:Int),()))else none else none else none else none else bif inR r13 a1.length then let v27:=(a1.getD r13.toNat (⟨#[]⟩,([],[])));(B7j n v27.1 v27.2.1 v27.2.2 a2 a3 a4 a5 a6 a7).bind fun r28=>bif inR r13 r14.length then let v29:=(r14.set r13.toNat (r28.1,(r28.2.1,r28.2.2)));some (v29,((0:Int),()))else none else none else none
def B38 (n:Nat)(k0:Int→Y6→Int→Int→Int→ByteArray→Y16→List ByteArray→ByteArray→ByteArray→Y6→Option Y13):Nat→Int→Y6→Int→Int→Y3→Int→Int→Int→ByteArray→Y16→List ByteArray→ByteArray→ByteArray→Y6→Y3→Option Y13
  |0,_,_,_,_,_,_,_,_,_,_,_,_,_,_,_=>none
  |j+1,x36,x37,x38,x39,x40,x41,x42,x43,x44,x45,x46,x47,x48,x49,x50=>bif decide (x42<x41)then bif inR x42 x40.length then let v51:=(x40.getD x42.toNat (0,(0,⟨#[]⟩)));bif x43 !=(4:Int)then let v52:Y3:=[(v51.1,(v51.2.1,v51.2.2))];bif room (x50.length+v52.length) 32 then B38 n k0 j x36 x37 x38 x39 x40 x41 (IntKind.wrap .i64 (x42+(1:Int))) x43 x44 x45 x46 x47 x48 x49 (x50++v52)else none else bif x42 !=x36 then let v53:Y3:=[(v51.1,(v51.2.1,v51.2.2))];bif room (x50.length+v53.length) 32 then B38 n k0 j x36 x37 x38 x39 x40 x41 (IntKind.wrap .i64 (x42+(1:Int))) x43 x44 x45 x46 x47 x48 x49 (x50++v53)else none else B38 n k0 j x36 x37 x38 x39 x40 x41 (IntKind.wrap .i64 (x42+(1:Int))) x43 x44 x45 x46 x47 x48 x49 x50 else none else bif x43==(3:Int)then bif inR 0 x45.length then let v54:=(x45.getD (0:Int).toNat (⟨#[]⟩,(0,(false,(false,(0,(0,⟨#[]⟩)))))));let v55:Y3:=[(v54.2.2.2.2.1,(v54.2.2.2.2.2.1,v54.2.2.2.2.2.2))];bif room (x50.length+v55.length) 32 then bif x43 !=(2:Int)then let v56:Y6:=[(x50++v55)];bif room (x49.length+v56.length) 24 then k0 x36 x37 x38 (IntKind.wrap .i64 (x39+(1:Int))) x43 x44 x45 x46 x47 x48 (x49++v56)else none else k0 x36 x37 x38 (IntKind.wrap .i64 (x39+(1:Int))) x43 x44 x45 x46 x47 x48 x49 else none else none else bif x43 !=(2:Int)then let v57:Y6:=[x50];bif room (x49.length+v57.length) 24 then k0 x36 x37 x38 (IntKind.wrap .i64 (x39+(1:Int))) x43 x44 x45 x46 x47 x48 (x49++v57)else none else k0 x36 x37 x38 (IntKind.wrap .i64 (x39+(1:Int))) x43 x44 x45 x46 x47 x48 x49
def B3j (n:Nat):Nat→Int→Y6→Int→Int→Int→ByteArray→Y16→List ByteArray→ByteArray→ByteArray→Y6→Option Y13
  |0,_,_,_,_,_,_,_,_,_,_,_=>none
  |j+1,x24,x25,x26,x27,x28,x29,x30,x31,x32,x33,x34=>bif decide (x27<x26)then bif inR x27 x25.length then let v35:=(x25.getD x27.toNat []);B38 n (fun y58 y59 y60 y61 y62 y63 y64 y65 y66 y67 y68=>B3j n j y58 y59 y60 y61 y62 y63 y64 y65 y66 y67 y68) n x24 x25 x26 x27 v35 v35.length 0 x28 x29 x30 x31 x32 x33 x34 ([]:Y3)else none else some (x34,((0:Int),()))
def B8l:Nat→ByteArray→Y17→(List ByteArray)→Y7→Int→ByteArray→Y17→(List ByteArray)→ByteArray→ByteArray→Option Y13
  |0,_,_,_,_,_,_,_,_,_,_=>none
  |n+1,a1,a2,a3,a4,a5,a6,a7,a8,a9,a10=>let v11:Y6:=[];(B76 n a1 a2 a3 a4).bind fun r12=>bif !r12 then let v13:Y6:=[];some (v13,((1:Int),()))else (B95 n a5 a6 a7 a8 a9 a10).bind fun r14=>bif !r14 then let v15:Y6:=[];some (v15,((1:Int),()))else bif !(a6.toList==a1.toList)then let v16:Y6:=[];some (v16,((1:Int),()))else bif a5==(1:Int)then let v17:Y6:=[];some (v17,((1:Int),()))else let v18:Y22:=[(a1,(a2,a3))];(B7x n v18 a5 a6 a7 a8 a9 a10).bind fun r19=>let v20:Y22:=[];bif r19.2.1 !=(0:Int)then let v21:Y6:=[];some (v21,(r19.2.1,()))else let v22:Y6:=[];(B4l n a1 a2 a3 a9).bind fun r23=>B3j n n r23 a4 a4.length 0 a5 a6 a7 a8 a9 a10 v22
def B5a (n:Nat):Nat→Y22→Int→Int→Y22→Option Bool
  |0,_,_,_,_=>none
  |j+1,x2,x3,x4,x5=>bif decide (x4<x3)then bif inR x4 x2.length then let v6:=(x2.getD x4.toNat (⟨#[]⟩,([],[])));let v7:Y16:=[];(B6p n v6.1 v6.2.1 v6.2.2).bind fun r8=>bif !r8 then some false else bif decide ((0:Int)<x4)then bif inR (IntKind.wrap .i64 (x4 - 1)) x5.length then let v9:=(x5.getD (IntKind.wrap .i64 (x4 - 1)).toNat (⟨#[]⟩,([],[])));let v10:Bool:=(!(Op.bytesLess v9.1.toList v6.1.toList));bif v10 then some false else B5a n j x2 x3 (IntKind.wrap .i64 (x4+(1:Int))) x5 else none else B5a n j x2 x3 (IntKind.wrap .i64 (x4+(1:Int))) x5 else none else let v11:Bool:=(decide ((x5.length:Int)≤6));some v11
def B8w:Nat→Y23→Option Bool
  |0,_=>none
  |n+1,a1=>B5a n n a1 a1.length 0 a1
def B4s (n:Nat):Nat→Y22→Int→Int→Y22→Y22→Option Y23
  |0,_,_,_,_,_=>none
  |j+1,x5,x6,x7,x8,x9=>bif decide (x7<x6)then bif inR x7 x5.length then let v10:=(x5.getD x7.toNat (⟨#[]⟩,([],[])));let v11:Y16:=[];(B6c n v10.1 v10.2.1 v10.2.2).bind fun r12=>let v13:Y22:=[(r12.1,(r12.2.1,r12.2.2))];bif room (x9.length+v13.length) 64 then B4s n j x5 x6 (IntKind.wrap .i64 (x7+(1:Int))) x8 (x9++v13)else none else none else some x9
def B8k:Nat→Y23→Option Y23
  |0,_=>none
  |n+1,a1=>let v2:Y22:=[];let v3:Y22:=[];let v4:Y22:=[];B4s n n a1 a1.length 0 v2 v3
def B2k:Nat→Y23→Int→Y23→Option Y23
  |0,_,_,_=>none
  |n+1,a1,a2,a3=>B1k 64 a1 a2 a3
def B37:Nat→Y23→Int→Int→Option Y23
  |0,_,_,_=>none
  |n+1,a1,a2,a3=>B1f a1 a2 a3
def B5y:Nat→ByteArray→Int→Bool→Bool→Int→Int→ByteArray→Y27→Option Bool
  |0,_,_,_,_,_,_,_,_=>none
  |n+1,a1,a2,a3,a4,a5,a6,a7,a8=>some (a1.toList==a8.2.2.2.2.1.toList)
def R1 (n:Nat):Nat→Y16→Y27→Int→Int→Option Int
  |0,_,_,_,_=>none
  |j+1,x3,x4,x5,x6=>bif decide (x6<x5)then bif inR x6 x3.length then let v7:=(x3.getD x6.toNat (⟨#[]⟩,(0,(false,(false,(0,(0,⟨#[]⟩)))))));(B5y n v7.1 v7.2.1 v7.2.2.1 v7.2.2.2.1 v7.2.2.2.2.1 v7.2.2.2.2.2.1 v7.2.2.2.2.2.2 x4).bind fun r8=>bif r8 then some x6 else R1 n j x3 x4 x5 (IntKind.wrap .i64 (x6+(1:Int)))else none else some (-1:Int)
def B2d:Nat→Y17→Y27→Option Int
  |0,_,_=>none
  |n+1,a1,a2=>R1 n n a1 a2 a1.length 0
def D2 (n:Nat):Nat→Y27→Int→Int→Y16→Option Y17
  |0,_,_,_,_=>none
  |j+1,x5,x6,x7,x8=>bif decide (x7<(x8.length:Int))then bif inR x7 x8.length then let v9:ByteArray:=(x8.getD x7.toNat (⟨#[]⟩,(0,(false,(false,(0,(0,⟨#[]⟩))))))).1;let v10:Int:=(x8.getD x7.toNat (⟨#[]⟩,(0,(false,(false,(0,(0,⟨#[]⟩))))))).2.1;let v11:Bool:=(x8.getD x7.toNat (⟨#[]⟩,(0,(false,(false,(0,(0,⟨#[]⟩))))))).2.2.1;let v12:Bool:=(x8.getD x7.toNat (⟨#[]⟩,(0,(false,(false,(0,(0,⟨#[]⟩))))))).2.2.2.1;let v13:Int:=(x8.getD x7.toNat (⟨#[]⟩,(0,(false,(false,(0,(0,⟨#[]⟩))))))).2.2.2.2.1;let v14:Int:=(x8.getD x7.toNat (⟨#[]⟩,(0,(false,(false,(0,(0,⟨#[]⟩))))))).2.2.2.2.2.1;let v15:ByteArray:=(x8.getD x7.toNat (⟨#[]⟩,(0,(false,(false,(0,(0,⟨#[]⟩))))))).2.2.2.2.2.2;(B5y n v9 v10 v11 v12 v13 v14 v15 x5).bind fun r16=>bif !r16 then bif inR x6 x8.length then let v17:=(x8.set x6.toNat (v9,(v10,(v11,(v12,(v13,(v14,v15)))))));D2 n j x5 (IntKind.wrap .i64 (x6+(1:Int))) (IntKind.wrap .i64 (x7+(1:Int))) v17 else none else D2 n j x5 x6 (IntKind.wrap .i64 (x7+(1:Int))) x8 else none else bif decide (0≤x6∧x6≤((x8.length:Nat):Int)∧((x8.length:Nat):Int)≤(x8.length:Int))then let v18:=(x8.take x6.toNat++List.replicate (((x8.length:Nat):Int).toNat - x6.toNat) ((⟨#[]⟩:ByteArray),((0:Int),(false,(false,((0:Int),((0:Int),(⟨#[]⟩:ByteArray)))))))++x8.drop (x6.toNat+(((x8.length:Nat):Int).toNat - x6.toNat)));bif decide (0≤((0:Nat):Int)∧((0:Nat):Int)≤x6∧x6≤(v18.length:Int))then some (v18.take (x6.toNat - ((0:Nat):Int).toNat))else none else none
def B2a:Nat→Y17→Y27→Option Y17
  |0,_,_=>none
  |n+1,a1,a2=>let v3:Y16:=[];(B2d n a1 a2).bind fun r4=>bif r4==(-1:Int)then some a1 else D2 n n a2 r4 (IntKind.wrap .i64 (r4+(1:Int))) a1
def B4f (n:Nat):Nat→Int→Int→ByteArray→Y16→List ByteArray→ByteArray→ByteArray→Y22→Y22→Option Y25
  |0,_,_,_,_,_,_,_,_,_=>none
  |j+1,x18,x19,x20,x21,x22,x23,x24,x25,x26=>bif decide (x18<(x26.length:Int))then bif inR x18 x26.length then let v27:ByteArray:=(x26.getD x18.toNat (⟨#[]⟩,([],[]))).1;bif Op.bytesLess v27.toList x20.toList then B4f n j (IntKind.wrap .i64 (x18+(1:Int))) x19 x20 x21 x22 x23 x24 x25 x26 else (B60 n x19 x20 x21 x22 x23 x24).bind fun r28=>let v29:Y22:=[(r28.1,(r28.2.1,r28.2.2))];(B2k n x26 x18 v29).bind fun r30=>some (r30,((0:Int),()))else none else (B60 n x19 x20 x21 x22 x23 x24).bind fun r31=>let v32:Y22:=[(r31.1,(r31.2.1,r31.2.2))];(B2k n x26 x18 v32).bind fun r33=>some (r33,((0:Int),()))
def B7t:Nat→Y23→Int→ByteArray→Y17→(List ByteArray)→ByteArray→ByteArray→Option Y25
  |0,_,_,_,_,_,_,_=>none
  |n+1,a1,a2,a3,a4,a5,a6,a7=>let v8:Y22:=[];(B8w n a1).bind fun r9=>bif !r9 then let v10:Y22:=[];some (v10,((1:Int),()))else (B8y n a2 a3 a4 a5 a6 a7).bind fun r11=>bif !r11 then let v12:Y22:=[];some (v12,((1:Int),()))else (B7e n a1 a2 a3 a4 a5 a6 a7).bind fun r13=>bif r13 !=(0:Int)then let v14:Y22:=[];some (v14,(r13,()))else (B8k n a1).bind fun r15=>let v16:Y22:=[];(B81 n a1 a3).bind fun r17=>bif a2==(1:Int)then B4f n n 0 a2 a3 a4 a5 a6 a7 v8 r15 else bif a2==(2:Int)then (B37 n r15 r17 (IntKind.wrap .i64 (r17+(1:Int)))).bind fun r34=>some (r34,((0:Int),()))else bif a2==(3:Int)then bif inR r17 r15.length then bif inR 0 a4.length then let v35:=(a4.getD (0:Int).toNat (⟨#[]⟩,(0,(false,(false,(0,(0,⟨#[]⟩)))))));let v36:Y16:=[(v35.1,(v35.2.1,(v35.2.2.1,(v35.2.2.2.1,(v35.2.2.2.2.1,(v35.2.2.2.2.2.1,v35.2.2.2.2.2.2))))))];bif room ((r15.getD r17.toNat (⟨#[]⟩,([],[]))).2.1.length+v36.length) 64 then let v37:=((r15.getD r17.toNat (⟨#[]⟩,([],[]))).2.1++v36);bif inR r17 r15.length then bif Nat.beq r17.toNat r17.toNat then let v38:=(r15.set r17.toNat ((r15.getD r17.toNat (⟨#[]⟩,([],[]))).1,(v37,(r15.getD r17.toNat (⟨#[]⟩,([],[]))).2.2)));some (v38,((0:Int),()))else none else none else none else none else none else bif a2==(4:Int)then bif inR r17 r15.length then (B2a n (r15.getD r17.toNat (⟨#[]⟩,([],[]))).2.1 (a2,(a3,(a4,(a5,(a6,a7)))))).bind fun r39=>bif Nat.beq r17.toNat r17.toNat then let v40:=(r15.set r17.toNat ((r15.getD r17.toNat (⟨#[]⟩,([],[]))).1,(r39,(r15.getD r17.toNat (⟨#[]⟩,([],[]))).2.2)));some (v40,((0:Int),()))else none else none else bif a2==(5:Int)then bif inR r17 r15.length then let v41:ByteArray:=(r15.getD r17.toNat (⟨#[]⟩,([],[]))).1;(B29 n v41 (r15.getD r17.toNat (⟨#[]⟩,([],[]))).2.1 (r15.getD r17.toNat (⟨#[]⟩,([],[]))).2.2 a6).bind fun r42=>bif inR r42 (r15.getD r17.toNat (⟨#[]⟩,([],[]))).2.1.length then let v43:=(r15.getD r17.toNat (⟨#[]⟩,([],[]))).2.1;let v44:=(r15.set r17.toNat ((r15.getD r17.toNat (⟨#[]⟩,([],[]))).1,((v43.set r42.toNat (a7,(v43.getD r42.toNat (⟨#[]⟩,(0,(false,(false,(0,(0,⟨#[]⟩))))))).2)),(r15.getD r17.toNat (⟨#[]⟩,([],[]))).2.2)));(B31 n (v44.getD r17.toNat (⟨#[]⟩,([],[]))).2.2 a6).bind fun r45=>bif decide ((0:Int)≤r45)then bif inR r45 (v44.getD r17.toNat (⟨#[]⟩,([],[]))).2.2.length then let v46:=(v44.getD r17.toNat (⟨#[]⟩,([],[]))).2.2;let v47:=(v44.set r17.toNat ((v44.getD r17.toNat (⟨#[]⟩,([],[]))).1,((v44.getD r17.toNat (⟨#[]⟩,([],[]))).2.1,(v46.set r45.toNat a7))));some (v47,((0:Int),()))else none else some (v44,((0:Int),()))else none else none else some (r15,((0:Int),()))
def C32:Nat→(List Int)→Option Bool
  |0,_=>none
  |n+1,a1=>let v2:Bool:=(decide ((1048576:Int)<(a1.length:Int)));bif v2 then some true else (B6r n a1).bind fun r3=>let v4:Y16:=[];let v5:Y16:=[];(B8j n r3.1.1 r3.1.2.1 r3.1.2.2 r3.2.1 r3.2.2.1.1 r3.2.2.1.2.1 r3.2.2.1.2.2.1 r3.2.2.1.2.2.2.1 r3.2.2.1.2.2.2.2.1 r3.2.2.1.2.2.2.2.2).bind fun r6=>(B8l n r3.1.1 r3.1.2.1 r3.1.2.2 r3.2.1 r3.2.2.1.1 r3.2.2.1.2.1 r3.2.2.1.2.2.1 r3.2.2.1.2.2.2.1 r3.2.2.1.2.2.2.2.1 r3.2.2.1.2.2.2.2.2).bind fun r7=>bif r6.2.1 !=r7.2.1 then some false else bif r6.2.1 !=(0:Int)then some ((r6.1.length:Int)==0)else let v8:Y22:=[(r3.1.1,(r3.1.2.1,r3.1.2.2))];(B7t n v8 r3.2.2.1.1 r3.2.2.1.2.1 r3.2.2.1.2.2.1 r3.2.2.1.2.2.2.1 r3.2.2.1.2.2.2.2.1 r3.2.2.1.2.2.2.2.2).bind fun r9=>let v10:Y22:=[];bif r9.2.1 !=(0:Int)then some false else (B8w n r9.1).bind fun r11=>bif !r11 then some false else bif r3.2.2.1.1==(2:Int)then bif (r9.1.length:Int)==0 then some ((r6.1.length:Int)==0)else some false else bif (r9.1.length:Int)==1 then bif inR 0 r9.1.length then let v12:ByteArray:=(r9.1.getD (0:Int).toNat (⟨#[]⟩,([],[]))).1;(B82 n v12 (r9.1.getD (0:Int).toNat (⟨#[]⟩,([],[]))).2.1 (r9.1.getD (0:Int).toNat (⟨#[]⟩,([],[]))).2.2 r6.1).bind fun r13=>bif r13 then let v14:Bool:=((r6.1.length:Int)==(r3.2.1.length:Int));some v14 else some false else none else some false
end Go.Proofs.Ytalmhjlcjcnidaa.Ev
