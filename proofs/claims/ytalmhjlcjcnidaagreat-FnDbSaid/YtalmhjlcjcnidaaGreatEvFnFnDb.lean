/- The functions that the law FnDb reaches, as typed functions. -/
import Derived.Test.YtalmhjlcjcnidaaGreatEvCore
set_option linter.all false
namespace Go.Proofs.YtalmhjlcjcnidaaGreat.Ev
open Go
abbrev Y1:Type:=(Int×(Int×ByteArray))
abbrev Y2:Type:=((List Int)×(Int×Int))
abbrev Y3:Type:=List Y1
abbrev Y4:Type:=(Y3)
abbrev Y5:Type:=(Bool×Y1)
abbrev Y6:Type:=List Y4
abbrev Y7:Type:=(Y6)
abbrev Y8:Type:=(Int×(Y2×Unit))
abbrev Y9:Type:=(Bool×Y5)
abbrev Y10:Type:=List Y7
abbrev Y11:Type:=((List ByteArray)×(ByteArray×ByteArray))
abbrev Y12:Type:=(Y10)
abbrev Y13:Type:=(ByteArray×(Y2×Unit))
abbrev Y14:Type:=(Int×Y9)
abbrev Y15:Type:=(Y7×(Int×Unit))
abbrev Y16:Type:=(ByteArray×Y14)
abbrev Y17:Type:=(Y1×(Y2×Unit))
abbrev Y18:Type:=List Y16
abbrev Y19:Type:=(Y18)
abbrev Y20:Type:=(Y4×(Y2×Unit))
abbrev Y21:Type:=(Y19×(List ByteArray))
abbrev Y22:Type:=(ByteArray×Y21)
abbrev Y23:Type:=List Y22
abbrev Y24:Type:=(Y23)
abbrev Y25:Type:=(Y19×Y11)
abbrev Y26:Type:=(ByteArray×Y25)
abbrev Y27:Type:=(Int×Y26)
abbrev Y28:Type:=(Y22×(Y2×Unit))
abbrev Y29:Type:=(Y24×(Y2×Unit))
abbrev Y30:Type:=(Y24×Y12)
def B8l (n:Nat):Nat→List Int→Int→Int→Option (Y2×Unit)
  |0,_,_,_=>none
  |j+1,x3,x4,x5=>bif decide (x5<(x3.length:Int))then bif decide (x5<(4000:Int))then bif inR x5 x3.length then let v6:Int:=(IntKind.wrap .i64 (x3.getD x5.toNat 0));let v7:Int:=(IntKind.wrap .i64 ((IntKind.wrap .i64 (x4*(157:Int)))+v6));let v8:Int:=(IntKind.wrap .i64 ((BitVec.ofInt (IntKind.bits .i64) (IntKind.wrap .i64 (v7+(7:Int)))&&&BitVec.ofInt (IntKind.bits .i64) 1073741823).toNat:Int));B8l n j x3 v8 (IntKind.wrap .i64 (x5+(1:Int)))else none else some ((x3,((0:Int),x4)),())else some ((x3,((0:Int),x4)),())
def C5i:Nat→(List Int)→Option (Y2×Unit)
  |0,_=>none
  |n+1,a1=>let v2:Int:=(IntKind.wrap .i64 ((942001:Int)+(a1.length:Int)));B8l n n a1 v2 0
def B6b:Nat→(List Int)→Int→Int→Option Y8
  |0,_,_,_=>none
  |n+1,a1,a2,a3=>let v4:Int:=(IntKind.wrap .i64 (a3*(6364136223846793005:Int)));let v5:Int:=(IntKind.wrap .i64 (v4+(1442695040888963407:Int)));bif decide (0≤(33:Int))then let v6:Int:=(Int.fdiv v5 (2^min (33:Int).toNat (IntKind.bits .i64)));bif decide (0≤(45:Int))then let v7:Int:=(Int.fdiv v5 (2^min (45:Int).toNat (IntKind.bits .i64)));let v8:Int:=(IntKind.wrap .i64 ((BitVec.ofInt (IntKind.bits .i64) v6^^^BitVec.ofInt (IntKind.bits .i64) v7).toNat:Int));let v9:Int:=(IntKind.wrap .i64 ((BitVec.ofInt (IntKind.bits .i64) v8&&&BitVec.ofInt (IntKind.bits .i64) 255).toNat:Int));bif decide (a2<(a1.length:Int))then bif inR a2 a1.length then let v10:Int:=(IntKind.wrap .i64 (a1.getD a2.toNat 0));let v11:Int:=(IntKind.wrap .i64 ((BitVec.ofInt (IntKind.bits .i64) (IntKind.wrap .i64 (v9+v10))&&&BitVec.ofInt (IntKind.bits .i64) 255).toNat:Int));some (v11,((a1,((IntKind.wrap .i64 (a2+(1:Int))),v5)),()))else none else some (v9,((a1,(a2,v5)),()))else none else none
def B2e:Nat→(List Int)→Int→Int→Int→Option Y8
  |0,_,_,_,_=>none
  |n+1,a1,a2,a3,a4=>bif decide (a4≤(0:Int))then some ((0:Int),((a1,(a2,a3)),()))else bif decide (a4≤(256:Int))then (B6b n a1 a2 a3).bind fun r5=>bif !decide (a4=0)then some ((Int.tmod r5.1 a4),((r5.2.1.1,(r5.2.1.2.1,r5.2.1.2.2)),()))else none else (B6b n a1 a2 a3).bind fun r6=>(B6b n r6.2.1.1 r6.2.1.2.1 r6.2.1.2.2).bind fun r7=>(B6b n r7.2.1.1 r7.2.1.2.1 r7.2.1.2.2).bind fun r8=>(B6b n r8.2.1.1 r8.2.1.2.1 r8.2.1.2.2).bind fun r9=>let v10:Int:=(IntKind.wrap .i64 (r6.1*(16777216:Int)));let v11:Int:=(IntKind.wrap .i64 (r7.1*(65536:Int)));let v12:Int:=(IntKind.wrap .i64 (r8.1*(256:Int)));let v13:Int:=(IntKind.wrap .i64 ((IntKind.wrap .i64 (v10+v11))+v12));bif !decide (a4=0)then let v14:Int:=(Int.tmod (IntKind.wrap .i64 (v13+r9.1)) a4);some (v14,((r9.2.1.1,(r9.2.1.2.1,r9.2.1.2.2)),()))else none
def C2c:Nat→(List Int)→Int→Int→Option Y13
  |0,_,_,_=>none
  |n+1,a1,a2,a3=>let v4:List ByteArray:=[(⟨#[105,100]⟩:ByteArray),(⟨#[97]⟩:ByteArray),(⟨#[98]⟩:ByteArray),(⟨#[99]⟩:ByteArray),(⟨#[100]⟩:ByteArray),(⟨#[101]⟩:ByteArray)];(B2e n a1 a2 a3 6).bind fun r5=>bif inR r5.1 v4.length then let v6:ByteArray:=(v4.getD r5.1.toNat ⟨#[]⟩);some (v6,((r5.2.1.1,(r5.2.1.2.1,r5.2.1.2.2)),()))else none
def B9h (n:Nat):Nat→ByteArray→Y18→Int→Int→Option Int
  |0,_,_,_,_=>none
  |j+1,x5,x6,x7,x8=>bif decide (x8<x7)then bif inR x8 x6.length then let v9:=(x6.getD x8.toNat (⟨#[]⟩,(0,(false,(false,(0,(0,⟨#[]⟩)))))));bif v9.1.toList==x5.toList then some x8 else B9h n j x5 x6 x7 (IntKind.wrap .i64 (x8+(1:Int)))else none else some (-1:Int)
def C1e:Nat→ByteArray→Y19→(List ByteArray)→ByteArray→Option Int
  |0,_,_,_,_=>none
  |n+1,a1,a2,a3,a4=>B9h n n a4 a2 a2.length 0
def B8m (n:Nat):Nat→Int→Int→List Int→Int→Int→List Int→Option Y13
  |0,_,_,_,_,_,_=>none
  |j+1,x8,x9,x10,x11,x12,x13=>bif decide (x9<x8)then (B6b n x10 x11 x12).bind fun r14=>bif room (x13.length+([(IntKind.wrap .u8 r14.1)]:List Int).length) 1 then let v15:List Int:=(x13++([(IntKind.wrap .u8 r14.1)]:List Int));B8m n j x8 (IntKind.wrap .i64 (x9+(1:Int))) r14.2.1.1 r14.2.1.2.1 r14.2.1.2.2 v15 else none else some ((strOfNums x13),((x10,(x11,x12)),()))
def C5j:Nat→(List Int)→Int→Int→Option Y13
  |0,_,_,_=>none
  |n+1,a1,a2,a3=>(B2e n a1 a2 a3 10).bind fun r4=>bif decide (r4.1<(7:Int))then let v5:List ByteArray:=[(⟨#[]⟩:ByteArray),(⟨#[97]⟩:ByteArray),(⟨#[98]⟩:ByteArray),(⟨#[97,98]⟩:ByteArray),(⟨#[116,114,117,101]⟩:ByteArray),(⟨#[102,97,108,115,101]⟩:ByteArray),(⟨#[49,50]⟩:ByteArray)];bif inR r4.1 v5.length then let v6:ByteArray:=(v5.getD r4.1.toNat ⟨#[]⟩);some (v6,((r4.2.1.1,(r4.2.1.2.1,r4.2.1.2.2)),()))else none else bif r4.1==(7:Int)then some ((⟨#[105,116,39,115,32,53,37,10]⟩:ByteArray),((r4.2.1.1,(r4.2.1.2.1,r4.2.1.2.2)),()))else (B2e n r4.2.1.1 r4.2.1.2.1 r4.2.1.2.2 31).bind fun r7=>B8m n n r7.1 0 r7.2.1.1 r7.2.1.2.1 r7.2.1.2.2 ([]:List Int)
def C1f:Nat→(List Int)→Int→Int→Int→Option Y17
  |0,_,_,_,_=>none
  |n+1,a1,a2,a3,a4=>(B2e n a1 a2 a3 8).bind fun r5=>bif r5.1==(0:Int)then some (((0:Int),((0:Int),(⟨#[]⟩:ByteArray))),((r5.2.1.1,(r5.2.1.2.1,r5.2.1.2.2)),()))else bif a4==(1:Int)then (B2e n r5.2.1.1 r5.2.1.2.1 r5.2.1.2.2 2).bind fun r6=>some ((a4,(r6.1,(⟨#[]⟩:ByteArray))),((r6.2.1.1,(r6.2.1.2.1,r6.2.1.2.2)),()))else bif a4==(2:Int)then (B2e n r5.2.1.1 r5.2.1.2.1 r5.2.1.2.2 12).bind fun r7=>some ((a4,((IntKind.wrap .i64 (r7.1 - 2)),(⟨#[]⟩:ByteArray))),((r7.2.1.1,(r7.2.1.2.1,r7.2.1.2.2)),()))else bif a4==(3:Int)then (C5j n r5.2.1.1 r5.2.1.2.1 r5.2.1.2.2).bind fun r8=>some ((a4,((0:Int),r8.1)),((r8.2.1.1,(r8.2.1.2.1,r8.2.1.2.2)),()))else some (((0:Int),((0:Int),(⟨#[]⟩:ByteArray))),((r5.2.1.1,(r5.2.1.2.1,r5.2.1.2.2)),()))
def C5m:Nat→(List Int)→Int→Int→ByteArray→Option (Y16×(Y2×Unit))
  |0,_,_,_,_=>none
  |n+1,a1,a2,a3,a4=>(B2e n a1 a2 a3 3).bind fun r5=>(B2e n r5.2.1.1 r5.2.1.2.1 r5.2.1.2.2 3).bind fun r6=>(B2e n r6.2.1.1 r6.2.1.2.1 r6.2.1.2.2 2).bind fun r7=>bif r7.1==(0:Int)then (C1f n r7.2.1.1 r7.2.1.2.1 r7.2.1.2.2 (IntKind.wrap .i64 ((1:Int)+r5.1))).bind fun r8=>bif r6.1==(0:Int)then bif r8.1.1==(0:Int)then some ((a4,((IntKind.wrap .i64 ((1:Int)+r5.1)),((r6.1==(0:Int)),((r7.1==(0:Int)),((IntKind.wrap .i64 ((1:Int)+r5.1)),((0:Int),(⟨#[]⟩:ByteArray))))))),((r8.2.1.1,(r8.2.1.2.1,r8.2.1.2.2)),()))else some ((a4,((IntKind.wrap .i64 ((1:Int)+r5.1)),((r6.1==(0:Int)),((r7.1==(0:Int)),(r8.1.1,(r8.1.2.1,r8.1.2.2)))))),((r8.2.1.1,(r8.2.1.2.1,r8.2.1.2.2)),()))else some ((a4,((IntKind.wrap .i64 ((1:Int)+r5.1)),((r6.1==(0:Int)),((r7.1==(0:Int)),(r8.1.1,(r8.1.2.1,r8.1.2.2)))))),((r8.2.1.1,(r8.2.1.2.1,r8.2.1.2.2)),()))else some ((a4,((IntKind.wrap .i64 ((1:Int)+r5.1)),((r6.1==(0:Int)),((r7.1==(0:Int)),((0:Int),((0:Int),(⟨#[]⟩:ByteArray))))))),((r7.2.1.1,(r7.2.1.2.1,r7.2.1.2.2)),()))
def B60 (n:Nat):Nat→Int→List Int→Int→Int→ByteArray→Y18→List ByteArray→ByteArray→Y18→List ByteArray→Option Y28
  |0,_,_,_,_,_,_,_,_,_,_=>none
  |j+1,x10,x11,x12,x13,x14,x15,x16,x17,x18,x19=>bif decide ((0:Int)<x10)then (C2c n x11 x12 x13).bind fun r20=>(C1e n x17 x18 x19 r20.1).bind fun r21=>bif decide (r21<(0:Int))then (C5m n r20.2.1.1 r20.2.1.2.1 r20.2.1.2.2 r20.1).bind fun r22=>let v23:Y18:=[(r22.1.1,(r22.1.2.1,(r22.1.2.2.1,(r22.1.2.2.2.1,(r22.1.2.2.2.2.1,(r22.1.2.2.2.2.2.1,r22.1.2.2.2.2.2.2))))))];bif room (x18.length+v23.length) 64 then B60 n j (IntKind.wrap .i64 (x10 - 1)) r22.2.1.1 r22.2.1.2.1 r22.2.1.2.2 x14 x15 x16 x17 (x18++v23) x19 else none else B60 n j (IntKind.wrap .i64 (x10 - 1)) r20.2.1.1 r20.2.1.2.1 r20.2.1.2.2 x14 x15 x16 x17 x18 x19 else let v24:Int:=(IntKind.wrap .i64 ((x18.length:Int) - 1));bif inR v24 x18.length then let v25:ByteArray:=(x18.getD v24.toNat (⟨#[]⟩,(0,(false,(false,(0,(0,⟨#[]⟩))))))).1;let v26:Int:=(x18.getD v24.toNat (⟨#[]⟩,(0,(false,(false,(0,(0,⟨#[]⟩))))))).2.1;let v27:Bool:=(x18.getD v24.toNat (⟨#[]⟩,(0,(false,(false,(0,(0,⟨#[]⟩))))))).2.2.1;let v28:Bool:=(x18.getD v24.toNat (⟨#[]⟩,(0,(false,(false,(0,(0,⟨#[]⟩))))))).2.2.2.1;let v29:Int:=(x18.getD v24.toNat (⟨#[]⟩,(0,(false,(false,(0,(0,⟨#[]⟩))))))).2.2.2.2.1;let v30:Int:=(x18.getD v24.toNat (⟨#[]⟩,(0,(false,(false,(0,(0,⟨#[]⟩))))))).2.2.2.2.2.1;let v31:ByteArray:=(x18.getD v24.toNat (⟨#[]⟩,(0,(false,(false,(0,(0,⟨#[]⟩))))))).2.2.2.2.2.2;bif v27 then let v32:Bool:=(decide ((1:Int)<(x18.length:Int)));bif v32 then (B2e n x11 x12 x13 3).bind fun r33=>bif r33.1==(0:Int)then bif room (x19.length+([v25]:List ByteArray).length) 16 then some ((x17,(x18,(x19++([v25]:List ByteArray)))),((r33.2.1.1,(r33.2.1.2.1,r33.2.1.2.2)),()))else none else some ((x17,(x18,x19)),((r33.2.1.1,(r33.2.1.2.1,r33.2.1.2.2)),()))else some ((x17,(x18,x19)),((x11,(x12,x13)),()))else some ((x17,(x18,x19)),((x11,(x12,x13)),()))else none
def C0l:Nat→(List Int)→Int→Int→ByteArray→Option Y28
  |0,_,_,_,_=>none
  |n+1,a1,a2,a3,a4=>let v5:Y18:=[];let v6:Y18:=[((⟨#[105,100]⟩:ByteArray),((2:Int),(true,(false,((0:Int),((0:Int),(⟨#[]⟩:ByteArray)))))))];let v7:List ByteArray:=[(⟨#[105,100]⟩:ByteArray)];let v8:Y18:=[];(B2e n a1 a2 a3 4).bind fun r9=>B60 n n r9.1 r9.2.1.1 r9.2.1.2.1 r9.2.1.2.2 (⟨#[]⟩:ByteArray) v5 ([]:List ByteArray) a4 v6 v7
def B6w (n:Nat):Nat→Int→Int→List Int→Int→Int→Y23→Y23→List ByteArray→Option Y29
  |0,_,_,_,_,_,_,_,_=>none
  |j+1,x8,x9,x10,x11,x12,x13,x14,x15=>bif decide (x9<x8)then bif inR x9 x15.length then (B2e n x10 x11 x12 3).bind fun r16=>bif decide ((0:Int)<r16.1)then (C0l n r16.2.1.1 r16.2.1.2.1 r16.2.1.2.2 (x15.getD x9.toNat ⟨#[]⟩)).bind fun r17=>let v18:Y23:=[(r17.1.1,(r17.1.2.1,r17.1.2.2))];bif room (x14.length+v18.length) 64 then B6w n j x8 (IntKind.wrap .i64 (x9+(1:Int))) r17.2.1.1 r17.2.1.2.1 r17.2.1.2.2 x13 (x14++v18) x15 else none else B6w n j x8 (IntKind.wrap .i64 (x9+(1:Int))) r16.2.1.1 r16.2.1.2.1 r16.2.1.2.2 x13 x14 x15 else none else some (x14,((x10,(x11,x12)),()))
def C3p:Nat→(List Int)→Int→Int→Option Y29
  |0,_,_,_=>none
  |n+1,a1,a2,a3=>let v4:Y23:=[];let v5:Y23:=[];let v6:Y23:=[];let v7:List ByteArray:=[(⟨#[111]⟩:ByteArray),(⟨#[116]⟩:ByteArray),(⟨#[117]⟩:ByteArray)];B6w n n v7.length 0 a1 a2 a3 v4 v5 v7
def B7e (n:Nat)(k0:Y18→Int→Int→List Int→Int→Int→Y3→Y3→Option Y20):Nat→Int→Y18→Int→Int→List Int→Int→Int→Y3→Y3→ByteArray→Int→Bool→Bool→Int→Int→ByteArray→Int→Int→ByteArray→Option Y20
  |0,_,_,_,_,_,_,_,_,_,_,_,_,_,_,_,_,_,_,_=>none
  |j+1,x17,x18,x19,x20,x21,x22,x23,x24,x25,x26,x27,x28,x29,x30,x31,x32,x33,x34,x35=>bif decide (x17<(9:Int))then bif x28 then bif x33==(0:Int)then (C1f n x21 x22 x23 x27).bind fun r36=>B7e n k0 j (IntKind.wrap .i64 (x17+(1:Int))) x18 x19 x20 r36.2.1.1 r36.2.1.2.1 r36.2.1.2.2 x24 x25 x26 x27 x28 x29 x30 x31 x32 r36.1.1 r36.1.2.1 r36.1.2.2 else let v37:Y3:=[(x33,(x34,x35))];bif room (x25.length+v37.length) 32 then k0 x18 x19 (IntKind.wrap .i64 (x20+(1:Int))) x21 x22 x23 x24 (x25++v37)else none else let v38:Y3:=[(x33,(x34,x35))];bif room (x25.length+v38.length) 32 then k0 x18 x19 (IntKind.wrap .i64 (x20+(1:Int))) x21 x22 x23 x24 (x25++v38)else none else let v39:Y3:=[(x33,(x34,x35))];bif room (x25.length+v39.length) 32 then k0 x18 x19 (IntKind.wrap .i64 (x20+(1:Int))) x21 x22 x23 x24 (x25++v39)else none
def B4s (n:Nat):Nat→Y18→Int→Int→List Int→Int→Int→Y3→Y3→Option Y20
  |0,_,_,_,_,_,_,_,_=>none
  |j+1,x7,x8,x9,x10,x11,x12,x13,x14=>bif decide (x9<x8)then bif inR x9 x7.length then let v15:=(x7.getD x9.toNat (⟨#[]⟩,(0,(false,(false,(0,(0,⟨#[]⟩)))))));(C1f n x10 x11 x12 v15.2.1).bind fun r16=>B7e n (fun y40 y41 y42 y43 y44 y45 y46 y47=>B4s n j y40 y41 y42 y43 y44 y45 y46 y47) n 0 x7 x8 x9 r16.2.1.1 r16.2.1.2.1 r16.2.1.2.2 x13 x14 v15.1 v15.2.1 v15.2.2.1 v15.2.2.2.1 v15.2.2.2.2.1 v15.2.2.2.2.2.1 v15.2.2.2.2.2.2 r16.1.1 r16.1.2.1 r16.1.2.2 else none else some (x14,((x10,(x11,x12)),()))
def C4a:Nat→(List Int)→Int→Int→ByteArray→Y19→(List ByteArray)→Option Y20
  |0,_,_,_,_,_,_=>none
  |n+1,a1,a2,a3,a4,a5,a6=>B4s n n a5 a5.length 0 a1 a2 a3 ([]:Y3) ([]:Y3)
def B8k (n:Nat):Nat→ByteArray→Int→Option Bool
  |0,_,_=>none
  |j+1,x2,x3=>bif decide (x3<(x2.size:Int))then bif inR x3 x2.size then bif decide ((bt x2 x3)<97)then some false else bif inR x3 x2.size then bif decide ((122:Int)<(bt x2 x3))then some false else B8k n j x2 (IntKind.wrap .i64 (x3+(1:Int)))else none else none else bif decide ((1:Int)≤(x2.size:Int))then some (decide ((x2.size:Int)≤8))else some false
def B6j:Nat→ByteArray→Option Bool
  |0,_=>none
  |n+1,a1=>B8k n n a1 0
def C1p:Nat→Int→Option Bool
  |0,_=>none
  |n+1,a1=>bif decide ((-1099511627775:Int)≤a1)then some (decide (a1≤(1099511627775:Int)))else some false
def B81:Nat→Int→Int→ByteArray→Option Bool
  |0,_,_,_=>none
  |n+1,a1,a2,a3=>bif a1==(0:Int)then bif a2==(0:Int)then let v4:Bool:=(a3.toList==(⟨#[]⟩:ByteArray).toList);some v4 else some false else bif a1==(1:Int)then bif a2==(0:Int)then let v5:Bool:=(a3.toList==(⟨#[]⟩:ByteArray).toList);some v5 else bif a2==(1:Int)then let v6:Bool:=(a3.toList==(⟨#[]⟩:ByteArray).toList);some v6 else some false else bif a1==(2:Int)then (C1p n a2).bind fun r7=>bif r7 then let v8:Bool:=(a3.toList==(⟨#[]⟩:ByteArray).toList);some v8 else some false else bif a1==(3:Int)then bif a2==(0:Int)then some (decide ((a3.size:Int)≤30))else some false else some false
def C2w:Nat→ByteArray→Int→Bool→Bool→Int→Int→ByteArray→Option Bool
  |0,_,_,_,_,_,_,_=>none
  |n+1,a1,a2,a3,a4,a5,a6,a7=>let v8:Bool:=((a5==(0:Int))&&((a6==(0:Int))&&((a7.toList==(⟨#[]⟩:ByteArray).toList)&&true)));(B6j n a1).bind fun r9=>bif !r9 then some false else bif decide (a2<(1:Int))then some false else bif decide ((3:Int)<a2)then some false else bif !a4 then some v8 else (B81 n a5 a6 a7).bind fun r10=>bif r10 then bif v8 then bif v8 then some (!a3)else some true else bif a5==a2 then bif v8 then some (!a3)else some true else some false else some false
def B5z (n:Nat):Nat→Int→List ByteArray→Int→Int→ByteArray→Y18→List ByteArray→Option Bool
  |0,_,_,_,_,_,_,_=>none
  |j+1,x17,x18,x19,x20,x21,x22,x23=>bif decide (x20<x19)then bif inR x20 x18.length then let v24:ByteArray:=(x18.getD x20.toNat ⟨#[]⟩);(C1e n x21 x22 x23 v24).bind fun r25=>bif decide (r25≤x17)then some false else bif inR r25 x22.length then let v26:=(x22.getD r25.toNat (⟨#[]⟩,(0,(false,(false,(0,(0,⟨#[]⟩)))))));bif !v26.2.2.1 then some false else B5z n j r25 x18 x19 (IntKind.wrap .i64 (x20+(1:Int))) x21 x22 x23 else none else none else some true
def B5y (n:Nat):Nat→Y18→Int→Int→ByteArray→Y18→List ByteArray→Option Bool
  |0,_,_,_,_,_,_=>none
  |j+1,x8,x9,x10,x11,x12,x13=>bif decide (x10<x9)then bif inR x10 x8.length then let v14:=(x8.getD x10.toNat (⟨#[]⟩,(0,(false,(false,(0,(0,⟨#[]⟩)))))));(C2w n v14.1 v14.2.1 v14.2.2.1 v14.2.2.2.1 v14.2.2.2.2.1 v14.2.2.2.2.2.1 v14.2.2.2.2.2.2).bind fun r15=>bif !r15 then some false else (C1e n x11 x12 x13 v14.1).bind fun r16=>bif r16 !=x10 then some false else B5y n j x8 x9 (IntKind.wrap .i64 (x10+(1:Int))) x11 x12 x13 else none else B5z n n (-1:Int) x13 x13.length 0 x11 x12 x13
def B7m:Nat→ByteArray→Y19→(List ByteArray)→Option Bool
  |0,_,_,_=>none
  |n+1,a1,a2,a3=>(B6j n a1).bind fun r4=>bif !r4 then some false else let v5:Bool:=(decide ((a2.length:Int)<1));bif v5 then some false else let v6:Bool:=(decide ((8:Int)<(a2.length:Int)));bif v6 then some false else let v7:Bool:=(decide ((a3.length:Int)<1));bif v7 then some false else B5y n n a2 a2.length 0 a1 a2 a3
def C4b:Nat→ByteArray→Int→Bool→Bool→Int→Int→ByteArray→Int→Int→ByteArray→Option Bool
  |0,_,_,_,_,_,_,_,_,_,_=>none
  |n+1,a1,a2,a3,a4,a5,a6,a7,a8,a9,a10=>bif a8==(0:Int)then (B81 n a8 a9 a10).bind fun r11=>bif r11 then some (!a3)else some false else (B81 n a8 a9 a10).bind fun r12=>bif r12 then some (a8==a2)else some false
def B9j (n:Nat):Nat→Y18→Int→Int→Y3→Option Bool
  |0,_,_,_,_=>none
  |j+1,x7,x8,x9,x10=>bif decide (x9<x8)then bif inR x9 x7.length then let v11:=(x7.getD x9.toNat (⟨#[]⟩,(0,(false,(false,(0,(0,⟨#[]⟩)))))));bif inR x9 x10.length then let v12:=(x10.getD x9.toNat (0,(0,⟨#[]⟩)));(C4b n v11.1 v11.2.1 v11.2.2.1 v11.2.2.2.1 v11.2.2.2.2.1 v11.2.2.2.2.2.1 v11.2.2.2.2.2.2 v12.1 v12.2.1 v12.2.2).bind fun r13=>bif !r13 then some false else B9j n j x7 x8 (IntKind.wrap .i64 (x9+(1:Int))) x10 else none else none else some true
def C51:Nat→ByteArray→Y19→(List ByteArray)→Y4→Option Bool
  |0,_,_,_,_=>none
  |n+1,a1,a2,a3,a4=>(B7m n a1 a2 a3).bind fun r5=>bif !r5 then some false else let v6:Bool:=((a4.length:Int) !=(a2.length:Int));bif v6 then some false else B9j n n a2 a2.length 0 a4
def B8n (n:Nat):Nat→List ByteArray→Int→Int→ByteArray→Y18→List ByteArray→Y3→Y3→Option Y4
  |0,_,_,_,_,_,_,_,_=>none
  |j+1,x5,x6,x7,x8,x9,x10,x11,x12=>bif decide (x7<x6)then bif inR x7 x5.length then (C1e n x8 x9 x10 (x5.getD x7.toNat ⟨#[]⟩)).bind fun r13=>bif inR r13 x11.length then let v14:=(x11.getD r13.toNat (0,(0,⟨#[]⟩)));let v15:Y3:=[(v14.1,(v14.2.1,v14.2.2))];bif room (x12.length+v15.length) 32 then B8n n j x5 x6 (IntKind.wrap .i64 (x7+(1:Int))) x8 x9 x10 x11 (x12++v15)else none else none else none else some x12
def B7q:Nat→ByteArray→Y19→(List ByteArray)→Y4→Option Y4
  |0,_,_,_,_=>none
  |n+1,a1,a2,a3,a4=>B8n n n a3 a3.length 0 a1 a2 a3 a4 ([]:Y3)
def C29:Nat→Int→Int→ByteArray→Int→Int→ByteArray→Option Bool
  |0,_,_,_,_,_,_=>none
  |n+1,a1,a2,a3,a4,a5,a6=>(B81 n a1 a2 a3).bind fun r7=>bif !r7 then some false else (B81 n a4 a5 a6).bind fun r8=>bif !r8 then some false else bif a1 !=a4 then some (decide (a1<a4))else bif decide (a2<a5)then some true else bif a2==a5 then some (Op.bytesLess a3.toList a6.toList)else some false
def B57 (n:Nat):Nat→Y3→Y3→Int→Option Bool
  |0,_,_,_=>none
  |j+1,x3,x4,x5=>bif decide (x5<(x3.length:Int))then bif decide (x5<(x4.length:Int))then bif inR x5 x3.length then let v6:=(x3.getD x5.toNat (0,(0,⟨#[]⟩)));bif inR x5 x4.length then let v7:=(x4.getD x5.toNat (0,(0,⟨#[]⟩)));let v8:Bool:=(!((v6.1==v7.1)&&((v6.2.1==v7.2.1)&&((v6.2.2.toList==v7.2.2.toList)&&true))));bif v8 then bif inR x5 x3.length then let v9:=(x3.getD x5.toNat (0,(0,⟨#[]⟩)));bif inR x5 x4.length then let v10:=(x4.getD x5.toNat (0,(0,⟨#[]⟩)));(C29 n v9.1 v9.2.1 v9.2.2 v10.1 v10.2.1 v10.2.2).bind fun r11=>some r11 else none else none else B57 n j x3 x4 (IntKind.wrap .i64 (x5+(1:Int)))else none else none else let v12:Bool:=(decide ((x3.length:Int)<(x4.length:Int)));some v12 else let v13:Bool:=(decide ((x3.length:Int)<(x4.length:Int)));some v13
def C0j:Nat→Y4→Y4→Option Bool
  |0,_,_=>none
  |n+1,a1,a2=>B57 n n a1 a2 0
def B6v (n:Nat):Nat→Y6→Y6→Int→Int→ByteArray→Y18→List ByteArray→Option Bool
  |0,_,_,_,_,_,_,_=>none
  |j+1,x7,x8,x9,x10,x11,x12,x13=>bif decide (x10<x9)then bif inR x10 x8.length then let v14:=(x8.getD x10.toNat []);(C51 n x11 x12 x13 v14).bind fun r15=>bif !r15 then some false else bif decide ((0:Int)<x10)then bif inR (IntKind.wrap .i64 (x10 - 1)) x7.length then let v16:=(x7.getD (IntKind.wrap .i64 (x10 - 1)).toNat []);(B7q n x11 x12 x13 v16).bind fun r17=>(B7q n x11 x12 x13 v14).bind fun r18=>(C0j n r17 r18).bind fun r19=>bif !r19 then some false else B6v n j x7 x8 x9 (IntKind.wrap .i64 (x10+(1:Int))) x11 x12 x13 else none else B6v n j x7 x8 x9 (IntKind.wrap .i64 (x10+(1:Int))) x11 x12 x13 else none else some true
def C1o:Nat→ByteArray→Y19→(List ByteArray)→Y7→Option Bool
  |0,_,_,_,_=>none
  |n+1,a1,a2,a3,a4=>(B7m n a1 a2 a3).bind fun r5=>bif !r5 then some false else let v6:Bool:=(decide ((60:Int)<(a4.length:Int)));bif v6 then some false else B6v n n a4 a4 a4.length 0 a1 a2 a3
def B54 (n:Nat):Nat→Y3→Y3→Int→Int→Option Bool
  |0,_,_,_,_=>none
  |j+1,x4,x5,x6,x7=>bif decide (x7<x6)then bif inR x7 x4.length then let v8:=(x4.getD x7.toNat (0,(0,⟨#[]⟩)));bif inR x7 x5.length then let v9:=(x5.getD x7.toNat (0,(0,⟨#[]⟩)));let v10:Bool:=(!((v8.1==v9.1)&&((v8.2.1==v9.2.1)&&((v8.2.2.toList==v9.2.2.toList)&&true))));bif v10 then some false else B54 n j x4 x5 x6 (IntKind.wrap .i64 (x7+(1:Int)))else none else none else some true
def C0n:Nat→Y4→Y4→Option Bool
  |0,_,_=>none
  |n+1,a1,a2=>let v3:Bool:=((a1.length:Int) !=(a2.length:Int));bif v3 then some false else B54 n n a1 a2 a1.length 0
def B9i (n:Nat):Nat→Y3→Y6→Int→Int→ByteArray→Y18→List ByteArray→Option Int
  |0,_,_,_,_,_,_,_=>none
  |j+1,x7,x8,x9,x10,x11,x12,x13=>bif decide (x10<x9)then bif inR x10 x8.length then let v14:=(x8.getD x10.toNat []);(B7q n x11 x12 x13 v14).bind fun r15=>(C0n n r15 x7).bind fun r16=>bif r16 then some x10 else B9i n j x7 x8 x9 (IntKind.wrap .i64 (x10+(1:Int))) x11 x12 x13 else none else some (-1:Int)
def C6s:Nat→ByteArray→Y19→(List ByteArray)→Y7→Y4→Option Int
  |0,_,_,_,_,_=>none
  |n+1,a1,a2,a3,a4,a5=>(C1o n a1 a2 a3 a4).bind fun r6=>bif !r6 then some (-1:Int)else B9i n n a5 a4 a4.length 0 a1 a2 a3
def B8r:Nat→Y4→Option Y4
  |0,_=>none
  |n+1,a1=>bif room (([]:Y3).length+a1.length) 32 then let v2:Y3:=(([]:Y3)++a1);some v2 else none
def B5k (n:Nat):Nat→Bool→Y6→Int→Int→ByteArray→Y18→List ByteArray→Y3→Y6→Option Y7
  |0,_,_,_,_,_,_,_,_,_=>none
  |j+1,x8,x9,x10,x11,x12,x13,x14,x15,x16=>bif decide (x11<x10)then bif inR x11 x9.length then let v17:=(x9.getD x11.toNat []);bif !x8 then (B7q n x12 x13 x14 x15).bind fun r18=>(B7q n x12 x13 x14 v17).bind fun r19=>(C0j n r18 r19).bind fun r20=>bif r20 then (B8r n x15).bind fun r21=>let v22:Y6:=[r21];bif room (x16.length+v22.length) 24 then (B8r n v17).bind fun r23=>let v24:Y6:=[r23];bif room ((x16++v22).length+v24.length) 24 then B5k n j true x9 x10 (IntKind.wrap .i64 (x11+(1:Int))) x12 x13 x14 x15 ((x16++v22)++v24)else none else none else (B8r n v17).bind fun r25=>let v26:Y6:=[r25];bif room (x16.length+v26.length) 24 then B5k n j x8 x9 x10 (IntKind.wrap .i64 (x11+(1:Int))) x12 x13 x14 x15 (x16++v26)else none else (B8r n v17).bind fun r27=>let v28:Y6:=[r27];bif room (x16.length+v28.length) 24 then B5k n j x8 x9 x10 (IntKind.wrap .i64 (x11+(1:Int))) x12 x13 x14 x15 (x16++v28)else none else none else bif !x8 then (B8r n x15).bind fun r29=>let v30:Y6:=[r29];bif room (x16.length+v30.length) 24 then some (x16++v30)else none else some x16
def C5n:Nat→ByteArray→Y19→(List ByteArray)→Y7→Y4→Option Y7
  |0,_,_,_,_,_=>none
  |n+1,a1,a2,a3,a4,a5=>let v6:Y6:=[];let v7:Y6:=[];B5k n n false a4 a4.length 0 a1 a2 a3 a5 v7
def C5g:Nat→ByteArray→Y19→(List ByteArray)→Y7→Y4→Option Y15
  |0,_,_,_,_,_=>none
  |n+1,a1,a2,a3,a4,a5=>let v6:Y6:=[];(C1o n a1 a2 a3 a4).bind fun r7=>bif !r7 then let v8:Y6:=[];some (v8,((1:Int),()))else (C51 n a1 a2 a3 a5).bind fun r9=>bif !r9 then let v10:Y6:=[];some (v10,((2:Int),()))else (B7q n a1 a2 a3 a5).bind fun r11=>(C6s n a1 a2 a3 a4 r11).bind fun r12=>bif decide ((0:Int)≤r12)then let v13:Y6:=[];some (v13,((3:Int),()))else bif (a4.length:Int)==60 then let v14:Y6:=[];some (v14,((4:Int),()))else (C5n n a1 a2 a3 a4 a5).bind fun r15=>some (r15,((0:Int),()))
def B61 (n:Nat):Nat→Int→List Int→Int→Int→ByteArray→Y18→List ByteArray→Y6→Option (Y7×(Y2×Unit))
  |0,_,_,_,_,_,_,_,_=>none
  |j+1,x10,x11,x12,x13,x14,x15,x16,x17=>bif decide ((0:Int)<x10)then (C4a n x11 x12 x13 x14 x15 x16).bind fun r18=>(C5g n x14 x15 x16 x17 r18.1).bind fun r19=>bif r19.2.1==(0:Int)then B61 n j (IntKind.wrap .i64 (x10 - 1)) r18.2.1.1 r18.2.1.2.1 r18.2.1.2.2 x14 x15 x16 r19.1 else B61 n j (IntKind.wrap .i64 (x10 - 1)) r18.2.1.1 r18.2.1.2.1 r18.2.1.2.2 x14 x15 x16 x17 else some (x17,((x11,(x12,x13)),()))
def C0m:Nat→(List Int)→Int→Int→ByteArray→Y19→(List ByteArray)→Option (Y7×(Y2×Unit))
  |0,_,_,_,_,_,_=>none
  |n+1,a1,a2,a3,a4,a5,a6=>let v7:Y6:=[];let v8:Y6:=[];(B2e n a1 a2 a3 7).bind fun r9=>B61 n n r9.1 r9.2.1.1 r9.2.1.2.1 r9.2.1.2.2 a4 a5 a6 v8
def B7f (n:Nat):Nat→Y23→Int→Int→List Int→Int→Int→Y23→Y10→Y23→Y10→Option (Y30×(Y2×Unit))
  |0,_,_,_,_,_,_,_,_,_,_=>none
  |j+1,x10,x11,x12,x13,x14,x15,x16,x17,x18,x19=>bif decide (x12<x11)then bif inR x12 x10.length then let v20:=(x10.getD x12.toNat (⟨#[]⟩,([],[])));let v21:Y18:=[];(C0m n x13 x14 x15 v20.1 v20.2.1 v20.2.2).bind fun r22=>let v23:Y10:=[r22.1];bif room (x19.length+v23.length) 24 then B7f n j x10 x11 (IntKind.wrap .i64 (x12+(1:Int))) r22.2.1.1 r22.2.1.2.1 r22.2.1.2.2 x16 x17 x18 (x19++v23)else none else none else some ((x18,x19),((x13,(x14,x15)),()))
def C4c:Nat→(List Int)→Int→Int→Option (Y30×(Y2×Unit))
  |0,_,_,_=>none
  |n+1,a1,a2,a3=>let v4:Y23:=[];let v5:Y10:=[];(C3p n a1 a2 a3).bind fun r6=>let v7:Y10:=[];let v8:Y23:=[];let v9:Y10:=[];B7f n n r6.1 r6.1.length 0 r6.2.1.1 r6.2.1.2.1 r6.2.1.2.2 v4 v5 r6.1 v7
def C5k:Nat→(List Int)→Int→Int→Option Y17
  |0,_,_,_=>none
  |n+1,a1,a2,a3=>(B2e n a1 a2 a3 4).bind fun r4=>(C1f n r4.2.1.1 r4.2.1.2.1 r4.2.1.2.2 r4.1).bind fun r5=>some ((r5.1.1,(r5.1.2.1,r5.1.2.2)),((r5.2.1.1,(r5.2.1.2.1,r5.2.1.2.2)),()))
def C1q:Nat→(List Int)→Int→Int→Option Y8
  |0,_,_,_=>none
  |n+1,a1,a2,a3=>(B2e n a1 a2 a3 9).bind fun r4=>bif decide (r4.1<(4:Int))then (B2e n r4.2.1.1 r4.2.1.2.1 r4.2.1.2.2 24).bind fun r5=>some ((IntKind.wrap .i64 (r5.1 - 3)),((r5.2.1.1,(r5.2.1.2.1,r5.2.1.2.2)),()))else bif r4.1==(4:Int)then (B2e n r4.2.1.1 r4.2.1.2.1 r4.2.1.2.2 3).bind fun r6=>let v7:Int:=(IntKind.wrap .i64 ((1099511627774:Int)+r6.1));some (v7,((r6.2.1.1,(r6.2.1.2.1,r6.2.1.2.2)),()))else bif r4.1==(5:Int)then (B2e n r4.2.1.1 r4.2.1.2.1 r4.2.1.2.2 3).bind fun r8=>let v9:Int:=(IntKind.wrap .i64 ((-1099511627776:Int)+r8.1));some (v9,((r8.2.1.1,(r8.2.1.2.1,r8.2.1.2.2)),()))else bif r4.1==(6:Int)then (B2e n r4.2.1.1 r4.2.1.2.1 r4.2.1.2.2 2).bind fun r10=>let v11:Int:=(IntKind.wrap .i64 ((9223372036854775807:Int) - r10.1));some (v11,((r10.2.1.1,(r10.2.1.2.1,r10.2.1.2.2)),()))else bif r4.1==(7:Int)then (B2e n r4.2.1.1 r4.2.1.2.1 r4.2.1.2.2 2).bind fun r12=>let v13:Int:=(IntKind.wrap .i64 ((-9223372036854775807:Int) - r12.1));some (v13,((r12.2.1.1,(r12.2.1.2.1,r12.2.1.2.2)),()))else (B2e n r4.2.1.1 r4.2.1.2.1 r4.2.1.2.2 2000000).bind fun r14=>some (r14.1,((r14.2.1.1,(r14.2.1.2.1,r14.2.1.2.2)),()))
def B7n:Nat→(List Int)→Int→Int→Option Y17
  |0,_,_,_=>none
  |n+1,a1,a2,a3=>(C5k n a1 a2 a3).bind fun r4=>(B2e n r4.2.1.1 r4.2.1.2.1 r4.2.1.2.2 12).bind fun r5=>bif r5.1==(0:Int)then (C1q n r5.2.1.1 r5.2.1.2.1 r5.2.1.2.2).bind fun r6=>bif r5.1==(1:Int)then (C1q n r6.2.1.1 r6.2.1.2.1 r6.2.1.2.2).bind fun r7=>bif r5.1==(2:Int)then (B2e n r7.2.1.1 r7.2.1.2.1 r7.2.1.2.2 2).bind fun r8=>bif decide ((IntKind.wrap .i64 ((30:Int)+r8.1))=(IntKind.wrap .i64 ((30:Int)+r8.1))∧0≤(IntKind.wrap .i64 ((30:Int)+r8.1)))&&room (IntKind.wrap .i64 ((30:Int)+r8.1)).toNat 1 then let v9:List Int:=(List.replicate (IntKind.wrap .i64 ((30:Int)+r8.1)).toNat 0);some ((r6.1,(r7.1,(strOfNums v9))),((r8.2.1.1,(r8.2.1.2.1,r8.2.1.2.2)),()))else none else some ((r6.1,(r7.1,r4.1.2.2)),((r7.2.1.1,(r7.2.1.2.1,r7.2.1.2.2)),()))else bif r5.1==(2:Int)then (B2e n r6.2.1.1 r6.2.1.2.1 r6.2.1.2.2 2).bind fun r10=>let v11:Int:=(IntKind.wrap .i64 ((30:Int)+r10.1));bif decide (v11=v11∧0≤v11)&&room v11.toNat 1 then let v12:ByteArray:=(strOfNums (List.replicate v11.toNat 0));some ((r6.1,(r4.1.2.1,v12)),((r10.2.1.1,(r10.2.1.2.1,r10.2.1.2.2)),()))else none else some ((r6.1,(r4.1.2.1,r4.1.2.2)),((r6.2.1.1,(r6.2.1.2.1,r6.2.1.2.2)),()))else bif r5.1==(1:Int)then (C1q n r5.2.1.1 r5.2.1.2.1 r5.2.1.2.2).bind fun r13=>bif r5.1==(2:Int)then (B2e n r13.2.1.1 r13.2.1.2.1 r13.2.1.2.2 2).bind fun r14=>let v15:Int:=(IntKind.wrap .i64 ((30:Int)+r14.1));bif decide (v15=v15∧0≤v15)&&room v15.toNat 1 then let v16:ByteArray:=(strOfNums (List.replicate v15.toNat 0));some ((r4.1.1,(r13.1,v16)),((r14.2.1.1,(r14.2.1.2.1,r14.2.1.2.2)),()))else none else some ((r4.1.1,(r13.1,r4.1.2.2)),((r13.2.1.1,(r13.2.1.2.1,r13.2.1.2.2)),()))else bif r5.1==(2:Int)then (B2e n r5.2.1.1 r5.2.1.2.1 r5.2.1.2.2 2).bind fun r17=>let v18:Int:=(IntKind.wrap .i64 ((30:Int)+r17.1));bif decide (v18=v18∧0≤v18)&&room v18.toNat 1 then let v19:ByteArray:=(strOfNums (List.replicate v18.toNat 0));some ((r4.1.1,(r4.1.2.1,v19)),((r17.2.1.1,(r17.2.1.2.1,r17.2.1.2.2)),()))else none else some ((r4.1.1,(r4.1.2.1,r4.1.2.2)),((r5.2.1.1,(r5.2.1.2.1,r5.2.1.2.2)),()))
def C05 (n:Nat):Nat→List Int→Int→Int→ByteArray→Y18→List ByteArray→ByteArray→Y18→List ByteArray→Option Y28
  |0,_,_,_,_,_,_,_,_,_=>none
  |j+1,x90,x91,x92,x93,x94,x95,x96,x97,x98=>some ((x96,(x97,x98)),((x90,(x91,x92)),()))
def C04 (n:Nat):Nat→Int→List Int→Int→Int→ByteArray→Y18→List ByteArray→ByteArray→Y18→List ByteArray→Option Y28
  |0,_,_,_,_,_,_,_,_,_,_=>none
  |j+1,x79,x80,x81,x82,x83,x84,x85,x86,x87,x88=>bif x79==(6:Int)then bif inR 0 x87.length then let v89:=(x87.set (0:Int).toNat ((x87.getD (0:Int).toNat (⟨#[]⟩,(0,(false,(false,(0,(0,⟨#[]⟩))))))).1,((x87.getD (0:Int).toNat (⟨#[]⟩,(0,(false,(false,(0,(0,⟨#[]⟩))))))).2.1,(false,(x87.getD (0:Int).toNat (⟨#[]⟩,(0,(false,(false,(0,(0,⟨#[]⟩))))))).2.2.2))));C05 n 1 x80 x81 x82 x83 x84 x85 x86 v89 x88 else none else C05 n 1 x80 x81 x82 x83 x84 x85 x86 x87 x88
def C03 (n:Nat):Nat→Int→List Int→Int→Int→ByteArray→Y18→List ByteArray→ByteArray→Y18→List ByteArray→Option Y28
  |0,_,_,_,_,_,_,_,_,_,_=>none
  |j+1,x69,x70,x71,x72,x73,x74,x75,x76,x77,x78=>bif x69==(5:Int)then C04 n 1 x69 x70 x71 x72 x73 x74 x75 x76 x77 ([]:List ByteArray)else C04 n 1 x69 x70 x71 x72 x73 x74 x75 x76 x77 x78
def C02 (n:Nat):Nat→Int→Int→List Int→Int→Int→ByteArray→Y18→List ByteArray→ByteArray→Y18→List ByteArray→Option Y28
  |0,_,_,_,_,_,_,_,_,_,_,_=>none
  |j+1,x50,x51,x52,x53,x54,x55,x56,x57,x58,x59,x60=>bif x50==(4:Int)then bif inR x51 x59.length then let v61:ByteArray:=(x59.getD x51.toNat (⟨#[]⟩,(0,(false,(false,(0,(0,⟨#[]⟩))))))).1;let v62:Int:=(x59.getD x51.toNat (⟨#[]⟩,(0,(false,(false,(0,(0,⟨#[]⟩))))))).2.1;let v63:Bool:=(x59.getD x51.toNat (⟨#[]⟩,(0,(false,(false,(0,(0,⟨#[]⟩))))))).2.2.1;let v64:Bool:=(x59.getD x51.toNat (⟨#[]⟩,(0,(false,(false,(0,(0,⟨#[]⟩))))))).2.2.2.1;let v65:Int:=(x59.getD x51.toNat (⟨#[]⟩,(0,(false,(false,(0,(0,⟨#[]⟩))))))).2.2.2.2.1;let v66:Int:=(x59.getD x51.toNat (⟨#[]⟩,(0,(false,(false,(0,(0,⟨#[]⟩))))))).2.2.2.2.2.1;let v67:ByteArray:=(x59.getD x51.toNat (⟨#[]⟩,(0,(false,(false,(0,(0,⟨#[]⟩))))))).2.2.2.2.2.2;let v68:Y18:=[(v61,(v62,(v63,(v64,(v65,(v66,v67))))))];bif room (x59.length+v68.length) 64 then C03 n 1 x50 x52 x53 x54 x55 x56 x57 x58 (x59++v68) x60 else none else none else C03 n 1 x50 x52 x53 x54 x55 x56 x57 x58 x59 x60
def C01 (n:Nat):Nat→Int→Int→List Int→Int→Int→ByteArray→Y18→List ByteArray→ByteArray→Y18→List ByteArray→Option Y28
  |0,_,_,_,_,_,_,_,_,_,_,_=>none
  |j+1,x38,x39,x40,x41,x42,x43,x44,x45,x46,x47,x48=>bif x38==(3:Int)then (C2c n x40 x41 x42).bind fun r49=>bif room (x48.length+([r49.1]:List ByteArray).length) 16 then C02 n 1 x38 x39 r49.2.1.1 r49.2.1.2.1 r49.2.1.2.2 x43 x44 x45 x46 x47 (x48++([r49.1]:List ByteArray))else none else C02 n 1 x38 x39 x40 x41 x42 x43 x44 x45 x46 x47 x48
def C00 (n:Nat):Nat→Int→Int→List Int→Int→Int→ByteArray→Y18→List ByteArray→ByteArray→Y18→List ByteArray→Option Y28
  |0,_,_,_,_,_,_,_,_,_,_,_=>none
  |j+1,x25,x26,x27,x28,x29,x30,x31,x32,x33,x34,x35=>bif x25==(2:Int)then (B7n n x27 x28 x29).bind fun r36=>bif inR x26 x34.length then let v37:=(x34.set x26.toNat ((x34.getD x26.toNat (⟨#[]⟩,(0,(false,(false,(0,(0,⟨#[]⟩))))))).1,((x34.getD x26.toNat (⟨#[]⟩,(0,(false,(false,(0,(0,⟨#[]⟩))))))).2.1,((x34.getD x26.toNat (⟨#[]⟩,(0,(false,(false,(0,(0,⟨#[]⟩))))))).2.2.1,((x34.getD x26.toNat (⟨#[]⟩,(0,(false,(false,(0,(0,⟨#[]⟩))))))).2.2.2.1,(r36.1.1,(r36.1.2.1,r36.1.2.2)))))));C01 n 1 x25 x26 r36.2.1.1 r36.2.1.2.1 r36.2.1.2.2 x30 x31 x32 x33 v37 x35 else none else C01 n 1 x25 x26 x27 x28 x29 x30 x31 x32 x33 x34 x35
def B9z (n:Nat):Nat→Int→Int→List Int→Int→Int→ByteArray→Y18→List ByteArray→ByteArray→Y18→List ByteArray→Option Y28
  |0,_,_,_,_,_,_,_,_,_,_,_=>none
  |j+1,x12,x13,x14,x15,x16,x17,x18,x19,x20,x21,x22=>bif x12==(1:Int)then (B2e n x14 x15 x16 6).bind fun r23=>bif inR x13 x21.length then let v24:=(x21.set x13.toNat ((x21.getD x13.toNat (⟨#[]⟩,(0,(false,(false,(0,(0,⟨#[]⟩))))))).1,((IntKind.wrap .i64 (r23.1 - 1)),(x21.getD x13.toNat (⟨#[]⟩,(0,(false,(false,(0,(0,⟨#[]⟩))))))).2.2)));C00 n 1 x12 x13 r23.2.1.1 r23.2.1.2.1 r23.2.1.2.2 x17 x18 x19 x20 v24 x22 else none else C00 n 1 x12 x13 x14 x15 x16 x17 x18 x19 x20 x21 x22
def C5l:Nat→(List Int)→Int→Int→Option Y28
  |0,_,_,_=>none
  |n+1,a1,a2,a3=>let v4:Y18:=[];(C0l n a1 a2 a3 (⟨#[116]⟩:ByteArray)).bind fun r5=>let v6:Y18:=[];(B2e n r5.2.1.1 r5.2.1.2.1 r5.2.1.2.2 14).bind fun r7=>(B2e n r7.2.1.1 r7.2.1.2.1 r7.2.1.2.2 r5.1.2.1.length).bind fun r8=>bif r7.1==(0:Int)then let v9:List ByteArray:=[(⟨#[]⟩:ByteArray),(⟨#[84]⟩:ByteArray),(⟨#[97,98,99,100,101,102,103,104,105]⟩:ByteArray)];(B2e n r8.2.1.1 r8.2.1.2.1 r8.2.1.2.2 3).bind fun r10=>bif inR r10.1 v9.length then let v11:ByteArray:=(v9.getD r10.1.toNat ⟨#[]⟩);B9z n 1 r7.1 r8.1 r10.2.1.1 r10.2.1.2.1 r10.2.1.2.2 (⟨#[]⟩:ByteArray) v4 ([]:List ByteArray) v11 r5.1.2.1 r5.1.2.2 else none else B9z n 1 r7.1 r8.1 r8.2.1.1 r8.2.1.2.1 r8.2.1.2.2 (⟨#[]⟩:ByteArray) v4 ([]:List ByteArray) r5.1.1 r5.1.2.1 r5.1.2.2
def B7p (n:Nat):Nat→List Int→Int→Int→Y23→Y23→Option Y29
  |0,_,_,_,_,_=>none
  |j+1,x41,x42,x43,x44,x45=>some (x45,((x41,(x42,x43)),()))
def B5w (n:Nat):Nat→Nat→Nat→Int→Int→List Int→Int→Int→Y23→Y23→List ByteArray→Option Y29
  |0,_,_,_,_,_,_,_,_,_,_=>none
  |j+1,x28,x29,x30,x31,x32,x33,x34,x35,x36,x37=>bif decide (x31<x30)then bif inR x31 x29 then let v38:ByteArray:=(x37.getD (x28+x31.toNat) (⟨#[]⟩:ByteArray));(C0l n x32 x33 x34 v38).bind fun r39=>let v40:Y23:=[(r39.1.1,(r39.1.2.1,r39.1.2.2))];bif room (x36.length+v40.length) 64 then B5w n j x28 x29 x30 (IntKind.wrap .i64 (x31+(1:Int))) r39.2.1.1 r39.2.1.2.1 r39.2.1.2.2 x35 (x36++v40) x37 else none else none else B7p n 1 x32 x33 x34 x35 x36
def B5v (n:Nat):Nat→Int→List Int→Int→Int→Y23→Y23→Option Y29
  |0,_,_,_,_,_,_=>none
  |j+1,x18,x19,x20,x21,x22,x23=>bif x18==(2:Int)then let v24:Y23:=[];let v25:List ByteArray:=[(⟨#[102]⟩:ByteArray),(⟨#[103]⟩:ByteArray),(⟨#[104]⟩:ByteArray),(⟨#[105]⟩:ByteArray),(⟨#[106]⟩:ByteArray),(⟨#[107]⟩:ByteArray),(⟨#[108]⟩:ByteArray)];(B2e n x19 x20 x21 2).bind fun r26=>bif decide (0≤((0:Nat):Int)∧((0:Nat):Int)≤(IntKind.wrap .i64 ((6:Int)+r26.1))∧(IntKind.wrap .i64 ((6:Int)+r26.1))≤(v25.length:Int))then let v27:Int:=((((IntKind.wrap .i64 ((6:Int)+r26.1)).toNat - ((0:Nat):Int).toNat):Nat):Int);B5w n n (((0:Nat):Int).toNat) ((IntKind.wrap .i64 ((6:Int)+r26.1)).toNat - ((0:Nat):Int).toNat) v27 0 r26.2.1.1 r26.2.1.2.1 r26.2.1.2.2 x22 v24 v25 else none else B7p n 1 x19 x20 x21 x22 x23
def B7o (n:Nat):Nat→Int→List Int→Int→Int→Y23→Y23→Option Y29
  |0,_,_,_,_,_,_=>none
  |j+1,x10,x11,x12,x13,x14,x15=>bif x10==(1:Int)then let v16:Bool:=(decide ((0:Int)<(x15.length:Int)));bif v16 then bif inR 0 x15.length then let v17:=(x15.set (0:Int).toNat ((⟨#[122]⟩:ByteArray),(x15.getD (0:Int).toNat (⟨#[]⟩,([],[]))).2));B5v n 1 x10 x11 x12 x13 x14 v17 else none else B5v n 1 x10 x11 x12 x13 x14 x15 else B5v n 1 x10 x11 x12 x13 x14 x15
def C2b:Nat→(List Int)→Int→Int→Option Y29
  |0,_,_,_=>none
  |n+1,a1,a2,a3=>let v4:Y23:=[];(C3p n a1 a2 a3).bind fun r5=>let v6:Y23:=[];(B2e n r5.2.1.1 r5.2.1.2.1 r5.2.1.2.2 10).bind fun r7=>bif r7.1==(0:Int)then (C5l n r7.2.1.1 r7.2.1.2.1 r7.2.1.2.2).bind fun r8=>let v9:Y23:=[(r8.1.1,(r8.1.2.1,r8.1.2.2))];bif room (r5.1.length+v9.length) 64 then B7o n 1 r7.1 r8.2.1.1 r8.2.1.2.1 r8.2.1.2.2 v4 (r5.1++v9)else none else B7o n 1 r7.1 r7.2.1.1 r7.2.1.2.1 r7.2.1.2.2 v4 r5.1
def C5o:Nat→(List Int)→Int→Int→Option (Y30×(Y2×Unit))
  |0,_,_,_=>none
  |n+1,a1,a2,a3=>let v4:Y23:=[];let v5:Y10:=[];(C4c n a1 a2 a3).bind fun r6=>let v7:Y23:=[];let v8:Y10:=[];(B2e n r6.2.1.1 r6.2.1.2.1 r6.2.1.2.2 14).bind fun r9=>bif r9.1==(0:Int)then (C2b n r9.2.1.1 r9.2.1.2.1 r9.2.1.2.2).bind fun r10=>bif r9.1==(1:Int)then let v11:Y6:=[];let v12:Y10:=[v11];bif room (r6.1.2.length+v12.length) 24 then bif r9.1==(2:Int)then let v13:Bool:=(decide ((0:Int)<((r6.1.2++v12).length:Int)));bif v13 then bif inR 0 (r6.1.2++v12).length then let v14:Int:=(((r6.1.2++v12).getD (0:Int).toNat []).length:Int);bif decide ((0:Int)<v14)then bif inR 0 (r6.1.2++v12).length then bif inR 0 ((r6.1.2++v12).getD (0:Int).toNat []).length then let v15:=((r6.1.2++v12).getD (0:Int).toNat []);(B7n n r10.2.1.1 r10.2.1.2.1 r10.2.1.2.2).bind fun r16=>bif inR 0 (v15.getD (0:Int).toNat []).length then let v17:=(v15.getD (0:Int).toNat []);let v18:=((r6.1.2++v12).set (0:Int).toNat (v15.set (0:Int).toNat (v17.set (0:Int).toNat (r16.1.1,(r16.1.2.1,r16.1.2.2)))));some ((r10.1,v18),((r16.2.1.1,(r16.2.1.2.1,r16.2.1.2.2)),()))else none else none else none else some ((r10.1,(r6.1.2++v12)),((r10.2.1.1,(r10.2.1.2.1,r10.2.1.2.2)),()))else none else some ((r10.1,(r6.1.2++v12)),((r10.2.1.1,(r10.2.1.2.1,r10.2.1.2.2)),()))else some ((r10.1,(r6.1.2++v12)),((r10.2.1.1,(r10.2.1.2.1,r10.2.1.2.2)),()))else none else bif r9.1==(2:Int)then let v19:Bool:=(decide ((0:Int)<(r6.1.2.length:Int)));bif v19 then bif inR 0 r6.1.2.length then let v20:Int:=((r6.1.2.getD (0:Int).toNat []).length:Int);bif decide ((0:Int)<v20)then bif inR 0 r6.1.2.length then bif inR 0 (r6.1.2.getD (0:Int).toNat []).length then let v21:=(r6.1.2.getD (0:Int).toNat []);(B7n n r10.2.1.1 r10.2.1.2.1 r10.2.1.2.2).bind fun r22=>bif inR 0 (v21.getD (0:Int).toNat []).length then let v23:=(v21.getD (0:Int).toNat []);let v24:=(r6.1.2.set (0:Int).toNat (v21.set (0:Int).toNat (v23.set (0:Int).toNat (r22.1.1,(r22.1.2.1,r22.1.2.2)))));some ((r10.1,v24),((r22.2.1.1,(r22.2.1.2.1,r22.2.1.2.2)),()))else none else none else none else some ((r10.1,r6.1.2),((r10.2.1.1,(r10.2.1.2.1,r10.2.1.2.2)),()))else none else some ((r10.1,r6.1.2),((r10.2.1.1,(r10.2.1.2.1,r10.2.1.2.2)),()))else some ((r10.1,r6.1.2),((r10.2.1.1,(r10.2.1.2.1,r10.2.1.2.2)),()))else bif r9.1==(1:Int)then let v25:Y6:=[];let v26:Y10:=[v25];bif room (r6.1.2.length+v26.length) 24 then bif r9.1==(2:Int)then let v27:Bool:=(decide ((0:Int)<((r6.1.2++v26).length:Int)));bif v27 then bif inR 0 (r6.1.2++v26).length then let v28:Int:=(((r6.1.2++v26).getD (0:Int).toNat []).length:Int);bif decide ((0:Int)<v28)then bif inR 0 (r6.1.2++v26).length then bif inR 0 ((r6.1.2++v26).getD (0:Int).toNat []).length then let v29:=((r6.1.2++v26).getD (0:Int).toNat []);(B7n n r9.2.1.1 r9.2.1.2.1 r9.2.1.2.2).bind fun r30=>bif inR 0 (v29.getD (0:Int).toNat []).length then let v31:=(v29.getD (0:Int).toNat []);let v32:=((r6.1.2++v26).set (0:Int).toNat (v29.set (0:Int).toNat (v31.set (0:Int).toNat (r30.1.1,(r30.1.2.1,r30.1.2.2)))));some ((r6.1.1,v32),((r30.2.1.1,(r30.2.1.2.1,r30.2.1.2.2)),()))else none else none else none else some ((r6.1.1,(r6.1.2++v26)),((r9.2.1.1,(r9.2.1.2.1,r9.2.1.2.2)),()))else none else some ((r6.1.1,(r6.1.2++v26)),((r9.2.1.1,(r9.2.1.2.1,r9.2.1.2.2)),()))else some ((r6.1.1,(r6.1.2++v26)),((r9.2.1.1,(r9.2.1.2.1,r9.2.1.2.2)),()))else none else bif r9.1==(2:Int)then let v33:Bool:=(decide ((0:Int)<(r6.1.2.length:Int)));bif v33 then bif inR 0 r6.1.2.length then let v34:Int:=((r6.1.2.getD (0:Int).toNat []).length:Int);bif decide ((0:Int)<v34)then bif inR 0 r6.1.2.length then bif inR 0 (r6.1.2.getD (0:Int).toNat []).length then let v35:=(r6.1.2.getD (0:Int).toNat []);(B7n n r9.2.1.1 r9.2.1.2.1 r9.2.1.2.2).bind fun r36=>bif inR 0 (v35.getD (0:Int).toNat []).length then let v37:=(v35.getD (0:Int).toNat []);let v38:=(r6.1.2.set (0:Int).toNat (v35.set (0:Int).toNat (v37.set (0:Int).toNat (r36.1.1,(r36.1.2.1,r36.1.2.2)))));some ((r6.1.1,v38),((r36.2.1.1,(r36.2.1.2.1,r36.2.1.2.2)),()))else none else none else none else some ((r6.1.1,r6.1.2),((r9.2.1.1,(r9.2.1.2.1,r9.2.1.2.2)),()))else none else some ((r6.1.1,r6.1.2),((r9.2.1.1,(r9.2.1.2.1,r9.2.1.2.2)),()))else some ((r6.1.1,r6.1.2),((r9.2.1.1,(r9.2.1.2.1,r9.2.1.2.2)),()))
def C15:Nat→(List Int)→Option Y30
  |0,_=>none
  |n+1,a1=>let v2:Y23:=[];let v3:Y10:=[];(C5i n a1).bind fun r4=>(C5o n r4.1.1 r4.1.2.1 r4.1.2.2).bind fun r5=>let v6:Y23:=[];let v7:Y10:=[];some (r5.1.1,r5.1.2)
def B4n:Nat→Int→Int→Int→Option Bool
  |0,_,_,_=>none
  |n+1,a1,a2,a3=>bif decide (a2≤a1)then some (decide (a1≤a3))else some false
def B8b (n:Nat):Nat→ByteArray→Int→Option Bool
  |0,_,_=>none
  |j+1,x2,x3=>bif decide (x3<(x2.size:Int))then bif inR x3 x2.size then bif decide ((bt x2 x3)<97)then some false else bif inR x3 x2.size then bif decide ((122:Int)<(bt x2 x3))then some false else B8b n j x2 (IntKind.wrap .i64 (x3+(1:Int)))else none else none else (B4n n (x2.size:Int) 1 8).bind fun r4=>some r4
def B6g:Nat→ByteArray→Option Bool
  |0,_=>none
  |n+1,a1=>B8b n n a1 0
def B7t:Nat→Int→Int→ByteArray→Option Bool
  |0,_,_,_=>none
  |n+1,a1,a2,a3=>bif a1==(0:Int)then let v4:Bool:=((a1==(0:Int))&&((a2==(0:Int))&&((a3.toList==(⟨#[]⟩:ByteArray).toList)&&true)));some v4 else bif a1==(1:Int)then (B4n n a2 0 1).bind fun r5=>bif r5 then let v6:Bool:=(a3.toList==(⟨#[]⟩:ByteArray).toList);some v6 else some false else bif a1==(2:Int)then (B4n n a2 (-1099511627775:Int) 1099511627775).bind fun r7=>bif r7 then let v8:Bool:=(a3.toList==(⟨#[]⟩:ByteArray).toList);some v8 else some false else bif a1==(3:Int)then bif a2==(0:Int)then some (decide ((a3.size:Int)≤30))else some false else some false
def C2s:Nat→ByteArray→Int→Bool→Bool→Int→Int→ByteArray→Option Bool
  |0,_,_,_,_,_,_,_=>none
  |n+1,a1,a2,a3,a4,a5,a6,a7=>(B6g n a1).bind fun r8=>bif !r8 then some false else (B4n n a2 1 3).bind fun r9=>bif !r9 then some false else (B7t n a5 a6 a7).bind fun r10=>bif !r10 then some false else bif !a4 then let v11:Bool:=((a5==(0:Int))&&((a6==(0:Int))&&((a7.toList==(⟨#[]⟩:ByteArray).toList)&&true)));some v11 else bif a5==a2 then some true else bif a5==(0:Int)then some (!a3)else some false
def C42:Nat→ByteArray→Int→Bool→Bool→Int→Int→ByteArray→ByteArray→Option Bool
  |0,_,_,_,_,_,_,_,_=>none
  |n+1,a1,a2,a3,a4,a5,a6,a7,a8=>some (a1.toList==a8.toList)
def B2p (n:Nat):Nat→Y18→ByteArray→Int→Int→Option Int
  |0,_,_,_,_=>none
  |j+1,x3,x4,x5,x6=>bif decide (x6<x5)then bif inR x6 x3.length then let v7:=(x3.getD x6.toNat (⟨#[]⟩,(0,(false,(false,(0,(0,⟨#[]⟩)))))));(C42 n v7.1 v7.2.1 v7.2.2.1 v7.2.2.2.1 v7.2.2.2.2.1 v7.2.2.2.2.2.1 v7.2.2.2.2.2.2 x4).bind fun r8=>bif r8 then some x6 else B2p n j x3 x4 x5 (IntKind.wrap .i64 (x6+(1:Int)))else none else some (-1:Int)
def B3a:Nat→Y19→ByteArray→Option Int
  |0,_,_=>none
  |n+1,a1,a2=>B2p n n a1 a2 a1.length 0
def B2w:Nat→ByteArray→Y19→(List ByteArray)→ByteArray→Option Int
  |0,_,_,_,_=>none
  |n+1,a1,a2,a3,a4=>(B3a n a2 a4).bind fun r5=>some r5
def B5x (n:Nat):Nat→Int→List ByteArray→Int→Int→ByteArray→Y18→List ByteArray→Option Bool
  |0,_,_,_,_,_,_,_=>none
  |j+1,x13,x14,x15,x16,x17,x18,x19=>bif decide (x16<x15)then bif inR x16 x14.length then let v20:ByteArray:=(x14.getD x16.toNat ⟨#[]⟩);(B2w n x17 x18 x19 v20).bind fun r21=>bif decide (r21≤x13)then some false else bif inR r21 x18.length then let v22:=(x18.getD r21.toNat (⟨#[]⟩,(0,(false,(false,(0,(0,⟨#[]⟩)))))));bif !v22.2.2.1 then some false else B5x n j r21 x14 x15 (IntKind.wrap .i64 (x16+(1:Int))) x17 x18 x19 else none else none else (B6g n x17).bind fun r23=>bif r23 then (B4n n x18.length 1 8).bind fun r24=>bif r24 then let v25:Bool:=(decide ((0:Int)<(x19.length:Int)));some v25 else some false else some false
def B7b (n:Nat):Nat→Y18→Int→Int→ByteArray→Y18→List ByteArray→Option Bool
  |0,_,_,_,_,_,_=>none
  |j+1,x4,x5,x6,x7,x8,x9=>bif decide (x6<x5)then bif inR x6 x4.length then let v10:=(x4.getD x6.toNat (⟨#[]⟩,(0,(false,(false,(0,(0,⟨#[]⟩)))))));(C2s n v10.1 v10.2.1 v10.2.2.1 v10.2.2.2.1 v10.2.2.2.2.1 v10.2.2.2.2.2.1 v10.2.2.2.2.2.2).bind fun r11=>bif !r11 then some false else (B2w n x7 x8 x9 v10.1).bind fun r12=>bif r12 !=x6 then some false else B7b n j x4 x5 (IntKind.wrap .i64 (x6+(1:Int))) x7 x8 x9 else none else B5x n n (-1:Int) x9 x9.length 0 x7 x8 x9
def B8t:Nat→ByteArray→Y19→(List ByteArray)→Option Bool
  |0,_,_,_=>none
  |n+1,a1,a2,a3=>B7b n n a2 a2.length 0 a1 a2 a3
def B7s (n:Nat):Nat→Y23→Int→Int→Y23→Option Bool
  |0,_,_,_,_=>none
  |j+1,x2,x3,x4,x5=>bif decide (x4<x3)then bif inR x4 x2.length then let v6:=(x2.getD x4.toNat (⟨#[]⟩,([],[])));let v7:Y18:=[];(B8t n v6.1 v6.2.1 v6.2.2).bind fun r8=>bif !r8 then some false else bif decide ((0:Int)<x4)then bif inR (IntKind.wrap .i64 (x4 - 1)) x5.length then let v9:=(x5.getD (IntKind.wrap .i64 (x4 - 1)).toNat (⟨#[]⟩,([],[])));let v10:Bool:=(!(Op.bytesLess v9.1.toList v6.1.toList));bif v10 then some false else B7s n j x2 x3 (IntKind.wrap .i64 (x4+(1:Int))) x5 else none else B7s n j x2 x3 (IntKind.wrap .i64 (x4+(1:Int))) x5 else none else let v11:Bool:=(decide ((x5.length:Int)≤6));some v11
def C4q:Nat→Y24→Option Bool
  |0,_=>none
  |n+1,a1=>B7s n n a1 a1.length 0 a1
def C5c:Nat→ByteArray→Int→Bool→Bool→Int→Int→ByteArray→Int→Int→ByteArray→Option Bool
  |0,_,_,_,_,_,_,_,_,_,_=>none
  |n+1,a1,a2,a3,a4,a5,a6,a7,a8,a9,a10=>(B7t n a8 a9 a10).bind fun r11=>bif r11 then bif a8==a2 then some true else bif a8==(0:Int)then some (!a3)else some false else some false
def B9g (n:Nat):Nat→Y3→Int→Int→ByteArray→Y18→List ByteArray→Option Bool
  |0,_,_,_,_,_,_=>none
  |j+1,x6,x7,x8,x9,x10,x11=>bif decide (x8<x7)then bif inR x8 x6.length then let v12:=(x6.getD x8.toNat (0,(0,⟨#[]⟩)));bif inR x8 x10.length then let v13:=(x10.getD x8.toNat (⟨#[]⟩,(0,(false,(false,(0,(0,⟨#[]⟩)))))));(C5c n v13.1 v13.2.1 v13.2.2.1 v13.2.2.2.1 v13.2.2.2.2.1 v13.2.2.2.2.2.1 v13.2.2.2.2.2.2 v12.1 v12.2.1 v12.2.2).bind fun r14=>bif !r14 then some false else B9g n j x6 x7 (IntKind.wrap .i64 (x8+(1:Int))) x9 x10 x11 else none else none else some true
def C2t:Nat→ByteArray→Y19→(List ByteArray)→Y4→Option Bool
  |0,_,_,_,_=>none
  |n+1,a1,a2,a3,a4=>let v5:Bool:=((a4.length:Int) !=(a2.length:Int));bif v5 then some false else B9g n n a4 a4.length 0 a1 a2 a3
def B9f (n:Nat):Nat→List ByteArray→Int→Int→ByteArray→Y18→List ByteArray→Y3→Y3→Option Y4
  |0,_,_,_,_,_,_,_,_=>none
  |j+1,x5,x6,x7,x8,x9,x10,x11,x12=>bif decide (x7<x6)then bif inR x7 x5.length then (B2w n x8 x9 x10 (x5.getD x7.toNat ⟨#[]⟩)).bind fun r13=>bif inR r13 x11.length then let v14:=(x11.getD r13.toNat (0,(0,⟨#[]⟩)));let v15:Y3:=[(v14.1,(v14.2.1,v14.2.2))];bif room (x12.length+v15.length) 32 then B9f n j x5 x6 (IntKind.wrap .i64 (x7+(1:Int))) x8 x9 x10 x11 (x12++v15)else none else none else none else some x12
def B7w:Nat→ByteArray→Y19→(List ByteArray)→Y4→Option Y4
  |0,_,_,_,_=>none
  |n+1,a1,a2,a3,a4=>B9f n n a3 a3.length 0 a1 a2 a3 a4 ([]:Y3)
def C20:Nat→Int→Int→ByteArray→Int→Int→ByteArray→Option Bool
  |0,_,_,_,_,_,_=>none
  |n+1,a1,a2,a3,a4,a5,a6=>(B7t n a1 a2 a3).bind fun r7=>bif !r7 then some false else (B7t n a4 a5 a6).bind fun r8=>bif !r8 then some false else bif a1 !=a4 then some (decide (a1<a4))else bif a2 !=a5 then some (decide (a2<a5))else some (Op.bytesLess a3.toList a6.toList)
def B96 (n:Nat):Nat→Y3→Y3→Int→Option Bool
  |0,_,_,_=>none
  |j+1,x3,x4,x5=>bif decide (x5<(x3.length:Int))then bif decide (x5<(x4.length:Int))then bif inR x5 x3.length then let v6:=(x3.getD x5.toNat (0,(0,⟨#[]⟩)));bif inR x5 x4.length then let v7:=(x4.getD x5.toNat (0,(0,⟨#[]⟩)));let v8:Bool:=(!((v6.1==v7.1)&&((v6.2.1==v7.2.1)&&((v6.2.2.toList==v7.2.2.toList)&&true))));bif v8 then bif inR x5 x3.length then let v9:=(x3.getD x5.toNat (0,(0,⟨#[]⟩)));bif inR x5 x4.length then let v10:=(x4.getD x5.toNat (0,(0,⟨#[]⟩)));(C20 n v9.1 v9.2.1 v9.2.2 v10.1 v10.2.1 v10.2.2).bind fun r11=>some r11 else none else none else B96 n j x3 x4 (IntKind.wrap .i64 (x5+(1:Int)))else none else none else let v12:Bool:=(decide ((x3.length:Int)<(x4.length:Int)));some v12 else let v13:Bool:=(decide ((x3.length:Int)<(x4.length:Int)));some v13
def C1z:Nat→Y4→Y4→Option Bool
  |0,_,_=>none
  |n+1,a1,a2=>B96 n n a1 a2 0
def B6r (n:Nat):Nat→Y6→Y6→Int→Int→ByteArray→Y18→List ByteArray→Option Bool
  |0,_,_,_,_,_,_,_=>none
  |j+1,x7,x8,x9,x10,x11,x12,x13=>bif decide (x10<x9)then bif inR x10 x8.length then let v14:=(x8.getD x10.toNat []);(C2t n x11 x12 x13 v14).bind fun r15=>bif !r15 then some false else bif decide ((0:Int)<x10)then bif inR (IntKind.wrap .i64 (x10 - 1)) x7.length then let v16:=(x7.getD (IntKind.wrap .i64 (x10 - 1)).toNat []);(B7w n x11 x12 x13 v16).bind fun r17=>(B7w n x11 x12 x13 v14).bind fun r18=>(C1z n r17 r18).bind fun r19=>bif !r19 then some false else B6r n j x7 x8 x9 (IntKind.wrap .i64 (x10+(1:Int))) x11 x12 x13 else none else B6r n j x7 x8 x9 (IntKind.wrap .i64 (x10+(1:Int))) x11 x12 x13 else none else some true
def B8q:Nat→ByteArray→Y19→(List ByteArray)→Y7→Option Bool
  |0,_,_,_,_=>none
  |n+1,a1,a2,a3,a4=>(B8t n a1 a2 a3).bind fun r5=>bif !r5 then some false else let v6:Bool:=(decide ((60:Int)<(a4.length:Int)));bif v6 then some false else B6r n n a4 a4 a4.length 0 a1 a2 a3
def C0d (n:Nat):Nat→Y23→Int→Int→Y23→Y10→Option Bool
  |0,_,_,_,_,_=>none
  |j+1,x5,x6,x7,x8,x9=>bif decide (x7<x6)then bif inR x7 x5.length then let v10:=(x5.getD x7.toNat (⟨#[]⟩,([],[])));let v11:Y18:=[];bif inR x7 x9.length then let v12:=(x9.getD x7.toNat []);(B8q n v10.1 v10.2.1 v10.2.2 v12).bind fun r13=>bif !r13 then some false else C0d n j x5 x6 (IntKind.wrap .i64 (x7+(1:Int))) x8 x9 else none else none else some true
def C1j:Nat→Y24→Y12→Option Bool
  |0,_,_=>none
  |n+1,a1,a2=>(C4q n a1).bind fun r3=>bif !r3 then some false else let v4:Bool:=((a2.length:Int) !=(a1.length:Int));bif v4 then some false else C0d n n a1 a1.length 0 a1 a2
def B8f:Nat→(List ByteArray)→Option (List ByteArray)
  |0,_=>none
  |n+1,a1=>bif room a1.length 16 then some a1 else none
def B8e:Nat→ByteArray→Y19→(List ByteArray)→Option Y22
  |0,_,_,_=>none
  |n+1,a1,a2,a3=>let v4:Y18:=[];bif room a2.length 64 then (B8f n a3).bind fun r5=>some (a1,(a2,r5))else none
def C45:Nat→ByteArray→Y19→(List ByteArray)→Option Y27
  |0,_,_,_=>none
  |n+1,a1,a2,a3=>let v4:Y18:=[];(B8e n a1 a2 a3).bind fun r5=>let v6:Y18:=[];some ((1:Int),(r5.1,(r5.2.1,(r5.2.2,((⟨#[]⟩:ByteArray),(⟨#[]⟩:ByteArray))))))
def B9b:Nat→Int→ByteArray→Y19→(List ByteArray)→ByteArray→ByteArray→Option Y22
  |0,_,_,_,_,_,_=>none
  |n+1,a1,a2,a3,a4,a5,a6=>let v7:Y18:=[];(B8e n a2 a3 a4).bind fun r8=>some (r8.1,(r8.2.1,r8.2.2))
def B3d (n:Nat):Nat→Y18→Y18→Int→Int→Option Bool
  |0,_,_,_,_=>none
  |j+1,x4,x5,x6,x7=>bif decide (x7<x6)then bif inR x7 x4.length then let v8:=(x4.getD x7.toNat (⟨#[]⟩,(0,(false,(false,(0,(0,⟨#[]⟩)))))));bif inR x7 x5.length then let v9:=(x5.getD x7.toNat (⟨#[]⟩,(0,(false,(false,(0,(0,⟨#[]⟩)))))));let v10:Bool:=(!((v8.1.toList==v9.1.toList)&&((v8.2.1==v9.2.1)&&((v8.2.2.1==v9.2.2.1)&&((v8.2.2.2.1==v9.2.2.2.1)&&((v8.2.2.2.2.1==v9.2.2.2.2.1)&&((v8.2.2.2.2.2.1==v9.2.2.2.2.2.1)&&((v8.2.2.2.2.2.2.toList==v9.2.2.2.2.2.2.toList)&&true))))))));bif v10 then some false else B3d n j x4 x5 x6 (IntKind.wrap .i64 (x7+(1:Int)))else none else none else some true
def B3z:Nat→Y19→Y19→Option Bool
  |0,_,_=>none
  |n+1,a1,a2=>let v3:Bool:=((a1.length:Int) !=(a2.length:Int));bif v3 then some false else B3d n n a1 a2 a1.length 0
def B3q (n:Nat):Nat→List ByteArray→List ByteArray→Int→Int→Option Bool
  |0,_,_,_,_=>none
  |j+1,x4,x5,x6,x7=>bif decide (x7<x6)then bif inR x7 x4.length then bif inR x7 x5.length then let v8:Bool:=(!((x4.getD x7.toNat ⟨#[]⟩).toList==(x5.getD x7.toNat ⟨#[]⟩).toList));bif v8 then some false else B3q n j x4 x5 x6 (IntKind.wrap .i64 (x7+(1:Int)))else none else none else some true
def B4g:Nat→(List ByteArray)→(List ByteArray)→Option Bool
  |0,_,_=>none
  |n+1,a1,a2=>let v3:Bool:=((a1.length:Int) !=(a2.length:Int));bif v3 then some false else B3q n n a1 a2 a1.length 0
def B6h:Nat→Int→ByteArray→Y19→(List ByteArray)→ByteArray→ByteArray→Int→ByteArray→Y19→(List ByteArray)→ByteArray→ByteArray→Option Bool
  |0,_,_,_,_,_,_,_,_,_,_,_,_=>none
  |n+1,a1,a2,a3,a4,a5,a6,a7,a8,a9,a10,a11,a12=>bif a1==a7 then bif a2.toList==a8.toList then (B3z n a3 a9).bind fun r13=>bif r13 then (B4g n a4 a10).bind fun r14=>bif r14 then bif a5.toList==a11.toList then some (a6.toList==a12.toList)else some false else some false else some false else some false else some false
def C19:Nat→Int→ByteArray→Y19→(List ByteArray)→ByteArray→ByteArray→Option Bool
  |0,_,_,_,_,_,_=>none
  |n+1,a1,a2,a3,a4,a5,a6=>(B6g n a2).bind fun r7=>bif !r7 then some false else let v8:Y18:=[];let v9:Y18:=[];bif a1==(1:Int)then (B9b n a1 a2 a3 a4 a5 a6).bind fun r10=>(B8t n r10.1 r10.2.1 r10.2.2).bind fun r11=>bif r11 then let v12:Bool:=(a5.toList==(⟨#[]⟩:ByteArray).toList);bif v12 then let v13:Bool:=(a6.toList==(⟨#[]⟩:ByteArray).toList);some v13 else some false else some false else bif a1==(2:Int)then (B6h n a1 a2 a3 a4 a5 a6 a1 a2 v8 ([]:List ByteArray) (⟨#[]⟩:ByteArray) (⟨#[]⟩:ByteArray)).bind fun r14=>some r14 else bif a1==(3:Int)then (B6h n a1 a2 a3 a4 a5 a6 a1 a2 a3 ([]:List ByteArray) (⟨#[]⟩:ByteArray) (⟨#[]⟩:ByteArray)).bind fun r15=>bif r15 then bif (a3.length:Int)==1 then bif inR 0 a3.length then let v16:=(a3.getD (0:Int).toNat (⟨#[]⟩,(0,(false,(false,(0,(0,⟨#[]⟩)))))));(C2s n v16.1 v16.2.1 v16.2.2.1 v16.2.2.2.1 v16.2.2.2.2.1 v16.2.2.2.2.2.1 v16.2.2.2.2.2.2).bind fun r17=>bif r17 then bif inR 0 a3.length then let v18:=(a3.getD (0:Int).toNat (⟨#[]⟩,(0,(false,(false,(0,(0,⟨#[]⟩)))))));bif v18.2.2.2.1 then some true else bif inR 0 a3.length then let v19:=(a3.getD (0:Int).toNat (⟨#[]⟩,(0,(false,(false,(0,(0,⟨#[]⟩)))))));some (!v19.2.2.1)else none else none else some false else none else some false else some false else bif a1==(4:Int)then (B6h n a1 a2 a3 a4 a5 a6 a1 a2 v8 ([]:List ByteArray) a5 (⟨#[]⟩:ByteArray)).bind fun r20=>bif r20 then (B6g n a5).bind fun r21=>some r21 else some false else bif a1==(5:Int)then (B6h n a1 a2 a3 a4 a5 a6 a1 a2 v8 ([]:List ByteArray) a5 a6).bind fun r22=>bif r22 then (B6g n a5).bind fun r23=>bif r23 then (B6g n a6).bind fun r24=>some r24 else some false else some false else some false
def C5d:Nat→Int→Option ByteArray
  |0,_=>none
  |n+1,a1=>let v2:List ByteArray:=[(⟨#[]⟩:ByteArray),(⟨#[98,111,111,108]⟩:ByteArray),(⟨#[105,110,116]⟩:ByteArray),(⟨#[116,101,120,116]⟩:ByteArray)];bif inR a1 v2.length then some (v2.getD a1.toNat ⟨#[]⟩)else none
def C35:Nat→Int→Option ByteArray
  |0,_=>none
  |n+1,a1=>bif a1==(1:Int)then some (⟨#[116,114,117,101]⟩:ByteArray)else some (⟨#[102,97,108,115,101]⟩:ByteArray)
def B97 (n:Nat):Nat→Int→ByteArray→Option ByteArray
  |0,_,_=>none
  |j+1,x4,x5=>bif decide ((9:Int)<x4)then bif !decide ((10:Int)=0)then let v6:Int:=(IntKind.wrap .i64 ((48:Int)+(Int.tmod x4 10)));let v7:ByteArray:=(strOfNums ([(IntKind.wrap .u8 v6)]:List Int));bif decide (v7.size+x5.size≤9223372036854775807)then bif !decide ((10:Int)=0)then let v8:Int:=(IntKind.wrap .i64 (Int.tdiv x4 10));B97 n j v8 (v7++x5)else none else none else none else let v9:Int:=(IntKind.wrap .u8 (IntKind.wrap .i64 ((48:Int)+x4)));bif decide ((strOfNums ([v9]:List Int)).size+x5.size≤9223372036854775807)then some ((strOfNums ([v9]:List Int))++x5)else none
def B51:Nat→Int→Option ByteArray
  |0,_=>none
  |n+1,a1=>(B4n n a1 (-1099511627775:Int) 1099511627775).bind fun r2=>bif !r2 then some (⟨#[]⟩:ByteArray)else bif decide (a1<(0:Int))then (B51 n (IntKind.wrap .i64 (0 - a1))).bind fun r3=>bif decide ((⟨#[45]⟩:ByteArray).size+r3.size≤9223372036854775807)then some ((⟨#[45]⟩:ByteArray)++r3)else none else B97 n n a1 (⟨#[]⟩:ByteArray)
def B4i (n:Nat):Nat→Int→Int→Int→ByteArray→List Int→Option ByteArray
  |0,_,_,_,_,_=>none
  |j+1,x7,x8,x9,x10,x11=>bif decide (x7<(x10.size:Int))then bif inR x7 x10.size then (B4n n (IntKind.wrap .i64 (bt x10 x7)) 33 126).bind fun r12=>bif r12 then bif (bt x10 x7) !=39 then bif (bt x10 x7) !=37 then bif room (x11.length+([(bt x10 x7)]:List Int).length) 1 then B4i n j (IntKind.wrap .i64 (x7+(1:Int))) x8 x9 x10 (x11++([(bt x10 x7)]:List Int))else none else bif decide (0≤(4:Int))then let v13:Int:=(Int.fdiv (bt x10 x7) (2^min (4:Int).toNat (IntKind.bits .u8)));bif inR v13 (⟨#[48,49,50,51,52,53,54,55,56,57,97,98,99,100,101,102]⟩:ByteArray).size then let v14:Int:=(bt (⟨#[48,49,50,51,52,53,54,55,56,57,97,98,99,100,101,102]⟩:ByteArray) v13);let v15:Int:=(IntKind.wrap .u8 ((BitVec.ofInt (IntKind.bits .u8) (bt x10 x7)&&&BitVec.ofInt (IntKind.bits .u8) 15).toNat:Int));bif inR v15 (⟨#[48,49,50,51,52,53,54,55,56,57,97,98,99,100,101,102]⟩:ByteArray).size then let v16:Int:=(bt (⟨#[48,49,50,51,52,53,54,55,56,57,97,98,99,100,101,102]⟩:ByteArray) v15);bif room (x11.length+([(37:Int),v14,v16]:List Int).length) 1 then let v17:List Int:=(x11++([(37:Int),v14,v16]:List Int));B4i n j (IntKind.wrap .i64 (x7+(1:Int))) x8 x9 x10 v17 else none else none else none else none else bif decide (0≤(4:Int))then let v18:Int:=(Int.fdiv (bt x10 x7) (2^min (4:Int).toNat (IntKind.bits .u8)));bif inR v18 (⟨#[48,49,50,51,52,53,54,55,56,57,97,98,99,100,101,102]⟩:ByteArray).size then let v19:Int:=(bt (⟨#[48,49,50,51,52,53,54,55,56,57,97,98,99,100,101,102]⟩:ByteArray) v18);let v20:Int:=(IntKind.wrap .u8 ((BitVec.ofInt (IntKind.bits .u8) (bt x10 x7)&&&BitVec.ofInt (IntKind.bits .u8) 15).toNat:Int));bif inR v20 (⟨#[48,49,50,51,52,53,54,55,56,57,97,98,99,100,101,102]⟩:ByteArray).size then let v21:Int:=(bt (⟨#[48,49,50,51,52,53,54,55,56,57,97,98,99,100,101,102]⟩:ByteArray) v20);bif room (x11.length+([(37:Int),v19,v21]:List Int).length) 1 then let v22:List Int:=(x11++([(37:Int),v19,v21]:List Int));B4i n j (IntKind.wrap .i64 (x7+(1:Int))) x8 x9 x10 v22 else none else none else none else none else bif decide (0≤(4:Int))then let v23:Int:=(Int.fdiv (bt x10 x7) (2^min (4:Int).toNat (IntKind.bits .u8)));bif inR v23 (⟨#[48,49,50,51,52,53,54,55,56,57,97,98,99,100,101,102]⟩:ByteArray).size then let v24:Int:=(bt (⟨#[48,49,50,51,52,53,54,55,56,57,97,98,99,100,101,102]⟩:ByteArray) v23);let v25:Int:=(IntKind.wrap .u8 ((BitVec.ofInt (IntKind.bits .u8) (bt x10 x7)&&&BitVec.ofInt (IntKind.bits .u8) 15).toNat:Int));bif inR v25 (⟨#[48,49,50,51,52,53,54,55,56,57,97,98,99,100,101,102]⟩:ByteArray).size then let v26:Int:=(bt (⟨#[48,49,50,51,52,53,54,55,56,57,97,98,99,100,101,102]⟩:ByteArray) v25);bif room (x11.length+([(37:Int),v24,v26]:List Int).length) 1 then let v27:List Int:=(x11++([(37:Int),v24,v26]:List Int));B4i n j (IntKind.wrap .i64 (x7+(1:Int))) x8 x9 x10 v27 else none else none else none else none else none else bif room (x11.length+([(39:Int)]:List Int).length) 1 then let v28:ByteArray:=(strOfNums (x11++([(39:Int)]:List Int)));some v28 else none
def B3u:Nat→Int→Int→ByteArray→Option ByteArray
  |0,_,_,_=>none
  |n+1,a1,a2,a3=>(B7t n a1 a2 a3).bind fun r4=>bif !r4 then some (⟨#[]⟩:ByteArray)else bif a1==(0:Int)then some (⟨#[110,117,108,108]⟩:ByteArray)else bif a1==(1:Int)then (C35 n a2).bind fun r5=>some r5 else bif a1==(2:Int)then (B51 n a2).bind fun r6=>some r6 else B4i n n 0 a1 a2 a3 ([(39:Int)]:List Int)
def C1y:Nat→ByteArray→Int→Bool→Bool→Int→Int→ByteArray→Option ByteArray
  |0,_,_,_,_,_,_,_=>none
  |n+1,a1,a2,a3,a4,a5,a6,a7=>(C2s n a1 a2 a3 a4 a5 a6 a7).bind fun r8=>bif !r8 then some (⟨#[]⟩:ByteArray)else bif decide (a1.size+(⟨#[32]⟩:ByteArray).size≤9223372036854775807)then (C5d n a2).bind fun r9=>bif decide ((a1++(⟨#[32]⟩:ByteArray)).size+r9.size≤9223372036854775807)then bif a3 then bif decide (((a1++(⟨#[32]⟩:ByteArray))++r9).size+(⟨#[32,110,111,116]⟩:ByteArray).size≤9223372036854775807)then let v10:ByteArray:=(((a1++(⟨#[32]⟩:ByteArray))++r9)++(⟨#[32,110,111,116]⟩:ByteArray));bif a4 then bif decide (v10.size+(⟨#[32,61]⟩:ByteArray).size≤9223372036854775807)then (B3u n a5 a6 a7).bind fun r11=>bif decide ((v10++(⟨#[32,61]⟩:ByteArray)).size+r11.size≤9223372036854775807)then let v12:ByteArray:=((v10++(⟨#[32,61]⟩:ByteArray))++r11);some v12 else none else none else some v10 else none else bif a4 then bif decide (((a1++(⟨#[32]⟩:ByteArray))++r9).size+(⟨#[32,61]⟩:ByteArray).size≤9223372036854775807)then let v13:ByteArray:=(((a1++(⟨#[32]⟩:ByteArray))++r9)++(⟨#[32,61]⟩:ByteArray));(B3u n a5 a6 a7).bind fun r14=>bif decide (v13.size+r14.size≤9223372036854775807)then some (v13++r14)else none else none else some ((a1++(⟨#[32]⟩:ByteArray))++r9)else none else none
def B7v (n:Nat):Nat→ByteArray→List ByteArray→Int→Int→Option ByteArray
  |0,_,_,_,_=>none
  |j+1,x2,x3,x4,x5=>bif decide (x5<x4)then bif inR x5 x3.length then bif decide ((0:Int)<x5)then bif decide (x2.size+(⟨#[32]⟩:ByteArray).size≤9223372036854775807)then bif decide ((x2++(⟨#[32]⟩:ByteArray)).size+(x3.getD x5.toNat ⟨#[]⟩).size≤9223372036854775807)then let v6:ByteArray:=((x2++(⟨#[32]⟩:ByteArray))++(x3.getD x5.toNat ⟨#[]⟩));B7v n j v6 x3 x4 (IntKind.wrap .i64 (x5+(1:Int)))else none else none else bif decide (x2.size+(x3.getD x5.toNat ⟨#[]⟩).size≤9223372036854775807)then let v7:ByteArray:=(x2++(x3.getD x5.toNat ⟨#[]⟩));B7v n j v7 x3 x4 (IntKind.wrap .i64 (x5+(1:Int)))else none else none else some x2
def B7u:Nat→(List ByteArray)→Option ByteArray
  |0,_=>none
  |n+1,a1=>B7v n n (⟨#[]⟩:ByteArray) a1 a1.length 0
def B78 (n:Nat):Nat→ByteArray→Y18→Int→Int→Int→ByteArray→Y18→List ByteArray→ByteArray→ByteArray→Option ByteArray
  |0,_,_,_,_,_,_,_,_,_,_=>none
  |j+1,x9,x10,x11,x12,x13,x14,x15,x16,x17,x18=>bif decide (x12<x11)then bif inR x12 x10.length then let v19:=(x10.getD x12.toNat (⟨#[]⟩,(0,(false,(false,(0,(0,⟨#[]⟩)))))));bif decide (x9.size+(⟨#[32,40,32]⟩:ByteArray).size≤9223372036854775807)then (C1y n v19.1 v19.2.1 v19.2.2.1 v19.2.2.2.1 v19.2.2.2.2.1 v19.2.2.2.2.2.1 v19.2.2.2.2.2.2).bind fun r20=>bif decide ((x9++(⟨#[32,40,32]⟩:ByteArray)).size+r20.size≤9223372036854775807)then let v21:ByteArray:=((x9++(⟨#[32,40,32]⟩:ByteArray))++r20);bif decide (v21.size+(⟨#[32,41]⟩:ByteArray).size≤9223372036854775807)then B78 n j (v21++(⟨#[32,41]⟩:ByteArray)) x10 x11 (IntKind.wrap .i64 (x12+(1:Int))) x13 x14 x15 x16 x17 x18 else none else none else none else none else bif decide (x9.size+(⟨#[32,107,101,121,32]⟩:ByteArray).size≤9223372036854775807)then let v22:ByteArray:=(x9++(⟨#[32,107,101,121,32]⟩:ByteArray));(B7u n x16).bind fun r23=>bif decide (v22.size+r23.size≤9223372036854775807)then some (v22++r23)else none else none
def B38:Nat→Int→ByteArray→Y19→(List ByteArray)→ByteArray→ByteArray→Option ByteArray
  |0,_,_,_,_,_,_=>none
  |n+1,a1,a2,a3,a4,a5,a6=>(C19 n a1 a2 a3 a4 a5 a6).bind fun r7=>bif !r7 then some (⟨#[]⟩:ByteArray)else bif a1==(1:Int)then bif decide ((⟨#[99,114,101,97,116,101,32]⟩:ByteArray).size+a2.size≤9223372036854775807)then let v8:ByteArray:=((⟨#[99,114,101,97,116,101,32]⟩:ByteArray)++a2);B78 n n v8 a3 a3.length 0 a1 a2 a3 a4 a5 a6 else none else bif a1==(2:Int)then bif decide ((⟨#[100,114,111,112,32]⟩:ByteArray).size+a2.size≤9223372036854775807)then let v24:ByteArray:=((⟨#[100,114,111,112,32]⟩:ByteArray)++a2);some v24 else none else bif a1==(3:Int)then bif inR 0 a3.length then let v25:=(a3.getD (0:Int).toNat (⟨#[]⟩,(0,(false,(false,(0,(0,⟨#[]⟩)))))));(C1y n v25.1 v25.2.1 v25.2.2.1 v25.2.2.2.1 v25.2.2.2.2.1 v25.2.2.2.2.2.1 v25.2.2.2.2.2.2).bind fun r26=>let v27:List ByteArray:=[(⟨#[97,100,100]⟩:ByteArray),a2,r26];(B7u n v27).bind fun r28=>some r28 else none else bif a1==(4:Int)then let v29:List ByteArray:=[(⟨#[111,117,116]⟩:ByteArray),a2,a5];(B7u n v29).bind fun r30=>some r30 else let v31:List ByteArray:=[(⟨#[110,97,109,101]⟩:ByteArray),a2,a5,a6];(B7u n v31).bind fun r32=>some r32
def C22:Nat→Int→Int→ByteArray→Option Bool
  |0,_,_,_=>none
  |n+1,a1,a2,a3=>(B7t n a1 a2 a3).bind fun r4=>some (!r4)
def B2l (n:Nat):Nat→Y3→Int→Int→Option Int
  |0,_,_,_=>none
  |j+1,x2,x3,x4=>bif decide (x4<x3)then bif inR x4 x2.length then let v5:=(x2.getD x4.toNat (0,(0,⟨#[]⟩)));(C22 n v5.1 v5.2.1 v5.2.2).bind fun r6=>bif r6 then some x4 else B2l n j x2 x3 (IntKind.wrap .i64 (x4+(1:Int)))else none else some (-1:Int)
def B35:Nat→Y4→Option Int
  |0,_=>none
  |n+1,a1=>B2l n n a1 a1.length 0
def B31:Nat→Y4→Option Bool
  |0,_=>none
  |n+1,a1=>(B35 n a1).bind fun r2=>some (decide ((0:Int)≤r2))
def B8w:Nat→Y4→Option Bool
  |0,_=>none
  |n+1,a1=>(B4n n a1.length 1 8).bind fun r2=>bif r2 then (B31 n a1).bind fun r3=>some (!r3)else some false
def C58:Nat→Int→ByteArray→Y4→Y4→Int→ByteArray→Y19→(List ByteArray)→ByteArray→ByteArray→Option Bool
  |0,_,_,_,_,_,_,_,_,_,_=>none
  |n+1,a1,a2,a3,a4,a5,a6,a7,a8,a9,a10=>bif a1==(5:Int)then (C19 n a5 a6 a7 a8 a9 a10).bind fun r11=>bif r11 then bif a2.toList==a6.toList then bif (a3.length:Int)==0 then some ((a4.length:Int)==0)else some false else some false else some false else (B6g n a2).bind fun r12=>bif !r12 then some false else let v13:Y18:=[];(B6h n a5 a6 a7 a8 a9 a10 0 (⟨#[]⟩:ByteArray) v13 ([]:List ByteArray) (⟨#[]⟩:ByteArray) (⟨#[]⟩:ByteArray)).bind fun r14=>bif !r14 then some false else bif a1==(1:Int)then bif (a3.length:Int)==0 then (B8w n a4).bind fun r15=>some r15 else some false else bif a1==(2:Int)then (B8w n a3).bind fun r16=>bif r16 then (B8w n a4).bind fun r17=>some r17 else some false else bif a1==(3:Int)then (B8w n a3).bind fun r18=>bif r18 then some ((a4.length:Int)==0)else some false else bif a1==(4:Int)then bif (a3.length:Int)==0 then some ((a4.length:Int)==0)else some false else some false
def B6n (n:Nat):Nat→Y3→Int→Int→List ByteArray→Option ByteArray
  |0,_,_,_,_=>none
  |j+1,x2,x3,x4,x5=>bif decide (x4<x3)then bif inR x4 x2.length then let v6:=(x2.getD x4.toNat (0,(0,⟨#[]⟩)));(B3u n v6.1 v6.2.1 v6.2.2).bind fun r7=>bif room (x5.length+([r7]:List ByteArray).length) 16 then B6n n j x2 x3 (IntKind.wrap .i64 (x4+(1:Int))) (x5++([r7]:List ByteArray))else none else none else (B7u n x5).bind fun r8=>some r8
def B7y:Nat→Y4→Option ByteArray
  |0,_=>none
  |n+1,a1=>B6n n n a1 a1.length 0 ([]:List ByteArray)
def B4h:Nat→Int→ByteArray→Y4→Y4→Int→ByteArray→Y19→(List ByteArray)→ByteArray→ByteArray→Option ByteArray
  |0,_,_,_,_,_,_,_,_,_,_=>none
  |n+1,a1,a2,a3,a4,a5,a6,a7,a8,a9,a10=>(C58 n a1 a2 a3 a4 a5 a6 a7 a8 a9 a10).bind fun r11=>bif !r11 then some (⟨#[]⟩:ByteArray)else bif a1==(1:Int)then (B7y n a4).bind fun r12=>let v13:List ByteArray:=[(⟨#[105,110,115,101,114,116]⟩:ByteArray),a2,r12];(B7u n v13).bind fun r14=>some r14 else bif a1==(2:Int)then (B7y n a3).bind fun r15=>(B7y n a4).bind fun r16=>let v17:List ByteArray:=[(⟨#[117,112,100,97,116,101]⟩:ByteArray),a2,r15,(⟨#[116,111]⟩:ByteArray),r16];(B7u n v17).bind fun r18=>some r18 else bif a1==(3:Int)then (B7y n a3).bind fun r19=>let v20:List ByteArray:=[(⟨#[100,101,108,101,116,101]⟩:ByteArray),a2,r19];(B7u n v20).bind fun r21=>some r21 else bif a1==(4:Int)then bif decide ((⟨#[99,108,101,97,114,32]⟩:ByteArray).size+a2.size≤9223372036854775807)then let v22:ByteArray:=((⟨#[99,108,101,97,114,32]⟩:ByteArray)++a2);some v22 else none else (B38 n a5 a6 a7 a8 a9 a10).bind fun r23=>some r23
def B89 (n:Nat)(k0:ByteArray→Y23→Int→Int→Y23→Y10→Option ByteArray):Nat→ByteArray→Y23→Int→Int→Y6→Int→Int→Y23→Y10→ByteArray→Y18→List ByteArray→Option ByteArray
  |0,_,_,_,_,_,_,_,_,_,_,_,_=>none
  |j+1,x15,x16,x17,x18,x19,x20,x21,x22,x23,x24,x25,x26=>bif decide (x21<x20)then bif inR x21 x19.length then let v27:=(x19.getD x21.toNat []);let v28:Y18:=[];(B4h n 1 x24 ([]:Y3) v27 0 (⟨#[]⟩:ByteArray) v28 ([]:List ByteArray) (⟨#[]⟩:ByteArray) (⟨#[]⟩:ByteArray)).bind fun r29=>bif decide (x15.size+r29.size≤9223372036854775807)then bif decide ((x15++r29).size+(⟨#[10]⟩:ByteArray).size≤9223372036854775807)then B89 n k0 j ((x15++r29)++(⟨#[10]⟩:ByteArray)) x16 x17 x18 x19 x20 (IntKind.wrap .i64 (x21+(1:Int))) x22 x23 x24 x25 x26 else none else none else none else k0 x15 x16 x17 (IntKind.wrap .i64 (x18+(1:Int))) x22 x23
def B50 (n:Nat):Nat→ByteArray→Y23→Int→Int→Y23→Y10→Option ByteArray
  |0,_,_,_,_,_,_=>none
  |j+1,x4,x5,x6,x7,x8,x9=>bif decide (x7<x6)then bif inR x7 x5.length then let v10:=(x5.getD x7.toNat (⟨#[]⟩,([],[])));let v11:Y18:=[];(C45 n v10.1 v10.2.1 v10.2.2).bind fun r12=>(B38 n r12.1 r12.2.1 r12.2.2.1 r12.2.2.2.1 r12.2.2.2.2.1 r12.2.2.2.2.2).bind fun r13=>bif decide (x4.size+r13.size≤9223372036854775807)then bif decide ((x4++r13).size+(⟨#[10]⟩:ByteArray).size≤9223372036854775807)then bif inR x7 x9.length then let v14:=(x9.getD x7.toNat []);B89 n (fun y30 y31 y32 y33 y34 y35=>B50 n j y30 y31 y32 y33 y34 y35) n ((x4++r13)++(⟨#[10]⟩:ByteArray)) x5 x6 x7 v14 v14.length 0 x8 x9 v10.1 v10.2.1 v10.2.2 else none else none else none else none else some x4
def C3g:Nat→Y24→Y12→Option ByteArray
  |0,_,_=>none
  |n+1,a1,a2=>(C1j n a1 a2).bind fun r3=>bif !r3 then some (⟨#[]⟩:ByteArray)else B50 n n (⟨#[]⟩:ByteArray) a1 a1.length 0 a1 a2
def B6i (n:Nat):Nat→Y23→Int→Int→Y23→Option Bool
  |0,_,_,_,_=>none
  |j+1,x3,x4,x5,x6=>bif decide (x5<x4)then bif inR x5 x3.length then let v7:=(x3.getD x5.toNat (⟨#[]⟩,([],[])));let v8:Y18:=[];(B7m n v7.1 v7.2.1 v7.2.2).bind fun r9=>bif !r9 then some false else bif decide ((0:Int)<x5)then bif inR (IntKind.wrap .i64 (x5 - 1)) x6.length then let v10:=(x6.getD (IntKind.wrap .i64 (x5 - 1)).toNat (⟨#[]⟩,([],[])));let v11:Bool:=(!(Op.bytesLess v10.1.toList v7.1.toList));bif v11 then some false else B6i n j x3 x4 (IntKind.wrap .i64 (x5+(1:Int))) x6 else none else B6i n j x3 x4 (IntKind.wrap .i64 (x5+(1:Int))) x6 else none else some true
def C6r:Nat→Y24→Option Bool
  |0,_=>none
  |n+1,a1=>let v2:Bool:=(decide ((6:Int)<(a1.length:Int)));bif v2 then some false else B6i n n a1 a1.length 0 a1
def C0h (n:Nat):Nat→Y23→Int→Int→Y23→Y10→Option Bool
  |0,_,_,_,_,_=>none
  |j+1,x5,x6,x7,x8,x9=>bif decide (x7<x6)then bif inR x7 x5.length then let v10:=(x5.getD x7.toNat (⟨#[]⟩,([],[])));let v11:Y18:=[];bif inR x7 x9.length then let v12:=(x9.getD x7.toNat []);(C1o n v10.1 v10.2.1 v10.2.2 v12).bind fun r13=>bif !r13 then some false else C0h n j x5 x6 (IntKind.wrap .i64 (x7+(1:Int))) x8 x9 else none else none else some true
def C6e:Nat→Y24→Y12→Option Bool
  |0,_,_=>none
  |n+1,a1,a2=>(C6r n a1).bind fun r3=>bif !r3 then some false else let v4:Bool:=((a2.length:Int) !=(a1.length:Int));bif v4 then some false else C0h n n a1 a1.length 0 a1 a2
def C50:Nat→Int→ByteArray→Y19→(List ByteArray)→ByteArray→ByteArray→Option Bool
  |0,_,_,_,_,_,_=>none
  |n+1,a1,a2,a3,a4,a5,a6=>(B6j n a2).bind fun r7=>bif !r7 then some false else bif (a3.length:Int)==0 then bif a1==(1:Int)then let v8:Bool:=(a5.toList==(⟨#[]⟩:ByteArray).toList);bif v8 then let v9:Bool:=(a6.toList==(⟨#[]⟩:ByteArray).toList);bif v9 then (B7m n a2 a3 a4).bind fun r10=>some r10 else some false else some false else bif a1==(2:Int)then bif (a4.length:Int)==0 then let v11:Bool:=(a5.toList==(⟨#[]⟩:ByteArray).toList);bif v11 then let v12:Bool:=(a6.toList==(⟨#[]⟩:ByteArray).toList);some v12 else some false else some false else bif a1==(3:Int)then bif (a3.length:Int)==1 then bif inR 0 a3.length then let v13:=(a3.getD (0:Int).toNat (⟨#[]⟩,(0,(false,(false,(0,(0,⟨#[]⟩)))))));(C2w n v13.1 v13.2.1 v13.2.2.1 v13.2.2.2.1 v13.2.2.2.2.1 v13.2.2.2.2.2.1 v13.2.2.2.2.2.2).bind fun r14=>bif r14 then bif inR 0 a3.length then let v15:=(a3.getD (0:Int).toNat (⟨#[]⟩,(0,(false,(false,(0,(0,⟨#[]⟩)))))));bif v15.2.2.2.1 then bif (a4.length:Int)==0 then let v16:Bool:=(a5.toList==(⟨#[]⟩:ByteArray).toList);bif v16 then let v17:Bool:=(a6.toList==(⟨#[]⟩:ByteArray).toList);some v17 else some false else some false else bif inR 0 a3.length then let v18:=(a3.getD (0:Int).toNat (⟨#[]⟩,(0,(false,(false,(0,(0,⟨#[]⟩)))))));bif !v18.2.2.1 then bif (a4.length:Int)==0 then let v19:Bool:=(a5.toList==(⟨#[]⟩:ByteArray).toList);bif v19 then let v20:Bool:=(a6.toList==(⟨#[]⟩:ByteArray).toList);some v20 else some false else some false else some false else none else none else some false else none else some false else bif a1==(4:Int)then bif (a4.length:Int)==0 then (B6j n a5).bind fun r21=>bif r21 then let v22:Bool:=(a6.toList==(⟨#[]⟩:ByteArray).toList);some v22 else some false else some false else bif a1==(5:Int)then bif (a4.length:Int)==0 then (B6j n a5).bind fun r23=>bif r23 then (B6j n a6).bind fun r24=>some r24 else some false else some false else some false else bif a1==(1:Int)then let v25:Bool:=(a5.toList==(⟨#[]⟩:ByteArray).toList);bif v25 then let v26:Bool:=(a6.toList==(⟨#[]⟩:ByteArray).toList);bif v26 then (B7m n a2 a3 a4).bind fun r27=>some r27 else some false else some false else bif a1==(2:Int)then some false else bif a1==(3:Int)then bif (a3.length:Int)==1 then bif inR 0 a3.length then let v28:=(a3.getD (0:Int).toNat (⟨#[]⟩,(0,(false,(false,(0,(0,⟨#[]⟩)))))));(C2w n v28.1 v28.2.1 v28.2.2.1 v28.2.2.2.1 v28.2.2.2.2.1 v28.2.2.2.2.2.1 v28.2.2.2.2.2.2).bind fun r29=>bif r29 then bif inR 0 a3.length then let v30:=(a3.getD (0:Int).toNat (⟨#[]⟩,(0,(false,(false,(0,(0,⟨#[]⟩)))))));bif v30.2.2.2.1 then bif (a4.length:Int)==0 then let v31:Bool:=(a5.toList==(⟨#[]⟩:ByteArray).toList);bif v31 then let v32:Bool:=(a6.toList==(⟨#[]⟩:ByteArray).toList);some v32 else some false else some false else bif inR 0 a3.length then let v33:=(a3.getD (0:Int).toNat (⟨#[]⟩,(0,(false,(false,(0,(0,⟨#[]⟩)))))));bif !v33.2.2.1 then bif (a4.length:Int)==0 then let v34:Bool:=(a5.toList==(⟨#[]⟩:ByteArray).toList);bif v34 then let v35:Bool:=(a6.toList==(⟨#[]⟩:ByteArray).toList);some v35 else some false else some false else some false else none else none else some false else none else some false else bif a1==(4:Int)then some false else bif a1==(5:Int)then some false else some false
def C38:Nat→Option (List ByteArray)
  |0=>none
  |n+1=>let v1:List ByteArray:=[(⟨#[]⟩:ByteArray),(⟨#[98,111,111,108]⟩:ByteArray),(⟨#[105,110,116]⟩:ByteArray),(⟨#[116,101,120,116]⟩:ByteArray)];some v1
def C49:Nat→Int→Option ByteArray
  |0,_=>none
  |n+1,a1=>bif a1==(1:Int)then some (⟨#[116,114,117,101]⟩:ByteArray)else some (⟨#[102,97,108,115,101]⟩:ByteArray)
def B6a:Nat→Int→Option ByteArray
  |0,_=>none
  |n+1,a1=>(C1p n a1).bind fun r2=>bif !r2 then some (⟨#[]⟩:ByteArray)else bif decide (a1<(0:Int))then (B6a n (IntKind.wrap .i64 (0 - a1))).bind fun r3=>bif decide ((⟨#[45]⟩:ByteArray).size+r3.size≤9223372036854775807)then some ((⟨#[45]⟩:ByteArray)++r3)else none else bif decide (a1<(10:Int))then let v4:Int:=(IntKind.wrap .u8 (IntKind.wrap .i64 ((48:Int)+a1)));some (strOfNums ([v4]:List Int))else bif !decide ((10:Int)=0)then let v5:Int:=(IntKind.wrap .i64 (Int.tdiv a1 10));(B6a n v5).bind fun r6=>bif !decide ((10:Int)=0)then let v7:Int:=(IntKind.wrap .i64 ((48:Int)+(Int.tmod a1 10)));let v8:ByteArray:=(strOfNums ([(IntKind.wrap .u8 v7)]:List Int));bif decide (r6.size+v8.size≤9223372036854775807)then some (r6++v8)else none else none else none
def B5j:Nat→Int→Option Int
  |0,_=>none
  |n+1,a1=>bif !decide ((16:Int)=0)then bif inR (Int.tmod a1 16) (⟨#[48,49,50,51,52,53,54,55,56,57,97,98,99,100,101,102]⟩:ByteArray).size then let v2:Int:=(bt (⟨#[48,49,50,51,52,53,54,55,56,57,97,98,99,100,101,102]⟩:ByteArray) (Int.tmod a1 16));some v2 else none else none
def B45 (n:Nat):Nat→Int→Int→Int→ByteArray→List Int→Option ByteArray
  |0,_,_,_,_,_=>none
  |j+1,x7,x8,x9,x10,x11=>bif decide (x7<(x10.size:Int))then bif inR x7 x10.size then bif decide ((33:Int)≤(bt x10 x7))then bif decide ((bt x10 x7)≤126)then bif (bt x10 x7) !=39 then bif (bt x10 x7) !=37 then bif room (x11.length+([(bt x10 x7)]:List Int).length) 1 then B45 n j (IntKind.wrap .i64 (x7+(1:Int))) x8 x9 x10 (x11++([(bt x10 x7)]:List Int))else none else bif !decide ((16:Int)=0)then let v12:Int:=(IntKind.wrap .i64 (Int.tdiv (IntKind.wrap .i64 (bt x10 x7)) 16));(B5j n v12).bind fun r13=>bif !decide ((16:Int)=0)then let v14:Int:=(Int.tmod (IntKind.wrap .i64 (bt x10 x7)) 16);(B5j n v14).bind fun r15=>bif room (x11.length+([(37:Int),r13,r15]:List Int).length) 1 then let v16:List Int:=(x11++([(37:Int),r13,r15]:List Int));B45 n j (IntKind.wrap .i64 (x7+(1:Int))) x8 x9 x10 v16 else none else none else none else bif !decide ((16:Int)=0)then let v17:Int:=(IntKind.wrap .i64 (Int.tdiv (IntKind.wrap .i64 (bt x10 x7)) 16));(B5j n v17).bind fun r18=>bif !decide ((16:Int)=0)then let v19:Int:=(Int.tmod (IntKind.wrap .i64 (bt x10 x7)) 16);(B5j n v19).bind fun r20=>bif room (x11.length+([(37:Int),r18,r20]:List Int).length) 1 then let v21:List Int:=(x11++([(37:Int),r18,r20]:List Int));B45 n j (IntKind.wrap .i64 (x7+(1:Int))) x8 x9 x10 v21 else none else none else none else bif !decide ((16:Int)=0)then let v22:Int:=(IntKind.wrap .i64 (Int.tdiv (IntKind.wrap .i64 (bt x10 x7)) 16));(B5j n v22).bind fun r23=>bif !decide ((16:Int)=0)then let v24:Int:=(Int.tmod (IntKind.wrap .i64 (bt x10 x7)) 16);(B5j n v24).bind fun r25=>bif room (x11.length+([(37:Int),r23,r25]:List Int).length) 1 then let v26:List Int:=(x11++([(37:Int),r23,r25]:List Int));B45 n j (IntKind.wrap .i64 (x7+(1:Int))) x8 x9 x10 v26 else none else none else none else bif !decide ((16:Int)=0)then let v27:Int:=(IntKind.wrap .i64 (Int.tdiv (IntKind.wrap .i64 (bt x10 x7)) 16));(B5j n v27).bind fun r28=>bif !decide ((16:Int)=0)then let v29:Int:=(Int.tmod (IntKind.wrap .i64 (bt x10 x7)) 16);(B5j n v29).bind fun r30=>bif room (x11.length+([(37:Int),r28,r30]:List Int).length) 1 then let v31:List Int:=(x11++([(37:Int),r28,r30]:List Int));B45 n j (IntKind.wrap .i64 (x7+(1:Int))) x8 x9 x10 v31 else none else none else none else none else bif room (x11.length+([(39:Int)]:List Int).length) 1 then let v32:ByteArray:=(strOfNums (x11++([(39:Int)]:List Int)));some v32 else none
def C0k:Nat→Int→Int→ByteArray→Option ByteArray
  |0,_,_,_=>none
  |n+1,a1,a2,a3=>(B81 n a1 a2 a3).bind fun r4=>bif !r4 then some (⟨#[]⟩:ByteArray)else bif a1==(0:Int)then some (⟨#[110,117,108,108]⟩:ByteArray)else bif a1==(1:Int)then (C49 n a2).bind fun r5=>some r5 else bif a1==(2:Int)then (B6a n a2).bind fun r6=>some r6 else B45 n n 0 a1 a2 a3 ([(39:Int)]:List Int)
def C06:Nat→ByteArray→Int→Bool→Bool→Int→Int→ByteArray→Option (List ByteArray)
  |0,_,_,_,_,_,_,_=>none
  |n+1,a1,a2,a3,a4,a5,a6,a7=>(C38 n).bind fun r8=>bif inR a2 r8.length then let v9:List ByteArray:=[a1,(r8.getD a2.toNat ⟨#[]⟩)];bif a3 then let v10:List ByteArray:=[(⟨#[110,111,116]⟩:ByteArray)];bif room (v9.length+v10.length) 16 then bif a4 then (C0k n a5 a6 a7).bind fun r11=>bif decide ((⟨#[61]⟩:ByteArray).size+r11.size≤9223372036854775807)then let v12:List ByteArray:=[((⟨#[61]⟩:ByteArray)++r11)];bif room ((v9++v10).length+v12.length) 16 then some ((v9++v10)++v12)else none else none else some (v9++v10)else none else bif a4 then (C0k n a5 a6 a7).bind fun r13=>bif decide ((⟨#[61]⟩:ByteArray).size+r13.size≤9223372036854775807)then let v14:List ByteArray:=[((⟨#[61]⟩:ByteArray)++r13)];bif room (v9.length+v14.length) 16 then some (v9++v14)else none else none else some v9 else none
def B8o (n:Nat):Nat→Y18→Int→Int→Int→ByteArray→Y18→List ByteArray→ByteArray→ByteArray→List ByteArray→Option (List ByteArray)
  |0,_,_,_,_,_,_,_,_,_,_=>none
  |j+1,x9,x10,x11,x12,x13,x14,x15,x16,x17,x18=>bif decide (x11<x10)then bif inR x11 x9.length then let v19:=(x9.getD x11.toNat (⟨#[]⟩,(0,(false,(false,(0,(0,⟨#[]⟩)))))));let v20:List ByteArray:=[(⟨#[40]⟩:ByteArray)];bif room (x18.length+v20.length) 16 then (C06 n v19.1 v19.2.1 v19.2.2.1 v19.2.2.2.1 v19.2.2.2.2.1 v19.2.2.2.2.2.1 v19.2.2.2.2.2.2).bind fun r21=>bif room ((x18++v20).length+r21.length) 16 then let v22:List ByteArray:=[(⟨#[41]⟩:ByteArray)];bif room (((x18++v20)++r21).length+v22.length) 16 then B8o n j x9 x10 (IntKind.wrap .i64 (x11+(1:Int))) x12 x13 x14 x15 x16 x17 (((x18++v20)++r21)++v22)else none else none else none else none else let v23:List ByteArray:=[(⟨#[107,101,121]⟩:ByteArray)];bif room (x18.length+v23.length) 16 then bif room ((x18++v23).length+x15.length) 16 then some ((x18++v23)++x15)else none else none
def C07:Nat→Int→ByteArray→Y19→(List ByteArray)→ByteArray→ByteArray→Option (List ByteArray)
  |0,_,_,_,_,_,_=>none
  |n+1,a1,a2,a3,a4,a5,a6=>let v7:List ByteArray:=[(⟨#[]⟩:ByteArray),(⟨#[99,114,101,97,116,101]⟩:ByteArray),(⟨#[100,114,111,112]⟩:ByteArray),(⟨#[97,100,100]⟩:ByteArray),(⟨#[111,117,116]⟩:ByteArray),(⟨#[110,97,109,101]⟩:ByteArray)];bif inR a1 v7.length then let v8:List ByteArray:=[(v7.getD a1.toNat ⟨#[]⟩),a2];bif a1==(1:Int)then B8o n n a3 a3.length 0 a1 a2 a3 a4 a5 a6 v8 else bif a1==(3:Int)then bif inR 0 a3.length then let v24:=(a3.getD (0:Int).toNat (⟨#[]⟩,(0,(false,(false,(0,(0,⟨#[]⟩)))))));(C06 n v24.1 v24.2.1 v24.2.2.1 v24.2.2.2.1 v24.2.2.2.2.1 v24.2.2.2.2.2.1 v24.2.2.2.2.2.2).bind fun r25=>bif room (v8.length+r25.length) 16 then some (v8++r25)else none else none else bif a1==(4:Int)then bif room (v8.length+([a5]:List ByteArray).length) 16 then some (v8++([a5]:List ByteArray))else none else bif a1==(5:Int)then bif room (v8.length+([a5,a6]:List ByteArray).length) 16 then some (v8++([a5,a6]:List ByteArray))else none else some v8 else none
def B62 (n:Nat):Nat→ByteArray→List ByteArray→Int→Int→Option ByteArray
  |0,_,_,_,_=>none
  |j+1,x2,x3,x4,x5=>bif decide (x5<x4)then bif inR x5 x3.length then bif decide ((0:Int)<x5)then bif decide (x2.size+(⟨#[32]⟩:ByteArray).size≤9223372036854775807)then bif decide ((x2++(⟨#[32]⟩:ByteArray)).size+(x3.getD x5.toNat ⟨#[]⟩).size≤9223372036854775807)then let v6:ByteArray:=((x2++(⟨#[32]⟩:ByteArray))++(x3.getD x5.toNat ⟨#[]⟩));B62 n j v6 x3 x4 (IntKind.wrap .i64 (x5+(1:Int)))else none else none else bif decide (x2.size+(x3.getD x5.toNat ⟨#[]⟩).size≤9223372036854775807)then let v7:ByteArray:=(x2++(x3.getD x5.toNat ⟨#[]⟩));B62 n j v7 x3 x4 (IntKind.wrap .i64 (x5+(1:Int)))else none else none else some x2
def C0o:Nat→(List ByteArray)→Option ByteArray
  |0,_=>none
  |n+1,a1=>B62 n n (⟨#[]⟩:ByteArray) a1 a1.length 0
def C0i:Nat→Int→ByteArray→Y19→(List ByteArray)→ByteArray→ByteArray→Option ByteArray
  |0,_,_,_,_,_,_=>none
  |n+1,a1,a2,a3,a4,a5,a6=>(C50 n a1 a2 a3 a4 a5 a6).bind fun r7=>bif !r7 then some (⟨#[]⟩:ByteArray)else (C07 n a1 a2 a3 a4 a5 a6).bind fun r8=>(C0o n r8).bind fun r9=>some r9
def B7g (n:Nat):Nat→Y3→Y3→Int→Int→Option Bool
  |0,_,_,_,_=>none
  |j+1,x2,x3,x4,x5=>bif decide (x5<x4)then bif inR x5 x3.length then let v6:=(x3.getD x5.toNat (0,(0,⟨#[]⟩)));(B81 n v6.1 v6.2.1 v6.2.2).bind fun r7=>bif !r7 then some false else B7g n j x2 x3 x4 (IntKind.wrap .i64 (x5+(1:Int)))else none else let v8:Bool:=(decide ((1:Int)≤(x2.length:Int)));bif v8 then let v9:Bool:=(decide ((x2.length:Int)≤8));some v9 else some false
def B8z:Nat→Y4→Option Bool
  |0,_=>none
  |n+1,a1=>B7g n n a1 a1 a1.length 0
def B82:Nat→Int→ByteArray→Y19→(List ByteArray)→ByteArray→ByteArray→Option Bool
  |0,_,_,_,_,_,_=>none
  |n+1,a1,a2,a3,a4,a5,a6=>bif a1==(0:Int)then let v7:Bool:=(a2.toList==(⟨#[]⟩:ByteArray).toList);bif v7 then bif (a3.length:Int)==0 then bif (a4.length:Int)==0 then let v8:Bool:=(a5.toList==(⟨#[]⟩:ByteArray).toList);bif v8 then let v9:Bool:=(a6.toList==(⟨#[]⟩:ByteArray).toList);some v9 else some false else some false else some false else some false else some false
def C5h:Nat→Int→ByteArray→Y4→Y4→Int→ByteArray→Y19→(List ByteArray)→ByteArray→ByteArray→Option Bool
  |0,_,_,_,_,_,_,_,_,_,_=>none
  |n+1,a1,a2,a3,a4,a5,a6,a7,a8,a9,a10=>(B6j n a2).bind fun r11=>bif !r11 then some false else bif a1==(1:Int)then bif (a3.length:Int)==0 then (B8z n a4).bind fun r12=>bif r12 then (B82 n a5 a6 a7 a8 a9 a10).bind fun r13=>some r13 else some false else some false else bif a1==(2:Int)then (B8z n a3).bind fun r14=>bif r14 then (B8z n a4).bind fun r15=>bif r15 then (B82 n a5 a6 a7 a8 a9 a10).bind fun r16=>some r16 else some false else some false else bif a1==(3:Int)then (B8z n a3).bind fun r17=>bif r17 then bif (a4.length:Int)==0 then (B82 n a5 a6 a7 a8 a9 a10).bind fun r18=>some r18 else some false else some false else bif a1==(4:Int)then bif (a3.length:Int)==0 then bif (a4.length:Int)==0 then (B82 n a5 a6 a7 a8 a9 a10).bind fun r19=>some r19 else some false else some false else bif a1==(5:Int)then bif (a3.length:Int)==0 then bif (a4.length:Int)==0 then (C50 n a5 a6 a7 a8 a9 a10).bind fun r20=>bif r20 then some (a6.toList==a2.toList)else some false else some false else some false else some false
def B7h (n:Nat):Nat→Y3→Int→Int→List ByteArray→Option (List ByteArray)
  |0,_,_,_,_=>none
  |j+1,x2,x3,x4,x5=>bif decide (x4<x3)then bif inR x4 x2.length then let v6:=(x2.getD x4.toNat (0,(0,⟨#[]⟩)));(C0k n v6.1 v6.2.1 v6.2.2).bind fun r7=>bif room (x5.length+([r7]:List ByteArray).length) 16 then B7h n j x2 x3 (IntKind.wrap .i64 (x4+(1:Int))) (x5++([r7]:List ByteArray))else none else none else some x5
def B90:Nat→Y4→Option (List ByteArray)
  |0,_=>none
  |n+1,a1=>B7h n n a1 a1.length 0 ([]:List ByteArray)
def C0z:Nat→Int→ByteArray→Y4→Y4→Int→ByteArray→Y19→(List ByteArray)→ByteArray→ByteArray→Option ByteArray
  |0,_,_,_,_,_,_,_,_,_,_=>none
  |n+1,a1,a2,a3,a4,a5,a6,a7,a8,a9,a10=>(C5h n a1 a2 a3 a4 a5 a6 a7 a8 a9 a10).bind fun r11=>bif !r11 then some (⟨#[]⟩:ByteArray)else bif a1==(1:Int)then let v12:List ByteArray:=[(⟨#[105,110,115,101,114,116]⟩:ByteArray),a2];(B90 n a4).bind fun r13=>bif room (v12.length+r13.length) 16 then (C0o n (v12++r13)).bind fun r14=>some r14 else none else bif a1==(2:Int)then let v15:List ByteArray:=[(⟨#[117,112,100,97,116,101]⟩:ByteArray),a2];(B90 n a3).bind fun r16=>bif room (v15.length+r16.length) 16 then let v17:List ByteArray:=[(⟨#[116,111]⟩:ByteArray)];bif room ((v15++r16).length+v17.length) 16 then (B90 n a4).bind fun r18=>bif room (((v15++r16)++v17).length+r18.length) 16 then (C0o n (((v15++r16)++v17)++r18)).bind fun r19=>some r19 else none else none else none else bif a1==(3:Int)then let v20:List ByteArray:=[(⟨#[100,101,108,101,116,101]⟩:ByteArray),a2];(B90 n a3).bind fun r21=>bif room (v20.length+r21.length) 16 then (C0o n (v20++r21)).bind fun r22=>some r22 else none else bif a1==(4:Int)then bif decide ((⟨#[99,108,101,97,114,32]⟩:ByteArray).size+a2.size≤9223372036854775807)then let v23:ByteArray:=((⟨#[99,108,101,97,114,32]⟩:ByteArray)++a2);some v23 else none else (C0i n a5 a6 a7 a8 a9 a10).bind fun r24=>some r24
def B8j (n:Nat)(k0:ByteArray→Y23→Int→Int→Y23→Y10→Option ByteArray):Nat→ByteArray→Y23→Int→Int→Y6→Int→Int→Y23→Y10→ByteArray→Y18→List ByteArray→Option ByteArray
  |0,_,_,_,_,_,_,_,_,_,_,_,_=>none
  |j+1,x14,x15,x16,x17,x18,x19,x20,x21,x22,x23,x24,x25=>bif decide (x20<x19)then bif inR x20 x18.length then let v26:=(x18.getD x20.toNat []);let v27:Y18:=[];(C0z n 1 x23 ([]:Y3) v26 0 (⟨#[]⟩:ByteArray) v27 ([]:List ByteArray) (⟨#[]⟩:ByteArray) (⟨#[]⟩:ByteArray)).bind fun r28=>bif decide (x14.size+r28.size≤9223372036854775807)then bif decide ((x14++r28).size+(⟨#[10]⟩:ByteArray).size≤9223372036854775807)then B8j n k0 j ((x14++r28)++(⟨#[10]⟩:ByteArray)) x15 x16 x17 x18 x19 (IntKind.wrap .i64 (x20+(1:Int))) x21 x22 x23 x24 x25 else none else none else none else k0 x14 x15 x16 (IntKind.wrap .i64 (x17+(1:Int))) x21 x22
def B53 (n:Nat):Nat→ByteArray→Y23→Int→Int→Y23→Y10→Option ByteArray
  |0,_,_,_,_,_,_=>none
  |j+1,x4,x5,x6,x7,x8,x9=>bif decide (x7<x6)then bif inR x7 x5.length then let v10:=(x5.getD x7.toNat (⟨#[]⟩,([],[])));let v11:Y18:=[];(C0i n 1 v10.1 v10.2.1 v10.2.2 (⟨#[]⟩:ByteArray) (⟨#[]⟩:ByteArray)).bind fun r12=>bif decide (x4.size+r12.size≤9223372036854775807)then bif decide ((x4++r12).size+(⟨#[10]⟩:ByteArray).size≤9223372036854775807)then bif inR x7 x9.length then let v13:=(x9.getD x7.toNat []);B8j n (fun y29 y30 y31 y32 y33 y34=>B53 n j y29 y30 y31 y32 y33 y34) n ((x4++r12)++(⟨#[10]⟩:ByteArray)) x5 x6 x7 v13 v13.length 0 x8 x9 v10.1 v10.2.1 v10.2.2 else none else none else none else none else some x4
def C5f:Nat→Y24→Y12→Option ByteArray
  |0,_,_=>none
  |n+1,a1,a2=>(C6e n a1 a2).bind fun r3=>bif !r3 then some (⟨#[]⟩:ByteArray)else B53 n n (⟨#[]⟩:ByteArray) a1 a1.length 0 a1 a2
def B9u (n:Nat):Nat→ByteArray→Int→Int→Int→List ByteArray→Option (List ByteArray)
  |0,_,_,_,_,_=>none
  |j+1,x3,x4,x5,x6,x7=>bif decide (x6<(x3.size:Int))then bif inR x6 x3.size then bif (bt x3 x6)==x4 then bif decide (0≤x5∧x5≤x6∧x6≤(x3.size:Int))then let v8:List ByteArray:=[(x3.extract x5.toNat x6.toNat)];bif room (x7.length+v8.length) 16 then B9u n j x3 x4 (IntKind.wrap .i64 (x6+(1:Int))) (IntKind.wrap .i64 (x6+(1:Int))) (x7++v8)else none else none else B9u n j x3 x4 x5 (IntKind.wrap .i64 (x6+(1:Int))) x7 else none else bif decide (0≤x5∧x5≤((x3.size:Nat):Int)∧((x3.size:Nat):Int)≤(x3.size:Int))then let v9:ByteArray:=(x3.extract x5.toNat ((x3.size:Nat):Int).toNat);bif room (x7.length+([v9]:List ByteArray).length) 16 then some (x7++([v9]:List ByteArray))else none else none
def C8t:Nat→ByteArray→Int→Option (List ByteArray)
  |0,_,_=>none
  |n+1,a1,a2=>B9u n n a1 a2 0 0 ([]:List ByteArray)
def C4t:Nat→ByteArray→Option (List ByteArray)
  |0,_=>none
  |n+1,a1=>(C8t n a1 32).bind fun r2=>some r2
def B2c (n:Nat):Nat→List ByteArray→ByteArray→Int→Int→Option Int
  |0,_,_,_,_=>none
  |j+1,x3,x4,x5,x6=>bif decide (x6<x5)then bif inR x6 x3.length then let v7:Bool:=(x4.toList==(x3.getD x6.toNat ⟨#[]⟩).toList);bif v7 then some x6 else B2c n j x3 x4 x5 (IntKind.wrap .i64 (x6+(1:Int)))else none else some (-1:Int)
def B2k:Nat→(List ByteArray)→ByteArray→Option Int
  |0,_,_=>none
  |n+1,a1,a2=>B2c n n a1 a2 a1.length 0
def B8h (n:Nat):Nat→Int→Int→Option Int
  |0,_,_=>none
  |j+1,x2,x3=>bif decide (x3<(16:Int))then bif inR x3 (⟨#[48,49,50,51,52,53,54,55,56,57,97,98,99,100,101,102]⟩:ByteArray).size then let v4:Int:=(bt (⟨#[48,49,50,51,52,53,54,55,56,57,97,98,99,100,101,102]⟩:ByteArray) x3);bif v4==x2 then some x3 else B8h n j x2 (IntKind.wrap .i64 (x3+(1:Int)))else none else some (-1:Int)
def C3k:Nat→Int→Option Int
  |0,_=>none
  |n+1,a1=>B8h n n a1 0
def B5h (n:Nat):Nat→ByteArray→Int→List Int→Option (ByteArray×(Bool×Unit))
  |0,_,_,_=>none
  |j+1,x2,x3,x4=>bif decide (x3<(x2.size:Int))then bif inR x3 x2.size then bif (bt x2 x3) !=37 then bif inR x3 x2.size then bif room (x4.length+([(bt x2 x3)]:List Int).length) 1 then B5h n j x2 (IntKind.wrap .i64 (x3+(1:Int))) (x4++([(bt x2 x3)]:List Int))else none else none else let v5:Bool:=(decide ((x2.size:Int)≤(IntKind.wrap .i64 (x3+(2:Int)))));bif v5 then some ((⟨#[]⟩:ByteArray),(false,()))else bif inR (IntKind.wrap .i64 (x3+(1:Int))) x2.size then let v6:Int:=(bt x2 (IntKind.wrap .i64 (x3+(1:Int))));(C3k n v6).bind fun r7=>bif inR (IntKind.wrap .i64 (x3+(2:Int))) x2.size then let v8:Int:=(bt x2 (IntKind.wrap .i64 (x3+(2:Int))));(C3k n v8).bind fun r9=>bif decide (r7<(0:Int))then some ((⟨#[]⟩:ByteArray),(false,()))else bif decide (r9<(0:Int))then some ((⟨#[]⟩:ByteArray),(false,()))else let v10:Int:=(IntKind.wrap .i64 ((IntKind.wrap .i64 ((16:Int)*r7))+r9));bif room (x4.length+([(IntKind.wrap .u8 v10)]:List Int).length) 1 then let v11:List Int:=(x4++([(IntKind.wrap .u8 v10)]:List Int));let v12:Int:=(IntKind.wrap .i64 ((IntKind.wrap .i64 (x3+(2:Int)))+1));B5h n j x2 v12 v11 else none else none else none else none else some ((strOfNums x4),(true,()))
def C5b:Nat→ByteArray→Option (ByteArray×(Bool×Unit))
  |0,_=>none
  |n+1,a1=>B5h n n a1 0 ([]:List Int)
def B55 (n:Nat):Nat→ByteArray→Int→Int→Int→Option (Int×(Bool×Unit))
  |0,_,_,_,_=>none
  |j+1,x4,x5,x6,x7=>bif decide (x7<(x4.size:Int))then bif inR x7 x4.size then bif decide ((bt x4 x7)<48)then some ((0:Int),(false,()))else bif inR x7 x4.size then bif decide ((57:Int)<(bt x4 x7))then some ((0:Int),(false,()))else bif inR x7 x4.size then let v8:Int:=(IntKind.wrap .u8 ((bt x4 x7) - 48));let v9:Int:=(IntKind.wrap .i64 ((IntKind.wrap .i64 ((10:Int)*x6))+(IntKind.wrap .i64 v8)));B55 n j x4 x5 v9 (IntKind.wrap .i64 (x7+(1:Int)))else none else none else none else bif x5==(1:Int)then (B51 n (IntKind.wrap .i64 (0 - x6))).bind fun r10=>bif !(r10.toList==x4.toList)then some ((0:Int),(false,()))else some ((IntKind.wrap .i64 (0 - x6)),(true,()))else (B51 n x6).bind fun r11=>bif !(r11.toList==x4.toList)then some ((0:Int),(false,()))else some (x6,(true,()))
def B8u:Nat→ByteArray→Option (Int×(Bool×Unit))
  |0,_=>none
  |n+1,a1=>bif decide ((0:Int)<(a1.size:Int))then bif inR 0 a1.size then bif (bt a1 0)==45 then let v2:Int:=(IntKind.wrap .i64 ((a1.size:Int) - 1));(B4n n v2 1 13).bind fun r3=>bif !r3 then some ((0:Int),(false,()))else B55 n n a1 1 0 1 else let v12:Int:=(IntKind.wrap .i64 ((a1.size:Int) - 0));(B4n n v12 1 13).bind fun r13=>bif !r13 then some ((0:Int),(false,()))else B55 n n a1 0 0 0 else none else let v14:Int:=(IntKind.wrap .i64 ((a1.size:Int) - 0));(B4n n v14 1 13).bind fun r15=>bif !r15 then some ((0:Int),(false,()))else B55 n n a1 0 0 0
def B8v:Nat→ByteArray→Option (Y1×(Bool×Unit))
  |0,_=>none
  |n+1,a1=>let v2:Bool:=(a1.toList==(⟨#[110,117,108,108]⟩:ByteArray).toList);bif v2 then let v3:Bool:=(a1.toList==(⟨#[]⟩:ByteArray).toList);bif v3 then some (((0:Int),((0:Int),(⟨#[]⟩:ByteArray))),(false,()))else (B3u n 0 0 (⟨#[]⟩:ByteArray)).bind fun r4=>bif !(r4.toList==a1.toList)then some (((0:Int),((0:Int),(⟨#[]⟩:ByteArray))),(false,()))else some (((0:Int),((0:Int),(⟨#[]⟩:ByteArray))),(true,()))else let v5:Bool:=(a1.toList==(⟨#[116,114,117,101]⟩:ByteArray).toList);bif v5 then let v6:Bool:=(a1.toList==(⟨#[116,114,117,101]⟩:ByteArray).toList);bif v6 then let v7:Bool:=(a1.toList==(⟨#[]⟩:ByteArray).toList);bif v7 then some (((0:Int),((0:Int),(⟨#[]⟩:ByteArray))),(false,()))else (B3u n 1 1 (⟨#[]⟩:ByteArray)).bind fun r8=>bif !(r8.toList==a1.toList)then some (((0:Int),((0:Int),(⟨#[]⟩:ByteArray))),(false,()))else some (((1:Int),((1:Int),(⟨#[]⟩:ByteArray))),(true,()))else let v9:Bool:=(a1.toList==(⟨#[]⟩:ByteArray).toList);bif v9 then some (((0:Int),((0:Int),(⟨#[]⟩:ByteArray))),(false,()))else (B3u n 1 0 (⟨#[]⟩:ByteArray)).bind fun r10=>bif !(r10.toList==a1.toList)then some (((0:Int),((0:Int),(⟨#[]⟩:ByteArray))),(false,()))else some (((1:Int),((0:Int),(⟨#[]⟩:ByteArray))),(true,()))else let v11:Bool:=(a1.toList==(⟨#[102,97,108,115,101]⟩:ByteArray).toList);bif v11 then let v12:Bool:=(a1.toList==(⟨#[116,114,117,101]⟩:ByteArray).toList);bif v12 then let v13:Bool:=(a1.toList==(⟨#[]⟩:ByteArray).toList);bif v13 then some (((0:Int),((0:Int),(⟨#[]⟩:ByteArray))),(false,()))else (B3u n 1 1 (⟨#[]⟩:ByteArray)).bind fun r14=>bif !(r14.toList==a1.toList)then some (((0:Int),((0:Int),(⟨#[]⟩:ByteArray))),(false,()))else some (((1:Int),((1:Int),(⟨#[]⟩:ByteArray))),(true,()))else let v15:Bool:=(a1.toList==(⟨#[]⟩:ByteArray).toList);bif v15 then some (((0:Int),((0:Int),(⟨#[]⟩:ByteArray))),(false,()))else (B3u n 1 0 (⟨#[]⟩:ByteArray)).bind fun r16=>bif !(r16.toList==a1.toList)then some (((0:Int),((0:Int),(⟨#[]⟩:ByteArray))),(false,()))else some (((1:Int),((0:Int),(⟨#[]⟩:ByteArray))),(true,()))else bif decide ((1:Int)<(a1.size:Int))then bif inR 0 a1.size then bif (bt a1 0)==39 then let v17:Int:=(IntKind.wrap .i64 ((a1.size:Int) - 1));bif inR v17 a1.size then bif (bt a1 v17)==39 then let v18:Int:=(IntKind.wrap .i64 ((a1.size:Int) - 1));bif decide (0≤(1:Int)∧(1:Int)≤v18∧v18≤(a1.size:Int))then (C5b n (a1.extract (1:Int).toNat v18.toNat)).bind fun r19=>bif !r19.2.1 then some (((0:Int),((0:Int),(⟨#[]⟩:ByteArray))),(false,()))else let v20:Bool:=(a1.toList==(⟨#[]⟩:ByteArray).toList);bif v20 then some (((0:Int),((0:Int),(⟨#[]⟩:ByteArray))),(false,()))else (B3u n 3 0 r19.1).bind fun r21=>bif !(r21.toList==a1.toList)then some (((0:Int),((0:Int),(⟨#[]⟩:ByteArray))),(false,()))else some (((3:Int),((0:Int),r19.1)),(true,()))else none else (B8u n a1).bind fun r22=>let v23:Bool:=(a1.toList==(⟨#[]⟩:ByteArray).toList);bif v23 then some (((0:Int),((0:Int),(⟨#[]⟩:ByteArray))),(false,()))else (B3u n 2 r22.1 (⟨#[]⟩:ByteArray)).bind fun r24=>bif !(r24.toList==a1.toList)then some (((0:Int),((0:Int),(⟨#[]⟩:ByteArray))),(false,()))else some (((2:Int),(r22.1,(⟨#[]⟩:ByteArray))),(true,()))else none else (B8u n a1).bind fun r25=>let v26:Bool:=(a1.toList==(⟨#[]⟩:ByteArray).toList);bif v26 then some (((0:Int),((0:Int),(⟨#[]⟩:ByteArray))),(false,()))else (B3u n 2 r25.1 (⟨#[]⟩:ByteArray)).bind fun r27=>bif !(r27.toList==a1.toList)then some (((0:Int),((0:Int),(⟨#[]⟩:ByteArray))),(false,()))else some (((2:Int),(r25.1,(⟨#[]⟩:ByteArray))),(true,()))else none else (B8u n a1).bind fun r28=>let v29:Bool:=(a1.toList==(⟨#[]⟩:ByteArray).toList);bif v29 then some (((0:Int),((0:Int),(⟨#[]⟩:ByteArray))),(false,()))else (B3u n 2 r28.1 (⟨#[]⟩:ByteArray)).bind fun r30=>bif !(r30.toList==a1.toList)then some (((0:Int),((0:Int),(⟨#[]⟩:ByteArray))),(false,()))else some (((2:Int),(r28.1,(⟨#[]⟩:ByteArray))),(true,()))
def B4j (n:Nat):Nat→List ByteArray→Int→Int→ByteArray→Int→Bool→Bool→Int→Int→ByteArray→ByteArray→Int→Bool→Bool→Int→Int→ByteArray→Option Y16
  |0,_,_,_,_,_,_,_,_,_,_,_,_,_,_,_,_,_=>none
  |j+1,x8,x9,x10,x11,x12,x13,x14,x15,x16,x17,x18,x19,x20,x21,x22,x23,x24=>bif decide (x10<x9)then bif inR x10 x8.length then let v25:Bool:=((x8.getD x10.toNat ⟨#[]⟩).toList==(⟨#[110,111,116]⟩:ByteArray).toList);bif v25 then let v26:Int:=((x8.getD x10.toNat ⟨#[]⟩).size:Int);bif decide ((0:Int)<v26)then bif inR 0 (x8.getD x10.toNat ⟨#[]⟩).size then let v27:Int:=(bt (x8.getD x10.toNat ⟨#[]⟩) 0);bif v27==(61:Int)then bif decide (0≤(1:Int)∧(1:Int)≤(((x8.getD x10.toNat ⟨#[]⟩).size:Nat):Int)∧(((x8.getD x10.toNat ⟨#[]⟩).size:Nat):Int)≤((x8.getD x10.toNat ⟨#[]⟩).size:Int))then let v28:ByteArray:=((x8.getD x10.toNat ⟨#[]⟩).extract (1:Int).toNat (((x8.getD x10.toNat ⟨#[]⟩).size:Nat):Int).toNat);(B8v n v28).bind fun r29=>B4j n j x8 x9 (IntKind.wrap .i64 (x10+(1:Int))) x11 x12 x13 x14 x15 x16 x17 x18 x19 true true r29.1.1 r29.1.2.1 r29.1.2.2 else none else B4j n j x8 x9 (IntKind.wrap .i64 (x10+(1:Int))) x11 x12 x13 x14 x15 x16 x17 x18 x19 true x21 x22 x23 x24 else none else B4j n j x8 x9 (IntKind.wrap .i64 (x10+(1:Int))) x11 x12 x13 x14 x15 x16 x17 x18 x19 true x21 x22 x23 x24 else let v30:Int:=((x8.getD x10.toNat ⟨#[]⟩).size:Int);bif decide ((0:Int)<v30)then bif inR 0 (x8.getD x10.toNat ⟨#[]⟩).size then let v31:Int:=(bt (x8.getD x10.toNat ⟨#[]⟩) 0);bif v31==(61:Int)then bif decide (0≤(1:Int)∧(1:Int)≤(((x8.getD x10.toNat ⟨#[]⟩).size:Nat):Int)∧(((x8.getD x10.toNat ⟨#[]⟩).size:Nat):Int)≤((x8.getD x10.toNat ⟨#[]⟩).size:Int))then let v32:ByteArray:=((x8.getD x10.toNat ⟨#[]⟩).extract (1:Int).toNat (((x8.getD x10.toNat ⟨#[]⟩).size:Nat):Int).toNat);(B8v n v32).bind fun r33=>B4j n j x8 x9 (IntKind.wrap .i64 (x10+(1:Int))) x11 x12 x13 x14 x15 x16 x17 x18 x19 x20 true r33.1.1 r33.1.2.1 r33.1.2.2 else none else B4j n j x8 x9 (IntKind.wrap .i64 (x10+(1:Int))) x11 x12 x13 x14 x15 x16 x17 x18 x19 x20 x21 x22 x23 x24 else none else B4j n j x8 x9 (IntKind.wrap .i64 (x10+(1:Int))) x11 x12 x13 x14 x15 x16 x17 x18 x19 x20 x21 x22 x23 x24 else none else some (x18,(x19,(x20,(x21,(x22,(x23,x24))))))
def C4u:Nat→(List ByteArray)→Option Y16
  |0,_=>none
  |n+1,a1=>let v2:Bool:=(decide ((a1.length:Int)<2));bif v2 then some ((⟨#[]⟩:ByteArray),((0:Int),(false,(false,((0:Int),((0:Int),(⟨#[]⟩:ByteArray)))))))else bif inR 0 a1.length then let v3:ByteArray:=(a1.getD (0:Int).toNat ⟨#[]⟩);let v4:List ByteArray:=[(⟨#[]⟩:ByteArray),(⟨#[98,111,111,108]⟩:ByteArray),(⟨#[105,110,116]⟩:ByteArray),(⟨#[116,101,120,116]⟩:ByteArray)];bif inR 1 a1.length then let v5:ByteArray:=(a1.getD (1:Int).toNat ⟨#[]⟩);(B2k n v4 v5).bind fun r6=>bif decide (0≤(2:Int)∧(2:Int)≤((a1.length:Nat):Int)∧((a1.length:Nat):Int)≤(a1.length:Int))then let v7:=((a1.take ((a1.length:Nat):Int).toNat).drop (2:Int).toNat);B4j n n v7 v7.length 0 (⟨#[]⟩:ByteArray) 0 false false 0 0 (⟨#[]⟩:ByteArray) v3 r6 false false 0 0 (⟨#[]⟩:ByteArray)else none else none else none
def B8g (n:Nat):Nat→List ByteArray→Int→ByteArray→ByteArray→ByteArray→Y18→List ByteArray→Option (Y27×Unit)
  |0,_,_,_,_,_,_,_=>none
  |j+1,x8,x9,x10,x11,x12,x13,x14=>let v15:Bool:=(decide ((0:Int)<(x8.length:Int)));bif v15 then bif inR 0 x8.length then let v16:ByteArray:=(x8.getD (0:Int).toNat ⟨#[]⟩);let v17:Bool:=(v16.toList==(⟨#[40]⟩:ByteArray).toList);bif v17 then (B2k n x8 (⟨#[41]⟩:ByteArray)).bind fun r18=>bif decide (r18<(0:Int))then some ((x9,(x10,(x13,(x14,(x11,x12))))),())else bif decide (0≤(1:Int)∧(1:Int)≤r18∧r18≤(x8.length:Int))then let v19:=((x8.take r18.toNat).drop (1:Int).toNat);(C4u n v19).bind fun r20=>let v21:Y18:=[(r20.1,(r20.2.1,(r20.2.2.1,(r20.2.2.2.1,(r20.2.2.2.2.1,(r20.2.2.2.2.2.1,r20.2.2.2.2.2.2))))))];bif room (x13.length+v21.length) 64 then bif decide (0≤(IntKind.wrap .i64 (r18+(1:Int)))∧(IntKind.wrap .i64 (r18+(1:Int)))≤((x8.length:Nat):Int)∧((x8.length:Nat):Int)≤(x8.length:Int))then let v22:=((x8.take ((x8.length:Nat):Int).toNat).drop (IntKind.wrap .i64 (r18+(1:Int))).toNat);B8g n j v22 x9 x10 x11 x12 (x13++v21) x14 else none else none else none else let v23:Bool:=(decide ((0:Int)<(x8.length:Int)));bif v23 then bif decide (0≤(1:Int)∧(1:Int)≤((x8.length:Nat):Int)∧((x8.length:Nat):Int)≤(x8.length:Int))then let v24:=((x8.take ((x8.length:Nat):Int).toNat).drop (1:Int).toNat);(B8f n v24).bind fun r25=>some ((x9,(x10,(x13,(r25,(x11,x12))))),())else none else some ((x9,(x10,(x13,(x14,(x11,x12))))),())else none else let v26:Bool:=(decide ((0:Int)<(x8.length:Int)));bif v26 then bif decide (0≤(1:Int)∧(1:Int)≤((x8.length:Nat):Int)∧((x8.length:Nat):Int)≤(x8.length:Int))then let v27:=((x8.take ((x8.length:Nat):Int).toNat).drop (1:Int).toNat);(B8f n v27).bind fun r28=>some ((x9,(x10,(x13,(r28,(x11,x12))))),())else none else some ((x9,(x10,(x13,(x14,(x11,x12))))),())
def C36:Nat→Int→ByteArray→Y19→(List ByteArray)→ByteArray→ByteArray→(List ByteArray)→Option (Y27×Unit)
  |0,_,_,_,_,_,_,_=>none
  |n+1,a1,a2,a3,a4,a5,a6,a7=>B8g n n a7 a1 a2 a5 a6 a3 a4
def C44:Nat→ByteArray→Option (Y27×(Bool×Unit))
  |0,_=>none
  |n+1,a1=>let v2:Y18:=[];(C4t n a1).bind fun r3=>let v4:Bool:=(decide ((r3.length:Int)<2));bif v4 then let v5:Y18:=[];some (((0:Int),((⟨#[]⟩:ByteArray),(v5,(([]:List ByteArray),((⟨#[]⟩:ByteArray),(⟨#[]⟩:ByteArray)))))),(false,()))else bif inR 1 r3.length then let v6:ByteArray:=(r3.getD (1:Int).toNat ⟨#[]⟩);let v7:Y18:=[];let v8:Y18:=[];bif inR 0 r3.length then let v9:ByteArray:=(r3.getD (0:Int).toNat ⟨#[]⟩);let v10:Bool:=(v9.toList==(⟨#[99,114,101,97,116,101]⟩:ByteArray).toList);bif v10 then bif decide (0≤(2:Int)∧(2:Int)≤((r3.length:Nat):Int)∧((r3.length:Nat):Int)≤(r3.length:Int))then (C36 n 1 v6 v7 ([]:List ByteArray) (⟨#[]⟩:ByteArray) (⟨#[]⟩:ByteArray) ((r3.drop (2:Int).toNat).take (((r3.length:Nat):Int).toNat - (2:Int).toNat))).bind fun r11=>(B38 n r11.1.1 r11.1.2.1 r11.1.2.2.1 r11.1.2.2.2.1 r11.1.2.2.2.2.1 r11.1.2.2.2.2.2).bind fun r12=>bif !(r12.toList==a1.toList)then let v13:Y18:=[];some (((0:Int),((⟨#[]⟩:ByteArray),(v13,(([]:List ByteArray),((⟨#[]⟩:ByteArray),(⟨#[]⟩:ByteArray)))))),(false,()))else some ((r11.1.1,(r11.1.2.1,(r11.1.2.2.1,(r11.1.2.2.2.1,(r11.1.2.2.2.2.1,r11.1.2.2.2.2.2))))),(true,()))else none else bif inR 0 r3.length then let v14:ByteArray:=(r3.getD (0:Int).toNat ⟨#[]⟩);let v15:Bool:=(v14.toList==(⟨#[100,114,111,112]⟩:ByteArray).toList);bif v15 then (B38 n 2 v6 v7 ([]:List ByteArray) (⟨#[]⟩:ByteArray) (⟨#[]⟩:ByteArray)).bind fun r16=>bif !(r16.toList==a1.toList)then let v17:Y18:=[];some (((0:Int),((⟨#[]⟩:ByteArray),(v17,(([]:List ByteArray),((⟨#[]⟩:ByteArray),(⟨#[]⟩:ByteArray)))))),(false,()))else some (((2:Int),(v6,(v7,(([]:List ByteArray),((⟨#[]⟩:ByteArray),(⟨#[]⟩:ByteArray)))))),(true,()))else bif inR 0 r3.length then let v18:ByteArray:=(r3.getD (0:Int).toNat ⟨#[]⟩);let v19:Bool:=(v18.toList==(⟨#[97,100,100]⟩:ByteArray).toList);bif v19 then bif decide (0≤(2:Int)∧(2:Int)≤((r3.length:Nat):Int)∧((r3.length:Nat):Int)≤(r3.length:Int))then (C4u n ((r3.drop (2:Int).toNat).take (((r3.length:Nat):Int).toNat - (2:Int).toNat))).bind fun r20=>let v21:Y18:=[(r20.1,(r20.2.1,(r20.2.2.1,(r20.2.2.2.1,(r20.2.2.2.2.1,(r20.2.2.2.2.2.1,r20.2.2.2.2.2.2))))))];(B38 n 3 v6 v21 ([]:List ByteArray) (⟨#[]⟩:ByteArray) (⟨#[]⟩:ByteArray)).bind fun r22=>bif !(r22.toList==a1.toList)then let v23:Y18:=[];some (((0:Int),((⟨#[]⟩:ByteArray),(v23,(([]:List ByteArray),((⟨#[]⟩:ByteArray),(⟨#[]⟩:ByteArray)))))),(false,()))else some (((3:Int),(v6,(v21,(([]:List ByteArray),((⟨#[]⟩:ByteArray),(⟨#[]⟩:ByteArray)))))),(true,()))else none else bif inR 0 r3.length then let v24:ByteArray:=(r3.getD (0:Int).toNat ⟨#[]⟩);let v25:Bool:=(v24.toList==(⟨#[111,117,116]⟩:ByteArray).toList);bif v25 then bif (r3.length:Int)==3 then bif inR 2 r3.length then let v26:ByteArray:=(r3.getD (2:Int).toNat ⟨#[]⟩);(B38 n 4 v6 v7 ([]:List ByteArray) v26 (⟨#[]⟩:ByteArray)).bind fun r27=>bif !(r27.toList==a1.toList)then let v28:Y18:=[];some (((0:Int),((⟨#[]⟩:ByteArray),(v28,(([]:List ByteArray),((⟨#[]⟩:ByteArray),(⟨#[]⟩:ByteArray)))))),(false,()))else some (((4:Int),(v6,(v7,(([]:List ByteArray),(v26,(⟨#[]⟩:ByteArray)))))),(true,()))else none else bif inR 0 r3.length then let v29:ByteArray:=(r3.getD (0:Int).toNat ⟨#[]⟩);let v30:Bool:=(v29.toList==(⟨#[110,97,109,101]⟩:ByteArray).toList);bif v30 then bif (r3.length:Int)==4 then bif inR 2 r3.length then let v31:ByteArray:=(r3.getD (2:Int).toNat ⟨#[]⟩);bif inR 3 r3.length then let v32:ByteArray:=(r3.getD (3:Int).toNat ⟨#[]⟩);(B38 n 5 v6 v7 ([]:List ByteArray) v31 v32).bind fun r33=>bif !(r33.toList==a1.toList)then let v34:Y18:=[];some (((0:Int),((⟨#[]⟩:ByteArray),(v34,(([]:List ByteArray),((⟨#[]⟩:ByteArray),(⟨#[]⟩:ByteArray)))))),(false,()))else some (((5:Int),(v6,(v7,(([]:List ByteArray),(v31,v32))))),(true,()))else none else none else (B38 n 0 v6 v7 ([]:List ByteArray) (⟨#[]⟩:ByteArray) (⟨#[]⟩:ByteArray)).bind fun r35=>bif !(r35.toList==a1.toList)then let v36:Y18:=[];some (((0:Int),((⟨#[]⟩:ByteArray),(v36,(([]:List ByteArray),((⟨#[]⟩:ByteArray),(⟨#[]⟩:ByteArray)))))),(false,()))else some (((0:Int),(v6,(v7,(([]:List ByteArray),((⟨#[]⟩:ByteArray),(⟨#[]⟩:ByteArray)))))),(true,()))else (B38 n 0 v6 v7 ([]:List ByteArray) (⟨#[]⟩:ByteArray) (⟨#[]⟩:ByteArray)).bind fun r37=>bif !(r37.toList==a1.toList)then let v38:Y18:=[];some (((0:Int),((⟨#[]⟩:ByteArray),(v38,(([]:List ByteArray),((⟨#[]⟩:ByteArray),(⟨#[]⟩:ByteArray)))))),(false,()))else some (((0:Int),(v6,(v7,(([]:List ByteArray),((⟨#[]⟩:ByteArray),(⟨#[]⟩:ByteArray)))))),(true,()))else none else bif inR 0 r3.length then let v39:ByteArray:=(r3.getD (0:Int).toNat ⟨#[]⟩);let v40:Bool:=(v39.toList==(⟨#[110,97,109,101]⟩:ByteArray).toList);bif v40 then bif (r3.length:Int)==4 then bif inR 2 r3.length then let v41:ByteArray:=(r3.getD (2:Int).toNat ⟨#[]⟩);bif inR 3 r3.length then let v42:ByteArray:=(r3.getD (3:Int).toNat ⟨#[]⟩);(B38 n 5 v6 v7 ([]:List ByteArray) v41 v42).bind fun r43=>bif !(r43.toList==a1.toList)then let v44:Y18:=[];some (((0:Int),((⟨#[]⟩:ByteArray),(v44,(([]:List ByteArray),((⟨#[]⟩:ByteArray),(⟨#[]⟩:ByteArray)))))),(false,()))else some (((5:Int),(v6,(v7,(([]:List ByteArray),(v41,v42))))),(true,()))else none else none else (B38 n 0 v6 v7 ([]:List ByteArray) (⟨#[]⟩:ByteArray) (⟨#[]⟩:ByteArray)).bind fun r45=>bif !(r45.toList==a1.toList)then let v46:Y18:=[];some (((0:Int),((⟨#[]⟩:ByteArray),(v46,(([]:List ByteArray),((⟨#[]⟩:ByteArray),(⟨#[]⟩:ByteArray)))))),(false,()))else some (((0:Int),(v6,(v7,(([]:List ByteArray),((⟨#[]⟩:ByteArray),(⟨#[]⟩:ByteArray)))))),(true,()))else (B38 n 0 v6 v7 ([]:List ByteArray) (⟨#[]⟩:ByteArray) (⟨#[]⟩:ByteArray)).bind fun r47=>bif !(r47.toList==a1.toList)then let v48:Y18:=[];some (((0:Int),((⟨#[]⟩:ByteArray),(v48,(([]:List ByteArray),((⟨#[]⟩:ByteArray),(⟨#[]⟩:ByteArray)))))),(false,()))else some (((0:Int),(v6,(v7,(([]:List ByteArray),((⟨#[]⟩:ByteArray),(⟨#[]⟩:ByteArray)))))),(true,()))else none else none else none else none else none else none
def B6s (n:Nat):Nat→List ByteArray→Int→Int→Y3→Option Y4
  |0,_,_,_,_=>none
  |j+1,x2,x3,x4,x5=>bif decide (x4<x3)then bif inR x4 x2.length then (B8v n (x2.getD x4.toNat ⟨#[]⟩)).bind fun r6=>bif !r6.2.1 then let v7:Y3:=[((-1:Int),((0:Int),(⟨#[]⟩:ByteArray)))];bif room (x5.length+v7.length) 32 then B6s n j x2 x3 (IntKind.wrap .i64 (x4+(1:Int))) (x5++v7)else none else let v8:Y3:=[(r6.1.1,(r6.1.2.1,r6.1.2.2))];bif room (x5.length+v8.length) 32 then B6s n j x2 x3 (IntKind.wrap .i64 (x4+(1:Int))) (x5++v8)else none else none else some x5
def B9v:Nat→(List ByteArray)→Option Y4
  |0,_=>none
  |n+1,a1=>B6s n n a1 a1.length 0 ([]:Y3)
def C34:Nat→ByteArray→Option ((Int×(ByteArray×(Y4×(Y4×Y27))))×(Bool×Unit))
  |0,_=>none
  |n+1,a1=>let v2:Y18:=[];(C44 n a1).bind fun r3=>let v4:Y18:=[];bif r3.2.1 then some (((5:Int),(r3.1.2.1,(([]:Y3),(([]:Y3),(r3.1.1,(r3.1.2.1,(r3.1.2.2.1,(r3.1.2.2.2.1,(r3.1.2.2.2.2.1,r3.1.2.2.2.2.2))))))))),(true,()))else (C4t n a1).bind fun r5=>let v6:Bool:=(decide ((r5.length:Int)<2));bif v6 then let v7:Y18:=[];some (((0:Int),((⟨#[]⟩:ByteArray),(([]:Y3),(([]:Y3),((0:Int),((⟨#[]⟩:ByteArray),(v7,(([]:List ByteArray),((⟨#[]⟩:ByteArray),(⟨#[]⟩:ByteArray)))))))))),(false,()))else bif inR 1 r5.length then let v8:ByteArray:=(r5.getD (1:Int).toNat ⟨#[]⟩);let v9:Y18:=[];let v10:Y18:=[];bif decide (0≤(2:Int)∧(2:Int)≤((r5.length:Nat):Int)∧((r5.length:Nat):Int)≤(r5.length:Int))then bif inR 0 r5.length then let v11:ByteArray:=(r5.getD (0:Int).toNat ⟨#[]⟩);let v12:Bool:=(v11.toList==(⟨#[105,110,115,101,114,116]⟩:ByteArray).toList);bif v12 then (B9v n ((r5.drop (2:Int).toNat).take (((r5.length:Nat):Int).toNat - (2:Int).toNat))).bind fun r13=>(B4h n 1 v8 ([]:Y3) r13 0 (⟨#[]⟩:ByteArray) v9 ([]:List ByteArray) (⟨#[]⟩:ByteArray) (⟨#[]⟩:ByteArray)).bind fun r14=>bif !(r14.toList==a1.toList)then let v15:Y18:=[];some (((0:Int),((⟨#[]⟩:ByteArray),(([]:Y3),(([]:Y3),((0:Int),((⟨#[]⟩:ByteArray),(v15,(([]:List ByteArray),((⟨#[]⟩:ByteArray),(⟨#[]⟩:ByteArray)))))))))),(false,()))else some (((1:Int),(v8,(([]:Y3),(r13,((0:Int),((⟨#[]⟩:ByteArray),(v9,(([]:List ByteArray),((⟨#[]⟩:ByteArray),(⟨#[]⟩:ByteArray)))))))))),(true,()))else let v16:Bool:=(v11.toList==(⟨#[117,112,100,97,116,101]⟩:ByteArray).toList);bif v16 then (B2k n ((r5.drop (2:Int).toNat).take (((r5.length:Nat):Int).toNat - (2:Int).toNat)) (⟨#[116,111]⟩:ByteArray)).bind fun r17=>bif decide ((0:Int)≤r17)then bif decide (0≤((0:Nat):Int)∧((0:Nat):Int)≤r17∧r17≤(((((r5.length:Nat):Int).toNat - (2:Int).toNat):Nat):Int))then (B9v n ((r5.drop ((2:Int).toNat+((0:Nat):Int).toNat)).take (r17.toNat - ((0:Nat):Int).toNat))).bind fun r18=>bif decide (0≤(IntKind.wrap .i64 (r17+(1:Int)))∧(IntKind.wrap .i64 (r17+(1:Int)))≤(((((r5.length:Nat):Int).toNat - (2:Int).toNat):Nat):Int)∧(((((r5.length:Nat):Int).toNat - (2:Int).toNat):Nat):Int)≤(((((r5.length:Nat):Int).toNat - (2:Int).toNat):Nat):Int))then (B9v n ((r5.drop ((2:Int).toNat+(IntKind.wrap .i64 (r17+(1:Int))).toNat)).take ((((((r5.length:Nat):Int).toNat - (2:Int).toNat):Nat):Int).toNat - (IntKind.wrap .i64 (r17+(1:Int))).toNat))).bind fun r19=>(B4h n 2 v8 r18 r19 0 (⟨#[]⟩:ByteArray) v9 ([]:List ByteArray) (⟨#[]⟩:ByteArray) (⟨#[]⟩:ByteArray)).bind fun r20=>bif !(r20.toList==a1.toList)then let v21:Y18:=[];some (((0:Int),((⟨#[]⟩:ByteArray),(([]:Y3),(([]:Y3),((0:Int),((⟨#[]⟩:ByteArray),(v21,(([]:List ByteArray),((⟨#[]⟩:ByteArray),(⟨#[]⟩:ByteArray)))))))))),(false,()))else some (((2:Int),(v8,(r18,(r19,((0:Int),((⟨#[]⟩:ByteArray),(v9,(([]:List ByteArray),((⟨#[]⟩:ByteArray),(⟨#[]⟩:ByteArray)))))))))),(true,()))else none else none else (B4h n 2 v8 ([]:Y3) ([]:Y3) 0 (⟨#[]⟩:ByteArray) v9 ([]:List ByteArray) (⟨#[]⟩:ByteArray) (⟨#[]⟩:ByteArray)).bind fun r22=>bif !(r22.toList==a1.toList)then let v23:Y18:=[];some (((0:Int),((⟨#[]⟩:ByteArray),(([]:Y3),(([]:Y3),((0:Int),((⟨#[]⟩:ByteArray),(v23,(([]:List ByteArray),((⟨#[]⟩:ByteArray),(⟨#[]⟩:ByteArray)))))))))),(false,()))else some (((2:Int),(v8,(([]:Y3),(([]:Y3),((0:Int),((⟨#[]⟩:ByteArray),(v9,(([]:List ByteArray),((⟨#[]⟩:ByteArray),(⟨#[]⟩:ByteArray)))))))))),(true,()))else let v24:Bool:=(v11.toList==(⟨#[100,101,108,101,116,101]⟩:ByteArray).toList);bif v24 then (B9v n ((r5.drop (2:Int).toNat).take (((r5.length:Nat):Int).toNat - (2:Int).toNat))).bind fun r25=>(B4h n 3 v8 r25 ([]:Y3) 0 (⟨#[]⟩:ByteArray) v9 ([]:List ByteArray) (⟨#[]⟩:ByteArray) (⟨#[]⟩:ByteArray)).bind fun r26=>bif !(r26.toList==a1.toList)then let v27:Y18:=[];some (((0:Int),((⟨#[]⟩:ByteArray),(([]:Y3),(([]:Y3),((0:Int),((⟨#[]⟩:ByteArray),(v27,(([]:List ByteArray),((⟨#[]⟩:ByteArray),(⟨#[]⟩:ByteArray)))))))))),(false,()))else some (((3:Int),(v8,(r25,(([]:Y3),((0:Int),((⟨#[]⟩:ByteArray),(v9,(([]:List ByteArray),((⟨#[]⟩:ByteArray),(⟨#[]⟩:ByteArray)))))))))),(true,()))else let v28:Bool:=(v11.toList==(⟨#[99,108,101,97,114]⟩:ByteArray).toList);bif v28 then (B4h n 4 v8 ([]:Y3) ([]:Y3) 0 (⟨#[]⟩:ByteArray) v9 ([]:List ByteArray) (⟨#[]⟩:ByteArray) (⟨#[]⟩:ByteArray)).bind fun r29=>bif !(r29.toList==a1.toList)then let v30:Y18:=[];some (((0:Int),((⟨#[]⟩:ByteArray),(([]:Y3),(([]:Y3),((0:Int),((⟨#[]⟩:ByteArray),(v30,(([]:List ByteArray),((⟨#[]⟩:ByteArray),(⟨#[]⟩:ByteArray)))))))))),(false,()))else some (((4:Int),(v8,(([]:Y3),(([]:Y3),((0:Int),((⟨#[]⟩:ByteArray),(v9,(([]:List ByteArray),((⟨#[]⟩:ByteArray),(⟨#[]⟩:ByteArray)))))))))),(true,()))else (B4h n 0 v8 ([]:Y3) ([]:Y3) 0 (⟨#[]⟩:ByteArray) v9 ([]:List ByteArray) (⟨#[]⟩:ByteArray) (⟨#[]⟩:ByteArray)).bind fun r31=>bif !(r31.toList==a1.toList)then let v32:Y18:=[];some (((0:Int),((⟨#[]⟩:ByteArray),(([]:Y3),(([]:Y3),((0:Int),((⟨#[]⟩:ByteArray),(v32,(([]:List ByteArray),((⟨#[]⟩:ByteArray),(⟨#[]⟩:ByteArray)))))))))),(false,()))else some (((0:Int),(v8,(([]:Y3),(([]:Y3),((0:Int),((⟨#[]⟩:ByteArray),(v9,(([]:List ByteArray),((⟨#[]⟩:ByteArray),(⟨#[]⟩:ByteArray)))))))))),(true,()))else none else none else none
def C30:Nat→ByteArray→Y19→(List ByteArray)→ByteArray→Option Bool
  |0,_,_,_,_=>none
  |n+1,a1,a2,a3,a4=>some (a1.toList==a4.toList)
def B2h (n:Nat):Nat→Y23→ByteArray→Int→Int→Option Int
  |0,_,_,_,_=>none
  |j+1,x3,x4,x5,x6=>bif decide (x6<x5)then bif inR x6 x3.length then let v7:=(x3.getD x6.toNat (⟨#[]⟩,([],[])));(C30 n v7.1 v7.2.1 v7.2.2 x4).bind fun r8=>bif r8 then some x6 else B2h n j x3 x4 x5 (IntKind.wrap .i64 (x6+(1:Int)))else none else some (-1:Int)
def B32:Nat→Y24→ByteArray→Option Int
  |0,_,_=>none
  |n+1,a1,a2=>B2h n n a1 a2 a1.length 0
def B6f:Nat→Y24→ByteArray→Option Int
  |0,_,_=>none
  |n+1,a1,a2=>(B32 n a1 a2).bind fun r3=>some r3
def A7d:Nat→(List ByteArray)→ByteArray→Option Bool
  |0,_,_=>none
  |n+1,a1,a2=>(B2k n a1 a2).bind fun r3=>some (decide ((0:Int)≤r3))
def C26:Nat→Y24→Int→ByteArray→Y19→(List ByteArray)→ByteArray→ByteArray→Option Int
  |0,_,_,_,_,_,_,_=>none
  |n+1,a1,a2,a3,a4,a5,a6,a7=>(B6f n a1 a3).bind fun r8=>bif a2==(1:Int)then bif decide ((0:Int)≤r8)then some 2 else bif (a1.length:Int)==6 then some 3 else some 0 else bif decide (r8<(0:Int))then some 4 else bif inR r8 a1.length then let v9:=(a1.getD r8.toNat (⟨#[]⟩,([],[])));let v10:Y18:=[];bif a2==(3:Int)then bif inR 0 a4.length then let v11:=(a4.getD (0:Int).toNat (⟨#[]⟩,(0,(false,(false,(0,(0,⟨#[]⟩)))))));(B2w n v9.1 v9.2.1 v9.2.2 v11.1).bind fun r12=>bif decide ((0:Int)≤r12)then some 5 else bif a2==(5:Int)then (B2w n v9.1 v9.2.1 v9.2.2 a7).bind fun r13=>bif decide ((0:Int)≤r13)then some 5 else bif a2==(3:Int)then bif (v9.2.1.length:Int)==8 then some 6 else bif a2==(4:Int)then (B2w n v9.1 v9.2.1 v9.2.2 a6).bind fun r14=>bif decide (r14<(0:Int))then some 7 else bif a2==(4:Int)then (A7d n v9.2.2 a6).bind fun r15=>bif r15 then some 8 else some 0 else some 0 else bif a2==(5:Int)then (B2w n v9.1 v9.2.1 v9.2.2 a6).bind fun r16=>bif decide (r16<(0:Int))then some 7 else bif a2==(4:Int)then (A7d n v9.2.2 a6).bind fun r17=>bif r17 then some 8 else some 0 else some 0 else bif a2==(4:Int)then (A7d n v9.2.2 a6).bind fun r18=>bif r18 then some 8 else some 0 else some 0 else bif a2==(4:Int)then (B2w n v9.1 v9.2.1 v9.2.2 a6).bind fun r19=>bif decide (r19<(0:Int))then some 7 else bif a2==(4:Int)then (A7d n v9.2.2 a6).bind fun r20=>bif r20 then some 8 else some 0 else some 0 else bif a2==(5:Int)then (B2w n v9.1 v9.2.1 v9.2.2 a6).bind fun r21=>bif decide (r21<(0:Int))then some 7 else bif a2==(4:Int)then (A7d n v9.2.2 a6).bind fun r22=>bif r22 then some 8 else some 0 else some 0 else bif a2==(4:Int)then (A7d n v9.2.2 a6).bind fun r23=>bif r23 then some 8 else some 0 else some 0 else bif a2==(3:Int)then bif (v9.2.1.length:Int)==8 then some 6 else bif a2==(4:Int)then (B2w n v9.1 v9.2.1 v9.2.2 a6).bind fun r24=>bif decide (r24<(0:Int))then some 7 else bif a2==(4:Int)then (A7d n v9.2.2 a6).bind fun r25=>bif r25 then some 8 else some 0 else some 0 else bif a2==(5:Int)then (B2w n v9.1 v9.2.1 v9.2.2 a6).bind fun r26=>bif decide (r26<(0:Int))then some 7 else bif a2==(4:Int)then (A7d n v9.2.2 a6).bind fun r27=>bif r27 then some 8 else some 0 else some 0 else bif a2==(4:Int)then (A7d n v9.2.2 a6).bind fun r28=>bif r28 then some 8 else some 0 else some 0 else bif a2==(4:Int)then (B2w n v9.1 v9.2.1 v9.2.2 a6).bind fun r29=>bif decide (r29<(0:Int))then some 7 else bif a2==(4:Int)then (A7d n v9.2.2 a6).bind fun r30=>bif r30 then some 8 else some 0 else some 0 else bif a2==(5:Int)then (B2w n v9.1 v9.2.1 v9.2.2 a6).bind fun r31=>bif decide (r31<(0:Int))then some 7 else bif a2==(4:Int)then (A7d n v9.2.2 a6).bind fun r32=>bif r32 then some 8 else some 0 else some 0 else bif a2==(4:Int)then (A7d n v9.2.2 a6).bind fun r33=>bif r33 then some 8 else some 0 else some 0 else none else bif a2==(5:Int)then (B2w n v9.1 v9.2.1 v9.2.2 a7).bind fun r34=>bif decide ((0:Int)≤r34)then some 5 else bif a2==(3:Int)then bif (v9.2.1.length:Int)==8 then some 6 else bif a2==(4:Int)then (B2w n v9.1 v9.2.1 v9.2.2 a6).bind fun r35=>bif decide (r35<(0:Int))then some 7 else bif a2==(4:Int)then (A7d n v9.2.2 a6).bind fun r36=>bif r36 then some 8 else some 0 else some 0 else bif a2==(5:Int)then (B2w n v9.1 v9.2.1 v9.2.2 a6).bind fun r37=>bif decide (r37<(0:Int))then some 7 else bif a2==(4:Int)then (A7d n v9.2.2 a6).bind fun r38=>bif r38 then some 8 else some 0 else some 0 else bif a2==(4:Int)then (A7d n v9.2.2 a6).bind fun r39=>bif r39 then some 8 else some 0 else some 0 else bif a2==(4:Int)then (B2w n v9.1 v9.2.1 v9.2.2 a6).bind fun r40=>bif decide (r40<(0:Int))then some 7 else bif a2==(4:Int)then (A7d n v9.2.2 a6).bind fun r41=>bif r41 then some 8 else some 0 else some 0 else bif a2==(5:Int)then (B2w n v9.1 v9.2.1 v9.2.2 a6).bind fun r42=>bif decide (r42<(0:Int))then some 7 else bif a2==(4:Int)then (A7d n v9.2.2 a6).bind fun r43=>bif r43 then some 8 else some 0 else some 0 else bif a2==(4:Int)then (A7d n v9.2.2 a6).bind fun r44=>bif r44 then some 8 else some 0 else some 0 else bif a2==(3:Int)then bif (v9.2.1.length:Int)==8 then some 6 else bif a2==(4:Int)then (B2w n v9.1 v9.2.1 v9.2.2 a6).bind fun r45=>bif decide (r45<(0:Int))then some 7 else bif a2==(4:Int)then (A7d n v9.2.2 a6).bind fun r46=>bif r46 then some 8 else some 0 else some 0 else bif a2==(5:Int)then (B2w n v9.1 v9.2.1 v9.2.2 a6).bind fun r47=>bif decide (r47<(0:Int))then some 7 else bif a2==(4:Int)then (A7d n v9.2.2 a6).bind fun r48=>bif r48 then some 8 else some 0 else some 0 else bif a2==(4:Int)then (A7d n v9.2.2 a6).bind fun r49=>bif r49 then some 8 else some 0 else some 0 else bif a2==(4:Int)then (B2w n v9.1 v9.2.1 v9.2.2 a6).bind fun r50=>bif decide (r50<(0:Int))then some 7 else bif a2==(4:Int)then (A7d n v9.2.2 a6).bind fun r51=>bif r51 then some 8 else some 0 else some 0 else bif a2==(5:Int)then (B2w n v9.1 v9.2.1 v9.2.2 a6).bind fun r52=>bif decide (r52<(0:Int))then some 7 else bif a2==(4:Int)then (A7d n v9.2.2 a6).bind fun r53=>bif r53 then some 8 else some 0 else some 0 else bif a2==(4:Int)then (A7d n v9.2.2 a6).bind fun r54=>bif r54 then some 8 else some 0 else some 0 else none
def B7c (n:Nat):Nat→Y23→Int→Int→Y23→Y23→Option Y24
  |0,_,_,_,_,_=>none
  |j+1,x5,x6,x7,x8,x9=>bif decide (x7<x6)then bif inR x7 x5.length then let v10:=(x5.getD x7.toNat (⟨#[]⟩,([],[])));let v11:Y18:=[];(B8e n v10.1 v10.2.1 v10.2.2).bind fun r12=>let v13:Y23:=[(r12.1,(r12.2.1,r12.2.2))];bif room (x9.length+v13.length) 64 then B7c n j x5 x6 (IntKind.wrap .i64 (x7+(1:Int))) x8 (x9++v13)else none else none else some x9
def C24:Nat→Y24→Option Y24
  |0,_=>none
  |n+1,a1=>let v2:Y23:=[];let v3:Y23:=[];let v4:Y23:=[];B7c n n a1 a1.length 0 v2 v3
def B3k:Nat→Y24→Int→Y24→Option Y24
  |0,_,_,_=>none
  |n+1,a1,a2,a3=>B1k 64 a1 a2 a3
def B4r:Nat→Y24→Int→Int→Option Y24
  |0,_,_,_=>none
  |n+1,a1,a2,a3=>B1f a1 a2 a3
def B95:Nat→ByteArray→Int→Bool→Bool→Int→Int→ByteArray→Y27→Option Bool
  |0,_,_,_,_,_,_,_,_=>none
  |n+1,a1,a2,a3,a4,a5,a6,a7,a8=>some (a1.toList==a8.2.2.2.2.1.toList)
def B2j (n:Nat):Nat→Y18→Y27→Int→Int→Option Int
  |0,_,_,_,_=>none
  |j+1,x3,x4,x5,x6=>bif decide (x6<x5)then bif inR x6 x3.length then let v7:=(x3.getD x6.toNat (⟨#[]⟩,(0,(false,(false,(0,(0,⟨#[]⟩)))))));(B95 n v7.1 v7.2.1 v7.2.2.1 v7.2.2.2.1 v7.2.2.2.2.1 v7.2.2.2.2.2.1 v7.2.2.2.2.2.2 x4).bind fun r8=>bif r8 then some x6 else B2j n j x3 x4 x5 (IntKind.wrap .i64 (x6+(1:Int)))else none else some (-1:Int)
def B34:Nat→Y19→Y27→Option Int
  |0,_,_=>none
  |n+1,a1,a2=>B2j n n a1 a2 a1.length 0
def B2a (n:Nat):Nat→Y27→Int→Int→Y18→Option Y19
  |0,_,_,_,_=>none
  |j+1,x5,x6,x7,x8=>bif decide (x7<(x8.length:Int))then bif inR x7 x8.length then let v9:ByteArray:=(x8.getD x7.toNat (⟨#[]⟩,(0,(false,(false,(0,(0,⟨#[]⟩))))))).1;let v10:Int:=(x8.getD x7.toNat (⟨#[]⟩,(0,(false,(false,(0,(0,⟨#[]⟩))))))).2.1;let v11:Bool:=(x8.getD x7.toNat (⟨#[]⟩,(0,(false,(false,(0,(0,⟨#[]⟩))))))).2.2.1;let v12:Bool:=(x8.getD x7.toNat (⟨#[]⟩,(0,(false,(false,(0,(0,⟨#[]⟩))))))).2.2.2.1;let v13:Int:=(x8.getD x7.toNat (⟨#[]⟩,(0,(false,(false,(0,(0,⟨#[]⟩))))))).2.2.2.2.1;let v14:Int:=(x8.getD x7.toNat (⟨#[]⟩,(0,(false,(false,(0,(0,⟨#[]⟩))))))).2.2.2.2.2.1;let v15:ByteArray:=(x8.getD x7.toNat (⟨#[]⟩,(0,(false,(false,(0,(0,⟨#[]⟩))))))).2.2.2.2.2.2;(B95 n v9 v10 v11 v12 v13 v14 v15 x5).bind fun r16=>bif !r16 then bif inR x6 x8.length then let v17:=(x8.set x6.toNat (v9,(v10,(v11,(v12,(v13,(v14,v15)))))));B2a n j x5 (IntKind.wrap .i64 (x6+(1:Int))) (IntKind.wrap .i64 (x7+(1:Int))) v17 else none else B2a n j x5 x6 (IntKind.wrap .i64 (x7+(1:Int))) x8 else none else bif decide (0≤x6∧x6≤((x8.length:Nat):Int)∧((x8.length:Nat):Int)≤(x8.length:Int))then let v18:=(x8.take x6.toNat++List.replicate (((x8.length:Nat):Int).toNat - x6.toNat) ((⟨#[]⟩:ByteArray),((0:Int),(false,(false,((0:Int),((0:Int),(⟨#[]⟩:ByteArray)))))))++x8.drop (x6.toNat+(((x8.length:Nat):Int).toNat - x6.toNat)));bif decide (0≤((0:Nat):Int)∧((0:Nat):Int)≤x6∧x6≤(v18.length:Int))then some (v18.take (x6.toNat - ((0:Nat):Int).toNat))else none else none
def B30:Nat→Y19→Y27→Option Y19
  |0,_,_=>none
  |n+1,a1,a2=>let v3:Y18:=[];(B34 n a1 a2).bind fun r4=>bif r4==(-1:Int)then some a1 else B2a n n a2 r4 (IntKind.wrap .i64 (r4+(1:Int))) a1
def B6l (n:Nat):Nat→Int→Int→ByteArray→Y18→List ByteArray→ByteArray→ByteArray→Y23→Y23→Option (Y24×(Int×Unit))
  |0,_,_,_,_,_,_,_,_,_=>none
  |j+1,x18,x19,x20,x21,x22,x23,x24,x25,x26=>bif decide (x18<(x26.length:Int))then bif inR x18 x26.length then let v27:ByteArray:=(x26.getD x18.toNat (⟨#[]⟩,([],[]))).1;bif Op.bytesLess v27.toList x20.toList then B6l n j (IntKind.wrap .i64 (x18+(1:Int))) x19 x20 x21 x22 x23 x24 x25 x26 else (B9b n x19 x20 x21 x22 x23 x24).bind fun r28=>let v29:Y23:=[(r28.1,(r28.2.1,r28.2.2))];(B3k n x26 x18 v29).bind fun r30=>some (r30,((0:Int),()))else none else (B9b n x19 x20 x21 x22 x23 x24).bind fun r31=>let v32:Y23:=[(r31.1,(r31.2.1,r31.2.2))];(B3k n x26 x18 v32).bind fun r33=>some (r33,((0:Int),()))
def C31:Nat→Y24→Int→ByteArray→Y19→(List ByteArray)→ByteArray→ByteArray→Option (Y24×(Int×Unit))
  |0,_,_,_,_,_,_,_=>none
  |n+1,a1,a2,a3,a4,a5,a6,a7=>let v8:Y23:=[];(C4q n a1).bind fun r9=>bif !r9 then let v10:Y23:=[];some (v10,((1:Int),()))else (C19 n a2 a3 a4 a5 a6 a7).bind fun r11=>bif !r11 then let v12:Y23:=[];some (v12,((1:Int),()))else (C26 n a1 a2 a3 a4 a5 a6 a7).bind fun r13=>bif r13 !=(0:Int)then let v14:Y23:=[];some (v14,(r13,()))else (C24 n a1).bind fun r15=>let v16:Y23:=[];(B6f n a1 a3).bind fun r17=>bif a2==(1:Int)then B6l n n 0 a2 a3 a4 a5 a6 a7 v8 r15 else bif a2==(2:Int)then (B4r n r15 r17 (IntKind.wrap .i64 (r17+(1:Int)))).bind fun r34=>some (r34,((0:Int),()))else bif a2==(3:Int)then bif inR r17 r15.length then bif inR 0 a4.length then let v35:=(a4.getD (0:Int).toNat (⟨#[]⟩,(0,(false,(false,(0,(0,⟨#[]⟩)))))));let v36:Y18:=[(v35.1,(v35.2.1,(v35.2.2.1,(v35.2.2.2.1,(v35.2.2.2.2.1,(v35.2.2.2.2.2.1,v35.2.2.2.2.2.2))))))];bif room ((r15.getD r17.toNat (⟨#[]⟩,([],[]))).2.1.length+v36.length) 64 then let v37:=((r15.getD r17.toNat (⟨#[]⟩,([],[]))).2.1++v36);bif inR r17 r15.length then bif Nat.beq r17.toNat r17.toNat then let v38:=(r15.set r17.toNat ((r15.getD r17.toNat (⟨#[]⟩,([],[]))).1,(v37,(r15.getD r17.toNat (⟨#[]⟩,([],[]))).2.2)));some (v38,((0:Int),()))else none else none else none else none else none else bif a2==(4:Int)then bif inR r17 r15.length then (B30 n (r15.getD r17.toNat (⟨#[]⟩,([],[]))).2.1 (a2,(a3,(a4,(a5,(a6,a7)))))).bind fun r39=>bif Nat.beq r17.toNat r17.toNat then let v40:=(r15.set r17.toNat ((r15.getD r17.toNat (⟨#[]⟩,([],[]))).1,(r39,(r15.getD r17.toNat (⟨#[]⟩,([],[]))).2.2)));some (v40,((0:Int),()))else none else none else bif a2==(5:Int)then bif inR r17 r15.length then let v41:ByteArray:=(r15.getD r17.toNat (⟨#[]⟩,([],[]))).1;(B2w n v41 (r15.getD r17.toNat (⟨#[]⟩,([],[]))).2.1 (r15.getD r17.toNat (⟨#[]⟩,([],[]))).2.2 a6).bind fun r42=>bif inR r42 (r15.getD r17.toNat (⟨#[]⟩,([],[]))).2.1.length then let v43:=(r15.getD r17.toNat (⟨#[]⟩,([],[]))).2.1;let v44:=(r15.set r17.toNat ((r15.getD r17.toNat (⟨#[]⟩,([],[]))).1,((v43.set r42.toNat (a7,(v43.getD r42.toNat (⟨#[]⟩,(0,(false,(false,(0,(0,⟨#[]⟩))))))).2)),(r15.getD r17.toNat (⟨#[]⟩,([],[]))).2.2)));(B2k n (v44.getD r17.toNat (⟨#[]⟩,([],[]))).2.2 a6).bind fun r45=>bif decide ((0:Int)≤r45)then bif inR r45 (v44.getD r17.toNat (⟨#[]⟩,([],[]))).2.2.length then let v46:=(v44.getD r17.toNat (⟨#[]⟩,([],[]))).2.2;let v47:=(v44.set r17.toNat ((v44.getD r17.toNat (⟨#[]⟩,([],[]))).1,((v44.getD r17.toNat (⟨#[]⟩,([],[]))).2.1,(v46.set r45.toNat a7))));some (v47,((0:Int),()))else none else some (v44,((0:Int),()))else none else none else some (r15,((0:Int),()))
def B9e:Nat→Y4→Option Y4
  |0,_=>none
  |n+1,a1=>bif room a1.length 32 then some a1 else none
def B6m (n:Nat):Nat→Y6→Int→Int→Y6→Option Y7
  |0,_,_,_,_=>none
  |j+1,x4,x5,x6,x7=>bif decide (x6<x5)then bif inR x6 x4.length then let v8:=(x4.getD x6.toNat []);(B9e n v8).bind fun r9=>let v10:Y6:=[r9];bif room (x7.length+v10.length) 24 then B6m n j x4 x5 (IntKind.wrap .i64 (x6+(1:Int))) (x7++v10)else none else none else some x7
def B4y:Nat→Y7→Option Y7
  |0,_=>none
  |n+1,a1=>let v2:Y6:=[];let v3:Y6:=[];B6m n n a1 a1.length 0 v3
def B8c (n:Nat):Nat→Y10→Int→Int→Y23→Y10→Y23→Y10→Option Y30
  |0,_,_,_,_,_,_,_=>none
  |j+1,x9,x10,x11,x12,x13,x14,x15=>bif decide (x11<x10)then bif inR x11 x9.length then let v16:=(x9.getD x11.toNat []);let v17:Y6:=[];(B4y n v16).bind fun r18=>let v19:Y10:=[r18];bif room (x15.length+v19.length) 24 then B8c n j x9 x10 (IntKind.wrap .i64 (x11+(1:Int))) x12 x13 x14 (x15++v19)else none else none else some (x14,x15)
def B56:Nat→Y24→Y12→Option Y30
  |0,_,_=>none
  |n+1,a1,a2=>let v3:Y23:=[];let v4:Y10:=[];(C24 n a1).bind fun r5=>let v6:Y10:=[];let v7:Y23:=[];let v8:Y10:=[];B8c n n a2 a2.length 0 v3 v4 r5 v6
def B4x:Nat→Y12→Int→Y12→Option Y12
  |0,_,_,_=>none
  |n+1,a1,a2,a3=>B1k 24 a1 a2 a3
def B4w:Nat→Y12→Int→Int→Option Y12
  |0,_,_,_=>none
  |n+1,a1,a2,a3=>B1f a1 a2 a3
def B58:Nat→Y4→Int→Int→Option Y4
  |0,_,_,_=>none
  |n+1,a1,a2,a3=>B1f a1 a2 a3
def B79 (n:Nat):Nat→Int→Int→Int→ByteArray→Y18→List ByteArray→ByteArray→ByteArray→Y6→Option Y15
  |0,_,_,_,_,_,_,_,_,_=>none
  |j+1,x23,x24,x25,x26,x27,x28,x29,x30,x31=>bif decide (x24<x23)then bif inR x24 x31.length then bif inR 0 x27.length then let v32:=(x27.getD (0:Int).toNat (⟨#[]⟩,(0,(false,(false,(0,(0,⟨#[]⟩)))))));let v33:Y3:=[(v32.2.2.2.2.1,(v32.2.2.2.2.2.1,v32.2.2.2.2.2.2))];bif room ((x31.getD x24.toNat []).length+v33.length) 32 then let v34:=((x31.getD x24.toNat [])++v33);bif inR x24 x31.length then bif Nat.beq x24.toNat x24.toNat then B79 n j x23 (IntKind.wrap .i64 (x24+(1:Int))) x25 x26 x27 x28 x29 x30 (x31.set x24.toNat v34)else none else none else none else none else none else some (x31,((0:Int),()))
def B7a (n:Nat):Nat→Int→Int→Int→Y6→Option Y15
  |0,_,_,_,_=>none
  |j+1,x36,x37,x38,x39=>bif decide (x38<x37)then bif inR x38 x39.length then (B58 n (x39.getD x38.toNat []) x36 (IntKind.wrap .i64 (x36+(1:Int)))).bind fun r40=>bif inR x38 x39.length then bif Nat.beq x38.toNat x38.toNat then B7a n j x36 x37 (IntKind.wrap .i64 (x38+(1:Int))) (x39.set x38.toNat r40)else none else none else none else some (x39,((0:Int),()))
def C43:Nat→ByteArray→Y19→(List ByteArray)→Y7→Int→ByteArray→Y19→(List ByteArray)→ByteArray→ByteArray→Option Y15
  |0,_,_,_,_,_,_,_,_,_,_=>none
  |n+1,a1,a2,a3,a4,a5,a6,a7,a8,a9,a10=>let v11:Y6:=[];(B8q n a1 a2 a3 a4).bind fun r12=>bif !r12 then let v13:Y6:=[];some (v13,((1:Int),()))else (C19 n a5 a6 a7 a8 a9 a10).bind fun r14=>bif !r14 then let v15:Y6:=[];some (v15,((1:Int),()))else bif !(a6.toList==a1.toList)then let v16:Y6:=[];some (v16,((1:Int),()))else bif a5==(1:Int)then let v17:Y6:=[];some (v17,((1:Int),()))else let v18:Y23:=[(a1,(a2,a3))];(C26 n v18 a5 a6 a7 a8 a9 a10).bind fun r19=>bif r19 !=(0:Int)then let v20:Y6:=[];some (v20,(r19,()))else (B4y n a4).bind fun r21=>bif a5==(2:Int)then let v22:Y6:=[];some (v22,((0:Int),()))else bif a5==(3:Int)then B79 n n r21.length 0 a5 a6 a7 a8 a9 a10 r21 else bif a5==(4:Int)then (B2w n a1 a2 a3 a9).bind fun r35=>B7a n n r35 r21.length 0 r21 else some (r21,((0:Int),()))
def C23:Nat→Y24→Y12→Int→ByteArray→Y19→(List ByteArray)→ByteArray→ByteArray→Option (Y30×(Int×Unit))
  |0,_,_,_,_,_,_,_,_=>none
  |n+1,a1,a2,a3,a4,a5,a6,a7,a8=>let v9:Y23:=[];let v10:Y10:=[];(C31 n a1 a3 a4 a5 a6 a7 a8).bind fun r11=>let v12:Y23:=[];bif r11.2.1 !=(0:Int)then let v13:Y23:=[];let v14:Y10:=[];some ((v13,v14),(r11.2.1,()))else (B56 n a1 a2).bind fun r15=>let v16:Y23:=[];let v17:Y10:=[];(B6f n a1 a4).bind fun r18=>bif a3==(1:Int)then (B6f n r11.1 a4).bind fun r19=>let v20:Y6:=[];let v21:Y10:=[v20];(B4x n r15.2 r19 v21).bind fun r22=>some ((r11.1,r22),((0:Int),()))else bif a3==(2:Int)then (B4w n r15.2 r18 (IntKind.wrap .i64 (r18+(1:Int)))).bind fun r23=>some ((r11.1,r23),((0:Int),()))else bif inR r18 a1.length then let v24:=(a1.getD r18.toNat (⟨#[]⟩,([],[])));bif inR r18 a2.length then let v25:=(a2.getD r18.toNat []);(C43 n v24.1 v24.2.1 v24.2.2 v25 a3 a4 a5 a6 a7 a8).bind fun r26=>bif inR r18 r15.2.length then some ((r11.1,(r15.2.set r18.toNat r26.1)),((0:Int),()))else none else none else none
def B3e (n:Nat):Nat→Y3→Y3→Int→Int→Option Bool
  |0,_,_,_,_=>none
  |j+1,x4,x5,x6,x7=>bif decide (x7<x6)then bif inR x7 x4.length then let v8:=(x4.getD x7.toNat (0,(0,⟨#[]⟩)));bif inR x7 x5.length then let v9:=(x5.getD x7.toNat (0,(0,⟨#[]⟩)));let v10:Bool:=(!((v8.1==v9.1)&&((v8.2.1==v9.2.1)&&((v8.2.2.toList==v9.2.2.toList)&&true))));bif v10 then some false else B3e n j x4 x5 x6 (IntKind.wrap .i64 (x7+(1:Int)))else none else none else some true
def B3c:Nat→Y4→Y4→Option Bool
  |0,_,_=>none
  |n+1,a1,a2=>let v3:Bool:=((a1.length:Int) !=(a2.length:Int));bif v3 then some false else B3e n n a1 a2 a1.length 0
def C46:Nat→Y4→Y22→Y4→Option Bool
  |0,_,_,_=>none
  |n+1,a1,a2,a3=>(B7w n a2.1 a2.2.1 a2.2.2 a1).bind fun r4=>(B3c n r4 a3).bind fun r5=>some r5
def B2q (n:Nat):Nat→Y6→Y22→Y4→Int→Int→Option Int
  |0,_,_,_,_,_=>none
  |j+1,x4,x5,x6,x7,x8=>bif decide (x8<x7)then bif inR x8 x4.length then let v9:=(x4.getD x8.toNat []);(C46 n v9 x5 x6).bind fun r10=>bif r10 then some x8 else B2q n j x4 x5 x6 x7 (IntKind.wrap .i64 (x8+(1:Int)))else none else some (-1:Int)
def B3b:Nat→Y7→Y22→Y4→Option Int
  |0,_,_,_=>none
  |n+1,a1,a2,a3=>B2q n n a1 a2 a3 a1.length 0
def B7x:Nat→ByteArray→Y19→(List ByteArray)→Y7→Y4→Option Int
  |0,_,_,_,_,_=>none
  |n+1,a1,a2,a3,a4,a5=>(B3b n a4 (a1,(a2,a3)) a5).bind fun r6=>some r6
def B3w:Nat→Y7→Int→Y7→Option Y7
  |0,_,_,_=>none
  |n+1,a1,a2,a3=>B1k 24 a1 a2 a3
def B8i (n:Nat):Nat→Y6→Int→ByteArray→Y18→List ByteArray→Y3→Option Y7
  |0,_,_,_,_,_,_=>none
  |j+1,x7,x8,x9,x10,x11,x12=>bif decide (x8<(x7.length:Int))then bif inR x8 x7.length then let v13:=(x7.getD x8.toNat []);(B7w n x9 x10 x11 v13).bind fun r14=>(B7w n x9 x10 x11 x12).bind fun r15=>(C1z n r14 r15).bind fun r16=>bif r16 then B8i n j x7 (IntKind.wrap .i64 (x8+(1:Int))) x9 x10 x11 x12 else (B4y n x7).bind fun r17=>(B9e n x12).bind fun r18=>let v19:Y6:=[r18];(B3w n r17 x8 v19).bind fun r20=>some r20 else none else (B4y n x7).bind fun r21=>(B9e n x12).bind fun r22=>let v23:Y6:=[r22];(B3w n r21 x8 v23).bind fun r24=>some r24
def C1k:Nat→ByteArray→Y19→(List ByteArray)→Y7→Y4→Option Y7
  |0,_,_,_,_,_=>none
  |n+1,a1,a2,a3,a4,a5=>let v6:Y6:=[];B8i n n a4 0 a1 a2 a3 a5
def C3i:Nat→ByteArray→Y19→(List ByteArray)→Y7→Y4→Option Y15
  |0,_,_,_,_,_=>none
  |n+1,a1,a2,a3,a4,a5=>let v6:Y6:=[];(B8q n a1 a2 a3 a4).bind fun r7=>bif !r7 then let v8:Y6:=[];some (v8,((1:Int),()))else (C2t n a1 a2 a3 a5).bind fun r9=>bif !r9 then let v10:Y6:=[];some (v10,((2:Int),()))else (B7w n a1 a2 a3 a5).bind fun r11=>(B7x n a1 a2 a3 a4 r11).bind fun r12=>bif decide ((0:Int)≤r12)then let v13:Y6:=[];some (v13,((3:Int),()))else bif (a4.length:Int)==60 then let v14:Y6:=[];some (v14,((4:Int),()))else (C1k n a1 a2 a3 a4 a5).bind fun r15=>some (r15,((0:Int),()))
def B9c (n:Nat):Nat→Y3→List ByteArray→Int→Int→ByteArray→Y18→List ByteArray→Option Bool
  |0,_,_,_,_,_,_,_=>none
  |j+1,x7,x8,x9,x10,x11,x12,x13=>bif decide (x10<x9)then bif inR x10 x8.length then bif inR x10 x7.length then let v14:=(x7.getD x10.toNat (0,(0,⟨#[]⟩)));(B7t n v14.1 v14.2.1 v14.2.2).bind fun r15=>bif !r15 then some false else bif inR x10 x7.length then let v16:=(x7.getD x10.toNat (0,(0,⟨#[]⟩)));(B2w n x11 x12 x13 (x8.getD x10.toNat ⟨#[]⟩)).bind fun r17=>bif inR r17 x12.length then let v18:=(x12.getD r17.toNat (⟨#[]⟩,(0,(false,(false,(0,(0,⟨#[]⟩)))))));bif v16.1 !=v18.2.1 then some false else B9c n j x7 x8 x9 (IntKind.wrap .i64 (x10+(1:Int))) x11 x12 x13 else none else none else none else none else some true
def C4s:Nat→ByteArray→Y19→(List ByteArray)→Y4→Option Bool
  |0,_,_,_,_=>none
  |n+1,a1,a2,a3,a4=>(B8t n a1 a2 a3).bind fun r5=>bif !r5 then some false else let v6:Bool:=((a4.length:Int) !=(a3.length:Int));bif v6 then some false else B9c n n a4 a3 a3.length 0 a1 a2 a3
def B3j:Nat→Y7→Int→Int→Option Y7
  |0,_,_,_=>none
  |n+1,a1,a2,a3=>B1f a1 a2 a3
def C3j:Nat→ByteArray→Y19→(List ByteArray)→Y7→Y4→Y4→Option Y15
  |0,_,_,_,_,_,_=>none
  |n+1,a1,a2,a3,a4,a5,a6=>let v7:Y6:=[];(B8q n a1 a2 a3 a4).bind fun r8=>bif !r8 then let v9:Y6:=[];some (v9,((1:Int),()))else (C2t n a1 a2 a3 a6).bind fun r10=>bif !r10 then let v11:Y6:=[];some (v11,((2:Int),()))else (C4s n a1 a2 a3 a5).bind fun r12=>bif !r12 then let v13:Y6:=[];some (v13,((5:Int),()))else (B7x n a1 a2 a3 a4 a5).bind fun r14=>bif decide (r14<(0:Int))then let v15:Y6:=[];some (v15,((5:Int),()))else (B7w n a1 a2 a3 a6).bind fun r16=>(B3c n r16 a5).bind fun r17=>bif !r17 then (B7x n a1 a2 a3 a4 r16).bind fun r18=>bif decide ((0:Int)≤r18)then let v19:Y6:=[];some (v19,((3:Int),()))else (B7x n a1 a2 a3 a4 a5).bind fun r20=>(B4y n a4).bind fun r21=>(B3j n r21 r20 (IntKind.wrap .i64 (r20+(1:Int)))).bind fun r22=>(C1k n a1 a2 a3 r22 a6).bind fun r23=>some (r23,((0:Int),()))else (B7x n a1 a2 a3 a4 a5).bind fun r24=>(B4y n a4).bind fun r25=>(B3j n r25 r24 (IntKind.wrap .i64 (r24+(1:Int)))).bind fun r26=>(C1k n a1 a2 a3 r26 a6).bind fun r27=>some (r27,((0:Int),()))
def C3h:Nat→ByteArray→Y19→(List ByteArray)→Y7→Y4→Option Y15
  |0,_,_,_,_,_=>none
  |n+1,a1,a2,a3,a4,a5=>let v6:Y6:=[];(B8q n a1 a2 a3 a4).bind fun r7=>bif !r7 then let v8:Y6:=[];some (v8,((1:Int),()))else (C4s n a1 a2 a3 a5).bind fun r9=>bif !r9 then let v10:Y6:=[];some (v10,((5:Int),()))else (B7x n a1 a2 a3 a4 a5).bind fun r11=>bif decide (r11<(0:Int))then let v12:Y6:=[];some (v12,((5:Int),()))else (B7x n a1 a2 a3 a4 a5).bind fun r13=>(B4y n a4).bind fun r14=>(B3j n r14 r13 (IntKind.wrap .i64 (r13+(1:Int)))).bind fun r15=>some (r15,((0:Int),()))
def C9c:Nat→Y24→Y12→Int→ByteArray→Y4→Y4→Int→ByteArray→Y19→(List ByteArray)→ByteArray→ByteArray→Option (Y30×(Int×Unit))
  |0,_,_,_,_,_,_,_,_,_,_,_,_=>none
  |n+1,a1,a2,a3,a4,a5,a6,a7,a8,a9,a10,a11,a12=>let v13:Y23:=[];let v14:Y10:=[];(B6f n a1 a4).bind fun r15=>bif decide (r15<(0:Int))then bif a3 !=(5:Int)then let v16:Y23:=[];let v17:Y10:=[];some ((v16,v17),((4:Int),()))else bif a7 !=(1:Int)then let v18:Y23:=[];let v19:Y10:=[];some ((v18,v19),((4:Int),()))else bif a3==(5:Int)then (C23 n a1 a2 a7 a8 a9 a10 a11 a12).bind fun r20=>let v21:Y23:=[];let v22:Y10:=[];bif r20.2.1 !=(0:Int)then let v23:Y23:=[];let v24:Y10:=[];let v25:Int:=(IntKind.wrap .i64 ((10:Int)+r20.2.1));some ((v23,v24),(v25,()))else some ((r20.1.1,r20.1.2),((0:Int),()))else bif inR r15 a1.length then let v26:=(a1.getD r15.toNat (⟨#[]⟩,([],[])));bif inR r15 a2.length then let v27:=(a2.getD r15.toNat []);let v28:Y18:=[];bif a3==(1:Int)then (C3i n v26.1 v26.2.1 v26.2.2 v27 a6).bind fun r29=>bif r29.2.1 !=(0:Int)then let v30:Y23:=[];let v31:Y10:=[];let v32:Int:=(IntKind.wrap .i64 ((10:Int)+r29.2.1));some ((v30,v31),(v32,()))else (B56 n a1 a2).bind fun r33=>let v34:Y23:=[];let v35:Y10:=[];bif inR r15 r33.2.length then some ((r33.1,(r33.2.set r15.toNat r29.1)),((0:Int),()))else none else bif a3==(2:Int)then (C3j n v26.1 v26.2.1 v26.2.2 v27 a5 a6).bind fun r36=>bif r36.2.1 !=(0:Int)then let v37:Y23:=[];let v38:Y10:=[];let v39:Int:=(IntKind.wrap .i64 ((10:Int)+r36.2.1));some ((v37,v38),(v39,()))else (B56 n a1 a2).bind fun r40=>let v41:Y23:=[];let v42:Y10:=[];bif inR r15 r40.2.length then some ((r40.1,(r40.2.set r15.toNat r36.1)),((0:Int),()))else none else bif a3==(3:Int)then (C3h n v26.1 v26.2.1 v26.2.2 v27 a5).bind fun r43=>bif r43.2.1 !=(0:Int)then let v44:Y23:=[];let v45:Y10:=[];let v46:Int:=(IntKind.wrap .i64 ((10:Int)+r43.2.1));some ((v44,v45),(v46,()))else (B56 n a1 a2).bind fun r47=>let v48:Y23:=[];let v49:Y10:=[];bif inR r15 r47.2.length then some ((r47.1,(r47.2.set r15.toNat r43.1)),((0:Int),()))else none else let v50:Y6:=[];bif (0:Int) !=0 then let v51:Y23:=[];let v52:Y10:=[];let v53:Int:=(IntKind.wrap .i64 ((10:Int)+0));some ((v51,v52),(v53,()))else (B56 n a1 a2).bind fun r54=>let v55:Y23:=[];let v56:Y10:=[];bif inR r15 r54.2.length then some ((r54.1,(r54.2.set r15.toNat v50)),((0:Int),()))else none else none else none else bif a3==(5:Int)then (C23 n a1 a2 a7 a8 a9 a10 a11 a12).bind fun r57=>let v58:Y23:=[];let v59:Y10:=[];bif r57.2.1 !=(0:Int)then let v60:Y23:=[];let v61:Y10:=[];let v62:Int:=(IntKind.wrap .i64 ((10:Int)+r57.2.1));some ((v60,v61),(v62,()))else some ((r57.1.1,r57.1.2),((0:Int),()))else bif inR r15 a1.length then let v63:=(a1.getD r15.toNat (⟨#[]⟩,([],[])));bif inR r15 a2.length then let v64:=(a2.getD r15.toNat []);let v65:Y18:=[];bif a3==(1:Int)then (C3i n v63.1 v63.2.1 v63.2.2 v64 a6).bind fun r66=>bif r66.2.1 !=(0:Int)then let v67:Y23:=[];let v68:Y10:=[];let v69:Int:=(IntKind.wrap .i64 ((10:Int)+r66.2.1));some ((v67,v68),(v69,()))else (B56 n a1 a2).bind fun r70=>let v71:Y23:=[];let v72:Y10:=[];bif inR r15 r70.2.length then some ((r70.1,(r70.2.set r15.toNat r66.1)),((0:Int),()))else none else bif a3==(2:Int)then (C3j n v63.1 v63.2.1 v63.2.2 v64 a5 a6).bind fun r73=>bif r73.2.1 !=(0:Int)then let v74:Y23:=[];let v75:Y10:=[];let v76:Int:=(IntKind.wrap .i64 ((10:Int)+r73.2.1));some ((v74,v75),(v76,()))else (B56 n a1 a2).bind fun r77=>let v78:Y23:=[];let v79:Y10:=[];bif inR r15 r77.2.length then some ((r77.1,(r77.2.set r15.toNat r73.1)),((0:Int),()))else none else bif a3==(3:Int)then (C3h n v63.1 v63.2.1 v63.2.2 v64 a5).bind fun r80=>bif r80.2.1 !=(0:Int)then let v81:Y23:=[];let v82:Y10:=[];let v83:Int:=(IntKind.wrap .i64 ((10:Int)+r80.2.1));some ((v81,v82),(v83,()))else (B56 n a1 a2).bind fun r84=>let v85:Y23:=[];let v86:Y10:=[];bif inR r15 r84.2.length then some ((r84.1,(r84.2.set r15.toNat r80.1)),((0:Int),()))else none else let v87:Y6:=[];bif (0:Int) !=0 then let v88:Y23:=[];let v89:Y10:=[];let v90:Int:=(IntKind.wrap .i64 ((10:Int)+0));some ((v88,v89),(v90,()))else (B56 n a1 a2).bind fun r91=>let v92:Y23:=[];let v93:Y10:=[];bif inR r15 r91.2.length then some ((r91.1,(r91.2.set r15.toNat v87)),((0:Int),()))else none else none else none
def B8a (n:Nat):Nat→ByteArray→Nat→Nat→Int→Int→Y23→Y10→Y23→Y10→List ByteArray→Option (Y30×(Bool×Unit))
  |0,_,_,_,_,_,_,_,_,_,_=>none
  |j+1,x18,x19,x20,x21,x22,x23,x24,x25,x26,x27=>bif decide (x22<x21)then bif inR x22 x20 then let v28:ByteArray:=(x27.getD (x19+x22.toNat) (⟨#[]⟩:ByteArray));(C34 n v28).bind fun r29=>let v30:Y18:=[];bif !r29.2.1 then let v31:Y23:=[];let v32:Y10:=[];some ((v31,v32),(false,()))else (C9c n x25 x26 r29.1.1 r29.1.2.1 r29.1.2.2.1 r29.1.2.2.2.1 r29.1.2.2.2.2.1 r29.1.2.2.2.2.2.1 r29.1.2.2.2.2.2.2.1 r29.1.2.2.2.2.2.2.2.1 r29.1.2.2.2.2.2.2.2.2.1 r29.1.2.2.2.2.2.2.2.2.2).bind fun r33=>let v34:Y23:=[];let v35:Y10:=[];bif r33.2.1 !=(0:Int)then let v36:Y23:=[];let v37:Y10:=[];some ((v36,v37),(false,()))else B8a n j x18 x19 x20 x21 (IntKind.wrap .i64 (x22+(1:Int))) x23 x24 r33.1.1 r33.1.2 x27 else none else (C3g n x25 x26).bind fun r38=>bif !(r38.toList==x18.toList)then let v39:Y23:=[];let v40:Y10:=[];some ((v39,v40),(false,()))else some ((x25,x26),(true,()))
def C59:Nat→ByteArray→Option (Y30×(Bool×Unit))
  |0,_=>none
  |n+1,a1=>let v2:Y23:=[];let v3:Y10:=[];(C8t n a1 10).bind fun r4=>let v5:Int:=(IntKind.wrap .i64 ((r4.length:Int) - 1));bif inR v5 r4.length then let v6:Bool:=(!((r4.getD v5.toNat ⟨#[]⟩).toList==(⟨#[]⟩:ByteArray).toList));bif v6 then let v7:Y23:=[];let v8:Y10:=[];some ((v7,v8),(false,()))else let v9:Bool:=(decide ((367:Int)<(r4.length:Int)));bif v9 then let v10:Y23:=[];let v11:Y10:=[];some ((v10,v11),(false,()))else let v12:Y23:=[];let v13:Y10:=[];let v14:Y23:=[];let v15:Y10:=[];let v16:Int:=(IntKind.wrap .i64 ((r4.length:Int) - 1));bif decide (0≤((0:Nat):Int)∧((0:Nat):Int)≤v16∧v16≤(r4.length:Int))then let v17:Int:=(((v16.toNat - ((0:Nat):Int).toNat):Nat):Int);B8a n n a1 (((0:Nat):Int).toNat) (v16.toNat - ((0:Nat):Int).toNat) v17 0 v2 v3 v12 v13 r4 else none else none
def C0e:Nat→ByteArray→Y19→(List ByteArray)→ByteArray→Y19→(List ByteArray)→Option Bool
  |0,_,_,_,_,_,_=>none
  |n+1,a1,a2,a3,a4,a5,a6=>bif a1.toList==a4.toList then (B3z n a2 a5).bind fun r7=>bif r7 then (B4g n a3 a6).bind fun r8=>some r8 else some false else some false
def C12:Nat→Y4→Y4→Option Bool
  |0,_,_=>none
  |n+1,a1,a2=>(B3c n a1 a2).bind fun r3=>some r3
def B29 (n:Nat):Nat→Y6→Y6→Int→Int→Option Bool
  |0,_,_,_,_=>none
  |j+1,x4,x5,x6,x7=>bif decide (x7<x6)then bif inR x7 x5.length then let v8:=(x5.getD x7.toNat []);bif inR x7 x4.length then let v9:=(x4.getD x7.toNat []);(C12 n v8 v9).bind fun r10=>bif !r10 then some false else B29 n j x4 x5 x6 (IntKind.wrap .i64 (x7+(1:Int)))else none else none else some true
def B2r:Nat→Y7→Y7→Option Bool
  |0,_,_=>none
  |n+1,a1,a2=>let v3:Bool:=((a1.length:Int) !=(a2.length:Int));bif v3 then some false else B29 n n a2 a1 a1.length 0
def C33:Nat→Y7→Y7→Option Bool
  |0,_,_=>none
  |n+1,a1,a2=>(B2r n a1 a2).bind fun r3=>some r3
def B75:Nat→(List ByteArray)→Option ((List ByteArray)×Unit)
  |0,_=>none
  |n+1,a1=>(B0g a1).map fun x=>(x,())
def B5d (n:Nat):Nat→Y23→Int→Int→Y23→Y10→List ByteArray→Option (List ByteArray)
  |0,_,_,_,_,_,_=>none
  |j+1,x23,x24,x25,x26,x27,x28=>bif decide (x25<x24)then bif inR x25 x23.length then let v29:=(x23.getD x25.toNat (⟨#[]⟩,([],[])));let v30:Y18:=[];(B6f n x26 v29.1).bind fun r31=>bif decide (r31<(0:Int))then bif room (x28.length+([v29.1]:List ByteArray).length) 16 then B5d n j x23 x24 (IntKind.wrap .i64 (x25+(1:Int))) x26 x27 (x28++([v29.1]:List ByteArray))else none else B5d n j x23 x24 (IntKind.wrap .i64 (x25+(1:Int))) x26 x27 x28 else none else (B75 n x28).bind fun r32=>some r32.1
def B5c (n:Nat):Nat→Y23→Int→Int→Y23→Y10→Y23→Y10→List ByteArray→Option (List ByteArray)
  |0,_,_,_,_,_,_,_,_=>none
  |j+1,x7,x8,x9,x10,x11,x12,x13,x14=>bif decide (x9<x8)then bif inR x9 x7.length then let v15:=(x7.getD x9.toNat (⟨#[]⟩,([],[])));let v16:Y18:=[];(B6f n x12 v15.1).bind fun r17=>bif decide (r17<(0:Int))then bif room (x14.length+([v15.1]:List ByteArray).length) 16 then B5c n j x7 x8 (IntKind.wrap .i64 (x9+(1:Int))) x10 x11 x12 x13 (x14++([v15.1]:List ByteArray))else none else bif inR r17 x12.length then let v18:=(x12.getD r17.toNat (⟨#[]⟩,([],[])));(C0e n v15.1 v15.2.1 v15.2.2 v18.1 v18.2.1 v18.2.2).bind fun r19=>bif !r19 then bif room (x14.length+([v15.1]:List ByteArray).length) 16 then B5c n j x7 x8 (IntKind.wrap .i64 (x9+(1:Int))) x10 x11 x12 x13 (x14++([v15.1]:List ByteArray))else none else bif inR x9 x11.length then let v20:=(x11.getD x9.toNat []);bif inR r17 x13.length then let v21:=(x13.getD r17.toNat []);(C33 n v20 v21).bind fun r22=>bif !r22 then bif room (x14.length+([v15.1]:List ByteArray).length) 16 then B5c n j x7 x8 (IntKind.wrap .i64 (x9+(1:Int))) x10 x11 x12 x13 (x14++([v15.1]:List ByteArray))else none else B5c n j x7 x8 (IntKind.wrap .i64 (x9+(1:Int))) x10 x11 x12 x13 x14 else none else none else none else none else B5d n n x12 x12.length 0 x10 x11 x14
def C6a:Nat→Y24→Y12→Y24→Y12→Option (List ByteArray)
  |0,_,_,_,_=>none
  |n+1,a1,a2,a3,a4=>(C1j n a1 a2).bind fun r5=>bif !r5 then some ([]:List ByteArray)else (C1j n a3 a4).bind fun r6=>bif !r6 then some ([]:List ByteArray)else B5c n n a1 a1.length 0 a1 a2 a3 a4 ([]:List ByteArray)
def C57:Nat→Y24→Y12→Y24→Y12→Option Bool
  |0,_,_,_,_=>none
  |n+1,a1,a2,a3,a4=>(C1j n a1 a2).bind fun r5=>bif r5 then (C1j n a3 a4).bind fun r6=>bif r6 then (C6a n a1 a2 a3 a4).bind fun r7=>some ((r7.length:Int)==0)else some false else some false
def D5a:Nat→(List Int)→Option Bool
  |0,_=>none
  |n+1,a1=>let v2:Bool:=(decide ((1048576:Int)<(a1.length:Int)));bif v2 then some true else (C15 n a1).bind fun r3=>let v4:Y23:=[];let v5:Y10:=[];(C3g n r3.1 r3.2).bind fun r6=>(C5f n r3.1 r3.2).bind fun r7=>bif !(r6.toList==r7.toList)then some false else (C59 n r6).bind fun r8=>let v9:Y23:=[];let v10:Y10:=[];(C6e n r3.1 r3.2).bind fun r11=>bif !r11 then let v12:Bool:=(r6.toList==(⟨#[]⟩:ByteArray).toList);some v12 else bif r8.2.1 then (C57 n r3.1 r3.2 r8.1.1 r8.1.2).bind fun r13=>bif r13 then (C6a n r3.1 r3.2 r8.1.1 r8.1.2).bind fun r14=>some ((r14.length:Int)==0)else some false else some false
end Go.Proofs.YtalmhjlcjcnidaaGreat.Ev
