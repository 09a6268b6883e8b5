/- The functions that the law FnExec reaches, as typed functions. -/
import Derived.Test.YtalmhjlcjcnidaaGreatEvCore
set_option linter.all false
namespace Go.Proofs.YtalmhjlcjcnidaaGreat.Ev
open Go
abbrev Y1:Type:=(Int×(Int×ByteArray))
abbrev Y2:Type:=((List Int)×(Int×Int))
abbrev Y3:Type:=List Y1
abbrev Y4:Type:=(Y3)
abbrev Y5:Type:=(Bool×Y1)
abbrev Y6:Type:=List Y4
abbrev Y7:Type:=(Y6)
abbrev Y8:Type:=(Int×(Y2×Unit))
abbrev Y9:Type:=(Bool×Y5)
abbrev Y10:Type:=List Y7
abbrev Y11:Type:=((List ByteArray)×(ByteArray×ByteArray))
abbrev Y12:Type:=(Y10)
abbrev Y13:Type:=(ByteArray×(Y2×Unit))
abbrev Y14:Type:=(Int×Y9)
abbrev Y15:Type:=(Y7×(Int×Unit))
abbrev Y16:Type:=(ByteArray×Y14)
abbrev Y17:Type:=(Y1×(Y2×Unit))
abbrev Y18:Type:=List Y16
abbrev Y19:Type:=(Y18)
abbrev Y20:Type:=(Y4×(Y2×Unit))
abbrev Y21:Type:=(Y19×(List ByteArray))
abbrev Y22:Type:=(ByteArray×Y21)
abbrev Y23:Type:=List Y22
abbrev Y24:Type:=(Y23)
abbrev Y25:Type:=(Y19×Y11)
abbrev Y26:Type:=(Y24×(Int×Unit))
abbrev Y27:Type:=(ByteArray×Y25)
abbrev Y28:Type:=(Int×Y27)
abbrev Y29:Type:=(Y22×(Y2×Unit))
abbrev Y30:Type:=(Y24×(Y2×Unit))
abbrev Y31:Type:=(Y24×Y12)
abbrev Y32:Type:=(Y4×Y28)
abbrev Y33:Type:=(Y28×(Y2×Unit))
abbrev Y34:Type:=(Y4×Y32)
abbrev Y35:Type:=(ByteArray×Y34)
abbrev Y36:Type:=((Int×Y35)×(Y2×Unit))
def B7x (n:Nat):Nat→List Int→Int→Int→Option (Y2×Unit)
  |0,_,_,_=>none
  |j+1,x3,x4,x5=>bif decide (x5<(x3.length:Int))then bif decide (x5<(4000:Int))then bif inR x5 x3.length then let v6:Int:=(IntKind.wrap .i64 (x3.getD x5.toNat 0));let v7:Int:=(IntKind.wrap .i64 ((IntKind.wrap .i64 (x4*(157:Int)))+v6));let v8:Int:=(IntKind.wrap .i64 ((BitVec.ofInt (IntKind.bits .i64) (IntKind.wrap .i64 (v7+(7:Int)))&&&BitVec.ofInt (IntKind.bits .i64) 1073741823).toNat:Int));B7x n j x3 v8 (IntKind.wrap .i64 (x5+(1:Int)))else none else some ((x3,((0:Int),x4)),())else some ((x3,((0:Int),x4)),())
def C3r:Nat→(List Int)→Option (Y2×Unit)
  |0,_=>none
  |n+1,a1=>let v2:Int:=(IntKind.wrap .i64 ((942001:Int)+(a1.length:Int)));B7x n n a1 v2 0
def B5t:Nat→(List Int)→Int→Int→Option Y8
  |0,_,_,_=>none
  |n+1,a1,a2,a3=>let v4:Int:=(IntKind.wrap .i64 (a3*(6364136223846793005:Int)));let v5:Int:=(IntKind.wrap .i64 (v4+(1442695040888963407:Int)));bif decide (0≤(33:Int))then let v6:Int:=(Int.fdiv v5 (2^min (33:Int).toNat (IntKind.bits .i64)));bif decide (0≤(45:Int))then let v7:Int:=(Int.fdiv v5 (2^min (45:Int).toNat (IntKind.bits .i64)));let v8:Int:=(IntKind.wrap .i64 ((BitVec.ofInt (IntKind.bits .i64) v6^^^BitVec.ofInt (IntKind.bits .i64) v7).toNat:Int));let v9:Int:=(IntKind.wrap .i64 ((BitVec.ofInt (IntKind.bits .i64) v8&&&BitVec.ofInt (IntKind.bits .i64) 255).toNat:Int));bif decide (a2<(a1.length:Int))then bif inR a2 a1.length then let v10:Int:=(IntKind.wrap .i64 (a1.getD a2.toNat 0));let v11:Int:=(IntKind.wrap .i64 ((BitVec.ofInt (IntKind.bits .i64) (IntKind.wrap .i64 (v9+v10))&&&BitVec.ofInt (IntKind.bits .i64) 255).toNat:Int));some (v11,((a1,((IntKind.wrap .i64 (a2+(1:Int))),v5)),()))else none else some (v9,((a1,(a2,v5)),()))else none else none
def D0:Nat→(List Int)→Int→Int→Int→Option Y8
  |0,_,_,_,_=>none
  |n+1,a1,a2,a3,a4=>bif decide (a4≤(0:Int))then some ((0:Int),((a1,(a2,a3)),()))else bif decide (a4≤(256:Int))then (B5t n a1 a2 a3).bind fun r5=>bif !decide (a4=0)then some ((Int.tmod r5.1 a4),((r5.2.1.1,(r5.2.1.2.1,r5.2.1.2.2)),()))else none else (B5t n a1 a2 a3).bind fun r6=>(B5t n r6.2.1.1 r6.2.1.2.1 r6.2.1.2.2).bind fun r7=>(B5t n r7.2.1.1 r7.2.1.2.1 r7.2.1.2.2).bind fun r8=>(B5t n r8.2.1.1 r8.2.1.2.1 r8.2.1.2.2).bind fun r9=>let v10:Int:=(IntKind.wrap .i64 (r6.1*(16777216:Int)));let v11:Int:=(IntKind.wrap .i64 (r7.1*(65536:Int)));let v12:Int:=(IntKind.wrap .i64 (r8.1*(256:Int)));let v13:Int:=(IntKind.wrap .i64 ((IntKind.wrap .i64 (v10+v11))+v12));bif !decide (a4=0)then let v14:Int:=(Int.tmod (IntKind.wrap .i64 (v13+r9.1)) a4);some (v14,((r9.2.1.1,(r9.2.1.2.1,r9.2.1.2.2)),()))else none
def B5u:Nat→(List Int)→Int→Int→Option Y13
  |0,_,_,_=>none
  |n+1,a1,a2,a3=>let v4:List ByteArray:=[(⟨#[105,100]⟩:ByteArray),(⟨#[97]⟩:ByteArray),(⟨#[98]⟩:ByteArray),(⟨#[99]⟩:ByteArray),(⟨#[100]⟩:ByteArray),(⟨#[101]⟩:ByteArray)];(D0 n a1 a2 a3 6).bind fun r5=>bif inR r5.1 v4.length then let v6:ByteArray:=(v4.getD r5.1.toNat ⟨#[]⟩);some (v6,((r5.2.1.1,(r5.2.1.2.1,r5.2.1.2.2)),()))else none
def B90 (n:Nat):Nat→ByteArray→Y18→Int→Int→Option Int
  |0,_,_,_,_=>none
  |j+1,x5,x6,x7,x8=>bif decide (x8<x7)then bif inR x8 x6.length then let v9:=(x6.getD x8.toNat (⟨#[]⟩,(0,(false,(false,(0,(0,⟨#[]⟩)))))));bif v9.1.toList==x5.toList then some x8 else B90 n j x5 x6 x7 (IntKind.wrap .i64 (x8+(1:Int)))else none else some (-1:Int)
def B5b:Nat→ByteArray→Y19→(List ByteArray)→ByteArray→Option Int
  |0,_,_,_,_=>none
  |n+1,a1,a2,a3,a4=>B90 n n a4 a2 a2.length 0
def B7y (n:Nat):Nat→Int→Int→List Int→Int→Int→List Int→Option Y13
  |0,_,_,_,_,_,_=>none
  |j+1,x8,x9,x10,x11,x12,x13=>bif decide (x9<x8)then (B5t n x10 x11 x12).bind fun r14=>bif room (x13.length+([(IntKind.wrap .u8 r14.1)]:List Int).length) 1 then let v15:List Int:=(x13++([(IntKind.wrap .u8 r14.1)]:List Int));B7y n j x8 (IntKind.wrap .i64 (x9+(1:Int))) r14.2.1.1 r14.2.1.2.1 r14.2.1.2.2 v15 else none else some ((strOfNums x13),((x10,(x11,x12)),()))
def C3t:Nat→(List Int)→Int→Int→Option Y13
  |0,_,_,_=>none
  |n+1,a1,a2,a3=>(D0 n a1 a2 a3 10).bind fun r4=>bif decide (r4.1<(7:Int))then let v5:List ByteArray:=[(⟨#[]⟩:ByteArray),(⟨#[97]⟩:ByteArray),(⟨#[98]⟩:ByteArray),(⟨#[97,98]⟩:ByteArray),(⟨#[116,114,117,101]⟩:ByteArray),(⟨#[102,97,108,115,101]⟩:ByteArray),(⟨#[49,50]⟩:ByteArray)];bif inR r4.1 v5.length then let v6:ByteArray:=(v5.getD r4.1.toNat ⟨#[]⟩);some (v6,((r4.2.1.1,(r4.2.1.2.1,r4.2.1.2.2)),()))else none else bif r4.1==(7:Int)then some ((⟨#[105,116,39,115,32,53,37,10]⟩:ByteArray),((r4.2.1.1,(r4.2.1.2.1,r4.2.1.2.2)),()))else (D0 n r4.2.1.1 r4.2.1.2.1 r4.2.1.2.2 31).bind fun r7=>B7y n n r7.1 0 r7.2.1.1 r7.2.1.2.1 r7.2.1.2.2 ([]:List Int)
def C0k:Nat→(List Int)→Int→Int→Int→Option Y17
  |0,_,_,_,_=>none
  |n+1,a1,a2,a3,a4=>(D0 n a1 a2 a3 8).bind fun r5=>bif r5.1==(0:Int)then some (((0:Int),((0:Int),(⟨#[]⟩:ByteArray))),((r5.2.1.1,(r5.2.1.2.1,r5.2.1.2.2)),()))else bif a4==(1:Int)then (D0 n r5.2.1.1 r5.2.1.2.1 r5.2.1.2.2 2).bind fun r6=>some ((a4,(r6.1,(⟨#[]⟩:ByteArray))),((r6.2.1.1,(r6.2.1.2.1,r6.2.1.2.2)),()))else bif a4==(2:Int)then (D0 n r5.2.1.1 r5.2.1.2.1 r5.2.1.2.2 12).bind fun r7=>some ((a4,((IntKind.wrap .i64 (r7.1 - 2)),(⟨#[]⟩:ByteArray))),((r7.2.1.1,(r7.2.1.2.1,r7.2.1.2.2)),()))else bif a4==(3:Int)then (C3t n r5.2.1.1 r5.2.1.2.1 r5.2.1.2.2).bind fun r8=>some ((a4,((0:Int),r8.1)),((r8.2.1.1,(r8.2.1.2.1,r8.2.1.2.2)),()))else some (((0:Int),((0:Int),(⟨#[]⟩:ByteArray))),((r5.2.1.1,(r5.2.1.2.1,r5.2.1.2.2)),()))
def C0t:Nat→(List Int)→Int→Int→ByteArray→Option (Y16×(Y2×Unit))
  |0,_,_,_,_=>none
  |n+1,a1,a2,a3,a4=>(D0 n a1 a2 a3 3).bind fun r5=>(D0 n r5.2.1.1 r5.2.1.2.1 r5.2.1.2.2 3).bind fun r6=>(D0 n r6.2.1.1 r6.2.1.2.1 r6.2.1.2.2 2).bind fun r7=>bif r7.1==(0:Int)then (C0k n r7.2.1.1 r7.2.1.2.1 r7.2.1.2.2 (IntKind.wrap .i64 ((1:Int)+r5.1))).bind fun r8=>bif r6.1==(0:Int)then bif r8.1.1==(0:Int)then some ((a4,((IntKind.wrap .i64 ((1:Int)+r5.1)),((r6.1==(0:Int)),((r7.1==(0:Int)),((IntKind.wrap .i64 ((1:Int)+r5.1)),((0:Int),(⟨#[]⟩:ByteArray))))))),((r8.2.1.1,(r8.2.1.2.1,r8.2.1.2.2)),()))else some ((a4,((IntKind.wrap .i64 ((1:Int)+r5.1)),((r6.1==(0:Int)),((r7.1==(0:Int)),(r8.1.1,(r8.1.2.1,r8.1.2.2)))))),((r8.2.1.1,(r8.2.1.2.1,r8.2.1.2.2)),()))else some ((a4,((IntKind.wrap .i64 ((1:Int)+r5.1)),((r6.1==(0:Int)),((r7.1==(0:Int)),(r8.1.1,(r8.1.2.1,r8.1.2.2)))))),((r8.2.1.1,(r8.2.1.2.1,r8.2.1.2.2)),()))else some ((a4,((IntKind.wrap .i64 ((1:Int)+r5.1)),((r6.1==(0:Int)),((r7.1==(0:Int)),((0:Int),((0:Int),(⟨#[]⟩:ByteArray))))))),((r7.2.1.1,(r7.2.1.2.1,r7.2.1.2.2)),()))
def B5e (n:Nat):Nat→Int→List Int→Int→Int→ByteArray→Y18→List ByteArray→ByteArray→Y18→List ByteArray→Option Y29
  |0,_,_,_,_,_,_,_,_,_,_=>none
  |j+1,x10,x11,x12,x13,x14,x15,x16,x17,x18,x19=>bif decide ((0:Int)<x10)then (B5u n x11 x12 x13).bind fun r20=>(B5b n x17 x18 x19 r20.1).bind fun r21=>bif decide (r21<(0:Int))then (C0t n r20.2.1.1 r20.2.1.2.1 r20.2.1.2.2 r20.1).bind fun r22=>let v23:Y18:=[(r22.1.1,(r22.1.2.1,(r22.1.2.2.1,(r22.1.2.2.2.1,(r22.1.2.2.2.2.1,(r22.1.2.2.2.2.2.1,r22.1.2.2.2.2.2.2))))))];bif room (x18.length+v23.length) 64 then B5e n j (IntKind.wrap .i64 (x10 - 1)) r22.2.1.1 r22.2.1.2.1 r22.2.1.2.2 x14 x15 x16 x17 (x18++v23) x19 else none else B5e n j (IntKind.wrap .i64 (x10 - 1)) r20.2.1.1 r20.2.1.2.1 r20.2.1.2.2 x14 x15 x16 x17 x18 x19 else let v24:Int:=(IntKind.wrap .i64 ((x18.length:Int) - 1));bif inR v24 x18.length then let v25:ByteArray:=(x18.getD v24.toNat (⟨#[]⟩,(0,(false,(false,(0,(0,⟨#[]⟩))))))).1;let v26:Int:=(x18.getD v24.toNat (⟨#[]⟩,(0,(false,(false,(0,(0,⟨#[]⟩))))))).2.1;let v27:Bool:=(x18.getD v24.toNat (⟨#[]⟩,(0,(false,(false,(0,(0,⟨#[]⟩))))))).2.2.1;let v28:Bool:=(x18.getD v24.toNat (⟨#[]⟩,(0,(false,(false,(0,(0,⟨#[]⟩))))))).2.2.2.1;let v29:Int:=(x18.getD v24.toNat (⟨#[]⟩,(0,(false,(false,(0,(0,⟨#[]⟩))))))).2.2.2.2.1;let v30:Int:=(x18.getD v24.toNat (⟨#[]⟩,(0,(false,(false,(0,(0,⟨#[]⟩))))))).2.2.2.2.2.1;let v31:ByteArray:=(x18.getD v24.toNat (⟨#[]⟩,(0,(false,(false,(0,(0,⟨#[]⟩))))))).2.2.2.2.2.2;bif v27 then let v32:Bool:=(decide ((1:Int)<(x18.length:Int)));bif v32 then (D0 n x11 x12 x13 3).bind fun r33=>bif r33.1==(0:Int)then bif room (x19.length+([v25]:List ByteArray).length) 16 then some ((x17,(x18,(x19++([v25]:List ByteArray)))),((r33.2.1.1,(r33.2.1.2.1,r33.2.1.2.2)),()))else none else some ((x17,(x18,x19)),((r33.2.1.1,(r33.2.1.2.1,r33.2.1.2.2)),()))else some ((x17,(x18,x19)),((x11,(x12,x13)),()))else some ((x17,(x18,x19)),((x11,(x12,x13)),()))else none
def B7g:Nat→(List Int)→Int→Int→ByteArray→Option Y29
  |0,_,_,_,_=>none
  |n+1,a1,a2,a3,a4=>let v5:Y18:=[];let v6:Y18:=[((⟨#[105,100]⟩:ByteArray),((2:Int),(true,(false,((0:Int),((0:Int),(⟨#[]⟩:ByteArray)))))))];let v7:List ByteArray:=[(⟨#[105,100]⟩:ByteArray)];let v8:Y18:=[];(D0 n a1 a2 a3 4).bind fun r9=>B5e n n r9.1 r9.2.1.1 r9.2.1.2.1 r9.2.1.2.2 (⟨#[]⟩:ByteArray) v5 ([]:List ByteArray) a4 v6 v7
def B6c (n:Nat):Nat→Int→Int→List Int→Int→Int→Y23→Y23→List ByteArray→Option Y30
  |0,_,_,_,_,_,_,_,_=>none
  |j+1,x8,x9,x10,x11,x12,x13,x14,x15=>bif decide (x9<x8)then bif inR x9 x15.length then (D0 n x10 x11 x12 3).bind fun r16=>bif decide ((0:Int)<r16.1)then (B7g n r16.2.1.1 r16.2.1.2.1 r16.2.1.2.2 (x15.getD x9.toNat ⟨#[]⟩)).bind fun r17=>let v18:Y23:=[(r17.1.1,(r17.1.2.1,r17.1.2.2))];bif room (x14.length+v18.length) 64 then B6c n j x8 (IntKind.wrap .i64 (x9+(1:Int))) r17.2.1.1 r17.2.1.2.1 r17.2.1.2.2 x13 (x14++v18) x15 else none else B6c n j x8 (IntKind.wrap .i64 (x9+(1:Int))) r16.2.1.1 r16.2.1.2.1 r16.2.1.2.2 x13 x14 x15 else none else some (x14,((x10,(x11,x12)),()))
def C2b:Nat→(List Int)→Int→Int→Option Y30
  |0,_,_,_=>none
  |n+1,a1,a2,a3=>let v4:Y23:=[];let v5:Y23:=[];let v6:Y23:=[];let v7:List ByteArray:=[(⟨#[111]⟩:ByteArray),(⟨#[116]⟩:ByteArray),(⟨#[117]⟩:ByteArray)];B6c n n v7.length 0 a1 a2 a3 v4 v5 v7
def B6x (n:Nat)(k0:Y18→Int→Int→List Int→Int→Int→Y3→Y3→Option Y20):Nat→Int→Y18→Int→Int→List Int→Int→Int→Y3→Y3→ByteArray→Int→Bool→Bool→Int→Int→ByteArray→Int→Int→ByteArray→Option Y20
  |0,_,_,_,_,_,_,_,_,_,_,_,_,_,_,_,_,_,_,_=>none
  |j+1,x17,x18,x19,x20,x21,x22,x23,x24,x25,x26,x27,x28,x29,x30,x31,x32,x33,x34,x35=>bif decide (x17<(9:Int))then bif x28 then bif x33==(0:Int)then (C0k n x21 x22 x23 x27).bind fun r36=>B6x n k0 j (IntKind.wrap .i64 (x17+(1:Int))) x18 x19 x20 r36.2.1.1 r36.2.1.2.1 r36.2.1.2.2 x24 x25 x26 x27 x28 x29 x30 x31 x32 r36.1.1 r36.1.2.1 r36.1.2.2 else let v37:Y3:=[(x33,(x34,x35))];bif room (x25.length+v37.length) 32 then k0 x18 x19 (IntKind.wrap .i64 (x20+(1:Int))) x21 x22 x23 x24 (x25++v37)else none else let v38:Y3:=[(x33,(x34,x35))];bif room (x25.length+v38.length) 32 then k0 x18 x19 (IntKind.wrap .i64 (x20+(1:Int))) x21 x22 x23 x24 (x25++v38)else none else let v39:Y3:=[(x33,(x34,x35))];bif room (x25.length+v39.length) 32 then k0 x18 x19 (IntKind.wrap .i64 (x20+(1:Int))) x21 x22 x23 x24 (x25++v39)else none
def B40 (n:Nat):Nat→Y18→Int→Int→List Int→Int→Int→Y3→Y3→Option Y20
  |0,_,_,_,_,_,_,_,_=>none
  |j+1,x7,x8,x9,x10,x11,x12,x13,x14=>bif decide (x9<x8)then bif inR x9 x7.length then let v15:=(x7.getD x9.toNat (⟨#[]⟩,(0,(false,(false,(0,(0,⟨#[]⟩)))))));(C0k n x10 x11 x12 v15.2.1).bind fun r16=>B6x n (fun y40 y41 y42 y43 y44 y45 y46 y47=>B40 n j y40 y41 y42 y43 y44 y45 y46 y47) n 0 x7 x8 x9 r16.2.1.1 r16.2.1.2.1 r16.2.1.2.2 x13 x14 v15.1 v15.2.1 v15.2.2.1 v15.2.2.2.1 v15.2.2.2.2.1 v15.2.2.2.2.2.1 v15.2.2.2.2.2.2 r16.1.1 r16.1.2.1 r16.1.2.2 else none else some (x14,((x10,(x11,x12)),()))
def B8f:Nat→(List Int)→Int→Int→ByteArray→Y19→(List ByteArray)→Option Y20
  |0,_,_,_,_,_,_=>none
  |n+1,a1,a2,a3,a4,a5,a6=>B40 n n a5 a5.length 0 a1 a2 a3 ([]:Y3) ([]:Y3)
def B7w (n:Nat):Nat→ByteArray→Int→Option Bool
  |0,_,_=>none
  |j+1,x2,x3=>bif decide (x3<(x2.size:Int))then bif inR x3 x2.size then bif decide ((bt x2 x3)<97)then some false else bif inR x3 x2.size then bif decide ((122:Int)<(bt x2 x3))then some false else B7w n j x2 (IntKind.wrap .i64 (x3+(1:Int)))else none else none else bif decide ((1:Int)≤(x2.size:Int))then some (decide ((x2.size:Int)≤8))else some false
def B61:Nat→ByteArray→Option Bool
  |0,_=>none
  |n+1,a1=>B7w n n a1 0
def C3s:Nat→Int→Option Bool
  |0,_=>none
  |n+1,a1=>bif decide ((-1099511627775:Int)≤a1)then some (decide (a1≤(1099511627775:Int)))else some false
def B8e:Nat→Int→Int→ByteArray→Option Bool
  |0,_,_,_=>none
  |n+1,a1,a2,a3=>bif a1==(0:Int)then bif a2==(0:Int)then let v4:Bool:=(a3.toList==(⟨#[]⟩:ByteArray).toList);some v4 else some false else bif a1==(1:Int)then bif a2==(0:Int)then let v5:Bool:=(a3.toList==(⟨#[]⟩:ByteArray).toList);some v5 else bif a2==(1:Int)then let v6:Bool:=(a3.toList==(⟨#[]⟩:ByteArray).toList);some v6 else some false else bif a1==(2:Int)then (C3s n a2).bind fun r7=>bif r7 then let v8:Bool:=(a3.toList==(⟨#[]⟩:ByteArray).toList);some v8 else some false else bif a1==(3:Int)then bif a2==(0:Int)then some (decide ((a3.size:Int)≤30))else some false else some false
def C1s:Nat→ByteArray→Int→Bool→Bool→Int→Int→ByteArray→Option Bool
  |0,_,_,_,_,_,_,_=>none
  |n+1,a1,a2,a3,a4,a5,a6,a7=>let v8:Bool:=((a5==(0:Int))&&((a6==(0:Int))&&((a7.toList==(⟨#[]⟩:ByteArray).toList)&&true)));(B61 n a1).bind fun r9=>bif !r9 then some false else bif decide (a2<(1:Int))then some false else bif decide ((3:Int)<a2)then some false else bif !a4 then some v8 else (B8e n a5 a6 a7).bind fun r10=>bif r10 then bif v8 then bif v8 then some (!a3)else some true else bif a5==a2 then bif v8 then some (!a3)else some true else some false else some false
def B5d (n:Nat):Nat→Int→List ByteArray→Int→Int→ByteArray→Y18→List ByteArray→Option Bool
  |0,_,_,_,_,_,_,_=>none
  |j+1,x17,x18,x19,x20,x21,x22,x23=>bif decide (x20<x19)then bif inR x20 x18.length then let v24:ByteArray:=(x18.getD x20.toNat ⟨#[]⟩);(B5b n x21 x22 x23 v24).bind fun r25=>bif decide (r25≤x17)then some false else bif inR r25 x22.length then let v26:=(x22.getD r25.toNat (⟨#[]⟩,(0,(false,(false,(0,(0,⟨#[]⟩)))))));bif !v26.2.2.1 then some false else B5d n j r25 x18 x19 (IntKind.wrap .i64 (x20+(1:Int))) x21 x22 x23 else none else none else some true
def B5c (n:Nat):Nat→Y18→Int→Int→ByteArray→Y18→List ByteArray→Option Bool
  |0,_,_,_,_,_,_=>none
  |j+1,x8,x9,x10,x11,x12,x13=>bif decide (x10<x9)then bif inR x10 x8.length then let v14:=(x8.getD x10.toNat (⟨#[]⟩,(0,(false,(false,(0,(0,⟨#[]⟩)))))));(C1s n v14.1 v14.2.1 v14.2.2.1 v14.2.2.2.1 v14.2.2.2.2.1 v14.2.2.2.2.2.1 v14.2.2.2.2.2.2).bind fun r15=>bif !r15 then some false else (B5b n x11 x12 x13 v14.1).bind fun r16=>bif r16 !=x10 then some false else B5c n j x8 x9 (IntKind.wrap .i64 (x10+(1:Int))) x11 x12 x13 else none else B5d n n (-1:Int) x13 x13.length 0 x11 x12 x13
def B5s:Nat→ByteArray→Y19→(List ByteArray)→Option Bool
  |0,_,_,_=>none
  |n+1,a1,a2,a3=>(B61 n a1).bind fun r4=>bif !r4 then some false else let v5:Bool:=(decide ((a2.length:Int)<1));bif v5 then some false else let v6:Bool:=(decide ((8:Int)<(a2.length:Int)));bif v6 then some false else let v7:Bool:=(decide ((a3.length:Int)<1));bif v7 then some false else B5c n n a2 a2.length 0 a1 a2 a3
def C1h:Nat→ByteArray→Int→Bool→Bool→Int→Int→ByteArray→Int→Int→ByteArray→Option Bool
  |0,_,_,_,_,_,_,_,_,_,_=>none
  |n+1,a1,a2,a3,a4,a5,a6,a7,a8,a9,a10=>bif a8==(0:Int)then (B8e n a8 a9 a10).bind fun r11=>bif r11 then some (!a3)else some false else (B8e n a8 a9 a10).bind fun r12=>bif r12 then some (a8==a2)else some false
def B94 (n:Nat):Nat→Y18→Int→Int→Y3→Option Bool
  |0,_,_,_,_=>none
  |j+1,x7,x8,x9,x10=>bif decide (x9<x8)then bif inR x9 x7.length then let v11:=(x7.getD x9.toNat (⟨#[]⟩,(0,(false,(false,(0,(0,⟨#[]⟩)))))));bif inR x9 x10.length then let v12:=(x10.getD x9.toNat (0,(0,⟨#[]⟩)));(C1h n v11.1 v11.2.1 v11.2.2.1 v11.2.2.2.1 v11.2.2.2.2.1 v11.2.2.2.2.2.1 v11.2.2.2.2.2.2 v12.1 v12.2.1 v12.2.2).bind fun r13=>bif !r13 then some false else B94 n j x7 x8 (IntKind.wrap .i64 (x9+(1:Int))) x10 else none else none else some true
def C0j:Nat→ByteArray→Y19→(List ByteArray)→Y4→Option Bool
  |0,_,_,_,_=>none
  |n+1,a1,a2,a3,a4=>(B5s n a1 a2 a3).bind fun r5=>bif !r5 then some false else let v6:Bool:=((a4.length:Int) !=(a2.length:Int));bif v6 then some false else B94 n n a2 a2.length 0 a4
def B81 (n:Nat):Nat→List ByteArray→Int→Int→ByteArray→Y18→List ByteArray→Y3→Y3→Option Y4
  |0,_,_,_,_,_,_,_,_=>none
  |j+1,x5,x6,x7,x8,x9,x10,x11,x12=>bif decide (x7<x6)then bif inR x7 x5.length then (B5b n x8 x9 x10 (x5.getD x7.toNat ⟨#[]⟩)).bind fun r13=>bif inR r13 x11.length then let v14:=(x11.getD r13.toNat (0,(0,⟨#[]⟩)));let v15:Y3:=[(v14.1,(v14.2.1,v14.2.2))];bif room (x12.length+v15.length) 32 then B81 n j x5 x6 (IntKind.wrap .i64 (x7+(1:Int))) x8 x9 x10 x11 (x12++v15)else none else none else none else some x12
def B4w:Nat→ByteArray→Y19→(List ByteArray)→Y4→Option Y4
  |0,_,_,_,_=>none
  |n+1,a1,a2,a3,a4=>B81 n n a3 a3.length 0 a1 a2 a3 a4 ([]:Y3)
def C1b:Nat→Int→Int→ByteArray→Int→Int→ByteArray→Option Bool
  |0,_,_,_,_,_,_=>none
  |n+1,a1,a2,a3,a4,a5,a6=>(B8e n a1 a2 a3).bind fun r7=>bif !r7 then some false else (B8e n a4 a5 a6).bind fun r8=>bif !r8 then some false else bif a1 !=a4 then some (decide (a1<a4))else bif decide (a2<a5)then some true else bif a2==a5 then some (Op.bytesLess a3.toList a6.toList)else some false
def B4f (n:Nat):Nat→Y3→Y3→Int→Option Bool
  |0,_,_,_=>none
  |j+1,x3,x4,x5=>bif decide (x5<(x3.length:Int))then bif decide (x5<(x4.length:Int))then bif inR x5 x3.length then let v6:=(x3.getD x5.toNat (0,(0,⟨#[]⟩)));bif inR x5 x4.length then let v7:=(x4.getD x5.toNat (0,(0,⟨#[]⟩)));let v8:Bool:=(!((v6.1==v7.1)&&((v6.2.1==v7.2.1)&&((v6.2.2.toList==v7.2.2.toList)&&true))));bif v8 then bif inR x5 x3.length then let v9:=(x3.getD x5.toNat (0,(0,⟨#[]⟩)));bif inR x5 x4.length then let v10:=(x4.getD x5.toNat (0,(0,⟨#[]⟩)));(C1b n v9.1 v9.2.1 v9.2.2 v10.1 v10.2.1 v10.2.2).bind fun r11=>some r11 else none else none else B4f n j x3 x4 (IntKind.wrap .i64 (x5+(1:Int)))else none else none else let v12:Bool:=(decide ((x3.length:Int)<(x4.length:Int)));some v12 else let v13:Bool:=(decide ((x3.length:Int)<(x4.length:Int)));some v13
def B9u:Nat→Y4→Y4→Option Bool
  |0,_,_=>none
  |n+1,a1,a2=>B4f n n a1 a2 0
def B6b (n:Nat):Nat→Y6→Y6→Int→Int→ByteArray→Y18→List ByteArray→Option Bool
  |0,_,_,_,_,_,_,_=>none
  |j+1,x7,x8,x9,x10,x11,x12,x13=>bif decide (x10<x9)then bif inR x10 x8.length then let v14:=(x8.getD x10.toNat []);(C0j n x11 x12 x13 v14).bind fun r15=>bif !r15 then some false else bif decide ((0:Int)<x10)then bif inR (IntKind.wrap .i64 (x10 - 1)) x7.length then let v16:=(x7.getD (IntKind.wrap .i64 (x10 - 1)).toNat []);(B4w n x11 x12 x13 v16).bind fun r17=>(B4w n x11 x12 x13 v14).bind fun r18=>(B9u n r17 r18).bind fun r19=>bif !r19 then some false else B6b n j x7 x8 x9 (IntKind.wrap .i64 (x10+(1:Int))) x11 x12 x13 else none else B6b n j x7 x8 x9 (IntKind.wrap .i64 (x10+(1:Int))) x11 x12 x13 else none else some true
def B77:Nat→ByteArray→Y19→(List ByteArray)→Y7→Option Bool
  |0,_,_,_,_=>none
  |n+1,a1,a2,a3,a4=>(B5s n a1 a2 a3).bind fun r5=>bif !r5 then some false else let v6:Bool:=(decide ((60:Int)<(a4.length:Int)));bif v6 then some false else B6b n n a4 a4 a4.length 0 a1 a2 a3
def B4c (n:Nat):Nat→Y3→Y3→Int→Int→Option Bool
  |0,_,_,_,_=>none
  |j+1,x4,x5,x6,x7=>bif decide (x7<x6)then bif inR x7 x4.length then let v8:=(x4.getD x7.toNat (0,(0,⟨#[]⟩)));bif inR x7 x5.length then let v9:=(x5.getD x7.toNat (0,(0,⟨#[]⟩)));let v10:Bool:=(!((v8.1==v9.1)&&((v8.2.1==v9.2.1)&&((v8.2.2.toList==v9.2.2.toList)&&true))));bif v10 then some false else B4c n j x4 x5 x6 (IntKind.wrap .i64 (x7+(1:Int)))else none else none else some true
def B9x:Nat→Y4→Y4→Option Bool
  |0,_,_=>none
  |n+1,a1,a2=>let v3:Bool:=((a1.length:Int) !=(a2.length:Int));bif v3 then some false else B4c n n a1 a2 a1.length 0
def B93 (n:Nat):Nat→Y3→Y6→Int→Int→ByteArray→Y18→List ByteArray→Option Int
  |0,_,_,_,_,_,_,_=>none
  |j+1,x7,x8,x9,x10,x11,x12,x13=>bif decide (x10<x9)then bif inR x10 x8.length then let v14:=(x8.getD x10.toNat []);(B4w n x11 x12 x13 v14).bind fun r15=>(B9x n r15 x7).bind fun r16=>bif r16 then some x10 else B93 n j x7 x8 x9 (IntKind.wrap .i64 (x10+(1:Int))) x11 x12 x13 else none else some (-1:Int)
def C0i:Nat→ByteArray→Y19→(List ByteArray)→Y7→Y4→Option Int
  |0,_,_,_,_,_=>none
  |n+1,a1,a2,a3,a4,a5=>(B77 n a1 a2 a3 a4).bind fun r6=>bif !r6 then some (-1:Int)else B93 n n a5 a4 a4.length 0 a1 a2 a3
def B62:Nat→Y4→Option Y4
  |0,_=>none
  |n+1,a1=>bif room (([]:Y3).length+a1.length) 32 then let v2:Y3:=(([]:Y3)++a1);some v2 else none
def B4x (n:Nat):Nat→Bool→Y6→Int→Int→ByteArray→Y18→List ByteArray→Y3→Y6→Option Y7
  |0,_,_,_,_,_,_,_,_,_=>none
  |j+1,x8,x9,x10,x11,x12,x13,x14,x15,x16=>bif decide (x11<x10)then bif inR x11 x9.length then let v17:=(x9.getD x11.toNat []);bif !x8 then (B4w n x12 x13 x14 x15).bind fun r18=>(B4w n x12 x13 x14 v17).bind fun r19=>(B9u n r18 r19).bind fun r20=>bif r20 then (B62 n x15).bind fun r21=>let v22:Y6:=[r21];bif room (x16.length+v22.length) 24 then (B62 n v17).bind fun r23=>let v24:Y6:=[r23];bif room ((x16++v22).length+v24.length) 24 then B4x n j true x9 x10 (IntKind.wrap .i64 (x11+(1:Int))) x12 x13 x14 x15 ((x16++v22)++v24)else none else none else (B62 n v17).bind fun r25=>let v26:Y6:=[r25];bif room (x16.length+v26.length) 24 then B4x n j x8 x9 x10 (IntKind.wrap .i64 (x11+(1:Int))) x12 x13 x14 x15 (x16++v26)else none else (B62 n v17).bind fun r27=>let v28:Y6:=[r27];bif room (x16.length+v28.length) 24 then B4x n j x8 x9 x10 (IntKind.wrap .i64 (x11+(1:Int))) x12 x13 x14 x15 (x16++v28)else none else none else bif !x8 then (B62 n x15).bind fun r29=>let v30:Y6:=[r29];bif room (x16.length+v30.length) 24 then some (x16++v30)else none else some x16
def C2d:Nat→ByteArray→Y19→(List ByteArray)→Y7→Y4→Option Y7
  |0,_,_,_,_,_=>none
  |n+1,a1,a2,a3,a4,a5=>let v6:Y6:=[];let v7:Y6:=[];B4x n n false a4 a4.length 0 a1 a2 a3 a5 v7
def C0r:Nat→ByteArray→Y19→(List ByteArray)→Y7→Y4→Option Y15
  |0,_,_,_,_,_=>none
  |n+1,a1,a2,a3,a4,a5=>let v6:Y6:=[];(B77 n a1 a2 a3 a4).bind fun r7=>bif !r7 then let v8:Y6:=[];some (v8,((1:Int),()))else (C0j n a1 a2 a3 a5).bind fun r9=>bif !r9 then let v10:Y6:=[];some (v10,((2:Int),()))else (B4w n a1 a2 a3 a5).bind fun r11=>(C0i n a1 a2 a3 a4 r11).bind fun r12=>bif decide ((0:Int)≤r12)then let v13:Y6:=[];some (v13,((3:Int),()))else bif (a4.length:Int)==60 then let v14:Y6:=[];some (v14,((4:Int),()))else (C2d n a1 a2 a3 a4 a5).bind fun r15=>some (r15,((0:Int),()))
def B5f (n:Nat):Nat→Int→List Int→Int→Int→ByteArray→Y18→List ByteArray→Y6→Option (Y7×(Y2×Unit))
  |0,_,_,_,_,_,_,_,_=>none
  |j+1,x10,x11,x12,x13,x14,x15,x16,x17=>bif decide ((0:Int)<x10)then (B8f n x11 x12 x13 x14 x15 x16).bind fun r18=>(C0r n x14 x15 x16 x17 r18.1).bind fun r19=>bif r19.2.1==(0:Int)then B5f n j (IntKind.wrap .i64 (x10 - 1)) r18.2.1.1 r18.2.1.2.1 r18.2.1.2.2 x14 x15 x16 r19.1 else B5f n j (IntKind.wrap .i64 (x10 - 1)) r18.2.1.1 r18.2.1.2.1 r18.2.1.2.2 x14 x15 x16 x17 else some (x17,((x11,(x12,x13)),()))
def B9w:Nat→(List Int)→Int→Int→ByteArray→Y19→(List ByteArray)→Option (Y7×(Y2×Unit))
  |0,_,_,_,_,_,_=>none
  |n+1,a1,a2,a3,a4,a5,a6=>let v7:Y6:=[];let v8:Y6:=[];(D0 n a1 a2 a3 7).bind fun r9=>B5f n n r9.1 r9.2.1.1 r9.2.1.2.1 r9.2.1.2.2 a4 a5 a6 v8
def B6z (n:Nat):Nat→Y23→Int→Int→List Int→Int→Int→Y23→Y10→Y23→Y10→Option (Y31×(Y2×Unit))
  |0,_,_,_,_,_,_,_,_,_,_=>none
  |j+1,x10,x11,x12,x13,x14,x15,x16,x17,x18,x19=>bif decide (x12<x11)then bif inR x12 x10.length then let v20:=(x10.getD x12.toNat (⟨#[]⟩,([],[])));let v21:Y18:=[];(B9w n x13 x14 x15 v20.1 v20.2.1 v20.2.2).bind fun r22=>let v23:Y10:=[r22.1];bif room (x19.length+v23.length) 24 then B6z n j x10 x11 (IntKind.wrap .i64 (x12+(1:Int))) r22.2.1.1 r22.2.1.2.1 r22.2.1.2.2 x16 x17 x18 (x19++v23)else none else none else some ((x18,x19),((x13,(x14,x15)),()))
def C2s:Nat→(List Int)→Int→Int→Option (Y31×(Y2×Unit))
  |0,_,_,_=>none
  |n+1,a1,a2,a3=>let v4:Y23:=[];let v5:Y10:=[];(C2b n a1 a2 a3).bind fun r6=>let v7:Y10:=[];let v8:Y23:=[];let v9:Y10:=[];B6z n n r6.1 r6.1.length 0 r6.2.1.1 r6.2.1.2.1 r6.2.1.2.2 v4 v5 r6.1 v7
def C2a:Nat→(List Int)→Int→Int→Option Y17
  |0,_,_,_=>none
  |n+1,a1,a2,a3=>(D0 n a1 a2 a3 4).bind fun r4=>(C0k n r4.2.1.1 r4.2.1.2.1 r4.2.1.2.2 r4.1).bind fun r5=>some ((r5.1.1,(r5.1.2.1,r5.1.2.2)),((r5.2.1.1,(r5.2.1.2.1,r5.2.1.2.2)),()))
def C0s:Nat→(List Int)→Int→Int→Option Y8
  |0,_,_,_=>none
  |n+1,a1,a2,a3=>(D0 n a1 a2 a3 9).bind fun r4=>bif decide (r4.1<(4:Int))then (D0 n r4.2.1.1 r4.2.1.2.1 r4.2.1.2.2 24).bind fun r5=>some ((IntKind.wrap .i64 (r5.1 - 3)),((r5.2.1.1,(r5.2.1.2.1,r5.2.1.2.2)),()))else bif r4.1==(4:Int)then (D0 n r4.2.1.1 r4.2.1.2.1 r4.2.1.2.2 3).bind fun r6=>let v7:Int:=(IntKind.wrap .i64 ((1099511627774:Int)+r6.1));some (v7,((r6.2.1.1,(r6.2.1.2.1,r6.2.1.2.2)),()))else bif r4.1==(5:Int)then (D0 n r4.2.1.1 r4.2.1.2.1 r4.2.1.2.2 3).bind fun r8=>let v9:Int:=(IntKind.wrap .i64 ((-1099511627776:Int)+r8.1));some (v9,((r8.2.1.1,(r8.2.1.2.1,r8.2.1.2.2)),()))else bif r4.1==(6:Int)then (D0 n r4.2.1.1 r4.2.1.2.1 r4.2.1.2.2 2).bind fun r10=>let v11:Int:=(IntKind.wrap .i64 ((9223372036854775807:Int) - r10.1));some (v11,((r10.2.1.1,(r10.2.1.2.1,r10.2.1.2.2)),()))else bif r4.1==(7:Int)then (D0 n r4.2.1.1 r4.2.1.2.1 r4.2.1.2.2 2).bind fun r12=>let v13:Int:=(IntKind.wrap .i64 ((-9223372036854775807:Int) - r12.1));some (v13,((r12.2.1.1,(r12.2.1.2.1,r12.2.1.2.2)),()))else (D0 n r4.2.1.1 r4.2.1.2.1 r4.2.1.2.2 2000000).bind fun r14=>some (r14.1,((r14.2.1.1,(r14.2.1.2.1,r14.2.1.2.2)),()))
def B4u:Nat→(List Int)→Int→Int→Option Y17
  |0,_,_,_=>none
  |n+1,a1,a2,a3=>(C2a n a1 a2 a3).bind fun r4=>(D0 n r4.2.1.1 r4.2.1.2.1 r4.2.1.2.2 12).bind fun r5=>bif r5.1==(0:Int)then (C0s n r5.2.1.1 r5.2.1.2.1 r5.2.1.2.2).bind fun r6=>bif r5.1==(1:Int)then (C0s n r6.2.1.1 r6.2.1.2.1 r6.2.1.2.2).bind fun r7=>bif r5.1==(2:Int)then (D0 n r7.2.1.1 r7.2.1.2.1 r7.2.1.2.2 2).bind fun r8=>bif decide ((IntKind.wrap .i64 ((30:Int)+r8.1))=(IntKind.wrap .i64 ((30:Int)+r8.1))∧0≤(IntKind.wrap .i64 ((30:Int)+r8.1)))&&room (IntKind.wrap .i64 ((30:Int)+r8.1)).toNat 1 then let v9:List Int:=(List.replicate (IntKind.wrap .i64 ((30:Int)+r8.1)).toNat 0);some ((r6.1,(r7.1,(strOfNums v9))),((r8.2.1.1,(r8.2.1.2.1,r8.2.1.2.2)),()))else none else some ((r6.1,(r7.1,r4.1.2.2)),((r7.2.1.1,(r7.2.1.2.1,r7.2.1.2.2)),()))else bif r5.1==(2:Int)then (D0 n r6.2.1.1 r6.2.1.2.1 r6.2.1.2.2 2).bind fun r10=>let v11:Int:=(IntKind.wrap .i64 ((30:Int)+r10.1));bif decide (v11=v11∧0≤v11)&&room v11.toNat 1 then let v12:ByteArray:=(strOfNums (List.replicate v11.toNat 0));some ((r6.1,(r4.1.2.1,v12)),((r10.2.1.1,(r10.2.1.2.1,r10.2.1.2.2)),()))else none else some ((r6.1,(r4.1.2.1,r4.1.2.2)),((r6.2.1.1,(r6.2.1.2.1,r6.2.1.2.2)),()))else bif r5.1==(1:Int)then (C0s n r5.2.1.1 r5.2.1.2.1 r5.2.1.2.2).bind fun r13=>bif r5.1==(2:Int)then (D0 n r13.2.1.1 r13.2.1.2.1 r13.2.1.2.2 2).bind fun r14=>let v15:Int:=(IntKind.wrap .i64 ((30:Int)+r14.1));bif decide (v15=v15∧0≤v15)&&room v15.toNat 1 then let v16:ByteArray:=(strOfNums (List.replicate v15.toNat 0));some ((r4.1.1,(r13.1,v16)),((r14.2.1.1,(r14.2.1.2.1,r14.2.1.2.2)),()))else none else some ((r4.1.1,(r13.1,r4.1.2.2)),((r13.2.1.1,(r13.2.1.2.1,r13.2.1.2.2)),()))else bif r5.1==(2:Int)then (D0 n r5.2.1.1 r5.2.1.2.1 r5.2.1.2.2 2).bind fun r17=>let v18:Int:=(IntKind.wrap .i64 ((30:Int)+r17.1));bif decide (v18=v18∧0≤v18)&&room v18.toNat 1 then let v19:ByteArray:=(strOfNums (List.replicate v18.toNat 0));some ((r4.1.1,(r4.1.2.1,v19)),((r17.2.1.1,(r17.2.1.2.1,r17.2.1.2.2)),()))else none else some ((r4.1.1,(r4.1.2.1,r4.1.2.2)),((r5.2.1.1,(r5.2.1.2.1,r5.2.1.2.2)),()))
def B9m (n:Nat):Nat→List Int→Int→Int→ByteArray→Y18→List ByteArray→ByteArray→Y18→List ByteArray→Option Y29
  |0,_,_,_,_,_,_,_,_,_=>none
  |j+1,x90,x91,x92,x93,x94,x95,x96,x97,x98=>some ((x96,(x97,x98)),((x90,(x91,x92)),()))
def B9l (n:Nat):Nat→Int→List Int→Int→Int→ByteArray→Y18→List ByteArray→ByteArray→Y18→List ByteArray→Option Y29
  |0,_,_,_,_,_,_,_,_,_,_=>none
  |j+1,x79,x80,x81,x82,x83,x84,x85,x86,x87,x88=>bif x79==(6:Int)then bif inR 0 x87.length then let v89:=(x87.set (0:Int).toNat ((x87.getD (0:Int).toNat (⟨#[]⟩,(0,(false,(false,(0,(0,⟨#[]⟩))))))).1,((x87.getD (0:Int).toNat (⟨#[]⟩,(0,(false,(false,(0,(0,⟨#[]⟩))))))).2.1,(false,(x87.getD (0:Int).toNat (⟨#[]⟩,(0,(false,(false,(0,(0,⟨#[]⟩))))))).2.2.2))));B9m n 1 x80 x81 x82 x83 x84 x85 x86 v89 x88 else none else B9m n 1 x80 x81 x82 x83 x84 x85 x86 x87 x88
def B9k (n:Nat):Nat→Int→List Int→Int→Int→ByteArray→Y18→List ByteArray→ByteArray→Y18→List ByteArray→Option Y29
  |0,_,_,_,_,_,_,_,_,_,_=>none
  |j+1,x69,x70,x71,x72,x73,x74,x75,x76,x77,x78=>bif x69==(5:Int)then B9l n 1 x69 x70 x71 x72 x73 x74 x75 x76 x77 ([]:List ByteArray)else B9l n 1 x69 x70 x71 x72 x73 x74 x75 x76 x77 x78
def B9j (n:Nat):Nat→Int→Int→List Int→Int→Int→ByteArray→Y18→List ByteArray→ByteArray→Y18→List ByteArray→Option Y29
  |0,_,_,_,_,_,_,_,_,_,_,_=>none
  |j+1,x50,x51,x52,x53,x54,x55,x56,x57,x58,x59,x60=>bif x50==(4:Int)then bif inR x51 x59.length then let v61:ByteArray:=(x59.getD x51.toNat (⟨#[]⟩,(0,(false,(false,(0,(0,⟨#[]⟩))))))).1;let v62:Int:=(x59.getD x51.toNat (⟨#[]⟩,(0,(false,(false,(0,(0,⟨#[]⟩))))))).2.1;let v63:Bool:=(x59.getD x51.toNat (⟨#[]⟩,(0,(false,(false,(0,(0,⟨#[]⟩))))))).2.2.1;let v64:Bool:=(x59.getD x51.toNat (⟨#[]⟩,(0,(false,(false,(0,(0,⟨#[]⟩))))))).2.2.2.1;let v65:Int:=(x59.getD x51.toNat (⟨#[]⟩,(0,(false,(false,(0,(0,⟨#[]⟩))))))).2.2.2.2.1;let v66:Int:=(x59.getD x51.toNat (⟨#[]⟩,(0,(false,(false,(0,(0,⟨#[]⟩))))))).2.2.2.2.2.1;let v67:ByteArray:=(x59.getD x51.toNat (⟨#[]⟩,(0,(false,(false,(0,(0,⟨#[]⟩))))))).2.2.2.2.2.2;let v68:Y18:=[(v61,(v62,(v63,(v64,(v65,(v66,v67))))))];bif room (x59.length+v68.length) 64 then B9k n 1 x50 x52 x53 x54 x55 x56 x57 x58 (x59++v68) x60 else none else none else B9k n 1 x50 x52 x53 x54 x55 x56 x57 x58 x59 x60
def B9i (n:Nat):Nat→Int→Int→List Int→Int→Int→ByteArray→Y18→List ByteArray→ByteArray→Y18→List ByteArray→Option Y29
  |0,_,_,_,_,_,_,_,_,_,_,_=>none
  |j+1,x38,x39,x40,x41,x42,x43,x44,x45,x46,x47,x48=>bif x38==(3:Int)then (B5u n x40 x41 x42).bind fun r49=>bif room (x48.length+([r49.1]:List ByteArray).length) 16 then B9j n 1 x38 x39 r49.2.1.1 r49.2.1.2.1 r49.2.1.2.2 x43 x44 x45 x46 x47 (x48++([r49.1]:List ByteArray))else none else B9j n 1 x38 x39 x40 x41 x42 x43 x44 x45 x46 x47 x48
def B9h (n:Nat):Nat→Int→Int→List Int→Int→Int→ByteArray→Y18→List ByteArray→ByteArray→Y18→List ByteArray→Option Y29
  |0,_,_,_,_,_,_,_,_,_,_,_=>none
  |j+1,x25,x26,x27,x28,x29,x30,x31,x32,x33,x34,x35=>bif x25==(2:Int)then (B4u n x27 x28 x29).bind fun r36=>bif inR x26 x34.length then let v37:=(x34.set x26.toNat ((x34.getD x26.toNat (⟨#[]⟩,(0,(false,(false,(0,(0,⟨#[]⟩))))))).1,((x34.getD x26.toNat (⟨#[]⟩,(0,(false,(false,(0,(0,⟨#[]⟩))))))).2.1,((x34.getD x26.toNat (⟨#[]⟩,(0,(false,(false,(0,(0,⟨#[]⟩))))))).2.2.1,((x34.getD x26.toNat (⟨#[]⟩,(0,(false,(false,(0,(0,⟨#[]⟩))))))).2.2.2.1,(r36.1.1,(r36.1.2.1,r36.1.2.2)))))));B9i n 1 x25 x26 r36.2.1.1 r36.2.1.2.1 r36.2.1.2.2 x30 x31 x32 x33 v37 x35 else none else B9i n 1 x25 x26 x27 x28 x29 x30 x31 x32 x33 x34 x35
def B9g (n:Nat):Nat→Int→Int→List Int→Int→Int→ByteArray→Y18→List ByteArray→ByteArray→Y18→List ByteArray→Option Y29
  |0,_,_,_,_,_,_,_,_,_,_,_=>none
  |j+1,x12,x13,x14,x15,x16,x17,x18,x19,x20,x21,x22=>bif x12==(1:Int)then (D0 n x14 x15 x16 6).bind fun r23=>bif inR x13 x21.length then let v24:=(x21.set x13.toNat ((x21.getD x13.toNat (⟨#[]⟩,(0,(false,(false,(0,(0,⟨#[]⟩))))))).1,((IntKind.wrap .i64 (r23.1 - 1)),(x21.getD x13.toNat (⟨#[]⟩,(0,(false,(false,(0,(0,⟨#[]⟩))))))).2.2)));B9h n 1 x12 x13 r23.2.1.1 r23.2.1.2.1 r23.2.1.2.2 x17 x18 x19 x20 v24 x22 else none else B9h n 1 x12 x13 x14 x15 x16 x17 x18 x19 x20 x21 x22
def C3u:Nat→(List Int)→Int→Int→Option Y29
  |0,_,_,_=>none
  |n+1,a1,a2,a3=>let v4:Y18:=[];(B7g n a1 a2 a3 (⟨#[116]⟩:ByteArray)).bind fun r5=>let v6:Y18:=[];(D0 n r5.2.1.1 r5.2.1.2.1 r5.2.1.2.2 14).bind fun r7=>(D0 n r7.2.1.1 r7.2.1.2.1 r7.2.1.2.2 r5.1.2.1.length).bind fun r8=>bif r7.1==(0:Int)then let v9:List ByteArray:=[(⟨#[]⟩:ByteArray),(⟨#[84]⟩:ByteArray),(⟨#[97,98,99,100,101,102,103,104,105]⟩:ByteArray)];(D0 n r8.2.1.1 r8.2.1.2.1 r8.2.1.2.2 3).bind fun r10=>bif inR r10.1 v9.length then let v11:ByteArray:=(v9.getD r10.1.toNat ⟨#[]⟩);B9g n 1 r7.1 r8.1 r10.2.1.1 r10.2.1.2.1 r10.2.1.2.2 (⟨#[]⟩:ByteArray) v4 ([]:List ByteArray) v11 r5.1.2.1 r5.1.2.2 else none else B9g n 1 r7.1 r8.1 r8.2.1.1 r8.2.1.2.1 r8.2.1.2.2 (⟨#[]⟩:ByteArray) v4 ([]:List ByteArray) r5.1.1 r5.1.2.1 r5.1.2.2
def B79 (n:Nat):Nat→List Int→Int→Int→Y23→Y23→Option Y30
  |0,_,_,_,_,_=>none
  |j+1,x41,x42,x43,x44,x45=>some (x45,((x41,(x42,x43)),()))
def B58 (n:Nat):Nat→Nat→Nat→Int→Int→List Int→Int→Int→Y23→Y23→List ByteArray→Option Y30
  |0,_,_,_,_,_,_,_,_,_,_=>none
  |j+1,x28,x29,x30,x31,x32,x33,x34,x35,x36,x37=>bif decide (x31<x30)then bif inR x31 x29 then let v38:ByteArray:=(x37.getD (x28+x31.toNat) (⟨#[]⟩:ByteArray));(B7g n x32 x33 x34 v38).bind fun r39=>let v40:Y23:=[(r39.1.1,(r39.1.2.1,r39.1.2.2))];bif room (x36.length+v40.length) 64 then B58 n j x28 x29 x30 (IntKind.wrap .i64 (x31+(1:Int))) r39.2.1.1 r39.2.1.2.1 r39.2.1.2.2 x35 (x36++v40) x37 else none else none else B79 n 1 x32 x33 x34 x35 x36
def B57 (n:Nat):Nat→Int→List Int→Int→Int→Y23→Y23→Option Y30
  |0,_,_,_,_,_,_=>none
  |j+1,x18,x19,x20,x21,x22,x23=>bif x18==(2:Int)then let v24:Y23:=[];let v25:List ByteArray:=[(⟨#[102]⟩:ByteArray),(⟨#[103]⟩:ByteArray),(⟨#[104]⟩:ByteArray),(⟨#[105]⟩:ByteArray),(⟨#[106]⟩:ByteArray),(⟨#[107]⟩:ByteArray),(⟨#[108]⟩:ByteArray)];(D0 n x19 x20 x21 2).bind fun r26=>bif decide (0≤((0:Nat):Int)∧((0:Nat):Int)≤(IntKind.wrap .i64 ((6:Int)+r26.1))∧(IntKind.wrap .i64 ((6:Int)+r26.1))≤(v25.length:Int))then let v27:Int:=((((IntKind.wrap .i64 ((6:Int)+r26.1)).toNat - ((0:Nat):Int).toNat):Nat):Int);B58 n n (((0:Nat):Int).toNat) ((IntKind.wrap .i64 ((6:Int)+r26.1)).toNat - ((0:Nat):Int).toNat) v27 0 r26.2.1.1 r26.2.1.2.1 r26.2.1.2.2 x22 v24 v25 else none else B79 n 1 x19 x20 x21 x22 x23
def B78 (n:Nat):Nat→Int→List Int→Int→Int→Y23→Y23→Option Y30
  |0,_,_,_,_,_,_=>none
  |j+1,x10,x11,x12,x13,x14,x15=>bif x10==(1:Int)then let v16:Bool:=(decide ((0:Int)<(x15.length:Int)));bif v16 then bif inR 0 x15.length then let v17:=(x15.set (0:Int).toNat ((⟨#[122]⟩:ByteArray),(x15.getD (0:Int).toNat (⟨#[]⟩,([],[]))).2));B57 n 1 x10 x11 x12 x13 x14 v17 else none else B57 n 1 x10 x11 x12 x13 x14 x15 else B57 n 1 x10 x11 x12 x13 x14 x15
def C1d:Nat→(List Int)→Int→Int→Option Y30
  |0,_,_,_=>none
  |n+1,a1,a2,a3=>let v4:Y23:=[];(C2b n a1 a2 a3).bind fun r5=>let v6:Y23:=[];(D0 n r5.2.1.1 r5.2.1.2.1 r5.2.1.2.2 10).bind fun r7=>bif r7.1==(0:Int)then (C3u n r7.2.1.1 r7.2.1.2.1 r7.2.1.2.2).bind fun r8=>let v9:Y23:=[(r8.1.1,(r8.1.2.1,r8.1.2.2))];bif room (r5.1.length+v9.length) 64 then B78 n 1 r7.1 r8.2.1.1 r8.2.1.2.1 r8.2.1.2.2 v4 (r5.1++v9)else none else B78 n 1 r7.1 r7.2.1.1 r7.2.1.2.1 r7.2.1.2.2 v4 r5.1
def C3x:Nat→(List Int)→Int→Int→Option (Y31×(Y2×Unit))
  |0,_,_,_=>none
  |n+1,a1,a2,a3=>let v4:Y23:=[];let v5:Y10:=[];(C2s n a1 a2 a3).bind fun r6=>let v7:Y23:=[];let v8:Y10:=[];(D0 n r6.2.1.1 r6.2.1.2.1 r6.2.1.2.2 14).bind fun r9=>bif r9.1==(0:Int)then (C1d n r9.2.1.1 r9.2.1.2.1 r9.2.1.2.2).bind fun r10=>bif r9.1==(1:Int)then let v11:Y6:=[];let v12:Y10:=[v11];bif room (r6.1.2.length+v12.length) 24 then bif r9.1==(2:Int)then let v13:Bool:=(decide ((0:Int)<((r6.1.2++v12).length:Int)));bif v13 then bif inR 0 (r6.1.2++v12).length then let v14:Int:=(((r6.1.2++v12).getD (0:Int).toNat []).length:Int);bif decide ((0:Int)<v14)then bif inR 0 (r6.1.2++v12).length then bif inR 0 ((r6.1.2++v12).getD (0:Int).toNat []).length then let v15:=((r6.1.2++v12).getD (0:Int).toNat []);(B4u n r10.2.1.1 r10.2.1.2.1 r10.2.1.2.2).bind fun r16=>bif inR 0 (v15.getD (0:Int).toNat []).length then let v17:=(v15.getD (0:Int).toNat []);let v18:=((r6.1.2++v12).set (0:Int).toNat (v15.set (0:Int).toNat (v17.set (0:Int).toNat (r16.1.1,(r16.1.2.1,r16.1.2.2)))));some ((r10.1,v18),((r16.2.1.1,(r16.2.1.2.1,r16.2.1.2.2)),()))else none else none else none else some ((r10.1,(r6.1.2++v12)),((r10.2.1.1,(r10.2.1.2.1,r10.2.1.2.2)),()))else none else some ((r10.1,(r6.1.2++v12)),((r10.2.1.1,(r10.2.1.2.1,r10.2.1.2.2)),()))else some ((r10.1,(r6.1.2++v12)),((r10.2.1.1,(r10.2.1.2.1,r10.2.1.2.2)),()))else none else bif r9.1==(2:Int)then let v19:Bool:=(decide ((0:Int)<(r6.1.2.length:Int)));bif v19 then bif inR 0 r6.1.2.length then let v20:Int:=((r6.1.2.getD (0:Int).toNat []).length:Int);bif decide ((0:Int)<v20)then bif inR 0 r6.1.2.length then bif inR 0 (r6.1.2.getD (0:Int).toNat []).length then let v21:=(r6.1.2.getD (0:Int).toNat []);(B4u n r10.2.1.1 r10.2.1.2.1 r10.2.1.2.2).bind fun r22=>bif inR 0 (v21.getD (0:Int).toNat []).length then let v23:=(v21.getD (0:Int).toNat []);let v24:=(r6.1.2.set (0:Int).toNat (v21.set (0:Int).toNat (v23.set (0:Int).toNat (r22.1.1,(r22.1.2.1,r22.1.2.2)))));some ((r10.1,v24),((r22.2.1.1,(r22.2.1.2.1,r22.2.1.2.2)),()))else none else none else none else some ((r10.1,r6.1.2),((r10.2.1.1,(r10.2.1.2.1,r10.2.1.2.2)),()))else none else some ((r10.1,r6.1.2),((r10.2.1.1,(r10.2.1.2.1,r10.2.1.2.2)),()))else some ((r10.1,r6.1.2),((r10.2.1.1,(r10.2.1.2.1,r10.2.1.2.2)),()))else bif r9.1==(1:Int)then let v25:Y6:=[];let v26:Y10:=[v25];bif room (r6.1.2.length+v26.length) 24 then bif r9.1==(2:Int)then let v27:Bool:=(decide ((0:Int)<((r6.1.2++v26).length:Int)));bif v27 then bif inR 0 (r6.1.2++v26).length then let v28:Int:=(((r6.1.2++v26).getD (0:Int).toNat []).length:Int);bif decide ((0:Int)<v28)then bif inR 0 (r6.1.2++v26).length then bif inR 0 ((r6.1.2++v26).getD (0:Int).toNat []).length then let v29:=((r6.1.2++v26).getD (0:Int).toNat []);(B4u n r9.2.1.1 r9.2.1.2.1 r9.2.1.2.2).bind fun r30=>bif inR 0 (v29.getD (0:Int).toNat []).length then let v31:=(v29.getD (0:Int).toNat []);let v32:=((r6.1.2++v26).set (0:Int).toNat (v29.set (0:Int).toNat (v31.set (0:Int).toNat (r30.1.1,(r30.1.2.1,r30.1.2.2)))));some ((r6.1.1,v32),((r30.2.1.1,(r30.2.1.2.1,r30.2.1.2.2)),()))else none else none else none else some ((r6.1.1,(r6.1.2++v26)),((r9.2.1.1,(r9.2.1.2.1,r9.2.1.2.2)),()))else none else some ((r6.1.1,(r6.1.2++v26)),((r9.2.1.1,(r9.2.1.2.1,r9.2.1.2.2)),()))else some ((r6.1.1,(r6.1.2++v26)),((r9.2.1.1,(r9.2.1.2.1,r9.2.1.2.2)),()))else none else bif r9.1==(2:Int)then let v33:Bool:=(decide ((0:Int)<(r6.1.2.length:Int)));bif v33 then bif inR 0 r6.1.2.length then let v34:Int:=((r6.1.2.getD (0:Int).toNat []).length:Int);bif decide ((0:Int)<v34)then bif inR 0 r6.1.2.length then bif inR 0 (r6.1.2.getD (0:Int).toNat []).length then let v35:=(r6.1.2.getD (0:Int).toNat []);(B4u n r9.2.1.1 r9.2.1.2.1 r9.2.1.2.2).bind fun r36=>bif inR 0 (v35.getD (0:Int).toNat []).length then let v37:=(v35.getD (0:Int).toNat []);let v38:=(r6.1.2.set (0:Int).toNat (v35.set (0:Int).toNat (v37.set (0:Int).toNat (r36.1.1,(r36.1.2.1,r36.1.2.2)))));some ((r6.1.1,v38),((r36.2.1.1,(r36.2.1.2.1,r36.2.1.2.2)),()))else none else none else none else some ((r6.1.1,r6.1.2),((r9.2.1.1,(r9.2.1.2.1,r9.2.1.2.2)),()))else none else some ((r6.1.1,r6.1.2),((r9.2.1.1,(r9.2.1.2.1,r9.2.1.2.2)),()))else some ((r6.1.1,r6.1.2),((r9.2.1.1,(r9.2.1.2.1,r9.2.1.2.2)),()))
def C4z:Nat→ByteArray→Y19→(List ByteArray)→Y4→Option Y4
  |0,_,_,_,_=>none
  |n+1,a1,a2,a3,a4=>(C0j n a1 a2 a3 a4).bind fun r5=>bif !r5 then some ([]:Y3)else (B4w n a1 a2 a3 a4).bind fun r6=>some r6
def B3l (n:Nat):Nat→Int→Int→List Int→Int→Int→Y3→Option Y20
  |0,_,_,_,_,_,_=>none
  |j+1,x14,x15,x16,x17,x18,x19=>bif decide (x15<x14)then (C2a n x16 x17 x18).bind fun r20=>let v21:Y3:=[(r20.1.1,(r20.1.2.1,r20.1.2.2))];bif room (x19.length+v21.length) 32 then B3l n j x14 (IntKind.wrap .i64 (x15+(1:Int))) r20.2.1.1 r20.2.1.2.1 r20.2.1.2.2 (x19++v21)else none else some (x19,((x16,(x17,x18)),()))
def B80:Nat→(List Int)→Int→Int→ByteArray→Y19→(List ByteArray)→Y7→Option Y20
  |0,_,_,_,_,_,_,_=>none
  |n+1,a1,a2,a3,a4,a5,a6,a7=>let v8:Bool:=(decide ((0:Int)<(a7.length:Int)));bif v8 then (D0 n a1 a2 a3 4).bind fun r9=>bif decide ((0:Int)<r9.1)then (D0 n r9.2.1.1 r9.2.1.2.1 r9.2.1.2.2 a7.length).bind fun r10=>bif inR r10.1 a7.length then let v11:=(a7.getD r10.1.toNat []);(C4z n a4 a5 a6 v11).bind fun r12=>let v13:Bool:=(decide ((0:Int)<(r12.length:Int)));bif v13 then some (r12,((r10.2.1.1,(r10.2.1.2.1,r10.2.1.2.2)),()))else B3l n n a6.length 0 r10.2.1.1 r10.2.1.2.1 r10.2.1.2.2 ([]:Y3)else none else B3l n n a6.length 0 r9.2.1.1 r9.2.1.2.1 r9.2.1.2.2 ([]:Y3)else B3l n n a6.length 0 a1 a2 a3 ([]:Y3)
def C2c:Nat→(List Int)→Int→Int→Option Y33
  |0,_,_,_=>none
  |n+1,a1,a2,a3=>let v4:Y18:=[];(D0 n a1 a2 a3 5).bind fun r5=>let v6:List ByteArray:=[(⟨#[111]⟩:ByteArray),(⟨#[116]⟩:ByteArray),(⟨#[117]⟩:ByteArray),(⟨#[118]⟩:ByteArray)];(D0 n r5.2.1.1 r5.2.1.2.1 r5.2.1.2.2 4).bind fun r7=>bif inR r7.1 v6.length then let v8:ByteArray:=(v6.getD r7.1.toNat ⟨#[]⟩);let v9:Y18:=[];let v10:Y18:=[];let v11:Bool:=((IntKind.wrap .i64 ((1:Int)+r5.1))==1);bif v11 then (B7g n r7.2.1.1 r7.2.1.2.1 r7.2.1.2.2 v8).bind fun r12=>let v13:Y18:=[];some (((IntKind.wrap .i64 ((1:Int)+r5.1)),(v8,(r12.1.2.1,(r12.1.2.2,((⟨#[]⟩:ByteArray),(⟨#[]⟩:ByteArray)))))),((r12.2.1.1,(r12.2.1.2.1,r12.2.1.2.2)),()))else let v14:Bool:=((IntKind.wrap .i64 ((1:Int)+r5.1))==3);bif v14 then (B5u n r7.2.1.1 r7.2.1.2.1 r7.2.1.2.2).bind fun r15=>(C0t n r15.2.1.1 r15.2.1.2.1 r15.2.1.2.2 r15.1).bind fun r16=>bif r16.1.2.2.1 then bif !r16.1.2.2.2.1 then let v17:Y18:=[(r16.1.1,(r16.1.2.1,(false,(r16.1.2.2.2.1,(r16.1.2.2.2.2.1,(r16.1.2.2.2.2.2.1,r16.1.2.2.2.2.2.2))))))];some (((IntKind.wrap .i64 ((1:Int)+r5.1)),(v8,(v17,(([]:List ByteArray),((⟨#[]⟩:ByteArray),(⟨#[]⟩:ByteArray)))))),((r16.2.1.1,(r16.2.1.2.1,r16.2.1.2.2)),()))else let v18:Y18:=[(r16.1.1,(r16.1.2.1,(r16.1.2.2.1,(r16.1.2.2.2.1,(r16.1.2.2.2.2.1,(r16.1.2.2.2.2.2.1,r16.1.2.2.2.2.2.2))))))];some (((IntKind.wrap .i64 ((1:Int)+r5.1)),(v8,(v18,(([]:List ByteArray),((⟨#[]⟩:ByteArray),(⟨#[]⟩:ByteArray)))))),((r16.2.1.1,(r16.2.1.2.1,r16.2.1.2.2)),()))else let v19:Y18:=[(r16.1.1,(r16.1.2.1,(r16.1.2.2.1,(r16.1.2.2.2.1,(r16.1.2.2.2.2.1,(r16.1.2.2.2.2.2.1,r16.1.2.2.2.2.2.2))))))];some (((IntKind.wrap .i64 ((1:Int)+r5.1)),(v8,(v19,(([]:List ByteArray),((⟨#[]⟩:ByteArray),(⟨#[]⟩:ByteArray)))))),((r16.2.1.1,(r16.2.1.2.1,r16.2.1.2.2)),()))else let v20:Bool:=((IntKind.wrap .i64 ((1:Int)+r5.1))==4);bif v20 then (B5u n r7.2.1.1 r7.2.1.2.1 r7.2.1.2.2).bind fun r21=>some (((IntKind.wrap .i64 ((1:Int)+r5.1)),(v8,(v9,(([]:List ByteArray),(r21.1,(⟨#[]⟩:ByteArray)))))),((r21.2.1.1,(r21.2.1.2.1,r21.2.1.2.2)),()))else let v22:Bool:=((IntKind.wrap .i64 ((1:Int)+r5.1))==5);bif v22 then (B5u n r7.2.1.1 r7.2.1.2.1 r7.2.1.2.2).bind fun r23=>(B5u n r23.2.1.1 r23.2.1.2.1 r23.2.1.2.2).bind fun r24=>some (((IntKind.wrap .i64 ((1:Int)+r5.1)),(v8,(v9,(([]:List ByteArray),(r23.1,r24.1))))),((r24.2.1.1,(r24.2.1.2.1,r24.2.1.2.2)),()))else some (((IntKind.wrap .i64 ((1:Int)+r5.1)),(v8,(v9,(([]:List ByteArray),((⟨#[]⟩:ByteArray),(⟨#[]⟩:ByteArray)))))),((r7.2.1.1,(r7.2.1.2.1,r7.2.1.2.2)),()))else none
def B5k (n:Nat):Nat→List Int→Int→Int→Int→ByteArray→Int→ByteArray→ByteArray→ByteArray→Y3→Y3→Y18→List ByteArray→Int→ByteArray→Int→ByteArray→ByteArray→ByteArray→Y3→Y3→Y18→List ByteArray→Option Y36
  |0,_,_,_,_,_,_,_,_,_,_,_,_,_,_,_,_,_,_,_,_,_,_,_=>none
  |j+1,x157,x158,x159,x160,x161,x162,x163,x164,x165,x166,x167,x168,x169,x170,x171,x172,x173,x174,x175,x176,x177,x178,x179=>some ((x170,(x171,(x176,(x177,(x172,(x173,(x178,(x179,(x174,x175))))))))),((x157,(x158,x159)),()))
def B5j (n:Nat):Nat→List Int→Int→Int→Int→ByteArray→Int→ByteArray→ByteArray→ByteArray→Y3→Y3→Y18→List ByteArray→Int→ByteArray→Int→ByteArray→ByteArray→ByteArray→Y3→Y3→Y18→List ByteArray→Option Y36
  |0,_,_,_,_,_,_,_,_,_,_,_,_,_,_,_,_,_,_,_,_,_,_,_=>none
  |j+1,x132,x133,x134,x135,x136,x137,x138,x139,x140,x141,x142,x143,x144,x145,x146,x147,x148,x149,x150,x151,x152,x153,x154=>bif x145==(5:Int)then (C2c n x132 x133 x134).bind fun r155=>(D0 n r155.2.1.1 r155.2.1.2.1 r155.2.1.2.2 2).bind fun r156=>bif r156.1==(0:Int)then bif r155.1.1 !=(1:Int)then B5k n 1 r156.2.1.1 r156.2.1.2.1 r156.2.1.2.2 x135 x136 x137 x138 x139 x140 x141 x142 x143 x144 x145 x146 r155.1.1 x146 r155.1.2.2.2.2.1 r155.1.2.2.2.2.2 x151 x152 r155.1.2.2.1 r155.1.2.2.2.1 else B5k n 1 r156.2.1.1 r156.2.1.2.1 r156.2.1.2.2 x135 x136 x137 x138 x139 x140 x141 x142 x143 x144 x145 r155.1.2.1 r155.1.1 r155.1.2.1 r155.1.2.2.2.2.1 r155.1.2.2.2.2.2 x151 x152 r155.1.2.2.1 r155.1.2.2.2.1 else B5k n 1 r156.2.1.1 r156.2.1.2.1 r156.2.1.2.2 x135 x136 x137 x138 x139 x140 x141 x142 x143 x144 x145 r155.1.2.1 r155.1.1 r155.1.2.1 r155.1.2.2.2.2.1 r155.1.2.2.2.2.2 x151 x152 r155.1.2.2.1 r155.1.2.2.2.1 else B5k n 1 x132 x133 x134 x135 x136 x137 x138 x139 x140 x141 x142 x143 x144 x145 x146 x147 x148 x149 x150 x151 x152 x153 x154
def B5i (n:Nat):Nat→List Int→Int→Int→Int→ByteArray→Int→ByteArray→ByteArray→ByteArray→Y3→Y3→Y18→List ByteArray→Int→ByteArray→Int→ByteArray→ByteArray→ByteArray→Y3→Y3→Y18→List ByteArray→Option Y36
  |0,_,_,_,_,_,_,_,_,_,_,_,_,_,_,_,_,_,_,_,_,_,_,_=>none
  |j+1,x103,x104,x105,x106,x107,x108,x109,x110,x111,x112,x113,x114,x115,x116,x117,x118,x119,x120,x121,x122,x123,x124,x125=>bif x116==(2:Int)then let v126:Bool:=(decide ((0:Int)<(x122.length:Int)));bif v126 then (D0 n x103 x104 x105 2).bind fun r127=>bif r127.1==(0:Int)then bif inR 0 x122.length then let v128:Int:=(x122.getD (0:Int).toNat (0,(0,⟨#[]⟩))).1;let v129:Int:=(x122.getD (0:Int).toNat (0,(0,⟨#[]⟩))).2.1;let v130:ByteArray:=(x122.getD (0:Int).toNat (0,(0,⟨#[]⟩))).2.2;bif inR 0 x123.length then let v131:=(x123.set (0:Int).toNat (v128,(v129,v130)));B5j n 1 r127.2.1.1 r127.2.1.2.1 r127.2.1.2.2 x106 x107 x108 x109 x110 x111 x112 x113 x114 x115 x116 x117 x118 x119 x120 x121 x122 v131 x124 x125 else none else none else B5j n 1 r127.2.1.1 r127.2.1.2.1 r127.2.1.2.2 x106 x107 x108 x109 x110 x111 x112 x113 x114 x115 x116 x117 x118 x119 x120 x121 x122 x123 x124 x125 else B5j n 1 x103 x104 x105 x106 x107 x108 x109 x110 x111 x112 x113 x114 x115 x116 x117 x118 x119 x120 x121 x122 x123 x124 x125 else B5j n 1 x103 x104 x105 x106 x107 x108 x109 x110 x111 x112 x113 x114 x115 x116 x117 x118 x119 x120 x121 x122 x123 x124 x125
def B5h (n:Nat):Nat→Y6→List Int→Int→Int→Int→ByteArray→Int→ByteArray→ByteArray→ByteArray→Y3→Y3→Y18→List ByteArray→Int→ByteArray→Int→ByteArray→ByteArray→ByteArray→Y3→Y3→Y18→List ByteArray→ByteArray→Y18→List ByteArray→Option Y36
  |0,_,_,_,_,_,_,_,_,_,_,_,_,_,_,_,_,_,_,_,_,_,_,_,_,_,_,_=>none
  |j+1,x75,x76,x77,x78,x79,x80,x81,x82,x83,x84,x85,x86,x87,x88,x89,x90,x91,x92,x93,x94,x95,x96,x97,x98,x99,x100,x101=>bif x89==(2:Int)then (B80 n x76 x77 x78 x99 x100 x101 x75).bind fun r102=>B5i n 1 r102.2.1.1 r102.2.1.2.1 r102.2.1.2.2 x79 x80 x81 x82 x83 x84 x85 x86 x87 x88 x89 x90 x91 x92 x93 x94 r102.1 x96 x97 x98 else bif x89==(3:Int)then (B80 n x76 x77 x78 x99 x100 x101 x75).bind fun r180=>B5i n 1 r180.2.1.1 r180.2.1.2.1 r180.2.1.2.2 x79 x80 x81 x82 x83 x84 x85 x86 x87 x88 x89 x90 x91 x92 x93 x94 r180.1 x96 x97 x98 else B5i n 1 x76 x77 x78 x79 x80 x81 x82 x83 x84 x85 x86 x87 x88 x89 x90 x91 x92 x93 x94 x95 x96 x97 x98
def B5g (n:Nat):Nat→Y6→List Int→Int→Int→Int→ByteArray→Int→ByteArray→ByteArray→ByteArray→Y3→Y3→Y18→List ByteArray→Int→ByteArray→Int→ByteArray→ByteArray→ByteArray→Y3→Y3→Y18→List ByteArray→ByteArray→Y18→List ByteArray→Option Y36
  |0,_,_,_,_,_,_,_,_,_,_,_,_,_,_,_,_,_,_,_,_,_,_,_,_,_,_,_=>none
  |j+1,x47,x48,x49,x50,x51,x52,x53,x54,x55,x56,x57,x58,x59,x60,x61,x62,x63,x64,x65,x66,x67,x68,x69,x70,x71,x72,x73=>bif x61==(1:Int)then (B8f n x48 x49 x50 x71 x72 x73).bind fun r74=>B5h n 1 x47 r74.2.1.1 r74.2.1.2.1 r74.2.1.2.2 x51 x52 x53 x54 x55 x56 x57 x58 x59 x60 x61 x62 x63 x64 x65 x66 x67 r74.1 x69 x70 x71 x72 x73 else bif x61==(2:Int)then (B8f n x48 x49 x50 x71 x72 x73).bind fun r181=>B5h n 1 x47 r181.2.1.1 r181.2.1.2.1 r181.2.1.2.2 x51 x52 x53 x54 x55 x56 x57 x58 x59 x60 x61 x62 x63 x64 x65 x66 x67 r181.1 x69 x70 x71 x72 x73 else B5h n 1 x47 x48 x49 x50 x51 x52 x53 x54 x55 x56 x57 x58 x59 x60 x61 x62 x63 x64 x65 x66 x67 x68 x69 x70 x71 x72 x73
def B8p (n:Nat):Nat→Int→List Int→Int→Int→Y23→Y10→Int→ByteArray→Int→ByteArray→ByteArray→ByteArray→Y3→Y3→Y18→List ByteArray→Int→ByteArray→Int→ByteArray→ByteArray→ByteArray→Y3→Y3→Y18→List ByteArray→Option Y36
  |0,_,_,_,_,_,_,_,_,_,_,_,_,_,_,_,_,_,_,_,_,_,_,_,_,_,_=>none
  |j+1,x14,x15,x16,x17,x18,x19,x20,x21,x22,x23,x24,x25,x26,x27,x28,x29,x30,x31,x32,x33,x34,x35,x36,x37,x38,x39=>(B7g n x15 x16 x17 (⟨#[116]⟩:ByteArray)).bind fun r40=>let v41:Y18:=[];let v42:Y6:=[];bif decide ((0:Int)<x14)then bif (x19.length:Int)==x14 then (D0 n r40.2.1.1 r40.2.1.2.1 r40.2.1.2.2 8).bind fun r43=>bif decide ((0:Int)<r43.1)then (D0 n r43.2.1.1 r43.2.1.2.1 r43.2.1.2.2 x14).bind fun r44=>bif inR r44.1 x18.length then let v45:=(x18.getD r44.1.toNat (⟨#[]⟩,([],[])));bif inR r44.1 x19.length then let v46:=(x19.getD r44.1.toNat []);B5g n 1 v46 r44.2.1.1 r44.2.1.2.1 r44.2.1.2.2 x20 x21 x22 x23 x24 x25 x26 x27 x28 x29 x30 v45.1 x32 x33 x34 x35 x36 x37 x38 x39 v45.1 v45.2.1 v45.2.2 else none else none else B5g n 1 v42 r43.2.1.1 r43.2.1.2.1 r43.2.1.2.2 x20 x21 x22 x23 x24 x25 x26 x27 x28 x29 x30 x31 x32 x33 x34 x35 x36 x37 x38 x39 r40.1.1 r40.1.2.1 r40.1.2.2 else B5g n 1 v42 r40.2.1.1 r40.2.1.2.1 r40.2.1.2.2 x20 x21 x22 x23 x24 x25 x26 x27 x28 x29 x30 x31 x32 x33 x34 x35 x36 x37 x38 x39 r40.1.1 r40.1.2.1 r40.1.2.2 else B5g n 1 v42 r40.2.1.1 r40.2.1.2.1 r40.2.1.2.2 x20 x21 x22 x23 x24 x25 x26 x27 x28 x29 x30 x31 x32 x33 x34 x35 x36 x37 x38 x39 r40.1.1 r40.1.2.1 r40.1.2.2
def C2t:Nat→(List Int)→Int→Int→Y24→Y12→Option Y36
  |0,_,_,_,_,_=>none
  |n+1,a1,a2,a3,a4,a5=>let v6:Y18:=[];(D0 n a1 a2 a3 5).bind fun r7=>let v8:List ByteArray:=[(⟨#[111]⟩:ByteArray),(⟨#[116]⟩:ByteArray),(⟨#[117]⟩:ByteArray),(⟨#[118]⟩:ByteArray)];(D0 n r7.2.1.1 r7.2.1.2.1 r7.2.1.2.2 4).bind fun r9=>bif inR r9.1 v8.length then let v10:ByteArray:=(v8.getD r9.1.toNat ⟨#[]⟩);let v11:Y18:=[];let v12:Y18:=[];(D0 n r9.2.1.1 r9.2.1.2.1 r9.2.1.2.2 3).bind fun r13=>bif r13.1==(0:Int)then B8p n 1 a4.length r13.2.1.1 r13.2.1.2.1 r13.2.1.2.2 a4 a5 0 (⟨#[]⟩:ByteArray) 0 (⟨#[]⟩:ByteArray) (⟨#[]⟩:ByteArray) (⟨#[]⟩:ByteArray) ([]:Y3) ([]:Y3) v6 ([]:List ByteArray) 1 v10 0 (⟨#[]⟩:ByteArray) (⟨#[]⟩:ByteArray) (⟨#[]⟩:ByteArray) ([]:Y3) ([]:Y3) v11 ([]:List ByteArray)else B8p n 1 a4.length r13.2.1.1 r13.2.1.2.1 r13.2.1.2.2 a4 a5 0 (⟨#[]⟩:ByteArray) 0 (⟨#[]⟩:ByteArray) (⟨#[]⟩:ByteArray) (⟨#[]⟩:ByteArray) ([]:Y3) ([]:Y3) v6 ([]:List ByteArray) (IntKind.wrap .i64 ((1:Int)+r7.1)) v10 0 (⟨#[]⟩:ByteArray) (⟨#[]⟩:ByteArray) (⟨#[]⟩:ByteArray) ([]:Y3) ([]:Y3) v11 ([]:List ByteArray)else none
def B7f (n:Nat):Nat→List Int→Int→Int→Int→ByteArray→ByteArray→ByteArray→Y18→List ByteArray→Int→ByteArray→ByteArray→ByteArray→Y18→List ByteArray→Option Y33
  |0,_,_,_,_,_,_,_,_,_,_,_,_,_,_,_=>none
  |j+1,x92,x93,x94,x95,x96,x97,x98,x99,x100,x101,x102,x103,x104,x105,x106=>some ((x101,(x102,(x105,(x106,(x103,x104))))),((x92,(x93,x94)),()))
def B7e (n:Nat):Nat→Int→List Int→Int→Int→Int→ByteArray→ByteArray→ByteArray→Y18→List ByteArray→Int→ByteArray→ByteArray→ByteArray→Y18→List ByteArray→Option Y33
  |0,_,_,_,_,_,_,_,_,_,_,_,_,_,_,_,_=>none
  |j+1,x75,x76,x77,x78,x79,x80,x81,x82,x83,x84,x85,x86,x87,x88,x89,x90=>bif x75==(5:Int)then let v91:List ByteArray:=[(⟨#[105,100]⟩:ByteArray)];bif room (x90.length+v91.length) 16 then B7f n 1 x76 x77 x78 x79 x80 x81 x82 x83 x84 x85 x86 x87 x88 x89 (x90++v91)else none else B7f n 1 x76 x77 x78 x79 x80 x81 x82 x83 x84 x85 x86 x87 x88 x89 x90
def B7d (n:Nat):Nat→Int→List Int→Int→Int→Int→ByteArray→ByteArray→ByteArray→Y18→List ByteArray→Int→ByteArray→ByteArray→ByteArray→Y18→List ByteArray→Option Y33
  |0,_,_,_,_,_,_,_,_,_,_,_,_,_,_,_,_=>none
  |j+1,x57,x58,x59,x60,x61,x62,x63,x64,x65,x66,x67,x68,x69,x70,x71,x72=>bif x57==(4:Int)then (C0t n x58 x59 x60 (⟨#[122]⟩:ByteArray)).bind fun r73=>let v74:Y18:=[(r73.1.1,(r73.1.2.1,(r73.1.2.2.1,(r73.1.2.2.2.1,(r73.1.2.2.2.2.1,(r73.1.2.2.2.2.2.1,r73.1.2.2.2.2.2.2))))))];bif room (x71.length+v74.length) 64 then B7e n 1 x57 r73.2.1.1 r73.2.1.2.1 r73.2.1.2.2 x61 x62 x63 x64 x65 x66 x67 x68 x69 x70 (x71++v74) x72 else none else B7e n 1 x57 x58 x59 x60 x61 x62 x63 x64 x65 x66 x67 x68 x69 x70 x71 x72
def B7c (n:Nat):Nat→Int→List Int→Int→Int→Int→ByteArray→ByteArray→ByteArray→Y18→List ByteArray→Int→ByteArray→ByteArray→ByteArray→Y18→List ByteArray→Option Y33
  |0,_,_,_,_,_,_,_,_,_,_,_,_,_,_,_,_=>none
  |j+1,x41,x42,x43,x44,x45,x46,x47,x48,x49,x50,x51,x52,x53,x54,x55,x56=>bif x41==(3:Int)then B7d n 1 x41 x42 x43 x44 x45 x46 x47 x48 x49 x50 x51 x52 x53 (⟨#[120]⟩:ByteArray) x55 x56 else B7d n 1 x41 x42 x43 x44 x45 x46 x47 x48 x49 x50 x51 x52 x53 x54 x55 x56
def B7b (n:Nat):Nat→Int→List Int→Int→Int→Int→ByteArray→ByteArray→ByteArray→Y18→List ByteArray→Int→ByteArray→ByteArray→ByteArray→Y18→List ByteArray→Option Y33
  |0,_,_,_,_,_,_,_,_,_,_,_,_,_,_,_,_=>none
  |j+1,x25,x26,x27,x28,x29,x30,x31,x32,x33,x34,x35,x36,x37,x38,x39,x40=>bif x25==(2:Int)then B7c n 1 x25 x26 x27 x28 x29 x30 x31 x32 x33 x34 x35 x36 (⟨#[88]⟩:ByteArray) x38 x39 x40 else B7c n 1 x25 x26 x27 x28 x29 x30 x31 x32 x33 x34 x35 x36 x37 x38 x39 x40
def B7a (n:Nat):Nat→Int→List Int→Int→Int→Int→ByteArray→ByteArray→ByteArray→Y18→List ByteArray→Int→ByteArray→ByteArray→ByteArray→Y18→List ByteArray→Option Y33
  |0,_,_,_,_,_,_,_,_,_,_,_,_,_,_,_,_=>none
  |j+1,x9,x10,x11,x12,x13,x14,x15,x16,x17,x18,x19,x20,x21,x22,x23,x24=>bif x9==(1:Int)then B7b n 1 x9 x10 x11 x12 x13 x14 x15 x16 x17 x18 x19 (⟨#[]⟩:ByteArray) x21 x22 x23 x24 else B7b n 1 x9 x10 x11 x12 x13 x14 x15 x16 x17 x18 x19 x20 x21 x22 x23 x24
def C1e:Nat→(List Int)→Int→Int→Option Y33
  |0,_,_,_=>none
  |n+1,a1,a2,a3=>let v4:Y18:=[];(C2c n a1 a2 a3).bind fun r5=>let v6:Y18:=[];(D0 n r5.2.1.1 r5.2.1.2.1 r5.2.1.2.2 14).bind fun r7=>bif r7.1==(0:Int)then (D0 n r7.2.1.1 r7.2.1.2.1 r7.2.1.2.2 8).bind fun r8=>B7a n 1 r7.1 r8.2.1.1 r8.2.1.2.1 r8.2.1.2.2 0 (⟨#[]⟩:ByteArray) (⟨#[]⟩:ByteArray) (⟨#[]⟩:ByteArray) v4 ([]:List ByteArray) (IntKind.wrap .i64 (r8.1 - 1)) r5.1.2.1 r5.1.2.2.2.2.1 r5.1.2.2.2.2.2 r5.1.2.2.1 r5.1.2.2.2.1 else B7a n 1 r7.1 r7.2.1.1 r7.2.1.2.1 r7.2.1.2.2 0 (⟨#[]⟩:ByteArray) (⟨#[]⟩:ByteArray) (⟨#[]⟩:ByteArray) v4 ([]:List ByteArray) r5.1.1 r5.1.2.1 r5.1.2.2.2.2.1 r5.1.2.2.2.2.2 r5.1.2.2.1 r5.1.2.2.2.1
def B6h (n:Nat):Nat→List Int→Int→Int→Int→ByteArray→Int→ByteArray→ByteArray→ByteArray→Y3→Y3→Y18→List ByteArray→Int→ByteArray→Int→ByteArray→ByteArray→ByteArray→Y3→Y3→Y18→List ByteArray→Option Y36
  |0,_,_,_,_,_,_,_,_,_,_,_,_,_,_,_,_,_,_,_,_,_,_,_=>none
  |j+1,x115,x116,x117,x118,x119,x120,x121,x122,x123,x124,x125,x126,x127,x128,x129,x130,x131,x132,x133,x134,x135,x136,x137=>some ((x128,(x129,(x134,(x135,(x130,(x131,(x136,(x137,(x132,x133))))))))),((x115,(x116,x117)),()))
def B6g (n:Nat):Nat→Int→List Int→Int→Int→Int→ByteArray→Int→ByteArray→ByteArray→ByteArray→Y3→Y3→Y18→List ByteArray→Int→ByteArray→Int→ByteArray→ByteArray→ByteArray→Y3→Y3→Y18→List ByteArray→Option Y36
  |0,_,_,_,_,_,_,_,_,_,_,_,_,_,_,_,_,_,_,_,_,_,_,_,_=>none
  |j+1,x90,x91,x92,x93,x94,x95,x96,x97,x98,x99,x100,x101,x102,x103,x104,x105,x106,x107,x108,x109,x110,x111,x112,x113=>bif x90==(4:Int)then (C1e n x91 x92 x93).bind fun r114=>B6h n 1 r114.2.1.1 r114.2.1.2.1 r114.2.1.2.2 x94 x95 x96 x97 x98 x99 x100 x101 x102 x103 x104 x105 r114.1.1 r114.1.2.1 r114.1.2.2.2.2.1 r114.1.2.2.2.2.2 x110 x111 r114.1.2.2.1 r114.1.2.2.2.1 else B6h n 1 x91 x92 x93 x94 x95 x96 x97 x98 x99 x100 x101 x102 x103 x104 x105 x106 x107 x108 x109 x110 x111 x112 x113
def B6f (n:Nat):Nat→Int→List Int→Int→Int→Int→ByteArray→Int→ByteArray→ByteArray→ByteArray→Y3→Y3→Y18→List ByteArray→Int→ByteArray→Int→ByteArray→ByteArray→ByteArray→Y3→Y3→Y18→List ByteArray→Option Y36
  |0,_,_,_,_,_,_,_,_,_,_,_,_,_,_,_,_,_,_,_,_,_,_,_,_=>none
  |j+1,x64,x65,x66,x67,x68,x69,x70,x71,x72,x73,x74,x75,x76,x77,x78,x79,x80,x81,x82,x83,x84,x85,x86,x87=>bif x64==(3:Int)then (B4u n x65 x66 x67).bind fun r88=>let v89:Y3:=[(r88.1.1,(r88.1.2.1,r88.1.2.2))];bif room (x85.length+v89.length) 32 then B6g n 1 x64 r88.2.1.1 r88.2.1.2.1 r88.2.1.2.2 x68 x69 x70 x71 x72 x73 x74 x75 x76 x77 x78 x79 x80 x81 x82 x83 x84 (x85++v89) x86 x87 else none else B6g n 1 x64 x65 x66 x67 x68 x69 x70 x71 x72 x73 x74 x75 x76 x77 x78 x79 x80 x81 x82 x83 x84 x85 x86 x87
def B6e (n:Nat):Nat→Int→List Int→Int→Int→Int→ByteArray→Int→ByteArray→ByteArray→ByteArray→Y3→Y3→Y18→List ByteArray→Int→ByteArray→Int→ByteArray→ByteArray→ByteArray→Y3→Y3→Y18→List ByteArray→Option Y36
  |0,_,_,_,_,_,_,_,_,_,_,_,_,_,_,_,_,_,_,_,_,_,_,_,_=>none
  |j+1,x38,x39,x40,x41,x42,x43,x44,x45,x46,x47,x48,x49,x50,x51,x52,x53,x54,x55,x56,x57,x58,x59,x60,x61=>bif x38==(2:Int)then (B4u n x39 x40 x41).bind fun r62=>let v63:Y3:=[(r62.1.1,(r62.1.2.1,r62.1.2.2))];bif room (x58.length+v63.length) 32 then B6f n 1 x38 r62.2.1.1 r62.2.1.2.1 r62.2.1.2.2 x42 x43 x44 x45 x46 x47 x48 x49 x50 x51 x52 x53 x54 x55 x56 x57 (x58++v63) x59 x60 x61 else none else B6f n 1 x38 x39 x40 x41 x42 x43 x44 x45 x46 x47 x48 x49 x50 x51 x52 x53 x54 x55 x56 x57 x58 x59 x60 x61
def B6d (n:Nat):Nat→Int→List Int→Int→Int→Int→ByteArray→Int→ByteArray→ByteArray→ByteArray→Y3→Y3→Y18→List ByteArray→Int→ByteArray→Int→ByteArray→ByteArray→ByteArray→Y3→Y3→Y18→List ByteArray→Option Y36
  |0,_,_,_,_,_,_,_,_,_,_,_,_,_,_,_,_,_,_,_,_,_,_,_,_=>none
  |j+1,x11,x12,x13,x14,x15,x16,x17,x18,x19,x20,x21,x22,x23,x24,x25,x26,x27,x28,x29,x30,x31,x32,x33,x34=>bif x11==(1:Int)then let v35:List ByteArray:=[(⟨#[]⟩:ByteArray),(⟨#[84]⟩:ByteArray),(⟨#[122,122]⟩:ByteArray)];(D0 n x12 x13 x14 3).bind fun r36=>bif inR r36.1 v35.length then let v37:ByteArray:=(v35.getD r36.1.toNat ⟨#[]⟩);B6e n 1 x11 r36.2.1.1 r36.2.1.2.1 r36.2.1.2.2 x15 x16 x17 x18 x19 x20 x21 x22 x23 x24 x25 v37 x27 x28 x29 x30 x31 x32 x33 x34 else none else B6e n 1 x11 x12 x13 x14 x15 x16 x17 x18 x19 x20 x21 x22 x23 x24 x25 x26 x27 x28 x29 x30 x31 x32 x33 x34
def C0g:Nat→(List Int)→Int→Int→Y24→Y12→Option Y36
  |0,_,_,_,_,_=>none
  |n+1,a1,a2,a3,a4,a5=>let v6:Y18:=[];(C2t n a1 a2 a3 a4 a5).bind fun r7=>let v8:Y18:=[];(D0 n r7.2.1.1 r7.2.1.2.1 r7.2.1.2.2 14).bind fun r9=>bif r9.1==(0:Int)then (D0 n r9.2.1.1 r9.2.1.2.1 r9.2.1.2.2 8).bind fun r10=>B6d n 1 r9.1 r10.2.1.1 r10.2.1.2.1 r10.2.1.2.2 0 (⟨#[]⟩:ByteArray) 0 (⟨#[]⟩:ByteArray) (⟨#[]⟩:ByteArray) (⟨#[]⟩:ByteArray) ([]:Y3) ([]:Y3) v6 ([]:List ByteArray) (IntKind.wrap .i64 (r10.1 - 1)) r7.1.2.1 r7.1.2.2.2.2.1 r7.1.2.2.2.2.2.1 r7.1.2.2.2.2.2.2.2.2.1 r7.1.2.2.2.2.2.2.2.2.2 r7.1.2.2.1 r7.1.2.2.2.1 r7.1.2.2.2.2.2.2.1 r7.1.2.2.2.2.2.2.2.1 else B6d n 1 r9.1 r9.2.1.1 r9.2.1.2.1 r9.2.1.2.2 0 (⟨#[]⟩:ByteArray) 0 (⟨#[]⟩:ByteArray) (⟨#[]⟩:ByteArray) (⟨#[]⟩:ByteArray) ([]:Y3) ([]:Y3) v6 ([]:List ByteArray) r7.1.1 r7.1.2.1 r7.1.2.2.2.2.1 r7.1.2.2.2.2.2.1 r7.1.2.2.2.2.2.2.2.2.1 r7.1.2.2.2.2.2.2.2.2.2 r7.1.2.2.1 r7.1.2.2.2.1 r7.1.2.2.2.2.2.2.1 r7.1.2.2.2.2.2.2.2.1
def C21:Nat→(List Int)→Option (Y31×((Int×Y35)×Unit))
  |0,_=>none
  |n+1,a1=>let v2:Y23:=[];let v3:Y10:=[];let v4:Y18:=[];(C3r n a1).bind fun r5=>(C3x n r5.1.1 r5.1.2.1 r5.1.2.2).bind fun r6=>let v7:Y23:=[];let v8:Y10:=[];(C0g n r6.2.1.1 r6.2.1.2.1 r6.2.1.2.2 r6.1.1 r6.1.2).bind fun r9=>some ((r6.1.1,r6.1.2),((r9.1.1,(r9.1.2.1,(r9.1.2.2.1,(r9.1.2.2.2.1,(r9.1.2.2.2.2.1,(r9.1.2.2.2.2.2.1,(r9.1.2.2.2.2.2.2.1,(r9.1.2.2.2.2.2.2.2.1,(r9.1.2.2.2.2.2.2.2.2.1,r9.1.2.2.2.2.2.2.2.2.2))))))))),()))
def B75:Nat→Int→Int→Int→Option Bool
  |0,_,_,_=>none
  |n+1,a1,a2,a3=>bif decide (a2≤a1)then some (decide (a1≤a3))else some false
def B7r (n:Nat):Nat→ByteArray→Int→Option Bool
  |0,_,_=>none
  |j+1,x2,x3=>bif decide (x3<(x2.size:Int))then bif inR x3 x2.size then bif decide ((bt x2 x3)<97)then some false else bif inR x3 x2.size then bif decide ((122:Int)<(bt x2 x3))then some false else B7r n j x2 (IntKind.wrap .i64 (x3+(1:Int)))else none else none else (B75 n (x2.size:Int) 1 8).bind fun r4=>some r4
def B5y:Nat→ByteArray→Option Bool
  |0,_=>none
  |n+1,a1=>B7r n n a1 0
def B8c:Nat→Int→Int→ByteArray→Option Bool
  |0,_,_,_=>none
  |n+1,a1,a2,a3=>bif a1==(0:Int)then let v4:Bool:=((a1==(0:Int))&&((a2==(0:Int))&&((a3.toList==(⟨#[]⟩:ByteArray).toList)&&true)));some v4 else bif a1==(1:Int)then (B75 n a2 0 1).bind fun r5=>bif r5 then let v6:Bool:=(a3.toList==(⟨#[]⟩:ByteArray).toList);some v6 else some false else bif a1==(2:Int)then (B75 n a2 (-1099511627775:Int) 1099511627775).bind fun r7=>bif r7 then let v8:Bool:=(a3.toList==(⟨#[]⟩:ByteArray).toList);some v8 else some false else bif a1==(3:Int)then bif a2==(0:Int)then some (decide ((a3.size:Int)≤30))else some false else some false
def C2z:Nat→ByteArray→Int→Bool→Bool→Int→Int→ByteArray→Option Bool
  |0,_,_,_,_,_,_,_=>none
  |n+1,a1,a2,a3,a4,a5,a6,a7=>(B5y n a1).bind fun r8=>bif !r8 then some false else (B75 n a2 1 3).bind fun r9=>bif !r9 then some false else (B8c n a5 a6 a7).bind fun r10=>bif !r10 then some false else bif !a4 then let v11:Bool:=((a5==(0:Int))&&((a6==(0:Int))&&((a7.toList==(⟨#[]⟩:ByteArray).toList)&&true)));some v11 else bif a5==a2 then some true else bif a5==(0:Int)then some (!a3)else some false
def C2n:Nat→ByteArray→Int→Bool→Bool→Int→Int→ByteArray→ByteArray→Option Bool
  |0,_,_,_,_,_,_,_,_=>none
  |n+1,a1,a2,a3,a4,a5,a6,a7,a8=>some (a1.toList==a8.toList)
def B2c (n:Nat):Nat→Y18→ByteArray→Int→Int→Option Int
  |0,_,_,_,_=>none
  |j+1,x3,x4,x5,x6=>bif decide (x6<x5)then bif inR x6 x3.length then let v7:=(x3.getD x6.toNat (⟨#[]⟩,(0,(false,(false,(0,(0,⟨#[]⟩)))))));(C2n n v7.1 v7.2.1 v7.2.2.1 v7.2.2.2.1 v7.2.2.2.2.1 v7.2.2.2.2.2.1 v7.2.2.2.2.2.2 x4).bind fun r8=>bif r8 then some x6 else B2c n j x3 x4 x5 (IntKind.wrap .i64 (x6+(1:Int)))else none else some (-1:Int)
def B2s:Nat→Y19→ByteArray→Option Int
  |0,_,_=>none
  |n+1,a1,a2=>B2c n n a1 a2 a1.length 0
def B2h:Nat→ByteArray→Y19→(List ByteArray)→ByteArray→Option Int
  |0,_,_,_,_=>none
  |n+1,a1,a2,a3,a4=>(B2s n a2 a4).bind fun r5=>some r5
def B5a (n:Nat):Nat→Int→List ByteArray→Int→Int→ByteArray→Y18→List ByteArray→Option Bool
  |0,_,_,_,_,_,_,_=>none
  |j+1,x13,x14,x15,x16,x17,x18,x19=>bif decide (x16<x15)then bif inR x16 x14.length then let v20:ByteArray:=(x14.getD x16.toNat ⟨#[]⟩);(B2h n x17 x18 x19 v20).bind fun r21=>bif decide (r21≤x13)then some false else bif inR r21 x18.length then let v22:=(x18.getD r21.toNat (⟨#[]⟩,(0,(false,(false,(0,(0,⟨#[]⟩)))))));bif !v22.2.2.1 then some false else B5a n j r21 x14 x15 (IntKind.wrap .i64 (x16+(1:Int))) x17 x18 x19 else none else none else (B5y n x17).bind fun r23=>bif r23 then (B75 n x18.length 1 8).bind fun r24=>bif r24 then let v25:Bool:=(decide ((0:Int)<(x19.length:Int)));some v25 else some false else some false
def B6s (n:Nat):Nat→Y18→Int→Int→ByteArray→Y18→List ByteArray→Option Bool
  |0,_,_,_,_,_,_=>none
  |j+1,x4,x5,x6,x7,x8,x9=>bif decide (x6<x5)then bif inR x6 x4.length then let v10:=(x4.getD x6.toNat (⟨#[]⟩,(0,(false,(false,(0,(0,⟨#[]⟩)))))));(C2z n v10.1 v10.2.1 v10.2.2.1 v10.2.2.2.1 v10.2.2.2.2.1 v10.2.2.2.2.2.1 v10.2.2.2.2.2.2).bind fun r11=>bif !r11 then some false else (B2h n x7 x8 x9 v10.1).bind fun r12=>bif r12 !=x6 then some false else B6s n j x4 x5 (IntKind.wrap .i64 (x6+(1:Int))) x7 x8 x9 else none else B5a n n (-1:Int) x9 x9.length 0 x7 x8 x9
def B8b:Nat→ByteArray→Y19→(List ByteArray)→Option Bool
  |0,_,_,_=>none
  |n+1,a1,a2,a3=>B6s n n a2 a2.length 0 a1 a2 a3
def B7k (n:Nat):Nat→Y23→Int→Int→Y23→Option Bool
  |0,_,_,_,_=>none
  |j+1,x2,x3,x4,x5=>bif decide (x4<x3)then bif inR x4 x2.length then let v6:=(x2.getD x4.toNat (⟨#[]⟩,([],[])));let v7:Y18:=[];(B8b n v6.1 v6.2.1 v6.2.2).bind fun r8=>bif !r8 then some false else bif decide ((0:Int)<x4)then bif inR (IntKind.wrap .i64 (x4 - 1)) x5.length then let v9:=(x5.getD (IntKind.wrap .i64 (x4 - 1)).toNat (⟨#[]⟩,([],[])));let v10:Bool:=(!(Op.bytesLess v9.1.toList v6.1.toList));bif v10 then some false else B7k n j x2 x3 (IntKind.wrap .i64 (x4+(1:Int))) x5 else none else B7k n j x2 x3 (IntKind.wrap .i64 (x4+(1:Int))) x5 else none else let v11:Bool:=(decide ((x5.length:Int)≤6));some v11
def C2y:Nat→Y24→Option Bool
  |0,_=>none
  |n+1,a1=>B7k n n a1 a1.length 0 a1
def C3n:Nat→ByteArray→Int→Bool→Bool→Int→Int→ByteArray→Int→Int→ByteArray→Option Bool
  |0,_,_,_,_,_,_,_,_,_,_=>none
  |n+1,a1,a2,a3,a4,a5,a6,a7,a8,a9,a10=>(B8c n a8 a9 a10).bind fun r11=>bif r11 then bif a8==a2 then some true else bif a8==(0:Int)then some (!a3)else some false else some false
def B8y (n:Nat):Nat→Y3→Int→Int→ByteArray→Y18→List ByteArray→Option Bool
  |0,_,_,_,_,_,_=>none
  |j+1,x6,x7,x8,x9,x10,x11=>bif decide (x8<x7)then bif inR x8 x6.length then let v12:=(x6.getD x8.toNat (0,(0,⟨#[]⟩)));bif inR x8 x10.length then let v13:=(x10.getD x8.toNat (⟨#[]⟩,(0,(false,(false,(0,(0,⟨#[]⟩)))))));(C3n n v13.1 v13.2.1 v13.2.2.1 v13.2.2.2.1 v13.2.2.2.2.1 v13.2.2.2.2.2.1 v13.2.2.2.2.2.2 v12.1 v12.2.1 v12.2.2).bind fun r14=>bif !r14 then some false else B8y n j x6 x7 (IntKind.wrap .i64 (x8+(1:Int))) x9 x10 x11 else none else none else some true
def C1q:Nat→ByteArray→Y19→(List ByteArray)→Y4→Option Bool
  |0,_,_,_,_=>none
  |n+1,a1,a2,a3,a4=>let v5:Bool:=((a4.length:Int) !=(a2.length:Int));bif v5 then some false else B8y n n a4 a4.length 0 a1 a2 a3
def B8x (n:Nat):Nat→List ByteArray→Int→Int→ByteArray→Y18→List ByteArray→Y3→Y3→Option Y4
  |0,_,_,_,_,_,_,_,_=>none
  |j+1,x5,x6,x7,x8,x9,x10,x11,x12=>bif decide (x7<x6)then bif inR x7 x5.length then (B2h n x8 x9 x10 (x5.getD x7.toNat ⟨#[]⟩)).bind fun r13=>bif inR r13 x11.length then let v14:=(x11.getD r13.toNat (0,(0,⟨#[]⟩)));let v15:Y3:=[(v14.1,(v14.2.1,v14.2.2))];bif room (x12.length+v15.length) 32 then B8x n j x5 x6 (IntKind.wrap .i64 (x7+(1:Int))) x8 x9 x10 x11 (x12++v15)else none else none else none else some x12
def B7l:Nat→ByteArray→Y19→(List ByteArray)→Y4→Option Y4
  |0,_,_,_,_=>none
  |n+1,a1,a2,a3,a4=>B8x n n a3 a3.length 0 a1 a2 a3 a4 ([]:Y3)
def C12:Nat→Int→Int→ByteArray→Int→Int→ByteArray→Option Bool
  |0,_,_,_,_,_,_=>none
  |n+1,a1,a2,a3,a4,a5,a6=>(B8c n a1 a2 a3).bind fun r7=>bif !r7 then some false else (B8c n a4 a5 a6).bind fun r8=>bif !r8 then some false else bif a1 !=a4 then some (decide (a1<a4))else bif a2 !=a5 then some (decide (a2<a5))else some (Op.bytesLess a3.toList a6.toList)
def B8m (n:Nat):Nat→Y3→Y3→Int→Option Bool
  |0,_,_,_=>none
  |j+1,x3,x4,x5=>bif decide (x5<(x3.length:Int))then bif decide (x5<(x4.length:Int))then bif inR x5 x3.length then let v6:=(x3.getD x5.toNat (0,(0,⟨#[]⟩)));bif inR x5 x4.length then let v7:=(x4.getD x5.toNat (0,(0,⟨#[]⟩)));let v8:Bool:=(!((v6.1==v7.1)&&((v6.2.1==v7.2.1)&&((v6.2.2.toList==v7.2.2.toList)&&true))));bif v8 then bif inR x5 x3.length then let v9:=(x3.getD x5.toNat (0,(0,⟨#[]⟩)));bif inR x5 x4.length then let v10:=(x4.getD x5.toNat (0,(0,⟨#[]⟩)));(C12 n v9.1 v9.2.1 v9.2.2 v10.1 v10.2.1 v10.2.2).bind fun r11=>some r11 else none else none else B8m n j x3 x4 (IntKind.wrap .i64 (x5+(1:Int)))else none else none else let v12:Bool:=(decide ((x3.length:Int)<(x4.length:Int)));some v12 else let v13:Bool:=(decide ((x3.length:Int)<(x4.length:Int)));some v13
def C11:Nat→Y4→Y4→Option Bool
  |0,_,_=>none
  |n+1,a1,a2=>B8m n n a1 a2 0
def B6a (n:Nat):Nat→Y6→Y6→Int→Int→ByteArray→Y18→List ByteArray→Option Bool
  |0,_,_,_,_,_,_,_=>none
  |j+1,x7,x8,x9,x10,x11,x12,x13=>bif decide (x10<x9)then bif inR x10 x8.length then let v14:=(x8.getD x10.toNat []);(C1q n x11 x12 x13 v14).bind fun r15=>bif !r15 then some false else bif decide ((0:Int)<x10)then bif inR (IntKind.wrap .i64 (x10 - 1)) x7.length then let v16:=(x7.getD (IntKind.wrap .i64 (x10 - 1)).toNat []);(B7l n x11 x12 x13 v16).bind fun r17=>(B7l n x11 x12 x13 v14).bind fun r18=>(C11 n r17 r18).bind fun r19=>bif !r19 then some false else B6a n j x7 x8 x9 (IntKind.wrap .i64 (x10+(1:Int))) x11 x12 x13 else none else B6a n j x7 x8 x9 (IntKind.wrap .i64 (x10+(1:Int))) x11 x12 x13 else none else some true
def B86:Nat→ByteArray→Y19→(List ByteArray)→Y7→Option Bool
  |0,_,_,_,_=>none
  |n+1,a1,a2,a3,a4=>(B8b n a1 a2 a3).bind fun r5=>bif !r5 then some false else let v6:Bool:=(decide ((60:Int)<(a4.length:Int)));bif v6 then some false else B6a n n a4 a4 a4.length 0 a1 a2 a3
def B9s (n:Nat):Nat→Y23→Int→Int→Y23→Y10→Option Bool
  |0,_,_,_,_,_=>none
  |j+1,x5,x6,x7,x8,x9=>bif decide (x7<x6)then bif inR x7 x5.length then let v10:=(x5.getD x7.toNat (⟨#[]⟩,([],[])));let v11:Y18:=[];bif inR x7 x9.length then let v12:=(x9.getD x7.toNat []);(B86 n v10.1 v10.2.1 v10.2.2 v12).bind fun r13=>bif !r13 then some false else B9s n j x5 x6 (IntKind.wrap .i64 (x7+(1:Int))) x8 x9 else none else none else some true
def B9r:Nat→Y24→Y12→Option Bool
  |0,_,_=>none
  |n+1,a1,a2=>(C2y n a1).bind fun r3=>bif !r3 then some false else let v4:Bool:=((a2.length:Int) !=(a1.length:Int));bif v4 then some false else B9s n n a1 a1.length 0 a1 a2
def C17:Nat→(List ByteArray)→Option (List ByteArray)
  |0,_=>none
  |n+1,a1=>bif room a1.length 16 then some a1 else none
def B9e:Nat→ByteArray→Y19→(List ByteArray)→Option Y22
  |0,_,_,_=>none
  |n+1,a1,a2,a3=>let v4:Y18:=[];bif room a2.length 64 then (C17 n a3).bind fun r5=>some (a1,(a2,r5))else none
def B8u:Nat→Int→ByteArray→Y19→(List ByteArray)→ByteArray→ByteArray→Option Y22
  |0,_,_,_,_,_,_=>none
  |n+1,a1,a2,a3,a4,a5,a6=>let v7:Y18:=[];(B9e n a2 a3 a4).bind fun r8=>some (r8.1,(r8.2.1,r8.2.2))
def B2u (n:Nat):Nat→Y18→Y18→Int→Int→Option Bool
  |0,_,_,_,_=>none
  |j+1,x4,x5,x6,x7=>bif decide (x7<x6)then bif inR x7 x4.length then let v8:=(x4.getD x7.toNat (⟨#[]⟩,(0,(false,(false,(0,(0,⟨#[]⟩)))))));bif inR x7 x5.length then let v9:=(x5.getD x7.toNat (⟨#[]⟩,(0,(false,(false,(0,(0,⟨#[]⟩)))))));let v10:Bool:=(!((v8.1.toList==v9.1.toList)&&((v8.2.1==v9.2.1)&&((v8.2.2.1==v9.2.2.1)&&((v8.2.2.2.1==v9.2.2.2.1)&&((v8.2.2.2.2.1==v9.2.2.2.2.1)&&((v8.2.2.2.2.2.1==v9.2.2.2.2.2.1)&&((v8.2.2.2.2.2.2.toList==v9.2.2.2.2.2.2.toList)&&true))))))));bif v10 then some false else B2u n j x4 x5 x6 (IntKind.wrap .i64 (x7+(1:Int)))else none else none else some true
def B3t:Nat→Y19→Y19→Option Bool
  |0,_,_=>none
  |n+1,a1,a2=>let v3:Bool:=((a1.length:Int) !=(a2.length:Int));bif v3 then some false else B2u n n a1 a2 a1.length 0
def B36 (n:Nat):Nat→List ByteArray→List ByteArray→Int→Int→Option Bool
  |0,_,_,_,_=>none
  |j+1,x4,x5,x6,x7=>bif decide (x7<x6)then bif inR x7 x4.length then bif inR x7 x5.length then let v8:Bool:=(!((x4.getD x7.toNat ⟨#[]⟩).toList==(x5.getD x7.toNat ⟨#[]⟩).toList));bif v8 then some false else B36 n j x4 x5 x6 (IntKind.wrap .i64 (x7+(1:Int)))else none else none else some true
def B4b:Nat→(List ByteArray)→(List ByteArray)→Option Bool
  |0,_,_=>none
  |n+1,a1,a2=>let v3:Bool:=((a1.length:Int) !=(a2.length:Int));bif v3 then some false else B36 n n a1 a2 a1.length 0
def B5z:Nat→Int→ByteArray→Y19→(List ByteArray)→ByteArray→ByteArray→Int→ByteArray→Y19→(List ByteArray)→ByteArray→ByteArray→Option Bool
  |0,_,_,_,_,_,_,_,_,_,_,_,_=>none
  |n+1,a1,a2,a3,a4,a5,a6,a7,a8,a9,a10,a11,a12=>bif a1==a7 then bif a2.toList==a8.toList then (B3t n a3 a9).bind fun r13=>bif r13 then (B4b n a4 a10).bind fun r14=>bif r14 then bif a5.toList==a11.toList then some (a6.toList==a12.toList)else some false else some false else some false else some false else some false
def C1p:Nat→Int→ByteArray→Y19→(List ByteArray)→ByteArray→ByteArray→Option Bool
  |0,_,_,_,_,_,_=>none
  |n+1,a1,a2,a3,a4,a5,a6=>(B5y n a2).bind fun r7=>bif !r7 then some false else let v8:Y18:=[];let v9:Y18:=[];bif a1==(1:Int)then (B8u n a1 a2 a3 a4 a5 a6).bind fun r10=>(B8b n r10.1 r10.2.1 r10.2.2).bind fun r11=>bif r11 then let v12:Bool:=(a5.toList==(⟨#[]⟩:ByteArray).toList);bif v12 then let v13:Bool:=(a6.toList==(⟨#[]⟩:ByteArray).toList);some v13 else some false else some false else bif a1==(2:Int)then (B5z n a1 a2 a3 a4 a5 a6 a1 a2 v8 ([]:List ByteArray) (⟨#[]⟩:ByteArray) (⟨#[]⟩:ByteArray)).bind fun r14=>some r14 else bif a1==(3:Int)then (B5z n a1 a2 a3 a4 a5 a6 a1 a2 a3 ([]:List ByteArray) (⟨#[]⟩:ByteArray) (⟨#[]⟩:ByteArray)).bind fun r15=>bif r15 then bif (a3.length:Int)==1 then bif inR 0 a3.length then let v16:=(a3.getD (0:Int).toNat (⟨#[]⟩,(0,(false,(false,(0,(0,⟨#[]⟩)))))));(C2z n v16.1 v16.2.1 v16.2.2.1 v16.2.2.2.1 v16.2.2.2.2.1 v16.2.2.2.2.2.1 v16.2.2.2.2.2.2).bind fun r17=>bif r17 then bif inR 0 a3.length then let v18:=(a3.getD (0:Int).toNat (⟨#[]⟩,(0,(false,(false,(0,(0,⟨#[]⟩)))))));bif v18.2.2.2.1 then some true else bif inR 0 a3.length then let v19:=(a3.getD (0:Int).toNat (⟨#[]⟩,(0,(false,(false,(0,(0,⟨#[]⟩)))))));some (!v19.2.2.1)else none else none else some false else none else some false else some false else bif a1==(4:Int)then (B5z n a1 a2 a3 a4 a5 a6 a1 a2 v8 ([]:List ByteArray) a5 (⟨#[]⟩:ByteArray)).bind fun r20=>bif r20 then (B5y n a5).bind fun r21=>some r21 else some false else bif a1==(5:Int)then (B5z n a1 a2 a3 a4 a5 a6 a1 a2 v8 ([]:List ByteArray) a5 a6).bind fun r22=>bif r22 then (B5y n a5).bind fun r23=>bif r23 then (B5y n a6).bind fun r24=>some r24 else some false else some false else some false
def C14:Nat→Int→Int→ByteArray→Option Bool
  |0,_,_,_=>none
  |n+1,a1,a2,a3=>(B8c n a1 a2 a3).bind fun r4=>some (!r4)
def B2a (n:Nat):Nat→Y3→Int→Int→Option Int
  |0,_,_,_=>none
  |j+1,x2,x3,x4=>bif decide (x4<x3)then bif inR x4 x2.length then let v5:=(x2.getD x4.toNat (0,(0,⟨#[]⟩)));(C14 n v5.1 v5.2.1 v5.2.2).bind fun r6=>bif r6 then some x4 else B2a n j x2 x3 (IntKind.wrap .i64 (x4+(1:Int)))else none else some (-1:Int)
def B2p:Nat→Y4→Option Int
  |0,_=>none
  |n+1,a1=>B2a n n a1 a1.length 0
def B2l:Nat→Y4→Option Bool
  |0,_=>none
  |n+1,a1=>(B2p n a1).bind fun r2=>some (decide ((0:Int)≤r2))
def B8d:Nat→Y4→Option Bool
  |0,_=>none
  |n+1,a1=>(B75 n a1.length 1 8).bind fun r2=>bif r2 then (B2l n a1).bind fun r3=>some (!r3)else some false
def C3l:Nat→Int→ByteArray→Y4→Y4→Int→ByteArray→Y19→(List ByteArray)→ByteArray→ByteArray→Option Bool
  |0,_,_,_,_,_,_,_,_,_,_=>none
  |n+1,a1,a2,a3,a4,a5,a6,a7,a8,a9,a10=>bif a1==(5:Int)then (C1p n a5 a6 a7 a8 a9 a10).bind fun r11=>bif r11 then bif a2.toList==a6.toList then bif (a3.length:Int)==0 then some ((a4.length:Int)==0)else some false else some false else some false else (B5y n a2).bind fun r12=>bif !r12 then some false else let v13:Y18:=[];(B5z n a5 a6 a7 a8 a9 a10 0 (⟨#[]⟩:ByteArray) v13 ([]:List ByteArray) (⟨#[]⟩:ByteArray) (⟨#[]⟩:ByteArray)).bind fun r14=>bif !r14 then some false else bif a1==(1:Int)then bif (a3.length:Int)==0 then (B8d n a4).bind fun r15=>some r15 else some false else bif a1==(2:Int)then (B8d n a3).bind fun r16=>bif r16 then (B8d n a4).bind fun r17=>some r17 else some false else bif a1==(3:Int)then (B8d n a3).bind fun r18=>bif r18 then some ((a4.length:Int)==0)else some false else bif a1==(4:Int)then bif (a3.length:Int)==0 then some ((a4.length:Int)==0)else some false else some false
def C1x:Nat→ByteArray→Y19→(List ByteArray)→ByteArray→Option Bool
  |0,_,_,_,_=>none
  |n+1,a1,a2,a3,a4=>some (a1.toList==a4.toList)
def B28 (n:Nat):Nat→Y23→ByteArray→Int→Int→Option Int
  |0,_,_,_,_=>none
  |j+1,x3,x4,x5,x6=>bif decide (x6<x5)then bif inR x6 x3.length then let v7:=(x3.getD x6.toNat (⟨#[]⟩,([],[])));(C1x n v7.1 v7.2.1 v7.2.2 x4).bind fun r8=>bif r8 then some x6 else B28 n j x3 x4 x5 (IntKind.wrap .i64 (x6+(1:Int)))else none else some (-1:Int)
def B2m:Nat→Y24→ByteArray→Option Int
  |0,_,_=>none
  |n+1,a1,a2=>B28 n n a1 a2 a1.length 0
def B85:Nat→Y24→ByteArray→Option Int
  |0,_,_=>none
  |n+1,a1,a2=>(B2m n a1 a2).bind fun r3=>some r3
def B37 (n:Nat):Nat→List ByteArray→ByteArray→Int→Int→Option Int
  |0,_,_,_,_=>none
  |j+1,x3,x4,x5,x6=>bif decide (x6<x5)then bif inR x6 x3.length then let v7:Bool:=(x4.toList==(x3.getD x6.toNat ⟨#[]⟩).toList);bif v7 then some x6 else B37 n j x3 x4 x5 (IntKind.wrap .i64 (x6+(1:Int)))else none else some (-1:Int)
def B3p:Nat→(List ByteArray)→ByteArray→Option Int
  |0,_,_=>none
  |n+1,a1,a2=>B37 n n a1 a2 a1.length 0
def C3:Nat→(List ByteArray)→ByteArray→Option Bool
  |0,_,_=>none
  |n+1,a1,a2=>(B3p n a1 a2).bind fun r3=>some (decide ((0:Int)≤r3))
def C18:Nat→Y24→Int→ByteArray→Y19→(List ByteArray)→ByteArray→ByteArray→Option Int
  |0,_,_,_,_,_,_,_=>none
  |n+1,a1,a2,a3,a4,a5,a6,a7=>(B85 n a1 a3).bind fun r8=>bif a2==(1:Int)then bif decide ((0:Int)≤r8)then some 2 else bif (a1.length:Int)==6 then some 3 else some 0 else bif decide (r8<(0:Int))then some 4 else bif inR r8 a1.length then let v9:=(a1.getD r8.toNat (⟨#[]⟩,([],[])));let v10:Y18:=[];bif a2==(3:Int)then bif inR 0 a4.length then let v11:=(a4.getD (0:Int).toNat (⟨#[]⟩,(0,(false,(false,(0,(0,⟨#[]⟩)))))));(B2h n v9.1 v9.2.1 v9.2.2 v11.1).bind fun r12=>bif decide ((0:Int)≤r12)then some 5 else bif a2==(5:Int)then (B2h n v9.1 v9.2.1 v9.2.2 a7).bind fun r13=>bif decide ((0:Int)≤r13)then some 5 else bif a2==(3:Int)then bif (v9.2.1.length:Int)==8 then some 6 else bif a2==(4:Int)then (B2h n v9.1 v9.2.1 v9.2.2 a6).bind fun r14=>bif decide (r14<(0:Int))then some 7 else bif a2==(4:Int)then (C3 n v9.2.2 a6).bind fun r15=>bif r15 then some 8 else some 0 else some 0 else bif a2==(5:Int)then (B2h n v9.1 v9.2.1 v9.2.2 a6).bind fun r16=>bif decide (r16<(0:Int))then some 7 else bif a2==(4:Int)then (C3 n v9.2.2 a6).bind fun r17=>bif r17 then some 8 else some 0 else some 0 else bif a2==(4:Int)then (C3 n v9.2.2 a6).bind fun r18=>bif r18 then some 8 else some 0 else some 0 else bif a2==(4:Int)then (B2h n v9.1 v9.2.1 v9.2.2 a6).bind fun r19=>bif decide (r19<(0:Int))then some 7 else bif a2==(4:Int)then (C3 n v9.2.2 a6).bind fun r20=>bif r20 then some 8 else some 0 else some 0 else bif a2==(5:Int)then (B2h n v9.1 v9.2.1 v9.2.2 a6).bind fun r21=>bif decide (r21<(0:Int))then some 7 else bif a2==(4:Int)then (C3 n v9.2.2 a6).bind fun r22=>bif r22 then some 8 else some 0 else some 0 else bif a2==(4:Int)then (C3 n v9.2.2 a6).bind fun r23=>bif r23 then some 8 else some 0 else some 0 else bif a2==(3:Int)then bif (v9.2.1.length:Int)==8 then some 6 else bif a2==(4:Int)then (B2h n v9.1 v9.2.1 v9.2.2 a6).bind fun r24=>bif decide (r24<(0:Int))then some 7 else bif a2==(4:Int)then (C3 n v9.2.2 a6).bind fun r25=>bif r25 then some 8 else some 0 else some 0 else bif a2==(5:Int)then (B2h n v9.1 v9.2.1 v9.2.2 a6).bind fun r26=>bif decide (r26<(0:Int))then some 7 else bif a2==(4:Int)then (C3 n v9.2.2 a6).bind fun r27=>bif r27 then some 8 else some 0 else some 0 else bif a2==(4:Int)then (C3 n v9.2.2 a6).bind fun r28=>bif r28 then some 8 else some 0 else some 0 else bif a2==(4:Int)then (B2h n v9.1 v9.2.1 v9.2.2 a6).bind fun r29=>bif decide (r29<(0:Int))then some 7 else bif a2==(4:Int)then (C3 n v9.2.2 a6).bind fun r30=>bif r30 then some 8 else some 0 else some 0 else bif a2==(5:Int)then (B2h n v9.1 v9.2.1 v9.2.2 a6).bind fun r31=>bif decide (r31<(0:Int))then some 7 else bif a2==(4:Int)then (C3 n v9.2.2 a6).bind fun r32=>bif r32 then some 8 else some 0 else some 0 else bif a2==(4:Int)then (C3 n v9.2.2 a6).bind fun r33=>bif r33 then some 8 else some 0 else some 0 else none else bif a2==(5:Int)then (B2h n v9.1 v9.2.1 v9.2.2 a7).bind fun r34=>bif decide ((0:Int)≤r34)then some 5 else bif a2==(3:Int)then bif (v9.2.1.length:Int)==8 then some 6 else bif a2==(4:Int)then (B2h n v9.1 v9.2.1 v9.2.2 a6).bind fun r35=>bif decide (r35<(0:Int))then some 7 else bif a2==(4:Int)then (C3 n v9.2.2 a6).bind fun r36=>bif r36 then some 8 else some 0 else some 0 else bif a2==(5:Int)then (B2h n v9.1 v9.2.1 v9.2.2 a6).bind fun r37=>bif decide (r37<(0:Int))then some 7 else bif a2==(4:Int)then (C3 n v9.2.2 a6).bind fun r38=>bif r38 then some 8 else some 0 else some 0 else bif a2==(4:Int)then (C3 n v9.2.2 a6).bind fun r39=>bif r39 then some 8 else some 0 else some 0 else bif a2==(4:Int)then (B2h n v9.1 v9.2.1 v9.2.2 a6).bind fun r40=>bif decide (r40<(0:Int))then some 7 else bif a2==(4:Int)then (C3 n v9.2.2 a6).bind fun r41=>bif r41 then some 8 else some 0 else some 0 else bif a2==(5:Int)then (B2h n v9.1 v9.2.1 v9.2.2 a6).bind fun r42=>bif decide (r42<(0:Int))then some 7 else bif a2==(4:Int)then (C3 n v9.2.2 a6).bind fun r43=>bif r43 then some 8 else some 0 else some 0 else bif a2==(4:Int)then (C3 n v9.2.2 a6).bind fun r44=>bif r44 then some 8 else some 0 else some 0 else bif a2==(3:Int)then bif (v9.2.1.length:Int)==8 then some 6 else bif a2==(4:Int)then (B2h n v9.1 v9.2.1 v9.2.2 a6).bind fun r45=>bif decide (r45<(0:Int))then some 7 else bif a2==(4:Int)then (C3 n v9.2.2 a6).bind fun r46=>bif r46 then some 8 else some 0 else some 0 else bif a2==(5:Int)then (B2h n v9.1 v9.2.1 v9.2.2 a6).bind fun r47=>bif decide (r47<(0:Int))then some 7 else bif a2==(4:Int)then (C3 n v9.2.2 a6).bind fun r48=>bif r48 then some 8 else some 0 else some 0 else bif a2==(4:Int)then (C3 n v9.2.2 a6).bind fun r49=>bif r49 then some 8 else some 0 else some 0 else bif a2==(4:Int)then (B2h n v9.1 v9.2.1 v9.2.2 a6).bind fun r50=>bif decide (r50<(0:Int))then some 7 else bif a2==(4:Int)then (C3 n v9.2.2 a6).bind fun r51=>bif r51 then some 8 else some 0 else some 0 else bif a2==(5:Int)then (B2h n v9.1 v9.2.1 v9.2.2 a6).bind fun r52=>bif decide (r52<(0:Int))then some 7 else bif a2==(4:Int)then (C3 n v9.2.2 a6).bind fun r53=>bif r53 then some 8 else some 0 else some 0 else bif a2==(4:Int)then (C3 n v9.2.2 a6).bind fun r54=>bif r54 then some 8 else some 0 else some 0 else none
def B6t (n:Nat):Nat→Y23→Int→Int→Y23→Y23→Option Y24
  |0,_,_,_,_,_=>none
  |j+1,x5,x6,x7,x8,x9=>bif decide (x7<x6)then bif inR x7 x5.length then let v10:=(x5.getD x7.toNat (⟨#[]⟩,([],[])));let v11:Y18:=[];(B9e n v10.1 v10.2.1 v10.2.2).bind fun r12=>let v13:Y23:=[(r12.1,(r12.2.1,r12.2.2))];bif room (x9.length+v13.length) 64 then B6t n j x5 x6 (IntKind.wrap .i64 (x7+(1:Int))) x8 (x9++v13)else none else none else some x9
def C16:Nat→Y24→Option Y24
  |0,_=>none
  |n+1,a1=>let v2:Y23:=[];let v3:Y23:=[];let v4:Y23:=[];B6t n n a1 a1.length 0 v2 v3
def B31:Nat→Y24→Int→Y24→Option Y24
  |0,_,_,_=>none
  |n+1,a1,a2,a3=>B1k 64 a1 a2 a3
def B3y:Nat→Y24→Int→Int→Option Y24
  |0,_,_,_=>none
  |n+1,a1,a2,a3=>B1f a1 a2 a3
def B8l:Nat→ByteArray→Int→Bool→Bool→Int→Int→ByteArray→Y28→Option Bool
  |0,_,_,_,_,_,_,_,_=>none
  |n+1,a1,a2,a3,a4,a5,a6,a7,a8=>some (a1.toList==a8.2.2.2.2.1.toList)
def B29 (n:Nat):Nat→Y18→Y28→Int→Int→Option Int
  |0,_,_,_,_=>none
  |j+1,x3,x4,x5,x6=>bif decide (x6<x5)then bif inR x6 x3.length then let v7:=(x3.getD x6.toNat (⟨#[]⟩,(0,(false,(false,(0,(0,⟨#[]⟩)))))));(B8l n v7.1 v7.2.1 v7.2.2.1 v7.2.2.2.1 v7.2.2.2.2.1 v7.2.2.2.2.2.1 v7.2.2.2.2.2.2 x4).bind fun r8=>bif r8 then some x6 else B29 n j x3 x4 x5 (IntKind.wrap .i64 (x6+(1:Int)))else none else some (-1:Int)
def B2o:Nat→Y19→Y28→Option Int
  |0,_,_=>none
  |n+1,a1,a2=>B29 n n a1 a2 a1.length 0
def V2 (n:Nat):Nat→Y28→Int→Int→Y18→Option Y19
  |0,_,_,_,_=>none
  |j+1,x5,x6,x7,x8=>bif decide (x7<(x8.length:Int))then bif inR x7 x8.length then let v9:ByteArray:=(x8.getD x7.toNat (⟨#[]⟩,(0,(false,(false,(0,(0,⟨#[]⟩))))))).1;let v10:Int:=(x8.getD x7.toNat (⟨#[]⟩,(0,(false,(false,(0,(0,⟨#[]⟩))))))).2.1;let v11:Bool:=(x8.getD x7.toNat (⟨#[]⟩,(0,(false,(false,(0,(0,⟨#[]⟩))))))).2.2.1;let v12:Bool:=(x8.getD x7.toNat (⟨#[]⟩,(0,(false,(false,(0,(0,⟨#[]⟩))))))).2.2.2.1;let v13:Int:=(x8.getD x7.toNat (⟨#[]⟩,(0,(false,(false,(0,(0,⟨#[]⟩))))))).2.2.2.2.1;let v14:Int:=(x8.getD x7.toNat (⟨#[]⟩,(0,(false,(false,(0,(0,⟨#[]⟩))))))).2.2.2.2.2.1;let v15:ByteArray:=(x8.getD x7.toNat (⟨#[]⟩,(0,(false,(false,(0,(0,⟨#[]⟩))))))).2.2.2.2.2.2;(B8l n v9 v10 v11 v12 v13 v14 v15 x5).bind fun r16=>bif !r16 then bif inR x6 x8.length then let v17:=(x8.set x6.toNat (v9,(v10,(v11,(v12,(v13,(v14,v15)))))));V2 n j x5 (IntKind.wrap .i64 (x6+(1:Int))) (IntKind.wrap .i64 (x7+(1:Int))) v17 else none else V2 n j x5 x6 (IntKind.wrap .i64 (x7+(1:Int))) x8 else none else bif decide (0≤x6∧x6≤((x8.length:Nat):Int)∧((x8.length:Nat):Int)≤(x8.length:Int))then let v18:=(x8.take x6.toNat++List.replicate (((x8.length:Nat):Int).toNat - x6.toNat) ((⟨#[]⟩:ByteArray),((0:Int),(false,(false,((0:Int),((0:Int),(⟨#[]⟩:ByteArray)))))))++x8.drop (x6.toNat+(((x8.length:Nat):Int).toNat - x6.toNat)));bif decide (0≤((0:Nat):Int)∧((0:Nat):Int)≤x6∧x6≤(v18.length:Int))then some (v18.take (x6.toNat - ((0:Nat):Int).toNat))else none else none
def B2i:Nat→Y19→Y28→Option Y19
  |0,_,_=>none
  |n+1,a1,a2=>let v3:Y18:=[];(B2o n a1 a2).bind fun r4=>bif r4==(-1:Int)then some a1 else V2 n n a2 r4 (IntKind.wrap .i64 (r4+(1:Int))) a1
def B63 (n:Nat):Nat→Int→Int→ByteArray→Y18→List ByteArray→ByteArray→ByteArray→Y23→Y23→Option Y26
  |0,_,_,_,_,_,_,_,_,_=>none
  |j+1,x18,x19,x20,x21,x22,x23,x24,x25,x26=>bif decide (x18<(x26.length:Int))then bif inR x18 x26.length then let v27:ByteArray:=(x26.getD x18.toNat (⟨#[]⟩,([],[]))).1;bif Op.bytesLess v27.toList x20.toList then B63 n j (IntKind.wrap .i64 (x18+(1:Int))) x19 x20 x21 x22 x23 x24 x25 x26 else (B8u n x19 x20 x21 x22 x23 x24).bind fun r28=>let v29:Y23:=[(r28.1,(r28.2.1,r28.2.2))];(B31 n x26 x18 v29).bind fun r30=>some (r30,((0:Int),()))else none else (B8u n x19 x20 x21 x22 x23 x24).bind fun r31=>let v32:Y23:=[(r31.1,(r31.2.1,r31.2.2))];(B31 n x26 x18 v32).bind fun r33=>some (r33,((0:Int),()))
def C1y:Nat→Y24→Int→ByteArray→Y19→(List ByteArray)→ByteArray→ByteArray→Option Y26
  |0,_,_,_,_,_,_,_=>none
  |n+1,a1,a2,a3,a4,a5,a6,a7=>let v8:Y23:=[];(C2y n a1).bind fun r9=>bif !r9 then let v10:Y23:=[];some (v10,((1:Int),()))else (C1p n a2 a3 a4 a5 a6 a7).bind fun r11=>bif !r11 then let v12:Y23:=[];some (v12,((1:Int),()))else (C18 n a1 a2 a3 a4 a5 a6 a7).bind fun r13=>bif r13 !=(0:Int)then let v14:Y23:=[];some (v14,(r13,()))else (C16 n a1).bind fun r15=>let v16:Y23:=[];(B85 n a1 a3).bind fun r17=>bif a2==(1:Int)then B63 n n 0 a2 a3 a4 a5 a6 a7 v8 r15 else bif a2==(2:Int)then (B3y n r15 r17 (IntKind.wrap .i64 (r17+(1:Int)))).bind fun r34=>some (r34,((0:Int),()))else bif a2==(3:Int)then bif inR r17 r15.length then bif inR 0 a4.length then let v35:=(a4.getD (0:Int).toNat (⟨#[]⟩,(0,(false,(false,(0,(0,⟨#[]⟩)))))));let v36:Y18:=[(v35.1,(v35.2.1,(v35.2.2.1,(v35.2.2.2.1,(v35.2.2.2.2.1,(v35.2.2.2.2.2.1,v35.2.2.2.2.2.2))))))];bif room ((r15.getD r17.toNat (⟨#[]⟩,([],[]))).2.1.length+v36.length) 64 then let v37:=((r15.getD r17.toNat (⟨#[]⟩,([],[]))).2.1++v36);bif inR r17 r15.length then bif Nat.beq r17.toNat r17.toNat then let v38:=(r15.set r17.toNat ((r15.getD r17.toNat (⟨#[]⟩,([],[]))).1,(v37,(r15.getD r17.toNat (⟨#[]⟩,([],[]))).2.2)));some (v38,((0:Int),()))else none else none else none else none else none else bif a2==(4:Int)then bif inR r17 r15.length then (B2i n (r15.getD r17.toNat (⟨#[]⟩,([],[]))).2.1 (a2,(a3,(a4,(a5,(a6,a7)))))).bind fun r39=>bif Nat.beq r17.toNat r17.toNat then let v40:=(r15.set r17.toNat ((r15.getD r17.toNat (⟨#[]⟩,([],[]))).1,(r39,(r15.getD r17.toNat (⟨#[]⟩,([],[]))).2.2)));some (v40,((0:Int),()))else none else none else bif a2==(5:Int)then bif inR r17 r15.length then let v41:ByteArray:=(r15.getD r17.toNat (⟨#[]⟩,([],[]))).1;(B2h n v41 (r15.getD r17.toNat (⟨#[]⟩,([],[]))).2.1 (r15.getD r17.toNat (⟨#[]⟩,([],[]))).2.2 a6).bind fun r42=>bif inR r42 (r15.getD r17.toNat (⟨#[]⟩,([],[]))).2.1.length then let v43:=(r15.getD r17.toNat (⟨#[]⟩,([],[]))).2.1;let v44:=(r15.set r17.toNat ((r15.getD r17.toNat (⟨#[]⟩,([],[]))).1,((v43.set r42.toNat (a7,(v43.getD r42.toNat (⟨#[]⟩,(0,(false,(false,(0,(0,⟨#[]⟩))))))).2)),(r15.getD r17.toNat (⟨#[]⟩,([],[]))).2.2)));(B3p n (v44.getD r17.toNat (⟨#[]⟩,([],[]))).2.2 a6).bind fun r45=>bif decide ((0:Int)≤r45)then bif inR r45 (v44.getD r17.toNat (⟨#[]⟩,([],[]))).2.2.length then let v46:=(v44.getD r17.toNat (⟨#[]⟩,([],[]))).2.2;let v47:=(v44.set r17.toNat ((v44.getD r17.toNat (⟨#[]⟩,([],[]))).1,((v44.getD r17.toNat (⟨#[]⟩,([],[]))).2.1,(v46.set r45.toNat a7))));some (v47,((0:Int),()))else none else some (v44,((0:Int),()))else none else none else some (r15,((0:Int),()))
def B8w:Nat→Y4→Option Y4
  |0,_=>none
  |n+1,a1=>bif room a1.length 32 then some a1 else none
def B64 (n:Nat):Nat→Y6→Int→Int→Y6→Option Y7
  |0,_,_,_,_=>none
  |j+1,x4,x5,x6,x7=>bif decide (x6<x5)then bif inR x6 x4.length then let v8:=(x4.getD x6.toNat []);(B8w n v8).bind fun r9=>let v10:Y6:=[r9];bif room (x7.length+v10.length) 24 then B64 n j x4 x5 (IntKind.wrap .i64 (x6+(1:Int))) (x7++v10)else none else none else some x7
def B47:Nat→Y7→Option Y7
  |0,_=>none
  |n+1,a1=>let v2:Y6:=[];let v3:Y6:=[];B64 n n a1 a1.length 0 v3
def B7s (n:Nat):Nat→Y10→Int→Int→Y23→Y10→Y23→Y10→Option Y31
  |0,_,_,_,_,_,_,_=>none
  |j+1,x9,x10,x11,x12,x13,x14,x15=>bif decide (x11<x10)then bif inR x11 x9.length then let v16:=(x9.getD x11.toNat []);let v17:Y6:=[];(B47 n v16).bind fun r18=>let v19:Y10:=[r18];bif room (x15.length+v19.length) 24 then B7s n j x9 x10 (IntKind.wrap .i64 (x11+(1:Int))) x12 x13 x14 (x15++v19)else none else none else some (x14,x15)
def B4e:Nat→Y24→Y12→Option Y31
  |0,_,_=>none
  |n+1,a1,a2=>let v3:Y23:=[];let v4:Y10:=[];(C16 n a1).bind fun r5=>let v6:Y10:=[];let v7:Y23:=[];let v8:Y10:=[];B7s n n a2 a2.length 0 v3 v4 r5 v6
def B46:Nat→Y12→Int→Y12→Option Y12
  |0,_,_,_=>none
  |n+1,a1,a2,a3=>B1k 24 a1 a2 a3
def B45:Nat→Y12→Int→Int→Option Y12
  |0,_,_,_=>none
  |n+1,a1,a2,a3=>B1f a1 a2 a3
def B4j:Nat→Y4→Int→Int→Option Y4
  |0,_,_,_=>none
  |n+1,a1,a2,a3=>B1f a1 a2 a3
def B6q (n:Nat):Nat→Int→Int→Int→ByteArray→Y18→List ByteArray→ByteArray→ByteArray→Y6→Option Y15
  |0,_,_,_,_,_,_,_,_,_=>none
  |j+1,x23,x24,x25,x26,x27,x28,x29,x30,x31=>bif decide (x24<x23)then bif inR x24 x31.length then bif inR 0 x27.length then let v32:=(x27.getD (0:Int).toNat (⟨#[]⟩,(0,(false,(false,(0,(0,⟨#[]⟩)))))));let v33:Y3:=[(v32.2.2.2.2.1,(v32.2.2.2.2.2.1,v32.2.2.2.2.2.2))];bif room ((x31.getD x24.toNat []).length+v33.length) 32 then let v34:=((x31.getD x24.toNat [])++v33);bif inR x24 x31.length then bif Nat.beq x24.toNat x24.toNat then B6q n j x23 (IntKind.wrap .i64 (x24+(1:Int))) x25 x26 x27 x28 x29 x30 (x31.set x24.toNat v34)else none else none else none else none else none else some (x31,((0:Int),()))
def B6r (n:Nat):Nat→Int→Int→Int→Y6→Option Y15
  |0,_,_,_,_=>none
  |j+1,x36,x37,x38,x39=>bif decide (x38<x37)then bif inR x38 x39.length then (B4j n (x39.getD x38.toNat []) x36 (IntKind.wrap .i64 (x36+(1:Int)))).bind fun r40=>bif inR x38 x39.length then bif Nat.beq x38.toNat x38.toNat then B6r n j x36 x37 (IntKind.wrap .i64 (x38+(1:Int))) (x39.set x38.toNat r40)else none else none else none else some (x39,((0:Int),()))
def C2o:Nat→ByteArray→Y19→(List ByteArray)→Y7→Int→ByteArray→Y19→(List ByteArray)→ByteArray→ByteArray→Option Y15
  |0,_,_,_,_,_,_,_,_,_,_=>none
  |n+1,a1,a2,a3,a4,a5,a6,a7,a8,a9,a10=>let v11:Y6:=[];(B86 n a1 a2 a3 a4).bind fun r12=>bif !r12 then let v13:Y6:=[];some (v13,((1:Int),()))else (C1p n a5 a6 a7 a8 a9 a10).bind fun r14=>bif !r14 then let v15:Y6:=[];some (v15,((1:Int),()))else bif !(a6.toList==a1.toList)then let v16:Y6:=[];some (v16,((1:Int),()))else bif a5==(1:Int)then let v17:Y6:=[];some (v17,((1:Int),()))else let v18:Y23:=[(a1,(a2,a3))];(C18 n v18 a5 a6 a7 a8 a9 a10).bind fun r19=>bif r19 !=(0:Int)then let v20:Y6:=[];some (v20,(r19,()))else (B47 n a4).bind fun r21=>bif a5==(2:Int)then let v22:Y6:=[];some (v22,((0:Int),()))else bif a5==(3:Int)then B6q n n r21.length 0 a5 a6 a7 a8 a9 a10 r21 else bif a5==(4:Int)then (B2h n a1 a2 a3 a9).bind fun r35=>B6r n n r35 r21.length 0 r21 else some (r21,((0:Int),()))
def C15:Nat→Y24→Y12→Int→ByteArray→Y19→(List ByteArray)→ByteArray→ByteArray→Option (Y31×(Int×Unit))
  |0,_,_,_,_,_,_,_,_=>none
  |n+1,a1,a2,a3,a4,a5,a6,a7,a8=>let v9:Y23:=[];let v10:Y10:=[];(C1y n a1 a3 a4 a5 a6 a7 a8).bind fun r11=>let v12:Y23:=[];bif r11.2.1 !=(0:Int)then let v13:Y23:=[];let v14:Y10:=[];some ((v13,v14),(r11.2.1,()))else (B4e n a1 a2).bind fun r15=>let v16:Y23:=[];let v17:Y10:=[];(B85 n a1 a4).bind fun r18=>bif a3==(1:Int)then (B85 n r11.1 a4).bind fun r19=>let v20:Y6:=[];let v21:Y10:=[v20];(B46 n r15.2 r19 v21).bind fun r22=>some ((r11.1,r22),((0:Int),()))else bif a3==(2:Int)then (B45 n r15.2 r18 (IntKind.wrap .i64 (r18+(1:Int)))).bind fun r23=>some ((r11.1,r23),((0:Int),()))else bif inR r18 a1.length then let v24:=(a1.getD r18.toNat (⟨#[]⟩,([],[])));bif inR r18 a2.length then let v25:=(a2.getD r18.toNat []);(C2o n v24.1 v24.2.1 v24.2.2 v25 a3 a4 a5 a6 a7 a8).bind fun r26=>bif inR r18 r15.2.length then some ((r11.1,(r15.2.set r18.toNat r26.1)),((0:Int),()))else none else none else none
def B2v (n:Nat):Nat→Y3→Y3→Int→Int→Option Bool
  |0,_,_,_,_=>none
  |j+1,x4,x5,x6,x7=>bif decide (x7<x6)then bif inR x7 x4.length then let v8:=(x4.getD x7.toNat (0,(0,⟨#[]⟩)));bif inR x7 x5.length then let v9:=(x5.getD x7.toNat (0,(0,⟨#[]⟩)));let v10:Bool:=(!((v8.1==v9.1)&&((v8.2.1==v9.2.1)&&((v8.2.2.toList==v9.2.2.toList)&&true))));bif v10 then some false else B2v n j x4 x5 x6 (IntKind.wrap .i64 (x7+(1:Int)))else none else none else some true
def B33:Nat→Y4→Y4→Option Bool
  |0,_,_=>none
  |n+1,a1,a2=>let v3:Bool:=((a1.length:Int) !=(a2.length:Int));bif v3 then some false else B2v n n a1 a2 a1.length 0
def C2p:Nat→Y4→Y22→Y4→Option Bool
  |0,_,_,_=>none
  |n+1,a1,a2,a3=>(B7l n a2.1 a2.2.1 a2.2.2 a1).bind fun r4=>(B33 n r4 a3).bind fun r5=>some r5
def B2d (n:Nat):Nat→Y6→Y22→Y4→Int→Int→Option Int
  |0,_,_,_,_,_=>none
  |j+1,x4,x5,x6,x7,x8=>bif decide (x8<x7)then bif inR x8 x4.length then let v9:=(x4.getD x8.toNat []);(C2p n v9 x5 x6).bind fun r10=>bif r10 then some x8 else B2d n j x4 x5 x6 x7 (IntKind.wrap .i64 (x8+(1:Int)))else none else some (-1:Int)
def B2t:Nat→Y7→Y22→Y4→Option Int
  |0,_,_,_=>none
  |n+1,a1,a2,a3=>B2d n n a1 a2 a3 a1.length 0
def B7m:Nat→ByteArray→Y19→(List ByteArray)→Y7→Y4→Option Int
  |0,_,_,_,_,_=>none
  |n+1,a1,a2,a3,a4,a5=>(B2t n a4 (a1,(a2,a3)) a5).bind fun r6=>some r6
def B3b:Nat→Y7→Int→Y7→Option Y7
  |0,_,_,_=>none
  |n+1,a1,a2,a3=>B1k 24 a1 a2 a3
def B7u (n:Nat):Nat→Y6→Int→ByteArray→Y18→List ByteArray→Y3→Option Y7
  |0,_,_,_,_,_,_=>none
  |j+1,x7,x8,x9,x10,x11,x12=>bif decide (x8<(x7.length:Int))then bif inR x8 x7.length then let v13:=(x7.getD x8.toNat []);(B7l n x9 x10 x11 v13).bind fun r14=>(B7l n x9 x10 x11 x12).bind fun r15=>(C11 n r14 r15).bind fun r16=>bif r16 then B7u n j x7 (IntKind.wrap .i64 (x8+(1:Int))) x9 x10 x11 x12 else (B47 n x7).bind fun r17=>(B8w n x12).bind fun r18=>let v19:Y6:=[r18];(B3b n r17 x8 v19).bind fun r20=>some r20 else none else (B47 n x7).bind fun r21=>(B8w n x12).bind fun r22=>let v23:Y6:=[r22];(B3b n r21 x8 v23).bind fun r24=>some r24
def C0p:Nat→ByteArray→Y19→(List ByteArray)→Y7→Y4→Option Y7
  |0,_,_,_,_,_=>none
  |n+1,a1,a2,a3,a4,a5=>let v6:Y6:=[];B7u n n a4 0 a1 a2 a3 a5
def C0n:Nat→ByteArray→Y19→(List ByteArray)→Y7→Y4→Option Y15
  |0,_,_,_,_,_=>none
  |n+1,a1,a2,a3,a4,a5=>let v6:Y6:=[];(B86 n a1 a2 a3 a4).bind fun r7=>bif !r7 then let v8:Y6:=[];some (v8,((1:Int),()))else (C1q n a1 a2 a3 a5).bind fun r9=>bif !r9 then let v10:Y6:=[];some (v10,((2:Int),()))else (B7l n a1 a2 a3 a5).bind fun r11=>(B7m n a1 a2 a3 a4 r11).bind fun r12=>bif decide ((0:Int)≤r12)then let v13:Y6:=[];some (v13,((3:Int),()))else bif (a4.length:Int)==60 then let v14:Y6:=[];some (v14,((4:Int),()))else (C0p n a1 a2 a3 a4 a5).bind fun r15=>some (r15,((0:Int),()))
def B8v (n:Nat):Nat→Y3→List ByteArray→Int→Int→ByteArray→Y18→List ByteArray→Option Bool
  |0,_,_,_,_,_,_,_=>none
  |j+1,x7,x8,x9,x10,x11,x12,x13=>bif decide (x10<x9)then bif inR x10 x8.length then bif inR x10 x7.length then let v14:=(x7.getD x10.toNat (0,(0,⟨#[]⟩)));(B8c n v14.1 v14.2.1 v14.2.2).bind fun r15=>bif !r15 then some false else bif inR x10 x7.length then let v16:=(x7.getD x10.toNat (0,(0,⟨#[]⟩)));(B2h n x11 x12 x13 (x8.getD x10.toNat ⟨#[]⟩)).bind fun r17=>bif inR r17 x12.length then let v18:=(x12.getD r17.toNat (⟨#[]⟩,(0,(false,(false,(0,(0,⟨#[]⟩)))))));bif v16.1 !=v18.2.1 then some false else B8v n j x7 x8 x9 (IntKind.wrap .i64 (x10+(1:Int))) x11 x12 x13 else none else none else none else none else some true
def C32:Nat→ByteArray→Y19→(List ByteArray)→Y4→Option Bool
  |0,_,_,_,_=>none
  |n+1,a1,a2,a3,a4=>(B8b n a1 a2 a3).bind fun r5=>bif !r5 then some false else let v6:Bool:=((a4.length:Int) !=(a3.length:Int));bif v6 then some false else B8v n n a4 a3 a3.length 0 a1 a2 a3
def B30:Nat→Y7→Int→Int→Option Y7
  |0,_,_,_=>none
  |n+1,a1,a2,a3=>B1f a1 a2 a3
def C0o:Nat→ByteArray→Y19→(List ByteArray)→Y7→Y4→Y4→Option Y15
  |0,_,_,_,_,_,_=>none
  |n+1,a1,a2,a3,a4,a5,a6=>let v7:Y6:=[];(B86 n a1 a2 a3 a4).bind fun r8=>bif !r8 then let v9:Y6:=[];some (v9,((1:Int),()))else (C1q n a1 a2 a3 a6).bind fun r10=>bif !r10 then let v11:Y6:=[];some (v11,((2:Int),()))else (C32 n a1 a2 a3 a5).bind fun r12=>bif !r12 then let v13:Y6:=[];some (v13,((5:Int),()))else (B7m n a1 a2 a3 a4 a5).bind fun r14=>bif decide (r14<(0:Int))then let v15:Y6:=[];some (v15,((5:Int),()))else (B7l n a1 a2 a3 a6).bind fun r16=>(B33 n r16 a5).bind fun r17=>bif !r17 then (B7m n a1 a2 a3 a4 r16).bind fun r18=>bif decide ((0:Int)≤r18)then let v19:Y6:=[];some (v19,((3:Int),()))else (B7m n a1 a2 a3 a4 a5).bind fun r20=>(B47 n a4).bind fun r21=>(B30 n r21 r20 (IntKind.wrap .i64 (r20+(1:Int)))).bind fun r22=>(C0p n a1 a2 a3 r22 a6).bind fun r23=>some (r23,((0:Int),()))else (B7m n a1 a2 a3 a4 a5).bind fun r24=>(B47 n a4).bind fun r25=>(B30 n r25 r24 (IntKind.wrap .i64 (r24+(1:Int)))).bind fun r26=>(C0p n a1 a2 a3 r26 a6).bind fun r27=>some (r27,((0:Int),()))
def C0m:Nat→ByteArray→Y19→(List ByteArray)→Y7→Y4→Option Y15
  |0,_,_,_,_,_=>none
  |n+1,a1,a2,a3,a4,a5=>let v6:Y6:=[];(B86 n a1 a2 a3 a4).bind fun r7=>bif !r7 then let v8:Y6:=[];some (v8,((1:Int),()))else (C32 n a1 a2 a3 a5).bind fun r9=>bif !r9 then let v10:Y6:=[];some (v10,((5:Int),()))else (B7m n a1 a2 a3 a4 a5).bind fun r11=>bif decide (r11<(0:Int))then let v12:Y6:=[];some (v12,((5:Int),()))else (B7m n a1 a2 a3 a4 a5).bind fun r13=>(B47 n a4).bind fun r14=>(B30 n r14 r13 (IntKind.wrap .i64 (r13+(1:Int)))).bind fun r15=>some (r15,((0:Int),()))
def C73:Nat→Y24→Y12→Int→ByteArray→Y4→Y4→Int→ByteArray→Y19→(List ByteArray)→ByteArray→ByteArray→Option (Y31×(Int×Unit))
  |0,_,_,_,_,_,_,_,_,_,_,_,_=>none
  |n+1,a1,a2,a3,a4,a5,a6,a7,a8,a9,a10,a11,a12=>let v13:Y23:=[];let v14:Y10:=[];(B85 n a1 a4).bind fun r15=>bif decide (r15<(0:Int))then bif a3 !=(5:Int)then let v16:Y23:=[];let v17:Y10:=[];some ((v16,v17),((4:Int),()))else bif a7 !=(1:Int)then let v18:Y23:=[];let v19:Y10:=[];some ((v18,v19),((4:Int),()))else bif a3==(5:Int)then (C15 n a1 a2 a7 a8 a9 a10 a11 a12).bind fun r20=>let v21:Y23:=[];let v22:Y10:=[];bif r20.2.1 !=(0:Int)then let v23:Y23:=[];let v24:Y10:=[];let v25:Int:=(IntKind.wrap .i64 ((10:Int)+r20.2.1));some ((v23,v24),(v25,()))else some ((r20.1.1,r20.1.2),((0:Int),()))else bif inR r15 a1.length then let v26:=(a1.getD r15.toNat (⟨#[]⟩,([],[])));bif inR r15 a2.length then let v27:=(a2.getD r15.toNat []);let v28:Y18:=[];bif a3==(1:Int)then (C0n n v26.1 v26.2.1 v26.2.2 v27 a6).bind fun r29=>bif r29.2.1 !=(0:Int)then let v30:Y23:=[];let v31:Y10:=[];let v32:Int:=(IntKind.wrap .i64 ((10:Int)+r29.2.1));some ((v30,v31),(v32,()))else (B4e n a1 a2).bind fun r33=>let v34:Y23:=[];let v35:Y10:=[];bif inR r15 r33.2.length then some ((r33.1,(r33.2.set r15.toNat r29.1)),((0:Int),()))else none else bif a3==(2:Int)then (C0o n v26.1 v26.2.1 v26.2.2 v27 a5 a6).bind fun r36=>bif r36.2.1 !=(0:Int)then let v37:Y23:=[];let v38:Y10:=[];let v39:Int:=(IntKind.wrap .i64 ((10:Int)+r36.2.1));some ((v37,v38),(v39,()))else (B4e n a1 a2).bind fun r40=>let v41:Y23:=[];let v42:Y10:=[];bif inR r15 r40.2.length then some ((r40.1,(r40.2.set r15.toNat r36.1)),((0:Int),()))else none else bif a3==(3:Int)then (C0m n v26.1 v26.2.1 v26.2.2 v27 a5).bind fun r43=>bif r43.2.1 !=(0:Int)then let v44:Y23:=[];let v45:Y10:=[];let v46:Int:=(IntKind.wrap .i64 ((10:Int)+r43.2.1));some ((v44,v45),(v46,()))else (B4e n a1 a2).bind fun r47=>let v48:Y23:=[];let v49:Y10:=[];bif inR r15 r47.2.length then some ((r47.1,(r47.2.set r15.toNat r43.1)),((0:Int),()))else none else let v50:Y6:=[];bif (0:Int) !=0 then let v51:Y23:=[];let v52:Y10:=[];let v53:Int:=(IntKind.wrap .i64 ((10:Int)+0));some ((v51,v52),(v53,()))else (B4e n a1 a2).bind fun r54=>let v55:Y23:=[];let v56:Y10:=[];bif inR r15 r54.2.length then some ((r54.1,(r54.2.set r15.toNat v50)),((0:Int),()))else none else none else none else bif a3==(5:Int)then (C15 n a1 a2 a7 a8 a9 a10 a11 a12).bind fun r57=>let v58:Y23:=[];let v59:Y10:=[];bif r57.2.1 !=(0:Int)then let v60:Y23:=[];let v61:Y10:=[];let v62:Int:=(IntKind.wrap .i64 ((10:Int)+r57.2.1));some ((v60,v61),(v62,()))else some ((r57.1.1,r57.1.2),((0:Int),()))else bif inR r15 a1.length then let v63:=(a1.getD r15.toNat (⟨#[]⟩,([],[])));bif inR r15 a2.length then let v64:=(a2.getD r15.toNat []);let v65:Y18:=[];bif a3==(1:Int)then (C0n n v63.1 v63.2.1 v63.2.2 v64 a6).bind fun r66=>bif r66.2.1 !=(0:Int)then let v67:Y23:=[];let v68:Y10:=[];let v69:Int:=(IntKind.wrap .i64 ((10:Int)+r66.2.1));some ((v67,v68),(v69,()))else (B4e n a1 a2).bind fun r70=>let v71:Y23:=[];let v72:Y10:=[];bif inR r15 r70.2.length then some ((r70.1,(r70.2.set r15.toNat r66.1)),((0:Int),()))else none else bif a3==(2:Int)then (C0o n v63.1 v63.2.1 v63.2.2 v64 a5 a6).bind fun r73=>bif r73.2.1 !=(0:Int)then let v74:Y23:=[];let v75:Y10:=[];let v76:Int:=(IntKind.wrap .i64 ((10:Int)+r73.2.1));some ((v74,v75),(v76,()))else (B4e n a1 a2).bind fun r77=>let v78:Y23:=[];let v79:Y10:=[];bif inR r15 r77.2.length then some ((r77.1,(r77.2.set r15.toNat r73.1)),((0:Int),()))else none else bif a3==(3:Int)then (C0m n v63.1 v63.2.1 v63.2.2 v64 a5).bind fun r80=>bif r80.2.1 !=(0:Int)then let v81:Y23:=[];let v82:Y10:=[];let v83:Int:=(IntKind.wrap .i64 ((10:Int)+r80.2.1));some ((v81,v82),(v83,()))else (B4e n a1 a2).bind fun r84=>let v85:Y23:=[];let v86:Y10:=[];bif inR r15 r84.2.length then some ((r84.1,(r84.2.set r15.toNat r80.1)),((0:Int),()))else none else let v87:Y6:=[];bif (0:Int) !=0 then let v88:Y23:=[];let v89:Y10:=[];let v90:Int:=(IntKind.wrap .i64 ((10:Int)+0));some ((v88,v89),(v90,()))else (B4e n a1 a2).bind fun r91=>let v92:Y23:=[];let v93:Y10:=[];bif inR r15 r91.2.length then some ((r91.1,(r91.2.set r15.toNat v87)),((0:Int),()))else none else none else none
def C72:Nat→Y24→Y12→Int→ByteArray→Y4→Y4→Int→ByteArray→Y19→(List ByteArray)→ByteArray→ByteArray→Option (Y31×(Int×Unit))
  |0,_,_,_,_,_,_,_,_,_,_,_,_=>none
  |n+1,a1,a2,a3,a4,a5,a6,a7,a8,a9,a10,a11,a12=>let v13:Y23:=[];let v14:Y10:=[];(B9r n a1 a2).bind fun r15=>bif !r15 then let v16:Y23:=[];let v17:Y10:=[];some ((v16,v17),((1:Int),()))else (C3l n a3 a4 a5 a6 a7 a8 a9 a10 a11 a12).bind fun r18=>bif !r18 then let v19:Y23:=[];let v20:Y10:=[];some ((v19,v20),((1:Int),()))else (C73 n a1 a2 a3 a4 a5 a6 a7 a8 a9 a10 a11 a12).bind fun r21=>some ((r21.1.1,r21.1.2),(r21.2.1,()))
def B60 (n:Nat):Nat→Y23→Int→Int→Y23→Option Bool
  |0,_,_,_,_=>none
  |j+1,x3,x4,x5,x6=>bif decide (x5<x4)then bif inR x5 x3.length then let v7:=(x3.getD x5.toNat (⟨#[]⟩,([],[])));let v8:Y18:=[];(B5s n v7.1 v7.2.1 v7.2.2).bind fun r9=>bif !r9 then some false else bif decide ((0:Int)<x5)then bif inR (IntKind.wrap .i64 (x5 - 1)) x6.length then let v10:=(x6.getD (IntKind.wrap .i64 (x5 - 1)).toNat (⟨#[]⟩,([],[])));let v11:Bool:=(!(Op.bytesLess v10.1.toList v7.1.toList));bif v11 then some false else B60 n j x3 x4 (IntKind.wrap .i64 (x5+(1:Int))) x6 else none else B60 n j x3 x4 (IntKind.wrap .i64 (x5+(1:Int))) x6 else none else some true
def C3b:Nat→Y24→Option Bool
  |0,_=>none
  |n+1,a1=>let v2:Bool:=(decide ((6:Int)<(a1.length:Int)));bif v2 then some false else B60 n n a1 a1.length 0 a1
def B9t (n:Nat):Nat→Y23→Int→Int→Y23→Y10→Option Bool
  |0,_,_,_,_,_=>none
  |j+1,x5,x6,x7,x8,x9=>bif decide (x7<x6)then bif inR x7 x5.length then let v10:=(x5.getD x7.toNat (⟨#[]⟩,([],[])));let v11:Y18:=[];bif inR x7 x9.length then let v12:=(x9.getD x7.toNat []);(B77 n v10.1 v10.2.1 v10.2.2 v12).bind fun r13=>bif !r13 then some false else B9t n j x5 x6 (IntKind.wrap .i64 (x7+(1:Int))) x8 x9 else none else none else some true
def C76:Nat→Y24→Y12→Option Bool
  |0,_,_=>none
  |n+1,a1,a2=>(C3b n a1).bind fun r3=>bif !r3 then some false else let v4:Bool:=((a2.length:Int) !=(a1.length:Int));bif v4 then some false else B9t n n a1 a1.length 0 a1 a2
def B70 (n:Nat):Nat→Y3→Y3→Int→Int→Option Bool
  |0,_,_,_,_=>none
  |j+1,x2,x3,x4,x5=>bif decide (x5<x4)then bif inR x5 x3.length then let v6:=(x3.getD x5.toNat (0,(0,⟨#[]⟩)));(B8e n v6.1 v6.2.1 v6.2.2).bind fun r7=>bif !r7 then some false else B70 n j x2 x3 x4 (IntKind.wrap .i64 (x5+(1:Int)))else none else let v8:Bool:=(decide ((1:Int)≤(x2.length:Int)));bif v8 then let v9:Bool:=(decide ((x2.length:Int)≤8));some v9 else some false
def B8g:Nat→Y4→Option Bool
  |0,_=>none
  |n+1,a1=>B70 n n a1 a1 a1.length 0
def B7n:Nat→Int→ByteArray→Y19→(List ByteArray)→ByteArray→ByteArray→Option Bool
  |0,_,_,_,_,_,_=>none
  |n+1,a1,a2,a3,a4,a5,a6=>bif a1==(0:Int)then let v7:Bool:=(a2.toList==(⟨#[]⟩:ByteArray).toList);bif v7 then bif (a3.length:Int)==0 then bif (a4.length:Int)==0 then let v8:Bool:=(a5.toList==(⟨#[]⟩:ByteArray).toList);bif v8 then let v9:Bool:=(a6.toList==(⟨#[]⟩:ByteArray).toList);some v9 else some false else some false else some false else some false else some false
def C1t:Nat→Int→ByteArray→Y19→(List ByteArray)→ByteArray→ByteArray→Option Bool
  |0,_,_,_,_,_,_=>none
  |n+1,a1,a2,a3,a4,a5,a6=>(B61 n a2).bind fun r7=>bif !r7 then some false else bif (a3.length:Int)==0 then bif a1==(1:Int)then let v8:Bool:=(a5.toList==(⟨#[]⟩:ByteArray).toList);bif v8 then let v9:Bool:=(a6.toList==(⟨#[]⟩:ByteArray).toList);bif v9 then (B5s n a2 a3 a4).bind fun r10=>some r10 else some false else some false else bif a1==(2:Int)then bif (a4.length:Int)==0 then let v11:Bool:=(a5.toList==(⟨#[]⟩:ByteArray).toList);bif v11 then let v12:Bool:=(a6.toList==(⟨#[]⟩:ByteArray).toList);some v12 else some false else some false else bif a1==(3:Int)then bif (a3.length:Int)==1 then bif inR 0 a3.length then let v13:=(a3.getD (0:Int).toNat (⟨#[]⟩,(0,(false,(false,(0,(0,⟨#[]⟩)))))));(C1s n v13.1 v13.2.1 v13.2.2.1 v13.2.2.2.1 v13.2.2.2.2.1 v13.2.2.2.2.2.1 v13.2.2.2.2.2.2).bind fun r14=>bif r14 then bif inR 0 a3.length then let v15:=(a3.getD (0:Int).toNat (⟨#[]⟩,(0,(false,(false,(0,(0,⟨#[]⟩)))))));bif v15.2.2.2.1 then bif (a4.length:Int)==0 then let v16:Bool:=(a5.toList==(⟨#[]⟩:ByteArray).toList);bif v16 then let v17:Bool:=(a6.toList==(⟨#[]⟩:ByteArray).toList);some v17 else some false else some false else bif inR 0 a3.length then let v18:=(a3.getD (0:Int).toNat (⟨#[]⟩,(0,(false,(false,(0,(0,⟨#[]⟩)))))));bif !v18.2.2.1 then bif (a4.length:Int)==0 then let v19:Bool:=(a5.toList==(⟨#[]⟩:ByteArray).toList);bif v19 then let v20:Bool:=(a6.toList==(⟨#[]⟩:ByteArray).toList);some v20 else some false else some false else some false else none else none else some false else none else some false else bif a1==(4:Int)then bif (a4.length:Int)==0 then (B61 n a5).bind fun r21=>bif r21 then let v22:Bool:=(a6.toList==(⟨#[]⟩:ByteArray).toList);some v22 else some false else some false else bif a1==(5:Int)then bif (a4.length:Int)==0 then (B61 n a5).bind fun r23=>bif r23 then (B61 n a6).bind fun r24=>some r24 else some false else some false else some false else bif a1==(1:Int)then let v25:Bool:=(a5.toList==(⟨#[]⟩:ByteArray).toList);bif v25 then let v26:Bool:=(a6.toList==(⟨#[]⟩:ByteArray).toList);bif v26 then (B5s n a2 a3 a4).bind fun r27=>some r27 else some false else some false else bif a1==(2:Int)then some false else bif a1==(3:Int)then bif (a3.length:Int)==1 then bif inR 0 a3.length then let v28:=(a3.getD (0:Int).toNat (⟨#[]⟩,(0,(false,(false,(0,(0,⟨#[]⟩)))))));(C1s n v28.1 v28.2.1 v28.2.2.1 v28.2.2.2.1 v28.2.2.2.2.1 v28.2.2.2.2.2.1 v28.2.2.2.2.2.2).bind fun r29=>bif r29 then bif inR 0 a3.length then let v30:=(a3.getD (0:Int).toNat (⟨#[]⟩,(0,(false,(false,(0,(0,⟨#[]⟩)))))));bif v30.2.2.2.1 then bif (a4.length:Int)==0 then let v31:Bool:=(a5.toList==(⟨#[]⟩:ByteArray).toList);bif v31 then let v32:Bool:=(a6.toList==(⟨#[]⟩:ByteArray).toList);some v32 else some false else some false else bif inR 0 a3.length then let v33:=(a3.getD (0:Int).toNat (⟨#[]⟩,(0,(false,(false,(0,(0,⟨#[]⟩)))))));bif !v33.2.2.1 then bif (a4.length:Int)==0 then let v34:Bool:=(a5.toList==(⟨#[]⟩:ByteArray).toList);bif v34 then let v35:Bool:=(a6.toList==(⟨#[]⟩:ByteArray).toList);some v35 else some false else some false else some false else none else none else some false else none else some false else bif a1==(4:Int)then some false else bif a1==(5:Int)then some false else some false
def C3q:Nat→Int→ByteArray→Y4→Y4→Int→ByteArray→Y19→(List ByteArray)→ByteArray→ByteArray→Option Bool
  |0,_,_,_,_,_,_,_,_,_,_=>none
  |n+1,a1,a2,a3,a4,a5,a6,a7,a8,a9,a10=>(B61 n a2).bind fun r11=>bif !r11 then some false else bif a1==(1:Int)then bif (a3.length:Int)==0 then (B8g n a4).bind fun r12=>bif r12 then (B7n n a5 a6 a7 a8 a9 a10).bind fun r13=>some r13 else some false else some false else bif a1==(2:Int)then (B8g n a3).bind fun r14=>bif r14 then (B8g n a4).bind fun r15=>bif r15 then (B7n n a5 a6 a7 a8 a9 a10).bind fun r16=>some r16 else some false else some false else bif a1==(3:Int)then (B8g n a3).bind fun r17=>bif r17 then bif (a4.length:Int)==0 then (B7n n a5 a6 a7 a8 a9 a10).bind fun r18=>some r18 else some false else some false else bif a1==(4:Int)then bif (a3.length:Int)==0 then bif (a4.length:Int)==0 then (B7n n a5 a6 a7 a8 a9 a10).bind fun r19=>some r19 else some false else some false else bif a1==(5:Int)then bif (a3.length:Int)==0 then bif (a4.length:Int)==0 then (C1t n a5 a6 a7 a8 a9 a10).bind fun r20=>bif r20 then some (a6.toList==a2.toList)else some false else some false else some false else some false
def B95 (n:Nat):Nat→ByteArray→Y23→Int→Int→Option Int
  |0,_,_,_,_=>none
  |j+1,x3,x4,x5,x6=>bif decide (x6<x5)then bif inR x6 x4.length then let v7:=(x4.getD x6.toNat (⟨#[]⟩,([],[])));let v8:Y18:=[];bif v7.1.toList==x3.toList then some x6 else B95 n j x3 x4 x5 (IntKind.wrap .i64 (x6+(1:Int)))else none else some (-1:Int)
def C1u:Nat→Y24→ByteArray→Option Int
  |0,_,_=>none
  |n+1,a1,a2=>B95 n n a2 a1 a1.length 0
def C0b:Nat→ByteArray→Y19→(List ByteArray)→Option Y22
  |0,_,_,_=>none
  |n+1,a1,a2,a3=>let v4:Y18:=[];let v5:Y18:=[];bif room (v5.length+a2.length) 64 then bif room (([]:List ByteArray).length+a3.length) 16 then some (a1,((v5++a2),(([]:List ByteArray)++a3)))else none else none
def B6v (n:Nat):Nat→Y23→Int→Int→Y23→Y23→Option Y24
  |0,_,_,_,_,_=>none
  |j+1,x5,x6,x7,x8,x9=>bif decide (x7<x6)then bif inR x7 x5.length then let v10:=(x5.getD x7.toNat (⟨#[]⟩,([],[])));let v11:Y18:=[];(C0b n v10.1 v10.2.1 v10.2.2).bind fun r12=>let v13:Y23:=[(r12.1,(r12.2.1,r12.2.2))];bif room (x9.length+v13.length) 64 then B6v n j x5 x6 (IntKind.wrap .i64 (x7+(1:Int))) x8 (x9++v13)else none else none else some x9
def C1g:Nat→Y24→Option Y24
  |0,_=>none
  |n+1,a1=>let v2:Y23:=[];let v3:Y23:=[];let v4:Y23:=[];B6v n n a1 a1.length 0 v2 v3
def B4v (n:Nat):Nat→Bool→Y23→Int→Int→ByteArray→Y18→List ByteArray→Y23→Y23→Option Y24
  |0,_,_,_,_,_,_,_,_,_=>none
  |j+1,x8,x9,x10,x11,x12,x13,x14,x15,x16=>bif decide (x11<x10)then bif inR x11 x9.length then let v17:=(x9.getD x11.toNat (⟨#[]⟩,([],[])));let v18:Y18:=[];bif !x8 then bif Op.bytesLess x12.toList v17.1.toList then let v19:Y23:=[(x12,(x13,x14))];bif room (x16.length+v19.length) 64 then let v20:Y23:=[(v17.1,(v17.2.1,v17.2.2))];bif room ((x16++v19).length+v20.length) 64 then B4v n j true x9 x10 (IntKind.wrap .i64 (x11+(1:Int))) x12 x13 x14 x15 ((x16++v19)++v20)else none else none else let v21:Y23:=[(v17.1,(v17.2.1,v17.2.2))];bif room (x16.length+v21.length) 64 then B4v n j x8 x9 x10 (IntKind.wrap .i64 (x11+(1:Int))) x12 x13 x14 x15 (x16++v21)else none else let v22:Y23:=[(v17.1,(v17.2.1,v17.2.2))];bif room (x16.length+v22.length) 64 then B4v n j x8 x9 x10 (IntKind.wrap .i64 (x11+(1:Int))) x12 x13 x14 x15 (x16++v22)else none else none else bif !x8 then let v23:Y23:=[(x12,(x13,x14))];bif room (x16.length+v23.length) 64 then some (x16++v23)else none else some x16
def C3w:Nat→Y24→ByteArray→Y19→(List ByteArray)→Option Y24
  |0,_,_,_,_=>none
  |n+1,a1,a2,a3,a4=>let v5:Y23:=[];let v6:Y23:=[];let v7:Y23:=[];B4v n n false a1 a1.length 0 a2 a3 a4 v5 v6
def B7z (n:Nat):Nat→ByteArray→List ByteArray→Int→Int→Option Bool
  |0,_,_,_,_=>none
  |j+1,x3,x4,x5,x6=>bif decide (x6<x5)then bif inR x6 x4.length then let v7:Bool:=((x4.getD x6.toNat ⟨#[]⟩).toList==x3.toList);bif v7 then some true else B7z n j x3 x4 x5 (IntKind.wrap .i64 (x6+(1:Int)))else none else some false
def C3v:Nat→(List ByteArray)→ByteArray→Option Bool
  |0,_,_=>none
  |n+1,a1,a2=>B7z n n a2 a1 a1.length 0
def C24:Nat→ByteArray→Y19→(List ByteArray)→Int→ByteArray→Y19→(List ByteArray)→ByteArray→ByteArray→Option Int
  |0,_,_,_,_,_,_,_,_,_=>none
  |n+1,a1,a2,a3,a4,a5,a6,a7,a8,a9=>(B5b n a1 a2 a3 a8).bind fun r10=>bif a4==(3:Int)then bif inR 0 a6.length then let v11:=(a6.getD (0:Int).toNat (⟨#[]⟩,(0,(false,(false,(0,(0,⟨#[]⟩)))))));(B5b n a1 a2 a3 v11.1).bind fun r12=>bif decide ((0:Int)≤r12)then some 5 else bif (a2.length:Int)==8 then some 6 else some 0 else none else bif a4==(4:Int)then bif decide (r10<(0:Int))then some 7 else (C3v n a3 a8).bind fun r13=>bif r13 then some 8 else some 0 else bif a4==(5:Int)then (B5b n a1 a2 a3 a9).bind fun r14=>bif decide ((0:Int)≤r14)then some 5 else bif decide (r10<(0:Int))then some 7 else some 0 else some 0
def B3x (n:Nat):Nat→Int→Int→Int→ByteArray→Y18→List ByteArray→ByteArray→ByteArray→ByteArray→Y18→List ByteArray→ByteArray→Y18→List ByteArray→Option Y22
  |0,_,_,_,_,_,_,_,_,_,_,_,_,_,_=>none
  |j+1,x35,x36,x37,x38,x39,x40,x41,x42,x43,x44,x45,x46,x47,x48=>bif decide (x36<x35)then bif x37==(5:Int)then bif inR x36 x48.length then let v49:ByteArray:=(x48.getD x36.toNat ⟨#[]⟩);bif v49.toList==x41.toList then bif inR x36 x48.length then B3x n j x35 (IntKind.wrap .i64 (x36+(1:Int))) x37 x38 x39 x40 x41 x42 x43 x44 x45 x46 x47 (x48.set x36.toNat x42)else none else B3x n j x35 (IntKind.wrap .i64 (x36+(1:Int))) x37 x38 x39 x40 x41 x42 x43 x44 x45 x46 x47 x48 else none else B3x n j x35 (IntKind.wrap .i64 (x36+(1:Int))) x37 x38 x39 x40 x41 x42 x43 x44 x45 x46 x47 x48 else bif x37==(3:Int)then bif inR 0 x39.length then let v50:=(x39.getD (0:Int).toNat (⟨#[]⟩,(0,(false,(false,(0,(0,⟨#[]⟩)))))));let v51:Y18:=[(v50.1,(v50.2.1,(v50.2.2.1,(v50.2.2.2.1,(v50.2.2.2.2.1,(v50.2.2.2.2.2.1,v50.2.2.2.2.2.2))))))];bif room (x47.length+v51.length) 64 then some (x46,((x47++v51),x48))else none else none else some (x46,(x47,x48))
def B35 (n:Nat):Nat→Y18→Int→Int→Int→ByteArray→Y18→List ByteArray→ByteArray→ByteArray→ByteArray→Y18→List ByteArray→ByteArray→Y18→List ByteArray→Option Y22
  |0,_,_,_,_,_,_,_,_,_,_,_,_,_,_,_=>none
  |j+1,x13,x14,x15,x16,x17,x18,x19,x20,x21,x22,x23,x24,x25,x26,x27=>bif decide (x15<x14)then bif inR x15 x13.length then let v28:=(x13.getD x15.toNat (⟨#[]⟩,(0,(false,(false,(0,(0,⟨#[]⟩)))))));bif x16==(4:Int)then bif v28.1.toList==x20.toList then B35 n j x13 x14 (IntKind.wrap .i64 (x15+(1:Int))) x16 x17 x18 x19 x20 x21 x22 x23 x24 x25 x26 x27 else bif x16==(5:Int)then bif v28.1.toList==x20.toList then let v29:Y18:=[(x21,(v28.2.1,(v28.2.2.1,(v28.2.2.2.1,(v28.2.2.2.2.1,(v28.2.2.2.2.2.1,v28.2.2.2.2.2.2))))))];bif room (x26.length+v29.length) 64 then B35 n j x13 x14 (IntKind.wrap .i64 (x15+(1:Int))) x16 x17 x18 x19 x20 x21 x22 x23 x24 x25 (x26++v29) x27 else none else let v30:Y18:=[(v28.1,(v28.2.1,(v28.2.2.1,(v28.2.2.2.1,(v28.2.2.2.2.1,(v28.2.2.2.2.2.1,v28.2.2.2.2.2.2))))))];bif room (x26.length+v30.length) 64 then B35 n j x13 x14 (IntKind.wrap .i64 (x15+(1:Int))) x16 x17 x18 x19 x20 x21 x22 x23 x24 x25 (x26++v30) x27 else none else let v31:Y18:=[(v28.1,(v28.2.1,(v28.2.2.1,(v28.2.2.2.1,(v28.2.2.2.2.1,(v28.2.2.2.2.2.1,v28.2.2.2.2.2.2))))))];bif room (x26.length+v31.length) 64 then B35 n j x13 x14 (IntKind.wrap .i64 (x15+(1:Int))) x16 x17 x18 x19 x20 x21 x22 x23 x24 x25 (x26++v31) x27 else none else bif x16==(5:Int)then bif v28.1.toList==x20.toList then let v32:Y18:=[(x21,(v28.2.1,(v28.2.2.1,(v28.2.2.2.1,(v28.2.2.2.2.1,(v28.2.2.2.2.2.1,v28.2.2.2.2.2.2))))))];bif room (x26.length+v32.length) 64 then B35 n j x13 x14 (IntKind.wrap .i64 (x15+(1:Int))) x16 x17 x18 x19 x20 x21 x22 x23 x24 x25 (x26++v32) x27 else none else let v33:Y18:=[(v28.1,(v28.2.1,(v28.2.2.1,(v28.2.2.2.1,(v28.2.2.2.2.1,(v28.2.2.2.2.2.1,v28.2.2.2.2.2.2))))))];bif room (x26.length+v33.length) 64 then B35 n j x13 x14 (IntKind.wrap .i64 (x15+(1:Int))) x16 x17 x18 x19 x20 x21 x22 x23 x24 x25 (x26++v33) x27 else none else let v34:Y18:=[(v28.1,(v28.2.1,(v28.2.2.1,(v28.2.2.2.1,(v28.2.2.2.2.1,(v28.2.2.2.2.2.1,v28.2.2.2.2.2.2))))))];bif room (x26.length+v34.length) 64 then B35 n j x13 x14 (IntKind.wrap .i64 (x15+(1:Int))) x16 x17 x18 x19 x20 x21 x22 x23 x24 x25 (x26++v34) x27 else none else none else B3x n n x27.length 0 x16 x17 x18 x19 x20 x21 x22 x23 x24 x25 x26 x27
def C1f:Nat→ByteArray→Y19→(List ByteArray)→Int→ByteArray→Y19→(List ByteArray)→ByteArray→ByteArray→Option Y22
  |0,_,_,_,_,_,_,_,_,_=>none
  |n+1,a1,a2,a3,a4,a5,a6,a7,a8,a9=>let v10:Y18:=[];bif room (([]:List ByteArray).length+a3.length) 16 then let v11:Y18:=[];let v12:Y18:=[];B35 n n a2 a2.length 0 a4 a5 a6 a7 a8 a9 (⟨#[]⟩:ByteArray) v10 ([]:List ByteArray) a1 v11 (([]:List ByteArray)++a3)else none
def C0a:Nat→Y24→Int→ByteArray→Y19→(List ByteArray)→ByteArray→ByteArray→Option Y26
  |0,_,_,_,_,_,_,_=>none
  |n+1,a1,a2,a3,a4,a5,a6,a7=>let v8:Y23:=[];(C3b n a1).bind fun r9=>bif !r9 then let v10:Y23:=[];some (v10,((1:Int),()))else (C1t n a2 a3 a4 a5 a6 a7).bind fun r11=>bif !r11 then let v12:Y23:=[];some (v12,((1:Int),()))else (C1u n a1 a3).bind fun r13=>(C1g n a1).bind fun r14=>let v15:Y23:=[];bif a2==(1:Int)then bif decide ((0:Int)≤r13)then let v16:Y23:=[];some (v16,((2:Int),()))else bif (a1.length:Int)==6 then let v17:Y23:=[];some (v17,((3:Int),()))else (C0b n a3 a4 a5).bind fun r18=>(C3w n r14 r18.1 r18.2.1 r18.2.2).bind fun r19=>some (r19,((0:Int),()))else bif decide (r13<(0:Int))then let v20:Y23:=[];some (v20,((4:Int),()))else bif inR r13 a1.length then let v21:=(a1.getD r13.toNat (⟨#[]⟩,([],[])));(C24 n v21.1 v21.2.1 v21.2.2 a2 a3 a4 a5 a6 a7).bind fun r22=>bif r22 !=(0:Int)then let v23:Y23:=[];some (v23,(r22,()))else bif a2==(2:Int)then let v24:Y23:=[];bif decide (0≤((0:Nat):Int)∧((0:Nat):Int)≤r13∧r13≤(r14.length:Int))then bif room (v24.length+((r14.drop ((0:Nat):Int).toNat).take (r13.toNat - ((0:Nat):Int).toNat)).length) 64 then let v25:=(v24++((r14.drop ((0:Nat):Int).toNat).take (r13.toNat - ((0:Nat):Int).toNat)));bif decide (0≤(IntKind.wrap .i64 (r13+(1:Int)))∧(IntKind.wrap .i64 (r13+(1:Int)))≤((r14.length:Nat):Int)∧((r14.length:Nat):Int)≤(r14.length:Int))then bif room (v25.length+((r14.drop (IntKind.wrap .i64 (r13+(1:Int))).toNat).take (((r14.length:Nat):Int).toNat - (IntKind.wrap .i64 (r13+(1:Int))).toNat)).length) 64 then let v26:=(v25++((r14.drop (IntKind.wrap .i64 (r13+(1:Int))).toNat).take (((r14.length:Nat):Int).toNat - (IntKind.wrap .i64 (r13+(1:Int))).toNat)));some (v26,((0:Int),()))else none else none else none else none else bif inR r13 a1.length then let v27:=(a1.getD r13.toNat (⟨#[]⟩,([],[])));(C1f n v27.1 v27.2.1 v27.2.2 a2 a3 a4 a5 a6 a7).bind fun r28=>bif inR r13 r14.length then let v29:=(r14.set r13.toNat (r28.1,(r28.2.1,r28.2.2)));some (v29,((0:Int),()))else none else none else none
def B92 (n:Nat):Nat→Y3→List ByteArray→Int→Int→ByteArray→Y18→List ByteArray→Option Bool
  |0,_,_,_,_,_,_,_=>none
  |j+1,x7,x8,x9,x10,x11,x12,x13=>bif decide (x10<x9)then bif inR x10 x8.length then (B5b n x11 x12 x13 (x8.getD x10.toNat ⟨#[]⟩)).bind fun r14=>bif inR r14 x12.length then let v15:=(x12.getD r14.toNat (⟨#[]⟩,(0,(false,(false,(0,(0,⟨#[]⟩)))))));bif inR x10 x7.length then let v16:=(x7.getD x10.toNat (0,(0,⟨#[]⟩)));(C1h n v15.1 v15.2.1 v15.2.2.1 v15.2.2.2.1 v15.2.2.2.2.1 v15.2.2.2.2.2.1 v15.2.2.2.2.2.2 v16.1 v16.2.1 v16.2.2).bind fun r17=>bif !r17 then some false else B92 n j x7 x8 x9 (IntKind.wrap .i64 (x10+(1:Int))) x11 x12 x13 else none else none else none else some true
def C3c:Nat→ByteArray→Y19→(List ByteArray)→Y4→Option Bool
  |0,_,_,_,_=>none
  |n+1,a1,a2,a3,a4=>(B5s n a1 a2 a3).bind fun r5=>bif !r5 then some false else let v6:Bool:=((a4.length:Int) !=(a3.length:Int));bif v6 then some false else B92 n n a4 a3 a3.length 0 a1 a2 a3
def B42 (n:Nat):Nat→Int→Y6→Int→Int→Y6→Option Y7
  |0,_,_,_,_,_=>none
  |j+1,x5,x6,x7,x8,x9=>bif decide (x8<x7)then bif inR x8 x6.length then let v10:=(x6.getD x8.toNat []);bif x8 !=x5 then (B62 n v10).bind fun r11=>let v12:Y6:=[r11];bif room (x9.length+v12.length) 24 then B42 n j x5 x6 x7 (IntKind.wrap .i64 (x8+(1:Int))) (x9++v12)else none else B42 n j x5 x6 x7 (IntKind.wrap .i64 (x8+(1:Int))) x9 else none else some x9
def B8o:Nat→Y7→Int→Option Y7
  |0,_,_=>none
  |n+1,a1,a2=>let v3:Y6:=[];let v4:Y6:=[];B42 n n a2 a1 a1.length 0 v4
def C29:Nat→ByteArray→Y19→(List ByteArray)→Y7→Y4→Y4→Option Y15
  |0,_,_,_,_,_,_=>none
  |n+1,a1,a2,a3,a4,a5,a6=>let v7:Y6:=[];(B77 n a1 a2 a3 a4).bind fun r8=>bif !r8 then let v9:Y6:=[];some (v9,((1:Int),()))else (C0j n a1 a2 a3 a6).bind fun r10=>bif !r10 then let v11:Y6:=[];some (v11,((2:Int),()))else (C0i n a1 a2 a3 a4 a5).bind fun r12=>(C3c n a1 a2 a3 a5).bind fun r13=>bif !r13 then let v14:Y6:=[];some (v14,((5:Int),()))else bif decide (r12<(0:Int))then let v15:Y6:=[];some (v15,((5:Int),()))else (B8o n a4 r12).bind fun r16=>(B4w n a1 a2 a3 a6).bind fun r17=>(C0i n a1 a2 a3 r16 r17).bind fun r18=>bif decide ((0:Int)≤r18)then let v19:Y6:=[];some (v19,((3:Int),()))else (C2d n a1 a2 a3 r16 a6).bind fun r20=>some (r20,((0:Int),()))
def C28:Nat→ByteArray→Y19→(List ByteArray)→Y7→Y4→Option Y15
  |0,_,_,_,_,_=>none
  |n+1,a1,a2,a3,a4,a5=>let v6:Y6:=[];(B77 n a1 a2 a3 a4).bind fun r7=>bif !r7 then let v8:Y6:=[];some (v8,((1:Int),()))else (C0i n a1 a2 a3 a4 a5).bind fun r9=>(C3c n a1 a2 a3 a5).bind fun r10=>bif !r10 then let v11:Y6:=[];some (v11,((5:Int),()))else bif decide (r9<(0:Int))then let v12:Y6:=[];some (v12,((5:Int),()))else (B8o n a4 r9).bind fun r13=>some (r13,((0:Int),()))
def B3z (n:Nat)(k0:Int→Y6→Int→Int→Int→ByteArray→Y18→List ByteArray→ByteArray→ByteArray→Y6→Option Y15):Nat→Int→Y6→Int→Int→Y3→Int→Int→Int→ByteArray→Y18→List ByteArray→ByteArray→ByteArray→Y6→Y3→Option Y15
  |0,_,_,_,_,_,_,_,_,_,_,_,_,_,_,_=>none
  |j+1,x36,x37,x38,x39,x40,x41,x42,x43,x44,x45,x46,x47,x48,x49,x50=>bif decide (x42<x41)then bif inR x42 x40.length then let v51:=(x40.getD x42.toNat (0,(0,⟨#[]⟩)));bif x43 !=(4:Int)then let v52:Y3:=[(v51.1,(v51.2.1,v51.2.2))];bif room (x50.length+v52.length) 32 then B3z n k0 j x36 x37 x38 x39 x40 x41 (IntKind.wrap .i64 (x42+(1:Int))) x43 x44 x45 x46 x47 x48 x49 (x50++v52)else none else bif x42 !=x36 then let v53:Y3:=[(v51.1,(v51.2.1,v51.2.2))];bif room (x50.length+v53.length) 32 then B3z n k0 j x36 x37 x38 x39 x40 x41 (IntKind.wrap .i64 (x42+(1:Int))) x43 x44 x45 x46 x47 x48 x49 (x50++v53)else none else B3z n k0 j x36 x37 x38 x39 x40 x41 (IntKind.wrap .i64 (x42+(1:Int))) x43 x44 x45 x46 x47 x48 x49 x50 else none else bif x43==(3:Int)then bif inR 0 x45.length then let v54:=(x45.getD (0:Int).toNat (⟨#[]⟩,(0,(false,(false,(0,(0,⟨#[]⟩)))))));let v55:Y3:=[(v54.2.2.2.2.1,(v54.2.2.2.2.2.1,v54.2.2.2.2.2.2))];bif room (x50.length+v55.length) 32 then bif x43 !=(2:Int)then let v56:Y6:=[(x50++v55)];bif room (x49.length+v56.length) 24 then k0 x36 x37 x38 (IntKind.wrap .i64 (x39+(1:Int))) x43 x44 x45 x46 x47 x48 (x49++v56)else none else k0 x36 x37 x38 (IntKind.wrap .i64 (x39+(1:Int))) x43 x44 x45 x46 x47 x48 x49 else none else none else bif x43 !=(2:Int)then let v57:Y6:=[x50];bif room (x49.length+v57.length) 24 then k0 x36 x37 x38 (IntKind.wrap .i64 (x39+(1:Int))) x43 x44 x45 x46 x47 x48 (x49++v57)else none else k0 x36 x37 x38 (IntKind.wrap .i64 (x39+(1:Int))) x43 x44 x45 x46 x47 x48 x49
def B4g (n:Nat):Nat→Int→Y6→Int→Int→Int→ByteArray→Y18→List ByteArray→ByteArray→ByteArray→Y6→Option Y15
  |0,_,_,_,_,_,_,_,_,_,_,_=>none
  |j+1,x24,x25,x26,x27,x28,x29,x30,x31,x32,x33,x34=>bif decide (x27<x26)then bif inR x27 x25.length then let v35:=(x25.getD x27.toNat []);B3z n (fun y58 y59 y60 y61 y62 y63 y64 y65 y66 y67 y68=>B4g n j y58 y59 y60 y61 y62 y63 y64 y65 y66 y67 y68) n x24 x25 x26 x27 v35 v35.length 0 x28 x29 x30 x31 x32 x33 x34 ([]:Y3)else none else some (x34,((0:Int),()))
def C2r:Nat→ByteArray→Y19→(List ByteArray)→Y7→Int→ByteArray→Y19→(List ByteArray)→ByteArray→ByteArray→Option Y15
  |0,_,_,_,_,_,_,_,_,_,_=>none
  |n+1,a1,a2,a3,a4,a5,a6,a7,a8,a9,a10=>let v11:Y6:=[];(B77 n a1 a2 a3 a4).bind fun r12=>bif !r12 then let v13:Y6:=[];some (v13,((1:Int),()))else (C1t n a5 a6 a7 a8 a9 a10).bind fun r14=>bif !r14 then let v15:Y6:=[];some (v15,((1:Int),()))else bif !(a6.toList==a1.toList)then let v16:Y6:=[];some (v16,((1:Int),()))else bif a5==(1:Int)then let v17:Y6:=[];some (v17,((1:Int),()))else let v18:Y23:=[(a1,(a2,a3))];(C0a n v18 a5 a6 a7 a8 a9 a10).bind fun r19=>let v20:Y23:=[];bif r19.2.1 !=(0:Int)then let v21:Y6:=[];some (v21,(r19.2.1,()))else let v22:Y6:=[];(B5b n a1 a2 a3 a9).bind fun r23=>B4g n n r23 a4 a4.length 0 a5 a6 a7 a8 a9 a10 v22
def B9y:Nat→ByteArray→Y19→(List ByteArray)→Y7→Int→ByteArray→Y4→Y4→Int→ByteArray→Y19→(List ByteArray)→ByteArray→ByteArray→Option Y15
  |0,_,_,_,_,_,_,_,_,_,_,_,_,_,_=>none
  |n+1,a1,a2,a3,a4,a5,a6,a7,a8,a9,a10,a11,a12,a13,a14=>let v15:Y6:=[];bif a5==(1:Int)then (C0r n a1 a2 a3 a4 a8).bind fun r16=>some (r16.1,(r16.2.1,()))else bif a5==(2:Int)then (C29 n a1 a2 a3 a4 a7 a8).bind fun r17=>some (r17.1,(r17.2.1,()))else bif a5==(3:Int)then (C28 n a1 a2 a3 a4 a7).bind fun r18=>some (r18.1,(r18.2.1,()))else bif a5==(5:Int)then (C2r n a1 a2 a3 a4 a9 a10 a11 a12 a13 a14).bind fun r19=>some (r19.1,(r19.2.1,()))else let v20:Y6:=[];some (v20,((0:Int),()))
def B6w (n:Nat):Nat→Y6→Int→Int→Y6→Option Y7
  |0,_,_,_,_=>none
  |j+1,x4,x5,x6,x7=>bif decide (x6<x5)then bif inR x6 x4.length then let v8:=(x4.getD x6.toNat []);(B62 n v8).bind fun r9=>let v10:Y6:=[r9];bif room (x7.length+v10.length) 24 then B6w n j x4 x5 (IntKind.wrap .i64 (x6+(1:Int))) (x7++v10)else none else none else some x7
def B9v:Nat→Y7→Option Y7
  |0,_=>none
  |n+1,a1=>let v2:Y6:=[];let v3:Y6:=[];B6w n n a1 a1.length 0 v3
def B3e (n:Nat):Nat→Y23→Int→Int→Y23→Y10→Int→ByteArray→Y3→Y3→Int→ByteArray→Y18→List ByteArray→ByteArray→ByteArray→Y23→Y10→Y23→Y10→Option (Y31×(Int×Unit))
  |0,_,_,_,_,_,_,_,_,_,_,_,_,_,_,_,_,_,_,_=>none
  |j+1,x23,x24,x25,x26,x27,x28,x29,x30,x31,x32,x33,x34,x35,x36,x37,x38,x39,x40,x41=>bif decide (x25<x24)then bif inR x25 x23.length then let v42:=(x23.getD x25.toNat (⟨#[]⟩,([],[])));let v43:Y18:=[];let v44:Y6:=[];let v45:Y6:=[];(C1u n x26 v42.1).bind fun r46=>bif decide ((0:Int)≤r46)then bif v42.1.toList==x29.toList then bif inR r46 x26.length then let v47:=(x26.getD r46.toNat (⟨#[]⟩,([],[])));bif inR r46 x27.length then let v48:=(x27.getD r46.toNat []);(B9y n v47.1 v47.2.1 v47.2.2 v48 x28 x29 x30 x31 x32 x33 x34 x35 x36 x37).bind fun r49=>let v50:Y10:=[r49.1];bif room (x41.length+v50.length) 24 then B3e n j x23 x24 (IntKind.wrap .i64 (x25+(1:Int))) x26 x27 x28 x29 x30 x31 x32 x33 x34 x35 x36 x37 x38 x39 x40 (x41++v50)else none else none else none else bif decide ((0:Int)≤r46)then bif inR r46 x27.length then let v51:=(x27.getD r46.toNat []);(B9v n v51).bind fun r52=>let v53:Y10:=[r52];bif room (x41.length+v53.length) 24 then B3e n j x23 x24 (IntKind.wrap .i64 (x25+(1:Int))) x26 x27 x28 x29 x30 x31 x32 x33 x34 x35 x36 x37 x38 x39 x40 (x41++v53)else none else none else let v54:Y10:=[v44];bif room (x41.length+v54.length) 24 then B3e n j x23 x24 (IntKind.wrap .i64 (x25+(1:Int))) x26 x27 x28 x29 x30 x31 x32 x33 x34 x35 x36 x37 x38 x39 x40 (x41++v54)else none else bif decide ((0:Int)≤r46)then bif inR r46 x27.length then let v55:=(x27.getD r46.toNat []);(B9v n v55).bind fun r56=>let v57:Y10:=[r56];bif room (x41.length+v57.length) 24 then B3e n j x23 x24 (IntKind.wrap .i64 (x25+(1:Int))) x26 x27 x28 x29 x30 x31 x32 x33 x34 x35 x36 x37 x38 x39 x40 (x41++v57)else none else none else let v58:Y10:=[v44];bif room (x41.length+v58.length) 24 then B3e n j x23 x24 (IntKind.wrap .i64 (x25+(1:Int))) x26 x27 x28 x29 x30 x31 x32 x33 x34 x35 x36 x37 x38 x39 x40 (x41++v58)else none else none else some ((x40,x41),((0:Int),()))
def B9n:Nat→Y24→Y12→Int→ByteArray→Y4→Y4→Int→ByteArray→Y19→(List ByteArray)→ByteArray→ByteArray→Option (Y31×(Int×Unit))
  |0,_,_,_,_,_,_,_,_,_,_,_,_=>none
  |n+1,a1,a2,a3,a4,a5,a6,a7,a8,a9,a10,a11,a12=>let v13:Y23:=[];let v14:Y10:=[];(C0a n a1 a7 a8 a9 a10 a11 a12).bind fun r15=>let v16:Y23:=[];bif r15.2.1 !=(0:Int)then let v17:Y23:=[];let v18:Y10:=[];let v19:Int:=(IntKind.wrap .i64 ((10:Int)+r15.2.1));some ((v17,v18),(v19,()))else let v20:Y10:=[];let v21:Y23:=[];let v22:Y10:=[];B3e n n r15.1 r15.1.length 0 a1 a2 a3 a4 a5 a6 a7 a8 a9 a10 a11 a12 v13 v14 r15.1 v20
def B6y (n:Nat):Nat→Y10→Int→Int→Y23→Y10→Y23→Y10→Option Y31
  |0,_,_,_,_,_,_,_=>none
  |j+1,x9,x10,x11,x12,x13,x14,x15=>bif decide (x11<x10)then bif inR x11 x9.length then let v16:=(x9.getD x11.toNat []);let v17:Y6:=[];(B9v n v16).bind fun r18=>let v19:Y10:=[r18];bif room (x15.length+v19.length) 24 then B6y n j x9 x10 (IntKind.wrap .i64 (x11+(1:Int))) x12 x13 x14 (x15++v19)else none else none else some (x14,x15)
def C1i:Nat→Y24→Y12→Option Y31
  |0,_,_=>none
  |n+1,a1,a2=>let v3:Y23:=[];let v4:Y10:=[];(C1g n a1).bind fun r5=>let v6:Y10:=[];let v7:Y23:=[];let v8:Y10:=[];B6y n n a2 a2.length 0 v3 v4 r5 v6
def C77:Nat→Y24→Y12→Int→ByteArray→Y4→Y4→Int→ByteArray→Y19→(List ByteArray)→ByteArray→ByteArray→Option (Y31×(Int×Unit))
  |0,_,_,_,_,_,_,_,_,_,_,_,_=>none
  |n+1,a1,a2,a3,a4,a5,a6,a7,a8,a9,a10,a11,a12=>let v13:Y23:=[];let v14:Y10:=[];(C76 n a1 a2).bind fun r15=>bif !r15 then let v16:Y23:=[];let v17:Y10:=[];some ((v16,v17),((1:Int),()))else (C3q n a3 a4 a5 a6 a7 a8 a9 a10 a11 a12).bind fun r18=>bif !r18 then let v19:Y23:=[];let v20:Y10:=[];some ((v19,v20),((1:Int),()))else (C1u n a1 a4).bind fun r21=>bif decide (r21<(0:Int))then bif a3 !=(5:Int)then let v22:Y23:=[];let v23:Y10:=[];some ((v22,v23),((4:Int),()))else bif a7 !=(1:Int)then let v24:Y23:=[];let v25:Y10:=[];some ((v24,v25),((4:Int),()))else bif a3==(5:Int)then (B9n n a1 a2 a3 a4 a5 a6 a7 a8 a9 a10 a11 a12).bind fun r26=>some ((r26.1.1,r26.1.2),(r26.2.1,()))else bif inR r21 a1.length then let v27:=(a1.getD r21.toNat (⟨#[]⟩,([],[])));bif inR r21 a2.length then let v28:=(a2.getD r21.toNat []);(B9y n v27.1 v27.2.1 v27.2.2 v28 a3 a4 a5 a6 a7 a8 a9 a10 a11 a12).bind fun r29=>bif r29.2.1 !=(0:Int)then let v30:Y23:=[];let v31:Y10:=[];let v32:Int:=(IntKind.wrap .i64 ((10:Int)+r29.2.1));some ((v30,v31),(v32,()))else (C1i n a1 a2).bind fun r33=>let v34:Y23:=[];let v35:Y10:=[];bif inR r21 r33.2.length then some ((r33.1,(r33.2.set r21.toNat r29.1)),((0:Int),()))else none else none else none else bif a3==(5:Int)then (B9n n a1 a2 a3 a4 a5 a6 a7 a8 a9 a10 a11 a12).bind fun r36=>some ((r36.1.1,r36.1.2),(r36.2.1,()))else bif inR r21 a1.length then let v37:=(a1.getD r21.toNat (⟨#[]⟩,([],[])));bif inR r21 a2.length then let v38:=(a2.getD r21.toNat []);(B9y n v37.1 v37.2.1 v37.2.2 v38 a3 a4 a5 a6 a7 a8 a9 a10 a11 a12).bind fun r39=>bif r39.2.1 !=(0:Int)then let v40:Y23:=[];let v41:Y10:=[];let v42:Int:=(IntKind.wrap .i64 ((10:Int)+r39.2.1));some ((v40,v41),(v42,()))else (C1i n a1 a2).bind fun r43=>let v44:Y23:=[];let v45:Y10:=[];bif inR r21 r43.2.length then some ((r43.1,(r43.2.set r21.toNat r39.1)),((0:Int),()))else none else none else none
def B8t (n:Nat):Nat→Int→Y10→Int→Int→Option Int
  |0,_,_,_,_=>none
  |j+1,x4,x5,x6,x7=>bif decide (x7<x6)then bif inR x7 x5.length then let v8:=(x5.getD x7.toNat []);let v9:Y6:=[];let v10:Int:=(IntKind.wrap .i64 (x4+(v8.length:Int)));B8t n j v10 x5 x6 (IntKind.wrap .i64 (x7+(1:Int)))else none else some x4
def C30:Nat→Y24→Y12→Option Int
  |0,_,_=>none
  |n+1,a1,a2=>(B9r n a1 a2).bind fun r3=>bif !r3 then some (-1:Int)else B8t n n 0 a2 a2.length 0
def C6v:Nat→(List Int)→Option Bool
  |0,_=>none
  |n+1,a1=>let v2:Bool:=(decide ((1048576:Int)<(a1.length:Int)));bif v2 then some true else (C21 n a1).bind fun r3=>let v4:Y23:=[];let v5:Y10:=[];let v6:Y18:=[];(C72 n r3.1.1 r3.1.2 r3.2.1.1 r3.2.1.2.1 r3.2.1.2.2.1 r3.2.1.2.2.2.1 r3.2.1.2.2.2.2.1 r3.2.1.2.2.2.2.2.1 r3.2.1.2.2.2.2.2.2.1 r3.2.1.2.2.2.2.2.2.2.1 r3.2.1.2.2.2.2.2.2.2.2.1 r3.2.1.2.2.2.2.2.2.2.2.2).bind fun r7=>let v8:Y23:=[];let v9:Y10:=[];(C77 n r3.1.1 r3.1.2 r3.2.1.1 r3.2.1.2.1 r3.2.1.2.2.1 r3.2.1.2.2.2.1 r3.2.1.2.2.2.2.1 r3.2.1.2.2.2.2.2.1 r3.2.1.2.2.2.2.2.2.1 r3.2.1.2.2.2.2.2.2.2.1 r3.2.1.2.2.2.2.2.2.2.2.1 r3.2.1.2.2.2.2.2.2.2.2.2).bind fun r10=>let v11:Y23:=[];let v12:Y10:=[];bif r7.2.1 !=r10.2.1 then some false else bif r7.2.1 !=(0:Int)then some ((r7.1.2.length:Int)==0)else (C30 n r7.1.1 r7.1.2).bind fun r13=>(C30 n r3.1.1 r3.1.2).bind fun r14=>bif r3.2.1.1==(1:Int)then (B9r n r7.1.1 r7.1.2).bind fun r15=>bif r15 then let v16:Bool:=((IntKind.wrap .i64 (r13 - r14))==1);some v16 else some false else bif r3.2.1.1==(3:Int)then (B9r n r7.1.1 r7.1.2).bind fun r17=>bif r17 then let v18:Bool:=((IntKind.wrap .i64 (r13 - r14))==(-1:Int));some v18 else some false else bif r3.2.1.1==(2:Int)then (B9r n r7.1.1 r7.1.2).bind fun r19=>bif r19 then let v20:Bool:=((IntKind.wrap .i64 (r13 - r14))==0);some v20 else some false else (B9r n r7.1.1 r7.1.2).bind fun r21=>bif r21 then let v22:Bool:=(decide ((IntKind.wrap .i64 (r13 - r14))≤0));some v22 else some false
end Go.Proofs.YtalmhjlcjcnidaaGreat.Ev
