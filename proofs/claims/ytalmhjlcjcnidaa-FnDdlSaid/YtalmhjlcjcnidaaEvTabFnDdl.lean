/- The tables of the law FnDdl: what the evaluator makes of the program is these functions. -/
import Derived.Test.YtalmhjlcjcnidaaEvFnFnDdl
import Derived.Test.YtalmhjlcjcnidaaEvExtFnDdl
import Derived.Test.YtalmhjlcjcnidaaEvHead
import Derived.Test.YtalmhjlcjcnidaaEvEq
import Derived.Test.YtalmhjlcjcnidaaChecked
set_option linter.all false
namespace Go.Proofs.Ytalmhjlcjcnidaa.Ev
open Go Go.Proofs
abbrev J1:Kd:=(.pair (.int .i64) .str)
abbrev J2:Kd:=(.pair (.int .i64) (.int .i64))
abbrev J3:Kd:=(.pair (.sl .str) (.pair .str .str))
abbrev J4:Kd:=(.pair (.int .i64) J1)
abbrev J5:Kd:=(.sl J4)
abbrev J6:Kd:=(.pair (.sl (.int .u8)) J2)
abbrev J7:Kd:=(.pair .bool J4)
abbrev J8:Kd:=(.pair .bool J7)
abbrev J9:Kd:=(.pair (.int .i64) J8)
abbrev J10:Kd:=(.pair .str J9)
abbrev J11:Kd:=(.sl J10)
abbrev J12:Kd:=(.pair J11 (.sl .str))
abbrev J13:Kd:=(.pair .str J12)
abbrev J14:Kd:=(.sl J13)
abbrev J15:Kd:=(.pair J11 J3)
abbrev J16:Kd:=(.pair .str J15)
abbrev J17:Kd:=(.pair (.int .i64) J16)
abbrev Z1:Type:=((List ByteArray)×(ByteArray×Unit))
abbrev Q1:=(Ls.cons Lf.str (Ls.cons Lf.str Ls.nil))
abbrev Q2:=(Tvs.cons (Tv.one (Lf.int .i64)) Tvs.nil)
abbrev Q3:=(Ls.cons (Lf.sh J10) (Ls.one (Lf.sh .str)))
abbrev Q4:=(Ls.cons (Lf.od J10) (Ls.one (Lf.od .str)))
abbrev Q5:=(Tvs.cons (Tv.one (Lf.sh (.int .u8))) Tvs.nil)
abbrev Q6:=(Ls.cons (Lf.int .i64) (Ls.one (Lf.int .i64)))
abbrev Q7:=(Tvs.cons (Tv.agg (Ls.one (Lf.sh J4))) Tvs.nil)
abbrev Q8:=(Tvs.cons (Tv.agg (Ls.one (Lf.sh J13))) Tvs.nil)
abbrev Q9:=(Ls.cons (Lf.sh J10) (Ls.cons (Lf.sh .str) Ls.nil))
abbrev Q10:=(Ls.cons (Lf.int .i64) (Ls.cons (Lf.int .i64) Ls.nil))
abbrev Q11:=(Ls.cons (Lf.od .str) (Ls.cons Lf.str (Ls.one Lf.str)))
abbrev Q12:=(Ls.cons (Lf.sh .str) (Ls.cons Lf.str (Ls.one Lf.str)))
abbrev Q13:=(Ls.cons Lf.str Q3)
abbrev Q14:=(Ls.cons Lf.str Q4)
abbrev Q15:=(Ls.cons Lf.str (Ls.k (Kf.ow 304) (Ls.k (Kf.ow 305) Ls.nil)))
abbrev Q16:=(Ls.cons Lf.str (Ls.k (Kf.ow 368) (Ls.k (Kf.ow 369) Ls.nil)))
abbrev Q17:=(Ls.cons Lf.str (Ls.k (Kf.ow 176) (Ls.k (Kf.ow 177) Ls.nil)))
abbrev Q18:=(Ls.cons Lf.str (Ls.k (Kf.ow 240) (Ls.k (Kf.ow 241) Ls.nil)))
abbrev Q19:=(Ls.cons (Lf.int .i64) (Ls.cons (Lf.int .i64) (Ls.one Lf.str)))
abbrev Q20:=(Ls.cons (Lf.sh .str) Q1)
abbrev Q21:=(Tvs.cons (Tv.one (Lf.sh .str)) (Tvs.cons (Tv.one Lf.str) Tvs.nil))
abbrev Q22:=(Ls.cons Lf.str Q9)
abbrev Q23:=(Tv.agg Q13)
abbrev Q24:=(Tv.agg Q14)
abbrev Q25:=(Tvs.cons (Tv.one (Lf.sh J4)) (Tvs.cons (Tv.one (Lf.sh J4)) Tvs.nil))
abbrev Q26:=(Tv.agg Q19)
abbrev Q27:=(Tvs.cons (Tv.one (Lf.od J5)) Q2)
abbrev Q28:=(Ls.cons (Lf.sh (.int .u8)) Q6)
abbrev Q29:=(Tvs.cons (Tv.one (Lf.int .i64)) Q2)
abbrev Q30:=(Rt.v Q24)
abbrev Q31:=(Ls.cons (Lf.od J10) Q11)
abbrev Q32:=(Ls.cons (Lf.sh J10) Q12)
abbrev Q33:=(Ls.cons Lf.bool Q19)
abbrev Q34:=(Rt.tup Q27)
abbrev Q35:=(Ls.cons (Lf.sh (.int .u8)) Q10)
abbrev Q36:=(Tv.agg Q28)
abbrev Q37:=(Ls.cons (Lf.sh J10) Q20)
abbrev Q38:=(Tvs.cons Q23 Tvs.nil)
abbrev Q39:=(Tvs.cons Q26 Tvs.nil)
abbrev Q40:=(Ls.cons Lf.str Q31)
abbrev Q41:=(Ls.cons Lf.str Q32)
abbrev Q42:=(Ls.cons Lf.str (Ls.k (Kf.ow 176) (Ls.k (Kf.ow 177) Q1)))
abbrev Q43:=(Ls.cons Lf.str (Ls.k (Kf.ow 240) (Ls.k (Kf.ow 241) Q1)))
abbrev Q44:=(Ls.cons Lf.bool Q33)
abbrev Q45:=(Ls.cons Lf.str Q37)
abbrev Q46:=(Tvs.cons Q36 Tvs.nil)
abbrev Q47:=(Ls.cons (Lf.int .i64) Q40)
abbrev Q48:=(Ls.cons (Lf.int .i64) Q41)
abbrev Q49:=(Ls.cons (Lf.int .i64) Q42)
abbrev Q50:=(Ls.cons (Lf.int .i64) Q43)
abbrev Q51:=(Ls.cons (Lf.int .i64) Q44)
abbrev Q52:=(Ls.cons (Lf.int .i64) Q45)
abbrev Q53:=(Tv.agg Q47)
abbrev Q54:=(Tv.agg Q48)
abbrev Q55:=(Tvs.cons Q23 Q7)
abbrev Q56:=(Tvs.cons (Tv.one (Lf.int .i64)) Q46)
abbrev Q57:=(Ls.cons Lf.str Q51)
abbrev Q58:=(Rt.tup Q56)
abbrev Q59:=(Tvs.cons Q54 Tvs.nil)
abbrev Q60:=(Tv.agg Q57)
abbrev Q61:=(Tvs.cons Q26 Q46)
abbrev Q62:=(Tvs.cons (Tv.agg (Ls.one (Lf.sh J13))) Q59)
abbrev Q63:=(Rt.tup Q61)
def D0p:List (Kd×Nat):=[((.int .u8),1)]
def bytesOf (f:Kd):Nat:=((D0p.find? fun p=>decide (p.1=f)).map (·.2)).getD 1
theorem D32 (f:Kd):1≤bytesOf f:=by
  unfold bytesOf
  cases h:D0p.find? fun p=>decide (p.1=f)with
  |none=>exact Nat.le_refl _
  |some p=>
    have hp:∀q∈D0p,1≤q.2:=by decide
    exact hp p (List.mem_of_find?_eq_some h)
noncomputable def env:Env:=⟨[(3,⟨1,0,false,[],(.int .i64)⟩),
  (4,⟨1,0,false,[],.bool⟩),
  (5,⟨1,0,false,[],(.int .u8)⟩),
  (9,⟨1,0,false,[],.str⟩),
  (22,⟨1,1,false,[],(.sl (.int .u8))⟩),
  (23,⟨1,64,false,[],J11⟩),
  (24,⟨1,16,false,[],(.sl .str)⟩),
  (26,⟨3,0,true,[(0,1),(1,1),(2,1)],J13⟩),
  (27,⟨1,24,false,[],(.sl J5)⟩),
  (28,⟨1,32,false,[],J5⟩),
  (30,⟨1,0,true,[(0,1)],J5⟩),
  (42,⟨6,0,true,[(0,1),(1,1),(2,1),(3,1),(4,1),(5,1)],J17⟩),
  (46,⟨1,64,false,[],J14⟩),
  (48,⟨1,0,true,[(0,1)],J14⟩),
  (65,⟨3,0,true,[(0,1),(1,1),(2,1)],J4⟩),
  (71,⟨7,0,true,[(0,1),(1,1),(2,1),(3,1),(4,3)],J10⟩),
  (86,⟨3,0,true,[(0,1),(1,1),(2,1)],J6⟩)],
  [(4,Try.f4),(7,Try.f7),(12,Try.f12),(13,Try.f13),(14,Try.f14),(15,Try.f15),(16,Try.f16),(17,Try.f17),(18,Try.f18),(19,Try.f19),(21,Try.f21),(23,Try.f23),(25,Try.f25),(26,Try.f26),(27,Try.f27),(28,Try.f28),(29,Try.f29),(33,Try.f33),(37,Try.f37),(38,Try.f38),(39,Try.f39),(40,Try.f40),(41,Try.f41),(42,Try.f42),(43,Try.f43),(45,Try.f45),(46,Try.f46),(47,Try.f47),(48,Try.f48),(49,Try.f49),(51,Try.f51),(53,Try.f53),(54,Try.f54),(55,Try.f55),(56,Try.f56),(57,Try.f57),(58,Try.f58),(59,Try.f59),(60,Try.f60),(61,Try.f61),(65,Try.f65),(66,Try.f66),(67,Try.f67),(68,Try.f68),(69,Try.f69),(70,Try.f70),(71,Try.f71),(72,Try.f72),(73,Try.f73),(74,Try.f74),(75,Try.f75),(76,Try.f76),(77,Try.f77),(78,Try.f78),(79,Try.f79),(80,Try.f80),(81,Try.f81),(82,Try.f82),(83,Try.f83),(84,Try.f84),(85,Try.f85),(86,Try.f86),(87,Try.f87),(88,Try.f88),(89,Try.f89),(90,Try.f90),(91,Try.f91),(92,Try.f92),(93,Try.f93),(94,Try.f94),(97,Try.f97),(98,Try.f98),(99,Try.f99),(100,Try.f100),(103,Try.f103),(104,Try.f104),(105,Try.f105),(106,Try.f106),(107,Try.f107),(108,Try.f108),(110,Try.f110),(112,Try.f112)],[(18,⟨[],true,some (J6),[]⟩),(19,⟨[.bx (J6)],true,none,[]⟩),(39,⟨[.bx (J6)],true,none,[]⟩),(40,⟨[.bx (J6)],true,none,[]⟩),(44,⟨[.give],true,none,[]⟩),(46,⟨[],false,none,[]⟩),(50,⟨[.give,.ro,.give],true,none,[]⟩),(52,⟨[.give],true,none,[]⟩),(53,⟨[.give],true,none,[]⟩),(56,⟨[.bx (J6)],true,none,[]⟩),(57,⟨[.bx (J6)],true,none,[]⟩),(58,⟨[.bx (J6)],true,none,[]⟩),(59,⟨[.bx (J6)],true,none,[]⟩),(60,⟨[.bx (J6)],true,none,[]⟩),(76,⟨[.bx (J6)],true,none,[]⟩),(77,⟨[.bx (J6)],true,none,[]⟩),(78,⟨[.bx (J6)],true,none,[]⟩),(88,⟨[],false,none,[]⟩),(97,⟨[.bx (J6)],true,none,[]⟩),(98,⟨[.bx (J6)],true,none,[]⟩),(99,⟨[.bx (J6)],true,none,[]⟩),(100,⟨[.bx (J6)],true,none,[]⟩),(110,⟨[.bx (J6)],true,none,[]⟩)],[(12,[(4,⟨229382,[]⟩)]),(13,[(1000006,⟨500,[]⟩),(1000008,⟨468,[]⟩)]),(14,[(12,⟨6755399441056288,[]⟩),(19,⟨1813388729421943762061824,[]⟩)]),(15,[(9,⟨126100789566376992,[]⟩),(13,⟨32407902918558108704,[]⟩)]),(16,[(11,⟨664,[]⟩)]),(17,[(2,⟨450,[]⟩)]),(18,[(3,⟨25,[]⟩)]),(19,[(19,⟨565,[]⟩),(1000007,⟨245,[4]⟩),(1000009,⟨245,[]⟩),(1000013,⟨245,[]⟩),(1000015,⟨117,[]⟩),(1000022,⟨52,[4]⟩),(2000009,⟨0,[]⟩)]),(21,[(4,⟨229380,[]⟩)]),(23,[(3,⟨7212,[]⟩)]),(25,[(4,⟨229382,[]⟩)]),(26,[(4,⟨7340040,[]⟩)]),(27,[(4,⟨57356,[]⟩)]),(28,[(3,⟨7212,[]⟩)]),(29,[(4,⟨29096,[]⟩)]),(33,[(3,⟨456,[]⟩)]),(37,[(2,⟨7170,[]⟩),(9,⟨7516192802,[]⟩)]),(38,[(2,⟨35,[]⟩)]),(39,[(1000005,⟨29,[]⟩),(1000007,⟨29,[]⟩),(1000009,⟨29,[]⟩),(1000011,⟨29,[]⟩),(1000013,⟨28,[]⟩),(1000015,⟨12,[]⟩)]),(47,[(2,⟨1794,[]⟩)]),(48,[(3,⟨1804,[]⟩)]),(53,[(5,⟨99,[]⟩)]),(55,[(2,⟨387,[]⟩)]),(56,[(3,⟨113,[]⟩)]),(57,[(3,⟨105,[]⟩)]),(58,[(1000006,⟨61,[]⟩),(1000008,⟨61,[]⟩),(1000010,⟨61,[]⟩),(1000012,⟨60,[]⟩),(1000014,⟨28,[]⟩),(1000016,⟨28,[]⟩),(1000018,⟨12,[]⟩)]),(60,[(3,⟨28721,[]⟩),(7,⟨29617,[]⟩)]),(66,[(4,⟨30064771074,[]⟩),(11,⟨31525197391593506,[]⟩)]),(67,[(2,⟨35,[]⟩)]),(69,[(4,⟨12291,[]⟩)]),(73,[(2,⟨9,[]⟩)]),(81,[(2,⟨387,[]⟩)]),(83,[(2,⟨9,[]⟩)]),(85,[(4,⟨7170,[]⟩)]),(86,[(2,⟨1794,[]⟩)]),(87,[(3,⟨1804,[]⟩)]),(88,[(4,⟨14456,[]⟩)]),(91,[(3,⟨917560,[]⟩),(11,⟨108086391056891960,[]⟩)]),(93,[(2,⟨387,[]⟩)]),(105,[(4,⟨12291,[]⟩)]),(106,[(4,⟨12291,[]⟩)]),(107,[(2,⟨898,[]⟩)]),(110,[(9,⟨113,[]⟩)])],[65,71]⟩
set_option maxRecDepth 1000000 in
theorem D3b:B4 Try.prog env:=B1h (by kernel_rfl) (by
  simp only[env,List.forall_mem_cons,List.not_mem_nil,false_implies,implies_true,and_true]
  refine⟨⟨Try.func4,?_⟩,⟨Try.func7,?_⟩,⟨Try.func12,?_⟩,⟨Try.func13,?_⟩,⟨Try.func14,?_⟩,⟨Try.func15,?_⟩,⟨Try.func16,?_⟩,⟨Try.func17,?_⟩,⟨Try.func18,?_⟩,⟨Try.func19,?_⟩,⟨Try.func21,?_⟩,⟨Try.func23,?_⟩,⟨Try.func25,?_⟩,⟨Try.func26,?_⟩,⟨Try.func27,?_⟩,⟨Try.func28,?_⟩,⟨Try.func29,?_⟩,⟨Try.func33,?_⟩,⟨Try.func37,?_⟩,⟨Try.func38,?_⟩,⟨Try.func39,?_⟩,⟨Try.func40,?_⟩,⟨Try.func41,?_⟩,⟨Try.func42,?_⟩,⟨Try.func43,?_⟩,⟨Try.func45,?_⟩,⟨Try.func46,?_⟩,⟨Try.func47,?_⟩,⟨Try.func48,?_⟩,⟨Try.func49,?_⟩,⟨Try.func51,?_⟩,⟨Try.func53,?_⟩,⟨Try.func54,?_⟩,⟨Try.func55,?_⟩,⟨Try.func56,?_⟩,⟨Try.func57,?_⟩,⟨Try.func58,?_⟩,⟨Try.func59,?_⟩,⟨Try.func60,?_⟩,⟨Try.func61,?_⟩,⟨Try.func65,?_⟩,⟨Try.func66,?_⟩,⟨Try.func67,?_⟩,⟨Try.func68,?_⟩,⟨Try.func69,?_⟩,⟨Try.func70,?_⟩,⟨Try.func71,?_⟩,⟨Try.func72,?_⟩,⟨Try.func73,?_⟩,⟨Try.func74,?_⟩,⟨Try.func75,?_⟩,⟨Try.func76,?_⟩,⟨Try.func77,?_⟩,⟨Try.func78,?_⟩,⟨Try.func79,?_⟩,⟨Try.func80,?_⟩,⟨Try.func81,?_⟩,⟨Try.func82,?_⟩,⟨Try.func83,?_⟩,⟨Try.func84,?_⟩,⟨Try.func85,?_⟩,⟨Try.func86,?_⟩,⟨Try.func87,?_⟩,⟨Try.func88,?_⟩,⟨Try.func89,?_⟩,⟨Try.func90,?_⟩,⟨Try.func91,?_⟩,⟨Try.func92,?_⟩,⟨Try.func93,?_⟩,⟨Try.func94,?_⟩,⟨Try.func97,?_⟩,⟨Try.func98,?_⟩,⟨Try.func99,?_⟩,⟨Try.func100,?_⟩,⟨Try.func103,?_⟩,⟨Try.func104,?_⟩,⟨Try.func105,?_⟩,⟨Try.func106,?_⟩,⟨Try.func107,?_⟩,⟨Try.func108,?_⟩,⟨Try.func110,?_⟩,⟨Try.func112,?_⟩⟩
  all_goals kernel_rfl) (by kernel_rfl)
theorem D3c:U2 Try.prog env:=B1i (by kernel_rfl)
def C2a:Fn' ((List Int)×Unit) (Y2×Unit):=⟨18,Q5,(Rt.tup Q46),fun n a=>B9i n a.1⟩
def C4i:=Sh.of (Sl.one (Lf.sh (.int .u8)) (Sl.gap 2 (Sl.one (Lf.int .i64) (Sl.one (Lf.int .i64) (Sl.gap 27 Sl.nil))))) Rw.nil Ls.nil
def C7y (n:Nat):Tab (Y2×Unit):=[([.b,.r,.l,.r,.r],A8c C4i fun j a=>B5h n j a.1.1 a.1.2.1 a.1.2.2.1)]
def C18:Fn' (Y2×Unit) Y8:=⟨78,Q46,Q58,fun n a=>B4c n a.1.1 a.1.2.1 a.1.2.2⟩
def C0n:Fn' (Y2×(Int×Unit)) Y8:=⟨40,(Tvs.cons Q36 Q2),Q58,fun n a=>D0 n a.1.1 a.1.2.1 a.1.2.2 a.2.1⟩
def C1b:Fn' (Y2×Unit) Y11:=⟨97,Q46,(Rt.tup (Tvs.cons (Tv.one Lf.str) Q46)),fun n a=>B4d n a.1.1 a.1.2.1 a.1.2.2⟩
def C3j:Fn' (Y21×(ByteArray×Unit)) Int:=⟨47,(Tvs.cons Q23 (Tvs.cons (Tv.one Lf.str) Tvs.nil)),(Rt.v (Tv.one (Lf.int .i64))),fun n a=>B4l n a.1.1 a.1.2.1 a.1.2.2 a.2.1⟩
def C5q:=Sh.of (Sl.gap 1 (Sl.one Lf.str (Sl.gap 6 (Sl.one (Lf.sh J10) (Sl.one (Lf.int .i64) (Sl.one (Lf.int .i64) (Sl.gap 10 Sl.nil))))))) Rw.nil Ls.nil
def C9i (n:Nat):Tab Int:=[([.b,.r,.l,.r],A8c C5q fun j a=>B65 n j a.1.1 a.1.2.1 a.1.2.2.1 a.1.2.2.2.1)]
def C2d:Fn' (Y2×Unit) Y11:=⟨110,Q46,(Rt.tup (Tvs.cons (Tv.one Lf.str) Q46)),fun n a=>B9k n a.1.1 a.1.2.1 a.1.2.2⟩
def C4j:=Sh.of (Sl.k (Kf.box 40 0) (Sl.gap 3 (Sl.one (Lf.int .i64) (Sl.k (Kf.ow 360) (Sl.one (Lf.int .i64) (Sl.gap 26 Sl.nil)))))) (Rw.box 40 J6 Q35 (Rw.data 360 (.int .u8) Rw.nil)) (Ls.k (Kf.box 40 0) Ls.nil)
def C7z (n:Nat):Tab Y11:=[([.b,.r,.l,.r,.r,.r,.r,.r,.r],A8c C4j fun j a=>B5i n j a.1.1 a.1.2.1 a.2.1.1 a.2.1.2.1 a.2.1.2.2.1 a.2.2.1)]
def C3p:Fn' (Y2×(Int×Unit)) Y15:=⟨100,(Tvs.cons Q36 Q2),Q63,fun n a=>B73 n a.1.1 a.1.2.1 a.1.2.2 a.2.1⟩
def C2g:Fn' (Y2×(ByteArray×Unit)) (Y14×(Y2×Unit)):=⟨77,(Tvs.cons Q36 (Tvs.cons (Tv.one Lf.str) Tvs.nil)),(Rt.tup (Tvs.cons Q60 Q46)),fun n a=>B78 n a.1.1 a.1.2.1 a.1.2.2 a.2.1⟩
def C1a:Fn' (Y2×(ByteArray×Unit)) Y28:=⟨56,(Tvs.cons Q36 (Tvs.cons (Tv.one Lf.str) Tvs.nil)),(Rt.tup (Tvs.cons Q24 Q46)),fun n a=>B6t n a.1.1 a.1.2.1 a.1.2.2 a.2.1⟩
def C43:=Sh.of (Sl.k (Kf.box 40 0) (Sl.gap 3 (Sl.k (Kf.box 296 0) (Sl.k (Kf.box 360 0) (Sl.one (Lf.int .i64) (Sl.gap 56 Sl.nil)))))) (Rw.box 40 J6 Q35 (Rw.box 296 J13 Q15 (Rw.data 304 J10 (Rw.data 305 .str (Rw.box 360 J13 Q16 (Rw.data 368 J10 (Rw.data 369 .str Rw.nil))))))) (Ls.k (Kf.box 40 0) Ls.nil)
def C6n (n:Nat):Tab Y28:=[([.b,.r,.l,.r,.r],A8c C43 fun j a=>B45 n j a.1.1 a.2.1.1 a.2.1.2.1 a.2.1.2.2.1 a.2.2.1.1 a.2.2.2.1 a.2.2.2.2.1 a.2.2.2.2.2.1.1 a.2.2.2.2.2.2.1 a.2.2.2.2.2.2.2.1)]
def C1c:Fn' (Y2×(Y21×Unit)) Y18:=⟨60,(Tvs.cons Q36 Q38),(Rt.tup (Tvs.cons (Tv.agg (Ls.one (Lf.od J4))) Q46)),fun n a=>B8n n a.1.1 a.1.2.1 a.1.2.2 a.2.1.1 a.2.1.2.1 a.2.1.2.2⟩
def C45:=Sh.of (Sl.k (Kf.box 40 0) (Sl.gap 3 (Sl.k (Kf.box 296 0) (Sl.k (Kf.box 360 0) (Sl.gap 1 (Sl.k (Kf.box 488 0) (Sl.k (Kf.box 552 0) (Sl.one (Lf.int .i64) (Sl.gap 2 (Sl.one (Lf.sh J10) (Sl.one (Lf.int .i64) (Sl.one (Lf.int .i64) (Sl.gap 32 Sl.nil))))))))))))) (Rw.box 40 J6 Q35 (Rw.box 296 J5 (Ls.k (Kf.ow 304) Ls.nil) (Rw.data 304 J4 (Rw.box 360 J5 (Ls.k (Kf.ow 368) Ls.nil) (Rw.data 368 J4 (Rw.box 488 J10 (Ls.cons Lf.str (Ls.cons (Lf.int .i64) (Ls.cons Lf.bool (Ls.cons Lf.bool (Ls.cons (Lf.int .i64) (Ls.cons (Lf.int .i64) (Ls.cons Lf.str Ls.nil))))))) (Rw.box 552 J4 (Ls.cons (Lf.int .i64) (Ls.cons (Lf.int .i64) (Ls.cons Lf.str Ls.nil))) Rw.nil))))))) (Ls.k (Kf.box 40 0) Ls.nil)
def C44:=Sh.of (Sl.k (Kf.box 40 0) (Sl.gap 3 (Sl.k (Kf.box 296 0) (Sl.k (Kf.box 360 0) (Sl.gap 6 (Sl.one (Lf.sh J10) (Sl.one (Lf.int .i64) (Sl.one (Lf.int .i64) (Sl.gap 32 Sl.nil))))))))) (Rw.box 40 J6 Q35 (Rw.box 296 J5 (Ls.k (Kf.ow 304) Ls.nil) (Rw.data 304 J4 (Rw.box 360 J5 (Ls.k (Kf.ow 368) Ls.nil) (Rw.data 368 J4 Rw.nil))))) (Ls.k (Kf.box 40 0) Ls.nil)
def C6o (n:Nat):Tab Y18:=[([.b,.r,.l,.r,.r,.b,.l,.r,.r,.p,.b,.r,.l,.r,.r],A2r C45 fun i j a=>B4u n (fun y0 y1 y2 y3 y4 y5 y6 y7=>B39 n i y0 y1 y2 y3 y4 y5 y6 y7) j a.1.1 a.1.2.1 a.1.2.2.1 a.1.2.2.2.1 a.2.1.1 a.2.1.2.1 a.2.1.2.2.1 a.2.2.2.1 a.2.2.2.2.2.1 a.2.2.2.2.2.2.1.1 a.2.2.2.2.2.2.1.2.1 a.2.2.2.2.2.2.1.2.2.1 a.2.2.2.2.2.2.1.2.2.2.1 a.2.2.2.2.2.2.1.2.2.2.2.1 a.2.2.2.2.2.2.1.2.2.2.2.2.1 a.2.2.2.2.2.2.1.2.2.2.2.2.2.1 a.2.2.2.2.2.2.2.1.1 a.2.2.2.2.2.2.2.1.2.1 a.2.2.2.2.2.2.2.1.2.2.1),
  ([.b,.r,.l,.r,.r],A8c C44 fun j a=>B39 n j a.1.1 a.1.2.1 a.1.2.2.1 a.2.1.1 a.2.1.2.1 a.2.1.2.2.1 a.2.2.2.1 a.2.2.2.2.2.1)]
def C28:Fn' (ByteArray×Unit) Bool:=⟨83,(Tvs.cons (Tv.one Lf.str) Tvs.nil),(Rt.v (Tv.one Lf.bool)),fun n a=>B52 n a.1⟩
def C4h:=Sh.of (Sl.one Lf.str (Sl.gap 2 (Sl.one (Lf.int .i64) (Sl.gap 24 Sl.nil)))) Rw.nil Ls.nil
def C7x (n:Nat):Tab Bool:=[([.b,.r,.l,.r],A8c C4h fun j a=>B5g n j a.1.1 a.1.2.1)]
def C2b:Fn' (Int×Unit) Bool:=⟨112,Q2,(Rt.v (Tv.one Lf.bool)),fun n a=>B9j n a.1⟩
def C3o:Fn' (Y1×Unit) Bool:=⟨104,Q39,(Rt.v (Tv.one Lf.bool)),fun n a=>B6e n a.1.1 a.1.2.1 a.1.2.2⟩
def C3k:Fn' (Y14×Unit) Bool:=⟨84,(Tvs.cons Q60 Tvs.nil),(Rt.v (Tv.one Lf.bool)),fun n a=>B7q n a.1.1 a.1.2.1 a.1.2.2.1 a.1.2.2.2.1 a.1.2.2.2.2.1 a.1.2.2.2.2.2.1 a.1.2.2.2.2.2.2⟩
def C16:Fn' (Y21×Unit) Bool:=⟨66,Q38,(Rt.v (Tv.one Lf.bool)),fun n a=>B51 n a.1.1 a.1.2.1 a.1.2.2⟩
def C41:=Sh.of (Sl.gap 1 (Sl.k (Kf.box 104 0) (Sl.gap 3 (Sl.one (Lf.int .i64) (Sl.gap 46 (Sl.one (Lf.sh .str) (Sl.one (Lf.int .i64) (Sl.one (Lf.int .i64) (Sl.gap 20 Sl.nil))))))))) (Rw.box 104 J13 Q22 Rw.nil) Ls.nil
def C40:=Sh.of (Sl.gap 1 (Sl.k (Kf.box 104 0) (Sl.gap 30 (Sl.one (Lf.sh J10) (Sl.one (Lf.int .i64) (Sl.one (Lf.int .i64) (Sl.gap 40 Sl.nil))))))) (Rw.box 104 J13 Q22 Rw.nil) Ls.nil
def C6l (n:Nat):Tab Bool:=[([.b,.r,.l,.r,.r,.r,.r],A8c C41 fun j a=>B44 n j a.1.1 a.1.2.1 a.1.2.2.1 a.1.2.2.2.1 a.2.1.1 a.2.1.2.1 a.2.1.2.2.1),
  ([.b,.r,.l,.r,.r],A8c C40 fun j a=>B43 n j a.1.1 a.1.2.1 a.1.2.2.1 a.2.1.1 a.2.1.2.1 a.2.1.2.2.1)]
def C1d:Fn' (Y14×(Y1×Unit)) Bool:=⟨68,(Tvs.cons Q60 Q39),(Rt.v (Tv.one Lf.bool)),fun n a=>B8o n a.1.1 a.1.2.1 a.1.2.2.1 a.1.2.2.2.1 a.1.2.2.2.2.1 a.1.2.2.2.2.2.1 a.1.2.2.2.2.2.2 a.2.1.1 a.2.1.2.1 a.2.1.2.2⟩
def C3n:Fn' (Y21×(Y4×Unit)) Bool:=⟨26,Q55,(Rt.v (Tv.one Lf.bool)),fun n a=>B96 n a.1.1 a.1.2.1 a.1.2.2 a.2.1⟩
def C5s:=Sh.of (Sl.gap 3 (Sl.k (Kf.box 232 0) (Sl.gap 16 (Sl.one (Lf.sh J10) (Sl.one (Lf.int .i64) (Sl.one (Lf.int .i64) (Sl.gap 13 Sl.nil))))))) (Rw.box 232 J5 (Ls.cons (Lf.sh J4) Ls.nil) Rw.nil) Ls.nil
def C9k (n:Nat):Tab Bool:=[([.b,.r,.l,.r,.r],A8c C5s fun j a=>B67 n j a.1.1 a.1.2.1 a.1.2.2.1 a.2.1.1)]
def C2l:Fn' (Y21×(Y4×Unit)) Y4:=⟨28,Q55,(Rt.v (Tv.one (Lf.od J4))),fun n a=>B59 n a.1.1 a.1.2.1 a.1.2.2 a.2.1⟩
def C4z:=Sh.of (Sl.gap 2 (Sl.k (Kf.box 168 0) (Sl.k (Kf.box 232 0) (Sl.gap 1 (Sl.k (Kf.ow 360) (Sl.gap 4 (Sl.one (Lf.sh .str) (Sl.one (Lf.int .i64) (Sl.one (Lf.int .i64) (Sl.gap 15 Sl.nil)))))))))) (Rw.box 168 J13 Q22 (Rw.box 232 J5 (Ls.cons (Lf.sh J4) Ls.nil) (Rw.data 360 J4 Rw.nil))) Ls.nil
def C84 (n:Nat):Tab Y4:=[([.b,.r,.l,.r,.r],A8c C4z fun j a=>B5p n j a.1.1 a.1.2.1 a.1.2.2.1 a.2.1.1 a.2.1.2.1 a.2.1.2.2.1 a.2.2.1.1 a.2.2.2.1)]
def C17:Fn' (Y1×(Y1×Unit)) Bool:=⟨103,(Tvs.cons Q26 Q39),(Rt.v (Tv.one Lf.bool)),fun n a=>B7h n a.1.1 a.1.2.1 a.1.2.2 a.2.1.1 a.2.1.2.1 a.2.1.2.2⟩
def C14:Fn' (Y4×(Y4×Unit)) Bool:=⟨67,Q25,(Rt.v (Tv.one Lf.bool)),fun n a=>B6s n a.1 a.2.1⟩
def C3x:=Sh.of (Sl.one (Lf.sh J4) (Sl.one (Lf.sh J4) (Sl.gap 3 (Sl.one (Lf.int .i64) (Sl.gap 35 Sl.nil))))) Rw.nil Ls.nil
def C6j (n:Nat):Tab Bool:=[([.b,.r,.l,.r],A8c C3x fun j a=>B3i n j a.1.1 a.1.2.1 a.1.2.2.1)]
def C27:Fn' (Y21×(Y7×Unit)) Bool:=⟨25,(Tvs.cons Q23 (Tvs.cons (Tv.one (Lf.sh J5)) Tvs.nil)),(Rt.v (Tv.one Lf.bool)),fun n a=>B76 n a.1.1 a.1.2.1 a.1.2.2 a.2.1⟩
def C4g:=Sh.of (Sl.gap 1 (Sl.one (Lf.sh J5) (Sl.k (Kf.box 168 0) (Sl.gap 12 (Sl.one (Lf.sh J5) (Sl.one (Lf.int .i64) (Sl.one (Lf.int .i64) (Sl.gap 27 Sl.nil)))))))) (Rw.box 168 J13 Q22 Rw.nil) Ls.nil
def C7w (n:Nat):Tab Bool:=[([.b,.r,.l,.r,.r],A8c C4g fun j a=>B4m n j a.1.1 a.1.2.1 a.1.2.2.1 a.1.2.2.2.1 a.2.1.1 a.2.1.2.1 a.2.1.2.2.1)]
def B8s:Fn' (Y4×(Y4×Unit)) Bool:=⟨69,Q25,(Rt.v (Tv.one Lf.bool)),fun n a=>B6u n a.1 a.2.1⟩
def C0v:=Sh.of (Sl.one (Lf.sh J4) (Sl.one (Lf.sh J4) (Sl.gap 10 (Sl.one (Lf.int .i64) (Sl.one (Lf.int .i64) (Sl.gap 12 Sl.nil)))))) Rw.nil Ls.nil
def C2y (n:Nat):Tab Bool:=[([.b,.r,.l,.r,.r],A8c C0v fun j a=>B3g n j a.1.1 a.1.2.1 a.1.2.2.1 a.1.2.2.2.1)]
def C3m:Fn' (Y21×(Y7×(Y4×Unit))) Int:=⟨27,(Tvs.cons Q23 (Tvs.cons (Tv.one (Lf.sh J5)) (Tvs.cons (Tv.one (Lf.sh J4)) Tvs.nil))),(Rt.v (Tv.one (Lf.int .i64))),fun n a=>C0e n a.1.1 a.1.2.1 a.1.2.2 a.2.1 a.2.2.1⟩
def C5r:=Sh.of (Sl.gap 2 (Sl.one (Lf.sh J4) (Sl.k (Kf.box 232 0) (Sl.gap 9 (Sl.one (Lf.sh J5) (Sl.one (Lf.int .i64) (Sl.one (Lf.int .i64) (Sl.gap 11 Sl.nil)))))))) (Rw.box 232 J13 Q22 Rw.nil) Ls.nil
def C9j (n:Nat):Tab Int:=[([.b,.r,.l,.r,.r],A8c C5r fun j a=>B66 n j a.1.1 a.1.2.1 a.1.2.2.1 a.1.2.2.2.1 a.2.1.1 a.2.1.2.1 a.2.1.2.2.1)]
def C2n:Fn' (Y4×Unit) Y4:=⟨70,Q7,(Rt.v (Tv.agg (Ls.one (Lf.od J4)))),fun n a=>B5s n a.1⟩
def C2m:Fn' (Y21×(Y7×(Y4×Unit))) Y7:=⟨29,(Tvs.cons Q23 (Tvs.cons (Tv.one (Lf.sh J5)) Q7)),(Rt.v (Tv.one (Lf.od J5))),fun n a=>B9r n a.1.1 a.1.2.1 a.1.2.2 a.2.1 a.2.2.1⟩
def C50:=Sh.of (Sl.gap 3 (Sl.k (Kf.box 232 0) (Sl.gap 1 (Sl.k (Kf.box 360 0) (Sl.gap 1 (Sl.k (Kf.ow 488) (Sl.one Lf.bool (Sl.gap 3 (Sl.one (Lf.sh J5) (Sl.one (Lf.int .i64) (Sl.one (Lf.int .i64) (Sl.gap 33 Sl.nil)))))))))))) (Rw.box 232 J13 Q22 (Rw.box 360 J5 (Ls.cons (Lf.sh J4) Ls.nil) (Rw.data 488 J5 Rw.nil))) Ls.nil
def C85 (n:Nat):Tab Y7:=[([.b,.r,.l,.r,.r,.r],A8c C50 fun j a=>B3v n j a.1.1 a.1.2.1 a.1.2.2.1 a.1.2.2.2.1 a.2.1.1 a.2.1.2.1 a.2.1.2.2.1 a.2.2.1.1 a.2.2.2.1)]
def C26:Fn' (Y21×(Y7×(Y4×Unit))) Y13:=⟨7,(Tvs.cons Q23 (Tvs.cons (Tv.one (Lf.sh J5)) Q7)),Q34,fun n a=>B9h n a.1.1 a.1.2.1 a.1.2.2 a.2.1 a.2.2.1⟩
def C1e:Fn' (Y2×(Y21×Unit)) Y19:=⟨57,(Tvs.cons Q36 Q38),(Rt.tup (Tvs.cons (Tv.one (Lf.od J5)) Q46)),fun n a=>B8p n a.1.1 a.1.2.1 a.1.2.2 a.2.1.1 a.2.1.2.1 a.2.1.2.2⟩
def C46:=Sh.of (Sl.k (Kf.box 40 0) (Sl.gap 2 (Sl.k (Kf.box 232 0) (Sl.gap 1 (Sl.k (Kf.ow 360) (Sl.one (Lf.int .i64) (Sl.gap 22 Sl.nil))))))) (Rw.box 40 J6 Q35 (Rw.box 232 J13 Q22 (Rw.data 360 J5 Rw.nil))) (Ls.k (Kf.box 40 0) Ls.nil)
def C6p (n:Nat):Tab Y19:=[([.b,.r,.l,.r,.r],A8c C46 fun j a=>B46 n j a.1.1 a.2.1.1 a.2.1.2.1 a.2.1.2.2.1 a.2.2.1.1 a.2.2.1.2.1 a.2.2.1.2.2.1 a.2.2.2.1)]
def C2e:Fn' (Y2×Unit) Y15:=⟨98,Q46,Q63,fun n a=>B9l n a.1.1 a.1.2.1 a.1.2.2⟩
def C2c:Fn' (Y2×Unit) Y8:=⟨99,Q46,Q58,fun n a=>B77 n a.1.1 a.1.2.1 a.1.2.2⟩
def C29:Fn' (Y2×Unit) Y15:=⟨59,Q46,Q63,fun n a=>B83 n a.1.1 a.1.2.1 a.1.2.2⟩
def C2f:Fn' (Y2×Unit) Y28:=⟨58,Q46,(Rt.tup (Tvs.cons Q24 Q46)),fun n a=>B9m n a.1.1 a.1.2.1 a.1.2.2⟩
def C4q:=Sh.of (Sl.gap 2 (Sl.k (Kf.box 168 0) (Sl.k (Kf.box 232 0) (Sl.gap 69 Sl.nil)))) (Rw.box 1 J6 Q35 (Rw.box 168 J13 Q17 (Rw.data 176 J10 (Rw.data 177 .str (Rw.box 232 J13 Q18 (Rw.data 240 J10 (Rw.data 241 .str Rw.nil))))))) (Ls.k (Kf.box 1 0) Ls.nil)
def C4p:=Sh.of (Sl.gap 2 (Sl.k (Kf.box 168 0) (Sl.k (Kf.box 232 0) (Sl.one (Lf.int .i64) (Sl.gap 68 Sl.nil))))) (Rw.box 1 J6 Q35 (Rw.box 168 J13 Q17 (Rw.data 176 J10 (Rw.data 177 .str (Rw.box 232 J13 Q18 (Rw.data 240 J10 (Rw.data 241 .str Rw.nil))))))) (Ls.k (Kf.box 1 0) Ls.nil)
def C4o:=Sh.of (Sl.gap 2 (Sl.k (Kf.box 168 0) (Sl.k (Kf.box 232 0) (Sl.one (Lf.int .i64) (Sl.gap 68 Sl.nil))))) (Rw.box 1 J6 Q35 (Rw.box 168 J13 Q17 (Rw.data 176 J10 (Rw.data 177 .str (Rw.box 232 J13 Q18 (Rw.data 240 J10 (Rw.data 241 .str Rw.nil))))))) (Ls.k (Kf.box 1 0) Ls.nil)
def C4n:=Sh.of (Sl.gap 2 (Sl.k (Kf.box 168 0) (Sl.k (Kf.box 232 0) (Sl.one (Lf.int .i64) (Sl.one (Lf.int .i64) (Sl.gap 67 Sl.nil)))))) (Rw.box 1 J6 Q35 (Rw.box 168 J13 Q17 (Rw.data 176 J10 (Rw.data 177 .str (Rw.box 232 J13 Q18 (Rw.data 240 J10 (Rw.data 241 .str Rw.nil))))))) (Ls.k (Kf.box 1 0) Ls.nil)
def C4m:=Sh.of (Sl.k (Kf.box 40 0) (Sl.gap 1 (Sl.k (Kf.box 168 0) (Sl.k (Kf.box 232 0) (Sl.one (Lf.int .i64) (Sl.one (Lf.int .i64) (Sl.gap 67 Sl.nil))))))) (Rw.box 40 J6 Q35 (Rw.box 168 J13 Q17 (Rw.data 176 J10 (Rw.data 177 .str (Rw.box 232 J13 Q18 (Rw.data 240 J10 (Rw.data 241 .str Rw.nil))))))) (Ls.k (Kf.box 40 0) Ls.nil)
def C4l:=Sh.of (Sl.k (Kf.box 40 0) (Sl.gap 1 (Sl.k (Kf.box 168 0) (Sl.k (Kf.box 232 0) (Sl.one (Lf.int .i64) (Sl.one (Lf.int .i64) (Sl.gap 67 Sl.nil))))))) (Rw.box 40 J6 Q35 (Rw.box 168 J13 Q17 (Rw.data 176 J10 (Rw.data 177 .str (Rw.box 232 J13 Q18 (Rw.data 240 J10 (Rw.data 241 .str Rw.nil))))))) (Ls.k (Kf.box 40 0) Ls.nil)
def C4k:=Sh.of (Sl.k (Kf.box 40 0) (Sl.gap 1 (Sl.k (Kf.box 168 0) (Sl.k (Kf.box 232 0) (Sl.one (Lf.int .i64) (Sl.one (Lf.int .i64) (Sl.gap 67 Sl.nil))))))) (Rw.box 40 J6 Q35 (Rw.box 168 J13 Q17 (Rw.data 176 J10 (Rw.data 177 .str (Rw.box 232 J13 Q18 (Rw.data 240 J10 (Rw.data 241 .str Rw.nil))))))) (Ls.k (Kf.box 40 0) Ls.nil)
def C80 (n:Nat):Tab Y28:=[([.r,.r,.r,.r,.r,.r,.r,.r,.r,.r,.r],A8c C4q fun j a=>B6l n j a.2.1.1 a.2.1.2.1 a.2.1.2.2.1 a.2.2.1.1 a.2.2.2.1 a.2.2.2.2.1 a.2.2.2.2.2.1.1 a.2.2.2.2.2.2.1 a.2.2.2.2.2.2.2.1),
  ([.r,.r,.r,.r,.r,.r,.r,.r,.r,.r],A8c C4p fun j a=>B6k n j a.1.1 a.2.1.1 a.2.1.2.1 a.2.1.2.2.1 a.2.2.1.1 a.2.2.2.1 a.2.2.2.2.1 a.2.2.2.2.2.1.1 a.2.2.2.2.2.2.1 a.2.2.2.2.2.2.2.1),
  ([.r,.r,.r,.r,.r,.r,.r,.r,.r],A8c C4o fun j a=>B6j n j a.1.1 a.2.1.1 a.2.1.2.1 a.2.1.2.2.1 a.2.2.1.1 a.2.2.2.1 a.2.2.2.2.1 a.2.2.2.2.2.1.1 a.2.2.2.2.2.2.1 a.2.2.2.2.2.2.2.1),
  ([.r,.r,.r,.r,.r,.r,.r,.r],A8c C4n fun j a=>B6i n j a.1.1 a.1.2.1 a.2.1.1 a.2.1.2.1 a.2.1.2.2.1 a.2.2.1.1 a.2.2.2.1 a.2.2.2.2.1 a.2.2.2.2.2.1.1 a.2.2.2.2.2.2.1 a.2.2.2.2.2.2.2.1),
  ([.r,.r,.r,.r,.r,.r,.r],A8c C4m fun j a=>B6h n j a.1.1 a.1.2.1 a.2.1.1 a.2.1.2.1 a.2.1.2.2.1 a.2.2.1.1 a.2.2.2.1 a.2.2.2.2.1 a.2.2.2.2.2.1.1 a.2.2.2.2.2.2.1 a.2.2.2.2.2.2.2.1),
  ([.r,.r,.r,.r,.r,.r],A8c C4l fun j a=>B6g n j a.1.1 a.1.2.1 a.2.1.1 a.2.1.2.1 a.2.1.2.2.1 a.2.2.1.1 a.2.2.2.1 a.2.2.2.2.1 a.2.2.2.2.2.1.1 a.2.2.2.2.2.2.1 a.2.2.2.2.2.2.2.1),
  ([.r,.r,.r,.r,.r],A8c C4k fun j a=>B6f n j a.1.1 a.1.2.1 a.2.1.1 a.2.1.2.1 a.2.1.2.2.1 a.2.2.1.1 a.2.2.2.1 a.2.2.2.2.1 a.2.2.2.2.2.1.1 a.2.2.2.2.2.2.1 a.2.2.2.2.2.2.2.1)]
def C2k:Fn' (Y2×Unit) Y31:=⟨19,Q46,(Rt.tup (Tvs.cons Q23 (Tvs.cons (Tv.one (Lf.sh J5)) Q46))),fun n a=>B9q n a.1.1 a.1.2.1 a.1.2.2⟩
def C4x:=Sh.of (Sl.gap 2 (Sl.k (Kf.box 168 0) (Sl.gap 1 (Sl.k (Kf.box 296 0) (Sl.k (Kf.ow 360) (Sl.gap 93 Sl.nil)))))) (Rw.box 1 J6 Q35 (Rw.box 168 J13 Q17 (Rw.data 176 J10 (Rw.data 177 .str (Rw.box 296 J13 Q22 (Rw.data 360 J5 Rw.nil)))))) (Ls.k (Kf.box 1 0) Ls.nil)
def C4y:=Sh.of (Sl.k (Kf.box 40 0) (Sl.gap 1 (Sl.k (Kf.box 168 0) (Sl.gap 1 (Sl.k (Kf.box 296 0) (Sl.k (Kf.ow 360) (Sl.gap 3 (Sl.one (Lf.int .i64) (Sl.gap 89 Sl.nil))))))))) (Rw.box 40 J6 Q35 (Rw.box 168 J13 Q17 (Rw.data 176 J10 (Rw.data 177 .str (Rw.box 296 J13 Q15 (Rw.data 304 J10 (Rw.data 305 .str (Rw.data 360 J5 Rw.nil)))))))) (Ls.k (Kf.box 40 0) Ls.nil)
def C4w:=Sh.of (Sl.k (Kf.box 40 0) (Sl.gap 1 (Sl.k (Kf.box 168 0) (Sl.gap 1 (Sl.k (Kf.box 296 0) (Sl.k (Kf.ow 360) (Sl.one (Lf.int .i64) (Sl.gap 92 Sl.nil)))))))) (Rw.box 40 J6 Q35 (Rw.box 168 J13 Q17 (Rw.data 176 J10 (Rw.data 177 .str (Rw.box 296 J13 Q22 (Rw.data 360 J5 Rw.nil)))))) (Ls.k (Kf.box 40 0) Ls.nil)
def C4v:=Sh.of (Sl.k (Kf.box 40 0) (Sl.gap 1 (Sl.k (Kf.box 168 0) (Sl.gap 1 (Sl.k (Kf.box 296 0) (Sl.k (Kf.ow 360) (Sl.one (Lf.int .i64) (Sl.one (Lf.int .i64) (Sl.gap 91 Sl.nil))))))))) (Rw.box 40 J6 Q35 (Rw.box 168 J13 Q17 (Rw.data 176 J10 (Rw.data 177 .str (Rw.box 296 J13 Q22 (Rw.data 360 J5 Rw.nil)))))) (Ls.k (Kf.box 40 0) Ls.nil)
def C4u:=Sh.of (Sl.k (Kf.box 40 0) (Sl.gap 1 (Sl.k (Kf.box 168 0) (Sl.gap 1 (Sl.k (Kf.box 296 0) (Sl.k (Kf.ow 360) (Sl.one (Lf.int .i64) (Sl.one (Lf.int .i64) (Sl.gap 91 Sl.nil))))))))) (Rw.box 40 J6 Q35 (Rw.box 168 J13 Q17 (Rw.data 176 J10 (Rw.data 177 .str (Rw.box 296 J13 Q22 (Rw.data 360 J5 Rw.nil)))))) (Ls.k (Kf.box 40 0) Ls.nil)
def C4t:=Sh.of (Sl.k (Kf.box 40 0) (Sl.gap 1 (Sl.k (Kf.box 168 0) (Sl.gap 1 (Sl.k (Kf.box 296 0) (Sl.k (Kf.ow 360) (Sl.one (Lf.int .i64) (Sl.one (Lf.int .i64) (Sl.gap 91 Sl.nil))))))))) (Rw.box 40 J6 Q35 (Rw.box 168 J13 Q17 (Rw.data 176 J10 (Rw.data 177 .str (Rw.box 296 J13 Q22 (Rw.data 360 J5 Rw.nil)))))) (Ls.k (Kf.box 40 0) Ls.nil)
def C83 (n:Nat):Tab Y31:=[([.r,.r,.r,.r,.r,.r,.r,.r,.r,.r],A8c C4x fun j a=>B5n n j a.2.1.1 a.2.1.2.1 a.2.1.2.2.1 a.2.2.1.1 a.2.2.2.1 a.2.2.2.2.1 a.2.2.2.2.2.1.1 a.2.2.2.2.2.1.2.1 a.2.2.2.2.2.1.2.2.1 a.2.2.2.2.2.2.1),
  ([.b,.r,.r,.r,.t,.r,.l,.r,.r,.r,.r,.r,.r,.r,.r,.r],A8c C4y fun j a=>B5o n j a.1.1 a.2.1.1 a.2.1.2.1 a.2.1.2.2.1 a.2.2.1.1 a.2.2.2.1 a.2.2.2.2.1 a.2.2.2.2.2.1.1 a.2.2.2.2.2.2.1 a.2.2.2.2.2.2.2.1 a.2.2.2.2.2.2.2.2.1),
  ([.r,.r,.r,.r,.r,.r,.r,.r,.r],A8c C4w fun j a=>B5m n j a.1.1 a.2.1.1 a.2.1.2.1 a.2.1.2.2.1 a.2.2.1.1 a.2.2.2.1 a.2.2.2.2.1 a.2.2.2.2.2.1.1 a.2.2.2.2.2.1.2.1 a.2.2.2.2.2.1.2.2.1 a.2.2.2.2.2.2.1),
  ([.r,.r,.r,.r,.r,.r,.r,.r],A8c C4v fun j a=>B5l n j a.1.1 a.1.2.1 a.2.1.1 a.2.1.2.1 a.2.1.2.2.1 a.2.2.1.1 a.2.2.2.1 a.2.2.2.2.1 a.2.2.2.2.2.1.1 a.2.2.2.2.2.1.2.1 a.2.2.2.2.2.1.2.2.1 a.2.2.2.2.2.2.1),
  ([.r,.r,.r,.r,.r,.r,.r],A8c C4u fun j a=>B5k n j a.1.1 a.1.2.1 a.2.1.1 a.2.1.2.1 a.2.1.2.2.1 a.2.2.1.1 a.2.2.2.1 a.2.2.2.2.1 a.2.2.2.2.2.1.1 a.2.2.2.2.2.1.2.1 a.2.2.2.2.2.1.2.2.1 a.2.2.2.2.2.2.1),
  ([.r,.r,.r,.r,.r,.r],A8c C4t fun j a=>B6m n j a.1.1 a.1.2.1 a.2.1.1 a.2.1.2.1 a.2.1.2.2.1 a.2.2.1.1 a.2.2.2.1 a.2.2.2.2.1 a.2.2.2.2.2.1.1 a.2.2.2.2.2.1.2.1 a.2.2.2.2.2.1.2.2.1 a.2.2.2.2.2.2.1)]
def C2h:Fn' (Y2×Unit) Y30:=⟨76,Q46,(Rt.tup (Tvs.cons Q53 Q46)),fun n a=>B9n n a.1.1 a.1.2.1 a.1.2.2⟩
def B9x:Fn' (Y2×Unit) Y30:=⟨39,Q46,(Rt.tup (Tvs.cons Q53 Q46)),fun n a=>B7i n a.1.1 a.1.2.1 a.1.2.2⟩
def C1x:=Sh.of (Sl.gap 2 (Sl.k (Kf.box 168 0) (Sl.k (Kf.box 232 0) (Sl.gap 37 Sl.nil)))) (Rw.box 1 J6 Q35 (Rw.box 168 J17 Q49 (Rw.data 176 J10 (Rw.data 177 .str (Rw.box 232 J17 Q50 (Rw.data 240 J10 (Rw.data 241 .str Rw.nil))))))) (Ls.k (Kf.box 1 0) Ls.nil)
def C1w:=Sh.of (Sl.gap 2 (Sl.k (Kf.box 168 0) (Sl.k (Kf.box 232 0) (Sl.one (Lf.int .i64) (Sl.gap 36 Sl.nil))))) (Rw.box 1 J6 Q35 (Rw.box 168 J17 Q49 (Rw.data 176 J10 (Rw.data 177 .str (Rw.box 232 J17 Q50 (Rw.data 240 J10 (Rw.data 241 .str Rw.nil))))))) (Ls.k (Kf.box 1 0) Ls.nil)
def C1v:=Sh.of (Sl.k (Kf.box 40 0) (Sl.gap 1 (Sl.k (Kf.box 168 0) (Sl.k (Kf.box 232 0) (Sl.one (Lf.int .i64) (Sl.gap 36 Sl.nil)))))) (Rw.box 40 J6 Q35 (Rw.box 168 J17 Q49 (Rw.data 176 J10 (Rw.data 177 .str (Rw.box 232 J17 Q50 (Rw.data 240 J10 (Rw.data 241 .str Rw.nil))))))) (Ls.k (Kf.box 40 0) Ls.nil)
def C1u:=Sh.of (Sl.k (Kf.box 40 0) (Sl.gap 1 (Sl.k (Kf.box 168 0) (Sl.k (Kf.box 232 0) (Sl.one (Lf.int .i64) (Sl.gap 36 Sl.nil)))))) (Rw.box 40 J6 Q35 (Rw.box 168 J17 Q49 (Rw.data 176 J10 (Rw.data 177 .str (Rw.box 232 J17 Q50 (Rw.data 240 J10 (Rw.data 241 .str Rw.nil))))))) (Ls.k (Kf.box 40 0) Ls.nil)
def C1t:=Sh.of (Sl.k (Kf.box 40 0) (Sl.gap 1 (Sl.k (Kf.box 168 0) (Sl.k (Kf.box 232 0) (Sl.one (Lf.int .i64) (Sl.gap 36 Sl.nil)))))) (Rw.box 40 J6 Q35 (Rw.box 168 J17 Q49 (Rw.data 176 J10 (Rw.data 177 .str (Rw.box 232 J17 Q50 (Rw.data 240 J10 (Rw.data 241 .str Rw.nil))))))) (Ls.k (Kf.box 40 0) Ls.nil)
def C1s:=Sh.of (Sl.k (Kf.box 40 0) (Sl.gap 1 (Sl.k (Kf.box 168 0) (Sl.k (Kf.box 232 0) (Sl.one (Lf.int .i64) (Sl.gap 36 Sl.nil)))))) (Rw.box 40 J6 Q35 (Rw.box 168 J17 Q49 (Rw.data 176 J10 (Rw.data 177 .str (Rw.box 232 J17 Q50 (Rw.data 240 J10 (Rw.data 241 .str Rw.nil))))))) (Ls.k (Kf.box 40 0) Ls.nil)
def C51 (n:Nat):Tab Y30:=[([.r,.r,.r,.r,.r,.r,.r,.r,.r],A8c C1x fun j a=>B58 n j a.2.1.1 a.2.1.2.1 a.2.1.2.2.1 a.2.2.1.1 a.2.2.1.2.1 a.2.2.1.2.2.1 a.2.2.1.2.2.2.1 a.2.2.2.1 a.2.2.2.2.1 a.2.2.2.2.2.1.1 a.2.2.2.2.2.1.2.1 a.2.2.2.2.2.1.2.2.1 a.2.2.2.2.2.1.2.2.2.1 a.2.2.2.2.2.2.1 a.2.2.2.2.2.2.2.1),
  ([.r,.r,.r,.r,.r,.r,.r,.r],A8c C1w fun j a=>B57 n j a.1.1 a.2.1.1 a.2.1.2.1 a.2.1.2.2.1 a.2.2.1.1 a.2.2.1.2.1 a.2.2.1.2.2.1 a.2.2.1.2.2.2.1 a.2.2.2.1 a.2.2.2.2.1 a.2.2.2.2.2.1.1 a.2.2.2.2.2.1.2.1 a.2.2.2.2.2.1.2.2.1 a.2.2.2.2.2.1.2.2.2.1 a.2.2.2.2.2.2.1 a.2.2.2.2.2.2.2.1),
  ([.r,.r,.r,.r,.r,.r,.r],A8c C1v fun j a=>B56 n j a.1.1 a.2.1.1 a.2.1.2.1 a.2.1.2.2.1 a.2.2.1.1 a.2.2.1.2.1 a.2.2.1.2.2.1 a.2.2.1.2.2.2.1 a.2.2.2.1 a.2.2.2.2.1 a.2.2.2.2.2.1.1 a.2.2.2.2.2.1.2.1 a.2.2.2.2.2.1.2.2.1 a.2.2.2.2.2.1.2.2.2.1 a.2.2.2.2.2.2.1 a.2.2.2.2.2.2.2.1),
  ([.r,.r,.r,.r,.r,.r],A8c C1u fun j a=>B55 n j a.1.1 a.2.1.1 a.2.1.2.1 a.2.1.2.2.1 a.2.2.1.1 a.2.2.1.2.1 a.2.2.1.2.2.1 a.2.2.1.2.2.2.1 a.2.2.2.1 a.2.2.2.2.1 a.2.2.2.2.2.1.1 a.2.2.2.2.2.1.2.1 a.2.2.2.2.2.1.2.2.1 a.2.2.2.2.2.1.2.2.2.1 a.2.2.2.2.2.2.1 a.2.2.2.2.2.2.2.1),
  ([.r,.r,.r,.r,.r],A8c C1t fun j a=>B54 n j a.1.1 a.2.1.1 a.2.1.2.1 a.2.1.2.2.1 a.2.2.1.1 a.2.2.1.2.1 a.2.2.1.2.2.1 a.2.2.1.2.2.2.1 a.2.2.2.1 a.2.2.2.2.1 a.2.2.2.2.2.1.1 a.2.2.2.2.2.1.2.1 a.2.2.2.2.2.1.2.2.1 a.2.2.2.2.2.1.2.2.2.1 a.2.2.2.2.2.2.1 a.2.2.2.2.2.2.2.1),
  ([.r,.r,.r,.r],A8c C1s fun j a=>B53 n j a.1.1 a.2.1.1 a.2.1.2.1 a.2.1.2.2.1 a.2.2.1.1 a.2.2.1.2.1 a.2.2.1.2.2.1 a.2.2.1.2.2.2.1 a.2.2.2.1 a.2.2.2.2.1 a.2.2.2.2.2.1.1 a.2.2.2.2.2.1.2.1 a.2.2.2.2.2.1.2.2.1 a.2.2.2.2.2.1.2.2.2.1 a.2.2.2.2.2.2.1 a.2.2.2.2.2.2.2.1)]
def B8r:Fn' ((List Int)×Unit) Y33:=⟨13,Q5,(Rt.tup (Tvs.cons Q23 (Tvs.cons (Tv.one (Lf.sh J5)) (Tvs.cons Q53 Tvs.nil)))),fun n a=>B6r n a.1⟩
def C0u:=Sh.of (Sl.gap 2 (Sl.k (Kf.box 168 0) (Sl.gap 1 (Sl.k (Kf.box 296 0) (Sl.gap 1 (Sl.k (Kf.box 424 0) (Sl.one (Lf.sh J5) (Sl.k (Kf.box 552 0) (Sl.gap 46 Sl.nil))))))))) (Rw.box 168 J13 Q17 (Rw.data 176 J10 (Rw.data 177 .str (Rw.box 296 J17 (Ls.cons (Lf.int .i64) (Ls.cons Lf.str (Ls.k (Kf.ow 304) (Ls.k (Kf.ow 305) Q1)))) (Rw.data 304 J10 (Rw.data 305 .str (Rw.box 424 J13 Q22 (Rw.box 552 J17 (Ls.cons (Lf.int .i64) (Ls.cons Lf.str (Ls.k (Kf.ow 560) (Ls.k (Kf.ow 561) Q1)))) (Rw.data 560 J10 (Rw.data 561 .str Rw.nil)))))))))) Ls.nil
def C0t:=Sh.of (Sl.gap 2 (Sl.k (Kf.box 168 0) (Sl.gap 1 (Sl.k (Kf.box 296 0) (Sl.k (Kf.box 360 0) (Sl.k (Kf.box 424 0) (Sl.one (Lf.sh J5) (Sl.k (Kf.box 552 0) (Sl.gap 46 Sl.nil))))))))) (Rw.box 168 J13 Q17 (Rw.data 176 J10 (Rw.data 177 .str (Rw.box 296 J17 (Ls.cons (Lf.int .i64) (Ls.cons Lf.str (Ls.k (Kf.ow 304) (Ls.k (Kf.ow 305) Q1)))) (Rw.data 304 J10 (Rw.data 305 .str (Rw.box 360 J6 Q35 (Rw.box 424 J13 Q22 (Rw.box 552 J17 (Ls.cons (Lf.int .i64) (Ls.cons Lf.str (Ls.k (Kf.ow 560) (Ls.k (Kf.ow 561) Q1)))) (Rw.data 560 J10 (Rw.data 561 .str Rw.nil))))))))))) Ls.nil
def C2x (n:Nat):Tab Y33:=[([.r,.r,.r,.r,.r,.r],A8c C0u fun j a=>B2y n j a.1.1 a.2.1.1 a.2.2.1 a.2.2.2.1 a.2.2.2.2.1.1 a.2.2.2.2.1.2.1 a.2.2.2.2.1.2.2.1 a.2.2.2.2.1.2.2.2.1 a.2.2.2.2.2.1 a.2.2.2.2.2.2.1 a.2.2.2.2.2.2.2.1.1 a.2.2.2.2.2.2.2.1.2.1 a.2.2.2.2.2.2.2.1.2.2.1 a.2.2.2.2.2.2.2.2.1.1 a.2.2.2.2.2.2.2.2.1.2.1 a.2.2.2.2.2.2.2.2.1.2.2.1 a.2.2.2.2.2.2.2.2.1.2.2.2.1 a.2.2.2.2.2.2.2.2.2.1 a.2.2.2.2.2.2.2.2.2.2.1),
  ([.r,.r,.r,.r,.r],A8c C0t fun j a=>B49 n j a.1.1 a.2.1.1 a.2.2.1 a.2.2.2.1 a.2.2.2.2.1.1 a.2.2.2.2.1.2.1 a.2.2.2.2.1.2.2.1 a.2.2.2.2.1.2.2.2.1 a.2.2.2.2.2.1 a.2.2.2.2.2.2.1 a.2.2.2.2.2.2.2.1.1 a.2.2.2.2.2.2.2.1.2.1 a.2.2.2.2.2.2.2.1.2.2.1 a.2.2.2.2.2.2.2.2.1.1 a.2.2.2.2.2.2.2.2.1.2.1 a.2.2.2.2.2.2.2.2.1.2.2.1 a.2.2.2.2.2.2.2.2.2.1.1 a.2.2.2.2.2.2.2.2.2.1.2.1 a.2.2.2.2.2.2.2.2.2.1.2.2.1 a.2.2.2.2.2.2.2.2.2.1.2.2.2.1 a.2.2.2.2.2.2.2.2.2.2.1 a.2.2.2.2.2.2.2.2.2.2.2.1)]
def C25:Fn' (Int×(Int×(Int×Unit))) Bool:=⟨74,(Tvs.cons (Tv.one (Lf.int .i64)) Q29),(Rt.v (Tv.one Lf.bool)),fun n a=>B5r n a.1 a.2.1 a.2.2.1⟩
def C23:Fn' (ByteArray×Unit) Bool:=⟨73,(Tvs.cons (Tv.one Lf.str) Tvs.nil),(Rt.v (Tv.one Lf.bool)),fun n a=>B4z n a.1⟩
def C4f:=Sh.of (Sl.one Lf.str (Sl.gap 2 (Sl.one (Lf.int .i64) (Sl.gap 19 Sl.nil)))) Rw.nil Ls.nil
def C7v (n:Nat):Tab Bool:=[([.b,.r,.l,.r],A8c C4f fun j a=>B5f n j a.1.1 a.1.2.1)]
def C3f:Fn' (Y1×Unit) Bool:=⟨71,Q39,(Rt.v (Tv.one Lf.bool)),fun n a=>B72 n a.1.1 a.1.2.1 a.1.2.2⟩
def C3d:Fn' (Y14×Unit) Bool:=⟨72,(Tvs.cons Q60 Tvs.nil),(Rt.v (Tv.one Lf.bool)),fun n a=>B8x n a.1.1 a.1.2.1 a.1.2.2.1 a.1.2.2.2.1 a.1.2.2.2.2.1 a.1.2.2.2.2.2.1 a.1.2.2.2.2.2.2⟩
def C0x:Fn' (Y14×(ByteArray×Unit)) Bool:=⟨82,(Tvs.cons Q60 (Tvs.cons (Tv.one (Lf.spt .str 0)) Tvs.nil)),(Rt.v (Tv.one Lf.bool)),fun n a=>B8h n a.1.1 a.1.2.1 a.1.2.2.1 a.1.2.2.2.1 a.1.2.2.2.2.1 a.1.2.2.2.2.2.1 a.1.2.2.2.2.2.2 a.2.1⟩
def B30:Fn' (Y17×((ByteArray×Unit)×Unit)) Int:=⟨81,(Tvs.cons (Tv.one (Lf.sh J10)) (Tvs.cons (Tv.one (Lf.clo 82 (Cs.cons .str Cs.nil))) Tvs.nil)),(Rt.v (Tv.one (Lf.int .i64))),fun n a=>B2e n a.1 a.2.1.1⟩
def B47:=Sh.of (Sl.one (Lf.sh J10) (Sl.one (Lf.clo 82 (Cs.cons .str Cs.nil)) (Sl.gap 5 (Sl.one (Lf.int .i64) (Sl.one (Lf.int .i64) (Sl.gap 10 Sl.nil)))))) Rw.nil Ls.nil
def B4i (n:Nat):Tab Int:=[([.b,.r,.l,.r],A8c B47 fun j a=>V1 n j a.1.1 a.1.2.1.1 a.1.2.2.1 a.1.2.2.2.1)]
def C3c:Fn' (Y21×(ByteArray×Unit)) Int:=⟨43,(Tvs.cons Q23 (Tvs.cons (Tv.one Lf.str) Tvs.nil)),(Rt.v (Tv.one (Lf.int .i64))),fun n a=>B29 n a.1.1 a.1.2.1 a.1.2.2 a.2.1⟩
def C10:Fn' (Y21×Unit) Bool:=⟨37,Q38,(Rt.v (Tv.one Lf.bool)),fun n a=>B6p n a.1.1 a.1.2.1 a.1.2.2⟩
def C3v:=Sh.of (Sl.gap 1 (Sl.k (Kf.box 104 0) (Sl.gap 3 (Sl.one (Lf.int .i64) (Sl.gap 24 (Sl.one (Lf.sh .str) (Sl.one (Lf.int .i64) (Sl.one (Lf.int .i64) (Sl.gap 35 Sl.nil))))))))) (Rw.box 104 J13 Q22 Rw.nil) Ls.nil
def C3u:=Sh.of (Sl.gap 1 (Sl.k (Kf.box 104 0) (Sl.gap 8 (Sl.one (Lf.sh J10) (Sl.one (Lf.int .i64) (Sl.one (Lf.int .i64) (Sl.gap 55 Sl.nil))))))) (Rw.box 104 J13 Q22 Rw.nil) Ls.nil
def C6h (n:Nat):Tab Bool:=[([.b,.r,.l,.r,.r,.r],A8c C3v fun j a=>B42 n j a.1.1 a.1.2.1 a.1.2.2.1 a.1.2.2.2.1 a.2.1.1 a.2.1.2.1 a.2.1.2.2.1),
  ([.b,.r,.l,.r],A8c C3u fun j a=>B4r n j a.1.1 a.1.2.1 a.1.2.2.1 a.2.1.1 a.2.1.2.1 a.2.1.2.2.1)]
def C24:Fn' (Y14×(Y1×Unit)) Bool:=⟨61,(Tvs.cons Q60 Q39),(Rt.v (Tv.one Lf.bool)),fun n a=>B9f n a.1.1 a.1.2.1 a.1.2.2.1 a.1.2.2.2.1 a.1.2.2.2.2.1 a.1.2.2.2.2.2.1 a.1.2.2.2.2.2.2 a.2.1.1 a.2.1.2.1 a.2.1.2.2⟩
def C3h:Fn' (Y21×(Y4×Unit)) Bool:=⟨21,Q55,(Rt.v (Tv.one Lf.bool)),fun n a=>C0c n a.1.1 a.1.2.1 a.1.2.2 a.2.1⟩
def C5o:=Sh.of (Sl.gap 2 (Sl.k (Kf.box 168 0) (Sl.gap 12 (Sl.one (Lf.sh J4) (Sl.one (Lf.int .i64) (Sl.one (Lf.int .i64) (Sl.gap 13 Sl.nil))))))) (Rw.box 168 J13 Q22 Rw.nil) Ls.nil
def C9g (n:Nat):Tab Bool:=[([.b,.r,.l,.r,.r],A8c C5o fun j a=>B62 n j a.1.1 a.1.2.1 a.1.2.2.1 a.2.1.1 a.2.1.2.1 a.2.1.2.2.1)]
def C3g:Fn' (Y21×(Y4×Unit)) Y4:=⟨23,Q55,(Rt.v (Tv.one (Lf.od J4))),fun n a=>B91 n a.1.1 a.1.2.1 a.1.2.2 a.2.1⟩
def C5n:=Sh.of (Sl.gap 2 (Sl.k (Kf.box 168 0) (Sl.k (Kf.box 232 0) (Sl.gap 1 (Sl.k (Kf.ow 360) (Sl.gap 4 (Sl.one (Lf.sh .str) (Sl.one (Lf.int .i64) (Sl.one (Lf.int .i64) (Sl.gap 15 Sl.nil)))))))))) (Rw.box 168 J13 Q22 (Rw.box 232 J5 (Ls.cons (Lf.sh J4) Ls.nil) (Rw.data 360 J4 Rw.nil))) Ls.nil
def C9f (n:Nat):Tab Y4:=[([.b,.r,.l,.r,.r],A8c C5n fun j a=>B61 n j a.1.1 a.1.2.1 a.1.2.2.1 a.2.1.1 a.2.1.2.1 a.2.1.2.2.1 a.2.2.1.1 a.2.2.2.1)]
def C11:Fn' (Y1×(Y1×Unit)) Bool:=⟨75,(Tvs.cons Q26 Q39),(Rt.v (Tv.one Lf.bool)),fun n a=>B7c n a.1.1 a.1.2.1 a.1.2.2 a.2.1.1 a.2.1.2.1 a.2.1.2.2⟩
def C0y:Fn' (Y4×(Y4×Unit)) Bool:=⟨38,Q25,(Rt.v (Tv.one Lf.bool)),fun n a=>B8i n a.1 a.2.1⟩
def C3r:=Sh.of (Sl.one (Lf.sh J4) (Sl.one (Lf.sh J4) (Sl.gap 3 (Sl.one (Lf.int .i64) (Sl.gap 35 Sl.nil))))) Rw.nil Ls.nil
def C6f (n:Nat):Tab Bool:=[([.b,.r,.l,.r],A8c C3r fun j a=>B5z n j a.1.1 a.1.2.1 a.1.2.2.1)]
def C22:Fn' (Y21×(Y7×Unit)) Bool:=⟨12,(Tvs.cons Q23 (Tvs.cons (Tv.one (Lf.sh J5)) Tvs.nil)),(Rt.v (Tv.one Lf.bool)),fun n a=>B82 n a.1.1 a.1.2.1 a.1.2.2 a.2.1⟩
def C4e:=Sh.of (Sl.gap 1 (Sl.one (Lf.sh J5) (Sl.k (Kf.box 168 0) (Sl.gap 12 (Sl.one (Lf.sh J5) (Sl.one (Lf.int .i64) (Sl.one (Lf.int .i64) (Sl.gap 27 Sl.nil)))))))) (Rw.box 168 J13 Q22 Rw.nil) Ls.nil
def C7u (n:Nat):Tab Bool:=[([.b,.r,.l,.r,.r],A8c C4e fun j a=>B4k n j a.1.1 a.1.2.1 a.1.2.2.1 a.1.2.2.2.1 a.2.1.1 a.2.1.2.1 a.2.1.2.2.1)]
def B9w:Fn' ((List ByteArray)×Unit) (List ByteArray):=⟨108,(Tvs.cons (Tv.one (Lf.sh .str)) Tvs.nil),(Rt.v (Tv.one (Lf.od .str))),fun n a=>B7d n a.1⟩
def B9v:Fn' (Y21×Unit) Y21:=⟨92,Q38,Q30,fun n a=>B6c n a.1.1 a.1.2.1 a.1.2.2⟩
def C0i:Fn' Y29 Y21:=⟨51,Q59,Q30,fun n a=>B60 n a.1.1 a.1.2.1 a.1.2.2.1 a.1.2.2.2.1 a.1.2.2.2.2.1 a.1.2.2.2.2.2⟩
def B4v:Fn' (Y17×(Y17×Unit)) Bool:=⟨105,(Tvs.cons (Tv.one (Lf.sh J10)) (Tvs.cons (Tv.one (Lf.sh J10)) Tvs.nil)),(Rt.v (Tv.one Lf.bool)),fun n a=>B35 n a.1 a.2.1⟩
def B6v:=Sh.of (Sl.one (Lf.sh J10) (Sl.one (Lf.sh J10) (Sl.gap 10 (Sl.one (Lf.int .i64) (Sl.one (Lf.int .i64) (Sl.gap 12 Sl.nil)))))) Rw.nil Ls.nil
def B7a (n:Nat):Tab Bool:=[([.b,.r,.l,.r,.r],A8c B6v fun j a=>B2f n j a.1.1 a.1.2.1 a.1.2.2.1 a.1.2.2.2.1)]
def B5v:Fn' ((List ByteArray)×((List ByteArray)×Unit)) Bool:=⟨106,(Tvs.cons (Tv.one (Lf.sh .str)) (Tvs.cons (Tv.one (Lf.sh .str)) Tvs.nil)),(Rt.v (Tv.one Lf.bool)),fun n a=>B3f n a.1 a.2.1⟩
def B7m:=Sh.of (Sl.one (Lf.sh .str) (Sl.one (Lf.sh .str) (Sl.gap 10 (Sl.one (Lf.int .i64) (Sl.one (Lf.int .i64) (Sl.gap 12 Sl.nil)))))) Rw.nil Ls.nil
def B85 (n:Nat):Tab Bool:=[([.b,.r,.l,.r,.r],A8c B7m fun j a=>B2m n j a.1.1 a.1.2.1 a.1.2.2.1 a.1.2.2.2.1)]
def C0l:Fn' (Y27×Y29) Bool:=⟨79,(Tvs.cons Q54 Q59),(Rt.v (Tv.one Lf.bool)),fun n a=>B5b n a.1.1 a.1.2.1 a.1.2.2.1 a.1.2.2.2.1 a.1.2.2.2.2.1 a.1.2.2.2.2.2 a.2.1.1 a.2.1.2.1 a.2.1.2.2.1 a.2.1.2.2.2.1 a.2.1.2.2.2.2.1 a.2.1.2.2.2.2.2⟩
def C3e:Fn' Y29 Bool:=⟨41,Q59,(Rt.v (Tv.one Lf.bool)),fun n a=>B8y n a.1.1 a.1.2.1 a.1.2.2.1 a.1.2.2.2.1 a.1.2.2.2.2.1 a.1.2.2.2.2.2⟩
def C0g:Fn' (Y21×(ByteArray×Unit)) Bool:=⟨94,(Tvs.cons Q23 (Tvs.cons (Tv.one (Lf.spt .str 0)) Tvs.nil)),(Rt.v (Tv.one Lf.bool)),fun n a=>B7s n a.1.1 a.1.2.1 a.1.2.2 a.2.1⟩
def B2v:Fn' (Y23×((ByteArray×Unit)×Unit)) Int:=⟨93,(Tvs.cons (Tv.one (Lf.sh J13)) (Tvs.cons (Tv.one (Lf.clo 94 (Cs.cons .str Cs.nil))) Tvs.nil)),(Rt.v (Tv.one (Lf.int .i64))),fun n a=>B2b n a.1 a.2.1.1⟩
def B3o:=Sh.of (Sl.one (Lf.sh J13) (Sl.one (Lf.clo 94 (Cs.cons .str Cs.nil)) (Sl.gap 5 (Sl.one (Lf.int .i64) (Sl.one (Lf.int .i64) (Sl.gap 10 Sl.nil)))))) Rw.nil Ls.nil
def B3x (n:Nat):Tab Int:=[([.b,.r,.l,.r],A8c B3o fun j a=>D5 n j a.1.1 a.1.2.1.1 a.1.2.2.1 a.1.2.2.2.1)]
def C21:Fn' (Y23×(ByteArray×Unit)) Int:=⟨49,(Tvs.cons (Tv.agg (Ls.one (Lf.sh J13))) (Tvs.cons (Tv.one Lf.str) Tvs.nil)),(Rt.v (Tv.one (Lf.int .i64))),fun n a=>B81 n a.1 a.2.1⟩
def B5w:Fn' Z1 Int:=⟨55,Q21,(Rt.v (Tv.one (Lf.int .i64))),fun n a=>B31 n a.1 a.2.1⟩
def B7n:=Sh.of (Sl.one (Lf.sh .str) (Sl.one Lf.str (Sl.gap 5 (Sl.one (Lf.int .i64) (Sl.one (Lf.int .i64) (Sl.gap 10 Sl.nil)))))) Rw.nil Ls.nil
def B86 (n:Nat):Tab Int:=[([.b,.r,.l,.r],A8c B7n fun j a=>B2n n j a.1.1 a.1.2.1 a.1.2.2.1 a.1.2.2.2.1)]
def B5c:Fn' Z1 Bool:=⟨80,Q21,(Rt.v (Tv.one Lf.bool)),fun n a=>C1 n a.1 a.2.1⟩
def C13:Fn' (Y23×Y29) Int:=⟨42,Q62,(Rt.v (Tv.one (Lf.int .i64))),fun n a=>B7e n a.1 a.2.1.1 a.2.1.2.1 a.2.1.2.2.1 a.2.1.2.2.2.1 a.2.1.2.2.2.2.1 a.2.1.2.2.2.2.2⟩
def C0k:Fn' (Y4×Unit) Y4:=⟨65,(Tvs.cons (Tv.one (Lf.sh J4)) Tvs.nil),(Rt.v (Tv.one (Lf.od J4))),fun n a=>B7v n a.1⟩
def C0j:Fn' (Y7×Unit) Y7:=⟨33,(Tvs.cons (Tv.one (Lf.sh J5)) Tvs.nil),(Rt.v (Tv.one (Lf.od J5))),fun n a=>B7u n a.1⟩
def C2w:=Sh.of (Sl.gap 3 (Sl.k (Kf.ow 232) (Sl.gap 2 (Sl.one (Lf.sh J5) (Sl.one (Lf.int .i64) (Sl.one (Lf.int .i64) (Sl.gap 12 Sl.nil))))))) (Rw.data 232 J5 Rw.nil) Ls.nil
def C5v (n:Nat):Tab Y7:=[([.b,.r,.l,.r,.r],A8c C2w fun j a=>B4g n j a.1.1 a.1.2.1 a.1.2.2.1 a.2.1)]
def B4o:Fn' (Y4×(Int×(Int×Unit))) Y4:=⟨44,(Tvs.cons (Tv.one (Lf.od J4)) Q29),(Rt.v (Tv.one (Lf.od J4))),fun n a=>B3l n a.1 a.2.1 a.2.2.1⟩
def C0z:Fn' Y33 Y13:=⟨14,(Tvs.cons Q23 (Tvs.cons (Tv.one (Lf.sh J5)) Q59)),Q34,fun n a=>B8j n a.1.1 a.1.2.1 a.1.2.2 a.2.1 a.2.2.1.1 a.2.2.1.2.1 a.2.2.1.2.2.1 a.2.2.1.2.2.2.1 a.2.2.1.2.2.2.2.1 a.2.2.1.2.2.2.2.2⟩
def C3s:=Sh.of (Sl.gap 5 (Sl.k (Kf.box 360 0) (Sl.gap 3 (Sl.k (Kf.ow 616) (Sl.gap 41 (Sl.one (Lf.int .i64) (Sl.one (Lf.int .i64) (Sl.gap 45 Sl.nil)))))))) (Rw.box 360 J17 Q52 (Rw.data 616 J5 Rw.nil)) Ls.nil
def C3t:=Sh.of (Sl.gap 9 (Sl.k (Kf.ow 616) (Sl.gap 1 (Sl.one (Lf.int .i64) (Sl.gap 67 (Sl.one (Lf.int .i64) (Sl.one (Lf.int .i64) (Sl.gap 17 Sl.nil)))))))) (Rw.data 616 J5 Rw.nil) Ls.nil
def C6g (n:Nat):Tab Y13:=[([.b,.r,.t,.r,.f,.r,.b,.r,.l,.r,.r,.r,.r],A8c C3s fun j a=>B4p n j a.1.1 a.1.2.1 a.2.1.1 a.2.1.2.1 a.2.1.2.2.1 a.2.1.2.2.2.1 a.2.1.2.2.2.2.1 a.2.1.2.2.2.2.2.1 a.2.2.1),
  ([.b,.r,.r,.t,.r,.f,.r,.f,.r,.b,.r,.l,.r,.r,.r,.r],A8c C3t fun j a=>B4q n j a.1.1 a.1.2.1 a.1.2.2.1 a.2.1)]
def C3l:Fn' Y29 Bool:=⟨45,Q59,(Rt.v (Tv.one Lf.bool)),fun n a=>B95 n a.1.1 a.1.2.1 a.1.2.2.1 a.1.2.2.2.1 a.1.2.2.2.2.1 a.1.2.2.2.2.2⟩
def C3i:Fn' (Y23×Unit) Bool:=⟨85,Q8,(Rt.v (Tv.one Lf.bool)),fun n a=>C0d n a.1⟩
def C5p:=Sh.of (Sl.gap 1 (Sl.k (Kf.box 104 0) (Sl.gap 8 (Sl.one (Lf.sh J13) (Sl.one (Lf.int .i64) (Sl.one (Lf.int .i64) (Sl.gap 24 Sl.nil))))))) (Rw.box 104 J14 (Ls.cons (Lf.sh J13) Ls.nil) Rw.nil) Ls.nil
def C9h (n:Nat):Tab Bool:=[([.b,.r,.l,.r,.r],A8c C5p fun j a=>B4e n j a.1.1 a.1.2.1 a.1.2.2.1 a.2.1.1)]
def C3q:Fn' (Y23×(ByteArray×Unit)) Int:=⟨86,(Tvs.cons (Tv.agg (Ls.one (Lf.sh J13))) (Tvs.cons (Tv.one Lf.str) Tvs.nil)),(Rt.v (Tv.one (Lf.int .i64))),fun n a=>C0f n a.1 a.2.1⟩
def C5t:=Sh.of (Sl.gap 1 (Sl.one Lf.str (Sl.gap 6 (Sl.one (Lf.sh J13) (Sl.one (Lf.int .i64) (Sl.one (Lf.int .i64) (Sl.gap 10 Sl.nil))))))) Rw.nil Ls.nil
def C9l (n:Nat):Tab Int:=[([.b,.r,.l,.r],A8c C5t fun j a=>B68 n j a.1.1 a.1.2.1 a.1.2.2.1 a.1.2.2.2.1)]
def C0p:Fn' (Y21×Unit) Y21:=⟨89,Q38,Q30,fun n a=>B70 n a.1.1 a.1.2.1 a.1.2.2⟩
def C19:Fn' (Y23×Unit) Y23:=⟨87,Q8,(Rt.v (Tv.agg (Ls.one (Lf.od J13)))),fun n a=>B8m n a.1⟩
def C42:=Sh.of (Sl.gap 2 (Sl.k (Kf.box 168 0) (Sl.k (Kf.box 232 0) (Sl.gap 4 (Sl.one (Lf.sh J13) (Sl.one (Lf.int .i64) (Sl.one (Lf.int .i64) (Sl.gap 12 Sl.nil)))))))) (Rw.box 168 J14 (Ls.k (Kf.ow 176) Ls.nil) (Rw.data 176 J13 (Rw.box 232 J14 (Ls.k (Kf.ow 240) Ls.nil) (Rw.data 240 J13 Rw.nil)))) Ls.nil
def C6m (n:Nat):Tab Y23:=[([.b,.r,.l,.r,.r],A8c C42 fun j a=>B4t n j a.1.1 a.1.2.1 a.1.2.2.1 a.2.2.1 a.2.2.2.2.1)]
def C2j:Fn' (Y23×(Y21×Unit)) Y23:=⟨88,(Tvs.cons (Tv.agg (Ls.one (Lf.sh J13))) Q38),(Rt.v (Tv.agg (Ls.one (Lf.sh J13)))),fun n a=>B9p n a.1 a.2.1.1 a.2.1.2.1 a.2.1.2.2⟩
def C4s:=Sh.of (Sl.gap 3 (Sl.k (Kf.box 232 0) (Sl.k (Kf.box 296 0) (Sl.k (Kf.box 360 0) (Sl.one Lf.bool (Sl.gap 4 (Sl.one (Lf.sh J13) (Sl.one (Lf.int .i64) (Sl.one (Lf.int .i64) (Sl.gap 34 Sl.nil)))))))))) (Rw.box 232 J13 Q22 (Rw.box 296 J14 (Ls.k (Kf.ow 304) Ls.nil) (Rw.data 304 J13 (Rw.box 360 J14 (Ls.k (Kf.ow 368) Ls.nil) (Rw.data 368 J13 Rw.nil))))) Ls.nil
def C82 (n:Nat):Tab Y23:=[([.b,.r,.l,.r,.r,.r],A8c C4s fun j a=>B3u n j a.1.1 a.1.2.1 a.1.2.2.1 a.1.2.2.2.1 a.2.1.1 a.2.1.2.1 a.2.1.2.2.1 a.2.2.2.1 a.2.2.2.2.2.1)]
def C2i:Fn' Z1 Bool:=⟨107,Q21,(Rt.v (Tv.one Lf.bool)),fun n a=>B9o n a.1 a.2.1⟩
def C4r:=Sh.of (Sl.gap 1 (Sl.one Lf.str (Sl.gap 5 (Sl.one (Lf.sh .str) (Sl.one (Lf.int .i64) (Sl.one (Lf.int .i64) (Sl.gap 7 Sl.nil))))))) Rw.nil Ls.nil
def C81 (n:Nat):Tab Bool:=[([.b,.r,.l,.r],A8c C4r fun j a=>B5j n j a.1.1 a.1.2.1 a.1.2.2.1 a.1.2.2.2.1)]
def C0o:Fn' (Y21×Y29) Int:=⟨90,(Tvs.cons Q23 Q59),(Rt.v (Tv.one (Lf.int .i64))),fun n a=>B7y n a.1.1 a.1.2.1 a.1.2.2 a.2.1.1 a.2.1.2.1 a.2.1.2.2.1 a.2.1.2.2.2.1 a.2.1.2.2.2.2.1 a.2.1.2.2.2.2.2⟩
def B9y:Fn' (Y21×Y29) Y21:=⟨91,(Tvs.cons Q23 Q59),Q30,fun n a=>B7j n a.1.1 a.1.2.1 a.1.2.2 a.2.1.1 a.2.1.2.1 a.2.1.2.2.1 a.2.1.2.2.2.1 a.2.1.2.2.2.2.1 a.2.1.2.2.2.2.2⟩
def C1z:=Sh.of (Sl.gap 3 (Sl.k (Kf.box 232 0) (Sl.k (Kf.box 296 0) (Sl.k (Kf.box 360 0) (Sl.gap 49 (Sl.one (Lf.int .i64) (Sl.one (Lf.int .i64) (Sl.gap 35 Sl.nil)))))))) (Rw.box 232 J17 Q52 (Rw.box 296 J13 Q15 (Rw.data 304 J10 (Rw.data 305 .str (Rw.box 360 J13 Q16 (Rw.data 368 J10 (Rw.data 369 .str Rw.nil))))))) Ls.nil
def C1y:=Sh.of (Sl.gap 3 (Sl.k (Kf.box 232 0) (Sl.k (Kf.box 296 0) (Sl.k (Kf.box 360 0) (Sl.gap 11 (Sl.one (Lf.sh J10) (Sl.one (Lf.int .i64) (Sl.one (Lf.int .i64) (Sl.gap 72 Sl.nil))))))))) (Rw.box 232 J17 Q52 (Rw.box 296 J13 Q15 (Rw.data 304 J10 (Rw.data 305 .str (Rw.box 360 J13 Q16 (Rw.data 368 J10 (Rw.data 369 .str Rw.nil))))))) Ls.nil
def C52 (n:Nat):Tab Y21:=[([.b,.r,.l,.r,.r,.r],A8c C1z fun j a=>B36 n j a.1.1 a.1.2.1 a.2.1.1 a.2.1.2.1 a.2.1.2.2.1 a.2.1.2.2.2.1 a.2.1.2.2.2.2.1 a.2.1.2.2.2.2.2.1 a.2.2.1.1 a.2.2.2.1 a.2.2.2.2.1 a.2.2.2.2.2.1.1 a.2.2.2.2.2.2.1 a.2.2.2.2.2.2.2.1),
  ([.b,.r,.l,.r,.r],A8c C1y fun j a=>B2l n j a.1.1 a.1.2.1 a.1.2.2.1 a.2.1.1 a.2.1.2.1 a.2.1.2.2.1 a.2.1.2.2.2.1 a.2.1.2.2.2.2.1 a.2.1.2.2.2.2.2.1 a.2.2.1.1 a.2.2.2.1 a.2.2.2.2.1 a.2.2.2.2.2.1.1 a.2.2.2.2.2.2.1 a.2.2.2.2.2.2.2.1)]
def C0m:Fn' (Y23×Y29) Y25:=⟨46,Q62,(Rt.tup (Tvs.cons (Tv.agg (Ls.one (Lf.sh J13))) Q2)),fun n a=>B7x n a.1 a.2.1.1 a.2.1.2.1 a.2.1.2.2.1 a.2.1.2.2.2.1 a.2.1.2.2.2.2.1 a.2.1.2.2.2.2.2⟩
def C15:Fn' Y33 Y13:=⟨15,(Tvs.cons Q23 (Tvs.cons (Tv.one (Lf.sh J5)) Q59)),Q34,fun n a=>B8l n a.1.1 a.1.2.1 a.1.2.2 a.2.1 a.2.2.1.1 a.2.2.1.2.1 a.2.2.1.2.2.1 a.2.2.1.2.2.2.1 a.2.2.1.2.2.2.2.1 a.2.2.1.2.2.2.2.2⟩
def C3z:=Sh.of (Sl.gap 5 (Sl.k (Kf.box 360 0) (Sl.gap 4 (Sl.k (Kf.ow 680) (Sl.one (Lf.int .i64) (Sl.gap 2 (Sl.k (Kf.box 936 0) (Sl.gap 39 (Sl.one (Lf.sh J5) (Sl.one (Lf.int .i64) (Sl.one (Lf.int .i64) (Sl.gap 5 (Sl.one (Lf.sh J4) (Sl.one (Lf.int .i64) (Sl.one (Lf.int .i64) (Sl.gap 41 Sl.nil)))))))))))))))) (Rw.box 360 J17 Q52 (Rw.data 680 J5 (Rw.box 936 J5 (Ls.k (Kf.ow 944) Ls.nil) (Rw.data 944 J4 Rw.nil)))) Ls.nil
def C3y:=Sh.of (Sl.gap 5 (Sl.k (Kf.box 360 0) (Sl.gap 4 (Sl.k (Kf.ow 680) (Sl.one (Lf.int .i64) (Sl.gap 42 (Sl.one (Lf.sh J5) (Sl.one (Lf.int .i64) (Sl.one (Lf.int .i64) (Sl.gap 49 Sl.nil)))))))))) (Rw.box 360 J17 Q52 (Rw.data 680 J5 Rw.nil)) Ls.nil
def C6k (n:Nat):Tab Y13:=[([.b,.r,.l,.r,.r,.b,.l,.r,.r,.p,.b,.r,.l,.r,.r,.r,.r,.r,.r],A2r C3z fun i j a=>B38 n (fun y0 y1 y2 y3 y4 y5 y6 y7 y8 y9 y10=>B3j n i y0 y1 y2 y3 y4 y5 y6 y7 y8 y9 y10) j a.1.1 a.1.2.1 a.1.2.2.1 a.1.2.2.2.1 a.1.2.2.2.2.1 a.1.2.2.2.2.2.1 a.1.2.2.2.2.2.2.1 a.2.1.1 a.2.1.2.1 a.2.1.2.2.1 a.2.1.2.2.2.1 a.2.1.2.2.2.2.1 a.2.1.2.2.2.2.2.1 a.2.2.1 a.2.2.2.2.1),
  ([.b,.r,.l,.r,.r,.r,.r,.r,.r],A8c C3y fun j a=>B3j n j a.1.1 a.1.2.1 a.1.2.2.1 a.1.2.2.2.1 a.2.1.1 a.2.1.2.1 a.2.1.2.2.1 a.2.1.2.2.2.1 a.2.1.2.2.2.2.1 a.2.1.2.2.2.2.2.1 a.2.2.1)]
def C3b:Fn' (Y23×Unit) Bool:=⟨17,Q8,(Rt.v (Tv.one Lf.bool)),fun n a=>B8w n a.1⟩
def C5m:=Sh.of (Sl.gap 1 (Sl.k (Kf.box 104 0) (Sl.gap 4 (Sl.one (Lf.sh J13) (Sl.one (Lf.int .i64) (Sl.one (Lf.int .i64) (Sl.gap 28 Sl.nil))))))) (Rw.box 104 J14 (Ls.cons (Lf.sh J13) Ls.nil) Rw.nil) Ls.nil
def C9e (n:Nat):Tab Bool:=[([.b,.r,.l,.r],A8c C5m fun j a=>B5a n j a.1.1 a.1.2.1 a.1.2.2.1 a.2.1.1)]
def C12:Fn' (Y23×Unit) Y23:=⟨48,Q8,(Rt.v (Tv.agg (Ls.one (Lf.od J13)))),fun n a=>B8k n a.1⟩
def C3w:=Sh.of (Sl.gap 2 (Sl.k (Kf.box 168 0) (Sl.k (Kf.box 232 0) (Sl.gap 4 (Sl.one (Lf.sh J13) (Sl.one (Lf.int .i64) (Sl.one (Lf.int .i64) (Sl.gap 12 Sl.nil)))))))) (Rw.box 168 J14 (Ls.k (Kf.ow 176) Ls.nil) (Rw.data 176 J13 (Rw.box 232 J14 (Ls.k (Kf.ow 240) Ls.nil) (Rw.data 240 J13 Rw.nil)))) Ls.nil
def C6i (n:Nat):Tab Y23:=[([.b,.r,.l,.r,.r],A8c C3w fun j a=>B4s n j a.1.1 a.1.2.1 a.1.2.2.1 a.2.2.1 a.2.2.2.2.1)]
def B40:Fn' (Y23×(Int×(Y23×Unit))) Y23:=⟨50,(Tvs.cons (Tv.one (Lf.od J13)) (Tvs.cons (Tv.one (Lf.int .i64)) (Tvs.cons (Tv.one (Lf.od J13)) Tvs.nil))),(Rt.v (Tv.one (Lf.od J13))),fun n a=>B2k n a.1 a.2.1 a.2.2.1⟩
def B3z:Fn' (Y23×(Int×(Int×Unit))) Y23:=⟨52,(Tvs.cons (Tv.one (Lf.od J13)) Q29),(Rt.v (Tv.one (Lf.od J13))),fun n a=>B37 n a.1 a.2.1 a.2.2.1⟩
def B99:Fn' (Y14×Y29) Bool:=⟨54,(Tvs.cons Q60 (Tvs.cons (Tv.one (Lf.spt J17 0)) Tvs.nil)),(Rt.v (Tv.one Lf.bool)),fun n a=>B5y n a.1.1 a.1.2.1 a.1.2.2.1 a.1.2.2.2.1 a.1.2.2.2.2.1 a.1.2.2.2.2.2.1 a.1.2.2.2.2.2.2 a.2.1⟩
def B2x:Fn' (Y17×(Y29×Unit)) Int:=⟨81,(Tvs.cons (Tv.one (Lf.sh J10)) (Tvs.cons (Tv.one (Lf.clo 54 (Cs.cons J17 Cs.nil))) Tvs.nil)),(Rt.v (Tv.one (Lf.int .i64))),fun n a=>B2d n a.1 a.2.1.1⟩
def B3r:=Sh.of (Sl.one (Lf.sh J10) (Sl.one (Lf.clo 54 (Cs.cons J17 Cs.nil)) (Sl.gap 5 (Sl.one (Lf.int .i64) (Sl.one (Lf.int .i64) (Sl.gap 10 Sl.nil)))))) Rw.nil Ls.nil
def B48 (n:Nat):Tab Int:=[([.b,.r,.l,.r],A8c B3r fun j a=>R1 n j a.1.1 a.1.2.1.1 a.1.2.2.1 a.1.2.2.2.1)]
def B2s:Fn' (Y17×(Y29×Unit)) Y17:=⟨53,(Tvs.cons (Tv.one (Lf.od J10)) (Tvs.cons (Tv.one (Lf.clo 54 (Cs.cons J17 Cs.nil))) Tvs.nil)),(Rt.v (Tv.one (Lf.od J10))),fun n a=>B2a n a.1 a.2.1.1⟩
def B3m:=Sh.of (Sl.k (Kf.ow 40) (Sl.one (Lf.clo 54 (Cs.cons J17 Cs.nil)) (Sl.gap 3 (Sl.one (Lf.int .i64) (Sl.one (Lf.int .i64) (Sl.gap 35 Sl.nil)))))) (Rw.data 40 J10 Rw.nil) Ls.nil
def B3s (n:Nat):Tab Y17:=[([.b,.r,.l,.r,.r,.r],A8c B3m fun j a=>D2 n j a.1.1.1 a.1.2.1 a.1.2.2.1 a.2.1)]
def C0h:Fn' (Y23×Y29) Y25:=⟨16,Q62,(Rt.tup (Tvs.cons (Tv.agg (Ls.one (Lf.od J13))) Q2)),fun n a=>B7t n a.1 a.2.1.1 a.2.1.2.1 a.2.1.2.2.1 a.2.1.2.2.2.1 a.2.1.2.2.2.2.1 a.2.1.2.2.2.2.2⟩
def C2v:=Sh.of (Sl.gap 3 (Sl.k (Kf.box 232 0) (Sl.k (Kf.box 296 0) (Sl.gap 2 (Sl.k (Kf.box 488 0) (Sl.gap 1 (Sl.one (Lf.int .i64) (Sl.gap 136 Sl.nil)))))))) (Rw.box 232 J17 Q52 (Rw.box 296 J14 (Ls.k (Kf.ow 304) Ls.nil) (Rw.data 304 J13 (Rw.box 488 J14 (Ls.k (Kf.ow 496) Ls.nil) (Rw.data 496 J13 Rw.nil))))) Ls.nil
def C5u (n:Nat):Tab Y25:=[([.b,.l,.r,.t,.r,.b,.r,.l,.r,.r,.r,.r,.r],A8c C2v fun j a=>B4f n j a.1.1 a.2.1.1 a.2.1.2.1 a.2.1.2.2.1 a.2.1.2.2.2.1 a.2.1.2.2.2.2.1 a.2.1.2.2.2.2.2.1 a.2.2.2.1 a.2.2.2.2.2.1)]
def C05:Fn' ((List Int)×Unit) Bool:=⟨4,Q5,(Rt.v (Tv.one Lf.bool)),fun n a=>C32 n a.1⟩
def D1y:List Ent:=[B0c C2a,B0c C18,B0c C0n,B0c C1b,B0c C3j,B0c C2d,B0c C3p,B0c C2g,B0c C1a,B0c C1c,B0c C28,B0c C2b,B0c C3o,B0c C3k,B0c C16,B0c C1d,B0c C3n,B0c C2l,B0c C17,B0c C14,B0c C27,B0c B8s,B0c C3m,B0c C2n,B0c C2m,B0c C26,B0c C1e,B0c C2e,B0c C2c,B0c C29,B0c C2f,B0c C2k,B0c C2h,B0c B9x,B0c B8r,B0c C25,B0c C23,B0c C3f,B0c C3d,B0c C0x,B0c B30,B0c C3c,B0c C10,B0c C24,B0c C3h,B0c C3g,B0c C11,B0c C0y,B0c C22,B0c B9w,B0c B9v,B0c C0i,B0c B4v,B0c B5v,B0c C0l,B0c C3e,B0c C0g,B0c B2v,B0c C21,B0c B5w,B0c B5c,B0c C13,B0c C0k,B0c C0j,B0c B4o,B0c C0z,B0c C3l,B0c C3i,B0c C3q,B0c C0p,B0c C19,B0c C2j,B0c C2i,B0c C0o,B0c B9y,B0c C0m,B0c C15,B0c C3b,B0c C12,B0c B40,B0c B3z,B0c B99,B0c B2x,B0c B2s,B0c C0h,B0c C05]
def D16 (n:Nat):CF:=chain D1y n
abbrev EqB {A T:Type}(F:Fn' A T)(n:Nat)(W:Tab T):Prop:=∀a,A1r env (D16 n) n F.g W (F.args.to a) F.ret.un=F.run (n+1) a
abbrev TbB {A T:Type}(F:Fn' A T)(n:Nat)(W:Tab T):Prop:=A7f env (D16 n) n F.g W F.ret.un
abbrev B27 (n:Nat):Prop:=∀e∈D1y,B07 Try.prog env n e
abbrev B2p {A T:Type}(n:Nat)(F:Fn' A T):Prop:=B07 Try.prog env (n+1) (B0c F)
set_option maxRecDepth 1000000 in
theorem D1f (n:Nat):K2 (D16 n):=A80 (by
  simp only[D1y,List.forall_mem_cons,List.not_mem_nil,false_implies,implies_true,and_true]
  repeat' apply And.intro
  all_goals exact B1y _)
theorem V2 {α:Type}{p:α→Prop}{a:α}{l:List α}(h1:p a)(h2:∀x∈l,p x):∀x∈a::l,p x:=List.forall_mem_cons.mpr ⟨h1,h2⟩
theorem B2o {α:Type}{p:α→Prop}:∀x∈([]:List α),p x:=fun _ h=>by cases h
theorem st {n:Nat}{A T:Type}{F:Fn' A T}(W:Tab T)(h:B27 n)(ht:TbB F n W)(he:EqB F n W):A9s Try.prog env F (n+1):=B14 D3b D3c (A8t h) (D1f n) ht he
theorem sv {n:Nat}{A T:Type}{F:Fn' A T}(W:Tab T)(h:B27 n)(ht:∀q∈W,RowOk env (D16 n) n F.g W F.ret.un q)(he:EqB F n W):B2p n F:=B1g (st W h (B24 ht) he)
theorem sn {n:Nat}{A T:Type}{F:Fn' A T}(h:B27 n)(he:EqB F n []):B2p n F:=B1g (st [] h B1a he)
theorem s0 {A T:Type}{F:Fn' A T}(h:∀a,F.run 0 a=none):B07 Try.prog env 0 (B0c F):=B1g (B15 h)
theorem sx {n:Nat}{A T:Type}{F:Fn' A T}(h:A9s Try.prog env F (n+1)):B2p n F:=B1g h
theorem C8m (n:Nat)(h:B27 n):B2p n C2a:=sv (C7y n) h (V2 (B1q (fun _=>rfl) (fun _ _=>by kernel_rfl)) B2o) fun a=>by kernel_rfl
theorem C7k (n:Nat)(h:B27 n):B2p n C18:=sn h fun a=>by kernel_rfl
theorem C6a (n:Nat)(h:B27 n):B2p n C0n:=sn h fun a=>by kernel_rfl
theorem C7n (n:Nat)(h:B27 n):B2p n C1b:=sn h fun a=>by kernel_rfl
theorem D00 (n:Nat)(h:B27 n):B2p n C3j:=sv (C9i n) h (V2 (B1q (fun _=>rfl) (fun _ _=>by kernel_rfl)) B2o) fun a=>by kernel_rfl
theorem C8p (n:Nat)(h:B27 n):B2p n C2d:=sv (C7z n) h (V2 (B1q (fun _=>rfl) (fun _ _=>by kernel_rfl)) B2o) fun a=>by kernel_rfl
theorem D06 (n:Nat)(h:B27 n):B2p n C3p:=sn h fun a=>by kernel_rfl
theorem C8s (n:Nat)(h:B27 n):B2p n C2g:=sn h fun a=>by kernel_rfl
theorem C7m (n:Nat)(h:B27 n):B2p n C1a:=sv (C6n n) h (V2 (B1q (fun _=>rfl) (fun _ _=>by kernel_rfl)) B2o) fun a=>by kernel_rfl
theorem C7o (n:Nat)(h:B27 n):B2p n C1c:=sv (C6o n) h (V2 (B1r (fun _ _=>rfl) (fun _ _ _=>by kernel_rfl)) (V2 (B1q (fun _=>rfl) (fun _ _=>by kernel_rfl)) B2o)) fun a=>by kernel_rfl
theorem C8k (n:Nat)(h:B27 n):B2p n C28:=sv (C7x n) h (V2 (B1q (fun _=>rfl) (fun _ _=>by kernel_rfl)) B2o) fun a=>by kernel_rfl
theorem C8n (n:Nat)(h:B27 n):B2p n C2b:=sn h fun a=>by kernel_rfl
theorem D05 (n:Nat)(h:B27 n):B2p n C3o:=sn h fun a=>by kernel_rfl
theorem D01 (n:Nat)(h:B27 n):B2p n C3k:=sn h fun a=>by kernel_rfl
theorem C7i (n:Nat)(h:B27 n):B2p n C16:=sv (C6l n) h (V2 (B1q (fun _=>rfl) (fun _ _=>by kernel_rfl)) (V2 (B1q (fun _=>rfl) (fun _ _=>by kernel_rfl)) B2o)) fun a=>by kernel_rfl
theorem C7p (n:Nat)(h:B27 n):B2p n C1d:=sn h fun a=>by kernel_rfl
theorem D04 (n:Nat)(h:B27 n):B2p n C3n:=sv (C9k n) h (V2 (B1q (fun _=>rfl) (fun _ _=>by kernel_rfl)) B2o) fun a=>by kernel_rfl
theorem C8x (n:Nat)(h:B27 n):B2p n C2l:=sv (C84 n) h (V2 (B1q (fun _=>rfl) (fun _ _=>by kernel_rfl)) B2o) fun a=>by kernel_rfl
theorem C7j (n:Nat)(h:B27 n):B2p n C17:=sn h fun a=>by kernel_rfl
theorem C7g (n:Nat)(h:B27 n):B2p n C14:=sv (C6j n) h (V2 (B1q (fun _=>rfl) (fun _ _=>by kernel_rfl)) B2o) fun a=>by kernel_rfl
theorem C8j (n:Nat)(h:B27 n):B2p n C27:=sv (C7w n) h (V2 (B1q (fun _=>rfl) (fun _ _=>by kernel_rfl)) B2o) fun a=>by kernel_rfl
theorem C39 (n:Nat)(h:B27 n):B2p n B8s:=sv (C2y n) h (V2 (B1q (fun _=>rfl) (fun _ _=>by kernel_rfl)) B2o) fun a=>by kernel_rfl
theorem D03 (n:Nat)(h:B27 n):B2p n C3m:=sv (C9j n) h (V2 (B1q (fun _=>rfl) (fun _ _=>by kernel_rfl)) B2o) fun a=>by kernel_rfl
theorem C8z (n:Nat)(h:B27 n):B2p n C2n:=sn h fun a=>by kernel_rfl
theorem C8y (n:Nat)(h:B27 n):B2p n C2m:=sv (C85 n) h (V2 (B1q (fun _=>rfl) (fun _ _=>by kernel_rfl)) B2o) fun a=>by kernel_rfl
theorem C8i (n:Nat)(h:B27 n):B2p n C26:=sn h fun a=>by kernel_rfl
theorem C7q (n:Nat)(h:B27 n):B2p n C1e:=sv (C6p n) h (V2 (B1q (fun _=>rfl) (fun _ _=>by kernel_rfl)) B2o) fun a=>by kernel_rfl
theorem C8q (n:Nat)(h:B27 n):B2p n C2e:=sn h fun a=>by kernel_rfl
theorem C8o (n:Nat)(h:B27 n):B2p n C2c:=sn h fun a=>by kernel_rfl
theorem C8l (n:Nat)(h:B27 n):B2p n C29:=sn h fun a=>by kernel_rfl
theorem C8r (n:Nat)(h:B27 n):B2p n C2f:=sv (C80 n) h (V2 (B1q (fun _=>rfl) (fun _ _=>by kernel_rfl)) (V2 (B1q (fun _=>rfl) (fun _ _=>by kernel_rfl)) (V2 (B1q (fun _=>rfl) (fun _ _=>by kernel_rfl)) (V2 (B1q (fun _=>rfl) (fun _ _=>by kernel_rfl)) (V2 (B1q (fun _=>rfl) (fun _ _=>by kernel_rfl)) (V2 (B1q (fun _=>rfl) (fun _ _=>by kernel_rfl)) (V2 (B1q (fun _=>rfl) (fun _ _=>by kernel_rfl)) B2o))))))) fun a=>by kernel_rfl
theorem C8w (n:Nat)(h:B27 n):B2p n C2k:=sv (C83 n) h (V2 (B1q (fun _=>rfl) (fun _ _=>by kernel_rfl)) (V2 (B1q (fun _=>rfl) (fun _ _=>by kernel_rfl)) (V2 (B1q (fun _=>rfl) (fun _ _=>by kernel_rfl)) (V2 (B1q (fun _=>rfl) (fun _ _=>by kernel_rfl)) (V2 (B1q (fun _=>rfl) (fun _ _=>by kernel_rfl)) (V2 (B1q (fun _=>rfl) (fun _ _=>by kernel_rfl)) B2o)))))) fun a=>by kernel_rfl
theorem C8t (n:Nat)(h:B27 n):B2p n C2h:=sn h fun a=>by kernel_rfl
theorem C5h (n:Nat)(h:B27 n):B2p n B9x:=sv (C51 n) h (V2 (B1q (fun _=>rfl) (fun _ _=>by kernel_rfl)) (V2 (B1q (fun _=>rfl) (fun _ _=>by kernel_rfl)) (V2 (B1q (fun _=>rfl) (fun _ _=>by kernel_rfl)) (V2 (B1q (fun _=>rfl) (fun _ _=>by kernel_rfl)) (V2 (B1q (fun _=>rfl) (fun _ _=>by kernel_rfl)) (V2 (B1q (fun _=>rfl) (fun _ _=>by kernel_rfl)) B2o)))))) fun a=>by kernel_rfl
theorem C38 (n:Nat)(h:B27 n):B2p n B8r:=sv (C2x n) h (V2 (B1q (fun _=>rfl) (fun _ _=>by kernel_rfl)) (V2 (B1q (fun _=>rfl) (fun _ _=>by kernel_rfl)) B2o)) fun a=>by kernel_rfl
theorem C8h (n:Nat)(h:B27 n):B2p n C25:=sn h fun a=>by kernel_rfl
theorem C8f (n:Nat)(h:B27 n):B2p n C23:=sv (C7v n) h (V2 (B1q (fun _=>rfl) (fun _ _=>by kernel_rfl)) B2o) fun a=>by kernel_rfl
theorem C9v (n:Nat)(h:B27 n):B2p n C3f:=sn h fun a=>by kernel_rfl
theorem C9t (n:Nat)(h:B27 n):B2p n C3d:=sn h fun a=>by kernel_rfl
theorem C79 (n:Nat)(h:B27 n):B2p n C0x:=sn h fun a=>by kernel_rfl
theorem B4n (n:Nat)(h:B27 n):B2p n B30:=sv (B4i n) h (V2 (B1q (fun _=>rfl) (fun _ _=>by kernel_rfl)) B2o) fun a=>by kernel_rfl
theorem C9s (n:Nat)(h:B27 n):B2p n C3c:=sn h fun a=>by kernel_rfl
theorem C7c (n:Nat)(h:B27 n):B2p n C10:=sv (C6h n) h (V2 (B1q (fun _=>rfl) (fun _ _=>by kernel_rfl)) (V2 (B1q (fun _=>rfl) (fun _ _=>by kernel_rfl)) B2o)) fun a=>by kernel_rfl
theorem C8g (n:Nat)(h:B27 n):B2p n C24:=sn h fun a=>by kernel_rfl
theorem C9x (n:Nat)(h:B27 n):B2p n C3h:=sv (C9g n) h (V2 (B1q (fun _=>rfl) (fun _ _=>by kernel_rfl)) B2o) fun a=>by kernel_rfl
theorem C9w (n:Nat)(h:B27 n):B2p n C3g:=sv (C9f n) h (V2 (B1q (fun _=>rfl) (fun _ _=>by kernel_rfl)) B2o) fun a=>by kernel_rfl
theorem C7d (n:Nat)(h:B27 n):B2p n C11:=sn h fun a=>by kernel_rfl
theorem C7a (n:Nat)(h:B27 n):B2p n C0y:=sv (C6f n) h (V2 (B1q (fun _=>rfl) (fun _ _=>by kernel_rfl)) B2o) fun a=>by kernel_rfl
theorem C8e (n:Nat)(h:B27 n):B2p n C22:=sv (C7u n) h (V2 (B1q (fun _=>rfl) (fun _ _=>by kernel_rfl)) B2o) fun a=>by kernel_rfl
theorem C5g (n:Nat)(h:B27 n):B2p n B9w:=sn h fun a=>by kernel_rfl
theorem C5f (n:Nat)(h:B27 n):B2p n B9v:=sn h fun a=>by kernel_rfl
theorem C65 (n:Nat)(h:B27 n):B2p n C0i:=sn h fun a=>by kernel_rfl
theorem B7l (n:Nat)(h:B27 n):B2p n B4v:=sv (B7a n) h (V2 (B1q (fun _=>rfl) (fun _ _=>by kernel_rfl)) B2o) fun a=>by kernel_rfl
theorem B8f (n:Nat)(h:B27 n):B2p n B5v:=sv (B85 n) h (V2 (B1q (fun _=>rfl) (fun _ _=>by kernel_rfl)) B2o) fun a=>by kernel_rfl
theorem C68 (n:Nat)(h:B27 n):B2p n C0l:=sn h fun a=>by kernel_rfl
theorem C9u (n:Nat)(h:B27 n):B2p n C3e:=sn h fun a=>by kernel_rfl
theorem C63 (n:Nat)(h:B27 n):B2p n C0g:=sn h fun a=>by kernel_rfl
theorem B3y (n:Nat)(h:B27 n):B2p n B2v:=sv (B3x n) h (V2 (B1q (fun _=>rfl) (fun _ _=>by kernel_rfl)) B2o) fun a=>by kernel_rfl
theorem C8d (n:Nat)(h:B27 n):B2p n C21:=sn h fun a=>by kernel_rfl
theorem B8g (n:Nat)(h:B27 n):B2p n B5w:=sv (B86 n) h (V2 (B1q (fun _=>rfl) (fun _ _=>by kernel_rfl)) B2o) fun a=>by kernel_rfl
theorem B7o (n:Nat)(h:B27 n):B2p n B5c:=sn h fun a=>by kernel_rfl
theorem C7f (n:Nat)(h:B27 n):B2p n C13:=sn h fun a=>by kernel_rfl
theorem C67 (n:Nat)(h:B27 n):B2p n C0k:=sn h fun a=>by kernel_rfl
theorem C66 (n:Nat)(h:B27 n):B2p n C0j:=sv (C5v n) h (V2 (B1q (fun _=>rfl) (fun _ _=>by kernel_rfl)) B2o) fun a=>by kernel_rfl
theorem B6x (n:Nat):A9s Try.prog env B4o (n+1):=fun a r h=>B1x (f:=J4) D26 Try.underlying28 (B0n (P:=Try.prog) (e:=65) (f:=J4) (eb:=32) (by kernel_rfl)) h
theorem C7b (n:Nat)(h:B27 n):B2p n C0z:=sv (C6g n) h (V2 (B1q (fun _=>rfl) (fun _ _=>by kernel_rfl)) (V2 (B1q (fun _=>rfl) (fun _ _=>by kernel_rfl)) B2o)) fun a=>by kernel_rfl
theorem D02 (n:Nat)(h:B27 n):B2p n C3l:=sn h fun a=>by kernel_rfl
theorem C9z (n:Nat)(h:B27 n):B2p n C3i:=sv (C9h n) h (V2 (B1q (fun _=>rfl) (fun _ _=>by kernel_rfl)) B2o) fun a=>by kernel_rfl
theorem D07 (n:Nat)(h:B27 n):B2p n C3q:=sv (C9l n) h (V2 (B1q (fun _=>rfl) (fun _ _=>by kernel_rfl)) B2o) fun a=>by kernel_rfl
theorem C6c (n:Nat)(h:B27 n):B2p n C0p:=sn h fun a=>by kernel_rfl
theorem C7l (n:Nat)(h:B27 n):B2p n C19:=sv (C6m n) h (V2 (B1q (fun _=>rfl) (fun _ _=>by kernel_rfl)) B2o) fun a=>by kernel_rfl
theorem C8v (n:Nat)(h:B27 n):B2p n C2j:=sv (C82 n) h (V2 (B1q (fun _=>rfl) (fun _ _=>by kernel_rfl)) B2o) fun a=>by kernel_rfl
theorem C8u (n:Nat)(h:B27 n):B2p n C2i:=sv (C81 n) h (V2 (B1q (fun _=>rfl) (fun _ _=>by kernel_rfl)) B2o) fun a=>by kernel_rfl
theorem C6b (n:Nat)(h:B27 n):B2p n C0o:=sn h fun a=>by kernel_rfl
theorem C5i (n:Nat)(h:B27 n):B2p n B9y:=sv (C52 n) h (V2 (B1q (fun _=>rfl) (fun _ _=>by kernel_rfl)) (V2 (B1q (fun _=>rfl) (fun _ _=>by kernel_rfl)) B2o)) fun a=>by kernel_rfl
theorem C69 (n:Nat)(h:B27 n):B2p n C0m:=sn h fun a=>by kernel_rfl
theorem C7h (n:Nat)(h:B27 n):B2p n C15:=sv (C6k n) h (V2 (B1r (fun _ _=>rfl) (fun _ _ _=>by kernel_rfl)) (V2 (B1q (fun _=>rfl) (fun _ _=>by kernel_rfl)) B2o)) fun a=>by kernel_rfl
theorem C9r (n:Nat)(h:B27 n):B2p n C3b:=sv (C9e n) h (V2 (B1q (fun _=>rfl) (fun _ _=>by kernel_rfl)) B2o) fun a=>by kernel_rfl
theorem C7e (n:Nat)(h:B27 n):B2p n C12:=sv (C6i n) h (V2 (B1q (fun _=>rfl) (fun _ _=>by kernel_rfl)) B2o) fun a=>by kernel_rfl
theorem B6b (n:Nat):A9s Try.prog env B40 (n+1):=fun a r h=>B21 (f:=J13) D2d Try.underlying46 Try.underlying3 (B0n (P:=Try.prog) (e:=26) (f:=J13) (eb:=64) (by kernel_rfl)) (by decide) h
theorem B6a (n:Nat):A9s Try.prog env B3z (n+1):=fun a r h=>B1x (f:=J13) D27 Try.underlying46 (B0n (P:=Try.prog) (e:=26) (f:=J13) (eb:=64) (by kernel_rfl)) h
theorem C4d (n:Nat)(h:B27 n):B2p n B99:=sn h fun a=>by kernel_rfl
theorem B4a (n:Nat)(h:B27 n):B2p n B2x:=sv (B48 n) h (V2 (B1q (fun _=>rfl) (fun _ _=>by kernel_rfl)) B2o) fun a=>by kernel_rfl
theorem B3w (n:Nat)(h:B27 n):B2p n B2s:=sv (B3s n) h (V2 (B1q (fun _=>rfl) (fun _ _=>by kernel_rfl)) B2o) fun a=>by kernel_rfl
theorem C64 (n:Nat)(h:B27 n):B2p n C0h:=sv (C5u n) h (V2 (B1q (fun _=>rfl) (fun _ _=>by kernel_rfl)) B2o) fun a=>by kernel_rfl
theorem C9y (n:Nat)(h:B27 n):B2p n C05:=sn h fun a=>by kernel_rfl
set_option maxRecDepth 1000000 in
theorem D1r:∀n,B27 n
  |0=>by
    simp only[B27,D1y,List.forall_mem_cons,List.not_mem_nil,false_implies,implies_true,and_true]
    repeat' apply And.intro
    all_goals exact s0 fun _=>rfl
  |n+1=>by
    have h:B27 n:=D1r n
    simp only[B27,D1y,List.forall_mem_cons,List.not_mem_nil,false_implies,implies_true,and_true]
    exact⟨C8m n h,C7k n h,C6a n h,C7n n h,D00 n h,C8p n h,D06 n h,C8s n h,C7m n h,C7o n h,C8k n h,C8n n h,D05 n h,D01 n h,C7i n h,C7p n h,D04 n h,C8x n h,C7j n h,C7g n h,C8j n h,C39 n h,D03 n h,C8z n h,C8y n h,C8i n h,C7q n h,C8q n h,C8o n h,C8l n h,C8r n h,C8w n h,C8t n h,C5h n h,C38 n h,C8h n h,C8f n h,C9v n h,C9t n h,C79 n h,B4n n h,C9s n h,C7c n h,C8g n h,C9x n h,C9w n h,C7d n h,C7a n h,C8e n h,C5g n h,C5f n h,C65 n h,B7l n h,B8f n h,C68 n h,C9u n h,C63 n h,B3y n h,C8d n h,B8g n h,B7o n h,C7f n h,C67 n h,C66 n h,sx (B6x n),C7b n h,D02 n h,C9z n h,D07 n h,C6c n h,C7l n h,C8v n h,C8u n h,C6b n h,C5i n h,C69 n h,C7h n h,C9r n h,C7e n h,sx (B6b n),sx (B6a n),C4d n h,B4a n h,B3w n h,C64 n h,C9y n h⟩
theorem D3l:∀n,A9s Try.prog env C05 n
  |0=>B15 fun _=>rfl
  |n+1=>st [] (D1r n) B1a fun a=>by kernel_rfl
end Go.Proofs.Ytalmhjlcjcnidaa.Ev
