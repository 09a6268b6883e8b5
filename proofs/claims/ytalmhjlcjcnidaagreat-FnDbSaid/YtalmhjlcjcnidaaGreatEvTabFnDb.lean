/- The tables of the law FnDb: what the evaluator makes of the program is these functions. -/
import Derived.Test.YtalmhjlcjcnidaaGreatEvFnFnDb
import Derived.Test.YtalmhjlcjcnidaaGreatEvExtFnDb
import Derived.Test.YtalmhjlcjcnidaaGreatEvHead
import Derived.Test.YtalmhjlcjcnidaaGreatEvEq
import Derived.Test.YtalmhjlcjcnidaaGreatChecked
set_option linter.all false
namespace Go.Proofs.YtalmhjlcjcnidaaGreat.Ev
open Go Go.Proofs
abbrev J1:Kd:=(.pair (.int .i64) .str)
abbrev J2:Kd:=(.pair (.int .i64) (.int .i64))
abbrev J3:Kd:=(.pair (.sl .str) (.pair .str .str))
abbrev J4:Kd:=(.pair (.int .i64) J1)
abbrev J5:Kd:=(.sl J4)
abbrev J6:Kd:=(.sl J5)
abbrev J7:Kd:=(.pair (.sl (.int .u8)) J2)
abbrev J8:Kd:=(.pair .bool J4)
abbrev J9:Kd:=(.sl J6)
abbrev J10:Kd:=(.pair .bool J8)
abbrev J11:Kd:=(.pair (.int .i64) J10)
abbrev J12:Kd:=(.pair .str J11)
abbrev J13:Kd:=(.sl J12)
abbrev J14:Kd:=(.pair J13 (.sl .str))
abbrev J15:Kd:=(.pair .str J14)
abbrev J16:Kd:=(.sl J15)
abbrev J17:Kd:=(.pair J13 J3)
abbrev J18:Kd:=(.pair .str J17)
abbrev J19:Kd:=(.pair (.int .i64) J18)
abbrev J20:Kd:=(.pair J16 J9)
abbrev Z1:Type:=((List ByteArray)×Unit)
abbrev Z2:Type:=(ByteArray×(Y4×(Y4×Y27)))
abbrev Z3:Type:=((Int×Z2)×Unit)
abbrev Q1:=(Tvs.cons (Tv.one (Lf.sh .str)) Tvs.nil)
abbrev Q2:=(Ls.cons Lf.str (Ls.cons Lf.str Ls.nil))
abbrev Q3:=(Tvs.cons (Tv.one (Lf.int .i64)) Tvs.nil)
abbrev Q4:=(Ls.cons (Lf.sh J15) (Ls.one (Lf.od J6)))
abbrev Q5:=(Ls.cons (Lf.sh J15) (Ls.one (Lf.sh J6)))
abbrev Q6:=(Ls.cons (Lf.od J15) (Ls.one (Lf.od J6)))
abbrev Q7:=(Ls.cons (Lf.sh J12) (Ls.one (Lf.sh .str)))
abbrev Q8:=(Ls.cons (Lf.od J12) (Ls.one (Lf.od .str)))
abbrev Q9:=(Tvs.cons (Tv.one (Lf.sh (.int .u8))) Tvs.nil)
abbrev Q10:=(Ls.cons (Lf.int .i64) (Ls.one (Lf.int .i64)))
abbrev Q11:=(Ls.cons (Lf.int .i64) (Ls.cons Lf.str Ls.nil))
abbrev Q12:=(Tvs.cons (Tv.agg (Ls.one (Lf.sh J4))) Tvs.nil)
abbrev Q13:=(Tvs.cons (Tv.agg (Ls.one (Lf.sh J15))) Tvs.nil)
abbrev Q14:=(Ls.cons (Lf.sh J15) (Ls.cons (Lf.sh J6) Ls.nil))
abbrev Q15:=(Tv.agg Q4)
abbrev Q16:=(Tv.agg Q5)
abbrev Q17:=(Tv.agg Q6)
abbrev Q18:=(Ls.cons (Lf.sh J12) (Ls.cons (Lf.sh .str) Ls.nil))
abbrev Q19:=(Ls.cons (Lf.int .i64) (Ls.cons (Lf.int .i64) Ls.nil))
abbrev Q20:=(Ls.cons (Lf.od .str) (Ls.cons Lf.str (Ls.one Lf.str)))
abbrev Q21:=(Ls.cons (Lf.sh .str) (Ls.cons Lf.str (Ls.one Lf.str)))
abbrev Q22:=(Ls.cons Lf.str Q7)
abbrev Q23:=(Ls.cons Lf.str Q8)
abbrev Q24:=(Ls.cons Lf.str (Ls.k (Kf.ow 176) (Ls.k (Kf.ow 177) Ls.nil)))
abbrev Q25:=(Ls.cons Lf.str (Ls.k (Kf.ow 240) (Ls.k (Kf.ow 241) Ls.nil)))
abbrev Q26:=(Ls.cons (Lf.int .i64) (Ls.cons (Lf.int .i64) (Ls.one Lf.str)))
abbrev Q27:=(Ls.cons (Lf.sh .str) Q2)
abbrev Q28:=(Ls.cons Lf.str Q18)
abbrev Q29:=(Tv.agg Q22)
abbrev Q30:=(Tv.agg Q23)
abbrev Q31:=(Tvs.cons (Tv.one (Lf.sh J4)) (Tvs.cons (Tv.one (Lf.sh J4)) Tvs.nil))
abbrev Q32:=(Tvs.cons (Tv.one (Lf.sh J5)) (Tvs.cons (Tv.one (Lf.sh J4)) Tvs.nil))
abbrev Q33:=(Tvs.cons Q16 Tvs.nil)
abbrev Q34:=(Ls.cons (Lf.int .i64) Q11)
abbrev Q35:=(Tv.agg Q26)
abbrev Q36:=(Tvs.cons (Tv.one (Lf.od J5)) Q3)
abbrev Q37:=(Ls.cons (Lf.sh (.int .u8)) Q10)
abbrev Q38:=(Tvs.cons (Tv.one (Lf.int .i64)) Q3)
abbrev Q39:=(Ls.cons (Lf.od J12) Q20)
abbrev Q40:=(Ls.cons (Lf.sh J12) Q21)
abbrev Q41:=(Tvs.cons (Tv.one (Lf.sh J5)) Q12)
abbrev Q42:=(Ls.cons Lf.bool Q26)
abbrev Q43:=(Rt.tup Q36)
abbrev Q44:=(Ls.cons (Lf.sh (.int .u8)) Q19)
abbrev Q45:=(Tv.agg Q37)
abbrev Q46:=(Ls.cons (Lf.sh J12) Q27)
abbrev Q47:=(Tvs.cons Q29 Tvs.nil)
abbrev Q48:=(Ls.cons Lf.bool Q34)
abbrev Q49:=(Tvs.cons Q35 Tvs.nil)
abbrev Q50:=(Ls.cons Lf.str Q39)
abbrev Q51:=(Ls.cons Lf.str Q40)
abbrev Q52:=(Ls.cons Lf.bool Q42)
abbrev Q53:=(Ls.cons Lf.str Q46)
abbrev Q54:=(Tvs.cons Q45 Tvs.nil)
abbrev Q55:=(Ls.cons Lf.bool Q48)
abbrev Q56:=(Ls.cons (Lf.int .i64) Q50)
abbrev Q57:=(Ls.cons (Lf.int .i64) Q51)
abbrev Q58:=(Ls.cons (Lf.int .i64) Q52)
abbrev Q59:=(Ls.cons (Lf.int .i64) Q53)
abbrev Q60:=(Tv.agg Q56)
abbrev Q61:=(Tv.agg Q57)
abbrev Q62:=(Tvs.cons Q29 Q12)
abbrev Q63:=(Ls.cons (Lf.int .i64) Q55)
abbrev Q64:=(Tvs.cons (Tv.one (Lf.int .i64)) Q54)
abbrev Q65:=(Ls.cons (Lf.sh J4) Q57)
abbrev Q66:=(Ls.cons Lf.str Q58)
abbrev Q67:=(Rt.tup Q64)
abbrev Q68:=(Tvs.cons Q61 Tvs.nil)
abbrev Q69:=(Ls.cons Lf.str Q63)
abbrev Q70:=(Tv.agg Q66)
abbrev Q71:=(Tvs.cons Q29 Q32)
abbrev Q72:=(Tvs.cons Q29 Q41)
abbrev Q73:=(Ls.cons (Lf.sh J4) Q65)
abbrev Q74:=(Tvs.cons Q70 Tvs.nil)
abbrev Q75:=(Ls.cons Lf.str Q73)
abbrev Q76:=(Tvs.cons Q35 Q54)
abbrev Q77:=(Rt.tup Q76)
abbrev Q78:=(Ls.cons (Lf.int .i64) Q75)
abbrev Q79:=(Tv.agg Q78)
abbrev Q80:=(Tvs.cons Q79 Tvs.nil)
def E6c:List (Kd×Nat):=[((.int .u8),1)]
def bytesOf (f:Kd):Nat:=((E6c.find? fun p=>decide (p.1=f)).map (·.2)).getD 1
theorem F16 (f:Kd):1≤bytesOf f:=by
  unfold bytesOf
  cases h:E6c.find? fun p=>decide (p.1=f)with
  |none=>exact Nat.le_refl _
  |some p=>
    have hp:∀q∈E6c,1≤q.2:=by decide
    exact hp p (List.mem_of_find?_eq_some h)
noncomputable def env:Env:=⟨[(3,⟨1,0,false,[],(.int .i64)⟩),
  (4,⟨1,0,false,[],.bool⟩),
  (5,⟨1,0,false,[],(.int .u8)⟩),
  (9,⟨1,0,false,[],.str⟩),
  (22,⟨1,1,false,[],(.sl (.int .u8))⟩),
  (23,⟨1,64,false,[],J16⟩),
  (25,⟨1,0,true,[(0,1)],J16⟩),
  (26,⟨1,24,false,[],J9⟩),
  (28,⟨2,0,true,[(0,1),(1,1)],J20⟩),
  (29,⟨1,32,false,[],J5⟩),
  (31,⟨1,0,true,[(0,1)],J5⟩),
  (32,⟨1,64,false,[],J13⟩),
  (33,⟨1,16,false,[],(.sl .str)⟩),
  (35,⟨6,0,true,[(0,1),(1,1),(2,1),(3,1),(4,1),(5,1)],J19⟩),
  (37,⟨10,0,true,[(0,1),(1,1),(2,1),(3,1),(4,6)],(.pair (.int .i64) (.pair .str (.pair J5 (.pair J5 J19))))⟩),
  (59,⟨1,24,false,[],J6⟩),
  (63,⟨3,0,true,[(0,1),(1,1),(2,1)],J15⟩),
  (65,⟨1,0,true,[(0,1)],J6⟩),
  (84,⟨3,0,true,[(0,1),(1,1),(2,1)],J7⟩),
  (88,⟨3,0,true,[(0,1),(1,1),(2,1)],J4⟩),
  (118,⟨7,0,true,[(0,1),(1,1),(2,1),(3,1),(4,3)],J12⟩)],
  [(5,Tryz.f5),(10,Tryz.f10),(12,Tryz.f12),(16,Tryz.f16),(17,Tryz.f17),(18,Tryz.f18),(19,Tryz.f19),(20,Tryz.f20),(21,Tryz.f21),(22,Tryz.f22),(23,Tryz.f23),(25,Tryz.f25),(26,Tryz.f26),(27,Tryz.f27),(32,Tryz.f32),(33,Tryz.f33),(36,Tryz.f36),(37,Tryz.f37),(44,Tryz.f44),(45,Tryz.f45),(46,Tryz.f46),(47,Tryz.f47),(48,Tryz.f48),(49,Tryz.f49),(50,Tryz.f50),(51,Tryz.f51),(52,Tryz.f52),(53,Tryz.f53),(55,Tryz.f55),(56,Tryz.f56),(57,Tryz.f57),(58,Tryz.f58),(61,Tryz.f61),(62,Tryz.f62),(63,Tryz.f63),(64,Tryz.f64),(65,Tryz.f65),(66,Tryz.f66),(67,Tryz.f67),(68,Tryz.f68),(69,Tryz.f69),(70,Tryz.f70),(71,Tryz.f71),(72,Tryz.f72),(73,Tryz.f73),(76,Tryz.f76),(81,Tryz.f81),(82,Tryz.f82),(83,Tryz.f83),(84,Tryz.f84),(89,Tryz.f89),(90,Tryz.f90),(91,Tryz.f91),(92,Tryz.f92),(99,Tryz.f99),(100,Tryz.f100),(101,Tryz.f101),(102,Tryz.f102),(103,Tryz.f103),(104,Tryz.f104),(105,Tryz.f105),(106,Tryz.f106),(107,Tryz.f107),(108,Tryz.f108),(109,Tryz.f109),(110,Tryz.f110),(111,Tryz.f111),(112,Tryz.f112),(113,Tryz.f113),(114,Tryz.f114),(115,Tryz.f115),(116,Tryz.f116),(119,Tryz.f119),(120,Tryz.f120),(121,Tryz.f121),(122,Tryz.f122),(123,Tryz.f123),(124,Tryz.f124),(125,Tryz.f125),(126,Tryz.f126),(129,Tryz.f129),(130,Tryz.f130),(131,Tryz.f131),(132,Tryz.f132),(133,Tryz.f133),(134,Tryz.f134),(135,Tryz.f135),(136,Tryz.f136),(139,Tryz.f139),(140,Tryz.f140),(141,Tryz.f141),(142,Tryz.f142),(144,Tryz.f144),(145,Tryz.f145),(146,Tryz.f146),(147,Tryz.f147),(152,Tryz.f152),(153,Tryz.f153),(154,Tryz.f154),(157,Tryz.f157),(158,Tryz.f158),(159,Tryz.f159),(160,Tryz.f160),(164,Tryz.f164),(165,Tryz.f165),(166,Tryz.f166),(176,Tryz.f176),(177,Tryz.f177),(178,Tryz.f178),(179,Tryz.f179),(180,Tryz.f180),(181,Tryz.f181),(182,Tryz.f182),(194,Tryz.f194),(195,Tryz.f195),(197,Tryz.f197),(198,Tryz.f198),(201,Tryz.f201),(202,Tryz.f202),(206,Tryz.f206),(207,Tryz.f207),(209,Tryz.f209),(210,Tryz.f210),(212,Tryz.f212),(213,Tryz.f213),(214,Tryz.f214),(217,Tryz.f217),(218,Tryz.f218),(219,Tryz.f219),(223,Tryz.f223),(224,Tryz.f224),(225,Tryz.f225),(226,Tryz.f226),(227,Tryz.f227),(234,Tryz.f234),(235,Tryz.f235),(241,Tryz.f241)],[(22,⟨[],true,some (J7),[]⟩),(23,⟨[.bx (J7)],true,none,[0]⟩),(54,⟨[.io],true,none,[]⟩),(55,⟨[.bx (J7)],true,none,[]⟩),(56,⟨[.bx (J7)],true,none,[]⟩),(57,⟨[.bx (J7)],true,none,[]⟩),(58,⟨[.bx (J7)],true,none,[]⟩),(119,⟨[.bx (J7)],true,none,[]⟩),(120,⟨[.bx (J7)],true,none,[]⟩),(121,⟨[.bx (J7)],true,none,[]⟩),(122,⟨[.bx (J7)],true,none,[]⟩),(123,⟨[.bx (J7)],true,none,[]⟩),(124,⟨[.bx (J7)],true,none,[]⟩),(125,⟨[.bx (J7)],true,none,[]⟩),(126,⟨[.bx (J7)],true,none,[]⟩),(129,⟨[.bx (J7)],true,none,[]⟩),(137,⟨[.give,.ro,.give],true,none,[]⟩),(138,⟨[.give],true,none,[]⟩),(143,⟨[.give],true,none,[]⟩),(164,⟨[.bx (J19)],true,none,[]⟩),(194,⟨[.bx (J7)],true,none,[]⟩),(195,⟨[.bx (J7)],true,none,[]⟩),(199,⟨[.give,.ro,.give],true,none,[]⟩),(200,⟨[.give],true,none,[]⟩),(201,⟨[.give],true,none,[]⟩),(205,⟨[.give],true,none,[]⟩),(208,⟨[.give,.ro,.give],true,none,[]⟩),(234,⟨[.bx (J7)],true,none,[]⟩)],[(10,[(4,⟨14680066,[]⟩)]),(12,[(6,⟨30064771109,[]⟩)]),(17,[(5,⟨57354,[]⟩),(9,⟨15032442922,[]⟩)]),(18,[(5,⟨57354,[]⟩),(9,⟨481036394538,[]⟩)]),(19,[(4,⟨14680066,[]⟩)]),(21,[(5,⟨58720300,[]⟩),(12,⟨33056565380087516495908,[]⟩)]),(22,[(3,⟨25,[]⟩)]),(32,[(2,⟨450,[]⟩)]),(33,[(4,⟨229382,[]⟩)]),(36,[(4,⟨227,[]⟩)]),(44,[(7,⟨917514,[]⟩)]),(49,[(4,⟨7170,[]⟩)]),(50,[(4,⟨229382,[]⟩)]),(55,[(3,⟨14349,[11]⟩)]),(57,[(10,⟨3848290697229,[]⟩),(1000005,⟨29,[]⟩),(1000007,⟨29,[]⟩),(1000014,⟨12,[]⟩)]),(62,[(2,⟨9,[]⟩)]),(69,[(3,⟨14348,[]⟩)]),(70,[(2,⟨9,[]⟩)]),(71,[(2,⟨225,[]⟩)]),(81,[(2,⟨7170,[]⟩),(9,⟨7516192802,[]⟩)]),(82,[(4,⟨229380,[]⟩)]),(83,[(2,⟨35,[]⟩)]),(84,[(3,⟨7212,[]⟩)]),(91,[(3,⟨3592,[]⟩)]),(92,[(2,⟨387,[]⟩)]),(100,[(3,⟨456,[]⟩)]),(102,[(3,⟨904,[]⟩)]),(103,[(3,⟨456,[]⟩)]),(104,[(5,⟨3670026,[]⟩)]),(105,[(3,⟨904,[]⟩)]),(106,[(4,⟨30064771074,[]⟩),(11,⟨31525197391593506,[]⟩)]),(107,[(4,⟨7340040,[]⟩)]),(108,[(2,⟨35,[]⟩)]),(109,[(3,⟨7212,[]⟩)]),(110,[(2,⟨387,[]⟩)]),(112,[(4,⟨12291,[]⟩)]),(113,[(4,⟨12291,[]⟩)]),(114,[(4,⟨229382,[]⟩)]),(116,[(4,⟨12291,[]⟩)]),(119,[(3,⟨909,[]⟩)]),(120,[(3,⟨105,[]⟩)]),(122,[(1000006,⟨61,[]⟩),(1000008,⟨61,[]⟩),(1000010,⟨61,[]⟩),(1000012,⟨60,[]⟩),(1000014,⟨28,[]⟩),(1000016,⟨28,[]⟩),(1000018,⟨12,[]⟩)]),(123,[(3,⟨113,[]⟩)]),(126,[(3,⟨28721,[]⟩),(7,⟨29617,[]⟩)]),(136,[(11,⟨664,[]⟩)]),(139,[(12,⟨6755399441056288,[]⟩),(19,⟨1813388729421943762061824,[]⟩)]),(141,[(2,⟨170,[]⟩)]),(142,[(4,⟨3670022,[]⟩)]),(144,[(3,⟨456,[]⟩)]),(145,[(3,⟨1804,[]⟩)]),(153,[(4,⟨57356,[]⟩)]),(154,[(4,⟨29096,[]⟩)]),(157,[(2,⟨1794,[]⟩)]),(164,[(0,⟨3,[]⟩)]),(165,[(5,⟨7340044,[]⟩)]),(177,[(11,⟨26,[]⟩)]),(180,[(12,⟨26,[]⟩)]),(197,[(2,⟨387,[]⟩)]),(201,[(5,⟨99,[]⟩)]),(206,[(2,⟨387,[]⟩)]),(212,[(4,⟨12291,[]⟩)]),(213,[(2,⟨387,[]⟩)]),(218,[(3,⟨49,[]⟩)]),(219,[(8,⟨113,[]⟩)]),(224,[(6,⟨9,[]⟩)]),(234,[(9,⟨113,[]⟩)]),(241,[(2,⟨17,[]⟩)])],[88,118]⟩
set_option maxRecDepth 1000000 in
theorem F1a:B4 Tryz.prog env:=B1h (by kernel_rfl) (by
  simp only[env,List.forall_mem_cons,List.not_mem_nil,false_implies,implies_true,and_true]
  refine⟨⟨Tryz.func5,?_⟩,⟨Tryz.func10,?_⟩,⟨Tryz.func12,?_⟩,⟨Tryz.func16,?_⟩,⟨Tryz.func17,?_⟩,⟨Tryz.func18,?_⟩,⟨Tryz.func19,?_⟩,⟨Tryz.func20,?_⟩,⟨Tryz.func21,?_⟩,⟨Tryz.func22,?_⟩,⟨Tryz.func23,?_⟩,⟨Tryz.func25,?_⟩,⟨Tryz.func26,?_⟩,⟨Tryz.func27,?_⟩,⟨Tryz.func32,?_⟩,⟨Tryz.func33,?_⟩,⟨Tryz.func36,?_⟩,⟨Tryz.func37,?_⟩,⟨Tryz.func44,?_⟩,⟨Tryz.func45,?_⟩,⟨Tryz.func46,?_⟩,⟨Tryz.func47,?_⟩,⟨Tryz.func48,?_⟩,⟨Tryz.func49,?_⟩,⟨Tryz.func50,?_⟩,⟨Tryz.func51,?_⟩,⟨Tryz.func52,?_⟩,⟨Tryz.func53,?_⟩,⟨Tryz.func55,?_⟩,⟨Tryz.func56,?_⟩,⟨Tryz.func57,?_⟩,⟨Tryz.func58,?_⟩,⟨Tryz.func61,?_⟩,⟨Tryz.func62,?_⟩,⟨Tryz.func63,?_⟩,⟨Tryz.func64,?_⟩,⟨Tryz.func65,?_⟩,⟨Tryz.func66,?_⟩,⟨Tryz.func67,?_⟩,⟨Tryz.func68,?_⟩,⟨Tryz.func69,?_⟩,⟨Tryz.func70,?_⟩,⟨Tryz.func71,?_⟩,⟨Tryz.func72,?_⟩,⟨Tryz.func73,?_⟩,⟨Tryz.func76,?_⟩,⟨Tryz.func81,?_⟩,⟨Tryz.func82,?_⟩,⟨Tryz.func83,?_⟩,⟨Tryz.func84,?_⟩,⟨Tryz.func89,?_⟩,⟨Tryz.func90,?_⟩,⟨Tryz.func91,?_⟩,⟨Tryz.func92,?_⟩,⟨Tryz.func99,?_⟩,⟨Tryz.func100,?_⟩,⟨Tryz.func101,?_⟩,⟨Tryz.func102,?_⟩,⟨Tryz.func103,?_⟩,⟨Tryz.func104,?_⟩,⟨Tryz.func105,?_⟩,⟨Tryz.func106,?_⟩,⟨Tryz.func107,?_⟩,⟨Tryz.func108,?_⟩,⟨Tryz.func109,?_⟩,⟨Tryz.func110,?_⟩,⟨Tryz.func111,?_⟩,⟨Tryz.func112,?_⟩,⟨Tryz.func113,?_⟩,⟨Tryz.func114,?_⟩,⟨Tryz.func115,?_⟩,⟨Tryz.func116,?_⟩,⟨Tryz.func119,?_⟩,⟨Tryz.func120,?_⟩,⟨Tryz.func121,?_⟩,⟨Tryz.func122,?_⟩,⟨Tryz.func123,?_⟩,⟨Tryz.func124,?_⟩,⟨Tryz.func125,?_⟩,⟨Tryz.func126,?_⟩,⟨Tryz.func129,?_⟩,⟨Tryz.func130,?_⟩,⟨Tryz.func131,?_⟩,⟨Tryz.func132,?_⟩,⟨Tryz.func133,?_⟩,⟨Tryz.func134,?_⟩,⟨Tryz.func135,?_⟩,⟨Tryz.func136,?_⟩,⟨Tryz.func139,?_⟩,⟨Tryz.func140,?_⟩,⟨Tryz.func141,?_⟩,⟨Tryz.func142,?_⟩,⟨Tryz.func144,?_⟩,⟨Tryz.func145,?_⟩,⟨Tryz.func146,?_⟩,⟨Tryz.func147,?_⟩,⟨Tryz.func152,?_⟩,⟨Tryz.func153,?_⟩,⟨Tryz.func154,?_⟩,⟨Tryz.func157,?_⟩,⟨Tryz.func158,?_⟩,⟨Tryz.func159,?_⟩,⟨Tryz.func160,?_⟩,⟨Tryz.func164,?_⟩,⟨Tryz.func165,?_⟩,⟨Tryz.func166,?_⟩,⟨Tryz.func176,?_⟩,⟨Tryz.func177,?_⟩,⟨Tryz.func178,?_⟩,⟨Tryz.func179,?_⟩,⟨Tryz.func180,?_⟩,⟨Tryz.func181,?_⟩,⟨Tryz.func182,?_⟩,⟨Tryz.func194,?_⟩,⟨Tryz.func195,?_⟩,⟨Tryz.func197,?_⟩,⟨Tryz.func198,?_⟩,⟨Tryz.func201,?_⟩,⟨Tryz.func202,?_⟩,⟨Tryz.func206,?_⟩,⟨Tryz.func207,?_⟩,⟨Tryz.func209,?_⟩,⟨Tryz.func210,?_⟩,⟨Tryz.func212,?_⟩,⟨Tryz.func213,?_⟩,⟨Tryz.func214,?_⟩,⟨Tryz.func217,?_⟩,⟨Tryz.func218,?_⟩,⟨Tryz.func219,?_⟩,⟨Tryz.func223,?_⟩,⟨Tryz.func224,?_⟩,⟨Tryz.func225,?_⟩,⟨Tryz.func226,?_⟩,⟨Tryz.func227,?_⟩,⟨Tryz.func234,?_⟩,⟨Tryz.func235,?_⟩,⟨Tryz.func241,?_⟩⟩
  all_goals kernel_rfl) (by kernel_rfl)
theorem F1b:U2 Tryz.prog env:=B1i (by kernel_rfl)
def D0i:Fn' ((List Int)×Unit) (Y2×Unit):=⟨22,Q9,(Rt.tup Q54),fun n a=>C5i n a.1⟩
def D4f:=Sh.of (Sl.one (Lf.sh (.int .u8)) (Sl.gap 2 (Sl.one (Lf.int .i64) (Sl.one (Lf.int .i64) (Sl.gap 27 Sl.nil))))) Rw.nil Ls.nil
def E17 (n:Nat):Tab (Y2×Unit):=[([.b,.r,.l,.r,.r],A8c D4f fun j a=>B8l n j a.1.1 a.1.2.1 a.1.2.2.1)]
def C8e:Fn' (Y2×Unit) Y8:=⟨121,Q54,Q67,fun n a=>B6b n a.1.1 a.1.2.1 a.1.2.2⟩
def C79:Fn' (Y2×(Int×Unit)) Y8:=⟨56,(Tvs.cons Q45 Q3),Q67,fun n a=>B2e n a.1.1 a.1.2.1 a.1.2.2 a.2.1⟩
def C8g:Fn' (Y2×Unit) Y13:=⟨194,Q54,(Rt.tup (Tvs.cons (Tv.one Lf.str) Q54)),fun n a=>C2c n a.1.1 a.1.2.1 a.1.2.2⟩
def D29:Fn' (Y22×(ByteArray×Unit)) Int:=⟨157,(Tvs.cons Q29 (Tvs.cons (Tv.one Lf.str) Tvs.nil)),(Rt.v (Tv.one (Lf.int .i64))),fun n a=>C1e n a.1.1 a.1.2.1 a.1.2.2 a.2.1⟩
def D6f:=Sh.of (Sl.gap 1 (Sl.one Lf.str (Sl.gap 6 (Sl.one (Lf.sh J12) (Sl.one (Lf.int .i64) (Sl.one (Lf.int .i64) (Sl.gap 10 Sl.nil))))))) Rw.nil Ls.nil
def E3l (n:Nat):Tab Int:=[([.b,.r,.l,.r],A8c D6f fun j a=>B9h n j a.1.1 a.1.2.1 a.1.2.2.1 a.1.2.2.2.1)]
def D0l:Fn' (Y2×Unit) Y13:=⟨234,Q54,(Rt.tup (Tvs.cons (Tv.one Lf.str) Q54)),fun n a=>C5j n a.1.1 a.1.2.1 a.1.2.2⟩
def D4g:=Sh.of (Sl.k (Kf.box 40 0) (Sl.gap 3 (Sl.one (Lf.int .i64) (Sl.k (Kf.ow 360) (Sl.one (Lf.int .i64) (Sl.gap 26 Sl.nil)))))) (Rw.box 40 J7 Q44 (Rw.data 360 (.int .u8) Rw.nil)) (Ls.k (Kf.box 40 0) Ls.nil)
def E18 (n:Nat):Tab Y13:=[([.b,.r,.l,.r,.r,.r,.r,.r,.r],A8c D4g fun j a=>B8m n j a.1.1 a.1.2.1 a.2.1.1 a.2.1.2.1 a.2.1.2.2.1 a.2.2.1)]
def D2f:Fn' (Y2×(Int×Unit)) Y17:=⟨195,(Tvs.cons Q45 Q3),Q77,fun n a=>C1f n a.1.1 a.1.2.1 a.1.2.2 a.2.1⟩
def D0p:Fn' (Y2×(ByteArray×Unit)) (Y16×(Y2×Unit)):=⟨129,(Tvs.cons Q45 (Tvs.cons (Tv.one Lf.str) Tvs.nil)),(Rt.tup (Tvs.cons Q70 Q54)),fun n a=>C5m n a.1.1 a.1.2.1 a.1.2.2 a.2.1⟩
def C8f:Fn' (Y2×(ByteArray×Unit)) Y28:=⟨123,(Tvs.cons Q45 (Tvs.cons (Tv.one Lf.str) Tvs.nil)),(Rt.tup (Tvs.cons Q30 Q54)),fun n a=>C0l n a.1.1 a.1.2.1 a.1.2.2 a.2.1⟩
def D2u:=Sh.of (Sl.k (Kf.box 40 0) (Sl.gap 3 (Sl.k (Kf.box 296 0) (Sl.k (Kf.box 360 0) (Sl.one (Lf.int .i64) (Sl.gap 56 Sl.nil)))))) (Rw.box 40 J7 Q44 (Rw.box 296 J15 (Ls.cons Lf.str (Ls.k (Kf.ow 304) (Ls.k (Kf.ow 305) Ls.nil))) (Rw.data 304 J12 (Rw.data 305 .str (Rw.box 360 J15 (Ls.cons Lf.str (Ls.k (Kf.ow 368) (Ls.k (Kf.ow 369) Ls.nil))) (Rw.data 368 J12 (Rw.data 369 .str Rw.nil))))))) (Ls.k (Kf.box 40 0) Ls.nil)
def D81 (n:Nat):Tab Y28:=[([.b,.r,.l,.r,.r],A8c D2u fun j a=>B60 n j a.1.1 a.2.1.1 a.2.1.2.1 a.2.1.2.2.1 a.2.2.1.1 a.2.2.2.1 a.2.2.2.2.1 a.2.2.2.2.2.1.1 a.2.2.2.2.2.2.1 a.2.2.2.2.2.2.2.1)]
def D0o:Fn' (Y2×Unit) Y29:=⟨119,Q54,(Rt.tup (Tvs.cons (Tv.agg (Ls.one (Lf.od J15))) Q54)),fun n a=>C3p n a.1.1 a.1.2.1 a.1.2.2⟩
def D4o:=Sh.of (Sl.k (Kf.box 40 0) (Sl.gap 1 (Sl.k (Kf.box 168 0) (Sl.k (Kf.box 232 0) (Sl.gap 3 (Sl.k (Kf.ow 488) (Sl.one (Lf.int .i64) (Sl.one (Lf.int .i64) (Sl.gap 16 Sl.nil))))))))) (Rw.box 40 J7 Q44 (Rw.box 168 J16 (Ls.k (Kf.ow 176) Ls.nil) (Rw.data 176 J15 (Rw.box 232 J16 (Ls.k (Kf.ow 240) Ls.nil) (Rw.data 240 J15 (Rw.data 488 .str Rw.nil)))))) (Ls.k (Kf.box 40 0) Ls.nil)
def E1a (n:Nat):Tab Y29:=[([.b,.r,.l,.r,.r],A8c D4o fun j a=>B6w n j a.1.1 a.1.2.1 a.2.1.1 a.2.1.2.1 a.2.1.2.2.1 a.2.2.2.1 a.2.2.2.2.2.1 a.2.2.2.2.2.2.1)]
def C8h:Fn' (Y2×(Y22×Unit)) Y20:=⟨126,(Tvs.cons Q45 Q47),(Rt.tup (Tvs.cons (Tv.agg (Ls.one (Lf.od J4))) Q54)),fun n a=>C4a n a.1.1 a.1.2.1 a.1.2.2 a.2.1.1 a.2.1.2.1 a.2.1.2.2⟩
def D2w:=Sh.of (Sl.k (Kf.box 40 0) (Sl.gap 3 (Sl.k (Kf.box 296 0) (Sl.k (Kf.box 360 0) (Sl.gap 1 (Sl.k (Kf.box 488 0) (Sl.k (Kf.box 552 0) (Sl.one (Lf.int .i64) (Sl.gap 2 (Sl.one (Lf.sh J12) (Sl.one (Lf.int .i64) (Sl.one (Lf.int .i64) (Sl.gap 32 Sl.nil))))))))))))) (Rw.box 40 J7 Q44 (Rw.box 296 J5 (Ls.k (Kf.ow 304) Ls.nil) (Rw.data 304 J4 (Rw.box 360 J5 (Ls.k (Kf.ow 368) Ls.nil) (Rw.data 368 J4 (Rw.box 488 J12 Q69 (Rw.box 552 J4 Q34 Rw.nil))))))) (Ls.k (Kf.box 40 0) Ls.nil)
def D2v:=Sh.of (Sl.k (Kf.box 40 0) (Sl.gap 3 (Sl.k (Kf.box 296 0) (Sl.k (Kf.box 360 0) (Sl.gap 6 (Sl.one (Lf.sh J12) (Sl.one (Lf.int .i64) (Sl.one (Lf.int .i64) (Sl.gap 32 Sl.nil))))))))) (Rw.box 40 J7 Q44 (Rw.box 296 J5 (Ls.k (Kf.ow 304) Ls.nil) (Rw.data 304 J4 (Rw.box 360 J5 (Ls.k (Kf.ow 368) Ls.nil) (Rw.data 368 J4 Rw.nil))))) (Ls.k (Kf.box 40 0) Ls.nil)
def D82 (n:Nat):Tab Y20:=[([.b,.r,.l,.r,.r,.b,.l,.r,.r,.p,.b,.r,.l,.r,.r],A2r D2w fun i j a=>B7e n (fun y0 y1 y2 y3 y4 y5 y6 y7=>B4s n i y0 y1 y2 y3 y4 y5 y6 y7) j a.1.1 a.1.2.1 a.1.2.2.1 a.1.2.2.2.1 a.2.1.1 a.2.1.2.1 a.2.1.2.2.1 a.2.2.2.1 a.2.2.2.2.2.1 a.2.2.2.2.2.2.1.1 a.2.2.2.2.2.2.1.2.1 a.2.2.2.2.2.2.1.2.2.1 a.2.2.2.2.2.2.1.2.2.2.1 a.2.2.2.2.2.2.1.2.2.2.2.1 a.2.2.2.2.2.2.1.2.2.2.2.2.1 a.2.2.2.2.2.2.1.2.2.2.2.2.2.1 a.2.2.2.2.2.2.2.1.1 a.2.2.2.2.2.2.2.1.2.1 a.2.2.2.2.2.2.2.1.2.2.1),
  ([.b,.r,.l,.r,.r],A8c D2v fun j a=>B4s n j a.1.1 a.1.2.1 a.1.2.2.1 a.2.1.1 a.2.1.2.1 a.2.1.2.2.1 a.2.2.2.1 a.2.2.2.2.2.1)]
def D0f:Fn' (ByteArray×Unit) Bool:=⟨70,(Tvs.cons (Tv.one Lf.str) Tvs.nil),(Rt.v (Tv.one Lf.bool)),fun n a=>B6j n a.1⟩
def D4e:=Sh.of (Sl.one Lf.str (Sl.gap 2 (Sl.one (Lf.int .i64) (Sl.gap 24 Sl.nil)))) Rw.nil Ls.nil
def E16 (n:Nat):Tab Bool:=[([.b,.r,.l,.r],A8c D4e fun j a=>B8k n j a.1.1 a.1.2.1)]
def D0j:Fn' (Int×Unit) Bool:=⟨210,Q3,(Rt.v (Tv.one Lf.bool)),fun n a=>C1p n a.1⟩
def D2e:Fn' (Y1×Unit) Bool:=⟨146,Q49,(Rt.v (Tv.one Lf.bool)),fun n a=>B81 n a.1.1 a.1.2.1 a.1.2.2⟩
def D2a:Fn' (Y16×Unit) Bool:=⟨147,Q74,(Rt.v (Tv.one Lf.bool)),fun n a=>C2w n a.1.1 a.1.2.1 a.1.2.2.1 a.1.2.2.2.1 a.1.2.2.2.2.1 a.1.2.2.2.2.2.1 a.1.2.2.2.2.2.2⟩
def C8a:Fn' (Y22×Unit) Bool:=⟨106,Q47,(Rt.v (Tv.one Lf.bool)),fun n a=>B7m n a.1.1 a.1.2.1 a.1.2.2⟩
def D2s:=Sh.of (Sl.gap 1 (Sl.k (Kf.box 104 0) (Sl.gap 3 (Sl.one (Lf.int .i64) (Sl.gap 46 (Sl.one (Lf.sh .str) (Sl.one (Lf.int .i64) (Sl.one (Lf.int .i64) (Sl.gap 20 Sl.nil))))))))) (Rw.box 104 J15 Q28 Rw.nil) Ls.nil
def D2r:=Sh.of (Sl.gap 1 (Sl.k (Kf.box 104 0) (Sl.gap 30 (Sl.one (Lf.sh J12) (Sl.one (Lf.int .i64) (Sl.one (Lf.int .i64) (Sl.gap 40 Sl.nil))))))) (Rw.box 104 J15 Q28 Rw.nil) Ls.nil
def D7z (n:Nat):Tab Bool:=[([.b,.r,.l,.r,.r,.r,.r],A8c D2s fun j a=>B5z n j a.1.1 a.1.2.1 a.1.2.2.1 a.1.2.2.2.1 a.2.1.1 a.2.1.2.1 a.2.1.2.2.1),
  ([.b,.r,.l,.r,.r],A8c D2r fun j a=>B5y n j a.1.1 a.1.2.1 a.1.2.2.1 a.2.1.1 a.2.1.2.1 a.2.1.2.2.1)]
def C8i:Fn' (Y16×(Y1×Unit)) Bool:=⟨181,(Tvs.cons Q70 Q49),(Rt.v (Tv.one Lf.bool)),fun n a=>C4b n a.1.1 a.1.2.1 a.1.2.2.1 a.1.2.2.2.1 a.1.2.2.2.2.1 a.1.2.2.2.2.2.1 a.1.2.2.2.2.2.2 a.2.1.1 a.2.1.2.1 a.2.1.2.2⟩
def D2d:Fn' (Y22×(Y4×Unit)) Bool:=⟨107,Q62,(Rt.v (Tv.one Lf.bool)),fun n a=>C51 n a.1.1 a.1.2.1 a.1.2.2 a.2.1⟩
def D6h:=Sh.of (Sl.gap 3 (Sl.k (Kf.box 232 0) (Sl.gap 16 (Sl.one (Lf.sh J12) (Sl.one (Lf.int .i64) (Sl.one (Lf.int .i64) (Sl.gap 13 Sl.nil))))))) (Rw.box 232 J5 (Ls.cons (Lf.sh J4) Ls.nil) Rw.nil) Ls.nil
def E3n (n:Nat):Tab Bool:=[([.b,.r,.l,.r,.r],A8c D6h fun j a=>B9j n j a.1.1 a.1.2.1 a.1.2.2.1 a.2.1.1)]
def D0q:Fn' (Y22×(Y4×Unit)) Y4:=⟨109,Q62,(Rt.v (Tv.one (Lf.od J4))),fun n a=>B7q n a.1.1 a.1.2.1 a.1.2.2 a.2.1⟩
def D4p:=Sh.of (Sl.gap 2 (Sl.k (Kf.box 168 0) (Sl.k (Kf.box 232 0) (Sl.gap 1 (Sl.k (Kf.ow 360) (Sl.gap 4 (Sl.one (Lf.sh .str) (Sl.one (Lf.int .i64) (Sl.one (Lf.int .i64) (Sl.gap 15 Sl.nil)))))))))) (Rw.box 168 J15 Q28 (Rw.box 232 J5 (Ls.cons (Lf.sh J4) Ls.nil) (Rw.data 360 J4 Rw.nil))) Ls.nil
def E1b (n:Nat):Tab Y4:=[([.b,.r,.l,.r,.r],A8c D4p fun j a=>B8n n j a.1.1 a.1.2.1 a.1.2.2.1 a.2.1.1 a.2.1.2.1 a.2.1.2.2.1 a.2.2.1.1 a.2.2.2.1)]
def C8b:Fn' (Y1×(Y1×Unit)) Bool:=⟨182,(Tvs.cons Q35 Q49),(Rt.v (Tv.one Lf.bool)),fun n a=>C29 n a.1.1 a.1.2.1 a.1.2.2 a.2.1.1 a.2.1.2.1 a.2.1.2.2⟩
def C88:Fn' (Y4×(Y4×Unit)) Bool:=⟨108,Q31,(Rt.v (Tv.one Lf.bool)),fun n a=>C0j n a.1 a.2.1⟩
def D2q:=Sh.of (Sl.one (Lf.sh J4) (Sl.one (Lf.sh J4) (Sl.gap 3 (Sl.one (Lf.int .i64) (Sl.gap 35 Sl.nil))))) Rw.nil Ls.nil
def D7y (n:Nat):Tab Bool:=[([.b,.r,.l,.r],A8c D2q fun j a=>B57 n j a.1.1 a.1.2.1 a.1.2.2.1)]
def D0d:Fn' (Y22×(Y7×Unit)) Bool:=⟨50,(Tvs.cons Q29 (Tvs.cons (Tv.one (Lf.sh J5)) Tvs.nil)),(Rt.v (Tv.one Lf.bool)),fun n a=>C1o n a.1.1 a.1.2.1 a.1.2.2 a.2.1⟩
def D4d:=Sh.of (Sl.gap 1 (Sl.one (Lf.sh J5) (Sl.k (Kf.box 168 0) (Sl.gap 12 (Sl.one (Lf.sh J5) (Sl.one (Lf.int .i64) (Sl.one (Lf.int .i64) (Sl.gap 27 Sl.nil)))))))) (Rw.box 168 J15 Q28 Rw.nil) Ls.nil
def E15 (n:Nat):Tab Bool:=[([.b,.r,.l,.r,.r],A8c D4d fun j a=>B6v n j a.1.1 a.1.2.1 a.1.2.2.1 a.1.2.2.2.1 a.2.1.1 a.2.1.2.1 a.2.1.2.2.1)]
def C4j:Fn' (Y4×(Y4×Unit)) Bool:=⟨212,Q31,(Rt.v (Tv.one Lf.bool)),fun n a=>C0n n a.1 a.2.1⟩
def C7m:=Sh.of (Sl.one (Lf.sh J4) (Sl.one (Lf.sh J4) (Sl.gap 10 (Sl.one (Lf.int .i64) (Sl.one (Lf.int .i64) (Sl.gap 12 Sl.nil)))))) Rw.nil Ls.nil
def D19 (n:Nat):Tab Bool:=[([.b,.r,.l,.r,.r],A8c C7m fun j a=>B54 n j a.1.1 a.1.2.1 a.1.2.2.1 a.1.2.2.2.1)]
def D2c:Fn' (Y22×(Y7×(Y4×Unit))) Int:=⟨153,Q71,(Rt.v (Tv.one (Lf.int .i64))),fun n a=>C6s n a.1.1 a.1.2.1 a.1.2.2 a.2.1 a.2.2.1⟩
def D6g:=Sh.of (Sl.gap 2 (Sl.one (Lf.sh J4) (Sl.k (Kf.box 232 0) (Sl.gap 9 (Sl.one (Lf.sh J5) (Sl.one (Lf.int .i64) (Sl.one (Lf.int .i64) (Sl.gap 11 Sl.nil)))))))) (Rw.box 232 J15 Q28 Rw.nil) Ls.nil
def E3m (n:Nat):Tab Int:=[([.b,.r,.l,.r,.r],A8c D6g fun j a=>B9i n j a.1.1 a.1.2.1 a.1.2.2.1 a.1.2.2.2.1 a.2.1.1 a.2.1.2.1 a.2.1.2.2.1)]
def D0s:Fn' (Y4×Unit) Y4:=⟨152,Q12,(Rt.v (Tv.agg (Ls.one (Lf.od J4)))),fun n a=>B8r n a.1⟩
def D0r:Fn' (Y22×(Y7×(Y4×Unit))) Y7:=⟨154,Q72,(Rt.v (Tv.one (Lf.od J5))),fun n a=>C5n n a.1.1 a.1.2.1 a.1.2.2 a.2.1 a.2.2.1⟩
def D4q:=Sh.of (Sl.gap 3 (Sl.k (Kf.box 232 0) (Sl.gap 1 (Sl.k (Kf.box 360 0) (Sl.gap 1 (Sl.k (Kf.ow 488) (Sl.one Lf.bool (Sl.gap 3 (Sl.one (Lf.sh J5) (Sl.one (Lf.int .i64) (Sl.one (Lf.int .i64) (Sl.gap 33 Sl.nil)))))))))))) (Rw.box 232 J15 Q28 (Rw.box 360 J5 (Ls.cons (Lf.sh J4) Ls.nil) (Rw.data 488 J5 Rw.nil))) Ls.nil
def E1c (n:Nat):Tab Y7:=[([.b,.r,.l,.r,.r,.r],A8c D4q fun j a=>B5k n j a.1.1 a.1.2.1 a.1.2.2.1 a.1.2.2.2.1 a.2.1.1 a.2.1.2.1 a.2.1.2.2.1 a.2.2.1.1 a.2.2.2.1)]
def D0c:Fn' (Y22×(Y7×(Y4×Unit))) Y15:=⟨76,Q72,Q43,fun n a=>C5g n a.1.1 a.1.2.1 a.1.2.2 a.2.1 a.2.2.1⟩
def C8j:Fn' (Y2×(Y22×Unit)) (Y7×(Y2×Unit)):=⟨120,(Tvs.cons Q45 Q47),(Rt.tup (Tvs.cons (Tv.one (Lf.od J5)) Q54)),fun n a=>C0m n a.1.1 a.1.2.1 a.1.2.2 a.2.1.1 a.2.1.2.1 a.2.1.2.2⟩
def D2x:=Sh.of (Sl.k (Kf.box 40 0) (Sl.gap 2 (Sl.k (Kf.box 232 0) (Sl.gap 1 (Sl.k (Kf.ow 360) (Sl.one (Lf.int .i64) (Sl.gap 22 Sl.nil))))))) (Rw.box 40 J7 Q44 (Rw.box 232 J15 Q28 (Rw.data 360 J5 Rw.nil))) (Ls.k (Kf.box 40 0) Ls.nil)
def D83 (n:Nat):Tab (Y7×(Y2×Unit)):=[([.b,.r,.l,.r,.r],A8c D2x fun j a=>B61 n j a.1.1 a.2.1.1 a.2.1.2.1 a.2.1.2.2.1 a.2.2.1.1 a.2.2.1.2.1 a.2.2.1.2.2.1 a.2.2.2.1)]
def C8k:Fn' (Y2×Unit) (Y30×(Y2×Unit)):=⟨55,Q54,(Rt.tup (Tvs.cons Q15 Q54)),fun n a=>C4c n a.1.1 a.1.2.1 a.1.2.2⟩
def D2y:=Sh.of (Sl.k (Kf.box 40 0) (Sl.gap 1 (Sl.k (Kf.box 168 0) (Sl.k (Kf.box 232 0) (Sl.gap 7 (Sl.one (Lf.sh J15) (Sl.one (Lf.int .i64) (Sl.one (Lf.int .i64) (Sl.gap 14 Sl.nil))))))))) (Rw.box 40 J7 Q44 (Rw.box 168 J20 (Ls.k (Kf.ow 176) (Ls.k (Kf.ow 177) Ls.nil)) (Rw.data 176 J15 (Rw.data 177 J6 (Rw.box 232 J20 (Ls.cons (Lf.sh J15) (Ls.k (Kf.ow 240) Ls.nil)) (Rw.data 240 J6 Rw.nil)))))) (Ls.k (Kf.box 40 0) Ls.nil)
def D84 (n:Nat):Tab (Y30×(Y2×Unit)):=[([.b,.r,.l,.r,.r],A8c D2y fun j a=>B7f n j a.1.1 a.1.2.1 a.1.2.2.1 a.2.1.1 a.2.1.2.1 a.2.1.2.2.1 a.2.2.2.1 a.2.2.2.2.1 a.2.2.2.2.2.1.1 a.2.2.2.2.2.2.1)]
def D0m:Fn' (Y2×Unit) Y17:=⟨124,Q54,Q77,fun n a=>C5k n a.1.1 a.1.2.1 a.1.2.2⟩
def D0k:Fn' (Y2×Unit) Y8:=⟨125,Q54,Q67,fun n a=>C1q n a.1.1 a.1.2.1 a.1.2.2⟩
def D0g:Fn' (Y2×Unit) Y17:=⟨58,Q54,Q77,fun n a=>B7n n a.1.1 a.1.2.1 a.1.2.2⟩
def D0n:Fn' (Y2×Unit) Y28:=⟨122,Q54,(Rt.tup (Tvs.cons Q30 Q54)),fun n a=>C5l n a.1.1 a.1.2.1 a.1.2.2⟩
def D4n:=Sh.of (Sl.gap 2 (Sl.k (Kf.box 168 0) (Sl.k (Kf.box 232 0) (Sl.gap 69 Sl.nil)))) (Rw.box 1 J7 Q44 (Rw.box 168 J15 Q24 (Rw.data 176 J12 (Rw.data 177 .str (Rw.box 232 J15 Q25 (Rw.data 240 J12 (Rw.data 241 .str Rw.nil))))))) (Ls.k (Kf.box 1 0) Ls.nil)
def D4m:=Sh.of (Sl.gap 2 (Sl.k (Kf.box 168 0) (Sl.k (Kf.box 232 0) (Sl.one (Lf.int .i64) (Sl.gap 68 Sl.nil))))) (Rw.box 1 J7 Q44 (Rw.box 168 J15 Q24 (Rw.data 176 J12 (Rw.data 177 .str (Rw.box 232 J15 Q25 (Rw.data 240 J12 (Rw.data 241 .str Rw.nil))))))) (Ls.k (Kf.box 1 0) Ls.nil)
def D4l:=Sh.of (Sl.gap 2 (Sl.k (Kf.box 168 0) (Sl.k (Kf.box 232 0) (Sl.one (Lf.int .i64) (Sl.gap 68 Sl.nil))))) (Rw.box 1 J7 Q44 (Rw.box 168 J15 Q24 (Rw.data 176 J12 (Rw.data 177 .str (Rw.box 232 J15 Q25 (Rw.data 240 J12 (Rw.data 241 .str Rw.nil))))))) (Ls.k (Kf.box 1 0) Ls.nil)
def D4k:=Sh.of (Sl.gap 2 (Sl.k (Kf.box 168 0) (Sl.k (Kf.box 232 0) (Sl.one (Lf.int .i64) (Sl.one (Lf.int .i64) (Sl.gap 67 Sl.nil)))))) (Rw.box 1 J7 Q44 (Rw.box 168 J15 Q24 (Rw.data 176 J12 (Rw.data 177 .str (Rw.box 232 J15 Q25 (Rw.data 240 J12 (Rw.data 241 .str Rw.nil))))))) (Ls.k (Kf.box 1 0) Ls.nil)
def D4j:=Sh.of (Sl.k (Kf.box 40 0) (Sl.gap 1 (Sl.k (Kf.box 168 0) (Sl.k (Kf.box 232 0) (Sl.one (Lf.int .i64) (Sl.one (Lf.int .i64) (Sl.gap 67 Sl.nil))))))) (Rw.box 40 J7 Q44 (Rw.box 168 J15 Q24 (Rw.data 176 J12 (Rw.data 177 .str (Rw.box 232 J15 Q25 (Rw.data 240 J12 (Rw.data 241 .str Rw.nil))))))) (Ls.k (Kf.box 40 0) Ls.nil)
def D4i:=Sh.of (Sl.k (Kf.box 40 0) (Sl.gap 1 (Sl.k (Kf.box 168 0) (Sl.k (Kf.box 232 0) (Sl.one (Lf.int .i64) (Sl.one (Lf.int .i64) (Sl.gap 67 Sl.nil))))))) (Rw.box 40 J7 Q44 (Rw.box 168 J15 Q24 (Rw.data 176 J12 (Rw.data 177 .str (Rw.box 232 J15 Q25 (Rw.data 240 J12 (Rw.data 241 .str Rw.nil))))))) (Ls.k (Kf.box 40 0) Ls.nil)
def D4h:=Sh.of (Sl.k (Kf.box 40 0) (Sl.gap 1 (Sl.k (Kf.box 168 0) (Sl.k (Kf.box 232 0) (Sl.one (Lf.int .i64) (Sl.one (Lf.int .i64) (Sl.gap 67 Sl.nil))))))) (Rw.box 40 J7 Q44 (Rw.box 168 J15 Q24 (Rw.data 176 J12 (Rw.data 177 .str (Rw.box 232 J15 Q25 (Rw.data 240 J12 (Rw.data 241 .str Rw.nil))))))) (Ls.k (Kf.box 40 0) Ls.nil)
def E19 (n:Nat):Tab Y28:=[([.r,.r,.r,.r,.r,.r,.r,.r,.r,.r,.r],A8c D4n fun j a=>C05 n j a.2.1.1 a.2.1.2.1 a.2.1.2.2.1 a.2.2.1.1 a.2.2.2.1 a.2.2.2.2.1 a.2.2.2.2.2.1.1 a.2.2.2.2.2.2.1 a.2.2.2.2.2.2.2.1),
  ([.r,.r,.r,.r,.r,.r,.r,.r,.r,.r],A8c D4m fun j a=>C04 n j a.1.1 a.2.1.1 a.2.1.2.1 a.2.1.2.2.1 a.2.2.1.1 a.2.2.2.1 a.2.2.2.2.1 a.2.2.2.2.2.1.1 a.2.2.2.2.2.2.1 a.2.2.2.2.2.2.2.1),
  ([.r,.r,.r,.r,.r,.r,.r,.r,.r],A8c D4l fun j a=>C03 n j a.1.1 a.2.1.1 a.2.1.2.1 a.2.1.2.2.1 a.2.2.1.1 a.2.2.2.1 a.2.2.2.2.1 a.2.2.2.2.2.1.1 a.2.2.2.2.2.2.1 a.2.2.2.2.2.2.2.1),
  ([.r,.r,.r,.r,.r,.r,.r,.r],A8c D4k fun j a=>C02 n j a.1.1 a.1.2.1 a.2.1.1 a.2.1.2.1 a.2.1.2.2.1 a.2.2.1.1 a.2.2.2.1 a.2.2.2.2.1 a.2.2.2.2.2.1.1 a.2.2.2.2.2.2.1 a.2.2.2.2.2.2.2.1),
  ([.r,.r,.r,.r,.r,.r,.r],A8c D4j fun j a=>C01 n j a.1.1 a.1.2.1 a.2.1.1 a.2.1.2.1 a.2.1.2.2.1 a.2.2.1.1 a.2.2.2.1 a.2.2.2.2.1 a.2.2.2.2.2.1.1 a.2.2.2.2.2.2.1 a.2.2.2.2.2.2.2.1),
  ([.r,.r,.r,.r,.r,.r],A8c D4i fun j a=>C00 n j a.1.1 a.1.2.1 a.2.1.1 a.2.1.2.1 a.2.1.2.2.1 a.2.2.1.1 a.2.2.2.1 a.2.2.2.2.1 a.2.2.2.2.2.1.1 a.2.2.2.2.2.2.1 a.2.2.2.2.2.2.2.1),
  ([.r,.r,.r,.r,.r],A8c D4h fun j a=>B9z n j a.1.1 a.1.2.1 a.2.1.1 a.2.1.2.1 a.2.1.2.2.1 a.2.2.1.1 a.2.2.2.1 a.2.2.2.2.1 a.2.2.2.2.2.1.1 a.2.2.2.2.2.2.1 a.2.2.2.2.2.2.2.1)]
def C61:Fn' (Y2×Unit) Y29:=⟨57,Q54,(Rt.tup (Tvs.cons (Tv.agg (Ls.one (Lf.od J15))) Q54)),fun n a=>C2b n a.1.1 a.1.2.1 a.1.2.2⟩
def C9n:=Sh.of (Sl.gap 2 (Sl.k (Kf.box 168 0) (Sl.k (Kf.box 232 0) (Sl.gap 51 Sl.nil)))) (Rw.box 1 J7 Q44 (Rw.box 168 J16 (Ls.k (Kf.ow 176) Ls.nil) (Rw.data 176 J15 (Rw.box 232 J16 (Ls.k (Kf.ow 240) Ls.nil) (Rw.data 240 J15 Rw.nil))))) (Ls.k (Kf.box 1 0) Ls.nil)
def C9o:=Sh.of (Sl.k (Kf.box 40 0) (Sl.gap 1 (Sl.k (Kf.box 168 0) (Sl.k (Kf.box 232 0) (Sl.gap 35 (Sl.one (Lf.sub 2536) (Sl.one (Lf.int .i64) (Sl.one (Lf.int .i64) (Sl.gap 13 Sl.nil))))))))) (Rw.box 40 J7 Q44 (Rw.box 168 J16 (Ls.k (Kf.ow 176) Ls.nil) (Rw.data 176 J15 (Rw.box 232 J16 (Ls.k (Kf.ow 240) Ls.nil) (Rw.data 240 J15 (Rw.data 2536 .str Rw.nil)))))) (Ls.k (Kf.box 40 0) Ls.nil)
def C9m:=Sh.of (Sl.k (Kf.box 40 0) (Sl.gap 1 (Sl.k (Kf.box 168 0) (Sl.k (Kf.box 232 0) (Sl.one (Lf.int .i64) (Sl.gap 50 Sl.nil)))))) (Rw.box 40 J7 Q44 (Rw.box 168 J16 (Ls.k (Kf.ow 176) Ls.nil) (Rw.data 176 J15 (Rw.box 232 J16 (Ls.k (Kf.ow 240) Ls.nil) (Rw.data 240 J15 Rw.nil))))) (Ls.k (Kf.box 40 0) Ls.nil)
def C9l:=Sh.of (Sl.k (Kf.box 40 0) (Sl.gap 1 (Sl.k (Kf.box 168 0) (Sl.k (Kf.box 232 0) (Sl.one (Lf.int .i64) (Sl.gap 50 Sl.nil)))))) (Rw.box 40 J7 Q44 (Rw.box 168 J16 (Ls.k (Kf.ow 176) Ls.nil) (Rw.data 176 J15 (Rw.box 232 J16 (Ls.k (Kf.ow 240) Ls.nil) (Rw.data 240 J15 Rw.nil))))) (Ls.k (Kf.box 40 0) Ls.nil)
def D4s (n:Nat):Tab Y29:=[([.r,.r,.r,.r,.r,.r],A8c C9n fun j a=>B7p n j a.2.1.1 a.2.1.2.1 a.2.1.2.2.1 a.2.2.2.1 a.2.2.2.2.2.1),
  ([.b,.r,.r,.t,.r,.l,.r,.r,.r,.r,.r],A8c C9o fun j a=>B5w n j a.1.1.1 a.1.1.2 a.1.2.1 a.1.2.2.1 a.2.1.1 a.2.1.2.1 a.2.1.2.2.1 a.2.2.2.1 a.2.2.2.2.2.1 a.2.2.2.2.2.2.1),
  ([.r,.r,.r,.r,.r],A8c C9m fun j a=>B5v n j a.1.1 a.2.1.1 a.2.1.2.1 a.2.1.2.2.1 a.2.2.2.1 a.2.2.2.2.2.1),
  ([.r,.r,.r,.r],A8c C9l fun j a=>B7o n j a.1.1 a.2.1.1 a.2.1.2.1 a.2.1.2.2.1 a.2.2.2.1 a.2.2.2.2.2.1)]
def D0t:Fn' (Y2×Unit) (Y30×(Y2×Unit)):=⟨23,Q54,(Rt.tup (Tvs.cons Q15 Q54)),fun n a=>C5o n a.1.1 a.1.2.1 a.1.2.2⟩
def C56:Fn' ((List Int)×Unit) Y30:=⟨16,Q9,(Rt.v Q15),fun n a=>C15 n a.1⟩
def D0a:Fn' (Int×(Int×(Int×Unit))) Bool:=⟨132,(Tvs.cons (Tv.one (Lf.int .i64)) Q38),(Rt.v (Tv.one Lf.bool)),fun n a=>B4n n a.1 a.2.1 a.2.2.1⟩
def D02:Fn' (ByteArray×Unit) Bool:=⟨62,(Tvs.cons (Tv.one Lf.str) Tvs.nil),(Rt.v (Tv.one Lf.bool)),fun n a=>B6g n a.1⟩
def D45:=Sh.of (Sl.one Lf.str (Sl.gap 2 (Sl.one (Lf.int .i64) (Sl.gap 19 Sl.nil)))) Rw.nil Ls.nil
def E0y (n:Nat):Tab Bool:=[([.b,.r,.l,.r],A8c D45 fun j a=>B8b n j a.1.1 a.1.2.1)]
def D21:Fn' (Y1×Unit) Bool:=⟨135,Q49,(Rt.v (Tv.one Lf.bool)),fun n a=>B7t n a.1.1 a.1.2.1 a.1.2.2⟩
def D1y:Fn' (Y16×Unit) Bool:=⟨131,Q74,(Rt.v (Tv.one Lf.bool)),fun n a=>C2s n a.1.1 a.1.2.1 a.1.2.2.1 a.1.2.2.2.1 a.1.2.2.2.2.1 a.1.2.2.2.2.2.1 a.1.2.2.2.2.2.2⟩
def C7o:Fn' (Y16×(ByteArray×Unit)) Bool:=⟨214,(Tvs.cons Q70 (Tvs.cons (Tv.one (Lf.spt .str 0)) Tvs.nil)),(Rt.v (Tv.one Lf.bool)),fun n a=>C42 n a.1.1 a.1.2.1 a.1.2.2.1 a.1.2.2.2.1 a.1.2.2.2.2.1 a.1.2.2.2.2.2.1 a.1.2.2.2.2.2.2 a.2.1⟩
def B4b:Fn' (Y19×((ByteArray×Unit)×Unit)) Int:=⟨213,(Tvs.cons (Tv.one (Lf.sh J12)) (Tvs.cons (Tv.one (Lf.clo 214 (Cs.cons .str Cs.nil))) Tvs.nil)),(Rt.v (Tv.one (Lf.int .i64))),fun n a=>B3a n a.1 a.2.1.1⟩
def B63:=Sh.of (Sl.one (Lf.sh J12) (Sl.one (Lf.clo 214 (Cs.cons .str Cs.nil)) (Sl.gap 5 (Sl.one (Lf.int .i64) (Sl.one (Lf.int .i64) (Sl.gap 10 Sl.nil)))))) Rw.nil Ls.nil
def B6o (n:Nat):Tab Int:=[([.b,.r,.l,.r],A8c B63 fun j a=>B2p n j a.1.1 a.1.2.1.1 a.1.2.2.1 a.1.2.2.2.1)]
def D1x:Fn' (Y22×(ByteArray×Unit)) Int:=⟨158,(Tvs.cons Q29 (Tvs.cons (Tv.one Lf.str) Tvs.nil)),(Rt.v (Tv.one (Lf.int .i64))),fun n a=>B2w n a.1.1 a.1.2.1 a.1.2.2 a.2.1⟩
def C7u:Fn' (Y22×Unit) Bool:=⟨81,Q47,(Rt.v (Tv.one Lf.bool)),fun n a=>B8t n a.1.1 a.1.2.1 a.1.2.2⟩
def D2m:=Sh.of (Sl.gap 1 (Sl.k (Kf.box 104 0) (Sl.gap 3 (Sl.one (Lf.int .i64) (Sl.gap 24 (Sl.one (Lf.sh .str) (Sl.one (Lf.int .i64) (Sl.one (Lf.int .i64) (Sl.gap 35 Sl.nil))))))))) (Rw.box 104 J15 Q28 Rw.nil) Ls.nil
def D2l:=Sh.of (Sl.gap 1 (Sl.k (Kf.box 104 0) (Sl.gap 8 (Sl.one (Lf.sh J12) (Sl.one (Lf.int .i64) (Sl.one (Lf.int .i64) (Sl.gap 55 Sl.nil))))))) (Rw.box 104 J15 Q28 Rw.nil) Ls.nil
def D7u (n:Nat):Tab Bool:=[([.b,.r,.l,.r,.r,.r],A8c D2m fun j a=>B5x n j a.1.1 a.1.2.1 a.1.2.2.1 a.1.2.2.2.1 a.2.1.1 a.2.1.2.1 a.2.1.2.2.1),
  ([.b,.r,.l,.r],A8c D2l fun j a=>B7b n j a.1.1 a.1.2.1 a.1.2.2.1 a.2.1.1 a.2.1.2.1 a.2.1.2.2.1)]
def D1w:Fn' (Y24×Unit) Bool:=⟨32,Q13,(Rt.v (Tv.one Lf.bool)),fun n a=>C4q n a.1⟩
def D68:=Sh.of (Sl.gap 1 (Sl.k (Kf.box 104 0) (Sl.gap 4 (Sl.one (Lf.sh J15) (Sl.one (Lf.int .i64) (Sl.one (Lf.int .i64) (Sl.gap 28 Sl.nil))))))) (Rw.box 104 J16 (Ls.cons (Lf.sh J15) Ls.nil) Rw.nil) Ls.nil
def E3e (n:Nat):Tab Bool:=[([.b,.r,.l,.r],A8c D68 fun j a=>B7s n j a.1.1 a.1.2.1 a.1.2.2.1 a.2.1.1)]
def D07:Fn' (Y16×(Y1×Unit)) Bool:=⟨159,(Tvs.cons Q70 Q49),(Rt.v (Tv.one Lf.bool)),fun n a=>C5c n a.1.1 a.1.2.1 a.1.2.2.1 a.1.2.2.2.1 a.1.2.2.2.2.1 a.1.2.2.2.2.2.1 a.1.2.2.2.2.2.2 a.2.1.1 a.2.1.2.1 a.2.1.2.2⟩
def D27:Fn' (Y22×(Y4×Unit)) Bool:=⟨82,Q62,(Rt.v (Tv.one Lf.bool)),fun n a=>C2t n a.1.1 a.1.2.1 a.1.2.2 a.2.1⟩
def D6d:=Sh.of (Sl.gap 2 (Sl.k (Kf.box 168 0) (Sl.gap 12 (Sl.one (Lf.sh J4) (Sl.one (Lf.int .i64) (Sl.one (Lf.int .i64) (Sl.gap 13 Sl.nil))))))) (Rw.box 168 J15 Q28 Rw.nil) Ls.nil
def E3j (n:Nat):Tab Bool:=[([.b,.r,.l,.r,.r],A8c D6d fun j a=>B9g n j a.1.1 a.1.2.1 a.1.2.2.1 a.2.1.1 a.2.1.2.1 a.2.1.2.2.1)]
def D25:Fn' (Y22×(Y4×Unit)) Y4:=⟨84,Q62,(Rt.v (Tv.one (Lf.od J4))),fun n a=>B7w n a.1.1 a.1.2.1 a.1.2.2 a.2.1⟩
def D6c:=Sh.of (Sl.gap 2 (Sl.k (Kf.box 168 0) (Sl.k (Kf.box 232 0) (Sl.gap 1 (Sl.k (Kf.ow 360) (Sl.gap 4 (Sl.one (Lf.sh .str) (Sl.one (Lf.int .i64) (Sl.one (Lf.int .i64) (Sl.gap 15 Sl.nil)))))))))) (Rw.box 168 J15 Q28 (Rw.box 232 J5 (Ls.cons (Lf.sh J4) Ls.nil) (Rw.data 360 J4 Rw.nil))) Ls.nil
def E3i (n:Nat):Tab Y4:=[([.b,.r,.l,.r,.r],A8c D6c fun j a=>B9f n j a.1.1 a.1.2.1 a.1.2.2.1 a.2.1.1 a.2.1.2.1 a.2.1.2.2.1 a.2.2.1.1 a.2.2.2.1)]
def C7y:Fn' (Y1×(Y1×Unit)) Bool:=⟨160,(Tvs.cons Q35 Q49),(Rt.v (Tv.one Lf.bool)),fun n a=>C20 n a.1.1 a.1.2.1 a.1.2.2 a.2.1.1 a.2.1.2.1 a.2.1.2.2⟩
def C7r:Fn' (Y4×(Y4×Unit)) Bool:=⟨83,Q31,(Rt.v (Tv.one Lf.bool)),fun n a=>C1z n a.1 a.2.1⟩
def D2h:=Sh.of (Sl.one (Lf.sh J4) (Sl.one (Lf.sh J4) (Sl.gap 3 (Sl.one (Lf.int .i64) (Sl.gap 35 Sl.nil))))) Rw.nil Ls.nil
def D7r (n:Nat):Tab Bool:=[([.b,.r,.l,.r],A8c D2h fun j a=>B96 n j a.1.1 a.1.2.1 a.1.2.2.1)]
def C9y:Fn' (Y22×(Y7×Unit)) Bool:=⟨33,(Tvs.cons Q29 (Tvs.cons (Tv.one (Lf.sh J5)) Tvs.nil)),(Rt.v (Tv.one Lf.bool)),fun n a=>B8q n a.1.1 a.1.2.1 a.1.2.2 a.2.1⟩
def D43:=Sh.of (Sl.gap 1 (Sl.one (Lf.sh J5) (Sl.k (Kf.box 168 0) (Sl.gap 12 (Sl.one (Lf.sh J5) (Sl.one (Lf.int .i64) (Sl.one (Lf.int .i64) (Sl.gap 27 Sl.nil)))))))) (Rw.box 168 J15 Q28 Rw.nil) Ls.nil
def E0w (n:Nat):Tab Bool:=[([.b,.r,.l,.r,.r],A8c D43 fun j a=>B6r n j a.1.1 a.1.2.1 a.1.2.2.1 a.1.2.2.2.1 a.2.1.1 a.2.1.2.1 a.2.1.2.2.1)]
def D5p:Fn' (Y30×Unit) Bool:=⟨10,Q33,(Rt.v (Tv.one Lf.bool)),fun n a=>C1j n a.1.1 a.1.2⟩
def D7m:=Sh.of (Sl.gap 1 (Sl.k (Kf.box 104 0) (Sl.gap 19 (Sl.one (Lf.sh J15) (Sl.one (Lf.int .i64) (Sl.one (Lf.int .i64) (Sl.gap 14 Sl.nil))))))) (Rw.box 104 J20 Q14 Rw.nil) Ls.nil
def E4w (n:Nat):Tab Bool:=[([.b,.r,.l,.r,.r],A8c D7m fun j a=>C0d n j a.1.1 a.1.2.1 a.1.2.2.1 a.2.1.1 a.2.1.2.1)]
def C60:Fn' Z1 (List ByteArray):=⟨178,Q1,(Rt.v (Tv.one (Lf.od .str))),fun n a=>B8f n a.1⟩
def C5z:Fn' (Y22×Unit) Y22:=⟨101,Q47,(Rt.v Q30),fun n a=>B8e n a.1.1 a.1.2.1 a.1.2.2⟩
def C83:Fn' (Y22×Unit) Y27:=⟨45,Q47,(Rt.v Q60),fun n a=>C45 n a.1.1 a.1.2.1 a.1.2.2⟩
def C6y:Fn' (Y27×Unit) Y22:=⟨130,Q68,(Rt.v Q30),fun n a=>B9b n a.1.1 a.1.2.1 a.1.2.2.1 a.1.2.2.2.1 a.1.2.2.2.2.1 a.1.2.2.2.2.2⟩
def B7i:Fn' (Y19×(Y19×Unit)) Bool:=⟨112,(Tvs.cons (Tv.one (Lf.sh J12)) (Tvs.cons (Tv.one (Lf.sh J12)) Tvs.nil)),(Rt.v (Tv.one Lf.bool)),fun n a=>B3z n a.1 a.2.1⟩
def C0r:=Sh.of (Sl.one (Lf.sh J12) (Sl.one (Lf.sh J12) (Sl.gap 10 (Sl.one (Lf.int .i64) (Sl.one (Lf.int .i64) (Sl.gap 12 Sl.nil)))))) Rw.nil Ls.nil
def C1t (n:Nat):Tab Bool:=[([.b,.r,.l,.r,.r],A8c C0r fun j a=>B3d n j a.1.1 a.1.2.1 a.1.2.2.1 a.1.2.2.2.1)]
def B91:Fn' ((List ByteArray)×Z1) Bool:=⟨113,(Tvs.cons (Tv.one (Lf.sh .str)) Q1),(Rt.v (Tv.one Lf.bool)),fun n a=>B4g n a.1 a.2.1⟩
def C2h:=Sh.of (Sl.one (Lf.sh .str) (Sl.one (Lf.sh .str) (Sl.gap 10 (Sl.one (Lf.int .i64) (Sl.one (Lf.int .i64) (Sl.gap 12 Sl.nil)))))) Rw.nil Ls.nil
def C3s (n:Nat):Tab Bool:=[([.b,.r,.l,.r,.r],A8c C2h fun j a=>B3q n j a.1.1 a.1.2.1 a.1.2.2.1 a.1.2.2.2.1)]
def C76:Fn' (Y27×(Y27×Unit)) Bool:=⟨63,(Tvs.cons Q61 Q68),(Rt.v (Tv.one Lf.bool)),fun n a=>B6h n a.1.1 a.1.2.1 a.1.2.2.1 a.1.2.2.2.1 a.1.2.2.2.2.1 a.1.2.2.2.2.2 a.2.1.1 a.2.1.2.1 a.2.1.2.2.1 a.2.1.2.2.2.1 a.2.1.2.2.2.2.1 a.2.1.2.2.2.2.2⟩
def D1z:Fn' (Y27×Unit) Bool:=⟨61,Q68,(Rt.v (Tv.one Lf.bool)),fun n a=>C19 n a.1.1 a.1.2.1 a.1.2.2.1 a.1.2.2.2.1 a.1.2.2.2.2.1 a.1.2.2.2.2.2⟩
def D08:Fn' (Int×Unit) ByteArray:=⟨176,Q3,(Rt.v (Tv.one Lf.str)),fun n a=>C5d n a.1⟩
def C72:Fn' (Int×Unit) ByteArray:=⟨223,Q3,(Rt.v (Tv.one Lf.str)),fun n a=>C35 n a.1⟩
def C7s:Fn' (Int×Unit) ByteArray:=⟨224,Q3,(Rt.v (Tv.one Lf.str)),fun n a=>B51 n a.1⟩
def D2i:=Sh.of (Sl.one (Lf.int .i64) (Sl.gap 2 (Sl.one Lf.str (Sl.gap 28 Sl.nil)))) Rw.nil Ls.nil
def D7s (n:Nat):Tab ByteArray:=[([.b,.l,.r,.r,.r,.r],A8c D2i fun j a=>B97 n j a.1.1 a.1.2.1)]
def C7z:Fn' (Y1×Unit) ByteArray:=⟨177,Q49,(Rt.v (Tv.one Lf.str)),fun n a=>B3u n a.1.1 a.1.2.1 a.1.2.2⟩
def D2o:=Sh.of (Sl.gap 1 (Sl.k (Kf.box 104 0) (Sl.gap 1 (Sl.k (Kf.ow 232) (Sl.one (Lf.int .i64) (Sl.gap 63 Sl.nil)))))) (Rw.box 104 J4 Q34 (Rw.data 232 (.int .u8) Rw.nil)) Ls.nil
def D7w (n:Nat):Tab ByteArray:=[([.b,.r,.l,.r,.r,.r],A8c D2o fun j a=>B4i n j a.1.1 a.2.1.1 a.2.1.2.1 a.2.1.2.2.1 a.2.2.1)]
def C7p:Fn' (Y16×Unit) ByteArray:=⟨99,Q74,(Rt.v (Tv.one Lf.str)),fun n a=>C1y n a.1.1 a.1.2.1 a.1.2.2.1 a.1.2.2.2.1 a.1.2.2.2.2.1 a.1.2.2.2.2.2.1 a.1.2.2.2.2.2.2⟩
def D24:Fn' Z1 ByteArray:=⟨100,Q1,(Rt.v (Tv.one Lf.str)),fun n a=>B7u n a.1⟩
def D6b:=Sh.of (Sl.gap 3 (Sl.one Lf.str (Sl.gap 2 (Sl.one (Lf.sh .str) (Sl.one (Lf.int .i64) (Sl.one (Lf.int .i64) (Sl.gap 13 Sl.nil))))))) Rw.nil Ls.nil
def E3h (n:Nat):Tab ByteArray:=[([.b,.r,.l,.r,.r],A8c D6b fun j a=>B7v n j a.1.1 a.1.2.1 a.1.2.2.1 a.1.2.2.2.1)]
def C7q:Fn' (Y27×Unit) ByteArray:=⟨44,Q68,(Rt.v (Tv.one Lf.str)),fun n a=>B38 n a.1.1 a.1.2.1 a.1.2.2.1 a.1.2.2.2.1 a.1.2.2.2.2.1 a.1.2.2.2.2.2⟩
def D2g:=Sh.of (Sl.gap 1 (Sl.k (Kf.box 104 0) (Sl.gap 1 (Sl.one Lf.str (Sl.gap 13 (Sl.one (Lf.sh J12) (Sl.one (Lf.int .i64) (Sl.one (Lf.int .i64) (Sl.gap 48 Sl.nil))))))))) (Rw.box 104 J19 Q59 Rw.nil) Ls.nil
def D7q (n:Nat):Tab ByteArray:=[([.b,.r,.l,.r,.t,.r,.b,.r,.l,.r,.r],A8c D2g fun j a=>B78 n j a.1.1 a.1.2.1 a.1.2.2.1 a.1.2.2.2.1 a.2.1.1 a.2.1.2.1 a.2.1.2.2.1 a.2.1.2.2.2.1 a.2.1.2.2.2.2.1 a.2.1.2.2.2.2.2.1)]
def C5y:Fn' (Y1×Unit) Bool:=⟨134,Q49,(Rt.v (Tv.one Lf.bool)),fun n a=>C22 n a.1.1 a.1.2.1 a.1.2.2⟩
def B48:Fn' (Y4×(Unit×Unit)) Int:=⟨197,(Tvs.cons (Tv.one (Lf.sh J4)) (Tvs.cons (Tv.one (Lf.clo 134 Cs.nil)) Tvs.nil)),(Rt.v (Tv.one (Lf.int .i64))),fun n a=>B35 n a.1⟩
def B5m:=Sh.of (Sl.one (Lf.sh J4) (Sl.one (Lf.clo 134 Cs.nil) (Sl.gap 5 (Sl.one (Lf.int .i64) (Sl.one (Lf.int .i64) (Sl.gap 10 Sl.nil)))))) Rw.nil Ls.nil
def B67 (n:Nat):Tab Int:=[([.b,.r,.l,.r],A8c B5m fun j a=>B2l n j a.1.1 a.1.2.2.1 a.1.2.2.2.1)]
def B43:Fn' (Y4×(Unit×Unit)) Bool:=⟨133,(Tvs.cons (Tv.one (Lf.sh J4)) (Tvs.cons (Tv.one (Lf.clo 134 Cs.nil)) Tvs.nil)),(Rt.v (Tv.one Lf.bool)),fun n a=>B31 n a.1⟩
def C80:Fn' (Y4×Unit) Bool:=⟨64,(Tvs.cons (Tv.one (Lf.sh J4)) Tvs.nil),(Rt.v (Tv.one Lf.bool)),fun n a=>B8w n a.1⟩
def D00:Fn' Z3 Bool:=⟨25,Q80,(Rt.v (Tv.one Lf.bool)),fun n a=>C58 n a.1.1 a.1.2.1 a.1.2.2.1 a.1.2.2.2.1 a.1.2.2.2.2.1 a.1.2.2.2.2.2.1 a.1.2.2.2.2.2.2.1 a.1.2.2.2.2.2.2.2.1 a.1.2.2.2.2.2.2.2.2.1 a.1.2.2.2.2.2.2.2.2.2⟩
def C77:Fn' (Y4×Unit) ByteArray:=⟨102,(Tvs.cons (Tv.one (Lf.sh J4)) Tvs.nil),(Rt.v (Tv.one Lf.str)),fun n a=>B7y n a.1⟩
def D18:=Sh.of (Sl.gap 3 (Sl.k (Kf.ow 232) (Sl.gap 3 (Sl.one (Lf.sh J4) (Sl.one (Lf.int .i64) (Sl.one (Lf.int .i64) (Sl.gap 11 Sl.nil))))))) (Rw.data 232 .str Rw.nil) Ls.nil
def D6l (n:Nat):Tab ByteArray:=[([.b,.r,.l,.r,.r],A8c D18 fun j a=>B6n n j a.1.1 a.1.2.1 a.1.2.2.1 a.2.1)]
def C70:Fn' Z3 ByteArray:=⟨46,Q80,(Rt.v (Tv.one Lf.str)),fun n a=>B4h n a.1.1 a.1.2.1 a.1.2.2.1 a.1.2.2.2.1 a.1.2.2.2.2.1 a.1.2.2.2.2.2.1 a.1.2.2.2.2.2.2.1 a.1.2.2.2.2.2.2.2.1 a.1.2.2.2.2.2.2.2.2.1 a.1.2.2.2.2.2.2.2.2.2⟩
def C9u:Fn' (Y30×Unit) ByteArray:=⟨17,Q33,(Rt.v (Tv.one Lf.str)),fun n a=>C3g n a.1.1 a.1.2⟩
def D42:=Sh.of (Sl.gap 1 (Sl.k (Kf.box 104 0) (Sl.gap 1 (Sl.one Lf.str (Sl.gap 1 (Sl.k (Kf.box 360 0) (Sl.gap 7 (Sl.one (Lf.sh J15) (Sl.one (Lf.int .i64) (Sl.one (Lf.int .i64) (Sl.gap 15 (Sl.one (Lf.sh J5) (Sl.one (Lf.int .i64) (Sl.one (Lf.int .i64) (Sl.gap 14 Sl.nil))))))))))))))) (Rw.box 104 J20 Q14 (Rw.box 360 J15 Q28 Rw.nil)) Ls.nil
def D41:=Sh.of (Sl.gap 1 (Sl.k (Kf.box 104 0) (Sl.gap 1 (Sl.one Lf.str (Sl.gap 9 (Sl.one (Lf.sh J15) (Sl.one (Lf.int .i64) (Sl.one (Lf.int .i64) (Sl.gap 32 Sl.nil))))))))) (Rw.box 104 J20 Q14 Rw.nil) Ls.nil
def E0v (n:Nat):Tab ByteArray:=[([.b,.r,.r,.r,.b,.l,.r,.r,.p,.b,.r,.l,.r,.r,.r],A2r D42 fun i j a=>B89 n (fun y0 y1 y2 y3 y4 y5=>B50 n i y0 y1 y2 y3 y4 y5) j a.1.1 a.1.2.1 a.1.2.2.1 a.1.2.2.2.1 a.1.2.2.2.2.1 a.1.2.2.2.2.2.1 a.1.2.2.2.2.2.2.1 a.2.1.1 a.2.1.2.1 a.2.2.1.1 a.2.2.1.2.1 a.2.2.1.2.2.1),
  ([.b,.r,.l,.r,.r,.r],A8c D41 fun j a=>B50 n j a.1.1 a.1.2.1 a.1.2.2.1 a.1.2.2.2.1 a.2.1.1 a.2.1.2.1)]
def D28:Fn' (Y24×Unit) Bool:=⟨49,Q13,(Rt.v (Tv.one Lf.bool)),fun n a=>C6r n a.1⟩
def D6e:=Sh.of (Sl.gap 1 (Sl.k (Kf.box 104 0) (Sl.gap 8 (Sl.one (Lf.sh J15) (Sl.one (Lf.int .i64) (Sl.one (Lf.int .i64) (Sl.gap 24 Sl.nil))))))) (Rw.box 104 J16 (Ls.cons (Lf.sh J15) Ls.nil) Rw.nil) Ls.nil
def E3k (n:Nat):Tab Bool:=[([.b,.r,.l,.r,.r],A8c D6e fun j a=>B6i n j a.1.1 a.1.2.1 a.1.2.2.1 a.2.1.1)]
def D5s:Fn' (Y30×Unit) Bool:=⟨19,Q33,(Rt.v (Tv.one Lf.bool)),fun n a=>C6e n a.1.1 a.1.2⟩
def D7p:=Sh.of (Sl.gap 1 (Sl.k (Kf.box 104 0) (Sl.gap 19 (Sl.one (Lf.sh J15) (Sl.one (Lf.int .i64) (Sl.one (Lf.int .i64) (Sl.gap 14 Sl.nil))))))) (Rw.box 104 J20 Q14 Rw.nil) Ls.nil
def E4y (n:Nat):Tab Bool:=[([.b,.r,.l,.r,.r],A8c D7p fun j a=>C0h n j a.1.1 a.1.2.1 a.1.2.2.1 a.2.1.1 a.2.1.2.1)]
def D2b:Fn' (Y27×Unit) Bool:=⟨73,Q68,(Rt.v (Tv.one Lf.bool)),fun n a=>C50 n a.1.1 a.1.2.1 a.1.2.2.1 a.1.2.2.2.1 a.1.2.2.2.2.1 a.1.2.2.2.2.2⟩
def C7b:Fn' Unit (List ByteArray):=⟨217,Tvs.nil,(Rt.v (Tv.one (Lf.od .str))),fun n a=>C38 n⟩
def C8d:Fn' (Int×Unit) ByteArray:=⟨225,Q3,(Rt.v (Tv.one Lf.str)),fun n a=>C49 n a.1⟩
def C89:Fn' (Int×Unit) ByteArray:=⟨226,Q3,(Rt.v (Tv.one Lf.str)),fun n a=>B6a n a.1⟩
def D0h:Fn' (Int×Unit) Int:=⟨227,Q3,(Rt.v (Tv.one (Lf.int .u8))),fun n a=>B5j n a.1⟩
def C8c:Fn' (Y1×Unit) ByteArray:=⟨180,Q49,(Rt.v (Tv.one Lf.str)),fun n a=>C0k n a.1.1 a.1.2.1 a.1.2.2⟩
def D2t:=Sh.of (Sl.gap 1 (Sl.k (Kf.box 104 0) (Sl.gap 1 (Sl.k (Kf.ow 232) (Sl.one (Lf.int .i64) (Sl.gap 63 Sl.nil)))))) (Rw.box 104 J4 Q34 (Rw.data 232 (.int .u8) Rw.nil)) Ls.nil
def D80 (n:Nat):Tab ByteArray:=[([.b,.r,.l,.r,.r,.r,.r],A8c D2t fun j a=>B45 n j a.1.1 a.2.1.1 a.2.1.2.1 a.2.1.2.2.1 a.2.2.1)]
def D0u:Fn' (Y16×Unit) (List ByteArray):=⟨179,Q74,(Rt.v (Tv.one (Lf.od .str))),fun n a=>C06 n a.1.1 a.1.2.1 a.1.2.2.1 a.1.2.2.2.1 a.1.2.2.2.2.1 a.1.2.2.2.2.2.1 a.1.2.2.2.2.2.2⟩
def D0v:Fn' (Y27×Unit) (List ByteArray):=⟨104,Q68,(Rt.v (Tv.one (Lf.od .str))),fun n a=>C07 n a.1.1 a.1.2.1 a.1.2.2.1 a.1.2.2.2.1 a.1.2.2.2.2.1 a.1.2.2.2.2.2⟩
def D4r:=Sh.of (Sl.gap 1 (Sl.k (Kf.box 104 0) (Sl.gap 1 (Sl.k (Kf.ow 232) (Sl.gap 15 (Sl.one (Lf.sh J12) (Sl.one (Lf.int .i64) (Sl.one (Lf.int .i64) (Sl.gap 44 Sl.nil))))))))) (Rw.box 104 J19 Q59 (Rw.data 232 .str Rw.nil)) Ls.nil
def E1d (n:Nat):Tab (List ByteArray):=[([.b,.r,.l,.t,.r,.b,.r,.l,.r,.r],A8c D4r fun j a=>B8o n j a.1.1 a.1.2.1 a.1.2.2.1 a.2.1.1 a.2.1.2.1 a.2.1.2.2.1 a.2.1.2.2.2.1 a.2.1.2.2.2.2.1 a.2.1.2.2.2.2.2.1 a.2.2.1)]
def C8m:Fn' Z1 ByteArray:=⟨103,Q1,(Rt.v (Tv.one Lf.str)),fun n a=>C0o n a.1⟩
def D30:=Sh.of (Sl.gap 3 (Sl.one Lf.str (Sl.gap 2 (Sl.one (Lf.sh .str) (Sl.one (Lf.int .i64) (Sl.one (Lf.int .i64) (Sl.gap 13 Sl.nil))))))) Rw.nil Ls.nil
def D86 (n:Nat):Tab ByteArray:=[([.b,.r,.l,.r,.r],A8c D30 fun j a=>B62 n j a.1.1 a.1.2.1 a.1.2.2.1 a.1.2.2.2.1)]
def C87:Fn' (Y27×Unit) ByteArray:=⟨47,Q68,(Rt.v (Tv.one Lf.str)),fun n a=>C0i n a.1.1 a.1.2.1 a.1.2.2.1 a.1.2.2.2.1 a.1.2.2.2.2.1 a.1.2.2.2.2.2⟩
def C8l:Fn' (Y4×Unit) Bool:=⟨71,(Tvs.cons (Tv.one (Lf.sh J4)) Tvs.nil),(Rt.v (Tv.one Lf.bool)),fun n a=>B8z n a.1⟩
def D2z:=Sh.of (Sl.one (Lf.sh J4) (Sl.gap 4 (Sl.one (Lf.sh J4) (Sl.one (Lf.int .i64) (Sl.one (Lf.int .i64) (Sl.gap 15 Sl.nil)))))) Rw.nil Ls.nil
def D85 (n:Nat):Tab Bool:=[([.b,.r,.l,.r],A8c D2z fun j a=>B7g n j a.1.1 a.1.2.1 a.1.2.2.1 a.1.2.2.2.1)]
def C7a:Fn' (Y27×Unit) Bool:=⟨72,Q68,(Rt.v (Tv.one Lf.bool)),fun n a=>B82 n a.1.1 a.1.2.1 a.1.2.2.1 a.1.2.2.2.1 a.1.2.2.2.2.1 a.1.2.2.2.2.2⟩
def D0e:Fn' Z3 Bool:=⟨27,Q80,(Rt.v (Tv.one Lf.bool)),fun n a=>C5h n a.1.1 a.1.2.1 a.1.2.2.1 a.1.2.2.2.1 a.1.2.2.2.2.1 a.1.2.2.2.2.2.1 a.1.2.2.2.2.2.2.1 a.1.2.2.2.2.2.2.2.1 a.1.2.2.2.2.2.2.2.2.1 a.1.2.2.2.2.2.2.2.2.2⟩
def C8n:Fn' (Y4×Unit) (List ByteArray):=⟨105,(Tvs.cons (Tv.one (Lf.sh J4)) Tvs.nil),(Rt.v (Tv.one (Lf.od .str))),fun n a=>B90 n a.1⟩
def D31:=Sh.of (Sl.gap 3 (Sl.k (Kf.ow 232) (Sl.gap 3 (Sl.one (Lf.sh J4) (Sl.one (Lf.int .i64) (Sl.one (Lf.int .i64) (Sl.gap 10 Sl.nil))))))) (Rw.data 232 .str Rw.nil) Ls.nil
def D87 (n:Nat):Tab (List ByteArray):=[([.b,.r,.l,.r,.r],A8c D31 fun j a=>B7h n j a.1.1 a.1.2.1 a.1.2.2.1 a.2.1)]
def C78:Fn' Z3 ByteArray:=⟨48,Q80,(Rt.v (Tv.one Lf.str)),fun n a=>C0z n a.1.1 a.1.2.1 a.1.2.2.1 a.1.2.2.2.1 a.1.2.2.2.2.1 a.1.2.2.2.2.2.1 a.1.2.2.2.2.2.2.1 a.1.2.2.2.2.2.2.2.1 a.1.2.2.2.2.2.2.2.2.1 a.1.2.2.2.2.2.2.2.2.2⟩
def D0b:Fn' (Y30×Unit) ByteArray:=⟨18,Q33,(Rt.v (Tv.one Lf.str)),fun n a=>C5f n a.1.1 a.1.2⟩
def D4c:=Sh.of (Sl.gap 1 (Sl.k (Kf.box 104 0) (Sl.gap 1 (Sl.one Lf.str (Sl.gap 1 (Sl.k (Kf.box 360 0) (Sl.gap 7 (Sl.one (Lf.sh J15) (Sl.one (Lf.int .i64) (Sl.one (Lf.int .i64) (Sl.gap 20 (Sl.one (Lf.sh J5) (Sl.one (Lf.int .i64) (Sl.one (Lf.int .i64) (Sl.gap 14 Sl.nil))))))))))))))) (Rw.box 104 J20 Q14 (Rw.box 360 J15 Q28 Rw.nil)) Ls.nil
def D4b:=Sh.of (Sl.gap 1 (Sl.k (Kf.box 104 0) (Sl.gap 1 (Sl.one Lf.str (Sl.gap 9 (Sl.one (Lf.sh J15) (Sl.one (Lf.int .i64) (Sl.one (Lf.int .i64) (Sl.gap 37 Sl.nil))))))))) (Rw.box 104 J20 Q14 Rw.nil) Ls.nil
def E14 (n:Nat):Tab ByteArray:=[([.b,.r,.r,.r,.b,.l,.r,.r,.p,.b,.r,.l,.r,.r,.r],A2r D4c fun i j a=>B8j n (fun y0 y1 y2 y3 y4 y5=>B53 n i y0 y1 y2 y3 y4 y5) j a.1.1 a.1.2.1 a.1.2.2.1 a.1.2.2.2.1 a.1.2.2.2.2.1 a.1.2.2.2.2.2.1 a.1.2.2.2.2.2.2.1 a.2.1.1 a.2.1.2.1 a.2.2.1.1 a.2.2.1.2.1 a.2.2.1.2.2.1),
  ([.b,.r,.l,.r,.r,.r],A8c D4b fun j a=>B53 n j a.1.1 a.1.2.1 a.1.2.2.1 a.1.2.2.2.1 a.2.1.1 a.2.1.2.1)]
def D7l:Fn' (ByteArray×(Int×Unit)) (List ByteArray):=⟨36,(Tvs.cons (Tv.one Lf.str) (Tvs.cons (Tv.one (Lf.int .u8)) Tvs.nil)),(Rt.v (Tv.one (Lf.od .str))),fun n a=>C8t n a.1 a.2.1⟩
def E0u:=Sh.of (Sl.one Lf.str (Sl.one (Lf.int .u8) (Sl.gap 3 (Sl.k (Kf.ow 360) (Sl.one (Lf.int .i64) (Sl.one (Lf.int .i64) (Sl.gap 27 Sl.nil))))))) (Rw.data 360 .str Rw.nil) Ls.nil
def E6a (n:Nat):Tab (List ByteArray):=[([.b,.r,.l,.r,.r,.r],A8c E0u fun j a=>B9u n j a.1.1 a.1.2.1 a.1.2.2.1 a.1.2.2.2.1 a.2.1)]
def D22:Fn' (ByteArray×Unit) (List ByteArray):=⟨90,(Tvs.cons (Tv.one Lf.str) Tvs.nil),(Rt.v (Tv.one (Lf.od .str))),fun n a=>C4t n a.1⟩
def B92:Fn' ((List ByteArray)×(ByteArray×Unit)) Int:=⟨92,(Tvs.cons (Tv.one (Lf.sh .str)) (Tvs.cons (Tv.one Lf.str) Tvs.nil)),(Rt.v (Tv.one (Lf.int .i64))),fun n a=>B2k n a.1 a.2.1⟩
def C2i:=Sh.of (Sl.one (Lf.sh .str) (Sl.one Lf.str (Sl.gap 5 (Sl.one (Lf.int .i64) (Sl.one (Lf.int .i64) (Sl.gap 10 Sl.nil)))))) Rw.nil Ls.nil
def C3t (n:Nat):Tab Int:=[([.b,.r,.l,.r],A8c C2i fun j a=>B2c n j a.1.1 a.1.2.1 a.1.2.2.1 a.1.2.2.2.1)]
def D04:Fn' (Int×Unit) Int:=⟨241,(Tvs.cons (Tv.one (Lf.int .u8)) Tvs.nil),(Rt.v (Tv.one (Lf.int .i64))),fun n a=>C3k n a.1⟩
def D47:=Sh.of (Sl.one (Lf.int .u8) (Sl.gap 3 (Sl.one (Lf.int .i64) (Sl.gap 8 Sl.nil)))) Rw.nil Ls.nil
def E10 (n:Nat):Tab Int:=[([.b,.r,.l,.r],A8c D47 fun j a=>B8h n j a.1.1 a.1.2.1)]
def D06:Fn' (ByteArray×Unit) (ByteArray×(Bool×Unit)):=⟨218,(Tvs.cons (Tv.one Lf.str) Tvs.nil),(Rt.tup (Tvs.cons (Tv.one Lf.str) (Tvs.cons (Tv.one Lf.bool) Tvs.nil))),fun n a=>C5b n a.1⟩
def D49:=Sh.of (Sl.one Lf.str (Sl.gap 3 (Sl.k (Kf.ow 296) (Sl.one (Lf.int .i64) (Sl.gap 52 Sl.nil))))) (Rw.data 296 (.int .u8) Rw.nil) Ls.nil
def E12 (n:Nat):Tab (ByteArray×(Bool×Unit)):=[([.b,.r,.l,.r,.r],A8c D49 fun j a=>B5h n j a.1.1 a.1.2.1 a.2.1)]
def C7w:Fn' (ByteArray×Unit) (Int×(Bool×Unit)):=⟨219,(Tvs.cons (Tv.one Lf.str) Tvs.nil),(Rt.tup (Tvs.cons (Tv.one (Lf.int .i64)) (Tvs.cons (Tv.one Lf.bool) Tvs.nil))),fun n a=>B8u n a.1⟩
def D2n:=Sh.of (Sl.one Lf.str (Sl.gap 3 (Sl.one (Lf.int .i64) (Sl.one (Lf.int .i64) (Sl.one (Lf.int .i64) (Sl.gap 48 Sl.nil)))))) Rw.nil Ls.nil
def D7v (n:Nat):Tab (Int×(Bool×Unit)):=[([.b,.r,.l,.r,.r,.r,.r,.r],A8c D2n fun j a=>B55 n j a.1.1 a.1.2.1 a.1.2.2.1 a.1.2.2.2.1)]
def C7x:Fn' (ByteArray×Unit) (Y1×(Bool×Unit)):=⟨166,(Tvs.cons (Tv.one Lf.str) Tvs.nil),(Rt.tup (Tvs.cons Q35 (Tvs.cons (Tv.one Lf.bool) Tvs.nil))),fun n a=>B8v n a.1⟩
def D23:Fn' Z1 Y16:=⟨165,Q1,(Rt.v Q70),fun n a=>C4u n a.1⟩
def D6a:=Sh.of (Sl.gap 2 (Sl.k (Kf.box 168 0) (Sl.k (Kf.box 232 0) (Sl.gap 16 (Sl.one (Lf.sh .str) (Sl.one (Lf.int .i64) (Sl.one (Lf.int .i64) (Sl.gap 24 Sl.nil)))))))) (Rw.box 168 J12 Q69 (Rw.box 232 J12 Q69 Rw.nil)) Ls.nil
def E3g (n:Nat):Tab Y16:=[([.b,.r,.l,.r,.r,.r],A8c D6a fun j a=>B4j n j a.1.1 a.1.2.1 a.1.2.2.1 a.2.1.1 a.2.1.2.1 a.2.1.2.2.1 a.2.1.2.2.2.1 a.2.1.2.2.2.2.1 a.2.1.2.2.2.2.2.1 a.2.1.2.2.2.2.2.2.1 a.2.2.1.1 a.2.2.1.2.1 a.2.2.1.2.2.1 a.2.2.1.2.2.2.1 a.2.2.1.2.2.2.2.1 a.2.2.1.2.2.2.2.2.1 a.2.2.1.2.2.2.2.2.2.1)]
def C75:Fn' (Y27×Z1) (Y27×Unit):=⟨164,(Tvs.cons Q60 Q1),(Rt.tup (Tvs.cons Q60 Tvs.nil)),fun n a=>C36 n a.1.1 a.1.2.1 a.1.2.2.1 a.1.2.2.2.1 a.1.2.2.2.2.1 a.1.2.2.2.2.2 a.2.1⟩
def D17:=Sh.of (Sl.k (Kf.box 40 0) (Sl.one (Lf.sh .str) (Sl.gap 42 Sl.nil))) (Rw.box 40 J19 (Ls.cons (Lf.int .i64) (Ls.cons Lf.str (Ls.k (Kf.ow 48) (Ls.k (Kf.ow 49) Q2)))) (Rw.data 48 J12 (Rw.data 49 .str Rw.nil))) (Ls.k (Kf.box 40 0) Ls.nil)
def D6k (n:Nat):Tab (Y27×Unit):=[([.b,.l],A8c D17 fun j a=>B8g n j a.1.1 a.2.1.1 a.2.1.2.1 a.2.1.2.2.1 a.2.1.2.2.2.1 a.2.2.1 a.2.2.2.1)]
def C7v:Fn' (ByteArray×Unit) (Y27×(Bool×Unit)):=⟨89,(Tvs.cons (Tv.one Lf.str) Tvs.nil),(Rt.tup (Tvs.cons Q60 (Tvs.cons (Tv.one Lf.bool) Tvs.nil))),fun n a=>C44 n a.1⟩
def D09:Fn' Z1 Y4:=⟨91,Q1,(Rt.v (Tv.one (Lf.od J4))),fun n a=>B9v n a.1⟩
def D4a:=Sh.of (Sl.gap 3 (Sl.k (Kf.ow 232) (Sl.gap 5 (Sl.one (Lf.sh .str) (Sl.one (Lf.int .i64) (Sl.one (Lf.int .i64) (Sl.gap 17 Sl.nil))))))) (Rw.data 232 J4 Rw.nil) Ls.nil
def E13 (n:Nat):Tab Y4:=[([.b,.r,.l,.r,.r],A8c D4a fun j a=>B6s n j a.1.1 a.1.2.1 a.1.2.2.1 a.2.1)]
def C71:Fn' (ByteArray×Unit) ((Int×Z2)×(Bool×Unit)):=⟨37,(Tvs.cons (Tv.one Lf.str) Tvs.nil),(Rt.tup (Tvs.cons (Tv.agg (Ls.cons (Lf.int .i64) (Ls.cons Lf.str (Ls.cons (Lf.od J4) (Ls.cons (Lf.od J4) Q56))))) (Tvs.cons (Tv.one Lf.bool) Tvs.nil))),fun n a=>C34 n a.1⟩
def C6w:Fn' (Y22×(ByteArray×Unit)) Bool:=⟨111,(Tvs.cons Q29 (Tvs.cons (Tv.one (Lf.spt .str 0)) Tvs.nil)),(Rt.v (Tv.one Lf.bool)),fun n a=>C30 n a.1.1 a.1.2.1 a.1.2.2 a.2.1⟩
def B44:Fn' (Y24×((ByteArray×Unit)×Unit)) Int:=⟨110,(Tvs.cons (Tv.one (Lf.sh J15)) (Tvs.cons (Tv.one (Lf.clo 111 (Cs.cons .str Cs.nil))) Tvs.nil)),(Rt.v (Tv.one (Lf.int .i64))),fun n a=>B32 n a.1 a.2.1.1⟩
def B5a:=Sh.of (Sl.one (Lf.sh J15) (Sl.one (Lf.clo 111 (Cs.cons .str Cs.nil)) (Sl.gap 5 (Sl.one (Lf.int .i64) (Sl.one (Lf.int .i64) (Sl.gap 10 Sl.nil)))))) Rw.nil Ls.nil
def B5n (n:Nat):Tab Int:=[([.b,.r,.l,.r],A8c B5a fun j a=>B2h n j a.1.1 a.1.2.1.1 a.1.2.2.1 a.1.2.2.2.1)]
def C9t:Fn' (Y24×(ByteArray×Unit)) Int:=⟨51,(Tvs.cons (Tv.agg (Ls.one (Lf.sh J15))) (Tvs.cons (Tv.one Lf.str) Tvs.nil)),(Rt.v (Tv.one (Lf.int .i64))),fun n a=>B6f n a.1 a.2.1⟩
def B83:Fn' ((List ByteArray)×(ByteArray×Unit)) Bool:=⟨235,(Tvs.cons (Tv.one (Lf.sh .str)) (Tvs.cons (Tv.one Lf.str) Tvs.nil)),(Rt.v (Tv.one Lf.bool)),fun n a=>A7d n a.1 a.2.1⟩
def C84:Fn' (Y24×(Y27×Unit)) Int:=⟨198,(Tvs.cons (Tv.agg (Ls.one (Lf.sh J15))) Q68),(Rt.v (Tv.one (Lf.int .i64))),fun n a=>C26 n a.1 a.2.1.1 a.2.1.2.1 a.2.1.2.2.1 a.2.1.2.2.2.1 a.2.1.2.2.2.2.1 a.2.1.2.2.2.2.2⟩
def C82:Fn' (Y24×Unit) Y24:=⟨145,Q13,(Rt.v (Tv.agg (Ls.one (Lf.od J15)))),fun n a=>C24 n a.1⟩
def D2p:=Sh.of (Sl.gap 2 (Sl.k (Kf.box 168 0) (Sl.k (Kf.box 232 0) (Sl.gap 4 (Sl.one (Lf.sh J15) (Sl.one (Lf.int .i64) (Sl.one (Lf.int .i64) (Sl.gap 12 Sl.nil)))))))) (Rw.box 168 J16 (Ls.k (Kf.ow 176) Ls.nil) (Rw.data 176 J15 (Rw.box 232 J16 (Ls.k (Kf.ow 240) Ls.nil) (Rw.data 240 J15 Rw.nil)))) Ls.nil
def D7x (n:Nat):Tab Y24:=[([.b,.r,.l,.r,.r],A8c D2p fun j a=>B7c n j a.1.1 a.1.2.1 a.1.2.2.1 a.2.2.1 a.2.2.2.2.1)]
def B5r:Fn' (Y24×(Int×(Y24×Unit))) Y24:=⟨199,(Tvs.cons (Tv.one (Lf.od J15)) (Tvs.cons (Tv.one (Lf.int .i64)) (Tvs.cons (Tv.one (Lf.od J15)) Tvs.nil))),(Rt.v (Tv.one (Lf.od J15))),fun n a=>B3k n a.1 a.2.1 a.2.2.1⟩
def B5q:Fn' (Y24×(Int×(Int×Unit))) Y24:=⟨200,(Tvs.cons (Tv.one (Lf.od J15)) Q38),(Rt.v (Tv.one (Lf.od J15))),fun n a=>B4r n a.1 a.2.1 a.2.2.1⟩
def C54:Fn' (Y16×(Y27×Unit)) Bool:=⟨202,(Tvs.cons Q70 (Tvs.cons (Tv.one (Lf.spt J19 0)) Tvs.nil)),(Rt.v (Tv.one Lf.bool)),fun n a=>B95 n a.1.1 a.1.2.1 a.1.2.2.1 a.1.2.2.2.1 a.1.2.2.2.2.1 a.1.2.2.2.2.2.1 a.1.2.2.2.2.2.2 a.2.1⟩
def B47:Fn' (Y19×((Y27×Unit)×Unit)) Int:=⟨213,(Tvs.cons (Tv.one (Lf.sh J12)) (Tvs.cons (Tv.one (Lf.clo 202 (Cs.cons J19 Cs.nil))) Tvs.nil)),(Rt.v (Tv.one (Lf.int .i64))),fun n a=>B34 n a.1 a.2.1.1⟩
def B5e:=Sh.of (Sl.one (Lf.sh J12) (Sl.one (Lf.clo 202 (Cs.cons J19 Cs.nil)) (Sl.gap 5 (Sl.one (Lf.int .i64) (Sl.one (Lf.int .i64) (Sl.gap 10 Sl.nil)))))) Rw.nil Ls.nil
def B65 (n:Nat):Tab Int:=[([.b,.r,.l,.r],A8c B5e fun j a=>B2j n j a.1.1 a.1.2.1.1 a.1.2.2.1 a.1.2.2.2.1)]
def B40:Fn' (Y19×((Y27×Unit)×Unit)) Y19:=⟨201,(Tvs.cons (Tv.one (Lf.od J12)) (Tvs.cons (Tv.one (Lf.clo 202 (Cs.cons J19 Cs.nil))) Tvs.nil)),(Rt.v (Tv.one (Lf.od J12))),fun n a=>B30 n a.1 a.2.1.1⟩
def B59:=Sh.of (Sl.k (Kf.ow 40) (Sl.one (Lf.clo 202 (Cs.cons J19 Cs.nil)) (Sl.gap 3 (Sl.one (Lf.int .i64) (Sl.one (Lf.int .i64) (Sl.gap 35 Sl.nil)))))) (Rw.data 40 J12 Rw.nil) Ls.nil
def B5f (n:Nat):Tab Y19:=[([.b,.r,.l,.r,.r,.r],A8c B59 fun j a=>B2a n j a.1.1.1 a.1.2.1 a.1.2.2.1 a.2.1)]
def C6x:Fn' (Y24×(Y27×Unit)) (Y24×(Int×Unit)):=⟨136,(Tvs.cons (Tv.agg (Ls.one (Lf.sh J15))) Q68),(Rt.tup (Tvs.cons (Tv.agg (Ls.one (Lf.od J15))) Q3)),fun n a=>C31 n a.1 a.2.1.1 a.2.1.2.1 a.2.1.2.2.1 a.2.1.2.2.2.1 a.2.1.2.2.2.2.1 a.2.1.2.2.2.2.2⟩
def D15:=Sh.of (Sl.gap 3 (Sl.k (Kf.box 232 0) (Sl.k (Kf.box 296 0) (Sl.gap 2 (Sl.k (Kf.box 488 0) (Sl.gap 1 (Sl.one (Lf.int .i64) (Sl.gap 136 Sl.nil)))))))) (Rw.box 232 J19 Q59 (Rw.box 296 J16 (Ls.k (Kf.ow 304) Ls.nil) (Rw.data 304 J15 (Rw.box 488 J16 (Ls.k (Kf.ow 496) Ls.nil) (Rw.data 496 J15 Rw.nil))))) Ls.nil
def D6i (n:Nat):Tab (Y24×(Int×Unit)):=[([.b,.l,.r,.t,.r,.b,.r,.l,.r,.r,.r,.r,.r],A8c D15 fun j a=>B6l n j a.1.1 a.2.1.1 a.2.1.2.1 a.2.1.2.2.1 a.2.1.2.2.2.1 a.2.1.2.2.2.2.1 a.2.1.2.2.2.2.2.1 a.2.2.2.1 a.2.2.2.2.2.1)]
def C74:Fn' (Y4×Unit) Y4:=⟨209,(Tvs.cons (Tv.one (Lf.sh J4)) Tvs.nil),(Rt.v (Tv.one (Lf.od J4))),fun n a=>B9e n a.1⟩
def C73:Fn' (Y7×Unit) Y7:=⟨144,(Tvs.cons (Tv.one (Lf.sh J5)) Tvs.nil),(Rt.v (Tv.one (Lf.od J5))),fun n a=>B4y n a.1⟩
def D16:=Sh.of (Sl.gap 3 (Sl.k (Kf.ow 232) (Sl.gap 2 (Sl.one (Lf.sh J5) (Sl.one (Lf.int .i64) (Sl.one (Lf.int .i64) (Sl.gap 12 Sl.nil))))))) (Rw.data 232 J5 Rw.nil) Ls.nil
def D6j (n:Nat):Tab Y7:=[([.b,.r,.l,.r,.r],A8c D16 fun j a=>B6m n j a.1.1 a.1.2.1 a.1.2.2.1 a.2.1)]
def D03:Fn' (Y30×Unit) Y30:=⟨69,Q33,(Rt.v Q17),fun n a=>B56 n a.1.1 a.1.2⟩
def D46:=Sh.of (Sl.gap 2 (Sl.k (Kf.box 168 0) (Sl.k (Kf.box 232 0) (Sl.gap 7 (Sl.one (Lf.sh J6) (Sl.one (Lf.int .i64) (Sl.one (Lf.int .i64) (Sl.gap 14 Sl.nil)))))))) (Rw.box 168 J20 (Ls.k (Kf.ow 176) (Ls.k (Kf.ow 177) Ls.nil)) (Rw.data 176 J15 (Rw.data 177 J6 (Rw.box 232 J20 (Ls.k (Kf.ow 240) (Ls.k (Kf.ow 241) Ls.nil)) (Rw.data 240 J15 (Rw.data 241 J6 Rw.nil)))))) Ls.nil
def E0z (n:Nat):Tab Y30:=[([.b,.r,.l,.r,.r],A8c D46 fun j a=>B8c n j a.1.1 a.1.2.1 a.1.2.2.1 a.2.2.1 a.2.2.2.1 a.2.2.2.2.2.1 a.2.2.2.2.2.2.1)]
def B6e:Fn' (Y12×(Int×(Y12×Unit))) Y12:=⟨137,(Tvs.cons (Tv.one (Lf.od J6)) (Tvs.cons (Tv.one (Lf.int .i64)) (Tvs.cons (Tv.one (Lf.od J6)) Tvs.nil))),(Rt.v (Tv.one (Lf.od J6))),fun n a=>B4x n a.1 a.2.1 a.2.2.1⟩
def B6d:Fn' (Y12×(Int×(Int×Unit))) Y12:=⟨138,(Tvs.cons (Tv.one (Lf.od J6)) Q38),(Rt.v (Tv.one (Lf.od J6))),fun n a=>B4w n a.1 a.2.1 a.2.2.1⟩
def B73:Fn' (Y4×(Int×(Int×Unit))) Y4:=⟨205,(Tvs.cons (Tv.one (Lf.od J4)) Q38),(Rt.v (Tv.one (Lf.od J4))),fun n a=>B58 n a.1 a.2.1 a.2.2.1⟩
def C7t:Fn' (Y22×(Y7×(Y27×Unit))) Y15:=⟨139,(Tvs.cons Q29 (Tvs.cons (Tv.one (Lf.sh J5)) Q68)),Q43,fun n a=>C43 n a.1.1 a.1.2.1 a.1.2.2 a.2.1 a.2.2.1.1 a.2.2.1.2.1 a.2.2.1.2.2.1 a.2.2.1.2.2.2.1 a.2.2.1.2.2.2.2.1 a.2.2.1.2.2.2.2.2⟩
def D2j:=Sh.of (Sl.gap 5 (Sl.k (Kf.box 360 0) (Sl.gap 3 (Sl.k (Kf.ow 616) (Sl.gap 41 (Sl.one (Lf.int .i64) (Sl.one (Lf.int .i64) (Sl.gap 45 Sl.nil)))))))) (Rw.box 360 J19 Q59 (Rw.data 616 J5 Rw.nil)) Ls.nil
def D2k:=Sh.of (Sl.gap 9 (Sl.k (Kf.ow 616) (Sl.gap 1 (Sl.one (Lf.int .i64) (Sl.gap 67 (Sl.one (Lf.int .i64) (Sl.one (Lf.int .i64) (Sl.gap 17 Sl.nil)))))))) (Rw.data 616 J5 Rw.nil) Ls.nil
def D7t (n:Nat):Tab Y15:=[([.b,.r,.t,.r,.f,.r,.b,.r,.l,.r,.r,.r,.r],A8c D2j fun j a=>B79 n j a.1.1 a.1.2.1 a.2.1.1 a.2.1.2.1 a.2.1.2.2.1 a.2.1.2.2.2.1 a.2.1.2.2.2.2.1 a.2.1.2.2.2.2.2.1 a.2.2.1),
  ([.b,.r,.r,.t,.r,.f,.r,.f,.r,.b,.r,.l,.r,.r,.r,.r],A8c D2k fun j a=>B7a n j a.1.1 a.1.2.1 a.1.2.2.1 a.2.1)]
def C81:Fn' (Y30×(Y27×Unit)) (Y30×(Int×Unit)):=⟨65,(Tvs.cons Q16 Q68),(Rt.tup (Tvs.cons Q17 Q3)),fun n a=>C23 n a.1.1 a.1.2 a.2.1.1 a.2.1.2.1 a.2.1.2.2.1 a.2.1.2.2.2.1 a.2.1.2.2.2.2.1 a.2.1.2.2.2.2.2⟩
def B7j:Fn' (Y4×(Y4×Unit)) Bool:=⟨116,Q31,(Rt.v (Tv.one Lf.bool)),fun n a=>B3c n a.1 a.2.1⟩
def C0s:=Sh.of (Sl.one (Lf.sh J4) (Sl.one (Lf.sh J4) (Sl.gap 10 (Sl.one (Lf.int .i64) (Sl.one (Lf.int .i64) (Sl.gap 12 Sl.nil)))))) Rw.nil Ls.nil
def C1u (n:Nat):Tab Bool:=[([.b,.r,.l,.r,.r],A8c C0s fun j a=>B3e n j a.1.1 a.1.2.1 a.1.2.2.1 a.1.2.2.2.1)]
def C85:Fn' (Y4×(Y22×(Y4×Unit))) Bool:=⟨207,(Tvs.cons (Tv.agg (Ls.one (Lf.sh J4))) (Tvs.cons (Tv.one (Lf.spt J15 0)) (Tvs.cons (Tv.one (Lf.spt J5 0)) Tvs.nil))),(Rt.v (Tv.one Lf.bool)),fun n a=>C46 n a.1 a.2.1 a.2.2.1⟩
def B4c:Fn' (Y7×((Y22×(Y4×Unit))×Unit)) Int:=⟨206,(Tvs.cons (Tv.one (Lf.sh J5)) (Tvs.cons (Tv.one (Lf.clo 207 (Cs.cons J15 (Cs.cons J5 Cs.nil)))) Tvs.nil)),(Rt.v (Tv.one (Lf.int .i64))),fun n a=>B3b n a.1 a.2.1.1 a.2.1.2.1⟩
def B64:=Sh.of (Sl.one (Lf.sh J5) (Sl.one (Lf.clo 207 (Cs.cons J15 (Cs.cons J5 Cs.nil))) (Sl.gap 5 (Sl.one (Lf.int .i64) (Sl.one (Lf.int .i64) (Sl.gap 10 Sl.nil)))))) Rw.nil Ls.nil
def B6p (n:Nat):Tab Int:=[([.b,.r,.l,.r],A8c B64 fun j a=>B2q n j a.1.1 a.1.2.1.1 a.1.2.1.2.1 a.1.2.2.1 a.1.2.2.2.1)]
def D26:Fn' (Y22×(Y7×(Y4×Unit))) Int:=⟨140,Q71,(Rt.v (Tv.one (Lf.int .i64))),fun n a=>B7x n a.1.1 a.1.2.1 a.1.2.2 a.2.1 a.2.2.1⟩
def B74:Fn' (Y7×(Int×(Y7×Unit))) Y7:=⟨208,(Tvs.cons (Tv.one (Lf.od J5)) (Tvs.cons (Tv.one (Lf.int .i64)) (Tvs.cons (Tv.one (Lf.od J5)) Tvs.nil))),(Rt.v (Tv.one (Lf.od J5))),fun n a=>B3w n a.1 a.2.1 a.2.2.1⟩
def D05:Fn' (Y22×(Y7×(Y4×Unit))) Y7:=⟨141,Q72,(Rt.v (Tv.one (Lf.od J5))),fun n a=>C1k n a.1.1 a.1.2.1 a.1.2.2 a.2.1 a.2.2.1⟩
def D48:=Sh.of (Sl.gap 1 (Sl.one (Lf.sh J5) (Sl.gap 1 (Sl.k (Kf.box 232 0) (Sl.gap 1 (Sl.k (Kf.box 360 0) (Sl.gap 1 (Sl.one (Lf.int .i64) (Sl.gap 27 Sl.nil))))))))) (Rw.box 232 J15 Q28 (Rw.box 360 J5 (Ls.cons (Lf.sh J4) Ls.nil) Rw.nil)) Ls.nil
def E11 (n:Nat):Tab Y7:=[([.b,.l,.r,.r],A8c D48 fun j a=>B8i n j a.1.1 a.1.2.1 a.2.1.1 a.2.1.2.1 a.2.1.2.2.1 a.2.2.1.1)]
def C9w:Fn' (Y22×(Y7×(Y4×Unit))) Y15:=⟨66,Q72,Q43,fun n a=>C3i n a.1.1 a.1.2.1 a.1.2.2 a.2.1 a.2.2.1⟩
def D20:Fn' (Y22×(Y4×Unit)) Bool:=⟨142,(Tvs.cons Q29 (Tvs.cons (Tv.one (Lf.sh J4)) Tvs.nil)),(Rt.v (Tv.one Lf.bool)),fun n a=>C4s n a.1.1 a.1.2.1 a.1.2.2 a.2.1⟩
def D69:=Sh.of (Sl.gap 1 (Sl.one (Lf.sh J4) (Sl.k (Kf.box 168 0) (Sl.gap 16 (Sl.one (Lf.sh .str) (Sl.one (Lf.int .i64) (Sl.one (Lf.int .i64) (Sl.gap 27 Sl.nil)))))))) (Rw.box 168 J15 Q28 Rw.nil) Ls.nil
def E3f (n:Nat):Tab Bool:=[([.b,.r,.l,.r,.r],A8c D69 fun j a=>B9c n j a.1.1 a.1.2.1 a.1.2.2.1 a.1.2.2.2.1 a.2.1.1 a.2.1.2.1 a.2.1.2.2.1)]
def B72:Fn' (Y7×(Int×(Int×Unit))) Y7:=⟨143,(Tvs.cons (Tv.one (Lf.od J5)) Q38),(Rt.v (Tv.one (Lf.od J5))),fun n a=>B3j n a.1 a.2.1 a.2.2.1⟩
def C9x:Fn' (Y22×(Y7×(Y4×(Y4×Unit)))) Y15:=⟨67,(Tvs.cons Q29 (Tvs.cons (Tv.one (Lf.sh J5)) (Tvs.cons (Tv.one (Lf.sh J4)) Q12))),Q43,fun n a=>C3j n a.1.1 a.1.2.1 a.1.2.2 a.2.1 a.2.2.1 a.2.2.2.1⟩
def C9v:Fn' (Y22×(Y7×(Y4×Unit))) Y15:=⟨68,Q71,Q43,fun n a=>C3h n a.1.1 a.1.2.1 a.1.2.2 a.2.1 a.2.2.1⟩
def D5r:Fn' (Y30×Z3) (Y30×(Int×Unit)):=⟨26,(Tvs.cons Q16 Q80),(Rt.tup (Tvs.cons Q17 Q3)),fun n a=>C9c n a.1.1 a.1.2 a.2.1.1 a.2.1.2.1 a.2.1.2.2.1 a.2.1.2.2.2.1 a.2.1.2.2.2.2.1 a.2.1.2.2.2.2.2.1 a.2.1.2.2.2.2.2.2.1 a.2.1.2.2.2.2.2.2.2.1 a.2.1.2.2.2.2.2.2.2.2.1 a.2.1.2.2.2.2.2.2.2.2.2⟩
def D01:Fn' (ByteArray×Unit) (Y30×(Bool×Unit)):=⟨12,(Tvs.cons (Tv.one Lf.str) Tvs.nil),(Rt.tup (Tvs.cons Q17 (Tvs.cons (Tv.one Lf.bool) Tvs.nil))),fun n a=>C59 n a.1⟩
def D44:=Sh.of (Sl.one Lf.str (Sl.gap 1 (Sl.k (Kf.box 168 0) (Sl.gap 2 (Sl.k (Kf.box 360 0) (Sl.gap 26 (Sl.one (Lf.sub 2088) (Sl.one (Lf.int .i64) (Sl.one (Lf.int .i64) (Sl.gap 28 Sl.nil)))))))))) (Rw.box 168 J20 (Ls.k (Kf.ow 176) (Ls.k (Kf.ow 177) Ls.nil)) (Rw.data 176 J15 (Rw.data 177 J6 (Rw.box 360 J20 (Ls.k (Kf.ow 368) (Ls.k (Kf.ow 369) Ls.nil)) (Rw.data 368 J15 (Rw.data 369 J6 (Rw.data 2088 .str Rw.nil))))))) Ls.nil
def E0x (n:Nat):Tab (Y30×(Bool×Unit)):=[([.b,.r,.l,.r,.r,.r,.r],A8c D44 fun j a=>B8a n j a.1.1 a.1.2.1.1 a.1.2.1.2 a.1.2.2.1 a.1.2.2.2.1 a.2.2.1 a.2.2.2.1 a.2.2.2.2.2.1 a.2.2.2.2.2.2.1 a.2.2.2.2.2.2.2.1)]
def C4i:Fn' (Y22×(Y22×Unit)) Bool:=⟨52,(Tvs.cons Q29 Q47),(Rt.v (Tv.one Lf.bool)),fun n a=>C0e n a.1.1 a.1.2.1 a.1.2.2 a.2.1.1 a.2.1.2.1 a.2.1.2.2⟩
def C55:Fn' (Y4×(Y4×Unit)) Bool:=⟨115,(Tvs.cons (Tv.agg (Ls.one (Lf.sh J4))) Q12),(Rt.v (Tv.one Lf.bool)),fun n a=>C12 n a.1 a.2.1⟩
def B3g:Fn' (Y7×(Y7×(Unit×Unit))) Bool:=⟨114,(Tvs.cons (Tv.one (Lf.sh J5)) (Tvs.cons (Tv.one (Lf.sh J5)) (Tvs.cons (Tv.one (Lf.clo 115 Cs.nil)) Tvs.nil))),(Rt.v (Tv.one Lf.bool)),fun n a=>B2r n a.1 a.2.1⟩
def B4d:=Sh.of (Sl.gap 1 (Sl.one (Lf.sh J5) (Sl.one (Lf.clo 115 Cs.nil) (Sl.gap 12 (Sl.one (Lf.sh J5) (Sl.one (Lf.int .i64) (Sl.one (Lf.int .i64) (Sl.gap 14 Sl.nil)))))))) Rw.nil Ls.nil
def B4k (n:Nat):Tab Bool:=[([.b,.r,.l,.r,.r],A8c B4d fun j a=>B29 n j a.1.1 a.1.2.2.1 a.1.2.2.2.1 a.1.2.2.2.2.1)]
def C6z:Fn' (Y7×(Y7×Unit)) Bool:=⟨53,(Tvs.cons (Tv.one (Lf.sh J5)) (Tvs.cons (Tv.one (Lf.sh J5)) Tvs.nil)),(Rt.v (Tv.one Lf.bool)),fun n a=>C33 n a.1 a.2.1⟩
def B9m:Fn' Z1 Z1:=⟨54,(Tvs.cons (Tv.one (Lf.od .str)) Tvs.nil),(Rt.tup (Tvs.cons (Tv.one (Lf.od .str)) Tvs.nil)),fun n a=>B75 n a.1⟩
def D5q:Fn' (Y30×(Y30×Unit)) (List ByteArray):=⟨21,(Tvs.cons Q16 Q33),(Rt.v (Tv.one (Lf.od .str))),fun n a=>C6a n a.1.1 a.1.2 a.2.1.1 a.2.1.2⟩
def D7o:=Sh.of (Sl.gap 2 (Sl.k (Kf.box 168 0) (Sl.gap 2 (Sl.k (Kf.ow 360) (Sl.gap 66 (Sl.one (Lf.sh J15) (Sl.one (Lf.int .i64) (Sl.one (Lf.int .i64) (Sl.gap 18 Sl.nil))))))))) (Rw.box 168 J20 Q14 (Rw.data 360 .str Rw.nil)) Ls.nil
def D7n:=Sh.of (Sl.gap 2 (Sl.k (Kf.box 168 0) (Sl.k (Kf.box 232 0) (Sl.gap 1 (Sl.k (Kf.ow 360) (Sl.gap 17 (Sl.one (Lf.sh J15) (Sl.one (Lf.int .i64) (Sl.one (Lf.int .i64) (Sl.gap 67 Sl.nil)))))))))) (Rw.box 168 J20 Q14 (Rw.box 232 J20 Q14 (Rw.data 360 .str Rw.nil))) Ls.nil
def E4x (n:Nat):Tab (List ByteArray):=[([.b,.r,.l,.r,.r,.r,.r],A8c D7o fun j a=>B5d n j a.1.1 a.1.2.1 a.1.2.2.1 a.2.1.1 a.2.1.2.1 a.2.2.1),
  ([.b,.r,.l,.r,.r,.r],A8c D7n fun j a=>B5c n j a.1.1 a.1.2.1 a.1.2.2.1 a.2.1.1 a.2.1.2.1 a.2.2.1.1 a.2.2.1.2.1 a.2.2.2.1)]
def C9z:Fn' (Y30×(Y30×Unit)) Bool:=⟨20,(Tvs.cons Q16 Q33),(Rt.v (Tv.one Lf.bool)),fun n a=>C57 n a.1.1 a.1.2 a.2.1.1 a.2.1.2⟩
def C86:Fn' ((List Int)×Unit) Bool:=⟨5,Q9,(Rt.v (Tv.one Lf.bool)),fun n a=>D5a n a.1⟩
def E8l:List Ent:=[B0c D0i,B0c C8e,B0c C79,B0c C8g,B0c D29,B0c D0l,B0c D2f,B0c D0p,B0c C8f,B0c D0o,B0c C8h,B0c D0f,B0c D0j,B0c D2e,B0c D2a,B0c C8a,B0c C8i,B0c D2d,B0c D0q,B0c C8b,B0c C88,B0c D0d,B0c C4j,B0c D2c,B0c D0s,B0c D0r,B0c D0c,B0c C8j,B0c C8k,B0c D0m,B0c D0k,B0c D0g,B0c D0n,B0c C61,B0c D0t,B0c C56,B0c D0a,B0c D02,B0c D21,B0c D1y,B0c C7o,B0c B4b,B0c D1x,B0c C7u,B0c D1w,B0c D07,B0c D27,B0c D25,B0c C7y,B0c C7r,B0c C9y,B0c D5p,B0c C60,B0c C5z,B0c C83,B0c C6y,B0c B7i,B0c B91,B0c C76,B0c D1z,B0c D08,B0c C72,B0c C7s,B0c C7z,B0c C7p,B0c D24,B0c C7q,B0c C5y,B0c B48,B0c B43,B0c C80,B0c D00,B0c C77,B0c C70,B0c C9u,B0c D28,B0c D5s,B0c D2b,B0c C7b,B0c C8d,B0c C89,B0c D0h,B0c C8c,B0c D0u,B0c D0v,B0c C8m,B0c C87,B0c C8l,B0c C7a,B0c D0e,B0c C8n,B0c C78,B0c D0b,B0c D7l,B0c D22,B0c B92,B0c D04,B0c D06,B0c C7w,B0c C7x,B0c D23,B0c C75,B0c C7v,B0c D09,B0c C71,B0c C6w,B0c B44,B0c C9t,B0c B83,B0c C84,B0c C82,B0c B5r,B0c B5q,B0c C54,B0c B47,B0c B40,B0c C6x,B0c C74,B0c C73,B0c D03,B0c B6e,B0c B6d,B0c B73,B0c C7t,B0c C81,B0c B7j,B0c C85,B0c B4c,B0c D26,B0c B74,B0c D05,B0c C9w,B0c D20,B0c B72,B0c C9x,B0c C9v,B0c D5r,B0c D01,B0c C4i,B0c C55,B0c B3g,B0c C6z,B0c B9m,B0c D5q,B0c C9z,B0c C86]
def E77 (n:Nat):CF:=chain E8l n
abbrev EqB {A T:Type}(F:Fn' A T)(n:Nat)(W:Tab T):Prop:=∀a,A1r env (E77 n) n F.g W (F.args.to a) F.ret.un=F.run (n+1) a
abbrev TbB {A T:Type}(F:Fn' A T)(n:Nat)(W:Tab T):Prop:=A7f env (E77 n) n F.g W F.ret.un
abbrev B2b (n:Nat):Prop:=∀e∈E8l,B07 Tryz.prog env n e
abbrev B2v {A T:Type}(n:Nat)(F:Fn' A T):Prop:=B07 Tryz.prog env (n+1) (B0c F)
set_option maxRecDepth 1000000 in
theorem E7i (n:Nat):K2 (E77 n):=A80 (by
  simp only[E8l,List.forall_mem_cons,List.not_mem_nil,false_implies,implies_true,and_true]
  repeat' apply And.intro
  all_goals exact B1y _)
theorem B2d {α:Type}{p:α→Prop}{a:α}{l:List α}(h1:p a)(h2:∀x∈l,p x):∀x∈a::l,p x:=List.forall_mem_cons.mpr ⟨h1,h2⟩
theorem B2z {α:Type}{p:α→Prop}:∀x∈([]:List α),p x:=fun _ h=>by cases h
theorem st {n:Nat}{A T:Type}{F:Fn' A T}(W:Tab T)(h:B2b n)(ht:TbB F n W)(he:EqB F n W):A9s Tryz.prog env F (n+1):=B14 F1a F1b (A8t h) (E7i n) ht he
theorem sv {n:Nat}{A T:Type}{F:Fn' A T}(W:Tab T)(h:B2b n)(ht:∀q∈W,RowOk env (E77 n) n F.g W F.ret.un q)(he:EqB F n W):B2v n F:=B1g (st W h (B24 ht) he)
theorem sn {n:Nat}{A T:Type}{F:Fn' A T}(h:B2b n)(he:EqB F n []):B2v n F:=B1g (st [] h B1a he)
theorem s0 {A T:Type}{F:Fn' A T}(h:∀a,F.run 0 a=none):B07 Tryz.prog env 0 (B0c F):=B1g (B15 h)
theorem sx {n:Nat}{A T:Type}{F:Fn' A T}(h:A9s Tryz.prog env F (n+1)):B2v n F:=B1g h
theorem E2b (n:Nat)(h:B2b n):B2v n D0i:=sv (E17 n) h (B2d (B1q (fun _=>rfl) (fun _ _=>by kernel_rfl)) B2z) fun a=>by kernel_rfl
theorem E0d (n:Nat)(h:B2b n):B2v n C8e:=sn h fun a=>by kernel_rfl
theorem D7d (n:Nat)(h:B2b n):B2v n C79:=sn h fun a=>by kernel_rfl
theorem E0f (n:Nat)(h:B2b n):B2v n C8g:=sn h fun a=>by kernel_rfl
theorem E4j (n:Nat)(h:B2b n):B2v n D29:=sv (E3l n) h (B2d (B1q (fun _=>rfl) (fun _ _=>by kernel_rfl)) B2z) fun a=>by kernel_rfl
theorem E2e (n:Nat)(h:B2b n):B2v n D0l:=sv (E18 n) h (B2d (B1q (fun _=>rfl) (fun _ _=>by kernel_rfl)) B2z) fun a=>by kernel_rfl
theorem E4p (n:Nat)(h:B2b n):B2v n D2f:=sn h fun a=>by kernel_rfl
theorem E2i (n:Nat)(h:B2b n):B2v n D0p:=sn h fun a=>by kernel_rfl
theorem E0e (n:Nat)(h:B2b n):B2v n C8f:=sv (D81 n) h (B2d (B1q (fun _=>rfl) (fun _ _=>by kernel_rfl)) B2z) fun a=>by kernel_rfl
theorem E2h (n:Nat)(h:B2b n):B2v n D0o:=sv (E1a n) h (B2d (B1q (fun _=>rfl) (fun _ _=>by kernel_rfl)) B2z) fun a=>by kernel_rfl
theorem E0g (n:Nat)(h:B2b n):B2v n C8h:=sv (D82 n) h (B2d (B1r (fun _ _=>rfl) (fun _ _ _=>by kernel_rfl)) (B2d (B1q (fun _=>rfl) (fun _ _=>by kernel_rfl)) B2z)) fun a=>by kernel_rfl
theorem E28 (n:Nat)(h:B2b n):B2v n D0f:=sv (E16 n) h (B2d (B1q (fun _=>rfl) (fun _ _=>by kernel_rfl)) B2z) fun a=>by kernel_rfl
theorem E2c (n:Nat)(h:B2b n):B2v n D0j:=sn h fun a=>by kernel_rfl
theorem E4o (n:Nat)(h:B2b n):B2v n D2e:=sn h fun a=>by kernel_rfl
theorem E4k (n:Nat)(h:B2b n):B2v n D2a:=sn h fun a=>by kernel_rfl
theorem E09 (n:Nat)(h:B2b n):B2v n C8a:=sv (D7z n) h (B2d (B1q (fun _=>rfl) (fun _ _=>by kernel_rfl)) (B2d (B1q (fun _=>rfl) (fun _ _=>by kernel_rfl)) B2z)) fun a=>by kernel_rfl
theorem E0h (n:Nat)(h:B2b n):B2v n C8i:=sn h fun a=>by kernel_rfl
theorem E4n (n:Nat)(h:B2b n):B2v n D2d:=sv (E3n n) h (B2d (B1q (fun _=>rfl) (fun _ _=>by kernel_rfl)) B2z) fun a=>by kernel_rfl
theorem E2j (n:Nat)(h:B2b n):B2v n D0q:=sv (E1b n) h (B2d (B1q (fun _=>rfl) (fun _ _=>by kernel_rfl)) B2z) fun a=>by kernel_rfl
theorem E0a (n:Nat)(h:B2b n):B2v n C8b:=sn h fun a=>by kernel_rfl
theorem E07 (n:Nat)(h:B2b n):B2v n C88:=sv (D7y n) h (B2d (B1q (fun _=>rfl) (fun _ _=>by kernel_rfl)) B2z) fun a=>by kernel_rfl
theorem E26 (n:Nat)(h:B2b n):B2v n D0d:=sv (E15 n) h (B2d (B1q (fun _=>rfl) (fun _ _=>by kernel_rfl)) B2z) fun a=>by kernel_rfl
theorem D1v (n:Nat)(h:B2b n):B2v n C4j:=sv (D19 n) h (B2d (B1q (fun _=>rfl) (fun _ _=>by kernel_rfl)) B2z) fun a=>by kernel_rfl
theorem E4m (n:Nat)(h:B2b n):B2v n D2c:=sv (E3m n) h (B2d (B1q (fun _=>rfl) (fun _ _=>by kernel_rfl)) B2z) fun a=>by kernel_rfl
theorem E2l (n:Nat)(h:B2b n):B2v n D0s:=sn h fun a=>by kernel_rfl
theorem E2k (n:Nat)(h:B2b n):B2v n D0r:=sv (E1c n) h (B2d (B1q (fun _=>rfl) (fun _ _=>by kernel_rfl)) B2z) fun a=>by kernel_rfl
theorem E25 (n:Nat)(h:B2b n):B2v n D0c:=sn h fun a=>by kernel_rfl
theorem E0i (n:Nat)(h:B2b n):B2v n C8j:=sv (D83 n) h (B2d (B1q (fun _=>rfl) (fun _ _=>by kernel_rfl)) B2z) fun a=>by kernel_rfl
theorem E0j (n:Nat)(h:B2b n):B2v n C8k:=sv (D84 n) h (B2d (B1q (fun _=>rfl) (fun _ _=>by kernel_rfl)) B2z) fun a=>by kernel_rfl
theorem E2f (n:Nat)(h:B2b n):B2v n D0m:=sn h fun a=>by kernel_rfl
theorem E2d (n:Nat)(h:B2b n):B2v n D0k:=sn h fun a=>by kernel_rfl
theorem E29 (n:Nat)(h:B2b n):B2v n D0g:=sn h fun a=>by kernel_rfl
theorem E2g (n:Nat)(h:B2b n):B2v n D0n:=sv (E19 n) h (B2d (B1q (fun _=>rfl) (fun _ _=>by kernel_rfl)) (B2d (B1q (fun _=>rfl) (fun _ _=>by kernel_rfl)) (B2d (B1q (fun _=>rfl) (fun _ _=>by kernel_rfl)) (B2d (B1q (fun _=>rfl) (fun _ _=>by kernel_rfl)) (B2d (B1q (fun _=>rfl) (fun _ _=>by kernel_rfl)) (B2d (B1q (fun _=>rfl) (fun _ _=>by kernel_rfl)) (B2d (B1q (fun _=>rfl) (fun _ _=>by kernel_rfl)) B2z))))))) fun a=>by kernel_rfl
theorem D5m (n:Nat)(h:B2b n):B2v n C61:=sv (D4s n) h (B2d (B1q (fun _=>rfl) (fun _ _=>by kernel_rfl)) (B2d (B1q (fun _=>rfl) (fun _ _=>by kernel_rfl)) (B2d (B1q (fun _=>rfl) (fun _ _=>by kernel_rfl)) (B2d (B1q (fun _=>rfl) (fun _ _=>by kernel_rfl)) B2z)))) fun a=>by kernel_rfl
theorem E2m (n:Nat)(h:B2b n):B2v n D0t:=sn h fun a=>by kernel_rfl
theorem D3w (n:Nat)(h:B2b n):B2v n C56:=sn h fun a=>by kernel_rfl
theorem E23 (n:Nat)(h:B2b n):B2v n D0a:=sn h fun a=>by kernel_rfl
theorem E1v (n:Nat)(h:B2b n):B2v n D02:=sv (E0y n) h (B2d (B1q (fun _=>rfl) (fun _ _=>by kernel_rfl)) B2z) fun a=>by kernel_rfl
theorem E4b (n:Nat)(h:B2b n):B2v n D21:=sn h fun a=>by kernel_rfl
theorem E48 (n:Nat)(h:B2b n):B2v n D1y:=sn h fun a=>by kernel_rfl
theorem D9o (n:Nat)(h:B2b n):B2v n C7o:=sn h fun a=>by kernel_rfl
theorem B6x (n:Nat)(h:B2b n):B2v n B4b:=sv (B6o n) h (B2d (B1q (fun _=>rfl) (fun _ _=>by kernel_rfl)) B2z) fun a=>by kernel_rfl
theorem E47 (n:Nat)(h:B2b n):B2v n D1x:=sn h fun a=>by kernel_rfl
theorem D9u (n:Nat)(h:B2b n):B2v n C7u:=sv (D7u n) h (B2d (B1q (fun _=>rfl) (fun _ _=>by kernel_rfl)) (B2d (B1q (fun _=>rfl) (fun _ _=>by kernel_rfl)) B2z)) fun a=>by kernel_rfl
theorem E46 (n:Nat)(h:B2b n):B2v n D1w:=sv (E3e n) h (B2d (B1q (fun _=>rfl) (fun _ _=>by kernel_rfl)) B2z) fun a=>by kernel_rfl
theorem E20 (n:Nat)(h:B2b n):B2v n D07:=sn h fun a=>by kernel_rfl
theorem E4h (n:Nat)(h:B2b n):B2v n D27:=sv (E3j n) h (B2d (B1q (fun _=>rfl) (fun _ _=>by kernel_rfl)) B2z) fun a=>by kernel_rfl
theorem E4f (n:Nat)(h:B2b n):B2v n D25:=sv (E3i n) h (B2d (B1q (fun _=>rfl) (fun _ _=>by kernel_rfl)) B2z) fun a=>by kernel_rfl
theorem D9y (n:Nat)(h:B2b n):B2v n C7y:=sn h fun a=>by kernel_rfl
theorem D9r (n:Nat)(h:B2b n):B2v n C7r:=sv (D7r n) h (B2d (B1q (fun _=>rfl) (fun _ _=>by kernel_rfl)) B2z) fun a=>by kernel_rfl
theorem E1r (n:Nat)(h:B2b n):B2v n C9y:=sv (E0w n) h (B2d (B1q (fun _=>rfl) (fun _ _=>by kernel_rfl)) B2z) fun a=>by kernel_rfl
theorem E61 (n:Nat)(h:B2b n):B2v n D5p:=sv (E4w n) h (B2d (B1q (fun _=>rfl) (fun _ _=>by kernel_rfl)) B2z) fun a=>by kernel_rfl
theorem D5l (n:Nat)(h:B2b n):B2v n C60:=sn h fun a=>by kernel_rfl
theorem D5k (n:Nat)(h:B2b n):B2v n C5z:=sn h fun a=>by kernel_rfl
theorem E03 (n:Nat)(h:B2b n):B2v n C83:=sn h fun a=>by kernel_rfl
theorem D72 (n:Nat)(h:B2b n):B2v n C6y:=sn h fun a=>by kernel_rfl
theorem C2e (n:Nat)(h:B2b n):B2v n B7i:=sv (C1t n) h (B2d (B1q (fun _=>rfl) (fun _ _=>by kernel_rfl)) B2z) fun a=>by kernel_rfl
theorem C3z (n:Nat)(h:B2b n):B2v n B91:=sv (C3s n) h (B2d (B1q (fun _=>rfl) (fun _ _=>by kernel_rfl)) B2z) fun a=>by kernel_rfl
theorem D7a (n:Nat)(h:B2b n):B2v n C76:=sn h fun a=>by kernel_rfl
theorem E49 (n:Nat)(h:B2b n):B2v n D1z:=sn h fun a=>by kernel_rfl
theorem E21 (n:Nat)(h:B2b n):B2v n D08:=sn h fun a=>by kernel_rfl
theorem D76 (n:Nat)(h:B2b n):B2v n C72:=sn h fun a=>by kernel_rfl
theorem D9s (n:Nat)(h:B2b n):B2v n C7s:=sv (D7s n) h (B2d (B1q (fun _=>rfl) (fun _ _=>by kernel_rfl)) B2z) fun a=>by kernel_rfl
theorem D9z (n:Nat)(h:B2b n):B2v n C7z:=sv (D7w n) h (B2d (B1q (fun _=>rfl) (fun _ _=>by kernel_rfl)) B2z) fun a=>by kernel_rfl
theorem D9p (n:Nat)(h:B2b n):B2v n C7p:=sn h fun a=>by kernel_rfl
theorem E4e (n:Nat)(h:B2b n):B2v n D24:=sv (E3h n) h (B2d (B1q (fun _=>rfl) (fun _ _=>by kernel_rfl)) B2z) fun a=>by kernel_rfl
theorem D9q (n:Nat)(h:B2b n):B2v n C7q:=sv (D7q n) h (B2d (B1q (fun _=>rfl) (fun _ _=>by kernel_rfl)) B2z) fun a=>by kernel_rfl
theorem D5j (n:Nat)(h:B2b n):B2v n C5y:=sn h fun a=>by kernel_rfl
theorem B6c (n:Nat)(h:B2b n):B2v n B48:=sv (B67 n) h (B2d (B1q (fun _=>rfl) (fun _ _=>by kernel_rfl)) B2z) fun a=>by kernel_rfl
theorem B5o (n:Nat)(h:B2b n):B2v n B43:=sn h fun a=>by kernel_rfl
theorem E00 (n:Nat)(h:B2b n):B2v n C80:=sn h fun a=>by kernel_rfl
theorem E1t (n:Nat)(h:B2b n):B2v n D00:=sn h fun a=>by kernel_rfl
theorem D7b (n:Nat)(h:B2b n):B2v n C77:=sv (D6l n) h (B2d (B1q (fun _=>rfl) (fun _ _=>by kernel_rfl)) B2z) fun a=>by kernel_rfl
theorem D74 (n:Nat)(h:B2b n):B2v n C70:=sn h fun a=>by kernel_rfl
theorem E1n (n:Nat)(h:B2b n):B2v n C9u:=sv (E0v n) h (B2d (B1r (fun _ _=>rfl) (fun _ _ _=>by kernel_rfl)) (B2d (B1q (fun _=>rfl) (fun _ _=>by kernel_rfl)) B2z)) fun a=>by kernel_rfl
theorem E4i (n:Nat)(h:B2b n):B2v n D28:=sv (E3k n) h (B2d (B1q (fun _=>rfl) (fun _ _=>by kernel_rfl)) B2z) fun a=>by kernel_rfl
theorem E65 (n:Nat)(h:B2b n):B2v n D5s:=sv (E4y n) h (B2d (B1q (fun _=>rfl) (fun _ _=>by kernel_rfl)) B2z) fun a=>by kernel_rfl
theorem E4l (n:Nat)(h:B2b n):B2v n D2b:=sn h fun a=>by kernel_rfl
theorem D7f (n:Nat)(h:B2b n):B2v n C7b:=sn h fun a=>by kernel_rfl
theorem E0c (n:Nat)(h:B2b n):B2v n C8d:=sn h fun a=>by kernel_rfl
theorem E08 (n:Nat)(h:B2b n):B2v n C89:=sn h fun a=>by kernel_rfl
theorem E2a (n:Nat)(h:B2b n):B2v n D0h:=sn h fun a=>by kernel_rfl
theorem E0b (n:Nat)(h:B2b n):B2v n C8c:=sv (D80 n) h (B2d (B1q (fun _=>rfl) (fun _ _=>by kernel_rfl)) B2z) fun a=>by kernel_rfl
theorem E2n (n:Nat)(h:B2b n):B2v n D0u:=sn h fun a=>by kernel_rfl
theorem E2o (n:Nat)(h:B2b n):B2v n D0v:=sv (E1d n) h (B2d (B1q (fun _=>rfl) (fun _ _=>by kernel_rfl)) B2z) fun a=>by kernel_rfl
theorem E0l (n:Nat)(h:B2b n):B2v n C8m:=sv (D86 n) h (B2d (B1q (fun _=>rfl) (fun _ _=>by kernel_rfl)) B2z) fun a=>by kernel_rfl
theorem E06 (n:Nat)(h:B2b n):B2v n C87:=sn h fun a=>by kernel_rfl
theorem E0k (n:Nat)(h:B2b n):B2v n C8l:=sv (D85 n) h (B2d (B1q (fun _=>rfl) (fun _ _=>by kernel_rfl)) B2z) fun a=>by kernel_rfl
theorem D7e (n:Nat)(h:B2b n):B2v n C7a:=sn h fun a=>by kernel_rfl
theorem E27 (n:Nat)(h:B2b n):B2v n D0e:=sn h fun a=>by kernel_rfl
theorem E0m (n:Nat)(h:B2b n):B2v n C8n:=sv (D87 n) h (B2d (B1q (fun _=>rfl) (fun _ _=>by kernel_rfl)) B2z) fun a=>by kernel_rfl
theorem D7c (n:Nat)(h:B2b n):B2v n C78:=sn h fun a=>by kernel_rfl
theorem E24 (n:Nat)(h:B2b n):B2v n D0b:=sv (E14 n) h (B2d (B1r (fun _ _=>rfl) (fun _ _ _=>by kernel_rfl)) (B2d (B1q (fun _=>rfl) (fun _ _=>by kernel_rfl)) B2z)) fun a=>by kernel_rfl
theorem E73 (n:Nat)(h:B2b n):B2v n D7l:=sv (E6a n) h (B2d (B1q (fun _=>rfl) (fun _ _=>by kernel_rfl)) B2z) fun a=>by kernel_rfl
theorem E4c (n:Nat)(h:B2b n):B2v n D22:=sn h fun a=>by kernel_rfl
theorem C40 (n:Nat)(h:B2b n):B2v n B92:=sv (C3t n) h (B2d (B1q (fun _=>rfl) (fun _ _=>by kernel_rfl)) B2z) fun a=>by kernel_rfl
theorem E1x (n:Nat)(h:B2b n):B2v n D04:=sv (E10 n) h (B2d (B1q (fun _=>rfl) (fun _ _=>by kernel_rfl)) B2z) fun a=>by kernel_rfl
theorem E1z (n:Nat)(h:B2b n):B2v n D06:=sv (E12 n) h (B2d (B1q (fun _=>rfl) (fun _ _=>by kernel_rfl)) B2z) fun a=>by kernel_rfl
theorem D9w (n:Nat)(h:B2b n):B2v n C7w:=sv (D7v n) h (B2d (B1q (fun _=>rfl) (fun _ _=>by kernel_rfl)) B2z) fun a=>by kernel_rfl
theorem D9x (n:Nat)(h:B2b n):B2v n C7x:=sn h fun a=>by kernel_rfl
theorem E4d (n:Nat)(h:B2b n):B2v n D23:=sv (E3g n) h (B2d (B1q (fun _=>rfl) (fun _ _=>by kernel_rfl)) B2z) fun a=>by kernel_rfl
theorem D79 (n:Nat)(h:B2b n):B2v n C75:=sv (D6k n) h (B2d (B1q (fun _=>rfl) (fun _ _=>by kernel_rfl)) B2z) fun a=>by kernel_rfl
theorem D9v (n:Nat)(h:B2b n):B2v n C7v:=sn h fun a=>by kernel_rfl
theorem E22 (n:Nat)(h:B2b n):B2v n D09:=sv (E13 n) h (B2d (B1q (fun _=>rfl) (fun _ _=>by kernel_rfl)) B2z) fun a=>by kernel_rfl
theorem D75 (n:Nat)(h:B2b n):B2v n C71:=sn h fun a=>by kernel_rfl
theorem D70 (n:Nat)(h:B2b n):B2v n C6w:=sn h fun a=>by kernel_rfl
theorem B5p (n:Nat)(h:B2b n):B2v n B44:=sv (B5n n) h (B2d (B1q (fun _=>rfl) (fun _ _=>by kernel_rfl)) B2z) fun a=>by kernel_rfl
theorem E1m (n:Nat)(h:B2b n):B2v n C9t:=sn h fun a=>by kernel_rfl
theorem C2l (n:Nat)(h:B2b n):B2v n B83:=sn h fun a=>by kernel_rfl
theorem E04 (n:Nat)(h:B2b n):B2v n C84:=sn h fun a=>by kernel_rfl
theorem E02 (n:Nat)(h:B2b n):B2v n C82:=sv (D7x n) h (B2d (B1q (fun _=>rfl) (fun _ _=>by kernel_rfl)) B2z) fun a=>by kernel_rfl
theorem B9p (n:Nat):A9s Tryz.prog env B5r (n+1):=fun a r h=>B21 (f:=J15) E95 Tryz.underlying23 Tryz.underlying3 (B0n (P:=Tryz.prog) (e:=63) (f:=J15) (eb:=64) (by kernel_rfl)) (by decide) h
theorem B9o (n:Nat):A9s Tryz.prog env B5q (n+1):=fun a r h=>B1x (f:=J15) E8j Tryz.underlying23 (B0n (P:=Tryz.prog) (e:=63) (f:=J15) (eb:=64) (by kernel_rfl)) h
theorem D3u (n:Nat)(h:B2b n):B2v n C54:=sn h fun a=>by kernel_rfl
theorem B66 (n:Nat)(h:B2b n):B2v n B47:=sv (B65 n) h (B2d (B1q (fun _=>rfl) (fun _ _=>by kernel_rfl)) B2z) fun a=>by kernel_rfl
theorem B5l (n:Nat)(h:B2b n):B2v n B40:=sv (B5f n) h (B2d (B1q (fun _=>rfl) (fun _ _=>by kernel_rfl)) B2z) fun a=>by kernel_rfl
theorem D71 (n:Nat)(h:B2b n):B2v n C6x:=sv (D6i n) h (B2d (B1q (fun _=>rfl) (fun _ _=>by kernel_rfl)) B2z) fun a=>by kernel_rfl
theorem D78 (n:Nat)(h:B2b n):B2v n C74:=sn h fun a=>by kernel_rfl
theorem D77 (n:Nat)(h:B2b n):B2v n C73:=sv (D6j n) h (B2d (B1q (fun _=>rfl) (fun _ _=>by kernel_rfl)) B2z) fun a=>by kernel_rfl
theorem E1w (n:Nat)(h:B2b n):B2v n D03:=sv (E0z n) h (B2d (B1q (fun _=>rfl) (fun _ _=>by kernel_rfl)) B2z) fun a=>by kernel_rfl
theorem C0c (n:Nat):A9s Tryz.prog env B6e (n+1):=fun a r h=>B21 (f:=J6) E94 Tryz.underlying26 Tryz.underlying3 (B0n (P:=Tryz.prog) (e:=65) (f:=J6) (eb:=24) (by kernel_rfl)) (by decide) h
theorem C0b (n:Nat):A9s Tryz.prog env B6d (n+1):=fun a r h=>B1x (f:=J6) E8h Tryz.underlying26 (B0n (P:=Tryz.prog) (e:=65) (f:=J6) (eb:=24) (by kernel_rfl)) h
theorem C0v (n:Nat):A9s Tryz.prog env B73 (n+1):=fun a r h=>B1x (f:=J4) E8k Tryz.underlying29 (B0n (P:=Tryz.prog) (e:=88) (f:=J4) (eb:=32) (by kernel_rfl)) h
theorem D9t (n:Nat)(h:B2b n):B2v n C7t:=sv (D7t n) h (B2d (B1q (fun _=>rfl) (fun _ _=>by kernel_rfl)) (B2d (B1q (fun _=>rfl) (fun _ _=>by kernel_rfl)) B2z)) fun a=>by kernel_rfl
theorem E01 (n:Nat)(h:B2b n):B2v n C81:=sn h fun a=>by kernel_rfl
theorem C2f (n:Nat)(h:B2b n):B2v n B7j:=sv (C1u n) h (B2d (B1q (fun _=>rfl) (fun _ _=>by kernel_rfl)) B2z) fun a=>by kernel_rfl
theorem E05 (n:Nat)(h:B2b n):B2v n C85:=sn h fun a=>by kernel_rfl
theorem B6y (n:Nat)(h:B2b n):B2v n B4c:=sv (B6p n) h (B2d (B1q (fun _=>rfl) (fun _ _=>by kernel_rfl)) B2z) fun a=>by kernel_rfl
theorem E4g (n:Nat)(h:B2b n):B2v n D26:=sn h fun a=>by kernel_rfl
theorem C0w (n:Nat):A9s Tryz.prog env B74 (n+1):=fun a r h=>B21 (f:=J5) E96 Tryz.underlying59 Tryz.underlying3 (B0n (P:=Tryz.prog) (e:=31) (f:=J5) (eb:=24) (by kernel_rfl)) (by decide) h
theorem E1y (n:Nat)(h:B2b n):B2v n D05:=sv (E11 n) h (B2d (B1q (fun _=>rfl) (fun _ _=>by kernel_rfl)) B2z) fun a=>by kernel_rfl
theorem E1p (n:Nat)(h:B2b n):B2v n C9w:=sn h fun a=>by kernel_rfl
theorem E4a (n:Nat)(h:B2b n):B2v n D20:=sv (E3f n) h (B2d (B1q (fun _=>rfl) (fun _ _=>by kernel_rfl)) B2z) fun a=>by kernel_rfl
theorem C0u (n:Nat):A9s Tryz.prog env B72 (n+1):=fun a r h=>B1x (f:=J5) E8i Tryz.underlying59 (B0n (P:=Tryz.prog) (e:=31) (f:=J5) (eb:=24) (by kernel_rfl)) h
theorem E1q (n:Nat)(h:B2b n):B2v n C9x:=sn h fun a=>by kernel_rfl
theorem E1o (n:Nat)(h:B2b n):B2v n C9v:=sn h fun a=>by kernel_rfl
theorem E63 (n:Nat)(h:B2b n):B2v n D5r:=sn h fun a=>by kernel_rfl
theorem E1u (n:Nat)(h:B2b n):B2v n D01:=sv (E0x n) h (B2d (B1q (fun _=>rfl) (fun _ _=>by kernel_rfl)) B2z) fun a=>by kernel_rfl
theorem D1u (n:Nat)(h:B2b n):B2v n C4i:=sn h fun a=>by kernel_rfl
theorem D3v (n:Nat)(h:B2b n):B2v n C55:=sn h fun a=>by kernel_rfl
theorem B4m (n:Nat)(h:B2b n):B2v n B3g:=sv (B4k n) h (B2d (B1q (fun _=>rfl) (fun _ _=>by kernel_rfl)) B2z) fun a=>by kernel_rfl
theorem D73 (n:Nat)(h:B2b n):B2v n C6z:=sn h fun a=>by kernel_rfl
theorem C3f (n:Nat):A9s Tryz.prog env B9m (n+1):=fun a r h=>B1t E9m h
theorem E62 (n:Nat)(h:B2b n):B2v n D5q:=sv (E4x n) h (B2d (B1q (fun _=>rfl) (fun _ _=>by kernel_rfl)) (B2d (B1q (fun _=>rfl) (fun _ _=>by kernel_rfl)) B2z)) fun a=>by kernel_rfl
theorem E1s (n:Nat)(h:B2b n):B2v n C9z:=sn h fun a=>by kernel_rfl
theorem E64 (n:Nat)(h:B2b n):B2v n C86:=sn h fun a=>by kernel_rfl
set_option maxRecDepth 1000000 in
theorem E81:∀n,B2b n
  |0=>by
    simp only[B2b,E8l,List.forall_mem_cons,List.not_mem_nil,false_implies,implies_true,and_true]
    repeat' apply And.intro
    all_goals exact s0 fun _=>rfl
  |n+1=>by
    have h:B2b n:=E81 n
    simp only[B2b,E8l,List.forall_mem_cons,List.not_mem_nil,false_implies,implies_true,and_true]
    exact⟨E2b n h,E0d n h,D7d n h,E0f n h,E4j n h,E2e n h,E4p n h,E2i n h,E0e n h,E2h n h,E0g n h,E28 n h,E2c n h,E4o n h,E4k n h,E09 n h,E0h n h,E4n n h,E2j n h,E0a n h,E07 n h,E26 n h,D1v n h,E4m n h,E2l n h,E2k n h,E25 n h,E0i n h,E0j n h,E2f n h,E2d n h,E29 n h,E2g n h,D5m n h,E2m n h,D3w n h,E23 n h,E1v n h,E4b n h,E48 n h,D9o n h,B6x n h,E47 n h,D9u n h,E46 n h,E20 n h,E4h n h,E4f n h,D9y n h,D9r n h,E1r n h,E61 n h,D5l n h,D5k n h,E03 n h,D72 n h,C2e n h,C3z n h,D7a n h,E49 n h,E21 n h,D76 n h,D9s n h,D9z n h,D9p n h,E4e n h,D9q n h,D5j n h,B6c n h,B5o n h,E00 n h,E1t n h,D7b n h,D74 n h,E1n n h,E4i n h,E65 n h,E4l n h,D7f n h,E0c n h,E08 n h,E2a n h,E0b n h,E2n n h,E2o n h,E0l n h,E06 n h,E0k n h,D7e n h,E27 n h,E0m n h,D7c n h,E24 n h,E73 n h,E4c n h,C40 n h,E1x n h,E1z n h,D9w n h,D9x n h,E4d n h,D79 n h,D9v n h,E22 n h,D75 n h,D70 n h,B5p n h,E1m n h,C2l n h,E04 n h,E02 n h,sx (B9p n),sx (B9o n),D3u n h,B66 n h,B5l n h,D71 n h,D78 n h,D77 n h,E1w n h,sx (C0c n),sx (C0b n),sx (C0v n),D9t n h,E01 n h,C2f n h,E05 n h,B6y n h,E4g n h,sx (C0w n),E1y n h,E1p n h,E4a n h,sx (C0u n),E1q n h,E1o n h,E63 n h,E1u n h,D1u n h,D3v n h,B4m n h,D73 n h,sx (C3f n),E62 n h,E1s n h,E64 n h⟩
theorem F1j:∀n,A9s Tryz.prog env C86 n
  |0=>B15 fun _=>rfl
  |n+1=>st [] (E81 n) B1a fun a=>by kernel_rfl
end Go.Proofs.YtalmhjlcjcnidaaGreat.Ev
