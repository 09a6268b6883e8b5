/- The tables of the law FnExactTextDb: what the evaluator makes of the program is these functions. -/
import Derived.Test.YtalmhjlcjcnidaaGreatEvFnFnExactTextDb
import Derived.Test.YtalmhjlcjcnidaaGreatEvExtFnExactTextDb
import Derived.Test.YtalmhjlcjcnidaaGreatEvHead
import Derived.Test.YtalmhjlcjcnidaaGreatEvEq
import Derived.Test.YtalmhjlcjcnidaaGreatChecked
set_option linter.all false
namespace Go.Proofs.YtalmhjlcjcnidaaGreat.Ev
open Go Go.Proofs
abbrev J1:Kd:=(.pair (.int .i64) .str)
abbrev J2:Kd:=(.pair (.sl .str) (.pair .str .str))
abbrev J3:Kd:=(.pair (.int .i64) J1)
abbrev J4:Kd:=(.sl J3)
abbrev J5:Kd:=(.sl J4)
abbrev J6:Kd:=(.pair .bool J3)
abbrev J7:Kd:=(.sl J5)
abbrev J8:Kd:=(.pair .bool J6)
abbrev J9:Kd:=(.pair (.int .i64) J8)
abbrev J10:Kd:=(.pair .str J9)
abbrev J11:Kd:=(.sl J10)
abbrev J12:Kd:=(.pair J11 (.sl .str))
abbrev J13:Kd:=(.pair .str J12)
abbrev J14:Kd:=(.sl J13)
abbrev J15:Kd:=(.pair J11 J2)
abbrev J16:Kd:=(.pair .str J15)
abbrev J17:Kd:=(.pair (.int .i64) J16)
abbrev J18:Kd:=(.pair J14 J7)
abbrev Z1:Type:=((List ByteArray)×Unit)
abbrev Z2:Type:=(ByteArray×(Y3×(Y3×Y27)))
abbrev Z3:Type:=((List ByteArray)×(ByteArray×Unit))
abbrev Z4:Type:=((Int×Z2)×Unit)
abbrev Q1:=(Tvs.cons (Tv.one (Lf.int .u8)) Tvs.nil)
abbrev Q2:=(Tvs.cons (Tv.one (Lf.sh .str)) Tvs.nil)
abbrev Q3:=(Ls.cons Lf.str (Ls.cons Lf.str Ls.nil))
abbrev Q4:=(Tvs.cons (Tv.one (Lf.int .i64)) Tvs.nil)
abbrev Q5:=(Ls.cons (Lf.sh J13) (Ls.one (Lf.sh J5)))
abbrev Q6:=(Ls.cons (Lf.od J13) (Ls.one (Lf.od J5)))
abbrev Q7:=(Ls.cons (Lf.sh J10) (Ls.one (Lf.sh .str)))
abbrev Q8:=(Ls.cons (Lf.od J10) (Ls.one (Lf.od .str)))
abbrev Q9:=(Ls.cons (Lf.int .i64) (Ls.cons Lf.str Ls.nil))
abbrev Q10:=(Tvs.cons (Tv.agg (Ls.one (Lf.sh J3))) Tvs.nil)
abbrev Q11:=(Tvs.cons (Tv.agg (Ls.one (Lf.sh J13))) Tvs.nil)
abbrev Q12:=(Ls.cons (Lf.sh J13) (Ls.cons (Lf.sh J5) Ls.nil))
abbrev Q13:=(Tv.agg Q5)
abbrev Q14:=(Tv.agg Q6)
abbrev Q15:=(Ls.cons (Lf.sh J10) (Ls.cons (Lf.sh .str) Ls.nil))
abbrev Q16:=(Ls.cons (Lf.sh .str) (Ls.cons Lf.str (Ls.one Lf.str)))
abbrev Q17:=(Ls.cons (Lf.od .str) (Ls.cons Lf.str (Ls.one Lf.str)))
abbrev Q18:=(Ls.cons Lf.str Q7)
abbrev Q19:=(Ls.cons Lf.str Q8)
abbrev Q20:=(Ls.cons (Lf.int .i64) (Ls.cons (Lf.int .i64) (Ls.one Lf.str)))
abbrev Q21:=(Ls.cons (Lf.sh .str) Q3)
abbrev Q22:=(Tvs.cons (Tv.one (Lf.sh .str)) (Tvs.cons (Tv.one Lf.str) Tvs.nil))
abbrev Q23:=(Ls.cons Lf.str Q15)
abbrev Q24:=(Tv.agg Q18)
abbrev Q25:=(Tvs.cons (Tv.one (Lf.sh J3)) (Tvs.cons (Tv.one (Lf.sh J3)) Tvs.nil))
abbrev Q26:=(Tvs.cons Q13 Tvs.nil)
abbrev Q27:=(Tv.agg Q19)
abbrev Q28:=(Tvs.cons (Tv.one (Lf.sh J4)) (Tvs.cons (Tv.one (Lf.sh J3)) Tvs.nil))
abbrev Q29:=(Ls.cons (Lf.int .i64) Q9)
abbrev Q30:=(Tv.agg Q20)
abbrev Q31:=(Tvs.cons (Tv.one (Lf.od J4)) Q4)
abbrev Q32:=(Tvs.cons (Tv.one (Lf.int .i64)) (Tvs.cons (Tv.one (Lf.od J13)) Tvs.nil))
abbrev Q33:=(Tvs.cons (Tv.one (Lf.int .i64)) Q4)
abbrev Q34:=(Rt.v Q27)
abbrev Q35:=(Ls.cons (Lf.sh J10) Q16)
abbrev Q36:=(Ls.cons (Lf.od J10) Q17)
abbrev Q37:=(Tvs.cons (Tv.one (Lf.sh J4)) Q10)
abbrev Q38:=(Ls.cons Lf.bool Q20)
abbrev Q39:=(Rt.tup Q31)
abbrev Q40:=(Ls.cons (Lf.sh J10) Q21)
abbrev Q41:=(Tvs.cons Q24 Tvs.nil)
abbrev Q42:=(Ls.cons Lf.bool Q29)
abbrev Q43:=(Tvs.cons Q30 Tvs.nil)
abbrev Q44:=(Ls.cons Lf.str Q35)
abbrev Q45:=(Ls.cons Lf.str Q36)
abbrev Q46:=(Ls.cons Lf.bool Q38)
abbrev Q47:=(Ls.cons Lf.str Q40)
abbrev Q48:=(Tvs.cons Q13 Q4)
abbrev Q49:=(Tvs.cons Q14 Q4)
abbrev Q50:=(Ls.cons Lf.bool Q42)
abbrev Q51:=(Ls.cons (Lf.int .i64) Q44)
abbrev Q52:=(Ls.cons (Lf.int .i64) Q45)
abbrev Q53:=(Ls.cons (Lf.int .i64) Q46)
abbrev Q54:=(Ls.cons (Lf.int .i64) Q47)
abbrev Q55:=(Tv.agg Q51)
abbrev Q56:=(Tv.agg Q52)
abbrev Q57:=(Tvs.cons Q24 Q10)
abbrev Q58:=(Ls.cons (Lf.int .i64) Q50)
abbrev Q59:=(Ls.cons (Lf.sh J3) Q51)
abbrev Q60:=(Ls.cons Lf.str Q53)
abbrev Q61:=(Tvs.cons Q55 Tvs.nil)
abbrev Q62:=(Ls.cons Lf.str Q58)
abbrev Q63:=(Tv.agg Q60)
abbrev Q64:=(Tvs.cons Q24 Q28)
abbrev Q65:=(Tvs.cons Q24 Q37)
abbrev Q66:=(Ls.cons (Lf.sh J3) Q59)
abbrev Q67:=(Tvs.cons Q63 Tvs.nil)
abbrev Q68:=(Tvs.cons Q30 Q43)
abbrev Q69:=(Ls.cons Lf.str Q66)
abbrev Q70:=(Tvs.cons (Tv.agg (Ls.one (Lf.sh J13))) Q61)
abbrev Q71:=(Ls.cons (Lf.int .i64) Q69)
abbrev Q72:=(Tv.agg Q71)
abbrev Q73:=(Tvs.cons Q72 Tvs.nil)
abbrev Q74:=(Tvs.cons Q13 Q73)
def F3r:List (Kd×Nat):=[]
def bytesOf (f:Kd):Nat:=((F3r.find? fun p=>decide (p.1=f)).map (·.2)).getD 1
theorem F88 (f:Kd):1≤bytesOf f:=by
  unfold bytesOf
  cases h:F3r.find? fun p=>decide (p.1=f)with
  |none=>exact Nat.le_refl _
  |some p=>
    have hp:∀q∈F3r,1≤q.2:=by decide
    exact hp p (List.mem_of_find?_eq_some h)
noncomputable def env:Env:=⟨[(3,⟨1,0,false,[],(.int .i64)⟩),
  (4,⟨1,0,false,[],.bool⟩),
  (5,⟨1,0,false,[],(.int .u8)⟩),
  (9,⟨1,0,false,[],.str⟩),
  (22,⟨1,1,false,[],(.sl (.int .u8))⟩),
  (23,⟨1,64,false,[],J14⟩),
  (25,⟨1,0,true,[(0,1)],J14⟩),
  (26,⟨1,24,false,[],J7⟩),
  (28,⟨2,0,true,[(0,1),(1,1)],J18⟩),
  (29,⟨1,32,false,[],J4⟩),
  (31,⟨1,0,true,[(0,1)],J4⟩),
  (32,⟨1,64,false,[],J11⟩),
  (33,⟨1,16,false,[],(.sl .str)⟩),
  (35,⟨6,0,true,[(0,1),(1,1),(2,1),(3,1),(4,1),(5,1)],J17⟩),
  (37,⟨10,0,true,[(0,1),(1,1),(2,1),(3,1),(4,6)],(.pair (.int .i64) (.pair .str (.pair J4 (.pair J4 J17))))⟩),
  (59,⟨1,24,false,[],J5⟩),
  (63,⟨3,0,true,[(0,1),(1,1),(2,1)],J13⟩),
  (65,⟨1,0,true,[(0,1)],J5⟩),
  (88,⟨3,0,true,[(0,1),(1,1),(2,1)],J3⟩),
  (118,⟨7,0,true,[(0,1),(1,1),(2,1),(3,1),(4,3)],J10⟩)],
  [(4,Tryz.f4),(8,Tryz.f8),(10,Tryz.f10),(11,Tryz.f11),(12,Tryz.f12),(13,Tryz.f13),(14,Tryz.f14),(15,Tryz.f15),(17,Tryz.f17),(18,Tryz.f18),(19,Tryz.f19),(25,Tryz.f25),(26,Tryz.f26),(27,Tryz.f27),(28,Tryz.f28),(29,Tryz.f29),(30,Tryz.f30),(31,Tryz.f31),(32,Tryz.f32),(33,Tryz.f33),(34,Tryz.f34),(35,Tryz.f35),(36,Tryz.f36),(37,Tryz.f37),(38,Tryz.f38),(39,Tryz.f39),(40,Tryz.f40),(41,Tryz.f41),(42,Tryz.f42),(43,Tryz.f43),(44,Tryz.f44),(45,Tryz.f45),(46,Tryz.f46),(47,Tryz.f47),(48,Tryz.f48),(49,Tryz.f49),(50,Tryz.f50),(51,Tryz.f51),(61,Tryz.f61),(62,Tryz.f62),(63,Tryz.f63),(64,Tryz.f64),(65,Tryz.f65),(66,Tryz.f66),(67,Tryz.f67),(68,Tryz.f68),(69,Tryz.f69),(70,Tryz.f70),(71,Tryz.f71),(72,Tryz.f72),(73,Tryz.f73),(74,Tryz.f74),(75,Tryz.f75),(76,Tryz.f76),(77,Tryz.f77),(78,Tryz.f78),(79,Tryz.f79),(80,Tryz.f80),(81,Tryz.f81),(82,Tryz.f82),(83,Tryz.f83),(84,Tryz.f84),(85,Tryz.f85),(86,Tryz.f86),(87,Tryz.f87),(88,Tryz.f88),(89,Tryz.f89),(90,Tryz.f90),(91,Tryz.f91),(92,Tryz.f92),(93,Tryz.f93),(94,Tryz.f94),(95,Tryz.f95),(96,Tryz.f96),(97,Tryz.f97),(98,Tryz.f98),(99,Tryz.f99),(100,Tryz.f100),(101,Tryz.f101),(102,Tryz.f102),(103,Tryz.f103),(104,Tryz.f104),(105,Tryz.f105),(106,Tryz.f106),(107,Tryz.f107),(108,Tryz.f108),(109,Tryz.f109),(110,Tryz.f110),(111,Tryz.f111),(112,Tryz.f112),(113,Tryz.f113),(116,Tryz.f116),(130,Tryz.f130),(131,Tryz.f131),(132,Tryz.f132),(133,Tryz.f133),(134,Tryz.f134),(135,Tryz.f135),(136,Tryz.f136),(139,Tryz.f139),(140,Tryz.f140),(141,Tryz.f141),(142,Tryz.f142),(144,Tryz.f144),(145,Tryz.f145),(146,Tryz.f146),(147,Tryz.f147),(148,Tryz.f148),(149,Tryz.f149),(150,Tryz.f150),(151,Tryz.f151),(152,Tryz.f152),(153,Tryz.f153),(154,Tryz.f154),(155,Tryz.f155),(156,Tryz.f156),(157,Tryz.f157),(158,Tryz.f158),(159,Tryz.f159),(160,Tryz.f160),(161,Tryz.f161),(162,Tryz.f162),(163,Tryz.f163),(164,Tryz.f164),(165,Tryz.f165),(166,Tryz.f166),(167,Tryz.f167),(168,Tryz.f168),(169,Tryz.f169),(170,Tryz.f170),(171,Tryz.f171),(172,Tryz.f172),(173,Tryz.f173),(174,Tryz.f174),(175,Tryz.f175),(176,Tryz.f176),(177,Tryz.f177),(178,Tryz.f178),(179,Tryz.f179),(180,Tryz.f180),(181,Tryz.f181),(182,Tryz.f182),(197,Tryz.f197),(198,Tryz.f198),(201,Tryz.f201),(202,Tryz.f202),(206,Tryz.f206),(207,Tryz.f207),(209,Tryz.f209),(210,Tryz.f210),(211,Tryz.f211),(212,Tryz.f212),(213,Tryz.f213),(214,Tryz.f214),(215,Tryz.f215),(216,Tryz.f216),(217,Tryz.f217),(218,Tryz.f218),(219,Tryz.f219),(220,Tryz.f220),(221,Tryz.f221),(222,Tryz.f222),(223,Tryz.f223),(224,Tryz.f224),(225,Tryz.f225),(226,Tryz.f226),(227,Tryz.f227),(235,Tryz.f235),(241,Tryz.f241),(242,Tryz.f242),(243,Tryz.f243),(248,Tryz.f248)],[(8,⟨[],false,none,[]⟩),(11,⟨[],false,none,[]⟩),(14,⟨[.io],true,none,[]⟩),(29,⟨[],false,none,[]⟩),(40,⟨[.io],true,none,[]⟩),(41,⟨[.io],true,none,[]⟩),(74,⟨[],false,none,[]⟩),(95,⟨[.io],true,none,[]⟩),(96,⟨[.io],true,none,[]⟩),(137,⟨[.give,.ro,.give],true,none,[]⟩),(138,⟨[.give],true,none,[]⟩),(143,⟨[.give],true,none,[]⟩),(148,⟨[],false,none,[]⟩),(162,⟨[.give],true,none,[]⟩),(164,⟨[.bx (J17)],true,none,[]⟩),(170,⟨[.io],true,none,[]⟩),(171,⟨[.io],true,none,[]⟩),(172,⟨[.io],true,none,[]⟩),(199,⟨[.give,.ro,.give],true,none,[]⟩),(200,⟨[.give],true,none,[]⟩),(201,⟨[.give],true,none,[]⟩),(205,⟨[.give],true,none,[]⟩),(208,⟨[.give,.ro,.give],true,none,[]⟩)],[(10,[(4,⟨14680066,[]⟩)]),(11,[(5,⟨458773,[4]⟩)]),(12,[(6,⟨30064771109,[]⟩)]),(17,[(5,⟨57354,[]⟩),(9,⟨15032442922,[]⟩)]),(18,[(5,⟨57354,[]⟩),(9,⟨481036394538,[]⟩)]),(19,[(4,⟨14680066,[]⟩)]),(28,[(2,⟨1794,[]⟩)]),(29,[(6,⟨3758096668,[]⟩)]),(31,[(3,⟨14348,[]⟩)]),(32,[(2,⟨450,[]⟩)]),(33,[(4,⟨229382,[]⟩)]),(34,[(4,⟨227,[]⟩)]),(36,[(4,⟨227,[]⟩)]),(39,[(4,⟨35,[]⟩)]),(41,[(2,⟨35,[]⟩)]),(43,[(2,⟨35,[]⟩)]),(44,[(7,⟨917514,[]⟩)]),(49,[(4,⟨7170,[]⟩)]),(50,[(4,⟨229382,[]⟩)]),(62,[(2,⟨9,[]⟩)]),(69,[(3,⟨14348,[]⟩)]),(70,[(2,⟨9,[]⟩)]),(71,[(2,⟨225,[]⟩)]),(75,[(3,⟨904,[]⟩)]),(79,[(9,⟨126100789566376992,[]⟩),(13,⟨32407902918558108704,[]⟩)]),(80,[(3,⟨1804,[]⟩)]),(81,[(2,⟨7170,[]⟩),(9,⟨7516192802,[]⟩)]),(82,[(4,⟨229380,[]⟩)]),(83,[(2,⟨35,[]⟩)]),(84,[(3,⟨7212,[]⟩)]),(86,[(2,⟨225,[]⟩)]),(87,[(3,⟨3592,[]⟩)]),(91,[(3,⟨3592,[]⟩)]),(92,[(2,⟨387,[]⟩)]),(93,[(4,⟨35,[]⟩)]),(95,[(2,⟨35,[]⟩)]),(96,[(2,⟨35,[]⟩)]),(97,[(2,⟨35,[]⟩)]),(98,[(2,⟨35,[]⟩)]),(100,[(3,⟨456,[]⟩)]),(102,[(3,⟨904,[]⟩)]),(103,[(3,⟨456,[]⟩)]),(104,[(5,⟨3670026,[]⟩)]),(105,[(3,⟨904,[]⟩)]),(106,[(4,⟨30064771074,[]⟩),(11,⟨31525197391593506,[]⟩)]),(107,[(4,⟨7340040,[]⟩)]),(108,[(2,⟨35,[]⟩)]),(109,[(3,⟨7212,[]⟩)]),(110,[(2,⟨387,[]⟩)]),(112,[(4,⟨12291,[]⟩)]),(113,[(4,⟨12291,[]⟩)]),(116,[(4,⟨12291,[]⟩)]),(136,[(11,⟨664,[]⟩)]),(139,[(12,⟨6755399441056288,[]⟩),(19,⟨1813388729421943762061824,[]⟩)]),(141,[(2,⟨170,[]⟩)]),(142,[(4,⟨3670022,[]⟩)]),(144,[(3,⟨456,[]⟩)]),(145,[(3,⟨1804,[]⟩)]),(148,[(4,⟨14456,[]⟩)]),(151,[(3,⟨917560,[]⟩),(11,⟨108086391056891960,[]⟩)]),(153,[(4,⟨57356,[]⟩)]),(154,[(4,⟨29096,[]⟩)]),(155,[(4,⟨3670022,[]⟩)]),(156,[(3,⟨3618,[]⟩)]),(157,[(2,⟨1794,[]⟩)]),(161,[(10,⟨405,[]⟩)]),(162,[(2,⟨54,[]⟩),(4,⟨118,[]⟩)]),(163,[(6,⟨917517,[]⟩),(12,⟨962072674316,[]⟩)]),(164,[(0,⟨3,[]⟩)]),(165,[(5,⟨7340044,[]⟩)]),(168,[(4,⟨35,[]⟩)]),(169,[(4,⟨9,[]⟩)]),(170,[(2,⟨35,[]⟩)]),(171,[(2,⟨35,[]⟩)]),(172,[(2,⟨35,[]⟩)]),(173,[(2,⟨35,[]⟩)]),(174,[(2,⟨35,[]⟩)]),(175,[(2,⟨35,[]⟩)]),(177,[(11,⟨26,[]⟩)]),(180,[(12,⟨26,[]⟩)]),(197,[(2,⟨387,[]⟩)]),(201,[(5,⟨99,[]⟩)]),(206,[(2,⟨387,[]⟩)]),(211,[(2,⟨898,[]⟩)]),(212,[(4,⟨12291,[]⟩)]),(213,[(2,⟨387,[]⟩)]),(215,[(5,⟨49,[]⟩)]),(216,[(2,⟨9,[]⟩)]),(218,[(3,⟨49,[]⟩)]),(219,[(8,⟨113,[]⟩)]),(220,[(4,⟨35,[]⟩)]),(221,[(4,⟨35,[]⟩)]),(224,[(6,⟨9,[]⟩)]),(241,[(2,⟨17,[]⟩)]),(243,[(4,⟨35,[]⟩)])],[88,118]⟩
set_option maxRecDepth 1000000 in
theorem F8b:B4 Tryz.prog env:=B1h (by kernel_rfl) (by
  simp only[env,List.forall_mem_cons,List.not_mem_nil,false_implies,implies_true,and_true]
  refine⟨⟨Tryz.func4,?_⟩,⟨Tryz.func8,?_⟩,⟨Tryz.func10,?_⟩,⟨Tryz.func11,?_⟩,⟨Tryz.func12,?_⟩,⟨Tryz.func13,?_⟩,⟨Tryz.func14,?_⟩,⟨Tryz.func15,?_⟩,⟨Tryz.func17,?_⟩,⟨Tryz.func18,?_⟩,⟨Tryz.func19,?_⟩,⟨Tryz.func25,?_⟩,⟨Tryz.func26,?_⟩,⟨Tryz.func27,?_⟩,⟨Tryz.func28,?_⟩,⟨Tryz.func29,?_⟩,⟨Tryz.func30,?_⟩,⟨Tryz.func31,?_⟩,⟨Tryz.func32,?_⟩,⟨Tryz.func33,?_⟩,⟨Tryz.func34,?_⟩,⟨Tryz.func35,?_⟩,⟨Tryz.func36,?_⟩,⟨Tryz.func37,?_⟩,⟨Tryz.func38,?_⟩,⟨Tryz.func39,?_⟩,⟨Tryz.func40,?_⟩,⟨Tryz.func41,?_⟩,⟨Tryz.func42,?_⟩,⟨Tryz.func43,?_⟩,⟨Tryz.func44,?_⟩,⟨Tryz.func45,?_⟩,⟨Tryz.func46,?_⟩,⟨Tryz.func47,?_⟩,⟨Tryz.func48,?_⟩,⟨Tryz.func49,?_⟩,⟨Tryz.func50,?_⟩,⟨Tryz.func51,?_⟩,⟨Tryz.func61,?_⟩,⟨Tryz.func62,?_⟩,⟨Tryz.func63,?_⟩,⟨Tryz.func64,?_⟩,⟨Tryz.func65,?_⟩,⟨Tryz.func66,?_⟩,⟨Tryz.func67,?_⟩,⟨Tryz.func68,?_⟩,⟨Tryz.func69,?_⟩,⟨Tryz.func70,?_⟩,⟨Tryz.func71,?_⟩,⟨Tryz.func72,?_⟩,⟨Tryz.func73,?_⟩,⟨Tryz.func74,?_⟩,⟨Tryz.func75,?_⟩,⟨Tryz.func76,?_⟩,⟨Tryz.func77,?_⟩,⟨Tryz.func78,?_⟩,⟨Tryz.func79,?_⟩,⟨Tryz.func80,?_⟩,⟨Tryz.func81,?_⟩,⟨Tryz.func82,?_⟩,⟨Tryz.func83,?_⟩,⟨Tryz.func84,?_⟩,⟨Tryz.func85,?_⟩,⟨Tryz.func86,?_⟩,⟨Tryz.func87,?_⟩,⟨Tryz.func88,?_⟩,⟨Tryz.func89,?_⟩,⟨Tryz.func90,?_⟩,⟨Tryz.func91,?_⟩,⟨Tryz.func92,?_⟩,⟨Tryz.func93,?_⟩,⟨Tryz.func94,?_⟩,⟨Tryz.func95,?_⟩,⟨Tryz.func96,?_⟩,⟨Tryz.func97,?_⟩,⟨Tryz.func98,?_⟩,⟨Tryz.func99,?_⟩,⟨Tryz.func100,?_⟩,⟨Tryz.func101,?_⟩,⟨Tryz.func102,?_⟩,⟨Tryz.func103,?_⟩,⟨Tryz.func104,?_⟩,⟨Tryz.func105,?_⟩,⟨Tryz.func106,?_⟩,⟨Tryz.func107,?_⟩,⟨Tryz.func108,?_⟩,⟨Tryz.func109,?_⟩,⟨Tryz.func110,?_⟩,⟨Tryz.func111,?_⟩,⟨Tryz.func112,?_⟩,⟨Tryz.func113,?_⟩,⟨Tryz.func116,?_⟩,⟨Tryz.func130,?_⟩,⟨Tryz.func131,?_⟩,⟨Tryz.func132,?_⟩,⟨Tryz.func133,?_⟩,⟨Tryz.func134,?_⟩,⟨Tryz.func135,?_⟩,⟨Tryz.func136,?_⟩,⟨Tryz.func139,?_⟩,⟨Tryz.func140,?_⟩,⟨Tryz.func141,?_⟩,⟨Tryz.func142,?_⟩,⟨Tryz.func144,?_⟩,⟨Tryz.func145,?_⟩,⟨Tryz.func146,?_⟩,⟨Tryz.func147,?_⟩,⟨Tryz.func148,?_⟩,⟨Tryz.func149,?_⟩,⟨Tryz.func150,?_⟩,⟨Tryz.func151,?_⟩,⟨Tryz.func152,?_⟩,⟨Tryz.func153,?_⟩,⟨Tryz.func154,?_⟩,⟨Tryz.func155,?_⟩,⟨Tryz.func156,?_⟩,⟨Tryz.func157,?_⟩,⟨Tryz.func158,?_⟩,⟨Tryz.func159,?_⟩,⟨Tryz.func160,?_⟩,⟨Tryz.func161,?_⟩,⟨Tryz.func162,?_⟩,⟨Tryz.func163,?_⟩,⟨Tryz.func164,?_⟩,⟨Tryz.func165,?_⟩,⟨Tryz.func166,?_⟩,⟨Tryz.func167,?_⟩,⟨Tryz.func168,?_⟩,⟨Tryz.func169,?_⟩,⟨Tryz.func170,?_⟩,⟨Tryz.func171,?_⟩,⟨Tryz.func172,?_⟩,⟨Tryz.func173,?_⟩,⟨Tryz.func174,?_⟩,⟨Tryz.func175,?_⟩,⟨Tryz.func176,?_⟩,⟨Tryz.func177,?_⟩,⟨Tryz.func178,?_⟩,⟨Tryz.func179,?_⟩,⟨Tryz.func180,?_⟩,⟨Tryz.func181,?_⟩,⟨Tryz.func182,?_⟩,⟨Tryz.func197,?_⟩,⟨Tryz.func198,?_⟩,⟨Tryz.func201,?_⟩,⟨Tryz.func202,?_⟩,⟨Tryz.func206,?_⟩,⟨Tryz.func207,?_⟩,⟨Tryz.func209,?_⟩,⟨Tryz.func210,?_⟩,⟨Tryz.func211,?_⟩,⟨Tryz.func212,?_⟩,⟨Tryz.func213,?_⟩,⟨Tryz.func214,?_⟩,⟨Tryz.func215,?_⟩,⟨Tryz.func216,?_⟩,⟨Tryz.func217,?_⟩,⟨Tryz.func218,?_⟩,⟨Tryz.func219,?_⟩,⟨Tryz.func220,?_⟩,⟨Tryz.func221,?_⟩,⟨Tryz.func222,?_⟩,⟨Tryz.func223,?_⟩,⟨Tryz.func224,?_⟩,⟨Tryz.func225,?_⟩,⟨Tryz.func226,?_⟩,⟨Tryz.func227,?_⟩,⟨Tryz.func235,?_⟩,⟨Tryz.func241,?_⟩,⟨Tryz.func242,?_⟩,⟨Tryz.func243,?_⟩,⟨Tryz.func248,?_⟩⟩
  all_goals kernel_rfl) (by kernel_rfl)
theorem F8c:U2 Tryz.prog env:=B1i (by kernel_rfl)
def D1g:Fn' (ByteArray×(Int×Unit)) (List ByteArray):=⟨34,(Tvs.cons (Tv.one Lf.str) Q1),(Rt.v (Tv.one (Lf.od .str))),fun n a=>C2s n a.1 a.2.1⟩
def D6f:=Sh.of (Sl.one Lf.str (Sl.one (Lf.int .u8) (Sl.gap 3 (Sl.k (Kf.ow 360) (Sl.one (Lf.int .i64) (Sl.one (Lf.int .i64) (Sl.gap 27 Sl.nil))))))) (Rw.data 360 .str Rw.nil) Ls.nil
def E2t (n:Nat):Tab (List ByteArray):=[([.b,.r,.l,.r,.r,.r],A8c D6f fun j a=>B65 n j a.1.1 a.1.2.1 a.1.2.2.1 a.1.2.2.2.1 a.2.1)]
def D7w:Fn' (ByteArray×Unit) (List ByteArray):=⟨85,(Tvs.cons (Tv.one Lf.str) Tvs.nil),(Rt.v (Tv.one (Lf.od .str))),fun n a=>C89 n a.1⟩
def D7y:Fn' Z1 Int:=⟨86,Q2,(Rt.v (Tv.one (Lf.int .i64))),fun n a=>D0s n a.1⟩
def E2j:=Sh.of (Sl.one (Lf.sh .str) (Sl.gap 4 (Sl.one (Lf.sh .str) (Sl.one (Lf.int .i64) (Sl.one (Lf.int .i64) (Sl.gap 10 Sl.nil)))))) Rw.nil Ls.nil
def F0s (n:Nat):Tab Int:=[([.b,.r,.l,.r],A8c E2j fun j a=>C1b n j a.1.1 a.1.2.1 a.1.2.2.1 a.1.2.2.2.1)]
def D5n:Fn' (Int×Unit) Bool:=⟨210,Q4,(Rt.v (Tv.one Lf.bool)),fun n a=>C3r n a.1⟩
def D2o:Fn' (Int×Unit) ByteArray:=⟨226,Q4,(Rt.v (Tv.one Lf.str)),fun n a=>B5j n a.1⟩
def D2s:Fn' (ByteArray×Unit) (Int×(Bool×Unit)):=⟨215,(Tvs.cons (Tv.one Lf.str) Tvs.nil),(Rt.tup (Tvs.cons (Tv.one (Lf.int .i64)) (Tvs.cons (Tv.one Lf.bool) Tvs.nil))),fun n a=>C4o n a.1⟩
def D8f:=Sh.of (Sl.one Lf.str (Sl.gap 3 (Sl.one (Lf.int .i64) (Sl.one (Lf.int .i64) (Sl.gap 49 Sl.nil))))) Rw.nil Ls.nil
def E4q (n:Nat):Tab (Int×(Bool×Unit)):=[([.b,.r,.l,.r,.r,.r],A8c D8f fun j a=>B47 n j a.1.1 a.1.2.1 a.1.2.2.1)]
def D5m:Fn' (Int×Unit) Int:=⟨227,Q4,(Rt.v (Tv.one (Lf.int .u8))),fun n a=>B5t n a.1⟩
def D2x:Fn' (Int×Unit) Int:=⟨216,Q1,(Rt.v (Tv.one (Lf.int .i64))),fun n a=>C4r n a.1⟩
def D8i:=Sh.of (Sl.one (Lf.int .u8) (Sl.gap 2 (Sl.one (Lf.int .i64) (Sl.gap 9 Sl.nil)))) Rw.nil Ls.nil
def E4t (n:Nat):Tab Int:=[([.b,.r,.l,.r],A8c D8i fun j a=>B8g n j a.1.1 a.1.2.1)]
def D7v:Fn' (Y1×Unit) Bool:=⟨146,Q43,(Rt.v (Tv.one Lf.bool)),fun n a=>B99 n a.1.1 a.1.2.1 a.1.2.2⟩
def D2w:Fn' (Int×Unit) ByteArray:=⟨225,Q4,(Rt.v (Tv.one Lf.str)),fun n a=>C7e n a.1⟩
def D2v:Fn' (Y1×Unit) ByteArray:=⟨180,Q43,(Rt.v (Tv.one Lf.str)),fun n a=>B2u n a.1.1 a.1.2.1 a.1.2.2⟩
def D8h:=Sh.of (Sl.gap 1 (Sl.k (Kf.box 104 0) (Sl.gap 1 (Sl.k (Kf.ow 232) (Sl.one (Lf.int .i64) (Sl.gap 63 Sl.nil)))))) (Rw.box 104 J3 Q29 (Rw.data 232 (.int .u8) Rw.nil)) Ls.nil
def E4s (n:Nat):Tab ByteArray:=[([.b,.r,.l,.r,.r,.r,.r],A8c D8h fun j a=>B4g n j a.1.1 a.2.1.1 a.2.1.2.1 a.2.1.2.2.1 a.2.2.1)]
def D2t:Fn' (ByteArray×Unit) Y7:=⟨161,(Tvs.cons (Tv.one Lf.str) Tvs.nil),(Rt.tup (Tvs.cons Q30 (Tvs.cons (Tv.one Lf.bool) Tvs.nil))),fun n a=>C0i n a.1⟩
def D8g:=Sh.of (Sl.one Lf.str (Sl.gap 1 (Sl.k (Kf.box 168 0) (Sl.gap 1 (Sl.k (Kf.box 296 0) (Sl.gap 2 (Sl.k (Kf.ow 488) (Sl.one (Lf.int .i64) (Sl.gap 84 Sl.nil))))))))) (Rw.box 168 J3 Q29 (Rw.box 296 J3 Q29 (Rw.data 488 (.int .u8) Rw.nil))) Ls.nil
def E4r (n:Nat):Tab Y7:=[([.b,.r,.l,.r,.t,.r,.l,.r,.r,.r,.r,.r],A8c D8g fun j a=>B3m n j a.1.1 a.1.2.1 a.2.1.1 a.2.1.2.1 a.2.1.2.2.1 a.2.2.1.1 a.2.2.1.2.1 a.2.2.1.2.2.1 a.2.2.2.1)]
def D35:Fn' Z1 Y3:=⟨87,Q2,(Rt.v (Tv.one (Lf.od J3))),fun n a=>C0l n a.1⟩
def D8o:=Sh.of (Sl.gap 3 (Sl.k (Kf.ow 232) (Sl.gap 5 (Sl.one (Lf.sh .str) (Sl.one (Lf.int .i64) (Sl.one (Lf.int .i64) (Sl.gap 17 Sl.nil))))))) (Rw.data 232 J3 Rw.nil) Ls.nil
def E4z (n:Nat):Tab Y3:=[([.b,.r,.l,.r,.r],A8c D8o fun j a=>B6u n j a.1.1 a.1.2.1 a.1.2.2.1 a.2.1)]
def D5l:Fn' (ByteArray×Unit) Bool:=⟨70,(Tvs.cons (Tv.one Lf.str) Tvs.nil),(Rt.v (Tv.one Lf.bool)),fun n a=>B7e n a.1⟩
def E0d:=Sh.of (Sl.one Lf.str (Sl.gap 2 (Sl.one (Lf.int .i64) (Sl.gap 24 Sl.nil)))) Rw.nil Ls.nil
def E88 (n:Nat):Tab Bool:=[([.b,.r,.l,.r],A8c E0d fun j a=>C02 n j a.1.1 a.1.2.1)]
def D33:Fn' (Y3×Unit) Bool:=⟨71,(Tvs.cons (Tv.one (Lf.sh J3)) Tvs.nil),(Rt.v (Tv.one Lf.bool)),fun n a=>C0j n a.1⟩
def D8m:=Sh.of (Sl.one (Lf.sh J3) (Sl.gap 4 (Sl.one (Lf.sh J3) (Sl.one (Lf.int .i64) (Sl.one (Lf.int .i64) (Sl.gap 15 Sl.nil)))))) Rw.nil Ls.nil
def E4x (n:Nat):Tab Bool:=[([.b,.r,.l,.r],A8c D8m fun j a=>B8k n j a.1.1 a.1.2.1 a.1.2.2.1 a.1.2.2.2.1)]
def D1f:Fn' (Y27×Unit) Bool:=⟨72,Q61,(Rt.v (Tv.one Lf.bool)),fun n a=>B9a n a.1.1 a.1.2.1 a.1.2.2.1 a.1.2.2.2.1 a.1.2.2.2.2.1 a.1.2.2.2.2.2⟩
def D7q:Fn' (Y15×Unit) Bool:=⟨147,Q67,(Rt.v (Tv.one Lf.bool)),fun n a=>C5e n a.1.1 a.1.2.1 a.1.2.2.1 a.1.2.2.2.1 a.1.2.2.2.2.1 a.1.2.2.2.2.2.1 a.1.2.2.2.2.2.2⟩
def D7p:Fn' (Y19×(ByteArray×Unit)) Int:=⟨157,(Tvs.cons Q24 (Tvs.cons (Tv.one Lf.str) Tvs.nil)),(Rt.v (Tv.one (Lf.int .i64))),fun n a=>B7w n a.1.1 a.1.2.1 a.1.2.2 a.2.1⟩
def E2e:=Sh.of (Sl.gap 1 (Sl.one Lf.str (Sl.gap 6 (Sl.one (Lf.sh J10) (Sl.one (Lf.int .i64) (Sl.one (Lf.int .i64) (Sl.gap 10 Sl.nil))))))) Rw.nil Ls.nil
def F0n (n:Nat):Tab Int:=[([.b,.r,.l,.r],A8c E2e fun j a=>C16 n j a.1.1 a.1.2.1 a.1.2.2.1 a.1.2.2.2.1)]
def D2q:Fn' (Y19×Unit) Bool:=⟨106,Q41,(Rt.v (Tv.one Lf.bool)),fun n a=>B76 n a.1.1 a.1.2.1 a.1.2.2⟩
def D8e:=Sh.of (Sl.gap 1 (Sl.k (Kf.box 104 0) (Sl.gap 3 (Sl.one (Lf.int .i64) (Sl.gap 46 (Sl.one (Lf.sh .str) (Sl.one (Lf.int .i64) (Sl.one (Lf.int .i64) (Sl.gap 20 Sl.nil))))))))) (Rw.box 104 J13 Q23 Rw.nil) Ls.nil
def D8d:=Sh.of (Sl.gap 1 (Sl.k (Kf.box 104 0) (Sl.gap 30 (Sl.one (Lf.sh J10) (Sl.one (Lf.int .i64) (Sl.one (Lf.int .i64) (Sl.gap 40 Sl.nil))))))) (Rw.box 104 J13 Q23 Rw.nil) Ls.nil
def E4p (n:Nat):Tab Bool:=[([.b,.r,.l,.r,.r,.r,.r],A8c D8e fun j a=>B6s n j a.1.1 a.1.2.1 a.1.2.2.1 a.1.2.2.2.1 a.2.1.1 a.2.1.2.1 a.2.1.2.2.1),
  ([.b,.r,.l,.r,.r],A8c D8d fun j a=>B6r n j a.1.1 a.1.2.1 a.1.2.2.1 a.2.1.1 a.2.1.2.1 a.2.1.2.2.1)]
def D7r:Fn' (Y27×Unit) Bool:=⟨73,Q61,(Rt.v (Tv.one Lf.bool)),fun n a=>C3c n a.1.1 a.1.2.1 a.1.2.2.1 a.1.2.2.2.1 a.1.2.2.2.2.1 a.1.2.2.2.2.2⟩
def D5j:Fn' Z4 Bool:=⟨27,Q73,(Rt.v (Tv.one Lf.bool)),fun n a=>C6k n a.1.1 a.1.2.1 a.1.2.2.1 a.1.2.2.2.1 a.1.2.2.2.2.1 a.1.2.2.2.2.2.1 a.1.2.2.2.2.2.2.1 a.1.2.2.2.2.2.2.2.1 a.1.2.2.2.2.2.2.2.2.1 a.1.2.2.2.2.2.2.2.2.2⟩
def D36:Fn' (Y3×Unit) (List ByteArray):=⟨105,(Tvs.cons (Tv.one (Lf.sh J3)) Tvs.nil),(Rt.v (Tv.one (Lf.od .str))),fun n a=>C0m n a.1⟩
def D8p:=Sh.of (Sl.gap 3 (Sl.k (Kf.ow 232) (Sl.gap 3 (Sl.one (Lf.sh J3) (Sl.one (Lf.int .i64) (Sl.one (Lf.int .i64) (Sl.gap 10 Sl.nil))))))) (Rw.data 232 .str Rw.nil) Ls.nil
def E50 (n:Nat):Tab (List ByteArray):=[([.b,.r,.l,.r,.r],A8c D8p fun j a=>B8m n j a.1.1 a.1.2.1 a.1.2.2.1 a.2.1)]
def D34:Fn' Z1 ByteArray:=⟨103,Q2,(Rt.v (Tv.one Lf.str)),fun n a=>C2a n a.1⟩
def D8n:=Sh.of (Sl.gap 3 (Sl.one Lf.str (Sl.gap 2 (Sl.one (Lf.sh .str) (Sl.one (Lf.int .i64) (Sl.one (Lf.int .i64) (Sl.gap 13 Sl.nil))))))) Rw.nil Ls.nil
def E4y (n:Nat):Tab ByteArray:=[([.b,.r,.l,.r,.r],A8c D8n fun j a=>B6t n j a.1.1 a.1.2.1 a.1.2.2.1 a.1.2.2.2.1)]
def D1h:Fn' Unit (List ByteArray):=⟨217,Tvs.nil,(Rt.v (Tv.one (Lf.od .str))),fun n a=>B9b n⟩
def D5t:Fn' (Y15×Unit) (List ByteArray):=⟨179,Q67,(Rt.v (Tv.one (Lf.od .str))),fun n a=>C1u n a.1.1 a.1.2.1 a.1.2.2.1 a.1.2.2.2.1 a.1.2.2.2.2.1 a.1.2.2.2.2.2.1 a.1.2.2.2.2.2.2⟩
def D5u:Fn' (Y27×Unit) (List ByteArray):=⟨104,Q61,(Rt.v (Tv.one (Lf.od .str))),fun n a=>C1v n a.1.1 a.1.2.1 a.1.2.2.1 a.1.2.2.2.1 a.1.2.2.2.2.1 a.1.2.2.2.2.2⟩
def E0i:=Sh.of (Sl.gap 1 (Sl.k (Kf.box 104 0) (Sl.gap 1 (Sl.k (Kf.ow 232) (Sl.gap 15 (Sl.one (Lf.sh J10) (Sl.one (Lf.int .i64) (Sl.one (Lf.int .i64) (Sl.gap 44 Sl.nil))))))))) (Rw.box 104 J17 Q54 (Rw.data 232 .str Rw.nil)) Ls.nil
def E8d (n:Nat):Tab (List ByteArray):=[([.b,.r,.l,.t,.r,.b,.r,.l,.r,.r],A8c E0i fun j a=>C05 n j a.1.1 a.1.2.1 a.1.2.2.1 a.2.1.1 a.2.1.2.1 a.2.1.2.2.1 a.2.1.2.2.2.1 a.2.1.2.2.2.2.1 a.2.1.2.2.2.2.2.1 a.2.2.1)]
def D2m:Fn' (Y27×Unit) ByteArray:=⟨47,Q61,(Rt.v (Tv.one Lf.str)),fun n a=>R2 n a.1.1 a.1.2.1 a.1.2.2.1 a.1.2.2.2.1 a.1.2.2.2.2.1 a.1.2.2.2.2.2⟩
def D1b:Fn' Z4 ByteArray:=⟨48,Q73,(Rt.v (Tv.one Lf.str)),fun n a=>B4p n a.1.1 a.1.2.1 a.1.2.2.1 a.1.2.2.2.1 a.1.2.2.2.2.1 a.1.2.2.2.2.2.1 a.1.2.2.2.2.2.2.1 a.1.2.2.2.2.2.2.2.1 a.1.2.2.2.2.2.2.2.2.1 a.1.2.2.2.2.2.2.2.2.2⟩
def C8n:Fn' Z1 Y15:=⟨163,Q2,(Rt.v Q63),fun n a=>B8l n a.1⟩
def D3d:=Sh.of (Sl.gap 2 (Sl.k (Kf.box 168 0) (Sl.k (Kf.box 232 0) (Sl.gap 33 (Sl.one (Lf.sh .str) (Sl.one (Lf.int .i64) (Sl.one (Lf.int .i64) (Sl.gap 24 Sl.nil)))))))) (Rw.box 168 J10 Q62 (Rw.box 232 J10 Q62 Rw.nil)) Ls.nil
def D3c:=Sh.of (Sl.one (Lf.sh .str) (Sl.gap 1 (Sl.k (Kf.box 168 0) (Sl.k (Kf.box 232 0) (Sl.gap 13 (Sl.k (Kf.ow 1128) (Sl.one (Lf.int .i64) (Sl.one (Lf.int .i64) (Sl.gap 44 Sl.nil))))))))) (Rw.box 168 J10 Q62 (Rw.box 232 J10 Q62 (Rw.data 1128 .str Rw.nil))) Ls.nil
def D8v (n:Nat):Tab Y15:=[([.b,.r,.l,.r,.r,.r,.r,.r],A8c D3d fun j a=>B42 n j a.1.1 a.1.2.1 a.1.2.2.1 a.2.1.1 a.2.1.2.1 a.2.1.2.2.1 a.2.1.2.2.2.1 a.2.1.2.2.2.2.1 a.2.1.2.2.2.2.2.1 a.2.1.2.2.2.2.2.2.1 a.2.2.1.1 a.2.2.1.2.1 a.2.2.1.2.2.1 a.2.2.1.2.2.2.1 a.2.2.1.2.2.2.2.1 a.2.2.1.2.2.2.2.2.1 a.2.2.1.2.2.2.2.2.2.1),
  ([.b,.r,.l,.r,.r,.r,.r],A8c D3c fun j a=>B66 n j a.1.1 a.1.2.1 a.1.2.2.1 a.2.1.1 a.2.1.2.1 a.2.1.2.2.1 a.2.1.2.2.2.1 a.2.1.2.2.2.2.1 a.2.1.2.2.2.2.2.1 a.2.1.2.2.2.2.2.2.1 a.2.2.1.1 a.2.2.1.2.1 a.2.2.1.2.2.1 a.2.2.1.2.2.2.1 a.2.2.1.2.2.2.2.1 a.2.2.1.2.2.2.2.2.1 a.2.2.1.2.2.2.2.2.2.1 a.2.2.2.1)]
def C64:Fn' (Y27×Z1) Y27:=⟨162,(Tvs.cons Q56 Q2),(Rt.v Q56),fun n a=>C0k n a.1.1 a.1.2.1 a.1.2.2.1 a.1.2.2.2.1 a.1.2.2.2.2.1 a.1.2.2.2.2.2 a.2.1⟩
def C9p:=Sh.of (Sl.gap 1 (Sl.one (Lf.sh .str) (Sl.k (Kf.box 168 0) (Sl.gap 1 (Sl.k (Kf.box 296 0) (Sl.one (Lf.int .i64) (Sl.one (Lf.int .i64) (Sl.gap 55 Sl.nil)))))))) (Rw.box 168 J17 (Ls.cons (Lf.int .i64) (Ls.cons Lf.str (Ls.k (Kf.ow 176) (Ls.k (Kf.ow 177) Q3)))) (Rw.data 176 J10 (Rw.data 177 .str (Rw.box 296 J17 (Ls.cons (Lf.int .i64) (Ls.cons Lf.str (Ls.k (Kf.ow 304) (Ls.k (Kf.ow 305) Q3)))) (Rw.data 304 J10 (Rw.data 305 .str Rw.nil)))))) Ls.nil
def C9o:=Sh.of (Sl.gap 1 (Sl.one (Lf.sh .str) (Sl.k (Kf.box 168 0) (Sl.gap 1 (Sl.k (Kf.box 296 0) (Sl.one (Lf.int .i64) (Sl.gap 56 Sl.nil))))))) (Rw.box 168 J17 (Ls.cons (Lf.int .i64) (Ls.cons Lf.str (Ls.k (Kf.ow 176) (Ls.k (Kf.ow 177) Q3)))) (Rw.data 176 J10 (Rw.data 177 .str (Rw.box 296 J17 (Ls.cons (Lf.int .i64) (Ls.cons Lf.str (Ls.k (Kf.ow 304) (Ls.k (Kf.ow 305) Q3)))) (Rw.data 304 J10 (Rw.data 305 .str Rw.nil)))))) Ls.nil
def D3g (n:Nat):Tab Y27:=[([.b,.l,.r,.b,.r,.p,.b,.l,.r,.r],A2r C9p fun i j a=>B54 n (fun y0 y1 y2 y3 y4 y5 y6 y7 y8 y9 y10 y11 y12 y13=>B53 n i y0 y1 y2 y3 y4 y5 y6 y7 y8 y9 y10 y11 y12 y13) j a.1.1 a.1.2.1 a.1.2.2.1 a.2.1.1 a.2.1.2.1 a.2.1.2.2.1 a.2.1.2.2.2.1 a.2.2.1 a.2.2.2.1 a.2.2.2.2.1.1 a.2.2.2.2.1.2.1 a.2.2.2.2.1.2.2.1 a.2.2.2.2.1.2.2.2.1 a.2.2.2.2.2.1 a.2.2.2.2.2.2.1),
  ([.b,.l,.r,.r],A8c C9o fun j a=>B53 n j a.1.1 a.1.2.1 a.2.1.1 a.2.1.2.1 a.2.1.2.2.1 a.2.1.2.2.2.1 a.2.2.1 a.2.2.2.1 a.2.2.2.2.1.1 a.2.2.2.2.1.2.1 a.2.2.2.2.1.2.2.1 a.2.2.2.2.1.2.2.2.1 a.2.2.2.2.2.1 a.2.2.2.2.2.2.1)]
def D2r:Fn' (ByteArray×Unit) (Y27×(Bool×Unit)):=⟨88,(Tvs.cons (Tv.one Lf.str) Tvs.nil),(Rt.tup (Tvs.cons Q56 (Tvs.cons (Tv.one Lf.bool) Tvs.nil))),fun n a=>C7d n a.1⟩
def D1c:Fn' (ByteArray×Unit) ((Int×Z2)×(Bool×Unit)):=⟨35,(Tvs.cons (Tv.one Lf.str) Tvs.nil),(Rt.tup (Tvs.cons (Tv.agg (Ls.cons (Lf.int .i64) (Ls.cons Lf.str (Ls.cons (Lf.od J3) (Ls.cons (Lf.od J3) Q52))))) (Tvs.cons (Tv.one Lf.bool) Tvs.nil))),fun n a=>C61 n a.1⟩
def D7o:Fn' Y23 Bool:=⟨49,Q11,(Rt.v (Tv.one Lf.bool)),fun n a=>C84 n a.1⟩
def E2d:=Sh.of (Sl.gap 1 (Sl.k (Kf.box 104 0) (Sl.gap 8 (Sl.one (Lf.sh J13) (Sl.one (Lf.int .i64) (Sl.one (Lf.int .i64) (Sl.gap 24 Sl.nil))))))) (Rw.box 104 J14 (Ls.cons (Lf.sh J13) Ls.nil) Rw.nil) Ls.nil
def F0m (n:Nat):Tab Bool:=[([.b,.r,.l,.r,.r],A8c E2d fun j a=>B7d n j a.1.1 a.1.2.1 a.1.2.2.1 a.2.1.1)]
def D30:Fn' (Y15×(Y1×Unit)) Bool:=⟨181,(Tvs.cons Q63 Q43),(Rt.v (Tv.one Lf.bool)),fun n a=>C4u n a.1.1 a.1.2.1 a.1.2.2.1 a.1.2.2.2.1 a.1.2.2.2.2.1 a.1.2.2.2.2.2.1 a.1.2.2.2.2.2.2 a.2.1.1 a.2.1.2.1 a.2.1.2.2⟩
def D7u:Fn' (Y19×(Y3×Unit)) Bool:=⟨107,Q57,(Rt.v (Tv.one Lf.bool)),fun n a=>C5f n a.1.1 a.1.2.1 a.1.2.2 a.2.1⟩
def E2h:=Sh.of (Sl.gap 3 (Sl.k (Kf.box 232 0) (Sl.gap 16 (Sl.one (Lf.sh J10) (Sl.one (Lf.int .i64) (Sl.one (Lf.int .i64) (Sl.gap 13 Sl.nil))))))) (Rw.box 232 J4 (Ls.cons (Lf.sh J3) Ls.nil) Rw.nil) Ls.nil
def F0q (n:Nat):Tab Bool:=[([.b,.r,.l,.r,.r],A8c E2h fun j a=>C19 n j a.1.1 a.1.2.1 a.1.2.2.1 a.2.1.1)]
def D5q:Fn' (Y19×(Y3×Unit)) Y3:=⟨109,Q57,(Rt.v (Tv.one (Lf.od J3))),fun n a=>B7f n a.1.1 a.1.2.1 a.1.2.2 a.2.1⟩
def E0g:=Sh.of (Sl.gap 2 (Sl.k (Kf.box 168 0) (Sl.k (Kf.box 232 0) (Sl.gap 1 (Sl.k (Kf.ow 360) (Sl.gap 4 (Sl.one (Lf.sh .str) (Sl.one (Lf.int .i64) (Sl.one (Lf.int .i64) (Sl.gap 15 Sl.nil)))))))))) (Rw.box 168 J13 Q23 (Rw.box 232 J4 (Ls.cons (Lf.sh J3) Ls.nil) (Rw.data 360 J3 Rw.nil))) Ls.nil
def E8b (n:Nat):Tab Y3:=[([.b,.r,.l,.r,.r],A8c E0g fun j a=>C04 n j a.1.1 a.1.2.1 a.1.2.2.1 a.2.1.1 a.2.1.2.1 a.2.1.2.2.1 a.2.2.1.1 a.2.2.2.1)]
def D2u:Fn' (Y1×(Y1×Unit)) Bool:=⟨182,Q68,(Rt.v (Tv.one Lf.bool)),fun n a=>C4p n a.1.1 a.1.2.1 a.1.2.2 a.2.1.1 a.2.1.2.1 a.2.1.2.2⟩
def D2n:Fn' (Y3×(Y3×Unit)) Bool:=⟨108,Q25,(Rt.v (Tv.one Lf.bool)),fun n a=>C26 n a.1 a.2.1⟩
def D8a:=Sh.of (Sl.one (Lf.sh J3) (Sl.one (Lf.sh J3) (Sl.gap 3 (Sl.one (Lf.int .i64) (Sl.gap 35 Sl.nil))))) Rw.nil Ls.nil
def E4n (n:Nat):Tab Bool:=[([.b,.r,.l,.r],A8c D8a fun j a=>B5r n j a.1.1 a.1.2.1 a.1.2.2.1)]
def D5i:Fn' (Y19×(Y6×Unit)) Bool:=⟨50,(Tvs.cons Q24 (Tvs.cons (Tv.one (Lf.sh J4)) Tvs.nil)),(Rt.v (Tv.one Lf.bool)),fun n a=>B8z n a.1.1 a.1.2.1 a.1.2.2 a.2.1⟩
def E0b:=Sh.of (Sl.gap 1 (Sl.one (Lf.sh J4) (Sl.k (Kf.box 168 0) (Sl.gap 12 (Sl.one (Lf.sh J4) (Sl.one (Lf.int .i64) (Sl.one (Lf.int .i64) (Sl.gap 27 Sl.nil)))))))) (Rw.box 168 J13 Q23 Rw.nil) Ls.nil
def E86 (n:Nat):Tab Bool:=[([.b,.r,.l,.r,.r],A8c E0b fun j a=>B7x n j a.1.1 a.1.2.1 a.1.2.2.1 a.1.2.2.2.1 a.2.1.1 a.2.1.2.1 a.2.1.2.2.1)]
def E1t:Fn' (Y28×Unit) Bool:=⟨19,Q26,(Rt.v (Tv.one Lf.bool)),fun n a=>D05 n a.1.1 a.1.2⟩
def E4c:=Sh.of (Sl.gap 1 (Sl.k (Kf.box 104 0) (Sl.gap 19 (Sl.one (Lf.sh J13) (Sl.one (Lf.int .i64) (Sl.one (Lf.int .i64) (Sl.gap 14 Sl.nil))))))) (Rw.box 104 J18 Q12 Rw.nil) Ls.nil
def F2c (n:Nat):Tab Bool:=[([.b,.r,.l,.r,.r],A8c E4c fun j a=>C25 n j a.1.1 a.1.2.1 a.1.2.2.1 a.2.1.1 a.2.1.2.1)]
def D7x:Fn' (Y21×(ByteArray×Unit)) Int:=⟨28,(Tvs.cons (Tv.agg (Ls.one (Lf.sh J13))) (Tvs.cons (Tv.one Lf.str) Tvs.nil)),(Rt.v (Tv.one (Lf.int .i64))),fun n a=>C5g n a.1 a.2.1⟩
def E2i:=Sh.of (Sl.gap 1 (Sl.one Lf.str (Sl.gap 6 (Sl.one (Lf.sh J13) (Sl.one (Lf.int .i64) (Sl.one (Lf.int .i64) (Sl.gap 10 Sl.nil))))))) Rw.nil Ls.nil
def F0r (n:Nat):Tab Int:=[([.b,.r,.l,.r],A8c E2i fun j a=>C1a n j a.1.1 a.1.2.1 a.1.2.2.1 a.1.2.2.2.1)]
def D1e:Fn' (Y19×Unit) Y19:=⟨149,Q41,Q34,fun n a=>C2r n a.1.1 a.1.2.1 a.1.2.2⟩
def D2y:Fn' Y23 Y21:=⟨80,Q11,(Rt.v (Tv.agg (Ls.one (Lf.od J13)))),fun n a=>C4t n a.1⟩
def D8j:=Sh.of (Sl.gap 2 (Sl.k (Kf.box 168 0) (Sl.k (Kf.box 232 0) (Sl.gap 4 (Sl.one (Lf.sh J13) (Sl.one (Lf.int .i64) (Sl.one (Lf.int .i64) (Sl.gap 12 Sl.nil)))))))) (Rw.box 168 J14 (Ls.k (Kf.ow 176) Ls.nil) (Rw.data 176 J13 (Rw.box 232 J14 (Ls.k (Kf.ow 240) Ls.nil) (Rw.data 240 J13 Rw.nil)))) Ls.nil
def E4u (n:Nat):Tab Y21:=[([.b,.r,.l,.r,.r],A8c D8j fun j a=>B8h n j a.1.1 a.1.2.1 a.1.2.2.1 a.2.2.1 a.2.2.2.2.1)]
def D5p:Fn' (Y21×(Y19×Unit)) Y21:=⟨148,(Tvs.cons (Tv.agg (Ls.one (Lf.sh J13))) Q41),(Rt.v (Tv.agg (Ls.one (Lf.sh J13)))),fun n a=>C90 n a.1 a.2.1.1 a.2.1.2.1 a.2.1.2.2⟩
def E0f:=Sh.of (Sl.gap 3 (Sl.k (Kf.box 232 0) (Sl.k (Kf.box 296 0) (Sl.k (Kf.box 360 0) (Sl.one Lf.bool (Sl.gap 4 (Sl.one (Lf.sh J13) (Sl.one (Lf.int .i64) (Sl.one (Lf.int .i64) (Sl.gap 34 Sl.nil)))))))))) (Rw.box 232 J13 Q23 (Rw.box 296 J14 (Ls.k (Kf.ow 304) Ls.nil) (Rw.data 304 J13 (Rw.box 360 J14 (Ls.k (Kf.ow 368) Ls.nil) (Rw.data 368 J13 Rw.nil))))) Ls.nil
def E8a (n:Nat):Tab Y21:=[([.b,.r,.l,.r,.r,.r],A8c E0f fun j a=>B6c n j a.1.1 a.1.2.1 a.1.2.2.1 a.1.2.2.2.1 a.2.1.1 a.2.1.2.1 a.2.1.2.2.1 a.2.2.2.1 a.2.2.2.2.2.1)]
def D5o:Fn' Z3 Bool:=⟨211,Q22,(Rt.v (Tv.one Lf.bool)),fun n a=>C8z n a.1 a.2.1⟩
def E0e:=Sh.of (Sl.gap 1 (Sl.one Lf.str (Sl.gap 5 (Sl.one (Lf.sh .str) (Sl.one (Lf.int .i64) (Sl.one (Lf.int .i64) (Sl.gap 7 Sl.nil))))))) Rw.nil Ls.nil
def E89 (n:Nat):Tab Bool:=[([.b,.r,.l,.r],A8c E0e fun j a=>C03 n j a.1.1 a.1.2.1 a.1.2.2.1 a.1.2.2.2.1)]
def D1d:Fn' (Y19×(Y27×Unit)) Int:=⟨150,(Tvs.cons Q24 Q61),(Rt.v (Tv.one (Lf.int .i64))),fun n a=>C62 n a.1.1 a.1.2.1 a.1.2.2 a.2.1.1 a.2.1.2.1 a.2.1.2.2.1 a.2.1.2.2.2.1 a.2.1.2.2.2.2.1 a.2.1.2.2.2.2.2⟩
def C9l:Fn' (Y19×(Y27×Unit)) Y19:=⟨151,(Tvs.cons Q24 Q61),Q34,fun n a=>C4s n a.1.1 a.1.2.1 a.1.2.2 a.2.1.1 a.2.1.2.1 a.2.1.2.2.1 a.2.1.2.2.2.1 a.2.1.2.2.2.2.1 a.2.1.2.2.2.2.2⟩
def D4m:=Sh.of (Sl.gap 3 (Sl.k (Kf.box 232 0) (Sl.k (Kf.box 296 0) (Sl.k (Kf.box 360 0) (Sl.gap 49 (Sl.one (Lf.int .i64) (Sl.one (Lf.int .i64) (Sl.gap 35 Sl.nil)))))))) (Rw.box 232 J17 Q54 (Rw.box 296 J13 (Ls.cons Lf.str (Ls.k (Kf.ow 304) (Ls.k (Kf.ow 305) Ls.nil))) (Rw.data 304 J10 (Rw.data 305 .str (Rw.box 360 J13 (Ls.cons Lf.str (Ls.k (Kf.ow 368) (Ls.k (Kf.ow 369) Ls.nil))) (Rw.data 368 J10 (Rw.data 369 .str Rw.nil))))))) Ls.nil
def D4l:=Sh.of (Sl.gap 3 (Sl.k (Kf.box 232 0) (Sl.k (Kf.box 296 0) (Sl.k (Kf.box 360 0) (Sl.gap 11 (Sl.one (Lf.sh J10) (Sl.one (Lf.int .i64) (Sl.one (Lf.int .i64) (Sl.gap 72 Sl.nil))))))))) (Rw.box 232 J17 Q54 (Rw.box 296 J13 (Ls.cons Lf.str (Ls.k (Kf.ow 304) (Ls.k (Kf.ow 305) Ls.nil))) (Rw.data 304 J10 (Rw.data 305 .str (Rw.box 360 J13 (Ls.cons Lf.str (Ls.k (Kf.ow 368) (Ls.k (Kf.ow 369) Ls.nil))) (Rw.data 368 J10 (Rw.data 369 .str Rw.nil))))))) Ls.nil
def E0l (n:Nat):Tab Y19:=[([.b,.r,.l,.r,.r,.r],A8c D4m fun j a=>B51 n j a.1.1 a.1.2.1 a.2.1.1 a.2.1.2.1 a.2.1.2.2.1 a.2.1.2.2.2.1 a.2.1.2.2.2.2.1 a.2.1.2.2.2.2.2.1 a.2.2.1.1 a.2.2.2.1 a.2.2.2.2.1 a.2.2.2.2.2.1.1 a.2.2.2.2.2.2.1 a.2.2.2.2.2.2.2.1),
  ([.b,.r,.l,.r,.r],A8c D4l fun j a=>B3s n j a.1.1 a.1.2.1 a.1.2.2.1 a.2.1.1 a.2.1.2.1 a.2.1.2.2.1 a.2.1.2.2.2.1 a.2.1.2.2.2.2.1 a.2.1.2.2.2.2.2.1 a.2.2.1.1 a.2.2.2.1 a.2.2.2.2.1 a.2.2.2.2.2.1.1 a.2.2.2.2.2.2.1 a.2.2.2.2.2.2.2.1)]
def D1a:Fn' (Y21×(Y27×Unit)) Y24:=⟨74,Q70,(Rt.tup (Tvs.cons (Tv.agg (Ls.one (Lf.sh J13))) Q4)),fun n a=>C2p n a.1 a.2.1.1 a.2.1.2.1 a.2.1.2.2.1 a.2.1.2.2.2.1 a.2.1.2.2.2.2.1 a.2.1.2.2.2.2.2⟩
def C7k:Fn' (Y3×(Y3×Unit)) Bool:=⟨212,Q25,(Rt.v (Tv.one Lf.bool)),fun n a=>C28 n a.1 a.2.1⟩
def D1w:=Sh.of (Sl.one (Lf.sh J3) (Sl.one (Lf.sh J3) (Sl.gap 10 (Sl.one (Lf.int .i64) (Sl.one (Lf.int .i64) (Sl.gap 12 Sl.nil)))))) Rw.nil Ls.nil
def D6i (n:Nat):Tab Bool:=[([.b,.r,.l,.r,.r],A8c D1w fun j a=>B5n n j a.1.1 a.1.2.1 a.1.2.2.1 a.1.2.2.2.1)]
def D7t:Fn' (Y19×(Y6×(Y3×Unit))) Int:=⟨153,Q64,(Rt.v (Tv.one (Lf.int .i64))),fun n a=>C3d n a.1.1 a.1.2.1 a.1.2.2 a.2.1 a.2.2.1⟩
def E2g:=Sh.of (Sl.gap 2 (Sl.one (Lf.sh J3) (Sl.k (Kf.box 232 0) (Sl.gap 9 (Sl.one (Lf.sh J4) (Sl.one (Lf.int .i64) (Sl.one (Lf.int .i64) (Sl.gap 11 Sl.nil)))))))) (Rw.box 232 J13 Q23 Rw.nil) Ls.nil
def F0p (n:Nat):Tab Int:=[([.b,.r,.l,.r,.r],A8c E2g fun j a=>C18 n j a.1.1 a.1.2.1 a.1.2.2.1 a.1.2.2.2.1 a.2.1.1 a.2.1.2.1 a.2.1.2.2.1)]
def D5s:Fn' (Y3×Unit) Y3:=⟨152,Q10,(Rt.v (Tv.agg (Ls.one (Lf.od J3)))),fun n a=>B7g n a.1⟩
def D5r:Fn' (Y19×(Y6×(Y3×Unit))) Y6:=⟨154,Q65,(Rt.v (Tv.one (Lf.od J4))),fun n a=>C6m n a.1.1 a.1.2.1 a.1.2.2 a.2.1 a.2.2.1⟩
def E0h:=Sh.of (Sl.gap 3 (Sl.k (Kf.box 232 0) (Sl.gap 1 (Sl.k (Kf.box 360 0) (Sl.gap 1 (Sl.k (Kf.ow 488) (Sl.one Lf.bool (Sl.gap 3 (Sl.one (Lf.sh J4) (Sl.one (Lf.int .i64) (Sl.one (Lf.int .i64) (Sl.gap 33 Sl.nil)))))))))))) (Rw.box 232 J13 Q23 (Rw.box 360 J4 (Ls.cons (Lf.sh J3) Ls.nil) (Rw.data 488 J4 Rw.nil))) Ls.nil
def E8c (n:Nat):Tab Y6:=[([.b,.r,.l,.r,.r,.r],A8c E0h fun j a=>B6d n j a.1.1 a.1.2.1 a.1.2.2.1 a.1.2.2.2.1 a.2.1.1 a.2.1.2.1 a.2.1.2.2.1 a.2.2.1.1 a.2.2.2.1)]
def D5g:Fn' (Y19×(Y6×(Y3×Unit))) Y14:=⟨76,Q65,Q39,fun n a=>C6i n a.1.1 a.1.2.1 a.1.2.2 a.2.1 a.2.2.1⟩
def D7s:Fn' (Y19×(Y3×Unit)) Bool:=⟨155,(Tvs.cons Q24 (Tvs.cons (Tv.one (Lf.sh J3)) Tvs.nil)),(Rt.v (Tv.one Lf.bool)),fun n a=>C85 n a.1.1 a.1.2.1 a.1.2.2 a.2.1⟩
def E2f:=Sh.of (Sl.gap 1 (Sl.one (Lf.sh J3) (Sl.k (Kf.box 168 0) (Sl.gap 16 (Sl.one (Lf.sh .str) (Sl.one (Lf.int .i64) (Sl.one (Lf.int .i64) (Sl.gap 18 Sl.nil)))))))) (Rw.box 168 J13 Q23 Rw.nil) Ls.nil
def F0o (n:Nat):Tab Bool:=[([.b,.r,.l,.r,.r],A8c E2f fun j a=>C17 n j a.1.1 a.1.2.1 a.1.2.2.1 a.1.2.2.2.1 a.2.1.1 a.2.1.2.1 a.2.1.2.2.1)]
def C8m:Fn' Y14 Y6:=⟨156,(Tvs.cons (Tv.one (Lf.sh J4)) Q4),(Rt.v (Tv.one (Lf.od J4))),fun n a=>C0x n a.1 a.2.1⟩
def D3b:=Sh.of (Sl.gap 1 (Sl.one (Lf.int .i64) (Sl.gap 3 (Sl.k (Kf.ow 360) (Sl.gap 3 (Sl.one (Lf.sh J4) (Sl.one (Lf.int .i64) (Sl.one (Lf.int .i64) (Sl.gap 14 Sl.nil))))))))) (Rw.data 360 J4 Rw.nil) Ls.nil
def D8u (n:Nat):Tab Y6:=[([.b,.r,.l,.r,.r],A8c D3b fun j a=>B59 n j a.1.1 a.1.2.1 a.1.2.2.1 a.1.2.2.2.1 a.2.1)]
def D5h:Fn' (Y19×(Y6×(Y3×(Y3×Unit)))) Y14:=⟨77,(Tvs.cons Q24 (Tvs.cons (Tv.one (Lf.sh J4)) (Tvs.cons (Tv.one (Lf.sh J3)) Q10))),Q39,fun n a=>C6j n a.1.1 a.1.2.1 a.1.2.2 a.2.1 a.2.2.1 a.2.2.2.1⟩
def D5f:Fn' (Y19×(Y6×(Y3×Unit))) Y14:=⟨78,Q64,Q39,fun n a=>C6h n a.1.1 a.1.2.1 a.1.2.2 a.2.1 a.2.2.1⟩
def D2p:Fn' (Y19×(Y6×(Y27×Unit))) Y14:=⟨79,(Tvs.cons Q24 (Tvs.cons (Tv.one (Lf.sh J4)) Q61)),Q39,fun n a=>C7c n a.1.1 a.1.2.1 a.1.2.2 a.2.1 a.2.2.1.1 a.2.2.1.2.1 a.2.2.1.2.2.1 a.2.2.1.2.2.2.1 a.2.2.1.2.2.2.2.1 a.2.2.1.2.2.2.2.2⟩
def D8c:=Sh.of (Sl.gap 5 (Sl.k (Kf.box 360 0) (Sl.gap 4 (Sl.k (Kf.ow 680) (Sl.one (Lf.int .i64) (Sl.gap 2 (Sl.k (Kf.box 936 0) (Sl.gap 39 (Sl.one (Lf.sh J4) (Sl.one (Lf.int .i64) (Sl.one (Lf.int .i64) (Sl.gap 5 (Sl.one (Lf.sh J3) (Sl.one (Lf.int .i64) (Sl.one (Lf.int .i64) (Sl.gap 41 Sl.nil)))))))))))))))) (Rw.box 360 J17 Q54 (Rw.data 680 J4 (Rw.box 936 J4 (Ls.k (Kf.ow 944) Ls.nil) (Rw.data 944 J3 Rw.nil)))) Ls.nil
def D8b:=Sh.of (Sl.gap 5 (Sl.k (Kf.box 360 0) (Sl.gap 4 (Sl.k (Kf.ow 680) (Sl.one (Lf.int .i64) (Sl.gap 42 (Sl.one (Lf.sh J4) (Sl.one (Lf.int .i64) (Sl.one (Lf.int .i64) (Sl.gap 49 Sl.nil)))))))))) (Rw.box 360 J17 Q54 (Rw.data 680 J4 Rw.nil)) Ls.nil
def E4o (n:Nat):Tab Y14:=[([.b,.r,.l,.r,.r,.b,.l,.r,.r,.p,.b,.r,.l,.r,.r,.r,.r,.r,.r],A2r D8c fun i j a=>B57 n (fun y0 y1 y2 y3 y4 y5 y6 y7 y8 y9 y10=>B5s n i y0 y1 y2 y3 y4 y5 y6 y7 y8 y9 y10) j a.1.1 a.1.2.1 a.1.2.2.1 a.1.2.2.2.1 a.1.2.2.2.2.1 a.1.2.2.2.2.2.1 a.1.2.2.2.2.2.2.1 a.2.1.1 a.2.1.2.1 a.2.1.2.2.1 a.2.1.2.2.2.1 a.2.1.2.2.2.2.1 a.2.1.2.2.2.2.2.1 a.2.2.1 a.2.2.2.2.1),
  ([.b,.r,.l,.r,.r,.r,.r,.r,.r],A8c D8b fun j a=>B5s n j a.1.1 a.1.2.1 a.1.2.2.1 a.1.2.2.2.1 a.2.1.1 a.2.1.2.1 a.2.1.2.2.1 a.2.1.2.2.2.1 a.2.1.2.2.2.2.1 a.2.1.2.2.2.2.2.1 a.2.2.1)]
def D32:Fn' (Y19×(Y6×Z4)) Y14:=⟨30,(Tvs.cons Q24 (Tvs.cons (Tv.one (Lf.sh J4)) Q73)),Q39,fun n a=>C29 n a.1.1 a.1.2.1 a.1.2.2 a.2.1 a.2.2.1.1 a.2.2.1.2.1 a.2.2.1.2.2.1 a.2.2.1.2.2.2.1 a.2.2.1.2.2.2.2.1 a.2.2.1.2.2.2.2.2.1 a.2.2.1.2.2.2.2.2.2.1 a.2.2.1.2.2.2.2.2.2.2.1 a.2.2.1.2.2.2.2.2.2.2.2.1 a.2.2.1.2.2.2.2.2.2.2.2.2⟩
def D2z:Fn' (Y6×Unit) Y6:=⟨75,(Tvs.cons (Tv.one (Lf.sh J4)) Tvs.nil),(Rt.v (Tv.one (Lf.od J4))),fun n a=>C27 n a.1⟩
def D8k:=Sh.of (Sl.gap 3 (Sl.k (Kf.ow 232) (Sl.gap 3 (Sl.one (Lf.sh J4) (Sl.one (Lf.int .i64) (Sl.one (Lf.int .i64) (Sl.gap 10 Sl.nil))))))) (Rw.data 232 J4 Rw.nil) Ls.nil
def E4v (n:Nat):Tab Y6:=[([.b,.r,.l,.r,.r],A8c D8k fun j a=>B8i n j a.1.1 a.1.2.1 a.1.2.2.1 a.2.1)]
def C9m:Fn' (Y28×Z4) (Y28×(Int×Unit)):=⟨29,Q74,(Rt.tup Q48),fun n a=>C1t n a.1.1 a.1.2 a.2.1.1 a.2.1.2.1 a.2.1.2.2.1 a.2.1.2.2.2.1 a.2.1.2.2.2.2.1 a.2.1.2.2.2.2.2.1 a.2.1.2.2.2.2.2.2.1 a.2.1.2.2.2.2.2.2.2.1 a.2.1.2.2.2.2.2.2.2.2.1 a.2.1.2.2.2.2.2.2.2.2.2⟩
def D4n:=Sh.of (Sl.gap 2 (Sl.k (Kf.box 168 0) (Sl.k (Kf.box 232 0) (Sl.k (Kf.box 296 0) (Sl.gap 3 (Sl.k (Kf.box 552 0) (Sl.gap 20 (Sl.one (Lf.sh J13) (Sl.one (Lf.int .i64) (Sl.one (Lf.int .i64) (Sl.gap 54 Sl.nil))))))))))) (Rw.box 168 J18 Q12 (Rw.box 232 (.pair (.int .i64) (.pair .str (.pair J4 (.pair J4 J17)))) (Ls.cons (Lf.int .i64) (Ls.cons Lf.str (Ls.cons (Lf.sh J3) (Ls.cons (Lf.sh J3) Q54)))) (Rw.box 296 J18 (Ls.k (Kf.ow 304) (Ls.k (Kf.ow 305) Ls.nil)) (Rw.data 304 J13 (Rw.data 305 J5 (Rw.box 552 J18 (Ls.cons (Lf.sh J13) (Ls.k (Kf.ow 560) Ls.nil)) (Rw.data 560 J5 Rw.nil))))))) Ls.nil
def E0m (n:Nat):Tab (Y28×(Int×Unit)):=[([.b,.r,.l,.r,.r,.r,.r],A8c D4n fun j a=>B49 n j a.1.1 a.1.2.1 a.1.2.2.1 a.2.1.1 a.2.1.2.1 a.2.2.1.1 a.2.2.1.2.1 a.2.2.1.2.2.1 a.2.2.1.2.2.2.1 a.2.2.1.2.2.2.2.1 a.2.2.1.2.2.2.2.2.1 a.2.2.1.2.2.2.2.2.2.1 a.2.2.1.2.2.2.2.2.2.2.1 a.2.2.1.2.2.2.2.2.2.2.2.1 a.2.2.1.2.2.2.2.2.2.2.2.2.1 a.2.2.2.2.1 a.2.2.2.2.2.1 a.2.2.2.2.2.2.1.1 a.2.2.2.2.2.2.2.1)]
def D31:Fn' (Y28×Unit) Y28:=⟨31,Q26,(Rt.v Q14),fun n a=>C4v n a.1.1 a.1.2⟩
def D8l:=Sh.of (Sl.gap 2 (Sl.k (Kf.box 168 0) (Sl.k (Kf.box 232 0) (Sl.gap 7 (Sl.one (Lf.sh J5) (Sl.one (Lf.int .i64) (Sl.one (Lf.int .i64) (Sl.gap 14 Sl.nil)))))))) (Rw.box 168 J18 (Ls.k (Kf.ow 176) (Ls.k (Kf.ow 177) Ls.nil)) (Rw.data 176 J13 (Rw.data 177 J5 (Rw.box 232 J18 (Ls.k (Kf.ow 240) (Ls.k (Kf.ow 241) Ls.nil)) (Rw.data 240 J13 (Rw.data 241 J5 Rw.nil)))))) Ls.nil
def E4w (n:Nat):Tab Y28:=[([.b,.r,.l,.r,.r],A8c D8l fun j a=>B8j n j a.1.1 a.1.2.1 a.1.2.2.1 a.2.2.1 a.2.2.2.1 a.2.2.2.2.2.1 a.2.2.2.2.2.2.1)]
def E1u:Fn' (Y28×Z4) (Y28×(Int×Unit)):=⟨8,Q74,(Rt.tup Q48),fun n a=>D4g n a.1.1 a.1.2 a.2.1.1 a.2.1.2.1 a.2.1.2.2.1 a.2.1.2.2.2.1 a.2.1.2.2.2.2.1 a.2.1.2.2.2.2.2.1 a.2.1.2.2.2.2.2.2.1 a.2.1.2.2.2.2.2.2.2.1 a.2.1.2.2.2.2.2.2.2.2.1 a.2.1.2.2.2.2.2.2.2.2.2⟩
def D5e:Fn' (Y28×Unit) ByteArray:=⟨18,Q26,(Rt.v (Tv.one Lf.str)),fun n a=>C8y n a.1.1 a.1.2⟩
def E0a:=Sh.of (Sl.gap 1 (Sl.k (Kf.box 104 0) (Sl.gap 1 (Sl.one Lf.str (Sl.gap 1 (Sl.k (Kf.box 360 0) (Sl.gap 7 (Sl.one (Lf.sh J13) (Sl.one (Lf.int .i64) (Sl.one (Lf.int .i64) (Sl.gap 20 (Sl.one (Lf.sh J4) (Sl.one (Lf.int .i64) (Sl.one (Lf.int .i64) (Sl.gap 14 Sl.nil))))))))))))))) (Rw.box 104 J18 Q12 (Rw.box 360 J13 Q23 Rw.nil)) Ls.nil
def E09:=Sh.of (Sl.gap 1 (Sl.k (Kf.box 104 0) (Sl.gap 1 (Sl.one Lf.str (Sl.gap 9 (Sl.one (Lf.sh J13) (Sl.one (Lf.int .i64) (Sl.one (Lf.int .i64) (Sl.gap 37 Sl.nil))))))))) (Rw.box 104 J18 Q12 Rw.nil) Ls.nil
def E85 (n:Nat):Tab ByteArray:=[([.b,.r,.r,.r,.b,.l,.r,.r,.p,.b,.r,.l,.r,.r,.r],A2r E0a fun i j a=>C00 n (fun y0 y1 y2 y3 y4 y5=>B5i n i y0 y1 y2 y3 y4 y5) j a.1.1 a.1.2.1 a.1.2.2.1 a.1.2.2.2.1 a.1.2.2.2.2.1 a.1.2.2.2.2.2.1 a.1.2.2.2.2.2.2.1 a.2.1.1 a.2.1.2.1 a.2.2.1.1 a.2.2.1.2.1 a.2.2.1.2.2.1),
  ([.b,.r,.l,.r,.r,.r],A8c E09 fun j a=>B5i n j a.1.1 a.1.2.1 a.1.2.2.1 a.1.2.2.2.1 a.2.1.1 a.2.1.2.1)]
def D5k:Fn' (ByteArray×Unit) (Y28×(Bool×Unit)):=⟨11,(Tvs.cons (Tv.one Lf.str) Tvs.nil),(Rt.tup (Tvs.cons Q13 (Tvs.cons (Tv.one Lf.bool) Tvs.nil))),fun n a=>C6l n a.1⟩
def E0c:=Sh.of (Sl.one Lf.str (Sl.gap 1 (Sl.k (Kf.box 168 0) (Sl.gap 1 (Sl.k (Kf.box 296 0) (Sl.gap 11 (Sl.k (Kf.ow 1064) (Sl.one (Lf.int .i64) (Sl.one (Lf.int .i64) (Sl.gap 27 Sl.nil)))))))))) (Rw.box 168 J18 (Ls.k (Kf.ow 176) (Ls.k (Kf.ow 177) Ls.nil)) (Rw.data 176 J13 (Rw.data 177 J5 (Rw.box 296 J18 Q12 (Rw.data 1064 .str Rw.nil))))) Ls.nil
def E87 (n:Nat):Tab (Y28×(Bool×Unit)):=[([.b,.r,.l,.r,.r,.r],A8c E0c fun j a=>B7y n j a.1.1 a.1.2.1 a.1.2.2.1 a.2.2.1 a.2.2.2.1 a.2.2.2.2.1.1 a.2.2.2.2.1.2.1 a.2.2.2.2.2.1)]
def E4a:Fn' (ByteArray×(Int×Unit)) (List ByteArray):=⟨36,(Tvs.cons (Tv.one Lf.str) Q1),(Rt.v (Tv.one (Lf.od .str))),fun n a=>D3r n a.1 a.2.1⟩
def E7s:=Sh.of (Sl.one Lf.str (Sl.one (Lf.int .u8) (Sl.gap 3 (Sl.k (Kf.ow 360) (Sl.one (Lf.int .i64) (Sl.one (Lf.int .i64) (Sl.gap 27 Sl.nil))))))) (Rw.data 360 .str Rw.nil) Ls.nil
def F3p (n:Nat):Tab (List ByteArray):=[([.b,.r,.l,.r,.r,.r],A8c E7s fun j a=>C1o n j a.1.1 a.1.2.1 a.1.2.2.1 a.1.2.2.2.1 a.2.1)]
def D7e:Fn' (ByteArray×Unit) (List ByteArray):=⟨90,(Tvs.cons (Tv.one Lf.str) Tvs.nil),(Rt.v (Tv.one (Lf.od .str))),fun n a=>C7t n a.1⟩
def C0p:Fn' Z3 Int:=⟨92,Q22,(Rt.v (Tv.one (Lf.int .i64))),fun n a=>B2m n a.1 a.2.1⟩
def C51:=Sh.of (Sl.one (Lf.sh .str) (Sl.one Lf.str (Sl.gap 5 (Sl.one (Lf.int .i64) (Sl.one (Lf.int .i64) (Sl.gap 10 Sl.nil)))))) Rw.nil Ls.nil
def C6p (n:Nat):Tab Int:=[([.b,.r,.l,.r],A8c C51 fun j a=>B2e n j a.1.1 a.1.2.1 a.1.2.2.1 a.1.2.2.2.1)]
def D58:Fn' (Int×(Int×(Int×Unit))) Bool:=⟨132,(Tvs.cons (Tv.one (Lf.int .i64)) Q33),(Rt.v (Tv.one Lf.bool)),fun n a=>B4z n a.1 a.2.1 a.2.2.1⟩
def D7d:Fn' (Y1×Unit) Bool:=⟨135,Q43,(Rt.v (Tv.one Lf.bool)),fun n a=>B93 n a.1.1 a.1.2.1 a.1.2.2⟩
def D0z:Fn' (Int×Unit) ByteArray:=⟨223,Q4,(Rt.v (Tv.one Lf.str)),fun n a=>C5q n a.1⟩
def D25:Fn' (Int×Unit) ByteArray:=⟨224,Q4,(Rt.v (Tv.one Lf.str)),fun n a=>B5g n a.1⟩
def D81:=Sh.of (Sl.one (Lf.int .i64) (Sl.gap 2 (Sl.one Lf.str (Sl.gap 28 Sl.nil)))) Rw.nil Ls.nil
def E4g (n:Nat):Tab ByteArray:=[([.b,.l,.r,.r,.r,.r],A8c D81 fun j a=>C0u n j a.1.1 a.1.2.1)]
def D2c:Fn' (Y1×Unit) ByteArray:=⟨177,Q43,(Rt.v (Tv.one Lf.str)),fun n a=>B40 n a.1.1 a.1.2.1 a.1.2.2⟩
def D87:=Sh.of (Sl.gap 1 (Sl.k (Kf.box 104 0) (Sl.gap 1 (Sl.k (Kf.ow 232) (Sl.one (Lf.int .i64) (Sl.gap 63 Sl.nil)))))) (Rw.box 104 J3 Q29 (Rw.data 232 (.int .u8) Rw.nil)) Ls.nil
def E4k (n:Nat):Tab ByteArray:=[([.b,.r,.l,.r,.r,.r],A8c D87 fun j a=>B4n n j a.1.1 a.2.1.1 a.2.1.2.1 a.2.1.2.2.1 a.2.2.1)]
def D52:Fn' (Int×Unit) Int:=⟨241,Q1,(Rt.v (Tv.one (Lf.int .i64))),fun n a=>C69 n a.1⟩
def E02:=Sh.of (Sl.one (Lf.int .u8) (Sl.gap 3 (Sl.one (Lf.int .i64) (Sl.gap 8 Sl.nil)))) Rw.nil Ls.nil
def E7y (n:Nat):Tab Int:=[([.b,.r,.l,.r],A8c E02 fun j a=>B9s n j a.1.1 a.1.2.1)]
def D54:Fn' (ByteArray×Unit) (ByteArray×(Bool×Unit)):=⟨218,(Tvs.cons (Tv.one Lf.str) Tvs.nil),(Rt.tup (Tvs.cons (Tv.one Lf.str) (Tvs.cons (Tv.one Lf.bool) Tvs.nil))),fun n a=>C8s n a.1⟩
def E04:=Sh.of (Sl.one Lf.str (Sl.gap 3 (Sl.k (Kf.ow 296) (Sl.one (Lf.int .i64) (Sl.gap 52 Sl.nil))))) (Rw.data 296 (.int .u8) Rw.nil) Ls.nil
def E80 (n:Nat):Tab (ByteArray×(Bool×Unit)):=[([.b,.r,.l,.r,.r],A8c E04 fun j a=>B6b n j a.1.1 a.1.2.1 a.2.1)]
def D29:Fn' (ByteArray×Unit) (Int×(Bool×Unit)):=⟨219,(Tvs.cons (Tv.one Lf.str) Tvs.nil),(Rt.tup (Tvs.cons (Tv.one (Lf.int .i64)) (Tvs.cons (Tv.one Lf.bool) Tvs.nil))),fun n a=>C0d n a.1⟩
def D86:=Sh.of (Sl.one Lf.str (Sl.gap 3 (Sl.one (Lf.int .i64) (Sl.one (Lf.int .i64) (Sl.one (Lf.int .i64) (Sl.gap 48 Sl.nil)))))) Rw.nil Ls.nil
def E4j (n:Nat):Tab (Int×(Bool×Unit)):=[([.b,.r,.l,.r,.r,.r,.r,.r],A8c D86 fun j a=>B5p n j a.1.1 a.1.2.1 a.1.2.2.1 a.1.2.2.2.1)]
def D2a:Fn' (ByteArray×Unit) Y7:=⟨166,(Tvs.cons (Tv.one Lf.str) Tvs.nil),(Rt.tup (Tvs.cons Q30 (Tvs.cons (Tv.one Lf.bool) Tvs.nil))),fun n a=>C0e n a.1⟩
def D7f:Fn' Z1 Y15:=⟨165,Q2,(Rt.v Q63),fun n a=>C7u n a.1⟩
def E29:=Sh.of (Sl.gap 2 (Sl.k (Kf.box 168 0) (Sl.k (Kf.box 232 0) (Sl.gap 16 (Sl.one (Lf.sh .str) (Sl.one (Lf.int .i64) (Sl.one (Lf.int .i64) (Sl.gap 24 Sl.nil)))))))) (Rw.box 168 J10 Q62 (Rw.box 232 J10 Q62 Rw.nil)) Ls.nil
def F0i (n:Nat):Tab Y15:=[([.b,.r,.l,.r,.r,.r],A8c E29 fun j a=>B4o n j a.1.1 a.1.2.1 a.1.2.2.1 a.2.1.1 a.2.1.2.1 a.2.1.2.2.1 a.2.1.2.2.2.1 a.2.1.2.2.2.2.1 a.2.1.2.2.2.2.2.1 a.2.1.2.2.2.2.2.2.1 a.2.2.1.1 a.2.2.1.2.1 a.2.2.1.2.2.1 a.2.2.1.2.2.2.1 a.2.2.1.2.2.2.2.1 a.2.2.1.2.2.2.2.2.1 a.2.2.1.2.2.2.2.2.2.1)]
def C9h:Fn' Z1 (List ByteArray):=⟨178,Q2,(Rt.v (Tv.one (Lf.od .str))),fun n a=>B9q n a.1⟩
def D12:Fn' (Y27×Z1) (Y27×Unit):=⟨164,(Tvs.cons Q56 Q2),(Rt.tup (Tvs.cons Q56 Tvs.nil)),fun n a=>C5r n a.1.1 a.1.2.1 a.1.2.2.1 a.1.2.2.2.1 a.1.2.2.2.2.1 a.1.2.2.2.2.2 a.2.1⟩
def D68:=Sh.of (Sl.k (Kf.box 40 0) (Sl.one (Lf.sh .str) (Sl.gap 42 Sl.nil))) (Rw.box 40 J17 (Ls.cons (Lf.int .i64) (Ls.cons Lf.str (Ls.k (Kf.ow 48) (Ls.k (Kf.ow 49) Q3)))) (Rw.data 48 J10 (Rw.data 49 .str Rw.nil))) (Ls.k (Kf.box 40 0) Ls.nil)
def E2m (n:Nat):Tab (Y27×Unit):=[([.b,.l],A8c D68 fun j a=>B9r n j a.1.1 a.2.1.1 a.2.1.2.1 a.2.1.2.2.1 a.2.1.2.2.2.1 a.2.2.1 a.2.2.2.1)]
def D50:Fn' (ByteArray×Unit) Bool:=⟨62,(Tvs.cons (Tv.one Lf.str) Tvs.nil),(Rt.v (Tv.one Lf.bool)),fun n a=>B7b n a.1⟩
def E00:=Sh.of (Sl.one Lf.str (Sl.gap 2 (Sl.one (Lf.int .i64) (Sl.gap 19 Sl.nil)))) Rw.nil Ls.nil
def E7w (n:Nat):Tab Bool:=[([.b,.r,.l,.r],A8c E00 fun j a=>B9m n j a.1.1 a.1.2.1)]
def C9g:Fn' (Y19×Unit) Y19:=⟨101,Q41,Q34,fun n a=>B9p n a.1.1 a.1.2.1 a.1.2.2⟩
def D0w:Fn' (Y27×Unit) Y19:=⟨130,Q61,Q34,fun n a=>C0z n a.1.1 a.1.2.1 a.1.2.2.1 a.1.2.2.2.1 a.1.2.2.2.2.1 a.1.2.2.2.2.2⟩
def D7a:Fn' (Y15×Unit) Bool:=⟨131,Q67,(Rt.v (Tv.one Lf.bool)),fun n a=>C58 n a.1.1 a.1.2.1 a.1.2.2.1 a.1.2.2.2.1 a.1.2.2.2.2.1 a.1.2.2.2.2.2.1 a.1.2.2.2.2.2.2⟩
def D21:Fn' (Y15×(ByteArray×Unit)) Bool:=⟨214,(Tvs.cons Q63 (Tvs.cons (Tv.one (Lf.spt .str 0)) Tvs.nil)),(Rt.v (Tv.one Lf.bool)),fun n a=>C72 n a.1.1 a.1.2.1 a.1.2.2.1 a.1.2.2.2.1 a.1.2.2.2.2.1 a.1.2.2.2.2.2.1 a.1.2.2.2.2.2.2 a.2.1⟩
def B4k:Fn' (Y17×((ByteArray×Unit)×Unit)) Int:=⟨213,(Tvs.cons (Tv.one (Lf.sh J10)) (Tvs.cons (Tv.one (Lf.clo 214 (Cs.cons .str Cs.nil))) Tvs.nil)),(Rt.v (Tv.one (Lf.int .i64))),fun n a=>B3d n a.1 a.2.1.1⟩
def B6v:=Sh.of (Sl.one (Lf.sh J10) (Sl.one (Lf.clo 214 (Cs.cons .str Cs.nil)) (Sl.gap 5 (Sl.one (Lf.int .i64) (Sl.one (Lf.int .i64) (Sl.gap 10 Sl.nil)))))) Rw.nil Ls.nil
def B7q (n:Nat):Tab Int:=[([.b,.r,.l,.r],A8c B6v fun j a=>B2r n j a.1.1 a.1.2.1.1 a.1.2.2.1 a.1.2.2.2.1)]
def D79:Fn' (Y19×(ByteArray×Unit)) Int:=⟨158,(Tvs.cons Q24 (Tvs.cons (Tv.one Lf.str) Tvs.nil)),(Rt.v (Tv.one (Lf.int .i64))),fun n a=>B2z n a.1.1 a.1.2.1 a.1.2.2 a.2.1⟩
def D27:Fn' (Y19×Unit) Bool:=⟨81,Q41,(Rt.v (Tv.one Lf.bool)),fun n a=>C0c n a.1.1 a.1.2.1 a.1.2.2⟩
def D85:=Sh.of (Sl.gap 1 (Sl.k (Kf.box 104 0) (Sl.gap 3 (Sl.one (Lf.int .i64) (Sl.gap 24 (Sl.one (Lf.sh .str) (Sl.one (Lf.int .i64) (Sl.one (Lf.int .i64) (Sl.gap 35 Sl.nil))))))))) (Rw.box 104 J13 Q23 Rw.nil) Ls.nil
def D84:=Sh.of (Sl.gap 1 (Sl.k (Kf.box 104 0) (Sl.gap 8 (Sl.one (Lf.sh J10) (Sl.one (Lf.int .i64) (Sl.one (Lf.int .i64) (Sl.gap 55 Sl.nil))))))) (Rw.box 104 J13 Q23 Rw.nil) Ls.nil
def E4i (n:Nat):Tab Bool:=[([.b,.r,.l,.r,.r,.r],A8c D85 fun j a=>B6p n j a.1.1 a.1.2.1 a.1.2.2.1 a.1.2.2.2.1 a.2.1.1 a.2.1.2.1 a.2.1.2.2.1),
  ([.b,.r,.l,.r],A8c D84 fun j a=>B8c n j a.1.1 a.1.2.1 a.1.2.2.1 a.2.1.1 a.2.1.2.1 a.2.1.2.2.1)]
def B8n:Fn' (Y17×(Y17×Unit)) Bool:=⟨112,(Tvs.cons (Tv.one (Lf.sh J10)) (Tvs.cons (Tv.one (Lf.sh J10)) Tvs.nil)),(Rt.v (Tv.one Lf.bool)),fun n a=>B4t n a.1 a.2.1⟩
def C2g:=Sh.of (Sl.one (Lf.sh J10) (Sl.one (Lf.sh J10) (Sl.gap 10 (Sl.one (Lf.int .i64) (Sl.one (Lf.int .i64) (Sl.gap 12 Sl.nil)))))) Rw.nil Ls.nil
def C3y (n:Nat):Tab Bool:=[([.b,.r,.l,.r,.r],A8c C2g fun j a=>B3h n j a.1.1 a.1.2.1 a.1.2.2.1 a.1.2.2.2.1)]
def C0o:Fn' ((List ByteArray)×Z1) Bool:=⟨113,(Tvs.cons (Tv.one (Lf.sh .str)) Q2),(Rt.v (Tv.one Lf.bool)),fun n a=>B5h n a.1 a.2.1⟩
def C50:=Sh.of (Sl.one (Lf.sh .str) (Sl.one (Lf.sh .str) (Sl.gap 10 (Sl.one (Lf.int .i64) (Sl.one (Lf.int .i64) (Sl.gap 12 Sl.nil)))))) Rw.nil Ls.nil
def C6o (n:Nat):Tab Bool:=[([.b,.r,.l,.r,.r],A8c C50 fun j a=>B3z n j a.1.1 a.1.2.1 a.1.2.2.1 a.1.2.2.2.1)]
def D13:Fn' (Y27×(Y27×Unit)) Bool:=⟨63,(Tvs.cons Q55 Q61),(Rt.v (Tv.one Lf.bool)),fun n a=>B7c n a.1.1 a.1.2.1 a.1.2.2.1 a.1.2.2.2.1 a.1.2.2.2.2.1 a.1.2.2.2.2.2 a.2.1.1 a.2.1.2.1 a.2.1.2.2.1 a.2.1.2.2.2.1 a.2.1.2.2.2.2.1 a.2.1.2.2.2.2.2⟩
def D7b:Fn' (Y27×Unit) Bool:=⟨61,Q61,(Rt.v (Tv.one Lf.bool)),fun n a=>C35 n a.1.1 a.1.2.1 a.1.2.2.1 a.1.2.2.2.1 a.1.2.2.2.2.1 a.1.2.2.2.2.2⟩
def D56:Fn' (Int×Unit) ByteArray:=⟨176,Q4,(Rt.v (Tv.one Lf.str)),fun n a=>C8u n a.1⟩
def D22:Fn' (Y15×Unit) ByteArray:=⟨99,Q67,(Rt.v (Tv.one Lf.str)),fun n a=>C44 n a.1.1 a.1.2.1 a.1.2.2.1 a.1.2.2.2.1 a.1.2.2.2.2.1 a.1.2.2.2.2.2.1 a.1.2.2.2.2.2.2⟩
def D7g:Fn' Z1 ByteArray:=⟨100,Q2,(Rt.v (Tv.one Lf.str)),fun n a=>B94 n a.1⟩
def E2a:=Sh.of (Sl.gap 3 (Sl.one Lf.str (Sl.gap 2 (Sl.one (Lf.sh .str) (Sl.one (Lf.int .i64) (Sl.one (Lf.int .i64) (Sl.gap 13 Sl.nil))))))) Rw.nil Ls.nil
def F0j (n:Nat):Tab ByteArray:=[([.b,.r,.l,.r,.r],A8c E2a fun j a=>B95 n j a.1.1 a.1.2.1 a.1.2.2.1 a.1.2.2.2.1)]
def D23:Fn' (Y27×Unit) ByteArray:=⟨44,Q61,(Rt.v (Tv.one Lf.str)),fun n a=>B3c n a.1.1 a.1.2.1 a.1.2.2.1 a.1.2.2.2.1 a.1.2.2.2.2.1 a.1.2.2.2.2.2⟩
def D7z:=Sh.of (Sl.gap 1 (Sl.k (Kf.box 104 0) (Sl.gap 1 (Sl.one Lf.str (Sl.gap 13 (Sl.one (Lf.sh J10) (Sl.one (Lf.int .i64) (Sl.one (Lf.int .i64) (Sl.gap 48 Sl.nil))))))))) (Rw.box 104 J17 Q54 Rw.nil) Ls.nil
def E4e (n:Nat):Tab ByteArray:=[([.b,.r,.l,.r,.t,.r,.b,.r,.l,.r,.r],A8c D7z fun j a=>B89 n j a.1.1 a.1.2.1 a.1.2.2.1 a.1.2.2.2.1 a.2.1.1 a.2.1.2.1 a.2.1.2.2.1 a.2.1.2.2.2.1 a.2.1.2.2.2.2.1 a.2.1.2.2.2.2.2.1)]
def D28:Fn' (ByteArray×Unit) (Y27×(Bool×Unit)):=⟨89,(Tvs.cons (Tv.one Lf.str) Tvs.nil),(Rt.tup (Tvs.cons Q56 (Tvs.cons (Tv.one Lf.bool) Tvs.nil))),fun n a=>C74 n a.1⟩
def D57:Fn' Z1 Y3:=⟨91,Q2,(Rt.v (Tv.one (Lf.od J3))),fun n a=>C1p n a.1⟩
def E05:=Sh.of (Sl.gap 3 (Sl.k (Kf.ow 232) (Sl.gap 5 (Sl.one (Lf.sh .str) (Sl.one (Lf.int .i64) (Sl.one (Lf.int .i64) (Sl.gap 17 Sl.nil))))))) (Rw.data 232 J3 Rw.nil) Ls.nil
def E81 (n:Nat):Tab Y3:=[([.b,.r,.l,.r,.r],A8c E05 fun j a=>B7t n j a.1.1 a.1.2.1 a.1.2.2.1 a.2.1)]
def C9f:Fn' (Y1×Unit) Bool:=⟨134,Q43,(Rt.v (Tv.one Lf.bool)),fun n a=>C48 n a.1.1 a.1.2.1 a.1.2.2⟩
def B4i:Fn' (Y3×(Unit×Unit)) Int:=⟨197,(Tvs.cons (Tv.one (Lf.sh J3)) (Tvs.cons (Tv.one (Lf.clo 134 Cs.nil)) Tvs.nil)),(Rt.v (Tv.one (Lf.int .i64))),fun n a=>B37 n a.1⟩
def B6f:=Sh.of (Sl.one (Lf.sh J3) (Sl.one (Lf.clo 134 Cs.nil) (Sl.gap 5 (Sl.one (Lf.int .i64) (Sl.one (Lf.int .i64) (Sl.gap 10 Sl.nil)))))) Rw.nil Ls.nil
def B72 (n:Nat):Tab Int:=[([.b,.r,.l,.r],A8c B6f fun j a=>B2n n j a.1.1 a.1.2.2.1 a.1.2.2.2.1)]
def B4d:Fn' (Y3×(Unit×Unit)) Bool:=⟨133,(Tvs.cons (Tv.one (Lf.sh J3)) (Tvs.cons (Tv.one (Lf.clo 134 Cs.nil)) Tvs.nil)),(Rt.v (Tv.one Lf.bool)),fun n a=>B34 n a.1⟩
def D2d:Fn' (Y3×Unit) Bool:=⟨64,(Tvs.cons (Tv.one (Lf.sh J3)) Tvs.nil),(Rt.v (Tv.one Lf.bool)),fun n a=>C0f n a.1⟩
def D4y:Fn' Z4 Bool:=⟨25,Q73,(Rt.v (Tv.one Lf.bool)),fun n a=>C8q n a.1.1 a.1.2.1 a.1.2.2.1 a.1.2.2.2.1 a.1.2.2.2.2.1 a.1.2.2.2.2.2.1 a.1.2.2.2.2.2.2.1 a.1.2.2.2.2.2.2.2.1 a.1.2.2.2.2.2.2.2.2.1 a.1.2.2.2.2.2.2.2.2.2⟩
def D14:Fn' (Y3×Unit) ByteArray:=⟨102,(Tvs.cons (Tv.one (Lf.sh J3)) Tvs.nil),(Rt.v (Tv.one Lf.str)),fun n a=>B98 n a.1⟩
def D69:=Sh.of (Sl.gap 3 (Sl.k (Kf.ow 232) (Sl.gap 3 (Sl.one (Lf.sh J3) (Sl.one (Lf.int .i64) (Sl.one (Lf.int .i64) (Sl.gap 11 Sl.nil))))))) (Rw.data 232 .str Rw.nil) Ls.nil
def E2n (n:Nat):Tab ByteArray:=[([.b,.r,.l,.r,.r],A8c D69 fun j a=>B7l n j a.1.1 a.1.2.1 a.1.2.2.1 a.2.1)]
def D0x:Fn' Z4 ByteArray:=⟨46,Q73,(Rt.v (Tv.one Lf.str)),fun n a=>B4m n a.1.1 a.1.2.1 a.1.2.2.1 a.1.2.2.2.1 a.1.2.2.2.2.1 a.1.2.2.2.2.2.1 a.1.2.2.2.2.2.2.1 a.1.2.2.2.2.2.2.2.1 a.1.2.2.2.2.2.2.2.2.1 a.1.2.2.2.2.2.2.2.2.2⟩
def D0y:Fn' (ByteArray×Unit) ((Int×Z2)×(Bool×Unit)):=⟨37,(Tvs.cons (Tv.one Lf.str) Tvs.nil),(Rt.tup (Tvs.cons (Tv.agg (Ls.cons (Lf.int .i64) (Ls.cons Lf.str (Ls.cons (Lf.od J3) (Ls.cons (Lf.od J3) Q52))))) (Tvs.cons (Tv.one Lf.bool) Tvs.nil))),fun n a=>C5p n a.1⟩
def D0u:Fn' (Y19×(ByteArray×Unit)) Bool:=⟨111,(Tvs.cons Q24 (Tvs.cons (Tv.one (Lf.spt .str 0)) Tvs.nil)),(Rt.v (Tv.one Lf.bool)),fun n a=>C5m n a.1.1 a.1.2.1 a.1.2.2 a.2.1⟩
def B4e:Fn' (Y21×((ByteArray×Unit)×Unit)) Int:=⟨110,(Tvs.cons (Tv.one (Lf.sh J13)) (Tvs.cons (Tv.one (Lf.clo 111 (Cs.cons .str Cs.nil))) Tvs.nil)),(Rt.v (Tv.one (Lf.int .i64))),fun n a=>B35 n a.1 a.2.1.1⟩
def B5y:=Sh.of (Sl.one (Lf.sh J13) (Sl.one (Lf.clo 111 (Cs.cons .str Cs.nil)) (Sl.gap 5 (Sl.one (Lf.int .i64) (Sl.one (Lf.int .i64) (Sl.gap 10 Sl.nil)))))) Rw.nil Ls.nil
def B6g (n:Nat):Tab Int:=[([.b,.r,.l,.r],A8c B5y fun j a=>B2j n j a.1.1 a.1.2.1.1 a.1.2.2.1 a.1.2.2.2.1)]
def D4s:Fn' (Y21×(ByteArray×Unit)) Int:=⟨51,(Tvs.cons (Tv.agg (Ls.one (Lf.sh J13))) (Tvs.cons (Tv.one Lf.str) Tvs.nil)),(Rt.v (Tv.one (Lf.int .i64))),fun n a=>C07 n a.1 a.2.1⟩
def D78:Fn' Y23 Bool:=⟨32,Q11,(Rt.v (Tv.one Lf.bool)),fun n a=>C7q n a.1⟩
def E27:=Sh.of (Sl.gap 1 (Sl.k (Kf.box 104 0) (Sl.gap 4 (Sl.one (Lf.sh J13) (Sl.one (Lf.int .i64) (Sl.one (Lf.int .i64) (Sl.gap 28 Sl.nil))))))) (Rw.box 104 J14 (Ls.cons (Lf.sh J13) Ls.nil) Rw.nil) Ls.nil
def F0g (n:Nat):Tab Bool:=[([.b,.r,.l,.r],A8c E27 fun j a=>B92 n j a.1.1 a.1.2.1 a.1.2.2.1 a.2.1.1)]
def B9d:Fn' Z3 Bool:=⟨235,Q22,(Rt.v (Tv.one Lf.bool)),fun n a=>B27 n a.1 a.2.1⟩
def D2h:Fn' (Y21×(Y27×Unit)) Int:=⟨198,Q70,(Rt.v (Tv.one (Lf.int .i64))),fun n a=>C4c n a.1 a.2.1.1 a.2.1.2.1 a.2.1.2.2.1 a.2.1.2.2.2.1 a.2.1.2.2.2.2.1 a.2.1.2.2.2.2.2⟩
def D2f:Fn' Y23 Y21:=⟨145,Q11,(Rt.v (Tv.agg (Ls.one (Lf.od J13)))),fun n a=>C4a n a.1⟩
def D88:=Sh.of (Sl.gap 2 (Sl.k (Kf.box 168 0) (Sl.k (Kf.box 232 0) (Sl.gap 4 (Sl.one (Lf.sh J13) (Sl.one (Lf.int .i64) (Sl.one (Lf.int .i64) (Sl.gap 12 Sl.nil)))))))) (Rw.box 168 J14 (Ls.k (Kf.ow 176) Ls.nil) (Rw.data 176 J13 (Rw.box 232 J14 (Ls.k (Kf.ow 240) Ls.nil) (Rw.data 240 J13 Rw.nil)))) Ls.nil
def E4l (n:Nat):Tab Y21:=[([.b,.r,.l,.r,.r],A8c D88 fun j a=>B8d n j a.1.1 a.1.2.1 a.1.2.2.1 a.2.2.1 a.2.2.2.2.1)]
def B6k:Fn' (Y21×Y25) Y21:=⟨199,(Tvs.cons (Tv.one (Lf.od J13)) Q32),(Rt.v (Tv.one (Lf.od J13))),fun n a=>B3q n a.1 a.2.1 a.2.2.1⟩
def B6j:Fn' (Y21×(Int×(Int×Unit))) Y21:=⟨200,(Tvs.cons (Tv.one (Lf.od J13)) Q33),(Rt.v (Tv.one (Lf.od J13))),fun n a=>B55 n a.1 a.2.1 a.2.2.1⟩
def C8g:Fn' (Y15×(Y27×Unit)) Bool:=⟨202,(Tvs.cons Q63 (Tvs.cons (Tv.one (Lf.spt J17 0)) Tvs.nil)),(Rt.v (Tv.one Lf.bool)),fun n a=>C0s n a.1.1 a.1.2.1 a.1.2.2.1 a.1.2.2.2.1 a.1.2.2.2.2.1 a.1.2.2.2.2.2.1 a.1.2.2.2.2.2.2 a.2.1⟩
def B4h:Fn' (Y17×((Y27×Unit)×Unit)) Int:=⟨213,(Tvs.cons (Tv.one (Lf.sh J10)) (Tvs.cons (Tv.one (Lf.clo 202 (Cs.cons J17 Cs.nil))) Tvs.nil)),(Rt.v (Tv.one (Lf.int .i64))),fun n a=>B36 n a.1 a.2.1.1⟩
def B67:=Sh.of (Sl.one (Lf.sh J10) (Sl.one (Lf.clo 202 (Cs.cons J17 Cs.nil)) (Sl.gap 5 (Sl.one (Lf.int .i64) (Sl.one (Lf.int .i64) (Sl.gap 10 Sl.nil)))))) Rw.nil Ls.nil
def B6x (n:Nat):Tab Int:=[([.b,.r,.l,.r],A8c B67 fun j a=>B2k n j a.1.1 a.1.2.1.1 a.1.2.2.1 a.1.2.2.2.1)]
def B4b:Fn' (Y17×((Y27×Unit)×Unit)) Y17:=⟨201,(Tvs.cons (Tv.one (Lf.od J10)) (Tvs.cons (Tv.one (Lf.clo 202 (Cs.cons J17 Cs.nil))) Tvs.nil)),(Rt.v (Tv.one (Lf.od J10))),fun n a=>B33 n a.1 a.2.1.1⟩
def B5w:=Sh.of (Sl.k (Kf.ow 40) (Sl.one (Lf.clo 202 (Cs.cons J17 Cs.nil)) (Sl.gap 3 (Sl.one (Lf.int .i64) (Sl.one (Lf.int .i64) (Sl.gap 35 Sl.nil)))))) (Rw.data 40 J10 Rw.nil) Ls.nil
def B68 (n:Nat):Tab Y17:=[([.b,.r,.l,.r,.r,.r],A8c B5w fun j a=>B2c n j a.1.1.1 a.1.2.1 a.1.2.2.1 a.2.1)]
def D0v:Fn' (Y21×(Y27×Unit)) Y24:=⟨136,Q70,(Rt.tup (Tvs.cons (Tv.agg (Ls.one (Lf.od J13))) Q4)),fun n a=>C5n n a.1 a.2.1.1 a.2.1.2.1 a.2.1.2.2.1 a.2.1.2.2.2.1 a.2.1.2.2.2.2.1 a.2.1.2.2.2.2.2⟩
def D66:=Sh.of (Sl.gap 3 (Sl.k (Kf.box 232 0) (Sl.k (Kf.box 296 0) (Sl.gap 2 (Sl.k (Kf.box 488 0) (Sl.gap 1 (Sl.one (Lf.int .i64) (Sl.gap 136 Sl.nil)))))))) (Rw.box 232 J17 Q54 (Rw.box 296 J14 (Ls.k (Kf.ow 304) Ls.nil) (Rw.data 304 J13 (Rw.box 488 J14 (Ls.k (Kf.ow 496) Ls.nil) (Rw.data 496 J13 Rw.nil))))) Ls.nil
def E2k (n:Nat):Tab Y24:=[([.b,.l,.r,.t,.r,.b,.r,.l,.r,.r,.r,.r,.r],A8c D66 fun j a=>B7j n j a.1.1 a.2.1.1 a.2.1.2.1 a.2.1.2.2.1 a.2.1.2.2.2.1 a.2.1.2.2.2.2.1 a.2.1.2.2.2.2.2.1 a.2.2.2.1 a.2.2.2.2.2.1)]
def D11:Fn' (Y3×Unit) Y3:=⟨209,(Tvs.cons (Tv.one (Lf.sh J3)) Tvs.nil),(Rt.v (Tv.one (Lf.od J3))),fun n a=>C12 n a.1⟩
def D10:Fn' (Y6×Unit) Y6:=⟨144,(Tvs.cons (Tv.one (Lf.sh J4)) Tvs.nil),(Rt.v (Tv.one (Lf.od J4))),fun n a=>B5d n a.1⟩
def D67:=Sh.of (Sl.gap 3 (Sl.k (Kf.ow 232) (Sl.gap 2 (Sl.one (Lf.sh J4) (Sl.one (Lf.int .i64) (Sl.one (Lf.int .i64) (Sl.gap 12 Sl.nil))))))) (Rw.data 232 J4 Rw.nil) Ls.nil
def E2l (n:Nat):Tab Y6:=[([.b,.r,.l,.r,.r],A8c D67 fun j a=>B7k n j a.1.1 a.1.2.1 a.1.2.2.1 a.2.1)]
def D51:Fn' (Y28×Unit) Y28:=⟨69,Q26,(Rt.v Q14),fun n a=>B5q n a.1.1 a.1.2⟩
def E01:=Sh.of (Sl.gap 2 (Sl.k (Kf.box 168 0) (Sl.k (Kf.box 232 0) (Sl.gap 7 (Sl.one (Lf.sh J5) (Sl.one (Lf.int .i64) (Sl.one (Lf.int .i64) (Sl.gap 14 Sl.nil)))))))) (Rw.box 168 J18 (Ls.k (Kf.ow 176) (Ls.k (Kf.ow 177) Ls.nil)) (Rw.data 176 J13 (Rw.data 177 J5 (Rw.box 232 J18 (Ls.k (Kf.ow 240) (Ls.k (Kf.ow 241) Ls.nil)) (Rw.data 240 J13 (Rw.data 241 J5 Rw.nil)))))) Ls.nil
def E7x (n:Nat):Tab Y28:=[([.b,.r,.l,.r,.r],A8c E01 fun j a=>B9n n j a.1.1 a.1.2.1 a.1.2.2.1 a.2.2.1 a.2.2.2.1 a.2.2.2.2.2.1 a.2.2.2.2.2.2.1)]
def B79:Fn' (Y11×(Int×Y13)) Y11:=⟨137,(Tvs.cons (Tv.one (Lf.od J5)) (Tvs.cons (Tv.one (Lf.int .i64)) (Tvs.cons (Tv.one (Lf.od J5)) Tvs.nil))),(Rt.v (Tv.one (Lf.od J5))),fun n a=>B5c n a.1 a.2.1 a.2.2.1⟩
def B78:Fn' (Y11×(Int×(Int×Unit))) Y11:=⟨138,(Tvs.cons (Tv.one (Lf.od J5)) Q33),(Rt.v (Tv.one (Lf.od J5))),fun n a=>B5b n a.1 a.2.1 a.2.2.1⟩
def D55:Fn' (Y15×(Y1×Unit)) Bool:=⟨159,(Tvs.cons Q63 Q43),(Rt.v (Tv.one Lf.bool)),fun n a=>C8t n a.1.1 a.1.2.1 a.1.2.2.1 a.1.2.2.2.1 a.1.2.2.2.2.1 a.1.2.2.2.2.2.1 a.1.2.2.2.2.2.2 a.2.1.1 a.2.1.2.1 a.2.1.2.2⟩
def D7j:Fn' (Y19×(Y3×Unit)) Bool:=⟨82,Q57,(Rt.v (Tv.one Lf.bool)),fun n a=>C59 n a.1.1 a.1.2.1 a.1.2.2 a.2.1⟩
def E2c:=Sh.of (Sl.gap 2 (Sl.k (Kf.box 168 0) (Sl.gap 12 (Sl.one (Lf.sh J3) (Sl.one (Lf.int .i64) (Sl.one (Lf.int .i64) (Sl.gap 13 Sl.nil))))))) (Rw.box 168 J13 Q23 Rw.nil) Ls.nil
def F0l (n:Nat):Tab Bool:=[([.b,.r,.l,.r,.r],A8c E2c fun j a=>C14 n j a.1.1 a.1.2.1 a.1.2.2.1 a.2.1.1 a.2.1.2.1 a.2.1.2.2.1)]
def D7h:Fn' (Y19×(Y3×Unit)) Y3:=⟨84,Q57,(Rt.v (Tv.one (Lf.od J3))),fun n a=>B96 n a.1.1 a.1.2.1 a.1.2.2 a.2.1⟩
def E2b:=Sh.of (Sl.gap 2 (Sl.k (Kf.box 168 0) (Sl.k (Kf.box 232 0) (Sl.gap 1 (Sl.k (Kf.ow 360) (Sl.gap 4 (Sl.one (Lf.sh .str) (Sl.one (Lf.int .i64) (Sl.one (Lf.int .i64) (Sl.gap 15 Sl.nil)))))))))) (Rw.box 168 J13 Q23 (Rw.box 232 J4 (Ls.cons (Lf.sh J3) Ls.nil) (Rw.data 360 J3 Rw.nil))) Ls.nil
def F0k (n:Nat):Tab Y3:=[([.b,.r,.l,.r,.r],A8c E2b fun j a=>C13 n j a.1.1 a.1.2.1 a.1.2.2.1 a.2.1.1 a.2.1.2.1 a.2.1.2.2.1 a.2.2.1.1 a.2.2.2.1)]
def D2b:Fn' (Y1×(Y1×Unit)) Bool:=⟨160,Q68,(Rt.v (Tv.one Lf.bool)),fun n a=>C46 n a.1.1 a.1.2.1 a.1.2.2 a.2.1.1 a.2.1.2.1 a.2.1.2.2⟩
def D24:Fn' (Y3×(Y3×Unit)) Bool:=⟨83,Q25,(Rt.v (Tv.one Lf.bool)),fun n a=>C45 n a.1 a.2.1⟩
def D80:=Sh.of (Sl.one (Lf.sh J3) (Sl.one (Lf.sh J3) (Sl.gap 3 (Sl.one (Lf.int .i64) (Sl.gap 35 Sl.nil))))) Rw.nil Ls.nil
def E4f (n:Nat):Tab Bool:=[([.b,.r,.l,.r],A8c D80 fun j a=>C0t n j a.1.1 a.1.2.1 a.1.2.2.1)]
def D4x:Fn' (Y19×(Y6×Unit)) Bool:=⟨33,(Tvs.cons Q24 (Tvs.cons (Tv.one (Lf.sh J4)) Tvs.nil)),(Rt.v (Tv.one Lf.bool)),fun n a=>C08 n a.1.1 a.1.2.1 a.1.2.2 a.2.1⟩
def D9y:=Sh.of (Sl.gap 1 (Sl.one (Lf.sh J4) (Sl.k (Kf.box 168 0) (Sl.gap 12 (Sl.one (Lf.sh J4) (Sl.one (Lf.int .i64) (Sl.one (Lf.int .i64) (Sl.gap 27 Sl.nil)))))))) (Rw.box 168 J13 Q23 Rw.nil) Ls.nil
def E7u (n:Nat):Tab Bool:=[([.b,.r,.l,.r,.r],A8c D9y fun j a=>B7s n j a.1.1 a.1.2.1 a.1.2.2.1 a.1.2.2.2.1 a.2.1.1 a.2.1.2.1 a.2.1.2.2.1)]
def B86:Fn' (Y3×(Int×(Int×Unit))) Y3:=⟨205,(Tvs.cons (Tv.one (Lf.od J3)) Q33),(Rt.v (Tv.one (Lf.od J3))),fun n a=>B5v n a.1 a.2.1 a.2.2.1⟩
def D26:Fn' (Y19×(Y6×(Y27×Unit))) Y14:=⟨139,(Tvs.cons Q24 (Tvs.cons (Tv.one (Lf.sh J4)) Q61)),Q39,fun n a=>C73 n a.1.1 a.1.2.1 a.1.2.2 a.2.1 a.2.2.1.1 a.2.2.1.2.1 a.2.2.1.2.2.1 a.2.2.1.2.2.2.1 a.2.2.1.2.2.2.2.1 a.2.2.1.2.2.2.2.2⟩
def D82:=Sh.of (Sl.gap 5 (Sl.k (Kf.box 360 0) (Sl.gap 3 (Sl.k (Kf.ow 616) (Sl.gap 41 (Sl.one (Lf.int .i64) (Sl.one (Lf.int .i64) (Sl.gap 45 Sl.nil)))))))) (Rw.box 360 J17 Q54 (Rw.data 616 J4 Rw.nil)) Ls.nil
def D83:=Sh.of (Sl.gap 9 (Sl.k (Kf.ow 616) (Sl.gap 1 (Sl.one (Lf.int .i64) (Sl.gap 67 (Sl.one (Lf.int .i64) (Sl.one (Lf.int .i64) (Sl.gap 17 Sl.nil)))))))) (Rw.data 616 J4 Rw.nil) Ls.nil
def E4h (n:Nat):Tab Y14:=[([.b,.r,.t,.r,.f,.r,.b,.r,.l,.r,.r,.r,.r],A8c D82 fun j a=>B8a n j a.1.1 a.1.2.1 a.2.1.1 a.2.1.2.1 a.2.1.2.2.1 a.2.1.2.2.2.1 a.2.1.2.2.2.2.1 a.2.1.2.2.2.2.2.1 a.2.2.1),
  ([.b,.r,.r,.t,.r,.f,.r,.f,.r,.b,.r,.l,.r,.r,.r,.r],A8c D83 fun j a=>B8b n j a.1.1 a.1.2.1 a.1.2.2.1 a.2.1)]
def D2e:Fn' (Y28×(Y27×Unit)) (Y28×(Int×Unit)):=⟨65,(Tvs.cons Q13 Q61),(Rt.tup Q49),fun n a=>C49 n a.1.1 a.1.2 a.2.1.1 a.2.1.2.1 a.2.1.2.2.1 a.2.1.2.2.2.1 a.2.1.2.2.2.2.1 a.2.1.2.2.2.2.2⟩
def B8o:Fn' (Y3×(Y3×Unit)) Bool:=⟨116,Q25,(Rt.v (Tv.one Lf.bool)),fun n a=>B3r n a.1 a.2.1⟩
def C2h:=Sh.of (Sl.one (Lf.sh J3) (Sl.one (Lf.sh J3) (Sl.gap 10 (Sl.one (Lf.int .i64) (Sl.one (Lf.int .i64) (Sl.gap 12 Sl.nil)))))) Rw.nil Ls.nil
def C3z (n:Nat):Tab Bool:=[([.b,.r,.l,.r,.r],A8c C2h fun j a=>B3i n j a.1.1 a.1.2.1 a.1.2.2.1 a.1.2.2.2.1)]
def D2i:Fn' (Y3×(Y19×(Y3×Unit))) Bool:=⟨207,(Tvs.cons (Tv.agg (Ls.one (Lf.sh J3))) (Tvs.cons (Tv.one (Lf.spt J13 0)) (Tvs.cons (Tv.one (Lf.spt J4 0)) Tvs.nil))),(Rt.v (Tv.one Lf.bool)),fun n a=>C76 n a.1 a.2.1 a.2.2.1⟩
def B4l:Fn' (Y6×((Y19×(Y3×Unit))×Unit)) Int:=⟨206,(Tvs.cons (Tv.one (Lf.sh J4)) (Tvs.cons (Tv.one (Lf.clo 207 (Cs.cons J13 (Cs.cons J4 Cs.nil)))) Tvs.nil)),(Rt.v (Tv.one (Lf.int .i64))),fun n a=>B3e n a.1 a.2.1.1 a.2.1.2.1⟩
def B6w:=Sh.of (Sl.one (Lf.sh J4) (Sl.one (Lf.clo 207 (Cs.cons J13 (Cs.cons J4 Cs.nil))) (Sl.gap 5 (Sl.one (Lf.int .i64) (Sl.one (Lf.int .i64) (Sl.gap 10 Sl.nil)))))) Rw.nil Ls.nil
def B7r (n:Nat):Tab Int:=[([.b,.r,.l,.r],A8c B6w fun j a=>B2s n j a.1.1 a.1.2.1.1 a.1.2.1.2.1 a.1.2.2.1 a.1.2.2.2.1)]
def D7i:Fn' (Y19×(Y6×(Y3×Unit))) Int:=⟨140,Q64,(Rt.v (Tv.one (Lf.int .i64))),fun n a=>B97 n a.1.1 a.1.2.1 a.1.2.2 a.2.1 a.2.2.1⟩
def B87:Fn' (Y6×(Int×(Y6×Unit))) Y6:=⟨208,(Tvs.cons (Tv.one (Lf.od J4)) (Tvs.cons (Tv.one (Lf.int .i64)) (Tvs.cons (Tv.one (Lf.od J4)) Tvs.nil))),(Rt.v (Tv.one (Lf.od J4))),fun n a=>B45 n a.1 a.2.1 a.2.2.1⟩
def D53:Fn' (Y19×(Y6×(Y3×Unit))) Y6:=⟨141,Q65,(Rt.v (Tv.one (Lf.od J4))),fun n a=>C3o n a.1.1 a.1.2.1 a.1.2.2 a.2.1 a.2.2.1⟩
def E03:=Sh.of (Sl.gap 1 (Sl.one (Lf.sh J4) (Sl.gap 1 (Sl.k (Kf.box 232 0) (Sl.gap 1 (Sl.k (Kf.box 360 0) (Sl.gap 1 (Sl.one (Lf.int .i64) (Sl.gap 27 Sl.nil))))))))) (Rw.box 232 J13 Q23 (Rw.box 360 J4 (Ls.cons (Lf.sh J3) Ls.nil) Rw.nil)) Ls.nil
def E7z (n:Nat):Tab Y6:=[([.b,.l,.r,.r],A8c E03 fun j a=>B9t n j a.1.1 a.1.2.1 a.2.1.1 a.2.1.2.1 a.2.1.2.2.1 a.2.2.1.1)]
def D4v:Fn' (Y19×(Y6×(Y3×Unit))) Y14:=⟨66,Q65,Q39,fun n a=>C3l n a.1.1 a.1.2.1 a.1.2.2 a.2.1 a.2.2.1⟩
def D7c:Fn' (Y19×(Y3×Unit)) Bool:=⟨142,(Tvs.cons Q24 (Tvs.cons (Tv.one (Lf.sh J3)) Tvs.nil)),(Rt.v (Tv.one Lf.bool)),fun n a=>C7s n a.1.1 a.1.2.1 a.1.2.2 a.2.1⟩
def E28:=Sh.of (Sl.gap 1 (Sl.one (Lf.sh J3) (Sl.k (Kf.box 168 0) (Sl.gap 16 (Sl.one (Lf.sh .str) (Sl.one (Lf.int .i64) (Sl.one (Lf.int .i64) (Sl.gap 27 Sl.nil)))))))) (Rw.box 168 J13 Q23 Rw.nil) Ls.nil
def F0h (n:Nat):Tab Bool:=[([.b,.r,.l,.r,.r],A8c E28 fun j a=>C10 n j a.1.1 a.1.2.1 a.1.2.2.1 a.1.2.2.2.1 a.2.1.1 a.2.1.2.1 a.2.1.2.2.1)]
def B85:Fn' (Y6×(Int×(Int×Unit))) Y6:=⟨143,(Tvs.cons (Tv.one (Lf.od J4)) Q33),(Rt.v (Tv.one (Lf.od J4))),fun n a=>B3o n a.1 a.2.1 a.2.2.1⟩
def D4w:Fn' (Y19×(Y6×(Y3×(Y3×Unit)))) Y14:=⟨67,(Tvs.cons Q24 (Tvs.cons (Tv.one (Lf.sh J4)) (Tvs.cons (Tv.one (Lf.sh J3)) Q10))),Q39,fun n a=>C3m n a.1.1 a.1.2.1 a.1.2.2 a.2.1 a.2.2.1 a.2.2.2.1⟩
def D4u:Fn' (Y19×(Y6×(Y3×Unit))) Y14:=⟨68,Q64,Q39,fun n a=>C3k n a.1.1 a.1.2.1 a.1.2.2 a.2.1 a.2.2.1⟩
def E1r:Fn' (Y28×Z4) (Y28×(Int×Unit)):=⟨26,Q74,(Rt.tup Q49),fun n a=>D4b n a.1.1 a.1.2 a.2.1.1 a.2.1.2.1 a.2.1.2.2.1 a.2.1.2.2.2.1 a.2.1.2.2.2.2.1 a.2.1.2.2.2.2.2.1 a.2.1.2.2.2.2.2.2.1 a.2.1.2.2.2.2.2.2.2.1 a.2.1.2.2.2.2.2.2.2.2.1 a.2.1.2.2.2.2.2.2.2.2.2⟩
def E1q:Fn' (Y28×Unit) Bool:=⟨10,Q26,(Rt.v (Tv.one Lf.bool)),fun n a=>D4a n a.1.1 a.1.2⟩
def E4b:=Sh.of (Sl.gap 1 (Sl.k (Kf.box 104 0) (Sl.gap 19 (Sl.one (Lf.sh J13) (Sl.one (Lf.int .i64) (Sl.one (Lf.int .i64) (Sl.gap 14 Sl.nil))))))) (Rw.box 104 J18 Q12 Rw.nil) Ls.nil
def F2b (n:Nat):Tab Bool:=[([.b,.r,.l,.r,.r],A8c E4b fun j a=>C22 n j a.1.1 a.1.2.1 a.1.2.2.1 a.2.1.1 a.2.1.2.1)]
def D2g:Fn' (Y19×Unit) Y27:=⟨45,Q41,(Rt.v Q56),fun n a=>C75 n a.1.1 a.1.2.1 a.1.2.2⟩
def D4t:Fn' (Y28×Unit) ByteArray:=⟨17,Q26,(Rt.v (Tv.one Lf.str)),fun n a=>C8p n a.1.1 a.1.2⟩
def D9x:=Sh.of (Sl.gap 1 (Sl.k (Kf.box 104 0) (Sl.gap 1 (Sl.one Lf.str (Sl.gap 1 (Sl.k (Kf.box 360 0) (Sl.gap 7 (Sl.one (Lf.sh J13) (Sl.one (Lf.int .i64) (Sl.one (Lf.int .i64) (Sl.gap 15 (Sl.one (Lf.sh J4) (Sl.one (Lf.int .i64) (Sl.one (Lf.int .i64) (Sl.gap 14 Sl.nil))))))))))))))) (Rw.box 104 J18 Q12 (Rw.box 360 J13 Q23 Rw.nil)) Ls.nil
def D9w:=Sh.of (Sl.gap 1 (Sl.k (Kf.box 104 0) (Sl.gap 1 (Sl.one Lf.str (Sl.gap 9 (Sl.one (Lf.sh J13) (Sl.one (Lf.int .i64) (Sl.one (Lf.int .i64) (Sl.gap 32 Sl.nil))))))))) (Rw.box 104 J18 Q12 Rw.nil) Ls.nil
def E7t (n:Nat):Tab ByteArray:=[([.b,.r,.r,.r,.b,.l,.r,.r,.p,.b,.r,.l,.r,.r,.r],A2r D9x fun i j a=>B9k n (fun y0 y1 y2 y3 y4 y5=>B5f n i y0 y1 y2 y3 y4 y5) j a.1.1 a.1.2.1 a.1.2.2.1 a.1.2.2.2.1 a.1.2.2.2.2.1 a.1.2.2.2.2.2.1 a.1.2.2.2.2.2.2.1 a.2.1.1 a.2.1.2.1 a.2.2.1.1 a.2.2.1.2.1 a.2.2.1.2.2.1),
  ([.b,.r,.l,.r,.r,.r],A8c D9w fun j a=>B5f n j a.1.1 a.1.2.1 a.1.2.2.1 a.1.2.2.2.1 a.2.1.1 a.2.1.2.1)]
def D4z:Fn' (ByteArray×Unit) (Y28×(Bool×Unit)):=⟨12,(Tvs.cons (Tv.one Lf.str) Tvs.nil),(Rt.tup (Tvs.cons Q14 (Tvs.cons (Tv.one Lf.bool) Tvs.nil))),fun n a=>C3n n a.1⟩
def D9z:=Sh.of (Sl.one Lf.str (Sl.gap 1 (Sl.k (Kf.box 168 0) (Sl.gap 2 (Sl.k (Kf.box 360 0) (Sl.gap 26 (Sl.one (Lf.sub 2088) (Sl.one (Lf.int .i64) (Sl.one (Lf.int .i64) (Sl.gap 28 Sl.nil)))))))))) (Rw.box 168 J18 (Ls.k (Kf.ow 176) (Ls.k (Kf.ow 177) Ls.nil)) (Rw.data 176 J13 (Rw.data 177 J5 (Rw.box 360 J18 (Ls.k (Kf.ow 368) (Ls.k (Kf.ow 369) Ls.nil)) (Rw.data 368 J13 (Rw.data 369 J5 (Rw.data 2088 .str Rw.nil))))))) Ls.nil
def E7v (n:Nat):Tab (Y28×(Bool×Unit)):=[([.b,.r,.l,.r,.r,.r,.r],A8c D9z fun j a=>B9l n j a.1.1 a.1.2.1.1 a.1.2.1.2 a.1.2.2.1 a.1.2.2.2.1 a.2.2.1 a.2.2.2.1 a.2.2.2.2.2.1 a.2.2.2.2.2.2.1 a.2.2.2.2.2.2.2.1)]
def D7n:Fn' (Y1×(Y1×Unit)) Bool:=⟨248,Q68,(Rt.v (Tv.one Lf.bool)),fun n a=>C37 n a.1.1 a.1.2.1 a.1.2.2 a.2.1.1 a.2.1.2.1 a.2.1.2.2⟩
def D7l:Fn' (Y15×(Y15×Unit)) Bool:=⟨242,(Tvs.cons Q63 Q67),(Rt.v (Tv.one Lf.bool)),fun n a=>C7w n a.1.1 a.1.2.1 a.1.2.2.1 a.1.2.2.2.1 a.1.2.2.2.2.1 a.1.2.2.2.2.2.1 a.1.2.2.2.2.2.2 a.2.1.1 a.2.1.2.1 a.2.1.2.2.1 a.2.1.2.2.2.1 a.2.1.2.2.2.2.1 a.2.1.2.2.2.2.2.1 a.2.1.2.2.2.2.2.2⟩
def D59:Fn' (Y17×(Y17×Unit)) Bool:=⟨220,(Tvs.cons (Tv.one (Lf.sh J10)) (Tvs.cons (Tv.one (Lf.sh J10)) Tvs.nil)),(Rt.v (Tv.one Lf.bool)),fun n a=>C6a n a.1 a.2.1⟩
def E06:=Sh.of (Sl.one (Lf.sh J10) (Sl.one (Lf.sh J10) (Sl.gap 3 (Sl.one (Lf.int .i64) (Sl.gap 21 Sl.nil))))) Rw.nil Ls.nil
def E82 (n:Nat):Tab Bool:=[([.b,.r,.l,.r,.r],A8c E06 fun j a=>B9u n j a.1.1 a.1.2.1 a.1.2.2.1)]
def C9i:Fn' ((List ByteArray)×Z1) Bool:=⟨221,(Tvs.cons (Tv.one (Lf.sh .str)) Q2),(Rt.v (Tv.one Lf.bool)),fun n a=>B9w n a.1 a.2.1⟩
def D4j:=Sh.of (Sl.one (Lf.sh .str) (Sl.one (Lf.sh .str) (Sl.gap 3 (Sl.one (Lf.int .i64) (Sl.gap 20 Sl.nil))))) Rw.nil Ls.nil
def E0j (n:Nat):Tab Bool:=[([.b,.r,.l,.r,.r],A8c D4j fun j a=>B6l n j a.1.1 a.1.2.1 a.1.2.2.1)]
def D2k:Fn' (Y19×(Y19×Unit)) Bool:=⟨167,(Tvs.cons Q24 Q41),(Rt.v (Tv.one Lf.bool)),fun n a=>C4f n a.1.1 a.1.2.1 a.1.2.2 a.2.1.1 a.2.1.2.1 a.2.1.2.2⟩
def D15:Fn' (Y21×Y23) Bool:=⟨93,(Tvs.cons (Tv.one (Lf.sh J13)) (Tvs.cons (Tv.one (Lf.sh J13)) Tvs.nil)),(Rt.v (Tv.one Lf.bool)),fun n a=>C2n n a.1 a.2.1⟩
def D6a:=Sh.of (Sl.one (Lf.sh J13) (Sl.one (Lf.sh J13) (Sl.gap 3 (Sl.one (Lf.int .i64) (Sl.gap 21 Sl.nil))))) Rw.nil Ls.nil
def E2o (n:Nat):Tab Bool:=[([.b,.r,.l,.r,.r],A8c D6a fun j a=>B7m n j a.1.1 a.1.2.1 a.1.2.2.1)]
def D7k:Fn' (Y21×Y23) Bool:=⟨38,(Tvs.cons (Tv.agg (Ls.one (Lf.sh J13))) Q11),(Rt.v (Tv.one Lf.bool)),fun n a=>C7v n a.1 a.2.1⟩
def D5c:Fn' (Y3×(Y3×Unit)) Bool:=⟨243,Q25,(Rt.v (Tv.one Lf.bool)),fun n a=>C6d n a.1 a.2.1⟩
def E08:=Sh.of (Sl.one (Lf.sh J3) (Sl.one (Lf.sh J3) (Sl.gap 3 (Sl.one (Lf.int .i64) (Sl.gap 21 Sl.nil))))) Rw.nil Ls.nil
def E84 (n:Nat):Tab Bool:=[([.b,.r,.l,.r,.r],A8c E08 fun j a=>B9x n j a.1.1 a.1.2.1 a.1.2.2.1)]
def D7m:Fn' (Y3×(Y3×Unit)) Bool:=⟨222,(Tvs.cons (Tv.agg (Ls.one (Lf.sh J3))) Q10),(Rt.v (Tv.one Lf.bool)),fun n a=>C7x n a.1 a.2.1⟩
def D5a:Fn' (Y6×(Y6×Unit)) Bool:=⟨168,(Tvs.cons (Tv.one (Lf.sh J4)) (Tvs.cons (Tv.one (Lf.sh J4)) Tvs.nil)),(Rt.v (Tv.one Lf.bool)),fun n a=>C6b n a.1 a.2.1⟩
def E07:=Sh.of (Sl.one (Lf.sh J4) (Sl.one (Lf.sh J4) (Sl.gap 3 (Sl.one (Lf.int .i64) (Sl.gap 21 Sl.nil))))) Rw.nil Ls.nil
def E83 (n:Nat):Tab Bool:=[([.b,.r,.l,.r,.r],A8c E07 fun j a=>B9v n j a.1.1 a.1.2.1 a.1.2.2.1)]
def D5b:Fn' (Y6×(Y6×Unit)) Bool:=⟨94,(Tvs.cons (Tv.agg (Ls.one (Lf.sh J4))) (Tvs.cons (Tv.agg (Ls.one (Lf.sh J4))) Tvs.nil)),(Rt.v (Tv.one Lf.bool)),fun n a=>C6c n a.1 a.2.1⟩
def D2j:Fn' (Y11×Y13) Bool:=⟨39,(Tvs.cons (Tv.one (Lf.sh J5)) (Tvs.cons (Tv.one (Lf.sh J5)) Tvs.nil)),(Rt.v (Tv.one Lf.bool)),fun n a=>C4e n a.1 a.2.1⟩
def D89:=Sh.of (Sl.one (Lf.sh J5) (Sl.one (Lf.sh J5) (Sl.gap 3 (Sl.one (Lf.int .i64) (Sl.gap 21 Sl.nil))))) Rw.nil Ls.nil
def E4m (n:Nat):Tab Bool:=[([.b,.r,.l,.r,.r],A8c D89 fun j a=>B8e n j a.1.1 a.1.2.1 a.1.2.2.1)]
def E1s:Fn' (Y28×(Y28×Unit)) Bool:=⟨13,(Tvs.cons Q13 Q26),(Rt.v (Tv.one Lf.bool)),fun n a=>D00 n a.1.1 a.1.2 a.2.1.1 a.2.1.2⟩
def D19:Fn' (Int×Unit) ByteArray:=⟨169,Q4,(Rt.v (Tv.one Lf.str)),fun n a=>B48 n a.1⟩
def D6e:=Sh.of (Sl.one (Lf.int .i64) (Sl.gap 2 (Sl.one Lf.str (Sl.gap 16 Sl.nil)))) Rw.nil Ls.nil
def E2s (n:Nat):Tab ByteArray:=[([.b,.l,.r,.r,.r],A8c D6e fun j a=>B63 n j a.1.1 a.1.2.1)]
def C8i:Fn' (Y17×(Int×Unit)) (Int×(Y17×Unit)):=⟨170,(Tvs.cons (Tv.one (Lf.od J10)) Q4),(Rt.tup (Tvs.cons (Tv.one (Lf.int .i64)) (Tvs.cons (Tv.one (Lf.od J10)) Tvs.nil))),fun n a=>C2y n a.1 a.2.1⟩
def D38:=Sh.of (Sl.k (Kf.ow 40) (Sl.one (Lf.int .i64) (Sl.gap 3 (Sl.one (Lf.int .i64) (Sl.gap 65 Sl.nil))))) (Rw.data 40 J10 Rw.nil) (Ls.k (Kf.ow 40) Ls.nil)
def D8r (n:Nat):Tab (Int×(Y17×Unit)):=[([.b,.r,.l,.r],A8c D38 fun j a=>B61 n j a.1.1 a.1.2.1 a.2.1)]
def C63:Fn' ((List ByteArray)×(Int×Unit)) (Int×Z1):=⟨171,(Tvs.cons (Tv.one (Lf.od .str)) Q4),(Rt.tup (Tvs.cons (Tv.one (Lf.int .i64)) (Tvs.cons (Tv.one (Lf.od .str)) Tvs.nil))),fun n a=>B7u n a.1 a.2.1⟩
def C9n:=Sh.of (Sl.k (Kf.ow 40) (Sl.one (Lf.int .i64) (Sl.gap 3 (Sl.one (Lf.int .i64) (Sl.gap 14 Sl.nil))))) (Rw.data 40 .str Rw.nil) (Ls.k (Kf.ow 40) Ls.nil)
def D3f (n:Nat):Tab (Int×Z1):=[([.b,.r,.l,.r],A8c C9n fun j a=>B52 n j a.1.1 a.1.2.1 a.2.1)]
def C6z:Fn' Y24 Y25:=⟨95,(Tvs.cons (Tv.one (Lf.od J13)) Q4),(Rt.tup Q32),fun n a=>C1g n a.1 a.2.1⟩
def D0b:=Sh.of (Sl.k (Kf.ow 40) (Sl.one (Lf.int .i64) (Sl.gap 3 (Sl.one (Lf.int .i64) (Sl.gap 29 Sl.nil))))) (Rw.data 40 J13 Rw.nil) (Ls.k (Kf.ow 40) Ls.nil)
def D4o (n:Nat):Tab Y25:=[([.b,.r,.l,.r],A8c D0b fun j a=>B5a n j a.1.1 a.1.2.1 a.2.1)]
def C9k:Fn' Y24 Y25:=⟨40,(Tvs.cons (Tv.agg (Ls.one (Lf.od J13))) Q4),(Rt.tup Q32),fun n a=>C4h n a.1 a.2.1⟩
def C8l:Fn' (Y3×(Int×Unit)) (Int×(Y3×Unit)):=⟨172,(Tvs.cons (Tv.one (Lf.od J3)) Q4),(Rt.tup (Tvs.cons (Tv.one (Lf.int .i64)) (Tvs.cons (Tv.one (Lf.od J3)) Tvs.nil))),fun n a=>C31 n a.1 a.2.1⟩
def D3a:=Sh.of (Sl.k (Kf.ow 40) (Sl.one (Lf.int .i64) (Sl.gap 3 (Sl.one (Lf.int .i64) (Sl.gap 29 Sl.nil))))) (Rw.data 40 J3 Rw.nil) (Ls.k (Kf.ow 40) Ls.nil)
def D8t (n:Nat):Tab (Int×(Y3×Unit)):=[([.b,.r,.l,.r],A8c D3a fun j a=>B64 n j a.1.1 a.1.2.1 a.2.1)]
def C8k:Fn' Y14 (Int×(Y6×Unit)):=⟨96,Q31,(Rt.tup (Tvs.cons (Tv.one (Lf.int .i64)) (Tvs.cons (Tv.one (Lf.od J4)) Tvs.nil))),fun n a=>C30 n a.1 a.2.1⟩
def D39:=Sh.of (Sl.k (Kf.ow 40) (Sl.one (Lf.int .i64) (Sl.gap 3 (Sl.one (Lf.int .i64) (Sl.gap 14 Sl.nil))))) (Rw.data 40 J4 Rw.nil) (Ls.k (Kf.ow 40) Ls.nil)
def D8s (n:Nat):Tab (Int×(Y6×Unit)):=[([.b,.r,.l,.r],A8c D39 fun j a=>B62 n j a.1.1 a.1.2.1 a.2.1)]
def C7j:Fn' (Y11×(Int×Unit)) (Int×Y13):=⟨41,(Tvs.cons (Tv.one (Lf.od J5)) Q4),(Rt.tup (Tvs.cons (Tv.one (Lf.int .i64)) (Tvs.cons (Tv.one (Lf.od J5)) Tvs.nil))),fun n a=>C23 n a.1 a.2.1⟩
def D1v:=Sh.of (Sl.k (Kf.ow 40) (Sl.one (Lf.int .i64) (Sl.gap 3 (Sl.one (Lf.int .i64) (Sl.gap 14 Sl.nil))))) (Rw.data 40 J5 Rw.nil) (Ls.k (Kf.ow 40) Ls.nil)
def D6h (n:Nat):Tab (Int×Y13):=[([.b,.r,.l,.r],A8c D1v fun j a=>B5m n j a.1.1 a.1.2.1 a.2.1)]
def C8j:Fn' (Y28×(Int×Unit)) (Int×(Y21×Y13)):=⟨14,Q49,(Rt.tup (Tvs.cons (Tv.one (Lf.int .i64)) (Tvs.cons (Tv.one (Lf.od J13)) (Tvs.cons (Tv.one (Lf.od J5)) Tvs.nil)))),fun n a=>C2z n a.1.1 a.1.2 a.2.1⟩
def D16:Fn' (Y17×(Int×Unit)) Int:=⟨173,(Tvs.cons (Tv.one (Lf.sh J10)) Q4),(Rt.v (Tv.one (Lf.int .i64))),fun n a=>C5t n a.1 a.2.1⟩
def D6b:=Sh.of (Sl.one (Lf.sh J10) (Sl.one (Lf.int .i64) (Sl.gap 3 (Sl.one (Lf.int .i64) (Sl.gap 79 Sl.nil))))) Rw.nil Ls.nil
def E2p (n:Nat):Tab Int:=[([.b,.r,.l,.r],A8c D6b fun j a=>B7n n j a.1.1 a.1.2.1 a.1.2.2.1)]
def C7i:Fn' ((List ByteArray)×(Int×Unit)) Int:=⟨174,(Tvs.cons (Tv.one (Lf.sh .str)) Q4),(Rt.v (Tv.one (Lf.int .i64))),fun n a=>B9y n a.1 a.2.1⟩
def D1u:=Sh.of (Sl.one (Lf.sh .str) (Sl.one (Lf.int .i64) (Sl.gap 3 (Sl.one (Lf.int .i64) (Sl.gap 16 Sl.nil))))) Rw.nil Ls.nil
def D6g (n:Nat):Tab Int:=[([.b,.r,.l,.r],A8c D1u fun j a=>B5l n j a.1.1 a.1.2.1 a.1.2.2.1)]
def C8h:Fn' Y24 Int:=⟨97,(Tvs.cons (Tv.one (Lf.sh J13)) Q4),(Rt.v (Tv.one (Lf.int .i64))),fun n a=>C2x n a.1 a.2.1⟩
def D37:=Sh.of (Sl.one (Lf.sh J13) (Sl.one (Lf.int .i64) (Sl.gap 3 (Sl.one (Lf.int .i64) (Sl.gap 35 Sl.nil))))) Rw.nil Ls.nil
def D8q (n:Nat):Tab Int:=[([.b,.r,.l,.r],A8c D37 fun j a=>B60 n j a.1.1 a.1.2.1 a.1.2.2.1)]
def D2l:Fn' Y24 Int:=⟨42,(Tvs.cons (Tv.agg (Ls.one (Lf.sh J13))) Q4),(Rt.v (Tv.one (Lf.int .i64))),fun n a=>C78 n a.1 a.2.1⟩
def D18:Fn' (Y3×(Int×Unit)) Int:=⟨175,(Tvs.cons (Tv.one (Lf.sh J3)) Q4),(Rt.v (Tv.one (Lf.int .i64))),fun n a=>C5v n a.1 a.2.1⟩
def D6d:=Sh.of (Sl.one (Lf.sh J3) (Sl.one (Lf.int .i64) (Sl.gap 3 (Sl.one (Lf.int .i64) (Sl.gap 35 Sl.nil))))) Rw.nil Ls.nil
def E2r (n:Nat):Tab Int:=[([.b,.r,.l,.r],A8c D6d fun j a=>B7p n j a.1.1 a.1.2.1 a.1.2.2.1)]
def D17:Fn' Y14 Int:=⟨98,(Tvs.cons (Tv.one (Lf.sh J4)) Q4),(Rt.v (Tv.one (Lf.int .i64))),fun n a=>C5u n a.1 a.2.1⟩
def D6c:=Sh.of (Sl.one (Lf.sh J4) (Sl.one (Lf.int .i64) (Sl.gap 3 (Sl.one (Lf.int .i64) (Sl.gap 16 Sl.nil))))) Rw.nil Ls.nil
def E2q (n:Nat):Tab Int:=[([.b,.r,.l,.r],A8c D6c fun j a=>B7o n j a.1.1 a.1.2.1 a.1.2.2.1)]
def C9j:Fn' (Y11×(Int×Unit)) Int:=⟨43,(Tvs.cons (Tv.one (Lf.sh J5)) Q4),(Rt.v (Tv.one (Lf.int .i64))),fun n a=>C4g n a.1 a.2.1⟩
def D4k:=Sh.of (Sl.one (Lf.sh J5) (Sl.one (Lf.int .i64) (Sl.gap 3 (Sl.one (Lf.int .i64) (Sl.gap 16 Sl.nil))))) Rw.nil Ls.nil
def E0k (n:Nat):Tab Int:=[([.b,.r,.l,.r],A8c D4k fun j a=>B6m n j a.1.1 a.1.2.1 a.1.2.2.1)]
def D5d:Fn' (Y28×(Int×Unit)) Int:=⟨15,Q48,(Rt.v (Tv.one (Lf.int .i64))),fun n a=>C6e n a.1.1 a.1.2 a.2.1⟩
def C1l:Fn' (ByteArray×Unit) Bool:=⟨4,(Tvs.cons (Tv.one Lf.str) Tvs.nil),(Rt.v (Tv.one Lf.bool)),fun n a=>C36 n a.1⟩
def F5u:List Ent:=[B0c D1g,B0c D7w,B0c D7y,B0c D5n,B0c D2o,B0c D2s,B0c D5m,B0c D2x,B0c D7v,B0c D2w,B0c D2v,B0c D2t,B0c D35,B0c D5l,B0c D33,B0c D1f,B0c D7q,B0c D7p,B0c D2q,B0c D7r,B0c D5j,B0c D36,B0c D34,B0c D1h,B0c D5t,B0c D5u,B0c D2m,B0c D1b,B0c C8n,B0c C64,B0c D2r,B0c D1c,B0c D7o,B0c D30,B0c D7u,B0c D5q,B0c D2u,B0c D2n,B0c D5i,B0c E1t,B0c D7x,B0c D1e,B0c D2y,B0c D5p,B0c D5o,B0c D1d,B0c C9l,B0c D1a,B0c C7k,B0c D7t,B0c D5s,B0c D5r,B0c D5g,B0c D7s,B0c C8m,B0c D5h,B0c D5f,B0c D2p,B0c D32,B0c D2z,B0c C9m,B0c D31,B0c E1u,B0c D5e,B0c D5k,B0c E4a,B0c D7e,B0c C0p,B0c D58,B0c D7d,B0c D0z,B0c D25,B0c D2c,B0c D52,B0c D54,B0c D29,B0c D2a,B0c D7f,B0c C9h,B0c D12,B0c D50,B0c C9g,B0c D0w,B0c D7a,B0c D21,B0c B4k,B0c D79,B0c D27,B0c B8n,B0c C0o,B0c D13,B0c D7b,B0c D56,B0c D22,B0c D7g,B0c D23,B0c D28,B0c D57,B0c C9f,B0c B4i,B0c B4d,B0c D2d,B0c D4y,B0c D14,B0c D0x,B0c D0y,B0c D0u,B0c B4e,B0c D4s,B0c D78,B0c B9d,B0c D2h,B0c D2f,B0c B6k,B0c B6j,B0c C8g,B0c B4h,B0c B4b,B0c D0v,B0c D11,B0c D10,B0c D51,B0c B79,B0c B78,B0c D55,B0c D7j,B0c D7h,B0c D2b,B0c D24,B0c D4x,B0c B86,B0c D26,B0c D2e,B0c B8o,B0c D2i,B0c B4l,B0c D7i,B0c B87,B0c D53,B0c D4v,B0c D7c,B0c B85,B0c D4w,B0c D4u,B0c E1r,B0c E1q,B0c D2g,B0c D4t,B0c D4z,B0c D7n,B0c D7l,B0c D59,B0c C9i,B0c D2k,B0c D15,B0c D7k,B0c D5c,B0c D7m,B0c D5a,B0c D5b,B0c D2j,B0c E1s,B0c D19,B0c C8i,B0c C63,B0c C6z,B0c C9k,B0c C8l,B0c C8k,B0c C7j,B0c C8j,B0c D16,B0c C7i,B0c C8h,B0c D2l,B0c D18,B0c D17,B0c C9j,B0c D5d,B0c C1l]
def F4d (n:Nat):CF:=chain F5u n
abbrev EqB {A T:Type}(F:Fn' A T)(n:Nat)(W:Tab T):Prop:=∀a,A1r env (F4d n) n F.g W (F.args.to a) F.ret.un=F.run (n+1) a
abbrev TbB {A T:Type}(F:Fn' A T)(n:Nat)(W:Tab T):Prop:=A7f env (F4d n) n F.g W F.ret.un
abbrev B28 (n:Nat):Prop:=∀e∈F5u,B07 Tryz.prog env n e
abbrev B2o {A T:Type}(n:Nat)(F:Fn' A T):Prop:=B07 Tryz.prog env (n+1) (B0c F)
set_option maxRecDepth 1000000 in
theorem F4r (n:Nat):K2 (F4d n):=A80 (by
  simp only[F5u,List.forall_mem_cons,List.not_mem_nil,false_implies,implies_true,and_true]
  repeat' apply And.intro
  all_goals exact B1y _)
theorem B29 {α:Type}{p:α→Prop}{a:α}{l:List α}(h1:p a)(h2:∀x∈l,p x):∀x∈a::l,p x:=List.forall_mem_cons.mpr ⟨h1,h2⟩
theorem B2h {α:Type}{p:α→Prop}:∀x∈([]:List α),p x:=fun _ h=>by cases h
theorem st {n:Nat}{A T:Type}{F:Fn' A T}(W:Tab T)(h:B28 n)(ht:TbB F n W)(he:EqB F n W):A9s Tryz.prog env F (n+1):=B14 F8b F8c (A8t h) (F4r n) ht he
theorem sv {n:Nat}{A T:Type}{F:Fn' A T}(W:Tab T)(h:B28 n)(ht:∀q∈W,RowOk env (F4d n) n F.g W F.ret.un q)(he:EqB F n W):B2o n F:=B1g (st W h (B24 ht) he)
theorem sn {n:Nat}{A T:Type}{F:Fn' A T}(h:B28 n)(he:EqB F n []):B2o n F:=B1g (st [] h B1a he)
theorem s0 {A T:Type}{F:Fn' A T}(h:∀a,F.run 0 a=none):B07 Tryz.prog env 0 (B0c F):=B1g (B15 h)
theorem sx {n:Nat}{A T:Type}{F:Fn' A T}(h:A9s Tryz.prog env F (n+1)):B2o n F:=B1g h
theorem E40 (n:Nat)(h:B28 n):B2o n D1g:=sv (E2t n) h (B29 (B1q (fun _=>rfl) (fun _ _=>by kernel_rfl)) B2h) fun a=>by kernel_rfl
theorem F24 (n:Nat)(h:B28 n):B2o n D7w:=sn h fun a=>by kernel_rfl
theorem F26 (n:Nat)(h:B28 n):B2o n D7y:=sv (F0s n) h (B29 (B1q (fun _=>rfl) (fun _ _=>by kernel_rfl)) B2h) fun a=>by kernel_rfl
theorem E9f (n:Nat)(h:B28 n):B2o n D5n:=sn h fun a=>by kernel_rfl
theorem E73 (n:Nat)(h:B28 n):B2o n D2o:=sn h fun a=>by kernel_rfl
theorem E77 (n:Nat)(h:B28 n):B2o n D2s:=sv (E4q n) h (B29 (B1q (fun _=>rfl) (fun _ _=>by kernel_rfl)) B2h) fun a=>by kernel_rfl
theorem E9e (n:Nat)(h:B28 n):B2o n D5m:=sn h fun a=>by kernel_rfl
theorem E7c (n:Nat)(h:B28 n):B2o n D2x:=sv (E4t n) h (B29 (B1q (fun _=>rfl) (fun _ _=>by kernel_rfl)) B2h) fun a=>by kernel_rfl
theorem F23 (n:Nat)(h:B28 n):B2o n D7v:=sn h fun a=>by kernel_rfl
theorem E7b (n:Nat)(h:B28 n):B2o n D2w:=sn h fun a=>by kernel_rfl
theorem E7a (n:Nat)(h:B28 n):B2o n D2v:=sv (E4s n) h (B29 (B1q (fun _=>rfl) (fun _ _=>by kernel_rfl)) B2h) fun a=>by kernel_rfl
theorem E78 (n:Nat)(h:B28 n):B2o n D2t:=sv (E4r n) h (B29 (B1q (fun _=>rfl) (fun _ _=>by kernel_rfl)) B2h) fun a=>by kernel_rfl
theorem E7k (n:Nat)(h:B28 n):B2o n D35:=sv (E4z n) h (B29 (B1q (fun _=>rfl) (fun _ _=>by kernel_rfl)) B2h) fun a=>by kernel_rfl
theorem E9d (n:Nat)(h:B28 n):B2o n D5l:=sv (E88 n) h (B29 (B1q (fun _=>rfl) (fun _ _=>by kernel_rfl)) B2h) fun a=>by kernel_rfl
theorem E7i (n:Nat)(h:B28 n):B2o n D33:=sv (E4x n) h (B29 (B1q (fun _=>rfl) (fun _ _=>by kernel_rfl)) B2h) fun a=>by kernel_rfl
theorem E3z (n:Nat)(h:B28 n):B2o n D1f:=sn h fun a=>by kernel_rfl
theorem F1y (n:Nat)(h:B28 n):B2o n D7q:=sn h fun a=>by kernel_rfl
theorem F1x (n:Nat)(h:B28 n):B2o n D7p:=sv (F0n n) h (B29 (B1q (fun _=>rfl) (fun _ _=>by kernel_rfl)) B2h) fun a=>by kernel_rfl
theorem E75 (n:Nat)(h:B28 n):B2o n D2q:=sv (E4p n) h (B29 (B1q (fun _=>rfl) (fun _ _=>by kernel_rfl)) (B29 (B1q (fun _=>rfl) (fun _ _=>by kernel_rfl)) B2h)) fun a=>by kernel_rfl
theorem F1z (n:Nat)(h:B28 n):B2o n D7r:=sn h fun a=>by kernel_rfl
theorem E9b (n:Nat)(h:B28 n):B2o n D5j:=sn h fun a=>by kernel_rfl
theorem E7l (n:Nat)(h:B28 n):B2o n D36:=sv (E50 n) h (B29 (B1q (fun _=>rfl) (fun _ _=>by kernel_rfl)) B2h) fun a=>by kernel_rfl
theorem E7j (n:Nat)(h:B28 n):B2o n D34:=sv (E4y n) h (B29 (B1q (fun _=>rfl) (fun _ _=>by kernel_rfl)) B2h) fun a=>by kernel_rfl
theorem E41 (n:Nat)(h:B28 n):B2o n D1h:=sn h fun a=>by kernel_rfl
theorem E9l (n:Nat)(h:B28 n):B2o n D5t:=sn h fun a=>by kernel_rfl
theorem E9m (n:Nat)(h:B28 n):B2o n D5u:=sv (E8d n) h (B29 (B1q (fun _=>rfl) (fun _ _=>by kernel_rfl)) B2h) fun a=>by kernel_rfl
theorem E71 (n:Nat)(h:B28 n):B2o n D2m:=sn h fun a=>by kernel_rfl
theorem E3v (n:Nat)(h:B28 n):B2o n D1b:=sn h fun a=>by kernel_rfl
theorem D9r (n:Nat)(h:B28 n):B2o n C8n:=sv (D8v n) h (B29 (B1q (fun _=>rfl) (fun _ _=>by kernel_rfl)) (B29 (B1q (fun _=>rfl) (fun _ _=>by kernel_rfl)) B2h)) fun a=>by kernel_rfl
theorem D46 (n:Nat)(h:B28 n):B2o n C64:=sv (D3g n) h (B29 (B1r (fun _ _=>rfl) (fun _ _ _=>by kernel_rfl)) (B29 (B1q (fun _=>rfl) (fun _ _=>by kernel_rfl)) B2h)) fun a=>by kernel_rfl
theorem E76 (n:Nat)(h:B28 n):B2o n D2r:=sn h fun a=>by kernel_rfl
theorem E3w (n:Nat)(h:B28 n):B2o n D1c:=sn h fun a=>by kernel_rfl
theorem F1w (n:Nat)(h:B28 n):B2o n D7o:=sv (F0m n) h (B29 (B1q (fun _=>rfl) (fun _ _=>by kernel_rfl)) B2h) fun a=>by kernel_rfl
theorem E7f (n:Nat)(h:B28 n):B2o n D30:=sn h fun a=>by kernel_rfl
theorem F22 (n:Nat)(h:B28 n):B2o n D7u:=sv (F0q n) h (B29 (B1q (fun _=>rfl) (fun _ _=>by kernel_rfl)) B2h) fun a=>by kernel_rfl
theorem E9i (n:Nat)(h:B28 n):B2o n D5q:=sv (E8b n) h (B29 (B1q (fun _=>rfl) (fun _ _=>by kernel_rfl)) B2h) fun a=>by kernel_rfl
theorem E79 (n:Nat)(h:B28 n):B2o n D2u:=sn h fun a=>by kernel_rfl
theorem E72 (n:Nat)(h:B28 n):B2o n D2n:=sv (E4n n) h (B29 (B1q (fun _=>rfl) (fun _ _=>by kernel_rfl)) B2h) fun a=>by kernel_rfl
theorem E9a (n:Nat)(h:B28 n):B2o n D5i:=sv (E86 n) h (B29 (B1q (fun _=>rfl) (fun _ _=>by kernel_rfl)) B2h) fun a=>by kernel_rfl
theorem F3l (n:Nat)(h:B28 n):B2o n E1t:=sv (F2c n) h (B29 (B1q (fun _=>rfl) (fun _ _=>by kernel_rfl)) B2h) fun a=>by kernel_rfl
theorem F25 (n:Nat)(h:B28 n):B2o n D7x:=sv (F0r n) h (B29 (B1q (fun _=>rfl) (fun _ _=>by kernel_rfl)) B2h) fun a=>by kernel_rfl
theorem E3y (n:Nat)(h:B28 n):B2o n D1e:=sn h fun a=>by kernel_rfl
theorem E7d (n:Nat)(h:B28 n):B2o n D2y:=sv (E4u n) h (B29 (B1q (fun _=>rfl) (fun _ _=>by kernel_rfl)) B2h) fun a=>by kernel_rfl
theorem E9h (n:Nat)(h:B28 n):B2o n D5p:=sv (E8a n) h (B29 (B1q (fun _=>rfl) (fun _ _=>by kernel_rfl)) B2h) fun a=>by kernel_rfl
theorem E9g (n:Nat)(h:B28 n):B2o n D5o:=sv (E89 n) h (B29 (B1q (fun _=>rfl) (fun _ _=>by kernel_rfl)) B2h) fun a=>by kernel_rfl
theorem E3x (n:Nat)(h:B28 n):B2o n D1d:=sn h fun a=>by kernel_rfl
theorem E1m (n:Nat)(h:B28 n):B2o n C9l:=sv (E0l n) h (B29 (B1q (fun _=>rfl) (fun _ _=>by kernel_rfl)) (B29 (B1q (fun _=>rfl) (fun _ _=>by kernel_rfl)) B2h)) fun a=>by kernel_rfl
theorem E3u (n:Nat)(h:B28 n):B2o n D1a:=sn h fun a=>by kernel_rfl
theorem D77 (n:Nat)(h:B28 n):B2o n C7k:=sv (D6i n) h (B29 (B1q (fun _=>rfl) (fun _ _=>by kernel_rfl)) B2h) fun a=>by kernel_rfl
theorem F21 (n:Nat)(h:B28 n):B2o n D7t:=sv (F0p n) h (B29 (B1q (fun _=>rfl) (fun _ _=>by kernel_rfl)) B2h) fun a=>by kernel_rfl
theorem E9k (n:Nat)(h:B28 n):B2o n D5s:=sn h fun a=>by kernel_rfl
theorem E9j (n:Nat)(h:B28 n):B2o n D5r:=sv (E8c n) h (B29 (B1q (fun _=>rfl) (fun _ _=>by kernel_rfl)) B2h) fun a=>by kernel_rfl
theorem E98 (n:Nat)(h:B28 n):B2o n D5g:=sn h fun a=>by kernel_rfl
theorem F20 (n:Nat)(h:B28 n):B2o n D7s:=sv (F0o n) h (B29 (B1q (fun _=>rfl) (fun _ _=>by kernel_rfl)) B2h) fun a=>by kernel_rfl
theorem D9q (n:Nat)(h:B28 n):B2o n C8m:=sv (D8u n) h (B29 (B1q (fun _=>rfl) (fun _ _=>by kernel_rfl)) B2h) fun a=>by kernel_rfl
theorem E99 (n:Nat)(h:B28 n):B2o n D5h:=sn h fun a=>by kernel_rfl
theorem E97 (n:Nat)(h:B28 n):B2o n D5f:=sn h fun a=>by kernel_rfl
theorem E74 (n:Nat)(h:B28 n):B2o n D2p:=sv (E4o n) h (B29 (B1r (fun _ _=>rfl) (fun _ _ _=>by kernel_rfl)) (B29 (B1q (fun _=>rfl) (fun _ _=>by kernel_rfl)) B2h)) fun a=>by kernel_rfl
theorem E7h (n:Nat)(h:B28 n):B2o n D32:=sn h fun a=>by kernel_rfl
theorem E7e (n:Nat)(h:B28 n):B2o n D2z:=sv (E4v n) h (B29 (B1q (fun _=>rfl) (fun _ _=>by kernel_rfl)) B2h) fun a=>by kernel_rfl
theorem E1n (n:Nat)(h:B28 n):B2o n C9m:=sv (E0m n) h (B29 (B1q (fun _=>rfl) (fun _ _=>by kernel_rfl)) B2h) fun a=>by kernel_rfl
theorem E7g (n:Nat)(h:B28 n):B2o n D31:=sv (E4w n) h (B29 (B1q (fun _=>rfl) (fun _ _=>by kernel_rfl)) B2h) fun a=>by kernel_rfl
theorem F3m (n:Nat)(h:B28 n):B2o n E1u:=sn h fun a=>by kernel_rfl
theorem E96 (n:Nat)(h:B28 n):B2o n D5e:=sv (E85 n) h (B29 (B1r (fun _ _=>rfl) (fun _ _ _=>by kernel_rfl)) (B29 (B1q (fun _=>rfl) (fun _ _=>by kernel_rfl)) B2h)) fun a=>by kernel_rfl
theorem E9c (n:Nat)(h:B28 n):B2o n D5k:=sv (E87 n) h (B29 (B1q (fun _=>rfl) (fun _ _=>by kernel_rfl)) B2h) fun a=>by kernel_rfl
theorem F4a (n:Nat)(h:B28 n):B2o n E4a:=sv (F3p n) h (B29 (B1q (fun _=>rfl) (fun _ _=>by kernel_rfl)) B2h) fun a=>by kernel_rfl
theorem F1m (n:Nat)(h:B28 n):B2o n D7e:=sn h fun a=>by kernel_rfl
theorem C6y (n:Nat)(h:B28 n):B2o n C0p:=sv (C6p n) h (B29 (B1q (fun _=>rfl) (fun _ _=>by kernel_rfl)) B2h) fun a=>by kernel_rfl
theorem E90 (n:Nat)(h:B28 n):B2o n D58:=sn h fun a=>by kernel_rfl
theorem F1l (n:Nat)(h:B28 n):B2o n D7d:=sn h fun a=>by kernel_rfl
theorem E3j (n:Nat)(h:B28 n):B2o n D0z:=sn h fun a=>by kernel_rfl
theorem E6k (n:Nat)(h:B28 n):B2o n D25:=sv (E4g n) h (B29 (B1q (fun _=>rfl) (fun _ _=>by kernel_rfl)) B2h) fun a=>by kernel_rfl
theorem E6r (n:Nat)(h:B28 n):B2o n D2c:=sv (E4k n) h (B29 (B1q (fun _=>rfl) (fun _ _=>by kernel_rfl)) B2h) fun a=>by kernel_rfl
theorem E8u (n:Nat)(h:B28 n):B2o n D52:=sv (E7y n) h (B29 (B1q (fun _=>rfl) (fun _ _=>by kernel_rfl)) B2h) fun a=>by kernel_rfl
theorem E8w (n:Nat)(h:B28 n):B2o n D54:=sv (E80 n) h (B29 (B1q (fun _=>rfl) (fun _ _=>by kernel_rfl)) B2h) fun a=>by kernel_rfl
theorem E6o (n:Nat)(h:B28 n):B2o n D29:=sv (E4j n) h (B29 (B1q (fun _=>rfl) (fun _ _=>by kernel_rfl)) B2h) fun a=>by kernel_rfl
theorem E6p (n:Nat)(h:B28 n):B2o n D2a:=sn h fun a=>by kernel_rfl
theorem F1n (n:Nat)(h:B28 n):B2o n D7f:=sv (F0i n) h (B29 (B1q (fun _=>rfl) (fun _ _=>by kernel_rfl)) B2h) fun a=>by kernel_rfl
theorem E1i (n:Nat)(h:B28 n):B2o n C9h:=sn h fun a=>by kernel_rfl
theorem E3m (n:Nat)(h:B28 n):B2o n D12:=sv (E2m n) h (B29 (B1q (fun _=>rfl) (fun _ _=>by kernel_rfl)) B2h) fun a=>by kernel_rfl
theorem E8s (n:Nat)(h:B28 n):B2o n D50:=sv (E7w n) h (B29 (B1q (fun _=>rfl) (fun _ _=>by kernel_rfl)) B2h) fun a=>by kernel_rfl
theorem E1h (n:Nat)(h:B28 n):B2o n C9g:=sn h fun a=>by kernel_rfl
theorem E3g (n:Nat)(h:B28 n):B2o n D0w:=sn h fun a=>by kernel_rfl
theorem F1i (n:Nat)(h:B28 n):B2o n D7a:=sn h fun a=>by kernel_rfl
theorem E6g (n:Nat)(h:B28 n):B2o n D21:=sn h fun a=>by kernel_rfl
theorem B7z (n:Nat)(h:B28 n):B2o n B4k:=sv (B7q n) h (B29 (B1q (fun _=>rfl) (fun _ _=>by kernel_rfl)) B2h) fun a=>by kernel_rfl
theorem F1h (n:Nat)(h:B28 n):B2o n D79:=sn h fun a=>by kernel_rfl
theorem E6m (n:Nat)(h:B28 n):B2o n D27:=sv (E4i n) h (B29 (B1q (fun _=>rfl) (fun _ _=>by kernel_rfl)) (B29 (B1q (fun _=>rfl) (fun _ _=>by kernel_rfl)) B2h)) fun a=>by kernel_rfl
theorem C4x (n:Nat)(h:B28 n):B2o n B8n:=sv (C3y n) h (B29 (B1q (fun _=>rfl) (fun _ _=>by kernel_rfl)) B2h) fun a=>by kernel_rfl
theorem C6x (n:Nat)(h:B28 n):B2o n C0o:=sv (C6o n) h (B29 (B1q (fun _=>rfl) (fun _ _=>by kernel_rfl)) B2h) fun a=>by kernel_rfl
theorem E3n (n:Nat)(h:B28 n):B2o n D13:=sn h fun a=>by kernel_rfl
theorem F1j (n:Nat)(h:B28 n):B2o n D7b:=sn h fun a=>by kernel_rfl
theorem E8y (n:Nat)(h:B28 n):B2o n D56:=sn h fun a=>by kernel_rfl
theorem E6h (n:Nat)(h:B28 n):B2o n D22:=sn h fun a=>by kernel_rfl
theorem F1o (n:Nat)(h:B28 n):B2o n D7g:=sv (F0j n) h (B29 (B1q (fun _=>rfl) (fun _ _=>by kernel_rfl)) B2h) fun a=>by kernel_rfl
theorem E6i (n:Nat)(h:B28 n):B2o n D23:=sv (E4e n) h (B29 (B1q (fun _=>rfl) (fun _ _=>by kernel_rfl)) B2h) fun a=>by kernel_rfl
theorem E6n (n:Nat)(h:B28 n):B2o n D28:=sn h fun a=>by kernel_rfl
theorem E8z (n:Nat)(h:B28 n):B2o n D57:=sv (E81 n) h (B29 (B1q (fun _=>rfl) (fun _ _=>by kernel_rfl)) B2h) fun a=>by kernel_rfl
theorem E1g (n:Nat)(h:B28 n):B2o n C9f:=sn h fun a=>by kernel_rfl
theorem B77 (n:Nat)(h:B28 n):B2o n B4i:=sv (B72 n) h (B29 (B1q (fun _=>rfl) (fun _ _=>by kernel_rfl)) B2h) fun a=>by kernel_rfl
theorem B6h (n:Nat)(h:B28 n):B2o n B4d:=sn h fun a=>by kernel_rfl
theorem E6s (n:Nat)(h:B28 n):B2o n D2d:=sn h fun a=>by kernel_rfl
theorem E8q (n:Nat)(h:B28 n):B2o n D4y:=sn h fun a=>by kernel_rfl
theorem E3o (n:Nat)(h:B28 n):B2o n D14:=sv (E2n n) h (B29 (B1q (fun _=>rfl) (fun _ _=>by kernel_rfl)) B2h) fun a=>by kernel_rfl
theorem E3h (n:Nat)(h:B28 n):B2o n D0x:=sn h fun a=>by kernel_rfl
theorem E3i (n:Nat)(h:B28 n):B2o n D0y:=sn h fun a=>by kernel_rfl
theorem E3e (n:Nat)(h:B28 n):B2o n D0u:=sn h fun a=>by kernel_rfl
theorem B6i (n:Nat)(h:B28 n):B2o n B4e:=sv (B6g n) h (B29 (B1q (fun _=>rfl) (fun _ _=>by kernel_rfl)) B2h) fun a=>by kernel_rfl
theorem E8k (n:Nat)(h:B28 n):B2o n D4s:=sn h fun a=>by kernel_rfl
theorem F1g (n:Nat)(h:B28 n):B2o n D78:=sv (F0g n) h (B29 (B1q (fun _=>rfl) (fun _ _=>by kernel_rfl)) B2h) fun a=>by kernel_rfl
theorem C54 (n:Nat)(h:B28 n):B2o n B9d:=sn h fun a=>by kernel_rfl
theorem E6w (n:Nat)(h:B28 n):B2o n D2h:=sn h fun a=>by kernel_rfl
theorem E6u (n:Nat)(h:B28 n):B2o n D2f:=sv (E4l n) h (B29 (B1q (fun _=>rfl) (fun _ _=>by kernel_rfl)) B2h) fun a=>by kernel_rfl
theorem C1i (n:Nat):A9s Tryz.prog env B6k (n+1):=fun a r h=>B21 (f:=J13) F6h Tryz.underlying23 Tryz.underlying3 (B0n (P:=Tryz.prog) (e:=63) (f:=J13) (eb:=64) (by kernel_rfl)) (by decide) h
theorem C1h (n:Nat):A9s Tryz.prog env B6j (n+1):=fun a r h=>B1x (f:=J13) F5s Tryz.underlying23 (B0n (P:=Tryz.prog) (e:=63) (f:=J13) (eb:=64) (by kernel_rfl)) h
theorem D9k (n:Nat)(h:B28 n):B2o n C8g:=sn h fun a=>by kernel_rfl
theorem B6z (n:Nat)(h:B28 n):B2o n B4h:=sv (B6x n) h (B29 (B1q (fun _=>rfl) (fun _ _=>by kernel_rfl)) B2h) fun a=>by kernel_rfl
theorem B6e (n:Nat)(h:B28 n):B2o n B4b:=sv (B68 n) h (B29 (B1q (fun _=>rfl) (fun _ _=>by kernel_rfl)) B2h) fun a=>by kernel_rfl
theorem E3f (n:Nat)(h:B28 n):B2o n D0v:=sv (E2k n) h (B29 (B1q (fun _=>rfl) (fun _ _=>by kernel_rfl)) B2h) fun a=>by kernel_rfl
theorem E3l (n:Nat)(h:B28 n):B2o n D11:=sn h fun a=>by kernel_rfl
theorem E3k (n:Nat)(h:B28 n):B2o n D10:=sv (E2l n) h (B29 (B1q (fun _=>rfl) (fun _ _=>by kernel_rfl)) B2h) fun a=>by kernel_rfl
theorem E8t (n:Nat)(h:B28 n):B2o n D51:=sv (E7x n) h (B29 (B1q (fun _=>rfl) (fun _ _=>by kernel_rfl)) B2h) fun a=>by kernel_rfl
theorem C1z (n:Nat):A9s Tryz.prog env B79 (n+1):=fun a r h=>B21 (f:=J5) F6g Tryz.underlying26 Tryz.underlying3 (B0n (P:=Tryz.prog) (e:=65) (f:=J5) (eb:=24) (by kernel_rfl)) (by decide) h
theorem C1y (n:Nat):A9s Tryz.prog env B78 (n+1):=fun a r h=>B1x (f:=J5) F5q Tryz.underlying26 (B0n (P:=Tryz.prog) (e:=65) (f:=J5) (eb:=24) (by kernel_rfl)) h
theorem E8x (n:Nat)(h:B28 n):B2o n D55:=sn h fun a=>by kernel_rfl
theorem F1r (n:Nat)(h:B28 n):B2o n D7j:=sv (F0l n) h (B29 (B1q (fun _=>rfl) (fun _ _=>by kernel_rfl)) B2h) fun a=>by kernel_rfl
theorem F1p (n:Nat)(h:B28 n):B2o n D7h:=sv (F0k n) h (B29 (B1q (fun _=>rfl) (fun _ _=>by kernel_rfl)) B2h) fun a=>by kernel_rfl
theorem E6q (n:Nat)(h:B28 n):B2o n D2b:=sn h fun a=>by kernel_rfl
theorem E6j (n:Nat)(h:B28 n):B2o n D24:=sv (E4f n) h (B29 (B1q (fun _=>rfl) (fun _ _=>by kernel_rfl)) B2h) fun a=>by kernel_rfl
theorem E8p (n:Nat)(h:B28 n):B2o n D4x:=sv (E7u n) h (B29 (B1q (fun _=>rfl) (fun _ _=>by kernel_rfl)) B2h) fun a=>by kernel_rfl
theorem C2k (n:Nat):A9s Tryz.prog env B86 (n+1):=fun a r h=>B1x (f:=J3) F5t Tryz.underlying29 (B0n (P:=Tryz.prog) (e:=88) (f:=J3) (eb:=32) (by kernel_rfl)) h
theorem E6l (n:Nat)(h:B28 n):B2o n D26:=sv (E4h n) h (B29 (B1q (fun _=>rfl) (fun _ _=>by kernel_rfl)) (B29 (B1q (fun _=>rfl) (fun _ _=>by kernel_rfl)) B2h)) fun a=>by kernel_rfl
theorem E6t (n:Nat)(h:B28 n):B2o n D2e:=sn h fun a=>by kernel_rfl
theorem C4y (n:Nat)(h:B28 n):B2o n B8o:=sv (C3z n) h (B29 (B1q (fun _=>rfl) (fun _ _=>by kernel_rfl)) B2h) fun a=>by kernel_rfl
theorem E6x (n:Nat)(h:B28 n):B2o n D2i:=sn h fun a=>by kernel_rfl
theorem B80 (n:Nat)(h:B28 n):B2o n B4l:=sv (B7r n) h (B29 (B1q (fun _=>rfl) (fun _ _=>by kernel_rfl)) B2h) fun a=>by kernel_rfl
theorem F1q (n:Nat)(h:B28 n):B2o n D7i:=sn h fun a=>by kernel_rfl
theorem C2l (n:Nat):A9s Tryz.prog env B87 (n+1):=fun a r h=>B21 (f:=J4) F6i Tryz.underlying59 Tryz.underlying3 (B0n (P:=Tryz.prog) (e:=31) (f:=J4) (eb:=24) (by kernel_rfl)) (by decide) h
theorem E8v (n:Nat)(h:B28 n):B2o n D53:=sv (E7z n) h (B29 (B1q (fun _=>rfl) (fun _ _=>by kernel_rfl)) B2h) fun a=>by kernel_rfl
theorem E8n (n:Nat)(h:B28 n):B2o n D4v:=sn h fun a=>by kernel_rfl
theorem F1k (n:Nat)(h:B28 n):B2o n D7c:=sv (F0h n) h (B29 (B1q (fun _=>rfl) (fun _ _=>by kernel_rfl)) B2h) fun a=>by kernel_rfl
theorem C2j (n:Nat):A9s Tryz.prog env B85 (n+1):=fun a r h=>B1x (f:=J4) F5r Tryz.underlying59 (B0n (P:=Tryz.prog) (e:=31) (f:=J4) (eb:=24) (by kernel_rfl)) h
theorem E8o (n:Nat)(h:B28 n):B2o n D4w:=sn h fun a=>by kernel_rfl
theorem E8m (n:Nat)(h:B28 n):B2o n D4u:=sn h fun a=>by kernel_rfl
theorem F3j (n:Nat)(h:B28 n):B2o n E1r:=sn h fun a=>by kernel_rfl
theorem F3i (n:Nat)(h:B28 n):B2o n E1q:=sv (F2b n) h (B29 (B1q (fun _=>rfl) (fun _ _=>by kernel_rfl)) B2h) fun a=>by kernel_rfl
theorem E6v (n:Nat)(h:B28 n):B2o n D2g:=sn h fun a=>by kernel_rfl
theorem E8l (n:Nat)(h:B28 n):B2o n D4t:=sv (E7t n) h (B29 (B1r (fun _ _=>rfl) (fun _ _ _=>by kernel_rfl)) (B29 (B1q (fun _=>rfl) (fun _ _=>by kernel_rfl)) B2h)) fun a=>by kernel_rfl
theorem E8r (n:Nat)(h:B28 n):B2o n D4z:=sv (E7v n) h (B29 (B1q (fun _=>rfl) (fun _ _=>by kernel_rfl)) B2h) fun a=>by kernel_rfl
theorem F1v (n:Nat)(h:B28 n):B2o n D7n:=sn h fun a=>by kernel_rfl
theorem F1t (n:Nat)(h:B28 n):B2o n D7l:=sn h fun a=>by kernel_rfl
theorem E91 (n:Nat)(h:B28 n):B2o n D59:=sv (E82 n) h (B29 (B1q (fun _=>rfl) (fun _ _=>by kernel_rfl)) B2h) fun a=>by kernel_rfl
theorem E1j (n:Nat)(h:B28 n):B2o n C9i:=sv (E0j n) h (B29 (B1q (fun _=>rfl) (fun _ _=>by kernel_rfl)) B2h) fun a=>by kernel_rfl
theorem E6z (n:Nat)(h:B28 n):B2o n D2k:=sn h fun a=>by kernel_rfl
theorem E3p (n:Nat)(h:B28 n):B2o n D15:=sv (E2o n) h (B29 (B1q (fun _=>rfl) (fun _ _=>by kernel_rfl)) B2h) fun a=>by kernel_rfl
theorem F1s (n:Nat)(h:B28 n):B2o n D7k:=sn h fun a=>by kernel_rfl
theorem E94 (n:Nat)(h:B28 n):B2o n D5c:=sv (E84 n) h (B29 (B1q (fun _=>rfl) (fun _ _=>by kernel_rfl)) B2h) fun a=>by kernel_rfl
theorem F1u (n:Nat)(h:B28 n):B2o n D7m:=sn h fun a=>by kernel_rfl
theorem E92 (n:Nat)(h:B28 n):B2o n D5a:=sv (E83 n) h (B29 (B1q (fun _=>rfl) (fun _ _=>by kernel_rfl)) B2h) fun a=>by kernel_rfl
theorem E93 (n:Nat)(h:B28 n):B2o n D5b:=sn h fun a=>by kernel_rfl
theorem E6y (n:Nat)(h:B28 n):B2o n D2j:=sv (E4m n) h (B29 (B1q (fun _=>rfl) (fun _ _=>by kernel_rfl)) B2h) fun a=>by kernel_rfl
theorem F3k (n:Nat)(h:B28 n):B2o n E1s:=sn h fun a=>by kernel_rfl
theorem E3t (n:Nat)(h:B28 n):B2o n D19:=sv (E2s n) h (B29 (B1q (fun _=>rfl) (fun _ _=>by kernel_rfl)) B2h) fun a=>by kernel_rfl
theorem D9m (n:Nat)(h:B28 n):B2o n C8i:=sv (D8r n) h (B29 (B1q (fun _=>rfl) (fun _ _=>by kernel_rfl)) B2h) fun a=>by kernel_rfl
theorem D45 (n:Nat)(h:B28 n):B2o n C63:=sv (D3f n) h (B29 (B1q (fun _=>rfl) (fun _ _=>by kernel_rfl)) B2h) fun a=>by kernel_rfl
theorem D4r (n:Nat)(h:B28 n):B2o n C6z:=sv (D4o n) h (B29 (B1q (fun _=>rfl) (fun _ _=>by kernel_rfl)) B2h) fun a=>by kernel_rfl
theorem E1l (n:Nat)(h:B28 n):B2o n C9k:=sn h fun a=>by kernel_rfl
theorem D9p (n:Nat)(h:B28 n):B2o n C8l:=sv (D8t n) h (B29 (B1q (fun _=>rfl) (fun _ _=>by kernel_rfl)) B2h) fun a=>by kernel_rfl
theorem D9o (n:Nat)(h:B28 n):B2o n C8k:=sv (D8s n) h (B29 (B1q (fun _=>rfl) (fun _ _=>by kernel_rfl)) B2h) fun a=>by kernel_rfl
theorem D76 (n:Nat)(h:B28 n):B2o n C7j:=sv (D6h n) h (B29 (B1q (fun _=>rfl) (fun _ _=>by kernel_rfl)) B2h) fun a=>by kernel_rfl
theorem D9n (n:Nat)(h:B28 n):B2o n C8j:=sn h fun a=>by kernel_rfl
theorem E3q (n:Nat)(h:B28 n):B2o n D16:=sv (E2p n) h (B29 (B1q (fun _=>rfl) (fun _ _=>by kernel_rfl)) B2h) fun a=>by kernel_rfl
theorem D75 (n:Nat)(h:B28 n):B2o n C7i:=sv (D6g n) h (B29 (B1q (fun _=>rfl) (fun _ _=>by kernel_rfl)) B2h) fun a=>by kernel_rfl
theorem D9l (n:Nat)(h:B28 n):B2o n C8h:=sv (D8q n) h (B29 (B1q (fun _=>rfl) (fun _ _=>by kernel_rfl)) B2h) fun a=>by kernel_rfl
theorem E70 (n:Nat)(h:B28 n):B2o n D2l:=sn h fun a=>by kernel_rfl
theorem E3s (n:Nat)(h:B28 n):B2o n D18:=sv (E2r n) h (B29 (B1q (fun _=>rfl) (fun _ _=>by kernel_rfl)) B2h) fun a=>by kernel_rfl
theorem E3r (n:Nat)(h:B28 n):B2o n D17:=sv (E2q n) h (B29 (B1q (fun _=>rfl) (fun _ _=>by kernel_rfl)) B2h) fun a=>by kernel_rfl
theorem E1k (n:Nat)(h:B28 n):B2o n C9j:=sv (E0k n) h (B29 (B1q (fun _=>rfl) (fun _ _=>by kernel_rfl)) B2h) fun a=>by kernel_rfl
theorem E95 (n:Nat)(h:B28 n):B2o n D5d:=sn h fun a=>by kernel_rfl
theorem D44 (n:Nat)(h:B28 n):B2o n C1l:=sn h fun a=>by kernel_rfl
set_option maxRecDepth 1000000 in
theorem F5f:∀n,B28 n
  |0=>by
    simp only[B28,F5u,List.forall_mem_cons,List.not_mem_nil,false_implies,implies_true,and_true]
    repeat' apply And.intro
    all_goals exact s0 fun _=>rfl
  |n+1=>by
    have h:B28 n:=F5f n
    simp only[B28,F5u,List.forall_mem_cons,List.not_mem_nil,false_implies,implies_true,and_true]
    exact⟨E40 n h,F24 n h,F26 n h,E9f n h,E73 n h,E77 n h,E9e n h,E7c n h,F23 n h,E7b n h,E7a n h,E78 n h,E7k n h,E9d n h,E7i n h,E3z n h,F1y n h,F1x n h,E75 n h,F1z n h,E9b n h,E7l n h,E7j n h,E41 n h,E9l n h,E9m n h,E71 n h,E3v n h,D9r n h,D46 n h,E76 n h,E3w n h,F1w n h,E7f n h,F22 n h,E9i n h,E79 n h,E72 n h,E9a n h,F3l n h,F25 n h,E3y n h,E7d n h,E9h n h,E9g n h,E3x n h,E1m n h,E3u n h,D77 n h,F21 n h,E9k n h,E9j n h,E98 n h,F20 n h,D9q n h,E99 n h,E97 n h,E74 n h,E7h n h,E7e n h,E1n n h,E7g n h,F3m n h,E96 n h,E9c n h,F4a n h,F1m n h,C6y n h,E90 n h,F1l n h,E3j n h,E6k n h,E6r n h,E8u n h,E8w n h,E6o n h,E6p n h,F1n n h,E1i n h,E3m n h,E8s n h,E1h n h,E3g n h,F1i n h,E6g n h,B7z n h,F1h n h,E6m n h,C4x n h,C6x n h,E3n n h,F1j n h,E8y n h,E6h n h,F1o n h,E6i n h,E6n n h,E8z n h,E1g n h,B77 n h,B6h n h,E6s n h,E8q n h,E3o n h,E3h n h,E3i n h,E3e n h,B6i n h,E8k n h,F1g n h,C54 n h,E6w n h,E6u n h,sx (C1i n),sx (C1h n),D9k n h,B6z n h,B6e n h,E3f n h,E3l n h,E3k n h,E8t n h,sx (C1z n),sx (C1y n),E8x n h,F1r n h,F1p n h,E6q n h,E6j n h,E8p n h,sx (C2k n),E6l n h,E6t n h,C4y n h,E6x n h,B80 n h,F1q n h,sx (C2l n),E8v n h,E8n n h,F1k n h,sx (C2j n),E8o n h,E8m n h,F3j n h,F3i n h,E6v n h,E8l n h,E8r n h,F1v n h,F1t n h,E91 n h,E1j n h,E6z n h,E3p n h,F1s n h,E94 n h,F1u n h,E92 n h,E93 n h,E6y n h,F3k n h,E3t n h,D9m n h,D45 n h,D4r n h,E1l n h,D9p n h,D9o n h,D76 n h,D9n n h,E3q n h,D75 n h,D9l n h,E70 n h,E3s n h,E3r n h,E1k n h,E95 n h,D44 n h⟩
theorem F8k:∀n,A9s Tryz.prog env C1l n
  |0=>B15 fun _=>rfl
  |n+1=>st [] (F5f n) B1a fun a=>by kernel_rfl
end Go.Proofs.YtalmhjlcjcnidaaGreat.Ev
