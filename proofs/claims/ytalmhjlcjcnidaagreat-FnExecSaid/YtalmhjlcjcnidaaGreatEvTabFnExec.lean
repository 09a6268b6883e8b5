/- The tables of the law FnExec: what the evaluator makes of the program is these functions. -/
import Derived.Test.YtalmhjlcjcnidaaGreatEvFnFnExec
import Derived.Test.YtalmhjlcjcnidaaGreatEvExtFnExec
import Derived.Test.YtalmhjlcjcnidaaGreatEvHead
import Derived.Test.YtalmhjlcjcnidaaGreatEvEq
import Derived.Test.YtalmhjlcjcnidaaGreatChecked
set_option linter.all false
namespace Go.Proofs.YtalmhjlcjcnidaaGreat.Ev
open Go Go.Proofs
abbrev J1:Kd:=(.pair (.int .i64) .str)
abbrev J2:Kd:=(.pair (.int .i64) (.int .i64))
abbrev J3:Kd:=(.pair (.sl .str) (.pair .str .str))
abbrev J4:Kd:=(.pair (.int .i64) J1)
abbrev J5:Kd:=(.sl J4)
abbrev J6:Kd:=(.sl J5)
abbrev J7:Kd:=(.pair (.sl (.int .u8)) J2)
abbrev J8:Kd:=(.pair .bool J4)
abbrev J9:Kd:=(.sl J6)
abbrev J10:Kd:=(.pair .bool J8)
abbrev J11:Kd:=(.pair (.int .i64) J10)
abbrev J12:Kd:=(.pair .str J11)
abbrev J13:Kd:=(.sl J12)
abbrev J14:Kd:=(.pair J13 (.sl .str))
abbrev J15:Kd:=(.pair .str J14)
abbrev J16:Kd:=(.sl J15)
abbrev J17:Kd:=(.pair J13 J3)
abbrev J18:Kd:=(.pair .str J17)
abbrev J19:Kd:=(.pair (.int .i64) J18)
abbrev J20:Kd:=(.pair J16 J9)
abbrev J21:Kd:=(.pair J5 J19)
abbrev J22:Kd:=(.pair J5 J21)
abbrev J23:Kd:=(.pair .str J22)
abbrev J24:Kd:=(.pair (.int .i64) J23)
abbrev Z1:Type:=((List ByteArray)×(ByteArray×Unit))
abbrev Q1:=(Ls.cons Lf.str (Ls.cons Lf.str Ls.nil))
abbrev Q2:=(Tvs.cons (Tv.one (Lf.int .i64)) Tvs.nil)
abbrev Q3:=(Ls.cons (Lf.sh J15) (Ls.one (Lf.sh J6)))
abbrev Q4:=(Ls.cons (Lf.od J15) (Ls.one (Lf.od J6)))
abbrev Q5:=(Ls.cons (Lf.sh J12) (Ls.one (Lf.sh .str)))
abbrev Q6:=(Ls.cons (Lf.od J12) (Ls.one (Lf.od .str)))
abbrev Q7:=(Tvs.cons (Tv.one (Lf.sh (.int .u8))) Tvs.nil)
abbrev Q8:=(Ls.cons (Lf.int .i64) (Ls.one (Lf.int .i64)))
abbrev Q9:=(Tvs.cons (Tv.agg (Ls.one (Lf.sh J4))) Tvs.nil)
abbrev Q10:=(Tvs.cons (Tv.agg (Ls.one (Lf.sh J15))) Tvs.nil)
abbrev Q11:=(Ls.cons (Lf.sh J15) (Ls.cons (Lf.sh J6) Ls.nil))
abbrev Q12:=(Tv.agg Q3)
abbrev Q13:=(Tv.agg Q4)
abbrev Q14:=(Ls.cons (Lf.sh J12) (Ls.cons (Lf.sh .str) Ls.nil))
abbrev Q15:=(Ls.cons (Lf.int .i64) (Ls.cons (Lf.int .i64) Ls.nil))
abbrev Q16:=(Ls.cons (Lf.od .str) (Ls.cons Lf.str (Ls.one Lf.str)))
abbrev Q17:=(Ls.cons (Lf.sh .str) (Ls.cons Lf.str (Ls.one Lf.str)))
abbrev Q18:=(Ls.cons Lf.str Q5)
abbrev Q19:=(Ls.cons Lf.str Q6)
abbrev Q20:=(Ls.cons Lf.str (Ls.k (Kf.ow 304) (Ls.k (Kf.ow 305) Ls.nil)))
abbrev Q21:=(Ls.cons Lf.str (Ls.k (Kf.ow 368) (Ls.k (Kf.ow 369) Ls.nil)))
abbrev Q22:=(Ls.cons Lf.str (Ls.k (Kf.ow 176) (Ls.k (Kf.ow 177) Ls.nil)))
abbrev Q23:=(Ls.cons Lf.str (Ls.k (Kf.ow 240) (Ls.k (Kf.ow 241) Ls.nil)))
abbrev Q24:=(Ls.cons (Lf.int .i64) (Ls.cons (Lf.int .i64) (Ls.one Lf.str)))
abbrev Q25:=(Ls.cons (Lf.sh .str) Q1)
abbrev Q26:=(Tvs.cons (Tv.one (Lf.sh .str)) (Tvs.cons (Tv.one Lf.str) Tvs.nil))
abbrev Q27:=(Ls.cons Lf.str Q14)
abbrev Q28:=(Tv.agg Q18)
abbrev Q29:=(Tv.agg Q19)
abbrev Q30:=(Tvs.cons (Tv.one (Lf.sh J4)) (Tvs.cons (Tv.one (Lf.sh J4)) Tvs.nil))
abbrev Q31:=(Tvs.cons (Tv.one (Lf.sh J5)) (Tvs.cons (Tv.one (Lf.sh J4)) Tvs.nil))
abbrev Q32:=(Tvs.cons Q12 Tvs.nil)
abbrev Q33:=(Tv.agg Q24)
abbrev Q34:=(Tvs.cons (Tv.one (Lf.od J5)) Q2)
abbrev Q35:=(Ls.cons (Lf.sh (.int .u8)) Q8)
abbrev Q36:=(Tvs.cons (Tv.one (Lf.int .i64)) Q2)
abbrev Q37:=(Rt.v Q29)
abbrev Q38:=(Ls.cons (Lf.od J12) Q16)
abbrev Q39:=(Ls.cons (Lf.sh J12) Q17)
abbrev Q40:=(Tvs.cons (Tv.one (Lf.sh J5)) Q9)
abbrev Q41:=(Ls.cons Lf.bool Q24)
abbrev Q42:=(Rt.tup Q34)
abbrev Q43:=(Ls.cons (Lf.sh (.int .u8)) Q15)
abbrev Q44:=(Tv.agg Q35)
abbrev Q45:=(Ls.cons (Lf.sh J12) Q25)
abbrev Q46:=(Tvs.cons Q28 Tvs.nil)
abbrev Q47:=(Tvs.cons Q33 Tvs.nil)
abbrev Q48:=(Ls.cons Lf.str Q38)
abbrev Q49:=(Ls.cons Lf.str Q39)
abbrev Q50:=(Ls.cons Lf.str (Ls.k (Kf.ow 306) (Ls.k (Kf.ow 307) Q1)))
abbrev Q51:=(Ls.cons Lf.str (Ls.k (Kf.ow 370) (Ls.k (Kf.ow 371) Q1)))
abbrev Q52:=(Ls.cons Lf.str (Ls.k (Kf.ow 176) (Ls.k (Kf.ow 177) Q1)))
abbrev Q53:=(Ls.cons Lf.str (Ls.k (Kf.ow 240) (Ls.k (Kf.ow 241) Q1)))
abbrev Q54:=(Ls.cons Lf.bool Q41)
abbrev Q55:=(Ls.cons Lf.str Q45)
abbrev Q56:=(Tvs.cons Q44 Tvs.nil)
abbrev Q57:=(Tvs.cons Q13 Q2)
abbrev Q58:=(Rt.tup Q57)
abbrev Q59:=(Ls.cons (Lf.int .i64) Q48)
abbrev Q60:=(Ls.cons (Lf.int .i64) Q49)
abbrev Q61:=(Tvs.cons Q28 (Tvs.cons (Tv.one (Lf.sh J5)) Tvs.nil))
abbrev Q62:=(Ls.cons (Lf.int .i64) Q50)
abbrev Q63:=(Ls.cons (Lf.int .i64) Q51)
abbrev Q64:=(Ls.cons (Lf.int .i64) Q52)
abbrev Q65:=(Ls.cons (Lf.int .i64) Q53)
abbrev Q66:=(Ls.cons (Lf.int .i64) Q54)
abbrev Q67:=(Ls.cons (Lf.int .i64) Q55)
abbrev Q68:=(Tv.agg Q60)
abbrev Q69:=(Tvs.cons Q28 Q9)
abbrev Q70:=(Tvs.cons (Tv.one (Lf.int .i64)) Q56)
abbrev Q71:=(Ls.cons (Lf.od J4) Q59)
abbrev Q72:=(Ls.cons (Lf.sh J4) Q60)
abbrev Q73:=(Ls.cons Lf.str Q66)
abbrev Q74:=(Rt.tup Q70)
abbrev Q75:=(Tvs.cons Q68 Tvs.nil)
abbrev Q76:=(Tv.agg Q73)
abbrev Q77:=(Tvs.cons Q28 Q31)
abbrev Q78:=(Tvs.cons Q28 Q40)
abbrev Q79:=(Ls.cons (Lf.od J4) Q71)
abbrev Q80:=(Ls.cons (Lf.sh J4) Q72)
abbrev Q81:=(Ls.cons Lf.str (Ls.k (Kf.ow 304) (Ls.k (Kf.ow 305) Q62)))
abbrev Q82:=(Ls.cons Lf.str (Ls.k (Kf.ow 368) (Ls.k (Kf.ow 369) Q63)))
abbrev Q83:=(Ls.cons Lf.str Q79)
abbrev Q84:=(Ls.cons Lf.str Q80)
abbrev Q85:=(Tvs.cons Q33 Q56)
abbrev Q86:=(Tvs.cons (Tv.agg (Ls.one (Lf.sh J15))) Q75)
abbrev Q87:=(Rt.tup Q85)
abbrev Q88:=(Ls.cons (Lf.int .i64) Q81)
abbrev Q89:=(Ls.cons (Lf.int .i64) Q82)
abbrev Q90:=(Ls.cons (Lf.int .i64) Q83)
abbrev Q91:=(Ls.cons (Lf.int .i64) Q84)
abbrev Q92:=(Tv.agg Q90)
abbrev Q93:=(Tv.agg Q91)
abbrev Q94:=(Tvs.cons Q93 Tvs.nil)
abbrev Q95:=(Tvs.cons Q12 Q94)
def D9n:List (Kd×Nat):=[((.int .u8),1)]
def bytesOf (f:Kd):Nat:=((D9n.find? fun p=>decide (p.1=f)).map (·.2)).getD 1
theorem E2r (f:Kd):1≤bytesOf f:=by
  unfold bytesOf
  cases h:D9n.find? fun p=>decide (p.1=f)with
  |none=>exact Nat.le_refl _
  |some p=>
    have hp:∀q∈D9n,1≤q.2:=by decide
    exact hp p (List.mem_of_find?_eq_some h)
noncomputable def env:Env:=⟨[(3,⟨1,0,false,[],(.int .i64)⟩),
  (4,⟨1,0,false,[],.bool⟩),
  (5,⟨1,0,false,[],(.int .u8)⟩),
  (9,⟨1,0,false,[],.str⟩),
  (22,⟨1,1,false,[],(.sl (.int .u8))⟩),
  (23,⟨1,64,false,[],J16⟩),
  (25,⟨1,0,true,[(0,1)],J16⟩),
  (26,⟨1,24,false,[],J9⟩),
  (28,⟨2,0,true,[(0,1),(1,1)],J20⟩),
  (29,⟨1,32,false,[],J5⟩),
  (31,⟨1,0,true,[(0,1)],J5⟩),
  (32,⟨1,64,false,[],J13⟩),
  (33,⟨1,16,false,[],(.sl .str)⟩),
  (35,⟨6,0,true,[(0,1),(1,1),(2,1),(3,1),(4,1),(5,1)],J19⟩),
  (37,⟨10,0,true,[(0,1),(1,1),(2,1),(3,1),(4,6)],J24⟩),
  (59,⟨1,24,false,[],J6⟩),
  (63,⟨3,0,true,[(0,1),(1,1),(2,1)],J15⟩),
  (65,⟨1,0,true,[(0,1)],J6⟩),
  (84,⟨3,0,true,[(0,1),(1,1),(2,1)],J7⟩),
  (88,⟨3,0,true,[(0,1),(1,1),(2,1)],J4⟩),
  (118,⟨7,0,true,[(0,1),(1,1),(2,1),(3,1),(4,3)],J12⟩)],
  [(3,Tryz.f3),(6,Tryz.f6),(7,Tryz.f7),(8,Tryz.f8),(9,Tryz.f9),(10,Tryz.f10),(19,Tryz.f19),(22,Tryz.f22),(23,Tryz.f23),(24,Tryz.f24),(25,Tryz.f25),(26,Tryz.f26),(27,Tryz.f27),(28,Tryz.f28),(29,Tryz.f29),(30,Tryz.f30),(31,Tryz.f31),(32,Tryz.f32),(33,Tryz.f33),(49,Tryz.f49),(50,Tryz.f50),(51,Tryz.f51),(55,Tryz.f55),(56,Tryz.f56),(57,Tryz.f57),(58,Tryz.f58),(59,Tryz.f59),(60,Tryz.f60),(61,Tryz.f61),(62,Tryz.f62),(63,Tryz.f63),(64,Tryz.f64),(65,Tryz.f65),(66,Tryz.f66),(67,Tryz.f67),(68,Tryz.f68),(69,Tryz.f69),(70,Tryz.f70),(71,Tryz.f71),(72,Tryz.f72),(73,Tryz.f73),(74,Tryz.f74),(75,Tryz.f75),(76,Tryz.f76),(77,Tryz.f77),(78,Tryz.f78),(79,Tryz.f79),(80,Tryz.f80),(81,Tryz.f81),(82,Tryz.f82),(83,Tryz.f83),(84,Tryz.f84),(92,Tryz.f92),(101,Tryz.f101),(106,Tryz.f106),(107,Tryz.f107),(108,Tryz.f108),(109,Tryz.f109),(110,Tryz.f110),(111,Tryz.f111),(112,Tryz.f112),(113,Tryz.f113),(116,Tryz.f116),(119,Tryz.f119),(120,Tryz.f120),(121,Tryz.f121),(122,Tryz.f122),(123,Tryz.f123),(124,Tryz.f124),(125,Tryz.f125),(126,Tryz.f126),(127,Tryz.f127),(128,Tryz.f128),(129,Tryz.f129),(130,Tryz.f130),(131,Tryz.f131),(132,Tryz.f132),(133,Tryz.f133),(134,Tryz.f134),(135,Tryz.f135),(136,Tryz.f136),(139,Tryz.f139),(140,Tryz.f140),(141,Tryz.f141),(142,Tryz.f142),(144,Tryz.f144),(145,Tryz.f145),(146,Tryz.f146),(147,Tryz.f147),(148,Tryz.f148),(149,Tryz.f149),(150,Tryz.f150),(151,Tryz.f151),(152,Tryz.f152),(153,Tryz.f153),(154,Tryz.f154),(155,Tryz.f155),(156,Tryz.f156),(157,Tryz.f157),(158,Tryz.f158),(159,Tryz.f159),(160,Tryz.f160),(178,Tryz.f178),(181,Tryz.f181),(182,Tryz.f182),(194,Tryz.f194),(195,Tryz.f195),(196,Tryz.f196),(197,Tryz.f197),(198,Tryz.f198),(201,Tryz.f201),(202,Tryz.f202),(206,Tryz.f206),(207,Tryz.f207),(209,Tryz.f209),(210,Tryz.f210),(211,Tryz.f211),(212,Tryz.f212),(213,Tryz.f213),(214,Tryz.f214),(234,Tryz.f234),(235,Tryz.f235)],[(8,⟨[],false,none,[]⟩),(22,⟨[],true,some (J7),[]⟩),(23,⟨[.bx (J7)],true,none,[0,1]⟩),(24,⟨[.bx (J7)],true,none,[]⟩),(29,⟨[],false,none,[]⟩),(55,⟨[.bx (J7)],true,none,[]⟩),(56,⟨[.bx (J7)],true,none,[]⟩),(57,⟨[.bx (J7)],true,none,[]⟩),(58,⟨[.bx (J7)],true,none,[]⟩),(59,⟨[.bx (J7)],true,none,[]⟩),(60,⟨[.bx (J7)],true,none,[]⟩),(74,⟨[],false,none,[]⟩),(119,⟨[.bx (J7)],true,none,[]⟩),(120,⟨[.bx (J7)],true,none,[]⟩),(121,⟨[.bx (J7)],true,none,[]⟩),(122,⟨[.bx (J7)],true,none,[]⟩),(123,⟨[.bx (J7)],true,none,[]⟩),(124,⟨[.bx (J7)],true,none,[]⟩),(125,⟨[.bx (J7)],true,none,[]⟩),(126,⟨[.bx (J7)],true,none,[]⟩),(127,⟨[.bx (J7)],true,none,[]⟩),(128,⟨[.bx (J7)],true,none,[]⟩),(129,⟨[.bx (J7)],true,none,[]⟩),(137,⟨[.give,.ro,.give],true,none,[]⟩),(138,⟨[.give],true,none,[]⟩),(143,⟨[.give],true,none,[]⟩),(148,⟨[],false,none,[]⟩),(194,⟨[.bx (J7)],true,none,[]⟩),(195,⟨[.bx (J7)],true,none,[]⟩),(199,⟨[.give,.ro,.give],true,none,[]⟩),(200,⟨[.give],true,none,[]⟩),(201,⟨[.give],true,none,[]⟩),(205,⟨[.give],true,none,[]⟩),(208,⟨[.give,.ro,.give],true,none,[]⟩),(234,⟨[.bx (J7)],true,none,[]⟩)],[(9,[(5,⟨7176,[]⟩)]),(10,[(4,⟨14680066,[]⟩)]),(19,[(4,⟨14680066,[]⟩)]),(22,[(3,⟨25,[]⟩)]),(24,[(1000005,⟨113,[]⟩),(1000007,⟨113,[]⟩),(1000009,⟨113,[]⟩),(1000011,⟨113,[]⟩),(1000013,⟨48,[]⟩)]),(28,[(2,⟨1794,[]⟩)]),(29,[(6,⟨3758096668,[]⟩)]),(31,[(3,⟨14348,[]⟩)]),(32,[(2,⟨450,[]⟩)]),(33,[(4,⟨229382,[]⟩)]),(49,[(4,⟨7170,[]⟩)]),(50,[(4,⟨229382,[]⟩)]),(55,[(3,⟨14349,[11]⟩)]),(57,[(10,⟨3848290697229,[]⟩),(1000005,⟨29,[]⟩),(1000007,⟨29,[]⟩),(1000014,⟨12,[]⟩)]),(59,[(1000005,⟨121,[]⟩),(1000012,⟨433,[7,8]⟩),(1000014,⟨433,[]⟩),(1000016,⟨49,[]⟩),(1000018,⟨49,[]⟩),(1000023,⟨48,[]⟩)]),(60,[(1000005,⟨29,[]⟩),(1000007,⟨29,[]⟩),(1000009,⟨29,[]⟩),(1000011,⟨29,[]⟩),(1000013,⟨28,[]⟩),(1000015,⟨12,[]⟩)]),(62,[(2,⟨9,[]⟩)]),(69,[(3,⟨14348,[]⟩)]),(70,[(2,⟨9,[]⟩)]),(71,[(2,⟨225,[]⟩)]),(75,[(3,⟨904,[]⟩)]),(79,[(9,⟨126100789566376992,[]⟩),(13,⟨32407902918558108704,[]⟩)]),(80,[(3,⟨1804,[]⟩)]),(81,[(2,⟨7170,[]⟩),(9,⟨7516192802,[]⟩)]),(82,[(4,⟨229380,[]⟩)]),(83,[(2,⟨35,[]⟩)]),(84,[(3,⟨7212,[]⟩)]),(92,[(2,⟨387,[]⟩)]),(106,[(4,⟨30064771074,[]⟩),(11,⟨31525197391593506,[]⟩)]),(107,[(4,⟨7340040,[]⟩)]),(108,[(2,⟨35,[]⟩)]),(109,[(3,⟨7212,[]⟩)]),(110,[(2,⟨387,[]⟩)]),(112,[(4,⟨12291,[]⟩)]),(113,[(4,⟨12291,[]⟩)]),(116,[(4,⟨12291,[]⟩)]),(119,[(3,⟨909,[]⟩)]),(120,[(3,⟨105,[]⟩)]),(122,[(1000006,⟨61,[]⟩),(1000008,⟨61,[]⟩),(1000010,⟨61,[]⟩),(1000012,⟨60,[]⟩),(1000014,⟨28,[]⟩),(1000016,⟨28,[]⟩),(1000018,⟨12,[]⟩)]),(123,[(3,⟨113,[]⟩)]),(126,[(3,⟨28721,[]⟩),(7,⟨29617,[]⟩)]),(127,[(7,⟨25769804033,[]⟩)]),(136,[(11,⟨664,[]⟩)]),(139,[(12,⟨6755399441056288,[]⟩),(19,⟨1813388729421943762061824,[]⟩)]),(141,[(2,⟨170,[]⟩)]),(142,[(4,⟨3670022,[]⟩)]),(144,[(3,⟨456,[]⟩)]),(145,[(3,⟨1804,[]⟩)]),(148,[(4,⟨14456,[]⟩)]),(151,[(3,⟨917560,[]⟩),(11,⟨108086391056891960,[]⟩)]),(153,[(4,⟨57356,[]⟩)]),(154,[(4,⟨29096,[]⟩)]),(155,[(4,⟨3670022,[]⟩)]),(156,[(3,⟨3618,[]⟩)]),(157,[(2,⟨1794,[]⟩)]),(197,[(2,⟨387,[]⟩)]),(201,[(5,⟨99,[]⟩)]),(206,[(2,⟨387,[]⟩)]),(211,[(2,⟨898,[]⟩)]),(212,[(4,⟨12291,[]⟩)]),(213,[(2,⟨387,[]⟩)]),(234,[(9,⟨113,[]⟩)])],[88,118]⟩
set_option maxRecDepth 1000000 in
theorem E2x:B4 Tryz.prog env:=B1h (by kernel_rfl) (by
  simp only[env,List.forall_mem_cons,List.not_mem_nil,false_implies,implies_true,and_true]
  refine⟨⟨Tryz.func3,?_⟩,⟨Tryz.func6,?_⟩,⟨Tryz.func7,?_⟩,⟨Tryz.func8,?_⟩,⟨Tryz.func9,?_⟩,⟨Tryz.func10,?_⟩,⟨Tryz.func19,?_⟩,⟨Tryz.func22,?_⟩,⟨Tryz.func23,?_⟩,⟨Tryz.func24,?_⟩,⟨Tryz.func25,?_⟩,⟨Tryz.func26,?_⟩,⟨Tryz.func27,?_⟩,⟨Tryz.func28,?_⟩,⟨Tryz.func29,?_⟩,⟨Tryz.func30,?_⟩,⟨Tryz.func31,?_⟩,⟨Tryz.func32,?_⟩,⟨Tryz.func33,?_⟩,⟨Tryz.func49,?_⟩,⟨Tryz.func50,?_⟩,⟨Tryz.func51,?_⟩,⟨Tryz.func55,?_⟩,⟨Tryz.func56,?_⟩,⟨Tryz.func57,?_⟩,⟨Tryz.func58,?_⟩,⟨Tryz.func59,?_⟩,⟨Tryz.func60,?_⟩,⟨Tryz.func61,?_⟩,⟨Tryz.func62,?_⟩,⟨Tryz.func63,?_⟩,⟨Tryz.func64,?_⟩,⟨Tryz.func65,?_⟩,⟨Tryz.func66,?_⟩,⟨Tryz.func67,?_⟩,⟨Tryz.func68,?_⟩,⟨Tryz.func69,?_⟩,⟨Tryz.func70,?_⟩,⟨Tryz.func71,?_⟩,⟨Tryz.func72,?_⟩,⟨Tryz.func73,?_⟩,⟨Tryz.func74,?_⟩,⟨Tryz.func75,?_⟩,⟨Tryz.func76,?_⟩,⟨Tryz.func77,?_⟩,⟨Tryz.func78,?_⟩,⟨Tryz.func79,?_⟩,⟨Tryz.func80,?_⟩,⟨Tryz.func81,?_⟩,⟨Tryz.func82,?_⟩,⟨Tryz.func83,?_⟩,⟨Tryz.func84,?_⟩,⟨Tryz.func92,?_⟩,⟨Tryz.func101,?_⟩,⟨Tryz.func106,?_⟩,⟨Tryz.func107,?_⟩,⟨Tryz.func108,?_⟩,⟨Tryz.func109,?_⟩,⟨Tryz.func110,?_⟩,⟨Tryz.func111,?_⟩,⟨Tryz.func112,?_⟩,⟨Tryz.func113,?_⟩,⟨Tryz.func116,?_⟩,⟨Tryz.func119,?_⟩,⟨Tryz.func120,?_⟩,⟨Tryz.func121,?_⟩,⟨Tryz.func122,?_⟩,⟨Tryz.func123,?_⟩,⟨Tryz.func124,?_⟩,⟨Tryz.func125,?_⟩,⟨Tryz.func126,?_⟩,⟨Tryz.func127,?_⟩,⟨Tryz.func128,?_⟩,⟨Tryz.func129,?_⟩,⟨Tryz.func130,?_⟩,⟨Tryz.func131,?_⟩,⟨Tryz.func132,?_⟩,⟨Tryz.func133,?_⟩,⟨Tryz.func134,?_⟩,⟨Tryz.func135,?_⟩,⟨Tryz.func136,?_⟩,⟨Tryz.func139,?_⟩,⟨Tryz.func140,?_⟩,⟨Tryz.func141,?_⟩,⟨Tryz.func142,?_⟩,⟨Tryz.func144,?_⟩,⟨Tryz.func145,?_⟩,⟨Tryz.func146,?_⟩,⟨Tryz.func147,?_⟩,⟨Tryz.func148,?_⟩,⟨Tryz.func149,?_⟩,⟨Tryz.func150,?_⟩,⟨Tryz.func151,?_⟩,⟨Tryz.func152,?_⟩,⟨Tryz.func153,?_⟩,⟨Tryz.func154,?_⟩,⟨Tryz.func155,?_⟩,⟨Tryz.func156,?_⟩,⟨Tryz.func157,?_⟩,⟨Tryz.func158,?_⟩,⟨Tryz.func159,?_⟩,⟨Tryz.func160,?_⟩,⟨Tryz.func178,?_⟩,⟨Tryz.func181,?_⟩,⟨Tryz.func182,?_⟩,⟨Tryz.func194,?_⟩,⟨Tryz.func195,?_⟩,⟨Tryz.func196,?_⟩,⟨Tryz.func197,?_⟩,⟨Tryz.func198,?_⟩,⟨Tryz.func201,?_⟩,⟨Tryz.func202,?_⟩,⟨Tryz.func206,?_⟩,⟨Tryz.func207,?_⟩,⟨Tryz.func209,?_⟩,⟨Tryz.func210,?_⟩,⟨Tryz.func211,?_⟩,⟨Tryz.func212,?_⟩,⟨Tryz.func213,?_⟩,⟨Tryz.func214,?_⟩,⟨Tryz.func234,?_⟩,⟨Tryz.func235,?_⟩⟩
  all_goals kernel_rfl) (by kernel_rfl)
theorem E2y:U2 Tryz.prog env:=B1i (by kernel_rfl)
def C87:Fn' ((List Int)×Unit) (Y2×Unit):=⟨22,Q7,(Rt.tup Q56),fun n a=>C3r n a.1⟩
def D12:=Sh.of (Sl.one (Lf.sh (.int .u8)) (Sl.gap 2 (Sl.one (Lf.int .i64) (Sl.one (Lf.int .i64) (Sl.gap 27 Sl.nil))))) Rw.nil Ls.nil
def D5m (n:Nat):Tab (Y2×Unit):=[([.b,.r,.l,.r,.r],A8c D12 fun j a=>B7x n j a.1.1 a.1.2.1 a.1.2.2.1)]
def C63:Fn' (Y2×Unit) Y8:=⟨121,Q56,Q74,fun n a=>B5t n a.1.1 a.1.2.1 a.1.2.2⟩
def C59:Fn' (Y2×(Int×Unit)) Y8:=⟨56,(Tvs.cons Q44 Q2),Q74,fun n a=>D0 n a.1.1 a.1.2.1 a.1.2.2 a.2.1⟩
def C66:Fn' (Y2×Unit) Y13:=⟨194,Q56,(Rt.tup (Tvs.cons (Tv.one Lf.str) Q56)),fun n a=>B5u n a.1.1 a.1.2.1 a.1.2.2⟩
def C9j:Fn' (Y22×(ByteArray×Unit)) Int:=⟨157,(Tvs.cons Q28 (Tvs.cons (Tv.one Lf.str) Tvs.nil)),(Rt.v (Tv.one (Lf.int .i64))),fun n a=>B5b n a.1.1 a.1.2.1 a.1.2.2 a.2.1⟩
def D2k:=Sh.of (Sl.gap 1 (Sl.one Lf.str (Sl.gap 6 (Sl.one (Lf.sh J12) (Sl.one (Lf.int .i64) (Sl.one (Lf.int .i64) (Sl.gap 10 Sl.nil))))))) Rw.nil Ls.nil
def D7l (n:Nat):Tab Int:=[([.b,.r,.l,.r],A8c D2k fun j a=>B90 n j a.1.1 a.1.2.1 a.1.2.2.1 a.1.2.2.2.1)]
def C8a:Fn' (Y2×Unit) Y13:=⟨234,Q56,(Rt.tup (Tvs.cons (Tv.one Lf.str) Q56)),fun n a=>C3t n a.1.1 a.1.2.1 a.1.2.2⟩
def D13:=Sh.of (Sl.k (Kf.box 40 0) (Sl.gap 3 (Sl.one (Lf.int .i64) (Sl.k (Kf.ow 360) (Sl.one (Lf.int .i64) (Sl.gap 26 Sl.nil)))))) (Rw.box 40 J7 Q43 (Rw.data 360 (.int .u8) Rw.nil)) (Ls.k (Kf.box 40 0) Ls.nil)
def D5n (n:Nat):Tab Y13:=[([.b,.r,.l,.r,.r,.r,.r,.r,.r],A8c D13 fun j a=>B7y n j a.1.1 a.1.2.1 a.2.1.1 a.2.1.2.1 a.2.1.2.2.1 a.2.2.1)]
def C9r:Fn' (Y2×(Int×Unit)) Y17:=⟨195,(Tvs.cons Q44 Q2),Q87,fun n a=>C0k n a.1.1 a.1.2.1 a.1.2.2 a.2.1⟩
def C8e:Fn' (Y2×(ByteArray×Unit)) (Y16×(Y2×Unit)):=⟨129,(Tvs.cons Q44 (Tvs.cons (Tv.one Lf.str) Tvs.nil)),(Rt.tup (Tvs.cons Q76 Q56)),fun n a=>C0t n a.1.1 a.1.2.1 a.1.2.2 a.2.1⟩
def C65:Fn' (Y2×(ByteArray×Unit)) Y29:=⟨123,(Tvs.cons Q44 (Tvs.cons (Tv.one Lf.str) Tvs.nil)),(Rt.tup (Tvs.cons Q29 Q56)),fun n a=>B7g n a.1.1 a.1.2.1 a.1.2.2 a.2.1⟩
def D05:=Sh.of (Sl.k (Kf.box 40 0) (Sl.gap 3 (Sl.k (Kf.box 296 0) (Sl.k (Kf.box 360 0) (Sl.one (Lf.int .i64) (Sl.gap 56 Sl.nil)))))) (Rw.box 40 J7 Q43 (Rw.box 296 J15 Q20 (Rw.data 304 J12 (Rw.data 305 .str (Rw.box 360 J15 Q21 (Rw.data 368 J12 (Rw.data 369 .str Rw.nil))))))) (Ls.k (Kf.box 40 0) Ls.nil)
def D3q (n:Nat):Tab Y29:=[([.b,.r,.l,.r,.r],A8c D05 fun j a=>B5e n j a.1.1 a.2.1.1 a.2.1.2.1 a.2.1.2.2.1 a.2.2.1.1 a.2.2.2.1 a.2.2.2.2.1 a.2.2.2.2.2.1.1 a.2.2.2.2.2.2.1 a.2.2.2.2.2.2.2.1)]
def C8d:Fn' (Y2×Unit) Y30:=⟨119,Q56,(Rt.tup (Tvs.cons (Tv.agg (Ls.one (Lf.od J15))) Q56)),fun n a=>C2b n a.1.1 a.1.2.1 a.1.2.2⟩
def D1b:=Sh.of (Sl.k (Kf.box 40 0) (Sl.gap 1 (Sl.k (Kf.box 168 0) (Sl.k (Kf.box 232 0) (Sl.gap 3 (Sl.k (Kf.ow 488) (Sl.one (Lf.int .i64) (Sl.one (Lf.int .i64) (Sl.gap 16 Sl.nil))))))))) (Rw.box 40 J7 Q43 (Rw.box 168 J16 (Ls.k (Kf.ow 176) Ls.nil) (Rw.data 176 J15 (Rw.box 232 J16 (Ls.k (Kf.ow 240) Ls.nil) (Rw.data 240 J15 (Rw.data 488 .str Rw.nil)))))) (Ls.k (Kf.box 40 0) Ls.nil)
def D5p (n:Nat):Tab Y30:=[([.b,.r,.l,.r,.r],A8c D1b fun j a=>B6c n j a.1.1 a.1.2.1 a.2.1.1 a.2.1.2.1 a.2.1.2.2.1 a.2.2.2.1 a.2.2.2.2.2.1 a.2.2.2.2.2.2.1)]
def C68:Fn' (Y2×(Y22×Unit)) Y20:=⟨126,(Tvs.cons Q44 Q46),(Rt.tup (Tvs.cons (Tv.agg (Ls.one (Lf.od J4))) Q56)),fun n a=>B8f n a.1.1 a.1.2.1 a.1.2.2 a.2.1.1 a.2.1.2.1 a.2.1.2.2⟩
def D08:=Sh.of (Sl.k (Kf.box 40 0) (Sl.gap 3 (Sl.k (Kf.box 296 0) (Sl.k (Kf.box 360 0) (Sl.gap 1 (Sl.k (Kf.box 488 0) (Sl.k (Kf.box 552 0) (Sl.one (Lf.int .i64) (Sl.gap 2 (Sl.one (Lf.sh J12) (Sl.one (Lf.int .i64) (Sl.one (Lf.int .i64) (Sl.gap 32 Sl.nil))))))))))))) (Rw.box 40 J7 Q43 (Rw.box 296 J5 (Ls.k (Kf.ow 304) Ls.nil) (Rw.data 304 J4 (Rw.box 360 J5 (Ls.k (Kf.ow 368) Ls.nil) (Rw.data 368 J4 (Rw.box 488 J12 (Ls.cons Lf.str (Ls.cons (Lf.int .i64) (Ls.cons Lf.bool (Ls.cons Lf.bool (Ls.cons (Lf.int .i64) (Ls.cons (Lf.int .i64) (Ls.cons Lf.str Ls.nil))))))) (Rw.box 552 J4 (Ls.cons (Lf.int .i64) (Ls.cons (Lf.int .i64) (Ls.cons Lf.str Ls.nil))) Rw.nil))))))) (Ls.k (Kf.box 40 0) Ls.nil)
def D07:=Sh.of (Sl.k (Kf.box 40 0) (Sl.gap 3 (Sl.k (Kf.box 296 0) (Sl.k (Kf.box 360 0) (Sl.gap 6 (Sl.one (Lf.sh J12) (Sl.one (Lf.int .i64) (Sl.one (Lf.int .i64) (Sl.gap 32 Sl.nil))))))))) (Rw.box 40 J7 Q43 (Rw.box 296 J5 (Ls.k (Kf.ow 304) Ls.nil) (Rw.data 304 J4 (Rw.box 360 J5 (Ls.k (Kf.ow 368) Ls.nil) (Rw.data 368 J4 Rw.nil))))) (Ls.k (Kf.box 40 0) Ls.nil)
def D3s (n:Nat):Tab Y20:=[([.b,.r,.l,.r,.r,.b,.l,.r,.r,.p,.b,.r,.l,.r,.r],A2r D08 fun i j a=>B6x n (fun y0 y1 y2 y3 y4 y5 y6 y7=>B40 n i y0 y1 y2 y3 y4 y5 y6 y7) j a.1.1 a.1.2.1 a.1.2.2.1 a.1.2.2.2.1 a.2.1.1 a.2.1.2.1 a.2.1.2.2.1 a.2.2.2.1 a.2.2.2.2.2.1 a.2.2.2.2.2.2.1.1 a.2.2.2.2.2.2.1.2.1 a.2.2.2.2.2.2.1.2.2.1 a.2.2.2.2.2.2.1.2.2.2.1 a.2.2.2.2.2.2.1.2.2.2.2.1 a.2.2.2.2.2.2.1.2.2.2.2.2.1 a.2.2.2.2.2.2.1.2.2.2.2.2.2.1 a.2.2.2.2.2.2.2.1.1 a.2.2.2.2.2.2.2.1.2.1 a.2.2.2.2.2.2.2.1.2.2.1),
  ([.b,.r,.l,.r,.r],A8c D07 fun j a=>B40 n j a.1.1 a.1.2.1 a.1.2.2.1 a.2.1.1 a.2.1.2.1 a.2.1.2.2.1 a.2.2.2.1 a.2.2.2.2.2.1)]
def C85:Fn' (ByteArray×Unit) Bool:=⟨70,(Tvs.cons (Tv.one Lf.str) Tvs.nil),(Rt.v (Tv.one Lf.bool)),fun n a=>B61 n a.1⟩
def D11:=Sh.of (Sl.one Lf.str (Sl.gap 2 (Sl.one (Lf.int .i64) (Sl.gap 24 Sl.nil)))) Rw.nil Ls.nil
def D5l (n:Nat):Tab Bool:=[([.b,.r,.l,.r],A8c D11 fun j a=>B7w n j a.1.1 a.1.2.1)]
def C88:Fn' (Int×Unit) Bool:=⟨210,Q2,(Rt.v (Tv.one Lf.bool)),fun n a=>C3s n a.1⟩
def C9q:Fn' (Y1×Unit) Bool:=⟨146,Q47,(Rt.v (Tv.one Lf.bool)),fun n a=>B8e n a.1.1 a.1.2.1 a.1.2.2⟩
def C9k:Fn' (Y16×Unit) Bool:=⟨147,(Tvs.cons Q76 Tvs.nil),(Rt.v (Tv.one Lf.bool)),fun n a=>C1s n a.1.1 a.1.2.1 a.1.2.2.1 a.1.2.2.2.1 a.1.2.2.2.2.1 a.1.2.2.2.2.2.1 a.1.2.2.2.2.2.2⟩
def C61:Fn' (Y22×Unit) Bool:=⟨106,Q46,(Rt.v (Tv.one Lf.bool)),fun n a=>B5s n a.1.1 a.1.2.1 a.1.2.2⟩
def D03:=Sh.of (Sl.gap 1 (Sl.k (Kf.box 104 0) (Sl.gap 3 (Sl.one (Lf.int .i64) (Sl.gap 46 (Sl.one (Lf.sh .str) (Sl.one (Lf.int .i64) (Sl.one (Lf.int .i64) (Sl.gap 20 Sl.nil))))))))) (Rw.box 104 J15 Q27 Rw.nil) Ls.nil
def D02:=Sh.of (Sl.gap 1 (Sl.k (Kf.box 104 0) (Sl.gap 30 (Sl.one (Lf.sh J12) (Sl.one (Lf.int .i64) (Sl.one (Lf.int .i64) (Sl.gap 40 Sl.nil))))))) (Rw.box 104 J15 Q27 Rw.nil) Ls.nil
def D3o (n:Nat):Tab Bool:=[([.b,.r,.l,.r,.r,.r,.r],A8c D03 fun j a=>B5d n j a.1.1 a.1.2.1 a.1.2.2.1 a.1.2.2.2.1 a.2.1.1 a.2.1.2.1 a.2.1.2.2.1),
  ([.b,.r,.l,.r,.r],A8c D02 fun j a=>B5c n j a.1.1 a.1.2.1 a.1.2.2.1 a.2.1.1 a.2.1.2.1 a.2.1.2.2.1)]
def C69:Fn' (Y16×(Y1×Unit)) Bool:=⟨181,(Tvs.cons Q76 Q47),(Rt.v (Tv.one Lf.bool)),fun n a=>C1h n a.1.1 a.1.2.1 a.1.2.2.1 a.1.2.2.2.1 a.1.2.2.2.2.1 a.1.2.2.2.2.2.1 a.1.2.2.2.2.2.2 a.2.1.1 a.2.1.2.1 a.2.1.2.2⟩
def C9p:Fn' (Y22×(Y4×Unit)) Bool:=⟨107,Q69,(Rt.v (Tv.one Lf.bool)),fun n a=>C0j n a.1.1 a.1.2.1 a.1.2.2 a.2.1⟩
def D2n:=Sh.of (Sl.gap 3 (Sl.k (Kf.box 232 0) (Sl.gap 16 (Sl.one (Lf.sh J12) (Sl.one (Lf.int .i64) (Sl.one (Lf.int .i64) (Sl.gap 13 Sl.nil))))))) (Rw.box 232 J5 (Ls.cons (Lf.sh J4) Ls.nil) Rw.nil) Ls.nil
def D7o (n:Nat):Tab Bool:=[([.b,.r,.l,.r,.r],A8c D2n fun j a=>B94 n j a.1.1 a.1.2.1 a.1.2.2.1 a.2.1.1)]
def C8i:Fn' (Y22×(Y4×Unit)) Y4:=⟨109,Q69,(Rt.v (Tv.one (Lf.od J4))),fun n a=>B4w n a.1.1 a.1.2.1 a.1.2.2 a.2.1⟩
def D1e:=Sh.of (Sl.gap 2 (Sl.k (Kf.box 168 0) (Sl.k (Kf.box 232 0) (Sl.gap 1 (Sl.k (Kf.ow 360) (Sl.gap 4 (Sl.one (Lf.sh .str) (Sl.one (Lf.int .i64) (Sl.one (Lf.int .i64) (Sl.gap 15 Sl.nil)))))))))) (Rw.box 168 J15 Q27 (Rw.box 232 J5 (Ls.cons (Lf.sh J4) Ls.nil) (Rw.data 360 J4 Rw.nil))) Ls.nil
def D5s (n:Nat):Tab Y4:=[([.b,.r,.l,.r,.r],A8c D1e fun j a=>B81 n j a.1.1 a.1.2.1 a.1.2.2.1 a.2.1.1 a.2.1.2.1 a.2.1.2.2.1 a.2.2.1.1 a.2.2.2.1)]
def C62:Fn' (Y1×(Y1×Unit)) Bool:=⟨182,(Tvs.cons Q33 Q47),(Rt.v (Tv.one Lf.bool)),fun n a=>C1b n a.1.1 a.1.2.1 a.1.2.2 a.2.1.1 a.2.1.2.1 a.2.1.2.2⟩
def C5z:Fn' (Y4×(Y4×Unit)) Bool:=⟨108,Q30,(Rt.v (Tv.one Lf.bool)),fun n a=>B9u n a.1 a.2.1⟩
def C9z:=Sh.of (Sl.one (Lf.sh J4) (Sl.one (Lf.sh J4) (Sl.gap 3 (Sl.one (Lf.int .i64) (Sl.gap 35 Sl.nil))))) Rw.nil Ls.nil
def D3m (n:Nat):Tab Bool:=[([.b,.r,.l,.r],A8c C9z fun j a=>B4f n j a.1.1 a.1.2.1 a.1.2.2.1)]
def C83:Fn' (Y22×(Y7×Unit)) Bool:=⟨50,Q61,(Rt.v (Tv.one Lf.bool)),fun n a=>B77 n a.1.1 a.1.2.1 a.1.2.2 a.2.1⟩
def D10:=Sh.of (Sl.gap 1 (Sl.one (Lf.sh J5) (Sl.k (Kf.box 168 0) (Sl.gap 12 (Sl.one (Lf.sh J5) (Sl.one (Lf.int .i64) (Sl.one (Lf.int .i64) (Sl.gap 27 Sl.nil)))))))) (Rw.box 168 J15 Q27 Rw.nil) Ls.nil
def D5k (n:Nat):Tab Bool:=[([.b,.r,.l,.r,.r],A8c D10 fun j a=>B6b n j a.1.1 a.1.2.1 a.1.2.2.1 a.1.2.2.2.1 a.2.1.1 a.2.1.2.1 a.2.1.2.2.1)]
def C2u:Fn' (Y4×(Y4×Unit)) Bool:=⟨212,Q30,(Rt.v (Tv.one Lf.bool)),fun n a=>B9x n a.1 a.2.1⟩
def C5m:=Sh.of (Sl.one (Lf.sh J4) (Sl.one (Lf.sh J4) (Sl.gap 10 (Sl.one (Lf.int .i64) (Sl.one (Lf.int .i64) (Sl.gap 12 Sl.nil)))))) Rw.nil Ls.nil
def C8v (n:Nat):Tab Bool:=[([.b,.r,.l,.r,.r],A8c C5m fun j a=>B4c n j a.1.1 a.1.2.1 a.1.2.2.1 a.1.2.2.2.1)]
def C9o:Fn' (Y22×(Y7×(Y4×Unit))) Int:=⟨153,Q77,(Rt.v (Tv.one (Lf.int .i64))),fun n a=>C0i n a.1.1 a.1.2.1 a.1.2.2 a.2.1 a.2.2.1⟩
def D2m:=Sh.of (Sl.gap 2 (Sl.one (Lf.sh J4) (Sl.k (Kf.box 232 0) (Sl.gap 9 (Sl.one (Lf.sh J5) (Sl.one (Lf.int .i64) (Sl.one (Lf.int .i64) (Sl.gap 11 Sl.nil)))))))) (Rw.box 232 J15 Q27 Rw.nil) Ls.nil
def D7n (n:Nat):Tab Int:=[([.b,.r,.l,.r,.r],A8c D2m fun j a=>B93 n j a.1.1 a.1.2.1 a.1.2.2.1 a.1.2.2.2.1 a.2.1.1 a.2.1.2.1 a.2.1.2.2.1)]
def C8k:Fn' (Y4×Unit) Y4:=⟨152,Q9,(Rt.v (Tv.agg (Ls.one (Lf.od J4)))),fun n a=>B62 n a.1⟩
def C8j:Fn' (Y22×(Y7×(Y4×Unit))) Y7:=⟨154,Q78,(Rt.v (Tv.one (Lf.od J5))),fun n a=>C2d n a.1.1 a.1.2.1 a.1.2.2 a.2.1 a.2.2.1⟩
def D1f:=Sh.of (Sl.gap 3 (Sl.k (Kf.box 232 0) (Sl.gap 1 (Sl.k (Kf.box 360 0) (Sl.gap 1 (Sl.k (Kf.ow 488) (Sl.one Lf.bool (Sl.gap 3 (Sl.one (Lf.sh J5) (Sl.one (Lf.int .i64) (Sl.one (Lf.int .i64) (Sl.gap 33 Sl.nil)))))))))))) (Rw.box 232 J15 Q27 (Rw.box 360 J5 (Ls.cons (Lf.sh J4) Ls.nil) (Rw.data 488 J5 Rw.nil))) Ls.nil
def D5t (n:Nat):Tab Y7:=[([.b,.r,.l,.r,.r,.r],A8c D1f fun j a=>B4x n j a.1.1 a.1.2.1 a.1.2.2.1 a.1.2.2.2.1 a.2.1.1 a.2.1.2.1 a.2.1.2.2.1 a.2.2.1.1 a.2.2.2.1)]
def C81:Fn' (Y22×(Y7×(Y4×Unit))) Y15:=⟨76,Q78,Q42,fun n a=>C0r n a.1.1 a.1.2.1 a.1.2.2 a.2.1 a.2.2.1⟩
def C6a:Fn' (Y2×(Y22×Unit)) (Y7×(Y2×Unit)):=⟨120,(Tvs.cons Q44 Q46),(Rt.tup (Tvs.cons (Tv.one (Lf.od J5)) Q56)),fun n a=>B9w n a.1.1 a.1.2.1 a.1.2.2 a.2.1.1 a.2.1.2.1 a.2.1.2.2⟩
def D09:=Sh.of (Sl.k (Kf.box 40 0) (Sl.gap 2 (Sl.k (Kf.box 232 0) (Sl.gap 1 (Sl.k (Kf.ow 360) (Sl.one (Lf.int .i64) (Sl.gap 22 Sl.nil))))))) (Rw.box 40 J7 Q43 (Rw.box 232 J15 Q27 (Rw.data 360 J5 Rw.nil))) (Ls.k (Kf.box 40 0) Ls.nil)
def D3t (n:Nat):Tab (Y7×(Y2×Unit)):=[([.b,.r,.l,.r,.r],A8c D09 fun j a=>B5f n j a.1.1 a.2.1.1 a.2.1.2.1 a.2.1.2.2.1 a.2.2.1.1 a.2.2.1.2.1 a.2.2.1.2.2.1 a.2.2.2.1)]
def C6c:Fn' (Y2×Unit) (Y31×(Y2×Unit)):=⟨55,Q56,(Rt.tup (Tvs.cons (Tv.agg (Ls.cons (Lf.sh J15) (Ls.one (Lf.od J6)))) Q56)),fun n a=>C2s n a.1.1 a.1.2.1 a.1.2.2⟩
def D0b:=Sh.of (Sl.k (Kf.box 40 0) (Sl.gap 1 (Sl.k (Kf.box 168 0) (Sl.k (Kf.box 232 0) (Sl.gap 7 (Sl.one (Lf.sh J15) (Sl.one (Lf.int .i64) (Sl.one (Lf.int .i64) (Sl.gap 14 Sl.nil))))))))) (Rw.box 40 J7 Q43 (Rw.box 168 J20 (Ls.k (Kf.ow 176) (Ls.k (Kf.ow 177) Ls.nil)) (Rw.data 176 J15 (Rw.data 177 J6 (Rw.box 232 J20 (Ls.cons (Lf.sh J15) (Ls.k (Kf.ow 240) Ls.nil)) (Rw.data 240 J6 Rw.nil)))))) (Ls.k (Kf.box 40 0) Ls.nil)
def D3v (n:Nat):Tab (Y31×(Y2×Unit)):=[([.b,.r,.l,.r,.r],A8c D0b fun j a=>B6z n j a.1.1 a.1.2.1 a.1.2.2.1 a.2.1.1 a.2.1.2.1 a.2.1.2.2.1 a.2.2.2.1 a.2.2.2.2.1 a.2.2.2.2.2.1.1 a.2.2.2.2.2.2.1)]
def C8b:Fn' (Y2×Unit) Y17:=⟨124,Q56,Q87,fun n a=>C2a n a.1.1 a.1.2.1 a.1.2.2⟩
def C89:Fn' (Y2×Unit) Y8:=⟨125,Q56,Q74,fun n a=>C0s n a.1.1 a.1.2.1 a.1.2.2⟩
def C86:Fn' (Y2×Unit) Y17:=⟨58,Q56,Q87,fun n a=>B4u n a.1.1 a.1.2.1 a.1.2.2⟩
def C8c:Fn' (Y2×Unit) Y29:=⟨122,Q56,(Rt.tup (Tvs.cons Q29 Q56)),fun n a=>C3u n a.1.1 a.1.2.1 a.1.2.2⟩
def D1a:=Sh.of (Sl.gap 2 (Sl.k (Kf.box 168 0) (Sl.k (Kf.box 232 0) (Sl.gap 69 Sl.nil)))) (Rw.box 1 J7 Q43 (Rw.box 168 J15 Q22 (Rw.data 176 J12 (Rw.data 177 .str (Rw.box 232 J15 Q23 (Rw.data 240 J12 (Rw.data 241 .str Rw.nil))))))) (Ls.k (Kf.box 1 0) Ls.nil)
def D19:=Sh.of (Sl.gap 2 (Sl.k (Kf.box 168 0) (Sl.k (Kf.box 232 0) (Sl.one (Lf.int .i64) (Sl.gap 68 Sl.nil))))) (Rw.box 1 J7 Q43 (Rw.box 168 J15 Q22 (Rw.data 176 J12 (Rw.data 177 .str (Rw.box 232 J15 Q23 (Rw.data 240 J12 (Rw.data 241 .str Rw.nil))))))) (Ls.k (Kf.box 1 0) Ls.nil)
def D18:=Sh.of (Sl.gap 2 (Sl.k (Kf.box 168 0) (Sl.k (Kf.box 232 0) (Sl.one (Lf.int .i64) (Sl.gap 68 Sl.nil))))) (Rw.box 1 J7 Q43 (Rw.box 168 J15 Q22 (Rw.data 176 J12 (Rw.data 177 .str (Rw.box 232 J15 Q23 (Rw.data 240 J12 (Rw.data 241 .str Rw.nil))))))) (Ls.k (Kf.box 1 0) Ls.nil)
def D17:=Sh.of (Sl.gap 2 (Sl.k (Kf.box 168 0) (Sl.k (Kf.box 232 0) (Sl.one (Lf.int .i64) (Sl.one (Lf.int .i64) (Sl.gap 67 Sl.nil)))))) (Rw.box 1 J7 Q43 (Rw.box 168 J15 Q22 (Rw.data 176 J12 (Rw.data 177 .str (Rw.box 232 J15 Q23 (Rw.data 240 J12 (Rw.data 241 .str Rw.nil))))))) (Ls.k (Kf.box 1 0) Ls.nil)
def D16:=Sh.of (Sl.k (Kf.box 40 0) (Sl.gap 1 (Sl.k (Kf.box 168 0) (Sl.k (Kf.box 232 0) (Sl.one (Lf.int .i64) (Sl.one (Lf.int .i64) (Sl.gap 67 Sl.nil))))))) (Rw.box 40 J7 Q43 (Rw.box 168 J15 Q22 (Rw.data 176 J12 (Rw.data 177 .str (Rw.box 232 J15 Q23 (Rw.data 240 J12 (Rw.data 241 .str Rw.nil))))))) (Ls.k (Kf.box 40 0) Ls.nil)
def D15:=Sh.of (Sl.k (Kf.box 40 0) (Sl.gap 1 (Sl.k (Kf.box 168 0) (Sl.k (Kf.box 232 0) (Sl.one (Lf.int .i64) (Sl.one (Lf.int .i64) (Sl.gap 67 Sl.nil))))))) (Rw.box 40 J7 Q43 (Rw.box 168 J15 Q22 (Rw.data 176 J12 (Rw.data 177 .str (Rw.box 232 J15 Q23 (Rw.data 240 J12 (Rw.data 241 .str Rw.nil))))))) (Ls.k (Kf.box 40 0) Ls.nil)
def D14:=Sh.of (Sl.k (Kf.box 40 0) (Sl.gap 1 (Sl.k (Kf.box 168 0) (Sl.k (Kf.box 232 0) (Sl.one (Lf.int .i64) (Sl.one (Lf.int .i64) (Sl.gap 67 Sl.nil))))))) (Rw.box 40 J7 Q43 (Rw.box 168 J15 Q22 (Rw.data 176 J12 (Rw.data 177 .str (Rw.box 232 J15 Q23 (Rw.data 240 J12 (Rw.data 241 .str Rw.nil))))))) (Ls.k (Kf.box 40 0) Ls.nil)
def D5o (n:Nat):Tab Y29:=[([.r,.r,.r,.r,.r,.r,.r,.r,.r,.r,.r],A8c D1a fun j a=>B9m n j a.2.1.1 a.2.1.2.1 a.2.1.2.2.1 a.2.2.1.1 a.2.2.2.1 a.2.2.2.2.1 a.2.2.2.2.2.1.1 a.2.2.2.2.2.2.1 a.2.2.2.2.2.2.2.1),
  ([.r,.r,.r,.r,.r,.r,.r,.r,.r,.r],A8c D19 fun j a=>B9l n j a.1.1 a.2.1.1 a.2.1.2.1 a.2.1.2.2.1 a.2.2.1.1 a.2.2.2.1 a.2.2.2.2.1 a.2.2.2.2.2.1.1 a.2.2.2.2.2.2.1 a.2.2.2.2.2.2.2.1),
  ([.r,.r,.r,.r,.r,.r,.r,.r,.r],A8c D18 fun j a=>B9k n j a.1.1 a.2.1.1 a.2.1.2.1 a.2.1.2.2.1 a.2.2.1.1 a.2.2.2.1 a.2.2.2.2.1 a.2.2.2.2.2.1.1 a.2.2.2.2.2.2.1 a.2.2.2.2.2.2.2.1),
  ([.r,.r,.r,.r,.r,.r,.r,.r],A8c D17 fun j a=>B9j n j a.1.1 a.1.2.1 a.2.1.1 a.2.1.2.1 a.2.1.2.2.1 a.2.2.1.1 a.2.2.2.1 a.2.2.2.2.1 a.2.2.2.2.2.1.1 a.2.2.2.2.2.2.1 a.2.2.2.2.2.2.2.1),
  ([.r,.r,.r,.r,.r,.r,.r],A8c D16 fun j a=>B9i n j a.1.1 a.1.2.1 a.2.1.1 a.2.1.2.1 a.2.1.2.2.1 a.2.2.1.1 a.2.2.2.1 a.2.2.2.2.1 a.2.2.2.2.2.1.1 a.2.2.2.2.2.2.1 a.2.2.2.2.2.2.2.1),
  ([.r,.r,.r,.r,.r,.r],A8c D15 fun j a=>B9h n j a.1.1 a.1.2.1 a.2.1.1 a.2.1.2.1 a.2.1.2.2.1 a.2.2.1.1 a.2.2.2.1 a.2.2.2.2.1 a.2.2.2.2.2.1.1 a.2.2.2.2.2.2.1 a.2.2.2.2.2.2.2.1),
  ([.r,.r,.r,.r,.r],A8c D14 fun j a=>B9g n j a.1.1 a.1.2.1 a.2.1.1 a.2.1.2.1 a.2.1.2.2.1 a.2.2.1.1 a.2.2.2.1 a.2.2.2.2.1 a.2.2.2.2.2.1.1 a.2.2.2.2.2.2.1 a.2.2.2.2.2.2.2.1)]
def C4a:Fn' (Y2×Unit) Y30:=⟨57,Q56,(Rt.tup (Tvs.cons (Tv.agg (Ls.one (Lf.od J15))) Q56)),fun n a=>C1d n a.1.1 a.1.2.1 a.1.2.2⟩
def C7c:=Sh.of (Sl.gap 2 (Sl.k (Kf.box 168 0) (Sl.k (Kf.box 232 0) (Sl.gap 51 Sl.nil)))) (Rw.box 1 J7 Q43 (Rw.box 168 J16 (Ls.k (Kf.ow 176) Ls.nil) (Rw.data 176 J15 (Rw.box 232 J16 (Ls.k (Kf.ow 240) Ls.nil) (Rw.data 240 J15 Rw.nil))))) (Ls.k (Kf.box 1 0) Ls.nil)
def C7d:=Sh.of (Sl.k (Kf.box 40 0) (Sl.gap 1 (Sl.k (Kf.box 168 0) (Sl.k (Kf.box 232 0) (Sl.gap 35 (Sl.one (Lf.sub 2536) (Sl.one (Lf.int .i64) (Sl.one (Lf.int .i64) (Sl.gap 13 Sl.nil))))))))) (Rw.box 40 J7 Q43 (Rw.box 168 J16 (Ls.k (Kf.ow 176) Ls.nil) (Rw.data 176 J15 (Rw.box 232 J16 (Ls.k (Kf.ow 240) Ls.nil) (Rw.data 240 J15 (Rw.data 2536 .str Rw.nil)))))) (Ls.k (Kf.box 40 0) Ls.nil)
def C7b:=Sh.of (Sl.k (Kf.box 40 0) (Sl.gap 1 (Sl.k (Kf.box 168 0) (Sl.k (Kf.box 232 0) (Sl.one (Lf.int .i64) (Sl.gap 50 Sl.nil)))))) (Rw.box 40 J7 Q43 (Rw.box 168 J16 (Ls.k (Kf.ow 176) Ls.nil) (Rw.data 176 J15 (Rw.box 232 J16 (Ls.k (Kf.ow 240) Ls.nil) (Rw.data 240 J15 Rw.nil))))) (Ls.k (Kf.box 40 0) Ls.nil)
def C7a:=Sh.of (Sl.k (Kf.box 40 0) (Sl.gap 1 (Sl.k (Kf.box 168 0) (Sl.k (Kf.box 232 0) (Sl.one (Lf.int .i64) (Sl.gap 50 Sl.nil)))))) (Rw.box 40 J7 Q43 (Rw.box 168 J16 (Ls.k (Kf.ow 176) Ls.nil) (Rw.data 176 J15 (Rw.box 232 J16 (Ls.k (Kf.ow 240) Ls.nil) (Rw.data 240 J15 Rw.nil))))) (Ls.k (Kf.box 40 0) Ls.nil)
def D1h (n:Nat):Tab Y30:=[([.r,.r,.r,.r,.r,.r],A8c C7c fun j a=>B79 n j a.2.1.1 a.2.1.2.1 a.2.1.2.2.1 a.2.2.2.1 a.2.2.2.2.2.1),
  ([.b,.r,.r,.t,.r,.l,.r,.r,.r,.r,.r],A8c C7d fun j a=>B58 n j a.1.1.1 a.1.1.2 a.1.2.1 a.1.2.2.1 a.2.1.1 a.2.1.2.1 a.2.1.2.2.1 a.2.2.2.1 a.2.2.2.2.2.1 a.2.2.2.2.2.2.1),
  ([.r,.r,.r,.r,.r],A8c C7b fun j a=>B57 n j a.1.1 a.2.1.1 a.2.1.2.1 a.2.1.2.2.1 a.2.2.2.1 a.2.2.2.2.2.1),
  ([.r,.r,.r,.r],A8c C7a fun j a=>B78 n j a.1.1 a.2.1.1 a.2.1.2.1 a.2.1.2.2.1 a.2.2.2.1 a.2.2.2.2.2.1)]
def C8l:Fn' (Y2×Unit) (Y31×(Y2×Unit)):=⟨23,Q56,(Rt.tup (Tvs.cons Q12 Q56)),fun n a=>C3x n a.1.1 a.1.2.1 a.1.2.2⟩
def C9m:Fn' (Y22×(Y4×Unit)) Y4:=⟨196,Q69,(Rt.v (Tv.one (Lf.od J4))),fun n a=>C4z n a.1.1 a.1.2.1 a.1.2.2 a.2.1⟩
def C4d:Fn' (Y2×(Y22×(Y7×Unit))) Y20:=⟨127,(Tvs.cons Q44 Q61),(Rt.tup (Tvs.cons (Tv.one (Lf.od J4)) Q56)),fun n a=>B80 n a.1.1 a.1.2.1 a.1.2.2 a.2.1.1 a.2.1.2.1 a.2.1.2.2 a.2.2.1⟩
def C7m:=Sh.of (Sl.k (Kf.box 40 0) (Sl.gap 7 (Sl.k (Kf.ow 552) (Sl.gap 24 (Sl.one (Lf.int .i64) (Sl.one (Lf.int .i64) (Sl.gap 8 Sl.nil))))))) (Rw.box 40 J7 Q43 (Rw.data 552 J4 Rw.nil)) (Ls.k (Kf.box 40 0) Ls.nil)
def D1k (n:Nat):Tab Y20:=[([.b,.r,.l,.r,.r,.r],A8c C7m fun j a=>B3l n j a.1.1 a.1.2.1 a.2.1.1 a.2.1.2.1 a.2.1.2.2.1 a.2.2.1)]
def C8f:Fn' (Y2×Unit) Y33:=⟨128,Q56,(Rt.tup (Tvs.cons (Tv.agg Q59) Q56)),fun n a=>C2c n a.1.1 a.1.2.1 a.1.2.2⟩
def C6e:Fn' (Y2×(Y31×Unit)) Y36:=⟨59,(Tvs.cons Q44 Q32),(Rt.tup (Tvs.cons Q92 Q56)),fun n a=>C2t n a.1.1 a.1.2.1 a.1.2.2 a.2.1.1 a.2.1.2⟩
def D0h:=Sh.of (Sl.gap 4 (Sl.k (Kf.box 296 0) (Sl.k (Kf.box 360 0) (Sl.gap 127 Sl.nil)))) (Rw.box 1 J7 Q43 (Rw.box 296 J24 Q88 (Rw.data 304 J4 (Rw.data 305 J4 (Rw.data 306 J12 (Rw.data 307 .str (Rw.box 360 J24 Q89 (Rw.data 368 J4 (Rw.data 369 J4 (Rw.data 370 J12 (Rw.data 371 .str Rw.nil))))))))))) (Ls.k (Kf.box 1 0) Ls.nil)
def D0g:=Sh.of (Sl.k (Kf.box 40 0) (Sl.gap 3 (Sl.k (Kf.box 296 0) (Sl.k (Kf.box 360 0) (Sl.gap 127 Sl.nil))))) (Rw.box 40 J7 Q43 (Rw.box 296 J24 Q88 (Rw.data 304 J4 (Rw.data 305 J4 (Rw.data 306 J12 (Rw.data 307 .str (Rw.box 360 J24 Q89 (Rw.data 368 J4 (Rw.data 369 J4 (Rw.data 370 J12 (Rw.data 371 .str Rw.nil))))))))))) (Ls.k (Kf.box 40 0) Ls.nil)
def D0f:=Sh.of (Sl.k (Kf.box 40 0) (Sl.gap 3 (Sl.k (Kf.box 296 0) (Sl.k (Kf.box 360 0) (Sl.gap 127 Sl.nil))))) (Rw.box 40 J7 Q43 (Rw.box 296 J24 Q88 (Rw.data 304 J4 (Rw.data 305 J4 (Rw.data 306 J12 (Rw.data 307 .str (Rw.box 360 J24 Q89 (Rw.data 368 J4 (Rw.data 369 J4 (Rw.data 370 J12 (Rw.data 371 .str Rw.nil))))))))))) (Ls.k (Kf.box 40 0) Ls.nil)
def D0e:=Sh.of (Sl.k (Kf.box 40 0) (Sl.gap 3 (Sl.k (Kf.box 296 0) (Sl.k (Kf.box 360 0) (Sl.gap 1 (Sl.k (Kf.box 488 0) (Sl.one (Lf.sh J5) (Sl.gap 124 Sl.nil)))))))) (Rw.box 40 J7 Q43 (Rw.box 296 J24 Q88 (Rw.data 304 J4 (Rw.data 305 J4 (Rw.data 306 J12 (Rw.data 307 .str (Rw.box 360 J24 Q89 (Rw.data 368 J4 (Rw.data 369 J4 (Rw.data 370 J12 (Rw.data 371 .str (Rw.box 488 J15 Q27 Rw.nil)))))))))))) (Ls.k (Kf.box 40 0) Ls.nil)
def D0d:=Sh.of (Sl.k (Kf.box 40 0) (Sl.gap 3 (Sl.k (Kf.box 296 0) (Sl.k (Kf.box 360 0) (Sl.gap 1 (Sl.k (Kf.box 488 0) (Sl.one (Lf.sh J5) (Sl.gap 124 Sl.nil)))))))) (Rw.box 40 J7 Q43 (Rw.box 296 J24 Q88 (Rw.data 304 J4 (Rw.data 305 J4 (Rw.data 306 J12 (Rw.data 307 .str (Rw.box 360 J24 Q89 (Rw.data 368 J4 (Rw.data 369 J4 (Rw.data 370 J12 (Rw.data 371 .str (Rw.box 488 J15 Q27 Rw.nil)))))))))))) (Ls.k (Kf.box 40 0) Ls.nil)
def D0c:=Sh.of (Sl.k (Kf.box 40 0) (Sl.gap 2 (Sl.k (Kf.box 232 0) (Sl.k (Kf.box 296 0) (Sl.k (Kf.box 360 0) (Sl.one (Lf.int .i64) (Sl.gap 126 Sl.nil))))))) (Rw.box 40 J7 Q43 (Rw.box 232 J20 Q11 (Rw.box 296 J24 Q88 (Rw.data 304 J4 (Rw.data 305 J4 (Rw.data 306 J12 (Rw.data 307 .str (Rw.box 360 J24 Q89 (Rw.data 368 J4 (Rw.data 369 J4 (Rw.data 370 J12 (Rw.data 371 .str Rw.nil)))))))))))) (Ls.k (Kf.box 40 0) Ls.nil)
def D3w (n:Nat):Tab Y36:=[([.r,.r,.r,.r,.r,.r,.r,.r,.r,.r,.r],A8c D0h fun j a=>B5k n j a.2.1.1 a.2.1.2.1 a.2.1.2.2.1 a.2.2.1.1 a.2.2.1.2.1 a.2.2.1.2.2.1 a.2.2.1.2.2.2.1 a.2.2.1.2.2.2.2.1 a.2.2.1.2.2.2.2.2.1 a.2.2.2.1 a.2.2.2.2.1 a.2.2.2.2.2.1 a.2.2.2.2.2.2.1 a.2.2.2.2.2.2.2.1.1 a.2.2.2.2.2.2.2.1.2.1 a.2.2.2.2.2.2.2.1.2.2.1 a.2.2.2.2.2.2.2.1.2.2.2.1 a.2.2.2.2.2.2.2.1.2.2.2.2.1 a.2.2.2.2.2.2.2.1.2.2.2.2.2.1 a.2.2.2.2.2.2.2.2.1 a.2.2.2.2.2.2.2.2.2.1 a.2.2.2.2.2.2.2.2.2.2.1 a.2.2.2.2.2.2.2.2.2.2.2.1),
  ([.r,.r,.r,.r,.r,.r,.r,.r,.r,.r],A8c D0g fun j a=>B5j n j a.2.1.1 a.2.1.2.1 a.2.1.2.2.1 a.2.2.1.1 a.2.2.1.2.1 a.2.2.1.2.2.1 a.2.2.1.2.2.2.1 a.2.2.1.2.2.2.2.1 a.2.2.1.2.2.2.2.2.1 a.2.2.2.1 a.2.2.2.2.1 a.2.2.2.2.2.1 a.2.2.2.2.2.2.1 a.2.2.2.2.2.2.2.1.1 a.2.2.2.2.2.2.2.1.2.1 a.2.2.2.2.2.2.2.1.2.2.1 a.2.2.2.2.2.2.2.1.2.2.2.1 a.2.2.2.2.2.2.2.1.2.2.2.2.1 a.2.2.2.2.2.2.2.1.2.2.2.2.2.1 a.2.2.2.2.2.2.2.2.1 a.2.2.2.2.2.2.2.2.2.1 a.2.2.2.2.2.2.2.2.2.2.1 a.2.2.2.2.2.2.2.2.2.2.2.1),
  ([.r,.r,.r,.r,.r,.r,.r,.r,.r],A8c D0f fun j a=>B5i n j a.2.1.1 a.2.1.2.1 a.2.1.2.2.1 a.2.2.1.1 a.2.2.1.2.1 a.2.2.1.2.2.1 a.2.2.1.2.2.2.1 a.2.2.1.2.2.2.2.1 a.2.2.1.2.2.2.2.2.1 a.2.2.2.1 a.2.2.2.2.1 a.2.2.2.2.2.1 a.2.2.2.2.2.2.1 a.2.2.2.2.2.2.2.1.1 a.2.2.2.2.2.2.2.1.2.1 a.2.2.2.2.2.2.2.1.2.2.1 a.2.2.2.2.2.2.2.1.2.2.2.1 a.2.2.2.2.2.2.2.1.2.2.2.2.1 a.2.2.2.2.2.2.2.1.2.2.2.2.2.1 a.2.2.2.2.2.2.2.2.1 a.2.2.2.2.2.2.2.2.2.1 a.2.2.2.2.2.2.2.2.2.2.1 a.2.2.2.2.2.2.2.2.2.2.2.1),
  ([.r,.r,.r,.r,.r,.r,.r,.r],A8c D0e fun j a=>B5h n j a.1.1 a.2.1.1 a.2.1.2.1 a.2.1.2.2.1 a.2.2.1.1 a.2.2.1.2.1 a.2.2.1.2.2.1 a.2.2.1.2.2.2.1 a.2.2.1.2.2.2.2.1 a.2.2.1.2.2.2.2.2.1 a.2.2.2.1 a.2.2.2.2.1 a.2.2.2.2.2.1 a.2.2.2.2.2.2.1 a.2.2.2.2.2.2.2.1.1 a.2.2.2.2.2.2.2.1.2.1 a.2.2.2.2.2.2.2.1.2.2.1 a.2.2.2.2.2.2.2.1.2.2.2.1 a.2.2.2.2.2.2.2.1.2.2.2.2.1 a.2.2.2.2.2.2.2.1.2.2.2.2.2.1 a.2.2.2.2.2.2.2.2.1 a.2.2.2.2.2.2.2.2.2.1 a.2.2.2.2.2.2.2.2.2.2.1 a.2.2.2.2.2.2.2.2.2.2.2.1 a.2.2.2.2.2.2.2.2.2.2.2.2.1.1 a.2.2.2.2.2.2.2.2.2.2.2.2.1.2.1 a.2.2.2.2.2.2.2.2.2.2.2.2.1.2.2.1),
  ([.r,.r,.r,.r,.r,.r,.r],A8c D0d fun j a=>B5g n j a.1.1 a.2.1.1 a.2.1.2.1 a.2.1.2.2.1 a.2.2.1.1 a.2.2.1.2.1 a.2.2.1.2.2.1 a.2.2.1.2.2.2.1 a.2.2.1.2.2.2.2.1 a.2.2.1.2.2.2.2.2.1 a.2.2.2.1 a.2.2.2.2.1 a.2.2.2.2.2.1 a.2.2.2.2.2.2.1 a.2.2.2.2.2.2.2.1.1 a.2.2.2.2.2.2.2.1.2.1 a.2.2.2.2.2.2.2.1.2.2.1 a.2.2.2.2.2.2.2.1.2.2.2.1 a.2.2.2.2.2.2.2.1.2.2.2.2.1 a.2.2.2.2.2.2.2.1.2.2.2.2.2.1 a.2.2.2.2.2.2.2.2.1 a.2.2.2.2.2.2.2.2.2.1 a.2.2.2.2.2.2.2.2.2.2.1 a.2.2.2.2.2.2.2.2.2.2.2.1 a.2.2.2.2.2.2.2.2.2.2.2.2.1.1 a.2.2.2.2.2.2.2.2.2.2.2.2.1.2.1 a.2.2.2.2.2.2.2.2.2.2.2.2.1.2.2.1),
  ([.r,.r,.r,.r],A8c D0c fun j a=>B8p n j a.1.1 a.2.1.1 a.2.1.2.1 a.2.1.2.2.1 a.2.2.1.1 a.2.2.1.2.1 a.2.2.2.1.1 a.2.2.2.1.2.1 a.2.2.2.1.2.2.1 a.2.2.2.1.2.2.2.1 a.2.2.2.1.2.2.2.2.1 a.2.2.2.1.2.2.2.2.2.1 a.2.2.2.2.1 a.2.2.2.2.2.1 a.2.2.2.2.2.2.1 a.2.2.2.2.2.2.2.1 a.2.2.2.2.2.2.2.2.1.1 a.2.2.2.2.2.2.2.2.1.2.1 a.2.2.2.2.2.2.2.2.1.2.2.1 a.2.2.2.2.2.2.2.2.1.2.2.2.1 a.2.2.2.2.2.2.2.2.1.2.2.2.2.1 a.2.2.2.2.2.2.2.2.1.2.2.2.2.2.1 a.2.2.2.2.2.2.2.2.2.1 a.2.2.2.2.2.2.2.2.2.2.1 a.2.2.2.2.2.2.2.2.2.2.2.1 a.2.2.2.2.2.2.2.2.2.2.2.2.1)]
def C4b:Fn' (Y2×Unit) Y33:=⟨60,Q56,(Rt.tup (Tvs.cons (Tv.agg Q59) Q56)),fun n a=>C1e n a.1.1 a.1.2.1 a.1.2.2⟩
def C7j:=Sh.of (Sl.gap 2 (Sl.k (Kf.box 168 0) (Sl.k (Kf.box 232 0) (Sl.gap 37 Sl.nil)))) (Rw.box 1 J7 Q43 (Rw.box 168 J19 Q64 (Rw.data 176 J12 (Rw.data 177 .str (Rw.box 232 J19 Q65 (Rw.data 240 J12 (Rw.data 241 .str Rw.nil))))))) (Ls.k (Kf.box 1 0) Ls.nil)
def C7i:=Sh.of (Sl.gap 2 (Sl.k (Kf.box 168 0) (Sl.k (Kf.box 232 0) (Sl.one (Lf.int .i64) (Sl.gap 36 Sl.nil))))) (Rw.box 1 J7 Q43 (Rw.box 168 J19 Q64 (Rw.data 176 J12 (Rw.data 177 .str (Rw.box 232 J19 Q65 (Rw.data 240 J12 (Rw.data 241 .str Rw.nil))))))) (Ls.k (Kf.box 1 0) Ls.nil)
def C7h:=Sh.of (Sl.k (Kf.box 40 0) (Sl.gap 1 (Sl.k (Kf.box 168 0) (Sl.k (Kf.box 232 0) (Sl.one (Lf.int .i64) (Sl.gap 36 Sl.nil)))))) (Rw.box 40 J7 Q43 (Rw.box 168 J19 Q64 (Rw.data 176 J12 (Rw.data 177 .str (Rw.box 232 J19 Q65 (Rw.data 240 J12 (Rw.data 241 .str Rw.nil))))))) (Ls.k (Kf.box 40 0) Ls.nil)
def C7g:=Sh.of (Sl.k (Kf.box 40 0) (Sl.gap 1 (Sl.k (Kf.box 168 0) (Sl.k (Kf.box 232 0) (Sl.one (Lf.int .i64) (Sl.gap 36 Sl.nil)))))) (Rw.box 40 J7 Q43 (Rw.box 168 J19 Q64 (Rw.data 176 J12 (Rw.data 177 .str (Rw.box 232 J19 Q65 (Rw.data 240 J12 (Rw.data 241 .str Rw.nil))))))) (Ls.k (Kf.box 40 0) Ls.nil)
def C7f:=Sh.of (Sl.k (Kf.box 40 0) (Sl.gap 1 (Sl.k (Kf.box 168 0) (Sl.k (Kf.box 232 0) (Sl.one (Lf.int .i64) (Sl.gap 36 Sl.nil)))))) (Rw.box 40 J7 Q43 (Rw.box 168 J19 Q64 (Rw.data 176 J12 (Rw.data 177 .str (Rw.box 232 J19 Q65 (Rw.data 240 J12 (Rw.data 241 .str Rw.nil))))))) (Ls.k (Kf.box 40 0) Ls.nil)
def C7e:=Sh.of (Sl.k (Kf.box 40 0) (Sl.gap 1 (Sl.k (Kf.box 168 0) (Sl.k (Kf.box 232 0) (Sl.one (Lf.int .i64) (Sl.gap 36 Sl.nil)))))) (Rw.box 40 J7 Q43 (Rw.box 168 J19 Q64 (Rw.data 176 J12 (Rw.data 177 .str (Rw.box 232 J19 Q65 (Rw.data 240 J12 (Rw.data 241 .str Rw.nil))))))) (Ls.k (Kf.box 40 0) Ls.nil)
def D1i (n:Nat):Tab Y33:=[([.r,.r,.r,.r,.r,.r,.r,.r,.r],A8c C7j fun j a=>B7f n j a.2.1.1 a.2.1.2.1 a.2.1.2.2.1 a.2.2.1.1 a.2.2.1.2.1 a.2.2.1.2.2.1 a.2.2.1.2.2.2.1 a.2.2.2.1 a.2.2.2.2.1 a.2.2.2.2.2.1.1 a.2.2.2.2.2.1.2.1 a.2.2.2.2.2.1.2.2.1 a.2.2.2.2.2.1.2.2.2.1 a.2.2.2.2.2.2.1 a.2.2.2.2.2.2.2.1),
  ([.r,.r,.r,.r,.r,.r,.r,.r],A8c C7i fun j a=>B7e n j a.1.1 a.2.1.1 a.2.1.2.1 a.2.1.2.2.1 a.2.2.1.1 a.2.2.1.2.1 a.2.2.1.2.2.1 a.2.2.1.2.2.2.1 a.2.2.2.1 a.2.2.2.2.1 a.2.2.2.2.2.1.1 a.2.2.2.2.2.1.2.1 a.2.2.2.2.2.1.2.2.1 a.2.2.2.2.2.1.2.2.2.1 a.2.2.2.2.2.2.1 a.2.2.2.2.2.2.2.1),
  ([.r,.r,.r,.r,.r,.r,.r],A8c C7h fun j a=>B7d n j a.1.1 a.2.1.1 a.2.1.2.1 a.2.1.2.2.1 a.2.2.1.1 a.2.2.1.2.1 a.2.2.1.2.2.1 a.2.2.1.2.2.2.1 a.2.2.2.1 a.2.2.2.2.1 a.2.2.2.2.2.1.1 a.2.2.2.2.2.1.2.1 a.2.2.2.2.2.1.2.2.1 a.2.2.2.2.2.1.2.2.2.1 a.2.2.2.2.2.2.1 a.2.2.2.2.2.2.2.1),
  ([.r,.r,.r,.r,.r,.r],A8c C7g fun j a=>B7c n j a.1.1 a.2.1.1 a.2.1.2.1 a.2.1.2.2.1 a.2.2.1.1 a.2.2.1.2.1 a.2.2.1.2.2.1 a.2.2.1.2.2.2.1 a.2.2.2.1 a.2.2.2.2.1 a.2.2.2.2.2.1.1 a.2.2.2.2.2.1.2.1 a.2.2.2.2.2.1.2.2.1 a.2.2.2.2.2.1.2.2.2.1 a.2.2.2.2.2.2.1 a.2.2.2.2.2.2.2.1),
  ([.r,.r,.r,.r,.r],A8c C7f fun j a=>B7b n j a.1.1 a.2.1.1 a.2.1.2.1 a.2.1.2.2.1 a.2.2.1.1 a.2.2.1.2.1 a.2.2.1.2.2.1 a.2.2.1.2.2.2.1 a.2.2.2.1 a.2.2.2.2.1 a.2.2.2.2.2.1.1 a.2.2.2.2.2.1.2.1 a.2.2.2.2.2.1.2.2.1 a.2.2.2.2.2.1.2.2.2.1 a.2.2.2.2.2.2.1 a.2.2.2.2.2.2.2.1),
  ([.r,.r,.r,.r],A8c C7e fun j a=>B7a n j a.1.1 a.2.1.1 a.2.1.2.1 a.2.1.2.2.1 a.2.2.1.1 a.2.2.1.2.1 a.2.2.1.2.2.1 a.2.2.1.2.2.2.1 a.2.2.2.1 a.2.2.2.2.1 a.2.2.2.2.2.1.1 a.2.2.2.2.2.1.2.1 a.2.2.2.2.2.1.2.2.1 a.2.2.2.2.2.1.2.2.2.1 a.2.2.2.2.2.2.1 a.2.2.2.2.2.2.2.1)]
def C3j:Fn' (Y2×(Y31×Unit)) Y36:=⟨24,(Tvs.cons Q44 Q32),(Rt.tup (Tvs.cons Q92 Q56)),fun n a=>C0g n a.1.1 a.1.2.1 a.1.2.2 a.2.1.1 a.2.1.2⟩
def C6l:=Sh.of (Sl.gap 4 (Sl.k (Kf.box 296 0) (Sl.k (Kf.box 360 0) (Sl.gap 46 Sl.nil)))) (Rw.box 1 J7 Q43 (Rw.box 296 J24 Q88 (Rw.data 304 J4 (Rw.data 305 J4 (Rw.data 306 J12 (Rw.data 307 .str (Rw.box 360 J24 Q89 (Rw.data 368 J4 (Rw.data 369 J4 (Rw.data 370 J12 (Rw.data 371 .str Rw.nil))))))))))) (Ls.k (Kf.box 1 0) Ls.nil)
def C6k:=Sh.of (Sl.k (Kf.box 40 0) (Sl.gap 3 (Sl.k (Kf.box 296 0) (Sl.k (Kf.box 360 0) (Sl.one (Lf.int .i64) (Sl.gap 45 Sl.nil)))))) (Rw.box 40 J7 Q43 (Rw.box 296 J24 Q88 (Rw.data 304 J4 (Rw.data 305 J4 (Rw.data 306 J12 (Rw.data 307 .str (Rw.box 360 J24 Q89 (Rw.data 368 J4 (Rw.data 369 J4 (Rw.data 370 J12 (Rw.data 371 .str Rw.nil))))))))))) (Ls.k (Kf.box 40 0) Ls.nil)
def C6j:=Sh.of (Sl.k (Kf.box 40 0) (Sl.gap 3 (Sl.k (Kf.box 296 0) (Sl.k (Kf.box 360 0) (Sl.one (Lf.int .i64) (Sl.gap 45 Sl.nil)))))) (Rw.box 40 J7 Q43 (Rw.box 296 J24 Q88 (Rw.data 304 J4 (Rw.data 305 J4 (Rw.data 306 J12 (Rw.data 307 .str (Rw.box 360 J24 Q89 (Rw.data 368 J4 (Rw.data 369 J4 (Rw.data 370 J12 (Rw.data 371 .str Rw.nil))))))))))) (Ls.k (Kf.box 40 0) Ls.nil)
def C6i:=Sh.of (Sl.k (Kf.box 40 0) (Sl.gap 3 (Sl.k (Kf.box 296 0) (Sl.k (Kf.box 360 0) (Sl.one (Lf.int .i64) (Sl.gap 45 Sl.nil)))))) (Rw.box 40 J7 Q43 (Rw.box 296 J24 Q88 (Rw.data 304 J4 (Rw.data 305 J4 (Rw.data 306 J12 (Rw.data 307 .str (Rw.box 360 J24 Q89 (Rw.data 368 J4 (Rw.data 369 J4 (Rw.data 370 J12 (Rw.data 371 .str Rw.nil))))))))))) (Ls.k (Kf.box 40 0) Ls.nil)
def C6h:=Sh.of (Sl.k (Kf.box 40 0) (Sl.gap 3 (Sl.k (Kf.box 296 0) (Sl.k (Kf.box 360 0) (Sl.one (Lf.int .i64) (Sl.gap 45 Sl.nil)))))) (Rw.box 40 J7 Q43 (Rw.box 296 J24 Q88 (Rw.data 304 J4 (Rw.data 305 J4 (Rw.data 306 J12 (Rw.data 307 .str (Rw.box 360 J24 Q89 (Rw.data 368 J4 (Rw.data 369 J4 (Rw.data 370 J12 (Rw.data 371 .str Rw.nil))))))))))) (Ls.k (Kf.box 40 0) Ls.nil)
def D0k (n:Nat):Tab Y36:=[([.r,.r,.r,.r,.r,.r,.r,.r],A8c C6l fun j a=>B6h n j a.2.1.1 a.2.1.2.1 a.2.1.2.2.1 a.2.2.1.1 a.2.2.1.2.1 a.2.2.1.2.2.1 a.2.2.1.2.2.2.1 a.2.2.1.2.2.2.2.1 a.2.2.1.2.2.2.2.2.1 a.2.2.2.1 a.2.2.2.2.1 a.2.2.2.2.2.1 a.2.2.2.2.2.2.1 a.2.2.2.2.2.2.2.1.1 a.2.2.2.2.2.2.2.1.2.1 a.2.2.2.2.2.2.2.1.2.2.1 a.2.2.2.2.2.2.2.1.2.2.2.1 a.2.2.2.2.2.2.2.1.2.2.2.2.1 a.2.2.2.2.2.2.2.1.2.2.2.2.2.1 a.2.2.2.2.2.2.2.2.1 a.2.2.2.2.2.2.2.2.2.1 a.2.2.2.2.2.2.2.2.2.2.1 a.2.2.2.2.2.2.2.2.2.2.2.1),
  ([.r,.r,.r,.r,.r,.r,.r],A8c C6k fun j a=>B6g n j a.1.1 a.2.1.1 a.2.1.2.1 a.2.1.2.2.1 a.2.2.1.1 a.2.2.1.2.1 a.2.2.1.2.2.1 a.2.2.1.2.2.2.1 a.2.2.1.2.2.2.2.1 a.2.2.1.2.2.2.2.2.1 a.2.2.2.1 a.2.2.2.2.1 a.2.2.2.2.2.1 a.2.2.2.2.2.2.1 a.2.2.2.2.2.2.2.1.1 a.2.2.2.2.2.2.2.1.2.1 a.2.2.2.2.2.2.2.1.2.2.1 a.2.2.2.2.2.2.2.1.2.2.2.1 a.2.2.2.2.2.2.2.1.2.2.2.2.1 a.2.2.2.2.2.2.2.1.2.2.2.2.2.1 a.2.2.2.2.2.2.2.2.1 a.2.2.2.2.2.2.2.2.2.1 a.2.2.2.2.2.2.2.2.2.2.1 a.2.2.2.2.2.2.2.2.2.2.2.1),
  ([.r,.r,.r,.r,.r,.r],A8c C6j fun j a=>B6f n j a.1.1 a.2.1.1 a.2.1.2.1 a.2.1.2.2.1 a.2.2.1.1 a.2.2.1.2.1 a.2.2.1.2.2.1 a.2.2.1.2.2.2.1 a.2.2.1.2.2.2.2.1 a.2.2.1.2.2.2.2.2.1 a.2.2.2.1 a.2.2.2.2.1 a.2.2.2.2.2.1 a.2.2.2.2.2.2.1 a.2.2.2.2.2.2.2.1.1 a.2.2.2.2.2.2.2.1.2.1 a.2.2.2.2.2.2.2.1.2.2.1 a.2.2.2.2.2.2.2.1.2.2.2.1 a.2.2.2.2.2.2.2.1.2.2.2.2.1 a.2.2.2.2.2.2.2.1.2.2.2.2.2.1 a.2.2.2.2.2.2.2.2.1 a.2.2.2.2.2.2.2.2.2.1 a.2.2.2.2.2.2.2.2.2.2.1 a.2.2.2.2.2.2.2.2.2.2.2.1),
  ([.r,.r,.r,.r,.r],A8c C6i fun j a=>B6e n j a.1.1 a.2.1.1 a.2.1.2.1 a.2.1.2.2.1 a.2.2.1.1 a.2.2.1.2.1 a.2.2.1.2.2.1 a.2.2.1.2.2.2.1 a.2.2.1.2.2.2.2.1 a.2.2.1.2.2.2.2.2.1 a.2.2.2.1 a.2.2.2.2.1 a.2.2.2.2.2.1 a.2.2.2.2.2.2.1 a.2.2.2.2.2.2.2.1.1 a.2.2.2.2.2.2.2.1.2.1 a.2.2.2.2.2.2.2.1.2.2.1 a.2.2.2.2.2.2.2.1.2.2.2.1 a.2.2.2.2.2.2.2.1.2.2.2.2.1 a.2.2.2.2.2.2.2.1.2.2.2.2.2.1 a.2.2.2.2.2.2.2.2.1 a.2.2.2.2.2.2.2.2.2.1 a.2.2.2.2.2.2.2.2.2.2.1 a.2.2.2.2.2.2.2.2.2.2.2.1),
  ([.r,.r,.r,.r],A8c C6h fun j a=>B6d n j a.1.1 a.2.1.1 a.2.1.2.1 a.2.1.2.2.1 a.2.2.1.1 a.2.2.1.2.1 a.2.2.1.2.2.1 a.2.2.1.2.2.2.1 a.2.2.1.2.2.2.2.1 a.2.2.1.2.2.2.2.2.1 a.2.2.2.1 a.2.2.2.2.1 a.2.2.2.2.2.1 a.2.2.2.2.2.2.1 a.2.2.2.2.2.2.2.1.1 a.2.2.2.2.2.2.2.1.2.1 a.2.2.2.2.2.2.2.1.2.2.1 a.2.2.2.2.2.2.2.1.2.2.2.1 a.2.2.2.2.2.2.2.1.2.2.2.2.1 a.2.2.2.2.2.2.2.1.2.2.2.2.2.1 a.2.2.2.2.2.2.2.2.1 a.2.2.2.2.2.2.2.2.2.1 a.2.2.2.2.2.2.2.2.2.2.1 a.2.2.2.2.2.2.2.2.2.2.2.1)]
def C58:Fn' ((List Int)×Unit) (Y31×((Int×Y35)×Unit)):=⟨6,Q7,(Rt.tup (Tvs.cons Q12 (Tvs.cons Q92 Tvs.nil))),fun n a=>C21 n a.1⟩
def C7z:Fn' (Int×(Int×(Int×Unit))) Bool:=⟨132,(Tvs.cons (Tv.one (Lf.int .i64)) Q36),(Rt.v (Tv.one Lf.bool)),fun n a=>B75 n a.1 a.2.1 a.2.2.1⟩
def C7v:Fn' (ByteArray×Unit) Bool:=⟨62,(Tvs.cons (Tv.one Lf.str) Tvs.nil),(Rt.v (Tv.one Lf.bool)),fun n a=>B5y n a.1⟩
def D0x:=Sh.of (Sl.one Lf.str (Sl.gap 2 (Sl.one (Lf.int .i64) (Sl.gap 19 Sl.nil)))) Rw.nil Ls.nil
def D5h (n:Nat):Tab Bool:=[([.b,.r,.l,.r],A8c D0x fun j a=>B7r n j a.1.1 a.1.2.1)]
def C9e:Fn' (Y1×Unit) Bool:=⟨135,Q47,(Rt.v (Tv.one Lf.bool)),fun n a=>B8c n a.1.1 a.1.2.1 a.1.2.2⟩
def C9a:Fn' (Y16×Unit) Bool:=⟨131,(Tvs.cons Q76 Tvs.nil),(Rt.v (Tv.one Lf.bool)),fun n a=>C2z n a.1.1 a.1.2.1 a.1.2.2.1 a.1.2.2.2.1 a.1.2.2.2.2.1 a.1.2.2.2.2.2.1 a.1.2.2.2.2.2.2⟩
def C5p:Fn' (Y16×(ByteArray×Unit)) Bool:=⟨214,(Tvs.cons Q76 (Tvs.cons (Tv.one (Lf.spt .str 0)) Tvs.nil)),(Rt.v (Tv.one Lf.bool)),fun n a=>C2n n a.1.1 a.1.2.1 a.1.2.2.1 a.1.2.2.2.1 a.1.2.2.2.2.1 a.1.2.2.2.2.2.1 a.1.2.2.2.2.2.2 a.2.1⟩
def B3n:Fn' (Y19×((ByteArray×Unit)×Unit)) Int:=⟨213,(Tvs.cons (Tv.one (Lf.sh J12)) (Tvs.cons (Tv.one (Lf.clo 214 (Cs.cons .str Cs.nil))) Tvs.nil)),(Rt.v (Tv.one (Lf.int .i64))),fun n a=>B2s n a.1 a.2.1.1⟩
def B5l:=Sh.of (Sl.one (Lf.sh J12) (Sl.one (Lf.clo 214 (Cs.cons .str Cs.nil)) (Sl.gap 5 (Sl.one (Lf.int .i64) (Sl.one (Lf.int .i64) (Sl.gap 10 Sl.nil)))))) Rw.nil Ls.nil
def B65 (n:Nat):Tab Int:=[([.b,.r,.l,.r],A8c B5l fun j a=>B2c n j a.1.1 a.1.2.1.1 a.1.2.2.1 a.1.2.2.2.1)]
def C99:Fn' (Y22×(ByteArray×Unit)) Int:=⟨158,(Tvs.cons Q28 (Tvs.cons (Tv.one Lf.str) Tvs.nil)),(Rt.v (Tv.one (Lf.int .i64))),fun n a=>B2h n a.1.1 a.1.2.1 a.1.2.2 a.2.1⟩
def C5s:Fn' (Y22×Unit) Bool:=⟨81,Q46,(Rt.v (Tv.one Lf.bool)),fun n a=>B8b n a.1.1 a.1.2.1 a.1.2.2⟩
def C9x:=Sh.of (Sl.gap 1 (Sl.k (Kf.box 104 0) (Sl.gap 3 (Sl.one (Lf.int .i64) (Sl.gap 24 (Sl.one (Lf.sh .str) (Sl.one (Lf.int .i64) (Sl.one (Lf.int .i64) (Sl.gap 35 Sl.nil))))))))) (Rw.box 104 J15 Q27 Rw.nil) Ls.nil
def C9w:=Sh.of (Sl.gap 1 (Sl.k (Kf.box 104 0) (Sl.gap 8 (Sl.one (Lf.sh J12) (Sl.one (Lf.int .i64) (Sl.one (Lf.int .i64) (Sl.gap 55 Sl.nil))))))) (Rw.box 104 J15 Q27 Rw.nil) Ls.nil
def D3k (n:Nat):Tab Bool:=[([.b,.r,.l,.r,.r,.r],A8c C9x fun j a=>B5a n j a.1.1 a.1.2.1 a.1.2.2.1 a.1.2.2.2.1 a.2.1.1 a.2.1.2.1 a.2.1.2.2.1),
  ([.b,.r,.l,.r],A8c C9w fun j a=>B6s n j a.1.1 a.1.2.1 a.1.2.2.1 a.2.1.1 a.2.1.2.1 a.2.1.2.2.1)]
def C98:Fn' (Y24×Unit) Bool:=⟨32,Q10,(Rt.v (Tv.one Lf.bool)),fun n a=>C2y n a.1⟩
def D2e:=Sh.of (Sl.gap 1 (Sl.k (Kf.box 104 0) (Sl.gap 4 (Sl.one (Lf.sh J15) (Sl.one (Lf.int .i64) (Sl.one (Lf.int .i64) (Sl.gap 28 Sl.nil))))))) (Rw.box 104 J16 (Ls.cons (Lf.sh J15) Ls.nil) Rw.nil) Ls.nil
def D7f (n:Nat):Tab Bool:=[([.b,.r,.l,.r],A8c D2e fun j a=>B7k n j a.1.1 a.1.2.1 a.1.2.2.1 a.2.1.1)]
def C7y:Fn' (Y16×(Y1×Unit)) Bool:=⟨159,(Tvs.cons Q76 Q47),(Rt.v (Tv.one Lf.bool)),fun n a=>C3n n a.1.1 a.1.2.1 a.1.2.2.1 a.1.2.2.2.1 a.1.2.2.2.2.1 a.1.2.2.2.2.2.1 a.1.2.2.2.2.2.2 a.2.1.1 a.2.1.2.1 a.2.1.2.2⟩
def C9h:Fn' (Y22×(Y4×Unit)) Bool:=⟨82,Q69,(Rt.v (Tv.one Lf.bool)),fun n a=>C1q n a.1.1 a.1.2.1 a.1.2.2 a.2.1⟩
def D2i:=Sh.of (Sl.gap 2 (Sl.k (Kf.box 168 0) (Sl.gap 12 (Sl.one (Lf.sh J4) (Sl.one (Lf.int .i64) (Sl.one (Lf.int .i64) (Sl.gap 13 Sl.nil))))))) (Rw.box 168 J15 Q27 Rw.nil) Ls.nil
def D7j (n:Nat):Tab Bool:=[([.b,.r,.l,.r,.r],A8c D2i fun j a=>B8y n j a.1.1 a.1.2.1 a.1.2.2.1 a.2.1.1 a.2.1.2.1 a.2.1.2.2.1)]
def C9f:Fn' (Y22×(Y4×Unit)) Y4:=⟨84,Q69,(Rt.v (Tv.one (Lf.od J4))),fun n a=>B7l n a.1.1 a.1.2.1 a.1.2.2 a.2.1⟩
def D2h:=Sh.of (Sl.gap 2 (Sl.k (Kf.box 168 0) (Sl.k (Kf.box 232 0) (Sl.gap 1 (Sl.k (Kf.ow 360) (Sl.gap 4 (Sl.one (Lf.sh .str) (Sl.one (Lf.int .i64) (Sl.one (Lf.int .i64) (Sl.gap 15 Sl.nil)))))))))) (Rw.box 168 J15 Q27 (Rw.box 232 J5 (Ls.cons (Lf.sh J4) Ls.nil) (Rw.data 360 J4 Rw.nil))) Ls.nil
def D7i (n:Nat):Tab Y4:=[([.b,.r,.l,.r,.r],A8c D2h fun j a=>B8x n j a.1.1 a.1.2.1 a.1.2.2.1 a.2.1.1 a.2.1.2.1 a.2.1.2.2.1 a.2.2.1.1 a.2.2.2.1)]
def C5t:Fn' (Y1×(Y1×Unit)) Bool:=⟨160,(Tvs.cons Q33 Q47),(Rt.v (Tv.one Lf.bool)),fun n a=>C12 n a.1.1 a.1.2.1 a.1.2.2 a.2.1.1 a.2.1.2.1 a.2.1.2.2⟩
def C5q:Fn' (Y4×(Y4×Unit)) Bool:=⟨83,Q30,(Rt.v (Tv.one Lf.bool)),fun n a=>C11 n a.1 a.2.1⟩
def C9t:=Sh.of (Sl.one (Lf.sh J4) (Sl.one (Lf.sh J4) (Sl.gap 3 (Sl.one (Lf.int .i64) (Sl.gap 35 Sl.nil))))) Rw.nil Ls.nil
def D3i (n:Nat):Tab Bool:=[([.b,.r,.l,.r],A8c C9t fun j a=>B8m n j a.1.1 a.1.2.1 a.1.2.2.1)]
def C7t:Fn' (Y22×(Y7×Unit)) Bool:=⟨33,Q61,(Rt.v (Tv.one Lf.bool)),fun n a=>B86 n a.1.1 a.1.2.1 a.1.2.2 a.2.1⟩
def D0w:=Sh.of (Sl.gap 1 (Sl.one (Lf.sh J5) (Sl.k (Kf.box 168 0) (Sl.gap 12 (Sl.one (Lf.sh J5) (Sl.one (Lf.int .i64) (Sl.one (Lf.int .i64) (Sl.gap 27 Sl.nil)))))))) (Rw.box 168 J15 Q27 Rw.nil) Ls.nil
def D5g (n:Nat):Tab Bool:=[([.b,.r,.l,.r,.r],A8c D0w fun j a=>B6a n j a.1.1 a.1.2.1 a.1.2.2.1 a.1.2.2.2.1 a.2.1.1 a.2.1.2.1 a.2.1.2.2.1)]
def D27:Fn' (Y31×Unit) Bool:=⟨10,Q32,(Rt.v (Tv.one Lf.bool)),fun n a=>B9r n a.1.1 a.1.2⟩
def D3g:=Sh.of (Sl.gap 1 (Sl.k (Kf.box 104 0) (Sl.gap 19 (Sl.one (Lf.sh J15) (Sl.one (Lf.int .i64) (Sl.one (Lf.int .i64) (Sl.gap 14 Sl.nil))))))) (Rw.box 104 J20 Q11 Rw.nil) Ls.nil
def D8r (n:Nat):Tab Bool:=[([.b,.r,.l,.r,.r],A8c D3g fun j a=>B9s n j a.1.1 a.1.2.1 a.1.2.2.1 a.2.1.1 a.2.1.2.1)]
def C49:Fn' ((List ByteArray)×Unit) (List ByteArray):=⟨178,(Tvs.cons (Tv.one (Lf.sh .str)) Tvs.nil),(Rt.v (Tv.one (Lf.od .str))),fun n a=>C17 n a.1⟩
def C48:Fn' (Y22×Unit) Y22:=⟨101,Q46,Q37,fun n a=>B9e n a.1.1 a.1.2.1 a.1.2.2⟩
def C53:Fn' (Y28×Unit) Y22:=⟨130,Q75,Q37,fun n a=>B8u n a.1.1 a.1.2.1 a.1.2.2.1 a.1.2.2.2.1 a.1.2.2.2.2.1 a.1.2.2.2.2.2⟩
def B71:Fn' (Y19×(Y19×Unit)) Bool:=⟨112,(Tvs.cons (Tv.one (Lf.sh J12)) (Tvs.cons (Tv.one (Lf.sh J12)) Tvs.nil)),(Rt.v (Tv.one Lf.bool)),fun n a=>B3t n a.1 a.2.1⟩
def C01:=Sh.of (Sl.one (Lf.sh J12) (Sl.one (Lf.sh J12) (Sl.gap 10 (Sl.one (Lf.int .i64) (Sl.one (Lf.int .i64) (Sl.gap 12 Sl.nil)))))) Rw.nil Ls.nil
def C0x (n:Nat):Tab Bool:=[([.b,.r,.l,.r,.r],A8c C01 fun j a=>B2u n j a.1.1 a.1.2.1 a.1.2.2.1 a.1.2.2.2.1)]
def B8h:Fn' ((List ByteArray)×((List ByteArray)×Unit)) Bool:=⟨113,(Tvs.cons (Tv.one (Lf.sh .str)) (Tvs.cons (Tv.one (Lf.sh .str)) Tvs.nil)),(Rt.v (Tv.one Lf.bool)),fun n a=>B4b n a.1 a.2.1⟩
def C1l:=Sh.of (Sl.one (Lf.sh .str) (Sl.one (Lf.sh .str) (Sl.gap 10 (Sl.one (Lf.int .i64) (Sl.one (Lf.int .i64) (Sl.gap 12 Sl.nil)))))) Rw.nil Ls.nil
def C2e (n:Nat):Tab Bool:=[([.b,.r,.l,.r,.r],A8c C1l fun j a=>B36 n j a.1.1 a.1.2.1 a.1.2.2.1 a.1.2.2.2.1)]
def C56:Fn' (Y28×(Y28×Unit)) Bool:=⟨63,(Tvs.cons Q68 Q75),(Rt.v (Tv.one Lf.bool)),fun n a=>B5z n a.1.1 a.1.2.1 a.1.2.2.1 a.1.2.2.2.1 a.1.2.2.2.2.1 a.1.2.2.2.2.2 a.2.1.1 a.2.1.2.1 a.2.1.2.2.1 a.2.1.2.2.2.1 a.2.1.2.2.2.2.1 a.2.1.2.2.2.2.2⟩
def C9c:Fn' (Y28×Unit) Bool:=⟨61,Q75,(Rt.v (Tv.one Lf.bool)),fun n a=>C1p n a.1.1 a.1.2.1 a.1.2.2.1 a.1.2.2.2.1 a.1.2.2.2.2.1 a.1.2.2.2.2.2⟩
def C47:Fn' (Y1×Unit) Bool:=⟨134,Q47,(Rt.v (Tv.one Lf.bool)),fun n a=>C14 n a.1.1 a.1.2.1 a.1.2.2⟩
def B3k:Fn' (Y4×(Unit×Unit)) Int:=⟨197,(Tvs.cons (Tv.one (Lf.sh J4)) (Tvs.cons (Tv.one (Lf.clo 134 Cs.nil)) Tvs.nil)),(Rt.v (Tv.one (Lf.int .i64))),fun n a=>B2p n a.1⟩
def B50:=Sh.of (Sl.one (Lf.sh J4) (Sl.one (Lf.clo 134 Cs.nil) (Sl.gap 5 (Sl.one (Lf.int .i64) (Sl.one (Lf.int .i64) (Sl.gap 10 Sl.nil)))))) Rw.nil Ls.nil
def B5q (n:Nat):Tab Int:=[([.b,.r,.l,.r],A8c B50 fun j a=>B2a n j a.1.1 a.1.2.2.1 a.1.2.2.2.1)]
def B3h:Fn' (Y4×(Unit×Unit)) Bool:=⟨133,(Tvs.cons (Tv.one (Lf.sh J4)) (Tvs.cons (Tv.one (Lf.clo 134 Cs.nil)) Tvs.nil)),(Rt.v (Tv.one Lf.bool)),fun n a=>B2l n a.1⟩
def C5u:Fn' (Y4×Unit) Bool:=⟨64,(Tvs.cons (Tv.one (Lf.sh J4)) Tvs.nil),(Rt.v (Tv.one Lf.bool)),fun n a=>B8d n a.1⟩
def C7u:Fn' ((Int×Y35)×Unit) Bool:=⟨25,Q94,(Rt.v (Tv.one Lf.bool)),fun n a=>C3l n a.1.1 a.1.2.1 a.1.2.2.1 a.1.2.2.2.1 a.1.2.2.2.2.1 a.1.2.2.2.2.2.1 a.1.2.2.2.2.2.2.1 a.1.2.2.2.2.2.2.2.1 a.1.2.2.2.2.2.2.2.2.1 a.1.2.2.2.2.2.2.2.2.2⟩
def C51:Fn' (Y22×(ByteArray×Unit)) Bool:=⟨111,(Tvs.cons Q28 (Tvs.cons (Tv.one (Lf.spt .str 0)) Tvs.nil)),(Rt.v (Tv.one Lf.bool)),fun n a=>C1x n a.1.1 a.1.2.1 a.1.2.2 a.2.1⟩
def B3i:Fn' (Y24×((ByteArray×Unit)×Unit)) Int:=⟨110,(Tvs.cons (Tv.one (Lf.sh J15)) (Tvs.cons (Tv.one (Lf.clo 111 (Cs.cons .str Cs.nil))) Tvs.nil)),(Rt.v (Tv.one (Lf.int .i64))),fun n a=>B2m n a.1 a.2.1.1⟩
def B4p:=Sh.of (Sl.one (Lf.sh J15) (Sl.one (Lf.clo 111 (Cs.cons .str Cs.nil)) (Sl.gap 5 (Sl.one (Lf.int .i64) (Sl.one (Lf.int .i64) (Sl.gap 10 Sl.nil)))))) Rw.nil Ls.nil
def B51 (n:Nat):Tab Int:=[([.b,.r,.l,.r],A8c B4p fun j a=>B28 n j a.1.1 a.1.2.1.1 a.1.2.2.1 a.1.2.2.2.1)]
def C7p:Fn' (Y24×(ByteArray×Unit)) Int:=⟨51,(Tvs.cons (Tv.agg (Ls.one (Lf.sh J15))) (Tvs.cons (Tv.one Lf.str) Tvs.nil)),(Rt.v (Tv.one (Lf.int .i64))),fun n a=>B85 n a.1 a.2.1⟩
def B8i:Fn' Z1 Int:=⟨92,Q26,(Rt.v (Tv.one (Lf.int .i64))),fun n a=>B3p n a.1 a.2.1⟩
def C1m:=Sh.of (Sl.one (Lf.sh .str) (Sl.one Lf.str (Sl.gap 5 (Sl.one (Lf.int .i64) (Sl.one (Lf.int .i64) (Sl.gap 10 Sl.nil)))))) Rw.nil Ls.nil
def C2f (n:Nat):Tab Int:=[([.b,.r,.l,.r],A8c C1m fun j a=>B37 n j a.1.1 a.1.2.1 a.1.2.2.1 a.1.2.2.2.1)]
def B7o:Fn' Z1 Bool:=⟨235,Q26,(Rt.v (Tv.one Lf.bool)),fun n a=>C3 n a.1 a.2.1⟩
def C5x:Fn' (Y24×(Y28×Unit)) Int:=⟨198,Q86,(Rt.v (Tv.one (Lf.int .i64))),fun n a=>C18 n a.1 a.2.1.1 a.2.1.2.1 a.2.1.2.2.1 a.2.1.2.2.2.1 a.2.1.2.2.2.2.1 a.2.1.2.2.2.2.2⟩
def C5w:Fn' (Y24×Unit) Y24:=⟨145,Q10,(Rt.v (Tv.agg (Ls.one (Lf.od J15)))),fun n a=>C16 n a.1⟩
def C9y:=Sh.of (Sl.gap 2 (Sl.k (Kf.box 168 0) (Sl.k (Kf.box 232 0) (Sl.gap 4 (Sl.one (Lf.sh J15) (Sl.one (Lf.int .i64) (Sl.one (Lf.int .i64) (Sl.gap 12 Sl.nil)))))))) (Rw.box 168 J16 (Ls.k (Kf.ow 176) Ls.nil) (Rw.data 176 J15 (Rw.box 232 J16 (Ls.k (Kf.ow 240) Ls.nil) (Rw.data 240 J15 Rw.nil)))) Ls.nil
def D3l (n:Nat):Tab Y24:=[([.b,.r,.l,.r,.r],A8c C9y fun j a=>B6t n j a.1.1 a.1.2.1 a.1.2.2.1 a.2.2.1 a.2.2.2.2.1)]
def B55:Fn' (Y24×(Int×(Y24×Unit))) Y24:=⟨199,(Tvs.cons (Tv.one (Lf.od J15)) (Tvs.cons (Tv.one (Lf.int .i64)) (Tvs.cons (Tv.one (Lf.od J15)) Tvs.nil))),(Rt.v (Tv.one (Lf.od J15))),fun n a=>B31 n a.1 a.2.1 a.2.2.1⟩
def B54:Fn' (Y24×(Int×(Int×Unit))) Y24:=⟨200,(Tvs.cons (Tv.one (Lf.od J15)) Q36),(Rt.v (Tv.one (Lf.od J15))),fun n a=>B3y n a.1 a.2.1 a.2.2.1⟩
def C3h:Fn' (Y16×(Y28×Unit)) Bool:=⟨202,(Tvs.cons Q76 (Tvs.cons (Tv.one (Lf.spt J19 0)) Tvs.nil)),(Rt.v (Tv.one Lf.bool)),fun n a=>B8l n a.1.1 a.1.2.1 a.1.2.2.1 a.1.2.2.2.1 a.1.2.2.2.2.1 a.1.2.2.2.2.2.1 a.1.2.2.2.2.2.2 a.2.1⟩
def B3j:Fn' (Y19×((Y28×Unit)×Unit)) Int:=⟨213,(Tvs.cons (Tv.one (Lf.sh J12)) (Tvs.cons (Tv.one (Lf.clo 202 (Cs.cons J19 Cs.nil))) Tvs.nil)),(Rt.v (Tv.one (Lf.int .i64))),fun n a=>B2o n a.1 a.2.1.1⟩
def B4r:=Sh.of (Sl.one (Lf.sh J12) (Sl.one (Lf.clo 202 (Cs.cons J19 Cs.nil)) (Sl.gap 5 (Sl.one (Lf.int .i64) (Sl.one (Lf.int .i64) (Sl.gap 10 Sl.nil)))))) Rw.nil Ls.nil
def B5n (n:Nat):Tab Int:=[([.b,.r,.l,.r],A8c B4r fun j a=>B29 n j a.1.1 a.1.2.1.1 a.1.2.2.1 a.1.2.2.2.1)]
def B3f:Fn' (Y19×((Y28×Unit)×Unit)) Y19:=⟨201,(Tvs.cons (Tv.one (Lf.od J12)) (Tvs.cons (Tv.one (Lf.clo 202 (Cs.cons J19 Cs.nil))) Tvs.nil)),(Rt.v (Tv.one (Lf.od J12))),fun n a=>B2i n a.1 a.2.1.1⟩
def B4m:=Sh.of (Sl.k (Kf.ow 40) (Sl.one (Lf.clo 202 (Cs.cons J19 Cs.nil)) (Sl.gap 3 (Sl.one (Lf.int .i64) (Sl.one (Lf.int .i64) (Sl.gap 35 Sl.nil)))))) (Rw.data 40 J12 Rw.nil) Ls.nil
def B4s (n:Nat):Tab Y19:=[([.b,.r,.l,.r,.r,.r],A8c B4m fun j a=>V2 n j a.1.1.1 a.1.2.1 a.1.2.2.1 a.2.1)]
def C52:Fn' (Y24×(Y28×Unit)) Y26:=⟨136,Q86,(Rt.tup (Tvs.cons (Tv.agg (Ls.one (Lf.od J15))) Q2)),fun n a=>C1y n a.1 a.2.1.1 a.2.1.2.1 a.2.1.2.2.1 a.2.1.2.2.2.1 a.2.1.2.2.2.2.1 a.2.1.2.2.2.2.2⟩
def C8t:=Sh.of (Sl.gap 3 (Sl.k (Kf.box 232 0) (Sl.k (Kf.box 296 0) (Sl.gap 2 (Sl.k (Kf.box 488 0) (Sl.gap 1 (Sl.one (Lf.int .i64) (Sl.gap 136 Sl.nil)))))))) (Rw.box 232 J19 Q67 (Rw.box 296 J16 (Ls.k (Kf.ow 304) Ls.nil) (Rw.data 304 J15 (Rw.box 488 J16 (Ls.k (Kf.ow 496) Ls.nil) (Rw.data 496 J15 Rw.nil))))) Ls.nil
def D2p (n:Nat):Tab Y26:=[([.b,.l,.r,.t,.r,.b,.r,.l,.r,.r,.r,.r,.r],A8c C8t fun j a=>B63 n j a.1.1 a.2.1.1 a.2.1.2.1 a.2.1.2.2.1 a.2.1.2.2.2.1 a.2.1.2.2.2.2.1 a.2.1.2.2.2.2.2.1 a.2.2.2.1 a.2.2.2.2.2.1)]
def C55:Fn' (Y4×Unit) Y4:=⟨209,(Tvs.cons (Tv.one (Lf.sh J4)) Tvs.nil),(Rt.v (Tv.one (Lf.od J4))),fun n a=>B8w n a.1⟩
def C54:Fn' (Y7×Unit) Y7:=⟨144,(Tvs.cons (Tv.one (Lf.sh J5)) Tvs.nil),(Rt.v (Tv.one (Lf.od J5))),fun n a=>B47 n a.1⟩
def C8u:=Sh.of (Sl.gap 3 (Sl.k (Kf.ow 232) (Sl.gap 2 (Sl.one (Lf.sh J5) (Sl.one (Lf.int .i64) (Sl.one (Lf.int .i64) (Sl.gap 12 Sl.nil))))))) (Rw.data 232 J5 Rw.nil) Ls.nil
def D2q (n:Nat):Tab Y7:=[([.b,.r,.l,.r,.r],A8c C8u fun j a=>B64 n j a.1.1 a.1.2.1 a.1.2.2.1 a.2.1)]
def C7w:Fn' (Y31×Unit) Y31:=⟨69,Q32,(Rt.v Q13),fun n a=>B4e n a.1.1 a.1.2⟩
def D0y:=Sh.of (Sl.gap 2 (Sl.k (Kf.box 168 0) (Sl.k (Kf.box 232 0) (Sl.gap 7 (Sl.one (Lf.sh J6) (Sl.one (Lf.int .i64) (Sl.one (Lf.int .i64) (Sl.gap 14 Sl.nil)))))))) (Rw.box 168 J20 (Ls.k (Kf.ow 176) (Ls.k (Kf.ow 177) Ls.nil)) (Rw.data 176 J15 (Rw.data 177 J6 (Rw.box 232 J20 (Ls.k (Kf.ow 240) (Ls.k (Kf.ow 241) Ls.nil)) (Rw.data 240 J15 (Rw.data 241 J6 Rw.nil)))))) Ls.nil
def D5i (n:Nat):Tab Y31:=[([.b,.r,.l,.r,.r],A8c D0y fun j a=>B7s n j a.1.1 a.1.2.1 a.1.2.2.1 a.2.2.1 a.2.2.2.1 a.2.2.2.2.2.1 a.2.2.2.2.2.2.1)]
def B5x:Fn' (Y12×(Int×(Y12×Unit))) Y12:=⟨137,(Tvs.cons (Tv.one (Lf.od J6)) (Tvs.cons (Tv.one (Lf.int .i64)) (Tvs.cons (Tv.one (Lf.od J6)) Tvs.nil))),(Rt.v (Tv.one (Lf.od J6))),fun n a=>B46 n a.1 a.2.1 a.2.2.1⟩
def B5w:Fn' (Y12×(Int×(Int×Unit))) Y12:=⟨138,(Tvs.cons (Tv.one (Lf.od J6)) Q36),(Rt.v (Tv.one (Lf.od J6))),fun n a=>B45 n a.1 a.2.1 a.2.2.1⟩
def B6n:Fn' (Y4×(Int×(Int×Unit))) Y4:=⟨205,(Tvs.cons (Tv.one (Lf.od J4)) Q36),(Rt.v (Tv.one (Lf.od J4))),fun n a=>B4j n a.1 a.2.1 a.2.2.1⟩
def C5r:Fn' (Y22×(Y7×(Y28×Unit))) Y15:=⟨139,(Tvs.cons Q28 (Tvs.cons (Tv.one (Lf.sh J5)) Q75)),Q42,fun n a=>C2o n a.1.1 a.1.2.1 a.1.2.2 a.2.1 a.2.2.1.1 a.2.2.1.2.1 a.2.2.1.2.2.1 a.2.2.1.2.2.2.1 a.2.2.1.2.2.2.2.1 a.2.2.1.2.2.2.2.2⟩
def C9u:=Sh.of (Sl.gap 5 (Sl.k (Kf.box 360 0) (Sl.gap 3 (Sl.k (Kf.ow 616) (Sl.gap 41 (Sl.one (Lf.int .i64) (Sl.one (Lf.int .i64) (Sl.gap 45 Sl.nil)))))))) (Rw.box 360 J19 Q67 (Rw.data 616 J5 Rw.nil)) Ls.nil
def C9v:=Sh.of (Sl.gap 9 (Sl.k (Kf.ow 616) (Sl.gap 1 (Sl.one (Lf.int .i64) (Sl.gap 67 (Sl.one (Lf.int .i64) (Sl.one (Lf.int .i64) (Sl.gap 17 Sl.nil)))))))) (Rw.data 616 J5 Rw.nil) Ls.nil
def D3j (n:Nat):Tab Y15:=[([.b,.r,.t,.r,.f,.r,.b,.r,.l,.r,.r,.r,.r],A8c C9u fun j a=>B6q n j a.1.1 a.1.2.1 a.2.1.1 a.2.1.2.1 a.2.1.2.2.1 a.2.1.2.2.2.1 a.2.1.2.2.2.2.1 a.2.1.2.2.2.2.2.1 a.2.2.1),
  ([.b,.r,.r,.t,.r,.f,.r,.f,.r,.b,.r,.l,.r,.r,.r,.r],A8c C9v fun j a=>B6r n j a.1.1 a.1.2.1 a.1.2.2.1 a.2.1)]
def C5v:Fn' (Y31×(Y28×Unit)) (Y31×(Int×Unit)):=⟨65,(Tvs.cons Q12 Q75),Q58,fun n a=>C15 n a.1.1 a.1.2 a.2.1.1 a.2.1.2.1 a.2.1.2.2.1 a.2.1.2.2.2.1 a.2.1.2.2.2.2.1 a.2.1.2.2.2.2.2⟩
def B72:Fn' (Y4×(Y4×Unit)) Bool:=⟨116,Q30,(Rt.v (Tv.one Lf.bool)),fun n a=>B33 n a.1 a.2.1⟩
def C02:=Sh.of (Sl.one (Lf.sh J4) (Sl.one (Lf.sh J4) (Sl.gap 10 (Sl.one (Lf.int .i64) (Sl.one (Lf.int .i64) (Sl.gap 12 Sl.nil)))))) Rw.nil Ls.nil
def C0y (n:Nat):Tab Bool:=[([.b,.r,.l,.r,.r],A8c C02 fun j a=>B2v n j a.1.1 a.1.2.1 a.1.2.2.1 a.1.2.2.2.1)]
def C5y:Fn' (Y4×(Y22×(Y4×Unit))) Bool:=⟨207,(Tvs.cons (Tv.agg (Ls.one (Lf.sh J4))) (Tvs.cons (Tv.one (Lf.spt J15 0)) (Tvs.cons (Tv.one (Lf.spt J5 0)) Tvs.nil))),(Rt.v (Tv.one Lf.bool)),fun n a=>C2p n a.1 a.2.1 a.2.2.1⟩
def B3o:Fn' (Y7×((Y22×(Y4×Unit))×Unit)) Int:=⟨206,(Tvs.cons (Tv.one (Lf.sh J5)) (Tvs.cons (Tv.one (Lf.clo 207 (Cs.cons J15 (Cs.cons J5 Cs.nil)))) Tvs.nil)),(Rt.v (Tv.one (Lf.int .i64))),fun n a=>B2t n a.1 a.2.1.1 a.2.1.2.1⟩
def B5m:=Sh.of (Sl.one (Lf.sh J5) (Sl.one (Lf.clo 207 (Cs.cons J15 (Cs.cons J5 Cs.nil))) (Sl.gap 5 (Sl.one (Lf.int .i64) (Sl.one (Lf.int .i64) (Sl.gap 10 Sl.nil)))))) Rw.nil Ls.nil
def B66 (n:Nat):Tab Int:=[([.b,.r,.l,.r],A8c B5m fun j a=>B2d n j a.1.1 a.1.2.1.1 a.1.2.1.2.1 a.1.2.2.1 a.1.2.2.2.1)]
def C9g:Fn' (Y22×(Y7×(Y4×Unit))) Int:=⟨140,Q77,(Rt.v (Tv.one (Lf.int .i64))),fun n a=>B7m n a.1.1 a.1.2.1 a.1.2.2 a.2.1 a.2.2.1⟩
def B6o:Fn' (Y7×(Int×(Y7×Unit))) Y7:=⟨208,(Tvs.cons (Tv.one (Lf.od J5)) (Tvs.cons (Tv.one (Lf.int .i64)) (Tvs.cons (Tv.one (Lf.od J5)) Tvs.nil))),(Rt.v (Tv.one (Lf.od J5))),fun n a=>B3b n a.1 a.2.1 a.2.2.1⟩
def C7x:Fn' (Y22×(Y7×(Y4×Unit))) Y7:=⟨141,Q78,(Rt.v (Tv.one (Lf.od J5))),fun n a=>C0p n a.1.1 a.1.2.1 a.1.2.2 a.2.1 a.2.2.1⟩
def D0z:=Sh.of (Sl.gap 1 (Sl.one (Lf.sh J5) (Sl.gap 1 (Sl.k (Kf.box 232 0) (Sl.gap 1 (Sl.k (Kf.box 360 0) (Sl.gap 1 (Sl.one (Lf.int .i64) (Sl.gap 27 Sl.nil))))))))) (Rw.box 232 J15 Q27 (Rw.box 360 J5 (Ls.cons (Lf.sh J4) Ls.nil) Rw.nil)) Ls.nil
def D5j (n:Nat):Tab Y7:=[([.b,.l,.r,.r],A8c D0z fun j a=>B7u n j a.1.1 a.1.2.1 a.2.1.1 a.2.1.2.1 a.2.1.2.2.1 a.2.2.1.1)]
def C7r:Fn' (Y22×(Y7×(Y4×Unit))) Y15:=⟨66,Q78,Q42,fun n a=>C0n n a.1.1 a.1.2.1 a.1.2.2 a.2.1 a.2.2.1⟩
def C9d:Fn' (Y22×(Y4×Unit)) Bool:=⟨142,(Tvs.cons Q28 (Tvs.cons (Tv.one (Lf.sh J4)) Tvs.nil)),(Rt.v (Tv.one Lf.bool)),fun n a=>C32 n a.1.1 a.1.2.1 a.1.2.2 a.2.1⟩
def D2g:=Sh.of (Sl.gap 1 (Sl.one (Lf.sh J4) (Sl.k (Kf.box 168 0) (Sl.gap 16 (Sl.one (Lf.sh .str) (Sl.one (Lf.int .i64) (Sl.one (Lf.int .i64) (Sl.gap 27 Sl.nil)))))))) (Rw.box 168 J15 Q27 Rw.nil) Ls.nil
def D7h (n:Nat):Tab Bool:=[([.b,.r,.l,.r,.r],A8c D2g fun j a=>B8v n j a.1.1 a.1.2.1 a.1.2.2.1 a.1.2.2.2.1 a.2.1.1 a.2.1.2.1 a.2.1.2.2.1)]
def B6m:Fn' (Y7×(Int×(Int×Unit))) Y7:=⟨143,(Tvs.cons (Tv.one (Lf.od J5)) Q36),(Rt.v (Tv.one (Lf.od J5))),fun n a=>B30 n a.1 a.2.1 a.2.2.1⟩
def C7s:Fn' (Y22×(Y7×(Y4×(Y4×Unit)))) Y15:=⟨67,(Tvs.cons Q28 (Tvs.cons (Tv.one (Lf.sh J5)) (Tvs.cons (Tv.one (Lf.sh J4)) Q9))),Q42,fun n a=>C0o n a.1.1 a.1.2.1 a.1.2.2 a.2.1 a.2.2.1 a.2.2.2.1⟩
def C7q:Fn' (Y22×(Y7×(Y4×Unit))) Y15:=⟨68,Q77,Q42,fun n a=>C0m n a.1.1 a.1.2.1 a.1.2.2 a.2.1 a.2.2.1⟩
def D29:Fn' (Y31×((Int×Y35)×Unit)) (Y31×(Int×Unit)):=⟨26,Q95,Q58,fun n a=>C73 n a.1.1 a.1.2 a.2.1.1 a.2.1.2.1 a.2.1.2.2.1 a.2.1.2.2.2.1 a.2.1.2.2.2.2.1 a.2.1.2.2.2.2.2.1 a.2.1.2.2.2.2.2.2.1 a.2.1.2.2.2.2.2.2.2.1 a.2.1.2.2.2.2.2.2.2.2.1 a.2.1.2.2.2.2.2.2.2.2.2⟩
def D28:Fn' (Y31×((Int×Y35)×Unit)) (Y31×(Int×Unit)):=⟨7,Q95,Q58,fun n a=>C72 n a.1.1 a.1.2 a.2.1.1 a.2.1.2.1 a.2.1.2.2.1 a.2.1.2.2.2.1 a.2.1.2.2.2.2.1 a.2.1.2.2.2.2.2.1 a.2.1.2.2.2.2.2.2.1 a.2.1.2.2.2.2.2.2.2.1 a.2.1.2.2.2.2.2.2.2.2.1 a.2.1.2.2.2.2.2.2.2.2.2⟩
def C9i:Fn' (Y24×Unit) Bool:=⟨49,Q10,(Rt.v (Tv.one Lf.bool)),fun n a=>C3b n a.1⟩
def D2j:=Sh.of (Sl.gap 1 (Sl.k (Kf.box 104 0) (Sl.gap 8 (Sl.one (Lf.sh J15) (Sl.one (Lf.int .i64) (Sl.one (Lf.int .i64) (Sl.gap 24 Sl.nil))))))) (Rw.box 104 J16 (Ls.cons (Lf.sh J15) Ls.nil) Rw.nil) Ls.nil
def D7k (n:Nat):Tab Bool:=[([.b,.r,.l,.r,.r],A8c D2j fun j a=>B60 n j a.1.1 a.1.2.1 a.1.2.2.1 a.2.1.1)]
def D2a:Fn' (Y31×Unit) Bool:=⟨19,Q32,(Rt.v (Tv.one Lf.bool)),fun n a=>C76 n a.1.1 a.1.2⟩
def D3h:=Sh.of (Sl.gap 1 (Sl.k (Kf.box 104 0) (Sl.gap 19 (Sl.one (Lf.sh J15) (Sl.one (Lf.int .i64) (Sl.one (Lf.int .i64) (Sl.gap 14 Sl.nil))))))) (Rw.box 104 J20 Q11 Rw.nil) Ls.nil
def D8s (n:Nat):Tab Bool:=[([.b,.r,.l,.r,.r],A8c D3h fun j a=>B9t n j a.1.1 a.1.2.1 a.1.2.2.1 a.2.1.1 a.2.1.2.1)]
def C6f:Fn' (Y4×Unit) Bool:=⟨71,(Tvs.cons (Tv.one (Lf.sh J4)) Tvs.nil),(Rt.v (Tv.one Lf.bool)),fun n a=>B8g n a.1⟩
def D0i:=Sh.of (Sl.one (Lf.sh J4) (Sl.gap 4 (Sl.one (Lf.sh J4) (Sl.one (Lf.int .i64) (Sl.one (Lf.int .i64) (Sl.gap 15 Sl.nil)))))) Rw.nil Ls.nil
def D3x (n:Nat):Tab Bool:=[([.b,.r,.l,.r],A8c D0i fun j a=>B70 n j a.1.1 a.1.2.1 a.1.2.2.1 a.1.2.2.2.1)]
def C5c:Fn' (Y28×Unit) Bool:=⟨72,Q75,(Rt.v (Tv.one Lf.bool)),fun n a=>B7n n a.1.1 a.1.2.1 a.1.2.2.1 a.1.2.2.2.1 a.1.2.2.2.2.1 a.1.2.2.2.2.2⟩
def C9l:Fn' (Y28×Unit) Bool:=⟨73,Q75,(Rt.v (Tv.one Lf.bool)),fun n a=>C1t n a.1.1 a.1.2.1 a.1.2.2.1 a.1.2.2.2.1 a.1.2.2.2.2.1 a.1.2.2.2.2.2⟩
def C84:Fn' ((Int×Y35)×Unit) Bool:=⟨27,Q94,(Rt.v (Tv.one Lf.bool)),fun n a=>C3q n a.1.1 a.1.2.1 a.1.2.2.1 a.1.2.2.2.1 a.1.2.2.2.2.1 a.1.2.2.2.2.2.1 a.1.2.2.2.2.2.2.1 a.1.2.2.2.2.2.2.2.1 a.1.2.2.2.2.2.2.2.2.1 a.1.2.2.2.2.2.2.2.2.2⟩
def C9s:Fn' (Y24×(ByteArray×Unit)) Int:=⟨28,(Tvs.cons (Tv.agg (Ls.one (Lf.sh J15))) (Tvs.cons (Tv.one Lf.str) Tvs.nil)),(Rt.v (Tv.one (Lf.int .i64))),fun n a=>C1u n a.1 a.2.1⟩
def D2o:=Sh.of (Sl.gap 1 (Sl.one Lf.str (Sl.gap 6 (Sl.one (Lf.sh J15) (Sl.one (Lf.int .i64) (Sl.one (Lf.int .i64) (Sl.gap 10 Sl.nil))))))) Rw.nil Ls.nil
def D7p (n:Nat):Tab Int:=[([.b,.r,.l,.r],A8c D2o fun j a=>B95 n j a.1.1 a.1.2.1 a.1.2.2.1 a.1.2.2.2.1)]
def C5b:Fn' (Y22×Unit) Y22:=⟨149,Q46,Q37,fun n a=>C0b n a.1.1 a.1.2.1 a.1.2.2⟩
def C64:Fn' (Y24×Unit) Y24:=⟨80,Q10,(Rt.v (Tv.agg (Ls.one (Lf.od J15)))),fun n a=>C1g n a.1⟩
def D04:=Sh.of (Sl.gap 2 (Sl.k (Kf.box 168 0) (Sl.k (Kf.box 232 0) (Sl.gap 4 (Sl.one (Lf.sh J15) (Sl.one (Lf.int .i64) (Sl.one (Lf.int .i64) (Sl.gap 12 Sl.nil)))))))) (Rw.box 168 J16 (Ls.k (Kf.ow 176) Ls.nil) (Rw.data 176 J15 (Rw.box 232 J16 (Ls.k (Kf.ow 240) Ls.nil) (Rw.data 240 J15 Rw.nil)))) Ls.nil
def D3p (n:Nat):Tab Y24:=[([.b,.r,.l,.r,.r],A8c D04 fun j a=>B6v n j a.1.1 a.1.2.1 a.1.2.2.1 a.2.2.1 a.2.2.2.2.1)]
def C8h:Fn' (Y24×(Y22×Unit)) Y24:=⟨148,(Tvs.cons (Tv.agg (Ls.one (Lf.sh J15))) Q46),(Rt.v (Tv.agg (Ls.one (Lf.sh J15)))),fun n a=>C3w n a.1 a.2.1.1 a.2.1.2.1 a.2.1.2.2⟩
def D1d:=Sh.of (Sl.gap 3 (Sl.k (Kf.box 232 0) (Sl.k (Kf.box 296 0) (Sl.k (Kf.box 360 0) (Sl.one Lf.bool (Sl.gap 4 (Sl.one (Lf.sh J15) (Sl.one (Lf.int .i64) (Sl.one (Lf.int .i64) (Sl.gap 34 Sl.nil)))))))))) (Rw.box 232 J15 Q27 (Rw.box 296 J16 (Ls.k (Kf.ow 304) Ls.nil) (Rw.data 304 J15 (Rw.box 360 J16 (Ls.k (Kf.ow 368) Ls.nil) (Rw.data 368 J15 Rw.nil))))) Ls.nil
def D5r (n:Nat):Tab Y24:=[([.b,.r,.l,.r,.r,.r],A8c D1d fun j a=>B4v n j a.1.1 a.1.2.1 a.1.2.2.1 a.1.2.2.2.1 a.2.1.1 a.2.1.2.1 a.2.1.2.2.1 a.2.2.2.1 a.2.2.2.2.2.1)]
def C8g:Fn' Z1 Bool:=⟨211,Q26,(Rt.v (Tv.one Lf.bool)),fun n a=>C3v n a.1 a.2.1⟩
def D1c:=Sh.of (Sl.gap 1 (Sl.one Lf.str (Sl.gap 5 (Sl.one (Lf.sh .str) (Sl.one (Lf.int .i64) (Sl.one (Lf.int .i64) (Sl.gap 7 Sl.nil))))))) Rw.nil Ls.nil
def D5q (n:Nat):Tab Bool:=[([.b,.r,.l,.r],A8c D1c fun j a=>B7z n j a.1.1 a.1.2.1 a.1.2.2.1 a.1.2.2.2.1)]
def C5a:Fn' (Y22×(Y28×Unit)) Int:=⟨150,(Tvs.cons Q28 Q75),(Rt.v (Tv.one (Lf.int .i64))),fun n a=>C24 n a.1.1 a.1.2.1 a.1.2.2 a.2.1.1 a.2.1.2.1 a.2.1.2.2.1 a.2.1.2.2.2.1 a.2.1.2.2.2.2.1 a.2.1.2.2.2.2.2⟩
def C4c:Fn' (Y22×(Y28×Unit)) Y22:=⟨151,(Tvs.cons Q28 Q75),Q37,fun n a=>C1f n a.1.1 a.1.2.1 a.1.2.2 a.2.1.1 a.2.1.2.1 a.2.1.2.2.1 a.2.1.2.2.2.1 a.2.1.2.2.2.2.1 a.2.1.2.2.2.2.2⟩
def C7l:=Sh.of (Sl.gap 3 (Sl.k (Kf.box 232 0) (Sl.k (Kf.box 296 0) (Sl.k (Kf.box 360 0) (Sl.gap 49 (Sl.one (Lf.int .i64) (Sl.one (Lf.int .i64) (Sl.gap 35 Sl.nil)))))))) (Rw.box 232 J19 Q67 (Rw.box 296 J15 Q20 (Rw.data 304 J12 (Rw.data 305 .str (Rw.box 360 J15 Q21 (Rw.data 368 J12 (Rw.data 369 .str Rw.nil))))))) Ls.nil
def C7k:=Sh.of (Sl.gap 3 (Sl.k (Kf.box 232 0) (Sl.k (Kf.box 296 0) (Sl.k (Kf.box 360 0) (Sl.gap 11 (Sl.one (Lf.sh J12) (Sl.one (Lf.int .i64) (Sl.one (Lf.int .i64) (Sl.gap 72 Sl.nil))))))))) (Rw.box 232 J19 Q67 (Rw.box 296 J15 Q20 (Rw.data 304 J12 (Rw.data 305 .str (Rw.box 360 J15 Q21 (Rw.data 368 J12 (Rw.data 369 .str Rw.nil))))))) Ls.nil
def D1j (n:Nat):Tab Y22:=[([.b,.r,.l,.r,.r,.r],A8c C7l fun j a=>B3x n j a.1.1 a.1.2.1 a.2.1.1 a.2.1.2.1 a.2.1.2.2.1 a.2.1.2.2.2.1 a.2.1.2.2.2.2.1 a.2.1.2.2.2.2.2.1 a.2.2.1.1 a.2.2.2.1 a.2.2.2.2.1 a.2.2.2.2.2.1.1 a.2.2.2.2.2.2.1 a.2.2.2.2.2.2.2.1),
  ([.b,.r,.l,.r,.r],A8c C7k fun j a=>B35 n j a.1.1 a.1.2.1 a.1.2.2.1 a.2.1.1 a.2.1.2.1 a.2.1.2.2.1 a.2.1.2.2.2.1 a.2.1.2.2.2.2.1 a.2.1.2.2.2.2.2.1 a.2.2.1.1 a.2.2.2.1 a.2.2.2.2.1 a.2.2.2.2.2.1.1 a.2.2.2.2.2.2.1 a.2.2.2.2.2.2.2.1)]
def C57:Fn' (Y24×(Y28×Unit)) Y26:=⟨74,Q86,(Rt.tup (Tvs.cons (Tv.agg (Ls.one (Lf.sh J15))) Q2)),fun n a=>C0a n a.1 a.2.1.1 a.2.1.2.1 a.2.1.2.2.1 a.2.1.2.2.2.1 a.2.1.2.2.2.2.1 a.2.1.2.2.2.2.2⟩
def C9n:Fn' (Y22×(Y4×Unit)) Bool:=⟨155,(Tvs.cons Q28 (Tvs.cons (Tv.one (Lf.sh J4)) Tvs.nil)),(Rt.v (Tv.one Lf.bool)),fun n a=>C3c n a.1.1 a.1.2.1 a.1.2.2 a.2.1⟩
def D2l:=Sh.of (Sl.gap 1 (Sl.one (Lf.sh J4) (Sl.k (Kf.box 168 0) (Sl.gap 16 (Sl.one (Lf.sh .str) (Sl.one (Lf.int .i64) (Sl.one (Lf.int .i64) (Sl.gap 18 Sl.nil)))))))) (Rw.box 168 J15 Q27 Rw.nil) Ls.nil
def D7m (n:Nat):Tab Bool:=[([.b,.r,.l,.r,.r],A8c D2l fun j a=>B92 n j a.1.1 a.1.2.1 a.1.2.2.1 a.1.2.2.2.1 a.2.1.1 a.2.1.2.1 a.2.1.2.2.1)]
def C3i:Fn' Y15 Y7:=⟨156,(Tvs.cons (Tv.one (Lf.sh J5)) Q2),(Rt.v (Tv.one (Lf.od J5))),fun n a=>B8o n a.1 a.2.1⟩
def C6g:=Sh.of (Sl.gap 1 (Sl.one (Lf.int .i64) (Sl.gap 3 (Sl.k (Kf.ow 360) (Sl.gap 3 (Sl.one (Lf.sh J5) (Sl.one (Lf.int .i64) (Sl.one (Lf.int .i64) (Sl.gap 14 Sl.nil))))))))) (Rw.data 360 J5 Rw.nil) Ls.nil
def D0j (n:Nat):Tab Y7:=[([.b,.r,.l,.r,.r],A8c C6g fun j a=>B42 n j a.1.1 a.1.2.1 a.1.2.2.1 a.1.2.2.2.1 a.2.1)]
def C82:Fn' (Y22×(Y7×(Y4×(Y4×Unit)))) Y15:=⟨77,(Tvs.cons Q28 (Tvs.cons (Tv.one (Lf.sh J5)) (Tvs.cons (Tv.one (Lf.sh J4)) Q9))),Q42,fun n a=>C29 n a.1.1 a.1.2.1 a.1.2.2 a.2.1 a.2.2.1 a.2.2.2.1⟩
def C80:Fn' (Y22×(Y7×(Y4×Unit))) Y15:=⟨78,Q77,Q42,fun n a=>C28 n a.1.1 a.1.2.1 a.1.2.2 a.2.1 a.2.2.1⟩
def C60:Fn' (Y22×(Y7×(Y28×Unit))) Y15:=⟨79,(Tvs.cons Q28 (Tvs.cons (Tv.one (Lf.sh J5)) Q75)),Q42,fun n a=>C2r n a.1.1 a.1.2.1 a.1.2.2 a.2.1 a.2.2.1.1 a.2.2.1.2.1 a.2.2.1.2.2.1 a.2.2.1.2.2.2.1 a.2.2.1.2.2.2.2.1 a.2.2.1.2.2.2.2.2⟩
def D01:=Sh.of (Sl.gap 5 (Sl.k (Kf.box 360 0) (Sl.gap 4 (Sl.k (Kf.ow 680) (Sl.one (Lf.int .i64) (Sl.gap 2 (Sl.k (Kf.box 936 0) (Sl.gap 39 (Sl.one (Lf.sh J5) (Sl.one (Lf.int .i64) (Sl.one (Lf.int .i64) (Sl.gap 5 (Sl.one (Lf.sh J4) (Sl.one (Lf.int .i64) (Sl.one (Lf.int .i64) (Sl.gap 41 Sl.nil)))))))))))))))) (Rw.box 360 J19 Q67 (Rw.data 680 J5 (Rw.box 936 J5 (Ls.k (Kf.ow 944) Ls.nil) (Rw.data 944 J4 Rw.nil)))) Ls.nil
def D00:=Sh.of (Sl.gap 5 (Sl.k (Kf.box 360 0) (Sl.gap 4 (Sl.k (Kf.ow 680) (Sl.one (Lf.int .i64) (Sl.gap 42 (Sl.one (Lf.sh J5) (Sl.one (Lf.int .i64) (Sl.one (Lf.int .i64) (Sl.gap 49 Sl.nil)))))))))) (Rw.box 360 J19 Q67 (Rw.data 680 J5 Rw.nil)) Ls.nil
def D3n (n:Nat):Tab Y15:=[([.b,.r,.l,.r,.r,.b,.l,.r,.r,.p,.b,.r,.l,.r,.r,.r,.r,.r,.r],A2r D01 fun i j a=>B3z n (fun y0 y1 y2 y3 y4 y5 y6 y7 y8 y9 y10=>B4g n i y0 y1 y2 y3 y4 y5 y6 y7 y8 y9 y10) j a.1.1 a.1.2.1 a.1.2.2.1 a.1.2.2.2.1 a.1.2.2.2.2.1 a.1.2.2.2.2.2.1 a.1.2.2.2.2.2.2.1 a.2.1.1 a.2.1.2.1 a.2.1.2.2.1 a.2.1.2.2.2.1 a.2.1.2.2.2.2.1 a.2.1.2.2.2.2.2.1 a.2.2.1 a.2.2.2.2.1),
  ([.b,.r,.l,.r,.r,.r,.r,.r,.r],A8c D00 fun j a=>B4g n j a.1.1 a.1.2.1 a.1.2.2.1 a.1.2.2.2.1 a.2.1.1 a.2.1.2.1 a.2.1.2.2.1 a.2.1.2.2.2.1 a.2.1.2.2.2.2.1 a.2.1.2.2.2.2.2.1 a.2.2.1)]
def C6d:Fn' (Y22×(Y7×((Int×Y35)×Unit))) Y15:=⟨30,(Tvs.cons Q28 (Tvs.cons (Tv.one (Lf.sh J5)) Q94)),Q42,fun n a=>B9y n a.1.1 a.1.2.1 a.1.2.2 a.2.1 a.2.2.1.1 a.2.2.1.2.1 a.2.2.1.2.2.1 a.2.2.1.2.2.2.1 a.2.2.1.2.2.2.2.1 a.2.2.1.2.2.2.2.2.1 a.2.2.1.2.2.2.2.2.2.1 a.2.2.1.2.2.2.2.2.2.2.1 a.2.2.1.2.2.2.2.2.2.2.2.1 a.2.2.1.2.2.2.2.2.2.2.2.2⟩
def C67:Fn' (Y7×Unit) Y7:=⟨75,(Tvs.cons (Tv.one (Lf.sh J5)) Tvs.nil),(Rt.v (Tv.one (Lf.od J5))),fun n a=>B9v n a.1⟩
def D06:=Sh.of (Sl.gap 3 (Sl.k (Kf.ow 232) (Sl.gap 3 (Sl.one (Lf.sh J5) (Sl.one (Lf.int .i64) (Sl.one (Lf.int .i64) (Sl.gap 10 Sl.nil))))))) (Rw.data 232 J5 Rw.nil) Ls.nil
def D3r (n:Nat):Tab Y7:=[([.b,.r,.l,.r,.r],A8c D06 fun j a=>B6w n j a.1.1 a.1.2.1 a.1.2.2.1 a.2.1)]
def C4e:Fn' (Y31×((Int×Y35)×Unit)) (Y31×(Int×Unit)):=⟨29,Q95,(Rt.tup (Tvs.cons Q12 Q2)),fun n a=>B9n n a.1.1 a.1.2 a.2.1.1 a.2.1.2.1 a.2.1.2.2.1 a.2.1.2.2.2.1 a.2.1.2.2.2.2.1 a.2.1.2.2.2.2.2.1 a.2.1.2.2.2.2.2.2.1 a.2.1.2.2.2.2.2.2.2.1 a.2.1.2.2.2.2.2.2.2.2.1 a.2.1.2.2.2.2.2.2.2.2.2⟩
def C7n:=Sh.of (Sl.gap 2 (Sl.k (Kf.box 168 0) (Sl.k (Kf.box 232 0) (Sl.k (Kf.box 296 0) (Sl.gap 3 (Sl.k (Kf.box 552 0) (Sl.gap 20 (Sl.one (Lf.sh J15) (Sl.one (Lf.int .i64) (Sl.one (Lf.int .i64) (Sl.gap 54 Sl.nil))))))))))) (Rw.box 168 J20 Q11 (Rw.box 232 J24 (Ls.cons (Lf.int .i64) (Ls.cons Lf.str (Ls.cons (Lf.sh J4) (Ls.cons (Lf.sh J4) Q67)))) (Rw.box 296 J20 (Ls.k (Kf.ow 304) (Ls.k (Kf.ow 305) Ls.nil)) (Rw.data 304 J15 (Rw.data 305 J6 (Rw.box 552 J20 (Ls.cons (Lf.sh J15) (Ls.k (Kf.ow 560) Ls.nil)) (Rw.data 560 J6 Rw.nil))))))) Ls.nil
def D1l (n:Nat):Tab (Y31×(Int×Unit)):=[([.b,.r,.l,.r,.r,.r,.r],A8c C7n fun j a=>B3e n j a.1.1 a.1.2.1 a.1.2.2.1 a.2.1.1 a.2.1.2.1 a.2.2.1.1 a.2.2.1.2.1 a.2.2.1.2.2.1 a.2.2.1.2.2.2.1 a.2.2.1.2.2.2.2.1 a.2.2.1.2.2.2.2.2.1 a.2.2.1.2.2.2.2.2.2.1 a.2.2.1.2.2.2.2.2.2.2.1 a.2.2.1.2.2.2.2.2.2.2.2.1 a.2.2.1.2.2.2.2.2.2.2.2.2.1 a.2.2.2.2.1 a.2.2.2.2.2.1 a.2.2.2.2.2.2.1.1 a.2.2.2.2.2.2.2.1)]
def C6b:Fn' (Y31×Unit) Y31:=⟨31,Q32,(Rt.v Q13),fun n a=>C1i n a.1.1 a.1.2⟩
def D0a:=Sh.of (Sl.gap 2 (Sl.k (Kf.box 168 0) (Sl.k (Kf.box 232 0) (Sl.gap 7 (Sl.one (Lf.sh J6) (Sl.one (Lf.int .i64) (Sl.one (Lf.int .i64) (Sl.gap 14 Sl.nil)))))))) (Rw.box 168 J20 (Ls.k (Kf.ow 176) (Ls.k (Kf.ow 177) Ls.nil)) (Rw.data 176 J15 (Rw.data 177 J6 (Rw.box 232 J20 (Ls.k (Kf.ow 240) (Ls.k (Kf.ow 241) Ls.nil)) (Rw.data 240 J15 (Rw.data 241 J6 Rw.nil)))))) Ls.nil
def D3u (n:Nat):Tab Y31:=[([.b,.r,.l,.r,.r],A8c D0a fun j a=>B6y n j a.1.1 a.1.2.1 a.1.2.2.1 a.2.2.1 a.2.2.2.1 a.2.2.2.2.2.1 a.2.2.2.2.2.2.1)]
def D2b:Fn' (Y31×((Int×Y35)×Unit)) (Y31×(Int×Unit)):=⟨8,Q95,(Rt.tup (Tvs.cons Q12 Q2)),fun n a=>C77 n a.1.1 a.1.2 a.2.1.1 a.2.1.2.1 a.2.1.2.2.1 a.2.1.2.2.2.1 a.2.1.2.2.2.2.1 a.2.1.2.2.2.2.2.1 a.2.1.2.2.2.2.2.2.1 a.2.1.2.2.2.2.2.2.2.1 a.2.1.2.2.2.2.2.2.2.2.1 a.2.1.2.2.2.2.2.2.2.2.2⟩
def C9b:Fn' (Y31×Unit) Int:=⟨9,Q32,(Rt.v (Tv.one (Lf.int .i64))),fun n a=>C30 n a.1.1 a.1.2⟩
def D2f:=Sh.of (Sl.gap 3 (Sl.one (Lf.int .i64) (Sl.gap 6 (Sl.one (Lf.sh J6) (Sl.one (Lf.int .i64) (Sl.one (Lf.int .i64) (Sl.gap 10 Sl.nil))))))) Rw.nil Ls.nil
def D7g (n:Nat):Tab Int:=[([.b,.r,.l,.r,.r,.r],A8c D2f fun j a=>B8t n j a.1.1 a.1.2.1 a.1.2.2.1 a.1.2.2.2.1)]
def C3z:Fn' ((List Int)×Unit) Bool:=⟨3,Q7,(Rt.v (Tv.one Lf.bool)),fun n a=>C6v n a.1⟩
def E14:List Ent:=[B0c C87,B0c C63,B0c C59,B0c C66,B0c C9j,B0c C8a,B0c C9r,B0c C8e,B0c C65,B0c C8d,B0c C68,B0c C85,B0c C88,B0c C9q,B0c C9k,B0c C61,B0c C69,B0c C9p,B0c C8i,B0c C62,B0c C5z,B0c C83,B0c C2u,B0c C9o,B0c C8k,B0c C8j,B0c C81,B0c C6a,B0c C6c,B0c C8b,B0c C89,B0c C86,B0c C8c,B0c C4a,B0c C8l,B0c C9m,B0c C4d,B0c C8f,B0c C6e,B0c C4b,B0c C3j,B0c C58,B0c C7z,B0c C7v,B0c C9e,B0c C9a,B0c C5p,B0c B3n,B0c C99,B0c C5s,B0c C98,B0c C7y,B0c C9h,B0c C9f,B0c C5t,B0c C5q,B0c C7t,B0c D27,B0c C49,B0c C48,B0c C53,B0c B71,B0c B8h,B0c C56,B0c C9c,B0c C47,B0c B3k,B0c B3h,B0c C5u,B0c C7u,B0c C51,B0c B3i,B0c C7p,B0c B8i,B0c B7o,B0c C5x,B0c C5w,B0c B55,B0c B54,B0c C3h,B0c B3j,B0c B3f,B0c C52,B0c C55,B0c C54,B0c C7w,B0c B5x,B0c B5w,B0c B6n,B0c C5r,B0c C5v,B0c B72,B0c C5y,B0c B3o,B0c C9g,B0c B6o,B0c C7x,B0c C7r,B0c C9d,B0c B6m,B0c C7s,B0c C7q,B0c D29,B0c D28,B0c C9i,B0c D2a,B0c C6f,B0c C5c,B0c C9l,B0c C84,B0c C9s,B0c C5b,B0c C64,B0c C8h,B0c C8g,B0c C5a,B0c C4c,B0c C57,B0c C9n,B0c C3i,B0c C82,B0c C80,B0c C60,B0c C6d,B0c C67,B0c C4e,B0c C6b,B0c D2b,B0c C9b,B0c C3z]
def E01 (n:Nat):CF:=chain E14 n
abbrev EqB {A T:Type}(F:Fn' A T)(n:Nat)(W:Tab T):Prop:=∀a,A1r env (E01 n) n F.g W (F.args.to a) F.ret.un=F.run (n+1) a
abbrev TbB {A T:Type}(F:Fn' A T)(n:Nat)(W:Tab T):Prop:=A7f env (E01 n) n F.g W F.ret.un
abbrev B26 (n:Nat):Prop:=∀e∈E14,B07 Tryz.prog env n e
abbrev B2n {A T:Type}(n:Nat)(F:Fn' A T):Prop:=B07 Tryz.prog env (n+1) (B0c F)
set_option maxRecDepth 1000000 in
theorem E09 (n:Nat):K2 (E01 n):=A80 (by
  simp only[E14,List.forall_mem_cons,List.not_mem_nil,false_implies,implies_true,and_true]
  repeat' apply And.intro
  all_goals exact B1y _)
theorem V1 {α:Type}{p:α→Prop}{a:α}{l:List α}(h1:p a)(h2:∀x∈l,p x):∀x∈a::l,p x:=List.forall_mem_cons.mpr ⟨h1,h2⟩
theorem B2k {α:Type}{p:α→Prop}:∀x∈([]:List α),p x:=fun _ h=>by cases h
theorem st {n:Nat}{A T:Type}{F:Fn' A T}(W:Tab T)(h:B26 n)(ht:TbB F n W)(he:EqB F n W):A9s Tryz.prog env F (n+1):=B14 E2x E2y (A8t h) (E09 n) ht he
theorem sv {n:Nat}{A T:Type}{F:Fn' A T}(W:Tab T)(h:B26 n)(ht:∀q∈W,RowOk env (E01 n) n F.g W F.ret.un q)(he:EqB F n W):B2n n F:=B1g (st W h (B24 ht) he)
theorem sn {n:Nat}{A T:Type}{F:Fn' A T}(h:B26 n)(he:EqB F n []):B2n n F:=B1g (st [] h B1a he)
theorem s0 {A T:Type}{F:Fn' A T}(h:∀a,F.run 0 a=none):B07 Tryz.prog env 0 (B0c F):=B1g (B15 h)
theorem sx {n:Nat}{A T:Type}{F:Fn' A T}(h:A9s Tryz.prog env F (n+1)):B2n n F:=B1g h
theorem D6j (n:Nat)(h:B26 n):B2n n C87:=sv (D5m n) h (V1 (B1q (fun _=>rfl) (fun _ _=>by kernel_rfl)) B2k) fun a=>by kernel_rfl
theorem D4z (n:Nat)(h:B26 n):B2n n C63:=sn h fun a=>by kernel_rfl
theorem D37 (n:Nat)(h:B26 n):B2n n C59:=sn h fun a=>by kernel_rfl
theorem D52 (n:Nat)(h:B26 n):B2n n C66:=sn h fun a=>by kernel_rfl
theorem D8b (n:Nat)(h:B26 n):B2n n C9j:=sv (D7l n) h (V1 (B1q (fun _=>rfl) (fun _ _=>by kernel_rfl)) B2k) fun a=>by kernel_rfl
theorem D6m (n:Nat)(h:B26 n):B2n n C8a:=sv (D5n n) h (V1 (B1q (fun _=>rfl) (fun _ _=>by kernel_rfl)) B2k) fun a=>by kernel_rfl
theorem D8j (n:Nat)(h:B26 n):B2n n C9r:=sn h fun a=>by kernel_rfl
theorem D6q (n:Nat)(h:B26 n):B2n n C8e:=sn h fun a=>by kernel_rfl
theorem D51 (n:Nat)(h:B26 n):B2n n C65:=sv (D3q n) h (V1 (B1q (fun _=>rfl) (fun _ _=>by kernel_rfl)) B2k) fun a=>by kernel_rfl
theorem D6p (n:Nat)(h:B26 n):B2n n C8d:=sv (D5p n) h (V1 (B1q (fun _=>rfl) (fun _ _=>by kernel_rfl)) B2k) fun a=>by kernel_rfl
theorem D54 (n:Nat)(h:B26 n):B2n n C68:=sv (D3s n) h (V1 (B1r (fun _ _=>rfl) (fun _ _ _=>by kernel_rfl)) (V1 (B1q (fun _=>rfl) (fun _ _=>by kernel_rfl)) B2k)) fun a=>by kernel_rfl
theorem D6h (n:Nat)(h:B26 n):B2n n C85:=sv (D5l n) h (V1 (B1q (fun _=>rfl) (fun _ _=>by kernel_rfl)) B2k) fun a=>by kernel_rfl
theorem D6k (n:Nat)(h:B26 n):B2n n C88:=sn h fun a=>by kernel_rfl
theorem D8i (n:Nat)(h:B26 n):B2n n C9q:=sn h fun a=>by kernel_rfl
theorem D8c (n:Nat)(h:B26 n):B2n n C9k:=sn h fun a=>by kernel_rfl
theorem D4x (n:Nat)(h:B26 n):B2n n C61:=sv (D3o n) h (V1 (B1q (fun _=>rfl) (fun _ _=>by kernel_rfl)) (V1 (B1q (fun _=>rfl) (fun _ _=>by kernel_rfl)) B2k)) fun a=>by kernel_rfl
theorem D55 (n:Nat)(h:B26 n):B2n n C69:=sn h fun a=>by kernel_rfl
theorem D8h (n:Nat)(h:B26 n):B2n n C9p:=sv (D7o n) h (V1 (B1q (fun _=>rfl) (fun _ _=>by kernel_rfl)) B2k) fun a=>by kernel_rfl
theorem D6u (n:Nat)(h:B26 n):B2n n C8i:=sv (D5s n) h (V1 (B1q (fun _=>rfl) (fun _ _=>by kernel_rfl)) B2k) fun a=>by kernel_rfl
theorem D4y (n:Nat)(h:B26 n):B2n n C62:=sn h fun a=>by kernel_rfl
theorem D4v (n:Nat)(h:B26 n):B2n n C5z:=sv (D3m n) h (V1 (B1q (fun _=>rfl) (fun _ _=>by kernel_rfl)) B2k) fun a=>by kernel_rfl
theorem D6f (n:Nat)(h:B26 n):B2n n C83:=sv (D5k n) h (V1 (B1q (fun _=>rfl) (fun _ _=>by kernel_rfl)) B2k) fun a=>by kernel_rfl
theorem C96 (n:Nat)(h:B26 n):B2n n C2u:=sv (C8v n) h (V1 (B1q (fun _=>rfl) (fun _ _=>by kernel_rfl)) B2k) fun a=>by kernel_rfl
theorem D8g (n:Nat)(h:B26 n):B2n n C9o:=sv (D7n n) h (V1 (B1q (fun _=>rfl) (fun _ _=>by kernel_rfl)) B2k) fun a=>by kernel_rfl
theorem D6w (n:Nat)(h:B26 n):B2n n C8k:=sn h fun a=>by kernel_rfl
theorem D6v (n:Nat)(h:B26 n):B2n n C8j:=sv (D5t n) h (V1 (B1q (fun _=>rfl) (fun _ _=>by kernel_rfl)) B2k) fun a=>by kernel_rfl
theorem D6d (n:Nat)(h:B26 n):B2n n C81:=sn h fun a=>by kernel_rfl
theorem D56 (n:Nat)(h:B26 n):B2n n C6a:=sv (D3t n) h (V1 (B1q (fun _=>rfl) (fun _ _=>by kernel_rfl)) B2k) fun a=>by kernel_rfl
theorem D58 (n:Nat)(h:B26 n):B2n n C6c:=sv (D3v n) h (V1 (B1q (fun _=>rfl) (fun _ _=>by kernel_rfl)) B2k) fun a=>by kernel_rfl
theorem D6n (n:Nat)(h:B26 n):B2n n C8b:=sn h fun a=>by kernel_rfl
theorem D6l (n:Nat)(h:B26 n):B2n n C89:=sn h fun a=>by kernel_rfl
theorem D6i (n:Nat)(h:B26 n):B2n n C86:=sn h fun a=>by kernel_rfl
theorem D6o (n:Nat)(h:B26 n):B2n n C8c:=sv (D5o n) h (V1 (B1q (fun _=>rfl) (fun _ _=>by kernel_rfl)) (V1 (B1q (fun _=>rfl) (fun _ _=>by kernel_rfl)) (V1 (B1q (fun _=>rfl) (fun _ _=>by kernel_rfl)) (V1 (B1q (fun _=>rfl) (fun _ _=>by kernel_rfl)) (V1 (B1q (fun _=>rfl) (fun _ _=>by kernel_rfl)) (V1 (B1q (fun _=>rfl) (fun _ _=>by kernel_rfl)) (V1 (B1q (fun _=>rfl) (fun _ _=>by kernel_rfl)) B2k))))))) fun a=>by kernel_rfl
theorem D21 (n:Nat)(h:B26 n):B2n n C4a:=sv (D1h n) h (V1 (B1q (fun _=>rfl) (fun _ _=>by kernel_rfl)) (V1 (B1q (fun _=>rfl) (fun _ _=>by kernel_rfl)) (V1 (B1q (fun _=>rfl) (fun _ _=>by kernel_rfl)) (V1 (B1q (fun _=>rfl) (fun _ _=>by kernel_rfl)) B2k)))) fun a=>by kernel_rfl
theorem D6x (n:Nat)(h:B26 n):B2n n C8l:=sn h fun a=>by kernel_rfl
theorem D8e (n:Nat)(h:B26 n):B2n n C9m:=sn h fun a=>by kernel_rfl
theorem D24 (n:Nat)(h:B26 n):B2n n C4d:=sv (D1k n) h (V1 (B1q (fun _=>rfl) (fun _ _=>by kernel_rfl)) B2k) fun a=>by kernel_rfl
theorem D6r (n:Nat)(h:B26 n):B2n n C8f:=sn h fun a=>by kernel_rfl
theorem D5a (n:Nat)(h:B26 n):B2n n C6e:=sv (D3w n) h (V1 (B1q (fun _=>rfl) (fun _ _=>by kernel_rfl)) (V1 (B1q (fun _=>rfl) (fun _ _=>by kernel_rfl)) (V1 (B1q (fun _=>rfl) (fun _ _=>by kernel_rfl)) (V1 (B1q (fun _=>rfl) (fun _ _=>by kernel_rfl)) (V1 (B1q (fun _=>rfl) (fun _ _=>by kernel_rfl)) (V1 (B1q (fun _=>rfl) (fun _ _=>by kernel_rfl)) B2k)))))) fun a=>by kernel_rfl
theorem D22 (n:Nat)(h:B26 n):B2n n C4b:=sv (D1i n) h (V1 (B1q (fun _=>rfl) (fun _ _=>by kernel_rfl)) (V1 (B1q (fun _=>rfl) (fun _ _=>by kernel_rfl)) (V1 (B1q (fun _=>rfl) (fun _ _=>by kernel_rfl)) (V1 (B1q (fun _=>rfl) (fun _ _=>by kernel_rfl)) (V1 (B1q (fun _=>rfl) (fun _ _=>by kernel_rfl)) (V1 (B1q (fun _=>rfl) (fun _ _=>by kernel_rfl)) B2k)))))) fun a=>by kernel_rfl
theorem D0u (n:Nat)(h:B26 n):B2n n C3j:=sv (D0k n) h (V1 (B1q (fun _=>rfl) (fun _ _=>by kernel_rfl)) (V1 (B1q (fun _=>rfl) (fun _ _=>by kernel_rfl)) (V1 (B1q (fun _=>rfl) (fun _ _=>by kernel_rfl)) (V1 (B1q (fun _=>rfl) (fun _ _=>by kernel_rfl)) (V1 (B1q (fun _=>rfl) (fun _ _=>by kernel_rfl)) B2k))))) fun a=>by kernel_rfl
theorem D36 (n:Nat)(h:B26 n):B2n n C58:=sn h fun a=>by kernel_rfl
theorem D6a (n:Nat)(h:B26 n):B2n n C7z:=sn h fun a=>by kernel_rfl
theorem D66 (n:Nat)(h:B26 n):B2n n C7v:=sv (D5h n) h (V1 (B1q (fun _=>rfl) (fun _ _=>by kernel_rfl)) B2k) fun a=>by kernel_rfl
theorem D86 (n:Nat)(h:B26 n):B2n n C9e:=sn h fun a=>by kernel_rfl
theorem D82 (n:Nat)(h:B26 n):B2n n C9a:=sn h fun a=>by kernel_rfl
theorem D4l (n:Nat)(h:B26 n):B2n n C5p:=sn h fun a=>by kernel_rfl
theorem B6i (n:Nat)(h:B26 n):B2n n B3n:=sv (B65 n) h (V1 (B1q (fun _=>rfl) (fun _ _=>by kernel_rfl)) B2k) fun a=>by kernel_rfl
theorem D81 (n:Nat)(h:B26 n):B2n n C99:=sn h fun a=>by kernel_rfl
theorem D4o (n:Nat)(h:B26 n):B2n n C5s:=sv (D3k n) h (V1 (B1q (fun _=>rfl) (fun _ _=>by kernel_rfl)) (V1 (B1q (fun _=>rfl) (fun _ _=>by kernel_rfl)) B2k)) fun a=>by kernel_rfl
theorem D80 (n:Nat)(h:B26 n):B2n n C98:=sv (D7f n) h (V1 (B1q (fun _=>rfl) (fun _ _=>by kernel_rfl)) B2k) fun a=>by kernel_rfl
theorem D69 (n:Nat)(h:B26 n):B2n n C7y:=sn h fun a=>by kernel_rfl
theorem D89 (n:Nat)(h:B26 n):B2n n C9h:=sv (D7j n) h (V1 (B1q (fun _=>rfl) (fun _ _=>by kernel_rfl)) B2k) fun a=>by kernel_rfl
theorem D87 (n:Nat)(h:B26 n):B2n n C9f:=sv (D7i n) h (V1 (B1q (fun _=>rfl) (fun _ _=>by kernel_rfl)) B2k) fun a=>by kernel_rfl
theorem D4p (n:Nat)(h:B26 n):B2n n C5t:=sn h fun a=>by kernel_rfl
theorem D4m (n:Nat)(h:B26 n):B2n n C5q:=sv (D3i n) h (V1 (B1q (fun _=>rfl) (fun _ _=>by kernel_rfl)) B2k) fun a=>by kernel_rfl
theorem D64 (n:Nat)(h:B26 n):B2n n C7t:=sv (D5g n) h (V1 (B1q (fun _=>rfl) (fun _ _=>by kernel_rfl)) B2k) fun a=>by kernel_rfl
theorem D9f (n:Nat)(h:B26 n):B2n n D27:=sv (D8r n) h (V1 (B1q (fun _=>rfl) (fun _ _=>by kernel_rfl)) B2k) fun a=>by kernel_rfl
theorem D20 (n:Nat)(h:B26 n):B2n n C49:=sn h fun a=>by kernel_rfl
theorem D1z (n:Nat)(h:B26 n):B2n n C48:=sn h fun a=>by kernel_rfl
theorem D31 (n:Nat)(h:B26 n):B2n n C53:=sn h fun a=>by kernel_rfl
theorem C1j (n:Nat)(h:B26 n):B2n n B71:=sv (C0x n) h (V1 (B1q (fun _=>rfl) (fun _ _=>by kernel_rfl)) B2k) fun a=>by kernel_rfl
theorem C2i (n:Nat)(h:B26 n):B2n n B8h:=sv (C2e n) h (V1 (B1q (fun _=>rfl) (fun _ _=>by kernel_rfl)) B2k) fun a=>by kernel_rfl
theorem D34 (n:Nat)(h:B26 n):B2n n C56:=sn h fun a=>by kernel_rfl
theorem D84 (n:Nat)(h:B26 n):B2n n C9c:=sn h fun a=>by kernel_rfl
theorem D1y (n:Nat)(h:B26 n):B2n n C47:=sn h fun a=>by kernel_rfl
theorem B5v (n:Nat)(h:B26 n):B2n n B3k:=sv (B5q n) h (V1 (B1q (fun _=>rfl) (fun _ _=>by kernel_rfl)) B2k) fun a=>by kernel_rfl
theorem B52 (n:Nat)(h:B26 n):B2n n B3h:=sn h fun a=>by kernel_rfl
theorem D4q (n:Nat)(h:B26 n):B2n n C5u:=sn h fun a=>by kernel_rfl
theorem D65 (n:Nat)(h:B26 n):B2n n C7u:=sn h fun a=>by kernel_rfl
theorem D2z (n:Nat)(h:B26 n):B2n n C51:=sn h fun a=>by kernel_rfl
theorem B53 (n:Nat)(h:B26 n):B2n n B3i:=sv (B51 n) h (V1 (B1q (fun _=>rfl) (fun _ _=>by kernel_rfl)) B2k) fun a=>by kernel_rfl
theorem D60 (n:Nat)(h:B26 n):B2n n C7p:=sn h fun a=>by kernel_rfl
theorem C2j (n:Nat)(h:B26 n):B2n n B8i:=sv (C2f n) h (V1 (B1q (fun _=>rfl) (fun _ _=>by kernel_rfl)) B2k) fun a=>by kernel_rfl
theorem C1n (n:Nat)(h:B26 n):B2n n B7o:=sn h fun a=>by kernel_rfl
theorem D4t (n:Nat)(h:B26 n):B2n n C5x:=sn h fun a=>by kernel_rfl
theorem D4s (n:Nat)(h:B26 n):B2n n C5w:=sv (D3l n) h (V1 (B1q (fun _=>rfl) (fun _ _=>by kernel_rfl)) B2k) fun a=>by kernel_rfl
theorem B9c (n:Nat):A9s Tryz.prog env B55 (n+1):=fun a r h=>B21 (f:=J15) E1k Tryz.underlying23 Tryz.underlying3 (B0n (P:=Tryz.prog) (e:=63) (f:=J15) (eb:=64) (by kernel_rfl)) (by decide) h
theorem B9b (n:Nat):A9s Tryz.prog env B54 (n+1):=fun a r h=>B1x (f:=J15) E12 Tryz.underlying23 (B0n (P:=Tryz.prog) (e:=63) (f:=J15) (eb:=64) (by kernel_rfl)) h
theorem D0s (n:Nat)(h:B26 n):B2n n C3h:=sn h fun a=>by kernel_rfl
theorem B5p (n:Nat)(h:B26 n):B2n n B3j:=sv (B5n n) h (V1 (B1q (fun _=>rfl) (fun _ _=>by kernel_rfl)) B2k) fun a=>by kernel_rfl
theorem B4y (n:Nat)(h:B26 n):B2n n B3f:=sv (B4s n) h (V1 (B1q (fun _=>rfl) (fun _ _=>by kernel_rfl)) B2k) fun a=>by kernel_rfl
theorem D30 (n:Nat)(h:B26 n):B2n n C52:=sv (D2p n) h (V1 (B1q (fun _=>rfl) (fun _ _=>by kernel_rfl)) B2k) fun a=>by kernel_rfl
theorem D33 (n:Nat)(h:B26 n):B2n n C55:=sn h fun a=>by kernel_rfl
theorem D32 (n:Nat)(h:B26 n):B2n n C54:=sv (D2q n) h (V1 (B1q (fun _=>rfl) (fun _ _=>by kernel_rfl)) B2k) fun a=>by kernel_rfl
theorem D67 (n:Nat)(h:B26 n):B2n n C7w:=sv (D5i n) h (V1 (B1q (fun _=>rfl) (fun _ _=>by kernel_rfl)) B2k) fun a=>by kernel_rfl
theorem B9q (n:Nat):A9s Tryz.prog env B5x (n+1):=fun a r h=>B21 (f:=J6) E1j Tryz.underlying26 Tryz.underlying3 (B0n (P:=Tryz.prog) (e:=65) (f:=J6) (eb:=24) (by kernel_rfl)) (by decide) h
theorem B9p (n:Nat):A9s Tryz.prog env B5w (n+1):=fun a r h=>B1x (f:=J6) E10 Tryz.underlying26 (B0n (P:=Tryz.prog) (e:=65) (f:=J6) (eb:=24) (by kernel_rfl)) h
theorem C04 (n:Nat):A9s Tryz.prog env B6n (n+1):=fun a r h=>B1x (f:=J4) E13 Tryz.underlying29 (B0n (P:=Tryz.prog) (e:=88) (f:=J4) (eb:=32) (by kernel_rfl)) h
theorem D4n (n:Nat)(h:B26 n):B2n n C5r:=sv (D3j n) h (V1 (B1q (fun _=>rfl) (fun _ _=>by kernel_rfl)) (V1 (B1q (fun _=>rfl) (fun _ _=>by kernel_rfl)) B2k)) fun a=>by kernel_rfl
theorem D4r (n:Nat)(h:B26 n):B2n n C5v:=sn h fun a=>by kernel_rfl
theorem C1k (n:Nat)(h:B26 n):B2n n B72:=sv (C0y n) h (V1 (B1q (fun _=>rfl) (fun _ _=>by kernel_rfl)) B2k) fun a=>by kernel_rfl
theorem D4u (n:Nat)(h:B26 n):B2n n C5y:=sn h fun a=>by kernel_rfl
theorem B6j (n:Nat)(h:B26 n):B2n n B3o:=sv (B66 n) h (V1 (B1q (fun _=>rfl) (fun _ _=>by kernel_rfl)) B2k) fun a=>by kernel_rfl
theorem D88 (n:Nat)(h:B26 n):B2n n C9g:=sn h fun a=>by kernel_rfl
theorem C05 (n:Nat):A9s Tryz.prog env B6o (n+1):=fun a r h=>B21 (f:=J5) E1l Tryz.underlying59 Tryz.underlying3 (B0n (P:=Tryz.prog) (e:=31) (f:=J5) (eb:=24) (by kernel_rfl)) (by decide) h
theorem D68 (n:Nat)(h:B26 n):B2n n C7x:=sv (D5j n) h (V1 (B1q (fun _=>rfl) (fun _ _=>by kernel_rfl)) B2k) fun a=>by kernel_rfl
theorem D62 (n:Nat)(h:B26 n):B2n n C7r:=sn h fun a=>by kernel_rfl
theorem D85 (n:Nat)(h:B26 n):B2n n C9d:=sv (D7h n) h (V1 (B1q (fun _=>rfl) (fun _ _=>by kernel_rfl)) B2k) fun a=>by kernel_rfl
theorem C03 (n:Nat):A9s Tryz.prog env B6m (n+1):=fun a r h=>B1x (f:=J5) E11 Tryz.underlying59 (B0n (P:=Tryz.prog) (e:=31) (f:=J5) (eb:=24) (by kernel_rfl)) h
theorem D63 (n:Nat)(h:B26 n):B2n n C7s:=sn h fun a=>by kernel_rfl
theorem D61 (n:Nat)(h:B26 n):B2n n C7q:=sn h fun a=>by kernel_rfl
theorem D9h (n:Nat)(h:B26 n):B2n n D29:=sn h fun a=>by kernel_rfl
theorem D9g (n:Nat)(h:B26 n):B2n n D28:=sn h fun a=>by kernel_rfl
theorem D8a (n:Nat)(h:B26 n):B2n n C9i:=sv (D7k n) h (V1 (B1q (fun _=>rfl) (fun _ _=>by kernel_rfl)) B2k) fun a=>by kernel_rfl
theorem D9i (n:Nat)(h:B26 n):B2n n D2a:=sv (D8s n) h (V1 (B1q (fun _=>rfl) (fun _ _=>by kernel_rfl)) B2k) fun a=>by kernel_rfl
theorem D5b (n:Nat)(h:B26 n):B2n n C6f:=sv (D3x n) h (V1 (B1q (fun _=>rfl) (fun _ _=>by kernel_rfl)) B2k) fun a=>by kernel_rfl
theorem D3a (n:Nat)(h:B26 n):B2n n C5c:=sn h fun a=>by kernel_rfl
theorem D8d (n:Nat)(h:B26 n):B2n n C9l:=sn h fun a=>by kernel_rfl
theorem D6g (n:Nat)(h:B26 n):B2n n C84:=sn h fun a=>by kernel_rfl
theorem D8k (n:Nat)(h:B26 n):B2n n C9s:=sv (D7p n) h (V1 (B1q (fun _=>rfl) (fun _ _=>by kernel_rfl)) B2k) fun a=>by kernel_rfl
theorem D39 (n:Nat)(h:B26 n):B2n n C5b:=sn h fun a=>by kernel_rfl
theorem D50 (n:Nat)(h:B26 n):B2n n C64:=sv (D3p n) h (V1 (B1q (fun _=>rfl) (fun _ _=>by kernel_rfl)) B2k) fun a=>by kernel_rfl
theorem D6t (n:Nat)(h:B26 n):B2n n C8h:=sv (D5r n) h (V1 (B1q (fun _=>rfl) (fun _ _=>by kernel_rfl)) B2k) fun a=>by kernel_rfl
theorem D6s (n:Nat)(h:B26 n):B2n n C8g:=sv (D5q n) h (V1 (B1q (fun _=>rfl) (fun _ _=>by kernel_rfl)) B2k) fun a=>by kernel_rfl
theorem D38 (n:Nat)(h:B26 n):B2n n C5a:=sn h fun a=>by kernel_rfl
theorem D23 (n:Nat)(h:B26 n):B2n n C4c:=sv (D1j n) h (V1 (B1q (fun _=>rfl) (fun _ _=>by kernel_rfl)) (V1 (B1q (fun _=>rfl) (fun _ _=>by kernel_rfl)) B2k)) fun a=>by kernel_rfl
theorem D35 (n:Nat)(h:B26 n):B2n n C57:=sn h fun a=>by kernel_rfl
theorem D8f (n:Nat)(h:B26 n):B2n n C9n:=sv (D7m n) h (V1 (B1q (fun _=>rfl) (fun _ _=>by kernel_rfl)) B2k) fun a=>by kernel_rfl
theorem D0t (n:Nat)(h:B26 n):B2n n C3i:=sv (D0j n) h (V1 (B1q (fun _=>rfl) (fun _ _=>by kernel_rfl)) B2k) fun a=>by kernel_rfl
theorem D6e (n:Nat)(h:B26 n):B2n n C82:=sn h fun a=>by kernel_rfl
theorem D6c (n:Nat)(h:B26 n):B2n n C80:=sn h fun a=>by kernel_rfl
theorem D4w (n:Nat)(h:B26 n):B2n n C60:=sv (D3n n) h (V1 (B1r (fun _ _=>rfl) (fun _ _ _=>by kernel_rfl)) (V1 (B1q (fun _=>rfl) (fun _ _=>by kernel_rfl)) B2k)) fun a=>by kernel_rfl
theorem D59 (n:Nat)(h:B26 n):B2n n C6d:=sn h fun a=>by kernel_rfl
theorem D53 (n:Nat)(h:B26 n):B2n n C67:=sv (D3r n) h (V1 (B1q (fun _=>rfl) (fun _ _=>by kernel_rfl)) B2k) fun a=>by kernel_rfl
theorem D25 (n:Nat)(h:B26 n):B2n n C4e:=sv (D1l n) h (V1 (B1q (fun _=>rfl) (fun _ _=>by kernel_rfl)) B2k) fun a=>by kernel_rfl
theorem D57 (n:Nat)(h:B26 n):B2n n C6b:=sv (D3u n) h (V1 (B1q (fun _=>rfl) (fun _ _=>by kernel_rfl)) B2k) fun a=>by kernel_rfl
theorem D9j (n:Nat)(h:B26 n):B2n n D2b:=sn h fun a=>by kernel_rfl
theorem D83 (n:Nat)(h:B26 n):B2n n C9b:=sv (D7g n) h (V1 (B1q (fun _=>rfl) (fun _ _=>by kernel_rfl)) B2k) fun a=>by kernel_rfl
theorem D6b (n:Nat)(h:B26 n):B2n n C3z:=sn h fun a=>by kernel_rfl
set_option maxRecDepth 1000000 in
theorem E0m:∀n,B26 n
  |0=>by
    simp only[B26,E14,List.forall_mem_cons,List.not_mem_nil,false_implies,implies_true,and_true]
    repeat' apply And.intro
    all_goals exact s0 fun _=>rfl
  |n+1=>by
    have h:B26 n:=E0m n
    simp only[B26,E14,List.forall_mem_cons,List.not_mem_nil,false_implies,implies_true,and_true]
    exact⟨D6j n h,D4z n h,D37 n h,D52 n h,D8b n h,D6m n h,D8j n h,D6q n h,D51 n h,D6p n h,D54 n h,D6h n h,D6k n h,D8i n h,D8c n h,D4x n h,D55 n h,D8h n h,D6u n h,D4y n h,D4v n h,D6f n h,C96 n h,D8g n h,D6w n h,D6v n h,D6d n h,D56 n h,D58 n h,D6n n h,D6l n h,D6i n h,D6o n h,D21 n h,D6x n h,D8e n h,D24 n h,D6r n h,D5a n h,D22 n h,D0u n h,D36 n h,D6a n h,D66 n h,D86 n h,D82 n h,D4l n h,B6i n h,D81 n h,D4o n h,D80 n h,D69 n h,D89 n h,D87 n h,D4p n h,D4m n h,D64 n h,D9f n h,D20 n h,D1z n h,D31 n h,C1j n h,C2i n h,D34 n h,D84 n h,D1y n h,B5v n h,B52 n h,D4q n h,D65 n h,D2z n h,B53 n h,D60 n h,C2j n h,C1n n h,D4t n h,D4s n h,sx (B9c n),sx (B9b n),D0s n h,B5p n h,B4y n h,D30 n h,D33 n h,D32 n h,D67 n h,sx (B9q n),sx (B9p n),sx (C04 n),D4n n h,D4r n h,C1k n h,D4u n h,B6j n h,D88 n h,sx (C05 n),D68 n h,D62 n h,D85 n h,sx (C03 n),D63 n h,D61 n h,D9h n h,D9g n h,D8a n h,D9i n h,D5b n h,D3a n h,D8d n h,D6g n h,D8k n h,D39 n h,D50 n h,D6t n h,D6s n h,D38 n h,D23 n h,D35 n h,D8f n h,D0t n h,D6e n h,D6c n h,D4w n h,D59 n h,D53 n h,D25 n h,D57 n h,D9j n h,D83 n h,D6b n h⟩
theorem E36:∀n,A9s Tryz.prog env C3z n
  |0=>B15 fun _=>rfl
  |n+1=>st [] (E0m n) B1a fun a=>by kernel_rfl
end Go.Proofs.YtalmhjlcjcnidaaGreat.Ev
