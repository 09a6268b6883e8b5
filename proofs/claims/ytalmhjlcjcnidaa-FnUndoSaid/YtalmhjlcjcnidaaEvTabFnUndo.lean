/- The tables of the law FnUndo: what the evaluator makes of the program is these functions. -/
import Derived.Test.YtalmhjlcjcnidaaEvFnFnUndo
import Derived.Test.YtalmhjlcjcnidaaEvExtFnUndo
import Derived.Test.YtalmhjlcjcnidaaEvHead
import Derived.Test.YtalmhjlcjcnidaaEvEq
import Derived.Test.YtalmhjlcjcnidaaChecked
set_option linter.all false
namespace Go.Proofs.Ytalmhjlcjcnidaa.Ev
open Go Go.Proofs
abbrev J1:Kd:=(.pair (.int .i64) .str)
abbrev J2:Kd:=(.pair (.int .i64) (.int .i64))
abbrev J3:Kd:=(.pair (.int .i64) J1)
abbrev J4:Kd:=(.sl J3)
abbrev J5:Kd:=(.pair (.sl (.int .u8)) J2)
abbrev J6:Kd:=(.pair .bool J3)
abbrev J7:Kd:=(.pair .bool J6)
abbrev J8:Kd:=(.pair (.int .i64) J7)
abbrev J9:Kd:=(.pair .str J8)
abbrev J10:Kd:=(.sl J9)
abbrev J11:Kd:=(.pair J10 (.sl .str))
abbrev J12:Kd:=(.pair .str J11)
abbrev Q1:=(Tvs.cons (Tv.one (Lf.int .i64)) Tvs.nil)
abbrev Q2:=(Ls.cons (Lf.sh J9) (Ls.one (Lf.sh .str)))
abbrev Q3:=(Tvs.cons (Tv.one (Lf.sh (.int .u8))) Tvs.nil)
abbrev Q4:=(Ls.cons (Lf.int .i64) (Ls.one (Lf.int .i64)))
abbrev Q5:=(Tvs.cons (Tv.agg (Ls.one (Lf.sh J3))) Tvs.nil)
abbrev Q6:=(Ls.cons (Lf.sh J9) (Ls.cons (Lf.sh .str) Ls.nil))
abbrev Q7:=(Ls.cons (Lf.int .i64) (Ls.cons (Lf.int .i64) Ls.nil))
abbrev Q8:=(Ls.cons Lf.str Q2)
abbrev Q9:=(Ls.cons Lf.str (Ls.k (Kf.ow 176) (Ls.k (Kf.ow 177) Ls.nil)))
abbrev Q10:=(Ls.cons Lf.str (Ls.k (Kf.ow 240) (Ls.k (Kf.ow 241) Ls.nil)))
abbrev Q11:=(Ls.cons (Lf.int .i64) (Ls.cons (Lf.int .i64) (Ls.one Lf.str)))
abbrev Q12:=(Ls.cons Lf.str Q6)
abbrev Q13:=(Tv.agg Q8)
abbrev Q14:=(Tvs.cons (Tv.one (Lf.sh J3)) (Tvs.cons (Tv.one (Lf.sh J3)) Tvs.nil))
abbrev Q15:=(Tvs.cons (Tv.one (Lf.sh J4)) (Tvs.cons (Tv.one (Lf.sh J3)) Tvs.nil))
abbrev Q16:=(Tv.agg Q11)
abbrev Q17:=(Tvs.cons (Tv.one (Lf.od J4)) Q1)
abbrev Q18:=(Ls.cons (Lf.sh (.int .u8)) Q4)
abbrev Q19:=(Tvs.cons (Tv.one (Lf.sh J4)) Q5)
abbrev Q20:=(Ls.cons Lf.bool Q11)
abbrev Q21:=(Rt.tup Q17)
abbrev Q22:=(Ls.cons (Lf.sh (.int .u8)) Q7)
abbrev Q23:=(Tv.agg Q18)
abbrev Q24:=(Tvs.cons Q13 Tvs.nil)
abbrev Q25:=(Tvs.cons Q16 Tvs.nil)
abbrev Q26:=(Ls.cons Lf.bool Q20)
abbrev Q27:=(Tvs.cons Q23 Tvs.nil)
abbrev Q28:=(Ls.cons (Lf.int .i64) Q26)
abbrev Q29:=(Tvs.cons Q13 Q5)
abbrev Q30:=(Tvs.cons (Tv.one (Lf.int .i64)) Q27)
abbrev Q31:=(Ls.cons Lf.str Q28)
abbrev Q32:=(Rt.tup Q30)
abbrev Q33:=(Tv.agg Q31)
abbrev Q34:=(Tvs.cons Q13 Q15)
abbrev Q35:=(Tvs.cons Q13 Q19)
abbrev Q36:=(Tvs.cons Q23 Q24)
abbrev Q37:=(Tvs.cons Q16 Q27)
abbrev Q38:=(Rt.tup Q37)
def C5e:List (Kd×Nat):=[((.int .u8),1)]
def bytesOf (f:Kd):Nat:=((C5e.find? fun p=>decide (p.1=f)).map (·.2)).getD 1
theorem C7h (f:Kd):1≤bytesOf f:=by
  unfold bytesOf
  cases h:C5e.find? fun p=>decide (p.1=f)with
  |none=>exact Nat.le_refl _
  |some p=>
    have hp:∀q∈C5e,1≤q.2:=by decide
    exact hp p (List.mem_of_find?_eq_some h)
noncomputable def env:Env:=⟨[(3,⟨1,0,false,[],(.int .i64)⟩),
  (4,⟨1,0,false,[],.bool⟩),
  (5,⟨1,0,false,[],(.int .u8)⟩),
  (9,⟨1,0,false,[],.str⟩),
  (22,⟨1,1,false,[],(.sl (.int .u8))⟩),
  (23,⟨1,64,false,[],J10⟩),
  (24,⟨1,16,false,[],(.sl .str)⟩),
  (26,⟨3,0,true,[(0,1),(1,1),(2,1)],J12⟩),
  (27,⟨1,24,false,[],(.sl J4)⟩),
  (28,⟨1,32,false,[],J4⟩),
  (30,⟨1,0,true,[(0,1)],J4⟩),
  (65,⟨3,0,true,[(0,1),(1,1),(2,1)],J3⟩),
  (71,⟨7,0,true,[(0,1),(1,1),(2,1),(3,1),(4,3)],J9⟩),
  (86,⟨3,0,true,[(0,1),(1,1),(2,1)],J5⟩)],
  [(3,Try.f3),(5,Try.f5),(6,Try.f6),(7,Try.f7),(8,Try.f8),(9,Try.f9),(10,Try.f10),(11,Try.f11),(12,Try.f12),(18,Try.f18),(19,Try.f19),(20,Try.f20),(21,Try.f21),(22,Try.f22),(23,Try.f23),(24,Try.f24),(25,Try.f25),(26,Try.f26),(27,Try.f27),(28,Try.f28),(29,Try.f29),(30,Try.f30),(31,Try.f31),(33,Try.f33),(34,Try.f34),(35,Try.f35),(36,Try.f36),(37,Try.f37),(38,Try.f38),(40,Try.f40),(43,Try.f43),(47,Try.f47),(56,Try.f56),(57,Try.f57),(58,Try.f58),(59,Try.f59),(60,Try.f60),(61,Try.f61),(62,Try.f62),(63,Try.f63),(65,Try.f65),(66,Try.f66),(67,Try.f67),(68,Try.f68),(69,Try.f69),(70,Try.f70),(71,Try.f71),(72,Try.f72),(73,Try.f73),(74,Try.f74),(75,Try.f75),(77,Try.f77),(78,Try.f78),(81,Try.f81),(82,Try.f82),(83,Try.f83),(84,Try.f84),(97,Try.f97),(98,Try.f98),(99,Try.f99),(100,Try.f100),(103,Try.f103),(104,Try.f104),(110,Try.f110),(112,Try.f112)],[(18,⟨[],true,some (J5),[]⟩),(19,⟨[.bx (J5)],true,none,[]⟩),(20,⟨[.bx (J5)],true,none,[]⟩),(32,⟨[.give],true,none,[]⟩),(40,⟨[.bx (J5)],true,none,[]⟩),(56,⟨[.bx (J5)],true,none,[]⟩),(57,⟨[.bx (J5)],true,none,[]⟩),(58,⟨[.bx (J5)],true,none,[]⟩),(59,⟨[.bx (J5)],true,none,[]⟩),(60,⟨[.bx (J5)],true,none,[]⟩),(64,⟨[.give,.ro,.give],true,none,[]⟩),(77,⟨[.bx (J5)],true,none,[]⟩),(78,⟨[.bx (J5)],true,none,[]⟩),(97,⟨[.bx (J5)],true,none,[]⟩),(98,⟨[.bx (J5)],true,none,[]⟩),(99,⟨[.bx (J5)],true,none,[]⟩),(100,⟨[.bx (J5)],true,none,[]⟩),(110,⟨[.bx (J5)],true,none,[]⟩)],[(12,[(4,⟨229382,[]⟩)]),(18,[(3,⟨25,[]⟩)]),(19,[(19,⟨565,[]⟩),(1000007,⟨245,[4]⟩),(1000009,⟨245,[]⟩),(1000013,⟨245,[]⟩),(1000015,⟨117,[]⟩),(1000022,⟨52,[4]⟩),(2000009,⟨0,[]⟩)]),(20,[(1000005,⟨113,[]⟩),(1000007,⟨48,[]⟩)]),(21,[(4,⟨229380,[]⟩)]),(23,[(3,⟨7212,[]⟩)]),(24,[(2,⟨170,[]⟩)]),(25,[(4,⟨229382,[]⟩)]),(26,[(4,⟨7340040,[]⟩)]),(27,[(4,⟨57356,[]⟩)]),(28,[(3,⟨7212,[]⟩)]),(29,[(4,⟨29096,[]⟩)]),(31,[(4,⟨3670022,[]⟩)]),(33,[(3,⟨456,[]⟩)]),(34,[(4,⟨229382,[]⟩)]),(36,[(4,⟨12291,[]⟩)]),(37,[(2,⟨7170,[]⟩),(9,⟨7516192802,[]⟩)]),(38,[(2,⟨35,[]⟩)]),(47,[(2,⟨1794,[]⟩)]),(56,[(3,⟨113,[]⟩)]),(57,[(3,⟨105,[]⟩)]),(58,[(1000006,⟨61,[]⟩),(1000008,⟨61,[]⟩),(1000010,⟨61,[]⟩),(1000012,⟨60,[]⟩),(1000014,⟨28,[]⟩),(1000016,⟨28,[]⟩),(1000018,⟨12,[]⟩)]),(60,[(3,⟨28721,[]⟩),(7,⟨29617,[]⟩)]),(62,[(2,⟨387,[]⟩)]),(66,[(4,⟨30064771074,[]⟩),(11,⟨31525197391593506,[]⟩)]),(67,[(2,⟨35,[]⟩)]),(69,[(4,⟨12291,[]⟩)]),(73,[(2,⟨9,[]⟩)]),(81,[(2,⟨387,[]⟩)]),(83,[(2,⟨9,[]⟩)]),(110,[(9,⟨113,[]⟩)])],[65]⟩
set_option maxRecDepth 1000000 in
theorem C7n:B4 Try.prog env:=B1h (by kernel_rfl) (by
  simp only[env,List.forall_mem_cons,List.not_mem_nil,false_implies,implies_true,and_true]
  refine⟨⟨Try.func3,?_⟩,⟨Try.func5,?_⟩,⟨Try.func6,?_⟩,⟨Try.func7,?_⟩,⟨Try.func8,?_⟩,⟨Try.func9,?_⟩,⟨Try.func10,?_⟩,⟨Try.func11,?_⟩,⟨Try.func12,?_⟩,⟨Try.func18,?_⟩,⟨Try.func19,?_⟩,⟨Try.func20,?_⟩,⟨Try.func21,?_⟩,⟨Try.func22,?_⟩,⟨Try.func23,?_⟩,⟨Try.func24,?_⟩,⟨Try.func25,?_⟩,⟨Try.func26,?_⟩,⟨Try.func27,?_⟩,⟨Try.func28,?_⟩,⟨Try.func29,?_⟩,⟨Try.func30,?_⟩,⟨Try.func31,?_⟩,⟨Try.func33,?_⟩,⟨Try.func34,?_⟩,⟨Try.func35,?_⟩,⟨Try.func36,?_⟩,⟨Try.func37,?_⟩,⟨Try.func38,?_⟩,⟨Try.func40,?_⟩,⟨Try.func43,?_⟩,⟨Try.func47,?_⟩,⟨Try.func56,?_⟩,⟨Try.func57,?_⟩,⟨Try.func58,?_⟩,⟨Try.func59,?_⟩,⟨Try.func60,?_⟩,⟨Try.func61,?_⟩,⟨Try.func62,?_⟩,⟨Try.func63,?_⟩,⟨Try.func65,?_⟩,⟨Try.func66,?_⟩,⟨Try.func67,?_⟩,⟨Try.func68,?_⟩,⟨Try.func69,?_⟩,⟨Try.func70,?_⟩,⟨Try.func71,?_⟩,⟨Try.func72,?_⟩,⟨Try.func73,?_⟩,⟨Try.func74,?_⟩,⟨Try.func75,?_⟩,⟨Try.func77,?_⟩,⟨Try.func78,?_⟩,⟨Try.func81,?_⟩,⟨Try.func82,?_⟩,⟨Try.func83,?_⟩,⟨Try.func84,?_⟩,⟨Try.func97,?_⟩,⟨Try.func98,?_⟩,⟨Try.func99,?_⟩,⟨Try.func100,?_⟩,⟨Try.func103,?_⟩,⟨Try.func104,?_⟩,⟨Try.func110,?_⟩,⟨Try.func112,?_⟩⟩
  all_goals kernel_rfl) (by kernel_rfl)
theorem C7o:U2 Try.prog env:=B1i (by kernel_rfl)
def B95:Fn' ((List Int)×Unit) (Y2×Unit):=⟨18,Q3,(Rt.tup Q27),fun n a=>B6x n a.1⟩
def C0p:=Sh.of (Sl.one (Lf.sh (.int .u8)) (Sl.gap 2 (Sl.one (Lf.int .i64) (Sl.one (Lf.int .i64) (Sl.gap 27 Sl.nil))))) Rw.nil Ls.nil
def C35 (n:Nat):Tab (Y2×Unit):=[([.b,.r,.l,.r,.r],A8c C0p fun j a=>B45 n j a.1.1 a.1.2.1 a.1.2.2.1)]
def B89:Fn' (Y2×Unit) Y8:=⟨78,Q27,Q32,fun n a=>B3f n a.1.1 a.1.2.1 a.1.2.2⟩
def B7v:Fn' (Y2×(Int×Unit)) Y8:=⟨40,(Tvs.cons Q23 Q1),Q32,fun n a=>C3 n a.1.1 a.1.2.1 a.1.2.2 a.2.1⟩
def B8b:Fn' (Y2×Unit) Y10:=⟨97,Q27,(Rt.tup (Tvs.cons (Tv.one Lf.str) Q27)),fun n a=>B5v n a.1.1 a.1.2.1 a.1.2.2⟩
def B9z:Fn' (Y20×(ByteArray×Unit)) Int:=⟨47,(Tvs.cons Q13 (Tvs.cons (Tv.one Lf.str) Tvs.nil)),(Rt.v (Tv.one (Lf.int .i64))),fun n a=>B5j n a.1.1 a.1.2.1 a.1.2.2 a.2.1⟩
def C1h:=Sh.of (Sl.gap 1 (Sl.one Lf.str (Sl.gap 6 (Sl.one (Lf.sh J9) (Sl.one (Lf.int .i64) (Sl.one (Lf.int .i64) (Sl.gap 10 Sl.nil))))))) Rw.nil Ls.nil
def C4h (n:Nat):Tab Int:=[([.b,.r,.l,.r],A8c C1h fun j a=>B4m n j a.1.1 a.1.2.1 a.1.2.2.1 a.1.2.2.2.1)]
def B98:Fn' (Y2×Unit) Y10:=⟨110,Q27,(Rt.tup (Tvs.cons (Tv.one Lf.str) Q27)),fun n a=>B6z n a.1.1 a.1.2.1 a.1.2.2⟩
def C0q:=Sh.of (Sl.k (Kf.box 40 0) (Sl.gap 3 (Sl.one (Lf.int .i64) (Sl.k (Kf.ow 360) (Sl.one (Lf.int .i64) (Sl.gap 26 Sl.nil)))))) (Rw.box 40 J5 Q22 (Rw.data 360 (.int .u8) Rw.nil)) (Ls.k (Kf.box 40 0) Ls.nil)
def C36 (n:Nat):Tab Y10:=[([.b,.r,.l,.r,.r,.r,.r,.r,.r],A8c C0q fun j a=>B46 n j a.1.1 a.1.2.1 a.2.1.1 a.2.1.2.1 a.2.1.2.2.1 a.2.2.1)]
def C04:Fn' (Y2×(Int×Unit)) Y14:=⟨100,(Tvs.cons Q23 Q1),Q38,fun n a=>B5k n a.1.1 a.1.2.1 a.1.2.2 a.2.1⟩
def B9b:Fn' (Y2×(ByteArray×Unit)) (Y13×(Y2×Unit)):=⟨77,(Tvs.cons Q23 (Tvs.cons (Tv.one Lf.str) Tvs.nil)),(Rt.tup (Tvs.cons Q33 Q27)),fun n a=>B72 n a.1.1 a.1.2.1 a.1.2.2 a.2.1⟩
def B8a:Fn' (Y2×(ByteArray×Unit)) Y21:=⟨56,(Tvs.cons Q23 (Tvs.cons (Tv.one Lf.str) Tvs.nil)),(Rt.tup (Tvs.cons (Tv.agg (Ls.cons Lf.str (Ls.cons (Lf.od J9) (Ls.one (Lf.od .str))))) Q27)),fun n a=>B5u n a.1.1 a.1.2.1 a.1.2.2 a.2.1⟩
def C0b:=Sh.of (Sl.k (Kf.box 40 0) (Sl.gap 3 (Sl.k (Kf.box 296 0) (Sl.k (Kf.box 360 0) (Sl.one (Lf.int .i64) (Sl.gap 56 Sl.nil)))))) (Rw.box 40 J5 Q22 (Rw.box 296 J12 (Ls.cons Lf.str (Ls.k (Kf.ow 304) (Ls.k (Kf.ow 305) Ls.nil))) (Rw.data 304 J9 (Rw.data 305 .str (Rw.box 360 J12 (Ls.cons Lf.str (Ls.k (Kf.ow 368) (Ls.k (Kf.ow 369) Ls.nil))) (Rw.data 368 J9 (Rw.data 369 .str Rw.nil))))))) (Ls.k (Kf.box 40 0) Ls.nil)
def C20 (n:Nat):Tab Y21:=[([.b,.r,.l,.r,.r],A8c C0b fun j a=>B3b n j a.1.1 a.2.1.1 a.2.1.2.1 a.2.1.2.2.1 a.2.2.1.1 a.2.2.2.1 a.2.2.2.2.1 a.2.2.2.2.2.1.1 a.2.2.2.2.2.2.1 a.2.2.2.2.2.2.2.1)]
def B8c:Fn' (Y2×(Y20×Unit)) Y17:=⟨60,Q36,(Rt.tup (Tvs.cons (Tv.agg (Ls.one (Lf.od J3))) Q27)),fun n a=>B5x n a.1.1 a.1.2.1 a.1.2.2 a.2.1.1 a.2.1.2.1 a.2.1.2.2⟩
def C0d:=Sh.of (Sl.k (Kf.box 40 0) (Sl.gap 3 (Sl.k (Kf.box 296 0) (Sl.k (Kf.box 360 0) (Sl.gap 1 (Sl.k (Kf.box 488 0) (Sl.k (Kf.box 552 0) (Sl.one (Lf.int .i64) (Sl.gap 2 (Sl.one (Lf.sh J9) (Sl.one (Lf.int .i64) (Sl.one (Lf.int .i64) (Sl.gap 32 Sl.nil))))))))))))) (Rw.box 40 J5 Q22 (Rw.box 296 J4 (Ls.k (Kf.ow 304) Ls.nil) (Rw.data 304 J3 (Rw.box 360 J4 (Ls.k (Kf.ow 368) Ls.nil) (Rw.data 368 J3 (Rw.box 488 J9 (Ls.cons Lf.str (Ls.cons (Lf.int .i64) (Ls.cons Lf.bool (Ls.cons Lf.bool (Ls.cons (Lf.int .i64) (Ls.cons (Lf.int .i64) (Ls.cons Lf.str Ls.nil))))))) (Rw.box 552 J3 (Ls.cons (Lf.int .i64) (Ls.cons (Lf.int .i64) (Ls.cons Lf.str Ls.nil))) Rw.nil))))))) (Ls.k (Kf.box 40 0) Ls.nil)
def C0c:=Sh.of (Sl.k (Kf.box 40 0) (Sl.gap 3 (Sl.k (Kf.box 296 0) (Sl.k (Kf.box 360 0) (Sl.gap 6 (Sl.one (Lf.sh J9) (Sl.one (Lf.int .i64) (Sl.one (Lf.int .i64) (Sl.gap 32 Sl.nil))))))))) (Rw.box 40 J5 Q22 (Rw.box 296 J4 (Ls.k (Kf.ow 304) Ls.nil) (Rw.data 304 J3 (Rw.box 360 J4 (Ls.k (Kf.ow 368) Ls.nil) (Rw.data 368 J3 Rw.nil))))) (Ls.k (Kf.box 40 0) Ls.nil)
def C21 (n:Nat):Tab Y17:=[([.b,.r,.l,.r,.r,.b,.l,.r,.r,.p,.b,.r,.l,.r,.r],A2r C0d fun i j a=>B3t n (fun y0 y1 y2 y3 y4 y5 y6 y7=>B2q n i y0 y1 y2 y3 y4 y5 y6 y7) j a.1.1 a.1.2.1 a.1.2.2.1 a.1.2.2.2.1 a.2.1.1 a.2.1.2.1 a.2.1.2.2.1 a.2.2.2.1 a.2.2.2.2.2.1 a.2.2.2.2.2.2.1.1 a.2.2.2.2.2.2.1.2.1 a.2.2.2.2.2.2.1.2.2.1 a.2.2.2.2.2.2.1.2.2.2.1 a.2.2.2.2.2.2.1.2.2.2.2.1 a.2.2.2.2.2.2.1.2.2.2.2.2.1 a.2.2.2.2.2.2.1.2.2.2.2.2.2.1 a.2.2.2.2.2.2.2.1.1 a.2.2.2.2.2.2.2.1.2.1 a.2.2.2.2.2.2.2.1.2.2.1),
  ([.b,.r,.l,.r,.r],A8c C0c fun j a=>B2q n j a.1.1 a.1.2.1 a.1.2.2.1 a.2.1.1 a.2.1.2.1 a.2.1.2.2.1 a.2.2.2.1 a.2.2.2.2.2.1)]
def B93:Fn' (ByteArray×Unit) Bool:=⟨83,(Tvs.cons (Tv.one Lf.str) Tvs.nil),(Rt.v (Tv.one Lf.bool)),fun n a=>B6d n a.1⟩
def C0o:=Sh.of (Sl.one Lf.str (Sl.gap 2 (Sl.one (Lf.int .i64) (Sl.gap 24 Sl.nil)))) Rw.nil Ls.nil
def C34 (n:Nat):Tab Bool:=[([.b,.r,.l,.r],A8c C0o fun j a=>B44 n j a.1.1 a.1.2.1)]
def B96:Fn' (Int×Unit) Bool:=⟨112,Q1,(Rt.v (Tv.one Lf.bool)),fun n a=>B6y n a.1⟩
def C03:Fn' (Y1×Unit) Bool:=⟨104,Q25,(Rt.v (Tv.one Lf.bool)),fun n a=>B4u n a.1.1 a.1.2.1 a.1.2.2⟩
def C00:Fn' (Y13×Unit) Bool:=⟨84,(Tvs.cons Q33 Tvs.nil),(Rt.v (Tv.one Lf.bool)),fun n a=>B7p n a.1.1 a.1.2.1 a.1.2.2.1 a.1.2.2.2.1 a.1.2.2.2.2.1 a.1.2.2.2.2.2.1 a.1.2.2.2.2.2.2⟩
def B87:Fn' (Y20×Unit) Bool:=⟨66,Q24,(Rt.v (Tv.one Lf.bool)),fun n a=>B5s n a.1.1 a.1.2.1 a.1.2.2⟩
def C0a:=Sh.of (Sl.gap 1 (Sl.k (Kf.box 104 0) (Sl.gap 3 (Sl.one (Lf.int .i64) (Sl.gap 46 (Sl.one (Lf.sh .str) (Sl.one (Lf.int .i64) (Sl.one (Lf.int .i64) (Sl.gap 20 Sl.nil))))))))) (Rw.box 104 J12 Q12 Rw.nil) Ls.nil
def C09:=Sh.of (Sl.gap 1 (Sl.k (Kf.box 104 0) (Sl.gap 30 (Sl.one (Lf.sh J9) (Sl.one (Lf.int .i64) (Sl.one (Lf.int .i64) (Sl.gap 40 Sl.nil))))))) (Rw.box 104 J12 Q12 Rw.nil) Ls.nil
def C1z (n:Nat):Tab Bool:=[([.b,.r,.l,.r,.r,.r,.r],A8c C0a fun j a=>B3a n j a.1.1 a.1.2.1 a.1.2.2.1 a.1.2.2.2.1 a.2.1.1 a.2.1.2.1 a.2.1.2.2.1),
  ([.b,.r,.l,.r,.r],A8c C09 fun j a=>B39 n j a.1.1 a.1.2.1 a.1.2.2.1 a.2.1.1 a.2.1.2.1 a.2.1.2.2.1)]
def B8d:Fn' (Y13×(Y1×Unit)) Bool:=⟨68,(Tvs.cons Q33 Q25),(Rt.v (Tv.one Lf.bool)),fun n a=>B6k n a.1.1 a.1.2.1 a.1.2.2.1 a.1.2.2.2.1 a.1.2.2.2.2.1 a.1.2.2.2.2.2.1 a.1.2.2.2.2.2.2 a.2.1.1 a.2.1.2.1 a.2.1.2.2⟩
def C02:Fn' (Y20×(Y4×Unit)) Bool:=⟨26,Q29,(Rt.v (Tv.one Lf.bool)),fun n a=>B6q n a.1.1 a.1.2.1 a.1.2.2 a.2.1⟩
def C1j:=Sh.of (Sl.gap 3 (Sl.k (Kf.box 232 0) (Sl.gap 16 (Sl.one (Lf.sh J9) (Sl.one (Lf.int .i64) (Sl.one (Lf.int .i64) (Sl.gap 13 Sl.nil))))))) (Rw.box 232 J4 (Ls.cons (Lf.sh J3) Ls.nil) Rw.nil) Ls.nil
def C4j (n:Nat):Tab Bool:=[([.b,.r,.l,.r,.r],A8c C1j fun j a=>B4o n j a.1.1 a.1.2.1 a.1.2.2.1 a.2.1.1)]
def B9d:Fn' (Y20×(Y4×Unit)) Y4:=⟨28,Q29,(Rt.v (Tv.one (Lf.od J3))),fun n a=>B3y n a.1.1 a.1.2.1 a.1.2.2 a.2.1⟩
def C14:=Sh.of (Sl.gap 2 (Sl.k (Kf.box 168 0) (Sl.k (Kf.box 232 0) (Sl.gap 1 (Sl.k (Kf.ow 360) (Sl.gap 4 (Sl.one (Lf.sh .str) (Sl.one (Lf.int .i64) (Sl.one (Lf.int .i64) (Sl.gap 15 Sl.nil)))))))))) (Rw.box 168 J12 Q12 (Rw.box 232 J4 (Ls.cons (Lf.sh J3) Ls.nil) (Rw.data 360 J3 Rw.nil))) Ls.nil
def C39 (n:Nat):Tab Y4:=[([.b,.r,.l,.r,.r],A8c C14 fun j a=>B4c n j a.1.1 a.1.2.1 a.1.2.2.1 a.2.1.1 a.2.1.2.1 a.2.1.2.2.1 a.2.2.1.1 a.2.2.2.1)]
def B88:Fn' (Y1×(Y1×Unit)) Bool:=⟨103,(Tvs.cons Q16 Q25),(Rt.v (Tv.one Lf.bool)),fun n a=>B5t n a.1.1 a.1.2.1 a.1.2.2 a.2.1.1 a.2.1.2.1 a.2.1.2.2⟩
def B86:Fn' (Y4×(Y4×Unit)) Bool:=⟨67,Q14,(Rt.v (Tv.one Lf.bool)),fun n a=>B55 n a.1 a.2.1⟩
def C08:=Sh.of (Sl.one (Lf.sh J3) (Sl.one (Lf.sh J3) (Sl.gap 3 (Sl.one (Lf.int .i64) (Sl.gap 35 Sl.nil))))) Rw.nil Ls.nil
def C1y (n:Nat):Tab Bool:=[([.b,.r,.l,.r],A8c C08 fun j a=>B2x n j a.1.1 a.1.2.1 a.1.2.2.1)]
def B92:Fn' (Y20×(Y7×Unit)) Bool:=⟨25,(Tvs.cons Q13 (Tvs.cons (Tv.one (Lf.sh J4)) Tvs.nil)),(Rt.v (Tv.one Lf.bool)),fun n a=>B6c n a.1.1 a.1.2.1 a.1.2.2 a.2.1⟩
def C0n:=Sh.of (Sl.gap 1 (Sl.one (Lf.sh J4) (Sl.k (Kf.box 168 0) (Sl.gap 12 (Sl.one (Lf.sh J4) (Sl.one (Lf.int .i64) (Sl.one (Lf.int .i64) (Sl.gap 27 Sl.nil)))))))) (Rw.box 168 J12 Q12 Rw.nil) Ls.nil
def C33 (n:Nat):Tab Bool:=[([.b,.r,.l,.r,.r],A8c C0n fun j a=>B3l n j a.1.1 a.1.2.1 a.1.2.2.1 a.1.2.2.2.1 a.2.1.1 a.2.1.2.1 a.2.1.2.2.1)]
def B6n:Fn' (Y4×(Y4×Unit)) Bool:=⟨69,Q14,(Rt.v (Tv.one Lf.bool)),fun n a=>B56 n a.1 a.2.1⟩
def B80:=Sh.of (Sl.one (Lf.sh J3) (Sl.one (Lf.sh J3) (Sl.gap 10 (Sl.one (Lf.int .i64) (Sl.one (Lf.int .i64) (Sl.gap 12 Sl.nil)))))) Rw.nil Ls.nil
def B9j (n:Nat):Tab Bool:=[([.b,.r,.l,.r,.r],A8c B80 fun j a=>B2w n j a.1.1 a.1.2.1 a.1.2.2.1 a.1.2.2.2.1)]
def C01:Fn' (Y20×(Y7×(Y4×Unit))) Int:=⟨27,Q34,(Rt.v (Tv.one (Lf.int .i64))),fun n a=>B7q n a.1.1 a.1.2.1 a.1.2.2 a.2.1 a.2.2.1⟩
def C1i:=Sh.of (Sl.gap 2 (Sl.one (Lf.sh J3) (Sl.k (Kf.box 232 0) (Sl.gap 9 (Sl.one (Lf.sh J4) (Sl.one (Lf.int .i64) (Sl.one (Lf.int .i64) (Sl.gap 11 Sl.nil)))))))) (Rw.box 232 J12 Q12 Rw.nil) Ls.nil
def C4i (n:Nat):Tab Int:=[([.b,.r,.l,.r,.r],A8c C1i fun j a=>B4n n j a.1.1 a.1.2.1 a.1.2.2.1 a.1.2.2.2.1 a.2.1.1 a.2.1.2.1 a.2.1.2.2.1)]
def B9f:Fn' (Y4×Unit) Y4:=⟨70,Q5,(Rt.v (Tv.agg (Ls.one (Lf.od J3)))),fun n a=>B4e n a.1⟩
def B9e:Fn' (Y20×(Y7×(Y4×Unit))) Y7:=⟨29,Q35,(Rt.v (Tv.one (Lf.od J4))),fun n a=>B74 n a.1.1 a.1.2.1 a.1.2.2 a.2.1 a.2.2.1⟩
def C15:=Sh.of (Sl.gap 3 (Sl.k (Kf.box 232 0) (Sl.gap 1 (Sl.k (Kf.box 360 0) (Sl.gap 1 (Sl.k (Kf.ow 488) (Sl.one Lf.bool (Sl.gap 3 (Sl.one (Lf.sh J4) (Sl.one (Lf.int .i64) (Sl.one (Lf.int .i64) (Sl.gap 33 Sl.nil)))))))))))) (Rw.box 232 J12 Q12 (Rw.box 360 J4 (Ls.cons (Lf.sh J3) Ls.nil) (Rw.data 488 J4 Rw.nil))) Ls.nil
def C3a (n:Nat):Tab Y7:=[([.b,.r,.l,.r,.r,.r],A8c C15 fun j a=>B32 n j a.1.1 a.1.2.1 a.1.2.2.1 a.1.2.2.2.1 a.2.1.1 a.2.1.2.1 a.2.1.2.2.1 a.2.2.1.1 a.2.2.2.1)]
def B91:Fn' (Y20×(Y7×(Y4×Unit))) Y12:=⟨7,Q35,Q21,fun n a=>B6b n a.1.1 a.1.2.1 a.1.2.2 a.2.1 a.2.2.1⟩
def B8e:Fn' (Y2×(Y20×Unit)) Y18:=⟨57,Q36,(Rt.tup (Tvs.cons (Tv.one (Lf.od J4)) Q27)),fun n a=>B6l n a.1.1 a.1.2.1 a.1.2.2 a.2.1.1 a.2.1.2.1 a.2.1.2.2⟩
def C0e:=Sh.of (Sl.k (Kf.box 40 0) (Sl.gap 2 (Sl.k (Kf.box 232 0) (Sl.gap 1 (Sl.k (Kf.ow 360) (Sl.one (Lf.int .i64) (Sl.gap 22 Sl.nil))))))) (Rw.box 40 J5 Q22 (Rw.box 232 J12 Q12 (Rw.data 360 J4 Rw.nil))) (Ls.k (Kf.box 40 0) Ls.nil)
def C22 (n:Nat):Tab Y18:=[([.b,.r,.l,.r,.r],A8c C0e fun j a=>B3c n j a.1.1 a.2.1.1 a.2.1.2.1 a.2.1.2.2.1 a.2.2.1.1 a.2.2.1.2.1 a.2.2.1.2.2.1 a.2.2.2.1)]
def B99:Fn' (Y2×Unit) Y14:=⟨98,Q27,Q38,fun n a=>B70 n a.1.1 a.1.2.1 a.1.2.2⟩
def B97:Fn' (Y2×Unit) Y8:=⟨99,Q27,Q32,fun n a=>B5m n a.1.1 a.1.2.1 a.1.2.2⟩
def B94:Fn' (Y2×Unit) Y14:=⟨59,Q27,Q38,fun n a=>B5l n a.1.1 a.1.2.1 a.1.2.2⟩
def B9a:Fn' (Y2×Unit) Y21:=⟨58,Q27,(Rt.tup (Tvs.cons (Tv.agg (Ls.cons Lf.str (Ls.cons (Lf.od J9) (Ls.one (Lf.od .str))))) Q27)),fun n a=>B71 n a.1.1 a.1.2.1 a.1.2.2⟩
def C0x:=Sh.of (Sl.gap 2 (Sl.k (Kf.box 168 0) (Sl.k (Kf.box 232 0) (Sl.gap 69 Sl.nil)))) (Rw.box 1 J5 Q22 (Rw.box 168 J12 Q9 (Rw.data 176 J9 (Rw.data 177 .str (Rw.box 232 J12 Q10 (Rw.data 240 J9 (Rw.data 241 .str Rw.nil))))))) (Ls.k (Kf.box 1 0) Ls.nil)
def C0w:=Sh.of (Sl.gap 2 (Sl.k (Kf.box 168 0) (Sl.k (Kf.box 232 0) (Sl.one (Lf.int .i64) (Sl.gap 68 Sl.nil))))) (Rw.box 1 J5 Q22 (Rw.box 168 J12 Q9 (Rw.data 176 J9 (Rw.data 177 .str (Rw.box 232 J12 Q10 (Rw.data 240 J9 (Rw.data 241 .str Rw.nil))))))) (Ls.k (Kf.box 1 0) Ls.nil)
def C0v:=Sh.of (Sl.gap 2 (Sl.k (Kf.box 168 0) (Sl.k (Kf.box 232 0) (Sl.one (Lf.int .i64) (Sl.gap 68 Sl.nil))))) (Rw.box 1 J5 Q22 (Rw.box 168 J12 Q9 (Rw.data 176 J9 (Rw.data 177 .str (Rw.box 232 J12 Q10 (Rw.data 240 J9 (Rw.data 241 .str Rw.nil))))))) (Ls.k (Kf.box 1 0) Ls.nil)
def C0u:=Sh.of (Sl.gap 2 (Sl.k (Kf.box 168 0) (Sl.k (Kf.box 232 0) (Sl.one (Lf.int .i64) (Sl.one (Lf.int .i64) (Sl.gap 67 Sl.nil)))))) (Rw.box 1 J5 Q22 (Rw.box 168 J12 Q9 (Rw.data 176 J9 (Rw.data 177 .str (Rw.box 232 J12 Q10 (Rw.data 240 J9 (Rw.data 241 .str Rw.nil))))))) (Ls.k (Kf.box 1 0) Ls.nil)
def C0t:=Sh.of (Sl.k (Kf.box 40 0) (Sl.gap 1 (Sl.k (Kf.box 168 0) (Sl.k (Kf.box 232 0) (Sl.one (Lf.int .i64) (Sl.one (Lf.int .i64) (Sl.gap 67 Sl.nil))))))) (Rw.box 40 J5 Q22 (Rw.box 168 J12 Q9 (Rw.data 176 J9 (Rw.data 177 .str (Rw.box 232 J12 Q10 (Rw.data 240 J9 (Rw.data 241 .str Rw.nil))))))) (Ls.k (Kf.box 40 0) Ls.nil)
def C0s:=Sh.of (Sl.k (Kf.box 40 0) (Sl.gap 1 (Sl.k (Kf.box 168 0) (Sl.k (Kf.box 232 0) (Sl.one (Lf.int .i64) (Sl.one (Lf.int .i64) (Sl.gap 67 Sl.nil))))))) (Rw.box 40 J5 Q22 (Rw.box 168 J12 Q9 (Rw.data 176 J9 (Rw.data 177 .str (Rw.box 232 J12 Q10 (Rw.data 240 J9 (Rw.data 241 .str Rw.nil))))))) (Ls.k (Kf.box 40 0) Ls.nil)
def C0r:=Sh.of (Sl.k (Kf.box 40 0) (Sl.gap 1 (Sl.k (Kf.box 168 0) (Sl.k (Kf.box 232 0) (Sl.one (Lf.int .i64) (Sl.one (Lf.int .i64) (Sl.gap 67 Sl.nil))))))) (Rw.box 40 J5 Q22 (Rw.box 168 J12 Q9 (Rw.data 176 J9 (Rw.data 177 .str (Rw.box 232 J12 Q10 (Rw.data 240 J9 (Rw.data 241 .str Rw.nil))))))) (Ls.k (Kf.box 40 0) Ls.nil)
def C37 (n:Nat):Tab Y21:=[([.r,.r,.r,.r,.r,.r,.r,.r,.r,.r,.r],A8c C0x fun j a=>B51 n j a.2.1.1 a.2.1.2.1 a.2.1.2.2.1 a.2.2.1.1 a.2.2.2.1 a.2.2.2.2.1 a.2.2.2.2.2.1.1 a.2.2.2.2.2.2.1 a.2.2.2.2.2.2.2.1),
  ([.r,.r,.r,.r,.r,.r,.r,.r,.r,.r],A8c C0w fun j a=>B50 n j a.1.1 a.2.1.1 a.2.1.2.1 a.2.1.2.2.1 a.2.2.1.1 a.2.2.2.1 a.2.2.2.2.1 a.2.2.2.2.2.1.1 a.2.2.2.2.2.2.1 a.2.2.2.2.2.2.2.1),
  ([.r,.r,.r,.r,.r,.r,.r,.r,.r],A8c C0v fun j a=>B4z n j a.1.1 a.2.1.1 a.2.1.2.1 a.2.1.2.2.1 a.2.2.1.1 a.2.2.2.1 a.2.2.2.2.1 a.2.2.2.2.2.1.1 a.2.2.2.2.2.2.1 a.2.2.2.2.2.2.2.1),
  ([.r,.r,.r,.r,.r,.r,.r,.r],A8c C0u fun j a=>B4y n j a.1.1 a.1.2.1 a.2.1.1 a.2.1.2.1 a.2.1.2.2.1 a.2.2.1.1 a.2.2.2.1 a.2.2.2.2.1 a.2.2.2.2.2.1.1 a.2.2.2.2.2.2.1 a.2.2.2.2.2.2.2.1),
  ([.r,.r,.r,.r,.r,.r,.r],A8c C0t fun j a=>B4x n j a.1.1 a.1.2.1 a.2.1.1 a.2.1.2.1 a.2.1.2.2.1 a.2.2.1.1 a.2.2.2.1 a.2.2.2.2.1 a.2.2.2.2.2.1.1 a.2.2.2.2.2.2.1 a.2.2.2.2.2.2.2.1),
  ([.r,.r,.r,.r,.r,.r],A8c C0s fun j a=>B4w n j a.1.1 a.1.2.1 a.2.1.1 a.2.1.2.1 a.2.1.2.2.1 a.2.2.1.1 a.2.2.2.1 a.2.2.2.2.1 a.2.2.2.2.2.1.1 a.2.2.2.2.2.2.1 a.2.2.2.2.2.2.2.1),
  ([.r,.r,.r,.r,.r],A8c C0r fun j a=>B4v n j a.1.1 a.1.2.1 a.2.1.1 a.2.1.2.1 a.2.1.2.2.1 a.2.2.1.1 a.2.2.2.1 a.2.2.2.2.1 a.2.2.2.2.2.1.1 a.2.2.2.2.2.2.1 a.2.2.2.2.2.2.2.1)]
def B9c:Fn' (Y2×Unit) Y22:=⟨19,Q27,(Rt.tup (Tvs.cons Q13 (Tvs.cons (Tv.one (Lf.sh J4)) Q27))),fun n a=>B73 n a.1.1 a.1.2.1 a.1.2.2⟩
def C12:=Sh.of (Sl.gap 2 (Sl.k (Kf.box 168 0) (Sl.gap 1 (Sl.k (Kf.box 296 0) (Sl.k (Kf.ow 360) (Sl.gap 93 Sl.nil)))))) (Rw.box 1 J5 Q22 (Rw.box 168 J12 Q9 (Rw.data 176 J9 (Rw.data 177 .str (Rw.box 296 J12 Q12 (Rw.data 360 J4 Rw.nil)))))) (Ls.k (Kf.box 1 0) Ls.nil)
def C13:=Sh.of (Sl.k (Kf.box 40 0) (Sl.gap 1 (Sl.k (Kf.box 168 0) (Sl.gap 1 (Sl.k (Kf.box 296 0) (Sl.k (Kf.ow 360) (Sl.gap 3 (Sl.one (Lf.int .i64) (Sl.gap 89 Sl.nil))))))))) (Rw.box 40 J5 Q22 (Rw.box 168 J12 Q9 (Rw.data 176 J9 (Rw.data 177 .str (Rw.box 296 J12 (Ls.cons Lf.str (Ls.k (Kf.ow 304) (Ls.k (Kf.ow 305) Ls.nil))) (Rw.data 304 J9 (Rw.data 305 .str (Rw.data 360 J4 Rw.nil)))))))) (Ls.k (Kf.box 40 0) Ls.nil)
def C11:=Sh.of (Sl.k (Kf.box 40 0) (Sl.gap 1 (Sl.k (Kf.box 168 0) (Sl.gap 1 (Sl.k (Kf.box 296 0) (Sl.k (Kf.ow 360) (Sl.one (Lf.int .i64) (Sl.gap 92 Sl.nil)))))))) (Rw.box 40 J5 Q22 (Rw.box 168 J12 Q9 (Rw.data 176 J9 (Rw.data 177 .str (Rw.box 296 J12 Q12 (Rw.data 360 J4 Rw.nil)))))) (Ls.k (Kf.box 40 0) Ls.nil)
def C10:=Sh.of (Sl.k (Kf.box 40 0) (Sl.gap 1 (Sl.k (Kf.box 168 0) (Sl.gap 1 (Sl.k (Kf.box 296 0) (Sl.k (Kf.ow 360) (Sl.one (Lf.int .i64) (Sl.one (Lf.int .i64) (Sl.gap 91 Sl.nil))))))))) (Rw.box 40 J5 Q22 (Rw.box 168 J12 Q9 (Rw.data 176 J9 (Rw.data 177 .str (Rw.box 296 J12 Q12 (Rw.data 360 J4 Rw.nil)))))) (Ls.k (Kf.box 40 0) Ls.nil)
def C0z:=Sh.of (Sl.k (Kf.box 40 0) (Sl.gap 1 (Sl.k (Kf.box 168 0) (Sl.gap 1 (Sl.k (Kf.box 296 0) (Sl.k (Kf.ow 360) (Sl.one (Lf.int .i64) (Sl.one (Lf.int .i64) (Sl.gap 91 Sl.nil))))))))) (Rw.box 40 J5 Q22 (Rw.box 168 J12 Q9 (Rw.data 176 J9 (Rw.data 177 .str (Rw.box 296 J12 Q12 (Rw.data 360 J4 Rw.nil)))))) (Ls.k (Kf.box 40 0) Ls.nil)
def C0y:=Sh.of (Sl.k (Kf.box 40 0) (Sl.gap 1 (Sl.k (Kf.box 168 0) (Sl.gap 1 (Sl.k (Kf.box 296 0) (Sl.k (Kf.ow 360) (Sl.one (Lf.int .i64) (Sl.one (Lf.int .i64) (Sl.gap 91 Sl.nil))))))))) (Rw.box 40 J5 Q22 (Rw.box 168 J12 Q9 (Rw.data 176 J9 (Rw.data 177 .str (Rw.box 296 J12 Q12 (Rw.data 360 J4 Rw.nil)))))) (Ls.k (Kf.box 40 0) Ls.nil)
def C38 (n:Nat):Tab Y22:=[([.r,.r,.r,.r,.r,.r,.r,.r,.r,.r],A8c C12 fun j a=>B4a n j a.2.1.1 a.2.1.2.1 a.2.1.2.2.1 a.2.2.1.1 a.2.2.2.1 a.2.2.2.2.1 a.2.2.2.2.2.1.1 a.2.2.2.2.2.1.2.1 a.2.2.2.2.2.1.2.2.1 a.2.2.2.2.2.2.1),
  ([.b,.r,.r,.r,.t,.r,.l,.r,.r,.r,.r,.r,.r,.r,.r,.r],A8c C13 fun j a=>B4b n j a.1.1 a.2.1.1 a.2.1.2.1 a.2.1.2.2.1 a.2.2.1.1 a.2.2.2.1 a.2.2.2.2.1 a.2.2.2.2.2.1.1 a.2.2.2.2.2.2.1 a.2.2.2.2.2.2.2.1 a.2.2.2.2.2.2.2.2.1),
  ([.r,.r,.r,.r,.r,.r,.r,.r,.r],A8c C11 fun j a=>B49 n j a.1.1 a.2.1.1 a.2.1.2.1 a.2.1.2.2.1 a.2.2.1.1 a.2.2.2.1 a.2.2.2.2.1 a.2.2.2.2.2.1.1 a.2.2.2.2.2.1.2.1 a.2.2.2.2.2.1.2.2.1 a.2.2.2.2.2.2.1),
  ([.r,.r,.r,.r,.r,.r,.r,.r],A8c C10 fun j a=>B48 n j a.1.1 a.1.2.1 a.2.1.1 a.2.1.2.1 a.2.1.2.2.1 a.2.2.1.1 a.2.2.2.1 a.2.2.2.2.1 a.2.2.2.2.2.1.1 a.2.2.2.2.2.1.2.1 a.2.2.2.2.2.1.2.2.1 a.2.2.2.2.2.2.1),
  ([.r,.r,.r,.r,.r,.r,.r],A8c C0z fun j a=>B47 n j a.1.1 a.1.2.1 a.2.1.1 a.2.1.2.1 a.2.1.2.2.1 a.2.2.1.1 a.2.2.2.1 a.2.2.2.2.1 a.2.2.2.2.2.1.1 a.2.2.2.2.2.1.2.1 a.2.2.2.2.2.1.2.2.1 a.2.2.2.2.2.2.1),
  ([.r,.r,.r,.r,.r,.r],A8c C0y fun j a=>B52 n j a.1.1 a.1.2.1 a.2.1.1 a.2.1.2.1 a.2.1.2.2.1 a.2.2.1.1 a.2.2.2.1 a.2.2.2.2.1 a.2.2.2.2.2.1.1 a.2.2.2.2.2.1.2.1 a.2.2.2.2.2.1.2.2.1 a.2.2.2.2.2.2.1)]
def B7c:Fn' (Y2×(Y20×Unit)) Y17:=⟨20,Q36,(Rt.tup (Tvs.cons (Tv.agg (Ls.one (Lf.od J3))) Q27)),fun n a=>B5w n a.1.1 a.1.2.1 a.1.2.2 a.2.1.1 a.2.1.2.1 a.2.1.2.2⟩
def B8s:=Sh.of (Sl.gap 4 (Sl.k (Kf.box 296 0) (Sl.k (Kf.box 360 0) (Sl.gap 33 Sl.nil)))) (Rw.box 1 J5 Q22 (Rw.box 296 J4 (Ls.k (Kf.ow 304) Ls.nil) (Rw.data 304 J3 (Rw.box 360 J4 (Ls.k (Kf.ow 368) Ls.nil) (Rw.data 368 J3 Rw.nil))))) (Ls.k (Kf.box 1 0) Ls.nil)
def B8r:=Sh.of (Sl.k (Kf.box 40 0) (Sl.gap 3 (Sl.k (Kf.box 296 0) (Sl.k (Kf.box 360 0) (Sl.one (Lf.int .i64) (Sl.gap 32 Sl.nil)))))) (Rw.box 40 J5 Q22 (Rw.box 296 J4 (Ls.k (Kf.ow 304) Ls.nil) (Rw.data 304 J3 (Rw.box 360 J4 (Ls.k (Kf.ow 368) Ls.nil) (Rw.data 368 J3 Rw.nil))))) (Ls.k (Kf.box 40 0) Ls.nil)
def C16 (n:Nat):Tab Y17:=[([.r,.r,.r,.r,.r],A8c B8s fun j a=>B36 n j a.2.1.1 a.2.1.2.1 a.2.1.2.2.1 a.2.2.2.1 a.2.2.2.2.2.1),
  ([.r,.r,.r,.r],A8c B8r fun j a=>B3x n j a.1.1 a.2.1.1 a.2.1.2.1 a.2.1.2.2.1 a.2.2.2.1 a.2.2.2.2.2.1)]
def B6s:Fn' ((List Int)×Unit) (Y20×(Y7×(Y4×Unit))):=⟨5,Q3,(Rt.tup (Tvs.cons Q13 (Tvs.cons (Tv.one (Lf.sh J4)) (Tvs.cons (Tv.agg (Ls.one (Lf.od J3))) Tvs.nil)))),fun n a=>B5f n a.1⟩
def B90:Fn' (Int×(Int×(Int×Unit))) Bool:=⟨74,(Tvs.cons (Tv.one (Lf.int .i64)) (Tvs.cons (Tv.one (Lf.int .i64)) Q1)),(Rt.v (Tv.one Lf.bool)),fun n a=>B4d n a.1 a.2.1 a.2.2.1⟩
def B8x:Fn' (ByteArray×Unit) Bool:=⟨73,(Tvs.cons (Tv.one Lf.str) Tvs.nil),(Rt.v (Tv.one Lf.bool)),fun n a=>B69 n a.1⟩
def C0l:=Sh.of (Sl.one Lf.str (Sl.gap 2 (Sl.one (Lf.int .i64) (Sl.gap 19 Sl.nil)))) Rw.nil Ls.nil
def C31 (n:Nat):Tab Bool:=[([.b,.r,.l,.r],A8c C0l fun j a=>B42 n j a.1.1 a.1.2.1)]
def B9v:Fn' (Y1×Unit) Bool:=⟨71,Q25,(Rt.v (Tv.one Lf.bool)),fun n a=>B4s n a.1.1 a.1.2.1 a.1.2.2⟩
def B9q:Fn' (Y13×Unit) Bool:=⟨72,(Tvs.cons Q33 Tvs.nil),(Rt.v (Tv.one Lf.bool)),fun n a=>B7j n a.1.1 a.1.2.1 a.1.2.2.1 a.1.2.2.2.1 a.1.2.2.2.2.1 a.1.2.2.2.2.2.1 a.1.2.2.2.2.2.2⟩
def B81:Fn' (Y13×(ByteArray×Unit)) Bool:=⟨82,(Tvs.cons Q33 (Tvs.cons (Tv.one (Lf.spt .str 0)) Tvs.nil)),(Rt.v (Tv.one Lf.bool)),fun n a=>B6h n a.1.1 a.1.2.1 a.1.2.2.1 a.1.2.2.2.1 a.1.2.2.2.2.1 a.1.2.2.2.2.2.1 a.1.2.2.2.2.2.2 a.2.1⟩
def B2j:Fn' (Y16×((ByteArray×Unit)×Unit)) Int:=⟨81,(Tvs.cons (Tv.one (Lf.sh J9)) (Tvs.cons (Tv.one (Lf.clo 82 (Cs.cons .str Cs.nil))) Tvs.nil)),(Rt.v (Tv.one (Lf.int .i64))),fun n a=>A7d n a.1 a.2.1.1⟩
def B3d:=Sh.of (Sl.one (Lf.sh J9) (Sl.one (Lf.clo 82 (Cs.cons .str Cs.nil)) (Sl.gap 5 (Sl.one (Lf.int .i64) (Sl.one (Lf.int .i64) (Sl.gap 10 Sl.nil)))))) Rw.nil Ls.nil
def B3i (n:Nat):Tab Int:=[([.b,.r,.l,.r],A8c B3d fun j a=>D1 n j a.1.1 a.1.2.1.1 a.1.2.2.1 a.1.2.2.2.1)]
def B9p:Fn' (Y20×(ByteArray×Unit)) Int:=⟨43,(Tvs.cons Q13 (Tvs.cons (Tv.one Lf.str) Tvs.nil)),(Rt.v (Tv.one (Lf.int .i64))),fun n a=>B3z n a.1.1 a.1.2.1 a.1.2.2 a.2.1⟩
def B83:Fn' (Y20×Unit) Bool:=⟨37,Q24,(Rt.v (Tv.one Lf.bool)),fun n a=>B54 n a.1.1 a.1.2.1 a.1.2.2⟩
def C07:=Sh.of (Sl.gap 1 (Sl.k (Kf.box 104 0) (Sl.gap 3 (Sl.one (Lf.int .i64) (Sl.gap 24 (Sl.one (Lf.sh .str) (Sl.one (Lf.int .i64) (Sl.one (Lf.int .i64) (Sl.gap 35 Sl.nil))))))))) (Rw.box 104 J12 Q12 Rw.nil) Ls.nil
def C06:=Sh.of (Sl.gap 1 (Sl.k (Kf.box 104 0) (Sl.gap 8 (Sl.one (Lf.sh J9) (Sl.one (Lf.int .i64) (Sl.one (Lf.int .i64) (Sl.gap 55 Sl.nil))))))) (Rw.box 104 J12 Q12 Rw.nil) Ls.nil
def C1x (n:Nat):Tab Bool:=[([.b,.r,.l,.r,.r,.r],A8c C07 fun j a=>B38 n j a.1.1 a.1.2.1 a.1.2.2.1 a.1.2.2.2.1 a.2.1.1 a.2.1.2.1 a.2.1.2.2.1),
  ([.b,.r,.l,.r],A8c C06 fun j a=>B3r n j a.1.1 a.1.2.1 a.1.2.2.1 a.2.1.1 a.2.1.2.1 a.2.1.2.2.1)]
def B8z:Fn' (Y13×(Y1×Unit)) Bool:=⟨61,(Tvs.cons Q33 Q25),(Rt.v (Tv.one Lf.bool)),fun n a=>B6v n a.1.1 a.1.2.1 a.1.2.2.1 a.1.2.2.2.1 a.1.2.2.2.2.1 a.1.2.2.2.2.2.1 a.1.2.2.2.2.2.2 a.2.1.1 a.2.1.2.1 a.2.1.2.2⟩
def B9y:Fn' (Y20×(Y4×Unit)) Bool:=⟨21,Q29,(Rt.v (Tv.one Lf.bool)),fun n a=>B60 n a.1.1 a.1.2.1 a.1.2.2 a.2.1⟩
def C1g:=Sh.of (Sl.gap 2 (Sl.k (Kf.box 168 0) (Sl.gap 12 (Sl.one (Lf.sh J3) (Sl.one (Lf.int .i64) (Sl.one (Lf.int .i64) (Sl.gap 13 Sl.nil))))))) (Rw.box 168 J12 Q12 Rw.nil) Ls.nil
def C4g (n:Nat):Tab Bool:=[([.b,.r,.l,.r,.r],A8c C1g fun j a=>B4l n j a.1.1 a.1.2.1 a.1.2.2.1 a.2.1.1 a.2.1.2.1 a.2.1.2.2.1)]
def B9w:Fn' (Y20×(Y4×Unit)) Y4:=⟨23,Q29,(Rt.v (Tv.one (Lf.od J3))),fun n a=>B40 n a.1.1 a.1.2.1 a.1.2.2 a.2.1⟩
def C1f:=Sh.of (Sl.gap 2 (Sl.k (Kf.box 168 0) (Sl.k (Kf.box 232 0) (Sl.gap 1 (Sl.k (Kf.ow 360) (Sl.gap 4 (Sl.one (Lf.sh .str) (Sl.one (Lf.int .i64) (Sl.one (Lf.int .i64) (Sl.gap 15 Sl.nil)))))))))) (Rw.box 168 J12 Q12 (Rw.box 232 J4 (Ls.cons (Lf.sh J3) Ls.nil) (Rw.data 360 J3 Rw.nil))) Ls.nil
def C4f (n:Nat):Tab Y4:=[([.b,.r,.l,.r,.r],A8c C1f fun j a=>B4k n j a.1.1 a.1.2.1 a.1.2.2.1 a.2.1.1 a.2.1.2.1 a.2.1.2.2.1 a.2.2.1.1 a.2.2.2.1)]
def B84:Fn' (Y1×(Y1×Unit)) Bool:=⟨75,(Tvs.cons Q16 Q25),(Rt.v (Tv.one Lf.bool)),fun n a=>B5r n a.1.1 a.1.2.1 a.1.2.2 a.2.1.1 a.2.1.2.1 a.2.1.2.2⟩
def B82:Fn' (Y4×(Y4×Unit)) Bool:=⟨38,Q14,(Rt.v (Tv.one Lf.bool)),fun n a=>B5p n a.1 a.2.1⟩
def C05:=Sh.of (Sl.one (Lf.sh J3) (Sl.one (Lf.sh J3) (Sl.gap 3 (Sl.one (Lf.int .i64) (Sl.gap 35 Sl.nil))))) Rw.nil Ls.nil
def C1w (n:Nat):Tab Bool:=[([.b,.r,.l,.r],A8c C05 fun j a=>B4g n j a.1.1 a.1.2.1 a.1.2.2.1)]
def B8w:Fn' (Y20×(Y7×Unit)) Bool:=⟨12,(Tvs.cons Q13 (Tvs.cons (Tv.one (Lf.sh J4)) Tvs.nil)),(Rt.v (Tv.one Lf.bool)),fun n a=>B4r n a.1.1 a.1.2.1 a.1.2.2 a.2.1⟩
def C0k:=Sh.of (Sl.gap 1 (Sl.one (Lf.sh J4) (Sl.k (Kf.box 168 0) (Sl.gap 12 (Sl.one (Lf.sh J4) (Sl.one (Lf.int .i64) (Sl.one (Lf.int .i64) (Sl.gap 27 Sl.nil)))))))) (Rw.box 168 J12 Q12 Rw.nil) Ls.nil
def C30 (n:Nat):Tab Bool:=[([.b,.r,.l,.r,.r],A8c C0k fun j a=>B3k n j a.1.1 a.1.2.1 a.1.2.2.1 a.1.2.2.2.1 a.2.1.1 a.2.1.2.1 a.2.1.2.2.1)]
def B3u:Fn' (Y4×(Y4×Unit)) Bool:=⟨36,Q14,(Rt.v (Tv.one Lf.bool)),fun n a=>B2g n a.1 a.2.1⟩
def B59:=Sh.of (Sl.one (Lf.sh J3) (Sl.one (Lf.sh J3) (Sl.gap 10 (Sl.one (Lf.int .i64) (Sl.one (Lf.int .i64) (Sl.gap 12 Sl.nil)))))) Rw.nil Ls.nil
def B5o (n:Nat):Tab Bool:=[([.b,.r,.l,.r,.r],A8c B59 fun j a=>B28 n j a.1.1 a.1.2.1 a.1.2.2.1 a.1.2.2.2.1)]
def B85:Fn' (Y4×(Y20×(Y4×Unit))) Bool:=⟨63,(Tvs.cons (Tv.agg (Ls.one (Lf.sh J3))) (Tvs.cons (Tv.one (Lf.spt J12 0)) (Tvs.cons (Tv.one (Lf.spt J4 0)) Tvs.nil))),(Rt.v (Tv.one Lf.bool)),fun n a=>B6i n a.1 a.2.1 a.2.2.1⟩
def B2k:Fn' (Y7×((Y20×(Y4×Unit))×Unit)) Int:=⟨62,(Tvs.cons (Tv.one (Lf.sh J4)) (Tvs.cons (Tv.one (Lf.clo 63 (Cs.cons J12 (Cs.cons J4 Cs.nil)))) Tvs.nil)),(Rt.v (Tv.one (Lf.int .i64))),fun n a=>B25 n a.1 a.2.1.1 a.2.1.2.1⟩
def B3e:=Sh.of (Sl.one (Lf.sh J4) (Sl.one (Lf.clo 63 (Cs.cons J12 (Cs.cons J4 Cs.nil))) (Sl.gap 5 (Sl.one (Lf.int .i64) (Sl.one (Lf.int .i64) (Sl.gap 10 Sl.nil)))))) Rw.nil Ls.nil
def B3j (n:Nat):Tab Int:=[([.b,.r,.l,.r],A8c B3e fun j a=>D2 n j a.1.1 a.1.2.1.1 a.1.2.1.2.1 a.1.2.2.1 a.1.2.2.2.1)]
def B9x:Fn' (Y20×(Y7×(Y4×Unit))) Int:=⟨22,Q34,(Rt.v (Tv.one (Lf.int .i64))),fun n a=>B5h n a.1.1 a.1.2.1 a.1.2.2 a.2.1 a.2.2.1⟩
def B7u:Fn' (Y4×Unit) Y4:=⟨65,(Tvs.cons (Tv.one (Lf.sh J3)) Tvs.nil),(Rt.v (Tv.one (Lf.od J3))),fun n a=>B4j n a.1⟩
def B7t:Fn' (Y7×Unit) Y7:=⟨33,(Tvs.cons (Tv.one (Lf.sh J4)) Tvs.nil),(Rt.v (Tv.one (Lf.od J4))),fun n a=>B4i n a.1⟩
def B9i:=Sh.of (Sl.gap 3 (Sl.k (Kf.ow 232) (Sl.gap 2 (Sl.one (Lf.sh J4) (Sl.one (Lf.int .i64) (Sl.one (Lf.int .i64) (Sl.gap 12 Sl.nil))))))) (Rw.data 232 J4 Rw.nil) Ls.nil
def C1k (n:Nat):Tab Y7:=[([.b,.r,.l,.r,.r],A8c B9i fun j a=>B3g n j a.1.1 a.1.2.1 a.1.2.2.1 a.2.1)]
def B3p:Fn' (Y7×(Int×(Y7×Unit))) Y7:=⟨64,(Tvs.cons (Tv.one (Lf.od J4)) (Tvs.cons (Tv.one (Lf.int .i64)) (Tvs.cons (Tv.one (Lf.od J4)) Tvs.nil))),(Rt.v (Tv.one (Lf.od J4))),fun n a=>B2e n a.1 a.2.1 a.2.2.1⟩
def B8y:Fn' (Y20×(Y7×(Y4×Unit))) Y7:=⟨24,Q35,(Rt.v (Tv.one (Lf.od J4))),fun n a=>B6u n a.1.1 a.1.2.1 a.1.2.2 a.2.1 a.2.2.1⟩
def C0m:=Sh.of (Sl.gap 1 (Sl.one (Lf.sh J4) (Sl.gap 1 (Sl.k (Kf.box 232 0) (Sl.gap 1 (Sl.k (Kf.box 360 0) (Sl.gap 1 (Sl.one (Lf.int .i64) (Sl.gap 27 Sl.nil))))))))) (Rw.box 232 J12 Q12 (Rw.box 360 J4 (Ls.cons (Lf.sh J3) Ls.nil) Rw.nil)) Ls.nil
def C32 (n:Nat):Tab Y7:=[([.b,.l,.r,.r],A8c C0m fun j a=>B43 n j a.1.1 a.1.2.1 a.2.1.1 a.2.1.2.1 a.2.1.2.2.1 a.2.2.1.1)]
def B8v:Fn' (Y20×(Y7×(Y4×Unit))) Y12:=⟨6,Q35,Q21,fun n a=>B68 n a.1.1 a.1.2.1 a.1.2.2 a.2.1 a.2.2.1⟩
def B9u:Fn' (Y20×(Y4×Unit)) Bool:=⟨30,Q29,(Rt.v (Tv.one Lf.bool)),fun n a=>B7n n a.1.1 a.1.2.1 a.1.2.2 a.2.1⟩
def B9r:Fn' (Y20×(Y4×Unit)) Y4:=⟨8,Q29,(Rt.v (Tv.one (Lf.od J3))),fun n a=>B7k n a.1.1 a.1.2.1 a.1.2.2 a.2.1⟩
def B9t:Fn' (Y20×(Y7×(Y4×Unit))) Int:=⟨9,Q34,(Rt.v (Tv.one (Lf.int .i64))),fun n a=>B7m n a.1.1 a.1.2.1 a.1.2.2 a.2.1 a.2.2.1⟩
def B9s:Fn' (Y20×(Y4×Unit)) Bool:=⟨31,(Tvs.cons Q13 (Tvs.cons (Tv.one (Lf.sh J3)) Tvs.nil)),(Rt.v (Tv.one Lf.bool)),fun n a=>B7l n a.1.1 a.1.2.1 a.1.2.2 a.2.1⟩
def C1e:=Sh.of (Sl.gap 1 (Sl.one (Lf.sh J3) (Sl.k (Kf.box 168 0) (Sl.gap 16 (Sl.one (Lf.sh .str) (Sl.one (Lf.int .i64) (Sl.one (Lf.int .i64) (Sl.gap 27 Sl.nil)))))))) (Rw.box 168 J12 Q12 Rw.nil) Ls.nil
def C4e (n:Nat):Tab Bool:=[([.b,.r,.l,.r,.r],A8c C1e fun j a=>B4h n j a.1.1 a.1.2.1 a.1.2.2.1 a.1.2.2.2.1 a.2.1.1 a.2.1.2.1 a.2.1.2.2.1)]
def B3o:Fn' (Y7×(Int×(Int×Unit))) Y7:=⟨32,(Tvs.cons (Tv.one (Lf.od J4)) (Tvs.cons (Tv.one (Lf.int .i64)) Q1)),(Rt.v (Tv.one (Lf.od J4))),fun n a=>B2y n a.1 a.2.1 a.2.2.1⟩
def B8u:Fn' (Y20×(Y7×(Y4×Unit))) Y12:=⟨10,Q34,Q21,fun n a=>B6t n a.1.1 a.1.2.1 a.1.2.2 a.2.1 a.2.2.1⟩
def B6r:Fn' (Y4×(Y4×Unit)) Bool:=⟨35,(Tvs.cons (Tv.agg (Ls.one (Lf.sh J3))) Q5),(Rt.v (Tv.one Lf.bool)),fun n a=>B5d n a.1 a.2.1⟩
def B2c:Fn' (Y7×(Y7×(Unit×Unit))) Bool:=⟨34,(Tvs.cons (Tv.one (Lf.sh J4)) (Tvs.cons (Tv.one (Lf.sh J4)) (Tvs.cons (Tv.one (Lf.clo 35 Cs.nil)) Tvs.nil))),(Rt.v (Tv.one Lf.bool)),fun n a=>D4 n a.1 a.2.1⟩
def B2l:=Sh.of (Sl.gap 1 (Sl.one (Lf.sh J4) (Sl.one (Lf.clo 35 Cs.nil) (Sl.gap 12 (Sl.one (Lf.sh J4) (Sl.one (Lf.int .i64) (Sl.one (Lf.int .i64) (Sl.gap 14 Sl.nil)))))))) Rw.nil Ls.nil
def B2n (n:Nat):Tab Bool:=[([.b,.r,.l,.r,.r],A8c B2l fun j a=>C1 n j a.1.1 a.1.2.2.1 a.1.2.2.2.1 a.1.2.2.2.2.1)]
def B7s:Fn' (Y7×(Y7×Unit)) Bool:=⟨11,(Tvs.cons (Tv.one (Lf.sh J4)) (Tvs.cons (Tv.one (Lf.sh J4)) Tvs.nil)),(Rt.v (Tv.one Lf.bool)),fun n a=>B63 n a.1 a.2.1⟩
def B75:Fn' ((List Int)×Unit) Bool:=⟨3,Q3,(Rt.v (Tv.one Lf.bool)),fun n a=>B8k n a.1⟩
def C68:List Ent:=[B0c B95,B0c B89,B0c B7v,B0c B8b,B0c B9z,B0c B98,B0c C04,B0c B9b,B0c B8a,B0c B8c,B0c B93,B0c B96,B0c C03,B0c C00,B0c B87,B0c B8d,B0c C02,B0c B9d,B0c B88,B0c B86,B0c B92,B0c B6n,B0c C01,B0c B9f,B0c B9e,B0c B91,B0c B8e,B0c B99,B0c B97,B0c B94,B0c B9a,B0c B9c,B0c B7c,B0c B6s,B0c B90,B0c B8x,B0c B9v,B0c B9q,B0c B81,B0c B2j,B0c B9p,B0c B83,B0c B8z,B0c B9y,B0c B9w,B0c B84,B0c B82,B0c B8w,B0c B3u,B0c B85,B0c B2k,B0c B9x,B0c B7u,B0c B7t,B0c B3p,B0c B8y,B0c B8v,B0c B9u,B0c B9r,B0c B9t,B0c B9s,B0c B3o,B0c B8u,B0c B6r,B0c B2c,B0c B7s,B0c B75]
def C5m (n:Nat):CF:=chain C68 n
abbrev EqB {A T:Type}(F:Fn' A T)(n:Nat)(W:Tab T):Prop:=∀a,A1r env (C5m n) n F.g W (F.args.to a) F.ret.un=F.run (n+1) a
abbrev TbB {A T:Type}(F:Fn' A T)(n:Nat)(W:Tab T):Prop:=A7f env (C5m n) n F.g W F.ret.un
abbrev B27 (n:Nat):Prop:=∀e∈C68,B07 Try.prog env n e
abbrev B2m {A T:Type}(n:Nat)(F:Fn' A T):Prop:=B07 Try.prog env (n+1) (B0c F)
set_option maxRecDepth 1000000 in
theorem C5s (n:Nat):K2 (C5m n):=A80 (by
  simp only[C68,List.forall_mem_cons,List.not_mem_nil,false_implies,implies_true,and_true]
  repeat' apply And.intro
  all_goals exact B1y _)
theorem V2 {α:Type}{p:α→Prop}{a:α}{l:List α}(h1:p a)(h2:∀x∈l,p x):∀x∈a::l,p x:=List.forall_mem_cons.mpr ⟨h1,h2⟩
theorem B2r {α:Type}{p:α→Prop}:∀x∈([]:List α),p x:=fun _ h=>by cases h
theorem st {n:Nat}{A T:Type}{F:Fn' A T}(W:Tab T)(h:B27 n)(ht:TbB F n W)(he:EqB F n W):A9s Try.prog env F (n+1):=B14 C7n C7o (A8t h) (C5s n) ht he
theorem sv {n:Nat}{A T:Type}{F:Fn' A T}(W:Tab T)(h:B27 n)(ht:∀q∈W,RowOk env (C5m n) n F.g W F.ret.un q)(he:EqB F n W):B2m n F:=B1g (st W h (B24 ht) he)
theorem sn {n:Nat}{A T:Type}{F:Fn' A T}(h:B27 n)(he:EqB F n []):B2m n F:=B1g (st [] h B1a he)
theorem s0 {A T:Type}{F:Fn' A T}(h:∀a,F.run 0 a=none):B07 Try.prog env 0 (B0c F):=B1g (B15 h)
theorem sx {n:Nat}{A T:Type}{F:Fn' A T}(h:A9s Try.prog env F (n+1)):B2m n F:=B1g h
theorem C3x (n:Nat)(h:B27 n):B2m n B95:=sv (C35 n) h (V2 (B1q (fun _=>rfl) (fun _ _=>by kernel_rfl)) B2r) fun a=>by kernel_rfl
theorem C2s (n:Nat)(h:B27 n):B2m n B89:=sn h fun a=>by kernel_rfl
theorem C1q (n:Nat)(h:B27 n):B2m n B7v:=sn h fun a=>by kernel_rfl
theorem C2u (n:Nat)(h:B27 n):B2m n B8b:=sn h fun a=>by kernel_rfl
theorem C4w (n:Nat)(h:B27 n):B2m n B9z:=sv (C4h n) h (V2 (B1q (fun _=>rfl) (fun _ _=>by kernel_rfl)) B2r) fun a=>by kernel_rfl
theorem C40 (n:Nat)(h:B27 n):B2m n B98:=sv (C36 n) h (V2 (B1q (fun _=>rfl) (fun _ _=>by kernel_rfl)) B2r) fun a=>by kernel_rfl
theorem C51 (n:Nat)(h:B27 n):B2m n C04:=sn h fun a=>by kernel_rfl
theorem C43 (n:Nat)(h:B27 n):B2m n B9b:=sn h fun a=>by kernel_rfl
theorem C2t (n:Nat)(h:B27 n):B2m n B8a:=sv (C20 n) h (V2 (B1q (fun _=>rfl) (fun _ _=>by kernel_rfl)) B2r) fun a=>by kernel_rfl
theorem C2v (n:Nat)(h:B27 n):B2m n B8c:=sv (C21 n) h (V2 (B1r (fun _ _=>rfl) (fun _ _ _=>by kernel_rfl)) (V2 (B1q (fun _=>rfl) (fun _ _=>by kernel_rfl)) B2r)) fun a=>by kernel_rfl
theorem C3v (n:Nat)(h:B27 n):B2m n B93:=sv (C34 n) h (V2 (B1q (fun _=>rfl) (fun _ _=>by kernel_rfl)) B2r) fun a=>by kernel_rfl
theorem C3y (n:Nat)(h:B27 n):B2m n B96:=sn h fun a=>by kernel_rfl
theorem C50 (n:Nat)(h:B27 n):B2m n C03:=sn h fun a=>by kernel_rfl
theorem C4x (n:Nat)(h:B27 n):B2m n C00:=sn h fun a=>by kernel_rfl
theorem C2q (n:Nat)(h:B27 n):B2m n B87:=sv (C1z n) h (V2 (B1q (fun _=>rfl) (fun _ _=>by kernel_rfl)) (V2 (B1q (fun _=>rfl) (fun _ _=>by kernel_rfl)) B2r)) fun a=>by kernel_rfl
theorem C2w (n:Nat)(h:B27 n):B2m n B8d:=sn h fun a=>by kernel_rfl
theorem C4z (n:Nat)(h:B27 n):B2m n C02:=sv (C4j n) h (V2 (B1q (fun _=>rfl) (fun _ _=>by kernel_rfl)) B2r) fun a=>by kernel_rfl
theorem C45 (n:Nat)(h:B27 n):B2m n B9d:=sv (C39 n) h (V2 (B1q (fun _=>rfl) (fun _ _=>by kernel_rfl)) B2r) fun a=>by kernel_rfl
theorem C2r (n:Nat)(h:B27 n):B2m n B88:=sn h fun a=>by kernel_rfl
theorem C2p (n:Nat)(h:B27 n):B2m n B86:=sv (C1y n) h (V2 (B1q (fun _=>rfl) (fun _ _=>by kernel_rfl)) B2r) fun a=>by kernel_rfl
theorem C3u (n:Nat)(h:B27 n):B2m n B92:=sv (C33 n) h (V2 (B1q (fun _=>rfl) (fun _ _=>by kernel_rfl)) B2r) fun a=>by kernel_rfl
theorem B9o (n:Nat)(h:B27 n):B2m n B6n:=sv (B9j n) h (V2 (B1q (fun _=>rfl) (fun _ _=>by kernel_rfl)) B2r) fun a=>by kernel_rfl
theorem C4y (n:Nat)(h:B27 n):B2m n C01:=sv (C4i n) h (V2 (B1q (fun _=>rfl) (fun _ _=>by kernel_rfl)) B2r) fun a=>by kernel_rfl
theorem C47 (n:Nat)(h:B27 n):B2m n B9f:=sn h fun a=>by kernel_rfl
theorem C46 (n:Nat)(h:B27 n):B2m n B9e:=sv (C3a n) h (V2 (B1q (fun _=>rfl) (fun _ _=>by kernel_rfl)) B2r) fun a=>by kernel_rfl
theorem C3t (n:Nat)(h:B27 n):B2m n B91:=sn h fun a=>by kernel_rfl
theorem C2x (n:Nat)(h:B27 n):B2m n B8e:=sv (C22 n) h (V2 (B1q (fun _=>rfl) (fun _ _=>by kernel_rfl)) B2r) fun a=>by kernel_rfl
theorem C41 (n:Nat)(h:B27 n):B2m n B99:=sn h fun a=>by kernel_rfl
theorem C3z (n:Nat)(h:B27 n):B2m n B97:=sn h fun a=>by kernel_rfl
theorem C3w (n:Nat)(h:B27 n):B2m n B94:=sn h fun a=>by kernel_rfl
theorem C42 (n:Nat)(h:B27 n):B2m n B9a:=sv (C37 n) h (V2 (B1q (fun _=>rfl) (fun _ _=>by kernel_rfl)) (V2 (B1q (fun _=>rfl) (fun _ _=>by kernel_rfl)) (V2 (B1q (fun _=>rfl) (fun _ _=>by kernel_rfl)) (V2 (B1q (fun _=>rfl) (fun _ _=>by kernel_rfl)) (V2 (B1q (fun _=>rfl) (fun _ _=>by kernel_rfl)) (V2 (B1q (fun _=>rfl) (fun _ _=>by kernel_rfl)) (V2 (B1q (fun _=>rfl) (fun _ _=>by kernel_rfl)) B2r))))))) fun a=>by kernel_rfl
theorem C44 (n:Nat)(h:B27 n):B2m n B9c:=sv (C38 n) h (V2 (B1q (fun _=>rfl) (fun _ _=>by kernel_rfl)) (V2 (B1q (fun _=>rfl) (fun _ _=>by kernel_rfl)) (V2 (B1q (fun _=>rfl) (fun _ _=>by kernel_rfl)) (V2 (B1q (fun _=>rfl) (fun _ _=>by kernel_rfl)) (V2 (B1q (fun _=>rfl) (fun _ _=>by kernel_rfl)) (V2 (B1q (fun _=>rfl) (fun _ _=>by kernel_rfl)) B2r)))))) fun a=>by kernel_rfl
theorem C1c (n:Nat)(h:B27 n):B2m n B7c:=sv (C16 n) h (V2 (B1q (fun _=>rfl) (fun _ _=>by kernel_rfl)) (V2 (B1q (fun _=>rfl) (fun _ _=>by kernel_rfl)) B2r)) fun a=>by kernel_rfl
theorem C0j (n:Nat)(h:B27 n):B2m n B6s:=sn h fun a=>by kernel_rfl
theorem C3r (n:Nat)(h:B27 n):B2m n B90:=sn h fun a=>by kernel_rfl
theorem C3o (n:Nat)(h:B27 n):B2m n B8x:=sv (C31 n) h (V2 (B1q (fun _=>rfl) (fun _ _=>by kernel_rfl)) B2r) fun a=>by kernel_rfl
theorem C4s (n:Nat)(h:B27 n):B2m n B9v:=sn h fun a=>by kernel_rfl
theorem C4n (n:Nat)(h:B27 n):B2m n B9q:=sn h fun a=>by kernel_rfl
theorem C2k (n:Nat)(h:B27 n):B2m n B81:=sn h fun a=>by kernel_rfl
theorem B3m (n:Nat)(h:B27 n):B2m n B2j:=sv (B3i n) h (V2 (B1q (fun _=>rfl) (fun _ _=>by kernel_rfl)) B2r) fun a=>by kernel_rfl
theorem C4m (n:Nat)(h:B27 n):B2m n B9p:=sn h fun a=>by kernel_rfl
theorem C2m (n:Nat)(h:B27 n):B2m n B83:=sv (C1x n) h (V2 (B1q (fun _=>rfl) (fun _ _=>by kernel_rfl)) (V2 (B1q (fun _=>rfl) (fun _ _=>by kernel_rfl)) B2r)) fun a=>by kernel_rfl
theorem C3q (n:Nat)(h:B27 n):B2m n B8z:=sn h fun a=>by kernel_rfl
theorem C4v (n:Nat)(h:B27 n):B2m n B9y:=sv (C4g n) h (V2 (B1q (fun _=>rfl) (fun _ _=>by kernel_rfl)) B2r) fun a=>by kernel_rfl
theorem C4t (n:Nat)(h:B27 n):B2m n B9w:=sv (C4f n) h (V2 (B1q (fun _=>rfl) (fun _ _=>by kernel_rfl)) B2r) fun a=>by kernel_rfl
theorem C2n (n:Nat)(h:B27 n):B2m n B84:=sn h fun a=>by kernel_rfl
theorem C2l (n:Nat)(h:B27 n):B2m n B82:=sv (C1w n) h (V2 (B1q (fun _=>rfl) (fun _ _=>by kernel_rfl)) B2r) fun a=>by kernel_rfl
theorem C3n (n:Nat)(h:B27 n):B2m n B8w:=sv (C30 n) h (V2 (B1q (fun _=>rfl) (fun _ _=>by kernel_rfl)) B2r) fun a=>by kernel_rfl
theorem B5z (n:Nat)(h:B27 n):B2m n B3u:=sv (B5o n) h (V2 (B1q (fun _=>rfl) (fun _ _=>by kernel_rfl)) B2r) fun a=>by kernel_rfl
theorem C2o (n:Nat)(h:B27 n):B2m n B85:=sn h fun a=>by kernel_rfl
theorem B3n (n:Nat)(h:B27 n):B2m n B2k:=sv (B3j n) h (V2 (B1q (fun _=>rfl) (fun _ _=>by kernel_rfl)) B2r) fun a=>by kernel_rfl
theorem C4u (n:Nat)(h:B27 n):B2m n B9x:=sn h fun a=>by kernel_rfl
theorem C1p (n:Nat)(h:B27 n):B2m n B7u:=sn h fun a=>by kernel_rfl
theorem C1o (n:Nat)(h:B27 n):B2m n B7t:=sv (C1k n) h (V2 (B1q (fun _=>rfl) (fun _ _=>by kernel_rfl)) B2r) fun a=>by kernel_rfl
theorem B5b (n:Nat):A9s Try.prog env B3p (n+1):=fun a r h=>B21 (f:=J4) C6t Try.underlying27 Try.underlying3 (B0n (P:=Try.prog) (e:=30) (f:=J4) (eb:=24) (by kernel_rfl)) (by decide) h
theorem C3p (n:Nat)(h:B27 n):B2m n B8y:=sv (C32 n) h (V2 (B1q (fun _=>rfl) (fun _ _=>by kernel_rfl)) B2r) fun a=>by kernel_rfl
theorem C3m (n:Nat)(h:B27 n):B2m n B8v:=sn h fun a=>by kernel_rfl
theorem C4r (n:Nat)(h:B27 n):B2m n B9u:=sn h fun a=>by kernel_rfl
theorem C4o (n:Nat)(h:B27 n):B2m n B9r:=sn h fun a=>by kernel_rfl
theorem C4q (n:Nat)(h:B27 n):B2m n B9t:=sn h fun a=>by kernel_rfl
theorem C4p (n:Nat)(h:B27 n):B2m n B9s:=sv (C4e n) h (V2 (B1q (fun _=>rfl) (fun _ _=>by kernel_rfl)) B2r) fun a=>by kernel_rfl
theorem B5a (n:Nat):A9s Try.prog env B3o (n+1):=fun a r h=>B1x (f:=J4) C6l Try.underlying27 (B0n (P:=Try.prog) (e:=30) (f:=J4) (eb:=24) (by kernel_rfl)) h
theorem C3l (n:Nat)(h:B27 n):B2m n B8u:=sn h fun a=>by kernel_rfl
theorem C0i (n:Nat)(h:B27 n):B2m n B6r:=sn h fun a=>by kernel_rfl
theorem B2o (n:Nat)(h:B27 n):B2m n B2c:=sv (B2n n) h (V2 (B1q (fun _=>rfl) (fun _ _=>by kernel_rfl)) B2r) fun a=>by kernel_rfl
theorem C1n (n:Nat)(h:B27 n):B2m n B7s:=sn h fun a=>by kernel_rfl
theorem C3s (n:Nat)(h:B27 n):B2m n B75:=sn h fun a=>by kernel_rfl
set_option maxRecDepth 1000000 in
theorem C60:∀n,B27 n
  |0=>by
    simp only[B27,C68,List.forall_mem_cons,List.not_mem_nil,false_implies,implies_true,and_true]
    repeat' apply And.intro
    all_goals exact s0 fun _=>rfl
  |n+1=>by
    have h:B27 n:=C60 n
    simp only[B27,C68,List.forall_mem_cons,List.not_mem_nil,false_implies,implies_true,and_true]
    exact⟨C3x n h,C2s n h,C1q n h,C2u n h,C4w n h,C40 n h,C51 n h,C43 n h,C2t n h,C2v n h,C3v n h,C3y n h,C50 n h,C4x n h,C2q n h,C2w n h,C4z n h,C45 n h,C2r n h,C2p n h,C3u n h,B9o n h,C4y n h,C47 n h,C46 n h,C3t n h,C2x n h,C41 n h,C3z n h,C3w n h,C42 n h,C44 n h,C1c n h,C0j n h,C3r n h,C3o n h,C4s n h,C4n n h,C2k n h,B3m n h,C4m n h,C2m n h,C3q n h,C4v n h,C4t n h,C2n n h,C2l n h,C3n n h,B5z n h,C2o n h,B3n n h,C4u n h,C1p n h,C1o n h,sx (B5b n),C3p n h,C3m n h,C4r n h,C4o n h,C4q n h,C4p n h,sx (B5a n),C3l n h,C0i n h,B2o n h,C1n n h,C3s n h⟩
theorem C80:∀n,A9s Try.prog env B75 n
  |0=>B15 fun _=>rfl
  |n+1=>st [] (C60 n) B1a fun a=>by kernel_rfl
end Go.Proofs.Ytalmhjlcjcnidaa.Ev
