/- The tables of the law FnExactExecAll: what the evaluator makes of the program is these functions. -/
import Derived.Test.YtklgakikhdompaaGreatEvFnFnExactExecAll
import Derived.Test.YtklgakikhdompaaGreatEvExtFnExactExecAll
import Derived.Test.YtklgakikhdompaaGreatEvHead
import Derived.Test.YtklgakikhdompaaGreatEvEq
import Derived.Test.YtklgakikhdompaaGreatChecked
set_option linter.all false
namespace Go.Proofs.YtklgakikhdompaaGreat.Ev
open Go Go.Proofs
abbrev J1 : Kd := (.pair (.int .i64) .str)
abbrev J2 : Kd := (.pair (.sl .str) (.pair .str .str))
abbrev J3 : Kd := (.pair (.int .i64) J1)
abbrev J4 : Kd := (.sl J3)
abbrev J5 : Kd := (.sl J4)
abbrev J6 : Kd := (.pair .bool J3)
abbrev J7 : Kd := (.sl J5)
abbrev J8 : Kd := (.pair .bool J6)
abbrev J9 : Kd := (.pair (.int .i64) J8)
abbrev J10 : Kd := (.pair .str J9)
abbrev J11 : Kd := (.sl J10)
abbrev J12 : Kd := (.pair J11 (.sl .str))
abbrev J13 : Kd := (.pair .str J12)
abbrev J14 : Kd := (.sl J13)
abbrev J15 : Kd := (.pair J11 J2)
abbrev J16 : Kd := (.pair .str J15)
abbrev J17 : Kd := (.pair (.int .i64) J16)
abbrev J18 : Kd := (.pair J14 J7)
abbrev J19 : Kd := (.pair J4 J17)
abbrev J20 : Kd := (.pair J4 J19)
abbrev J21 : Kd := (.pair .str J20)
abbrev J22 : Kd := (.pair (.int .i64) J21)
abbrev Z1 : Type := ((List ByteArray) × Unit)
abbrev Z2 : Type := ((List ByteArray) × (Int × Unit))
abbrev Z3 : Type := ((List ByteArray) × (ByteArray × Unit))
abbrev Q1 := (Tvs.cons (Tv.one (Lf.sh .str)) Tvs.nil)
abbrev Q2 := (Ls.cons Lf.str (Ls.cons Lf.str Ls.nil))
abbrev Q3 := (Tvs.cons (Tv.one (Lf.int .i64)) Tvs.nil)
abbrev Q4 := (Ls.cons (Lf.sh J13) (Ls.one (Lf.sh J5)))
abbrev Q5 := (Ls.cons (Lf.od J13) (Ls.one (Lf.od J5)))
abbrev Q6 := (Ls.cons (Lf.sh J10) (Ls.one (Lf.sh .str)))
abbrev Q7 := (Ls.cons (Lf.od J10) (Ls.one (Lf.od .str)))
abbrev Q8 := (Tvs.cons (Tv.agg (Ls.one (Lf.sh J3))) Tvs.nil)
abbrev Q9 := (Tvs.cons (Tv.agg (Ls.one (Lf.sh J13))) Tvs.nil)
abbrev Q10 := (Ls.cons (Lf.sh J13) (Ls.cons (Lf.sh J5) Ls.nil))
abbrev Q11 := (Tv.agg Q4)
abbrev Q12 := (Tv.agg Q5)
abbrev Q13 := (Ls.cons (Lf.sh J10) (Ls.cons (Lf.sh .str) Ls.nil))
abbrev Q14 := (Ls.cons (Lf.sh .str) (Ls.cons Lf.str (Ls.one Lf.str)))
abbrev Q15 := (Rt.v Q12)
abbrev Q16 := (Ls.cons Lf.str Q6)
abbrev Q17 := (Ls.cons Lf.str Q7)
abbrev Q18 := (Ls.cons (Lf.int .i64) (Ls.cons (Lf.int .i64) (Ls.one Lf.str)))
abbrev Q19 := (Ls.cons (Lf.sh .str) Q2)
abbrev Q20 := (Tvs.cons (Tv.one (Lf.sh .str)) (Tvs.cons (Tv.one Lf.str) Tvs.nil))
abbrev Q21 := (Ls.cons Lf.str Q13)
abbrev Q22 := (Tv.agg Q16)
abbrev Q23 := (Tv.agg Q17)
abbrev Q24 := (Tvs.cons Q11 Tvs.nil)
abbrev Q25 := (Tvs.cons (Tv.one (Lf.sh J3)) (Tvs.cons (Tv.one (Lf.sh J3)) Tvs.nil))
abbrev Q26 := (Tvs.cons (Tv.one (Lf.sh J4)) (Tvs.cons (Tv.one (Lf.sh J3)) Tvs.nil))
abbrev Q27 := (Tv.agg Q18)
abbrev Q28 := (Tvs.cons (Tv.one (Lf.sh J4)) Q3)
abbrev Q29 := (Tvs.cons (Tv.one (Lf.od J4)) Q3)
abbrev Q30 := (Tvs.cons (Tv.one (Lf.int .i64)) (Tvs.cons (Tv.one (Lf.od J13)) Tvs.nil))
abbrev Q31 := (Tvs.cons (Tv.one (Lf.int .i64)) Q3)
abbrev Q32 := (Rt.v Q23)
abbrev Q33 := (Ls.cons (Lf.sh J10) Q14)
abbrev Q34 := (Tvs.cons (Tv.one (Lf.sh J4)) Q8)
abbrev Q35 := (Ls.cons Lf.bool Q18)
abbrev Q36 := (Rt.tup Q29)
abbrev Q37 := (Tvs.cons (Tv.agg (Ls.one (Lf.sh J13))) Q3)
abbrev Q38 := (Ls.cons (Lf.sh J10) Q19)
abbrev Q39 := (Tvs.cons Q22 Tvs.nil)
abbrev Q40 := (Tvs.cons Q27 Tvs.nil)
abbrev Q41 := (Ls.cons Lf.str Q33)
abbrev Q42 := (Ls.cons Lf.bool Q35)
abbrev Q43 := (Ls.cons Lf.str Q38)
abbrev Q44 := (Tvs.cons Q11 Q3)
abbrev Q45 := (Tvs.cons Q12 Q3)
abbrev Q46 := (Ls.cons (Lf.int .i64) Q41)
abbrev Q47 := (Ls.cons (Lf.int .i64) Q42)
abbrev Q48 := (Ls.cons (Lf.int .i64) Q43)
abbrev Q49 := (Tv.agg Q46)
abbrev Q50 := (Tvs.cons Q22 Q8)
abbrev Q51 := (Ls.cons (Lf.sh J3) Q46)
abbrev Q52 := (Ls.cons Lf.str Q47)
abbrev Q53 := (Tvs.cons Q49 Tvs.nil)
abbrev Q54 := (Tv.agg Q52)
abbrev Q55 := (Tvs.cons Q22 Q26)
abbrev Q56 := (Tvs.cons Q22 Q34)
abbrev Q57 := (Ls.cons (Lf.sh J3) Q51)
abbrev Q58 := (Tvs.cons Q54 Tvs.nil)
abbrev Q59 := (Tvs.cons Q27 Q40)
abbrev Q60 := (Ls.cons Lf.str Q57)
abbrev Q61 := (Tvs.cons (Tv.agg (Ls.one (Lf.sh J13))) Q53)
abbrev Q62 := (Ls.cons (Lf.int .i64) Q60)
abbrev Q63 := (Tv.agg Q62)
abbrev Q64 := (Tvs.cons Q63 Tvs.nil)
abbrev Q65 := (Tvs.cons Q11 Q64)
def bytesT : List (Kd × Nat) := [(J13, 64), (J10, 64), (.str, 16), (J5, 24), (J4, 24), (J3, 32), (J22, 176)]
def bytesOf (f : Kd) : Nat := ((bytesT.find? fun p => decide (p.1 = f)).map (·.2)).getD 1
theorem bytes_pos (f : Kd) : 1 ≤ bytesOf f := by
  unfold bytesOf
  cases h : bytesT.find? fun p => decide (p.1 = f) with
  | none => exact Nat.le_refl _
  | some p =>
    have hp : ∀ q ∈ bytesT, 1 ≤ q.2 := by decide
    exact hp p (List.mem_of_find?_eq_some h)
noncomputable def env : Env := ⟨[(3, ⟨1, 0, false, [], (.int .i64)⟩),
  (4, ⟨1, 0, false, [], .bool⟩),
  (5, ⟨1, 0, false, [], (.int .u8)⟩),
  (9, ⟨1, 0, false, [], .str⟩),
  (22, ⟨1, 1, false, [], (.sl (.int .u8))⟩),
  (23, ⟨1, 64, false, [], J14⟩),
  (25, ⟨1, 0, true, [(0, 1)], J14⟩),
  (26, ⟨1, 24, false, [], J7⟩),
  (28, ⟨2, 0, true, [(0, 1), (1, 1)], J18⟩),
  (29, ⟨1, 32, false, [], J4⟩),
  (31, ⟨1, 0, true, [(0, 1)], J4⟩),
  (32, ⟨1, 64, false, [], J11⟩),
  (33, ⟨1, 16, false, [], (.sl .str)⟩),
  (35, ⟨6, 0, true, [(0, 1), (1, 1), (2, 1), (3, 1), (4, 1), (5, 1)], J17⟩),
  (37, ⟨10, 0, true, [(0, 1), (1, 1), (2, 1), (3, 1), (4, 6)], J22⟩),
  (45, ⟨1, 64, false, [], J14⟩),
  (47, ⟨1, 0, true, [(0, 1)], J14⟩),
  (48, ⟨1, 24, false, [], J7⟩),
  (50, ⟨2, 0, true, [(0, 1), (1, 1)], J18⟩),
  (51, ⟨1, 32, false, [], J4⟩),
  (53, ⟨1, 0, true, [(0, 1)], J4⟩),
  (54, ⟨1, 64, false, [], J11⟩),
  (56, ⟨6, 0, true, [(0, 1), (1, 1), (2, 1), (3, 1), (4, 1), (5, 1)], J17⟩),
  (58, ⟨10, 0, true, [(0, 1), (1, 1), (2, 1), (3, 1), (4, 6)], J22⟩),
  (68, ⟨1, 176, false, [], (.sl J22)⟩),
  (72, ⟨1, 176, false, [], (.sl J22)⟩),
  (89, ⟨1, 24, false, [], J5⟩),
  (93, ⟨3, 0, true, [(0, 1), (1, 1), (2, 1)], J13⟩),
  (95, ⟨1, 0, true, [(0, 1)], J5⟩),
  (137, ⟨3, 0, true, [(0, 1), (1, 1), (2, 1)], J3⟩),
  (156, ⟨1, 24, false, [], J5⟩),
  (158, ⟨1, 0, true, [(0, 1)], J5⟩),
  (160, ⟨3, 0, true, [(0, 1), (1, 1), (2, 1)], J3⟩),
  (175, ⟨7, 0, true, [(0, 1), (1, 1), (2, 1), (3, 1), (4, 3)], J10⟩),
  (221, ⟨3, 0, true, [(0, 1), (1, 1), (2, 1)], J13⟩),
  (225, ⟨7, 0, true, [(0, 1), (1, 1), (2, 1), (3, 1), (4, 3)], J10⟩)],
  [(5, Tryz.f5), (10, Tryz.f10), (12, Tryz.f12), (13, Tryz.f13), (14, Tryz.f14), (15, Tryz.f15), (16, Tryz.f16), (17, Tryz.f17), (18, Tryz.f18), (19, Tryz.f19), (21, Tryz.f21), (22, Tryz.f22), (23, Tryz.f23), (24, Tryz.f24), (25, Tryz.f25), (26, Tryz.f26), (27, Tryz.f27), (33, Tryz.f33), (39, Tryz.f39), (40, Tryz.f40), (41, Tryz.f41), (42, Tryz.f42), (43, Tryz.f43), (44, Tryz.f44), (45, Tryz.f45), (46, Tryz.f46), (47, Tryz.f47), (48, Tryz.f48), (49, Tryz.f49), (50, Tryz.f50), (51, Tryz.f51), (52, Tryz.f52), (53, Tryz.f53), (54, Tryz.f54), (55, Tryz.f55), (56, Tryz.f56), (57, Tryz.f57), (58, Tryz.f58), (59, Tryz.f59), (60, Tryz.f60), (61, Tryz.f61), (62, Tryz.f62), (63, Tryz.f63), (64, Tryz.f64), (65, Tryz.f65), (68, Tryz.f68), (69, Tryz.f69), (70, Tryz.f70), (71, Tryz.f71), (72, Tryz.f72), (73, Tryz.f73), (83, Tryz.f83), (84, Tryz.f84), (85, Tryz.f85), (95, Tryz.f95), (96, Tryz.f96), (97, Tryz.f97), (98, Tryz.f98), (99, Tryz.f99), (100, Tryz.f100), (101, Tryz.f101), (102, Tryz.f102), (103, Tryz.f103), (104, Tryz.f104), (105, Tryz.f105), (106, Tryz.f106), (107, Tryz.f107), (108, Tryz.f108), (109, Tryz.f109), (110, Tryz.f110), (111, Tryz.f111), (112, Tryz.f112), (113, Tryz.f113), (114, Tryz.f114), (115, Tryz.f115), (116, Tryz.f116), (117, Tryz.f117), (118, Tryz.f118), (119, Tryz.f119), (120, Tryz.f120), (121, Tryz.f121), (122, Tryz.f122), (123, Tryz.f123), (124, Tryz.f124), (125, Tryz.f125), (126, Tryz.f126), (127, Tryz.f127), (128, Tryz.f128), (129, Tryz.f129), (130, Tryz.f130), (131, Tryz.f131), (132, Tryz.f132), (133, Tryz.f133), (134, Tryz.f134), (135, Tryz.f135), (136, Tryz.f136), (137, Tryz.f137), (138, Tryz.f138), (146, Tryz.f146), (149, Tryz.f149), (154, Tryz.f154), (155, Tryz.f155), (156, Tryz.f156), (157, Tryz.f157), (158, Tryz.f158), (159, Tryz.f159), (160, Tryz.f160), (161, Tryz.f161), (164, Tryz.f164), (178, Tryz.f178), (179, Tryz.f179), (180, Tryz.f180), (181, Tryz.f181), (182, Tryz.f182), (183, Tryz.f183), (184, Tryz.f184), (187, Tryz.f187), (188, Tryz.f188), (189, Tryz.f189), (190, Tryz.f190), (192, Tryz.f192), (193, Tryz.f193), (194, Tryz.f194), (195, Tryz.f195), (196, Tryz.f196), (197, Tryz.f197), (198, Tryz.f198), (199, Tryz.f199), (200, Tryz.f200), (201, Tryz.f201), (202, Tryz.f202), (203, Tryz.f203), (204, Tryz.f204), (205, Tryz.f205), (206, Tryz.f206), (207, Tryz.f207), (208, Tryz.f208), (209, Tryz.f209), (210, Tryz.f210), (211, Tryz.f211), (212, Tryz.f212), (213, Tryz.f213), (214, Tryz.f214), (215, Tryz.f215), (216, Tryz.f216), (217, Tryz.f217), (218, Tryz.f218), (219, Tryz.f219), (228, Tryz.f228), (231, Tryz.f231), (232, Tryz.f232), (247, Tryz.f247), (248, Tryz.f248), (251, Tryz.f251), (252, Tryz.f252), (256, Tryz.f256), (257, Tryz.f257), (259, Tryz.f259), (260, Tryz.f260), (261, Tryz.f261), (262, Tryz.f262), (263, Tryz.f263), (281, Tryz.f281)], [(10, ⟨[], false, none, []⟩), (19, ⟨[.io], true, none, []⟩), (23, ⟨[.give, .give], false, none, []⟩), (27, ⟨[.io], true, none, []⟩), (43, ⟨[], false, none, []⟩), (63, ⟨[.io], true, none, []⟩), (64, ⟨[.io], true, none, []⟩), (65, ⟨[.io], true, none, []⟩), (72, ⟨[.io], true, none, []⟩), (73, ⟨[.io], true, none, []⟩), (107, ⟨[], false, none, []⟩), (133, ⟨[.io], true, none, []⟩), (134, ⟨[.io], true, none, []⟩), (185, ⟨[.give, .ro, .give], true, none, []⟩), (186, ⟨[.give], true, none, []⟩), (191, ⟨[.give], true, none, []⟩), (194, ⟨[], false, none, []⟩), (249, ⟨[.give, .ro, .give], true, none, []⟩), (250, ⟨[.give], true, none, []⟩), (251, ⟨[.give], true, none, []⟩), (255, ⟨[.give], true, none, []⟩), (258, ⟨[.give, .ro, .give], true, none, []⟩)], [(12, [(4, ⟨14680066, []⟩)]), (22, [(5, ⟨35, []⟩)]), (23, [(5, ⟨1835152, [7]⟩)]), (24, [(3, ⟨25, []⟩)]), (25, [(5, ⟨1835152, []⟩)]), (26, [(4, ⟨35, []⟩)]), (27, [(2, ⟨35, []⟩)]), (33, [(4, ⟨14680066, []⟩)]), (42, [(2, ⟨1794, []⟩)]), (43, [(6, ⟨3758096668, []⟩)]), (45, [(3, ⟨14348, []⟩)]), (46, [(2, ⟨450, []⟩)]), (47, [(4, ⟨229382, []⟩)]), (49, [(5, ⟨35, []⟩)]), (50, [(5, ⟨35, []⟩)]), (54, [(3, ⟨25, []⟩)]), (55, [(3, ⟨25, []⟩)]), (59, [(4, ⟨35, []⟩)]), (60, [(4, ⟨35, []⟩)]), (64, [(2, ⟨35, []⟩)]), (65, [(2, ⟨35, []⟩)]), (69, [(2, ⟨35, []⟩)]), (70, [(3, ⟨14348, []⟩)]), (71, [(4, ⟨9, []⟩)]), (72, [(2, ⟨35, []⟩)]), (73, [(2, ⟨35, []⟩)]), (83, [(4, ⟨7170, []⟩)]), (84, [(4, ⟨229382, []⟩)]), (96, [(2, ⟨9, []⟩)]), (103, [(2, ⟨9, []⟩)]), (104, [(2, ⟨225, []⟩)]), (108, [(3, ⟨904, []⟩)]), (112, [(9, ⟨126100789566376992, []⟩), (13, ⟨32407902918558108704, []⟩)]), (113, [(3, ⟨1804, []⟩)]), (114, [(2, ⟨7170, []⟩), (9, ⟨7516192802, []⟩)]), (115, [(4, ⟨229380, []⟩)]), (116, [(2, ⟨35, []⟩)]), (117, [(3, ⟨7212, []⟩)]), (118, [(5, ⟨35, []⟩)]), (121, [(5, ⟨35, []⟩)]), (122, [(5, ⟨35, []⟩)]), (123, [(3, ⟨25, []⟩)]), (126, [(3, ⟨25, []⟩)]), (127, [(3, ⟨25, []⟩)]), (128, [(4, ⟨35, []⟩)]), (131, [(4, ⟨35, []⟩)]), (132, [(4, ⟨35, []⟩)]), (133, [(2, ⟨35, []⟩)]), (134, [(2, ⟨35, []⟩)]), (135, [(2, ⟨35, []⟩)]), (136, [(2, ⟨35, []⟩)]), (137, [(3, ⟨1804, []⟩)]), (138, [(3, ⟨456, []⟩)]), (146, [(2, ⟨387, []⟩)]), (154, [(4, ⟨30064771074, []⟩), (11, ⟨31525197391593506, []⟩)]), (155, [(4, ⟨7340040, []⟩)]), (156, [(2, ⟨35, []⟩)]), (157, [(3, ⟨7212, []⟩)]), (158, [(2, ⟨387, []⟩)]), (160, [(4, ⟨12291, []⟩)]), (161, [(4, ⟨12291, []⟩)]), (164, [(4, ⟨12291, []⟩)]), (184, [(11, ⟨664, []⟩)]), (187, [(12, ⟨6755399441056288, []⟩), (19, ⟨1813388729421943762061824, []⟩)]), (189, [(2, ⟨170, []⟩)]), (190, [(4, ⟨3670022, []⟩)]), (194, [(4, ⟨14456, []⟩)]), (197, [(3, ⟨917560, []⟩), (11, ⟨108086391056891960, []⟩)]), (199, [(4, ⟨57356, []⟩)]), (200, [(4, ⟨29096, []⟩)]), (201, [(4, ⟨3670022, []⟩)]), (202, [(3, ⟨3618, []⟩)]), (203, [(2, ⟨1794, []⟩)]), (208, [(5, ⟨35, []⟩)]), (211, [(3, ⟨25, []⟩)]), (214, [(4, ⟨35, []⟩)]), (216, [(2, ⟨35, []⟩)]), (217, [(2, ⟨35, []⟩)]), (218, [(2, ⟨35, []⟩)]), (247, [(2, ⟨387, []⟩)]), (251, [(5, ⟨99, []⟩)]), (256, [(2, ⟨387, []⟩)]), (260, [(2, ⟨898, []⟩)]), (261, [(4, ⟨12291, []⟩)]), (262, [(2, ⟨387, []⟩)])], [137, 175]⟩
set_option maxRecDepth 1000000 in
theorem envOk : EnvOk Tryz.prog env := envOk_of (by kernel_rfl) (by
  simp only [env, List.forall_mem_cons, List.not_mem_nil, false_implies, implies_true, and_true]
  exact ⟨⟨Tryz.func5, by kernel_rfl⟩, ⟨Tryz.func10, by kernel_rfl⟩, ⟨Tryz.func12, by kernel_rfl⟩, ⟨Tryz.func13, by kernel_rfl⟩, ⟨Tryz.func14, by kernel_rfl⟩, ⟨Tryz.func15, by kernel_rfl⟩, ⟨Tryz.func16, by kernel_rfl⟩, ⟨Tryz.func17, by kernel_rfl⟩, ⟨Tryz.func18, by kernel_rfl⟩, ⟨Tryz.func19, by kernel_rfl⟩, ⟨Tryz.func21, by kernel_rfl⟩, ⟨Tryz.func22, by kernel_rfl⟩, ⟨Tryz.func23, by kernel_rfl⟩, ⟨Tryz.func24, by kernel_rfl⟩, ⟨Tryz.func25, by kernel_rfl⟩, ⟨Tryz.func26, by kernel_rfl⟩, ⟨Tryz.func27, by kernel_rfl⟩, ⟨Tryz.func33, by kernel_rfl⟩, ⟨Tryz.func39, by kernel_rfl⟩, ⟨Tryz.func40, by kernel_rfl⟩, ⟨Tryz.func41, by kernel_rfl⟩, ⟨Tryz.func42, by kernel_rfl⟩, ⟨Tryz.func43, by kernel_rfl⟩, ⟨Tryz.func44, by kernel_rfl⟩, ⟨Tryz.func45, by kernel_rfl⟩, ⟨Tryz.func46, by kernel_rfl⟩, ⟨Tryz.func47, by kernel_rfl⟩, ⟨Tryz.func48, by kernel_rfl⟩, ⟨Tryz.func49, by kernel_rfl⟩, ⟨Tryz.func50, by kernel_rfl⟩, ⟨Tryz.func51, by kernel_rfl⟩, ⟨Tryz.func52, by kernel_rfl⟩, ⟨Tryz.func53, by kernel_rfl⟩, ⟨Tryz.func54, by kernel_rfl⟩, ⟨Tryz.func55, by kernel_rfl⟩, ⟨Tryz.func56, by kernel_rfl⟩, ⟨Tryz.func57, by kernel_rfl⟩, ⟨Tryz.func58, by kernel_rfl⟩, ⟨Tryz.func59, by kernel_rfl⟩, ⟨Tryz.func60, by kernel_rfl⟩, ⟨Tryz.func61, by kernel_rfl⟩, ⟨Tryz.func62, by kernel_rfl⟩, ⟨Tryz.func63, by kernel_rfl⟩, ⟨Tryz.func64, by kernel_rfl⟩, ⟨Tryz.func65, by kernel_rfl⟩, ⟨Tryz.func68, by kernel_rfl⟩, ⟨Tryz.func69, by kernel_rfl⟩, ⟨Tryz.func70, by kernel_rfl⟩, ⟨Tryz.func71, by kernel_rfl⟩, ⟨Tryz.func72, by kernel_rfl⟩, ⟨Tryz.func73, by kernel_rfl⟩, ⟨Tryz.func83, by kernel_rfl⟩, ⟨Tryz.func84, by kernel_rfl⟩, ⟨Tryz.func85, by kernel_rfl⟩, ⟨Tryz.func95, by kernel_rfl⟩, ⟨Tryz.func96, by kernel_rfl⟩, ⟨Tryz.func97, by kernel_rfl⟩, ⟨Tryz.func98, by kernel_rfl⟩, ⟨Tryz.func99, by kernel_rfl⟩, ⟨Tryz.func100, by kernel_rfl⟩, ⟨Tryz.func101, by kernel_rfl⟩, ⟨Tryz.func102, by kernel_rfl⟩, ⟨Tryz.func103, by kernel_rfl⟩, ⟨Tryz.func104, by kernel_rfl⟩, ⟨Tryz.func105, by kernel_rfl⟩, ⟨Tryz.func106, by kernel_rfl⟩, ⟨Tryz.func107, by kernel_rfl⟩, ⟨Tryz.func108, by kernel_rfl⟩, ⟨Tryz.func109, by kernel_rfl⟩, ⟨Tryz.func110, by kernel_rfl⟩, ⟨Tryz.func111, by kernel_rfl⟩, ⟨Tryz.func112, by kernel_rfl⟩, ⟨Tryz.func113, by kernel_rfl⟩, ⟨Tryz.func114, by kernel_rfl⟩, ⟨Tryz.func115, by kernel_rfl⟩, ⟨Tryz.func116, by kernel_rfl⟩, ⟨Tryz.func117, by kernel_rfl⟩, ⟨Tryz.func118, by kernel_rfl⟩, ⟨Tryz.func119, by kernel_rfl⟩, ⟨Tryz.func120, by kernel_rfl⟩, ⟨Tryz.func121, by kernel_rfl⟩, ⟨Tryz.func122, by kernel_rfl⟩, ⟨Tryz.func123, by kernel_rfl⟩, ⟨Tryz.func124, by kernel_rfl⟩, ⟨Tryz.func125, by kernel_rfl⟩, ⟨Tryz.func126, by kernel_rfl⟩, ⟨Tryz.func127, by kernel_rfl⟩, ⟨Tryz.func128, by kernel_rfl⟩, ⟨Tryz.func129, by kernel_rfl⟩, ⟨Tryz.func130, by kernel_rfl⟩, ⟨Tryz.func131, by kernel_rfl⟩, ⟨Tryz.func132, by kernel_rfl⟩, ⟨Tryz.func133, by kernel_rfl⟩, ⟨Tryz.func134, by kernel_rfl⟩, ⟨Tryz.func135, by kernel_rfl⟩, ⟨Tryz.func136, by kernel_rfl⟩, ⟨Tryz.func137, by kernel_rfl⟩, ⟨Tryz.func138, by kernel_rfl⟩, ⟨Tryz.func146, by kernel_rfl⟩, ⟨Tryz.func149, by kernel_rfl⟩, ⟨Tryz.func154, by kernel_rfl⟩, ⟨Tryz.func155, by kernel_rfl⟩, ⟨Tryz.func156, by kernel_rfl⟩, ⟨Tryz.func157, by kernel_rfl⟩, ⟨Tryz.func158, by kernel_rfl⟩, ⟨Tryz.func159, by kernel_rfl⟩, ⟨Tryz.func160, by kernel_rfl⟩, ⟨Tryz.func161, by kernel_rfl⟩, ⟨Tryz.func164, by kernel_rfl⟩, ⟨Tryz.func178, by kernel_rfl⟩, ⟨Tryz.func179, by kernel_rfl⟩, ⟨Tryz.func180, by kernel_rfl⟩, ⟨Tryz.func181, by kernel_rfl⟩, ⟨Tryz.func182, by kernel_rfl⟩, ⟨Tryz.func183, by kernel_rfl⟩, ⟨Tryz.func184, by kernel_rfl⟩, ⟨Tryz.func187, by kernel_rfl⟩, ⟨Tryz.func188, by kernel_rfl⟩, ⟨Tryz.func189, by kernel_rfl⟩, ⟨Tryz.func190, by kernel_rfl⟩, ⟨Tryz.func192, by kernel_rfl⟩, ⟨Tryz.func193, by kernel_rfl⟩, ⟨Tryz.func194, by kernel_rfl⟩, ⟨Tryz.func195, by kernel_rfl⟩, ⟨Tryz.func196, by kernel_rfl⟩, ⟨Tryz.func197, by kernel_rfl⟩, ⟨Tryz.func198, by kernel_rfl⟩, ⟨Tryz.func199, by kernel_rfl⟩, ⟨Tryz.func200, by kernel_rfl⟩, ⟨Tryz.func201, by kernel_rfl⟩, ⟨Tryz.func202, by kernel_rfl⟩, ⟨Tryz.func203, by kernel_rfl⟩, ⟨Tryz.func204, by kernel_rfl⟩, ⟨Tryz.func205, by kernel_rfl⟩, ⟨Tryz.func206, by kernel_rfl⟩, ⟨Tryz.func207, by kernel_rfl⟩, ⟨Tryz.func208, by kernel_rfl⟩, ⟨Tryz.func209, by kernel_rfl⟩, ⟨Tryz.func210, by kernel_rfl⟩, ⟨Tryz.func211, by kernel_rfl⟩, ⟨Tryz.func212, by kernel_rfl⟩, ⟨Tryz.func213, by kernel_rfl⟩, ⟨Tryz.func214, by kernel_rfl⟩, ⟨Tryz.func215, by kernel_rfl⟩, ⟨Tryz.func216, by kernel_rfl⟩, ⟨Tryz.func217, by kernel_rfl⟩, ⟨Tryz.func218, by kernel_rfl⟩, ⟨Tryz.func219, by kernel_rfl⟩, ⟨Tryz.func228, by kernel_rfl⟩, ⟨Tryz.func231, by kernel_rfl⟩, ⟨Tryz.func232, by kernel_rfl⟩, ⟨Tryz.func247, by kernel_rfl⟩, ⟨Tryz.func248, by kernel_rfl⟩, ⟨Tryz.func251, by kernel_rfl⟩, ⟨Tryz.func252, by kernel_rfl⟩, ⟨Tryz.func256, by kernel_rfl⟩, ⟨Tryz.func257, by kernel_rfl⟩, ⟨Tryz.func259, by kernel_rfl⟩, ⟨Tryz.func260, by kernel_rfl⟩, ⟨Tryz.func261, by kernel_rfl⟩, ⟨Tryz.func262, by kernel_rfl⟩, ⟨Tryz.func263, by kernel_rfl⟩, ⟨Tryz.func281, by kernel_rfl⟩⟩) (by kernel_rfl)
theorem eqsOk : EqsOk Tryz.prog env := eqsOk_of (by kernel_rfl)
def F_laws_szVal : Fn' (Y1 × (Int × Unit)) Int := ⟨120, (Tvs.cons Q27 Q3), (Rt.v (Tv.one (Lf.int .i64))), fun n a => laws_szVal n a.1.1 a.1.2.1 a.1.2.2 a.2.1⟩
def F_laws_szCol : Fn' (Y14 × (Int × Unit)) Int := ⟨209, (Tvs.cons Q54 Q3), (Rt.v (Tv.one (Lf.int .i64))), fun n a => laws_szCol n a.1.1 a.1.2.1 a.1.2.2.1 a.1.2.2.2.1 a.1.2.2.2.2.1 a.1.2.2.2.2.2.1 a.1.2.2.2.2.2.2 a.2.1⟩
def F_laws_szColS : Fn' (Y16 × (Int × Unit)) Int := ⟨121, (Tvs.cons (Tv.one (Lf.sh J10)) Q3), (Rt.v (Tv.one (Lf.int .i64))), fun n a => laws_szColS n a.1 a.2.1⟩
def S_laws_szColS_L1 := Sh.of (Sl.one (Lf.sh J10) (Sl.one (Lf.int .i64) (Sl.gap 3 (Sl.one (Lf.int .i64) (Sl.gap 21 Sl.nil))))) Rw.nil Ls.nil
def T_laws_szColS (n : Nat) : Tab Int := [([.b, .r, .l, .r, .r, .r], row1 S_laws_szColS_L1 fun j a => laws_szColS_L1 n j a.1.1 a.1.2.1 a.1.2.2.1)]
def F_laws_szStringS : Fn' Z2 Int := ⟨122, (Tvs.cons (Tv.one (Lf.sh .str)) Q3), (Rt.v (Tv.one (Lf.int .i64))), fun n a => laws_szStringS n a.1 a.2.1⟩
def S_laws_szStringS_L1 := Sh.of (Sl.one (Lf.sh .str) (Sl.one (Lf.int .i64) (Sl.gap 3 (Sl.one (Lf.int .i64) (Sl.gap 22 Sl.nil))))) Rw.nil Ls.nil
def T_laws_szStringS (n : Nat) : Tab Int := [([.b, .r, .l, .r, .r, .r], row1 S_laws_szStringS_L1 fun j a => laws_szStringS_L1 n j a.1.1 a.1.2.1 a.1.2.2.1)]
def F_laws_szTable : Fn' (Y18 × (Int × Unit)) Int := ⟨207, (Tvs.cons Q22 Q3), (Rt.v (Tv.one (Lf.int .i64))), fun n a => laws_szTable n a.1.1 a.1.2.1 a.1.2.2 a.2.1⟩
def F_laws_szTableS : Fn' Y23 Int := ⟨118, (Tvs.cons (Tv.one (Lf.sh J13)) Q3), (Rt.v (Tv.one (Lf.int .i64))), fun n a => laws_szTableS n a.1 a.2.1⟩
def S_laws_szTableS_L1 := Sh.of (Sl.one (Lf.sh J13) (Sl.one (Lf.int .i64) (Sl.gap 3 (Sl.one (Lf.int .i64) (Sl.gap 21 Sl.nil))))) Rw.nil Ls.nil
def T_laws_szTableS (n : Nat) : Tab Int := [([.b, .r, .l, .r, .r, .r], row1 S_laws_szTableS_L1 fun j a => laws_szTableS_L1 n j a.1.1 a.1.2.1 a.1.2.2.1)]
def F_laws_szCat : Fn' Y23 Int := ⟨48, Q37, (Rt.v (Tv.one (Lf.int .i64))), fun n a => laws_szCat n a.1 a.2.1⟩
def F_laws_szValS : Fn' (Y3 × (Int × Unit)) Int := ⟨50, (Tvs.cons (Tv.one (Lf.sh J3)) Q3), (Rt.v (Tv.one (Lf.int .i64))), fun n a => laws_szValS n a.1 a.2.1⟩
def S_laws_szValS_L1 := Sh.of (Sl.one (Lf.sh J3) (Sl.one (Lf.int .i64) (Sl.gap 3 (Sl.one (Lf.int .i64) (Sl.gap 21 Sl.nil))))) Rw.nil Ls.nil
def T_laws_szValS (n : Nat) : Tab Int := [([.b, .r, .l, .r, .r, .r], row1 S_laws_szValS_L1 fun j a => laws_szValS_L1 n j a.1.1 a.1.2.1 a.1.2.2.1)]
def F_laws_szRow : Fn' (Y3 × (Int × Unit)) Int := ⟨51, (Tvs.cons (Tv.agg (Ls.one (Lf.sh J3))) Q3), (Rt.v (Tv.one (Lf.int .i64))), fun n a => laws_szRow n a.1 a.2.1⟩
def F_laws_szRowS : Fn' Y13 Int := ⟨208, Q28, (Rt.v (Tv.one (Lf.int .i64))), fun n a => laws_szRowS n a.1 a.2.1⟩
def S_laws_szRowS_L1 := Sh.of (Sl.one (Lf.sh J4) (Sl.one (Lf.int .i64) (Sl.gap 3 (Sl.one (Lf.int .i64) (Sl.gap 21 Sl.nil))))) Rw.nil Ls.nil
def T_laws_szRowS (n : Nat) : Tab Int := [([.b, .r, .l, .r, .r, .r], row1 S_laws_szRowS_L1 fun j a => laws_szRowS_L1 n j a.1.1 a.1.2.1 a.1.2.2.1)]
def F_laws_szRows : Fn' Y13 Int := ⟨119, (Tvs.cons (Tv.agg (Ls.one (Lf.sh J4))) Q3), (Rt.v (Tv.one (Lf.int .i64))), fun n a => laws_szRows n a.1 a.2.1⟩
def F_laws_szRowsS : Fn' (Y10 × (Int × Unit)) Int := ⟨49, (Tvs.cons (Tv.one (Lf.sh J5)) Q3), (Rt.v (Tv.one (Lf.int .i64))), fun n a => laws_szRowsS n a.1 a.2.1⟩
def S_laws_szRowsS_L1 := Sh.of (Sl.one (Lf.sh J5) (Sl.one (Lf.int .i64) (Sl.gap 3 (Sl.one (Lf.int .i64) (Sl.gap 21 Sl.nil))))) Rw.nil Ls.nil
def T_laws_szRowsS (n : Nat) : Tab Int := [([.b, .r, .l, .r, .r, .r], row1 S_laws_szRowsS_L1 fun j a => laws_szRowsS_L1 n j a.1.1 a.1.2.1 a.1.2.2.1)]
def F_laws_szDb : Fn' (Y27 × (Int × Unit)) Int := ⟨13, Q44, (Rt.v (Tv.one (Lf.int .i64))), fun n a => laws_szDb n a.1.1 a.1.2 a.2.1⟩
def F_laws_szDdl : Fn' (Y26 × (Int × Unit)) Int := ⟨52, (Tvs.cons Q49 Q3), (Rt.v (Tv.one (Lf.int .i64))), fun n a => laws_szDdl n a.1.1 a.1.2.1 a.1.2.2.1 a.1.2.2.2.1 a.1.2.2.2.2.1 a.1.2.2.2.2.2 a.2.1⟩
def F_laws_szStmt : Fn' (Y31 × (Int × Unit)) Int := ⟨14, (Tvs.cons Q63 Q3), (Rt.v (Tv.one (Lf.int .i64))), fun n a => laws_szStmt n a.1.1 a.1.2.1 a.1.2.2.1 a.1.2.2.2.1 a.1.2.2.2.2.1 a.1.2.2.2.2.2.1 a.1.2.2.2.2.2.2.1 a.1.2.2.2.2.2.2.2.1 a.1.2.2.2.2.2.2.2.2.1 a.1.2.2.2.2.2.2.2.2.2 a.2.1⟩
def F_laws_szStmtS : Fn' (Y33 × (Int × Unit)) Int := ⟨22, (Tvs.cons (Tv.one (Lf.sh J22)) Q3), (Rt.v (Tv.one (Lf.int .i64))), fun n a => laws_szStmtS n a.1 a.2.1⟩
def S_laws_szStmtS_L1 := Sh.of (Sl.one (Lf.sh J22) (Sl.one (Lf.int .i64) (Sl.gap 3 (Sl.one (Lf.int .i64) (Sl.gap 21 Sl.nil))))) Rw.nil Ls.nil
def T_laws_szStmtS (n : Nat) : Tab Int := [([.b, .r, .l, .r, .r, .r], row1 S_laws_szStmtS_L1 fun j a => laws_szStmtS_L1 n j a.1.1 a.1.2.1 a.1.2.2.1)]
def F_laws_toVal : Fn' (Y1 × Unit) Y1 := ⟨125, Q40, (Rt.v Q27), fun n a => laws_toVal n a.1.1 a.1.2.1 a.1.2.2⟩
def F_laws_toCol : Fn' (Y14 × Unit) Y14 := ⟨212, Q58, (Rt.v Q54), fun n a => laws_toCol n a.1.1 a.1.2.1 a.1.2.2.1 a.1.2.2.2.1 a.1.2.2.2.2.1 a.1.2.2.2.2.2.1 a.1.2.2.2.2.2.2⟩
def F_laws_toColS : Fn' (Y16 × Unit) Y16 := ⟨126, (Tvs.cons (Tv.one (Lf.sh J10)) Tvs.nil), (Rt.v (Tv.one (Lf.od J10))), fun n a => laws_toColS n a.1⟩
def S_laws_toColS_L1 := Sh.of (Sl.one (Lf.sh J10) (Sl.gap 2 (Sl.k (Kf.ow 232) (Sl.one (Lf.int .i64) (Sl.gap 18 Sl.nil))))) (Rw.data 232 J10 Rw.nil) Ls.nil
def T_laws_toColS (n : Nat) : Tab Y16 := [([.b, .r, .l, .r, .r], row1 S_laws_toColS_L1 fun j a => laws_toColS_L1 n j a.1.1 a.1.2.1 a.2.1)]
def F_laws_toStringS : Fn' Z1 (List ByteArray) := ⟨127, Q1, (Rt.v (Tv.one (Lf.od .str))), fun n a => laws_toStringS n a.1⟩
def S_laws_toStringS_L1 := Sh.of (Sl.one (Lf.sh .str) (Sl.gap 2 (Sl.k (Kf.ow 232) (Sl.one (Lf.int .i64) (Sl.gap 17 Sl.nil))))) (Rw.data 232 .str Rw.nil) Ls.nil
def T_laws_toStringS (n : Nat) : Tab (List ByteArray) := [([.b, .r, .l, .r, .r], row1 S_laws_toStringS_L1 fun j a => laws_toStringS_L1 n j a.1.1 a.1.2.1 a.2.1)]
def F_laws_toTable : Fn' (Y18 × Unit) Y18 := ⟨210, Q39, Q32, fun n a => laws_toTable n a.1.1 a.1.2.1 a.1.2.2⟩
def F_laws_toTableS : Fn' Y22 Y20 := ⟨123, (Tvs.cons (Tv.one (Lf.sh J13)) Tvs.nil), (Rt.v (Tv.one (Lf.od J13))), fun n a => laws_toTableS n a.1⟩
def S_laws_toTableS_L1 := Sh.of (Sl.one (Lf.sh J13) (Sl.gap 2 (Sl.k (Kf.ow 232) (Sl.one (Lf.int .i64) (Sl.gap 18 Sl.nil))))) (Rw.data 232 J13 Rw.nil) Ls.nil
def T_laws_toTableS (n : Nat) : Tab Y20 := [([.b, .r, .l, .r, .r], row1 S_laws_toTableS_L1 fun j a => laws_toTableS_L1 n j a.1.1 a.1.2.1 a.2.1)]
def F_laws_toCat : Fn' Y22 Y20 := ⟨53, Q9, (Rt.v (Tv.agg (Ls.one (Lf.od J13)))), fun n a => laws_toCat n a.1⟩
def F_laws_toValS : Fn' (Y3 × Unit) Y3 := ⟨55, (Tvs.cons (Tv.one (Lf.sh J3)) Tvs.nil), (Rt.v (Tv.one (Lf.od J3))), fun n a => laws_toValS n a.1⟩
def S_laws_toValS_L1 := Sh.of (Sl.one (Lf.sh J3) (Sl.gap 2 (Sl.k (Kf.ow 232) (Sl.one (Lf.int .i64) (Sl.gap 18 Sl.nil))))) (Rw.data 232 J3 Rw.nil) Ls.nil
def T_laws_toValS (n : Nat) : Tab Y3 := [([.b, .r, .l, .r, .r], row1 S_laws_toValS_L1 fun j a => laws_toValS_L1 n j a.1.1 a.1.2.1 a.2.1)]
def F_laws_toRow : Fn' (Y3 × Unit) Y3 := ⟨56, Q8, (Rt.v (Tv.agg (Ls.one (Lf.od J3)))), fun n a => laws_toRow n a.1⟩
def F_laws_toRowS : Fn' (Y6 × Unit) Y6 := ⟨211, (Tvs.cons (Tv.one (Lf.sh J4)) Tvs.nil), (Rt.v (Tv.one (Lf.od J4))), fun n a => laws_toRowS n a.1⟩
def S_laws_toRowS_L1 := Sh.of (Sl.one (Lf.sh J4) (Sl.gap 2 (Sl.k (Kf.ow 232) (Sl.one (Lf.int .i64) (Sl.gap 18 Sl.nil))))) (Rw.data 232 J4 Rw.nil) Ls.nil
def T_laws_toRowS (n : Nat) : Tab Y6 := [([.b, .r, .l, .r, .r], row1 S_laws_toRowS_L1 fun j a => laws_toRowS_L1 n j a.1.1 a.1.2.1 a.2.1)]
def F_laws_toRows : Fn' (Y6 × Unit) Y6 := ⟨124, (Tvs.cons (Tv.agg (Ls.one (Lf.sh J4))) Tvs.nil), (Rt.v (Tv.agg (Ls.one (Lf.od J4)))), fun n a => laws_toRows n a.1⟩
def F_laws_toRowsS : Fn' Y12 Y10 := ⟨54, (Tvs.cons (Tv.one (Lf.sh J5)) Tvs.nil), (Rt.v (Tv.one (Lf.od J5))), fun n a => laws_toRowsS n a.1⟩
def S_laws_toRowsS_L1 := Sh.of (Sl.one (Lf.sh J5) (Sl.gap 2 (Sl.k (Kf.ow 232) (Sl.one (Lf.int .i64) (Sl.gap 18 Sl.nil))))) (Rw.data 232 J5 Rw.nil) Ls.nil
def T_laws_toRowsS (n : Nat) : Tab Y10 := [([.b, .r, .l, .r, .r], row1 S_laws_toRowsS_L1 fun j a => laws_toRowsS_L1 n j a.1.1 a.1.2.1 a.2.1)]
def F_laws_toDb : Fn' (Y27 × Unit) Y27 := ⟨15, Q24, Q15, fun n a => laws_toDb n a.1.1 a.1.2⟩
def F_laws_toDdl : Fn' (Y26 × Unit) Y26 := ⟨57, Q53, (Rt.v (Tv.agg (Ls.cons (Lf.int .i64) (Ls.cons Lf.str (Ls.cons (Lf.od J10) (Ls.cons (Lf.od .str) (Ls.cons Lf.str (Ls.one Lf.str)))))))), fun n a => laws_toDdl n a.1.1 a.1.2.1 a.1.2.2.1 a.1.2.2.2.1 a.1.2.2.2.2.1 a.1.2.2.2.2.2⟩
def F_laws_toStmt : Fn' (Y31 × Unit) Y31 := ⟨16, Q64, (Rt.v (Tv.agg (Ls.cons (Lf.int .i64) (Ls.cons Lf.str (Ls.cons (Lf.od J3) (Ls.cons (Lf.od J3) (Ls.cons (Lf.int .i64) (Ls.cons Lf.str (Ls.cons (Lf.od J10) (Ls.cons (Lf.od .str) (Ls.cons Lf.str (Ls.one Lf.str)))))))))))), fun n a => laws_toStmt n a.1.1 a.1.2.1 a.1.2.2.1 a.1.2.2.2.1 a.1.2.2.2.2.1 a.1.2.2.2.2.2.1 a.1.2.2.2.2.2.2.1 a.1.2.2.2.2.2.2.2.1 a.1.2.2.2.2.2.2.2.2.1 a.1.2.2.2.2.2.2.2.2.2⟩
def F_laws_toStmtS : Fn' (Y33 × Unit) Y33 := ⟨24, (Tvs.cons (Tv.one (Lf.sh J22)) Tvs.nil), (Rt.v (Tv.one (Lf.od J22))), fun n a => laws_toStmtS n a.1⟩
def S_laws_toStmtS_L1 := Sh.of (Sl.one (Lf.sh J22) (Sl.gap 2 (Sl.k (Kf.ow 232) (Sl.one (Lf.int .i64) (Sl.gap 18 Sl.nil))))) (Rw.data 232 J22 Rw.nil) Ls.nil
def T_laws_toStmtS (n : Nat) : Tab Y33 := [([.b, .r, .l, .r, .r], row1 S_laws_toStmtS_L1 fun j a => laws_toStmtS_L1 n j a.1.1 a.1.2.1 a.2.1)]
def F_spec_WordOk : Fn' (ByteArray × Unit) Bool := ⟨103, (Tvs.cons (Tv.one Lf.str) Tvs.nil), (Rt.v (Tv.one Lf.bool)), fun n a => spec_WordOk n a.1⟩
def S_spec_WordOk_L1 := Sh.of (Sl.one Lf.str (Sl.gap 2 (Sl.one (Lf.int .i64) (Sl.gap 24 Sl.nil)))) Rw.nil Ls.nil
def T_spec_WordOk (n : Nat) : Tab Bool := [([.b, .r, .l, .r], row1 S_spec_WordOk_L1 fun j a => spec_WordOk_L1 n j a.1.1 a.1.2.1)]
def F_spec_l01Num : Fn' (Int × Unit) Bool := ⟨259, Q3, (Rt.v (Tv.one Lf.bool)), fun n a => spec_l01Num n a.1⟩
def F_spec_ValOk : Fn' (Y1 × Unit) Bool := ⟨192, Q40, (Rt.v (Tv.one Lf.bool)), fun n a => spec_ValOk n a.1.1 a.1.2.1 a.1.2.2⟩
def F_spec_ColOk : Fn' (Y14 × Unit) Bool := ⟨193, Q58, (Rt.v (Tv.one Lf.bool)), fun n a => spec_ColOk n a.1.1 a.1.2.1 a.1.2.2.1 a.1.2.2.2.1 a.1.2.2.2.2.1 a.1.2.2.2.2.2.1 a.1.2.2.2.2.2.2⟩
def F_spec_ColAt : Fn' (Y18 × (ByteArray × Unit)) Int := ⟨203, (Tvs.cons Q22 (Tvs.cons (Tv.one Lf.str) Tvs.nil)), (Rt.v (Tv.one (Lf.int .i64))), fun n a => spec_ColAt n a.1.1 a.1.2.1 a.1.2.2 a.2.1⟩
def S_spec_ColAt_L1 := Sh.of (Sl.gap 1 (Sl.one Lf.str (Sl.gap 6 (Sl.one (Lf.sh J10) (Sl.one (Lf.int .i64) (Sl.one (Lf.int .i64) (Sl.gap 10 Sl.nil))))))) Rw.nil Ls.nil
def T_spec_ColAt (n : Nat) : Tab Int := [([.b, .r, .l, .r], row1 S_spec_ColAt_L1 fun j a => spec_ColAt_L1 n j a.1.1 a.1.2.1 a.1.2.2.1 a.1.2.2.2.1)]
def F_spec_TableOk : Fn' (Y18 × Unit) Bool := ⟨154, Q39, (Rt.v (Tv.one Lf.bool)), fun n a => spec_TableOk n a.1.1 a.1.2.1 a.1.2.2⟩
def S_spec_TableOk_L2 := Sh.of (Sl.gap 1 (Sl.k (Kf.box 104 0) (Sl.gap 3 (Sl.one (Lf.int .i64) (Sl.gap 46 (Sl.one (Lf.sh .str) (Sl.one (Lf.int .i64) (Sl.one (Lf.int .i64) (Sl.gap 20 Sl.nil))))))))) (Rw.box 104 J13 Q21 Rw.nil) Ls.nil
def S_spec_TableOk_L1 := Sh.of (Sl.gap 1 (Sl.k (Kf.box 104 0) (Sl.gap 30 (Sl.one (Lf.sh J10) (Sl.one (Lf.int .i64) (Sl.one (Lf.int .i64) (Sl.gap 40 Sl.nil))))))) (Rw.box 104 J13 Q21 Rw.nil) Ls.nil
def T_spec_TableOk (n : Nat) : Tab Bool := [([.b, .r, .l, .r, .r, .r, .r], row1 S_spec_TableOk_L2 fun j a => spec_TableOk_L2 n j a.1.1 a.1.2.1 a.1.2.2.1 a.1.2.2.2.1 a.2.1.1 a.2.1.2.1 a.2.1.2.2.1),
  ([.b, .r, .l, .r, .r], row1 S_spec_TableOk_L1 fun j a => spec_TableOk_L1 n j a.1.1 a.1.2.1 a.1.2.2.1 a.2.1.1 a.2.1.2.1 a.2.1.2.2.1)]
def F_spec_CatOk : Fn' Y22 Bool := ⟨83, Q9, (Rt.v (Tv.one Lf.bool)), fun n a => spec_CatOk n a.1⟩
def S_spec_CatOk_L1 := Sh.of (Sl.gap 1 (Sl.k (Kf.box 104 0) (Sl.gap 8 (Sl.one (Lf.sh J13) (Sl.one (Lf.int .i64) (Sl.one (Lf.int .i64) (Sl.gap 24 Sl.nil))))))) (Rw.box 104 J14 (Ls.cons (Lf.sh J13) Ls.nil) Rw.nil) Ls.nil
def T_spec_CatOk (n : Nat) : Tab Bool := [([.b, .r, .l, .r, .r], row1 S_spec_CatOk_L1 fun j a => spec_CatOk_L1 n j a.1.1 a.1.2.1 a.1.2.2.1 a.2.1.1)]
def F_spec_l03Fits : Fn' (Y14 × (Y1 × Unit)) Bool := ⟨231, (Tvs.cons Q54 Q40), (Rt.v (Tv.one Lf.bool)), fun n a => spec_l03Fits n a.1.1 a.1.2.1 a.1.2.2.1 a.1.2.2.2.1 a.1.2.2.2.2.1 a.1.2.2.2.2.2.1 a.1.2.2.2.2.2.2 a.2.1.1 a.2.1.2.1 a.2.1.2.2⟩
def F_spec_RowOk : Fn' (Y18 × (Y3 × Unit)) Bool := ⟨155, Q50, (Rt.v (Tv.one Lf.bool)), fun n a => spec_RowOk n a.1.1 a.1.2.1 a.1.2.2 a.2.1⟩
def S_spec_RowOk_L1 := Sh.of (Sl.gap 3 (Sl.k (Kf.box 232 0) (Sl.gap 16 (Sl.one (Lf.sh J10) (Sl.one (Lf.int .i64) (Sl.one (Lf.int .i64) (Sl.gap 13 Sl.nil))))))) (Rw.box 232 J4 (Ls.cons (Lf.sh J3) Ls.nil) Rw.nil) Ls.nil
def T_spec_RowOk (n : Nat) : Tab Bool := [([.b, .r, .l, .r, .r], row1 S_spec_RowOk_L1 fun j a => spec_RowOk_L1 n j a.1.1 a.1.2.1 a.1.2.2.1 a.2.1.1)]
def F_spec_l03Key : Fn' (Y18 × (Y3 × Unit)) Y3 := ⟨157, Q50, (Rt.v (Tv.one (Lf.od J3))), fun n a => spec_l03Key n a.1.1 a.1.2.1 a.1.2.2 a.2.1⟩
def S_spec_l03Key_L1 := Sh.of (Sl.gap 2 (Sl.k (Kf.box 168 0) (Sl.k (Kf.box 232 0) (Sl.gap 1 (Sl.k (Kf.ow 360) (Sl.gap 4 (Sl.one (Lf.sh .str) (Sl.one (Lf.int .i64) (Sl.one (Lf.int .i64) (Sl.gap 15 Sl.nil)))))))))) (Rw.box 168 J13 Q21 (Rw.box 232 J4 (Ls.cons (Lf.sh J3) Ls.nil) (Rw.data 360 J3 Rw.nil))) Ls.nil
def T_spec_l03Key (n : Nat) : Tab Y3 := [([.b, .r, .l, .r, .r], row1 S_spec_l03Key_L1 fun j a => spec_l03Key_L1 n j a.1.1 a.1.2.1 a.1.2.2.1 a.2.1.1 a.2.1.2.1 a.2.1.2.2.1 a.2.2.1.1 a.2.2.2.1)]
def F_spec_ValLess : Fn' (Y1 × (Y1 × Unit)) Bool := ⟨232, Q59, (Rt.v (Tv.one Lf.bool)), fun n a => spec_ValLess n a.1.1 a.1.2.1 a.1.2.2 a.2.1.1 a.2.1.2.1 a.2.1.2.2⟩
def F_spec_KeyLess : Fn' (Y3 × (Y3 × Unit)) Bool := ⟨156, Q25, (Rt.v (Tv.one Lf.bool)), fun n a => spec_KeyLess n a.1 a.2.1⟩
def S_spec_KeyLess_L1 := Sh.of (Sl.one (Lf.sh J3) (Sl.one (Lf.sh J3) (Sl.gap 3 (Sl.one (Lf.int .i64) (Sl.gap 35 Sl.nil))))) Rw.nil Ls.nil
def T_spec_KeyLess (n : Nat) : Tab Bool := [([.b, .r, .l, .r], row1 S_spec_KeyLess_L1 fun j a => spec_KeyLess_L1 n j a.1.1 a.1.2.1 a.1.2.2.1)]
def F_spec_RowsOk : Fn' (Y18 × (Y6 × Unit)) Bool := ⟨84, (Tvs.cons Q22 (Tvs.cons (Tv.one (Lf.sh J4)) Tvs.nil)), (Rt.v (Tv.one Lf.bool)), fun n a => spec_RowsOk n a.1.1 a.1.2.1 a.1.2.2 a.2.1⟩
def S_spec_RowsOk_L1 := Sh.of (Sl.gap 1 (Sl.one (Lf.sh J4) (Sl.k (Kf.box 168 0) (Sl.gap 12 (Sl.one (Lf.sh J4) (Sl.one (Lf.int .i64) (Sl.one (Lf.int .i64) (Sl.gap 27 Sl.nil)))))))) (Rw.box 168 J13 Q21 Rw.nil) Ls.nil
def T_spec_RowsOk (n : Nat) : Tab Bool := [([.b, .r, .l, .r, .r], row1 S_spec_RowsOk_L1 fun j a => spec_RowsOk_L1 n j a.1.1 a.1.2.1 a.1.2.2.1 a.1.2.2.2.1 a.2.1.1 a.2.1.2.1 a.2.1.2.2.1)]
def F_spec_DbOk : Fn' (Y27 × Unit) Bool := ⟨33, Q24, (Rt.v (Tv.one Lf.bool)), fun n a => spec_DbOk n a.1.1 a.1.2⟩
def S_spec_DbOk_L1 := Sh.of (Sl.gap 1 (Sl.k (Kf.box 104 0) (Sl.gap 19 (Sl.one (Lf.sh J13) (Sl.one (Lf.int .i64) (Sl.one (Lf.int .i64) (Sl.gap 14 Sl.nil))))))) (Rw.box 104 J18 Q10 Rw.nil) Ls.nil
def T_spec_DbOk (n : Nat) : Tab Bool := [([.b, .r, .l, .r, .r], row1 S_spec_DbOk_L1 fun j a => spec_DbOk_L1 n j a.1.1 a.1.2.1 a.1.2.2.1 a.2.1.1 a.2.1.2.1)]
def F_spec_l02Table : Fn' (Y18 × Unit) Y18 := ⟨195, Q39, Q32, fun n a => spec_l02Table n a.1.1 a.1.2.1 a.1.2.2⟩
def F_spec_l02Copy : Fn' Y22 Y20 := ⟨113, Q9, (Rt.v (Tv.agg (Ls.one (Lf.od J13)))), fun n a => spec_l02Copy n a.1⟩
def S_spec_l02Copy_L1 := Sh.of (Sl.gap 2 (Sl.k (Kf.box 168 0) (Sl.k (Kf.box 232 0) (Sl.gap 4 (Sl.one (Lf.sh J13) (Sl.one (Lf.int .i64) (Sl.one (Lf.int .i64) (Sl.gap 12 Sl.nil)))))))) (Rw.box 168 J14 (Ls.k (Kf.ow 176) Ls.nil) (Rw.data 176 J13 (Rw.box 232 J14 (Ls.k (Kf.ow 240) Ls.nil) (Rw.data 240 J13 Rw.nil)))) Ls.nil
def T_spec_l02Copy (n : Nat) : Tab Y20 := [([.b, .r, .l, .r, .r], row1 S_spec_l02Copy_L1 fun j a => spec_l02Copy_L1 n j a.1.1 a.1.2.1 a.1.2.2.1 a.2.2.1 a.2.2.2.2.1)]
def F_spec_l03Row : Fn' (Y3 × Unit) Y3 := ⟨198, Q8, (Rt.v (Tv.agg (Ls.one (Lf.od J3)))), fun n a => spec_l03Row n a.1⟩
def F_spec_l03Copy : Fn' (Y6 × Unit) Y6 := ⟨108, (Tvs.cons (Tv.one (Lf.sh J4)) Tvs.nil), (Rt.v (Tv.one (Lf.od J4))), fun n a => spec_l03Copy n a.1⟩
def S_spec_l03Copy_L1 := Sh.of (Sl.gap 3 (Sl.k (Kf.ow 232) (Sl.gap 3 (Sl.one (Lf.sh J4) (Sl.one (Lf.int .i64) (Sl.one (Lf.int .i64) (Sl.gap 10 Sl.nil))))))) (Rw.data 232 J4 Rw.nil) Ls.nil
def T_spec_l03Copy (n : Nat) : Tab Y6 := [([.b, .r, .l, .r, .r], row1 S_spec_l03Copy_L1 fun j a => spec_l03Copy_L1 n j a.1.1 a.1.2.1 a.1.2.2.1 a.2.1)]
def F_spec_l04Copy : Fn' (Y27 × Unit) Y27 := ⟨45, Q24, Q15, fun n a => spec_l04Copy n a.1.1 a.1.2⟩
def S_spec_l04Copy_L1 := Sh.of (Sl.gap 2 (Sl.k (Kf.box 168 0) (Sl.k (Kf.box 232 0) (Sl.gap 7 (Sl.one (Lf.sh J5) (Sl.one (Lf.int .i64) (Sl.one (Lf.int .i64) (Sl.gap 14 Sl.nil)))))))) (Rw.box 168 J18 (Ls.k (Kf.ow 176) (Ls.k (Kf.ow 177) Ls.nil)) (Rw.data 176 J13 (Rw.data 177 J5 (Rw.box 232 J18 (Ls.k (Kf.ow 240) (Ls.k (Kf.ow 241) Ls.nil)) (Rw.data 240 J13 (Rw.data 241 J5 Rw.nil)))))) Ls.nil
def T_spec_l04Copy (n : Nat) : Tab Y27 := [([.b, .r, .l, .r, .r], row1 S_spec_l04Copy_L1 fun j a => spec_l04Copy_L1 n j a.1.1 a.1.2.1 a.1.2.2.1 a.2.2.1 a.2.2.2.1 a.2.2.2.2.2.1 a.2.2.2.2.2.2.1)]
def F_spec_l04Vals : Fn' (Y3 × Unit) Bool := ⟨104, (Tvs.cons (Tv.one (Lf.sh J3)) Tvs.nil), (Rt.v (Tv.one Lf.bool)), fun n a => spec_l04Vals n a.1⟩
def S_spec_l04Vals_L1 := Sh.of (Sl.one (Lf.sh J3) (Sl.gap 4 (Sl.one (Lf.sh J3) (Sl.one (Lf.int .i64) (Sl.one (Lf.int .i64) (Sl.gap 15 Sl.nil)))))) Rw.nil Ls.nil
def T_spec_l04Vals (n : Nat) : Tab Bool := [([.b, .r, .l, .r], row1 S_spec_l04Vals_L1 fun j a => spec_l04Vals_L1 n j a.1.1 a.1.2.1 a.1.2.2.1 a.1.2.2.2.1)]
def F_spec_l04NoDdl : Fn' (Y26 × Unit) Bool := ⟨105, Q53, (Rt.v (Tv.one Lf.bool)), fun n a => spec_l04NoDdl n a.1.1 a.1.2.1 a.1.2.2.1 a.1.2.2.2.1 a.1.2.2.2.2.1 a.1.2.2.2.2.2⟩
def F_spec_DdlOk : Fn' (Y26 × Unit) Bool := ⟨106, Q53, (Rt.v (Tv.one Lf.bool)), fun n a => spec_DdlOk n a.1.1 a.1.2.1 a.1.2.2.1 a.1.2.2.2.1 a.1.2.2.2.2.1 a.1.2.2.2.2.2⟩
def F_spec_StmtOk : Fn' (Y31 × Unit) Bool := ⟨41, Q64, (Rt.v (Tv.one Lf.bool)), fun n a => spec_StmtOk n a.1.1 a.1.2.1 a.1.2.2.1 a.1.2.2.2.1 a.1.2.2.2.2.1 a.1.2.2.2.2.2.1 a.1.2.2.2.2.2.2.1 a.1.2.2.2.2.2.2.2.1 a.1.2.2.2.2.2.2.2.2.1 a.1.2.2.2.2.2.2.2.2.2⟩
def F_spec_l02At : Fn' (Y20 × (ByteArray × Unit)) Int := ⟨42, (Tvs.cons (Tv.agg (Ls.one (Lf.sh J13))) (Tvs.cons (Tv.one Lf.str) Tvs.nil)), (Rt.v (Tv.one (Lf.int .i64))), fun n a => spec_l02At n a.1 a.2.1⟩
def S_spec_l02At_L1 := Sh.of (Sl.gap 1 (Sl.one Lf.str (Sl.gap 6 (Sl.one (Lf.sh J13) (Sl.one (Lf.int .i64) (Sl.one (Lf.int .i64) (Sl.gap 10 Sl.nil))))))) Rw.nil Ls.nil
def T_spec_l02At (n : Nat) : Tab Int := [([.b, .r, .l, .r], row1 S_spec_l02At_L1 fun j a => spec_l02At_L1 n j a.1.1 a.1.2.1 a.1.2.2.1 a.1.2.2.2.1)]
def F_spec_l02Put : Fn' (Y20 × (Y18 × Unit)) Y20 := ⟨194, (Tvs.cons (Tv.agg (Ls.one (Lf.sh J13))) Q39), (Rt.v (Tv.agg (Ls.one (Lf.sh J13)))), fun n a => spec_l02Put n a.1 a.2.1.1 a.2.1.2.1 a.2.1.2.2⟩
def S_spec_l02Put_L1 := Sh.of (Sl.gap 3 (Sl.k (Kf.box 232 0) (Sl.k (Kf.box 296 0) (Sl.k (Kf.box 360 0) (Sl.one Lf.bool (Sl.gap 4 (Sl.one (Lf.sh J13) (Sl.one (Lf.int .i64) (Sl.one (Lf.int .i64) (Sl.gap 34 Sl.nil)))))))))) (Rw.box 232 J13 Q21 (Rw.box 296 J14 (Ls.k (Kf.ow 304) Ls.nil) (Rw.data 304 J13 (Rw.box 360 J14 (Ls.k (Kf.ow 368) Ls.nil) (Rw.data 368 J13 Rw.nil))))) Ls.nil
def T_spec_l02Put (n : Nat) : Tab Y20 := [([.b, .r, .l, .r, .r, .r], row1 S_spec_l02Put_L1 fun j a => spec_l02Put_L1 n j a.1.1 a.1.2.1 a.1.2.2.1 a.1.2.2.2.1 a.2.1.1 a.2.1.2.1 a.2.1.2.2.1 a.2.2.2.1 a.2.2.2.2.2.1)]
def F_spec_l02Has : Fn' Z3 Bool := ⟨260, Q20, (Rt.v (Tv.one Lf.bool)), fun n a => spec_l02Has n a.1 a.2.1⟩
def S_spec_l02Has_L1 := Sh.of (Sl.gap 1 (Sl.one Lf.str (Sl.gap 5 (Sl.one (Lf.sh .str) (Sl.one (Lf.int .i64) (Sl.one (Lf.int .i64) (Sl.gap 7 Sl.nil))))))) Rw.nil Ls.nil
def T_spec_l02Has (n : Nat) : Tab Bool := [([.b, .r, .l, .r], row1 S_spec_l02Has_L1 fun j a => spec_l02Has_L1 n j a.1.1 a.1.2.1 a.1.2.2.1 a.1.2.2.2.1)]
def F_spec_l02Fault : Fn' (Y18 × (Y26 × Unit)) Int := ⟨196, (Tvs.cons Q22 Q53), (Rt.v (Tv.one (Lf.int .i64))), fun n a => spec_l02Fault n a.1.1 a.1.2.1 a.1.2.2 a.2.1.1 a.2.1.2.1 a.2.1.2.2.1 a.2.1.2.2.2.1 a.2.1.2.2.2.2.1 a.2.1.2.2.2.2.2⟩
def F_spec_l02Change : Fn' (Y18 × (Y26 × Unit)) Y18 := ⟨197, (Tvs.cons Q22 Q53), Q32, fun n a => spec_l02Change n a.1.1 a.1.2.1 a.1.2.2 a.2.1.1 a.2.1.2.1 a.2.1.2.2.1 a.2.1.2.2.2.1 a.2.1.2.2.2.2.1 a.2.1.2.2.2.2.2⟩
def S_spec_l02Change_L2 := Sh.of (Sl.gap 3 (Sl.k (Kf.box 232 0) (Sl.k (Kf.box 296 0) (Sl.k (Kf.box 360 0) (Sl.gap 49 (Sl.one (Lf.int .i64) (Sl.one (Lf.int .i64) (Sl.gap 35 Sl.nil)))))))) (Rw.box 232 J17 Q48 (Rw.box 296 J13 (Ls.cons Lf.str (Ls.k (Kf.ow 304) (Ls.k (Kf.ow 305) Ls.nil))) (Rw.data 304 J10 (Rw.data 305 .str (Rw.box 360 J13 (Ls.cons Lf.str (Ls.k (Kf.ow 368) (Ls.k (Kf.ow 369) Ls.nil))) (Rw.data 368 J10 (Rw.data 369 .str Rw.nil))))))) Ls.nil
def S_spec_l02Change_L1 := Sh.of (Sl.gap 3 (Sl.k (Kf.box 232 0) (Sl.k (Kf.box 296 0) (Sl.k (Kf.box 360 0) (Sl.gap 11 (Sl.one (Lf.sh J10) (Sl.one (Lf.int .i64) (Sl.one (Lf.int .i64) (Sl.gap 72 Sl.nil))))))))) (Rw.box 232 J17 Q48 (Rw.box 296 J13 (Ls.cons Lf.str (Ls.k (Kf.ow 304) (Ls.k (Kf.ow 305) Ls.nil))) (Rw.data 304 J10 (Rw.data 305 .str (Rw.box 360 J13 (Ls.cons Lf.str (Ls.k (Kf.ow 368) (Ls.k (Kf.ow 369) Ls.nil))) (Rw.data 368 J10 (Rw.data 369 .str Rw.nil))))))) Ls.nil
def T_spec_l02Change (n : Nat) : Tab Y18 := [([.b, .r, .l, .r, .r, .r], row1 S_spec_l02Change_L2 fun j a => spec_l02Change_L2 n j a.1.1 a.1.2.1 a.2.1.1 a.2.1.2.1 a.2.1.2.2.1 a.2.1.2.2.2.1 a.2.1.2.2.2.2.1 a.2.1.2.2.2.2.2.1 a.2.2.1.1 a.2.2.2.1 a.2.2.2.2.1 a.2.2.2.2.2.1.1 a.2.2.2.2.2.2.1 a.2.2.2.2.2.2.2.1),
  ([.b, .r, .l, .r, .r], row1 S_spec_l02Change_L1 fun j a => spec_l02Change_L1 n j a.1.1 a.1.2.1 a.1.2.2.1 a.2.1.1 a.2.1.2.1 a.2.1.2.2.1 a.2.1.2.2.2.1 a.2.1.2.2.2.2.1 a.2.1.2.2.2.2.2.1 a.2.2.1.1 a.2.2.2.1 a.2.2.2.2.1 a.2.2.2.2.2.1.1 a.2.2.2.2.2.2.1 a.2.2.2.2.2.2.2.1)]
def F_spec_DdlApply : Fn' (Y20 × (Y26 × Unit)) Y23 := ⟨107, Q61, (Rt.tup Q37), fun n a => spec_DdlApply n a.1 a.2.1.1 a.2.1.2.1 a.2.1.2.2.1 a.2.1.2.2.2.1 a.2.1.2.2.2.2.1 a.2.1.2.2.2.2.2⟩
def F_spec_l03SameVals : Fn' (Y3 × (Y3 × Unit)) Bool := ⟨261, Q25, (Rt.v (Tv.one Lf.bool)), fun n a => spec_l03SameVals n a.1 a.2.1⟩
def S_spec_l03SameVals_L1 := Sh.of (Sl.one (Lf.sh J3) (Sl.one (Lf.sh J3) (Sl.gap 10 (Sl.one (Lf.int .i64) (Sl.one (Lf.int .i64) (Sl.gap 12 Sl.nil)))))) Rw.nil Ls.nil
def T_spec_l03SameVals (n : Nat) : Tab Bool := [([.b, .r, .l, .r, .r], row1 S_spec_l03SameVals_L1 fun j a => spec_l03SameVals_L1 n j a.1.1 a.1.2.1 a.1.2.2.1 a.1.2.2.2.1)]
def F_spec_RowAt : Fn' (Y18 × (Y6 × (Y3 × Unit))) Int := ⟨199, Q55, (Rt.v (Tv.one (Lf.int .i64))), fun n a => spec_RowAt n a.1.1 a.1.2.1 a.1.2.2 a.2.1 a.2.2.1⟩
def S_spec_RowAt_L1 := Sh.of (Sl.gap 2 (Sl.one (Lf.sh J3) (Sl.k (Kf.box 232 0) (Sl.gap 9 (Sl.one (Lf.sh J4) (Sl.one (Lf.int .i64) (Sl.one (Lf.int .i64) (Sl.gap 11 Sl.nil)))))))) (Rw.box 232 J13 Q21 Rw.nil) Ls.nil
def T_spec_RowAt (n : Nat) : Tab Int := [([.b, .r, .l, .r, .r], row1 S_spec_RowAt_L1 fun j a => spec_RowAt_L1 n j a.1.1 a.1.2.1 a.1.2.2.1 a.1.2.2.2.1 a.2.1.1 a.2.1.2.1 a.2.1.2.2.1)]
def F_spec_l03Lay : Fn' (Y18 × (Y6 × (Y3 × Unit))) Y6 := ⟨200, Q56, (Rt.v (Tv.one (Lf.od J4))), fun n a => spec_l03Lay n a.1.1 a.1.2.1 a.1.2.2 a.2.1 a.2.2.1⟩
def S_spec_l03Lay_L1 := Sh.of (Sl.gap 3 (Sl.k (Kf.box 232 0) (Sl.gap 1 (Sl.k (Kf.box 360 0) (Sl.gap 1 (Sl.k (Kf.ow 488) (Sl.one Lf.bool (Sl.gap 3 (Sl.one (Lf.sh J4) (Sl.one (Lf.int .i64) (Sl.one (Lf.int .i64) (Sl.gap 33 Sl.nil)))))))))))) (Rw.box 232 J13 Q21 (Rw.box 360 J4 (Ls.cons (Lf.sh J3) Ls.nil) (Rw.data 488 J4 Rw.nil))) Ls.nil
def T_spec_l03Lay (n : Nat) : Tab Y6 := [([.b, .r, .l, .r, .r, .r], row1 S_spec_l03Lay_L1 fun j a => spec_l03Lay_L1 n j a.1.1 a.1.2.1 a.1.2.2.1 a.1.2.2.2.1 a.2.1.1 a.2.1.2.1 a.2.1.2.2.1 a.2.2.1.1 a.2.2.2.1)]
def F_spec_RowPut : Fn' (Y18 × (Y6 × (Y3 × Unit))) Y13 := ⟨109, Q56, Q36, fun n a => spec_RowPut n a.1.1 a.1.2.1 a.1.2.2 a.2.1 a.2.2.1⟩
def F_spec_KeyOk : Fn' (Y18 × (Y3 × Unit)) Bool := ⟨201, (Tvs.cons Q22 (Tvs.cons (Tv.one (Lf.sh J3)) Tvs.nil)), (Rt.v (Tv.one Lf.bool)), fun n a => spec_KeyOk n a.1.1 a.1.2.1 a.1.2.2 a.2.1⟩
def S_spec_KeyOk_L1 := Sh.of (Sl.gap 1 (Sl.one (Lf.sh J3) (Sl.k (Kf.box 168 0) (Sl.gap 16 (Sl.one (Lf.sh .str) (Sl.one (Lf.int .i64) (Sl.one (Lf.int .i64) (Sl.gap 18 Sl.nil)))))))) (Rw.box 168 J13 Q21 Rw.nil) Ls.nil
def T_spec_KeyOk (n : Nat) : Tab Bool := [([.b, .r, .l, .r, .r], row1 S_spec_KeyOk_L1 fun j a => spec_KeyOk_L1 n j a.1.1 a.1.2.1 a.1.2.2.1 a.1.2.2.2.1 a.2.1.1 a.2.1.2.1 a.2.1.2.2.1)]
def F_spec_l03Without : Fn' Y13 Y6 := ⟨202, Q28, (Rt.v (Tv.one (Lf.od J4))), fun n a => spec_l03Without n a.1 a.2.1⟩
def S_spec_l03Without_L1 := Sh.of (Sl.gap 1 (Sl.one (Lf.int .i64) (Sl.gap 3 (Sl.k (Kf.ow 360) (Sl.gap 3 (Sl.one (Lf.sh J4) (Sl.one (Lf.int .i64) (Sl.one (Lf.int .i64) (Sl.gap 14 Sl.nil))))))))) (Rw.data 360 J4 Rw.nil) Ls.nil
def T_spec_l03Without (n : Nat) : Tab Y6 := [([.b, .r, .l, .r, .r], row1 S_spec_l03Without_L1 fun j a => spec_l03Without_L1 n j a.1.1 a.1.2.1 a.1.2.2.1 a.1.2.2.2.1 a.2.1)]
def F_spec_RowSet : Fn' (Y18 × (Y6 × (Y3 × (Y3 × Unit)))) Y13 := ⟨110, (Tvs.cons Q22 (Tvs.cons (Tv.one (Lf.sh J4)) (Tvs.cons (Tv.one (Lf.sh J3)) Q8))), Q36, fun n a => spec_RowSet n a.1.1 a.1.2.1 a.1.2.2 a.2.1 a.2.2.1 a.2.2.2.1⟩
def F_spec_RowOut : Fn' (Y18 × (Y6 × (Y3 × Unit))) Y13 := ⟨111, Q55, Q36, fun n a => spec_RowOut n a.1.1 a.1.2.1 a.1.2.2 a.2.1 a.2.2.1⟩
def F_spec_RowsDdl : Fn' (Y18 × (Y6 × (Y26 × Unit))) Y13 := ⟨112, (Tvs.cons Q22 (Tvs.cons (Tv.one (Lf.sh J4)) Q53)), Q36, fun n a => spec_RowsDdl n a.1.1 a.1.2.1 a.1.2.2 a.2.1 a.2.2.1.1 a.2.2.1.2.1 a.2.2.1.2.2.1 a.2.2.1.2.2.2.1 a.2.2.1.2.2.2.2.1 a.2.2.1.2.2.2.2.2⟩
def S_spec_RowsDdl_L2 := Sh.of (Sl.gap 5 (Sl.k (Kf.box 360 0) (Sl.gap 4 (Sl.k (Kf.ow 680) (Sl.one (Lf.int .i64) (Sl.gap 2 (Sl.k (Kf.box 936 0) (Sl.gap 39 (Sl.one (Lf.sh J4) (Sl.one (Lf.int .i64) (Sl.one (Lf.int .i64) (Sl.gap 5 (Sl.one (Lf.sh J3) (Sl.one (Lf.int .i64) (Sl.one (Lf.int .i64) (Sl.gap 41 Sl.nil)))))))))))))))) (Rw.box 360 J17 Q48 (Rw.data 680 J4 (Rw.box 936 J4 (Ls.k (Kf.ow 944) Ls.nil) (Rw.data 944 J3 Rw.nil)))) Ls.nil
def S_spec_RowsDdl_L1 := Sh.of (Sl.gap 5 (Sl.k (Kf.box 360 0) (Sl.gap 4 (Sl.k (Kf.ow 680) (Sl.one (Lf.int .i64) (Sl.gap 42 (Sl.one (Lf.sh J4) (Sl.one (Lf.int .i64) (Sl.one (Lf.int .i64) (Sl.gap 49 Sl.nil)))))))))) (Rw.box 360 J17 Q48 (Rw.data 680 J4 Rw.nil)) Ls.nil
def T_spec_RowsDdl (n : Nat) : Tab Y13 := [([.b, .r, .l, .r, .r, .b, .l, .r, .r, .p, .b, .r, .l, .r, .r, .r, .r, .r, .r], row2 S_spec_RowsDdl_L2 fun i j a => spec_RowsDdl_L2 n (fun y0 y1 y2 y3 y4 y5 y6 y7 y8 y9 y10 => spec_RowsDdl_L1 n i y0 y1 y2 y3 y4 y5 y6 y7 y8 y9 y10) j a.1.1 a.1.2.1 a.1.2.2.1 a.1.2.2.2.1 a.1.2.2.2.2.1 a.1.2.2.2.2.2.1 a.1.2.2.2.2.2.2.1 a.2.1.1 a.2.1.2.1 a.2.1.2.2.1 a.2.1.2.2.2.1 a.2.1.2.2.2.2.1 a.2.1.2.2.2.2.2.1 a.2.2.1 a.2.2.2.2.1),
  ([.b, .r, .l, .r, .r, .r, .r, .r, .r], row1 S_spec_RowsDdl_L1 fun j a => spec_RowsDdl_L1 n j a.1.1 a.1.2.1 a.1.2.2.1 a.1.2.2.2.1 a.2.1.1 a.2.1.2.1 a.2.1.2.2.1 a.2.1.2.2.2.1 a.2.1.2.2.2.2.1 a.2.1.2.2.2.2.2.1 a.2.2.1)]
def F_spec_l04Rows : Fn' (Y18 × (Y6 × (Y31 × Unit))) Y13 := ⟨44, (Tvs.cons Q22 (Tvs.cons (Tv.one (Lf.sh J4)) Q64)), Q36, fun n a => spec_l04Rows n a.1.1 a.1.2.1 a.1.2.2 a.2.1 a.2.2.1.1 a.2.2.1.2.1 a.2.2.1.2.2.1 a.2.2.1.2.2.2.1 a.2.2.1.2.2.2.2.1 a.2.2.1.2.2.2.2.2.1 a.2.2.1.2.2.2.2.2.2.1 a.2.2.1.2.2.2.2.2.2.2.1 a.2.2.1.2.2.2.2.2.2.2.2.1 a.2.2.1.2.2.2.2.2.2.2.2.2⟩
def F_spec_l04Change : Fn' (Y27 × (Y31 × Unit)) (Y27 × (Int × Unit)) := ⟨43, Q65, (Rt.tup Q44), fun n a => spec_l04Change n a.1.1 a.1.2 a.2.1.1 a.2.1.2.1 a.2.1.2.2.1 a.2.1.2.2.2.1 a.2.1.2.2.2.2.1 a.2.1.2.2.2.2.2.1 a.2.1.2.2.2.2.2.2.1 a.2.1.2.2.2.2.2.2.2.1 a.2.1.2.2.2.2.2.2.2.2.1 a.2.1.2.2.2.2.2.2.2.2.2⟩
def S_spec_l04Change_L1 := Sh.of (Sl.gap 2 (Sl.k (Kf.box 168 0) (Sl.k (Kf.box 232 0) (Sl.k (Kf.box 296 0) (Sl.gap 3 (Sl.k (Kf.box 552 0) (Sl.gap 20 (Sl.one (Lf.sh J13) (Sl.one (Lf.int .i64) (Sl.one (Lf.int .i64) (Sl.gap 54 Sl.nil))))))))))) (Rw.box 168 J18 Q10 (Rw.box 232 J22 (Ls.cons (Lf.int .i64) (Ls.cons Lf.str (Ls.cons (Lf.sh J3) (Ls.cons (Lf.sh J3) Q48)))) (Rw.box 296 J18 (Ls.k (Kf.ow 304) (Ls.k (Kf.ow 305) Ls.nil)) (Rw.data 304 J13 (Rw.data 305 J5 (Rw.box 552 J18 (Ls.cons (Lf.sh J13) (Ls.k (Kf.ow 560) Ls.nil)) (Rw.data 560 J5 Rw.nil))))))) Ls.nil
def T_spec_l04Change (n : Nat) : Tab (Y27 × (Int × Unit)) := [([.b, .r, .l, .r, .r, .r, .r], row1 S_spec_l04Change_L1 fun j a => spec_l04Change_L1 n j a.1.1 a.1.2.1 a.1.2.2.1 a.2.1.1 a.2.1.2.1 a.2.2.1.1 a.2.2.1.2.1 a.2.2.1.2.2.1 a.2.2.1.2.2.2.1 a.2.2.1.2.2.2.2.1 a.2.2.1.2.2.2.2.2.1 a.2.2.1.2.2.2.2.2.2.1 a.2.2.1.2.2.2.2.2.2.2.1 a.2.2.1.2.2.2.2.2.2.2.2.1 a.2.2.1.2.2.2.2.2.2.2.2.2.1 a.2.2.2.2.1 a.2.2.2.2.2.1 a.2.2.2.2.2.2.1.1 a.2.2.2.2.2.2.2.1)]
def F_spec_Exec : Fn' (Y27 × (Y31 × Unit)) (Y27 × (Int × Unit)) := ⟨10, Q65, (Rt.tup Q44), fun n a => spec_Exec n a.1.1 a.1.2 a.2.1.1 a.2.1.2.1 a.2.1.2.2.1 a.2.1.2.2.2.1 a.2.1.2.2.2.2.1 a.2.1.2.2.2.2.2.1 a.2.1.2.2.2.2.2.2.1 a.2.1.2.2.2.2.2.2.2.1 a.2.1.2.2.2.2.2.2.2.2.1 a.2.1.2.2.2.2.2.2.2.2.2⟩
def F_spec_ExecAll : Fn' (Y27 × (Y33 × Unit)) (Y27 × (Int × (Int × Unit))) := ⟨23, (Tvs.cons Q12 (Tvs.cons (Tv.one (Lf.od J22)) Tvs.nil)), (Rt.tup (Tvs.cons Q11 Q31)), fun n a => spec_ExecAll n a.1.1 a.1.2 a.2.1⟩
def S_spec_ExecAll_L1 := Sh.of (Sl.gap 4 (Sl.k (Kf.box 296 0) (Sl.gap 2 (Sl.k (Kf.box 488 0) (Sl.gap 10 (Sl.k (Kf.ow 1192) (Sl.one (Lf.int .i64) (Sl.one (Lf.int .i64) (Sl.gap 18 Sl.nil))))))))) (Rw.box 296 J18 (Ls.k (Kf.ow 304) (Ls.k (Kf.ow 305) Ls.nil)) (Rw.data 304 J13 (Rw.data 305 J5 (Rw.box 488 J18 Q10 (Rw.data 1192 J22 Rw.nil))))) Ls.nil
def T_spec_ExecAll (n : Nat) : Tab (Y27 × (Int × (Int × Unit))) := [([.b, .r, .l, .r, .r, .r], row1 S_spec_ExecAll_L1 fun j a => spec_ExecAll_L1 n j a.1.1 a.1.2.1 a.2.2.1 a.2.2.2.1 a.2.2.2.2.1.1 a.2.2.2.2.1.2.1 a.2.2.2.2.2.1)]
def F_impl_within : Fn' (Int × (Int × (Int × Unit))) Bool := ⟨180, (Tvs.cons (Tv.one (Lf.int .i64)) Q31), (Rt.v (Tv.one Lf.bool)), fun n a => impl_within n a.1 a.2.1 a.2.2.1⟩
def F_impl_WordOk : Fn' (ByteArray × Unit) Bool := ⟨96, (Tvs.cons (Tv.one Lf.str) Tvs.nil), (Rt.v (Tv.one Lf.bool)), fun n a => impl_WordOk n a.1⟩
def S_impl_WordOk_L1 := Sh.of (Sl.one Lf.str (Sl.gap 2 (Sl.one (Lf.int .i64) (Sl.gap 19 Sl.nil)))) Rw.nil Ls.nil
def T_impl_WordOk (n : Nat) : Tab Bool := [([.b, .r, .l, .r], row1 S_impl_WordOk_L1 fun j a => impl_WordOk_L1 n j a.1.1 a.1.2.1)]
def F_impl_ValOk : Fn' (Y1 × Unit) Bool := ⟨183, Q40, (Rt.v (Tv.one Lf.bool)), fun n a => impl_ValOk n a.1.1 a.1.2.1 a.1.2.2⟩
def F_impl_ColOk : Fn' (Y14 × Unit) Bool := ⟨179, Q58, (Rt.v (Tv.one Lf.bool)), fun n a => impl_ColOk n a.1.1 a.1.2.1 a.1.2.2.1 a.1.2.2.2.1 a.1.2.2.2.2.1 a.1.2.2.2.2.2.1 a.1.2.2.2.2.2.2⟩
def F_impl_ColAt_1 : Fn' (Y14 × (ByteArray × Unit)) Bool := ⟨263, (Tvs.cons Q54 (Tvs.cons (Tv.one (Lf.spt .str 0)) Tvs.nil)), (Rt.v (Tv.one Lf.bool)), fun n a => impl_ColAt_1 n a.1.1 a.1.2.1 a.1.2.2.1 a.1.2.2.2.1 a.1.2.2.2.2.1 a.1.2.2.2.2.2.1 a.1.2.2.2.2.2.2 a.2.1⟩
def F_slices_IndexFunc_impl_Col_impl_Col__impl_ColAt_1 : Fn' (Y16 × ((ByteArray × Unit) × Unit)) Int := ⟨262, (Tvs.cons (Tv.one (Lf.sh J10)) (Tvs.cons (Tv.one (Lf.clo 263 (Cs.cons .str Cs.nil))) Tvs.nil)), (Rt.v (Tv.one (Lf.int .i64))), fun n a => slices_IndexFunc_impl_Col_impl_Col__impl_ColAt_1 n a.1 a.2.1.1⟩
def S_slices_IndexFunc_impl_Col_impl_Col__impl_ColAt_1_L1 := Sh.of (Sl.one (Lf.sh J10) (Sl.one (Lf.clo 263 (Cs.cons .str Cs.nil)) (Sl.gap 5 (Sl.one (Lf.int .i64) (Sl.one (Lf.int .i64) (Sl.gap 10 Sl.nil)))))) Rw.nil Ls.nil
def T_slices_IndexFunc_impl_Col_impl_Col__impl_ColAt_1 (n : Nat) : Tab Int := [([.b, .r, .l, .r], row1 S_slices_IndexFunc_impl_Col_impl_Col__impl_ColAt_1_L1 fun j a => slices_IndexFunc_impl_Col_impl_Col__impl_ColAt_1_L1 n j a.1.1 a.1.2.1.1 a.1.2.2.1 a.1.2.2.2.1)]
def F_impl_ColAt : Fn' (Y18 × (ByteArray × Unit)) Int := ⟨204, (Tvs.cons Q22 (Tvs.cons (Tv.one Lf.str) Tvs.nil)), (Rt.v (Tv.one (Lf.int .i64))), fun n a => impl_ColAt n a.1.1 a.1.2.1 a.1.2.2 a.2.1⟩
def F_impl_TableOk : Fn' (Y18 × Unit) Bool := ⟨114, Q39, (Rt.v (Tv.one Lf.bool)), fun n a => impl_TableOk n a.1.1 a.1.2.1 a.1.2.2⟩
def S_impl_TableOk_L2 := Sh.of (Sl.gap 1 (Sl.k (Kf.box 104 0) (Sl.gap 3 (Sl.one (Lf.int .i64) (Sl.gap 24 (Sl.one (Lf.sh .str) (Sl.one (Lf.int .i64) (Sl.one (Lf.int .i64) (Sl.gap 35 Sl.nil))))))))) (Rw.box 104 J13 Q21 Rw.nil) Ls.nil
def S_impl_TableOk_L1 := Sh.of (Sl.gap 1 (Sl.k (Kf.box 104 0) (Sl.gap 8 (Sl.one (Lf.sh J10) (Sl.one (Lf.int .i64) (Sl.one (Lf.int .i64) (Sl.gap 55 Sl.nil))))))) (Rw.box 104 J13 Q21 Rw.nil) Ls.nil
def T_impl_TableOk (n : Nat) : Tab Bool := [([.b, .r, .l, .r, .r, .r], row1 S_impl_TableOk_L2 fun j a => impl_TableOk_L2 n j a.1.1 a.1.2.1 a.1.2.2.1 a.1.2.2.2.1 a.2.1.1 a.2.1.2.1 a.2.1.2.2.1),
  ([.b, .r, .l, .r], row1 S_impl_TableOk_L1 fun j a => impl_TableOk_L1 n j a.1.1 a.1.2.1 a.1.2.2.1 a.2.1.1 a.2.1.2.1 a.2.1.2.2.1)]
def F_impl_CatOk : Fn' Y22 Bool := ⟨46, Q9, (Rt.v (Tv.one Lf.bool)), fun n a => impl_CatOk n a.1⟩
def S_impl_CatOk_L1 := Sh.of (Sl.gap 1 (Sl.k (Kf.box 104 0) (Sl.gap 4 (Sl.one (Lf.sh J13) (Sl.one (Lf.int .i64) (Sl.one (Lf.int .i64) (Sl.gap 28 Sl.nil))))))) (Rw.box 104 J14 (Ls.cons (Lf.sh J13) Ls.nil) Rw.nil) Ls.nil
def T_impl_CatOk (n : Nat) : Tab Bool := [([.b, .r, .l, .r], row1 S_impl_CatOk_L1 fun j a => impl_CatOk_L1 n j a.1.1 a.1.2.1 a.1.2.2.1 a.2.1.1)]
def F_impl_stands : Fn' (Y14 × (Y1 × Unit)) Bool := ⟨205, (Tvs.cons Q54 Q40), (Rt.v (Tv.one Lf.bool)), fun n a => impl_stands n a.1.1 a.1.2.1 a.1.2.2.1 a.1.2.2.2.1 a.1.2.2.2.2.1 a.1.2.2.2.2.2.1 a.1.2.2.2.2.2.2 a.2.1.1 a.2.1.2.1 a.2.1.2.2⟩
def F_impl_rowOk : Fn' (Y18 × (Y3 × Unit)) Bool := ⟨115, Q50, (Rt.v (Tv.one Lf.bool)), fun n a => impl_rowOk n a.1.1 a.1.2.1 a.1.2.2 a.2.1⟩
def S_impl_rowOk_L1 := Sh.of (Sl.gap 2 (Sl.k (Kf.box 168 0) (Sl.gap 12 (Sl.one (Lf.sh J3) (Sl.one (Lf.int .i64) (Sl.one (Lf.int .i64) (Sl.gap 13 Sl.nil))))))) (Rw.box 168 J13 Q21 Rw.nil) Ls.nil
def T_impl_rowOk (n : Nat) : Tab Bool := [([.b, .r, .l, .r, .r], row1 S_impl_rowOk_L1 fun j a => impl_rowOk_L1 n j a.1.1 a.1.2.1 a.1.2.2.1 a.2.1.1 a.2.1.2.1 a.2.1.2.2.1)]
def F_impl_keyOf : Fn' (Y18 × (Y3 × Unit)) Y3 := ⟨117, Q50, (Rt.v (Tv.one (Lf.od J3))), fun n a => impl_keyOf n a.1.1 a.1.2.1 a.1.2.2 a.2.1⟩
def S_impl_keyOf_L1 := Sh.of (Sl.gap 2 (Sl.k (Kf.box 168 0) (Sl.k (Kf.box 232 0) (Sl.gap 1 (Sl.k (Kf.ow 360) (Sl.gap 4 (Sl.one (Lf.sh .str) (Sl.one (Lf.int .i64) (Sl.one (Lf.int .i64) (Sl.gap 15 Sl.nil)))))))))) (Rw.box 168 J13 Q21 (Rw.box 232 J4 (Ls.cons (Lf.sh J3) Ls.nil) (Rw.data 360 J3 Rw.nil))) Ls.nil
def T_impl_keyOf (n : Nat) : Tab Y3 := [([.b, .r, .l, .r, .r], row1 S_impl_keyOf_L1 fun j a => impl_keyOf_L1 n j a.1.1 a.1.2.1 a.1.2.2.1 a.2.1.1 a.2.1.2.1 a.2.1.2.2.1 a.2.2.1.1 a.2.2.2.1)]
def F_impl_ValLess : Fn' (Y1 × (Y1 × Unit)) Bool := ⟨206, Q59, (Rt.v (Tv.one Lf.bool)), fun n a => impl_ValLess n a.1.1 a.1.2.1 a.1.2.2 a.2.1.1 a.2.1.2.1 a.2.1.2.2⟩
def F_impl_KeyLess : Fn' (Y3 × (Y3 × Unit)) Bool := ⟨116, Q25, (Rt.v (Tv.one Lf.bool)), fun n a => impl_KeyLess n a.1 a.2.1⟩
def S_impl_KeyLess_L1 := Sh.of (Sl.one (Lf.sh J3) (Sl.one (Lf.sh J3) (Sl.gap 3 (Sl.one (Lf.int .i64) (Sl.gap 35 Sl.nil))))) Rw.nil Ls.nil
def T_impl_KeyLess (n : Nat) : Tab Bool := [([.b, .r, .l, .r], row1 S_impl_KeyLess_L1 fun j a => impl_KeyLess_L1 n j a.1.1 a.1.2.1 a.1.2.2.1)]
def F_impl_RowsOk : Fn' (Y18 × (Y6 × Unit)) Bool := ⟨47, (Tvs.cons Q22 (Tvs.cons (Tv.one (Lf.sh J4)) Tvs.nil)), (Rt.v (Tv.one Lf.bool)), fun n a => impl_RowsOk n a.1.1 a.1.2.1 a.1.2.2 a.2.1⟩
def S_impl_RowsOk_L1 := Sh.of (Sl.gap 1 (Sl.one (Lf.sh J4) (Sl.k (Kf.box 168 0) (Sl.gap 12 (Sl.one (Lf.sh J4) (Sl.one (Lf.int .i64) (Sl.one (Lf.int .i64) (Sl.gap 27 Sl.nil)))))))) (Rw.box 168 J13 Q21 Rw.nil) Ls.nil
def T_impl_RowsOk (n : Nat) : Tab Bool := [([.b, .r, .l, .r, .r], row1 S_impl_RowsOk_L1 fun j a => impl_RowsOk_L1 n j a.1.1 a.1.2.1 a.1.2.2.1 a.1.2.2.2.1 a.2.1.1 a.2.1.2.1 a.2.1.2.2.1)]
def F_impl_DbOk : Fn' (Y27 × Unit) Bool := ⟨12, Q24, (Rt.v (Tv.one Lf.bool)), fun n a => impl_DbOk n a.1.1 a.1.2⟩
def S_impl_DbOk_L1 := Sh.of (Sl.gap 1 (Sl.k (Kf.box 104 0) (Sl.gap 19 (Sl.one (Lf.sh J13) (Sl.one (Lf.int .i64) (Sl.one (Lf.int .i64) (Sl.gap 14 Sl.nil))))))) (Rw.box 104 J18 Q10 Rw.nil) Ls.nil
def T_impl_DbOk (n : Nat) : Tab Bool := [([.b, .r, .l, .r, .r], row1 S_impl_DbOk_L1 fun j a => impl_DbOk_L1 n j a.1.1 a.1.2.1 a.1.2.2.1 a.2.1.1 a.2.1.2.1)]
def F_impl_copyTexts : Fn' Z1 (List ByteArray) := ⟨228, Q1, (Rt.v (Tv.one (Lf.od .str))), fun n a => impl_copyTexts n a.1⟩
def F_impl_copyTable : Fn' (Y18 × Unit) Y18 := ⟨149, Q39, Q32, fun n a => impl_copyTable n a.1.1 a.1.2.1 a.1.2.2⟩
def F_impl_copyCat : Fn' Y22 Y20 := ⟨137, Q9, (Rt.v (Tv.agg (Ls.one (Lf.od J13)))), fun n a => impl_copyCat n a.1⟩
def S_impl_copyCat_L1 := Sh.of (Sl.gap 2 (Sl.k (Kf.box 168 0) (Sl.k (Kf.box 232 0) (Sl.gap 4 (Sl.one (Lf.sh J13) (Sl.one (Lf.int .i64) (Sl.one (Lf.int .i64) (Sl.gap 12 Sl.nil)))))))) (Rw.box 168 J14 (Ls.k (Kf.ow 176) Ls.nil) (Rw.data 176 J13 (Rw.box 232 J14 (Ls.k (Kf.ow 240) Ls.nil) (Rw.data 240 J13 Rw.nil)))) Ls.nil
def T_impl_copyCat (n : Nat) : Tab Y20 := [([.b, .r, .l, .r, .r], row1 S_impl_copyCat_L1 fun j a => impl_copyCat_L1 n j a.1.1 a.1.2.1 a.1.2.2.1 a.2.2.1 a.2.2.2.2.1)]
def F_impl_copyVals : Fn' (Y3 × Unit) Y3 := ⟨219, (Tvs.cons (Tv.one (Lf.sh J3)) Tvs.nil), (Rt.v (Tv.one (Lf.od J3))), fun n a => impl_copyVals n a.1⟩
def F_impl_copyRows : Fn' (Y6 × Unit) Y6 := ⟨138, (Tvs.cons (Tv.one (Lf.sh J4)) Tvs.nil), (Rt.v (Tv.one (Lf.od J4))), fun n a => impl_copyRows n a.1⟩
def S_impl_copyRows_L1 := Sh.of (Sl.gap 3 (Sl.k (Kf.ow 232) (Sl.gap 2 (Sl.one (Lf.sh J4) (Sl.one (Lf.int .i64) (Sl.one (Lf.int .i64) (Sl.gap 12 Sl.nil))))))) (Rw.data 232 J4 Rw.nil) Ls.nil
def T_impl_copyRows (n : Nat) : Tab Y6 := [([.b, .r, .l, .r, .r], row1 S_impl_copyRows_L1 fun j a => impl_copyRows_L1 n j a.1.1 a.1.2.1 a.1.2.2.1 a.2.1)]
def F_impl_copyDb : Fn' (Y27 × Unit) Y27 := ⟨70, Q24, Q15, fun n a => impl_copyDb n a.1.1 a.1.2⟩
def S_impl_copyDb_L1 := Sh.of (Sl.gap 2 (Sl.k (Kf.box 168 0) (Sl.k (Kf.box 232 0) (Sl.gap 7 (Sl.one (Lf.sh J5) (Sl.one (Lf.int .i64) (Sl.one (Lf.int .i64) (Sl.gap 14 Sl.nil)))))))) (Rw.box 168 J18 (Ls.k (Kf.ow 176) (Ls.k (Kf.ow 177) Ls.nil)) (Rw.data 176 J13 (Rw.data 177 J5 (Rw.box 232 J18 (Ls.k (Kf.ow 240) (Ls.k (Kf.ow 241) Ls.nil)) (Rw.data 240 J13 (Rw.data 241 J5 Rw.nil)))))) Ls.nil
def T_impl_copyDb (n : Nat) : Tab Y27 := [([.b, .r, .l, .r, .r], row1 S_impl_copyDb_L1 fun j a => impl_copyDb_L1 n j a.1.1 a.1.2.1 a.1.2.2.1 a.2.2.1 a.2.2.2.1 a.2.2.2.2.2.1 a.2.2.2.2.2.2.1)]
def F_impl_Ddl_made : Fn' (Y26 × Unit) Y18 := ⟨178, Q53, Q32, fun n a => impl_Ddl_made n a.1.1 a.1.2.1 a.1.2.2.1 a.1.2.2.2.1 a.1.2.2.2.2.1 a.1.2.2.2.2.2⟩
def F_slices_Equal_impl_Col_impl_Col : Fn' (Y16 × (Y16 × Unit)) Bool := ⟨160, (Tvs.cons (Tv.one (Lf.sh J10)) (Tvs.cons (Tv.one (Lf.sh J10)) Tvs.nil)), (Rt.v (Tv.one Lf.bool)), fun n a => slices_Equal_impl_Col_impl_Col n a.1 a.2.1⟩
def S_slices_Equal_impl_Col_impl_Col_L1 := Sh.of (Sl.one (Lf.sh J10) (Sl.one (Lf.sh J10) (Sl.gap 10 (Sl.one (Lf.int .i64) (Sl.one (Lf.int .i64) (Sl.gap 12 Sl.nil)))))) Rw.nil Ls.nil
def T_slices_Equal_impl_Col_impl_Col (n : Nat) : Tab Bool := [([.b, .r, .l, .r, .r], row1 S_slices_Equal_impl_Col_impl_Col_L1 fun j a => slices_Equal_impl_Col_impl_Col_L1 n j a.1.1 a.1.2.1 a.1.2.2.1 a.1.2.2.2.1)]
def F_slices_Equal_string_string : Fn' ((List ByteArray) × Z1) Bool := ⟨161, (Tvs.cons (Tv.one (Lf.sh .str)) Q1), (Rt.v (Tv.one Lf.bool)), fun n a => slices_Equal_string_string n a.1 a.2.1⟩
def S_slices_Equal_string_string_L1 := Sh.of (Sl.one (Lf.sh .str) (Sl.one (Lf.sh .str) (Sl.gap 10 (Sl.one (Lf.int .i64) (Sl.one (Lf.int .i64) (Sl.gap 12 Sl.nil)))))) Rw.nil Ls.nil
def T_slices_Equal_string_string (n : Nat) : Tab Bool := [([.b, .r, .l, .r, .r], row1 S_slices_Equal_string_string_L1 fun j a => slices_Equal_string_string_L1 n j a.1.1 a.1.2.1 a.1.2.2.1 a.1.2.2.2.1)]
def F_impl_equalDdl : Fn' (Y26 × (Y26 × Unit)) Bool := ⟨97, (Tvs.cons Q49 Q53), (Rt.v (Tv.one Lf.bool)), fun n a => impl_equalDdl n a.1.1 a.1.2.1 a.1.2.2.1 a.1.2.2.2.1 a.1.2.2.2.2.1 a.1.2.2.2.2.2 a.2.1.1 a.2.1.2.1 a.2.1.2.2.1 a.2.1.2.2.2.1 a.2.1.2.2.2.2.1 a.2.1.2.2.2.2.2⟩
def F_impl_DdlOk : Fn' (Y26 × Unit) Bool := ⟨95, Q53, (Rt.v (Tv.one Lf.bool)), fun n a => impl_DdlOk n a.1.1 a.1.2.1 a.1.2.2.1 a.1.2.2.2.1 a.1.2.2.2.2.1 a.1.2.2.2.2.2⟩
def F_impl_areVals_1 : Fn' (Y1 × Unit) Bool := ⟨182, Q40, (Rt.v (Tv.one Lf.bool)), fun n a => impl_areVals_1 n a.1.1 a.1.2.1 a.1.2.2⟩
def F_slices_IndexFunc_impl_Val_impl_Val__impl_areVals_1 : Fn' (Y3 × (Unit × Unit)) Int := ⟨247, (Tvs.cons (Tv.one (Lf.sh J3)) (Tvs.cons (Tv.one (Lf.clo 182 Cs.nil)) Tvs.nil)), (Rt.v (Tv.one (Lf.int .i64))), fun n a => slices_IndexFunc_impl_Val_impl_Val__impl_areVals_1 n a.1⟩
def S_slices_IndexFunc_impl_Val_impl_Val__impl_areVals_1_L1 := Sh.of (Sl.one (Lf.sh J3) (Sl.one (Lf.clo 182 Cs.nil) (Sl.gap 5 (Sl.one (Lf.int .i64) (Sl.one (Lf.int .i64) (Sl.gap 10 Sl.nil)))))) Rw.nil Ls.nil
def T_slices_IndexFunc_impl_Val_impl_Val__impl_areVals_1 (n : Nat) : Tab Int := [([.b, .r, .l, .r], row1 S_slices_IndexFunc_impl_Val_impl_Val__impl_areVals_1_L1 fun j a => slices_IndexFunc_impl_Val_impl_Val__impl_areVals_1_L1 n j a.1.1 a.1.2.2.1 a.1.2.2.2.1)]
def F_slices_ContainsFunc_impl_Val_impl_Val__impl_areVals_1 : Fn' (Y3 × (Unit × Unit)) Bool := ⟨181, (Tvs.cons (Tv.one (Lf.sh J3)) (Tvs.cons (Tv.one (Lf.clo 182 Cs.nil)) Tvs.nil)), (Rt.v (Tv.one Lf.bool)), fun n a => slices_ContainsFunc_impl_Val_impl_Val__impl_areVals_1 n a.1⟩
def F_impl_areVals : Fn' (Y3 × Unit) Bool := ⟨98, (Tvs.cons (Tv.one (Lf.sh J3)) Tvs.nil), (Rt.v (Tv.one Lf.bool)), fun n a => impl_areVals n a.1⟩
def F_impl_StmtOk : Fn' (Y31 × Unit) Bool := ⟨39, Q64, (Rt.v (Tv.one Lf.bool)), fun n a => impl_StmtOk n a.1.1 a.1.2.1 a.1.2.2.1 a.1.2.2.2.1 a.1.2.2.2.2.1 a.1.2.2.2.2.2.1 a.1.2.2.2.2.2.2.1 a.1.2.2.2.2.2.2.2.1 a.1.2.2.2.2.2.2.2.2.1 a.1.2.2.2.2.2.2.2.2.2⟩
def F_impl_Cat_at_1 : Fn' (Y18 × (ByteArray × Unit)) Bool := ⟨159, (Tvs.cons Q22 (Tvs.cons (Tv.one (Lf.spt .str 0)) Tvs.nil)), (Rt.v (Tv.one Lf.bool)), fun n a => impl_Cat_at_1 n a.1.1 a.1.2.1 a.1.2.2 a.2.1⟩
def F_slices_IndexFunc_impl_Table_impl_Table__impl_Cat_at_1 : Fn' (Y20 × ((ByteArray × Unit) × Unit)) Int := ⟨158, (Tvs.cons (Tv.one (Lf.sh J13)) (Tvs.cons (Tv.one (Lf.clo 159 (Cs.cons .str Cs.nil))) Tvs.nil)), (Rt.v (Tv.one (Lf.int .i64))), fun n a => slices_IndexFunc_impl_Table_impl_Table__impl_Cat_at_1 n a.1 a.2.1.1⟩
def S_slices_IndexFunc_impl_Table_impl_Table__impl_Cat_at_1_L1 := Sh.of (Sl.one (Lf.sh J13) (Sl.one (Lf.clo 159 (Cs.cons .str Cs.nil)) (Sl.gap 5 (Sl.one (Lf.int .i64) (Sl.one (Lf.int .i64) (Sl.gap 10 Sl.nil)))))) Rw.nil Ls.nil
def T_slices_IndexFunc_impl_Table_impl_Table__impl_Cat_at_1 (n : Nat) : Tab Int := [([.b, .r, .l, .r], row1 S_slices_IndexFunc_impl_Table_impl_Table__impl_Cat_at_1_L1 fun j a => slices_IndexFunc_impl_Table_impl_Table__impl_Cat_at_1_L1 n j a.1.1 a.1.2.1.1 a.1.2.2.1 a.1.2.2.2.1)]
def F_impl_Cat_at : Fn' (Y20 × (ByteArray × Unit)) Int := ⟨85, (Tvs.cons (Tv.agg (Ls.one (Lf.sh J13))) (Tvs.cons (Tv.one Lf.str) Tvs.nil)), (Rt.v (Tv.one (Lf.int .i64))), fun n a => impl_Cat_at n a.1 a.2.1⟩
def F_slices_Index_string_string : Fn' Z3 Int := ⟨146, Q20, (Rt.v (Tv.one (Lf.int .i64))), fun n a => slices_Index_string_string n a.1 a.2.1⟩
def S_slices_Index_string_string_L1 := Sh.of (Sl.one (Lf.sh .str) (Sl.one Lf.str (Sl.gap 5 (Sl.one (Lf.int .i64) (Sl.one (Lf.int .i64) (Sl.gap 10 Sl.nil)))))) Rw.nil Ls.nil
def T_slices_Index_string_string (n : Nat) : Tab Int := [([.b, .r, .l, .r], row1 S_slices_Index_string_string_L1 fun j a => slices_Index_string_string_L1 n j a.1.1 a.1.2.1 a.1.2.2.1 a.1.2.2.2.1)]
def F_slices_Contains_string_string : Fn' Z3 Bool := ⟨281, Q20, (Rt.v (Tv.one Lf.bool)), fun n a => slices_Contains_string_string n a.1 a.2.1⟩
def F_impl_ddlCode : Fn' (Y20 × (Y26 × Unit)) Int := ⟨248, Q61, (Rt.v (Tv.one (Lf.int .i64))), fun n a => impl_ddlCode n a.1 a.2.1.1 a.2.1.2.1 a.2.1.2.2.1 a.2.1.2.2.2.1 a.2.1.2.2.2.2.1 a.2.1.2.2.2.2.2⟩
def F_slices_Insert_impl_Table_impl_Table : Fn' (Y20 × Y24) Y20 := ⟨249, (Tvs.cons (Tv.one (Lf.od J13)) Q30), (Rt.v (Tv.one (Lf.od J13))), fun n a => slices_Insert_impl_Table_impl_Table n a.1 a.2.1 a.2.2.1⟩
def F_slices_Delete_impl_Table_impl_Table : Fn' (Y20 × (Int × (Int × Unit))) Y20 := ⟨250, (Tvs.cons (Tv.one (Lf.od J13)) Q31), (Rt.v (Tv.one (Lf.od J13))), fun n a => slices_Delete_impl_Table_impl_Table n a.1 a.2.1 a.2.2.1⟩
def F_impl_DdlApply_1 : Fn' (Y14 × (Y26 × Unit)) Bool := ⟨252, (Tvs.cons Q54 (Tvs.cons (Tv.one (Lf.spt J17 0)) Tvs.nil)), (Rt.v (Tv.one Lf.bool)), fun n a => impl_DdlApply_1 n a.1.1 a.1.2.1 a.1.2.2.1 a.1.2.2.2.1 a.1.2.2.2.2.1 a.1.2.2.2.2.2.1 a.1.2.2.2.2.2.2 a.2.1⟩
def F_slices_IndexFunc_impl_Col_impl_Col__impl_DdlApply_1 : Fn' (Y16 × ((Y26 × Unit) × Unit)) Int := ⟨262, (Tvs.cons (Tv.one (Lf.sh J10)) (Tvs.cons (Tv.one (Lf.clo 252 (Cs.cons J17 Cs.nil))) Tvs.nil)), (Rt.v (Tv.one (Lf.int .i64))), fun n a => slices_IndexFunc_impl_Col_impl_Col__impl_DdlApply_1 n a.1 a.2.1.1⟩
def S_slices_IndexFunc_impl_Col_impl_Col__impl_DdlApply_1_L1 := Sh.of (Sl.one (Lf.sh J10) (Sl.one (Lf.clo 252 (Cs.cons J17 Cs.nil)) (Sl.gap 5 (Sl.one (Lf.int .i64) (Sl.one (Lf.int .i64) (Sl.gap 10 Sl.nil)))))) Rw.nil Ls.nil
def T_slices_IndexFunc_impl_Col_impl_Col__impl_DdlApply_1 (n : Nat) : Tab Int := [([.b, .r, .l, .r], row1 S_slices_IndexFunc_impl_Col_impl_Col__impl_DdlApply_1_L1 fun j a => slices_IndexFunc_impl_Col_impl_Col__impl_DdlApply_1_L1 n j a.1.1 a.1.2.1.1 a.1.2.2.1 a.1.2.2.2.1)]
def F_slices_DeleteFunc_impl_Col_impl_Col_o__impl_DdlApply_1 : Fn' (Y16 × ((Y26 × Unit) × Unit)) Y16 := ⟨251, (Tvs.cons (Tv.one (Lf.od J10)) (Tvs.cons (Tv.one (Lf.clo 252 (Cs.cons J17 Cs.nil))) Tvs.nil)), (Rt.v (Tv.one (Lf.od J10))), fun n a => slices_DeleteFunc_impl_Col_impl_Col_o__impl_DdlApply_1 n a.1 a.2.1.1⟩
def S_slices_DeleteFunc_impl_Col_impl_Col_o__impl_DdlApply_1_L1 := Sh.of (Sl.k (Kf.ow 40) (Sl.one (Lf.clo 252 (Cs.cons J17 Cs.nil)) (Sl.gap 3 (Sl.one (Lf.int .i64) (Sl.one (Lf.int .i64) (Sl.gap 35 Sl.nil)))))) (Rw.data 40 J10 Rw.nil) Ls.nil
def T_slices_DeleteFunc_impl_Col_impl_Col_o__impl_DdlApply_1 (n : Nat) : Tab Y16 := [([.b, .r, .l, .r, .r, .r], row1 S_slices_DeleteFunc_impl_Col_impl_Col_o__impl_DdlApply_1_L1 fun j a => slices_DeleteFunc_impl_Col_impl_Col_o__impl_DdlApply_1_L1 n j a.1.1.1 a.1.2.1 a.1.2.2.1 a.2.1)]
def F_impl_DdlApply : Fn' (Y20 × (Y26 × Unit)) Y23 := ⟨184, Q61, (Rt.tup (Tvs.cons (Tv.agg (Ls.one (Lf.od J13))) Q3)), fun n a => impl_DdlApply n a.1 a.2.1.1 a.2.1.2.1 a.2.1.2.2.1 a.2.1.2.2.2.1 a.2.1.2.2.2.2.1 a.2.1.2.2.2.2.2⟩
def S_impl_DdlApply_L1 := Sh.of (Sl.gap 3 (Sl.k (Kf.box 232 0) (Sl.k (Kf.box 296 0) (Sl.gap 2 (Sl.k (Kf.box 488 0) (Sl.gap 1 (Sl.one (Lf.int .i64) (Sl.gap 136 Sl.nil)))))))) (Rw.box 232 J17 Q48 (Rw.box 296 J14 (Ls.k (Kf.ow 304) Ls.nil) (Rw.data 304 J13 (Rw.box 488 J14 (Ls.k (Kf.ow 496) Ls.nil) (Rw.data 496 J13 Rw.nil))))) Ls.nil
def T_impl_DdlApply (n : Nat) : Tab Y23 := [([.b, .l, .r, .t, .r, .b, .r, .l, .r, .r, .r, .r, .r], row1 S_impl_DdlApply_L1 fun j a => impl_DdlApply_L1 n j a.1.1 a.2.1.1 a.2.1.2.1 a.2.1.2.2.1 a.2.1.2.2.2.1 a.2.1.2.2.2.2.1 a.2.1.2.2.2.2.2.1 a.2.2.2.1 a.2.2.2.2.2.1)]
def F_slices_Insert_impl_Rows_impl_Rows : Fn' (Y10 × (Int × Y12)) Y10 := ⟨185, (Tvs.cons (Tv.one (Lf.od J5)) (Tvs.cons (Tv.one (Lf.int .i64)) (Tvs.cons (Tv.one (Lf.od J5)) Tvs.nil))), (Rt.v (Tv.one (Lf.od J5))), fun n a => slices_Insert_impl_Rows_impl_Rows n a.1 a.2.1 a.2.2.1⟩
def F_slices_Delete_impl_Rows_impl_Rows : Fn' (Y10 × (Int × (Int × Unit))) Y10 := ⟨186, (Tvs.cons (Tv.one (Lf.od J5)) Q31), (Rt.v (Tv.one (Lf.od J5))), fun n a => slices_Delete_impl_Rows_impl_Rows n a.1 a.2.1 a.2.2.1⟩
def F_slices_Delete_impl_Val_impl_Val : Fn' (Y3 × (Int × (Int × Unit))) Y3 := ⟨255, (Tvs.cons (Tv.one (Lf.od J3)) Q31), (Rt.v (Tv.one (Lf.od J3))), fun n a => slices_Delete_impl_Val_impl_Val n a.1 a.2.1 a.2.2.1⟩
def F_impl_RowsDdl : Fn' (Y18 × (Y6 × (Y26 × Unit))) Y13 := ⟨187, (Tvs.cons Q22 (Tvs.cons (Tv.one (Lf.sh J4)) Q53)), Q36, fun n a => impl_RowsDdl n a.1.1 a.1.2.1 a.1.2.2 a.2.1 a.2.2.1.1 a.2.2.1.2.1 a.2.2.1.2.2.1 a.2.2.1.2.2.2.1 a.2.2.1.2.2.2.2.1 a.2.2.1.2.2.2.2.2⟩
def S_impl_RowsDdl_L1 := Sh.of (Sl.gap 5 (Sl.k (Kf.box 360 0) (Sl.gap 3 (Sl.k (Kf.ow 616) (Sl.gap 41 (Sl.one (Lf.int .i64) (Sl.one (Lf.int .i64) (Sl.gap 45 Sl.nil)))))))) (Rw.box 360 J17 Q48 (Rw.data 616 J4 Rw.nil)) Ls.nil
def S_impl_RowsDdl_L2 := Sh.of (Sl.gap 9 (Sl.k (Kf.ow 616) (Sl.gap 1 (Sl.one (Lf.int .i64) (Sl.gap 67 (Sl.one (Lf.int .i64) (Sl.one (Lf.int .i64) (Sl.gap 17 Sl.nil)))))))) (Rw.data 616 J4 Rw.nil) Ls.nil
def T_impl_RowsDdl (n : Nat) : Tab Y13 := [([.b, .r, .t, .r, .f, .r, .b, .r, .l, .r, .r, .r, .r], row1 S_impl_RowsDdl_L1 fun j a => impl_RowsDdl_L1 n j a.1.1 a.1.2.1 a.2.1.1 a.2.1.2.1 a.2.1.2.2.1 a.2.1.2.2.2.1 a.2.1.2.2.2.2.1 a.2.1.2.2.2.2.2.1 a.2.2.1),
  ([.b, .r, .r, .t, .r, .f, .r, .f, .r, .b, .r, .l, .r, .r, .r, .r], row1 S_impl_RowsDdl_L2 fun j a => impl_RowsDdl_L2 n j a.1.1 a.1.2.1 a.1.2.2.1 a.2.1)]
def F_impl_changed : Fn' (Y27 × (Y26 × Unit)) (Y27 × (Int × Unit)) := ⟨99, (Tvs.cons Q11 Q53), (Rt.tup Q45), fun n a => impl_changed n a.1.1 a.1.2 a.2.1.1 a.2.1.2.1 a.2.1.2.2.1 a.2.1.2.2.2.1 a.2.1.2.2.2.2.1 a.2.1.2.2.2.2.2⟩
def F_slices_Equal_impl_Val_impl_Val : Fn' (Y3 × (Y3 × Unit)) Bool := ⟨164, Q25, (Rt.v (Tv.one Lf.bool)), fun n a => slices_Equal_impl_Val_impl_Val n a.1 a.2.1⟩
def S_slices_Equal_impl_Val_impl_Val_L1 := Sh.of (Sl.one (Lf.sh J3) (Sl.one (Lf.sh J3) (Sl.gap 10 (Sl.one (Lf.int .i64) (Sl.one (Lf.int .i64) (Sl.gap 12 Sl.nil)))))) Rw.nil Ls.nil
def T_slices_Equal_impl_Val_impl_Val (n : Nat) : Tab Bool := [([.b, .r, .l, .r, .r], row1 S_slices_Equal_impl_Val_impl_Val_L1 fun j a => slices_Equal_impl_Val_impl_Val_L1 n j a.1.1 a.1.2.1 a.1.2.2.1 a.1.2.2.2.1)]
def F_impl_rowAt_1 : Fn' (Y3 × (Y18 × (Y3 × Unit))) Bool := ⟨257, (Tvs.cons (Tv.agg (Ls.one (Lf.sh J3))) (Tvs.cons (Tv.one (Lf.spt J13 0)) (Tvs.cons (Tv.one (Lf.spt J4 0)) Tvs.nil))), (Rt.v (Tv.one Lf.bool)), fun n a => impl_rowAt_1 n a.1 a.2.1 a.2.2.1⟩
def F_slices_IndexFunc_impl_Row_impl_Row__impl_rowAt_1 : Fn' (Y6 × ((Y18 × (Y3 × Unit)) × Unit)) Int := ⟨256, (Tvs.cons (Tv.one (Lf.sh J4)) (Tvs.cons (Tv.one (Lf.clo 257 (Cs.cons J13 (Cs.cons J4 Cs.nil)))) Tvs.nil)), (Rt.v (Tv.one (Lf.int .i64))), fun n a => slices_IndexFunc_impl_Row_impl_Row__impl_rowAt_1 n a.1 a.2.1.1 a.2.1.2.1⟩
def S_slices_IndexFunc_impl_Row_impl_Row__impl_rowAt_1_L1 := Sh.of (Sl.one (Lf.sh J4) (Sl.one (Lf.clo 257 (Cs.cons J13 (Cs.cons J4 Cs.nil))) (Sl.gap 5 (Sl.one (Lf.int .i64) (Sl.one (Lf.int .i64) (Sl.gap 10 Sl.nil)))))) Rw.nil Ls.nil
def T_slices_IndexFunc_impl_Row_impl_Row__impl_rowAt_1 (n : Nat) : Tab Int := [([.b, .r, .l, .r], row1 S_slices_IndexFunc_impl_Row_impl_Row__impl_rowAt_1_L1 fun j a => slices_IndexFunc_impl_Row_impl_Row__impl_rowAt_1_L1 n j a.1.1 a.1.2.1.1 a.1.2.1.2.1 a.1.2.2.1 a.1.2.2.2.1)]
def F_impl_rowAt : Fn' (Y18 × (Y6 × (Y3 × Unit))) Int := ⟨188, Q55, (Rt.v (Tv.one (Lf.int .i64))), fun n a => impl_rowAt n a.1.1 a.1.2.1 a.1.2.2 a.2.1 a.2.2.1⟩
def F_slices_Insert_impl_Row_impl_Row : Fn' (Y6 × (Int × (Y6 × Unit))) Y6 := ⟨258, (Tvs.cons (Tv.one (Lf.od J4)) (Tvs.cons (Tv.one (Lf.int .i64)) (Tvs.cons (Tv.one (Lf.od J4)) Tvs.nil))), (Rt.v (Tv.one (Lf.od J4))), fun n a => slices_Insert_impl_Row_impl_Row n a.1 a.2.1 a.2.2.1⟩
def F_impl_placed : Fn' (Y18 × (Y6 × (Y3 × Unit))) Y6 := ⟨189, Q56, (Rt.v (Tv.one (Lf.od J4))), fun n a => impl_placed n a.1.1 a.1.2.1 a.1.2.2 a.2.1 a.2.2.1⟩
def S_impl_placed_L1 := Sh.of (Sl.gap 1 (Sl.one (Lf.sh J4) (Sl.gap 1 (Sl.k (Kf.box 232 0) (Sl.gap 1 (Sl.k (Kf.box 360 0) (Sl.gap 1 (Sl.one (Lf.int .i64) (Sl.gap 27 Sl.nil))))))))) (Rw.box 232 J13 Q21 (Rw.box 360 J4 (Ls.cons (Lf.sh J3) Ls.nil) Rw.nil)) Ls.nil
def T_impl_placed (n : Nat) : Tab Y6 := [([.b, .l, .r, .r], row1 S_impl_placed_L1 fun j a => impl_placed_L1 n j a.1.1 a.1.2.1 a.2.1.1 a.2.1.2.1 a.2.1.2.2.1 a.2.2.1.1)]
def F_impl_RowPut : Fn' (Y18 × (Y6 × (Y3 × Unit))) Y13 := ⟨100, Q56, Q36, fun n a => impl_RowPut n a.1.1 a.1.2.1 a.1.2.2 a.2.1 a.2.2.1⟩
def F_impl_KeyOk : Fn' (Y18 × (Y3 × Unit)) Bool := ⟨190, (Tvs.cons Q22 (Tvs.cons (Tv.one (Lf.sh J3)) Tvs.nil)), (Rt.v (Tv.one Lf.bool)), fun n a => impl_KeyOk n a.1.1 a.1.2.1 a.1.2.2 a.2.1⟩
def S_impl_KeyOk_L1 := Sh.of (Sl.gap 1 (Sl.one (Lf.sh J3) (Sl.k (Kf.box 168 0) (Sl.gap 16 (Sl.one (Lf.sh .str) (Sl.one (Lf.int .i64) (Sl.one (Lf.int .i64) (Sl.gap 27 Sl.nil)))))))) (Rw.box 168 J13 Q21 Rw.nil) Ls.nil
def T_impl_KeyOk (n : Nat) : Tab Bool := [([.b, .r, .l, .r, .r], row1 S_impl_KeyOk_L1 fun j a => impl_KeyOk_L1 n j a.1.1 a.1.2.1 a.1.2.2.1 a.1.2.2.2.1 a.2.1.1 a.2.1.2.1 a.2.1.2.2.1)]
def F_slices_Delete_impl_Row_impl_Row : Fn' (Y6 × (Int × (Int × Unit))) Y6 := ⟨191, (Tvs.cons (Tv.one (Lf.od J4)) Q31), (Rt.v (Tv.one (Lf.od J4))), fun n a => slices_Delete_impl_Row_impl_Row n a.1 a.2.1 a.2.2.1⟩
def F_impl_RowSet : Fn' (Y18 × (Y6 × (Y3 × (Y3 × Unit)))) Y13 := ⟨101, (Tvs.cons Q22 (Tvs.cons (Tv.one (Lf.sh J4)) (Tvs.cons (Tv.one (Lf.sh J3)) Q8))), Q36, fun n a => impl_RowSet n a.1.1 a.1.2.1 a.1.2.2 a.2.1 a.2.2.1 a.2.2.2.1⟩
def F_impl_RowOut : Fn' (Y18 × (Y6 × (Y3 × Unit))) Y13 := ⟨102, Q55, Q36, fun n a => impl_RowOut n a.1.1 a.1.2.1 a.1.2.2 a.2.1 a.2.2.1⟩
def F_impl_exec : Fn' (Y27 × (Y31 × Unit)) (Y27 × (Int × Unit)) := ⟨40, Q65, (Rt.tup Q45), fun n a => impl_exec n a.1.1 a.1.2 a.2.1.1 a.2.1.2.1 a.2.1.2.2.1 a.2.1.2.2.2.1 a.2.1.2.2.2.2.1 a.2.1.2.2.2.2.2.1 a.2.1.2.2.2.2.2.2.1 a.2.1.2.2.2.2.2.2.2.1 a.2.1.2.2.2.2.2.2.2.2.1 a.2.1.2.2.2.2.2.2.2.2.2⟩
def F_impl_ExecAll : Fn' (Y27 × (Y33 × Unit)) (Y27 × (Int × (Int × Unit))) := ⟨25, (Tvs.cons Q11 (Tvs.cons (Tv.one (Lf.sh J22)) Tvs.nil)), (Rt.tup (Tvs.cons Q12 Q31)), fun n a => impl_ExecAll n a.1.1 a.1.2 a.2.1⟩
def S_impl_ExecAll_L1 := Sh.of (Sl.gap 4 (Sl.k (Kf.box 296 0) (Sl.gap 2 (Sl.k (Kf.box 488 0) (Sl.gap 10 (Sl.one (Lf.sh J22) (Sl.one (Lf.int .i64) (Sl.one (Lf.int .i64) (Sl.gap 23 Sl.nil))))))))) (Rw.box 296 J18 (Ls.k (Kf.ow 304) (Ls.k (Kf.ow 305) Ls.nil)) (Rw.data 304 J13 (Rw.data 305 J5 (Rw.box 488 J18 (Ls.k (Kf.ow 496) (Ls.k (Kf.ow 497) Ls.nil)) (Rw.data 496 J13 (Rw.data 497 J5 Rw.nil)))))) Ls.nil
def T_impl_ExecAll (n : Nat) : Tab (Y27 × (Int × (Int × Unit))) := [([.b, .r, .l, .r, .r, .r], row1 S_impl_ExecAll_L1 fun j a => impl_ExecAll_L1 n j a.1.1 a.1.2.1 a.1.2.2.1 a.2.2.1 a.2.2.2.1 a.2.2.2.2.2.1 a.2.2.2.2.2.2.1)]
def F_laws_eqVal : Fn' (Y1 × (Y1 × Unit)) Bool := ⟨130, Q59, (Rt.v (Tv.one Lf.bool)), fun n a => laws_eqVal n a.1.1 a.1.2.1 a.1.2.2 a.2.1.1 a.2.1.2.1 a.2.1.2.2⟩
def F_laws_eqCol : Fn' (Y14 × (Y14 × Unit)) Bool := ⟨215, (Tvs.cons Q54 Q58), (Rt.v (Tv.one Lf.bool)), fun n a => laws_eqCol n a.1.1 a.1.2.1 a.1.2.2.1 a.1.2.2.2.1 a.1.2.2.2.2.1 a.1.2.2.2.2.2.1 a.1.2.2.2.2.2.2 a.2.1.1 a.2.1.2.1 a.2.1.2.2.1 a.2.1.2.2.2.1 a.2.1.2.2.2.2.1 a.2.1.2.2.2.2.2.1 a.2.1.2.2.2.2.2.2⟩
def F_laws_eqColS : Fn' (Y16 × (Y16 × Unit)) Bool := ⟨131, (Tvs.cons (Tv.one (Lf.sh J10)) (Tvs.cons (Tv.one (Lf.sh J10)) Tvs.nil)), (Rt.v (Tv.one Lf.bool)), fun n a => laws_eqColS n a.1 a.2.1⟩
def S_laws_eqColS_L1 := Sh.of (Sl.one (Lf.sh J10) (Sl.one (Lf.sh J10) (Sl.gap 3 (Sl.one (Lf.int .i64) (Sl.gap 21 Sl.nil))))) Rw.nil Ls.nil
def T_laws_eqColS (n : Nat) : Tab Bool := [([.b, .r, .l, .r, .r], row1 S_laws_eqColS_L1 fun j a => laws_eqColS_L1 n j a.1.1 a.1.2.1 a.1.2.2.1)]
def F_laws_eqStringS : Fn' ((List ByteArray) × Z1) Bool := ⟨132, (Tvs.cons (Tv.one (Lf.sh .str)) Q1), (Rt.v (Tv.one Lf.bool)), fun n a => laws_eqStringS n a.1 a.2.1⟩
def S_laws_eqStringS_L1 := Sh.of (Sl.one (Lf.sh .str) (Sl.one (Lf.sh .str) (Sl.gap 3 (Sl.one (Lf.int .i64) (Sl.gap 20 Sl.nil))))) Rw.nil Ls.nil
def T_laws_eqStringS (n : Nat) : Tab Bool := [([.b, .r, .l, .r, .r], row1 S_laws_eqStringS_L1 fun j a => laws_eqStringS_L1 n j a.1.1 a.1.2.1 a.1.2.2.1)]
def F_laws_eqTable : Fn' (Y18 × (Y18 × Unit)) Bool := ⟨213, (Tvs.cons Q22 Q39), (Rt.v (Tv.one Lf.bool)), fun n a => laws_eqTable n a.1.1 a.1.2.1 a.1.2.2 a.2.1.1 a.2.1.2.1 a.2.1.2.2⟩
def F_laws_eqTableS : Fn' (Y20 × Y22) Bool := ⟨128, (Tvs.cons (Tv.one (Lf.sh J13)) (Tvs.cons (Tv.one (Lf.sh J13)) Tvs.nil)), (Rt.v (Tv.one Lf.bool)), fun n a => laws_eqTableS n a.1 a.2.1⟩
def S_laws_eqTableS_L1 := Sh.of (Sl.one (Lf.sh J13) (Sl.one (Lf.sh J13) (Sl.gap 3 (Sl.one (Lf.int .i64) (Sl.gap 21 Sl.nil))))) Rw.nil Ls.nil
def T_laws_eqTableS (n : Nat) : Tab Bool := [([.b, .r, .l, .r, .r], row1 S_laws_eqTableS_L1 fun j a => laws_eqTableS_L1 n j a.1.1 a.1.2.1 a.1.2.2.1)]
def F_laws_eqCat : Fn' (Y20 × Y22) Bool := ⟨58, (Tvs.cons (Tv.agg (Ls.one (Lf.sh J13))) Q9), (Rt.v (Tv.one Lf.bool)), fun n a => laws_eqCat n a.1 a.2.1⟩
def F_laws_eqValS : Fn' (Y3 × (Y3 × Unit)) Bool := ⟨60, Q25, (Rt.v (Tv.one Lf.bool)), fun n a => laws_eqValS n a.1 a.2.1⟩
def S_laws_eqValS_L1 := Sh.of (Sl.one (Lf.sh J3) (Sl.one (Lf.sh J3) (Sl.gap 3 (Sl.one (Lf.int .i64) (Sl.gap 21 Sl.nil))))) Rw.nil Ls.nil
def T_laws_eqValS (n : Nat) : Tab Bool := [([.b, .r, .l, .r, .r], row1 S_laws_eqValS_L1 fun j a => laws_eqValS_L1 n j a.1.1 a.1.2.1 a.1.2.2.1)]
def F_laws_eqRow : Fn' (Y3 × (Y3 × Unit)) Bool := ⟨61, (Tvs.cons (Tv.agg (Ls.one (Lf.sh J3))) Q8), (Rt.v (Tv.one Lf.bool)), fun n a => laws_eqRow n a.1 a.2.1⟩
def F_laws_eqRowS : Fn' (Y6 × (Y6 × Unit)) Bool := ⟨214, (Tvs.cons (Tv.one (Lf.sh J4)) (Tvs.cons (Tv.one (Lf.sh J4)) Tvs.nil)), (Rt.v (Tv.one Lf.bool)), fun n a => laws_eqRowS n a.1 a.2.1⟩
def S_laws_eqRowS_L1 := Sh.of (Sl.one (Lf.sh J4) (Sl.one (Lf.sh J4) (Sl.gap 3 (Sl.one (Lf.int .i64) (Sl.gap 21 Sl.nil))))) Rw.nil Ls.nil
def T_laws_eqRowS (n : Nat) : Tab Bool := [([.b, .r, .l, .r, .r], row1 S_laws_eqRowS_L1 fun j a => laws_eqRowS_L1 n j a.1.1 a.1.2.1 a.1.2.2.1)]
def F_laws_eqRows : Fn' (Y6 × (Y6 × Unit)) Bool := ⟨129, (Tvs.cons (Tv.agg (Ls.one (Lf.sh J4))) (Tvs.cons (Tv.agg (Ls.one (Lf.sh J4))) Tvs.nil)), (Rt.v (Tv.one Lf.bool)), fun n a => laws_eqRows n a.1 a.2.1⟩
def F_laws_eqRowsS : Fn' (Y10 × Y12) Bool := ⟨59, (Tvs.cons (Tv.one (Lf.sh J5)) (Tvs.cons (Tv.one (Lf.sh J5)) Tvs.nil)), (Rt.v (Tv.one Lf.bool)), fun n a => laws_eqRowsS n a.1 a.2.1⟩
def S_laws_eqRowsS_L1 := Sh.of (Sl.one (Lf.sh J5) (Sl.one (Lf.sh J5) (Sl.gap 3 (Sl.one (Lf.int .i64) (Sl.gap 21 Sl.nil))))) Rw.nil Ls.nil
def T_laws_eqRowsS (n : Nat) : Tab Bool := [([.b, .r, .l, .r, .r], row1 S_laws_eqRowsS_L1 fun j a => laws_eqRowsS_L1 n j a.1.1 a.1.2.1 a.1.2.2.1)]
def F_laws_eqDb : Fn' (Y27 × (Y27 × Unit)) Bool := ⟨17, (Tvs.cons Q11 Q24), (Rt.v (Tv.one Lf.bool)), fun n a => laws_eqDb n a.1.1 a.1.2 a.2.1.1 a.2.1.2⟩
def F_laws_eqDdl : Fn' (Y26 × (Y26 × Unit)) Bool := ⟨62, (Tvs.cons Q49 Q53), (Rt.v (Tv.one Lf.bool)), fun n a => laws_eqDdl n a.1.1 a.1.2.1 a.1.2.2.1 a.1.2.2.2.1 a.1.2.2.2.2.1 a.1.2.2.2.2.2 a.2.1.1 a.2.1.2.1 a.2.1.2.2.1 a.2.1.2.2.2.1 a.2.1.2.2.2.2.1 a.2.1.2.2.2.2.2⟩
def F_laws_eqStmt : Fn' (Y31 × (Y31 × Unit)) Bool := ⟨18, (Tvs.cons Q63 Q64), (Rt.v (Tv.one Lf.bool)), fun n a => laws_eqStmt n a.1.1 a.1.2.1 a.1.2.2.1 a.1.2.2.2.1 a.1.2.2.2.2.1 a.1.2.2.2.2.2.1 a.1.2.2.2.2.2.2.1 a.1.2.2.2.2.2.2.2.1 a.1.2.2.2.2.2.2.2.2.1 a.1.2.2.2.2.2.2.2.2.2 a.2.1.1 a.2.1.2.1 a.2.1.2.2.1 a.2.1.2.2.2.1 a.2.1.2.2.2.2.1 a.2.1.2.2.2.2.2.1 a.2.1.2.2.2.2.2.2.1 a.2.1.2.2.2.2.2.2.2.1 a.2.1.2.2.2.2.2.2.2.2.1 a.2.1.2.2.2.2.2.2.2.2.2⟩
def F_laws_eqStmtS : Fn' (Y33 × (Y33 × Unit)) Bool := ⟨26, (Tvs.cons (Tv.one (Lf.sh J22)) (Tvs.cons (Tv.one (Lf.sh J22)) Tvs.nil)), (Rt.v (Tv.one Lf.bool)), fun n a => laws_eqStmtS n a.1 a.2.1⟩
def S_laws_eqStmtS_L1 := Sh.of (Sl.one (Lf.sh J22) (Sl.one (Lf.sh J22) (Sl.gap 3 (Sl.one (Lf.int .i64) (Sl.gap 21 Sl.nil))))) Rw.nil Ls.nil
def T_laws_eqStmtS (n : Nat) : Tab Bool := [([.b, .r, .l, .r, .r], row1 S_laws_eqStmtS_L1 fun j a => laws_eqStmtS_L1 n j a.1.1 a.1.2.1 a.1.2.2.1)]
def F_laws_markText : Fn' (Int × Unit) ByteArray := ⟨71, Q3, (Rt.v (Tv.one Lf.str)), fun n a => laws_markText n a.1⟩
def S_laws_markText_L1 := Sh.of (Sl.one (Lf.int .i64) (Sl.gap 2 (Sl.one Lf.str (Sl.gap 16 Sl.nil)))) Rw.nil Ls.nil
def T_laws_markText (n : Nat) : Tab ByteArray := [([.b, .l, .r, .r, .r], row1 S_laws_markText_L1 fun j a => laws_markText_L1 n j a.1.1 a.1.2.1)]
def F_laws_markColS_o : Fn' (Y16 × (Int × Unit)) (Int × (Y16 × Unit)) := ⟨72, (Tvs.cons (Tv.one (Lf.od J10)) Q3), (Rt.tup (Tvs.cons (Tv.one (Lf.int .i64)) (Tvs.cons (Tv.one (Lf.od J10)) Tvs.nil))), fun n a => laws_markColS_o n a.1 a.2.1⟩
def S_laws_markColS_o_L1 := Sh.of (Sl.k (Kf.ow 40) (Sl.one (Lf.int .i64) (Sl.gap 3 (Sl.one (Lf.int .i64) (Sl.gap 65 Sl.nil))))) (Rw.data 40 J10 Rw.nil) (Ls.k (Kf.ow 40) Ls.nil)
def T_laws_markColS_o (n : Nat) : Tab (Int × (Y16 × Unit)) := [([.b, .r, .l, .r], row1 S_laws_markColS_o_L1 fun j a => laws_markColS_o_L1 n j a.1.1 a.1.2.1 a.2.1)]
def F_laws_markStringS_o : Fn' Z2 (Int × Z1) := ⟨73, (Tvs.cons (Tv.one (Lf.od .str)) Q3), (Rt.tup (Tvs.cons (Tv.one (Lf.int .i64)) (Tvs.cons (Tv.one (Lf.od .str)) Tvs.nil))), fun n a => laws_markStringS_o n a.1 a.2.1⟩
def S_laws_markStringS_o_L1 := Sh.of (Sl.k (Kf.ow 40) (Sl.one (Lf.int .i64) (Sl.gap 3 (Sl.one (Lf.int .i64) (Sl.gap 14 Sl.nil))))) (Rw.data 40 .str Rw.nil) (Ls.k (Kf.ow 40) Ls.nil)
def T_laws_markStringS_o (n : Nat) : Tab (Int × Z1) := [([.b, .r, .l, .r], row1 S_laws_markStringS_o_L1 fun j a => laws_markStringS_o_L1 n j a.1.1 a.1.2.1 a.2.1)]
def F_laws_markTableS_o : Fn' Y23 Y24 := ⟨133, (Tvs.cons (Tv.one (Lf.od J13)) Q3), (Rt.tup Q30), fun n a => laws_markTableS_o n a.1 a.2.1⟩
def S_laws_markTableS_o_L1 := Sh.of (Sl.k (Kf.ow 40) (Sl.one (Lf.int .i64) (Sl.gap 3 (Sl.one (Lf.int .i64) (Sl.gap 29 Sl.nil))))) (Rw.data 40 J13 Rw.nil) (Ls.k (Kf.ow 40) Ls.nil)
def T_laws_markTableS_o (n : Nat) : Tab Y24 := [([.b, .r, .l, .r], row1 S_laws_markTableS_o_L1 fun j a => laws_markTableS_o_L1 n j a.1.1 a.1.2.1 a.2.1)]
def F_laws_markCat_o : Fn' Y23 Y24 := ⟨63, (Tvs.cons (Tv.agg (Ls.one (Lf.od J13))) Q3), (Rt.tup Q30), fun n a => laws_markCat_o n a.1 a.2.1⟩
def F_laws_markValS_o : Fn' (Y3 × (Int × Unit)) (Int × (Y3 × Unit)) := ⟨65, (Tvs.cons (Tv.one (Lf.od J3)) Q3), (Rt.tup (Tvs.cons (Tv.one (Lf.int .i64)) (Tvs.cons (Tv.one (Lf.od J3)) Tvs.nil))), fun n a => laws_markValS_o n a.1 a.2.1⟩
def S_laws_markValS_o_L1 := Sh.of (Sl.k (Kf.ow 40) (Sl.one (Lf.int .i64) (Sl.gap 3 (Sl.one (Lf.int .i64) (Sl.gap 29 Sl.nil))))) (Rw.data 40 J3 Rw.nil) (Ls.k (Kf.ow 40) Ls.nil)
def T_laws_markValS_o (n : Nat) : Tab (Int × (Y3 × Unit)) := [([.b, .r, .l, .r], row1 S_laws_markValS_o_L1 fun j a => laws_markValS_o_L1 n j a.1.1 a.1.2.1 a.2.1)]
def F_laws_markRowS_o : Fn' Y13 (Int × (Y6 × Unit)) := ⟨134, Q29, (Rt.tup (Tvs.cons (Tv.one (Lf.int .i64)) (Tvs.cons (Tv.one (Lf.od J4)) Tvs.nil))), fun n a => laws_markRowS_o n a.1 a.2.1⟩
def S_laws_markRowS_o_L1 := Sh.of (Sl.k (Kf.ow 40) (Sl.one (Lf.int .i64) (Sl.gap 3 (Sl.one (Lf.int .i64) (Sl.gap 14 Sl.nil))))) (Rw.data 40 J4 Rw.nil) (Ls.k (Kf.ow 40) Ls.nil)
def T_laws_markRowS_o (n : Nat) : Tab (Int × (Y6 × Unit)) := [([.b, .r, .l, .r], row1 S_laws_markRowS_o_L1 fun j a => laws_markRowS_o_L1 n j a.1.1 a.1.2.1 a.2.1)]
def F_laws_markRowsS_o : Fn' (Y10 × (Int × Unit)) (Int × Y12) := ⟨64, (Tvs.cons (Tv.one (Lf.od J5)) Q3), (Rt.tup (Tvs.cons (Tv.one (Lf.int .i64)) (Tvs.cons (Tv.one (Lf.od J5)) Tvs.nil))), fun n a => laws_markRowsS_o n a.1 a.2.1⟩
def S_laws_markRowsS_o_L1 := Sh.of (Sl.k (Kf.ow 40) (Sl.one (Lf.int .i64) (Sl.gap 3 (Sl.one (Lf.int .i64) (Sl.gap 14 Sl.nil))))) (Rw.data 40 J5 Rw.nil) (Ls.k (Kf.ow 40) Ls.nil)
def T_laws_markRowsS_o (n : Nat) : Tab (Int × Y12) := [([.b, .r, .l, .r], row1 S_laws_markRowsS_o_L1 fun j a => laws_markRowsS_o_L1 n j a.1.1 a.1.2.1 a.2.1)]
def F_laws_markDb_o_o : Fn' (Y27 × (Int × Unit)) (Int × (Y20 × Y12)) := ⟨19, Q45, (Rt.tup (Tvs.cons (Tv.one (Lf.int .i64)) (Tvs.cons (Tv.one (Lf.od J13)) (Tvs.cons (Tv.one (Lf.od J5)) Tvs.nil)))), fun n a => laws_markDb_o_o n a.1.1 a.1.2 a.2.1⟩
def F_laws_markStmtS_o : Fn' (Y33 × (Int × Unit)) (Int × (Y33 × Unit)) := ⟨27, (Tvs.cons (Tv.one (Lf.od J22)) Q3), (Rt.tup (Tvs.cons (Tv.one (Lf.int .i64)) (Tvs.cons (Tv.one (Lf.od J22)) Tvs.nil))), fun n a => laws_markStmtS_o n a.1 a.2.1⟩
def S_laws_markStmtS_o_L1 := Sh.of (Sl.k (Kf.ow 40) (Sl.one (Lf.int .i64) (Sl.gap 3 (Sl.one (Lf.int .i64) (Sl.gap 88 Sl.nil))))) (Rw.data 40 J22 Rw.nil) (Ls.k (Kf.ow 40) Ls.nil)
def T_laws_markStmtS_o (n : Nat) : Tab (Int × (Y33 × Unit)) := [([.b, .r, .l, .r], row1 S_laws_markStmtS_o_L1 fun j a => laws_markStmtS_o_L1 n j a.1.1 a.1.2.1 a.2.1)]
def F_laws_heldColS : Fn' (Y16 × (Int × Unit)) Int := ⟨216, (Tvs.cons (Tv.one (Lf.sh J10)) Q3), (Rt.v (Tv.one (Lf.int .i64))), fun n a => laws_heldColS n a.1 a.2.1⟩
def S_laws_heldColS_L1 := Sh.of (Sl.one (Lf.sh J10) (Sl.one (Lf.int .i64) (Sl.gap 3 (Sl.one (Lf.int .i64) (Sl.gap 79 Sl.nil))))) Rw.nil Ls.nil
def T_laws_heldColS (n : Nat) : Tab Int := [([.b, .r, .l, .r], row1 S_laws_heldColS_L1 fun j a => laws_heldColS_L1 n j a.1.1 a.1.2.1 a.1.2.2.1)]
def F_laws_heldStringS : Fn' Z2 Int := ⟨217, (Tvs.cons (Tv.one (Lf.sh .str)) Q3), (Rt.v (Tv.one (Lf.int .i64))), fun n a => laws_heldStringS n a.1 a.2.1⟩
def S_laws_heldStringS_L1 := Sh.of (Sl.one (Lf.sh .str) (Sl.one (Lf.int .i64) (Sl.gap 3 (Sl.one (Lf.int .i64) (Sl.gap 16 Sl.nil))))) Rw.nil Ls.nil
def T_laws_heldStringS (n : Nat) : Tab Int := [([.b, .r, .l, .r], row1 S_laws_heldStringS_L1 fun j a => laws_heldStringS_L1 n j a.1.1 a.1.2.1 a.1.2.2.1)]
def F_laws_heldTableS : Fn' Y23 Int := ⟨135, (Tvs.cons (Tv.one (Lf.sh J13)) Q3), (Rt.v (Tv.one (Lf.int .i64))), fun n a => laws_heldTableS n a.1 a.2.1⟩
def S_laws_heldTableS_L1 := Sh.of (Sl.one (Lf.sh J13) (Sl.one (Lf.int .i64) (Sl.gap 3 (Sl.one (Lf.int .i64) (Sl.gap 35 Sl.nil))))) Rw.nil Ls.nil
def T_laws_heldTableS (n : Nat) : Tab Int := [([.b, .r, .l, .r], row1 S_laws_heldTableS_L1 fun j a => laws_heldTableS_L1 n j a.1.1 a.1.2.1 a.1.2.2.1)]
def F_laws_heldCat : Fn' Y23 Int := ⟨68, Q37, (Rt.v (Tv.one (Lf.int .i64))), fun n a => laws_heldCat n a.1 a.2.1⟩
def F_laws_heldValS : Fn' (Y3 × (Int × Unit)) Int := ⟨218, (Tvs.cons (Tv.one (Lf.sh J3)) Q3), (Rt.v (Tv.one (Lf.int .i64))), fun n a => laws_heldValS n a.1 a.2.1⟩
def S_laws_heldValS_L1 := Sh.of (Sl.one (Lf.sh J3) (Sl.one (Lf.int .i64) (Sl.gap 3 (Sl.one (Lf.int .i64) (Sl.gap 35 Sl.nil))))) Rw.nil Ls.nil
def T_laws_heldValS (n : Nat) : Tab Int := [([.b, .r, .l, .r], row1 S_laws_heldValS_L1 fun j a => laws_heldValS_L1 n j a.1.1 a.1.2.1 a.1.2.2.1)]
def F_laws_heldRowS : Fn' Y13 Int := ⟨136, Q28, (Rt.v (Tv.one (Lf.int .i64))), fun n a => laws_heldRowS n a.1 a.2.1⟩
def S_laws_heldRowS_L1 := Sh.of (Sl.one (Lf.sh J4) (Sl.one (Lf.int .i64) (Sl.gap 3 (Sl.one (Lf.int .i64) (Sl.gap 16 Sl.nil))))) Rw.nil Ls.nil
def T_laws_heldRowS (n : Nat) : Tab Int := [([.b, .r, .l, .r], row1 S_laws_heldRowS_L1 fun j a => laws_heldRowS_L1 n j a.1.1 a.1.2.1 a.1.2.2.1)]
def F_laws_heldRowsS : Fn' (Y10 × (Int × Unit)) Int := ⟨69, (Tvs.cons (Tv.one (Lf.sh J5)) Q3), (Rt.v (Tv.one (Lf.int .i64))), fun n a => laws_heldRowsS n a.1 a.2.1⟩
def S_laws_heldRowsS_L1 := Sh.of (Sl.one (Lf.sh J5) (Sl.one (Lf.int .i64) (Sl.gap 3 (Sl.one (Lf.int .i64) (Sl.gap 16 Sl.nil))))) Rw.nil Ls.nil
def T_laws_heldRowsS (n : Nat) : Tab Int := [([.b, .r, .l, .r], row1 S_laws_heldRowsS_L1 fun j a => laws_heldRowsS_L1 n j a.1.1 a.1.2.1 a.1.2.2.1)]
def F_laws_heldDb : Fn' (Y27 × (Int × Unit)) Int := ⟨21, Q44, (Rt.v (Tv.one (Lf.int .i64))), fun n a => laws_heldDb n a.1.1 a.1.2 a.2.1⟩
def F_laws_FnExactExecAll : Fn' (Y27 × (Y33 × Unit)) Bool := ⟨5, (Tvs.cons Q11 (Tvs.cons (Tv.one (Lf.sh J22)) Tvs.nil)), (Rt.v (Tv.one Lf.bool)), fun n a => laws_FnExactExecAll n a.1.1 a.1.2 a.2.1⟩
def ents : List Ent := [entOf F_laws_szVal, entOf F_laws_szCol, entOf F_laws_szColS, entOf F_laws_szStringS, entOf F_laws_szTable, entOf F_laws_szTableS, entOf F_laws_szCat, entOf F_laws_szValS, entOf F_laws_szRow, entOf F_laws_szRowS, entOf F_laws_szRows, entOf F_laws_szRowsS, entOf F_laws_szDb, entOf F_laws_szDdl, entOf F_laws_szStmt, entOf F_laws_szStmtS, entOf F_laws_toVal, entOf F_laws_toCol, entOf F_laws_toColS, entOf F_laws_toStringS, entOf F_laws_toTable, entOf F_laws_toTableS, entOf F_laws_toCat, entOf F_laws_toValS, entOf F_laws_toRow, entOf F_laws_toRowS, entOf F_laws_toRows, entOf F_laws_toRowsS, entOf F_laws_toDb, entOf F_laws_toDdl, entOf F_laws_toStmt, entOf F_laws_toStmtS, entOf F_spec_WordOk, entOf F_spec_l01Num, entOf F_spec_ValOk, entOf F_spec_ColOk, entOf F_spec_ColAt, entOf F_spec_TableOk, entOf F_spec_CatOk, entOf F_spec_l03Fits, entOf F_spec_RowOk, entOf F_spec_l03Key, entOf F_spec_ValLess, entOf F_spec_KeyLess, entOf F_spec_RowsOk, entOf F_spec_DbOk, entOf F_spec_l02Table, entOf F_spec_l02Copy, entOf F_spec_l03Row, entOf F_spec_l03Copy, entOf F_spec_l04Copy, entOf F_spec_l04Vals, entOf F_spec_l04NoDdl, entOf F_spec_DdlOk, entOf F_spec_StmtOk, entOf F_spec_l02At, entOf F_spec_l02Put, entOf F_spec_l02Has, entOf F_spec_l02Fault, entOf F_spec_l02Change, entOf F_spec_DdlApply, entOf F_spec_l03SameVals, entOf F_spec_RowAt, entOf F_spec_l03Lay, entOf F_spec_RowPut, entOf F_spec_KeyOk, entOf F_spec_l03Without, entOf F_spec_RowSet, entOf F_spec_RowOut, entOf F_spec_RowsDdl, entOf F_spec_l04Rows, entOf F_spec_l04Change, entOf F_spec_Exec, entOf F_spec_ExecAll, entOf F_impl_within, entOf F_impl_WordOk, entOf F_impl_ValOk, entOf F_impl_ColOk, entOf F_impl_ColAt_1, entOf F_slices_IndexFunc_impl_Col_impl_Col__impl_ColAt_1, entOf F_impl_ColAt, entOf F_impl_TableOk, entOf F_impl_CatOk, entOf F_impl_stands, entOf F_impl_rowOk, entOf F_impl_keyOf, entOf F_impl_ValLess, entOf F_impl_KeyLess, entOf F_impl_RowsOk, entOf F_impl_DbOk, entOf F_impl_copyTexts, entOf F_impl_copyTable, entOf F_impl_copyCat, entOf F_impl_copyVals, entOf F_impl_copyRows, entOf F_impl_copyDb, entOf F_impl_Ddl_made, entOf F_slices_Equal_impl_Col_impl_Col, entOf F_slices_Equal_string_string, entOf F_impl_equalDdl, entOf F_impl_DdlOk, entOf F_impl_areVals_1, entOf F_slices_IndexFunc_impl_Val_impl_Val__impl_areVals_1, entOf F_slices_ContainsFunc_impl_Val_impl_Val__impl_areVals_1, entOf F_impl_areVals, entOf F_impl_StmtOk, entOf F_impl_Cat_at_1, entOf F_slices_IndexFunc_impl_Table_impl_Table__impl_Cat_at_1, entOf F_impl_Cat_at, entOf F_slices_Index_string_string, entOf F_slices_Contains_string_string, entOf F_impl_ddlCode, entOf F_slices_Insert_impl_Table_impl_Table, entOf F_slices_Delete_impl_Table_impl_Table, entOf F_impl_DdlApply_1, entOf F_slices_IndexFunc_impl_Col_impl_Col__impl_DdlApply_1, entOf F_slices_DeleteFunc_impl_Col_impl_Col_o__impl_DdlApply_1, entOf F_impl_DdlApply, entOf F_slices_Insert_impl_Rows_impl_Rows, entOf F_slices_Delete_impl_Rows_impl_Rows, entOf F_slices_Delete_impl_Val_impl_Val, entOf F_impl_RowsDdl, entOf F_impl_changed, entOf F_slices_Equal_impl_Val_impl_Val, entOf F_impl_rowAt_1, entOf F_slices_IndexFunc_impl_Row_impl_Row__impl_rowAt_1, entOf F_impl_rowAt, entOf F_slices_Insert_impl_Row_impl_Row, entOf F_impl_placed, entOf F_impl_RowPut, entOf F_impl_KeyOk, entOf F_slices_Delete_impl_Row_impl_Row, entOf F_impl_RowSet, entOf F_impl_RowOut, entOf F_impl_exec, entOf F_impl_ExecAll, entOf F_laws_eqVal, entOf F_laws_eqCol, entOf F_laws_eqColS, entOf F_laws_eqStringS, entOf F_laws_eqTable, entOf F_laws_eqTableS, entOf F_laws_eqCat, entOf F_laws_eqValS, entOf F_laws_eqRow, entOf F_laws_eqRowS, entOf F_laws_eqRows, entOf F_laws_eqRowsS, entOf F_laws_eqDb, entOf F_laws_eqDdl, entOf F_laws_eqStmt, entOf F_laws_eqStmtS, entOf F_laws_markText, entOf F_laws_markColS_o, entOf F_laws_markStringS_o, entOf F_laws_markTableS_o, entOf F_laws_markCat_o, entOf F_laws_markValS_o, entOf F_laws_markRowS_o, entOf F_laws_markRowsS_o, entOf F_laws_markDb_o_o, entOf F_laws_markStmtS_o, entOf F_laws_heldColS, entOf F_laws_heldStringS, entOf F_laws_heldTableS, entOf F_laws_heldCat, entOf F_laws_heldValS, entOf F_laws_heldRowS, entOf F_laws_heldRowsS, entOf F_laws_heldDb, entOf F_laws_FnExactExecAll]
def callC (n : Nat) : CF := chain ents n
abbrev EqB {A T : Type} (F : Fn' A T) (n : Nat) (W : Tab T) : Prop := ∀ a, evalBodyU env (callC n) n F.g W (F.args.to a) F.ret.un = F.run (n + 1) a
abbrev TbB {A T : Type} (F : Fn' A T) (n : Nat) (W : Tab T) : Prop := TabOk env (callC n) n F.g W F.ret.un
abbrev AllOk (n : Nat) : Prop := ∀ e ∈ ents, EntOk Tryz.prog env n e
set_option maxRecDepth 1000000 in
theorem calls_det (n : Nat) : CFdet (callC n) := chain_det (by
  simp only [ents, List.forall_mem_cons, List.not_mem_nil, false_implies, implies_true, and_true]
  exact ⟨entDet F_laws_szVal, entDet F_laws_szCol, entDet F_laws_szColS, entDet F_laws_szStringS, entDet F_laws_szTable, entDet F_laws_szTableS, entDet F_laws_szCat, entDet F_laws_szValS, entDet F_laws_szRow, entDet F_laws_szRowS, entDet F_laws_szRows, entDet F_laws_szRowsS, entDet F_laws_szDb, entDet F_laws_szDdl, entDet F_laws_szStmt, entDet F_laws_szStmtS, entDet F_laws_toVal, entDet F_laws_toCol, entDet F_laws_toColS, entDet F_laws_toStringS, entDet F_laws_toTable, entDet F_laws_toTableS, entDet F_laws_toCat, entDet F_laws_toValS, entDet F_laws_toRow, entDet F_laws_toRowS, entDet F_laws_toRows, entDet F_laws_toRowsS, entDet F_laws_toDb, entDet F_laws_toDdl, entDet F_laws_toStmt, entDet F_laws_toStmtS, entDet F_spec_WordOk, entDet F_spec_l01Num, entDet F_spec_ValOk, entDet F_spec_ColOk, entDet F_spec_ColAt, entDet F_spec_TableOk, entDet F_spec_CatOk, entDet F_spec_l03Fits, entDet F_spec_RowOk, entDet F_spec_l03Key, entDet F_spec_ValLess, entDet F_spec_KeyLess, entDet F_spec_RowsOk, entDet F_spec_DbOk, entDet F_spec_l02Table, entDet F_spec_l02Copy, entDet F_spec_l03Row, entDet F_spec_l03Copy, entDet F_spec_l04Copy, entDet F_spec_l04Vals, entDet F_spec_l04NoDdl, entDet F_spec_DdlOk, entDet F_spec_StmtOk, entDet F_spec_l02At, entDet F_spec_l02Put, entDet F_spec_l02Has, entDet F_spec_l02Fault, entDet F_spec_l02Change, entDet F_spec_DdlApply, entDet F_spec_l03SameVals, entDet F_spec_RowAt, entDet F_spec_l03Lay, entDet F_spec_RowPut, entDet F_spec_KeyOk, entDet F_spec_l03Without, entDet F_spec_RowSet, entDet F_spec_RowOut, entDet F_spec_RowsDdl, entDet F_spec_l04Rows, entDet F_spec_l04Change, entDet F_spec_Exec, entDet F_spec_ExecAll, entDet F_impl_within, entDet F_impl_WordOk, entDet F_impl_ValOk, entDet F_impl_ColOk, entDet F_impl_ColAt_1, entDet F_slices_IndexFunc_impl_Col_impl_Col__impl_ColAt_1, entDet F_impl_ColAt, entDet F_impl_TableOk, entDet F_impl_CatOk, entDet F_impl_stands, entDet F_impl_rowOk, entDet F_impl_keyOf, entDet F_impl_ValLess, entDet F_impl_KeyLess, entDet F_impl_RowsOk, entDet F_impl_DbOk, entDet F_impl_copyTexts, entDet F_impl_copyTable, entDet F_impl_copyCat, entDet F_impl_copyVals, entDet F_impl_copyRows, entDet F_impl_copyDb, entDet F_impl_Ddl_made, entDet F_slices_Equal_impl_Col_impl_Col, entDet F_slices_Equal_string_string, entDet F_impl_equalDdl, entDet F_impl_DdlOk, entDet F_impl_areVals_1, entDet F_slices_IndexFunc_impl_Val_impl_Val__impl_areVals_1, entDet F_slices_ContainsFunc_impl_Val_impl_Val__impl_areVals_1, entDet F_impl_areVals, entDet F_impl_StmtOk, entDet F_impl_Cat_at_1, entDet F_slices_IndexFunc_impl_Table_impl_Table__impl_Cat_at_1, entDet F_impl_Cat_at, entDet F_slices_Index_string_string, entDet F_slices_Contains_string_string, entDet F_impl_ddlCode, entDet F_slices_Insert_impl_Table_impl_Table, entDet F_slices_Delete_impl_Table_impl_Table, entDet F_impl_DdlApply_1, entDet F_slices_IndexFunc_impl_Col_impl_Col__impl_DdlApply_1, entDet F_slices_DeleteFunc_impl_Col_impl_Col_o__impl_DdlApply_1, entDet F_impl_DdlApply, entDet F_slices_Insert_impl_Rows_impl_Rows, entDet F_slices_Delete_impl_Rows_impl_Rows, entDet F_slices_Delete_impl_Val_impl_Val, entDet F_impl_RowsDdl, entDet F_impl_changed, entDet F_slices_Equal_impl_Val_impl_Val, entDet F_impl_rowAt_1, entDet F_slices_IndexFunc_impl_Row_impl_Row__impl_rowAt_1, entDet F_impl_rowAt, entDet F_slices_Insert_impl_Row_impl_Row, entDet F_impl_placed, entDet F_impl_RowPut, entDet F_impl_KeyOk, entDet F_slices_Delete_impl_Row_impl_Row, entDet F_impl_RowSet, entDet F_impl_RowOut, entDet F_impl_exec, entDet F_impl_ExecAll, entDet F_laws_eqVal, entDet F_laws_eqCol, entDet F_laws_eqColS, entDet F_laws_eqStringS, entDet F_laws_eqTable, entDet F_laws_eqTableS, entDet F_laws_eqCat, entDet F_laws_eqValS, entDet F_laws_eqRow, entDet F_laws_eqRowS, entDet F_laws_eqRows, entDet F_laws_eqRowsS, entDet F_laws_eqDb, entDet F_laws_eqDdl, entDet F_laws_eqStmt, entDet F_laws_eqStmtS, entDet F_laws_markText, entDet F_laws_markColS_o, entDet F_laws_markStringS_o, entDet F_laws_markTableS_o, entDet F_laws_markCat_o, entDet F_laws_markValS_o, entDet F_laws_markRowS_o, entDet F_laws_markRowsS_o, entDet F_laws_markDb_o_o, entDet F_laws_markStmtS_o, entDet F_laws_heldColS, entDet F_laws_heldStringS, entDet F_laws_heldTableS, entDet F_laws_heldCat, entDet F_laws_heldValS, entDet F_laws_heldRowS, entDet F_laws_heldRowsS, entDet F_laws_heldDb, entDet F_laws_FnExactExecAll⟩)
theorem st {n : Nat} {A T : Type} {F : Fn' A T} (W : Tab T) (h : AllOk n) (ht : TbB F n W) (he : EqB F n W) : FnOk Tryz.prog env F (n + 1) := fnOk_succ envOk eqsOk (chain_ok h) (calls_det n) ht he
theorem sv {n : Nat} {A T : Type} {F : Fn' A T} (W : Tab T) (h : AllOk n) (ht : TbB F n W) (he : EqB F n W) : EntOk Tryz.prog env (n + 1) (entOf F) := entOk_of (st W h ht he)
theorem sn {n : Nat} {A T : Type} {F : Fn' A T} (h : AllOk n) (he : EqB F n []) : EntOk Tryz.prog env (n + 1) (entOf F) := sv [] h tabOk_nil he
theorem s0 {A T : Type} {F : Fn' A T} (h : ∀ a, F.run 0 a = none) : EntOk Tryz.prog env 0 (entOf F) := entOk_of (fnOk_zero h)
theorem sx {n : Nat} {A T : Type} {F : Fn' A T} (h : FnOk Tryz.prog env F (n + 1)) : EntOk Tryz.prog env (n + 1) (entOf F) := entOk_of h
theorem t_laws_szVal (n : Nat) (h : AllOk n) : EntOk Tryz.prog env (n + 1) (entOf F_laws_szVal) := sn h fun a => by kernel_rfl
theorem t_laws_szCol (n : Nat) (h : AllOk n) : EntOk Tryz.prog env (n + 1) (entOf F_laws_szCol) := sn h fun a => by kernel_rfl
theorem t_laws_szColS (n : Nat) (h : AllOk n) : EntOk Tryz.prog env (n + 1) (entOf F_laws_szColS) := sv (T_laws_szColS n) h (tabOk (List.forall_mem_cons.mpr ⟨row1_ok (fun _ => rfl) (fun _ _ => by kernel_rfl), List.forall_mem_nil _⟩)) fun a => by kernel_rfl
theorem t_laws_szStringS (n : Nat) (h : AllOk n) : EntOk Tryz.prog env (n + 1) (entOf F_laws_szStringS) := sv (T_laws_szStringS n) h (tabOk (List.forall_mem_cons.mpr ⟨row1_ok (fun _ => rfl) (fun _ _ => by kernel_rfl), List.forall_mem_nil _⟩)) fun a => by kernel_rfl
theorem t_laws_szTable (n : Nat) (h : AllOk n) : EntOk Tryz.prog env (n + 1) (entOf F_laws_szTable) := sn h fun a => by kernel_rfl
theorem t_laws_szTableS (n : Nat) (h : AllOk n) : EntOk Tryz.prog env (n + 1) (entOf F_laws_szTableS) := sv (T_laws_szTableS n) h (tabOk (List.forall_mem_cons.mpr ⟨row1_ok (fun _ => rfl) (fun _ _ => by kernel_rfl), List.forall_mem_nil _⟩)) fun a => by kernel_rfl
theorem t_laws_szCat (n : Nat) (h : AllOk n) : EntOk Tryz.prog env (n + 1) (entOf F_laws_szCat) := sn h fun a => by kernel_rfl
theorem t_laws_szValS (n : Nat) (h : AllOk n) : EntOk Tryz.prog env (n + 1) (entOf F_laws_szValS) := sv (T_laws_szValS n) h (tabOk (List.forall_mem_cons.mpr ⟨row1_ok (fun _ => rfl) (fun _ _ => by kernel_rfl), List.forall_mem_nil _⟩)) fun a => by kernel_rfl
theorem t_laws_szRow (n : Nat) (h : AllOk n) : EntOk Tryz.prog env (n + 1) (entOf F_laws_szRow) := sn h fun a => by kernel_rfl
theorem t_laws_szRowS (n : Nat) (h : AllOk n) : EntOk Tryz.prog env (n + 1) (entOf F_laws_szRowS) := sv (T_laws_szRowS n) h (tabOk (List.forall_mem_cons.mpr ⟨row1_ok (fun _ => rfl) (fun _ _ => by kernel_rfl), List.forall_mem_nil _⟩)) fun a => by kernel_rfl
theorem t_laws_szRows (n : Nat) (h : AllOk n) : EntOk Tryz.prog env (n + 1) (entOf F_laws_szRows) := sn h fun a => by kernel_rfl
theorem t_laws_szRowsS (n : Nat) (h : AllOk n) : EntOk Tryz.prog env (n + 1) (entOf F_laws_szRowsS) := sv (T_laws_szRowsS n) h (tabOk (List.forall_mem_cons.mpr ⟨row1_ok (fun _ => rfl) (fun _ _ => by kernel_rfl), List.forall_mem_nil _⟩)) fun a => by kernel_rfl
theorem t_laws_szDb (n : Nat) (h : AllOk n) : EntOk Tryz.prog env (n + 1) (entOf F_laws_szDb) := sn h fun a => by kernel_rfl
theorem t_laws_szDdl (n : Nat) (h : AllOk n) : EntOk Tryz.prog env (n + 1) (entOf F_laws_szDdl) := sn h fun a => by kernel_rfl
theorem t_laws_szStmt (n : Nat) (h : AllOk n) : EntOk Tryz.prog env (n + 1) (entOf F_laws_szStmt) := sn h fun a => by kernel_rfl
theorem t_laws_szStmtS (n : Nat) (h : AllOk n) : EntOk Tryz.prog env (n + 1) (entOf F_laws_szStmtS) := sv (T_laws_szStmtS n) h (tabOk (List.forall_mem_cons.mpr ⟨row1_ok (fun _ => rfl) (fun _ _ => by kernel_rfl), List.forall_mem_nil _⟩)) fun a => by kernel_rfl
theorem t_laws_toVal (n : Nat) (h : AllOk n) : EntOk Tryz.prog env (n + 1) (entOf F_laws_toVal) := sn h fun a => by kernel_rfl
theorem t_laws_toCol (n : Nat) (h : AllOk n) : EntOk Tryz.prog env (n + 1) (entOf F_laws_toCol) := sn h fun a => by kernel_rfl
theorem t_laws_toColS (n : Nat) (h : AllOk n) : EntOk Tryz.prog env (n + 1) (entOf F_laws_toColS) := sv (T_laws_toColS n) h (tabOk (List.forall_mem_cons.mpr ⟨row1_ok (fun _ => rfl) (fun _ _ => by kernel_rfl), List.forall_mem_nil _⟩)) fun a => by kernel_rfl
theorem t_laws_toStringS (n : Nat) (h : AllOk n) : EntOk Tryz.prog env (n + 1) (entOf F_laws_toStringS) := sv (T_laws_toStringS n) h (tabOk (List.forall_mem_cons.mpr ⟨row1_ok (fun _ => rfl) (fun _ _ => by kernel_rfl), List.forall_mem_nil _⟩)) fun a => by kernel_rfl
theorem t_laws_toTable (n : Nat) (h : AllOk n) : EntOk Tryz.prog env (n + 1) (entOf F_laws_toTable) := sn h fun a => by kernel_rfl
theorem t_laws_toTableS (n : Nat) (h : AllOk n) : EntOk Tryz.prog env (n + 1) (entOf F_laws_toTableS) := sv (T_laws_toTableS n) h (tabOk (List.forall_mem_cons.mpr ⟨row1_ok (fun _ => rfl) (fun _ _ => by kernel_rfl), List.forall_mem_nil _⟩)) fun a => by kernel_rfl
theorem t_laws_toCat (n : Nat) (h : AllOk n) : EntOk Tryz.prog env (n + 1) (entOf F_laws_toCat) := sn h fun a => by kernel_rfl
theorem t_laws_toValS (n : Nat) (h : AllOk n) : EntOk Tryz.prog env (n + 1) (entOf F_laws_toValS) := sv (T_laws_toValS n) h (tabOk (List.forall_mem_cons.mpr ⟨row1_ok (fun _ => rfl) (fun _ _ => by kernel_rfl), List.forall_mem_nil _⟩)) fun a => by kernel_rfl
theorem t_laws_toRow (n : Nat) (h : AllOk n) : EntOk Tryz.prog env (n + 1) (entOf F_laws_toRow) := sn h fun a => by kernel_rfl
theorem t_laws_toRowS (n : Nat) (h : AllOk n) : EntOk Tryz.prog env (n + 1) (entOf F_laws_toRowS) := sv (T_laws_toRowS n) h (tabOk (List.forall_mem_cons.mpr ⟨row1_ok (fun _ => rfl) (fun _ _ => by kernel_rfl), List.forall_mem_nil _⟩)) fun a => by kernel_rfl
theorem t_laws_toRows (n : Nat) (h : AllOk n) : EntOk Tryz.prog env (n + 1) (entOf F_laws_toRows) := sn h fun a => by kernel_rfl
theorem t_laws_toRowsS (n : Nat) (h : AllOk n) : EntOk Tryz.prog env (n + 1) (entOf F_laws_toRowsS) := sv (T_laws_toRowsS n) h (tabOk (List.forall_mem_cons.mpr ⟨row1_ok (fun _ => rfl) (fun _ _ => by kernel_rfl), List.forall_mem_nil _⟩)) fun a => by kernel_rfl
theorem t_laws_toDb (n : Nat) (h : AllOk n) : EntOk Tryz.prog env (n + 1) (entOf F_laws_toDb) := sn h fun a => by kernel_rfl
theorem t_laws_toDdl (n : Nat) (h : AllOk n) : EntOk Tryz.prog env (n + 1) (entOf F_laws_toDdl) := sn h fun a => by kernel_rfl
theorem t_laws_toStmt (n : Nat) (h : AllOk n) : EntOk Tryz.prog env (n + 1) (entOf F_laws_toStmt) := sn h fun a => by kernel_rfl
theorem t_laws_toStmtS (n : Nat) (h : AllOk n) : EntOk Tryz.prog env (n + 1) (entOf F_laws_toStmtS) := sv (T_laws_toStmtS n) h (tabOk (List.forall_mem_cons.mpr ⟨row1_ok (fun _ => rfl) (fun _ _ => by kernel_rfl), List.forall_mem_nil _⟩)) fun a => by kernel_rfl
theorem t_spec_WordOk (n : Nat) (h : AllOk n) : EntOk Tryz.prog env (n + 1) (entOf F_spec_WordOk) := sv (T_spec_WordOk n) h (tabOk (List.forall_mem_cons.mpr ⟨row1_ok (fun _ => rfl) (fun _ _ => by kernel_rfl), List.forall_mem_nil _⟩)) fun a => by kernel_rfl
theorem t_spec_l01Num (n : Nat) (h : AllOk n) : EntOk Tryz.prog env (n + 1) (entOf F_spec_l01Num) := sn h fun a => by kernel_rfl
theorem t_spec_ValOk (n : Nat) (h : AllOk n) : EntOk Tryz.prog env (n + 1) (entOf F_spec_ValOk) := sn h fun a => by kernel_rfl
theorem t_spec_ColOk (n : Nat) (h : AllOk n) : EntOk Tryz.prog env (n + 1) (entOf F_spec_ColOk) := sn h fun a => by kernel_rfl
theorem t_spec_ColAt (n : Nat) (h : AllOk n) : EntOk Tryz.prog env (n + 1) (entOf F_spec_ColAt) := sv (T_spec_ColAt n) h (tabOk (List.forall_mem_cons.mpr ⟨row1_ok (fun _ => rfl) (fun _ _ => by kernel_rfl), List.forall_mem_nil _⟩)) fun a => by kernel_rfl
theorem t_spec_TableOk (n : Nat) (h : AllOk n) : EntOk Tryz.prog env (n + 1) (entOf F_spec_TableOk) := sv (T_spec_TableOk n) h (tabOk (List.forall_mem_cons.mpr ⟨row1_ok (fun _ => rfl) (fun _ _ => by kernel_rfl), List.forall_mem_cons.mpr ⟨row1_ok (fun _ => rfl) (fun _ _ => by kernel_rfl), List.forall_mem_nil _⟩⟩)) fun a => by kernel_rfl
theorem t_spec_CatOk (n : Nat) (h : AllOk n) : EntOk Tryz.prog env (n + 1) (entOf F_spec_CatOk) := sv (T_spec_CatOk n) h (tabOk (List.forall_mem_cons.mpr ⟨row1_ok (fun _ => rfl) (fun _ _ => by kernel_rfl), List.forall_mem_nil _⟩)) fun a => by kernel_rfl
theorem t_spec_l03Fits (n : Nat) (h : AllOk n) : EntOk Tryz.prog env (n + 1) (entOf F_spec_l03Fits) := sn h fun a => by kernel_rfl
theorem t_spec_RowOk (n : Nat) (h : AllOk n) : EntOk Tryz.prog env (n + 1) (entOf F_spec_RowOk) := sv (T_spec_RowOk n) h (tabOk (List.forall_mem_cons.mpr ⟨row1_ok (fun _ => rfl) (fun _ _ => by kernel_rfl), List.forall_mem_nil _⟩)) fun a => by kernel_rfl
theorem t_spec_l03Key (n : Nat) (h : AllOk n) : EntOk Tryz.prog env (n + 1) (entOf F_spec_l03Key) := sv (T_spec_l03Key n) h (tabOk (List.forall_mem_cons.mpr ⟨row1_ok (fun _ => rfl) (fun _ _ => by kernel_rfl), List.forall_mem_nil _⟩)) fun a => by kernel_rfl
theorem t_spec_ValLess (n : Nat) (h : AllOk n) : EntOk Tryz.prog env (n + 1) (entOf F_spec_ValLess) := sn h fun a => by kernel_rfl
theorem t_spec_KeyLess (n : Nat) (h : AllOk n) : EntOk Tryz.prog env (n + 1) (entOf F_spec_KeyLess) := sv (T_spec_KeyLess n) h (tabOk (List.forall_mem_cons.mpr ⟨row1_ok (fun _ => rfl) (fun _ _ => by kernel_rfl), List.forall_mem_nil _⟩)) fun a => by kernel_rfl
theorem t_spec_RowsOk (n : Nat) (h : AllOk n) : EntOk Tryz.prog env (n + 1) (entOf F_spec_RowsOk) := sv (T_spec_RowsOk n) h (tabOk (List.forall_mem_cons.mpr ⟨row1_ok (fun _ => rfl) (fun _ _ => by kernel_rfl), List.forall_mem_nil _⟩)) fun a => by kernel_rfl
theorem t_spec_DbOk (n : Nat) (h : AllOk n) : EntOk Tryz.prog env (n + 1) (entOf F_spec_DbOk) := sv (T_spec_DbOk n) h (tabOk (List.forall_mem_cons.mpr ⟨row1_ok (fun _ => rfl) (fun _ _ => by kernel_rfl), List.forall_mem_nil _⟩)) fun a => by kernel_rfl
theorem t_spec_l02Table (n : Nat) (h : AllOk n) : EntOk Tryz.prog env (n + 1) (entOf F_spec_l02Table) := sn h fun a => by kernel_rfl
theorem t_spec_l02Copy (n : Nat) (h : AllOk n) : EntOk Tryz.prog env (n + 1) (entOf F_spec_l02Copy) := sv (T_spec_l02Copy n) h (tabOk (List.forall_mem_cons.mpr ⟨row1_ok (fun _ => rfl) (fun _ _ => by kernel_rfl), List.forall_mem_nil _⟩)) fun a => by kernel_rfl
theorem t_spec_l03Row (n : Nat) (h : AllOk n) : EntOk Tryz.prog env (n + 1) (entOf F_spec_l03Row) := sn h fun a => by kernel_rfl
theorem t_spec_l03Copy (n : Nat) (h : AllOk n) : EntOk Tryz.prog env (n + 1) (entOf F_spec_l03Copy) := sv (T_spec_l03Copy n) h (tabOk (List.forall_mem_cons.mpr ⟨row1_ok (fun _ => rfl) (fun _ _ => by kernel_rfl), List.forall_mem_nil _⟩)) fun a => by kernel_rfl
theorem t_spec_l04Copy (n : Nat) (h : AllOk n) : EntOk Tryz.prog env (n + 1) (entOf F_spec_l04Copy) := sv (T_spec_l04Copy n) h (tabOk (List.forall_mem_cons.mpr ⟨row1_ok (fun _ => rfl) (fun _ _ => by kernel_rfl), List.forall_mem_nil _⟩)) fun a => by kernel_rfl
theorem t_spec_l04Vals (n : Nat) (h : AllOk n) : EntOk Tryz.prog env (n + 1) (entOf F_spec_l04Vals) := sv (T_spec_l04Vals n) h (tabOk (List.forall_mem_cons.mpr ⟨row1_ok (fun _ => rfl) (fun _ _ => by kernel_rfl), List.forall_mem_nil _⟩)) fun a => by kernel_rfl
theorem t_spec_l04NoDdl (n : Nat) (h : AllOk n) : EntOk Tryz.prog env (n + 1) (entOf F_spec_l04NoDdl) := sn h fun a => by kernel_rfl
theorem t_spec_DdlOk (n : Nat) (h : AllOk n) : EntOk Tryz.prog env (n + 1) (entOf F_spec_DdlOk) := sn h fun a => by kernel_rfl
theorem t_spec_StmtOk (n : Nat) (h : AllOk n) : EntOk Tryz.prog env (n + 1) (entOf F_spec_StmtOk) := sn h fun a => by kernel_rfl
theorem t_spec_l02At (n : Nat) (h : AllOk n) : EntOk Tryz.prog env (n + 1) (entOf F_spec_l02At) := sv (T_spec_l02At n) h (tabOk (List.forall_mem_cons.mpr ⟨row1_ok (fun _ => rfl) (fun _ _ => by kernel_rfl), List.forall_mem_nil _⟩)) fun a => by kernel_rfl
theorem t_spec_l02Put (n : Nat) (h : AllOk n) : EntOk Tryz.prog env (n + 1) (entOf F_spec_l02Put) := sv (T_spec_l02Put n) h (tabOk (List.forall_mem_cons.mpr ⟨row1_ok (fun _ => rfl) (fun _ _ => by kernel_rfl), List.forall_mem_nil _⟩)) fun a => by kernel_rfl
theorem t_spec_l02Has (n : Nat) (h : AllOk n) : EntOk Tryz.prog env (n + 1) (entOf F_spec_l02Has) := sv (T_spec_l02Has n) h (tabOk (List.forall_mem_cons.mpr ⟨row1_ok (fun _ => rfl) (fun _ _ => by kernel_rfl), List.forall_mem_nil _⟩)) fun a => by kernel_rfl
theorem t_spec_l02Fault (n : Nat) (h : AllOk n) : EntOk Tryz.prog env (n + 1) (entOf F_spec_l02Fault) := sn h fun a => by kernel_rfl
theorem t_spec_l02Change (n : Nat) (h : AllOk n) : EntOk Tryz.prog env (n + 1) (entOf F_spec_l02Change) := sv (T_spec_l02Change n) h (tabOk (List.forall_mem_cons.mpr ⟨row1_ok (fun _ => rfl) (fun _ _ => by kernel_rfl), List.forall_mem_cons.mpr ⟨row1_ok (fun _ => rfl) (fun _ _ => by kernel_rfl), List.forall_mem_nil _⟩⟩)) fun a => by kernel_rfl
theorem t_spec_DdlApply (n : Nat) (h : AllOk n) : EntOk Tryz.prog env (n + 1) (entOf F_spec_DdlApply) := sn h fun a => by kernel_rfl
theorem t_spec_l03SameVals (n : Nat) (h : AllOk n) : EntOk Tryz.prog env (n + 1) (entOf F_spec_l03SameVals) := sv (T_spec_l03SameVals n) h (tabOk (List.forall_mem_cons.mpr ⟨row1_ok (fun _ => rfl) (fun _ _ => by kernel_rfl), List.forall_mem_nil _⟩)) fun a => by kernel_rfl
theorem t_spec_RowAt (n : Nat) (h : AllOk n) : EntOk Tryz.prog env (n + 1) (entOf F_spec_RowAt) := sv (T_spec_RowAt n) h (tabOk (List.forall_mem_cons.mpr ⟨row1_ok (fun _ => rfl) (fun _ _ => by kernel_rfl), List.forall_mem_nil _⟩)) fun a => by kernel_rfl
theorem t_spec_l03Lay (n : Nat) (h : AllOk n) : EntOk Tryz.prog env (n + 1) (entOf F_spec_l03Lay) := sv (T_spec_l03Lay n) h (tabOk (List.forall_mem_cons.mpr ⟨row1_ok (fun _ => rfl) (fun _ _ => by kernel_rfl), List.forall_mem_nil _⟩)) fun a => by kernel_rfl
theorem t_spec_RowPut (n : Nat) (h : AllOk n) : EntOk Tryz.prog env (n + 1) (entOf F_spec_RowPut) := sn h fun a => by kernel_rfl
theorem t_spec_KeyOk (n : Nat) (h : AllOk n) : EntOk Tryz.prog env (n + 1) (entOf F_spec_KeyOk) := sv (T_spec_KeyOk n) h (tabOk (List.forall_mem_cons.mpr ⟨row1_ok (fun _ => rfl) (fun _ _ => by kernel_rfl), List.forall_mem_nil _⟩)) fun a => by kernel_rfl
theorem t_spec_l03Without (n : Nat) (h : AllOk n) : EntOk Tryz.prog env (n + 1) (entOf F_spec_l03Without) := sv (T_spec_l03Without n) h (tabOk (List.forall_mem_cons.mpr ⟨row1_ok (fun _ => rfl) (fun _ _ => by kernel_rfl), List.forall_mem_nil _⟩)) fun a => by kernel_rfl
theorem t_spec_RowSet (n : Nat) (h : AllOk n) : EntOk Tryz.prog env (n + 1) (entOf F_spec_RowSet) := sn h fun a => by kernel_rfl
theorem t_spec_RowOut (n : Nat) (h : AllOk n) : EntOk Tryz.prog env (n + 1) (entOf F_spec_RowOut) := sn h fun a => by kernel_rfl
theorem t_spec_RowsDdl (n : Nat) (h : AllOk n) : EntOk Tryz.prog env (n + 1) (entOf F_spec_RowsDdl) := sv (T_spec_RowsDdl n) h (tabOk (List.forall_mem_cons.mpr ⟨row2_ok (fun _ _ => rfl) (fun _ _ _ => by kernel_rfl), List.forall_mem_cons.mpr ⟨row1_ok (fun _ => rfl) (fun _ _ => by kernel_rfl), List.forall_mem_nil _⟩⟩)) fun a => by kernel_rfl
theorem t_spec_l04Rows (n : Nat) (h : AllOk n) : EntOk Tryz.prog env (n + 1) (entOf F_spec_l04Rows) := sn h fun a => by kernel_rfl
theorem t_spec_l04Change (n : Nat) (h : AllOk n) : EntOk Tryz.prog env (n + 1) (entOf F_spec_l04Change) := sv (T_spec_l04Change n) h (tabOk (List.forall_mem_cons.mpr ⟨row1_ok (fun _ => rfl) (fun _ _ => by kernel_rfl), List.forall_mem_nil _⟩)) fun a => by kernel_rfl
theorem t_spec_Exec (n : Nat) (h : AllOk n) : EntOk Tryz.prog env (n + 1) (entOf F_spec_Exec) := sn h fun a => by kernel_rfl
theorem t_spec_ExecAll (n : Nat) (h : AllOk n) : EntOk Tryz.prog env (n + 1) (entOf F_spec_ExecAll) := sv (T_spec_ExecAll n) h (tabOk (List.forall_mem_cons.mpr ⟨row1_ok (fun _ => rfl) (fun _ _ => by kernel_rfl), List.forall_mem_nil _⟩)) fun a => by kernel_rfl
theorem t_impl_within (n : Nat) (h : AllOk n) : EntOk Tryz.prog env (n + 1) (entOf F_impl_within) := sn h fun a => by kernel_rfl
theorem t_impl_WordOk (n : Nat) (h : AllOk n) : EntOk Tryz.prog env (n + 1) (entOf F_impl_WordOk) := sv (T_impl_WordOk n) h (tabOk (List.forall_mem_cons.mpr ⟨row1_ok (fun _ => rfl) (fun _ _ => by kernel_rfl), List.forall_mem_nil _⟩)) fun a => by kernel_rfl
theorem t_impl_ValOk (n : Nat) (h : AllOk n) : EntOk Tryz.prog env (n + 1) (entOf F_impl_ValOk) := sn h fun a => by kernel_rfl
theorem t_impl_ColOk (n : Nat) (h : AllOk n) : EntOk Tryz.prog env (n + 1) (entOf F_impl_ColOk) := sn h fun a => by kernel_rfl
theorem t_impl_ColAt_1 (n : Nat) (h : AllOk n) : EntOk Tryz.prog env (n + 1) (entOf F_impl_ColAt_1) := sn h fun a => by kernel_rfl
theorem t_slices_IndexFunc_impl_Col_impl_Col__impl_ColAt_1 (n : Nat) (h : AllOk n) : EntOk Tryz.prog env (n + 1) (entOf F_slices_IndexFunc_impl_Col_impl_Col__impl_ColAt_1) := sv (T_slices_IndexFunc_impl_Col_impl_Col__impl_ColAt_1 n) h (tabOk (List.forall_mem_cons.mpr ⟨row1_ok (fun _ => rfl) (fun _ _ => by kernel_rfl), List.forall_mem_nil _⟩)) fun a => by kernel_rfl
theorem t_impl_ColAt (n : Nat) (h : AllOk n) : EntOk Tryz.prog env (n + 1) (entOf F_impl_ColAt) := sn h fun a => by kernel_rfl
theorem t_impl_TableOk (n : Nat) (h : AllOk n) : EntOk Tryz.prog env (n + 1) (entOf F_impl_TableOk) := sv (T_impl_TableOk n) h (tabOk (List.forall_mem_cons.mpr ⟨row1_ok (fun _ => rfl) (fun _ _ => by kernel_rfl), List.forall_mem_cons.mpr ⟨row1_ok (fun _ => rfl) (fun _ _ => by kernel_rfl), List.forall_mem_nil _⟩⟩)) fun a => by kernel_rfl
theorem t_impl_CatOk (n : Nat) (h : AllOk n) : EntOk Tryz.prog env (n + 1) (entOf F_impl_CatOk) := sv (T_impl_CatOk n) h (tabOk (List.forall_mem_cons.mpr ⟨row1_ok (fun _ => rfl) (fun _ _ => by kernel_rfl), List.forall_mem_nil _⟩)) fun a => by kernel_rfl
theorem t_impl_stands (n : Nat) (h : AllOk n) : EntOk Tryz.prog env (n + 1) (entOf F_impl_stands) := sn h fun a => by kernel_rfl
theorem t_impl_rowOk (n : Nat) (h : AllOk n) : EntOk Tryz.prog env (n + 1) (entOf F_impl_rowOk) := sv (T_impl_rowOk n) h (tabOk (List.forall_mem_cons.mpr ⟨row1_ok (fun _ => rfl) (fun _ _ => by kernel_rfl), List.forall_mem_nil _⟩)) fun a => by kernel_rfl
theorem t_impl_keyOf (n : Nat) (h : AllOk n) : EntOk Tryz.prog env (n + 1) (entOf F_impl_keyOf) := sv (T_impl_keyOf n) h (tabOk (List.forall_mem_cons.mpr ⟨row1_ok (fun _ => rfl) (fun _ _ => by kernel_rfl), List.forall_mem_nil _⟩)) fun a => by kernel_rfl
theorem t_impl_ValLess (n : Nat) (h : AllOk n) : EntOk Tryz.prog env (n + 1) (entOf F_impl_ValLess) := sn h fun a => by kernel_rfl
theorem t_impl_KeyLess (n : Nat) (h : AllOk n) : EntOk Tryz.prog env (n + 1) (entOf F_impl_KeyLess) := sv (T_impl_KeyLess n) h (tabOk (List.forall_mem_cons.mpr ⟨row1_ok (fun _ => rfl) (fun _ _ => by kernel_rfl), List.forall_mem_nil _⟩)) fun a => by kernel_rfl
theorem t_impl_RowsOk (n : Nat) (h : AllOk n) : EntOk Tryz.prog env (n + 1) (entOf F_impl_RowsOk) := sv (T_impl_RowsOk n) h (tabOk (List.forall_mem_cons.mpr ⟨row1_ok (fun _ => rfl) (fun _ _ => by kernel_rfl), List.forall_mem_nil _⟩)) fun a => by kernel_rfl
theorem t_impl_DbOk (n : Nat) (h : AllOk n) : EntOk Tryz.prog env (n + 1) (entOf F_impl_DbOk) := sv (T_impl_DbOk n) h (tabOk (List.forall_mem_cons.mpr ⟨row1_ok (fun _ => rfl) (fun _ _ => by kernel_rfl), List.forall_mem_nil _⟩)) fun a => by kernel_rfl
theorem t_impl_copyTexts (n : Nat) (h : AllOk n) : EntOk Tryz.prog env (n + 1) (entOf F_impl_copyTexts) := sn h fun a => by kernel_rfl
theorem t_impl_copyTable (n : Nat) (h : AllOk n) : EntOk Tryz.prog env (n + 1) (entOf F_impl_copyTable) := sn h fun a => by kernel_rfl
theorem t_impl_copyCat (n : Nat) (h : AllOk n) : EntOk Tryz.prog env (n + 1) (entOf F_impl_copyCat) := sv (T_impl_copyCat n) h (tabOk (List.forall_mem_cons.mpr ⟨row1_ok (fun _ => rfl) (fun _ _ => by kernel_rfl), List.forall_mem_nil _⟩)) fun a => by kernel_rfl
theorem t_impl_copyVals (n : Nat) (h : AllOk n) : EntOk Tryz.prog env (n + 1) (entOf F_impl_copyVals) := sn h fun a => by kernel_rfl
theorem t_impl_copyRows (n : Nat) (h : AllOk n) : EntOk Tryz.prog env (n + 1) (entOf F_impl_copyRows) := sv (T_impl_copyRows n) h (tabOk (List.forall_mem_cons.mpr ⟨row1_ok (fun _ => rfl) (fun _ _ => by kernel_rfl), List.forall_mem_nil _⟩)) fun a => by kernel_rfl
theorem t_impl_copyDb (n : Nat) (h : AllOk n) : EntOk Tryz.prog env (n + 1) (entOf F_impl_copyDb) := sv (T_impl_copyDb n) h (tabOk (List.forall_mem_cons.mpr ⟨row1_ok (fun _ => rfl) (fun _ _ => by kernel_rfl), List.forall_mem_nil _⟩)) fun a => by kernel_rfl
theorem t_impl_Ddl_made (n : Nat) (h : AllOk n) : EntOk Tryz.prog env (n + 1) (entOf F_impl_Ddl_made) := sn h fun a => by kernel_rfl
theorem t_slices_Equal_impl_Col_impl_Col (n : Nat) (h : AllOk n) : EntOk Tryz.prog env (n + 1) (entOf F_slices_Equal_impl_Col_impl_Col) := sv (T_slices_Equal_impl_Col_impl_Col n) h (tabOk (List.forall_mem_cons.mpr ⟨row1_ok (fun _ => rfl) (fun _ _ => by kernel_rfl), List.forall_mem_nil _⟩)) fun a => by kernel_rfl
theorem t_slices_Equal_string_string (n : Nat) (h : AllOk n) : EntOk Tryz.prog env (n + 1) (entOf F_slices_Equal_string_string) := sv (T_slices_Equal_string_string n) h (tabOk (List.forall_mem_cons.mpr ⟨row1_ok (fun _ => rfl) (fun _ _ => by kernel_rfl), List.forall_mem_nil _⟩)) fun a => by kernel_rfl
theorem t_impl_equalDdl (n : Nat) (h : AllOk n) : EntOk Tryz.prog env (n + 1) (entOf F_impl_equalDdl) := sn h fun a => by kernel_rfl
theorem t_impl_DdlOk (n : Nat) (h : AllOk n) : EntOk Tryz.prog env (n + 1) (entOf F_impl_DdlOk) := sn h fun a => by kernel_rfl
theorem t_impl_areVals_1 (n : Nat) (h : AllOk n) : EntOk Tryz.prog env (n + 1) (entOf F_impl_areVals_1) := sn h fun a => by kernel_rfl
theorem t_slices_IndexFunc_impl_Val_impl_Val__impl_areVals_1 (n : Nat) (h : AllOk n) : EntOk Tryz.prog env (n + 1) (entOf F_slices_IndexFunc_impl_Val_impl_Val__impl_areVals_1) := sv (T_slices_IndexFunc_impl_Val_impl_Val__impl_areVals_1 n) h (tabOk (List.forall_mem_cons.mpr ⟨row1_ok (fun _ => rfl) (fun _ _ => by kernel_rfl), List.forall_mem_nil _⟩)) fun a => by kernel_rfl
theorem t_slices_ContainsFunc_impl_Val_impl_Val__impl_areVals_1 (n : Nat) (h : AllOk n) : EntOk Tryz.prog env (n + 1) (entOf F_slices_ContainsFunc_impl_Val_impl_Val__impl_areVals_1) := sn h fun a => by kernel_rfl
theorem t_impl_areVals (n : Nat) (h : AllOk n) : EntOk Tryz.prog env (n + 1) (entOf F_impl_areVals) := sn h fun a => by kernel_rfl
theorem t_impl_StmtOk (n : Nat) (h : AllOk n) : EntOk Tryz.prog env (n + 1) (entOf F_impl_StmtOk) := sn h fun a => by kernel_rfl
theorem t_impl_Cat_at_1 (n : Nat) (h : AllOk n) : EntOk Tryz.prog env (n + 1) (entOf F_impl_Cat_at_1) := sn h fun a => by kernel_rfl
theorem t_slices_IndexFunc_impl_Table_impl_Table__impl_Cat_at_1 (n : Nat) (h : AllOk n) : EntOk Tryz.prog env (n + 1) (entOf F_slices_IndexFunc_impl_Table_impl_Table__impl_Cat_at_1) := sv (T_slices_IndexFunc_impl_Table_impl_Table__impl_Cat_at_1 n) h (tabOk (List.forall_mem_cons.mpr ⟨row1_ok (fun _ => rfl) (fun _ _ => by kernel_rfl), List.forall_mem_nil _⟩)) fun a => by kernel_rfl
theorem t_impl_Cat_at (n : Nat) (h : AllOk n) : EntOk Tryz.prog env (n + 1) (entOf F_impl_Cat_at) := sn h fun a => by kernel_rfl
theorem t_slices_Index_string_string (n : Nat) (h : AllOk n) : EntOk Tryz.prog env (n + 1) (entOf F_slices_Index_string_string) := sv (T_slices_Index_string_string n) h (tabOk (List.forall_mem_cons.mpr ⟨row1_ok (fun _ => rfl) (fun _ _ => by kernel_rfl), List.forall_mem_nil _⟩)) fun a => by kernel_rfl
theorem t_slices_Contains_string_string (n : Nat) (h : AllOk n) : EntOk Tryz.prog env (n + 1) (entOf F_slices_Contains_string_string) := sn h fun a => by kernel_rfl
theorem t_impl_ddlCode (n : Nat) (h : AllOk n) : EntOk Tryz.prog env (n + 1) (entOf F_impl_ddlCode) := sn h fun a => by kernel_rfl
theorem ext_slices_Insert_impl_Table_impl_Table (n : Nat) : FnOk Tryz.prog env F_slices_Insert_impl_Table_impl_Table (n + 1) := fun a r h => ins_fn (f := J13) insW_249 Tryz.underlying23 Tryz.underlying3 (elB_ok (P := Tryz.prog) (e := 93) (f := J13) (eb := 64) (by kernel_rfl)) (by decide) h
theorem ext_slices_Delete_impl_Table_impl_Table (n : Nat) : FnOk Tryz.prog env F_slices_Delete_impl_Table_impl_Table (n + 1) := fun a r h => del_fn (f := J13) delW_250 Tryz.underlying23 (elB_ok (P := Tryz.prog) (e := 93) (f := J13) (eb := 64) (by kernel_rfl)) h
theorem t_impl_DdlApply_1 (n : Nat) (h : AllOk n) : EntOk Tryz.prog env (n + 1) (entOf F_impl_DdlApply_1) := sn h fun a => by kernel_rfl
theorem t_slices_IndexFunc_impl_Col_impl_Col__impl_DdlApply_1 (n : Nat) (h : AllOk n) : EntOk Tryz.prog env (n + 1) (entOf F_slices_IndexFunc_impl_Col_impl_Col__impl_DdlApply_1) := sv (T_slices_IndexFunc_impl_Col_impl_Col__impl_DdlApply_1 n) h (tabOk (List.forall_mem_cons.mpr ⟨row1_ok (fun _ => rfl) (fun _ _ => by kernel_rfl), List.forall_mem_nil _⟩)) fun a => by kernel_rfl
theorem t_slices_DeleteFunc_impl_Col_impl_Col_o__impl_DdlApply_1 (n : Nat) (h : AllOk n) : EntOk Tryz.prog env (n + 1) (entOf F_slices_DeleteFunc_impl_Col_impl_Col_o__impl_DdlApply_1) := sv (T_slices_DeleteFunc_impl_Col_impl_Col_o__impl_DdlApply_1 n) h (tabOk (List.forall_mem_cons.mpr ⟨row1_ok (fun _ => rfl) (fun _ _ => by kernel_rfl), List.forall_mem_nil _⟩)) fun a => by kernel_rfl
theorem t_impl_DdlApply (n : Nat) (h : AllOk n) : EntOk Tryz.prog env (n + 1) (entOf F_impl_DdlApply) := sv (T_impl_DdlApply n) h (tabOk (List.forall_mem_cons.mpr ⟨row1_ok (fun _ => rfl) (fun _ _ => by kernel_rfl), List.forall_mem_nil _⟩)) fun a => by kernel_rfl
theorem ext_slices_Insert_impl_Rows_impl_Rows (n : Nat) : FnOk Tryz.prog env F_slices_Insert_impl_Rows_impl_Rows (n + 1) := fun a r h => ins_fn (f := J5) insW_185 Tryz.underlying26 Tryz.underlying3 (elB_ok (P := Tryz.prog) (e := 95) (f := J5) (eb := 24) (by kernel_rfl)) (by decide) h
theorem ext_slices_Delete_impl_Rows_impl_Rows (n : Nat) : FnOk Tryz.prog env F_slices_Delete_impl_Rows_impl_Rows (n + 1) := fun a r h => del_fn (f := J5) delW_186 Tryz.underlying26 (elB_ok (P := Tryz.prog) (e := 95) (f := J5) (eb := 24) (by kernel_rfl)) h
theorem ext_slices_Delete_impl_Val_impl_Val (n : Nat) : FnOk Tryz.prog env F_slices_Delete_impl_Val_impl_Val (n + 1) := fun a r h => del_fn (f := J3) delW_255 Tryz.underlying29 (elB_ok (P := Tryz.prog) (e := 137) (f := J3) (eb := 32) (by kernel_rfl)) h
theorem t_impl_RowsDdl (n : Nat) (h : AllOk n) : EntOk Tryz.prog env (n + 1) (entOf F_impl_RowsDdl) := sv (T_impl_RowsDdl n) h (tabOk (List.forall_mem_cons.mpr ⟨row1_ok (fun _ => rfl) (fun _ _ => by kernel_rfl), List.forall_mem_cons.mpr ⟨row1_ok (fun _ => rfl) (fun _ _ => by kernel_rfl), List.forall_mem_nil _⟩⟩)) fun a => by kernel_rfl
theorem t_impl_changed (n : Nat) (h : AllOk n) : EntOk Tryz.prog env (n + 1) (entOf F_impl_changed) := sn h fun a => by kernel_rfl
theorem t_slices_Equal_impl_Val_impl_Val (n : Nat) (h : AllOk n) : EntOk Tryz.prog env (n + 1) (entOf F_slices_Equal_impl_Val_impl_Val) := sv (T_slices_Equal_impl_Val_impl_Val n) h (tabOk (List.forall_mem_cons.mpr ⟨row1_ok (fun _ => rfl) (fun _ _ => by kernel_rfl), List.forall_mem_nil _⟩)) fun a => by kernel_rfl
theorem t_impl_rowAt_1 (n : Nat) (h : AllOk n) : EntOk Tryz.prog env (n + 1) (entOf F_impl_rowAt_1) := sn h fun a => by kernel_rfl
theorem t_slices_IndexFunc_impl_Row_impl_Row__impl_rowAt_1 (n : Nat) (h : AllOk n) : EntOk Tryz.prog env (n + 1) (entOf F_slices_IndexFunc_impl_Row_impl_Row__impl_rowAt_1) := sv (T_slices_IndexFunc_impl_Row_impl_Row__impl_rowAt_1 n) h (tabOk (List.forall_mem_cons.mpr ⟨row1_ok (fun _ => rfl) (fun _ _ => by kernel_rfl), List.forall_mem_nil _⟩)) fun a => by kernel_rfl
theorem t_impl_rowAt (n : Nat) (h : AllOk n) : EntOk Tryz.prog env (n + 1) (entOf F_impl_rowAt) := sn h fun a => by kernel_rfl
theorem ext_slices_Insert_impl_Row_impl_Row (n : Nat) : FnOk Tryz.prog env F_slices_Insert_impl_Row_impl_Row (n + 1) := fun a r h => ins_fn (f := J4) insW_258 Tryz.underlying89 Tryz.underlying3 (elB_ok (P := Tryz.prog) (e := 31) (f := J4) (eb := 24) (by kernel_rfl)) (by decide) h
theorem t_impl_placed (n : Nat) (h : AllOk n) : EntOk Tryz.prog env (n + 1) (entOf F_impl_placed) := sv (T_impl_placed n) h (tabOk (List.forall_mem_cons.mpr ⟨row1_ok (fun _ => rfl) (fun _ _ => by kernel_rfl), List.forall_mem_nil _⟩)) fun a => by kernel_rfl
theorem t_impl_RowPut (n : Nat) (h : AllOk n) : EntOk Tryz.prog env (n + 1) (entOf F_impl_RowPut) := sn h fun a => by kernel_rfl
theorem t_impl_KeyOk (n : Nat) (h : AllOk n) : EntOk Tryz.prog env (n + 1) (entOf F_impl_KeyOk) := sv (T_impl_KeyOk n) h (tabOk (List.forall_mem_cons.mpr ⟨row1_ok (fun _ => rfl) (fun _ _ => by kernel_rfl), List.forall_mem_nil _⟩)) fun a => by kernel_rfl
theorem ext_slices_Delete_impl_Row_impl_Row (n : Nat) : FnOk Tryz.prog env F_slices_Delete_impl_Row_impl_Row (n + 1) := fun a r h => del_fn (f := J4) delW_191 Tryz.underlying89 (elB_ok (P := Tryz.prog) (e := 31) (f := J4) (eb := 24) (by kernel_rfl)) h
theorem t_impl_RowSet (n : Nat) (h : AllOk n) : EntOk Tryz.prog env (n + 1) (entOf F_impl_RowSet) := sn h fun a => by kernel_rfl
theorem t_impl_RowOut (n : Nat) (h : AllOk n) : EntOk Tryz.prog env (n + 1) (entOf F_impl_RowOut) := sn h fun a => by kernel_rfl
theorem t_impl_exec (n : Nat) (h : AllOk n) : EntOk Tryz.prog env (n + 1) (entOf F_impl_exec) := sn h fun a => by kernel_rfl
theorem t_impl_ExecAll (n : Nat) (h : AllOk n) : EntOk Tryz.prog env (n + 1) (entOf F_impl_ExecAll) := sv (T_impl_ExecAll n) h (tabOk (List.forall_mem_cons.mpr ⟨row1_ok (fun _ => rfl) (fun _ _ => by kernel_rfl), List.forall_mem_nil _⟩)) fun a => by kernel_rfl
theorem t_laws_eqVal (n : Nat) (h : AllOk n) : EntOk Tryz.prog env (n + 1) (entOf F_laws_eqVal) := sn h fun a => by kernel_rfl
theorem t_laws_eqCol (n : Nat) (h : AllOk n) : EntOk Tryz.prog env (n + 1) (entOf F_laws_eqCol) := sn h fun a => by kernel_rfl
theorem t_laws_eqColS (n : Nat) (h : AllOk n) : EntOk Tryz.prog env (n + 1) (entOf F_laws_eqColS) := sv (T_laws_eqColS n) h (tabOk (List.forall_mem_cons.mpr ⟨row1_ok (fun _ => rfl) (fun _ _ => by kernel_rfl), List.forall_mem_nil _⟩)) fun a => by kernel_rfl
theorem t_laws_eqStringS (n : Nat) (h : AllOk n) : EntOk Tryz.prog env (n + 1) (entOf F_laws_eqStringS) := sv (T_laws_eqStringS n) h (tabOk (List.forall_mem_cons.mpr ⟨row1_ok (fun _ => rfl) (fun _ _ => by kernel_rfl), List.forall_mem_nil _⟩)) fun a => by kernel_rfl
theorem t_laws_eqTable (n : Nat) (h : AllOk n) : EntOk Tryz.prog env (n + 1) (entOf F_laws_eqTable) := sn h fun a => by kernel_rfl
theorem t_laws_eqTableS (n : Nat) (h : AllOk n) : EntOk Tryz.prog env (n + 1) (entOf F_laws_eqTableS) := sv (T_laws_eqTableS n) h (tabOk (List.forall_mem_cons.mpr ⟨row1_ok (fun _ => rfl) (fun _ _ => by kernel_rfl), List.forall_mem_nil _⟩)) fun a => by kernel_rfl
theorem t_laws_eqCat (n : Nat) (h : AllOk n) : EntOk Tryz.prog env (n + 1) (entOf F_laws_eqCat) := sn h fun a => by kernel_rfl
theorem t_laws_eqValS (n : Nat) (h : AllOk n) : EntOk Tryz.prog env (n + 1) (entOf F_laws_eqValS) := sv (T_laws_eqValS n) h (tabOk (List.forall_mem_cons.mpr ⟨row1_ok (fun _ => rfl) (fun _ _ => by kernel_rfl), List.forall_mem_nil _⟩)) fun a => by kernel_rfl
theorem t_laws_eqRow (n : Nat) (h : AllOk n) : EntOk Tryz.prog env (n + 1) (entOf F_laws_eqRow) := sn h fun a => by kernel_rfl
theorem t_laws_eqRowS (n : Nat) (h : AllOk n) : EntOk Tryz.prog env (n + 1) (entOf F_laws_eqRowS) := sv (T_laws_eqRowS n) h (tabOk (List.forall_mem_cons.mpr ⟨row1_ok (fun _ => rfl) (fun _ _ => by kernel_rfl), List.forall_mem_nil _⟩)) fun a => by kernel_rfl
theorem t_laws_eqRows (n : Nat) (h : AllOk n) : EntOk Tryz.prog env (n + 1) (entOf F_laws_eqRows) := sn h fun a => by kernel_rfl
theorem t_laws_eqRowsS (n : Nat) (h : AllOk n) : EntOk Tryz.prog env (n + 1) (entOf F_laws_eqRowsS) := sv (T_laws_eqRowsS n) h (tabOk (List.forall_mem_cons.mpr ⟨row1_ok (fun _ => rfl) (fun _ _ => by kernel_rfl), List.forall_mem_nil _⟩)) fun a => by kernel_rfl
theorem t_laws_eqDb (n : Nat) (h : AllOk n) : EntOk Tryz.prog env (n + 1) (entOf F_laws_eqDb) := sn h fun a => by kernel_rfl
theorem t_laws_eqDdl (n : Nat) (h : AllOk n) : EntOk Tryz.prog env (n + 1) (entOf F_laws_eqDdl) := sn h fun a => by kernel_rfl
theorem t_laws_eqStmt (n : Nat) (h : AllOk n) : EntOk Tryz.prog env (n + 1) (entOf F_laws_eqStmt) := sn h fun a => by kernel_rfl
theorem t_laws_eqStmtS (n : Nat) (h : AllOk n) : EntOk Tryz.prog env (n + 1) (entOf F_laws_eqStmtS) := sv (T_laws_eqStmtS n) h (tabOk (List.forall_mem_cons.mpr ⟨row1_ok (fun _ => rfl) (fun _ _ => by kernel_rfl), List.forall_mem_nil _⟩)) fun a => by kernel_rfl
theorem t_laws_markText (n : Nat) (h : AllOk n) : EntOk Tryz.prog env (n + 1) (entOf F_laws_markText) := sv (T_laws_markText n) h (tabOk (List.forall_mem_cons.mpr ⟨row1_ok (fun _ => rfl) (fun _ _ => by kernel_rfl), List.forall_mem_nil _⟩)) fun a => by kernel_rfl
theorem t_laws_markColS_o (n : Nat) (h : AllOk n) : EntOk Tryz.prog env (n + 1) (entOf F_laws_markColS_o) := sv (T_laws_markColS_o n) h (tabOk (List.forall_mem_cons.mpr ⟨row1_ok (fun _ => rfl) (fun _ _ => by kernel_rfl), List.forall_mem_nil _⟩)) fun a => by kernel_rfl
theorem t_laws_markStringS_o (n : Nat) (h : AllOk n) : EntOk Tryz.prog env (n + 1) (entOf F_laws_markStringS_o) := sv (T_laws_markStringS_o n) h (tabOk (List.forall_mem_cons.mpr ⟨row1_ok (fun _ => rfl) (fun _ _ => by kernel_rfl), List.forall_mem_nil _⟩)) fun a => by kernel_rfl
theorem t_laws_markTableS_o (n : Nat) (h : AllOk n) : EntOk Tryz.prog env (n + 1) (entOf F_laws_markTableS_o) := sv (T_laws_markTableS_o n) h (tabOk (List.forall_mem_cons.mpr ⟨row1_ok (fun _ => rfl) (fun _ _ => by kernel_rfl), List.forall_mem_nil _⟩)) fun a => by kernel_rfl
theorem t_laws_markCat_o (n : Nat) (h : AllOk n) : EntOk Tryz.prog env (n + 1) (entOf F_laws_markCat_o) := sn h fun a => by kernel_rfl
theorem t_laws_markValS_o (n : Nat) (h : AllOk n) : EntOk Tryz.prog env (n + 1) (entOf F_laws_markValS_o) := sv (T_laws_markValS_o n) h (tabOk (List.forall_mem_cons.mpr ⟨row1_ok (fun _ => rfl) (fun _ _ => by kernel_rfl), List.forall_mem_nil _⟩)) fun a => by kernel_rfl
theorem t_laws_markRowS_o (n : Nat) (h : AllOk n) : EntOk Tryz.prog env (n + 1) (entOf F_laws_markRowS_o) := sv (T_laws_markRowS_o n) h (tabOk (List.forall_mem_cons.mpr ⟨row1_ok (fun _ => rfl) (fun _ _ => by kernel_rfl), List.forall_mem_nil _⟩)) fun a => by kernel_rfl
theorem t_laws_markRowsS_o (n : Nat) (h : AllOk n) : EntOk Tryz.prog env (n + 1) (entOf F_laws_markRowsS_o) := sv (T_laws_markRowsS_o n) h (tabOk (List.forall_mem_cons.mpr ⟨row1_ok (fun _ => rfl) (fun _ _ => by kernel_rfl), List.forall_mem_nil _⟩)) fun a => by kernel_rfl
theorem t_laws_markDb_o_o (n : Nat) (h : AllOk n) : EntOk Tryz.prog env (n + 1) (entOf F_laws_markDb_o_o) := sn h fun a => by kernel_rfl
theorem t_laws_markStmtS_o (n : Nat) (h : AllOk n) : EntOk Tryz.prog env (n + 1) (entOf F_laws_markStmtS_o) := sv (T_laws_markStmtS_o n) h (tabOk (List.forall_mem_cons.mpr ⟨row1_ok (fun _ => rfl) (fun _ _ => by kernel_rfl), List.forall_mem_nil _⟩)) fun a => by kernel_rfl
theorem t_laws_heldColS (n : Nat) (h : AllOk n) : EntOk Tryz.prog env (n + 1) (entOf F_laws_heldColS) := sv (T_laws_heldColS n) h (tabOk (List.forall_mem_cons.mpr ⟨row1_ok (fun _ => rfl) (fun _ _ => by kernel_rfl), List.forall_mem_nil _⟩)) fun a => by kernel_rfl
theorem t_laws_heldStringS (n : Nat) (h : AllOk n) : EntOk Tryz.prog env (n + 1) (entOf F_laws_heldStringS) := sv (T_laws_heldStringS n) h (tabOk (List.forall_mem_cons.mpr ⟨row1_ok (fun _ => rfl) (fun _ _ => by kernel_rfl), List.forall_mem_nil _⟩)) fun a => by kernel_rfl
theorem t_laws_heldTableS (n : Nat) (h : AllOk n) : EntOk Tryz.prog env (n + 1) (entOf F_laws_heldTableS) := sv (T_laws_heldTableS n) h (tabOk (List.forall_mem_cons.mpr ⟨row1_ok (fun _ => rfl) (fun _ _ => by kernel_rfl), List.forall_mem_nil _⟩)) fun a => by kernel_rfl
theorem t_laws_heldCat (n : Nat) (h : AllOk n) : EntOk Tryz.prog env (n + 1) (entOf F_laws_heldCat) := sn h fun a => by kernel_rfl
theorem t_laws_heldValS (n : Nat) (h : AllOk n) : EntOk Tryz.prog env (n + 1) (entOf F_laws_heldValS) := sv (T_laws_heldValS n) h (tabOk (List.forall_mem_cons.mpr ⟨row1_ok (fun _ => rfl) (fun _ _ => by kernel_rfl), List.forall_mem_nil _⟩)) fun a => by kernel_rfl
theorem t_laws_heldRowS (n : Nat) (h : AllOk n) : EntOk Tryz.prog env (n + 1) (entOf F_laws_heldRowS) := sv (T_laws_heldRowS n) h (tabOk (List.forall_mem_cons.mpr ⟨row1_ok (fun _ => rfl) (fun _ _ => by kernel_rfl), List.forall_mem_nil _⟩)) fun a => by kernel_rfl
theorem t_laws_heldRowsS (n : Nat) (h : AllOk n) : EntOk Tryz.prog env (n + 1) (entOf F_laws_heldRowsS) := sv (T_laws_heldRowsS n) h (tabOk (List.forall_mem_cons.mpr ⟨row1_ok (fun _ => rfl) (fun _ _ => by kernel_rfl), List.forall_mem_nil _⟩)) fun a => by kernel_rfl
theorem t_laws_heldDb (n : Nat) (h : AllOk n) : EntOk Tryz.prog env (n + 1) (entOf F_laws_heldDb) := sn h fun a => by kernel_rfl
theorem t_laws_FnExactExecAll (n : Nat) (h : AllOk n) : EntOk Tryz.prog env (n + 1) (entOf F_laws_FnExactExecAll) := sn h fun a => by kernel_rfl
set_option maxRecDepth 1000000 in
theorem all_ok : ∀ n, AllOk n
  | 0 => by
    simp only [AllOk, ents, List.forall_mem_cons, List.not_mem_nil, false_implies, implies_true, and_true]
    exact ⟨s0 fun _ => rfl, s0 fun _ => rfl, s0 fun _ => rfl, s0 fun _ => rfl, s0 fun _ => rfl, s0 fun _ => rfl, s0 fun _ => rfl, s0 fun _ => rfl, s0 fun _ => rfl, s0 fun _ => rfl, s0 fun _ => rfl, s0 fun _ => rfl, s0 fun _ => rfl, s0 fun _ => rfl, s0 fun _ => rfl, s0 fun _ => rfl, s0 fun _ => rfl, s0 fun _ => rfl, s0 fun _ => rfl, s0 fun _ => rfl, s0 fun _ => rfl, s0 fun _ => rfl, s0 fun _ => rfl, s0 fun _ => rfl, s0 fun _ => rfl, s0 fun _ => rfl, s0 fun _ => rfl, s0 fun _ => rfl, s0 fun _ => rfl, s0 fun _ => rfl, s0 fun _ => rfl, s0 fun _ => rfl, s0 fun _ => rfl, s0 fun _ => rfl, s0 fun _ => rfl, s0 fun _ => rfl, s0 fun _ => rfl, s0 fun _ => rfl, s0 fun _ => rfl, s0 fun _ => rfl, s0 fun _ => rfl, s0 fun _ => rfl, s0 fun _ => rfl, s0 fun _ => rfl, s0 fun _ => rfl, s0 fun _ => rfl, s0 fun _ => rfl, s0 fun _ => rfl, s0 fun _ => rfl, s0 fun _ => rfl, s0 fun _ => rfl, s0 fun _ => rfl, s0 fun _ => rfl, s0 fun _ => rfl, s0 fun _ => rfl, s0 fun _ => rfl, s0 fun _ => rfl, s0 fun _ => rfl, s0 fun _ => rfl, s0 fun _ => rfl, s0 fun _ => rfl, s0 fun _ => rfl, s0 fun _ => rfl, s0 fun _ => rfl, s0 fun _ => rfl, s0 fun _ => rfl, s0 fun _ => rfl, s0 fun _ => rfl, s0 fun _ => rfl, s0 fun _ => rfl, s0 fun _ => rfl, s0 fun _ => rfl, s0 fun _ => rfl, s0 fun _ => rfl, s0 fun _ => rfl, s0 fun _ => rfl, s0 fun _ => rfl, s0 fun _ => rfl, s0 fun _ => rfl, s0 fun _ => rfl, s0 fun _ => rfl, s0 fun _ => rfl, s0 fun _ => rfl, s0 fun _ => rfl, s0 fun _ => rfl, s0 fun _ => rfl, s0 fun _ => rfl, s0 fun _ => rfl, s0 fun _ => rfl, s0 fun _ => rfl, s0 fun _ => rfl, s0 fun _ => rfl, s0 fun _ => rfl, s0 fun _ => rfl, s0 fun _ => rfl, s0 fun _ => rfl, s0 fun _ => rfl, s0 fun _ => rfl, s0 fun _ => rfl, s0 fun _ => rfl, s0 fun _ => rfl, s0 fun _ => rfl, s0 fun _ => rfl, s0 fun _ => rfl, s0 fun _ => rfl, s0 fun _ => rfl, s0 fun _ => rfl, s0 fun _ => rfl, s0 fun _ => rfl, s0 fun _ => rfl, s0 fun _ => rfl, s0 fun _ => rfl, s0 fun _ => rfl, s0 fun _ => rfl, s0 fun _ => rfl, s0 fun _ => rfl, s0 fun _ => rfl, s0 fun _ => rfl, s0 fun _ => rfl, s0 fun _ => rfl, s0 fun _ => rfl, s0 fun _ => rfl, s0 fun _ => rfl, s0 fun _ => rfl, s0 fun _ => rfl, s0 fun _ => rfl, s0 fun _ => rfl, s0 fun _ => rfl, s0 fun _ => rfl, s0 fun _ => rfl, s0 fun _ => rfl, s0 fun _ => rfl, s0 fun _ => rfl, s0 fun _ => rfl, s0 fun _ => rfl, s0 fun _ => rfl, s0 fun _ => rfl, s0 fun _ => rfl, s0 fun _ => rfl, s0 fun _ => rfl, s0 fun _ => rfl, s0 fun _ => rfl, s0 fun _ => rfl, s0 fun _ => rfl, s0 fun _ => rfl, s0 fun _ => rfl, s0 fun _ => rfl, s0 fun _ => rfl, s0 fun _ => rfl, s0 fun _ => rfl, s0 fun _ => rfl, s0 fun _ => rfl, s0 fun _ => rfl, s0 fun _ => rfl, s0 fun _ => rfl, s0 fun _ => rfl, s0 fun _ => rfl, s0 fun _ => rfl, s0 fun _ => rfl, s0 fun _ => rfl, s0 fun _ => rfl, s0 fun _ => rfl, s0 fun _ => rfl, s0 fun _ => rfl, s0 fun _ => rfl, s0 fun _ => rfl, s0 fun _ => rfl, s0 fun _ => rfl, s0 fun _ => rfl, s0 fun _ => rfl, s0 fun _ => rfl⟩
  | n + 1 => by
    have h : AllOk n := all_ok n
    simp only [AllOk, ents, List.forall_mem_cons, List.not_mem_nil, false_implies, implies_true, and_true]
    exact ⟨t_laws_szVal n h, t_laws_szCol n h, t_laws_szColS n h, t_laws_szStringS n h, t_laws_szTable n h, t_laws_szTableS n h, t_laws_szCat n h, t_laws_szValS n h, t_laws_szRow n h, t_laws_szRowS n h, t_laws_szRows n h, t_laws_szRowsS n h, t_laws_szDb n h, t_laws_szDdl n h, t_laws_szStmt n h, t_laws_szStmtS n h, t_laws_toVal n h, t_laws_toCol n h, t_laws_toColS n h, t_laws_toStringS n h, t_laws_toTable n h, t_laws_toTableS n h, t_laws_toCat n h, t_laws_toValS n h, t_laws_toRow n h, t_laws_toRowS n h, t_laws_toRows n h, t_laws_toRowsS n h, t_laws_toDb n h, t_laws_toDdl n h, t_laws_toStmt n h, t_laws_toStmtS n h, t_spec_WordOk n h, t_spec_l01Num n h, t_spec_ValOk n h, t_spec_ColOk n h, t_spec_ColAt n h, t_spec_TableOk n h, t_spec_CatOk n h, t_spec_l03Fits n h, t_spec_RowOk n h, t_spec_l03Key n h, t_spec_ValLess n h, t_spec_KeyLess n h, t_spec_RowsOk n h, t_spec_DbOk n h, t_spec_l02Table n h, t_spec_l02Copy n h, t_spec_l03Row n h, t_spec_l03Copy n h, t_spec_l04Copy n h, t_spec_l04Vals n h, t_spec_l04NoDdl n h, t_spec_DdlOk n h, t_spec_StmtOk n h, t_spec_l02At n h, t_spec_l02Put n h, t_spec_l02Has n h, t_spec_l02Fault n h, t_spec_l02Change n h, t_spec_DdlApply n h, t_spec_l03SameVals n h, t_spec_RowAt n h, t_spec_l03Lay n h, t_spec_RowPut n h, t_spec_KeyOk n h, t_spec_l03Without n h, t_spec_RowSet n h, t_spec_RowOut n h, t_spec_RowsDdl n h, t_spec_l04Rows n h, t_spec_l04Change n h, t_spec_Exec n h, t_spec_ExecAll n h, t_impl_within n h, t_impl_WordOk n h, t_impl_ValOk n h, t_impl_ColOk n h, t_impl_ColAt_1 n h, t_slices_IndexFunc_impl_Col_impl_Col__impl_ColAt_1 n h, t_impl_ColAt n h, t_impl_TableOk n h, t_impl_CatOk n h, t_impl_stands n h, t_impl_rowOk n h, t_impl_keyOf n h, t_impl_ValLess n h, t_impl_KeyLess n h, t_impl_RowsOk n h, t_impl_DbOk n h, t_impl_copyTexts n h, t_impl_copyTable n h, t_impl_copyCat n h, t_impl_copyVals n h, t_impl_copyRows n h, t_impl_copyDb n h, t_impl_Ddl_made n h, t_slices_Equal_impl_Col_impl_Col n h, t_slices_Equal_string_string n h, t_impl_equalDdl n h, t_impl_DdlOk n h, t_impl_areVals_1 n h, t_slices_IndexFunc_impl_Val_impl_Val__impl_areVals_1 n h, t_slices_ContainsFunc_impl_Val_impl_Val__impl_areVals_1 n h, t_impl_areVals n h, t_impl_StmtOk n h, t_impl_Cat_at_1 n h, t_slices_IndexFunc_impl_Table_impl_Table__impl_Cat_at_1 n h, t_impl_Cat_at n h, t_slices_Index_string_string n h, t_slices_Contains_string_string n h, t_impl_ddlCode n h, sx (ext_slices_Insert_impl_Table_impl_Table n), sx (ext_slices_Delete_impl_Table_impl_Table n), t_impl_DdlApply_1 n h, t_slices_IndexFunc_impl_Col_impl_Col__impl_DdlApply_1 n h, t_slices_DeleteFunc_impl_Col_impl_Col_o__impl_DdlApply_1 n h, t_impl_DdlApply n h, sx (ext_slices_Insert_impl_Rows_impl_Rows n), sx (ext_slices_Delete_impl_Rows_impl_Rows n), sx (ext_slices_Delete_impl_Val_impl_Val n), t_impl_RowsDdl n h, t_impl_changed n h, t_slices_Equal_impl_Val_impl_Val n h, t_impl_rowAt_1 n h, t_slices_IndexFunc_impl_Row_impl_Row__impl_rowAt_1 n h, t_impl_rowAt n h, sx (ext_slices_Insert_impl_Row_impl_Row n), t_impl_placed n h, t_impl_RowPut n h, t_impl_KeyOk n h, sx (ext_slices_Delete_impl_Row_impl_Row n), t_impl_RowSet n h, t_impl_RowOut n h, t_impl_exec n h, t_impl_ExecAll n h, t_laws_eqVal n h, t_laws_eqCol n h, t_laws_eqColS n h, t_laws_eqStringS n h, t_laws_eqTable n h, t_laws_eqTableS n h, t_laws_eqCat n h, t_laws_eqValS n h, t_laws_eqRow n h, t_laws_eqRowS n h, t_laws_eqRows n h, t_laws_eqRowsS n h, t_laws_eqDb n h, t_laws_eqDdl n h, t_laws_eqStmt n h, t_laws_eqStmtS n h, t_laws_markText n h, t_laws_markColS_o n h, t_laws_markStringS_o n h, t_laws_markTableS_o n h, t_laws_markCat_o n h, t_laws_markValS_o n h, t_laws_markRowS_o n h, t_laws_markRowsS_o n h, t_laws_markDb_o_o n h, t_laws_markStmtS_o n h, t_laws_heldColS n h, t_laws_heldStringS n h, t_laws_heldTableS n h, t_laws_heldCat n h, t_laws_heldValS n h, t_laws_heldRowS n h, t_laws_heldRowsS n h, t_laws_heldDb n h, t_laws_FnExactExecAll n h⟩
theorem law_ok : ∀ n, FnOk Tryz.prog env F_laws_FnExactExecAll n
  | 0 => fnOk_zero fun _ => rfl
  | n + 1 => st [] (all_ok n) tabOk_nil fun a => by kernel_rfl
end Go.Proofs.YtklgakikhdompaaGreat.Ev
