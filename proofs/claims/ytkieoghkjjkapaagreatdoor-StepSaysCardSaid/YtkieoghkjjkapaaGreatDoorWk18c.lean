/-
  A law's wakes, run by the closed runner. Conditions: the variables that it reads are laid. The code below is printed by Gen.
-/
import Derived.Test.YtkieoghkjjkapaaGreatDoorWk18b
namespace Go.Proofs.YtkieoghkjjkapaaGreatDoor.Sx
open Go.RowKit
set_option maxRecDepth 100000
def irTab18 : Trie XF := (.nd (.nd (.nd (.nd (.nd (.nd (.nd (.nd (.nd .lf (some ir18_255) .lf) (some ir18_127) .lf) (some ir18_63) (.nd .lf (some ir18_191) .lf)) (some ir18_31) (.nd (.nd (.nd .lf (some ir18_287) .lf) none .lf) (some ir18_95) (.nd (.nd .lf (some ir18_351) .lf) none .lf))) (some ir18_15) (.nd (.nd (.nd (.nd .lf (some ir18_271) .lf) (some ir18_143) (.nd .lf (some ir18_399) .lf)) (some ir18_79) .lf) (some ir18_47) (.nd .lf none (.nd .lf (some ir18_239) .lf)))) (some ir18_7) (.nd (.nd (.nd (.nd .lf (some ir18_135) (.nd .lf (some ir18_391) .lf)) (some ir18_71) (.nd (.nd .lf (some ir18_327) .lf) (some ir18_199) .lf)) (some ir18_39) (.nd .lf (some ir18_103) (.nd (.nd .lf (some ir18_359) .lf) none .lf))) (some ir18_23) (.nd (.nd (.nd .lf (some ir18_151) .lf) (some ir18_87) .lf) (some ir18_55) (.nd (.nd (.nd .lf (some ir18_311) .lf) none .lf) (some ir18_119) (.nd (.nd .lf (some ir18_375) .lf) none .lf))))) none (.nd (.nd (.nd (.nd (.nd (.nd .lf (some ir18_259) .lf) (some ir18_131) .lf) (some ir18_67) (.nd (.nd .lf (some ir18_323) .lf) (some ir18_195) .lf)) (some ir18_35) (.nd .lf (some ir18_99) .lf)) none (.nd (.nd (.nd (.nd .lf (some ir18_275) .lf) (some ir18_147) .lf) (some ir18_83) (.nd (.nd .lf (some ir18_339) .lf) (some ir18_211) .lf)) (some ir18_51) (.nd (.nd (.nd .lf (some ir18_307) .lf) (some ir18_179) .lf) none .lf))) none (.nd (.nd (.nd (.nd (.nd .lf (some ir18_267) .lf) (some ir18_139) .lf) (some ir18_75) (.nd (.nd .lf (some ir18_331) .lf) none .lf)) (some ir18_43) (.nd .lf (some ir18_107) .lf)) (some ir18_27) (.nd (.nd (.nd (.nd .lf (some ir18_283) .lf) none .lf) (some ir18_91) (.nd (.nd .lf (some ir18_347) .lf) none .lf)) (some ir18_59) (.nd (.nd (.nd .lf (some ir18_315) .lf) (some ir18_187) .lf) (some ir18_123) .lf))))) none (.nd (.nd (.nd (.nd (.nd (.nd (.nd .lf (some ir18_257) .lf) (some ir18_129) .lf) (some ir18_65) (.nd (.nd .lf (some ir18_321) .lf) none .lf)) none (.nd (.nd (.nd .lf (some ir18_289) .lf) none .lf) (some ir18_97) .lf)) (some ir18_17) (.nd (.nd (.nd (.nd .lf (some ir18_273) .lf) none .lf) (some ir18_81) (.nd (.nd .lf (some ir18_337) .lf) (some ir18_209) .lf)) (some ir18_49) (.nd (.nd (.nd .lf (some ir18_305) .lf) (some ir18_177) .lf) (some ir18_113) .lf))) (some ir18_9) (.nd (.nd (.nd (.nd (.nd .lf (some ir18_265) .lf) (some ir18_137) .lf) (some ir18_73) (.nd (.nd .lf (some ir18_329) .lf) none .lf)) (some ir18_41) (.nd (.nd (.nd .lf (some ir18_297) .lf) none .lf) (some ir18_105) (.nd (.nd .lf (some ir18_361) .lf) none .lf))) (some ir18_25) (.nd (.nd .lf (some ir18_89) (.nd .lf (some ir18_217) .lf)) (some ir18_57) (.nd (.nd (.nd .lf (some ir18_313) .lf) (some ir18_185) .lf) none .lf)))) (some ir18_5) (.nd (.nd (.nd (.nd (.nd (.nd .lf (some ir18_261) .lf) (some ir18_133) .lf) none (.nd .lf (some ir18_197) .lf)) (some ir18_37) (.nd (.nd (.nd .lf (some ir18_293) .lf) none .lf) none .lf)) (some ir18_21) (.nd (.nd (.nd .lf (some ir18_149) .lf) (some ir18_85) (.nd (.nd .lf (some ir18_341) .lf) none .lf)) (some ir18_53) (.nd (.nd .lf (some ir18_181) .lf) (some ir18_117) .lf))) none (.nd (.nd (.nd (.nd (.nd .lf (some ir18_269) .lf) (some ir18_141) .lf) (some ir18_77) (.nd .lf (some ir18_205) .lf)) (some ir18_45) (.nd (.nd (.nd .lf (some ir18_301) .lf) (some ir18_173) .lf) none .lf)) (some ir18_29) (.nd .lf none (.nd (.nd (.nd .lf (some ir18_317) .lf) (some ir18_189) .lf) (some ir18_125) (.nd .lf (some ir18_253) .lf))))))) none (.nd (.nd (.nd (.nd (.nd (.nd .lf none (.nd (.nd .lf (some ir18_320) .lf) (some ir18_192) .lf)) none (.nd (.nd (.nd .lf (some ir18_288) .lf) (some ir18_160) .lf) (some ir18_96) (.nd (.nd .lf (some ir18_352) .lf) none .lf))) (some ir18_16) (.nd (.nd (.nd (.nd .lf (some ir18_272) .lf) (some ir18_144) .lf) (some ir18_80) .lf) (some ir18_48) (.nd (.nd .lf (some ir18_176) .lf) none (.nd .lf (some ir18_240) .lf)))) none (.nd (.nd (.nd .lf (some ir18_72) (.nd (.nd .lf (some ir18_328) .lf) (some ir18_200) .lf)) none (.nd (.nd .lf (some ir18_168) .lf) (some ir18_104) .lf)) (some ir18_24) (.nd (.nd .lf (some ir18_88) (.nd .lf (some ir18_216) .lf)) (some ir18_56) (.nd (.nd (.nd .lf (some ir18_312) .lf) none .lf) none (.nd (.nd .lf (some ir18_376) .lf) none .lf))))) none (.nd (.nd (.nd (.nd (.nd .lf (some ir18_132) .lf) (some ir18_68) (.nd (.nd .lf (some ir18_324) .lf) none .lf)) (some ir18_36) (.nd (.nd .lf (some ir18_164) .lf) (some ir18_100) .lf)) (some ir18_20) (.nd (.nd (.nd .lf (some ir18_148) .lf) (some ir18_84) (.nd (.nd .lf (some ir18_340) .lf) none .lf)) (some ir18_52) (.nd (.nd .lf (some ir18_180) .lf) none .lf))) none (.nd (.nd (.nd (.nd .lf (some ir18_140) (.nd .lf (some ir18_396) .lf)) (some ir18_76) (.nd .lf (some ir18_204) .lf)) (some ir18_44) (.nd (.nd .lf (some ir18_172) .lf) (some ir18_108) .lf)) (some ir18_28) (.nd (.nd (.nd (.nd .lf (some ir18_284) .lf) none .lf) (some ir18_92) .lf) (some ir18_60) (.nd (.nd (.nd .lf (some ir18_316) .lf) (some ir18_188) .lf) (some ir18_124) .lf))))) none (.nd (.nd (.nd (.nd (.nd (.nd .lf (some ir18_130) .lf) (some ir18_66) (.nd (.nd .lf (some ir18_322) .lf) (some ir18_194) .lf)) (some ir18_34) (.nd (.nd .lf (some ir18_162) .lf) (some ir18_98) .lf)) (some ir18_18) (.nd (.nd (.nd (.nd .lf (some ir18_274) .lf) (some ir18_146) .lf) (some ir18_82) .lf) (some ir18_50) (.nd (.nd (.nd .lf (some ir18_306) .lf) (some ir18_178) .lf) none (.nd .lf (some ir18_242) .lf)))) none (.nd (.nd (.nd (.nd (.nd .lf (some ir18_266) .lf) (some ir18_138) .lf) (some ir18_74) (.nd (.nd .lf (some ir18_330) .lf) none .lf)) (some ir18_42) (.nd .lf (some ir18_106) .lf)) (some ir18_26) (.nd (.nd (.nd (.nd .lf (some ir18_282) .lf) (some ir18_154) .lf) (some ir18_90) .lf) (some ir18_58) (.nd (.nd (.nd .lf (some ir18_314) .lf) (some ir18_186) .lf) none .lf)))) none (.nd (.nd (.nd (.nd (.nd (.nd .lf (some ir18_262) .lf) (some ir18_134) .lf) (some ir18_70) (.nd .lf (some ir18_198) .lf)) none (.nd .lf none (.nd (.nd .lf (some ir18_358) .lf) none .lf))) none (.nd (.nd (.nd (.nd .lf (some ir18_278) .lf) (some ir18_150) .lf) (some ir18_86) (.nd .lf (some ir18_214) .lf)) (some ir18_54) (.nd (.nd (.nd .lf (some ir18_310) .lf) none .lf) (some ir18_118) .lf))) (some ir18_14) (.nd (.nd (.nd (.nd (.nd .lf (some ir18_270) .lf) (some ir18_142) .lf) (some ir18_78) (.nd .lf (some ir18_206) .lf)) (some ir18_46) (.nd (.nd (.nd .lf (some ir18_302) .lf) (some ir18_174) .lf) (some ir18_110) .lf)) (some ir18_30) (.nd (.nd (.nd (.nd .lf (some ir18_286) .lf) none .lf) none .lf) (some ir18_62) (.nd (.nd .lf (some ir18_190) .lf) none (.nd .lf (some ir18_254) .lf))))))))
def irList18 : List (Nat × XF) := [(5, ir18_5), (7, ir18_7), (9, ir18_9), (14, ir18_14), (15, ir18_15), (16, ir18_16), (17, ir18_17), (18, ir18_18), (20, ir18_20), (21, ir18_21), (23, ir18_23), (24, ir18_24), (25, ir18_25), (26, ir18_26), (27, ir18_27), (28, ir18_28), (29, ir18_29), (30, ir18_30), (31, ir18_31), (34, ir18_34), (35, ir18_35), (36, ir18_36), (37, ir18_37), (39, ir18_39), (41, ir18_41), (42, ir18_42), (43, ir18_43), (44, ir18_44), (45, ir18_45), (46, ir18_46), (47, ir18_47), (48, ir18_48), (49, ir18_49), (50, ir18_50), (51, ir18_51), (52, ir18_52), (53, ir18_53), (54, ir18_54), (55, ir18_55), (56, ir18_56), (57, ir18_57), (58, ir18_58), (59, ir18_59), (60, ir18_60), (62, ir18_62), (63, ir18_63), (65, ir18_65), (66, ir18_66), (67, ir18_67), (68, ir18_68), (70, ir18_70), (71, ir18_71), (72, ir18_72), (73, ir18_73), (74, ir18_74), (75, ir18_75), (76, ir18_76), (77, ir18_77), (78, ir18_78), (79, ir18_79), (80, ir18_80), (81, ir18_81), (82, ir18_82), (83, ir18_83), (84, ir18_84), (85, ir18_85), (86, ir18_86), (87, ir18_87), (88, ir18_88), (89, ir18_89), (90, ir18_90), (91, ir18_91), (92, ir18_92), (95, ir18_95), (96, ir18_96), (97, ir18_97), (98, ir18_98), (99, ir18_99), (100, ir18_100), (103, ir18_103), (104, ir18_104), (105, ir18_105), (106, ir18_106), (107, ir18_107), (108, ir18_108), (110, ir18_110), (113, ir18_113), (117, ir18_117), (118, ir18_118), (119, ir18_119), (123, ir18_123), (124, ir18_124), (125, ir18_125), (127, ir18_127), (129, ir18_129), (130, ir18_130), (131, ir18_131), (132, ir18_132), (133, ir18_133), (134, ir18_134), (135, ir18_135), (137, ir18_137), (138, ir18_138), (139, ir18_139), (140, ir18_140), (141, ir18_141), (142, ir18_142), (143, ir18_143), (144, ir18_144), (146, ir18_146), (147, ir18_147), (148, ir18_148), (149, ir18_149), (150, ir18_150), (151, ir18_151), (154, ir18_154), (160, ir18_160), (162, ir18_162), (164, ir18_164), (168, ir18_168), (172, ir18_172), (173, ir18_173), (174, ir18_174), (176, ir18_176), (177, ir18_177), (178, ir18_178), (179, ir18_179), (180, ir18_180), (181, ir18_181), (185, ir18_185), (186, ir18_186), (187, ir18_187), (188, ir18_188), (189, ir18_189), (190, ir18_190), (191, ir18_191), (192, ir18_192), (194, ir18_194), (195, ir18_195), (197, ir18_197), (198, ir18_198), (199, ir18_199), (200, ir18_200), (204, ir18_204), (205, ir18_205), (206, ir18_206), (209, ir18_209), (211, ir18_211), (214, ir18_214), (216, ir18_216), (217, ir18_217), (239, ir18_239), (240, ir18_240), (242, ir18_242), (253, ir18_253), (254, ir18_254), (255, ir18_255), (257, ir18_257), (259, ir18_259), (261, ir18_261), (262, ir18_262), (265, ir18_265), (266, ir18_266), (267, ir18_267), (269, ir18_269), (270, ir18_270), (271, ir18_271), (272, ir18_272), (273, ir18_273), (274, ir18_274), (275, ir18_275), (278, ir18_278), (282, ir18_282), (283, ir18_283), (284, ir18_284), (286, ir18_286), (287, ir18_287), (288, ir18_288), (289, ir18_289), (293, ir18_293), (297, ir18_297), (301, ir18_301), (302, ir18_302), (305, ir18_305), (306, ir18_306), (307, ir18_307), (310, ir18_310), (311, ir18_311), (312, ir18_312), (313, ir18_313), (314, ir18_314), (315, ir18_315), (316, ir18_316), (317, ir18_317), (320, ir18_320), (321, ir18_321), (322, ir18_322), (323, ir18_323), (324, ir18_324), (327, ir18_327), (328, ir18_328), (329, ir18_329), (330, ir18_330), (331, ir18_331), (337, ir18_337), (339, ir18_339), (340, ir18_340), (341, ir18_341), (347, ir18_347), (351, ir18_351), (352, ir18_352), (358, ir18_358), (359, ir18_359), (361, ir18_361), (375, ir18_375), (376, ir18_376), (391, ir18_391), (396, ir18_396), (399, ir18_399)]
theorem irTab_eq18 : irTab18 = ofList irList18 := by kernel_rfl
theorem irSmall18 : smallAll irList18 = true := by kernel_rfl
theorem irAll18 : ∀ p, p ∈ irList18 → ∃ fn, Tryz.prog.funcs[p.1]? = some fn ∧ cFunc Tryz.prog fn = some p.2 :=
  fa ⟨_, Tryz.func5, irc18_5⟩ <|
  fa ⟨_, Tryz.func7, irc18_7⟩ <|
  fa ⟨_, Tryz.func9, irc18_9⟩ <|
  fa ⟨_, Tryz.func14, irc18_14⟩ <|
  fa ⟨_, Tryz.func15, irc18_15⟩ <|
  fa ⟨_, Tryz.func16, irc18_16⟩ <|
  fa ⟨_, Tryz.func17, irc18_17⟩ <|
  fa ⟨_, Tryz.func18, irc18_18⟩ <|
  fa ⟨_, Tryz.func20, irc18_20⟩ <|
  fa ⟨_, Tryz.func21, irc18_21⟩ <|
  fa ⟨_, Tryz.func23, irc18_23⟩ <|
  fa ⟨_, Tryz.func24, irc18_24⟩ <|
  fa ⟨_, Tryz.func25, irc18_25⟩ <|
  fa ⟨_, Tryz.func26, irc18_26⟩ <|
  fa ⟨_, Tryz.func27, irc18_27⟩ <|
  fa ⟨_, Tryz.func28, irc18_28⟩ <|
  fa ⟨_, Tryz.func29, irc18_29⟩ <|
  fa ⟨_, Tryz.func30, irc18_30⟩ <|
  fa ⟨_, Tryz.func31, irc18_31⟩ <|
  fa ⟨_, Tryz.func34, irc18_34⟩ <|
  fa ⟨_, Tryz.func35, irc18_35⟩ <|
  fa ⟨_, Tryz.func36, irc18_36⟩ <|
  fa ⟨_, Tryz.func37, irc18_37⟩ <|
  fa ⟨_, Tryz.func39, irc18_39⟩ <|
  fa ⟨_, Tryz.func41, irc18_41⟩ <|
  fa ⟨_, Tryz.func42, irc18_42⟩ <|
  fa ⟨_, Tryz.func43, irc18_43⟩ <|
  fa ⟨_, Tryz.func44, irc18_44⟩ <|
  fa ⟨_, Tryz.func45, irc18_45⟩ <|
  fa ⟨_, Tryz.func46, irc18_46⟩ <|
  fa ⟨_, Tryz.func47, irc18_47⟩ <|
  fa ⟨_, Tryz.func48, irc18_48⟩ <|
  fa ⟨_, Tryz.func49, irc18_49⟩ <|
  fa ⟨_, Tryz.func50, irc18_50⟩ <|
  fa ⟨_, Tryz.func51, irc18_51⟩ <|
  fa ⟨_, Tryz.func52, irc18_52⟩ <|
  fa ⟨_, Tryz.func53, irc18_53⟩ <|
  fa ⟨_, Tryz.func54, irc18_54⟩ <|
  fa ⟨_, Tryz.func55, irc18_55⟩ <|
  fa ⟨_, Tryz.func56, irc18_56⟩ <|
  fa ⟨_, Tryz.func57, irc18_57⟩ <|
  fa ⟨_, Tryz.func58, irc18_58⟩ <|
  fa ⟨_, Tryz.func59, irc18_59⟩ <|
  fa ⟨_, Tryz.func60, irc18_60⟩ <|
  fa ⟨_, Tryz.func62, irc18_62⟩ <|
  fa ⟨_, Tryz.func63, irc18_63⟩ <|
  fa ⟨_, Tryz.func65, irc18_65⟩ <|
  fa ⟨_, Tryz.func66, irc18_66⟩ <|
  fa ⟨_, Tryz.func67, irc18_67⟩ <|
  fa ⟨_, Tryz.func68, irc18_68⟩ <|
  fa ⟨_, Tryz.func70, irc18_70⟩ <|
  fa ⟨_, Tryz.func71, irc18_71⟩ <|
  fa ⟨_, Tryz.func72, irc18_72⟩ <|
  fa ⟨_, Tryz.func73, irc18_73⟩ <|
  fa ⟨_, Tryz.func74, irc18_74⟩ <|
  fa ⟨_, Tryz.func75, irc18_75⟩ <|
  fa ⟨_, Tryz.func76, irc18_76⟩ <|
  fa ⟨_, Tryz.func77, irc18_77⟩ <|
  fa ⟨_, Tryz.func78, irc18_78⟩ <|
  fa ⟨_, Tryz.func79, irc18_79⟩ <|
  fa ⟨_, Tryz.func80, irc18_80⟩ <|
  fa ⟨_, Tryz.func81, irc18_81⟩ <|
  fa ⟨_, Tryz.func82, irc18_82⟩ <|
  fa ⟨_, Tryz.func83, irc18_83⟩ <|
  fa ⟨_, Tryz.func84, irc18_84⟩ <|
  fa ⟨_, Tryz.func85, irc18_85⟩ <|
  fa ⟨_, Tryz.func86, irc18_86⟩ <|
  fa ⟨_, Tryz.func87, irc18_87⟩ <|
  fa ⟨_, Tryz.func88, irc18_88⟩ <|
  fa ⟨_, Tryz.func89, irc18_89⟩ <|
  fa ⟨_, Tryz.func90, irc18_90⟩ <|
  fa ⟨_, Tryz.func91, irc18_91⟩ <|
  fa ⟨_, Tryz.func92, irc18_92⟩ <|
  fa ⟨_, Tryz.func95, irc18_95⟩ <|
  fa ⟨_, Tryz.func96, irc18_96⟩ <|
  fa ⟨_, Tryz.func97, irc18_97⟩ <|
  fa ⟨_, Tryz.func98, irc18_98⟩ <|
  fa ⟨_, Tryz.func99, irc18_99⟩ <|
  fa ⟨_, Tryz.func100, irc18_100⟩ <|
  fa ⟨_, Tryz.func103, irc18_103⟩ <|
  fa ⟨_, Tryz.func104, irc18_104⟩ <|
  fa ⟨_, Tryz.func105, irc18_105⟩ <|
  fa ⟨_, Tryz.func106, irc18_106⟩ <|
  fa ⟨_, Tryz.func107, irc18_107⟩ <|
  fa ⟨_, Tryz.func108, irc18_108⟩ <|
  fa ⟨_, Tryz.func110, irc18_110⟩ <|
  fa ⟨_, Tryz.func113, irc18_113⟩ <|
  fa ⟨_, Tryz.func117, irc18_117⟩ <|
  fa ⟨_, Tryz.func118, irc18_118⟩ <|
  fa ⟨_, Tryz.func119, irc18_119⟩ <|
  fa ⟨_, Tryz.func123, irc18_123⟩ <|
  fa ⟨_, Tryz.func124, irc18_124⟩ <|
  fa ⟨_, Tryz.func125, irc18_125⟩ <|
  fa ⟨_, Tryz.func127, irc18_127⟩ <|
  fa ⟨_, Tryz.func129, irc18_129⟩ <|
  fa ⟨_, Tryz.func130, irc18_130⟩ <|
  fa ⟨_, Tryz.func131, irc18_131⟩ <|
  fa ⟨_, Tryz.func132, irc18_132⟩ <|
  fa ⟨_, Tryz.func133, irc18_133⟩ <|
  fa ⟨_, Tryz.func134, irc18_134⟩ <|
  fa ⟨_, Tryz.func135, irc18_135⟩ <|
  fa ⟨_, Tryz.func137, irc18_137⟩ <|
  fa ⟨_, Tryz.func138, irc18_138⟩ <|
  fa ⟨_, Tryz.func139, irc18_139⟩ <|
  fa ⟨_, Tryz.func140, irc18_140⟩ <|
  fa ⟨_, Tryz.func141, irc18_141⟩ <|
  fa ⟨_, Tryz.func142, irc18_142⟩ <|
  fa ⟨_, Tryz.func143, irc18_143⟩ <|
  fa ⟨_, Tryz.func144, irc18_144⟩ <|
  fa ⟨_, Tryz.func146, irc18_146⟩ <|
  fa ⟨_, Tryz.func147, irc18_147⟩ <|
  fa ⟨_, Tryz.func148, irc18_148⟩ <|
  fa ⟨_, Tryz.func149, irc18_149⟩ <|
  fa ⟨_, Tryz.func150, irc18_150⟩ <|
  fa ⟨_, Tryz.func151, irc18_151⟩ <|
  fa ⟨_, Tryz.func154, irc18_154⟩ <|
  fa ⟨_, Tryz.func160, irc18_160⟩ <|
  fa ⟨_, Tryz.func162, irc18_162⟩ <|
  fa ⟨_, Tryz.func164, irc18_164⟩ <|
  fa ⟨_, Tryz.func168, irc18_168⟩ <|
  fa ⟨_, Tryz.func172, irc18_172⟩ <|
  fa ⟨_, Tryz.func173, irc18_173⟩ <|
  fa ⟨_, Tryz.func174, irc18_174⟩ <|
  fa ⟨_, Tryz.func176, irc18_176⟩ <|
  fa ⟨_, Tryz.func177, irc18_177⟩ <|
  fa ⟨_, Tryz.func178, irc18_178⟩ <|
  fa ⟨_, Tryz.func179, irc18_179⟩ <|
  fa ⟨_, Tryz.func180, irc18_180⟩ <|
  fa ⟨_, Tryz.func181, irc18_181⟩ <|
  fa ⟨_, Tryz.func185, irc18_185⟩ <|
  fa ⟨_, Tryz.func186, irc18_186⟩ <|
  fa ⟨_, Tryz.func187, irc18_187⟩ <|
  fa ⟨_, Tryz.func188, irc18_188⟩ <|
  fa ⟨_, Tryz.func189, irc18_189⟩ <|
  fa ⟨_, Tryz.func190, irc18_190⟩ <|
  fa ⟨_, Tryz.func191, irc18_191⟩ <|
  fa ⟨_, Tryz.func192, irc18_192⟩ <|
  fa ⟨_, Tryz.func194, irc18_194⟩ <|
  fa ⟨_, Tryz.func195, irc18_195⟩ <|
  fa ⟨_, Tryz.func197, irc18_197⟩ <|
  fa ⟨_, Tryz.func198, irc18_198⟩ <|
  fa ⟨_, Tryz.func199, irc18_199⟩ <|
  fa ⟨_, Tryz.func200, irc18_200⟩ <|
  fa ⟨_, Tryz.func204, irc18_204⟩ <|
  fa ⟨_, Tryz.func205, irc18_205⟩ <|
  fa ⟨_, Tryz.func206, irc18_206⟩ <|
  fa ⟨_, Tryz.func209, irc18_209⟩ <|
  fa ⟨_, Tryz.func211, irc18_211⟩ <|
  fa ⟨_, Tryz.func214, irc18_214⟩ <|
  fa ⟨_, Tryz.func216, irc18_216⟩ <|
  fa ⟨_, Tryz.func217, irc18_217⟩ <|
  fa ⟨_, Tryz.func239, irc18_239⟩ <|
  fa ⟨_, Tryz.func240, irc18_240⟩ <|
  fa ⟨_, Tryz.func242, irc18_242⟩ <|
  fa ⟨_, Tryz.func253, irc18_253⟩ <|
  fa ⟨_, Tryz.func254, irc18_254⟩ <|
  fa ⟨_, Tryz.func255, irc18_255⟩ <|
  fa ⟨_, Tryz.func257, irc18_257⟩ <|
  fa ⟨_, Tryz.func259, irc18_259⟩ <|
  fa ⟨_, Tryz.func261, irc18_261⟩ <|
  fa ⟨_, Tryz.func262, irc18_262⟩ <|
  fa ⟨_, Tryz.func265, irc18_265⟩ <|
  fa ⟨_, Tryz.func266, irc18_266⟩ <|
  fa ⟨_, Tryz.func267, irc18_267⟩ <|
  fa ⟨_, Tryz.func269, irc18_269⟩ <|
  fa ⟨_, Tryz.func270, irc18_270⟩ <|
  fa ⟨_, Tryz.func271, irc18_271⟩ <|
  fa ⟨_, Tryz.func272, irc18_272⟩ <|
  fa ⟨_, Tryz.func273, irc18_273⟩ <|
  fa ⟨_, Tryz.func274, irc18_274⟩ <|
  fa ⟨_, Tryz.func275, irc18_275⟩ <|
  fa ⟨_, Tryz.func278, irc18_278⟩ <|
  fa ⟨_, Tryz.func282, irc18_282⟩ <|
  fa ⟨_, Tryz.func283, irc18_283⟩ <|
  fa ⟨_, Tryz.func284, irc18_284⟩ <|
  fa ⟨_, Tryz.func286, irc18_286⟩ <|
  fa ⟨_, Tryz.func287, irc18_287⟩ <|
  fa ⟨_, Tryz.func288, irc18_288⟩ <|
  fa ⟨_, Tryz.func289, irc18_289⟩ <|
  fa ⟨_, Tryz.func293, irc18_293⟩ <|
  fa ⟨_, Tryz.func297, irc18_297⟩ <|
  fa ⟨_, Tryz.func301, irc18_301⟩ <|
  fa ⟨_, Tryz.func302, irc18_302⟩ <|
  fa ⟨_, Tryz.func305, irc18_305⟩ <|
  fa ⟨_, Tryz.func306, irc18_306⟩ <|
  fa ⟨_, Tryz.func307, irc18_307⟩ <|
  fa ⟨_, Tryz.func310, irc18_310⟩ <|
  fa ⟨_, Tryz.func311, irc18_311⟩ <|
  fa ⟨_, Tryz.func312, irc18_312⟩ <|
  fa ⟨_, Tryz.func313, irc18_313⟩ <|
  fa ⟨_, Tryz.func314, irc18_314⟩ <|
  fa ⟨_, Tryz.func315, irc18_315⟩ <|
  fa ⟨_, Tryz.func316, irc18_316⟩ <|
  fa ⟨_, Tryz.func317, irc18_317⟩ <|
  fa ⟨_, Tryz.func320, irc18_320⟩ <|
  fa ⟨_, Tryz.func321, irc18_321⟩ <|
  fa ⟨_, Tryz.func322, irc18_322⟩ <|
  fa ⟨_, Tryz.func323, irc18_323⟩ <|
  fa ⟨_, Tryz.func324, irc18_324⟩ <|
  fa ⟨_, Tryz.func327, irc18_327⟩ <|
  fa ⟨_, Tryz.func328, irc18_328⟩ <|
  fa ⟨_, Tryz.func329, irc18_329⟩ <|
  fa ⟨_, Tryz.func330, irc18_330⟩ <|
  fa ⟨_, Tryz.func331, irc18_331⟩ <|
  fa ⟨_, Tryz.func337, irc18_337⟩ <|
  fa ⟨_, Tryz.func339, irc18_339⟩ <|
  fa ⟨_, Tryz.func340, irc18_340⟩ <|
  fa ⟨_, Tryz.func341, irc18_341⟩ <|
  fa ⟨_, Tryz.func347, irc18_347⟩ <|
  fa ⟨_, Tryz.func351, irc18_351⟩ <|
  fa ⟨_, Tryz.func352, irc18_352⟩ <|
  fa ⟨_, Tryz.func358, irc18_358⟩ <|
  fa ⟨_, Tryz.func359, irc18_359⟩ <|
  fa ⟨_, Tryz.func361, irc18_361⟩ <|
  fa ⟨_, Tryz.func375, irc18_375⟩ <|
  fa ⟨_, Tryz.func376, irc18_376⟩ <|
  fa ⟨_, Tryz.func391, irc18_391⟩ <|
  fa ⟨_, Tryz.func396, irc18_396⟩ <|
  fa ⟨_, Tryz.func399, irc18_399⟩ <|
  fz
theorem irTab_ok18 : TabOk Tryz.prog irTab18 := tab_of irTab_eq18 irSmall18 irAll18
theorem follows_mix18 : Tryz.prog.follows .mixedOrders = true := by kernel_rfl
theorem size_g18 : Tryz.prog.globals.size = 6 := by kernel_rfl
def letterVals18 : List Value := [.int .u8 97, .int .u8 122, .int .u8 65, .int .u8 90, .int .u8 48, .int .u8 57, .int .u8 95, .int .u8 95]
def told18 : List (Nat × List TV) := [(0, [.i .u8 97, .i .u8 122, .i .u8 65, .i .u8 90, .i .u8 48, .i .u8 57, .i .u8 95, .i .u8 95])]
def wkT18 : List (Nat × String × Nat) := []
def wkM18 (lay : Nat → List Kd) : Meth := ⟨tabM wkT18, fun _ _ => none, lay⟩
theorem wkM_ok18 {ρ : Cx} (hp : ρ.prog = Tryz.prog) : MethOk Tryz.prog ρ (wkM18 ρ.lay) := ⟨tabM_ok (l := wkT18) fun x hx =>  (by cases hx), fun _ _ _ h => (by cases h), rfl, hp⟩
def digs18 : List (List Nat × Int) := [([48], 0), ([49], 1), ([50], 2), ([51], 3), ([52], 4), ([53], 5), ([54], 6), ([55], 7), ([56], 8), ([57], 9)]
def wkO18 : List (Nat × (List TV → SH → Option (TV × SH))) := [(285, sOrc digs18)]
def memoA18_56_0 : List TV := [(.ag [(.sl 767 0 5 1 1 true), (.sl 765 0 14 16 16 true), .sln])]
def memoL18_56_0 : Tls := [(0, [(.i .u8 97), (.i .u8 122), (.i .u8 65), (.i .u8 90), (.i .u8 48), (.i .u8 57), (.i .u8 95), (.i .u8 95)], none), (765, [(.i .i8 1), (.i .i64 0), (.i .i64 0), (.i .i8 0), (.i .i64 0), (.s []), (.s []), .sln, (.i .i8 0), (.i .i64 0), (.s []), (.s []), .sln, .sln, (.i .i8 13), (.i .i64 4), (.i .i64 1), (.i .i8 0), (.i .i64 0), (.s []), (.s []), .sln, (.i .i8 6), (.i .i64 0), (.s []), (.s []), .sln, .sln, (.i .i8 0), (.i .i64 0), (.i .i64 0), (.i .i8 0), (.i .i64 1), (.s []), (.s []), .sln, (.i .i8 0), (.i .i64 0), (.s []), (.s []), .sln, .sln, (.i .i8 11), (.i .i64 0), (.i .i64 0), (.i .i8 0), (.i .i64 0), (.s []), (.s []), .sln, (.i .i8 0), (.i .i64 0), (.s []), (.s []), .sln, .sln, (.i .i8 3), (.i .i64 0), (.i .i64 0), (.i .i8 0), (.i .i64 0), (.s []), (.s []), .sln, (.i .i8 0), (.i .i64 0), (.s []), (.s []), .sln, .sln, (.i .i8 1), (.i .i64 0), (.i .i64 0), (.i .i8 0), (.i .i64 0), (.s []), (.s []), .sln, (.i .i8 0), (.i .i64 0), (.s []), (.s []), .sln, .sln, (.i .i8 13), (.i .i64 14), (.i .i64 1), (.i .i8 0), (.i .i64 0), (.s []), (.s []), .sln, (.i .i8 5), (.i .i64 0), (.s [86, 49]), (.s []), .sln, .sln, (.i .i8 1), (.i .i64 1), (.i .i64 0), (.i .i8 0), (.i .i64 0), (.s []), (.s []), .sln, (.i .i8 0), (.i .i64 0), (.s []), (.s []), .sln, .sln, (.i .i8 1), (.i .i64 1), (.i .i64 0), (.i .i8 0), (.i .i64 0), (.s []), (.s []), .sln, (.i .i8 0), (.i .i64 0), (.s []), (.s []), .sln, .sln, (.i .i8 0), (.i .i64 0), (.i .i64 0), (.i .i8 0), (.i .i64 1), (.s []), (.s []), .sln, (.i .i8 0), (.i .i64 0), (.s []), (.s []), .sln, .sln, (.i .i8 6), (.i .i64 0), (.i .i64 0), (.i .i8 1), (.i .i64 0), (.s [45]), (.s []), .sln, (.i .i8 0), (.i .i64 0), (.s []), (.s []), .sln, .sln, (.i .i8 8), (.i .i64 1), (.i .i64 0), (.i .i8 0), (.i .i64 0), (.s []), (.s []), .sln, (.i .i8 0), (.i .i64 0), (.s []), (.s []), .sln, .sln, (.i .i8 6), (.i .i64 0), (.i .i64 0), (.i .i8 1), (.i .i64 0), (.s [42]), (.s []), .sln, (.i .i8 0), (.i .i64 0), (.s []), (.s []), .sln, .sln, (.i .i8 11), (.i .i64 0), (.i .i64 0), (.i .i8 0), (.i .i64 0), (.s []), (.s []), .sln, (.i .i8 0), (.i .i64 0), (.s []), (.s []), .sln, .sln, (.i .i8 3), (.i .i64 0), (.i .i64 0), (.i .i8 0), (.i .i64 0), (.s []), (.s []), .sln, (.i .i8 0), (.i .i64 0), (.s []), (.s []), .sln, .sln, (.i .i8 15), (.i .i64 0), (.i .i64 0), (.i .i8 1), (.i .i64 0), (.s [102, 117, 110, 99, 116, 105, 111, 110, 95, 99, 108, 97, 117, 115, 101]), (.s []), .sln, (.i .i8 0), (.i .i64 0), (.s []), (.s []), .sln, .sln], some 41), (767, [(.s [109]), (.s [102]), (.i .i64 1), (.i .i64 0), (.i .i64 2)], some 90)]
def memoA18_58_0 : List TV := [(.ag [(.i .i8 0), (.i .i64 5), (.s []), (.s []), .sln])]
def memoL18_58_0 : Tls := []
def memoA18_58_1 : List TV := [(.ag [(.i .i8 0), (.i .i64 0), (.s []), (.s []), .sln])]
def memoL18_58_1 : Tls := []
def memoA18_58_2 : List TV := [(.ag [(.i .i8 0), (.i .i64 1), (.s []), (.s []), .sln])]
def memoL18_58_2 : Tls := []
def memoA18_58_3 : List TV := [(.ag [(.i .i8 0), (.i .i64 4), (.s []), (.s []), .sln])]
def memoL18_58_3 : Tls := []
def memoA18_58_4 : List TV := [(.ag [(.i .i8 0), (.i .i64 3), (.s []), (.s []), .sln])]
def memoL18_58_4 : Tls := []
def memoA18_58_5 : List TV := [(.ag [(.i .i8 0), (.i .i64 2), (.s []), (.s []), .sln])]
def memoL18_58_5 : Tls := []
def memoA18_58_6 : List TV := [(.ag [(.i .i8 0), (.i .i64 6), (.s []), (.s []), .sln])]
def memoL18_58_6 : Tls := []
def memoA18_58_7 : List TV := [(.ag [(.i .i8 0), (.i .i64 24), (.s []), (.s []), .sln])]
def memoL18_58_7 : Tls := []
def memoA18_58_8 : List TV := [(.ag [(.i .i8 0), (.i .i64 120), (.s []), (.s []), .sln])]
def memoL18_58_8 : Tls := []
def memoA18_118_0 : List TV := [(.s [45]), (.ag [(.i .i8 0), (.i .i64 5), (.s []), (.s []), .sln]), (.ag [(.i .i8 0), (.i .i64 1), (.s []), (.s []), .sln])]
def memoL18_118_0 : Tls := []
def memoA18_118_1 : List TV := [(.s [45]), (.ag [(.i .i8 0), (.i .i64 4), (.s []), (.s []), .sln]), (.ag [(.i .i8 0), (.i .i64 1), (.s []), (.s []), .sln])]
def memoL18_118_1 : Tls := []
def memoA18_118_2 : List TV := [(.s [45]), (.ag [(.i .i8 0), (.i .i64 3), (.s []), (.s []), .sln]), (.ag [(.i .i8 0), (.i .i64 1), (.s []), (.s []), .sln])]
def memoL18_118_2 : Tls := []
def memoA18_118_3 : List TV := [(.s [45]), (.ag [(.i .i8 0), (.i .i64 2), (.s []), (.s []), .sln]), (.ag [(.i .i8 0), (.i .i64 1), (.s []), (.s []), .sln])]
def memoL18_118_3 : Tls := []
def memoA18_118_4 : List TV := [(.s [45]), (.ag [(.i .i8 0), (.i .i64 1), (.s []), (.s []), .sln]), (.ag [(.i .i8 0), (.i .i64 1), (.s []), (.s []), .sln])]
def memoL18_118_4 : Tls := []
def memoA18_118_5 : List TV := [(.s [42]), (.ag [(.i .i8 0), (.i .i64 1), (.s []), (.s []), .sln]), (.ag [(.i .i8 0), (.i .i64 1), (.s []), (.s []), .sln])]
def memoL18_118_5 : Tls := []
def memoA18_118_6 : List TV := [(.s [42]), (.ag [(.i .i8 0), (.i .i64 2), (.s []), (.s []), .sln]), (.ag [(.i .i8 0), (.i .i64 1), (.s []), (.s []), .sln])]
def memoL18_118_6 : Tls := []
def memoA18_118_7 : List TV := [(.s [42]), (.ag [(.i .i8 0), (.i .i64 3), (.s []), (.s []), .sln]), (.ag [(.i .i8 0), (.i .i64 2), (.s []), (.s []), .sln])]
def memoL18_118_7 : Tls := []
def memoA18_118_8 : List TV := [(.s [42]), (.ag [(.i .i8 0), (.i .i64 4), (.s []), (.s []), .sln]), (.ag [(.i .i8 0), (.i .i64 6), (.s []), (.s []), .sln])]
def memoL18_118_8 : Tls := []
def memoA18_118_9 : List TV := [(.s [42]), (.ag [(.i .i8 0), (.i .i64 5), (.s []), (.s []), .sln]), (.ag [(.i .i8 0), (.i .i64 24), (.s []), (.s []), .sln])]
def memoL18_118_9 : Tls := []
def memoA18_16_0 : List TV := [(.ag [(.sl 767 0 5 1 1 true), (.sl 765 0 14 16 16 true), .sln]), (.i .i64 0), (.sl 770 0 5 1 1 false), (.i .i64 200)]
def memoL18_16_0 : Tls := (memoL18_56_0 ++ [(770, [(.i .i8 0), (.i .i64 5), (.s []), (.s []), .sln], some 27)])
theorem wkO_ok18 {ρ : Cx} (_ : ρ.prog = Tryz.prog) (_ : ∀ j, scalV (ρ j)) (B : Nat) : ∀ p, p ∈ wkO18 → OneOk Tryz.prog ρ B p.1 p.2 := by
  intro p hp
  simp only [wkO18, List.mem_cons, List.not_mem_nil, or_false] at hp
  rcases hp with rfl
  · refine s_ok Tryz.func285 (by kernel_rfl) (by kernel_rfl) fun p hp w => ?_
    simp only [digs18, List.mem_cons, List.not_mem_nil, or_false] at hp
    rcases hp with rfl | rfl | rfl | rfl | rfl | rfl | rfl | rfl | rfl | rfl
    all_goals exact atoi_ok _ (by decide) _ (by kernel_rfl) w
theorem memoRun18_56_0 (lay : Nat → List Kd) (tys : Nat → Nat) : okV (.i .i64 0) (run (wkM18 lay) irTab18 (listOrc wkO18) 100000 200 (.fn 56) memoA18_56_0 (memoS tys memoL18_56_0 775)) = true := (congrArg (fun r : CallT => okV (.i .i64 0) (r (.fn 56) memoA18_56_0 (memoS tys memoL18_56_0 775))) (run_u (wkM18 lay) irTab18 wkO18 100000 200)).trans (by kernel_rfl)
def memoE18_56 : List (List TV × Tls × TV) := [(memoA18_56_0, memoL18_56_0, (.i .i64 0))]
def wkP18_56 : List (Nat × (List TV → SH → Option (TV × SH))) := (56, memoOrcL memoE18_56) :: wkO18
theorem memo_all18_56 {ρ : Cx} (hp0 : ρ.prog = Tryz.prog) (hρ : ∀ j, scalV (ρ j)) (B : Nat) : ∀ p, p ∈ memoE18_56 → OneOk Tryz.prog ρ B 56 (memoOrc p.1 p.2.1 p.2.2) :=
  fa (memo_ok (args0 := memoA18_56_0) (L := memoL18_56_0) (nx := 775) (v0 := (.i .i64 0)) hρ (wkM_ok18 hp0) follows_mix18 irTab_ok18 (fun B => listOrc_ok (wkO_ok18 hp0 hρ B)) (by kernel_rfl) (by rw [size_g18]; decide) (by decide) (by kernel_rfl) (by kernel_rfl) (memoRun18_56_0 _)) <|
  fz
theorem wkP_ok18_56 {ρ : Cx} (hp0 : ρ.prog = Tryz.prog) (hρ : ∀ j, scalV (ρ j)) (B : Nat) : ∀ p, p ∈ wkP18_56 → OneOk Tryz.prog ρ B p.1 p.2 :=
  fa (memoL_ok (memo_all18_56 hp0 hρ B)) (wkO_ok18 hp0 hρ B)
theorem memoRun18_58_0 (lay : Nat → List Kd) (tys : Nat → Nat) : okV (.b false) (run (wkM18 lay) irTab18 (listOrc wkP18_56) 100000 200 (.fn 58) memoA18_58_0 (memoS tys memoL18_58_0 775)) = true := (congrArg (fun r : CallT => okV (.b false) (r (.fn 58) memoA18_58_0 (memoS tys memoL18_58_0 775))) (run_u (wkM18 lay) irTab18 wkP18_56 100000 200)).trans (by kernel_rfl)
theorem memoRun18_58_1 (lay : Nat → List Kd) (tys : Nat → Nat) : okV (.b false) (run (wkM18 lay) irTab18 (listOrc wkP18_56) 100000 200 (.fn 58) memoA18_58_1 (memoS tys memoL18_58_1 788)) = true := (congrArg (fun r : CallT => okV (.b false) (r (.fn 58) memoA18_58_1 (memoS tys memoL18_58_1 788))) (run_u (wkM18 lay) irTab18 wkP18_56 100000 200)).trans (by kernel_rfl)
theorem memoRun18_58_2 (lay : Nat → List Kd) (tys : Nat → Nat) : okV (.b false) (run (wkM18 lay) irTab18 (listOrc wkP18_56) 100000 200 (.fn 58) memoA18_58_2 (memoS tys memoL18_58_2 1075)) = true := (congrArg (fun r : CallT => okV (.b false) (r (.fn 58) memoA18_58_2 (memoS tys memoL18_58_2 1075))) (run_u (wkM18 lay) irTab18 wkP18_56 100000 200)).trans (by kernel_rfl)
theorem memoRun18_58_3 (lay : Nat → List Kd) (tys : Nat → Nat) : okV (.b false) (run (wkM18 lay) irTab18 (listOrc wkP18_56) 100000 200 (.fn 58) memoA18_58_3 (memoS tys memoL18_58_3 1101)) = true := (congrArg (fun r : CallT => okV (.b false) (r (.fn 58) memoA18_58_3 (memoS tys memoL18_58_3 1101))) (run_u (wkM18 lay) irTab18 wkP18_56 100000 200)).trans (by kernel_rfl)
theorem memoRun18_58_4 (lay : Nat → List Kd) (tys : Nat → Nat) : okV (.b false) (run (wkM18 lay) irTab18 (listOrc wkP18_56) 100000 200 (.fn 58) memoA18_58_4 (memoS tys memoL18_58_4 1463)) = true := (congrArg (fun r : CallT => okV (.b false) (r (.fn 58) memoA18_58_4 (memoS tys memoL18_58_4 1463))) (run_u (wkM18 lay) irTab18 wkP18_56 100000 200)).trans (by kernel_rfl)
theorem memoRun18_58_5 (lay : Nat → List Kd) (tys : Nat → Nat) : okV (.b false) (run (wkM18 lay) irTab18 (listOrc wkP18_56) 100000 200 (.fn 58) memoA18_58_5 (memoS tys memoL18_58_5 1833)) = true := (congrArg (fun r : CallT => okV (.b false) (r (.fn 58) memoA18_58_5 (memoS tys memoL18_58_5 1833))) (run_u (wkM18 lay) irTab18 wkP18_56 100000 200)).trans (by kernel_rfl)
theorem memoRun18_58_6 (lay : Nat → List Kd) (tys : Nat → Nat) : okV (.b false) (run (wkM18 lay) irTab18 (listOrc wkP18_56) 100000 200 (.fn 58) memoA18_58_6 (memoS tys memoL18_58_6 3050)) = true := (congrArg (fun r : CallT => okV (.b false) (r (.fn 58) memoA18_58_6 (memoS tys memoL18_58_6 3050))) (run_u (wkM18 lay) irTab18 wkP18_56 100000 200)).trans (by kernel_rfl)
theorem memoRun18_58_7 (lay : Nat → List Kd) (tys : Nat → Nat) : okV (.b false) (run (wkM18 lay) irTab18 (listOrc wkP18_56) 100000 200 (.fn 58) memoA18_58_7 (memoS tys memoL18_58_7 3120)) = true := (congrArg (fun r : CallT => okV (.b false) (r (.fn 58) memoA18_58_7 (memoS tys memoL18_58_7 3120))) (run_u (wkM18 lay) irTab18 wkP18_56 100000 200)).trans (by kernel_rfl)
theorem memoRun18_58_8 (lay : Nat → List Kd) (tys : Nat → Nat) : okV (.b false) (run (wkM18 lay) irTab18 (listOrc wkP18_56) 100000 200 (.fn 58) memoA18_58_8 (memoS tys memoL18_58_8 3182)) = true := (congrArg (fun r : CallT => okV (.b false) (r (.fn 58) memoA18_58_8 (memoS tys memoL18_58_8 3182))) (run_u (wkM18 lay) irTab18 wkP18_56 100000 200)).trans (by kernel_rfl)
def memoE18_58 : List (List TV × Tls × TV) := [(memoA18_58_0, memoL18_58_0, (.b false)), (memoA18_58_1, memoL18_58_1, (.b false)), (memoA18_58_2, memoL18_58_2, (.b false)), (memoA18_58_3, memoL18_58_3, (.b false)), (memoA18_58_4, memoL18_58_4, (.b false)), (memoA18_58_5, memoL18_58_5, (.b false)), (memoA18_58_6, memoL18_58_6, (.b false)), (memoA18_58_7, memoL18_58_7, (.b false)), (memoA18_58_8, memoL18_58_8, (.b false))]
def wkP18_58 : List (Nat × (List TV → SH → Option (TV × SH))) := (58, memoOrcL memoE18_58) :: wkP18_56
theorem memo_all18_58 {ρ : Cx} (hp0 : ρ.prog = Tryz.prog) (hρ : ∀ j, scalV (ρ j)) (B : Nat) : ∀ p, p ∈ memoE18_58 → OneOk Tryz.prog ρ B 58 (memoOrc p.1 p.2.1 p.2.2) :=
  fa (memo_ok (args0 := memoA18_58_0) (L := memoL18_58_0) (nx := 775) (v0 := (.b false)) hρ (wkM_ok18 hp0) follows_mix18 irTab_ok18 (fun B => listOrc_ok (wkP_ok18_56 hp0 hρ B)) (by kernel_rfl) (by rw [size_g18]; decide) (by decide) (by kernel_rfl) (by kernel_rfl) (memoRun18_58_0 _)) <|
  fa (memo_ok (args0 := memoA18_58_1) (L := memoL18_58_1) (nx := 788) (v0 := (.b false)) hρ (wkM_ok18 hp0) follows_mix18 irTab_ok18 (fun B => listOrc_ok (wkP_ok18_56 hp0 hρ B)) (by kernel_rfl) (by rw [size_g18]; decide) (by decide) (by kernel_rfl) (by kernel_rfl) (memoRun18_58_1 _)) <|
  fa (memo_ok (args0 := memoA18_58_2) (L := memoL18_58_2) (nx := 1075) (v0 := (.b false)) hρ (wkM_ok18 hp0) follows_mix18 irTab_ok18 (fun B => listOrc_ok (wkP_ok18_56 hp0 hρ B)) (by kernel_rfl) (by rw [size_g18]; decide) (by decide) (by kernel_rfl) (by kernel_rfl) (memoRun18_58_2 _)) <|
  fa (memo_ok (args0 := memoA18_58_3) (L := memoL18_58_3) (nx := 1101) (v0 := (.b false)) hρ (wkM_ok18 hp0) follows_mix18 irTab_ok18 (fun B => listOrc_ok (wkP_ok18_56 hp0 hρ B)) (by kernel_rfl) (by rw [size_g18]; decide) (by decide) (by kernel_rfl) (by kernel_rfl) (memoRun18_58_3 _)) <|
  fa (memo_ok (args0 := memoA18_58_4) (L := memoL18_58_4) (nx := 1463) (v0 := (.b false)) hρ (wkM_ok18 hp0) follows_mix18 irTab_ok18 (fun B => listOrc_ok (wkP_ok18_56 hp0 hρ B)) (by kernel_rfl) (by rw [size_g18]; decide) (by decide) (by kernel_rfl) (by kernel_rfl) (memoRun18_58_4 _)) <|
  fa (memo_ok (args0 := memoA18_58_5) (L := memoL18_58_5) (nx := 1833) (v0 := (.b false)) hρ (wkM_ok18 hp0) follows_mix18 irTab_ok18 (fun B => listOrc_ok (wkP_ok18_56 hp0 hρ B)) (by kernel_rfl) (by rw [size_g18]; decide) (by decide) (by kernel_rfl) (by kernel_rfl) (memoRun18_58_5 _)) <|
  fa (memo_ok (args0 := memoA18_58_6) (L := memoL18_58_6) (nx := 3050) (v0 := (.b false)) hρ (wkM_ok18 hp0) follows_mix18 irTab_ok18 (fun B => listOrc_ok (wkP_ok18_56 hp0 hρ B)) (by kernel_rfl) (by rw [size_g18]; decide) (by decide) (by kernel_rfl) (by kernel_rfl) (memoRun18_58_6 _)) <|
  fa (memo_ok (args0 := memoA18_58_7) (L := memoL18_58_7) (nx := 3120) (v0 := (.b false)) hρ (wkM_ok18 hp0) follows_mix18 irTab_ok18 (fun B => listOrc_ok (wkP_ok18_56 hp0 hρ B)) (by kernel_rfl) (by rw [size_g18]; decide) (by decide) (by kernel_rfl) (by kernel_rfl) (memoRun18_58_7 _)) <|
  fa (memo_ok (args0 := memoA18_58_8) (L := memoL18_58_8) (nx := 3182) (v0 := (.b false)) hρ (wkM_ok18 hp0) follows_mix18 irTab_ok18 (fun B => listOrc_ok (wkP_ok18_56 hp0 hρ B)) (by kernel_rfl) (by rw [size_g18]; decide) (by decide) (by kernel_rfl) (by kernel_rfl) (memoRun18_58_8 _)) <|
  fz
theorem wkP_ok18_58 {ρ : Cx} (hp0 : ρ.prog = Tryz.prog) (hρ : ∀ j, scalV (ρ j)) (B : Nat) : ∀ p, p ∈ wkP18_58 → OneOk Tryz.prog ρ B p.1 p.2 :=
  fa (memoL_ok (memo_all18_58 hp0 hρ B)) (wkP_ok18_56 hp0 hρ B)
theorem memoRun18_118_0 (lay : Nat → List Kd) (tys : Nat → Nat) : okV (.ag [(.i .i8 0), (.i .i8 0), (.i .i64 4), (.s []), (.s []), .sln, (.i .i8 0)]) (run (wkM18 lay) irTab18 (listOrc wkP18_58) 100000 200 (.fn 118) memoA18_118_0 (memoS tys memoL18_118_0 1088)) = true := (congrArg (fun r : CallT => okV (.ag [(.i .i8 0), (.i .i8 0), (.i .i64 4), (.s []), (.s []), .sln, (.i .i8 0)]) (r (.fn 118) memoA18_118_0 (memoS tys memoL18_118_0 1088))) (run_u (wkM18 lay) irTab18 wkP18_58 100000 200)).trans (by kernel_rfl)
theorem memoRun18_118_1 (lay : Nat → List Kd) (tys : Nat → Nat) : okV (.ag [(.i .i8 0), (.i .i8 0), (.i .i64 3), (.s []), (.s []), .sln, (.i .i8 0)]) (run (wkM18 lay) irTab18 (listOrc wkP18_58) 100000 200 (.fn 118) memoA18_118_1 (memoS tys memoL18_118_1 1450)) = true := (congrArg (fun r : CallT => okV (.ag [(.i .i8 0), (.i .i8 0), (.i .i64 3), (.s []), (.s []), .sln, (.i .i8 0)]) (r (.fn 118) memoA18_118_1 (memoS tys memoL18_118_1 1450))) (run_u (wkM18 lay) irTab18 wkP18_58 100000 200)).trans (by kernel_rfl)
theorem memoRun18_118_2 (lay : Nat → List Kd) (tys : Nat → Nat) : okV (.ag [(.i .i8 0), (.i .i8 0), (.i .i64 2), (.s []), (.s []), .sln, (.i .i8 0)]) (run (wkM18 lay) irTab18 (listOrc wkP18_58) 100000 200 (.fn 118) memoA18_118_2 (memoS tys memoL18_118_2 1820)) = true := (congrArg (fun r : CallT => okV (.ag [(.i .i8 0), (.i .i8 0), (.i .i64 2), (.s []), (.s []), .sln, (.i .i8 0)]) (r (.fn 118) memoA18_118_2 (memoS tys memoL18_118_2 1820))) (run_u (wkM18 lay) irTab18 wkP18_58 100000 200)).trans (by kernel_rfl)
theorem memoRun18_118_3 (lay : Nat → List Kd) (tys : Nat → Nat) : okV (.ag [(.i .i8 0), (.i .i8 0), (.i .i64 1), (.s []), (.s []), .sln, (.i .i8 0)]) (run (wkM18 lay) irTab18 (listOrc wkP18_58) 100000 200 (.fn 118) memoA18_118_3 (memoS tys memoL18_118_3 2198)) = true := (congrArg (fun r : CallT => okV (.ag [(.i .i8 0), (.i .i8 0), (.i .i64 1), (.s []), (.s []), .sln, (.i .i8 0)]) (r (.fn 118) memoA18_118_3 (memoS tys memoL18_118_3 2198))) (run_u (wkM18 lay) irTab18 wkP18_58 100000 200)).trans (by kernel_rfl)
theorem memoRun18_118_4 (lay : Nat → List Kd) (tys : Nat → Nat) : okV (.ag [(.i .i8 0), (.i .i8 0), (.i .i64 0), (.s []), (.s []), .sln, (.i .i8 0)]) (run (wkM18 lay) irTab18 (listOrc wkP18_58) 100000 200 (.fn 118) memoA18_118_4 (memoS tys memoL18_118_4 2584)) = true := (congrArg (fun r : CallT => okV (.ag [(.i .i8 0), (.i .i8 0), (.i .i64 0), (.s []), (.s []), .sln, (.i .i8 0)]) (r (.fn 118) memoA18_118_4 (memoS tys memoL18_118_4 2584))) (run_u (wkM18 lay) irTab18 wkP18_58 100000 200)).trans (by kernel_rfl)
theorem memoRun18_118_5 (lay : Nat → List Kd) (tys : Nat → Nat) : okV (.ag [(.i .i8 0), (.i .i8 0), (.i .i64 1), (.s []), (.s []), .sln, (.i .i8 0)]) (run (wkM18 lay) irTab18 (listOrc wkP18_58) 100000 200 (.fn 118) memoA18_118_5 (memoS tys memoL18_118_5 2873)) = true := (congrArg (fun r : CallT => okV (.ag [(.i .i8 0), (.i .i8 0), (.i .i64 1), (.s []), (.s []), .sln, (.i .i8 0)]) (r (.fn 118) memoA18_118_5 (memoS tys memoL18_118_5 2873))) (run_u (wkM18 lay) irTab18 wkP18_58 100000 200)).trans (by kernel_rfl)
theorem memoRun18_118_6 (lay : Nat → List Kd) (tys : Nat → Nat) : okV (.ag [(.i .i8 0), (.i .i8 0), (.i .i64 2), (.s []), (.s []), .sln, (.i .i8 0)]) (run (wkM18 lay) irTab18 (listOrc wkP18_58) 100000 200 (.fn 118) memoA18_118_6 (memoS tys memoL18_118_6 2959)) = true := (congrArg (fun r : CallT => okV (.ag [(.i .i8 0), (.i .i8 0), (.i .i64 2), (.s []), (.s []), .sln, (.i .i8 0)]) (r (.fn 118) memoA18_118_6 (memoS tys memoL18_118_6 2959))) (run_u (wkM18 lay) irTab18 wkP18_58 100000 200)).trans (by kernel_rfl)
theorem memoRun18_118_7 (lay : Nat → List Kd) (tys : Nat → Nat) : okV (.ag [(.i .i8 0), (.i .i8 0), (.i .i64 6), (.s []), (.s []), .sln, (.i .i8 0)]) (run (wkM18 lay) irTab18 (listOrc wkP18_58) 100000 200 (.fn 118) memoA18_118_7 (memoS tys memoL18_118_7 3037)) = true := (congrArg (fun r : CallT => okV (.ag [(.i .i8 0), (.i .i8 0), (.i .i64 6), (.s []), (.s []), .sln, (.i .i8 0)]) (r (.fn 118) memoA18_118_7 (memoS tys memoL18_118_7 3037))) (run_u (wkM18 lay) irTab18 wkP18_58 100000 200)).trans (by kernel_rfl)
theorem memoRun18_118_8 (lay : Nat → List Kd) (tys : Nat → Nat) : okV (.ag [(.i .i8 0), (.i .i8 0), (.i .i64 24), (.s []), (.s []), .sln, (.i .i8 0)]) (run (wkM18 lay) irTab18 (listOrc wkP18_58) 100000 200 (.fn 118) memoA18_118_8 (memoS tys memoL18_118_8 3107)) = true := (congrArg (fun r : CallT => okV (.ag [(.i .i8 0), (.i .i8 0), (.i .i64 24), (.s []), (.s []), .sln, (.i .i8 0)]) (r (.fn 118) memoA18_118_8 (memoS tys memoL18_118_8 3107))) (run_u (wkM18 lay) irTab18 wkP18_58 100000 200)).trans (by kernel_rfl)
theorem memoRun18_118_9 (lay : Nat → List Kd) (tys : Nat → Nat) : okV (.ag [(.i .i8 0), (.i .i8 0), (.i .i64 120), (.s []), (.s []), .sln, (.i .i8 0)]) (run (wkM18 lay) irTab18 (listOrc wkP18_58) 100000 200 (.fn 118) memoA18_118_9 (memoS tys memoL18_118_9 3169)) = true := (congrArg (fun r : CallT => okV (.ag [(.i .i8 0), (.i .i8 0), (.i .i64 120), (.s []), (.s []), .sln, (.i .i8 0)]) (r (.fn 118) memoA18_118_9 (memoS tys memoL18_118_9 3169))) (run_u (wkM18 lay) irTab18 wkP18_58 100000 200)).trans (by kernel_rfl)
def memoE18_118 : List (List TV × Tls × TV) := [(memoA18_118_0, memoL18_118_0, (.ag [(.i .i8 0), (.i .i8 0), (.i .i64 4), (.s []), (.s []), .sln, (.i .i8 0)])), (memoA18_118_1, memoL18_118_1, (.ag [(.i .i8 0), (.i .i8 0), (.i .i64 3), (.s []), (.s []), .sln, (.i .i8 0)])), (memoA18_118_2, memoL18_118_2, (.ag [(.i .i8 0), (.i .i8 0), (.i .i64 2), (.s []), (.s []), .sln, (.i .i8 0)])), (memoA18_118_3, memoL18_118_3, (.ag [(.i .i8 0), (.i .i8 0), (.i .i64 1), (.s []), (.s []), .sln, (.i .i8 0)])), (memoA18_118_4, memoL18_118_4, (.ag [(.i .i8 0), (.i .i8 0), (.i .i64 0), (.s []), (.s []), .sln, (.i .i8 0)])), (memoA18_118_5, memoL18_118_5, (.ag [(.i .i8 0), (.i .i8 0), (.i .i64 1), (.s []), (.s []), .sln, (.i .i8 0)])), (memoA18_118_6, memoL18_118_6, (.ag [(.i .i8 0), (.i .i8 0), (.i .i64 2), (.s []), (.s []), .sln, (.i .i8 0)])), (memoA18_118_7, memoL18_118_7, (.ag [(.i .i8 0), (.i .i8 0), (.i .i64 6), (.s []), (.s []), .sln, (.i .i8 0)])), (memoA18_118_8, memoL18_118_8, (.ag [(.i .i8 0), (.i .i8 0), (.i .i64 24), (.s []), (.s []), .sln, (.i .i8 0)])), (memoA18_118_9, memoL18_118_9, (.ag [(.i .i8 0), (.i .i8 0), (.i .i64 120), (.s []), (.s []), .sln, (.i .i8 0)]))]
def wkP18_118 : List (Nat × (List TV → SH → Option (TV × SH))) := (118, memoOrcL memoE18_118) :: wkP18_58
theorem memo_all18_118 {ρ : Cx} (hp0 : ρ.prog = Tryz.prog) (hρ : ∀ j, scalV (ρ j)) (B : Nat) : ∀ p, p ∈ memoE18_118 → OneOk Tryz.prog ρ B 118 (memoOrc p.1 p.2.1 p.2.2) :=
  fa (memo_ok (args0 := memoA18_118_0) (L := memoL18_118_0) (nx := 1088) (v0 := (.ag [(.i .i8 0), (.i .i8 0), (.i .i64 4), (.s []), (.s []), .sln, (.i .i8 0)])) hρ (wkM_ok18 hp0) follows_mix18 irTab_ok18 (fun B => listOrc_ok (wkP_ok18_58 hp0 hρ B)) (by kernel_rfl) (by rw [size_g18]; decide) (by decide) (by kernel_rfl) (by kernel_rfl) (memoRun18_118_0 _)) <|
  fa (memo_ok (args0 := memoA18_118_1) (L := memoL18_118_1) (nx := 1450) (v0 := (.ag [(.i .i8 0), (.i .i8 0), (.i .i64 3), (.s []), (.s []), .sln, (.i .i8 0)])) hρ (wkM_ok18 hp0) follows_mix18 irTab_ok18 (fun B => listOrc_ok (wkP_ok18_58 hp0 hρ B)) (by kernel_rfl) (by rw [size_g18]; decide) (by decide) (by kernel_rfl) (by kernel_rfl) (memoRun18_118_1 _)) <|
  fa (memo_ok (args0 := memoA18_118_2) (L := memoL18_118_2) (nx := 1820) (v0 := (.ag [(.i .i8 0), (.i .i8 0), (.i .i64 2), (.s []), (.s []), .sln, (.i .i8 0)])) hρ (wkM_ok18 hp0) follows_mix18 irTab_ok18 (fun B => listOrc_ok (wkP_ok18_58 hp0 hρ B)) (by kernel_rfl) (by rw [size_g18]; decide) (by decide) (by kernel_rfl) (by kernel_rfl) (memoRun18_118_2 _)) <|
  fa (memo_ok (args0 := memoA18_118_3) (L := memoL18_118_3) (nx := 2198) (v0 := (.ag [(.i .i8 0), (.i .i8 0), (.i .i64 1), (.s []), (.s []), .sln, (.i .i8 0)])) hρ (wkM_ok18 hp0) follows_mix18 irTab_ok18 (fun B => listOrc_ok (wkP_ok18_58 hp0 hρ B)) (by kernel_rfl) (by rw [size_g18]; decide) (by decide) (by kernel_rfl) (by kernel_rfl) (memoRun18_118_3 _)) <|
  fa (memo_ok (args0 := memoA18_118_4) (L := memoL18_118_4) (nx := 2584) (v0 := (.ag [(.i .i8 0), (.i .i8 0), (.i .i64 0), (.s []), (.s []), .sln, (.i .i8 0)])) hρ (wkM_ok18 hp0) follows_mix18 irTab_ok18 (fun B => listOrc_ok (wkP_ok18_58 hp0 hρ B)) (by kernel_rfl) (by rw [size_g18]; decide) (by decide) (by kernel_rfl) (by kernel_rfl) (memoRun18_118_4 _)) <|
  fa (memo_ok (args0 := memoA18_118_5) (L := memoL18_118_5) (nx := 2873) (v0 := (.ag [(.i .i8 0), (.i .i8 0), (.i .i64 1), (.s []), (.s []), .sln, (.i .i8 0)])) hρ (wkM_ok18 hp0) follows_mix18 irTab_ok18 (fun B => listOrc_ok (wkP_ok18_58 hp0 hρ B)) (by kernel_rfl) (by rw [size_g18]; decide) (by decide) (by kernel_rfl) (by kernel_rfl) (memoRun18_118_5 _)) <|
  fa (memo_ok (args0 := memoA18_118_6) (L := memoL18_118_6) (nx := 2959) (v0 := (.ag [(.i .i8 0), (.i .i8 0), (.i .i64 2), (.s []), (.s []), .sln, (.i .i8 0)])) hρ (wkM_ok18 hp0) follows_mix18 irTab_ok18 (fun B => listOrc_ok (wkP_ok18_58 hp0 hρ B)) (by kernel_rfl) (by rw [size_g18]; decide) (by decide) (by kernel_rfl) (by kernel_rfl) (memoRun18_118_6 _)) <|
  fa (memo_ok (args0 := memoA18_118_7) (L := memoL18_118_7) (nx := 3037) (v0 := (.ag [(.i .i8 0), (.i .i8 0), (.i .i64 6), (.s []), (.s []), .sln, (.i .i8 0)])) hρ (wkM_ok18 hp0) follows_mix18 irTab_ok18 (fun B => listOrc_ok (wkP_ok18_58 hp0 hρ B)) (by kernel_rfl) (by rw [size_g18]; decide) (by decide) (by kernel_rfl) (by kernel_rfl) (memoRun18_118_7 _)) <|
  fa (memo_ok (args0 := memoA18_118_8) (L := memoL18_118_8) (nx := 3107) (v0 := (.ag [(.i .i8 0), (.i .i8 0), (.i .i64 24), (.s []), (.s []), .sln, (.i .i8 0)])) hρ (wkM_ok18 hp0) follows_mix18 irTab_ok18 (fun B => listOrc_ok (wkP_ok18_58 hp0 hρ B)) (by kernel_rfl) (by rw [size_g18]; decide) (by decide) (by kernel_rfl) (by kernel_rfl) (memoRun18_118_8 _)) <|
  fa (memo_ok (args0 := memoA18_118_9) (L := memoL18_118_9) (nx := 3169) (v0 := (.ag [(.i .i8 0), (.i .i8 0), (.i .i64 120), (.s []), (.s []), .sln, (.i .i8 0)])) hρ (wkM_ok18 hp0) follows_mix18 irTab_ok18 (fun B => listOrc_ok (wkP_ok18_58 hp0 hρ B)) (by kernel_rfl) (by rw [size_g18]; decide) (by decide) (by kernel_rfl) (by kernel_rfl) (memoRun18_118_9 _)) <|
  fz
theorem wkP_ok18_118 {ρ : Cx} (hp0 : ρ.prog = Tryz.prog) (hρ : ∀ j, scalV (ρ j)) (B : Nat) : ∀ p, p ∈ wkP18_118 → OneOk Tryz.prog ρ B p.1 p.2 :=
  fa (memoL_ok (memo_all18_118 hp0 hρ B)) (wkP_ok18_58 hp0 hρ B)
end Go.Proofs.YtkieoghkjjkapaaGreatDoor.Sx
