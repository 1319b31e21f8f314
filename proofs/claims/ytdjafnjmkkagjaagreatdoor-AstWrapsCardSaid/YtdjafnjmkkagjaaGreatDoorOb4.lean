/-
  ast.expr, ast.recv, ast.class, ast.clause over data. No condition but that trees be in range.
-/
import Derived.Test.YtdjafnjmkkagjaaGreatDoorOb3
namespace Go.Proofs.YtdjafnjmkkagjaaGreatDoor.Oa.B4
open Go.RowKit Sx B3
set_option maxRecDepth 100000
set_option linter.unusedSimpArgs false
def ir66 : XF := ⟨22, 1, [(2, none)], (.seq (.reg [⟨some 2, none, .mv (.c (.b false))⟩])
  (.seq (.reg [⟨some 5, none, .call 123 []⟩,
  ⟨some 3, none, .box 159 22 (.c (.ag [.fn, .fn, .fn, .fn, .fn, .fn, .fn, .fn, .fn, .fn, .fn, .fn, .fn, .fn, .fn, .fn, .fn, .fn, .fn, .fn, .fn, .fn]))⟩,
  ⟨none, none, .st 22 (.t 3) (.t 5)⟩])
  (.seq (.reg [⟨some 6, none, .call 124 [(.t 3), (.c (.f (.func 66) [] []))]⟩])
  (.seq (.reg [⟨some 4, none, .box 164 1 (.c .fn)⟩,
  ⟨none, none, .st 1 (.t 4) (.c (.f (.func 126) [] []))⟩])
  (.seq (.reg [⟨some 7, none, .call 127 [(.c (.f (.func 128) [] [])), (.c (.f (.func 66) [] []))]⟩,
  ⟨some 8, none, .iaA 22 1 (.t 3) (.c (.i .i8 11))⟩,
  ⟨none, none, .st 1 (.t 8) (.t 7)⟩])
  (.seq (.reg [⟨some 9, none, .iaA 22 1 (.t 3) (.c (.i .i8 13))⟩,
  ⟨none, none, .st 1 (.t 9) (.c (.f (.func 131) [] []))⟩])
  (.seq (.reg [⟨some 10, none, .mkf (.func 132) [] [(.t 4)]⟩,
  ⟨some 11, none, .iaA 22 1 (.t 3) (.c (.i .i8 14))⟩,
  ⟨none, none, .st 1 (.t 11) (.t 10)⟩])
  (.seq (.reg [⟨some 12, none, .mkf (.func 133) [] [(.t 4)]⟩,
  ⟨some 13, none, .iaA 22 1 (.t 3) (.c (.i .i8 15))⟩,
  ⟨none, none, .st 1 (.t 13) (.t 12)⟩])
  (.seq (.reg [⟨some 14, none, .mkf (.func 134) [] [(.t 4)]⟩,
  ⟨some 15, none, .iaA 22 1 (.t 3) (.c (.i .i8 16))⟩,
  ⟨none, none, .st 1 (.t 15) (.t 14)⟩])
  (.seq (.reg [⟨some 16, none, .iaA 22 1 (.t 3) (.c (.i .i8 17))⟩,
  ⟨none, none, .st 1 (.t 16) (.c (.f (.func 135) [] []))⟩])
  (.seq (.reg [⟨some 17, none, .iaA 22 1 (.t 3) (.c (.i .i8 18))⟩,
  ⟨none, none, .st 1 (.t 17) (.c (.f (.func 136) [] []))⟩])
  (.seq (.reg [⟨some 18, none, .iaA 22 1 (.t 3) (.c (.i .i8 19))⟩,
  ⟨none, none, .st 1 (.t 18) (.c (.f (.func 137) [] []))⟩])
  (.seq (.reg [⟨some 19, none, .iaA 22 1 (.t 3) (.c (.i .i8 20))⟩,
  ⟨none, none, .st 1 (.t 19) (.c (.f (.func 139) [] []))⟩])
  (.seq (.reg [⟨some 20, none, .mv (.t 0)⟩,
  ⟨some 21, none, .call 125 [(.t 3), (.t 20)]⟩,
  ⟨some 2, none, .mv (.t 21)⟩])
  .ret))))))))))))))⟩

theorem irc66 : cFunc Tryz.prog Tryz.f66 = some ir66 := by kernel_rfl
def ir139 : XF := ⟨87, 1, [(2, none)], (.seq (.reg [⟨some 2, none, .mv (.c (.b false))⟩])
  (.seq (.seq (.reg [⟨some 5, none, .bld [(.b false), (.b false), (.b false), (.b false)] [(0, 1, (.c (.b true))), (3, 1, (.c (.b true)))]⟩,
  ⟨some 6, none, .mv (.t 0)⟩,
  ⟨some 7, none, .call 71 [(.t 5), (.t 6)]⟩,
  ⟨some 8, none, .un .not (.t 7)⟩,
  ⟨some 9, none, .mv (.t 8)⟩,
  ⟨some 10, some (9, false), .mv (.t 0)⟩,
  ⟨some 11, some (9, false), .nck (.t 10)⟩,
  ⟨some 12, some (9, false), .fa 1 (.t 11)⟩,
  ⟨some 13, some (9, false), .ld false 1 (.t 12)⟩,
  ⟨some 14, some (9, false), .bop .lss (.t 13) (.c (.i .i64 0))⟩,
  ⟨some 15, none, .pick (.t 9) (.c (.b true)) (.t 14)⟩,
  ⟨some 16, none, .mv (.t 15)⟩,
  ⟨some 17, some (16, false), .mv (.t 0)⟩,
  ⟨some 18, some (16, false), .nck (.t 17)⟩,
  ⟨some 19, some (16, false), .fa 1 (.t 18)⟩,
  ⟨some 20, some (16, false), .ld false 1 (.t 19)⟩,
  ⟨some 21, some (16, false), .bop .gtr (.t 20) (.c (.i .i64 1))⟩,
  ⟨some 22, none, .pick (.t 16) (.c (.b true)) (.t 21)⟩,
  ⟨some 23, none, .mv (.t 22)⟩,
  ⟨some 24, some (23, false), .mv (.t 0)⟩,
  ⟨some 25, some (23, false), .nck (.t 24)⟩,
  ⟨some 26, some (23, false), .fa 4 (.t 25)⟩,
  ⟨some 27, some (23, false), .ld false 1 (.t 26)⟩,
  ⟨some 28, some (23, false), .len 1 (.t 27)⟩,
  ⟨some 29, some (23, false), .bop .eql (.t 28) (.c (.i .i64 0))⟩,
  ⟨some 30, none, .pick (.t 23) (.c (.b true)) (.t 29)⟩])
  (.cond (.t 30) (.seq (.reg [⟨some 2, none, .mv (.c (.b false))⟩])
  .ret)
  .skip))
  (.seq (.par [⟨some 31, none, .mv (.t 0)⟩,
  ⟨some 32, none, .nck (.t 31)⟩,
  ⟨some 33, none, .fa 4 (.t 32)⟩,
  ⟨some 34, none, .ld false 1 (.t 33)⟩,
  ⟨some 35, none, .len 1 (.t 34)⟩,
  ⟨some 36, none, .mv (.t 0)⟩,
  ⟨some 37, none, .nck (.t 36)⟩,
  ⟨some 38, none, .fa 1 (.t 37)⟩,
  ⟨some 39, none, .ld false 1 (.t 38)⟩,
  ⟨some 40, none, .bop .sub (.t 35) (.t 39)⟩,
  ⟨some 3, none, .mv (.t 40)⟩] [0, 1, 3, 7, 15, 0, 32, 96, 224, 511, 1023])
  (.seq (.seq (.reg [⟨some 41, none, .mv (.t 0)⟩,
  ⟨some 42, none, .nck (.t 41)⟩,
  ⟨some 43, none, .fa 1 (.t 42)⟩,
  ⟨some 44, none, .ld false 1 (.t 43)⟩,
  ⟨some 45, none, .bop .eql (.t 44) (.c (.i .i64 1))⟩])
  (.cond (.t 45) (.seq (.reg [⟨some 46, none, .mv (.t 0)⟩,
  ⟨some 47, none, .nck (.t 46)⟩,
  ⟨some 48, none, .fa 4 (.t 47)⟩,
  ⟨some 49, none, .ld false 1 (.t 48)⟩,
  ⟨some 50, none, .mv (.t 3)⟩,
  ⟨some 51, none, .ia 5 (.t 49) (.t 50)⟩,
  ⟨some 4, none, .mv (.t 51)⟩])
  (.seq (.reg [⟨some 52, none, .mv (.t 4)⟩,
  ⟨some 53, none, .nck (.t 52)⟩,
  ⟨some 54, none, .fa 0 (.t 53)⟩,
  ⟨some 55, none, .ld false 1 (.t 54)⟩,
  ⟨some 56, none, .bop .neq (.t 55) (.c (.i .i8 21))⟩,
  ⟨some 57, none, .mv (.t 56)⟩,
  ⟨some 58, some (57, false), .bld [(.b false), (.b false), (.b false), (.b false)] [(3, 1, (.c (.b true)))]⟩,
  ⟨some 59, some (57, false), .mv (.t 4)⟩,
  ⟨some 60, some (57, false), .call 71 [(.t 58), (.t 59)]⟩,
  ⟨some 61, some (57, false), .un .not (.t 60)⟩,
  ⟨some 62, none, .pick (.t 57) (.c (.b true)) (.t 61)⟩,
  ⟨some 63, none, .mv (.t 62)⟩,
  ⟨some 64, some (63, false), .mv (.t 4)⟩,
  ⟨some 65, some (63, false), .nck (.t 64)⟩,
  ⟨some 66, some (63, false), .fa 4 (.t 65)⟩,
  ⟨some 67, some (63, false), .ld false 1 (.t 66)⟩,
  ⟨some 68, some (63, false), .len 1 (.t 67)⟩,
  ⟨some 69, some (63, false), .bop .lss (.t 68) (.c (.i .i64 2))⟩,
  ⟨some 70, none, .pick (.t 63) (.c (.b true)) (.t 69)⟩,
  ⟨some 71, none, .mv (.t 70)⟩,
  ⟨some 72, some (71, false), .mv (.t 4)⟩,
  ⟨some 73, some (71, false), .nck (.t 72)⟩,
  ⟨some 74, some (71, false), .fa 4 (.t 73)⟩,
  ⟨some 75, some (71, false), .ld false 1 (.t 74)⟩,
  ⟨some 76, some (71, false), .call 73 [(.t 75), (.c (.f (.func 66) [] []))]⟩,
  ⟨some 77, some (71, false), .un .not (.t 76)⟩,
  ⟨some 78, none, .pick (.t 71) (.c (.b true)) (.t 77)⟩])
  (.cond (.t 78) (.seq (.reg [⟨some 2, none, .mv (.c (.b false))⟩])
  .ret)
  .skip)))
  .skip))
  (.seq (.par [⟨some 79, none, .mv (.t 0)⟩,
  ⟨some 80, none, .nck (.t 79)⟩,
  ⟨some 81, none, .fa 4 (.t 80)⟩,
  ⟨some 82, none, .ld false 1 (.t 81)⟩,
  ⟨some 83, none, .mv (.t 3)⟩,
  ⟨some 84, none, .slc 5 (.t 82) none (some (.t 83)) none⟩,
  ⟨some 85, none, .call 74 [(.c (.i .i64 1))]⟩,
  ⟨some 86, none, .call 73 [(.t 84), (.t 85)]⟩,
  ⟨some 2, none, .mv (.t 86)⟩] [0, 1, 3, 7, 0, 31, 0, 127, 255])
  .ret)))))⟩

theorem irc139 : cFunc Tryz.prog Tryz.f139 = some ir139 := by kernel_rfl
def ir138 : XF := ⟨29, 1, [(2, none)], (.seq (.reg [⟨some 2, none, .mv (.c (.b false))⟩])
  (.seq (.reg [⟨some 4, none, .mv (.t 0)⟩,
  ⟨some 5, none, .nck (.t 4)⟩,
  ⟨some 6, none, .fa 4 (.t 5)⟩,
  ⟨some 7, none, .ld false 1 (.t 6)⟩,
  ⟨some 8, none, .ia 5 (.t 7) (.c (.i .i64 0))⟩,
  ⟨some 3, none, .mv (.t 8)⟩])
  (.seq (.reg [⟨some 9, none, .mv (.t 3)⟩,
  ⟨some 10, none, .nck (.t 9)⟩,
  ⟨some 11, none, .fa 0 (.t 10)⟩,
  ⟨some 12, none, .ld false 1 (.t 11)⟩,
  ⟨some 13, none, .bop .eql (.t 12) (.c (.i .i8 5))⟩,
  ⟨some 14, none, .mv (.t 13)⟩,
  ⟨some 15, some (14, false), .mv (.t 3)⟩,
  ⟨some 16, some (14, false), .nck (.t 15)⟩,
  ⟨some 17, some (14, false), .fa 0 (.t 16)⟩,
  ⟨some 18, some (14, false), .ld false 1 (.t 17)⟩,
  ⟨some 19, some (14, false), .bop .eql (.t 18) (.c (.i .i8 7))⟩,
  ⟨some 20, some (14, false), .mv (.t 19)⟩,
  ⟨some 21, some (20, true), .bls 9 1 3 [(.s []), (.s []), (.s [])] [(0, 1, (.c (.s [101, 114, 114, 111, 114]))), (1, 1, (.c (.s [101, 120, 105, 116]))), (2, 1, (.c (.s [116, 104, 114, 111, 119])))]⟩,
  ⟨some 22, some (20, true), .mv (.t 3)⟩,
  ⟨some 23, some (20, true), .nck (.t 22)⟩,
  ⟨some 24, some (20, true), .fa 2 (.t 23)⟩,
  ⟨some 25, some (20, true), .ld false 1 (.t 24)⟩,
  ⟨some 26, some (20, true), .call 64 [(.t 21), (.t 25)]⟩,
  ⟨some 27, some (14, false), .pick (.t 20) (.t 26) (.c (.b false))⟩,
  ⟨some 28, none, .pick (.t 14) (.c (.b true)) (.t 27)⟩,
  ⟨some 2, none, .mv (.t 28)⟩])
  .ret)))⟩

theorem irc138 : cFunc Tryz.prog Tryz.f138 = some ir138 := by kernel_rfl
def ir142 : XF := ⟨64, 2, [(3, none)], (.seq (.reg [⟨some 3, none, .mv (.c (.b false))⟩])
  (.seq (.par [⟨some 4, none, .mv (.t 0)⟩,
  ⟨some 5, none, .nck (.t 4)⟩,
  ⟨some 6, none, .fa 0 (.t 5)⟩,
  ⟨some 7, none, .ld false 1 (.t 6)⟩,
  ⟨some 8, none, .bop .eql (.t 7) (.c (.i .i8 3))⟩,
  ⟨some 9, none, .mv (.t 8)⟩,
  ⟨some 10, some (9, true), .bld [(.b false), (.b false), (.b false), (.b false)] [(0, 1, (.c (.b true))), (3, 1, (.c (.b true)))]⟩,
  ⟨some 11, some (9, true), .mv (.t 0)⟩,
  ⟨some 12, some (9, true), .call 71 [(.t 10), (.t 11)]⟩,
  ⟨some 13, none, .pick (.t 9) (.t 12) (.c (.b false))⟩,
  ⟨some 14, none, .mv (.t 13)⟩,
  ⟨some 15, some (14, true), .mv (.t 0)⟩,
  ⟨some 16, some (14, true), .nck (.t 15)⟩,
  ⟨some 17, some (14, true), .fa 1 (.t 16)⟩,
  ⟨some 18, some (14, true), .ld false 1 (.t 17)⟩,
  ⟨some 19, some (14, true), .ld false 1 (.t 1)⟩,
  ⟨some 20, some (14, true), .bop .eql (.t 18) (.t 19)⟩,
  ⟨some 21, none, .pick (.t 14) (.t 20) (.c (.b false))⟩,
  ⟨some 22, none, .mv (.t 21)⟩,
  ⟨some 23, some (22, true), .ld false 1 (.t 1)⟩,
  ⟨some 24, some (22, true), .bop .geq (.t 23) (.c (.i .i64 0))⟩,
  ⟨some 25, none, .pick (.t 22) (.t 24) (.c (.b false))⟩,
  ⟨some 26, none, .mv (.t 25)⟩,
  ⟨some 27, some (26, true), .mv (.t 0)⟩,
  ⟨some 28, some (26, true), .nck (.t 27)⟩,
  ⟨some 29, some (26, true), .fa 4 (.t 28)⟩,
  ⟨some 30, some (26, true), .ld false 1 (.t 29)⟩,
  ⟨some 31, some (26, true), .len 1 (.t 30)⟩,
  ⟨some 32, some (26, true), .bop .sub (.t 31) (.c (.i .i64 2))⟩,
  ⟨some 33, some (26, true), .ld false 1 (.t 1)⟩,
  ⟨some 34, some (26, true), .bop .geq (.t 32) (.t 33)⟩,
  ⟨some 35, none, .pick (.t 26) (.t 34) (.c (.b false))⟩,
  ⟨some 36, none, .mv (.t 35)⟩,
  ⟨some 37, some (36, true), .mv (.t 0)⟩,
  ⟨some 38, some (36, true), .nck (.t 37)⟩,
  ⟨some 39, some (36, true), .fa 4 (.t 38)⟩,
  ⟨some 40, some (36, true), .ld false 1 (.t 39)⟩,
  ⟨some 41, some (36, true), .ld false 1 (.t 1)⟩,
  ⟨some 42, some (36, true), .slc 5 (.t 40) none (some (.t 41)) none⟩,
  ⟨some 43, some (36, true), .call 73 [(.t 42), (.c (.f (.func 65) [] []))]⟩,
  ⟨some 44, none, .pick (.t 36) (.t 43) (.c (.b false))⟩,
  ⟨some 45, none, .mv (.t 44)⟩,
  ⟨some 46, some (45, true), .mv (.t 0)⟩,
  ⟨some 47, some (45, true), .nck (.t 46)⟩,
  ⟨some 48, some (45, true), .fa 4 (.t 47)⟩,
  ⟨some 49, some (45, true), .ld false 1 (.t 48)⟩,
  ⟨some 50, some (45, true), .ld false 1 (.t 1)⟩,
  ⟨some 51, some (45, true), .ia 5 (.t 49) (.t 50)⟩,
  ⟨some 52, some (45, true), .call 68 [(.t 51)]⟩,
  ⟨some 53, none, .pick (.t 45) (.t 52) (.c (.b false))⟩,
  ⟨some 54, none, .mv (.t 53)⟩,
  ⟨some 55, some (54, true), .mv (.t 0)⟩,
  ⟨some 56, some (54, true), .nck (.t 55)⟩,
  ⟨some 57, some (54, true), .fa 4 (.t 56)⟩,
  ⟨some 58, some (54, true), .ld false 1 (.t 57)⟩,
  ⟨some 59, some (54, true), .ld false 1 (.t 1)⟩,
  ⟨some 60, some (54, true), .bop .add (.t 59) (.c (.i .i64 1))⟩,
  ⟨some 61, some (54, true), .slc 5 (.t 58) (some (.t 60)) none none⟩,
  ⟨some 62, some (54, true), .call 73 [(.t 61), (.c (.f (.func 66) [] []))]⟩,
  ⟨some 63, none, .pick (.t 54) (.t 62) (.c (.b false))⟩,
  ⟨some 3, none, .mv (.t 63)⟩] [0, 1, 3, 7, 15, 31, 63, 63, 255, 511, 1023, 2047, 4095, 8191, 16383, 2047, 65535, 131071, 262143, 524287, 1048575, 2097151, 4194303, 8388607, 16777215, 33554431, 67108863, 134217727, 268435455, 8388607, 1073741823, 2147483647, 4294967295, 8589934591, 17179869183, 34359738367, 68719476735, 8589934591, 274877906943, 549755813887, 1099511627775, 2199023255551, 4398046511103, 8796093022207, 17592186044415, 35184372088831, 4398046511103, 140737488355327, 281474976710655, 562949953421311, 1125899906842623, 2251799813685247, 4503599627370495, 9007199254740991, 18014398509481983, 2251799813685247, 38280596832649215, 144115188075855871, 288230376151711743, 576460752303423487, 1152921504606846975])
  .ret))⟩

theorem irc142 : cFunc Tryz.prog Tryz.f142 = some ir142 := by kernel_rfl
def ir123 : XF := ⟨2, 0, [(0, some (true, 22))], (.seq (.reg [⟨some 0, none, .box 159 22 (.c (.ag [.fn, .fn, .fn, .fn, .fn, .fn, .fn, .fn, .fn, .fn, .fn, .fn, .fn, .fn, .fn, .fn, .fn, .fn, .fn, .fn, .fn, .fn]))⟩])
  (.seq (.reg [⟨some 1, none, .bld [.fn, .fn, .fn, .fn, .fn, .fn, .fn, .fn, .fn, .fn, .fn, .fn, .fn, .fn, .fn, .fn, .fn, .fn, .fn, .fn, .fn, .fn] [(5, 1, (.c (.f (.func 178) [] []))), (6, 1, (.c (.f (.func 180) [] []))), (7, 1, (.c (.f (.func 181) [] []))), (8, 1, (.c (.f (.func 182) [] []))), (21, 1, (.c .fn))]⟩,
  ⟨none, none, .st 22 (.t 0) (.t 1)⟩])
  .ret))⟩

theorem irc123 : cFunc Tryz.prog Tryz.f123 = some ir123 := by kernel_rfl
def ir178 : XF := ⟨13, 1, [(2, none)], (.seq (.reg [⟨some 2, none, .mv (.c (.b false))⟩])
  (.seq (.reg [⟨some 3, none, .bld [(.b false), (.b false), (.b false), (.b false)] [(1, 1, (.c (.b true)))]⟩,
  ⟨some 4, none, .mv (.t 0)⟩,
  ⟨some 5, none, .call 71 [(.t 3), (.t 4)]⟩,
  ⟨some 6, none, .mv (.t 5)⟩,
  ⟨some 7, some (6, true), .mv (.t 0)⟩,
  ⟨some 8, some (6, true), .nck (.t 7)⟩,
  ⟨some 9, some (6, true), .fa 2 (.t 8)⟩,
  ⟨some 10, some (6, true), .ld false 1 (.t 9)⟩,
  ⟨some 11, some (6, true), .call 179 [(.t 10)]⟩,
  ⟨some 12, none, .pick (.t 6) (.t 11) (.c (.b false))⟩,
  ⟨some 2, none, .mv (.t 12)⟩])
  .ret))⟩

theorem irc178 : cFunc Tryz.prog Tryz.f178 = some ir178 := by kernel_rfl
def ir180 : XF := ⟨13, 1, [(2, none)], (.seq (.reg [⟨some 2, none, .mv (.c (.b false))⟩])
  (.seq (.reg [⟨some 3, none, .bld [(.b false), (.b false), (.b false), (.b false)] [(0, 1, (.c (.b true)))]⟩,
  ⟨some 4, none, .mv (.t 0)⟩,
  ⟨some 5, none, .call 71 [(.t 3), (.t 4)]⟩,
  ⟨some 6, none, .mv (.t 5)⟩,
  ⟨some 7, some (6, true), .mv (.t 0)⟩,
  ⟨some 8, some (6, true), .nck (.t 7)⟩,
  ⟨some 9, some (6, true), .fa 1 (.t 8)⟩,
  ⟨some 10, some (6, true), .ld false 1 (.t 9)⟩,
  ⟨some 11, some (6, true), .call 162 [(.t 10)]⟩,
  ⟨some 12, none, .pick (.t 6) (.t 11) (.c (.b false))⟩,
  ⟨some 2, none, .mv (.t 12)⟩])
  .ret))⟩

theorem irc180 : cFunc Tryz.prog Tryz.f180 = some ir180 := by kernel_rfl
def ir181 : XF := ⟨13, 1, [(2, none)], (.seq (.reg [⟨some 2, none, .mv (.c (.b false))⟩])
  (.seq (.reg [⟨some 3, none, .bld [(.b false), (.b false), (.b false), (.b false)] [(1, 1, (.c (.b true)))]⟩,
  ⟨some 4, none, .mv (.t 0)⟩,
  ⟨some 5, none, .call 71 [(.t 3), (.t 4)]⟩,
  ⟨some 6, none, .mv (.t 5)⟩,
  ⟨some 7, some (6, true), .mv (.t 0)⟩,
  ⟨some 8, some (6, true), .nck (.t 7)⟩,
  ⟨some 9, some (6, true), .fa 2 (.t 8)⟩,
  ⟨some 10, some (6, true), .ld false 1 (.t 9)⟩,
  ⟨some 11, some (6, true), .call 72 [(.t 10)]⟩,
  ⟨some 12, none, .pick (.t 6) (.t 11) (.c (.b false))⟩,
  ⟨some 2, none, .mv (.t 12)⟩])
  .ret))⟩

theorem irc181 : cFunc Tryz.prog Tryz.f181 = some ir181 := by kernel_rfl
def ir182 : XF := ⟨6, 1, [(2, none)], (.seq (.reg [⟨some 2, none, .mv (.c (.b false))⟩])
  (.seq (.reg [⟨some 3, none, .bld [(.b false), (.b false), (.b false), (.b false)] []⟩,
  ⟨some 4, none, .mv (.t 0)⟩,
  ⟨some 5, none, .call 71 [(.t 3), (.t 4)]⟩,
  ⟨some 2, none, .mv (.t 5)⟩])
  .ret))⟩

theorem irc182 : cFunc Tryz.prog Tryz.f182 = some ir182 := by kernel_rfl
def ir125 : XF := ⟨41, 2, [(4, none)], (.seq (.reg [⟨some 4, none, .mv (.c (.b false))⟩])
  (.seq (.par [⟨some 5, none, .mv (.t 1)⟩,
  ⟨some 6, none, .nck (.t 5)⟩,
  ⟨some 7, none, .fa 0 (.t 6)⟩,
  ⟨some 8, none, .ld false 1 (.t 7)⟩,
  ⟨some 9, none, .bop .geq (.t 8) (.c (.i .i8 0))⟩,
  ⟨some 10, none, .mv (.t 9)⟩,
  ⟨some 11, some (10, true), .mv (.t 1)⟩,
  ⟨some 12, some (10, true), .nck (.t 11)⟩,
  ⟨some 13, some (10, true), .fa 0 (.t 12)⟩,
  ⟨some 14, some (10, true), .ld false 1 (.t 13)⟩,
  ⟨some 15, some (10, true), .cvi .i64 (.t 14)⟩,
  ⟨some 16, some (10, true), .bop .lss (.t 15) (.c (.i .i64 22))⟩,
  ⟨some 17, none, .pick (.t 10) (.t 16) (.c (.b false))⟩,
  ⟨some 18, none, .mv (.t 17)⟩,
  ⟨some 19, some (18, true), .mv (.t 0)⟩,
  ⟨some 20, some (18, true), .mv (.t 1)⟩,
  ⟨some 21, some (18, true), .nck (.t 20)⟩,
  ⟨some 22, some (18, true), .fa 0 (.t 21)⟩,
  ⟨some 23, some (18, true), .ld false 1 (.t 22)⟩,
  ⟨some 24, some (18, true), .nck (.t 19)⟩,
  ⟨some 25, some (18, true), .iaA 22 1 (.t 24) (.t 23)⟩,
  ⟨some 26, some (18, true), .ld false 1 (.t 25)⟩,
  ⟨some 27, some (18, true), .eq 3 true true (.t 26) (.c .fn)⟩,
  ⟨some 28, none, .pick (.t 18) (.t 27) (.c (.b false))⟩,
  ⟨some 29, none, .mv (.t 28)⟩,
  ⟨some 30, some (29, true), .mv (.t 0)⟩,
  ⟨some 31, some (29, true), .mv (.t 1)⟩,
  ⟨some 32, some (29, true), .nck (.t 31)⟩,
  ⟨some 33, some (29, true), .fa 0 (.t 32)⟩,
  ⟨some 34, some (29, true), .ld false 1 (.t 33)⟩,
  ⟨some 35, some (29, true), .nck (.t 30)⟩,
  ⟨some 36, some (29, true), .iaA 22 1 (.t 35) (.t 34)⟩,
  ⟨some 37, some (29, true), .ld false 1 (.t 36)⟩,
  ⟨some 38, some (29, true), .mv (.t 1)⟩,
  ⟨some 39, some (29, true), .callv (.t 37) [(.t 38)]⟩,
  ⟨some 40, none, .pick (.t 29) (.t 39) (.c (.b false))⟩,
  ⟨some 4, none, .mv (.t 40)⟩] [0, 1, 3, 7, 15, 31, 63, 127, 255, 511, 1023, 2047, 4095, 8191, 16383, 16383, 49151, 114687, 245759, 32767, 1048575, 2097151, 4194303, 8388607, 16777215, 33554431, 33554431, 100663295, 234881023, 503316479, 67108863, 2147483647, 4294967295, 33554431, 17179869183, 34359738367, 68719476735])
  .ret))⟩

theorem irc125 : cFunc Tryz.prog Tryz.f125 = some ir125 := by kernel_rfl
def ir71 : XF := ⟨48, 2, [(4, none)], (.seq (.reg [⟨some 2, none, .box 110 4 (.t 0)⟩,
  ⟨some 4, none, .mv (.c (.b false))⟩])
  (.seq (.reg [⟨some 5, none, .fa 0 (.t 2)⟩,
  ⟨some 6, none, .ld false 1 (.t 5)⟩,
  ⟨some 7, none, .mv (.t 6)⟩,
  ⟨some 8, some (7, false), .mv (.t 1)⟩,
  ⟨some 9, some (7, false), .nck (.t 8)⟩,
  ⟨some 10, some (7, false), .fa 1 (.t 9)⟩,
  ⟨some 11, some (7, false), .ld false 1 (.t 10)⟩,
  ⟨some 12, some (7, false), .bop .eql (.t 11) (.c (.i .i64 0))⟩,
  ⟨some 13, none, .pick (.t 7) (.c (.b true)) (.t 12)⟩,
  ⟨some 14, none, .mv (.t 13)⟩,
  ⟨some 15, some (14, true), .fa 1 (.t 2)⟩,
  ⟨some 16, some (14, true), .ld false 1 (.t 15)⟩,
  ⟨some 17, some (14, true), .mv (.t 16)⟩,
  ⟨some 18, some (17, false), .mv (.t 1)⟩,
  ⟨some 19, some (17, false), .nck (.t 18)⟩,
  ⟨some 20, some (17, false), .fa 2 (.t 19)⟩,
  ⟨some 21, some (17, false), .ld false 1 (.t 20)⟩,
  ⟨some 22, some (17, false), .bop .eql (.t 21) (.c (.s []))⟩,
  ⟨some 23, some (14, true), .pick (.t 17) (.c (.b true)) (.t 22)⟩,
  ⟨some 24, none, .pick (.t 14) (.t 23) (.c (.b false))⟩,
  ⟨some 25, none, .mv (.t 24)⟩,
  ⟨some 26, some (25, true), .fa 2 (.t 2)⟩,
  ⟨some 27, some (25, true), .ld false 1 (.t 26)⟩,
  ⟨some 28, some (25, true), .mv (.t 27)⟩,
  ⟨some 29, some (28, false), .mv (.t 1)⟩,
  ⟨some 30, some (28, false), .nck (.t 29)⟩,
  ⟨some 31, some (28, false), .fa 3 (.t 30)⟩,
  ⟨some 32, some (28, false), .ld false 1 (.t 31)⟩,
  ⟨some 33, some (28, false), .bop .eql (.t 32) (.c (.s []))⟩,
  ⟨some 34, some (25, true), .pick (.t 28) (.c (.b true)) (.t 33)⟩,
  ⟨some 35, none, .pick (.t 25) (.t 34) (.c (.b false))⟩,
  ⟨some 36, none, .mv (.t 35)⟩,
  ⟨some 37, some (36, true), .fa 3 (.t 2)⟩,
  ⟨some 38, some (36, true), .ld false 1 (.t 37)⟩,
  ⟨some 39, some (36, true), .mv (.t 38)⟩,
  ⟨some 40, some (39, false), .mv (.t 1)⟩,
  ⟨some 41, some (39, false), .nck (.t 40)⟩,
  ⟨some 42, some (39, false), .fa 4 (.t 41)⟩,
  ⟨some 43, some (39, false), .ld false 1 (.t 42)⟩,
  ⟨some 44, some (39, false), .len 1 (.t 43)⟩,
  ⟨some 45, some (39, false), .bop .eql (.t 44) (.c (.i .i64 0))⟩,
  ⟨some 46, some (36, true), .pick (.t 39) (.c (.b true)) (.t 45)⟩,
  ⟨some 47, none, .pick (.t 36) (.t 46) (.c (.b false))⟩,
  ⟨some 4, none, .mv (.t 47)⟩])
  .ret))⟩

theorem irc71 : cFunc Tryz.prog Tryz.f71 = some ir71 := by kernel_rfl
def ir162 : XF := ⟨9, 1, [(2, none)], (.seq (.reg [⟨some 2, none, .mv (.c (.b false))⟩])
  (.seq (.reg [⟨some 3, none, .mv (.t 0)⟩,
  ⟨some 4, none, .bop .geq (.t 3) (.c (.i .i64 (-576460752303423488)))⟩,
  ⟨some 5, none, .mv (.t 4)⟩,
  ⟨some 6, some (5, true), .mv (.t 0)⟩,
  ⟨some 7, some (5, true), .bop .leq (.t 6) (.c (.i .i64 576460752303423487))⟩,
  ⟨some 8, none, .pick (.t 5) (.t 7) (.c (.b false))⟩,
  ⟨some 2, none, .mv (.t 8)⟩])
  .ret))⟩

theorem irc162 : cFunc Tryz.prog Tryz.f162 = some ir162 := by kernel_rfl
def ir124 : XF := ⟨12, 2, [], (.seq (.reg [⟨some 3, none, .box 108 1 (.t 1)⟩])
  (.seq (.reg [⟨some 4, none, .mv (.t 0)⟩,
  ⟨some 5, none, .mkf (.func 183) [] [(.t 3)]⟩,
  ⟨some 6, none, .nck (.t 4)⟩,
  ⟨some 7, none, .iaA 22 1 (.t 6) (.c (.i .i8 10))⟩,
  ⟨none, none, .st 1 (.t 7) (.t 5)⟩])
  (.reg [⟨some 8, none, .mv (.t 0)⟩,
  ⟨some 9, none, .mkf (.func 184) [] [(.t 3)]⟩,
  ⟨some 10, none, .nck (.t 8)⟩,
  ⟨some 11, none, .iaA 22 1 (.t 10) (.c (.i .i8 9))⟩,
  ⟨none, none, .st 1 (.t 11) (.t 9)⟩])))⟩

theorem irc124 : cFunc Tryz.prog Tryz.f124 = some ir124 := by kernel_rfl
def ir183 : XF := ⟨15, 2, [(3, none)], (.seq (.reg [⟨some 3, none, .mv (.c (.b false))⟩])
  (.seq (.par [⟨some 4, none, .bld [(.b false), (.b false), (.b false), (.b false)] [(3, 1, (.c (.b true)))]⟩,
  ⟨some 5, none, .mv (.t 0)⟩,
  ⟨some 6, none, .call 71 [(.t 4), (.t 5)]⟩,
  ⟨some 7, none, .mv (.t 6)⟩,
  ⟨some 8, some (7, true), .mv (.t 0)⟩,
  ⟨some 9, some (7, true), .nck (.t 8)⟩,
  ⟨some 10, some (7, true), .fa 4 (.t 9)⟩,
  ⟨some 11, some (7, true), .ld false 1 (.t 10)⟩,
  ⟨some 12, some (7, true), .ld false 1 (.t 1)⟩,
  ⟨some 13, some (7, true), .call 73 [(.t 11), (.t 12)]⟩,
  ⟨some 14, none, .pick (.t 7) (.t 13) (.c (.b false))⟩,
  ⟨some 3, none, .mv (.t 14)⟩] [0, 0, 3, 7, 15, 31, 63, 127, 15, 511, 1023, 2047])
  .ret))⟩

theorem irc183 : cFunc Tryz.prog Tryz.f183 = some ir183 := by kernel_rfl
def ir184 : XF := ⟨23, 2, [(3, none)], (.seq (.reg [⟨some 3, none, .mv (.c (.b false))⟩])
  (.seq (.par [⟨some 4, none, .bld [(.b false), (.b false), (.b false), (.b false)] [(3, 1, (.c (.b true)))]⟩,
  ⟨some 5, none, .mv (.t 0)⟩,
  ⟨some 6, none, .call 71 [(.t 4), (.t 5)]⟩,
  ⟨some 7, none, .mv (.t 6)⟩,
  ⟨some 8, some (7, true), .mv (.t 0)⟩,
  ⟨some 9, some (7, true), .nck (.t 8)⟩,
  ⟨some 10, some (7, true), .fa 4 (.t 9)⟩,
  ⟨some 11, some (7, true), .ld false 1 (.t 10)⟩,
  ⟨some 12, some (7, true), .len 1 (.t 11)⟩,
  ⟨some 13, some (7, true), .bop .eql (.t 12) (.c (.i .i64 2))⟩,
  ⟨some 14, none, .pick (.t 7) (.t 13) (.c (.b false))⟩,
  ⟨some 15, none, .mv (.t 14)⟩,
  ⟨some 16, some (15, true), .mv (.t 0)⟩,
  ⟨some 17, some (15, true), .nck (.t 16)⟩,
  ⟨some 18, some (15, true), .fa 4 (.t 17)⟩,
  ⟨some 19, some (15, true), .ld false 1 (.t 18)⟩,
  ⟨some 20, some (15, true), .ld false 1 (.t 1)⟩,
  ⟨some 21, some (15, true), .call 73 [(.t 19), (.t 20)]⟩,
  ⟨some 22, none, .pick (.t 15) (.t 21) (.c (.b false))⟩,
  ⟨some 3, none, .mv (.t 22)⟩] [0, 0, 3, 7, 15, 31, 63, 127, 255, 511, 1023, 2047, 4095, 8191, 16383, 32767, 4095, 131071, 262143, 524287])
  .ret))⟩

theorem irc184 : cFunc Tryz.prog Tryz.f184 = some ir184 := by kernel_rfl
def ir127 : XF := ⟨6, 2, [(4, none)], (.seq (.reg [⟨some 2, none, .box 111 1 (.t 0)⟩,
  ⟨some 3, none, .box 108 1 (.t 1)⟩,
  ⟨some 4, none, .mv (.c .fn)⟩])
  (.seq (.reg [⟨some 5, none, .mkf (.func 185) [] [(.t 2), (.t 3)]⟩,
  ⟨some 4, none, .mv (.t 5)⟩])
  .ret))⟩

theorem irc127 : cFunc Tryz.prog Tryz.f127 = some ir127 := by kernel_rfl
def ir185 : XF := ⟨32, 3, [(4, none)], (.seq (.reg [⟨some 4, none, .mv (.c (.b false))⟩])
  (.seq (.par [⟨some 5, none, .bld [(.b false), (.b false), (.b false), (.b false)] [(1, 1, (.c (.b true))), (3, 1, (.c (.b true)))]⟩,
  ⟨some 6, none, .mv (.t 0)⟩,
  ⟨some 7, none, .call 71 [(.t 5), (.t 6)]⟩,
  ⟨some 8, none, .mv (.t 7)⟩,
  ⟨some 9, some (8, true), .ld false 1 (.t 1)⟩,
  ⟨some 10, some (8, true), .mv (.t 0)⟩,
  ⟨some 11, some (8, true), .nck (.t 10)⟩,
  ⟨some 12, some (8, true), .fa 2 (.t 11)⟩,
  ⟨some 13, some (8, true), .ld false 1 (.t 12)⟩,
  ⟨some 14, some (8, true), .callv (.t 9) [(.t 13)]⟩,
  ⟨some 15, none, .pick (.t 8) (.t 14) (.c (.b false))⟩,
  ⟨some 16, none, .mv (.t 15)⟩,
  ⟨some 17, some (16, true), .mv (.t 0)⟩,
  ⟨some 18, some (16, true), .nck (.t 17)⟩,
  ⟨some 19, some (16, true), .fa 4 (.t 18)⟩,
  ⟨some 20, some (16, true), .ld false 1 (.t 19)⟩,
  ⟨some 21, some (16, true), .len 1 (.t 20)⟩,
  ⟨some 22, some (16, true), .bop .eql (.t 21) (.c (.i .i64 2))⟩,
  ⟨some 23, none, .pick (.t 16) (.t 22) (.c (.b false))⟩,
  ⟨some 24, none, .mv (.t 23)⟩,
  ⟨some 25, some (24, true), .mv (.t 0)⟩,
  ⟨some 26, some (24, true), .nck (.t 25)⟩,
  ⟨some 27, some (24, true), .fa 4 (.t 26)⟩,
  ⟨some 28, some (24, true), .ld false 1 (.t 27)⟩,
  ⟨some 29, some (24, true), .ld false 1 (.t 2)⟩,
  ⟨some 30, some (24, true), .call 73 [(.t 28), (.t 29)]⟩,
  ⟨some 31, none, .pick (.t 24) (.t 30) (.c (.b false))⟩,
  ⟨some 4, none, .mv (.t 31)⟩] [0, 0, 3, 7, 15, 15, 47, 111, 239, 511, 1023, 2047, 4095, 8191, 16383, 32767, 65535, 131071, 262143, 524287, 1048575, 2097151, 4194303, 8388607, 1048575, 33554431, 67108863, 134217727])
  .ret))⟩

theorem irc185 : cFunc Tryz.prog Tryz.f185 = some ir185 := by kernel_rfl
def ir64 : XF := ⟨9, 2, [(4, none)], (.seq (.reg [⟨some 4, none, .mv (.c (.b false))⟩])
  (.seq (.reg [⟨some 5, none, .mv (.t 0)⟩,
  ⟨some 6, none, .mv (.t 1)⟩,
  ⟨some 7, none, .call 122 [(.t 5), (.t 6)]⟩,
  ⟨some 8, none, .bop .geq (.t 7) (.c (.i .i64 0))⟩,
  ⟨some 4, none, .mv (.t 8)⟩])
  .ret))⟩

theorem irc64 : cFunc Tryz.prog Tryz.f64 = some ir64 := by kernel_rfl
def lp122_0 : IC := (.seq (.reg [⟨some 9, none, .bop .lss (.t 8) (.t 7)⟩])
  (.seq (.cond (.t 9) .skip
  (.exit 0))
  (.seq (.blk 1 (.seq (.reg [⟨some 10, none, .mv (.t 8)⟩,
  ⟨some 5, none, .mv (.t 10)⟩])
  (.seq (.reg [⟨some 11, none, .mv (.t 1)⟩,
  ⟨some 12, none, .mv (.t 0)⟩,
  ⟨some 13, none, .mv (.t 5)⟩,
  ⟨some 14, none, .ia 1 (.t 12) (.t 13)⟩,
  ⟨some 15, none, .ld false 1 (.t 14)⟩,
  ⟨some 16, none, .bop .eql (.t 11) (.t 15)⟩])
  (.cond (.t 16) (.seq (.reg [⟨some 17, none, .mv (.t 5)⟩,
  ⟨some 4, none, .mv (.t 17)⟩])
  .ret)
  .skip))))
  (.reg [⟨some 18, none, .bop .add (.t 8) (.c (.i .i64 1))⟩,
  ⟨some 8, none, .mv (.t 18)⟩]))))
def ir122 : XF := ⟨19, 2, [(4, none)], (.seq (.reg [⟨some 4, none, .mv (.c (.i .i64 0))⟩])
  (.seq (.seq (.reg [⟨some 6, none, .mv (.t 0)⟩,
  ⟨some 7, none, .len 1 (.t 6)⟩,
  ⟨some 8, none, .mv (.c (.i .i64 0))⟩])
  (.blk 0 (.loop lp122_0)))
  (.seq (.reg [⟨some 4, none, .mv (.c (.i .i64 (-1)))⟩])
  .ret)))⟩

theorem irc122 : cFunc Tryz.prog Tryz.f122 = some ir122 := by kernel_rfl
def ir126 : XF := ⟨10, 1, [(2, none)], (.seq (.reg [⟨some 2, none, .mv (.c (.b false))⟩])
  (.seq (.reg [⟨some 3, none, .mv (.t 0)⟩,
  ⟨some 4, none, .len 1 (.t 3)⟩,
  ⟨some 5, none, .bop .leq (.t 4) (.c (.i .i64 8))⟩,
  ⟨some 6, none, .mv (.t 5)⟩,
  ⟨some 7, some (6, true), .mv (.t 0)⟩,
  ⟨some 8, some (6, true), .call 73 [(.t 7), (.c (.f (.func 66) [] []))]⟩,
  ⟨some 9, none, .pick (.t 6) (.t 8) (.c (.b false))⟩,
  ⟨some 2, none, .mv (.t 9)⟩])
  .ret))⟩

theorem irc126 : cFunc Tryz.prog Tryz.f126 = some ir126 := by kernel_rfl
def ir128 : XF := ⟨9, 1, [(2, none)], (.seq (.reg [⟨some 2, none, .mv (.c (.b false))⟩])
  (.seq (.reg [⟨some 3, none, .mv (.t 0)⟩,
  ⟨some 4, none, .call 129 [(.t 3)]⟩,
  ⟨some 5, none, .mv (.t 4)⟩,
  ⟨some 6, some (5, false), .mv (.t 0)⟩,
  ⟨some 7, some (5, false), .call 130 [(.t 6)]⟩,
  ⟨some 8, none, .pick (.t 5) (.c (.b true)) (.t 7)⟩,
  ⟨some 2, none, .mv (.t 8)⟩])
  .ret))⟩

theorem irc128 : cFunc Tryz.prog Tryz.f128 = some ir128 := by kernel_rfl
def ir131 : XF := ⟨30, 1, [(2, none)], (.seq (.reg [⟨some 2, none, .mv (.c (.b false))⟩])
  (.seq (.reg [⟨some 3, none, .bld [(.b false), (.b false), (.b false), (.b false)] [(3, 1, (.c (.b true)))]⟩,
  ⟨some 4, none, .mv (.t 0)⟩,
  ⟨some 5, none, .call 71 [(.t 3), (.t 4)]⟩,
  ⟨some 6, none, .mv (.t 5)⟩,
  ⟨some 7, some (6, true), .mv (.t 0)⟩,
  ⟨some 8, some (6, true), .nck (.t 7)⟩,
  ⟨some 9, some (6, true), .fa 4 (.t 8)⟩,
  ⟨some 10, some (6, true), .ld false 1 (.t 9)⟩,
  ⟨some 11, some (6, true), .len 1 (.t 10)⟩,
  ⟨some 12, some (6, true), .bop .eql (.t 11) (.c (.i .i64 2))⟩,
  ⟨some 13, none, .pick (.t 6) (.t 12) (.c (.b false))⟩,
  ⟨some 14, none, .mv (.t 13)⟩,
  ⟨some 15, some (14, true), .mv (.t 0)⟩,
  ⟨some 16, some (14, true), .nck (.t 15)⟩,
  ⟨some 17, some (14, true), .fa 4 (.t 16)⟩,
  ⟨some 18, some (14, true), .ld false 1 (.t 17)⟩,
  ⟨some 19, some (14, true), .ia 5 (.t 18) (.c (.i .i64 0))⟩,
  ⟨some 20, some (14, true), .call 65 [(.t 19)]⟩,
  ⟨some 21, none, .pick (.t 14) (.t 20) (.c (.b false))⟩,
  ⟨some 22, none, .mv (.t 21)⟩,
  ⟨some 23, some (22, true), .mv (.t 0)⟩,
  ⟨some 24, some (22, true), .nck (.t 23)⟩,
  ⟨some 25, some (22, true), .fa 4 (.t 24)⟩,
  ⟨some 26, some (22, true), .ld false 1 (.t 25)⟩,
  ⟨some 27, some (22, true), .ia 5 (.t 26) (.c (.i .i64 1))⟩,
  ⟨some 28, some (22, true), .call 66 [(.t 27)]⟩,
  ⟨some 29, none, .pick (.t 22) (.t 28) (.c (.b false))⟩,
  ⟨some 2, none, .mv (.t 29)⟩])
  .ret))⟩

theorem irc131 : cFunc Tryz.prog Tryz.f131 = some ir131 := by kernel_rfl
def ir132 : XF := ⟨22, 2, [(3, none)], (.seq (.reg [⟨some 3, none, .mv (.c (.b false))⟩])
  (.seq (.par [⟨some 4, none, .bld [(.b false), (.b false), (.b false), (.b false)] [(1, 1, (.c (.b true))), (3, 1, (.c (.b true)))]⟩,
  ⟨some 5, none, .mv (.t 0)⟩,
  ⟨some 6, none, .call 71 [(.t 4), (.t 5)]⟩,
  ⟨some 7, none, .mv (.t 6)⟩,
  ⟨some 8, some (7, true), .mv (.t 0)⟩,
  ⟨some 9, some (7, true), .nck (.t 8)⟩,
  ⟨some 10, some (7, true), .fa 2 (.t 9)⟩,
  ⟨some 11, some (7, true), .ld false 1 (.t 10)⟩,
  ⟨some 12, some (7, true), .call 72 [(.t 11)]⟩,
  ⟨some 13, none, .pick (.t 7) (.t 12) (.c (.b false))⟩,
  ⟨some 14, none, .mv (.t 13)⟩,
  ⟨some 15, some (14, true), .ld false 1 (.t 1)⟩,
  ⟨some 16, some (14, true), .mv (.t 0)⟩,
  ⟨some 17, some (14, true), .nck (.t 16)⟩,
  ⟨some 18, some (14, true), .fa 4 (.t 17)⟩,
  ⟨some 19, some (14, true), .ld false 1 (.t 18)⟩,
  ⟨some 20, some (14, true), .callv (.t 15) [(.t 19)]⟩,
  ⟨some 21, none, .pick (.t 14) (.t 20) (.c (.b false))⟩,
  ⟨some 3, none, .mv (.t 21)⟩] [0, 0, 3, 7, 15, 31, 63, 127, 255, 511, 1023, 2047, 2047, 6143, 14335, 30719, 65535, 131071, 262143])
  .ret))⟩

theorem irc132 : cFunc Tryz.prog Tryz.f132 = some ir132 := by kernel_rfl
def ir133 : XF := ⟨29, 2, [(3, none)], (.seq (.reg [⟨some 3, none, .mv (.c (.b false))⟩])
  (.seq (.par [⟨some 4, none, .bld [(.b false), (.b false), (.b false), (.b false)] [(1, 1, (.c (.b true))), (2, 1, (.c (.b true))), (3, 1, (.c (.b true)))]⟩,
  ⟨some 5, none, .mv (.t 0)⟩,
  ⟨some 6, none, .call 71 [(.t 4), (.t 5)]⟩,
  ⟨some 7, none, .mv (.t 6)⟩,
  ⟨some 8, some (7, true), .mv (.t 0)⟩,
  ⟨some 9, some (7, true), .nck (.t 8)⟩,
  ⟨some 10, some (7, true), .fa 2 (.t 9)⟩,
  ⟨some 11, some (7, true), .ld false 1 (.t 10)⟩,
  ⟨some 12, some (7, true), .call 72 [(.t 11)]⟩,
  ⟨some 13, none, .pick (.t 7) (.t 12) (.c (.b false))⟩,
  ⟨some 14, none, .mv (.t 13)⟩,
  ⟨some 15, some (14, true), .mv (.t 0)⟩,
  ⟨some 16, some (14, true), .nck (.t 15)⟩,
  ⟨some 17, some (14, true), .fa 3 (.t 16)⟩,
  ⟨some 18, some (14, true), .ld false 1 (.t 17)⟩,
  ⟨some 19, some (14, true), .call 72 [(.t 18)]⟩,
  ⟨some 20, none, .pick (.t 14) (.t 19) (.c (.b false))⟩,
  ⟨some 21, none, .mv (.t 20)⟩,
  ⟨some 22, some (21, true), .ld false 1 (.t 1)⟩,
  ⟨some 23, some (21, true), .mv (.t 0)⟩,
  ⟨some 24, some (21, true), .nck (.t 23)⟩,
  ⟨some 25, some (21, true), .fa 4 (.t 24)⟩,
  ⟨some 26, some (21, true), .ld false 1 (.t 25)⟩,
  ⟨some 27, some (21, true), .callv (.t 22) [(.t 26)]⟩,
  ⟨some 28, none, .pick (.t 21) (.t 27) (.c (.b false))⟩,
  ⟨some 3, none, .mv (.t 28)⟩] [0, 0, 3, 7, 15, 31, 63, 127, 255, 511, 1023, 2047, 4095, 8191, 16383, 32767, 65535, 131071, 262143, 262143, 786431, 1835007, 3932159, 8388607, 16777215, 33554431])
  .ret))⟩

theorem irc133 : cFunc Tryz.prog Tryz.f133 = some ir133 := by kernel_rfl
def ir134 : XF := ⟨42, 2, [(3, none)], (.seq (.reg [⟨some 3, none, .mv (.c (.b false))⟩])
  (.seq (.par [⟨some 4, none, .bld [(.b false), (.b false), (.b false), (.b false)] [(3, 1, (.c (.b true)))]⟩,
  ⟨some 5, none, .mv (.t 0)⟩,
  ⟨some 6, none, .call 71 [(.t 4), (.t 5)]⟩,
  ⟨some 7, none, .mv (.t 6)⟩,
  ⟨some 8, some (7, true), .mv (.t 0)⟩,
  ⟨some 9, some (7, true), .nck (.t 8)⟩,
  ⟨some 10, some (7, true), .fa 4 (.t 9)⟩,
  ⟨some 11, some (7, true), .ld false 1 (.t 10)⟩,
  ⟨some 12, some (7, true), .len 1 (.t 11)⟩,
  ⟨some 13, some (7, true), .bop .gtr (.t 12) (.c (.i .i64 0))⟩,
  ⟨some 14, none, .pick (.t 7) (.t 13) (.c (.b false))⟩,
  ⟨some 15, none, .mv (.t 14)⟩,
  ⟨some 16, some (15, true), .mv (.t 0)⟩,
  ⟨some 17, some (15, true), .nck (.t 16)⟩,
  ⟨some 18, some (15, true), .fa 4 (.t 17)⟩,
  ⟨some 19, some (15, true), .ld false 1 (.t 18)⟩,
  ⟨some 20, some (15, true), .ia 5 (.t 19) (.c (.i .i64 0))⟩,
  ⟨some 21, some (15, true), .fa 0 (.t 20)⟩,
  ⟨some 22, some (15, true), .ld false 1 (.t 21)⟩,
  ⟨some 23, some (15, true), .bop .eql (.t 22) (.c (.i .i8 5))⟩,
  ⟨some 24, none, .pick (.t 15) (.t 23) (.c (.b false))⟩,
  ⟨some 25, none, .mv (.t 24)⟩,
  ⟨some 26, some (25, true), .mv (.t 0)⟩,
  ⟨some 27, some (25, true), .nck (.t 26)⟩,
  ⟨some 28, some (25, true), .fa 4 (.t 27)⟩,
  ⟨some 29, some (25, true), .ld false 1 (.t 28)⟩,
  ⟨some 30, some (25, true), .ia 5 (.t 29) (.c (.i .i64 0))⟩,
  ⟨some 31, some (25, true), .call 66 [(.t 30)]⟩,
  ⟨some 32, none, .pick (.t 25) (.t 31) (.c (.b false))⟩,
  ⟨some 33, none, .mv (.t 32)⟩,
  ⟨some 34, some (33, true), .ld false 1 (.t 1)⟩,
  ⟨some 35, some (33, true), .mv (.t 0)⟩,
  ⟨some 36, some (33, true), .nck (.t 35)⟩,
  ⟨some 37, some (33, true), .fa 4 (.t 36)⟩,
  ⟨some 38, some (33, true), .ld false 1 (.t 37)⟩,
  ⟨some 39, some (33, true), .slc 5 (.t 38) (some (.c (.i .i64 1))) none none⟩,
  ⟨some 40, some (33, true), .callv (.t 34) [(.t 39)]⟩,
  ⟨some 41, none, .pick (.t 33) (.t 40) (.c (.b false))⟩,
  ⟨some 3, none, .mv (.t 41)⟩] [0, 0, 3, 7, 15, 31, 63, 127, 255, 511, 1023, 2047, 4095, 8191, 16383, 32767, 65535, 131071, 262143, 524287, 1048575, 2097151, 4194303, 8388607, 16777215, 33554431, 67108863, 134217727, 268435455, 536870911, 1073741823, 1073741823, 3221225471, 7516192767, 16106127359, 33285996543, 68719476735, 137438953471, 274877906943])
  .ret))⟩

theorem irc134 : cFunc Tryz.prog Tryz.f134 = some ir134 := by kernel_rfl
def ir135 : XF := ⟨34, 1, [(2, none)], (.seq (.reg [⟨some 2, none, .mv (.c (.b false))⟩])
  (.seq (.reg [⟨some 3, none, .bld [(.b false), (.b false), (.b false), (.b false)] [(0, 1, (.c (.b true))), (1, 1, (.c (.b true))), (2, 1, (.c (.b true)))]⟩,
  ⟨some 4, none, .mv (.t 0)⟩,
  ⟨some 5, none, .call 71 [(.t 3), (.t 4)]⟩,
  ⟨some 6, none, .mv (.t 5)⟩,
  ⟨some 7, some (6, true), .mv (.t 0)⟩,
  ⟨some 8, some (6, true), .nck (.t 7)⟩,
  ⟨some 9, some (6, true), .fa 2 (.t 8)⟩,
  ⟨some 10, some (6, true), .ld false 1 (.t 9)⟩,
  ⟨some 11, some (6, true), .call 72 [(.t 10)]⟩,
  ⟨some 12, none, .pick (.t 6) (.t 11) (.c (.b false))⟩,
  ⟨some 13, none, .mv (.t 12)⟩,
  ⟨some 14, some (13, true), .mv (.t 0)⟩,
  ⟨some 15, some (13, true), .nck (.t 14)⟩,
  ⟨some 16, some (13, true), .fa 3 (.t 15)⟩,
  ⟨some 17, some (13, true), .ld false 1 (.t 16)⟩,
  ⟨some 18, some (13, true), .call 72 [(.t 17)]⟩,
  ⟨some 19, none, .pick (.t 13) (.t 18) (.c (.b false))⟩,
  ⟨some 20, none, .mv (.t 19)⟩,
  ⟨some 21, some (20, true), .mv (.t 0)⟩,
  ⟨some 22, some (20, true), .nck (.t 21)⟩,
  ⟨some 23, some (20, true), .fa 1 (.t 22)⟩,
  ⟨some 24, some (20, true), .ld false 1 (.t 23)⟩,
  ⟨some 25, some (20, true), .bop .geq (.t 24) (.c (.i .i64 0))⟩,
  ⟨some 26, none, .pick (.t 20) (.t 25) (.c (.b false))⟩,
  ⟨some 27, none, .mv (.t 26)⟩,
  ⟨some 28, some (27, true), .mv (.t 0)⟩,
  ⟨some 29, some (27, true), .nck (.t 28)⟩,
  ⟨some 30, some (27, true), .fa 1 (.t 29)⟩,
  ⟨some 31, some (27, true), .ld false 1 (.t 30)⟩,
  ⟨some 32, some (27, true), .bop .leq (.t 31) (.c (.i .i64 8))⟩,
  ⟨some 33, none, .pick (.t 27) (.t 32) (.c (.b false))⟩,
  ⟨some 2, none, .mv (.t 33)⟩])
  .ret))⟩

theorem irc135 : cFunc Tryz.prog Tryz.f135 = some ir135 := by kernel_rfl
def ir136 : XF := ⟨31, 1, [(2, none)], (.seq (.reg [⟨some 2, none, .mv (.c (.b false))⟩])
  (.seq (.par [⟨some 3, none, .bld [(.b false), (.b false), (.b false), (.b false)] [(3, 1, (.c (.b true)))]⟩,
  ⟨some 4, none, .mv (.t 0)⟩,
  ⟨some 5, none, .call 71 [(.t 3), (.t 4)]⟩,
  ⟨some 6, none, .mv (.t 5)⟩,
  ⟨some 7, some (6, true), .mv (.t 0)⟩,
  ⟨some 8, some (6, true), .nck (.t 7)⟩,
  ⟨some 9, some (6, true), .fa 4 (.t 8)⟩,
  ⟨some 10, some (6, true), .ld false 1 (.t 9)⟩,
  ⟨some 11, some (6, true), .len 1 (.t 10)⟩,
  ⟨some 12, some (6, true), .bop .gtr (.t 11) (.c (.i .i64 1))⟩,
  ⟨some 13, none, .pick (.t 6) (.t 12) (.c (.b false))⟩,
  ⟨some 14, none, .mv (.t 13)⟩,
  ⟨some 15, some (14, true), .mv (.t 0)⟩,
  ⟨some 16, some (14, true), .nck (.t 15)⟩,
  ⟨some 17, some (14, true), .fa 4 (.t 16)⟩,
  ⟨some 18, some (14, true), .ld false 1 (.t 17)⟩,
  ⟨some 19, some (14, true), .ia 5 (.t 18) (.c (.i .i64 0))⟩,
  ⟨some 20, some (14, true), .call 66 [(.t 19)]⟩,
  ⟨some 21, none, .pick (.t 14) (.t 20) (.c (.b false))⟩,
  ⟨some 22, none, .mv (.t 21)⟩,
  ⟨some 23, some (22, true), .mv (.t 0)⟩,
  ⟨some 24, some (22, true), .nck (.t 23)⟩,
  ⟨some 25, some (22, true), .fa 4 (.t 24)⟩,
  ⟨some 26, some (22, true), .ld false 1 (.t 25)⟩,
  ⟨some 27, some (22, true), .slc 5 (.t 26) (some (.c (.i .i64 1))) none none⟩,
  ⟨some 28, some (22, true), .call 74 [(.c (.i .i64 1))]⟩,
  ⟨some 29, some (22, true), .call 73 [(.t 27), (.t 28)]⟩,
  ⟨some 30, none, .pick (.t 22) (.t 29) (.c (.b false))⟩,
  ⟨some 2, none, .mv (.t 30)⟩] [0, 0, 3, 7, 15, 31, 63, 127, 255, 511, 1023, 2047, 4095, 8191, 16383, 32767, 65535, 131071, 262143, 524287, 1048575, 2097151, 4194303, 8388607, 16777215, 1048575, 67108863, 134217727, 268435455])
  .ret))⟩

theorem irc136 : cFunc Tryz.prog Tryz.f136 = some ir136 := by kernel_rfl
def ir137 : XF := ⟨39, 1, [(2, none)], (.seq (.reg [⟨some 2, none, .mv (.c (.b false))⟩])
  (.seq (.par [⟨some 3, none, .bld [(.b false), (.b false), (.b false), (.b false)] [(3, 1, (.c (.b true)))]⟩,
  ⟨some 4, none, .mv (.t 0)⟩,
  ⟨some 5, none, .call 71 [(.t 3), (.t 4)]⟩,
  ⟨some 6, none, .mv (.t 5)⟩,
  ⟨some 7, some (6, true), .mv (.t 0)⟩,
  ⟨some 8, some (6, true), .nck (.t 7)⟩,
  ⟨some 9, some (6, true), .fa 4 (.t 8)⟩,
  ⟨some 10, some (6, true), .ld false 1 (.t 9)⟩,
  ⟨some 11, some (6, true), .len 1 (.t 10)⟩,
  ⟨some 12, some (6, true), .bop .gtr (.t 11) (.c (.i .i64 1))⟩,
  ⟨some 13, none, .pick (.t 6) (.t 12) (.c (.b false))⟩,
  ⟨some 14, none, .mv (.t 13)⟩,
  ⟨some 15, some (14, true), .mv (.t 0)⟩,
  ⟨some 16, some (14, true), .nck (.t 15)⟩,
  ⟨some 17, some (14, true), .fa 4 (.t 16)⟩,
  ⟨some 18, some (14, true), .ld false 1 (.t 17)⟩,
  ⟨some 19, some (14, true), .ia 5 (.t 18) (.c (.i .i64 0))⟩,
  ⟨some 20, some (14, true), .call 66 [(.t 19)]⟩,
  ⟨some 21, none, .pick (.t 14) (.t 20) (.c (.b false))⟩,
  ⟨some 22, none, .mv (.t 21)⟩,
  ⟨some 23, some (22, true), .mv (.t 0)⟩,
  ⟨some 24, some (22, true), .nck (.t 23)⟩,
  ⟨some 25, some (22, true), .fa 4 (.t 24)⟩,
  ⟨some 26, some (22, true), .ld false 1 (.t 25)⟩,
  ⟨some 27, some (22, true), .slc 5 (.t 26) (some (.c (.i .i64 1))) none none⟩,
  ⟨some 28, some (22, true), .call 74 [(.c (.i .i64 2))]⟩,
  ⟨some 29, some (22, true), .call 73 [(.t 27), (.t 28)]⟩,
  ⟨some 30, none, .pick (.t 22) (.t 29) (.c (.b false))⟩,
  ⟨some 31, none, .mv (.t 30)⟩,
  ⟨some 32, some (31, true), .mv (.t 0)⟩,
  ⟨some 33, some (31, true), .nck (.t 32)⟩,
  ⟨some 34, some (31, true), .fa 4 (.t 33)⟩,
  ⟨some 35, some (31, true), .ld false 1 (.t 34)⟩,
  ⟨some 36, some (31, true), .slc 5 (.t 35) (some (.c (.i .i64 1))) none none⟩,
  ⟨some 37, some (31, true), .call 73 [(.t 36), (.c (.f (.func 138) [] []))]⟩,
  ⟨some 38, none, .pick (.t 31) (.t 37) (.c (.b false))⟩,
  ⟨some 2, none, .mv (.t 38)⟩] [0, 0, 3, 7, 15, 31, 63, 127, 255, 511, 1023, 2047, 4095, 8191, 16383, 32767, 65535, 131071, 262143, 524287, 1048575, 2097151, 4194303, 8388607, 16777215, 1048575, 67108863, 134217727, 268435455, 536870911, 1073741823, 2147483647, 4294967295, 8589934591, 17179869183, 34359738367, 68719476735])
  .ret))⟩

theorem irc137 : cFunc Tryz.prog Tryz.f137 = some ir137 := by kernel_rfl
def ir74 : XF := ⟨4, 1, [(2, none)], (.seq (.reg [⟨some 1, none, .box 3 1 (.t 0)⟩,
  ⟨some 2, none, .mv (.c .fn)⟩])
  (.seq (.reg [⟨some 3, none, .mkf (.func 142) [] [(.t 1)]⟩,
  ⟨some 2, none, .mv (.t 3)⟩])
  .ret))⟩

theorem irc74 : cFunc Tryz.prog Tryz.f74 = some ir74 := by kernel_rfl
def tabI : Trie XF := (.nd (.nd (.nd (.nd (.nd (.nd (.nd (.nd .lf (some ir127) .lf) none .lf) none .lf) none .lf) none (.nd (.nd (.nd (.nd .lf (some ir135) .lf) (some ir71) .lf) none .lf) none (.nd .lf none (.nd (.nd .lf (some ir183) .lf) none .lf)))) none (.nd (.nd (.nd (.nd (.nd .lf (some ir131) .lf) none .lf) none .lf) none .lf) none (.nd .lf none (.nd .lf none (.nd .lf (some ir123) .lf))))) none (.nd (.nd .lf none (.nd (.nd (.nd (.nd .lf (some ir137) .lf) none .lf) none .lf) none (.nd .lf none (.nd (.nd .lf (some ir185) .lf) none .lf)))) none (.nd (.nd (.nd (.nd (.nd .lf (some ir133) .lf) none .lf) none .lf) none (.nd .lf none (.nd (.nd .lf (some ir181) .lf) none .lf))) none (.nd .lf none (.nd .lf none (.nd .lf (some ir125) .lf)))))) none (.nd (.nd (.nd (.nd (.nd (.nd (.nd .lf (some ir128) .lf) (some ir64) .lf) none .lf) none .lf) none (.nd (.nd (.nd (.nd .lf (some ir136) .lf) none .lf) none .lf) none (.nd .lf none (.nd (.nd .lf (some ir184) .lf) none .lf)))) none (.nd (.nd (.nd (.nd (.nd .lf (some ir132) .lf) none .lf) none .lf) none (.nd .lf none (.nd (.nd .lf (some ir180) .lf) none .lf))) none (.nd .lf none (.nd .lf none (.nd .lf (some ir124) .lf))))) none (.nd (.nd (.nd (.nd .lf none (.nd (.nd .lf (some ir162) .lf) none .lf)) none (.nd .lf none (.nd (.nd .lf (some ir178) .lf) none .lf))) none (.nd (.nd (.nd .lf (some ir74) .lf) none .lf) none (.nd .lf none (.nd .lf (some ir122) .lf)))) none (.nd (.nd (.nd (.nd (.nd .lf (some ir134) .lf) none .lf) none .lf) none (.nd .lf none (.nd (.nd .lf (some ir182) .lf) none .lf))) none (.nd .lf none (.nd .lf none (.nd .lf (some ir126) .lf)))))))
def tabL : List (Nat × XF) := [(64, ir64), (71, ir71), (74, ir74), (122, ir122), (123, ir123), (124, ir124), (125, ir125), (126, ir126), (127, ir127), (128, ir128), (131, ir131), (132, ir132), (133, ir133), (134, ir134), (135, ir135), (136, ir136), (137, ir137), (162, ir162), (178, ir178), (180, ir180), (181, ir181), (182, ir182), (183, ir183), (184, ir184), (185, ir185)]
theorem tabI_eq : tabI = ofList tabL := by kernel_rfl
theorem tabI_ok : TabOk Tryz.prog tabI := tab_of tabI_eq (by kernel_rfl) fun p hp => by
  simp only [tabL, List.mem_cons, List.not_mem_nil, or_false] at hp
  rcases hp with rfl | rfl | rfl | rfl | rfl | rfl | rfl | rfl | rfl | rfl | rfl | rfl | rfl | rfl | rfl | rfl | rfl | rfl | rfl | rfl | rfl | rfl | rfl | rfl | rfl
  · exact ⟨_, Tryz.func64, irc64⟩
  · exact ⟨_, Tryz.func71, irc71⟩
  · exact ⟨_, Tryz.func74, irc74⟩
  · exact ⟨_, Tryz.func122, irc122⟩
  · exact ⟨_, Tryz.func123, irc123⟩
  · exact ⟨_, Tryz.func124, irc124⟩
  · exact ⟨_, Tryz.func125, irc125⟩
  · exact ⟨_, Tryz.func126, irc126⟩
  · exact ⟨_, Tryz.func127, irc127⟩
  · exact ⟨_, Tryz.func128, irc128⟩
  · exact ⟨_, Tryz.func131, irc131⟩
  · exact ⟨_, Tryz.func132, irc132⟩
  · exact ⟨_, Tryz.func133, irc133⟩
  · exact ⟨_, Tryz.func134, irc134⟩
  · exact ⟨_, Tryz.func135, irc135⟩
  · exact ⟨_, Tryz.func136, irc136⟩
  · exact ⟨_, Tryz.func137, irc137⟩
  · exact ⟨_, Tryz.func162, irc162⟩
  · exact ⟨_, Tryz.func178, irc178⟩
  · exact ⟨_, Tryz.func180, irc180⟩
  · exact ⟨_, Tryz.func181, irc181⟩
  · exact ⟨_, Tryz.func182, irc182⟩
  · exact ⟨_, Tryz.func183, irc183⟩
  · exact ⟨_, Tryz.func184, irc184⟩
  · exact ⟨_, Tryz.func185, irc185⟩
abbrev cal : CallT := run mth tabI noOrc 1000 20
theorem pu_of {f : Nat} {fn : Func} {x : XF} (hfn : Tryz.prog.funcs[f]? = some fn) (hc : cFunc Tryz.prog fn = some x) {args : List TV} {pa : List PA} {v : TV} {obs : List Ob} (hx : funO 5 mth cal 1000 x args pa = some (v, obs)) (hv : v.flat = true) (ho : Owes Tryz.prog rho obs) : Pu f args v :=
  pu_of' tabI_ok hfn hc hx hv ho
theorem lp_more {x : IC} {ks : List Nat} {m : Nat} {e e2 e' : Trie TV} {t t2 t' : Trie TB} {n n' : Nat} {pa : List PA} {ex : EX} {obs : List Ob} (hx : bodyO 5 mth cal 1000 x ks m e t n pa = some (.nrm, e2, t2, obs)) (ho : Owes Tryz.prog rho obs) (hl : LoopC Tryz.prog rho x e2 t2 m ex e' t' n') : LoopC Tryz.prog rho x e t n ex e' t' n' :=
  lp_more' tabI_ok hx ho hl
theorem lp_end {x : IC} {ks : List Nat} {m : Nat} {e e2 : Trie TV} {t t2 : Trie TB} {n : Nat} {pa : List PA} {ex : EX} {obs : List Ob} (hx : bodyO 5 mth cal 1000 x ks m e t n pa = some (ex, e2, t2, obs)) (hne : ex ≠ .nrm) (ho : Owes Tryz.prog rho obs) : LoopC Tryz.prog rho x e t n ex e2 t2 m :=
  lp_end' tabI_ok hx hne ho
theorem ex0_0 (x : Tr) : funO 5 mth cal 1000 ir66 [(.ep 57 0 (rowK x 0))] [.go, .go, .go, .go, .br true, .br true] = some ((.b false), [.eqb (decide (0 < 22)) true, .eqb (Sx.inK .i64 0) true, .eqb (decide (0 ≤ 0)) true]) := by kernel_rfl
theorem ex0 (x : Tr) : Pu 66 [(.ep 57 0 (rowK x 0))] (.b false) := by
  exact pu_of Tryz.func66 irc66 (ex0_0 x) rfl ⟨(of_eqb (by decide)), (of_eqb (by decide)), (of_eqb (by decide)), trivial⟩
theorem ex1_0 (x : Tr) : funO 5 mth cal 1000 ir66 [(.ep 57 0 (rowK x 1))] [.go, .go, .go, .go, .br true, .br true] = some ((.b false), [.eqb (decide (1 < 22)) true, .eqb (Sx.inK .i64 1) true, .eqb (decide (0 ≤ 1)) true]) := by kernel_rfl
theorem ex1 (x : Tr) : Pu 66 [(.ep 57 0 (rowK x 1))] (.b false) := by
  exact pu_of Tryz.func66 irc66 (ex1_0 x) rfl ⟨(of_eqb (by decide)), (of_eqb (by decide)), (of_eqb (by decide)), trivial⟩
theorem ex2_0 (x : Tr) : funO 5 mth cal 1000 ir66 [(.ep 57 0 (rowK x 2))] [.go, .go, .go, .go, .br true, .br true] = some ((.b false), [.eqb (decide (2 < 22)) true, .eqb (Sx.inK .i64 2) true, .eqb (decide (0 ≤ 2)) true]) := by kernel_rfl
theorem ex2 (x : Tr) : Pu 66 [(.ep 57 0 (rowK x 2))] (.b false) := by
  exact pu_of Tryz.func66 irc66 (ex2_0 x) rfl ⟨(of_eqb (by decide)), (of_eqb (by decide)), (of_eqb (by decide)), trivial⟩
theorem ex3_0 (x : Tr) : funO 5 mth cal 1000 ir66 [(.ep 57 0 (rowK x 3))] [.go, .go, .go, .go, .br true, .br true] = some ((.b false), [.eqb (decide (3 < 22)) true, .eqb (Sx.inK .i64 3) true, .eqb (decide (0 ≤ 3)) true]) := by kernel_rfl
theorem ex3 (x : Tr) : Pu 66 [(.ep 57 0 (rowK x 3))] (.b false) := by
  exact pu_of Tryz.func66 irc66 (ex3_0 x) rfl ⟨(of_eqb (by decide)), (of_eqb (by decide)), (of_eqb (by decide)), trivial⟩
theorem ex4_0 (x : Tr) : funO 5 mth cal 1000 ir66 [(.ep 57 0 (rowK x 4))] [.go, .go, .go, .go, .br true, .br true] = some ((.b false), [.eqb (decide (4 < 22)) true, .eqb (Sx.inK .i64 4) true, .eqb (decide (0 ≤ 4)) true]) := by kernel_rfl
theorem ex4 (x : Tr) : Pu 66 [(.ep 57 0 (rowK x 4))] (.b false) := by
  exact pu_of Tryz.func66 irc66 (ex4_0 x) rfl ⟨(of_eqb (by decide)), (of_eqb (by decide)), (of_eqb (by decide)), trivial⟩
theorem ex5_0 (x : Tr) (vname0 : Bool) : funO 5 mth cal 1000 ir66 [(.ep 57 0 (rowK x 5))] [.go, .go, .go, .go, .br true, .br true, .go, .go, .br true, .br true, .br true, .cl [.as] (.b (vname0))] = some ((.b (vname0)), [.call 179 [(.s (nats x.s))] (.b (vname0)), .eqb (freeL []) true, .eqb (TV.free (.s (nats x.s))) true, .eqb (decide ((List.length (rowsT x.l) : Int) = 0)) true, .eqb (decide ((nats x.t) = ([] : List Nat))) true, .eqb (decide (x.n = 0)) true, .eqb (decide (5 < 22)) true, .eqb (Sx.inK .i64 5) true, .eqb (decide (0 ≤ 5)) true]) := by kernel_rfl
theorem ex5_1 (x : Tr) : funO 5 mth cal 1000 ir66 [(.ep 57 0 (rowK x 5))] [.go, .go, .go, .go, .br true, .br true, .go, .go, .br true, .br true, .br false] = some ((.b false), [.eqb (decide ((List.length (rowsT x.l) : Int) = 0)) false, .eqb (decide ((nats x.t) = ([] : List Nat))) true, .eqb (decide (x.n = 0)) true, .eqb (decide (5 < 22)) true, .eqb (Sx.inK .i64 5) true, .eqb (decide (0 ≤ 5)) true]) := by kernel_rfl
theorem ex5_2 (x : Tr) : funO 5 mth cal 1000 ir66 [(.ep 57 0 (rowK x 5))] [.go, .go, .go, .go, .br true, .br true, .go, .go, .br true, .br false] = some ((.b false), [.eqb (decide ((nats x.t) = ([] : List Nat))) false, .eqb (decide (x.n = 0)) true, .eqb (decide (5 < 22)) true, .eqb (Sx.inK .i64 5) true, .eqb (decide (0 ≤ 5)) true]) := by kernel_rfl
theorem ex5_3 (x : Tr) : funO 5 mth cal 1000 ir66 [(.ep 57 0 (rowK x 5))] [.go, .go, .go, .go, .br true, .br true, .go, .go, .br false] = some ((.b false), [.eqb (decide (x.n = 0)) false, .eqb (decide (5 < 22)) true, .eqb (Sx.inK .i64 5) true, .eqb (decide (0 ≤ 5)) true]) := by kernel_rfl
theorem ex5 (x : Tr) (vname0 : Bool) (c0 : (decide (x.n = 0)) = true → (decide ((nats x.t) = ([] : List Nat))) = true → (decide ((List.length (rowsT x.l) : Int) = 0)) = true → Pu 179 [(.s (nats x.s))] (.b (vname0))) : Pu 66 [(.ep 57 0 (rowK x 5))] (.b (bif decide (x.n = 0) then (bif decide ((nats x.t) = ([] : List Nat)) then (bif decide ((List.length (rowsT x.l) : Int) = 0) then vname0 else false) else false) else false)) := by
  cases h0 : (decide (x.n = 0))
  case false =>
    exact pu_of Tryz.func66 irc66 (ex5_3 x) rfl ⟨h0, (of_eqb (by decide)), (of_eqb (by decide)), (of_eqb (by decide)), trivial⟩
  case true =>
    cases h1 : (decide ((nats x.t) = ([] : List Nat)))
    case false =>
      exact pu_of Tryz.func66 irc66 (ex5_2 x) rfl ⟨h1, h0, (of_eqb (by decide)), (of_eqb (by decide)), (of_eqb (by decide)), trivial⟩
    case true =>
      cases h2 : (decide ((List.length (rowsT x.l) : Int) = 0))
      case false =>
        exact pu_of Tryz.func66 irc66 (ex5_1 x) rfl ⟨h2, h1, h0, (of_eqb (by decide)), (of_eqb (by decide)), (of_eqb (by decide)), trivial⟩
      case true =>
        exact pu_of Tryz.func66 irc66 (ex5_0 x vname0) rfl ⟨(c0 h0 h1 h2), rfl, rfl, h2, h1, h0, (of_eqb (by decide)), (of_eqb (by decide)), (of_eqb (by decide)), trivial⟩
theorem ex6_0 (x : Tr) : funO 5 mth cal 1000 ir66 [(.ep 57 0 (rowK x 6))] [.go, .go, .go, .go, .br true, .br true, .go, .go, .br true, .br true, .br true, .go, .br true, .kp] = some ((.b (decide (x.n ≤ 576460752303423487))), [.eqb (decide ((-576460752303423488) ≤ x.n)) true, .eqb (decide ((List.length (rowsT x.l) : Int) = 0)) true, .eqb (decide ((nats x.t) = ([] : List Nat))) true, .eqb (decide ((nats x.s) = ([] : List Nat))) true, .eqb (decide (6 < 22)) true, .eqb (Sx.inK .i64 6) true, .eqb (decide (0 ≤ 6)) true]) := by kernel_rfl
theorem ex6_1 (x : Tr) : funO 5 mth cal 1000 ir66 [(.ep 57 0 (rowK x 6))] [.go, .go, .go, .go, .br true, .br true, .go, .go, .br true, .br true, .br true, .go, .br false] = some ((.b false), [.eqb (decide ((-576460752303423488) ≤ x.n)) false, .eqb (decide ((List.length (rowsT x.l) : Int) = 0)) true, .eqb (decide ((nats x.t) = ([] : List Nat))) true, .eqb (decide ((nats x.s) = ([] : List Nat))) true, .eqb (decide (6 < 22)) true, .eqb (Sx.inK .i64 6) true, .eqb (decide (0 ≤ 6)) true]) := by kernel_rfl
theorem ex6_2 (x : Tr) : funO 5 mth cal 1000 ir66 [(.ep 57 0 (rowK x 6))] [.go, .go, .go, .go, .br true, .br true, .go, .go, .br true, .br true, .br false] = some ((.b false), [.eqb (decide ((List.length (rowsT x.l) : Int) = 0)) false, .eqb (decide ((nats x.t) = ([] : List Nat))) true, .eqb (decide ((nats x.s) = ([] : List Nat))) true, .eqb (decide (6 < 22)) true, .eqb (Sx.inK .i64 6) true, .eqb (decide (0 ≤ 6)) true]) := by kernel_rfl
theorem ex6_3 (x : Tr) : funO 5 mth cal 1000 ir66 [(.ep 57 0 (rowK x 6))] [.go, .go, .go, .go, .br true, .br true, .go, .go, .br true, .br false] = some ((.b false), [.eqb (decide ((nats x.t) = ([] : List Nat))) false, .eqb (decide ((nats x.s) = ([] : List Nat))) true, .eqb (decide (6 < 22)) true, .eqb (Sx.inK .i64 6) true, .eqb (decide (0 ≤ 6)) true]) := by kernel_rfl
theorem ex6_4 (x : Tr) : funO 5 mth cal 1000 ir66 [(.ep 57 0 (rowK x 6))] [.go, .go, .go, .go, .br true, .br true, .go, .go, .br false] = some ((.b false), [.eqb (decide ((nats x.s) = ([] : List Nat))) false, .eqb (decide (6 < 22)) true, .eqb (Sx.inK .i64 6) true, .eqb (decide (0 ≤ 6)) true]) := by kernel_rfl
theorem ex6 (x : Tr) : Pu 66 [(.ep 57 0 (rowK x 6))] (.b (bif decide ((nats x.s) = ([] : List Nat)) then (bif decide ((nats x.t) = ([] : List Nat)) then (bif decide ((List.length (rowsT x.l) : Int) = 0) then (bif decide ((-576460752303423488) ≤ x.n) then decide (x.n ≤ 576460752303423487) else false) else false) else false) else false)) := by
  cases h0 : (decide ((nats x.s) = ([] : List Nat)))
  case false =>
    exact pu_of Tryz.func66 irc66 (ex6_4 x) rfl ⟨h0, (of_eqb (by decide)), (of_eqb (by decide)), (of_eqb (by decide)), trivial⟩
  case true =>
    cases h1 : (decide ((nats x.t) = ([] : List Nat)))
    case false =>
      exact pu_of Tryz.func66 irc66 (ex6_3 x) rfl ⟨h1, h0, (of_eqb (by decide)), (of_eqb (by decide)), (of_eqb (by decide)), trivial⟩
    case true =>
      cases h2 : (decide ((List.length (rowsT x.l) : Int) = 0))
      case false =>
        exact pu_of Tryz.func66 irc66 (ex6_2 x) rfl ⟨h2, h1, h0, (of_eqb (by decide)), (of_eqb (by decide)), (of_eqb (by decide)), trivial⟩
      case true =>
        cases h3 : (decide ((-576460752303423488) ≤ x.n))
        case false =>
          exact pu_of Tryz.func66 irc66 (ex6_1 x) rfl ⟨h3, h2, h1, h0, (of_eqb (by decide)), (of_eqb (by decide)), (of_eqb (by decide)), trivial⟩
        case true =>
          exact pu_of Tryz.func66 irc66 (ex6_0 x) rfl ⟨h3, h2, h1, h0, (of_eqb (by decide)), (of_eqb (by decide)), (of_eqb (by decide)), trivial⟩
theorem ex7_0 (x : Tr) (vatom0 : Bool) : funO 5 mth cal 1000 ir66 [(.ep 57 0 (rowK x 7))] [.go, .go, .go, .go, .br true, .br true, .go, .go, .br true, .br true, .br true, .cl [.as] (.b (vatom0))] = some ((.b (vatom0)), [.call 72 [(.s (nats x.s))] (.b (vatom0)), .eqb (freeL []) true, .eqb (TV.free (.s (nats x.s))) true, .eqb (decide ((List.length (rowsT x.l) : Int) = 0)) true, .eqb (decide ((nats x.t) = ([] : List Nat))) true, .eqb (decide (x.n = 0)) true, .eqb (decide (7 < 22)) true, .eqb (Sx.inK .i64 7) true, .eqb (decide (0 ≤ 7)) true]) := by kernel_rfl
theorem ex7_1 (x : Tr) : funO 5 mth cal 1000 ir66 [(.ep 57 0 (rowK x 7))] [.go, .go, .go, .go, .br true, .br true, .go, .go, .br true, .br true, .br false] = some ((.b false), [.eqb (decide ((List.length (rowsT x.l) : Int) = 0)) false, .eqb (decide ((nats x.t) = ([] : List Nat))) true, .eqb (decide (x.n = 0)) true, .eqb (decide (7 < 22)) true, .eqb (Sx.inK .i64 7) true, .eqb (decide (0 ≤ 7)) true]) := by kernel_rfl
theorem ex7_2 (x : Tr) : funO 5 mth cal 1000 ir66 [(.ep 57 0 (rowK x 7))] [.go, .go, .go, .go, .br true, .br true, .go, .go, .br true, .br false] = some ((.b false), [.eqb (decide ((nats x.t) = ([] : List Nat))) false, .eqb (decide (x.n = 0)) true, .eqb (decide (7 < 22)) true, .eqb (Sx.inK .i64 7) true, .eqb (decide (0 ≤ 7)) true]) := by kernel_rfl
theorem ex7_3 (x : Tr) : funO 5 mth cal 1000 ir66 [(.ep 57 0 (rowK x 7))] [.go, .go, .go, .go, .br true, .br true, .go, .go, .br false] = some ((.b false), [.eqb (decide (x.n = 0)) false, .eqb (decide (7 < 22)) true, .eqb (Sx.inK .i64 7) true, .eqb (decide (0 ≤ 7)) true]) := by kernel_rfl
theorem ex7 (x : Tr) (vatom0 : Bool) (c0 : (decide (x.n = 0)) = true → (decide ((nats x.t) = ([] : List Nat))) = true → (decide ((List.length (rowsT x.l) : Int) = 0)) = true → Pu 72 [(.s (nats x.s))] (.b (vatom0))) : Pu 66 [(.ep 57 0 (rowK x 7))] (.b (bif decide (x.n = 0) then (bif decide ((nats x.t) = ([] : List Nat)) then (bif decide ((List.length (rowsT x.l) : Int) = 0) then vatom0 else false) else false) else false)) := by
  cases h0 : (decide (x.n = 0))
  case false =>
    exact pu_of Tryz.func66 irc66 (ex7_3 x) rfl ⟨h0, (of_eqb (by decide)), (of_eqb (by decide)), (of_eqb (by decide)), trivial⟩
  case true =>
    cases h1 : (decide ((nats x.t) = ([] : List Nat)))
    case false =>
      exact pu_of Tryz.func66 irc66 (ex7_2 x) rfl ⟨h1, h0, (of_eqb (by decide)), (of_eqb (by decide)), (of_eqb (by decide)), trivial⟩
    case true =>
      cases h2 : (decide ((List.length (rowsT x.l) : Int) = 0))
      case false =>
        exact pu_of Tryz.func66 irc66 (ex7_1 x) rfl ⟨h2, h1, h0, (of_eqb (by decide)), (of_eqb (by decide)), (of_eqb (by decide)), trivial⟩
      case true =>
        exact pu_of Tryz.func66 irc66 (ex7_0 x vatom0) rfl ⟨(c0 h0 h1 h2), rfl, rfl, h2, h1, h0, (of_eqb (by decide)), (of_eqb (by decide)), (of_eqb (by decide)), trivial⟩
theorem ex8_0 (x : Tr) : funO 5 mth cal 1000 ir66 [(.ep 57 0 (rowK x 8))] [.go, .go, .go, .go, .br true, .br true, .go, .go, .br true, .br true, .br true, .kp] = some ((.b (decide ((List.length (rowsT x.l) : Int) = 0))), [.eqb (decide ((nats x.t) = ([] : List Nat))) true, .eqb (decide ((nats x.s) = ([] : List Nat))) true, .eqb (decide (x.n = 0)) true, .eqb (decide (8 < 22)) true, .eqb (Sx.inK .i64 8) true, .eqb (decide (0 ≤ 8)) true]) := by kernel_rfl
theorem ex8_1 (x : Tr) : funO 5 mth cal 1000 ir66 [(.ep 57 0 (rowK x 8))] [.go, .go, .go, .go, .br true, .br true, .go, .go, .br true, .br true, .br false] = some ((.b false), [.eqb (decide ((nats x.t) = ([] : List Nat))) false, .eqb (decide ((nats x.s) = ([] : List Nat))) true, .eqb (decide (x.n = 0)) true, .eqb (decide (8 < 22)) true, .eqb (Sx.inK .i64 8) true, .eqb (decide (0 ≤ 8)) true]) := by kernel_rfl
theorem ex8_2 (x : Tr) : funO 5 mth cal 1000 ir66 [(.ep 57 0 (rowK x 8))] [.go, .go, .go, .go, .br true, .br true, .go, .go, .br true, .br false] = some ((.b false), [.eqb (decide ((nats x.s) = ([] : List Nat))) false, .eqb (decide (x.n = 0)) true, .eqb (decide (8 < 22)) true, .eqb (Sx.inK .i64 8) true, .eqb (decide (0 ≤ 8)) true]) := by kernel_rfl
theorem ex8_3 (x : Tr) : funO 5 mth cal 1000 ir66 [(.ep 57 0 (rowK x 8))] [.go, .go, .go, .go, .br true, .br true, .go, .go, .br false] = some ((.b false), [.eqb (decide (x.n = 0)) false, .eqb (decide (8 < 22)) true, .eqb (Sx.inK .i64 8) true, .eqb (decide (0 ≤ 8)) true]) := by kernel_rfl
theorem ex8 (x : Tr) : Pu 66 [(.ep 57 0 (rowK x 8))] (.b (bif decide (x.n = 0) then (bif decide ((nats x.s) = ([] : List Nat)) then (bif decide ((nats x.t) = ([] : List Nat)) then decide ((List.length (rowsT x.l) : Int) = 0) else false) else false) else false)) := by
  cases h0 : (decide (x.n = 0))
  case false =>
    exact pu_of Tryz.func66 irc66 (ex8_3 x) rfl ⟨h0, (of_eqb (by decide)), (of_eqb (by decide)), (of_eqb (by decide)), trivial⟩
  case true =>
    cases h1 : (decide ((nats x.s) = ([] : List Nat)))
    case false =>
      exact pu_of Tryz.func66 irc66 (ex8_2 x) rfl ⟨h1, h0, (of_eqb (by decide)), (of_eqb (by decide)), (of_eqb (by decide)), trivial⟩
    case true =>
      cases h2 : (decide ((nats x.t) = ([] : List Nat)))
      case false =>
        exact pu_of Tryz.func66 irc66 (ex8_1 x) rfl ⟨h2, h1, h0, (of_eqb (by decide)), (of_eqb (by decide)), (of_eqb (by decide)), trivial⟩
      case true =>
        exact pu_of Tryz.func66 irc66 (ex8_0 x) rfl ⟨h2, h1, h0, (of_eqb (by decide)), (of_eqb (by decide)), (of_eqb (by decide)), trivial⟩
theorem ex9_0 (x : Tr) (veach0 : Bool) : funO 5 mth cal 1000 ir66 [(.ep 57 0 (rowK x 9))] [.go, .go, .go, .go, .br true, .br true, .go, .go, .br true, .br true, .br true, .br true, .cl [.as, .as] (.b (veach0))] = some ((.b (veach0)), [.call 73 [(.es 57 (.r (rowsT x.l))), (.f (.func 66) [] [])] (.b (veach0)), .eqb (freeL []) true, .eqb (TV.free (.f (.func 66) [] [])) true, .eqb (TV.free (.es 57 (.r (rowsT x.l)))) true, .eqb (decide ((List.length (rowsT x.l) : Int) = 2)) true, .eqb (decide ((nats x.t) = ([] : List Nat))) true, .eqb (decide ((nats x.s) = ([] : List Nat))) true, .eqb (decide (x.n = 0)) true, .eqb (decide (9 < 22)) true, .eqb (Sx.inK .i64 9) true, .eqb (decide (0 ≤ 9)) true]) := by kernel_rfl
theorem ex9_1 (x : Tr) : funO 5 mth cal 1000 ir66 [(.ep 57 0 (rowK x 9))] [.go, .go, .go, .go, .br true, .br true, .go, .go, .br true, .br true, .br true, .br false] = some ((.b false), [.eqb (decide ((List.length (rowsT x.l) : Int) = 2)) false, .eqb (decide ((nats x.t) = ([] : List Nat))) true, .eqb (decide ((nats x.s) = ([] : List Nat))) true, .eqb (decide (x.n = 0)) true, .eqb (decide (9 < 22)) true, .eqb (Sx.inK .i64 9) true, .eqb (decide (0 ≤ 9)) true]) := by kernel_rfl
theorem ex9_2 (x : Tr) : funO 5 mth cal 1000 ir66 [(.ep 57 0 (rowK x 9))] [.go, .go, .go, .go, .br true, .br true, .go, .go, .br true, .br true, .br false] = some ((.b false), [.eqb (decide ((nats x.t) = ([] : List Nat))) false, .eqb (decide ((nats x.s) = ([] : List Nat))) true, .eqb (decide (x.n = 0)) true, .eqb (decide (9 < 22)) true, .eqb (Sx.inK .i64 9) true, .eqb (decide (0 ≤ 9)) true]) := by kernel_rfl
theorem ex9_3 (x : Tr) : funO 5 mth cal 1000 ir66 [(.ep 57 0 (rowK x 9))] [.go, .go, .go, .go, .br true, .br true, .go, .go, .br true, .br false] = some ((.b false), [.eqb (decide ((nats x.s) = ([] : List Nat))) false, .eqb (decide (x.n = 0)) true, .eqb (decide (9 < 22)) true, .eqb (Sx.inK .i64 9) true, .eqb (decide (0 ≤ 9)) true]) := by kernel_rfl
theorem ex9_4 (x : Tr) : funO 5 mth cal 1000 ir66 [(.ep 57 0 (rowK x 9))] [.go, .go, .go, .go, .br true, .br true, .go, .go, .br false] = some ((.b false), [.eqb (decide (x.n = 0)) false, .eqb (decide (9 < 22)) true, .eqb (Sx.inK .i64 9) true, .eqb (decide (0 ≤ 9)) true]) := by kernel_rfl
theorem ex9 (x : Tr) (veach0 : Bool) (c0 : (decide (x.n = 0)) = true → (decide ((nats x.s) = ([] : List Nat))) = true → (decide ((nats x.t) = ([] : List Nat))) = true → (decide ((List.length (rowsT x.l) : Int) = 2)) = true → Pu 73 [(.es 57 (.r (rowsT x.l))), (.f (.func 66) [] [])] (.b (veach0))) : Pu 66 [(.ep 57 0 (rowK x 9))] (.b (bif decide (x.n = 0) then (bif decide ((nats x.s) = ([] : List Nat)) then (bif decide ((nats x.t) = ([] : List Nat)) then (bif decide ((List.length (rowsT x.l) : Int) = 2) then veach0 else false) else false) else false) else false)) := by
  cases h0 : (decide (x.n = 0))
  case false =>
    exact pu_of Tryz.func66 irc66 (ex9_4 x) rfl ⟨h0, (of_eqb (by decide)), (of_eqb (by decide)), (of_eqb (by decide)), trivial⟩
  case true =>
    cases h1 : (decide ((nats x.s) = ([] : List Nat)))
    case false =>
      exact pu_of Tryz.func66 irc66 (ex9_3 x) rfl ⟨h1, h0, (of_eqb (by decide)), (of_eqb (by decide)), (of_eqb (by decide)), trivial⟩
    case true =>
      cases h2 : (decide ((nats x.t) = ([] : List Nat)))
      case false =>
        exact pu_of Tryz.func66 irc66 (ex9_2 x) rfl ⟨h2, h1, h0, (of_eqb (by decide)), (of_eqb (by decide)), (of_eqb (by decide)), trivial⟩
      case true =>
        cases h3 : (decide ((List.length (rowsT x.l) : Int) = 2))
        case false =>
          exact pu_of Tryz.func66 irc66 (ex9_1 x) rfl ⟨h3, h2, h1, h0, (of_eqb (by decide)), (of_eqb (by decide)), (of_eqb (by decide)), trivial⟩
        case true =>
          exact pu_of Tryz.func66 irc66 (ex9_0 x veach0) rfl ⟨(c0 h0 h1 h2 h3), rfl, rfl, rfl, h3, h2, h1, h0, (of_eqb (by decide)), (of_eqb (by decide)), (of_eqb (by decide)), trivial⟩
theorem ex10_0 (x : Tr) (veach0 : Bool) : funO 5 mth cal 1000 ir66 [(.ep 57 0 (rowK x 10))] [.go, .go, .go, .go, .br true, .br true, .go, .go, .br true, .br true, .br true, .cl [.as, .as] (.b (veach0))] = some ((.b (veach0)), [.call 73 [(.es 57 (.r (rowsT x.l))), (.f (.func 66) [] [])] (.b (veach0)), .eqb (freeL []) true, .eqb (TV.free (.f (.func 66) [] [])) true, .eqb (TV.free (.es 57 (.r (rowsT x.l)))) true, .eqb (decide ((nats x.t) = ([] : List Nat))) true, .eqb (decide ((nats x.s) = ([] : List Nat))) true, .eqb (decide (x.n = 0)) true, .eqb (decide (10 < 22)) true, .eqb (Sx.inK .i64 10) true, .eqb (decide (0 ≤ 10)) true]) := by kernel_rfl
theorem ex10_1 (x : Tr) : funO 5 mth cal 1000 ir66 [(.ep 57 0 (rowK x 10))] [.go, .go, .go, .go, .br true, .br true, .go, .go, .br true, .br true, .br false] = some ((.b false), [.eqb (decide ((nats x.t) = ([] : List Nat))) false, .eqb (decide ((nats x.s) = ([] : List Nat))) true, .eqb (decide (x.n = 0)) true, .eqb (decide (10 < 22)) true, .eqb (Sx.inK .i64 10) true, .eqb (decide (0 ≤ 10)) true]) := by kernel_rfl
theorem ex10_2 (x : Tr) : funO 5 mth cal 1000 ir66 [(.ep 57 0 (rowK x 10))] [.go, .go, .go, .go, .br true, .br true, .go, .go, .br true, .br false] = some ((.b false), [.eqb (decide ((nats x.s) = ([] : List Nat))) false, .eqb (decide (x.n = 0)) true, .eqb (decide (10 < 22)) true, .eqb (Sx.inK .i64 10) true, .eqb (decide (0 ≤ 10)) true]) := by kernel_rfl
theorem ex10_3 (x : Tr) : funO 5 mth cal 1000 ir66 [(.ep 57 0 (rowK x 10))] [.go, .go, .go, .go, .br true, .br true, .go, .go, .br false] = some ((.b false), [.eqb (decide (x.n = 0)) false, .eqb (decide (10 < 22)) true, .eqb (Sx.inK .i64 10) true, .eqb (decide (0 ≤ 10)) true]) := by kernel_rfl
theorem ex10 (x : Tr) (veach0 : Bool) (c0 : (decide (x.n = 0)) = true → (decide ((nats x.s) = ([] : List Nat))) = true → (decide ((nats x.t) = ([] : List Nat))) = true → Pu 73 [(.es 57 (.r (rowsT x.l))), (.f (.func 66) [] [])] (.b (veach0))) : Pu 66 [(.ep 57 0 (rowK x 10))] (.b (bif decide (x.n = 0) then (bif decide ((nats x.s) = ([] : List Nat)) then (bif decide ((nats x.t) = ([] : List Nat)) then veach0 else false) else false) else false)) := by
  cases h0 : (decide (x.n = 0))
  case false =>
    exact pu_of Tryz.func66 irc66 (ex10_3 x) rfl ⟨h0, (of_eqb (by decide)), (of_eqb (by decide)), (of_eqb (by decide)), trivial⟩
  case true =>
    cases h1 : (decide ((nats x.s) = ([] : List Nat)))
    case false =>
      exact pu_of Tryz.func66 irc66 (ex10_2 x) rfl ⟨h1, h0, (of_eqb (by decide)), (of_eqb (by decide)), (of_eqb (by decide)), trivial⟩
    case true =>
      cases h2 : (decide ((nats x.t) = ([] : List Nat)))
      case false =>
        exact pu_of Tryz.func66 irc66 (ex10_1 x) rfl ⟨h2, h1, h0, (of_eqb (by decide)), (of_eqb (by decide)), (of_eqb (by decide)), trivial⟩
      case true =>
        exact pu_of Tryz.func66 irc66 (ex10_0 x veach0) rfl ⟨(c0 h0 h1 h2), rfl, rfl, rfl, h2, h1, h0, (of_eqb (by decide)), (of_eqb (by decide)), (of_eqb (by decide)), trivial⟩
theorem ex11_0 (x : Tr) (veach1 : Bool) : funO 5 mth cal 1000 ir66 [(.ep 57 0 (rowK x 11))] [.go, .go, .go, .go, .br true, .br true, .go, .go, .br true, .br true, .go, .cl [.as] (.b true), .br true, .cl [.as, .as] (.b (veach1))] = some ((.b (veach1)), [.call 73 [(.es 57 (.r (rowsT x.l))), (.f (.func 66) [] [])] (.b (veach1)), .eqb (freeL []) true, .eqb (TV.free (.f (.func 66) [] [])) true, .eqb (TV.free (.es 57 (.r (rowsT x.l)))) true, .eqb (decide ((List.length (rowsT x.l) : Int) = 2)) true, .call 129 [(.s (nats x.s))] (.b true), .eqb (freeL []) true, .eqb (TV.free (.s (nats x.s))) true, .eqb (decide ((nats x.t) = ([] : List Nat))) true, .eqb (decide (x.n = 0)) true, .eqb (decide (11 < 22)) true, .eqb (Sx.inK .i64 11) true, .eqb (decide (0 ≤ 11)) true]) := by kernel_rfl
theorem ex11_1 (x : Tr) : funO 5 mth cal 1000 ir66 [(.ep 57 0 (rowK x 11))] [.go, .go, .go, .go, .br true, .br true, .go, .go, .br true, .br true, .go, .cl [.as] (.b true), .br false] = some ((.b false), [.eqb (decide ((List.length (rowsT x.l) : Int) = 2)) false, .call 129 [(.s (nats x.s))] (.b true), .eqb (freeL []) true, .eqb (TV.free (.s (nats x.s))) true, .eqb (decide ((nats x.t) = ([] : List Nat))) true, .eqb (decide (x.n = 0)) true, .eqb (decide (11 < 22)) true, .eqb (Sx.inK .i64 11) true, .eqb (decide (0 ≤ 11)) true]) := by kernel_rfl
theorem ex11_2 (x : Tr) (veach1 : Bool) : funO 5 mth cal 1000 ir66 [(.ep 57 0 (rowK x 11))] [.go, .go, .go, .go, .br true, .br true, .go, .go, .br true, .br true, .go, .cl [.as] (.b false), .cl [.as] (.b true), .br true, .cl [.as, .as] (.b (veach1))] = some ((.b (veach1)), [.call 73 [(.es 57 (.r (rowsT x.l))), (.f (.func 66) [] [])] (.b (veach1)), .eqb (freeL []) true, .eqb (TV.free (.f (.func 66) [] [])) true, .eqb (TV.free (.es 57 (.r (rowsT x.l)))) true, .eqb (decide ((List.length (rowsT x.l) : Int) = 2)) true, .call 130 [(.s (nats x.s))] (.b true), .eqb (freeL []) true, .eqb (TV.free (.s (nats x.s))) true, .call 129 [(.s (nats x.s))] (.b false), .eqb (freeL []) true, .eqb (TV.free (.s (nats x.s))) true, .eqb (decide ((nats x.t) = ([] : List Nat))) true, .eqb (decide (x.n = 0)) true, .eqb (decide (11 < 22)) true, .eqb (Sx.inK .i64 11) true, .eqb (decide (0 ≤ 11)) true]) := by kernel_rfl
theorem ex11_3 (x : Tr) : funO 5 mth cal 1000 ir66 [(.ep 57 0 (rowK x 11))] [.go, .go, .go, .go, .br true, .br true, .go, .go, .br true, .br true, .go, .cl [.as] (.b false), .cl [.as] (.b true), .br false] = some ((.b false), [.eqb (decide ((List.length (rowsT x.l) : Int) = 2)) false, .call 130 [(.s (nats x.s))] (.b true), .eqb (freeL []) true, .eqb (TV.free (.s (nats x.s))) true, .call 129 [(.s (nats x.s))] (.b false), .eqb (freeL []) true, .eqb (TV.free (.s (nats x.s))) true, .eqb (decide ((nats x.t) = ([] : List Nat))) true, .eqb (decide (x.n = 0)) true, .eqb (decide (11 < 22)) true, .eqb (Sx.inK .i64 11) true, .eqb (decide (0 ≤ 11)) true]) := by kernel_rfl
theorem ex11_4 (x : Tr) : funO 5 mth cal 1000 ir66 [(.ep 57 0 (rowK x 11))] [.go, .go, .go, .go, .br true, .br true, .go, .go, .br true, .br true, .go, .cl [.as] (.b false), .cl [.as] (.b false)] = some ((.b false), [.call 130 [(.s (nats x.s))] (.b false), .eqb (freeL []) true, .eqb (TV.free (.s (nats x.s))) true, .call 129 [(.s (nats x.s))] (.b false), .eqb (freeL []) true, .eqb (TV.free (.s (nats x.s))) true, .eqb (decide ((nats x.t) = ([] : List Nat))) true, .eqb (decide (x.n = 0)) true, .eqb (decide (11 < 22)) true, .eqb (Sx.inK .i64 11) true, .eqb (decide (0 ≤ 11)) true]) := by kernel_rfl
theorem ex11_5 (x : Tr) : funO 5 mth cal 1000 ir66 [(.ep 57 0 (rowK x 11))] [.go, .go, .go, .go, .br true, .br true, .go, .go, .br true, .br false] = some ((.b false), [.eqb (decide ((nats x.t) = ([] : List Nat))) false, .eqb (decide (x.n = 0)) true, .eqb (decide (11 < 22)) true, .eqb (Sx.inK .i64 11) true, .eqb (decide (0 ≤ 11)) true]) := by kernel_rfl
theorem ex11_6 (x : Tr) : funO 5 mth cal 1000 ir66 [(.ep 57 0 (rowK x 11))] [.go, .go, .go, .go, .br true, .br true, .go, .go, .br false] = some ((.b false), [.eqb (decide (x.n = 0)) false, .eqb (decide (11 < 22)) true, .eqb (Sx.inK .i64 11) true, .eqb (decide (0 ≤ 11)) true]) := by kernel_rfl
theorem ex11 (x : Tr) (vArith0 : Bool) (veach1 : Bool) (vcompares2 : Bool) (c0 : (decide (x.n = 0)) = true → (decide ((nats x.t) = ([] : List Nat))) = true → Pu 129 [(.s (nats x.s))] (.b (vArith0))) (c1 : (decide (x.n = 0)) = true → (decide ((nats x.t) = ([] : List Nat))) = true → vArith0 = true → (decide ((List.length (rowsT x.l) : Int) = 2)) = true → Pu 73 [(.es 57 (.r (rowsT x.l))), (.f (.func 66) [] [])] (.b (veach1))) (c2 : (decide (x.n = 0)) = true → (decide ((nats x.t) = ([] : List Nat))) = true → vArith0 = false → Pu 130 [(.s (nats x.s))] (.b (vcompares2))) (c3 : (decide (x.n = 0)) = true → (decide ((nats x.t) = ([] : List Nat))) = true → vArith0 = false → vcompares2 = true → (decide ((List.length (rowsT x.l) : Int) = 2)) = true → Pu 73 [(.es 57 (.r (rowsT x.l))), (.f (.func 66) [] [])] (.b (veach1))) : Pu 66 [(.ep 57 0 (rowK x 11))] (.b (bif decide (x.n = 0) then (bif decide ((nats x.t) = ([] : List Nat)) then (bif vArith0 then (bif decide ((List.length (rowsT x.l) : Int) = 2) then veach1 else false) else (bif vcompares2 then (bif decide ((List.length (rowsT x.l) : Int) = 2) then veach1 else false) else false)) else false) else false)) := by
  cases h0 : (decide (x.n = 0))
  case false =>
    exact pu_of Tryz.func66 irc66 (ex11_6 x) rfl ⟨h0, (of_eqb (by decide)), (of_eqb (by decide)), (of_eqb (by decide)), trivial⟩
  case true =>
    cases h1 : (decide ((nats x.t) = ([] : List Nat)))
    case false =>
      exact pu_of Tryz.func66 irc66 (ex11_5 x) rfl ⟨h1, h0, (of_eqb (by decide)), (of_eqb (by decide)), (of_eqb (by decide)), trivial⟩
    case true =>
      cases vArith0
      case false =>
        cases vcompares2
        case false =>
          exact pu_of Tryz.func66 irc66 (ex11_4 x) rfl ⟨(c2 h0 h1 rfl), rfl, rfl, (c0 h0 h1), rfl, rfl, h1, h0, (of_eqb (by decide)), (of_eqb (by decide)), (of_eqb (by decide)), trivial⟩
        case true =>
          cases h4 : (decide ((List.length (rowsT x.l) : Int) = 2))
          case false =>
            exact pu_of Tryz.func66 irc66 (ex11_3 x) rfl ⟨h4, (c2 h0 h1 rfl), rfl, rfl, (c0 h0 h1), rfl, rfl, h1, h0, (of_eqb (by decide)), (of_eqb (by decide)), (of_eqb (by decide)), trivial⟩
          case true =>
            exact pu_of Tryz.func66 irc66 (ex11_2 x veach1) rfl ⟨(c3 h0 h1 rfl rfl h4), rfl, rfl, rfl, h4, (c2 h0 h1 rfl), rfl, rfl, (c0 h0 h1), rfl, rfl, h1, h0, (of_eqb (by decide)), (of_eqb (by decide)), (of_eqb (by decide)), trivial⟩
      case true =>
        cases h3 : (decide ((List.length (rowsT x.l) : Int) = 2))
        case false =>
          exact pu_of Tryz.func66 irc66 (ex11_1 x) rfl ⟨h3, (c0 h0 h1), rfl, rfl, h1, h0, (of_eqb (by decide)), (of_eqb (by decide)), (of_eqb (by decide)), trivial⟩
        case true =>
          exact pu_of Tryz.func66 irc66 (ex11_0 x veach1) rfl ⟨(c1 h0 h1 rfl h3), rfl, rfl, rfl, h3, (c0 h0 h1), rfl, rfl, h1, h0, (of_eqb (by decide)), (of_eqb (by decide)), (of_eqb (by decide)), trivial⟩
theorem ex12_0 (x : Tr) : funO 5 mth cal 1000 ir66 [(.ep 57 0 (rowK x 12))] [.go, .go, .go, .go, .br true, .br true] = some ((.b false), [.eqb (decide (12 < 22)) true, .eqb (Sx.inK .i64 12) true, .eqb (decide (0 ≤ 12)) true]) := by kernel_rfl
theorem ex12 (x : Tr) : Pu 66 [(.ep 57 0 (rowK x 12))] (.b false) := by
  exact pu_of Tryz.func66 irc66 (ex12_0 x) rfl ⟨(of_eqb (by decide)), (of_eqb (by decide)), (of_eqb (by decide)), trivial⟩
theorem ex13_0 (x : Tr) (vexpr1 : Bool) : funO 5 mth cal 1000 ir66 [(.ep 57 0 (rowK x 13))] [.go, .go, .go, .go, .br true, .br true, .go, .go, .br true, .br true, .br true, .br true, .cl [.as] (.b true), .cl [.as] (.b (vexpr1))] = some ((.b (vexpr1)), [.call 66 [(.ep 57 0 (List.getD (rowsT x.l) (Int.toNat 1) []))] (.b (vexpr1)), .eqb (freeL []) true, .eqb (TV.free (.ep 57 0 (List.getD (rowsT x.l) (Int.toNat 1) []))) true, .eqb (Sx.inB 1 (List.length (rowsT x.l))) true, .call 65 [(.ep 57 0 (List.getD (rowsT x.l) (Int.toNat 0) []))] (.b true), .eqb (freeL []) true, .eqb (TV.free (.ep 57 0 (List.getD (rowsT x.l) (Int.toNat 0) []))) true, .eqb (Sx.inB 0 (List.length (rowsT x.l))) true, .eqb (decide ((List.length (rowsT x.l) : Int) = 2)) true, .eqb (decide ((nats x.t) = ([] : List Nat))) true, .eqb (decide ((nats x.s) = ([] : List Nat))) true, .eqb (decide (x.n = 0)) true, .eqb (decide (13 < 22)) true, .eqb (Sx.inK .i64 13) true, .eqb (decide (0 ≤ 13)) true]) := by kernel_rfl
theorem ex13_1 (x : Tr) : funO 5 mth cal 1000 ir66 [(.ep 57 0 (rowK x 13))] [.go, .go, .go, .go, .br true, .br true, .go, .go, .br true, .br true, .br true, .br true, .cl [.as] (.b false)] = some ((.b false), [.call 65 [(.ep 57 0 (List.getD (rowsT x.l) (Int.toNat 0) []))] (.b false), .eqb (freeL []) true, .eqb (TV.free (.ep 57 0 (List.getD (rowsT x.l) (Int.toNat 0) []))) true, .eqb (Sx.inB 0 (List.length (rowsT x.l))) true, .eqb (decide ((List.length (rowsT x.l) : Int) = 2)) true, .eqb (decide ((nats x.t) = ([] : List Nat))) true, .eqb (decide ((nats x.s) = ([] : List Nat))) true, .eqb (decide (x.n = 0)) true, .eqb (decide (13 < 22)) true, .eqb (Sx.inK .i64 13) true, .eqb (decide (0 ≤ 13)) true]) := by kernel_rfl
theorem ex13_2 (x : Tr) : funO 5 mth cal 1000 ir66 [(.ep 57 0 (rowK x 13))] [.go, .go, .go, .go, .br true, .br true, .go, .go, .br true, .br true, .br true, .br false] = some ((.b false), [.eqb (decide ((List.length (rowsT x.l) : Int) = 2)) false, .eqb (decide ((nats x.t) = ([] : List Nat))) true, .eqb (decide ((nats x.s) = ([] : List Nat))) true, .eqb (decide (x.n = 0)) true, .eqb (decide (13 < 22)) true, .eqb (Sx.inK .i64 13) true, .eqb (decide (0 ≤ 13)) true]) := by kernel_rfl
theorem ex13_3 (x : Tr) : funO 5 mth cal 1000 ir66 [(.ep 57 0 (rowK x 13))] [.go, .go, .go, .go, .br true, .br true, .go, .go, .br true, .br true, .br false] = some ((.b false), [.eqb (decide ((nats x.t) = ([] : List Nat))) false, .eqb (decide ((nats x.s) = ([] : List Nat))) true, .eqb (decide (x.n = 0)) true, .eqb (decide (13 < 22)) true, .eqb (Sx.inK .i64 13) true, .eqb (decide (0 ≤ 13)) true]) := by kernel_rfl
theorem ex13_4 (x : Tr) : funO 5 mth cal 1000 ir66 [(.ep 57 0 (rowK x 13))] [.go, .go, .go, .go, .br true, .br true, .go, .go, .br true, .br false] = some ((.b false), [.eqb (decide ((nats x.s) = ([] : List Nat))) false, .eqb (decide (x.n = 0)) true, .eqb (decide (13 < 22)) true, .eqb (Sx.inK .i64 13) true, .eqb (decide (0 ≤ 13)) true]) := by kernel_rfl
theorem ex13_5 (x : Tr) : funO 5 mth cal 1000 ir66 [(.ep 57 0 (rowK x 13))] [.go, .go, .go, .go, .br true, .br true, .go, .go, .br false] = some ((.b false), [.eqb (decide (x.n = 0)) false, .eqb (decide (13 < 22)) true, .eqb (Sx.inK .i64 13) true, .eqb (decide (0 ≤ 13)) true]) := by kernel_rfl
theorem ex13 (x : Tr) (vpattern0 : Bool) (vexpr1 : Bool) (s0 : (decide (x.n = 0)) = true → (decide ((nats x.s) = ([] : List Nat))) = true → (decide ((nats x.t) = ([] : List Nat))) = true → (decide ((List.length (rowsT x.l) : Int) = 2)) = true → (Sx.inB 0 (List.length (rowsT x.l))) = true) (c1 : (decide (x.n = 0)) = true → (decide ((nats x.s) = ([] : List Nat))) = true → (decide ((nats x.t) = ([] : List Nat))) = true → (decide ((List.length (rowsT x.l) : Int) = 2)) = true → Pu 65 [(.ep 57 0 (List.getD (rowsT x.l) (Int.toNat 0) []))] (.b (vpattern0))) (s2 : (decide (x.n = 0)) = true → (decide ((nats x.s) = ([] : List Nat))) = true → (decide ((nats x.t) = ([] : List Nat))) = true → (decide ((List.length (rowsT x.l) : Int) = 2)) = true → vpattern0 = true → (Sx.inB 1 (List.length (rowsT x.l))) = true) (c3 : (decide (x.n = 0)) = true → (decide ((nats x.s) = ([] : List Nat))) = true → (decide ((nats x.t) = ([] : List Nat))) = true → (decide ((List.length (rowsT x.l) : Int) = 2)) = true → vpattern0 = true → Pu 66 [(.ep 57 0 (List.getD (rowsT x.l) (Int.toNat 1) []))] (.b (vexpr1))) : Pu 66 [(.ep 57 0 (rowK x 13))] (.b (bif decide (x.n = 0) then (bif decide ((nats x.s) = ([] : List Nat)) then (bif decide ((nats x.t) = ([] : List Nat)) then (bif decide ((List.length (rowsT x.l) : Int) = 2) then (bif vpattern0 then vexpr1 else false) else false) else false) else false) else false)) := by
  cases h0 : (decide (x.n = 0))
  case false =>
    exact pu_of Tryz.func66 irc66 (ex13_5 x) rfl ⟨h0, (of_eqb (by decide)), (of_eqb (by decide)), (of_eqb (by decide)), trivial⟩
  case true =>
    cases h1 : (decide ((nats x.s) = ([] : List Nat)))
    case false =>
      exact pu_of Tryz.func66 irc66 (ex13_4 x) rfl ⟨h1, h0, (of_eqb (by decide)), (of_eqb (by decide)), (of_eqb (by decide)), trivial⟩
    case true =>
      cases h2 : (decide ((nats x.t) = ([] : List Nat)))
      case false =>
        exact pu_of Tryz.func66 irc66 (ex13_3 x) rfl ⟨h2, h1, h0, (of_eqb (by decide)), (of_eqb (by decide)), (of_eqb (by decide)), trivial⟩
      case true =>
        cases h3 : (decide ((List.length (rowsT x.l) : Int) = 2))
        case false =>
          exact pu_of Tryz.func66 irc66 (ex13_2 x) rfl ⟨h3, h2, h1, h0, (of_eqb (by decide)), (of_eqb (by decide)), (of_eqb (by decide)), trivial⟩
        case true =>
          cases vpattern0
          case false =>
            exact pu_of Tryz.func66 irc66 (ex13_1 x) rfl ⟨(c1 h0 h1 h2 h3), rfl, rfl, (s0 h0 h1 h2 h3), h3, h2, h1, h0, (of_eqb (by decide)), (of_eqb (by decide)), (of_eqb (by decide)), trivial⟩
          case true =>
            exact pu_of Tryz.func66 irc66 (ex13_0 x vexpr1) rfl ⟨(c3 h0 h1 h2 h3 rfl), rfl, rfl, (s2 h0 h1 h2 h3 rfl), (c1 h0 h1 h2 h3), rfl, rfl, (s0 h0 h1 h2 h3), h3, h2, h1, h0, (of_eqb (by decide)), (of_eqb (by decide)), (of_eqb (by decide)), trivial⟩
theorem ex14_0 (x : Tr) (veach1 : Bool) : funO 5 mth cal 1000 ir66 [(.ep 57 0 (rowK x 14))] [.go, .go, .go, .go, .br true, .br true, .go, .go, .br true, .br true, .cl [.as] (.b true), .go, .br true, .cl [.as, .as] (.b (veach1))] = some ((.b (veach1)), [.call 73 [(.es 57 (.r (rowsT x.l))), (.f (.func 66) [] [])] (.b (veach1)), .eqb (freeL []) true, .eqb (TV.free (.f (.func 66) [] [])) true, .eqb (TV.free (.es 57 (.r (rowsT x.l)))) true, .eqb (decide ((List.length (rowsT x.l) : Int) ≤ 8)) true, .call 72 [(.s (nats x.s))] (.b true), .eqb (freeL []) true, .eqb (TV.free (.s (nats x.s))) true, .eqb (decide ((nats x.t) = ([] : List Nat))) true, .eqb (decide (x.n = 0)) true, .eqb (decide (14 < 22)) true, .eqb (Sx.inK .i64 14) true, .eqb (decide (0 ≤ 14)) true]) := by kernel_rfl
theorem ex14_1 (x : Tr) : funO 5 mth cal 1000 ir66 [(.ep 57 0 (rowK x 14))] [.go, .go, .go, .go, .br true, .br true, .go, .go, .br true, .br true, .cl [.as] (.b true), .go, .br false] = some ((.b false), [.eqb (decide ((List.length (rowsT x.l) : Int) ≤ 8)) false, .call 72 [(.s (nats x.s))] (.b true), .eqb (freeL []) true, .eqb (TV.free (.s (nats x.s))) true, .eqb (decide ((nats x.t) = ([] : List Nat))) true, .eqb (decide (x.n = 0)) true, .eqb (decide (14 < 22)) true, .eqb (Sx.inK .i64 14) true, .eqb (decide (0 ≤ 14)) true]) := by kernel_rfl
theorem ex14_2 (x : Tr) : funO 5 mth cal 1000 ir66 [(.ep 57 0 (rowK x 14))] [.go, .go, .go, .go, .br true, .br true, .go, .go, .br true, .br true, .cl [.as] (.b false)] = some ((.b false), [.call 72 [(.s (nats x.s))] (.b false), .eqb (freeL []) true, .eqb (TV.free (.s (nats x.s))) true, .eqb (decide ((nats x.t) = ([] : List Nat))) true, .eqb (decide (x.n = 0)) true, .eqb (decide (14 < 22)) true, .eqb (Sx.inK .i64 14) true, .eqb (decide (0 ≤ 14)) true]) := by kernel_rfl
theorem ex14_3 (x : Tr) : funO 5 mth cal 1000 ir66 [(.ep 57 0 (rowK x 14))] [.go, .go, .go, .go, .br true, .br true, .go, .go, .br true, .br false] = some ((.b false), [.eqb (decide ((nats x.t) = ([] : List Nat))) false, .eqb (decide (x.n = 0)) true, .eqb (decide (14 < 22)) true, .eqb (Sx.inK .i64 14) true, .eqb (decide (0 ≤ 14)) true]) := by kernel_rfl
theorem ex14_4 (x : Tr) : funO 5 mth cal 1000 ir66 [(.ep 57 0 (rowK x 14))] [.go, .go, .go, .go, .br true, .br true, .go, .go, .br false] = some ((.b false), [.eqb (decide (x.n = 0)) false, .eqb (decide (14 < 22)) true, .eqb (Sx.inK .i64 14) true, .eqb (decide (0 ≤ 14)) true]) := by kernel_rfl
theorem ex14 (x : Tr) (vatom0 : Bool) (veach1 : Bool) (c0 : (decide (x.n = 0)) = true → (decide ((nats x.t) = ([] : List Nat))) = true → Pu 72 [(.s (nats x.s))] (.b (vatom0))) (c1 : (decide (x.n = 0)) = true → (decide ((nats x.t) = ([] : List Nat))) = true → vatom0 = true → (decide ((List.length (rowsT x.l) : Int) ≤ 8)) = true → Pu 73 [(.es 57 (.r (rowsT x.l))), (.f (.func 66) [] [])] (.b (veach1))) : Pu 66 [(.ep 57 0 (rowK x 14))] (.b (bif decide (x.n = 0) then (bif decide ((nats x.t) = ([] : List Nat)) then (bif vatom0 then (bif decide ((List.length (rowsT x.l) : Int) ≤ 8) then veach1 else false) else false) else false) else false)) := by
  cases h0 : (decide (x.n = 0))
  case false =>
    exact pu_of Tryz.func66 irc66 (ex14_4 x) rfl ⟨h0, (of_eqb (by decide)), (of_eqb (by decide)), (of_eqb (by decide)), trivial⟩
  case true =>
    cases h1 : (decide ((nats x.t) = ([] : List Nat)))
    case false =>
      exact pu_of Tryz.func66 irc66 (ex14_3 x) rfl ⟨h1, h0, (of_eqb (by decide)), (of_eqb (by decide)), (of_eqb (by decide)), trivial⟩
    case true =>
      cases vatom0
      case false =>
        exact pu_of Tryz.func66 irc66 (ex14_2 x) rfl ⟨(c0 h0 h1), rfl, rfl, h1, h0, (of_eqb (by decide)), (of_eqb (by decide)), (of_eqb (by decide)), trivial⟩
      case true =>
        cases h3 : (decide ((List.length (rowsT x.l) : Int) ≤ 8))
        case false =>
          exact pu_of Tryz.func66 irc66 (ex14_1 x) rfl ⟨h3, (c0 h0 h1), rfl, rfl, h1, h0, (of_eqb (by decide)), (of_eqb (by decide)), (of_eqb (by decide)), trivial⟩
        case true =>
          exact pu_of Tryz.func66 irc66 (ex14_0 x veach1) rfl ⟨(c1 h0 h1 rfl h3), rfl, rfl, rfl, h3, (c0 h0 h1), rfl, rfl, h1, h0, (of_eqb (by decide)), (of_eqb (by decide)), (of_eqb (by decide)), trivial⟩
theorem ex15_0 (x : Tr) (veach2 : Bool) : funO 5 mth cal 1000 ir66 [(.ep 57 0 (rowK x 15))] [.go, .go, .go, .go, .br true, .br true, .go, .go, .br true, .cl [.as] (.b true), .cl [.as] (.b true), .go, .br true, .cl [.as, .as] (.b (veach2))] = some ((.b (veach2)), [.call 73 [(.es 57 (.r (rowsT x.l))), (.f (.func 66) [] [])] (.b (veach2)), .eqb (freeL []) true, .eqb (TV.free (.f (.func 66) [] [])) true, .eqb (TV.free (.es 57 (.r (rowsT x.l)))) true, .eqb (decide ((List.length (rowsT x.l) : Int) ≤ 8)) true, .call 72 [(.s (nats x.t))] (.b true), .eqb (freeL []) true, .eqb (TV.free (.s (nats x.t))) true, .call 72 [(.s (nats x.s))] (.b true), .eqb (freeL []) true, .eqb (TV.free (.s (nats x.s))) true, .eqb (decide (x.n = 0)) true, .eqb (decide (15 < 22)) true, .eqb (Sx.inK .i64 15) true, .eqb (decide (0 ≤ 15)) true]) := by kernel_rfl
theorem ex15_1 (x : Tr) : funO 5 mth cal 1000 ir66 [(.ep 57 0 (rowK x 15))] [.go, .go, .go, .go, .br true, .br true, .go, .go, .br true, .cl [.as] (.b true), .cl [.as] (.b true), .go, .br false] = some ((.b false), [.eqb (decide ((List.length (rowsT x.l) : Int) ≤ 8)) false, .call 72 [(.s (nats x.t))] (.b true), .eqb (freeL []) true, .eqb (TV.free (.s (nats x.t))) true, .call 72 [(.s (nats x.s))] (.b true), .eqb (freeL []) true, .eqb (TV.free (.s (nats x.s))) true, .eqb (decide (x.n = 0)) true, .eqb (decide (15 < 22)) true, .eqb (Sx.inK .i64 15) true, .eqb (decide (0 ≤ 15)) true]) := by kernel_rfl
theorem ex15_2 (x : Tr) : funO 5 mth cal 1000 ir66 [(.ep 57 0 (rowK x 15))] [.go, .go, .go, .go, .br true, .br true, .go, .go, .br true, .cl [.as] (.b true), .cl [.as] (.b false)] = some ((.b false), [.call 72 [(.s (nats x.t))] (.b false), .eqb (freeL []) true, .eqb (TV.free (.s (nats x.t))) true, .call 72 [(.s (nats x.s))] (.b true), .eqb (freeL []) true, .eqb (TV.free (.s (nats x.s))) true, .eqb (decide (x.n = 0)) true, .eqb (decide (15 < 22)) true, .eqb (Sx.inK .i64 15) true, .eqb (decide (0 ≤ 15)) true]) := by kernel_rfl
theorem ex15_3 (x : Tr) : funO 5 mth cal 1000 ir66 [(.ep 57 0 (rowK x 15))] [.go, .go, .go, .go, .br true, .br true, .go, .go, .br true, .cl [.as] (.b false)] = some ((.b false), [.call 72 [(.s (nats x.s))] (.b false), .eqb (freeL []) true, .eqb (TV.free (.s (nats x.s))) true, .eqb (decide (x.n = 0)) true, .eqb (decide (15 < 22)) true, .eqb (Sx.inK .i64 15) true, .eqb (decide (0 ≤ 15)) true]) := by kernel_rfl
theorem ex15_4 (x : Tr) : funO 5 mth cal 1000 ir66 [(.ep 57 0 (rowK x 15))] [.go, .go, .go, .go, .br true, .br true, .go, .go, .br false] = some ((.b false), [.eqb (decide (x.n = 0)) false, .eqb (decide (15 < 22)) true, .eqb (Sx.inK .i64 15) true, .eqb (decide (0 ≤ 15)) true]) := by kernel_rfl
theorem ex15 (x : Tr) (vatom0 : Bool) (vatom1 : Bool) (veach2 : Bool) (c0 : (decide (x.n = 0)) = true → Pu 72 [(.s (nats x.s))] (.b (vatom0))) (c1 : (decide (x.n = 0)) = true → vatom0 = true → Pu 72 [(.s (nats x.t))] (.b (vatom1))) (c2 : (decide (x.n = 0)) = true → vatom0 = true → vatom1 = true → (decide ((List.length (rowsT x.l) : Int) ≤ 8)) = true → Pu 73 [(.es 57 (.r (rowsT x.l))), (.f (.func 66) [] [])] (.b (veach2))) : Pu 66 [(.ep 57 0 (rowK x 15))] (.b (bif decide (x.n = 0) then (bif vatom0 then (bif vatom1 then (bif decide ((List.length (rowsT x.l) : Int) ≤ 8) then veach2 else false) else false) else false) else false)) := by
  cases h0 : (decide (x.n = 0))
  case false =>
    exact pu_of Tryz.func66 irc66 (ex15_4 x) rfl ⟨h0, (of_eqb (by decide)), (of_eqb (by decide)), (of_eqb (by decide)), trivial⟩
  case true =>
    cases vatom0
    case false =>
      exact pu_of Tryz.func66 irc66 (ex15_3 x) rfl ⟨(c0 h0), rfl, rfl, h0, (of_eqb (by decide)), (of_eqb (by decide)), (of_eqb (by decide)), trivial⟩
    case true =>
      cases vatom1
      case false =>
        exact pu_of Tryz.func66 irc66 (ex15_2 x) rfl ⟨(c1 h0 rfl), rfl, rfl, (c0 h0), rfl, rfl, h0, (of_eqb (by decide)), (of_eqb (by decide)), (of_eqb (by decide)), trivial⟩
      case true =>
        cases h3 : (decide ((List.length (rowsT x.l) : Int) ≤ 8))
        case false =>
          exact pu_of Tryz.func66 irc66 (ex15_1 x) rfl ⟨h3, (c1 h0 rfl), rfl, rfl, (c0 h0), rfl, rfl, h0, (of_eqb (by decide)), (of_eqb (by decide)), (of_eqb (by decide)), trivial⟩
        case true =>
          exact pu_of Tryz.func66 irc66 (ex15_0 x veach2) rfl ⟨(c2 h0 rfl rfl h3), rfl, rfl, rfl, h3, (c1 h0 rfl), rfl, rfl, (c0 h0), rfl, rfl, h0, (of_eqb (by decide)), (of_eqb (by decide)), (of_eqb (by decide)), trivial⟩
theorem ex16_0 (x : Tr) (veach1 : Bool) : funO 5 mth cal 1000 ir66 [(.ep 57 0 (rowK x 16))] [.go, .go, .go, .go, .br true, .br true, .go, .go, .br true, .br true, .br true, .br true, .br true, .cl [.as] (.b true), .go, .br true, .cl [.as, .as] (.b (veach1))] = some ((.b (veach1)), [.call 73 [(.es 57 (.r (List.take (Int.toNat ((List.length (rowsT x.l) : Int) - 1)) (List.drop (Int.toNat 1) (rowsT x.l))))), (.f (.func 66) [] [])] (.b (veach1)), .eqb (freeL []) true, .eqb (TV.free (.f (.func 66) [] [])) true, .eqb (TV.free (.es 57 (.r (List.take (Int.toNat ((List.length (rowsT x.l) : Int) - 1)) (List.drop (Int.toNat 1) (rowsT x.l)))))) true, .eqb (decide ((List.length (List.take (Int.toNat ((List.length (rowsT x.l) : Int) - 1)) (List.drop (Int.toNat 1) (rowsT x.l))) : Int) ≤ 8)) true, .eqb (Sx.inS (List.length (rowsT x.l) : Int) (List.length (rowsT x.l) : Int) (List.length (rowsT x.l))) true, .eqb (Sx.inS 1 (List.length (rowsT x.l) : Int) (List.length (rowsT x.l))) true, .call 66 [(.ep 57 0 (List.getD (rowsT x.l) (Int.toNat 0) []))] (.b true), .eqb (freeL []) true, .eqb (TV.free (.ep 57 0 (List.getD (rowsT x.l) (Int.toNat 0) []))) true, .eqb (Sx.inB 0 (List.length (rowsT x.l))) true, .eqb (decide ((Dat.int (List.getD (List.getD (rowsT x.l) (Int.toNat 0) []) 0 .o)) = 5)) true, .eqb (Sx.inB 0 (List.length (rowsT x.l))) true, .eqb (decide (0 < (List.length (rowsT x.l) : Int))) true, .eqb (decide ((nats x.t) = ([] : List Nat))) true, .eqb (decide ((nats x.s) = ([] : List Nat))) true, .eqb (decide (x.n = 0)) true, .eqb (decide (16 < 22)) true, .eqb (Sx.inK .i64 16) true, .eqb (decide (0 ≤ 16)) true]) := by kernel_rfl
theorem ex16_1 (x : Tr) : funO 5 mth cal 1000 ir66 [(.ep 57 0 (rowK x 16))] [.go, .go, .go, .go, .br true, .br true, .go, .go, .br true, .br true, .br true, .br true, .br true, .cl [.as] (.b true), .go, .br false] = some ((.b false), [.eqb (decide ((List.length (List.take (Int.toNat ((List.length (rowsT x.l) : Int) - 1)) (List.drop (Int.toNat 1) (rowsT x.l))) : Int) ≤ 8)) false, .eqb (Sx.inS (List.length (rowsT x.l) : Int) (List.length (rowsT x.l) : Int) (List.length (rowsT x.l))) true, .eqb (Sx.inS 1 (List.length (rowsT x.l) : Int) (List.length (rowsT x.l))) true, .call 66 [(.ep 57 0 (List.getD (rowsT x.l) (Int.toNat 0) []))] (.b true), .eqb (freeL []) true, .eqb (TV.free (.ep 57 0 (List.getD (rowsT x.l) (Int.toNat 0) []))) true, .eqb (Sx.inB 0 (List.length (rowsT x.l))) true, .eqb (decide ((Dat.int (List.getD (List.getD (rowsT x.l) (Int.toNat 0) []) 0 .o)) = 5)) true, .eqb (Sx.inB 0 (List.length (rowsT x.l))) true, .eqb (decide (0 < (List.length (rowsT x.l) : Int))) true, .eqb (decide ((nats x.t) = ([] : List Nat))) true, .eqb (decide ((nats x.s) = ([] : List Nat))) true, .eqb (decide (x.n = 0)) true, .eqb (decide (16 < 22)) true, .eqb (Sx.inK .i64 16) true, .eqb (decide (0 ≤ 16)) true]) := by kernel_rfl
theorem ex16_2 (x : Tr) : funO 5 mth cal 1000 ir66 [(.ep 57 0 (rowK x 16))] [.go, .go, .go, .go, .br true, .br true, .go, .go, .br true, .br true, .br true, .br true, .br true, .cl [.as] (.b false)] = some ((.b false), [.call 66 [(.ep 57 0 (List.getD (rowsT x.l) (Int.toNat 0) []))] (.b false), .eqb (freeL []) true, .eqb (TV.free (.ep 57 0 (List.getD (rowsT x.l) (Int.toNat 0) []))) true, .eqb (Sx.inB 0 (List.length (rowsT x.l))) true, .eqb (decide ((Dat.int (List.getD (List.getD (rowsT x.l) (Int.toNat 0) []) 0 .o)) = 5)) true, .eqb (Sx.inB 0 (List.length (rowsT x.l))) true, .eqb (decide (0 < (List.length (rowsT x.l) : Int))) true, .eqb (decide ((nats x.t) = ([] : List Nat))) true, .eqb (decide ((nats x.s) = ([] : List Nat))) true, .eqb (decide (x.n = 0)) true, .eqb (decide (16 < 22)) true, .eqb (Sx.inK .i64 16) true, .eqb (decide (0 ≤ 16)) true]) := by kernel_rfl
theorem ex16_3 (x : Tr) : funO 5 mth cal 1000 ir66 [(.ep 57 0 (rowK x 16))] [.go, .go, .go, .go, .br true, .br true, .go, .go, .br true, .br true, .br true, .br true, .br false] = some ((.b false), [.eqb (decide ((Dat.int (List.getD (List.getD (rowsT x.l) (Int.toNat 0) []) 0 .o)) = 5)) false, .eqb (Sx.inB 0 (List.length (rowsT x.l))) true, .eqb (decide (0 < (List.length (rowsT x.l) : Int))) true, .eqb (decide ((nats x.t) = ([] : List Nat))) true, .eqb (decide ((nats x.s) = ([] : List Nat))) true, .eqb (decide (x.n = 0)) true, .eqb (decide (16 < 22)) true, .eqb (Sx.inK .i64 16) true, .eqb (decide (0 ≤ 16)) true]) := by kernel_rfl
theorem ex16_4 (x : Tr) : funO 5 mth cal 1000 ir66 [(.ep 57 0 (rowK x 16))] [.go, .go, .go, .go, .br true, .br true, .go, .go, .br true, .br true, .br true, .br false] = some ((.b false), [.eqb (decide (0 < (List.length (rowsT x.l) : Int))) false, .eqb (decide ((nats x.t) = ([] : List Nat))) true, .eqb (decide ((nats x.s) = ([] : List Nat))) true, .eqb (decide (x.n = 0)) true, .eqb (decide (16 < 22)) true, .eqb (Sx.inK .i64 16) true, .eqb (decide (0 ≤ 16)) true]) := by kernel_rfl
theorem ex16_5 (x : Tr) : funO 5 mth cal 1000 ir66 [(.ep 57 0 (rowK x 16))] [.go, .go, .go, .go, .br true, .br true, .go, .go, .br true, .br true, .br false] = some ((.b false), [.eqb (decide ((nats x.t) = ([] : List Nat))) false, .eqb (decide ((nats x.s) = ([] : List Nat))) true, .eqb (decide (x.n = 0)) true, .eqb (decide (16 < 22)) true, .eqb (Sx.inK .i64 16) true, .eqb (decide (0 ≤ 16)) true]) := by kernel_rfl
theorem ex16_6 (x : Tr) : funO 5 mth cal 1000 ir66 [(.ep 57 0 (rowK x 16))] [.go, .go, .go, .go, .br true, .br true, .go, .go, .br true, .br false] = some ((.b false), [.eqb (decide ((nats x.s) = ([] : List Nat))) false, .eqb (decide (x.n = 0)) true, .eqb (decide (16 < 22)) true, .eqb (Sx.inK .i64 16) true, .eqb (decide (0 ≤ 16)) true]) := by kernel_rfl
theorem ex16_7 (x : Tr) : funO 5 mth cal 1000 ir66 [(.ep 57 0 (rowK x 16))] [.go, .go, .go, .go, .br true, .br true, .go, .go, .br false] = some ((.b false), [.eqb (decide (x.n = 0)) false, .eqb (decide (16 < 22)) true, .eqb (Sx.inK .i64 16) true, .eqb (decide (0 ≤ 16)) true]) := by kernel_rfl
theorem ex16 (x : Tr) (vexpr0 : Bool) (veach1 : Bool) (s0 : (decide (x.n = 0)) = true → (decide ((nats x.s) = ([] : List Nat))) = true → (decide ((nats x.t) = ([] : List Nat))) = true → (decide (0 < (List.length (rowsT x.l) : Int))) = true → (Sx.inB 0 (List.length (rowsT x.l))) = true) (s1 : (decide (x.n = 0)) = true → (decide ((nats x.s) = ([] : List Nat))) = true → (decide ((nats x.t) = ([] : List Nat))) = true → (decide (0 < (List.length (rowsT x.l) : Int))) = true → (decide ((Dat.int (List.getD (List.getD (rowsT x.l) (Int.toNat 0) []) 0 .o)) = 5)) = true → (Sx.inB 0 (List.length (rowsT x.l))) = true) (c2 : (decide (x.n = 0)) = true → (decide ((nats x.s) = ([] : List Nat))) = true → (decide ((nats x.t) = ([] : List Nat))) = true → (decide (0 < (List.length (rowsT x.l) : Int))) = true → (decide ((Dat.int (List.getD (List.getD (rowsT x.l) (Int.toNat 0) []) 0 .o)) = 5)) = true → Pu 66 [(.ep 57 0 (List.getD (rowsT x.l) (Int.toNat 0) []))] (.b (vexpr0))) (s3 : (decide (x.n = 0)) = true → (decide ((nats x.s) = ([] : List Nat))) = true → (decide ((nats x.t) = ([] : List Nat))) = true → (decide (0 < (List.length (rowsT x.l) : Int))) = true → (decide ((Dat.int (List.getD (List.getD (rowsT x.l) (Int.toNat 0) []) 0 .o)) = 5)) = true → vexpr0 = true → (Sx.inS 1 (List.length (rowsT x.l) : Int) (List.length (rowsT x.l))) = true) (s4 : (decide (x.n = 0)) = true → (decide ((nats x.s) = ([] : List Nat))) = true → (decide ((nats x.t) = ([] : List Nat))) = true → (decide (0 < (List.length (rowsT x.l) : Int))) = true → (decide ((Dat.int (List.getD (List.getD (rowsT x.l) (Int.toNat 0) []) 0 .o)) = 5)) = true → vexpr0 = true → (Sx.inS (List.length (rowsT x.l) : Int) (List.length (rowsT x.l) : Int) (List.length (rowsT x.l))) = true) (c5 : (decide (x.n = 0)) = true → (decide ((nats x.s) = ([] : List Nat))) = true → (decide ((nats x.t) = ([] : List Nat))) = true → (decide (0 < (List.length (rowsT x.l) : Int))) = true → (decide ((Dat.int (List.getD (List.getD (rowsT x.l) (Int.toNat 0) []) 0 .o)) = 5)) = true → vexpr0 = true → (decide ((List.length (List.take (Int.toNat ((List.length (rowsT x.l) : Int) - 1)) (List.drop (Int.toNat 1) (rowsT x.l))) : Int) ≤ 8)) = true → Pu 73 [(.es 57 (.r (List.take (Int.toNat ((List.length (rowsT x.l) : Int) - 1)) (List.drop (Int.toNat 1) (rowsT x.l))))), (.f (.func 66) [] [])] (.b (veach1))) : Pu 66 [(.ep 57 0 (rowK x 16))] (.b (bif decide (x.n = 0) then (bif decide ((nats x.s) = ([] : List Nat)) then (bif decide ((nats x.t) = ([] : List Nat)) then (bif decide (0 < (List.length (rowsT x.l) : Int)) then (bif decide ((Dat.int (List.getD (List.getD (rowsT x.l) (Int.toNat 0) []) 0 .o)) = 5) then (bif vexpr0 then (bif decide ((List.length (List.take (Int.toNat ((List.length (rowsT x.l) : Int) - 1)) (List.drop (Int.toNat 1) (rowsT x.l))) : Int) ≤ 8) then veach1 else false) else false) else false) else false) else false) else false) else false)) := by
  cases h0 : (decide (x.n = 0))
  case false =>
    exact pu_of Tryz.func66 irc66 (ex16_7 x) rfl ⟨h0, (of_eqb (by decide)), (of_eqb (by decide)), (of_eqb (by decide)), trivial⟩
  case true =>
    cases h1 : (decide ((nats x.s) = ([] : List Nat)))
    case false =>
      exact pu_of Tryz.func66 irc66 (ex16_6 x) rfl ⟨h1, h0, (of_eqb (by decide)), (of_eqb (by decide)), (of_eqb (by decide)), trivial⟩
    case true =>
      cases h2 : (decide ((nats x.t) = ([] : List Nat)))
      case false =>
        exact pu_of Tryz.func66 irc66 (ex16_5 x) rfl ⟨h2, h1, h0, (of_eqb (by decide)), (of_eqb (by decide)), (of_eqb (by decide)), trivial⟩
      case true =>
        cases h3 : (decide (0 < (List.length (rowsT x.l) : Int)))
        case false =>
          exact pu_of Tryz.func66 irc66 (ex16_4 x) rfl ⟨h3, h2, h1, h0, (of_eqb (by decide)), (of_eqb (by decide)), (of_eqb (by decide)), trivial⟩
        case true =>
          cases h4 : (decide ((Dat.int (List.getD (List.getD (rowsT x.l) (Int.toNat 0) []) 0 .o)) = 5))
          case false =>
            exact pu_of Tryz.func66 irc66 (ex16_3 x) rfl ⟨h4, (s0 h0 h1 h2 h3), h3, h2, h1, h0, (of_eqb (by decide)), (of_eqb (by decide)), (of_eqb (by decide)), trivial⟩
          case true =>
            cases vexpr0
            case false =>
              exact pu_of Tryz.func66 irc66 (ex16_2 x) rfl ⟨(c2 h0 h1 h2 h3 h4), rfl, rfl, (s1 h0 h1 h2 h3 h4), h4, (s0 h0 h1 h2 h3), h3, h2, h1, h0, (of_eqb (by decide)), (of_eqb (by decide)), (of_eqb (by decide)), trivial⟩
            case true =>
              cases h6 : (decide ((List.length (List.take (Int.toNat ((List.length (rowsT x.l) : Int) - 1)) (List.drop (Int.toNat 1) (rowsT x.l))) : Int) ≤ 8))
              case false =>
                exact pu_of Tryz.func66 irc66 (ex16_1 x) rfl ⟨h6, (s4 h0 h1 h2 h3 h4 rfl), (s3 h0 h1 h2 h3 h4 rfl), (c2 h0 h1 h2 h3 h4), rfl, rfl, (s1 h0 h1 h2 h3 h4), h4, (s0 h0 h1 h2 h3), h3, h2, h1, h0, (of_eqb (by decide)), (of_eqb (by decide)), (of_eqb (by decide)), trivial⟩
              case true =>
                exact pu_of Tryz.func66 irc66 (ex16_0 x veach1) rfl ⟨(c5 h0 h1 h2 h3 h4 rfl h6), rfl, rfl, rfl, h6, (s4 h0 h1 h2 h3 h4 rfl), (s3 h0 h1 h2 h3 h4 rfl), (c2 h0 h1 h2 h3 h4), rfl, rfl, (s1 h0 h1 h2 h3 h4), h4, (s0 h0 h1 h2 h3), h3, h2, h1, h0, (of_eqb (by decide)), (of_eqb (by decide)), (of_eqb (by decide)), trivial⟩
theorem ex17_0 (x : Tr) : funO 5 mth cal 1000 ir66 [(.ep 57 0 (rowK x 17))] [.go, .go, .go, .go, .br true, .br true, .go, .go, .br true, .cl [.as] (.b true), .cl [.as] (.b true), .br true, .kp] = some ((.b (decide (x.n ≤ 8))), [.eqb (decide (0 ≤ x.n)) true, .call 72 [(.s (nats x.t))] (.b true), .eqb (freeL []) true, .eqb (TV.free (.s (nats x.t))) true, .call 72 [(.s (nats x.s))] (.b true), .eqb (freeL []) true, .eqb (TV.free (.s (nats x.s))) true, .eqb (decide ((List.length (rowsT x.l) : Int) = 0)) true, .eqb (decide (17 < 22)) true, .eqb (Sx.inK .i64 17) true, .eqb (decide (0 ≤ 17)) true]) := by kernel_rfl
theorem ex17_1 (x : Tr) : funO 5 mth cal 1000 ir66 [(.ep 57 0 (rowK x 17))] [.go, .go, .go, .go, .br true, .br true, .go, .go, .br true, .cl [.as] (.b true), .cl [.as] (.b true), .br false] = some ((.b false), [.eqb (decide (0 ≤ x.n)) false, .call 72 [(.s (nats x.t))] (.b true), .eqb (freeL []) true, .eqb (TV.free (.s (nats x.t))) true, .call 72 [(.s (nats x.s))] (.b true), .eqb (freeL []) true, .eqb (TV.free (.s (nats x.s))) true, .eqb (decide ((List.length (rowsT x.l) : Int) = 0)) true, .eqb (decide (17 < 22)) true, .eqb (Sx.inK .i64 17) true, .eqb (decide (0 ≤ 17)) true]) := by kernel_rfl
theorem ex17_2 (x : Tr) : funO 5 mth cal 1000 ir66 [(.ep 57 0 (rowK x 17))] [.go, .go, .go, .go, .br true, .br true, .go, .go, .br true, .cl [.as] (.b true), .cl [.as] (.b false)] = some ((.b false), [.call 72 [(.s (nats x.t))] (.b false), .eqb (freeL []) true, .eqb (TV.free (.s (nats x.t))) true, .call 72 [(.s (nats x.s))] (.b true), .eqb (freeL []) true, .eqb (TV.free (.s (nats x.s))) true, .eqb (decide ((List.length (rowsT x.l) : Int) = 0)) true, .eqb (decide (17 < 22)) true, .eqb (Sx.inK .i64 17) true, .eqb (decide (0 ≤ 17)) true]) := by kernel_rfl
theorem ex17_3 (x : Tr) : funO 5 mth cal 1000 ir66 [(.ep 57 0 (rowK x 17))] [.go, .go, .go, .go, .br true, .br true, .go, .go, .br true, .cl [.as] (.b false)] = some ((.b false), [.call 72 [(.s (nats x.s))] (.b false), .eqb (freeL []) true, .eqb (TV.free (.s (nats x.s))) true, .eqb (decide ((List.length (rowsT x.l) : Int) = 0)) true, .eqb (decide (17 < 22)) true, .eqb (Sx.inK .i64 17) true, .eqb (decide (0 ≤ 17)) true]) := by kernel_rfl
theorem ex17_4 (x : Tr) : funO 5 mth cal 1000 ir66 [(.ep 57 0 (rowK x 17))] [.go, .go, .go, .go, .br true, .br true, .go, .go, .br false] = some ((.b false), [.eqb (decide ((List.length (rowsT x.l) : Int) = 0)) false, .eqb (decide (17 < 22)) true, .eqb (Sx.inK .i64 17) true, .eqb (decide (0 ≤ 17)) true]) := by kernel_rfl
theorem ex17 (x : Tr) (vatom0 : Bool) (vatom1 : Bool) (c0 : (decide ((List.length (rowsT x.l) : Int) = 0)) = true → Pu 72 [(.s (nats x.s))] (.b (vatom0))) (c1 : (decide ((List.length (rowsT x.l) : Int) = 0)) = true → vatom0 = true → Pu 72 [(.s (nats x.t))] (.b (vatom1))) : Pu 66 [(.ep 57 0 (rowK x 17))] (.b (bif decide ((List.length (rowsT x.l) : Int) = 0) then (bif vatom0 then (bif vatom1 then (bif decide (0 ≤ x.n) then decide (x.n ≤ 8) else false) else false) else false) else false)) := by
  cases h0 : (decide ((List.length (rowsT x.l) : Int) = 0))
  case false =>
    exact pu_of Tryz.func66 irc66 (ex17_4 x) rfl ⟨h0, (of_eqb (by decide)), (of_eqb (by decide)), (of_eqb (by decide)), trivial⟩
  case true =>
    cases vatom0
    case false =>
      exact pu_of Tryz.func66 irc66 (ex17_3 x) rfl ⟨(c0 h0), rfl, rfl, h0, (of_eqb (by decide)), (of_eqb (by decide)), (of_eqb (by decide)), trivial⟩
    case true =>
      cases vatom1
      case false =>
        exact pu_of Tryz.func66 irc66 (ex17_2 x) rfl ⟨(c1 h0 rfl), rfl, rfl, (c0 h0), rfl, rfl, h0, (of_eqb (by decide)), (of_eqb (by decide)), (of_eqb (by decide)), trivial⟩
      case true =>
        cases h3 : (decide (0 ≤ x.n))
        case false =>
          exact pu_of Tryz.func66 irc66 (ex17_1 x) rfl ⟨h3, (c1 h0 rfl), rfl, rfl, (c0 h0), rfl, rfl, h0, (of_eqb (by decide)), (of_eqb (by decide)), (of_eqb (by decide)), trivial⟩
        case true =>
          exact pu_of Tryz.func66 irc66 (ex17_0 x) rfl ⟨h3, (c1 h0 rfl), rfl, rfl, (c0 h0), rfl, rfl, h0, (of_eqb (by decide)), (of_eqb (by decide)), (of_eqb (by decide)), trivial⟩
theorem ex18_0 (x : Tr) (veach1 : Bool) : funO 5 mth cal 1000 ir66 [(.ep 57 0 (rowK x 18))] [.go, .go, .go, .go, .br true, .br true, .go, .go, .br true, .br true, .br true, .br true, .cl [.as] (.b true), .go, .cl [.as, .fn [.ptr 3]] (.b (veach1))] = some ((.b (veach1)), [.call 73 [(.es 57 (.r (List.take (Int.toNat ((List.length (rowsT x.l) : Int) - 1)) (List.drop (Int.toNat 1) (rowsT x.l))))), (.f (.func 142) [] [(.ep 3 0 [.i 1])])] (.b (veach1)), .eqb (freeL []) true, .eqb (freeL []) true, .eqb (TV.free (.es 57 (.r (List.take (Int.toNat ((List.length (rowsT x.l) : Int) - 1)) (List.drop (Int.toNat 1) (rowsT x.l)))))) true, .eqb (Sx.inS (List.length (rowsT x.l) : Int) (List.length (rowsT x.l) : Int) (List.length (rowsT x.l))) true, .eqb (Sx.inS 1 (List.length (rowsT x.l) : Int) (List.length (rowsT x.l))) true, .call 66 [(.ep 57 0 (List.getD (rowsT x.l) (Int.toNat 0) []))] (.b true), .eqb (freeL []) true, .eqb (TV.free (.ep 57 0 (List.getD (rowsT x.l) (Int.toNat 0) []))) true, .eqb (Sx.inB 0 (List.length (rowsT x.l))) true, .eqb (decide (1 < (List.length (rowsT x.l) : Int))) true, .eqb (decide ((nats x.t) = ([] : List Nat))) true, .eqb (decide ((nats x.s) = ([] : List Nat))) true, .eqb (decide (x.n = 0)) true, .eqb (decide (18 < 22)) true, .eqb (Sx.inK .i64 18) true, .eqb (decide (0 ≤ 18)) true]) := by kernel_rfl
theorem ex18_1 (x : Tr) : funO 5 mth cal 1000 ir66 [(.ep 57 0 (rowK x 18))] [.go, .go, .go, .go, .br true, .br true, .go, .go, .br true, .br true, .br true, .br true, .cl [.as] (.b false)] = some ((.b false), [.call 66 [(.ep 57 0 (List.getD (rowsT x.l) (Int.toNat 0) []))] (.b false), .eqb (freeL []) true, .eqb (TV.free (.ep 57 0 (List.getD (rowsT x.l) (Int.toNat 0) []))) true, .eqb (Sx.inB 0 (List.length (rowsT x.l))) true, .eqb (decide (1 < (List.length (rowsT x.l) : Int))) true, .eqb (decide ((nats x.t) = ([] : List Nat))) true, .eqb (decide ((nats x.s) = ([] : List Nat))) true, .eqb (decide (x.n = 0)) true, .eqb (decide (18 < 22)) true, .eqb (Sx.inK .i64 18) true, .eqb (decide (0 ≤ 18)) true]) := by kernel_rfl
theorem ex18_2 (x : Tr) : funO 5 mth cal 1000 ir66 [(.ep 57 0 (rowK x 18))] [.go, .go, .go, .go, .br true, .br true, .go, .go, .br true, .br true, .br true, .br false] = some ((.b false), [.eqb (decide (1 < (List.length (rowsT x.l) : Int))) false, .eqb (decide ((nats x.t) = ([] : List Nat))) true, .eqb (decide ((nats x.s) = ([] : List Nat))) true, .eqb (decide (x.n = 0)) true, .eqb (decide (18 < 22)) true, .eqb (Sx.inK .i64 18) true, .eqb (decide (0 ≤ 18)) true]) := by kernel_rfl
theorem ex18_3 (x : Tr) : funO 5 mth cal 1000 ir66 [(.ep 57 0 (rowK x 18))] [.go, .go, .go, .go, .br true, .br true, .go, .go, .br true, .br true, .br false] = some ((.b false), [.eqb (decide ((nats x.t) = ([] : List Nat))) false, .eqb (decide ((nats x.s) = ([] : List Nat))) true, .eqb (decide (x.n = 0)) true, .eqb (decide (18 < 22)) true, .eqb (Sx.inK .i64 18) true, .eqb (decide (0 ≤ 18)) true]) := by kernel_rfl
theorem ex18_4 (x : Tr) : funO 5 mth cal 1000 ir66 [(.ep 57 0 (rowK x 18))] [.go, .go, .go, .go, .br true, .br true, .go, .go, .br true, .br false] = some ((.b false), [.eqb (decide ((nats x.s) = ([] : List Nat))) false, .eqb (decide (x.n = 0)) true, .eqb (decide (18 < 22)) true, .eqb (Sx.inK .i64 18) true, .eqb (decide (0 ≤ 18)) true]) := by kernel_rfl
theorem ex18_5 (x : Tr) : funO 5 mth cal 1000 ir66 [(.ep 57 0 (rowK x 18))] [.go, .go, .go, .go, .br true, .br true, .go, .go, .br false] = some ((.b false), [.eqb (decide (x.n = 0)) false, .eqb (decide (18 < 22)) true, .eqb (Sx.inK .i64 18) true, .eqb (decide (0 ≤ 18)) true]) := by kernel_rfl
theorem ex18 (x : Tr) (vexpr0 : Bool) (veach1 : Bool) (s0 : (decide (x.n = 0)) = true → (decide ((nats x.s) = ([] : List Nat))) = true → (decide ((nats x.t) = ([] : List Nat))) = true → (decide (1 < (List.length (rowsT x.l) : Int))) = true → (Sx.inB 0 (List.length (rowsT x.l))) = true) (c1 : (decide (x.n = 0)) = true → (decide ((nats x.s) = ([] : List Nat))) = true → (decide ((nats x.t) = ([] : List Nat))) = true → (decide (1 < (List.length (rowsT x.l) : Int))) = true → Pu 66 [(.ep 57 0 (List.getD (rowsT x.l) (Int.toNat 0) []))] (.b (vexpr0))) (s2 : (decide (x.n = 0)) = true → (decide ((nats x.s) = ([] : List Nat))) = true → (decide ((nats x.t) = ([] : List Nat))) = true → (decide (1 < (List.length (rowsT x.l) : Int))) = true → vexpr0 = true → (Sx.inS 1 (List.length (rowsT x.l) : Int) (List.length (rowsT x.l))) = true) (s3 : (decide (x.n = 0)) = true → (decide ((nats x.s) = ([] : List Nat))) = true → (decide ((nats x.t) = ([] : List Nat))) = true → (decide (1 < (List.length (rowsT x.l) : Int))) = true → vexpr0 = true → (Sx.inS (List.length (rowsT x.l) : Int) (List.length (rowsT x.l) : Int) (List.length (rowsT x.l))) = true) (c4 : (decide (x.n = 0)) = true → (decide ((nats x.s) = ([] : List Nat))) = true → (decide ((nats x.t) = ([] : List Nat))) = true → (decide (1 < (List.length (rowsT x.l) : Int))) = true → vexpr0 = true → Pu 73 [(.es 57 (.r (List.take (Int.toNat ((List.length (rowsT x.l) : Int) - 1)) (List.drop (Int.toNat 1) (rowsT x.l))))), (.f (.func 142) [] [(.ep 3 0 [.i 1])])] (.b (veach1))) : Pu 66 [(.ep 57 0 (rowK x 18))] (.b (bif decide (x.n = 0) then (bif decide ((nats x.s) = ([] : List Nat)) then (bif decide ((nats x.t) = ([] : List Nat)) then (bif decide (1 < (List.length (rowsT x.l) : Int)) then (bif vexpr0 then veach1 else false) else false) else false) else false) else false)) := by
  cases h0 : (decide (x.n = 0))
  case false =>
    exact pu_of Tryz.func66 irc66 (ex18_5 x) rfl ⟨h0, (of_eqb (by decide)), (of_eqb (by decide)), (of_eqb (by decide)), trivial⟩
  case true =>
    cases h1 : (decide ((nats x.s) = ([] : List Nat)))
    case false =>
      exact pu_of Tryz.func66 irc66 (ex18_4 x) rfl ⟨h1, h0, (of_eqb (by decide)), (of_eqb (by decide)), (of_eqb (by decide)), trivial⟩
    case true =>
      cases h2 : (decide ((nats x.t) = ([] : List Nat)))
      case false =>
        exact pu_of Tryz.func66 irc66 (ex18_3 x) rfl ⟨h2, h1, h0, (of_eqb (by decide)), (of_eqb (by decide)), (of_eqb (by decide)), trivial⟩
      case true =>
        cases h3 : (decide (1 < (List.length (rowsT x.l) : Int)))
        case false =>
          exact pu_of Tryz.func66 irc66 (ex18_2 x) rfl ⟨h3, h2, h1, h0, (of_eqb (by decide)), (of_eqb (by decide)), (of_eqb (by decide)), trivial⟩
        case true =>
          cases vexpr0
          case false =>
            exact pu_of Tryz.func66 irc66 (ex18_1 x) rfl ⟨(c1 h0 h1 h2 h3), rfl, rfl, (s0 h0 h1 h2 h3), h3, h2, h1, h0, (of_eqb (by decide)), (of_eqb (by decide)), (of_eqb (by decide)), trivial⟩
          case true =>
            exact pu_of Tryz.func66 irc66 (ex18_0 x veach1) rfl ⟨(c4 h0 h1 h2 h3 rfl), rfl, rfl, rfl, (s3 h0 h1 h2 h3 rfl), (s2 h0 h1 h2 h3 rfl), (c1 h0 h1 h2 h3), rfl, rfl, (s0 h0 h1 h2 h3), h3, h2, h1, h0, (of_eqb (by decide)), (of_eqb (by decide)), (of_eqb (by decide)), trivial⟩
theorem ex19_0 (x : Tr) (veach2 : Bool) : funO 5 mth cal 1000 ir66 [(.ep 57 0 (rowK x 19))] [.go, .go, .go, .go, .br true, .br true, .go, .go, .br true, .br true, .br true, .br true, .cl [.as] (.b true), .go, .cl [.as, .fn [.ptr 3]] (.b true), .cl [.as, .as] (.b (veach2))] = some ((.b (veach2)), [.call 73 [(.es 57 (.r (List.take (Int.toNat ((List.length (rowsT x.l) : Int) - 1)) (List.drop (Int.toNat 1) (rowsT x.l))))), (.f (.func 138) [] [])] (.b (veach2)), .eqb (freeL []) true, .eqb (TV.free (.f (.func 138) [] [])) true, .eqb (TV.free (.es 57 (.r (List.take (Int.toNat ((List.length (rowsT x.l) : Int) - 1)) (List.drop (Int.toNat 1) (rowsT x.l)))))) true, .eqb (Sx.inS (List.length (rowsT x.l) : Int) (List.length (rowsT x.l) : Int) (List.length (rowsT x.l))) true, .eqb (Sx.inS 1 (List.length (rowsT x.l) : Int) (List.length (rowsT x.l))) true, .call 73 [(.es 57 (.r (List.take (Int.toNat ((List.length (rowsT x.l) : Int) - 1)) (List.drop (Int.toNat 1) (rowsT x.l))))), (.f (.func 142) [] [(.ep 3 0 [.i 2])])] (.b true), .eqb (freeL []) true, .eqb (freeL []) true, .eqb (TV.free (.es 57 (.r (List.take (Int.toNat ((List.length (rowsT x.l) : Int) - 1)) (List.drop (Int.toNat 1) (rowsT x.l)))))) true, .eqb (Sx.inS (List.length (rowsT x.l) : Int) (List.length (rowsT x.l) : Int) (List.length (rowsT x.l))) true, .eqb (Sx.inS 1 (List.length (rowsT x.l) : Int) (List.length (rowsT x.l))) true, .call 66 [(.ep 57 0 (List.getD (rowsT x.l) (Int.toNat 0) []))] (.b true), .eqb (freeL []) true, .eqb (TV.free (.ep 57 0 (List.getD (rowsT x.l) (Int.toNat 0) []))) true, .eqb (Sx.inB 0 (List.length (rowsT x.l))) true, .eqb (decide (1 < (List.length (rowsT x.l) : Int))) true, .eqb (decide ((nats x.t) = ([] : List Nat))) true, .eqb (decide ((nats x.s) = ([] : List Nat))) true, .eqb (decide (x.n = 0)) true, .eqb (decide (19 < 22)) true, .eqb (Sx.inK .i64 19) true, .eqb (decide (0 ≤ 19)) true]) := by kernel_rfl
theorem ex19_1 (x : Tr) : funO 5 mth cal 1000 ir66 [(.ep 57 0 (rowK x 19))] [.go, .go, .go, .go, .br true, .br true, .go, .go, .br true, .br true, .br true, .br true, .cl [.as] (.b true), .go, .cl [.as, .fn [.ptr 3]] (.b false)] = some ((.b false), [.call 73 [(.es 57 (.r (List.take (Int.toNat ((List.length (rowsT x.l) : Int) - 1)) (List.drop (Int.toNat 1) (rowsT x.l))))), (.f (.func 142) [] [(.ep 3 0 [.i 2])])] (.b false), .eqb (freeL []) true, .eqb (freeL []) true, .eqb (TV.free (.es 57 (.r (List.take (Int.toNat ((List.length (rowsT x.l) : Int) - 1)) (List.drop (Int.toNat 1) (rowsT x.l)))))) true, .eqb (Sx.inS (List.length (rowsT x.l) : Int) (List.length (rowsT x.l) : Int) (List.length (rowsT x.l))) true, .eqb (Sx.inS 1 (List.length (rowsT x.l) : Int) (List.length (rowsT x.l))) true, .call 66 [(.ep 57 0 (List.getD (rowsT x.l) (Int.toNat 0) []))] (.b true), .eqb (freeL []) true, .eqb (TV.free (.ep 57 0 (List.getD (rowsT x.l) (Int.toNat 0) []))) true, .eqb (Sx.inB 0 (List.length (rowsT x.l))) true, .eqb (decide (1 < (List.length (rowsT x.l) : Int))) true, .eqb (decide ((nats x.t) = ([] : List Nat))) true, .eqb (decide ((nats x.s) = ([] : List Nat))) true, .eqb (decide (x.n = 0)) true, .eqb (decide (19 < 22)) true, .eqb (Sx.inK .i64 19) true, .eqb (decide (0 ≤ 19)) true]) := by kernel_rfl
theorem ex19_2 (x : Tr) : funO 5 mth cal 1000 ir66 [(.ep 57 0 (rowK x 19))] [.go, .go, .go, .go, .br true, .br true, .go, .go, .br true, .br true, .br true, .br true, .cl [.as] (.b false)] = some ((.b false), [.call 66 [(.ep 57 0 (List.getD (rowsT x.l) (Int.toNat 0) []))] (.b false), .eqb (freeL []) true, .eqb (TV.free (.ep 57 0 (List.getD (rowsT x.l) (Int.toNat 0) []))) true, .eqb (Sx.inB 0 (List.length (rowsT x.l))) true, .eqb (decide (1 < (List.length (rowsT x.l) : Int))) true, .eqb (decide ((nats x.t) = ([] : List Nat))) true, .eqb (decide ((nats x.s) = ([] : List Nat))) true, .eqb (decide (x.n = 0)) true, .eqb (decide (19 < 22)) true, .eqb (Sx.inK .i64 19) true, .eqb (decide (0 ≤ 19)) true]) := by kernel_rfl
theorem ex19_3 (x : Tr) : funO 5 mth cal 1000 ir66 [(.ep 57 0 (rowK x 19))] [.go, .go, .go, .go, .br true, .br true, .go, .go, .br true, .br true, .br true, .br false] = some ((.b false), [.eqb (decide (1 < (List.length (rowsT x.l) : Int))) false, .eqb (decide ((nats x.t) = ([] : List Nat))) true, .eqb (decide ((nats x.s) = ([] : List Nat))) true, .eqb (decide (x.n = 0)) true, .eqb (decide (19 < 22)) true, .eqb (Sx.inK .i64 19) true, .eqb (decide (0 ≤ 19)) true]) := by kernel_rfl
theorem ex19_4 (x : Tr) : funO 5 mth cal 1000 ir66 [(.ep 57 0 (rowK x 19))] [.go, .go, .go, .go, .br true, .br true, .go, .go, .br true, .br true, .br false] = some ((.b false), [.eqb (decide ((nats x.t) = ([] : List Nat))) false, .eqb (decide ((nats x.s) = ([] : List Nat))) true, .eqb (decide (x.n = 0)) true, .eqb (decide (19 < 22)) true, .eqb (Sx.inK .i64 19) true, .eqb (decide (0 ≤ 19)) true]) := by kernel_rfl
theorem ex19_5 (x : Tr) : funO 5 mth cal 1000 ir66 [(.ep 57 0 (rowK x 19))] [.go, .go, .go, .go, .br true, .br true, .go, .go, .br true, .br false] = some ((.b false), [.eqb (decide ((nats x.s) = ([] : List Nat))) false, .eqb (decide (x.n = 0)) true, .eqb (decide (19 < 22)) true, .eqb (Sx.inK .i64 19) true, .eqb (decide (0 ≤ 19)) true]) := by kernel_rfl
theorem ex19_6 (x : Tr) : funO 5 mth cal 1000 ir66 [(.ep 57 0 (rowK x 19))] [.go, .go, .go, .go, .br true, .br true, .go, .go, .br false] = some ((.b false), [.eqb (decide (x.n = 0)) false, .eqb (decide (19 < 22)) true, .eqb (Sx.inK .i64 19) true, .eqb (decide (0 ≤ 19)) true]) := by kernel_rfl
theorem ex19 (x : Tr) (vexpr0 : Bool) (veach1 : Bool) (veach2 : Bool) (s0 : (decide (x.n = 0)) = true → (decide ((nats x.s) = ([] : List Nat))) = true → (decide ((nats x.t) = ([] : List Nat))) = true → (decide (1 < (List.length (rowsT x.l) : Int))) = true → (Sx.inB 0 (List.length (rowsT x.l))) = true) (c1 : (decide (x.n = 0)) = true → (decide ((nats x.s) = ([] : List Nat))) = true → (decide ((nats x.t) = ([] : List Nat))) = true → (decide (1 < (List.length (rowsT x.l) : Int))) = true → Pu 66 [(.ep 57 0 (List.getD (rowsT x.l) (Int.toNat 0) []))] (.b (vexpr0))) (s2 : (decide (x.n = 0)) = true → (decide ((nats x.s) = ([] : List Nat))) = true → (decide ((nats x.t) = ([] : List Nat))) = true → (decide (1 < (List.length (rowsT x.l) : Int))) = true → vexpr0 = true → (Sx.inS 1 (List.length (rowsT x.l) : Int) (List.length (rowsT x.l))) = true) (s3 : (decide (x.n = 0)) = true → (decide ((nats x.s) = ([] : List Nat))) = true → (decide ((nats x.t) = ([] : List Nat))) = true → (decide (1 < (List.length (rowsT x.l) : Int))) = true → vexpr0 = true → (Sx.inS (List.length (rowsT x.l) : Int) (List.length (rowsT x.l) : Int) (List.length (rowsT x.l))) = true) (c4 : (decide (x.n = 0)) = true → (decide ((nats x.s) = ([] : List Nat))) = true → (decide ((nats x.t) = ([] : List Nat))) = true → (decide (1 < (List.length (rowsT x.l) : Int))) = true → vexpr0 = true → Pu 73 [(.es 57 (.r (List.take (Int.toNat ((List.length (rowsT x.l) : Int) - 1)) (List.drop (Int.toNat 1) (rowsT x.l))))), (.f (.func 142) [] [(.ep 3 0 [.i 2])])] (.b (veach1))) (s5 : (decide (x.n = 0)) = true → (decide ((nats x.s) = ([] : List Nat))) = true → (decide ((nats x.t) = ([] : List Nat))) = true → (decide (1 < (List.length (rowsT x.l) : Int))) = true → vexpr0 = true → veach1 = true → (Sx.inS 1 (List.length (rowsT x.l) : Int) (List.length (rowsT x.l))) = true) (s6 : (decide (x.n = 0)) = true → (decide ((nats x.s) = ([] : List Nat))) = true → (decide ((nats x.t) = ([] : List Nat))) = true → (decide (1 < (List.length (rowsT x.l) : Int))) = true → vexpr0 = true → veach1 = true → (Sx.inS (List.length (rowsT x.l) : Int) (List.length (rowsT x.l) : Int) (List.length (rowsT x.l))) = true) (c7 : (decide (x.n = 0)) = true → (decide ((nats x.s) = ([] : List Nat))) = true → (decide ((nats x.t) = ([] : List Nat))) = true → (decide (1 < (List.length (rowsT x.l) : Int))) = true → vexpr0 = true → veach1 = true → Pu 73 [(.es 57 (.r (List.take (Int.toNat ((List.length (rowsT x.l) : Int) - 1)) (List.drop (Int.toNat 1) (rowsT x.l))))), (.f (.func 138) [] [])] (.b (veach2))) : Pu 66 [(.ep 57 0 (rowK x 19))] (.b (bif decide (x.n = 0) then (bif decide ((nats x.s) = ([] : List Nat)) then (bif decide ((nats x.t) = ([] : List Nat)) then (bif decide (1 < (List.length (rowsT x.l) : Int)) then (bif vexpr0 then (bif veach1 then veach2 else false) else false) else false) else false) else false) else false)) := by
  cases h0 : (decide (x.n = 0))
  case false =>
    exact pu_of Tryz.func66 irc66 (ex19_6 x) rfl ⟨h0, (of_eqb (by decide)), (of_eqb (by decide)), (of_eqb (by decide)), trivial⟩
  case true =>
    cases h1 : (decide ((nats x.s) = ([] : List Nat)))
    case false =>
      exact pu_of Tryz.func66 irc66 (ex19_5 x) rfl ⟨h1, h0, (of_eqb (by decide)), (of_eqb (by decide)), (of_eqb (by decide)), trivial⟩
    case true =>
      cases h2 : (decide ((nats x.t) = ([] : List Nat)))
      case false =>
        exact pu_of Tryz.func66 irc66 (ex19_4 x) rfl ⟨h2, h1, h0, (of_eqb (by decide)), (of_eqb (by decide)), (of_eqb (by decide)), trivial⟩
      case true =>
        cases h3 : (decide (1 < (List.length (rowsT x.l) : Int)))
        case false =>
          exact pu_of Tryz.func66 irc66 (ex19_3 x) rfl ⟨h3, h2, h1, h0, (of_eqb (by decide)), (of_eqb (by decide)), (of_eqb (by decide)), trivial⟩
        case true =>
          cases vexpr0
          case false =>
            exact pu_of Tryz.func66 irc66 (ex19_2 x) rfl ⟨(c1 h0 h1 h2 h3), rfl, rfl, (s0 h0 h1 h2 h3), h3, h2, h1, h0, (of_eqb (by decide)), (of_eqb (by decide)), (of_eqb (by decide)), trivial⟩
          case true =>
            cases veach1
            case false =>
              exact pu_of Tryz.func66 irc66 (ex19_1 x) rfl ⟨(c4 h0 h1 h2 h3 rfl), rfl, rfl, rfl, (s3 h0 h1 h2 h3 rfl), (s2 h0 h1 h2 h3 rfl), (c1 h0 h1 h2 h3), rfl, rfl, (s0 h0 h1 h2 h3), h3, h2, h1, h0, (of_eqb (by decide)), (of_eqb (by decide)), (of_eqb (by decide)), trivial⟩
            case true =>
              exact pu_of Tryz.func66 irc66 (ex19_0 x veach2) rfl ⟨(c7 h0 h1 h2 h3 rfl rfl), rfl, rfl, rfl, (s6 h0 h1 h2 h3 rfl rfl), (s5 h0 h1 h2 h3 rfl rfl), (c4 h0 h1 h2 h3 rfl), rfl, rfl, rfl, (s3 h0 h1 h2 h3 rfl), (s2 h0 h1 h2 h3 rfl), (c1 h0 h1 h2 h3), rfl, rfl, (s0 h0 h1 h2 h3), h3, h2, h1, h0, (of_eqb (by decide)), (of_eqb (by decide)), (of_eqb (by decide)), trivial⟩
theorem ex20_0 (x : Tr) (vrecv0 : Bool) : funO 5 mth cal 1000 ir66 [(.ep 57 0 (rowK x 20))] [.go, .go, .go, .go, .br true, .br true, .cl [.as] (.b (vrecv0))] = some ((.b (vrecv0)), [.call 139 [(.ep 57 0 (rowK x 20))] (.b (vrecv0)), .eqb (freeL []) true, .eqb (TV.free (.ep 57 0 (rowK x 20))) true, .eqb (decide (20 < 22)) true, .eqb (Sx.inK .i64 20) true, .eqb (decide (0 ≤ 20)) true]) := by kernel_rfl
theorem ex20 (x : Tr) (vrecv0 : Bool) (c0 : Pu 139 [(.ep 57 0 (rowK x 20))] (.b (vrecv0))) : Pu 66 [(.ep 57 0 (rowK x 20))] (.b (vrecv0)) := by
  exact pu_of Tryz.func66 irc66 (ex20_0 x vrecv0) rfl ⟨(c0), rfl, rfl, (of_eqb (by decide)), (of_eqb (by decide)), (of_eqb (by decide)), trivial⟩
theorem ex21_0 (x : Tr) : funO 5 mth cal 1000 ir66 [(.ep 57 0 (rowK x 21))] [.go, .go, .go, .go, .br true, .br true] = some ((.b false), [.eqb (decide (21 < 22)) true, .eqb (Sx.inK .i64 21) true, .eqb (decide (0 ≤ 21)) true]) := by kernel_rfl
theorem ex21 (x : Tr) : Pu 66 [(.ep 57 0 (rowK x 21))] (.b false) := by
  exact pu_of Tryz.func66 irc66 (ex21_0 x) rfl ⟨(of_eqb (by decide)), (of_eqb (by decide)), (of_eqb (by decide)), trivial⟩
theorem exO_1 (x : Tr) : funO 5 mth cal 1000 ir66 [(.ep 57 0 (rowV x))] [.go, .go, .go, .go, .br true, .br false] = some ((.b false), [.eqb (decide (x.k < 22)) false, .eqb (Sx.inK .i64 x.k) true, .eqb (decide (0 ≤ x.k)) true]) := by kernel_rfl
theorem exO_2 (x : Tr) : funO 5 mth cal 1000 ir66 [(.ep 57 0 (rowV x))] [.go, .go, .go, .go, .br false] = some ((.b false), [.eqb (decide (0 ≤ x.k)) false]) := by kernel_rfl
theorem exO (x : Tr) (s0 : (decide (0 ≤ x.k)) = true → (Sx.inK .i64 x.k) = true) (d0 : (decide (0 ≤ x.k)) = true → (decide (x.k < 22)) = true → False) : Pu 66 [(.ep 57 0 (rowV x))] (.b (bif decide (0 ≤ x.k) then (bif decide (x.k < 22) then false else false) else false)) := by
  cases h0 : (decide (0 ≤ x.k))
  case false =>
    exact pu_of Tryz.func66 irc66 (exO_2 x) rfl ⟨h0, trivial⟩
  case true =>
    cases h1 : (decide (x.k < 22))
    case false =>
      exact pu_of Tryz.func66 irc66 (exO_1 x) rfl ⟨h1, (s0 h0), h0, trivial⟩
    case true =>
      exact (d0 h0 h1).elim
theorem clP_0 (x : Tr) (m : Int) (veach2 : Bool) : funO 5 mth cal 1000 ir142 [(.ep 57 0 (rowV x)), (.ep 3 0 [.i m])] [.br true, .go, .br true, .br true, .br true, .br true, .br true, .cl [.as, .as] (.b true), .cl [.as] (.b true), .cl [.as, .as] (.b (veach2))] = some ((.b (veach2)), [.call 73 [(.es 57 (.r (List.take (Int.toNat ((List.length (rowsT x.l) : Int) - (m + 1))) (List.drop (Int.toNat (m + 1)) (rowsT x.l))))), (.f (.func 66) [] [])] (.b (veach2)), .eqb (freeL []) true, .eqb (TV.free (.f (.func 66) [] [])) true, .eqb (TV.free (.es 57 (.r (List.take (Int.toNat ((List.length (rowsT x.l) : Int) - (m + 1))) (List.drop (Int.toNat (m + 1)) (rowsT x.l)))))) true, .eqb (Sx.inS (List.length (rowsT x.l) : Int) (List.length (rowsT x.l) : Int) (List.length (rowsT x.l))) true, .eqb (Sx.inS (m + 1) (List.length (rowsT x.l) : Int) (List.length (rowsT x.l))) true, .eqb (Sx.inK .i64 (m + 1)) true, .call 68 [(.ep 57 0 (List.getD (rowsT x.l) (Int.toNat m) []))] (.b true), .eqb (freeL []) true, .eqb (TV.free (.ep 57 0 (List.getD (rowsT x.l) (Int.toNat m) []))) true, .eqb (Sx.inB m (List.length (rowsT x.l))) true, .call 73 [(.es 57 (.r (List.take (Int.toNat (m - 0)) (List.drop (Int.toNat 0) (rowsT x.l))))), (.f (.func 65) [] [])] (.b true), .eqb (freeL []) true, .eqb (TV.free (.f (.func 65) [] [])) true, .eqb (TV.free (.es 57 (.r (List.take (Int.toNat (m - 0)) (List.drop (Int.toNat 0) (rowsT x.l)))))) true, .eqb (Sx.inS m (List.length (rowsT x.l) : Int) (List.length (rowsT x.l))) true, .eqb (Sx.inS 0 m (List.length (rowsT x.l))) true, .eqb (decide (m ≤ ((List.length (rowsT x.l) : Int) - 2))) true, .eqb (Sx.inK .i64 ((List.length (rowsT x.l) : Int) - 2)) true, .eqb (decide (0 ≤ m)) true, .eqb (decide (x.n = m)) true, .eqb (decide ((nats x.t) = ([] : List Nat))) true, .eqb (decide ((nats x.s) = ([] : List Nat))) true, .eqb (decide (x.k = 3)) true]) := by kernel_rfl
theorem clP_1 (x : Tr) (m : Int) : funO 5 mth cal 1000 ir142 [(.ep 57 0 (rowV x)), (.ep 3 0 [.i m])] [.br true, .go, .br true, .br true, .br true, .br true, .br true, .cl [.as, .as] (.b true), .cl [.as] (.b false)] = some ((.b false), [.call 68 [(.ep 57 0 (List.getD (rowsT x.l) (Int.toNat m) []))] (.b false), .eqb (freeL []) true, .eqb (TV.free (.ep 57 0 (List.getD (rowsT x.l) (Int.toNat m) []))) true, .eqb (Sx.inB m (List.length (rowsT x.l))) true, .call 73 [(.es 57 (.r (List.take (Int.toNat (m - 0)) (List.drop (Int.toNat 0) (rowsT x.l))))), (.f (.func 65) [] [])] (.b true), .eqb (freeL []) true, .eqb (TV.free (.f (.func 65) [] [])) true, .eqb (TV.free (.es 57 (.r (List.take (Int.toNat (m - 0)) (List.drop (Int.toNat 0) (rowsT x.l)))))) true, .eqb (Sx.inS m (List.length (rowsT x.l) : Int) (List.length (rowsT x.l))) true, .eqb (Sx.inS 0 m (List.length (rowsT x.l))) true, .eqb (decide (m ≤ ((List.length (rowsT x.l) : Int) - 2))) true, .eqb (Sx.inK .i64 ((List.length (rowsT x.l) : Int) - 2)) true, .eqb (decide (0 ≤ m)) true, .eqb (decide (x.n = m)) true, .eqb (decide ((nats x.t) = ([] : List Nat))) true, .eqb (decide ((nats x.s) = ([] : List Nat))) true, .eqb (decide (x.k = 3)) true]) := by kernel_rfl
theorem clP_2 (x : Tr) (m : Int) : funO 5 mth cal 1000 ir142 [(.ep 57 0 (rowV x)), (.ep 3 0 [.i m])] [.br true, .go, .br true, .br true, .br true, .br true, .br true, .cl [.as, .as] (.b false)] = some ((.b false), [.call 73 [(.es 57 (.r (List.take (Int.toNat (m - 0)) (List.drop (Int.toNat 0) (rowsT x.l))))), (.f (.func 65) [] [])] (.b false), .eqb (freeL []) true, .eqb (TV.free (.f (.func 65) [] [])) true, .eqb (TV.free (.es 57 (.r (List.take (Int.toNat (m - 0)) (List.drop (Int.toNat 0) (rowsT x.l)))))) true, .eqb (Sx.inS m (List.length (rowsT x.l) : Int) (List.length (rowsT x.l))) true, .eqb (Sx.inS 0 m (List.length (rowsT x.l))) true, .eqb (decide (m ≤ ((List.length (rowsT x.l) : Int) - 2))) true, .eqb (Sx.inK .i64 ((List.length (rowsT x.l) : Int) - 2)) true, .eqb (decide (0 ≤ m)) true, .eqb (decide (x.n = m)) true, .eqb (decide ((nats x.t) = ([] : List Nat))) true, .eqb (decide ((nats x.s) = ([] : List Nat))) true, .eqb (decide (x.k = 3)) true]) := by kernel_rfl
theorem clP_3 (x : Tr) (m : Int) : funO 5 mth cal 1000 ir142 [(.ep 57 0 (rowV x)), (.ep 3 0 [.i m])] [.br true, .go, .br true, .br true, .br true, .br true, .br false] = some ((.b false), [.eqb (decide (m ≤ ((List.length (rowsT x.l) : Int) - 2))) false, .eqb (Sx.inK .i64 ((List.length (rowsT x.l) : Int) - 2)) true, .eqb (decide (0 ≤ m)) true, .eqb (decide (x.n = m)) true, .eqb (decide ((nats x.t) = ([] : List Nat))) true, .eqb (decide ((nats x.s) = ([] : List Nat))) true, .eqb (decide (x.k = 3)) true]) := by kernel_rfl
theorem clP_4 (x : Tr) (m : Int) : funO 5 mth cal 1000 ir142 [(.ep 57 0 (rowV x)), (.ep 3 0 [.i m])] [.br true, .go, .br true, .br true, .br true, .br false] = some ((.b false), [.eqb (decide (0 ≤ m)) false, .eqb (decide (x.n = m)) true, .eqb (decide ((nats x.t) = ([] : List Nat))) true, .eqb (decide ((nats x.s) = ([] : List Nat))) true, .eqb (decide (x.k = 3)) true]) := by kernel_rfl
theorem clP_5 (x : Tr) (m : Int) : funO 5 mth cal 1000 ir142 [(.ep 57 0 (rowV x)), (.ep 3 0 [.i m])] [.br true, .go, .br true, .br true, .br false] = some ((.b false), [.eqb (decide (x.n = m)) false, .eqb (decide ((nats x.t) = ([] : List Nat))) true, .eqb (decide ((nats x.s) = ([] : List Nat))) true, .eqb (decide (x.k = 3)) true]) := by kernel_rfl
theorem clP_6 (x : Tr) (m : Int) : funO 5 mth cal 1000 ir142 [(.ep 57 0 (rowV x)), (.ep 3 0 [.i m])] [.br true, .go, .br true, .br false] = some ((.b false), [.eqb (decide ((nats x.t) = ([] : List Nat))) false, .eqb (decide ((nats x.s) = ([] : List Nat))) true, .eqb (decide (x.k = 3)) true]) := by kernel_rfl
theorem clP_7 (x : Tr) (m : Int) : funO 5 mth cal 1000 ir142 [(.ep 57 0 (rowV x)), (.ep 3 0 [.i m])] [.br true, .go, .br false] = some ((.b false), [.eqb (decide ((nats x.s) = ([] : List Nat))) false, .eqb (decide (x.k = 3)) true]) := by kernel_rfl
theorem clP_8 (x : Tr) (m : Int) : funO 5 mth cal 1000 ir142 [(.ep 57 0 (rowV x)), (.ep 3 0 [.i m])] [.br false] = some ((.b false), [.eqb (decide (x.k = 3)) false]) := by kernel_rfl
theorem clP (x : Tr) (m : Int) (veach0 : Bool) (vguard1 : Bool) (veach2 : Bool) (s0 : (decide (x.k = 3)) = true → (decide ((nats x.s) = ([] : List Nat))) = true → (decide ((nats x.t) = ([] : List Nat))) = true → (decide (x.n = m)) = true → (decide (0 ≤ m)) = true → (Sx.inK .i64 ((List.length (rowsT x.l) : Int) - 2)) = true) (s1 : (decide (x.k = 3)) = true → (decide ((nats x.s) = ([] : List Nat))) = true → (decide ((nats x.t) = ([] : List Nat))) = true → (decide (x.n = m)) = true → (decide (0 ≤ m)) = true → (decide (m ≤ ((List.length (rowsT x.l) : Int) - 2))) = true → (Sx.inS 0 m (List.length (rowsT x.l))) = true) (s2 : (decide (x.k = 3)) = true → (decide ((nats x.s) = ([] : List Nat))) = true → (decide ((nats x.t) = ([] : List Nat))) = true → (decide (x.n = m)) = true → (decide (0 ≤ m)) = true → (decide (m ≤ ((List.length (rowsT x.l) : Int) - 2))) = true → (Sx.inS m (List.length (rowsT x.l) : Int) (List.length (rowsT x.l))) = true) (c3 : (decide (x.k = 3)) = true → (decide ((nats x.s) = ([] : List Nat))) = true → (decide ((nats x.t) = ([] : List Nat))) = true → (decide (x.n = m)) = true → (decide (0 ≤ m)) = true → (decide (m ≤ ((List.length (rowsT x.l) : Int) - 2))) = true → Pu 73 [(.es 57 (.r (List.take (Int.toNat (m - 0)) (List.drop (Int.toNat 0) (rowsT x.l))))), (.f (.func 65) [] [])] (.b (veach0))) (s4 : (decide (x.k = 3)) = true → (decide ((nats x.s) = ([] : List Nat))) = true → (decide ((nats x.t) = ([] : List Nat))) = true → (decide (x.n = m)) = true → (decide (0 ≤ m)) = true → (decide (m ≤ ((List.length (rowsT x.l) : Int) - 2))) = true → veach0 = true → (Sx.inB m (List.length (rowsT x.l))) = true) (c5 : (decide (x.k = 3)) = true → (decide ((nats x.s) = ([] : List Nat))) = true → (decide ((nats x.t) = ([] : List Nat))) = true → (decide (x.n = m)) = true → (decide (0 ≤ m)) = true → (decide (m ≤ ((List.length (rowsT x.l) : Int) - 2))) = true → veach0 = true → Pu 68 [(.ep 57 0 (List.getD (rowsT x.l) (Int.toNat m) []))] (.b (vguard1))) (s6 : (decide (x.k = 3)) = true → (decide ((nats x.s) = ([] : List Nat))) = true → (decide ((nats x.t) = ([] : List Nat))) = true → (decide (x.n = m)) = true → (decide (0 ≤ m)) = true → (decide (m ≤ ((List.length (rowsT x.l) : Int) - 2))) = true → veach0 = true → vguard1 = true → (Sx.inK .i64 (m + 1)) = true) (s7 : (decide (x.k = 3)) = true → (decide ((nats x.s) = ([] : List Nat))) = true → (decide ((nats x.t) = ([] : List Nat))) = true → (decide (x.n = m)) = true → (decide (0 ≤ m)) = true → (decide (m ≤ ((List.length (rowsT x.l) : Int) - 2))) = true → veach0 = true → vguard1 = true → (Sx.inS (m + 1) (List.length (rowsT x.l) : Int) (List.length (rowsT x.l))) = true) (s8 : (decide (x.k = 3)) = true → (decide ((nats x.s) = ([] : List Nat))) = true → (decide ((nats x.t) = ([] : List Nat))) = true → (decide (x.n = m)) = true → (decide (0 ≤ m)) = true → (decide (m ≤ ((List.length (rowsT x.l) : Int) - 2))) = true → veach0 = true → vguard1 = true → (Sx.inS (List.length (rowsT x.l) : Int) (List.length (rowsT x.l) : Int) (List.length (rowsT x.l))) = true) (c9 : (decide (x.k = 3)) = true → (decide ((nats x.s) = ([] : List Nat))) = true → (decide ((nats x.t) = ([] : List Nat))) = true → (decide (x.n = m)) = true → (decide (0 ≤ m)) = true → (decide (m ≤ ((List.length (rowsT x.l) : Int) - 2))) = true → veach0 = true → vguard1 = true → Pu 73 [(.es 57 (.r (List.take (Int.toNat ((List.length (rowsT x.l) : Int) - (m + 1))) (List.drop (Int.toNat (m + 1)) (rowsT x.l))))), (.f (.func 66) [] [])] (.b (veach2))) : Pu 142 [(.ep 57 0 (rowV x)), (.ep 3 0 [.i m])] (.b (bif decide (x.k = 3) then (bif decide ((nats x.s) = ([] : List Nat)) then (bif decide ((nats x.t) = ([] : List Nat)) then (bif decide (x.n = m) then (bif decide (0 ≤ m) then (bif decide (m ≤ ((List.length (rowsT x.l) : Int) - 2)) then (bif veach0 then (bif vguard1 then veach2 else false) else false) else false) else false) else false) else false) else false) else false)) := by
  cases h0 : (decide (x.k = 3))
  case false =>
    exact pu_of Tryz.func142 irc142 (clP_8 x m) rfl ⟨h0, trivial⟩
  case true =>
    cases h1 : (decide ((nats x.s) = ([] : List Nat)))
    case false =>
      exact pu_of Tryz.func142 irc142 (clP_7 x m) rfl ⟨h1, h0, trivial⟩
    case true =>
      cases h2 : (decide ((nats x.t) = ([] : List Nat)))
      case false =>
        exact pu_of Tryz.func142 irc142 (clP_6 x m) rfl ⟨h2, h1, h0, trivial⟩
      case true =>
        cases h3 : (decide (x.n = m))
        case false =>
          exact pu_of Tryz.func142 irc142 (clP_5 x m) rfl ⟨h3, h2, h1, h0, trivial⟩
        case true =>
          cases h4 : (decide (0 ≤ m))
          case false =>
            exact pu_of Tryz.func142 irc142 (clP_4 x m) rfl ⟨h4, h3, h2, h1, h0, trivial⟩
          case true =>
            cases h5 : (decide (m ≤ ((List.length (rowsT x.l) : Int) - 2)))
            case false =>
              exact pu_of Tryz.func142 irc142 (clP_3 x m) rfl ⟨h5, (s0 h0 h1 h2 h3 h4), h4, h3, h2, h1, h0, trivial⟩
            case true =>
              cases veach0
              case false =>
                exact pu_of Tryz.func142 irc142 (clP_2 x m) rfl ⟨(c3 h0 h1 h2 h3 h4 h5), rfl, rfl, rfl, (s2 h0 h1 h2 h3 h4 h5), (s1 h0 h1 h2 h3 h4 h5), h5, (s0 h0 h1 h2 h3 h4), h4, h3, h2, h1, h0, trivial⟩
              case true =>
                cases vguard1
                case false =>
                  exact pu_of Tryz.func142 irc142 (clP_1 x m) rfl ⟨(c5 h0 h1 h2 h3 h4 h5 rfl), rfl, rfl, (s4 h0 h1 h2 h3 h4 h5 rfl), (c3 h0 h1 h2 h3 h4 h5), rfl, rfl, rfl, (s2 h0 h1 h2 h3 h4 h5), (s1 h0 h1 h2 h3 h4 h5), h5, (s0 h0 h1 h2 h3 h4), h4, h3, h2, h1, h0, trivial⟩
                case true =>
                  exact pu_of Tryz.func142 irc142 (clP_0 x m veach2) rfl ⟨(c9 h0 h1 h2 h3 h4 h5 rfl rfl), rfl, rfl, rfl, (s8 h0 h1 h2 h3 h4 h5 rfl rfl), (s7 h0 h1 h2 h3 h4 h5 rfl rfl), (s6 h0 h1 h2 h3 h4 h5 rfl rfl), (c5 h0 h1 h2 h3 h4 h5 rfl), rfl, rfl, (s4 h0 h1 h2 h3 h4 h5 rfl), (c3 h0 h1 h2 h3 h4 h5), rfl, rfl, rfl, (s2 h0 h1 h2 h3 h4 h5), (s1 h0 h1 h2 h3 h4 h5), h5, (s0 h0 h1 h2 h3 h4), h4, h3, h2, h1, h0, trivial⟩
theorem csP_0 (x : Tr) : funO 5 mth cal 1000 ir138 [(.ep 57 0 (rowV x))] [.br true] = some ((.b true), [.eqb (decide ((Dat.int (List.getD (List.getD (rowsT x.l) (Int.toNat 0) []) 0 .o)) = 5)) true, .eqb (Sx.inB 0 (List.length (rowsT x.l))) true]) := by kernel_rfl
theorem csP_1 (x : Tr) : funO 5 mth cal 1000 ir138 [(.ep 57 0 (rowV x))] [.br false, .br true, .go, .go, .br true, .br true, .br true] = some ((.b true), [.eqb (decide (0 ≤ 0)) true, .eqb (decide ((Dat.str (List.getD (List.getD (rowsT x.l) (Int.toNat 0) []) 2 .o)) = ([101, 114, 114, 111, 114] : List Nat))) true, .eqb (decide (0 < 3)) true, .eqb (decide ((Dat.int (List.getD (List.getD (rowsT x.l) (Int.toNat 0) []) 0 .o)) = 7)) true, .eqb (decide ((Dat.int (List.getD (List.getD (rowsT x.l) (Int.toNat 0) []) 0 .o)) = 5)) false, .eqb (Sx.inB 0 (List.length (rowsT x.l))) true]) := by kernel_rfl
theorem csP_2 (x : Tr) : funO 5 mth cal 1000 ir138 [(.ep 57 0 (rowV x))] [.br false, .br true, .go, .go, .br true, .br false, .br true, .br true, .br true] = some ((.b true), [.eqb (decide (0 ≤ 1)) true, .eqb (decide ((Dat.str (List.getD (List.getD (rowsT x.l) (Int.toNat 0) []) 2 .o)) = ([101, 120, 105, 116] : List Nat))) true, .eqb (decide (1 < 3)) true, .eqb (Sx.inK .i64 1) true, .eqb (decide ((Dat.str (List.getD (List.getD (rowsT x.l) (Int.toNat 0) []) 2 .o)) = ([101, 114, 114, 111, 114] : List Nat))) false, .eqb (decide (0 < 3)) true, .eqb (decide ((Dat.int (List.getD (List.getD (rowsT x.l) (Int.toNat 0) []) 0 .o)) = 7)) true, .eqb (decide ((Dat.int (List.getD (List.getD (rowsT x.l) (Int.toNat 0) []) 0 .o)) = 5)) false, .eqb (Sx.inB 0 (List.length (rowsT x.l))) true]) := by kernel_rfl
theorem csP_3 (x : Tr) : funO 5 mth cal 1000 ir138 [(.ep 57 0 (rowV x))] [.br false, .br true, .go, .go, .br true, .br false, .br true, .br false, .br true, .br true, .br true] = some ((.b true), [.eqb (decide (0 ≤ 2)) true, .eqb (decide ((Dat.str (List.getD (List.getD (rowsT x.l) (Int.toNat 0) []) 2 .o)) = ([116, 104, 114, 111, 119] : List Nat))) true, .eqb (decide (2 < 3)) true, .eqb (Sx.inK .i64 2) true, .eqb (decide ((Dat.str (List.getD (List.getD (rowsT x.l) (Int.toNat 0) []) 2 .o)) = ([101, 120, 105, 116] : List Nat))) false, .eqb (decide (1 < 3)) true, .eqb (Sx.inK .i64 1) true, .eqb (decide ((Dat.str (List.getD (List.getD (rowsT x.l) (Int.toNat 0) []) 2 .o)) = ([101, 114, 114, 111, 114] : List Nat))) false, .eqb (decide (0 < 3)) true, .eqb (decide ((Dat.int (List.getD (List.getD (rowsT x.l) (Int.toNat 0) []) 0 .o)) = 7)) true, .eqb (decide ((Dat.int (List.getD (List.getD (rowsT x.l) (Int.toNat 0) []) 0 .o)) = 5)) false, .eqb (Sx.inB 0 (List.length (rowsT x.l))) true]) := by kernel_rfl
theorem csP_4 (x : Tr) : funO 5 mth cal 1000 ir138 [(.ep 57 0 (rowV x))] [.br false, .br true, .go, .go, .br true, .br false, .br true, .br false, .br true, .br false, .br false, .br false] = some ((.b false), [.eqb (decide (0 ≤ (-1))) false, .eqb (decide (3 < 3)) false, .eqb (Sx.inK .i64 3) true, .eqb (decide ((Dat.str (List.getD (List.getD (rowsT x.l) (Int.toNat 0) []) 2 .o)) = ([116, 104, 114, 111, 119] : List Nat))) false, .eqb (decide (2 < 3)) true, .eqb (Sx.inK .i64 2) true, .eqb (decide ((Dat.str (List.getD (List.getD (rowsT x.l) (Int.toNat 0) []) 2 .o)) = ([101, 120, 105, 116] : List Nat))) false, .eqb (decide (1 < 3)) true, .eqb (Sx.inK .i64 1) true, .eqb (decide ((Dat.str (List.getD (List.getD (rowsT x.l) (Int.toNat 0) []) 2 .o)) = ([101, 114, 114, 111, 114] : List Nat))) false, .eqb (decide (0 < 3)) true, .eqb (decide ((Dat.int (List.getD (List.getD (rowsT x.l) (Int.toNat 0) []) 0 .o)) = 7)) true, .eqb (decide ((Dat.int (List.getD (List.getD (rowsT x.l) (Int.toNat 0) []) 0 .o)) = 5)) false, .eqb (Sx.inB 0 (List.length (rowsT x.l))) true]) := by kernel_rfl
theorem csP_5 (x : Tr) : funO 5 mth cal 1000 ir138 [(.ep 57 0 (rowV x))] [.br false, .br false] = some ((.b false), [.eqb (decide ((Dat.int (List.getD (List.getD (rowsT x.l) (Int.toNat 0) []) 0 .o)) = 7)) false, .eqb (decide ((Dat.int (List.getD (List.getD (rowsT x.l) (Int.toNat 0) []) 0 .o)) = 5)) false, .eqb (Sx.inB 0 (List.length (rowsT x.l))) true]) := by kernel_rfl
theorem csP (x : Tr) (s0 : (Sx.inB 0 (List.length (rowsT x.l))) = true) : Pu 138 [(.ep 57 0 (rowV x))] (.b (bif decide ((Dat.int (List.getD (List.getD (rowsT x.l) (Int.toNat 0) []) 0 .o)) = 5) then true else (bif decide ((Dat.int (List.getD (List.getD (rowsT x.l) (Int.toNat 0) []) 0 .o)) = 7) then (bif decide ((Dat.str (List.getD (List.getD (rowsT x.l) (Int.toNat 0) []) 2 .o)) = ([101, 114, 114, 111, 114] : List Nat)) then true else (bif decide ((Dat.str (List.getD (List.getD (rowsT x.l) (Int.toNat 0) []) 2 .o)) = ([101, 120, 105, 116] : List Nat)) then true else (bif decide ((Dat.str (List.getD (List.getD (rowsT x.l) (Int.toNat 0) []) 2 .o)) = ([116, 104, 114, 111, 119] : List Nat)) then true else false))) else false))) := by
  cases h0 : (decide ((Dat.int (List.getD (List.getD (rowsT x.l) (Int.toNat 0) []) 0 .o)) = 5))
  case false =>
    cases h1 : (decide ((Dat.int (List.getD (List.getD (rowsT x.l) (Int.toNat 0) []) 0 .o)) = 7))
    case false =>
      exact pu_of Tryz.func138 irc138 (csP_5 x) rfl ⟨h1, h0, (s0), trivial⟩
    case true =>
      cases h2 : (decide ((Dat.str (List.getD (List.getD (rowsT x.l) (Int.toNat 0) []) 2 .o)) = ([101, 114, 114, 111, 114] : List Nat)))
      case false =>
        cases h3 : (decide ((Dat.str (List.getD (List.getD (rowsT x.l) (Int.toNat 0) []) 2 .o)) = ([101, 120, 105, 116] : List Nat)))
        case false =>
          cases h4 : (decide ((Dat.str (List.getD (List.getD (rowsT x.l) (Int.toNat 0) []) 2 .o)) = ([116, 104, 114, 111, 119] : List Nat)))
          case false =>
            exact pu_of Tryz.func138 irc138 (csP_4 x) rfl ⟨(of_eqb (by decide)), (of_eqb (by decide)), (of_eqb (by decide)), h4, (of_eqb (by decide)), (of_eqb (by decide)), h3, (of_eqb (by decide)), (of_eqb (by decide)), h2, (of_eqb (by decide)), h1, h0, (s0), trivial⟩
          case true =>
            exact pu_of Tryz.func138 irc138 (csP_3 x) rfl ⟨(of_eqb (by decide)), h4, (of_eqb (by decide)), (of_eqb (by decide)), h3, (of_eqb (by decide)), (of_eqb (by decide)), h2, (of_eqb (by decide)), h1, h0, (s0), trivial⟩
        case true =>
          exact pu_of Tryz.func138 irc138 (csP_2 x) rfl ⟨(of_eqb (by decide)), h3, (of_eqb (by decide)), (of_eqb (by decide)), h2, (of_eqb (by decide)), h1, h0, (s0), trivial⟩
      case true =>
        exact pu_of Tryz.func138 irc138 (csP_1 x) rfl ⟨(of_eqb (by decide)), h2, (of_eqb (by decide)), h1, h0, (s0), trivial⟩
  case true =>
    exact pu_of Tryz.func138 irc138 (csP_0 x) rfl ⟨h0, (s0), trivial⟩
theorem rcP_0 (x : Tr) : funO 5 mth cal 1000 ir139 [(.ep 57 0 (rowV x))] [.go, .br true, .br true, .br true] = some ((.b false), [.eqb (decide (x.n < 0)) true, .eqb (decide ((nats x.t) = ([] : List Nat))) true, .eqb (decide ((nats x.s) = ([] : List Nat))) true]) := by kernel_rfl
theorem rcP_1 (x : Tr) : funO 5 mth cal 1000 ir139 [(.ep 57 0 (rowV x))] [.go, .br true, .br true, .br false, .br true] = some ((.b false), [.eqb (decide (1 < x.n)) true, .eqb (decide (x.n < 0)) false, .eqb (decide ((nats x.t) = ([] : List Nat))) true, .eqb (decide ((nats x.s) = ([] : List Nat))) true]) := by kernel_rfl
theorem rcP_2 (x : Tr) : funO 5 mth cal 1000 ir139 [(.ep 57 0 (rowV x))] [.go, .br true, .br true, .br false, .br false, .br true] = some ((.b false), [.eqb (decide ((List.length (rowsT x.l) : Int) = 0)) true, .eqb (decide (1 < x.n)) false, .eqb (decide (x.n < 0)) false, .eqb (decide ((nats x.t) = ([] : List Nat))) true, .eqb (decide ((nats x.s) = ([] : List Nat))) true]) := by kernel_rfl
theorem rcP_3 (x : Tr) : funO 5 mth cal 1000 ir139 [(.ep 57 0 (rowV x))] [.go, .br true, .br true, .br false, .br false, .br false, .br true, .br true] = some ((.b false), [.eqb (!decide ((Dat.int (List.getD (List.getD (rowsT x.l) (Int.toNat ((List.length (rowsT x.l) : Int) - x.n)) []) 0 .o)) = 21)) true, .eqb (Sx.inB ((List.length (rowsT x.l) : Int) - x.n) (List.length (rowsT x.l))) true, .eqb (decide (x.n = 1)) true, .eqb (Sx.inK .i64 ((List.length (rowsT x.l) : Int) - x.n)) true, .eqb (decide ((List.length (rowsT x.l) : Int) = 0)) false, .eqb (decide (1 < x.n)) false, .eqb (decide (x.n < 0)) false, .eqb (decide ((nats x.t) = ([] : List Nat))) true, .eqb (decide ((nats x.s) = ([] : List Nat))) true]) := by kernel_rfl
theorem rcP_4 (x : Tr) : funO 5 mth cal 1000 ir139 [(.ep 57 0 (rowV x))] [.go, .br true, .br true, .br false, .br false, .br false, .br true, .br false, .go, .br true, .br true, .br true, .br true] = some ((.b false), [.eqb (decide ((List.length (Dat.rows (List.getD (List.getD (rowsT x.l) (Int.toNat ((List.length (rowsT x.l) : Int) - x.n)) []) 4 .o)) : Int) < 2)) true, .eqb (decide ((Dat.str (List.getD (List.getD (rowsT x.l) (Int.toNat ((List.length (rowsT x.l) : Int) - x.n)) []) 3 .o)) = ([] : List Nat))) true, .eqb (decide ((Dat.str (List.getD (List.getD (rowsT x.l) (Int.toNat ((List.length (rowsT x.l) : Int) - x.n)) []) 2 .o)) = ([] : List Nat))) true, .eqb (decide ((Dat.int (List.getD (List.getD (rowsT x.l) (Int.toNat ((List.length (rowsT x.l) : Int) - x.n)) []) 1 .o)) = 0)) true, .eqb (!decide ((Dat.int (List.getD (List.getD (rowsT x.l) (Int.toNat ((List.length (rowsT x.l) : Int) - x.n)) []) 0 .o)) = 21)) false, .eqb (Sx.inB ((List.length (rowsT x.l) : Int) - x.n) (List.length (rowsT x.l))) true, .eqb (decide (x.n = 1)) true, .eqb (Sx.inK .i64 ((List.length (rowsT x.l) : Int) - x.n)) true, .eqb (decide ((List.length (rowsT x.l) : Int) = 0)) false, .eqb (decide (1 < x.n)) false, .eqb (decide (x.n < 0)) false, .eqb (decide ((nats x.t) = ([] : List Nat))) true, .eqb (decide ((nats x.s) = ([] : List Nat))) true]) := by kernel_rfl
theorem rcP_5 (x : Tr) (veach1 : Bool) : funO 5 mth cal 1000 ir139 [(.ep 57 0 (rowV x))] [.go, .br true, .br true, .br false, .br false, .br false, .br true, .br false, .go, .br true, .br true, .br true, .br false, .cl [.as, .as] (.b true), .go, .cl [.as, .fn [.ptr 3]] (.b (veach1))] = some ((.b (veach1)), [.call 73 [(.es 57 (.r (List.take (Int.toNat (((List.length (rowsT x.l) : Int) - x.n) - 0)) (List.drop (Int.toNat 0) (rowsT x.l))))), (.f (.func 142) [] [(.ep 3 0 [.i 1])])] (.b (veach1)), .eqb (freeL []) true, .eqb (freeL []) true, .eqb (TV.free (.es 57 (.r (List.take (Int.toNat (((List.length (rowsT x.l) : Int) - x.n) - 0)) (List.drop (Int.toNat 0) (rowsT x.l)))))) true, .eqb (Sx.inS ((List.length (rowsT x.l) : Int) - x.n) (List.length (rowsT x.l) : Int) (List.length (rowsT x.l))) true, .eqb (Sx.inS 0 ((List.length (rowsT x.l) : Int) - x.n) (List.length (rowsT x.l))) true, .call 73 [(.es 57 (List.getD (List.getD (rowsT x.l) (Int.toNat ((List.length (rowsT x.l) : Int) - x.n)) []) 4 .o)), (.f (.func 66) [] [])] (.b true), .eqb (freeL []) true, .eqb (TV.free (.f (.func 66) [] [])) true, .eqb (TV.free (.es 57 (List.getD (List.getD (rowsT x.l) (Int.toNat ((List.length (rowsT x.l) : Int) - x.n)) []) 4 .o))) true, .eqb (decide ((List.length (Dat.rows (List.getD (List.getD (rowsT x.l) (Int.toNat ((List.length (rowsT x.l) : Int) - x.n)) []) 4 .o)) : Int) < 2)) false, .eqb (decide ((Dat.str (List.getD (List.getD (rowsT x.l) (Int.toNat ((List.length (rowsT x.l) : Int) - x.n)) []) 3 .o)) = ([] : List Nat))) true, .eqb (decide ((Dat.str (List.getD (List.getD (rowsT x.l) (Int.toNat ((List.length (rowsT x.l) : Int) - x.n)) []) 2 .o)) = ([] : List Nat))) true, .eqb (decide ((Dat.int (List.getD (List.getD (rowsT x.l) (Int.toNat ((List.length (rowsT x.l) : Int) - x.n)) []) 1 .o)) = 0)) true, .eqb (!decide ((Dat.int (List.getD (List.getD (rowsT x.l) (Int.toNat ((List.length (rowsT x.l) : Int) - x.n)) []) 0 .o)) = 21)) false, .eqb (Sx.inB ((List.length (rowsT x.l) : Int) - x.n) (List.length (rowsT x.l))) true, .eqb (decide (x.n = 1)) true, .eqb (Sx.inK .i64 ((List.length (rowsT x.l) : Int) - x.n)) true, .eqb (decide ((List.length (rowsT x.l) : Int) = 0)) false, .eqb (decide (1 < x.n)) false, .eqb (decide (x.n < 0)) false, .eqb (decide ((nats x.t) = ([] : List Nat))) true, .eqb (decide ((nats x.s) = ([] : List Nat))) true]) := by kernel_rfl
theorem rcP_6 (x : Tr) : funO 5 mth cal 1000 ir139 [(.ep 57 0 (rowV x))] [.go, .br true, .br true, .br false, .br false, .br false, .br true, .br false, .go, .br true, .br true, .br true, .br false, .cl [.as, .as] (.b false)] = some ((.b false), [.call 73 [(.es 57 (List.getD (List.getD (rowsT x.l) (Int.toNat ((List.length (rowsT x.l) : Int) - x.n)) []) 4 .o)), (.f (.func 66) [] [])] (.b false), .eqb (freeL []) true, .eqb (TV.free (.f (.func 66) [] [])) true, .eqb (TV.free (.es 57 (List.getD (List.getD (rowsT x.l) (Int.toNat ((List.length (rowsT x.l) : Int) - x.n)) []) 4 .o))) true, .eqb (decide ((List.length (Dat.rows (List.getD (List.getD (rowsT x.l) (Int.toNat ((List.length (rowsT x.l) : Int) - x.n)) []) 4 .o)) : Int) < 2)) false, .eqb (decide ((Dat.str (List.getD (List.getD (rowsT x.l) (Int.toNat ((List.length (rowsT x.l) : Int) - x.n)) []) 3 .o)) = ([] : List Nat))) true, .eqb (decide ((Dat.str (List.getD (List.getD (rowsT x.l) (Int.toNat ((List.length (rowsT x.l) : Int) - x.n)) []) 2 .o)) = ([] : List Nat))) true, .eqb (decide ((Dat.int (List.getD (List.getD (rowsT x.l) (Int.toNat ((List.length (rowsT x.l) : Int) - x.n)) []) 1 .o)) = 0)) true, .eqb (!decide ((Dat.int (List.getD (List.getD (rowsT x.l) (Int.toNat ((List.length (rowsT x.l) : Int) - x.n)) []) 0 .o)) = 21)) false, .eqb (Sx.inB ((List.length (rowsT x.l) : Int) - x.n) (List.length (rowsT x.l))) true, .eqb (decide (x.n = 1)) true, .eqb (Sx.inK .i64 ((List.length (rowsT x.l) : Int) - x.n)) true, .eqb (decide ((List.length (rowsT x.l) : Int) = 0)) false, .eqb (decide (1 < x.n)) false, .eqb (decide (x.n < 0)) false, .eqb (decide ((nats x.t) = ([] : List Nat))) true, .eqb (decide ((nats x.s) = ([] : List Nat))) true]) := by kernel_rfl
theorem rcP_7 (x : Tr) : funO 5 mth cal 1000 ir139 [(.ep 57 0 (rowV x))] [.go, .br true, .br true, .br false, .br false, .br false, .br true, .br false, .go, .br true, .br true, .br false] = some ((.b false), [.eqb (decide ((Dat.str (List.getD (List.getD (rowsT x.l) (Int.toNat ((List.length (rowsT x.l) : Int) - x.n)) []) 3 .o)) = ([] : List Nat))) false, .eqb (decide ((Dat.str (List.getD (List.getD (rowsT x.l) (Int.toNat ((List.length (rowsT x.l) : Int) - x.n)) []) 2 .o)) = ([] : List Nat))) true, .eqb (decide ((Dat.int (List.getD (List.getD (rowsT x.l) (Int.toNat ((List.length (rowsT x.l) : Int) - x.n)) []) 1 .o)) = 0)) true, .eqb (!decide ((Dat.int (List.getD (List.getD (rowsT x.l) (Int.toNat ((List.length (rowsT x.l) : Int) - x.n)) []) 0 .o)) = 21)) false, .eqb (Sx.inB ((List.length (rowsT x.l) : Int) - x.n) (List.length (rowsT x.l))) true, .eqb (decide (x.n = 1)) true, .eqb (Sx.inK .i64 ((List.length (rowsT x.l) : Int) - x.n)) true, .eqb (decide ((List.length (rowsT x.l) : Int) = 0)) false, .eqb (decide (1 < x.n)) false, .eqb (decide (x.n < 0)) false, .eqb (decide ((nats x.t) = ([] : List Nat))) true, .eqb (decide ((nats x.s) = ([] : List Nat))) true]) := by kernel_rfl
theorem rcP_8 (x : Tr) : funO 5 mth cal 1000 ir139 [(.ep 57 0 (rowV x))] [.go, .br true, .br true, .br false, .br false, .br false, .br true, .br false, .go, .br true, .br false] = some ((.b false), [.eqb (decide ((Dat.str (List.getD (List.getD (rowsT x.l) (Int.toNat ((List.length (rowsT x.l) : Int) - x.n)) []) 2 .o)) = ([] : List Nat))) false, .eqb (decide ((Dat.int (List.getD (List.getD (rowsT x.l) (Int.toNat ((List.length (rowsT x.l) : Int) - x.n)) []) 1 .o)) = 0)) true, .eqb (!decide ((Dat.int (List.getD (List.getD (rowsT x.l) (Int.toNat ((List.length (rowsT x.l) : Int) - x.n)) []) 0 .o)) = 21)) false, .eqb (Sx.inB ((List.length (rowsT x.l) : Int) - x.n) (List.length (rowsT x.l))) true, .eqb (decide (x.n = 1)) true, .eqb (Sx.inK .i64 ((List.length (rowsT x.l) : Int) - x.n)) true, .eqb (decide ((List.length (rowsT x.l) : Int) = 0)) false, .eqb (decide (1 < x.n)) false, .eqb (decide (x.n < 0)) false, .eqb (decide ((nats x.t) = ([] : List Nat))) true, .eqb (decide ((nats x.s) = ([] : List Nat))) true]) := by kernel_rfl
theorem rcP_9 (x : Tr) : funO 5 mth cal 1000 ir139 [(.ep 57 0 (rowV x))] [.go, .br true, .br true, .br false, .br false, .br false, .br true, .br false, .go, .br false] = some ((.b false), [.eqb (decide ((Dat.int (List.getD (List.getD (rowsT x.l) (Int.toNat ((List.length (rowsT x.l) : Int) - x.n)) []) 1 .o)) = 0)) false, .eqb (!decide ((Dat.int (List.getD (List.getD (rowsT x.l) (Int.toNat ((List.length (rowsT x.l) : Int) - x.n)) []) 0 .o)) = 21)) false, .eqb (Sx.inB ((List.length (rowsT x.l) : Int) - x.n) (List.length (rowsT x.l))) true, .eqb (decide (x.n = 1)) true, .eqb (Sx.inK .i64 ((List.length (rowsT x.l) : Int) - x.n)) true, .eqb (decide ((List.length (rowsT x.l) : Int) = 0)) false, .eqb (decide (1 < x.n)) false, .eqb (decide (x.n < 0)) false, .eqb (decide ((nats x.t) = ([] : List Nat))) true, .eqb (decide ((nats x.s) = ([] : List Nat))) true]) := by kernel_rfl
theorem rcP_10 (x : Tr) (veach1 : Bool) : funO 5 mth cal 1000 ir139 [(.ep 57 0 (rowV x))] [.go, .br true, .br true, .br false, .br false, .br false, .br false, .go, .cl [.as, .fn [.ptr 3]] (.b (veach1))] = some ((.b (veach1)), [.call 73 [(.es 57 (.r (List.take (Int.toNat (((List.length (rowsT x.l) : Int) - x.n) - 0)) (List.drop (Int.toNat 0) (rowsT x.l))))), (.f (.func 142) [] [(.ep 3 0 [.i 1])])] (.b (veach1)), .eqb (freeL []) true, .eqb (freeL []) true, .eqb (TV.free (.es 57 (.r (List.take (Int.toNat (((List.length (rowsT x.l) : Int) - x.n) - 0)) (List.drop (Int.toNat 0) (rowsT x.l)))))) true, .eqb (Sx.inS ((List.length (rowsT x.l) : Int) - x.n) (List.length (rowsT x.l) : Int) (List.length (rowsT x.l))) true, .eqb (Sx.inS 0 ((List.length (rowsT x.l) : Int) - x.n) (List.length (rowsT x.l))) true, .eqb (decide (x.n = 1)) false, .eqb (Sx.inK .i64 ((List.length (rowsT x.l) : Int) - x.n)) true, .eqb (decide ((List.length (rowsT x.l) : Int) = 0)) false, .eqb (decide (1 < x.n)) false, .eqb (decide (x.n < 0)) false, .eqb (decide ((nats x.t) = ([] : List Nat))) true, .eqb (decide ((nats x.s) = ([] : List Nat))) true]) := by kernel_rfl
theorem rcP_11 (x : Tr) : funO 5 mth cal 1000 ir139 [(.ep 57 0 (rowV x))] [.go, .br true, .br false] = some ((.b false), [.eqb (decide ((nats x.t) = ([] : List Nat))) false, .eqb (decide ((nats x.s) = ([] : List Nat))) true]) := by kernel_rfl
theorem rcP_12 (x : Tr) : funO 5 mth cal 1000 ir139 [(.ep 57 0 (rowV x))] [.go, .br false] = some ((.b false), [.eqb (decide ((nats x.s) = ([] : List Nat))) false]) := by kernel_rfl
theorem rcP (x : Tr) (veach0 : Bool) (veach1 : Bool) (s0 : (decide ((nats x.s) = ([] : List Nat))) = true → (decide ((nats x.t) = ([] : List Nat))) = true → (decide (x.n < 0)) = false → (decide (1 < x.n)) = false → (decide ((List.length (rowsT x.l) : Int) = 0)) = false → (Sx.inK .i64 ((List.length (rowsT x.l) : Int) - x.n)) = true) (s1 : (decide ((nats x.s) = ([] : List Nat))) = true → (decide ((nats x.t) = ([] : List Nat))) = true → (decide (x.n < 0)) = false → (decide (1 < x.n)) = false → (decide ((List.length (rowsT x.l) : Int) = 0)) = false → (decide (x.n = 1)) = true → (Sx.inB ((List.length (rowsT x.l) : Int) - x.n) (List.length (rowsT x.l))) = true) (c2 : (decide ((nats x.s) = ([] : List Nat))) = true → (decide ((nats x.t) = ([] : List Nat))) = true → (decide (x.n < 0)) = false → (decide (1 < x.n)) = false → (decide ((List.length (rowsT x.l) : Int) = 0)) = false → (decide (x.n = 1)) = true → (!decide ((Dat.int (List.getD (List.getD (rowsT x.l) (Int.toNat ((List.length (rowsT x.l) : Int) - x.n)) []) 0 .o)) = 21)) = false → (decide ((Dat.int (List.getD (List.getD (rowsT x.l) (Int.toNat ((List.length (rowsT x.l) : Int) - x.n)) []) 1 .o)) = 0)) = true → (decide ((Dat.str (List.getD (List.getD (rowsT x.l) (Int.toNat ((List.length (rowsT x.l) : Int) - x.n)) []) 2 .o)) = ([] : List Nat))) = true → (decide ((Dat.str (List.getD (List.getD (rowsT x.l) (Int.toNat ((List.length (rowsT x.l) : Int) - x.n)) []) 3 .o)) = ([] : List Nat))) = true → (decide ((List.length (Dat.rows (List.getD (List.getD (rowsT x.l) (Int.toNat ((List.length (rowsT x.l) : Int) - x.n)) []) 4 .o)) : Int) < 2)) = false → Pu 73 [(.es 57 (List.getD (List.getD (rowsT x.l) (Int.toNat ((List.length (rowsT x.l) : Int) - x.n)) []) 4 .o)), (.f (.func 66) [] [])] (.b (veach0))) (s3 : (decide ((nats x.s) = ([] : List Nat))) = true → (decide ((nats x.t) = ([] : List Nat))) = true → (decide (x.n < 0)) = false → (decide (1 < x.n)) = false → (decide ((List.length (rowsT x.l) : Int) = 0)) = false → (decide (x.n = 1)) = true → (!decide ((Dat.int (List.getD (List.getD (rowsT x.l) (Int.toNat ((List.length (rowsT x.l) : Int) - x.n)) []) 0 .o)) = 21)) = false → (decide ((Dat.int (List.getD (List.getD (rowsT x.l) (Int.toNat ((List.length (rowsT x.l) : Int) - x.n)) []) 1 .o)) = 0)) = true → (decide ((Dat.str (List.getD (List.getD (rowsT x.l) (Int.toNat ((List.length (rowsT x.l) : Int) - x.n)) []) 2 .o)) = ([] : List Nat))) = true → (decide ((Dat.str (List.getD (List.getD (rowsT x.l) (Int.toNat ((List.length (rowsT x.l) : Int) - x.n)) []) 3 .o)) = ([] : List Nat))) = true → (decide ((List.length (Dat.rows (List.getD (List.getD (rowsT x.l) (Int.toNat ((List.length (rowsT x.l) : Int) - x.n)) []) 4 .o)) : Int) < 2)) = false → veach0 = true → (Sx.inS 0 ((List.length (rowsT x.l) : Int) - x.n) (List.length (rowsT x.l))) = true) (s4 : (decide ((nats x.s) = ([] : List Nat))) = true → (decide ((nats x.t) = ([] : List Nat))) = true → (decide (x.n < 0)) = false → (decide (1 < x.n)) = false → (decide ((List.length (rowsT x.l) : Int) = 0)) = false → (decide (x.n = 1)) = true → (!decide ((Dat.int (List.getD (List.getD (rowsT x.l) (Int.toNat ((List.length (rowsT x.l) : Int) - x.n)) []) 0 .o)) = 21)) = false → (decide ((Dat.int (List.getD (List.getD (rowsT x.l) (Int.toNat ((List.length (rowsT x.l) : Int) - x.n)) []) 1 .o)) = 0)) = true → (decide ((Dat.str (List.getD (List.getD (rowsT x.l) (Int.toNat ((List.length (rowsT x.l) : Int) - x.n)) []) 2 .o)) = ([] : List Nat))) = true → (decide ((Dat.str (List.getD (List.getD (rowsT x.l) (Int.toNat ((List.length (rowsT x.l) : Int) - x.n)) []) 3 .o)) = ([] : List Nat))) = true → (decide ((List.length (Dat.rows (List.getD (List.getD (rowsT x.l) (Int.toNat ((List.length (rowsT x.l) : Int) - x.n)) []) 4 .o)) : Int) < 2)) = false → veach0 = true → (Sx.inS ((List.length (rowsT x.l) : Int) - x.n) (List.length (rowsT x.l) : Int) (List.length (rowsT x.l))) = true) (c5 : (decide ((nats x.s) = ([] : List Nat))) = true → (decide ((nats x.t) = ([] : List Nat))) = true → (decide (x.n < 0)) = false → (decide (1 < x.n)) = false → (decide ((List.length (rowsT x.l) : Int) = 0)) = false → (decide (x.n = 1)) = true → (!decide ((Dat.int (List.getD (List.getD (rowsT x.l) (Int.toNat ((List.length (rowsT x.l) : Int) - x.n)) []) 0 .o)) = 21)) = false → (decide ((Dat.int (List.getD (List.getD (rowsT x.l) (Int.toNat ((List.length (rowsT x.l) : Int) - x.n)) []) 1 .o)) = 0)) = true → (decide ((Dat.str (List.getD (List.getD (rowsT x.l) (Int.toNat ((List.length (rowsT x.l) : Int) - x.n)) []) 2 .o)) = ([] : List Nat))) = true → (decide ((Dat.str (List.getD (List.getD (rowsT x.l) (Int.toNat ((List.length (rowsT x.l) : Int) - x.n)) []) 3 .o)) = ([] : List Nat))) = true → (decide ((List.length (Dat.rows (List.getD (List.getD (rowsT x.l) (Int.toNat ((List.length (rowsT x.l) : Int) - x.n)) []) 4 .o)) : Int) < 2)) = false → veach0 = true → Pu 73 [(.es 57 (.r (List.take (Int.toNat (((List.length (rowsT x.l) : Int) - x.n) - 0)) (List.drop (Int.toNat 0) (rowsT x.l))))), (.f (.func 142) [] [(.ep 3 0 [.i 1])])] (.b (veach1))) (s6 : (decide ((nats x.s) = ([] : List Nat))) = true → (decide ((nats x.t) = ([] : List Nat))) = true → (decide (x.n < 0)) = false → (decide (1 < x.n)) = false → (decide ((List.length (rowsT x.l) : Int) = 0)) = false → (decide (x.n = 1)) = false → (Sx.inS 0 ((List.length (rowsT x.l) : Int) - x.n) (List.length (rowsT x.l))) = true) (s7 : (decide ((nats x.s) = ([] : List Nat))) = true → (decide ((nats x.t) = ([] : List Nat))) = true → (decide (x.n < 0)) = false → (decide (1 < x.n)) = false → (decide ((List.length (rowsT x.l) : Int) = 0)) = false → (decide (x.n = 1)) = false → (Sx.inS ((List.length (rowsT x.l) : Int) - x.n) (List.length (rowsT x.l) : Int) (List.length (rowsT x.l))) = true) (c8 : (decide ((nats x.s) = ([] : List Nat))) = true → (decide ((nats x.t) = ([] : List Nat))) = true → (decide (x.n < 0)) = false → (decide (1 < x.n)) = false → (decide ((List.length (rowsT x.l) : Int) = 0)) = false → (decide (x.n = 1)) = false → Pu 73 [(.es 57 (.r (List.take (Int.toNat (((List.length (rowsT x.l) : Int) - x.n) - 0)) (List.drop (Int.toNat 0) (rowsT x.l))))), (.f (.func 142) [] [(.ep 3 0 [.i 1])])] (.b (veach1))) : Pu 139 [(.ep 57 0 (rowV x))] (.b (bif decide ((nats x.s) = ([] : List Nat)) then (bif decide ((nats x.t) = ([] : List Nat)) then (bif decide (x.n < 0) then false else (bif decide (1 < x.n) then false else (bif decide ((List.length (rowsT x.l) : Int) = 0) then false else (bif decide (x.n = 1) then (bif !decide ((Dat.int (List.getD (List.getD (rowsT x.l) (Int.toNat ((List.length (rowsT x.l) : Int) - x.n)) []) 0 .o)) = 21) then false else (bif decide ((Dat.int (List.getD (List.getD (rowsT x.l) (Int.toNat ((List.length (rowsT x.l) : Int) - x.n)) []) 1 .o)) = 0) then (bif decide ((Dat.str (List.getD (List.getD (rowsT x.l) (Int.toNat ((List.length (rowsT x.l) : Int) - x.n)) []) 2 .o)) = ([] : List Nat)) then (bif decide ((Dat.str (List.getD (List.getD (rowsT x.l) (Int.toNat ((List.length (rowsT x.l) : Int) - x.n)) []) 3 .o)) = ([] : List Nat)) then (bif decide ((List.length (Dat.rows (List.getD (List.getD (rowsT x.l) (Int.toNat ((List.length (rowsT x.l) : Int) - x.n)) []) 4 .o)) : Int) < 2) then false else (bif veach0 then veach1 else false)) else false) else false) else false)) else veach1)))) else false) else false)) := by
  cases h0 : (decide ((nats x.s) = ([] : List Nat)))
  case false =>
    exact pu_of Tryz.func139 irc139 (rcP_12 x) rfl ⟨h0, trivial⟩
  case true =>
    cases h1 : (decide ((nats x.t) = ([] : List Nat)))
    case false =>
      exact pu_of Tryz.func139 irc139 (rcP_11 x) rfl ⟨h1, h0, trivial⟩
    case true =>
      cases h2 : (decide (x.n < 0))
      case false =>
        cases h3 : (decide (1 < x.n))
        case false =>
          cases h4 : (decide ((List.length (rowsT x.l) : Int) = 0))
          case false =>
            cases h5 : (decide (x.n = 1))
            case false =>
              exact pu_of Tryz.func139 irc139 (rcP_10 x veach1) rfl ⟨(c8 h0 h1 h2 h3 h4 h5), rfl, rfl, rfl, (s7 h0 h1 h2 h3 h4 h5), (s6 h0 h1 h2 h3 h4 h5), h5, (s0 h0 h1 h2 h3 h4), h4, h3, h2, h1, h0, trivial⟩
            case true =>
              cases h6 : (!decide ((Dat.int (List.getD (List.getD (rowsT x.l) (Int.toNat ((List.length (rowsT x.l) : Int) - x.n)) []) 0 .o)) = 21))
              case false =>
                cases h7 : (decide ((Dat.int (List.getD (List.getD (rowsT x.l) (Int.toNat ((List.length (rowsT x.l) : Int) - x.n)) []) 1 .o)) = 0))
                case false =>
                  exact pu_of Tryz.func139 irc139 (rcP_9 x) rfl ⟨h7, h6, (s1 h0 h1 h2 h3 h4 h5), h5, (s0 h0 h1 h2 h3 h4), h4, h3, h2, h1, h0, trivial⟩
                case true =>
                  cases h8 : (decide ((Dat.str (List.getD (List.getD (rowsT x.l) (Int.toNat ((List.length (rowsT x.l) : Int) - x.n)) []) 2 .o)) = ([] : List Nat)))
                  case false =>
                    exact pu_of Tryz.func139 irc139 (rcP_8 x) rfl ⟨h8, h7, h6, (s1 h0 h1 h2 h3 h4 h5), h5, (s0 h0 h1 h2 h3 h4), h4, h3, h2, h1, h0, trivial⟩
                  case true =>
                    cases h9 : (decide ((Dat.str (List.getD (List.getD (rowsT x.l) (Int.toNat ((List.length (rowsT x.l) : Int) - x.n)) []) 3 .o)) = ([] : List Nat)))
                    case false =>
                      exact pu_of Tryz.func139 irc139 (rcP_7 x) rfl ⟨h9, h8, h7, h6, (s1 h0 h1 h2 h3 h4 h5), h5, (s0 h0 h1 h2 h3 h4), h4, h3, h2, h1, h0, trivial⟩
                    case true =>
                      cases h10 : (decide ((List.length (Dat.rows (List.getD (List.getD (rowsT x.l) (Int.toNat ((List.length (rowsT x.l) : Int) - x.n)) []) 4 .o)) : Int) < 2))
                      case false =>
                        cases veach0
                        case false =>
                          exact pu_of Tryz.func139 irc139 (rcP_6 x) rfl ⟨(c2 h0 h1 h2 h3 h4 h5 h6 h7 h8 h9 h10), rfl, rfl, rfl, h10, h9, h8, h7, h6, (s1 h0 h1 h2 h3 h4 h5), h5, (s0 h0 h1 h2 h3 h4), h4, h3, h2, h1, h0, trivial⟩
                        case true =>
                          exact pu_of Tryz.func139 irc139 (rcP_5 x veach1) rfl ⟨(c5 h0 h1 h2 h3 h4 h5 h6 h7 h8 h9 h10 rfl), rfl, rfl, rfl, (s4 h0 h1 h2 h3 h4 h5 h6 h7 h8 h9 h10 rfl), (s3 h0 h1 h2 h3 h4 h5 h6 h7 h8 h9 h10 rfl), (c2 h0 h1 h2 h3 h4 h5 h6 h7 h8 h9 h10), rfl, rfl, rfl, h10, h9, h8, h7, h6, (s1 h0 h1 h2 h3 h4 h5), h5, (s0 h0 h1 h2 h3 h4), h4, h3, h2, h1, h0, trivial⟩
                      case true =>
                        exact pu_of Tryz.func139 irc139 (rcP_4 x) rfl ⟨h10, h9, h8, h7, h6, (s1 h0 h1 h2 h3 h4 h5), h5, (s0 h0 h1 h2 h3 h4), h4, h3, h2, h1, h0, trivial⟩
              case true =>
                exact pu_of Tryz.func139 irc139 (rcP_3 x) rfl ⟨h6, (s1 h0 h1 h2 h3 h4 h5), h5, (s0 h0 h1 h2 h3 h4), h4, h3, h2, h1, h0, trivial⟩
          case true =>
            exact pu_of Tryz.func139 irc139 (rcP_2 x) rfl ⟨h4, h3, h2, h1, h0, trivial⟩
        case true =>
          exact pu_of Tryz.func139 irc139 (rcP_1 x) rfl ⟨h3, h2, h1, h0, trivial⟩
      case true =>
        exact pu_of Tryz.func139 irc139 (rcP_0 x) rfl ⟨h2, h1, h0, trivial⟩

abbrev sub {α : Type} (l : List α) (d k : Int) : List α := List.take (Int.toNat k) (List.drop (Int.toNat d) l)
/-- What an expression, a clause, all parts tell. -/
structure In where
  ex : Bool
  cl : Int → Bool
  all : Bool
abbrev len (x : Tr) : Int := (x.l.length : Int)
abbrev rowAt (x : Tr) (j : Int) : List Dat := List.getD (rowsT x.l) (Int.toNat j) []
def csn (x : Tr) : Bool := bif decide (Dat.int (List.getD (rowAt x 0) 0 .o) = 5) then true else decide (Dat.int (List.getD (rowAt x 0) 0 .o) = 7) && isIn [[101, 114, 114, 111, 114], [101, 120, 105, 116], [116, 104, 114, 111, 119]] (Dat.str (List.getD (rowAt x 0) 2 .o)) true
def clV (x : Tr) (E : List Bool) (m : Int) : Bool :=
  decide (x.k = 3) && (decide (nats x.s = []) && (decide (nats x.t = []) && (decide (x.n = m) && (decide (0 ≤ m) && (decide (m ≤ len x - 2) && ((sub (x.l.map pat) 0 (m - 0)).all id && ((x.l.map gd).getD (Int.toNat m) false && (sub E (m + 1) (len x - (m + 1))).all id)))))))
def rcV (x : Tr) (A : List Bool) (C : List Bool) : Bool :=
  decide (nats x.s = []) && (decide (nats x.t = []) && (bif decide (x.n < 0) then false else bif decide (1 < x.n) then false else bif decide (len x = 0) then false else
    bif decide (x.n = 1) then (bif !decide (Dat.int (List.getD (rowAt x (len x - x.n)) 0 .o) = 21) then false else
      decide (Dat.int (List.getD (rowAt x (len x - x.n)) 1 .o) = 0) && (decide (Dat.str (List.getD (rowAt x (len x - x.n)) 2 .o) = []) && (decide (Dat.str (List.getD (rowAt x (len x - x.n)) 3 .o) = []) && (bif decide ((List.length (Dat.rows (List.getD (rowAt x (len x - x.n)) 4 .o)) : Int) < 2) then false else A.getD (Int.toNat (len x - x.n)) false && (sub C 0 (len x - x.n - 0)).all id))))
    else (sub C 0 (len x - x.n - 0)).all id))
def exV (k : Int) (x : Tr) (E A : List Bool) (C : Int → List Bool) : Bool := match k with
  | 11 => decide (x.n = 0) && (decide (nats x.t = []) && (bif ariN x.s then decide (len x = 2) && E.all id else cmpN x.s && (decide (len x = 2) && E.all id)))
  | 13 => decide (x.n = 0) && (decide (nats x.s = []) && (decide (nats x.t = []) && (decide (len x = 2) && ((x.l.map pat).getD 0 false && E.getD 1 false))))
  | 14 => decide (x.n = 0) && (decide (nats x.t = []) && (atomN x.s && (decide (len x ≤ 8) && E.all id)))
  | 15 => decide (x.n = 0) && (atomN x.s && (atomN x.t && (decide (len x ≤ 8) && E.all id)))
  | 16 => decide (x.n = 0) && (decide (nats x.s = []) && (decide (nats x.t = []) && (decide (0 < len x) && (decide (Dat.int (List.getD (rowAt x 0) 0 .o) = 5) && (E.getD 0 false && (decide ((List.length (sub (rowsT x.l) 1 (len x - 1)) : Int) ≤ 8) && (sub E 1 (len x - 1)).all id))))))
  | 17 => decide (len x = 0) && (atomN x.s && (atomN x.t && (decide (0 ≤ x.n) && decide (x.n ≤ 8))))
  | 18 => decide (x.n = 0) && (decide (nats x.s = []) && (decide (nats x.t = []) && (decide (1 < len x) && (E.getD 0 false && (sub (C 1) 1 (len x - 1)).all id))))
  | 19 => decide (x.n = 0) && (decide (nats x.s = []) && (decide (nats x.t = []) && (decide (1 < len x) && (E.getD 0 false && ((sub (C 2) 1 (len x - 1)).all id && (sub (x.l.map csn) 1 (len x - 1)).all id)))))
  | 20 => rcV x A (C 1)
  | k => patK k x (E.all id)
theorem exV_not {k : Int} {x : Tr} {E A : List Bool} {C : Int → List Bool} (h : ¬ (0 ≤ k ∧ k < 22)) : exV k x E A C = false := by
  unfold exV
  split <;> first | (exfalso; omega) | exact patK_not h
def inF (x : Tr) (L : List In) : In := ⟨exV x.k x (L.map In.ex) (L.map In.all) (fun m => L.map fun i => i.cl m), clV x (L.map In.ex), (L.map In.ex).all id⟩
def ex (x : Tr) : Bool := (foldT inF x).ex
def cl (m : Int) (x : Tr) : Bool := (foldT inF x).cl m
def exs (x : Tr) : Bool := (foldT inF x).all
theorem fold_eq (x : Tr) : foldT inF x = ⟨exV x.k x (x.l.map ex) (x.l.map exs) (fun m => x.l.map (cl m)), clV x (x.l.map ex), (x.l.map ex).all id⟩ := by
  rw [foldT_eq]
  unfold inF
  simp only [List.map_map]
  rfl
theorem ex_eq (x : Tr) : ex x = exV x.k x (x.l.map ex) (x.l.map exs) (fun m => x.l.map (cl m)) := by
  have := congrArg In.ex (fold_eq x); exact this
theorem cl_eq (m : Int) (x : Tr) : cl m x = clV x (x.l.map ex) m := by
  have := congrArg (fun i => In.cl i m) (fold_eq x); exact this
theorem exs_eq (x : Tr) : exs x = (x.l.map ex).all id := by
  have := congrArg In.all (fold_eq x); exact this

theorem each_sub {x : Tr} (hx : TrOk x) {G : Nat} {CA : List TV} {f : Tr → Bool} {d k : Int} (hC : freeL CA = true) (h : ∀ y, y ∈ sub x.l d k → Pu G ([.ep 57 0 (rowV y)] ++ CA) (.b (f y))) : Pu 73 [.es 57 (.r (List.take (Int.toNat k) (List.drop (Int.toNat d) (rowsT x.l)))), .f (.func G) [] CA] (.b ((sub (x.l.map f) d k).all id)) := by
  unfold sub
  rw [rowsT_drop, rowsT_take, ← List.map_drop, ← List.map_take, all_id]
  exact each_tr rfl hC (by rw [List.length_take, List.length_drop]; have := hx.len; omega) h
theorem mem_sub {α : Type} {l : List α} {d k : Int} {y : α} (h : y ∈ sub l d k) : y ∈ l := List.mem_of_mem_drop (List.mem_of_mem_take h)
theorem at_pu {x : Tr} {G : Nat} {f : Tr → Bool} (h : ∀ y, y ∈ x.l → Pu G [.ep 57 0 (rowV y)] (.b (f y))) {j : Int} (hj : 0 ≤ j ∧ j < len x) : Pu G [.ep 57 0 (List.getD (rowsT x.l) (Int.toNat j) [])] (.b ((x.l.map f).getD (Int.toNat j) false)) := by
  have hl : Int.toNat j < x.l.length := by unfold len at hj; omega
  rw [rowsT_at hl, List.getD_eq_getElem?_getD, List.getElem?_map, List.getElem?_eq_getElem hl]
  exact h _ (List.getElem_mem hl)
/-- What the parts' contracts give. -/
structure Kid (x : Tr) : Prop where
  ok : TrOk x
  e : ∀ y, y ∈ x.l → Pu 66 [.ep 57 0 (rowV y)] (.b (ex y))
  c : ∀ y, y ∈ x.l → ∀ m, Pu 142 [.ep 57 0 (rowV y), .ep 3 0 [.i m]] (.b (cl m y))
  a : ∀ y, y ∈ x.l → Pu 73 [.es 57 (.r (rowsT y.l)), .f (.func 66) [] []] (.b (exs y))
theorem Kid.all {x : Tr} (h : Kid x) : Pu 73 [.es 57 (.r (rowsT x.l)), .f (.func 66) [] []] (.b ((x.l.map ex).all id)) := by
  rw [all_id]; exact each_tr rfl rfl h.ok.len h.e
theorem Kid.sub {x : Tr} (h : Kid x) (d k : Int) : Pu 73 [.es 57 (.r (List.take (Int.toNat k) (List.drop (Int.toNat d) (rowsT x.l)))), .f (.func 66) [] []] (.b ((sub (x.l.map ex) d k).all id)) := each_sub h.ok rfl fun y hy => h.e y (mem_sub hy)
theorem Kid.cls {x : Tr} (h : Kid x) (m d k : Int) : Pu 73 [.es 57 (.r (List.take (Int.toNat k) (List.drop (Int.toNat d) (rowsT x.l)))), .f (.func 142) [] [.ep 3 0 [.i m]]] (.b ((B4.sub (x.l.map (cl m)) d k).all id)) := each_sub h.ok rfl fun y hy => h.c y (mem_sub hy) m
theorem Kid.pat {x : Tr} (h : Kid x) {j : Int} (hj : 0 ≤ j ∧ j < len x) : Pu 65 [.ep 57 0 (List.getD (rowsT x.l) (Int.toNat j) [])] (.b ((x.l.map pat).getD (Int.toNat j) false)) := at_pu (fun y hy => pattern_pu y (h.ok.kid hy)) hj
theorem Kid.at {x : Tr} (h : Kid x) {j : Int} (hj : 0 ≤ j ∧ j < len x) : Pu 66 [.ep 57 0 (List.getD (rowsT x.l) (Int.toNat j) [])] (.b ((x.l.map ex).getD (Int.toNat j) false)) := at_pu h.e hj
theorem all_sub {f : Tr → Bool} {l : List Tr} {d k : Int} (h : (sub (l.map f) d k).all id = true) (y : Tr) (hy : y ∈ sub l d k) : f y = true := by
  unfold sub at h
  rw [← List.map_drop, ← List.map_take, all_id, List.all_eq_true] at h
  exact h y hy
theorem class_pu {x : Tr} (h : 0 < x.l.length) : Pu 138 [.ep 57 0 (rowV x)] (.b (csn x)) := by
  have q := csP x (by (intros; simp only [inB_iff, inS_iff, inK64_iff, decide_eq_true_eq, decide_eq_false_iff_not, rowsT_len, rowsT_drop, rowsT_take, List.length_take, List.length_drop, BL_eq] at *; omega))
  simp only [Bool.cond_false_right] at q
  exact q
theorem cl_len {m : Int} {y : Tr} (hm : 0 ≤ m) (h : cl m y = true) : 0 < y.l.length := by
  rw [cl_eq, clV] at h
  simp only [Bool.and_eq_true, decide_eq_true_eq, len] at h
  omega
theorem clause_pu {x : Tr} (h : Kid x) (m : Int) : Pu 142 [.ep 57 0 (rowV x), .ep 3 0 [.i m]] (.b (cl m x)) := by
  have hl := h.ok.len
  have q := clP x m ((sub (x.l.map pat) 0 (m - 0)).all id) ((x.l.map gd).getD (Int.toNat m) false) ((sub (x.l.map ex) (m + 1) (len x - (m + 1))).all id)
    (by (intros; simp only [inB_iff, inS_iff, inK64_iff, decide_eq_true_eq, decide_eq_false_iff_not, rowsT_len, rowsT_drop, rowsT_take, List.length_take, List.length_drop, BL_eq] at *; omega)) (by (intros; simp only [inB_iff, inS_iff, inK64_iff, decide_eq_true_eq, decide_eq_false_iff_not, rowsT_len, rowsT_drop, rowsT_take, List.length_take, List.length_drop, BL_eq] at *; omega)) (by (intros; simp only [inB_iff, inS_iff, inK64_iff, decide_eq_true_eq, decide_eq_false_iff_not, rowsT_len, rowsT_drop, rowsT_take, List.length_take, List.length_drop, BL_eq] at *; omega)) (by intros; exact each_sub h.ok rfl fun y hy => pattern_pu y (h.ok.kid (mem_sub hy))) (by (intros; simp only [inB_iff, inS_iff, inK64_iff, decide_eq_true_eq, decide_eq_false_iff_not, rowsT_len, rowsT_drop, rowsT_take, List.length_take, List.length_drop, BL_eq] at *; omega)) (by intro _ _ _ _ h5 h6 _; exact at_pu (fun y hy => guard_pu y (h.ok.kid hy)) (by simp only [decide_eq_true_eq, rowsT_len] at h5 h6; unfold len; omega)) (by (intros; simp only [inB_iff, inS_iff, inK64_iff, decide_eq_true_eq, decide_eq_false_iff_not, rowsT_len, rowsT_drop, rowsT_take, List.length_take, List.length_drop, BL_eq] at *; omega)) (by (intros; simp only [inB_iff, inS_iff, inK64_iff, decide_eq_true_eq, decide_eq_false_iff_not, rowsT_len, rowsT_drop, rowsT_take, List.length_take, List.length_drop, BL_eq] at *; omega)) (by (intros; simp only [inB_iff, inS_iff, inK64_iff, decide_eq_true_eq, decide_eq_false_iff_not, rowsT_len, rowsT_drop, rowsT_take, List.length_take, List.length_drop, BL_eq] at *; omega)) (by intros; rw [rowsT_len]; exact h.sub _ _)
  simp only [Bool.cond_false_right, rowsT_len] at q
  rw [cl_eq]
  exact q

theorem Kid.af {x : Tr} (h : Kid x) {j : Int} (hj : 0 ≤ j ∧ j < len x) : Pu 73 [.es 57 (List.getD (List.getD (rowsT x.l) (Int.toNat j) []) 4 .o), .f (.func 66) [] []] (.b ((x.l.map exs).getD (Int.toNat j) false)) := by
  have hl : Int.toNat j < x.l.length := by unfold len at hj; omega
  rw [rowsT_at hl, List.getD_eq_getElem?_getD (l := x.l.map exs), List.getElem?_map, List.getElem?_eq_getElem hl]
  exact h.a _ (List.getElem_mem hl)
theorem recv_pu {x : Tr} (h : Kid x) : Pu 139 [.ep 57 0 (rowV x)] (.b (rcV x (x.l.map exs) (x.l.map (cl 1)))) := by
  have hl := h.ok.len
  have hk := h.ok.wf.n
  have q := rcP x ((x.l.map exs).getD (Int.toNat (len x - x.n)) false) ((sub (x.l.map (cl 1)) 0 (len x - x.n - 0)).all id)
    (by (intros; simp only [inB_iff, inS_iff, inK64_iff, decide_eq_true_eq, decide_eq_false_iff_not, rowsT_len, rowsT_drop, rowsT_take, List.length_take, List.length_drop, BL_eq] at *; omega)) (by (intros; simp only [inB_iff, inS_iff, inK64_iff, decide_eq_true_eq, decide_eq_false_iff_not, rowsT_len, rowsT_drop, rowsT_take, List.length_take, List.length_drop, BL_eq] at *; omega)) (by intro _ _ h1 h2 h3 h4; intros; rw [rowsT_len]; exact h.af (by simp only [decide_eq_false_iff_not, decide_eq_true_eq, rowsT_len] at h1 h2 h3 h4; unfold len; omega)) (by (intros; simp only [inB_iff, inS_iff, inK64_iff, decide_eq_true_eq, decide_eq_false_iff_not, rowsT_len, rowsT_drop, rowsT_take, List.length_take, List.length_drop, BL_eq] at *; omega)) (by (intros; simp only [inB_iff, inS_iff, inK64_iff, decide_eq_true_eq, decide_eq_false_iff_not, rowsT_len, rowsT_drop, rowsT_take, List.length_take, List.length_drop, BL_eq] at *; omega)) (by intros; rw [rowsT_len]; exact h.cls 1 _ _) (by (intros; simp only [inB_iff, inS_iff, inK64_iff, decide_eq_true_eq, decide_eq_false_iff_not, rowsT_len, rowsT_drop, rowsT_take, List.length_take, List.length_drop, BL_eq] at *; omega)) (by (intros; simp only [inB_iff, inS_iff, inK64_iff, decide_eq_true_eq, decide_eq_false_iff_not, rowsT_len, rowsT_drop, rowsT_take, List.length_take, List.length_drop, BL_eq] at *; omega)) (by intros; rw [rowsT_len]; exact h.cls 1 _ _)
  simp only [Bool.cond_false_right, rowsT_len] at q
  exact q
theorem expr_step {x : Tr} (h : Kid x) : Pu 66 [.ep 57 0 (rowV x)] (.b (ex x)) := by
    have hx := h.ok
    have hln := hx.len
    rw [ex_eq]
    by_cases hk : 0 ≤ x.k ∧ x.k < 22
    · have hd : x.k = 0 ∨ x.k = 1 ∨ x.k = 2 ∨ x.k = 3 ∨ x.k = 4 ∨ x.k = 5 ∨ x.k = 6 ∨ x.k = 7 ∨ x.k = 8 ∨ x.k = 9 ∨ x.k = 10 ∨ x.k = 11 ∨ x.k = 12 ∨ x.k = 13 ∨ x.k = 14 ∨ x.k = 15 ∨ x.k = 16 ∨ x.k = 17 ∨ x.k = 18 ∨ x.k = 19 ∨ x.k = 20 ∨ x.k = 21 := by omega
      rcases hd with hh | hh | hh | hh | hh | hh | hh | hh | hh | hh | hh | hh | hh | hh | hh | hh | hh | hh | hh | hh | hh | hh
      · have q := ex0 x
        try simp only [Bool.cond_false_right, rowsT_len] at q
        rw [rowV_k hh, hh]; exact q
      · have q := ex1 x
        try simp only [Bool.cond_false_right, rowsT_len] at q
        rw [rowV_k hh, hh]; exact q
      · have q := ex2 x
        try simp only [Bool.cond_false_right, rowsT_len] at q
        rw [rowV_k hh, hh]; exact q
      · have q := ex3 x
        try simp only [Bool.cond_false_right, rowsT_len] at q
        rw [rowV_k hh, hh]; exact q
      · have q := ex4 x
        try simp only [Bool.cond_false_right, rowsT_len] at q
        rw [rowV_k hh, hh]; exact q
      · have q := ex5 x _ (by intros; exact name_pu hx.wf.s)
        try simp only [Bool.cond_false_right, rowsT_len] at q
        rw [rowV_k hh, hh]; exact q
      · have q := ex6 x
        try simp only [Bool.cond_false_right, rowsT_len] at q
        rw [rowV_k hh, hh]; exact q
      · have q := ex7 x _ (by intros; exact atom_pu hx.wf.s)
        try simp only [Bool.cond_false_right, rowsT_len] at q
        rw [rowV_k hh, hh]; exact q
      · have q := ex8 x
        try simp only [Bool.cond_false_right, rowsT_len] at q
        rw [rowV_k hh, hh]; exact q
      · have q := ex9 x _ (by intros; exact h.all)
        try simp only [Bool.cond_false_right, rowsT_len] at q
        rw [rowV_k hh, hh]; exact q
      · have q := ex10 x _ (by intros; exact h.all)
        try simp only [Bool.cond_false_right, rowsT_len] at q
        rw [rowV_k hh, hh]; exact q
      · have q := ex11 x _ _ _ (by intros; exact ari_pu x.s) (by intros; exact h.all) (by intros; exact cmp_pu x.s) (by intros; exact h.all)
        try simp only [Bool.cond_false_right, rowsT_len] at q
        rw [rowV_k hh, hh]; exact q
      · have q := ex12 x
        try simp only [Bool.cond_false_right, rowsT_len] at q
        rw [rowV_k hh, hh]; exact q
      · have q := ex13 x _ _ (by (intros; simp only [inB_iff, inS_iff, inK64_iff, decide_eq_true_eq, decide_eq_false_iff_not, rowsT_len, rowsT_drop, rowsT_take, List.length_take, List.length_drop, BL_eq] at *; omega)) (by intro _ _ _ h4; exact h.pat (by simp only [decide_eq_true_eq, rowsT_len] at h4; unfold len; omega)) (by (intros; simp only [inB_iff, inS_iff, inK64_iff, decide_eq_true_eq, decide_eq_false_iff_not, rowsT_len, rowsT_drop, rowsT_take, List.length_take, List.length_drop, BL_eq] at *; omega)) (by intro _ _ _ h4 _; exact h.at (by simp only [decide_eq_true_eq, rowsT_len] at h4; unfold len; omega))
        try simp only [Bool.cond_false_right, rowsT_len] at q
        rw [rowV_k hh, hh]; exact q
      · have q := ex14 x _ _ (by intros; exact atom_pu hx.wf.s) (by intros; exact h.all)
        try simp only [Bool.cond_false_right, rowsT_len] at q
        rw [rowV_k hh, hh]; exact q
      · have q := ex15 x _ _ _ (by intros; exact atom_pu hx.wf.s) (by intros; exact atom_pu hx.wf.t) (by intros; exact h.all)
        try simp only [Bool.cond_false_right, rowsT_len] at q
        rw [rowV_k hh, hh]; exact q
      · have q := ex16 x _ _ (by (intros; simp only [inB_iff, inS_iff, inK64_iff, decide_eq_true_eq, decide_eq_false_iff_not, rowsT_len, rowsT_drop, rowsT_take, List.length_take, List.length_drop, BL_eq] at *; omega)) (by (intros; simp only [inB_iff, inS_iff, inK64_iff, decide_eq_true_eq, decide_eq_false_iff_not, rowsT_len, rowsT_drop, rowsT_take, List.length_take, List.length_drop, BL_eq] at *; omega)) (by intro _ _ _ h4 _; exact h.at (by simp only [decide_eq_true_eq, rowsT_len] at h4; unfold len; omega)) (by (intros; simp only [inB_iff, inS_iff, inK64_iff, decide_eq_true_eq, decide_eq_false_iff_not, rowsT_len, rowsT_drop, rowsT_take, List.length_take, List.length_drop, BL_eq] at *; omega)) (by (intros; simp only [inB_iff, inS_iff, inK64_iff, decide_eq_true_eq, decide_eq_false_iff_not, rowsT_len, rowsT_drop, rowsT_take, List.length_take, List.length_drop, BL_eq] at *; omega)) (by intros; rw [rowsT_len]; exact h.sub _ _)
        try simp only [Bool.cond_false_right, rowsT_len] at q
        rw [rowV_k hh, hh]; exact q
      · have q := ex17 x _ _ (by intros; exact atom_pu hx.wf.s) (by intros; exact atom_pu hx.wf.t)
        try simp only [Bool.cond_false_right, rowsT_len] at q
        rw [rowV_k hh, hh]; exact q
      · have q := ex18 x _ _ (by (intros; simp only [inB_iff, inS_iff, inK64_iff, decide_eq_true_eq, decide_eq_false_iff_not, rowsT_len, rowsT_drop, rowsT_take, List.length_take, List.length_drop, BL_eq] at *; omega)) (by intro _ _ _ h4; exact h.at (by simp only [decide_eq_true_eq, rowsT_len] at h4; unfold len; omega)) (by (intros; simp only [inB_iff, inS_iff, inK64_iff, decide_eq_true_eq, decide_eq_false_iff_not, rowsT_len, rowsT_drop, rowsT_take, List.length_take, List.length_drop, BL_eq] at *; omega)) (by (intros; simp only [inB_iff, inS_iff, inK64_iff, decide_eq_true_eq, decide_eq_false_iff_not, rowsT_len, rowsT_drop, rowsT_take, List.length_take, List.length_drop, BL_eq] at *; omega)) (by intros; rw [rowsT_len]; exact h.cls 1 _ _)
        try simp only [Bool.cond_false_right, rowsT_len] at q
        rw [rowV_k hh, hh]; exact q
      · have q := ex19 x _ ((sub (x.l.map (cl 2)) 1 (len x - 1)).all id) _ (by (intros; simp only [inB_iff, inS_iff, inK64_iff, decide_eq_true_eq, decide_eq_false_iff_not, rowsT_len, rowsT_drop, rowsT_take, List.length_take, List.length_drop, BL_eq] at *; omega)) (by intro _ _ _ h4; exact h.at (by simp only [decide_eq_true_eq, rowsT_len] at h4; unfold len; omega)) (by (intros; simp only [inB_iff, inS_iff, inK64_iff, decide_eq_true_eq, decide_eq_false_iff_not, rowsT_len, rowsT_drop, rowsT_take, List.length_take, List.length_drop, BL_eq] at *; omega)) (by (intros; simp only [inB_iff, inS_iff, inK64_iff, decide_eq_true_eq, decide_eq_false_iff_not, rowsT_len, rowsT_drop, rowsT_take, List.length_take, List.length_drop, BL_eq] at *; omega)) (by intros; rw [rowsT_len]; exact h.cls 2 _ _) (by (intros; simp only [inB_iff, inS_iff, inK64_iff, decide_eq_true_eq, decide_eq_false_iff_not, rowsT_len, rowsT_drop, rowsT_take, List.length_take, List.length_drop, BL_eq] at *; omega)) (by (intros; simp only [inB_iff, inS_iff, inK64_iff, decide_eq_true_eq, decide_eq_false_iff_not, rowsT_len, rowsT_drop, rowsT_take, List.length_take, List.length_drop, BL_eq] at *; omega)) (by intro _ _ _ _ _ h6; rw [rowsT_len]; exact each_sub h.ok rfl fun y hy => class_pu (cl_len (m := 2) (by decide) (all_sub h6 y hy)))
        try simp only [Bool.cond_false_right, rowsT_len] at q
        rw [rowV_k hh, hh]; exact q
      · have q := ex20 x _ (by intros; rw [← rowV_k hh]; exact recv_pu h)
        try simp only [Bool.cond_false_right, rowsT_len] at q
        rw [rowV_k hh, hh]; exact q
      · have q := ex21 x
        try simp only [Bool.cond_false_right, rowsT_len] at q
        rw [rowV_k hh, hh]; exact q
    · have q := exO x (by intro _; exact kin hx) (by intro h1 h2; simp only [decide_eq_true_eq] at h1 h2; exact hk ⟨h1, h2⟩)
      simp only [Bool.cond_false_right, Bool.and_false] at q
      rw [exV_not hk]; exact q
theorem kid_of : ∀ x : Tr, TrOk x → Kid x := by
  intro x
  induction x using Tr.ind with
  | h x ih =>
    intro hx
    refine ⟨hx, fun y hy => expr_step (ih y hy (hx.kid hy)), fun y hy m => clause_pu (ih y hy (hx.kid hy)) m, fun y hy => ?_⟩
    rw [exs_eq]; exact (ih y hy (hx.kid hy)).all
theorem expr_pu (x : Tr) (hx : TrOk x) : Pu 66 [.ep 57 0 (rowV x)] (.b (ex x)) := expr_step (kid_of x hx)
end Go.Proofs.YtdjafnjmkkagjaaGreatDoor.Oa.B4
-- dead: iaA (.p 6 0) (.i .i8 x.k)
