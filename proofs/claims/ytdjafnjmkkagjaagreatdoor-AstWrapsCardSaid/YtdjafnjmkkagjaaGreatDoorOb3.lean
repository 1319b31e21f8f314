/-
  ast.pattern, ast.guarded, ast.test, ast.guard over data. No condition but that trees be in range.
-/
import Derived.Test.YtdjafnjmkkagjaaGreatDoorOb2
namespace Go.Proofs.YtdjafnjmkkagjaaGreatDoor.Oa.B3
open Go.RowKit Sx
set_option maxRecDepth 100000
set_option linter.unusedSimpArgs false
def ir65 : XF := ⟨8, 1, [(2, none)], (.seq (.reg [⟨some 2, none, .mv (.c (.b false))⟩])
  (.seq (.reg [⟨some 4, none, .call 123 []⟩,
  ⟨some 3, none, .box 159 22 (.c (.ag [.fn, .fn, .fn, .fn, .fn, .fn, .fn, .fn, .fn, .fn, .fn, .fn, .fn, .fn, .fn, .fn, .fn, .fn, .fn, .fn, .fn, .fn]))⟩,
  ⟨none, none, .st 22 (.t 3) (.t 4)⟩])
  (.seq (.reg [⟨some 5, none, .call 124 [(.t 3), (.c (.f (.func 65) [] []))]⟩])
  (.seq (.reg [⟨some 6, none, .mv (.t 0)⟩,
  ⟨some 7, none, .call 125 [(.t 3), (.t 6)]⟩,
  ⟨some 2, none, .mv (.t 7)⟩])
  .ret))))⟩

theorem irc65 : cFunc Tryz.prog Tryz.f65 = some ir65 := by kernel_rfl
def ir67 : XF := ⟨10, 1, [(2, none)], (.seq (.reg [⟨some 2, none, .mv (.c (.b false))⟩])
  (.seq (.reg [⟨some 4, none, .call 123 []⟩,
  ⟨some 3, none, .box 159 22 (.c (.ag [.fn, .fn, .fn, .fn, .fn, .fn, .fn, .fn, .fn, .fn, .fn, .fn, .fn, .fn, .fn, .fn, .fn, .fn, .fn, .fn, .fn, .fn]))⟩,
  ⟨none, none, .st 22 (.t 3) (.t 4)⟩])
  (.seq (.reg [⟨some 5, none, .call 124 [(.t 3), (.c (.f (.func 67) [] []))]⟩])
  (.seq (.reg [⟨some 6, none, .call 127 [(.c (.f (.func 140) [] [])), (.c (.f (.func 67) [] []))]⟩,
  ⟨some 7, none, .iaA 22 1 (.t 3) (.c (.i .i8 11))⟩,
  ⟨none, none, .st 1 (.t 7) (.t 6)⟩])
  (.seq (.reg [⟨some 8, none, .mv (.t 0)⟩,
  ⟨some 9, none, .call 125 [(.t 3), (.t 8)]⟩,
  ⟨some 2, none, .mv (.t 9)⟩])
  .ret)))))⟩

theorem irc67 : cFunc Tryz.prog Tryz.f67 = some ir67 := by kernel_rfl
def ir69 : XF := ⟨11, 1, [(2, none)], (.seq (.reg [⟨some 2, none, .mv (.c (.b false))⟩])
  (.seq (.reg [⟨some 5, none, .bls 9 1 7 [(.s []), (.s []), (.s []), (.s []), (.s []), (.s []), (.s [])] [(0, 1, (.c (.s [105, 115, 95, 97, 116, 111, 109]))), (1, 1, (.c (.s [105, 115, 95, 105, 110, 116, 101, 103, 101, 114]))), (2, 1, (.c (.s [105, 115, 95, 112, 105, 100]))), (3, 1, (.c (.s [105, 115, 95, 114, 101, 102, 101, 114, 101, 110, 99, 101]))), (4, 1, (.c (.s [105, 115, 95, 116, 117, 112, 108, 101]))), (5, 1, (.c (.s [105, 115, 95, 108, 105, 115, 116]))), (6, 1, (.c (.s [105, 115, 95, 102, 117, 110, 99, 116, 105, 111, 110])))]⟩,
  ⟨some 3, none, .box 61 1 (.c .sln)⟩,
  ⟨none, none, .st 1 (.t 3) (.t 5)⟩])
  (.seq (.reg [⟨some 6, none, .call 127 [(.c (.f (.func 130) [] [])), (.c (.f (.func 67) [] []))]⟩,
  ⟨some 7, none, .mkf (.func 141) [] [(.t 3)]⟩,
  ⟨some 8, none, .bld [.fn, .fn, .fn, .fn, .fn, .fn, .fn, .fn, .fn, .fn, .fn, .fn, .fn, .fn, .fn, .fn, .fn, .fn, .fn, .fn, .fn, .fn] [(11, 1, (.t 6)), (12, 1, (.t 7))]⟩,
  ⟨some 4, none, .box 159 22 (.c (.ag [.fn, .fn, .fn, .fn, .fn, .fn, .fn, .fn, .fn, .fn, .fn, .fn, .fn, .fn, .fn, .fn, .fn, .fn, .fn, .fn, .fn, .fn]))⟩,
  ⟨none, none, .st 22 (.t 4) (.t 8)⟩])
  (.seq (.reg [⟨some 9, none, .mv (.t 0)⟩,
  ⟨some 10, none, .call 125 [(.t 4), (.t 9)]⟩,
  ⟨some 2, none, .mv (.t 10)⟩])
  .ret))))⟩

theorem irc69 : cFunc Tryz.prog Tryz.f69 = some ir69 := by kernel_rfl
def ir68 : XF := ⟨20, 1, [(2, none)], (.seq (.reg [⟨some 2, none, .mv (.c (.b false))⟩])
  (.seq (.reg [⟨some 3, none, .mv (.t 0)⟩,
  ⟨some 4, none, .nck (.t 3)⟩,
  ⟨some 5, none, .fa 0 (.t 4)⟩,
  ⟨some 6, none, .ld false 1 (.t 5)⟩,
  ⟨some 7, none, .bop .eql (.t 6) (.c (.i .i8 4))⟩,
  ⟨some 8, none, .mv (.t 7)⟩,
  ⟨some 9, some (8, true), .bld [(.b false), (.b false), (.b false), (.b false)] [(3, 1, (.c (.b true)))]⟩,
  ⟨some 10, some (8, true), .mv (.t 0)⟩,
  ⟨some 11, some (8, true), .call 71 [(.t 9), (.t 10)]⟩,
  ⟨some 12, none, .pick (.t 8) (.t 11) (.c (.b false))⟩,
  ⟨some 13, none, .mv (.t 12)⟩,
  ⟨some 14, some (13, true), .mv (.t 0)⟩,
  ⟨some 15, some (13, true), .nck (.t 14)⟩,
  ⟨some 16, some (13, true), .fa 4 (.t 15)⟩,
  ⟨some 17, some (13, true), .ld false 1 (.t 16)⟩,
  ⟨some 18, some (13, true), .call 73 [(.t 17), (.c (.f (.func 69) [] []))]⟩,
  ⟨some 19, none, .pick (.t 13) (.t 18) (.c (.b false))⟩,
  ⟨some 2, none, .mv (.t 19)⟩])
  .ret))⟩

theorem irc68 : cFunc Tryz.prog Tryz.f68 = some ir68 := by kernel_rfl
def ir123 : XF := ⟨2, 0, [(0, some (true, 22))], (.seq (.reg [⟨some 0, none, .box 159 22 (.c (.ag [.fn, .fn, .fn, .fn, .fn, .fn, .fn, .fn, .fn, .fn, .fn, .fn, .fn, .fn, .fn, .fn, .fn, .fn, .fn, .fn, .fn, .fn]))⟩])
  (.seq (.reg [⟨some 1, none, .bld [.fn, .fn, .fn, .fn, .fn, .fn, .fn, .fn, .fn, .fn, .fn, .fn, .fn, .fn, .fn, .fn, .fn, .fn, .fn, .fn, .fn, .fn] [(5, 1, (.c (.f (.func 178) [] []))), (6, 1, (.c (.f (.func 180) [] []))), (7, 1, (.c (.f (.func 181) [] []))), (8, 1, (.c (.f (.func 182) [] []))), (21, 1, (.c .fn))]⟩,
  ⟨none, none, .st 22 (.t 0) (.t 1)⟩])
  .ret))⟩

theorem irc123 : cFunc Tryz.prog Tryz.f123 = some ir123 := by kernel_rfl
def ir178 : XF := ⟨13, 1, [(2, none)], (.seq (.reg [⟨some 2, none, .mv (.c (.b false))⟩])
  (.seq (.reg [⟨some 3, none, .bld [(.b false), (.b false), (.b false), (.b false)] [(1, 1, (.c (.b true)))]⟩,
  ⟨some 4, none, .mv (.t 0)⟩,
  ⟨some 5, none, .call 71 [(.t 3), (.t 4)]⟩,
  ⟨some 6, none, .mv (.t 5)⟩,
  ⟨some 7, some (6, true), .mv (.t 0)⟩,
  ⟨some 8, some (6, true), .nck (.t 7)⟩,
  ⟨some 9, some (6, true), .fa 2 (.t 8)⟩,
  ⟨some 10, some (6, true), .ld false 1 (.t 9)⟩,
  ⟨some 11, some (6, true), .call 179 [(.t 10)]⟩,
  ⟨some 12, none, .pick (.t 6) (.t 11) (.c (.b false))⟩,
  ⟨some 2, none, .mv (.t 12)⟩])
  .ret))⟩

theorem irc178 : cFunc Tryz.prog Tryz.f178 = some ir178 := by kernel_rfl
def ir180 : XF := ⟨13, 1, [(2, none)], (.seq (.reg [⟨some 2, none, .mv (.c (.b false))⟩])
  (.seq (.reg [⟨some 3, none, .bld [(.b false), (.b false), (.b false), (.b false)] [(0, 1, (.c (.b true)))]⟩,
  ⟨some 4, none, .mv (.t 0)⟩,
  ⟨some 5, none, .call 71 [(.t 3), (.t 4)]⟩,
  ⟨some 6, none, .mv (.t 5)⟩,
  ⟨some 7, some (6, true), .mv (.t 0)⟩,
  ⟨some 8, some (6, true), .nck (.t 7)⟩,
  ⟨some 9, some (6, true), .fa 1 (.t 8)⟩,
  ⟨some 10, some (6, true), .ld false 1 (.t 9)⟩,
  ⟨some 11, some (6, true), .call 162 [(.t 10)]⟩,
  ⟨some 12, none, .pick (.t 6) (.t 11) (.c (.b false))⟩,
  ⟨some 2, none, .mv (.t 12)⟩])
  .ret))⟩

theorem irc180 : cFunc Tryz.prog Tryz.f180 = some ir180 := by kernel_rfl
def ir181 : XF := ⟨13, 1, [(2, none)], (.seq (.reg [⟨some 2, none, .mv (.c (.b false))⟩])
  (.seq (.reg [⟨some 3, none, .bld [(.b false), (.b false), (.b false), (.b false)] [(1, 1, (.c (.b true)))]⟩,
  ⟨some 4, none, .mv (.t 0)⟩,
  ⟨some 5, none, .call 71 [(.t 3), (.t 4)]⟩,
  ⟨some 6, none, .mv (.t 5)⟩,
  ⟨some 7, some (6, true), .mv (.t 0)⟩,
  ⟨some 8, some (6, true), .nck (.t 7)⟩,
  ⟨some 9, some (6, true), .fa 2 (.t 8)⟩,
  ⟨some 10, some (6, true), .ld false 1 (.t 9)⟩,
  ⟨some 11, some (6, true), .call 72 [(.t 10)]⟩,
  ⟨some 12, none, .pick (.t 6) (.t 11) (.c (.b false))⟩,
  ⟨some 2, none, .mv (.t 12)⟩])
  .ret))⟩

theorem irc181 : cFunc Tryz.prog Tryz.f181 = some ir181 := by kernel_rfl
def ir182 : XF := ⟨6, 1, [(2, none)], (.seq (.reg [⟨some 2, none, .mv (.c (.b false))⟩])
  (.seq (.reg [⟨some 3, none, .bld [(.b false), (.b false), (.b false), (.b false)] []⟩,
  ⟨some 4, none, .mv (.t 0)⟩,
  ⟨some 5, none, .call 71 [(.t 3), (.t 4)]⟩,
  ⟨some 2, none, .mv (.t 5)⟩])
  .ret))⟩

theorem irc182 : cFunc Tryz.prog Tryz.f182 = some ir182 := by kernel_rfl
def ir125 : XF := ⟨41, 2, [(4, none)], (.seq (.reg [⟨some 4, none, .mv (.c (.b false))⟩])
  (.seq (.par [⟨some 5, none, .mv (.t 1)⟩,
  ⟨some 6, none, .nck (.t 5)⟩,
  ⟨some 7, none, .fa 0 (.t 6)⟩,
  ⟨some 8, none, .ld false 1 (.t 7)⟩,
  ⟨some 9, none, .bop .geq (.t 8) (.c (.i .i8 0))⟩,
  ⟨some 10, none, .mv (.t 9)⟩,
  ⟨some 11, some (10, true), .mv (.t 1)⟩,
  ⟨some 12, some (10, true), .nck (.t 11)⟩,
  ⟨some 13, some (10, true), .fa 0 (.t 12)⟩,
  ⟨some 14, some (10, true), .ld false 1 (.t 13)⟩,
  ⟨some 15, some (10, true), .cvi .i64 (.t 14)⟩,
  ⟨some 16, some (10, true), .bop .lss (.t 15) (.c (.i .i64 22))⟩,
  ⟨some 17, none, .pick (.t 10) (.t 16) (.c (.b false))⟩,
  ⟨some 18, none, .mv (.t 17)⟩,
  ⟨some 19, some (18, true), .mv (.t 0)⟩,
  ⟨some 20, some (18, true), .mv (.t 1)⟩,
  ⟨some 21, some (18, true), .nck (.t 20)⟩,
  ⟨some 22, some (18, true), .fa 0 (.t 21)⟩,
  ⟨some 23, some (18, true), .ld false 1 (.t 22)⟩,
  ⟨some 24, some (18, true), .nck (.t 19)⟩,
  ⟨some 25, some (18, true), .iaA 22 1 (.t 24) (.t 23)⟩,
  ⟨some 26, some (18, true), .ld false 1 (.t 25)⟩,
  ⟨some 27, some (18, true), .eq 3 true true (.t 26) (.c .fn)⟩,
  ⟨some 28, none, .pick (.t 18) (.t 27) (.c (.b false))⟩,
  ⟨some 29, none, .mv (.t 28)⟩,
  ⟨some 30, some (29, true), .mv (.t 0)⟩,
  ⟨some 31, some (29, true), .mv (.t 1)⟩,
  ⟨some 32, some (29, true), .nck (.t 31)⟩,
  ⟨some 33, some (29, true), .fa 0 (.t 32)⟩,
  ⟨some 34, some (29, true), .ld false 1 (.t 33)⟩,
  ⟨some 35, some (29, true), .nck (.t 30)⟩,
  ⟨some 36, some (29, true), .iaA 22 1 (.t 35) (.t 34)⟩,
  ⟨some 37, some (29, true), .ld false 1 (.t 36)⟩,
  ⟨some 38, some (29, true), .mv (.t 1)⟩,
  ⟨some 39, some (29, true), .callv (.t 37) [(.t 38)]⟩,
  ⟨some 40, none, .pick (.t 29) (.t 39) (.c (.b false))⟩,
  ⟨some 4, none, .mv (.t 40)⟩] [0, 1, 3, 7, 15, 31, 63, 127, 255, 511, 1023, 2047, 4095, 8191, 16383, 16383, 49151, 114687, 245759, 32767, 1048575, 2097151, 4194303, 8388607, 16777215, 33554431, 33554431, 100663295, 234881023, 503316479, 67108863, 2147483647, 4294967295, 33554431, 17179869183, 34359738367, 68719476735])
  .ret))⟩

theorem irc125 : cFunc Tryz.prog Tryz.f125 = some ir125 := by kernel_rfl
def ir71 : XF := ⟨48, 2, [(4, none)], (.seq (.reg [⟨some 2, none, .box 110 4 (.t 0)⟩,
  ⟨some 4, none, .mv (.c (.b false))⟩])
  (.seq (.reg [⟨some 5, none, .fa 0 (.t 2)⟩,
  ⟨some 6, none, .ld false 1 (.t 5)⟩,
  ⟨some 7, none, .mv (.t 6)⟩,
  ⟨some 8, some (7, false), .mv (.t 1)⟩,
  ⟨some 9, some (7, false), .nck (.t 8)⟩,
  ⟨some 10, some (7, false), .fa 1 (.t 9)⟩,
  ⟨some 11, some (7, false), .ld false 1 (.t 10)⟩,
  ⟨some 12, some (7, false), .bop .eql (.t 11) (.c (.i .i64 0))⟩,
  ⟨some 13, none, .pick (.t 7) (.c (.b true)) (.t 12)⟩,
  ⟨some 14, none, .mv (.t 13)⟩,
  ⟨some 15, some (14, true), .fa 1 (.t 2)⟩,
  ⟨some 16, some (14, true), .ld false 1 (.t 15)⟩,
  ⟨some 17, some (14, true), .mv (.t 16)⟩,
  ⟨some 18, some (17, false), .mv (.t 1)⟩,
  ⟨some 19, some (17, false), .nck (.t 18)⟩,
  ⟨some 20, some (17, false), .fa 2 (.t 19)⟩,
  ⟨some 21, some (17, false), .ld false 1 (.t 20)⟩,
  ⟨some 22, some (17, false), .bop .eql (.t 21) (.c (.s []))⟩,
  ⟨some 23, some (14, true), .pick (.t 17) (.c (.b true)) (.t 22)⟩,
  ⟨some 24, none, .pick (.t 14) (.t 23) (.c (.b false))⟩,
  ⟨some 25, none, .mv (.t 24)⟩,
  ⟨some 26, some (25, true), .fa 2 (.t 2)⟩,
  ⟨some 27, some (25, true), .ld false 1 (.t 26)⟩,
  ⟨some 28, some (25, true), .mv (.t 27)⟩,
  ⟨some 29, some (28, false), .mv (.t 1)⟩,
  ⟨some 30, some (28, false), .nck (.t 29)⟩,
  ⟨some 31, some (28, false), .fa 3 (.t 30)⟩,
  ⟨some 32, some (28, false), .ld false 1 (.t 31)⟩,
  ⟨some 33, some (28, false), .bop .eql (.t 32) (.c (.s []))⟩,
  ⟨some 34, some (25, true), .pick (.t 28) (.c (.b true)) (.t 33)⟩,
  ⟨some 35, none, .pick (.t 25) (.t 34) (.c (.b false))⟩,
  ⟨some 36, none, .mv (.t 35)⟩,
  ⟨some 37, some (36, true), .fa 3 (.t 2)⟩,
  ⟨some 38, some (36, true), .ld false 1 (.t 37)⟩,
  ⟨some 39, some (36, true), .mv (.t 38)⟩,
  ⟨some 40, some (39, false), .mv (.t 1)⟩,
  ⟨some 41, some (39, false), .nck (.t 40)⟩,
  ⟨some 42, some (39, false), .fa 4 (.t 41)⟩,
  ⟨some 43, some (39, false), .ld false 1 (.t 42)⟩,
  ⟨some 44, some (39, false), .len 1 (.t 43)⟩,
  ⟨some 45, some (39, false), .bop .eql (.t 44) (.c (.i .i64 0))⟩,
  ⟨some 46, some (36, true), .pick (.t 39) (.c (.b true)) (.t 45)⟩,
  ⟨some 47, none, .pick (.t 36) (.t 46) (.c (.b false))⟩,
  ⟨some 4, none, .mv (.t 47)⟩])
  .ret))⟩

theorem irc71 : cFunc Tryz.prog Tryz.f71 = some ir71 := by kernel_rfl
def ir162 : XF := ⟨9, 1, [(2, none)], (.seq (.reg [⟨some 2, none, .mv (.c (.b false))⟩])
  (.seq (.reg [⟨some 3, none, .mv (.t 0)⟩,
  ⟨some 4, none, .bop .geq (.t 3) (.c (.i .i64 (-576460752303423488)))⟩,
  ⟨some 5, none, .mv (.t 4)⟩,
  ⟨some 6, some (5, true), .mv (.t 0)⟩,
  ⟨some 7, some (5, true), .bop .leq (.t 6) (.c (.i .i64 576460752303423487))⟩,
  ⟨some 8, none, .pick (.t 5) (.t 7) (.c (.b false))⟩,
  ⟨some 2, none, .mv (.t 8)⟩])
  .ret))⟩

theorem irc162 : cFunc Tryz.prog Tryz.f162 = some ir162 := by kernel_rfl
def ir124 : XF := ⟨12, 2, [], (.seq (.reg [⟨some 3, none, .box 108 1 (.t 1)⟩])
  (.seq (.reg [⟨some 4, none, .mv (.t 0)⟩,
  ⟨some 5, none, .mkf (.func 183) [] [(.t 3)]⟩,
  ⟨some 6, none, .nck (.t 4)⟩,
  ⟨some 7, none, .iaA 22 1 (.t 6) (.c (.i .i8 10))⟩,
  ⟨none, none, .st 1 (.t 7) (.t 5)⟩])
  (.reg [⟨some 8, none, .mv (.t 0)⟩,
  ⟨some 9, none, .mkf (.func 184) [] [(.t 3)]⟩,
  ⟨some 10, none, .nck (.t 8)⟩,
  ⟨some 11, none, .iaA 22 1 (.t 10) (.c (.i .i8 9))⟩,
  ⟨none, none, .st 1 (.t 11) (.t 9)⟩])))⟩

theorem irc124 : cFunc Tryz.prog Tryz.f124 = some ir124 := by kernel_rfl
def ir183 : XF := ⟨15, 2, [(3, none)], (.seq (.reg [⟨some 3, none, .mv (.c (.b false))⟩])
  (.seq (.par [⟨some 4, none, .bld [(.b false), (.b false), (.b false), (.b false)] [(3, 1, (.c (.b true)))]⟩,
  ⟨some 5, none, .mv (.t 0)⟩,
  ⟨some 6, none, .call 71 [(.t 4), (.t 5)]⟩,
  ⟨some 7, none, .mv (.t 6)⟩,
  ⟨some 8, some (7, true), .mv (.t 0)⟩,
  ⟨some 9, some (7, true), .nck (.t 8)⟩,
  ⟨some 10, some (7, true), .fa 4 (.t 9)⟩,
  ⟨some 11, some (7, true), .ld false 1 (.t 10)⟩,
  ⟨some 12, some (7, true), .ld false 1 (.t 1)⟩,
  ⟨some 13, some (7, true), .call 73 [(.t 11), (.t 12)]⟩,
  ⟨some 14, none, .pick (.t 7) (.t 13) (.c (.b false))⟩,
  ⟨some 3, none, .mv (.t 14)⟩] [0, 0, 3, 7, 15, 31, 63, 127, 15, 511, 1023, 2047])
  .ret))⟩

theorem irc183 : cFunc Tryz.prog Tryz.f183 = some ir183 := by kernel_rfl
def ir184 : XF := ⟨23, 2, [(3, none)], (.seq (.reg [⟨some 3, none, .mv (.c (.b false))⟩])
  (.seq (.par [⟨some 4, none, .bld [(.b false), (.b false), (.b false), (.b false)] [(3, 1, (.c (.b true)))]⟩,
  ⟨some 5, none, .mv (.t 0)⟩,
  ⟨some 6, none, .call 71 [(.t 4), (.t 5)]⟩,
  ⟨some 7, none, .mv (.t 6)⟩,
  ⟨some 8, some (7, true), .mv (.t 0)⟩,
  ⟨some 9, some (7, true), .nck (.t 8)⟩,
  ⟨some 10, some (7, true), .fa 4 (.t 9)⟩,
  ⟨some 11, some (7, true), .ld false 1 (.t 10)⟩,
  ⟨some 12, some (7, true), .len 1 (.t 11)⟩,
  ⟨some 13, some (7, true), .bop .eql (.t 12) (.c (.i .i64 2))⟩,
  ⟨some 14, none, .pick (.t 7) (.t 13) (.c (.b false))⟩,
  ⟨some 15, none, .mv (.t 14)⟩,
  ⟨some 16, some (15, true), .mv (.t 0)⟩,
  ⟨some 17, some (15, true), .nck (.t 16)⟩,
  ⟨some 18, some (15, true), .fa 4 (.t 17)⟩,
  ⟨some 19, some (15, true), .ld false 1 (.t 18)⟩,
  ⟨some 20, some (15, true), .ld false 1 (.t 1)⟩,
  ⟨some 21, some (15, true), .call 73 [(.t 19), (.t 20)]⟩,
  ⟨some 22, none, .pick (.t 15) (.t 21) (.c (.b false))⟩,
  ⟨some 3, none, .mv (.t 22)⟩] [0, 0, 3, 7, 15, 31, 63, 127, 255, 511, 1023, 2047, 4095, 8191, 16383, 32767, 4095, 131071, 262143, 524287])
  .ret))⟩

theorem irc184 : cFunc Tryz.prog Tryz.f184 = some ir184 := by kernel_rfl
def ir127 : XF := ⟨6, 2, [(4, none)], (.seq (.reg [⟨some 2, none, .box 111 1 (.t 0)⟩,
  ⟨some 3, none, .box 108 1 (.t 1)⟩,
  ⟨some 4, none, .mv (.c .fn)⟩])
  (.seq (.reg [⟨some 5, none, .mkf (.func 185) [] [(.t 2), (.t 3)]⟩,
  ⟨some 4, none, .mv (.t 5)⟩])
  .ret))⟩

theorem irc127 : cFunc Tryz.prog Tryz.f127 = some ir127 := by kernel_rfl
def ir185 : XF := ⟨32, 3, [(4, none)], (.seq (.reg [⟨some 4, none, .mv (.c (.b false))⟩])
  (.seq (.par [⟨some 5, none, .bld [(.b false), (.b false), (.b false), (.b false)] [(1, 1, (.c (.b true))), (3, 1, (.c (.b true)))]⟩,
  ⟨some 6, none, .mv (.t 0)⟩,
  ⟨some 7, none, .call 71 [(.t 5), (.t 6)]⟩,
  ⟨some 8, none, .mv (.t 7)⟩,
  ⟨some 9, some (8, true), .ld false 1 (.t 1)⟩,
  ⟨some 10, some (8, true), .mv (.t 0)⟩,
  ⟨some 11, some (8, true), .nck (.t 10)⟩,
  ⟨some 12, some (8, true), .fa 2 (.t 11)⟩,
  ⟨some 13, some (8, true), .ld false 1 (.t 12)⟩,
  ⟨some 14, some (8, true), .callv (.t 9) [(.t 13)]⟩,
  ⟨some 15, none, .pick (.t 8) (.t 14) (.c (.b false))⟩,
  ⟨some 16, none, .mv (.t 15)⟩,
  ⟨some 17, some (16, true), .mv (.t 0)⟩,
  ⟨some 18, some (16, true), .nck (.t 17)⟩,
  ⟨some 19, some (16, true), .fa 4 (.t 18)⟩,
  ⟨some 20, some (16, true), .ld false 1 (.t 19)⟩,
  ⟨some 21, some (16, true), .len 1 (.t 20)⟩,
  ⟨some 22, some (16, true), .bop .eql (.t 21) (.c (.i .i64 2))⟩,
  ⟨some 23, none, .pick (.t 16) (.t 22) (.c (.b false))⟩,
  ⟨some 24, none, .mv (.t 23)⟩,
  ⟨some 25, some (24, true), .mv (.t 0)⟩,
  ⟨some 26, some (24, true), .nck (.t 25)⟩,
  ⟨some 27, some (24, true), .fa 4 (.t 26)⟩,
  ⟨some 28, some (24, true), .ld false 1 (.t 27)⟩,
  ⟨some 29, some (24, true), .ld false 1 (.t 2)⟩,
  ⟨some 30, some (24, true), .call 73 [(.t 28), (.t 29)]⟩,
  ⟨some 31, none, .pick (.t 24) (.t 30) (.c (.b false))⟩,
  ⟨some 4, none, .mv (.t 31)⟩] [0, 0, 3, 7, 15, 15, 47, 111, 239, 511, 1023, 2047, 4095, 8191, 16383, 32767, 65535, 131071, 262143, 524287, 1048575, 2097151, 4194303, 8388607, 1048575, 33554431, 67108863, 134217727])
  .ret))⟩

theorem irc185 : cFunc Tryz.prog Tryz.f185 = some ir185 := by kernel_rfl
def ir64 : XF := ⟨9, 2, [(4, none)], (.seq (.reg [⟨some 4, none, .mv (.c (.b false))⟩])
  (.seq (.reg [⟨some 5, none, .mv (.t 0)⟩,
  ⟨some 6, none, .mv (.t 1)⟩,
  ⟨some 7, none, .call 122 [(.t 5), (.t 6)]⟩,
  ⟨some 8, none, .bop .geq (.t 7) (.c (.i .i64 0))⟩,
  ⟨some 4, none, .mv (.t 8)⟩])
  .ret))⟩

theorem irc64 : cFunc Tryz.prog Tryz.f64 = some ir64 := by kernel_rfl
def lp122_0 : IC := (.seq (.reg [⟨some 9, none, .bop .lss (.t 8) (.t 7)⟩])
  (.seq (.cond (.t 9) .skip
  (.exit 0))
  (.seq (.blk 1 (.seq (.reg [⟨some 10, none, .mv (.t 8)⟩,
  ⟨some 5, none, .mv (.t 10)⟩])
  (.seq (.reg [⟨some 11, none, .mv (.t 1)⟩,
  ⟨some 12, none, .mv (.t 0)⟩,
  ⟨some 13, none, .mv (.t 5)⟩,
  ⟨some 14, none, .ia 1 (.t 12) (.t 13)⟩,
  ⟨some 15, none, .ld false 1 (.t 14)⟩,
  ⟨some 16, none, .bop .eql (.t 11) (.t 15)⟩])
  (.cond (.t 16) (.seq (.reg [⟨some 17, none, .mv (.t 5)⟩,
  ⟨some 4, none, .mv (.t 17)⟩])
  .ret)
  .skip))))
  (.reg [⟨some 18, none, .bop .add (.t 8) (.c (.i .i64 1))⟩,
  ⟨some 8, none, .mv (.t 18)⟩]))))
def ir122 : XF := ⟨19, 2, [(4, none)], (.seq (.reg [⟨some 4, none, .mv (.c (.i .i64 0))⟩])
  (.seq (.seq (.reg [⟨some 6, none, .mv (.t 0)⟩,
  ⟨some 7, none, .len 1 (.t 6)⟩,
  ⟨some 8, none, .mv (.c (.i .i64 0))⟩])
  (.blk 0 (.loop lp122_0)))
  (.seq (.reg [⟨some 4, none, .mv (.c (.i .i64 (-1)))⟩])
  .ret)))⟩

theorem irc122 : cFunc Tryz.prog Tryz.f122 = some ir122 := by kernel_rfl
def ir140 : XF := ⟨13, 1, [(2, none)], (.seq (.reg [⟨some 2, none, .mv (.c (.b false))⟩])
  (.seq (.reg [⟨some 3, none, .mv (.t 0)⟩,
  ⟨some 4, none, .bop .eql (.t 3) (.c (.s [43]))⟩,
  ⟨some 5, none, .mv (.t 4)⟩,
  ⟨some 6, some (5, false), .mv (.t 0)⟩,
  ⟨some 7, some (5, false), .bop .eql (.t 6) (.c (.s [45]))⟩,
  ⟨some 8, none, .pick (.t 5) (.c (.b true)) (.t 7)⟩,
  ⟨some 9, none, .mv (.t 8)⟩,
  ⟨some 10, some (9, false), .mv (.t 0)⟩,
  ⟨some 11, some (9, false), .bop .eql (.t 10) (.c (.s [42]))⟩,
  ⟨some 12, none, .pick (.t 9) (.c (.b true)) (.t 11)⟩,
  ⟨some 2, none, .mv (.t 12)⟩])
  .ret))⟩

theorem irc140 : cFunc Tryz.prog Tryz.f140 = some ir140 := by kernel_rfl
def ir141 : XF := ⟨30, 2, [(3, none)], (.seq (.reg [⟨some 3, none, .mv (.c (.b false))⟩])
  (.seq (.par [⟨some 4, none, .bld [(.b false), (.b false), (.b false), (.b false)] [(1, 1, (.c (.b true))), (3, 1, (.c (.b true)))]⟩,
  ⟨some 5, none, .mv (.t 0)⟩,
  ⟨some 6, none, .call 71 [(.t 4), (.t 5)]⟩,
  ⟨some 7, none, .mv (.t 6)⟩,
  ⟨some 8, some (7, true), .ld false 1 (.t 1)⟩,
  ⟨some 9, some (7, true), .mv (.t 0)⟩,
  ⟨some 10, some (7, true), .nck (.t 9)⟩,
  ⟨some 11, some (7, true), .fa 2 (.t 10)⟩,
  ⟨some 12, some (7, true), .ld false 1 (.t 11)⟩,
  ⟨some 13, some (7, true), .call 64 [(.t 8), (.t 12)]⟩,
  ⟨some 14, none, .pick (.t 7) (.t 13) (.c (.b false))⟩,
  ⟨some 15, none, .mv (.t 14)⟩,
  ⟨some 16, some (15, true), .mv (.t 0)⟩,
  ⟨some 17, some (15, true), .nck (.t 16)⟩,
  ⟨some 18, some (15, true), .fa 4 (.t 17)⟩,
  ⟨some 19, some (15, true), .ld false 1 (.t 18)⟩,
  ⟨some 20, some (15, true), .len 1 (.t 19)⟩,
  ⟨some 21, some (15, true), .bop .eql (.t 20) (.c (.i .i64 1))⟩,
  ⟨some 22, none, .pick (.t 15) (.t 21) (.c (.b false))⟩,
  ⟨some 23, none, .mv (.t 22)⟩,
  ⟨some 24, some (23, true), .mv (.t 0)⟩,
  ⟨some 25, some (23, true), .nck (.t 24)⟩,
  ⟨some 26, some (23, true), .fa 4 (.t 25)⟩,
  ⟨some 27, some (23, true), .ld false 1 (.t 26)⟩,
  ⟨some 28, some (23, true), .call 73 [(.t 27), (.c (.f (.func 67) [] []))]⟩,
  ⟨some 29, none, .pick (.t 23) (.t 28) (.c (.b false))⟩,
  ⟨some 3, none, .mv (.t 29)⟩] [0, 0, 3, 7, 15, 15, 47, 111, 239, 511, 1023, 2047, 4095, 8191, 16383, 32767, 65535, 131071, 262143, 524287, 1048575, 2097151, 4194303, 8388607, 16777215, 33554431, 67108863])
  .ret))⟩

theorem irc141 : cFunc Tryz.prog Tryz.f141 = some ir141 := by kernel_rfl
def tabI : Trie XF := (.nd (.nd (.nd (.nd (.nd (.nd (.nd (.nd .lf (some ir127) .lf) none .lf) none .lf) none .lf) none (.nd (.nd (.nd .lf (some ir71) .lf) none .lf) none (.nd .lf none (.nd (.nd .lf (some ir183) .lf) none .lf)))) none (.nd .lf none (.nd .lf none (.nd .lf none (.nd .lf (some ir123) .lf))))) none (.nd (.nd .lf none (.nd .lf none (.nd .lf none (.nd (.nd .lf (some ir185) .lf) none .lf)))) none (.nd (.nd .lf none (.nd .lf none (.nd (.nd .lf (some ir181) .lf) none .lf))) none (.nd (.nd (.nd (.nd .lf (some ir141) .lf) none .lf) none .lf) none (.nd .lf none (.nd .lf (some ir125) .lf)))))) none (.nd (.nd (.nd (.nd (.nd (.nd .lf (some ir64) .lf) none .lf) none .lf) none (.nd .lf none (.nd .lf none (.nd (.nd .lf (some ir184) .lf) none .lf)))) none (.nd (.nd .lf none (.nd .lf none (.nd (.nd .lf (some ir180) .lf) none .lf))) none (.nd (.nd (.nd (.nd .lf (some ir140) .lf) none .lf) none .lf) none (.nd .lf none (.nd .lf (some ir124) .lf))))) none (.nd (.nd (.nd (.nd .lf none (.nd (.nd .lf (some ir162) .lf) none .lf)) none (.nd .lf none (.nd (.nd .lf (some ir178) .lf) none .lf))) none (.nd .lf none (.nd .lf none (.nd .lf (some ir122) .lf)))) none (.nd (.nd .lf none (.nd .lf none (.nd (.nd .lf (some ir182) .lf) none .lf))) none .lf))))
def tabL : List (Nat × XF) := [(64, ir64), (71, ir71), (122, ir122), (123, ir123), (124, ir124), (125, ir125), (127, ir127), (140, ir140), (141, ir141), (162, ir162), (178, ir178), (180, ir180), (181, ir181), (182, ir182), (183, ir183), (184, ir184), (185, ir185)]
theorem tabI_eq : tabI = ofList tabL := by kernel_rfl
theorem tabI_ok : TabOk Tryz.prog tabI := tab_of tabI_eq (by kernel_rfl) fun p hp => by
  simp only [tabL, List.mem_cons, List.not_mem_nil, or_false] at hp
  rcases hp with rfl | rfl | rfl | rfl | rfl | rfl | rfl | rfl | rfl | rfl | rfl | rfl | rfl | rfl | rfl | rfl | rfl
  · exact ⟨_, Tryz.func64, irc64⟩
  · exact ⟨_, Tryz.func71, irc71⟩
  · exact ⟨_, Tryz.func122, irc122⟩
  · exact ⟨_, Tryz.func123, irc123⟩
  · exact ⟨_, Tryz.func124, irc124⟩
  · exact ⟨_, Tryz.func125, irc125⟩
  · exact ⟨_, Tryz.func127, irc127⟩
  · exact ⟨_, Tryz.func140, irc140⟩
  · exact ⟨_, Tryz.func141, irc141⟩
  · exact ⟨_, Tryz.func162, irc162⟩
  · exact ⟨_, Tryz.func178, irc178⟩
  · exact ⟨_, Tryz.func180, irc180⟩
  · exact ⟨_, Tryz.func181, irc181⟩
  · exact ⟨_, Tryz.func182, irc182⟩
  · exact ⟨_, Tryz.func183, irc183⟩
  · exact ⟨_, Tryz.func184, irc184⟩
  · exact ⟨_, Tryz.func185, irc185⟩
abbrev cal : CallT := run mth tabI noOrc 1000 20
theorem pu_of {f : Nat} {fn : Func} {x : XF} (hfn : Tryz.prog.funcs[f]? = some fn) (hc : cFunc Tryz.prog fn = some x) {args : List TV} {pa : List PA} {v : TV} {obs : List Ob} (hx : funO 5 mth cal 1000 x args pa = some (v, obs)) (hv : v.flat = true) (ho : Owes Tryz.prog rho obs) : Pu f args v :=
  pu_of' tabI_ok hfn hc hx hv ho
theorem lp_more {x : IC} {ks : List Nat} {m : Nat} {e e2 e' : Trie TV} {t t2 t' : Trie TB} {n n' : Nat} {pa : List PA} {ex : EX} {obs : List Ob} (hx : bodyO 5 mth cal 1000 x ks m e t n pa = some (.nrm, e2, t2, obs)) (ho : Owes Tryz.prog rho obs) (hl : LoopC Tryz.prog rho x e2 t2 m ex e' t' n') : LoopC Tryz.prog rho x e t n ex e' t' n' :=
  lp_more' tabI_ok hx ho hl
theorem lp_end {x : IC} {ks : List Nat} {m : Nat} {e e2 : Trie TV} {t t2 : Trie TB} {n : Nat} {pa : List PA} {ex : EX} {obs : List Ob} (hx : bodyO 5 mth cal 1000 x ks m e t n pa = some (ex, e2, t2, obs)) (hne : ex ≠ .nrm) (ho : Owes Tryz.prog rho obs) : LoopC Tryz.prog rho x e t n ex e2 t2 m :=
  lp_end' tabI_ok hx hne ho
theorem pt0_0 (x : Tr) : funO 5 mth cal 1000 ir65 [(.ep 57 0 (rowK x 0))] [.go, .go, .go, .br true, .br true] = some ((.b false), [.eqb (decide (0 < 22)) true, .eqb (Sx.inK .i64 0) true, .eqb (decide (0 ≤ 0)) true]) := by kernel_rfl
theorem pt0 (x : Tr) : Pu 65 [(.ep 57 0 (rowK x 0))] (.b false) := by
  exact pu_of Tryz.func65 irc65 (pt0_0 x) rfl ⟨(of_eqb (by decide)), (of_eqb (by decide)), (of_eqb (by decide)), trivial⟩
theorem pt1_0 (x : Tr) : funO 5 mth cal 1000 ir65 [(.ep 57 0 (rowK x 1))] [.go, .go, .go, .br true, .br true] = some ((.b false), [.eqb (decide (1 < 22)) true, .eqb (Sx.inK .i64 1) true, .eqb (decide (0 ≤ 1)) true]) := by kernel_rfl
theorem pt1 (x : Tr) : Pu 65 [(.ep 57 0 (rowK x 1))] (.b false) := by
  exact pu_of Tryz.func65 irc65 (pt1_0 x) rfl ⟨(of_eqb (by decide)), (of_eqb (by decide)), (of_eqb (by decide)), trivial⟩
theorem pt2_0 (x : Tr) : funO 5 mth cal 1000 ir65 [(.ep 57 0 (rowK x 2))] [.go, .go, .go, .br true, .br true] = some ((.b false), [.eqb (decide (2 < 22)) true, .eqb (Sx.inK .i64 2) true, .eqb (decide (0 ≤ 2)) true]) := by kernel_rfl
theorem pt2 (x : Tr) : Pu 65 [(.ep 57 0 (rowK x 2))] (.b false) := by
  exact pu_of Tryz.func65 irc65 (pt2_0 x) rfl ⟨(of_eqb (by decide)), (of_eqb (by decide)), (of_eqb (by decide)), trivial⟩
theorem pt3_0 (x : Tr) : funO 5 mth cal 1000 ir65 [(.ep 57 0 (rowK x 3))] [.go, .go, .go, .br true, .br true] = some ((.b false), [.eqb (decide (3 < 22)) true, .eqb (Sx.inK .i64 3) true, .eqb (decide (0 ≤ 3)) true]) := by kernel_rfl
theorem pt3 (x : Tr) : Pu 65 [(.ep 57 0 (rowK x 3))] (.b false) := by
  exact pu_of Tryz.func65 irc65 (pt3_0 x) rfl ⟨(of_eqb (by decide)), (of_eqb (by decide)), (of_eqb (by decide)), trivial⟩
theorem pt4_0 (x : Tr) : funO 5 mth cal 1000 ir65 [(.ep 57 0 (rowK x 4))] [.go, .go, .go, .br true, .br true] = some ((.b false), [.eqb (decide (4 < 22)) true, .eqb (Sx.inK .i64 4) true, .eqb (decide (0 ≤ 4)) true]) := by kernel_rfl
theorem pt4 (x : Tr) : Pu 65 [(.ep 57 0 (rowK x 4))] (.b false) := by
  exact pu_of Tryz.func65 irc65 (pt4_0 x) rfl ⟨(of_eqb (by decide)), (of_eqb (by decide)), (of_eqb (by decide)), trivial⟩
theorem pt5_0 (x : Tr) (vname0 : Bool) : funO 5 mth cal 1000 ir65 [(.ep 57 0 (rowK x 5))] [.go, .go, .go, .br true, .br true, .go, .go, .br true, .br true, .br true, .cl [.as] (.b (vname0))] = some ((.b (vname0)), [.call 179 [(.s (nats x.s))] (.b (vname0)), .eqb (freeL []) true, .eqb (TV.free (.s (nats x.s))) true, .eqb (decide ((List.length (rowsT x.l) : Int) = 0)) true, .eqb (decide ((nats x.t) = ([] : List Nat))) true, .eqb (decide (x.n = 0)) true, .eqb (decide (5 < 22)) true, .eqb (Sx.inK .i64 5) true, .eqb (decide (0 ≤ 5)) true]) := by kernel_rfl
theorem pt5_1 (x : Tr) : funO 5 mth cal 1000 ir65 [(.ep 57 0 (rowK x 5))] [.go, .go, .go, .br true, .br true, .go, .go, .br true, .br true, .br false] = some ((.b false), [.eqb (decide ((List.length (rowsT x.l) : Int) = 0)) false, .eqb (decide ((nats x.t) = ([] : List Nat))) true, .eqb (decide (x.n = 0)) true, .eqb (decide (5 < 22)) true, .eqb (Sx.inK .i64 5) true, .eqb (decide (0 ≤ 5)) true]) := by kernel_rfl
theorem pt5_2 (x : Tr) : funO 5 mth cal 1000 ir65 [(.ep 57 0 (rowK x 5))] [.go, .go, .go, .br true, .br true, .go, .go, .br true, .br false] = some ((.b false), [.eqb (decide ((nats x.t) = ([] : List Nat))) false, .eqb (decide (x.n = 0)) true, .eqb (decide (5 < 22)) true, .eqb (Sx.inK .i64 5) true, .eqb (decide (0 ≤ 5)) true]) := by kernel_rfl
theorem pt5_3 (x : Tr) : funO 5 mth cal 1000 ir65 [(.ep 57 0 (rowK x 5))] [.go, .go, .go, .br true, .br true, .go, .go, .br false] = some ((.b false), [.eqb (decide (x.n = 0)) false, .eqb (decide (5 < 22)) true, .eqb (Sx.inK .i64 5) true, .eqb (decide (0 ≤ 5)) true]) := by kernel_rfl
theorem pt5 (x : Tr) (vname0 : Bool) (c0 : (decide (x.n = 0)) = true → (decide ((nats x.t) = ([] : List Nat))) = true → (decide ((List.length (rowsT x.l) : Int) = 0)) = true → Pu 179 [(.s (nats x.s))] (.b (vname0))) : Pu 65 [(.ep 57 0 (rowK x 5))] (.b (bif decide (x.n = 0) then (bif decide ((nats x.t) = ([] : List Nat)) then (bif decide ((List.length (rowsT x.l) : Int) = 0) then vname0 else false) else false) else false)) := by
  cases h0 : (decide (x.n = 0))
  case false =>
    exact pu_of Tryz.func65 irc65 (pt5_3 x) rfl ⟨h0, (of_eqb (by decide)), (of_eqb (by decide)), (of_eqb (by decide)), trivial⟩
  case true =>
    cases h1 : (decide ((nats x.t) = ([] : List Nat)))
    case false =>
      exact pu_of Tryz.func65 irc65 (pt5_2 x) rfl ⟨h1, h0, (of_eqb (by decide)), (of_eqb (by decide)), (of_eqb (by decide)), trivial⟩
    case true =>
      cases h2 : (decide ((List.length (rowsT x.l) : Int) = 0))
      case false =>
        exact pu_of Tryz.func65 irc65 (pt5_1 x) rfl ⟨h2, h1, h0, (of_eqb (by decide)), (of_eqb (by decide)), (of_eqb (by decide)), trivial⟩
      case true =>
        exact pu_of Tryz.func65 irc65 (pt5_0 x vname0) rfl ⟨(c0 h0 h1 h2), rfl, rfl, h2, h1, h0, (of_eqb (by decide)), (of_eqb (by decide)), (of_eqb (by decide)), trivial⟩
theorem pt6_0 (x : Tr) : funO 5 mth cal 1000 ir65 [(.ep 57 0 (rowK x 6))] [.go, .go, .go, .br true, .br true, .go, .go, .br true, .br true, .br true, .go, .br true, .kp] = some ((.b (decide (x.n ≤ 576460752303423487))), [.eqb (decide ((-576460752303423488) ≤ x.n)) true, .eqb (decide ((List.length (rowsT x.l) : Int) = 0)) true, .eqb (decide ((nats x.t) = ([] : List Nat))) true, .eqb (decide ((nats x.s) = ([] : List Nat))) true, .eqb (decide (6 < 22)) true, .eqb (Sx.inK .i64 6) true, .eqb (decide (0 ≤ 6)) true]) := by kernel_rfl
theorem pt6_1 (x : Tr) : funO 5 mth cal 1000 ir65 [(.ep 57 0 (rowK x 6))] [.go, .go, .go, .br true, .br true, .go, .go, .br true, .br true, .br true, .go, .br false] = some ((.b false), [.eqb (decide ((-576460752303423488) ≤ x.n)) false, .eqb (decide ((List.length (rowsT x.l) : Int) = 0)) true, .eqb (decide ((nats x.t) = ([] : List Nat))) true, .eqb (decide ((nats x.s) = ([] : List Nat))) true, .eqb (decide (6 < 22)) true, .eqb (Sx.inK .i64 6) true, .eqb (decide (0 ≤ 6)) true]) := by kernel_rfl
theorem pt6_2 (x : Tr) : funO 5 mth cal 1000 ir65 [(.ep 57 0 (rowK x 6))] [.go, .go, .go, .br true, .br true, .go, .go, .br true, .br true, .br false] = some ((.b false), [.eqb (decide ((List.length (rowsT x.l) : Int) = 0)) false, .eqb (decide ((nats x.t) = ([] : List Nat))) true, .eqb (decide ((nats x.s) = ([] : List Nat))) true, .eqb (decide (6 < 22)) true, .eqb (Sx.inK .i64 6) true, .eqb (decide (0 ≤ 6)) true]) := by kernel_rfl
theorem pt6_3 (x : Tr) : funO 5 mth cal 1000 ir65 [(.ep 57 0 (rowK x 6))] [.go, .go, .go, .br true, .br true, .go, .go, .br true, .br false] = some ((.b false), [.eqb (decide ((nats x.t) = ([] : List Nat))) false, .eqb (decide ((nats x.s) = ([] : List Nat))) true, .eqb (decide (6 < 22)) true, .eqb (Sx.inK .i64 6) true, .eqb (decide (0 ≤ 6)) true]) := by kernel_rfl
theorem pt6_4 (x : Tr) : funO 5 mth cal 1000 ir65 [(.ep 57 0 (rowK x 6))] [.go, .go, .go, .br true, .br true, .go, .go, .br false] = some ((.b false), [.eqb (decide ((nats x.s) = ([] : List Nat))) false, .eqb (decide (6 < 22)) true, .eqb (Sx.inK .i64 6) true, .eqb (decide (0 ≤ 6)) true]) := by kernel_rfl
theorem pt6 (x : Tr) : Pu 65 [(.ep 57 0 (rowK x 6))] (.b (bif decide ((nats x.s) = ([] : List Nat)) then (bif decide ((nats x.t) = ([] : List Nat)) then (bif decide ((List.length (rowsT x.l) : Int) = 0) then (bif decide ((-576460752303423488) ≤ x.n) then decide (x.n ≤ 576460752303423487) else false) else false) else false) else false)) := by
  cases h0 : (decide ((nats x.s) = ([] : List Nat)))
  case false =>
    exact pu_of Tryz.func65 irc65 (pt6_4 x) rfl ⟨h0, (of_eqb (by decide)), (of_eqb (by decide)), (of_eqb (by decide)), trivial⟩
  case true =>
    cases h1 : (decide ((nats x.t) = ([] : List Nat)))
    case false =>
      exact pu_of Tryz.func65 irc65 (pt6_3 x) rfl ⟨h1, h0, (of_eqb (by decide)), (of_eqb (by decide)), (of_eqb (by decide)), trivial⟩
    case true =>
      cases h2 : (decide ((List.length (rowsT x.l) : Int) = 0))
      case false =>
        exact pu_of Tryz.func65 irc65 (pt6_2 x) rfl ⟨h2, h1, h0, (of_eqb (by decide)), (of_eqb (by decide)), (of_eqb (by decide)), trivial⟩
      case true =>
        cases h3 : (decide ((-576460752303423488) ≤ x.n))
        case false =>
          exact pu_of Tryz.func65 irc65 (pt6_1 x) rfl ⟨h3, h2, h1, h0, (of_eqb (by decide)), (of_eqb (by decide)), (of_eqb (by decide)), trivial⟩
        case true =>
          exact pu_of Tryz.func65 irc65 (pt6_0 x) rfl ⟨h3, h2, h1, h0, (of_eqb (by decide)), (of_eqb (by decide)), (of_eqb (by decide)), trivial⟩
theorem pt7_0 (x : Tr) (vatom0 : Bool) : funO 5 mth cal 1000 ir65 [(.ep 57 0 (rowK x 7))] [.go, .go, .go, .br true, .br true, .go, .go, .br true, .br true, .br true, .cl [.as] (.b (vatom0))] = some ((.b (vatom0)), [.call 72 [(.s (nats x.s))] (.b (vatom0)), .eqb (freeL []) true, .eqb (TV.free (.s (nats x.s))) true, .eqb (decide ((List.length (rowsT x.l) : Int) = 0)) true, .eqb (decide ((nats x.t) = ([] : List Nat))) true, .eqb (decide (x.n = 0)) true, .eqb (decide (7 < 22)) true, .eqb (Sx.inK .i64 7) true, .eqb (decide (0 ≤ 7)) true]) := by kernel_rfl
theorem pt7_1 (x : Tr) : funO 5 mth cal 1000 ir65 [(.ep 57 0 (rowK x 7))] [.go, .go, .go, .br true, .br true, .go, .go, .br true, .br true, .br false] = some ((.b false), [.eqb (decide ((List.length (rowsT x.l) : Int) = 0)) false, .eqb (decide ((nats x.t) = ([] : List Nat))) true, .eqb (decide (x.n = 0)) true, .eqb (decide (7 < 22)) true, .eqb (Sx.inK .i64 7) true, .eqb (decide (0 ≤ 7)) true]) := by kernel_rfl
theorem pt7_2 (x : Tr) : funO 5 mth cal 1000 ir65 [(.ep 57 0 (rowK x 7))] [.go, .go, .go, .br true, .br true, .go, .go, .br true, .br false] = some ((.b false), [.eqb (decide ((nats x.t) = ([] : List Nat))) false, .eqb (decide (x.n = 0)) true, .eqb (decide (7 < 22)) true, .eqb (Sx.inK .i64 7) true, .eqb (decide (0 ≤ 7)) true]) := by kernel_rfl
theorem pt7_3 (x : Tr) : funO 5 mth cal 1000 ir65 [(.ep 57 0 (rowK x 7))] [.go, .go, .go, .br true, .br true, .go, .go, .br false] = some ((.b false), [.eqb (decide (x.n = 0)) false, .eqb (decide (7 < 22)) true, .eqb (Sx.inK .i64 7) true, .eqb (decide (0 ≤ 7)) true]) := by kernel_rfl
theorem pt7 (x : Tr) (vatom0 : Bool) (c0 : (decide (x.n = 0)) = true → (decide ((nats x.t) = ([] : List Nat))) = true → (decide ((List.length (rowsT x.l) : Int) = 0)) = true → Pu 72 [(.s (nats x.s))] (.b (vatom0))) : Pu 65 [(.ep 57 0 (rowK x 7))] (.b (bif decide (x.n = 0) then (bif decide ((nats x.t) = ([] : List Nat)) then (bif decide ((List.length (rowsT x.l) : Int) = 0) then vatom0 else false) else false) else false)) := by
  cases h0 : (decide (x.n = 0))
  case false =>
    exact pu_of Tryz.func65 irc65 (pt7_3 x) rfl ⟨h0, (of_eqb (by decide)), (of_eqb (by decide)), (of_eqb (by decide)), trivial⟩
  case true =>
    cases h1 : (decide ((nats x.t) = ([] : List Nat)))
    case false =>
      exact pu_of Tryz.func65 irc65 (pt7_2 x) rfl ⟨h1, h0, (of_eqb (by decide)), (of_eqb (by decide)), (of_eqb (by decide)), trivial⟩
    case true =>
      cases h2 : (decide ((List.length (rowsT x.l) : Int) = 0))
      case false =>
        exact pu_of Tryz.func65 irc65 (pt7_1 x) rfl ⟨h2, h1, h0, (of_eqb (by decide)), (of_eqb (by decide)), (of_eqb (by decide)), trivial⟩
      case true =>
        exact pu_of Tryz.func65 irc65 (pt7_0 x vatom0) rfl ⟨(c0 h0 h1 h2), rfl, rfl, h2, h1, h0, (of_eqb (by decide)), (of_eqb (by decide)), (of_eqb (by decide)), trivial⟩
theorem pt8_0 (x : Tr) : funO 5 mth cal 1000 ir65 [(.ep 57 0 (rowK x 8))] [.go, .go, .go, .br true, .br true, .go, .go, .br true, .br true, .br true, .kp] = some ((.b (decide ((List.length (rowsT x.l) : Int) = 0))), [.eqb (decide ((nats x.t) = ([] : List Nat))) true, .eqb (decide ((nats x.s) = ([] : List Nat))) true, .eqb (decide (x.n = 0)) true, .eqb (decide (8 < 22)) true, .eqb (Sx.inK .i64 8) true, .eqb (decide (0 ≤ 8)) true]) := by kernel_rfl
theorem pt8_1 (x : Tr) : funO 5 mth cal 1000 ir65 [(.ep 57 0 (rowK x 8))] [.go, .go, .go, .br true, .br true, .go, .go, .br true, .br true, .br false] = some ((.b false), [.eqb (decide ((nats x.t) = ([] : List Nat))) false, .eqb (decide ((nats x.s) = ([] : List Nat))) true, .eqb (decide (x.n = 0)) true, .eqb (decide (8 < 22)) true, .eqb (Sx.inK .i64 8) true, .eqb (decide (0 ≤ 8)) true]) := by kernel_rfl
theorem pt8_2 (x : Tr) : funO 5 mth cal 1000 ir65 [(.ep 57 0 (rowK x 8))] [.go, .go, .go, .br true, .br true, .go, .go, .br true, .br false] = some ((.b false), [.eqb (decide ((nats x.s) = ([] : List Nat))) false, .eqb (decide (x.n = 0)) true, .eqb (decide (8 < 22)) true, .eqb (Sx.inK .i64 8) true, .eqb (decide (0 ≤ 8)) true]) := by kernel_rfl
theorem pt8_3 (x : Tr) : funO 5 mth cal 1000 ir65 [(.ep 57 0 (rowK x 8))] [.go, .go, .go, .br true, .br true, .go, .go, .br false] = some ((.b false), [.eqb (decide (x.n = 0)) false, .eqb (decide (8 < 22)) true, .eqb (Sx.inK .i64 8) true, .eqb (decide (0 ≤ 8)) true]) := by kernel_rfl
theorem pt8 (x : Tr) : Pu 65 [(.ep 57 0 (rowK x 8))] (.b (bif decide (x.n = 0) then (bif decide ((nats x.s) = ([] : List Nat)) then (bif decide ((nats x.t) = ([] : List Nat)) then decide ((List.length (rowsT x.l) : Int) = 0) else false) else false) else false)) := by
  cases h0 : (decide (x.n = 0))
  case false =>
    exact pu_of Tryz.func65 irc65 (pt8_3 x) rfl ⟨h0, (of_eqb (by decide)), (of_eqb (by decide)), (of_eqb (by decide)), trivial⟩
  case true =>
    cases h1 : (decide ((nats x.s) = ([] : List Nat)))
    case false =>
      exact pu_of Tryz.func65 irc65 (pt8_2 x) rfl ⟨h1, h0, (of_eqb (by decide)), (of_eqb (by decide)), (of_eqb (by decide)), trivial⟩
    case true =>
      cases h2 : (decide ((nats x.t) = ([] : List Nat)))
      case false =>
        exact pu_of Tryz.func65 irc65 (pt8_1 x) rfl ⟨h2, h1, h0, (of_eqb (by decide)), (of_eqb (by decide)), (of_eqb (by decide)), trivial⟩
      case true =>
        exact pu_of Tryz.func65 irc65 (pt8_0 x) rfl ⟨h2, h1, h0, (of_eqb (by decide)), (of_eqb (by decide)), (of_eqb (by decide)), trivial⟩
theorem pt9_0 (x : Tr) (veach0 : Bool) : funO 5 mth cal 1000 ir65 [(.ep 57 0 (rowK x 9))] [.go, .go, .go, .br true, .br true, .go, .go, .br true, .br true, .br true, .br true, .cl [.as, .as] (.b (veach0))] = some ((.b (veach0)), [.call 73 [(.es 57 (.r (rowsT x.l))), (.f (.func 65) [] [])] (.b (veach0)), .eqb (freeL []) true, .eqb (TV.free (.f (.func 65) [] [])) true, .eqb (TV.free (.es 57 (.r (rowsT x.l)))) true, .eqb (decide ((List.length (rowsT x.l) : Int) = 2)) true, .eqb (decide ((nats x.t) = ([] : List Nat))) true, .eqb (decide ((nats x.s) = ([] : List Nat))) true, .eqb (decide (x.n = 0)) true, .eqb (decide (9 < 22)) true, .eqb (Sx.inK .i64 9) true, .eqb (decide (0 ≤ 9)) true]) := by kernel_rfl
theorem pt9_1 (x : Tr) : funO 5 mth cal 1000 ir65 [(.ep 57 0 (rowK x 9))] [.go, .go, .go, .br true, .br true, .go, .go, .br true, .br true, .br true, .br false] = some ((.b false), [.eqb (decide ((List.length (rowsT x.l) : Int) = 2)) false, .eqb (decide ((nats x.t) = ([] : List Nat))) true, .eqb (decide ((nats x.s) = ([] : List Nat))) true, .eqb (decide (x.n = 0)) true, .eqb (decide (9 < 22)) true, .eqb (Sx.inK .i64 9) true, .eqb (decide (0 ≤ 9)) true]) := by kernel_rfl
theorem pt9_2 (x : Tr) : funO 5 mth cal 1000 ir65 [(.ep 57 0 (rowK x 9))] [.go, .go, .go, .br true, .br true, .go, .go, .br true, .br true, .br false] = some ((.b false), [.eqb (decide ((nats x.t) = ([] : List Nat))) false, .eqb (decide ((nats x.s) = ([] : List Nat))) true, .eqb (decide (x.n = 0)) true, .eqb (decide (9 < 22)) true, .eqb (Sx.inK .i64 9) true, .eqb (decide (0 ≤ 9)) true]) := by kernel_rfl
theorem pt9_3 (x : Tr) : funO 5 mth cal 1000 ir65 [(.ep 57 0 (rowK x 9))] [.go, .go, .go, .br true, .br true, .go, .go, .br true, .br false] = some ((.b false), [.eqb (decide ((nats x.s) = ([] : List Nat))) false, .eqb (decide (x.n = 0)) true, .eqb (decide (9 < 22)) true, .eqb (Sx.inK .i64 9) true, .eqb (decide (0 ≤ 9)) true]) := by kernel_rfl
theorem pt9_4 (x : Tr) : funO 5 mth cal 1000 ir65 [(.ep 57 0 (rowK x 9))] [.go, .go, .go, .br true, .br true, .go, .go, .br false] = some ((.b false), [.eqb (decide (x.n = 0)) false, .eqb (decide (9 < 22)) true, .eqb (Sx.inK .i64 9) true, .eqb (decide (0 ≤ 9)) true]) := by kernel_rfl
theorem pt9 (x : Tr) (veach0 : Bool) (c0 : (decide (x.n = 0)) = true → (decide ((nats x.s) = ([] : List Nat))) = true → (decide ((nats x.t) = ([] : List Nat))) = true → (decide ((List.length (rowsT x.l) : Int) = 2)) = true → Pu 73 [(.es 57 (.r (rowsT x.l))), (.f (.func 65) [] [])] (.b (veach0))) : Pu 65 [(.ep 57 0 (rowK x 9))] (.b (bif decide (x.n = 0) then (bif decide ((nats x.s) = ([] : List Nat)) then (bif decide ((nats x.t) = ([] : List Nat)) then (bif decide ((List.length (rowsT x.l) : Int) = 2) then veach0 else false) else false) else false) else false)) := by
  cases h0 : (decide (x.n = 0))
  case false =>
    exact pu_of Tryz.func65 irc65 (pt9_4 x) rfl ⟨h0, (of_eqb (by decide)), (of_eqb (by decide)), (of_eqb (by decide)), trivial⟩
  case true =>
    cases h1 : (decide ((nats x.s) = ([] : List Nat)))
    case false =>
      exact pu_of Tryz.func65 irc65 (pt9_3 x) rfl ⟨h1, h0, (of_eqb (by decide)), (of_eqb (by decide)), (of_eqb (by decide)), trivial⟩
    case true =>
      cases h2 : (decide ((nats x.t) = ([] : List Nat)))
      case false =>
        exact pu_of Tryz.func65 irc65 (pt9_2 x) rfl ⟨h2, h1, h0, (of_eqb (by decide)), (of_eqb (by decide)), (of_eqb (by decide)), trivial⟩
      case true =>
        cases h3 : (decide ((List.length (rowsT x.l) : Int) = 2))
        case false =>
          exact pu_of Tryz.func65 irc65 (pt9_1 x) rfl ⟨h3, h2, h1, h0, (of_eqb (by decide)), (of_eqb (by decide)), (of_eqb (by decide)), trivial⟩
        case true =>
          exact pu_of Tryz.func65 irc65 (pt9_0 x veach0) rfl ⟨(c0 h0 h1 h2 h3), rfl, rfl, rfl, h3, h2, h1, h0, (of_eqb (by decide)), (of_eqb (by decide)), (of_eqb (by decide)), trivial⟩
theorem pt10_0 (x : Tr) (veach0 : Bool) : funO 5 mth cal 1000 ir65 [(.ep 57 0 (rowK x 10))] [.go, .go, .go, .br true, .br true, .go, .go, .br true, .br true, .br true, .cl [.as, .as] (.b (veach0))] = some ((.b (veach0)), [.call 73 [(.es 57 (.r (rowsT x.l))), (.f (.func 65) [] [])] (.b (veach0)), .eqb (freeL []) true, .eqb (TV.free (.f (.func 65) [] [])) true, .eqb (TV.free (.es 57 (.r (rowsT x.l)))) true, .eqb (decide ((nats x.t) = ([] : List Nat))) true, .eqb (decide ((nats x.s) = ([] : List Nat))) true, .eqb (decide (x.n = 0)) true, .eqb (decide (10 < 22)) true, .eqb (Sx.inK .i64 10) true, .eqb (decide (0 ≤ 10)) true]) := by kernel_rfl
theorem pt10_1 (x : Tr) : funO 5 mth cal 1000 ir65 [(.ep 57 0 (rowK x 10))] [.go, .go, .go, .br true, .br true, .go, .go, .br true, .br true, .br false] = some ((.b false), [.eqb (decide ((nats x.t) = ([] : List Nat))) false, .eqb (decide ((nats x.s) = ([] : List Nat))) true, .eqb (decide (x.n = 0)) true, .eqb (decide (10 < 22)) true, .eqb (Sx.inK .i64 10) true, .eqb (decide (0 ≤ 10)) true]) := by kernel_rfl
theorem pt10_2 (x : Tr) : funO 5 mth cal 1000 ir65 [(.ep 57 0 (rowK x 10))] [.go, .go, .go, .br true, .br true, .go, .go, .br true, .br false] = some ((.b false), [.eqb (decide ((nats x.s) = ([] : List Nat))) false, .eqb (decide (x.n = 0)) true, .eqb (decide (10 < 22)) true, .eqb (Sx.inK .i64 10) true, .eqb (decide (0 ≤ 10)) true]) := by kernel_rfl
theorem pt10_3 (x : Tr) : funO 5 mth cal 1000 ir65 [(.ep 57 0 (rowK x 10))] [.go, .go, .go, .br true, .br true, .go, .go, .br false] = some ((.b false), [.eqb (decide (x.n = 0)) false, .eqb (decide (10 < 22)) true, .eqb (Sx.inK .i64 10) true, .eqb (decide (0 ≤ 10)) true]) := by kernel_rfl
theorem pt10 (x : Tr) (veach0 : Bool) (c0 : (decide (x.n = 0)) = true → (decide ((nats x.s) = ([] : List Nat))) = true → (decide ((nats x.t) = ([] : List Nat))) = true → Pu 73 [(.es 57 (.r (rowsT x.l))), (.f (.func 65) [] [])] (.b (veach0))) : Pu 65 [(.ep 57 0 (rowK x 10))] (.b (bif decide (x.n = 0) then (bif decide ((nats x.s) = ([] : List Nat)) then (bif decide ((nats x.t) = ([] : List Nat)) then veach0 else false) else false) else false)) := by
  cases h0 : (decide (x.n = 0))
  case false =>
    exact pu_of Tryz.func65 irc65 (pt10_3 x) rfl ⟨h0, (of_eqb (by decide)), (of_eqb (by decide)), (of_eqb (by decide)), trivial⟩
  case true =>
    cases h1 : (decide ((nats x.s) = ([] : List Nat)))
    case false =>
      exact pu_of Tryz.func65 irc65 (pt10_2 x) rfl ⟨h1, h0, (of_eqb (by decide)), (of_eqb (by decide)), (of_eqb (by decide)), trivial⟩
    case true =>
      cases h2 : (decide ((nats x.t) = ([] : List Nat)))
      case false =>
        exact pu_of Tryz.func65 irc65 (pt10_1 x) rfl ⟨h2, h1, h0, (of_eqb (by decide)), (of_eqb (by decide)), (of_eqb (by decide)), trivial⟩
      case true =>
        exact pu_of Tryz.func65 irc65 (pt10_0 x veach0) rfl ⟨(c0 h0 h1 h2), rfl, rfl, rfl, h2, h1, h0, (of_eqb (by decide)), (of_eqb (by decide)), (of_eqb (by decide)), trivial⟩
theorem pt11_0 (x : Tr) : funO 5 mth cal 1000 ir65 [(.ep 57 0 (rowK x 11))] [.go, .go, .go, .br true, .br true] = some ((.b false), [.eqb (decide (11 < 22)) true, .eqb (Sx.inK .i64 11) true, .eqb (decide (0 ≤ 11)) true]) := by kernel_rfl
theorem pt11 (x : Tr) : Pu 65 [(.ep 57 0 (rowK x 11))] (.b false) := by
  exact pu_of Tryz.func65 irc65 (pt11_0 x) rfl ⟨(of_eqb (by decide)), (of_eqb (by decide)), (of_eqb (by decide)), trivial⟩
theorem pt12_0 (x : Tr) : funO 5 mth cal 1000 ir65 [(.ep 57 0 (rowK x 12))] [.go, .go, .go, .br true, .br true] = some ((.b false), [.eqb (decide (12 < 22)) true, .eqb (Sx.inK .i64 12) true, .eqb (decide (0 ≤ 12)) true]) := by kernel_rfl
theorem pt12 (x : Tr) : Pu 65 [(.ep 57 0 (rowK x 12))] (.b false) := by
  exact pu_of Tryz.func65 irc65 (pt12_0 x) rfl ⟨(of_eqb (by decide)), (of_eqb (by decide)), (of_eqb (by decide)), trivial⟩
theorem pt13_0 (x : Tr) : funO 5 mth cal 1000 ir65 [(.ep 57 0 (rowK x 13))] [.go, .go, .go, .br true, .br true] = some ((.b false), [.eqb (decide (13 < 22)) true, .eqb (Sx.inK .i64 13) true, .eqb (decide (0 ≤ 13)) true]) := by kernel_rfl
theorem pt13 (x : Tr) : Pu 65 [(.ep 57 0 (rowK x 13))] (.b false) := by
  exact pu_of Tryz.func65 irc65 (pt13_0 x) rfl ⟨(of_eqb (by decide)), (of_eqb (by decide)), (of_eqb (by decide)), trivial⟩
theorem pt14_0 (x : Tr) : funO 5 mth cal 1000 ir65 [(.ep 57 0 (rowK x 14))] [.go, .go, .go, .br true, .br true] = some ((.b false), [.eqb (decide (14 < 22)) true, .eqb (Sx.inK .i64 14) true, .eqb (decide (0 ≤ 14)) true]) := by kernel_rfl
theorem pt14 (x : Tr) : Pu 65 [(.ep 57 0 (rowK x 14))] (.b false) := by
  exact pu_of Tryz.func65 irc65 (pt14_0 x) rfl ⟨(of_eqb (by decide)), (of_eqb (by decide)), (of_eqb (by decide)), trivial⟩
theorem pt15_0 (x : Tr) : funO 5 mth cal 1000 ir65 [(.ep 57 0 (rowK x 15))] [.go, .go, .go, .br true, .br true] = some ((.b false), [.eqb (decide (15 < 22)) true, .eqb (Sx.inK .i64 15) true, .eqb (decide (0 ≤ 15)) true]) := by kernel_rfl
theorem pt15 (x : Tr) : Pu 65 [(.ep 57 0 (rowK x 15))] (.b false) := by
  exact pu_of Tryz.func65 irc65 (pt15_0 x) rfl ⟨(of_eqb (by decide)), (of_eqb (by decide)), (of_eqb (by decide)), trivial⟩
theorem pt16_0 (x : Tr) : funO 5 mth cal 1000 ir65 [(.ep 57 0 (rowK x 16))] [.go, .go, .go, .br true, .br true] = some ((.b false), [.eqb (decide (16 < 22)) true, .eqb (Sx.inK .i64 16) true, .eqb (decide (0 ≤ 16)) true]) := by kernel_rfl
theorem pt16 (x : Tr) : Pu 65 [(.ep 57 0 (rowK x 16))] (.b false) := by
  exact pu_of Tryz.func65 irc65 (pt16_0 x) rfl ⟨(of_eqb (by decide)), (of_eqb (by decide)), (of_eqb (by decide)), trivial⟩
theorem pt17_0 (x : Tr) : funO 5 mth cal 1000 ir65 [(.ep 57 0 (rowK x 17))] [.go, .go, .go, .br true, .br true] = some ((.b false), [.eqb (decide (17 < 22)) true, .eqb (Sx.inK .i64 17) true, .eqb (decide (0 ≤ 17)) true]) := by kernel_rfl
theorem pt17 (x : Tr) : Pu 65 [(.ep 57 0 (rowK x 17))] (.b false) := by
  exact pu_of Tryz.func65 irc65 (pt17_0 x) rfl ⟨(of_eqb (by decide)), (of_eqb (by decide)), (of_eqb (by decide)), trivial⟩
theorem pt18_0 (x : Tr) : funO 5 mth cal 1000 ir65 [(.ep 57 0 (rowK x 18))] [.go, .go, .go, .br true, .br true] = some ((.b false), [.eqb (decide (18 < 22)) true, .eqb (Sx.inK .i64 18) true, .eqb (decide (0 ≤ 18)) true]) := by kernel_rfl
theorem pt18 (x : Tr) : Pu 65 [(.ep 57 0 (rowK x 18))] (.b false) := by
  exact pu_of Tryz.func65 irc65 (pt18_0 x) rfl ⟨(of_eqb (by decide)), (of_eqb (by decide)), (of_eqb (by decide)), trivial⟩
theorem pt19_0 (x : Tr) : funO 5 mth cal 1000 ir65 [(.ep 57 0 (rowK x 19))] [.go, .go, .go, .br true, .br true] = some ((.b false), [.eqb (decide (19 < 22)) true, .eqb (Sx.inK .i64 19) true, .eqb (decide (0 ≤ 19)) true]) := by kernel_rfl
theorem pt19 (x : Tr) : Pu 65 [(.ep 57 0 (rowK x 19))] (.b false) := by
  exact pu_of Tryz.func65 irc65 (pt19_0 x) rfl ⟨(of_eqb (by decide)), (of_eqb (by decide)), (of_eqb (by decide)), trivial⟩
theorem pt20_0 (x : Tr) : funO 5 mth cal 1000 ir65 [(.ep 57 0 (rowK x 20))] [.go, .go, .go, .br true, .br true] = some ((.b false), [.eqb (decide (20 < 22)) true, .eqb (Sx.inK .i64 20) true, .eqb (decide (0 ≤ 20)) true]) := by kernel_rfl
theorem pt20 (x : Tr) : Pu 65 [(.ep 57 0 (rowK x 20))] (.b false) := by
  exact pu_of Tryz.func65 irc65 (pt20_0 x) rfl ⟨(of_eqb (by decide)), (of_eqb (by decide)), (of_eqb (by decide)), trivial⟩
theorem pt21_0 (x : Tr) : funO 5 mth cal 1000 ir65 [(.ep 57 0 (rowK x 21))] [.go, .go, .go, .br true, .br true] = some ((.b false), [.eqb (decide (21 < 22)) true, .eqb (Sx.inK .i64 21) true, .eqb (decide (0 ≤ 21)) true]) := by kernel_rfl
theorem pt21 (x : Tr) : Pu 65 [(.ep 57 0 (rowK x 21))] (.b false) := by
  exact pu_of Tryz.func65 irc65 (pt21_0 x) rfl ⟨(of_eqb (by decide)), (of_eqb (by decide)), (of_eqb (by decide)), trivial⟩
theorem ptO_1 (x : Tr) : funO 5 mth cal 1000 ir65 [(.ep 57 0 (rowV x))] [.go, .go, .go, .br true, .br false] = some ((.b false), [.eqb (decide (x.k < 22)) false, .eqb (Sx.inK .i64 x.k) true, .eqb (decide (0 ≤ x.k)) true]) := by kernel_rfl
theorem ptO_2 (x : Tr) : funO 5 mth cal 1000 ir65 [(.ep 57 0 (rowV x))] [.go, .go, .go, .br false] = some ((.b false), [.eqb (decide (0 ≤ x.k)) false]) := by kernel_rfl
theorem ptO (x : Tr) (s0 : (decide (0 ≤ x.k)) = true → (Sx.inK .i64 x.k) = true) (d0 : (decide (0 ≤ x.k)) = true → (decide (x.k < 22)) = true → False) : Pu 65 [(.ep 57 0 (rowV x))] (.b (bif decide (0 ≤ x.k) then (bif decide (x.k < 22) then false else false) else false)) := by
  cases h0 : (decide (0 ≤ x.k))
  case false =>
    exact pu_of Tryz.func65 irc65 (ptO_2 x) rfl ⟨h0, trivial⟩
  case true =>
    cases h1 : (decide (x.k < 22))
    case false =>
      exact pu_of Tryz.func65 irc65 (ptO_1 x) rfl ⟨h1, (s0 h0), h0, trivial⟩
    case true =>
      exact (d0 h0 h1).elim
theorem gg0_0 (x : Tr) : funO 5 mth cal 1000 ir67 [(.ep 57 0 (rowK x 0))] [.go, .go, .go, .go, .br true, .br true] = some ((.b false), [.eqb (decide (0 < 22)) true, .eqb (Sx.inK .i64 0) true, .eqb (decide (0 ≤ 0)) true]) := by kernel_rfl
theorem gg0 (x : Tr) : Pu 67 [(.ep 57 0 (rowK x 0))] (.b false) := by
  exact pu_of Tryz.func67 irc67 (gg0_0 x) rfl ⟨(of_eqb (by decide)), (of_eqb (by decide)), (of_eqb (by decide)), trivial⟩
theorem gg1_0 (x : Tr) : funO 5 mth cal 1000 ir67 [(.ep 57 0 (rowK x 1))] [.go, .go, .go, .go, .br true, .br true] = some ((.b false), [.eqb (decide (1 < 22)) true, .eqb (Sx.inK .i64 1) true, .eqb (decide (0 ≤ 1)) true]) := by kernel_rfl
theorem gg1 (x : Tr) : Pu 67 [(.ep 57 0 (rowK x 1))] (.b false) := by
  exact pu_of Tryz.func67 irc67 (gg1_0 x) rfl ⟨(of_eqb (by decide)), (of_eqb (by decide)), (of_eqb (by decide)), trivial⟩
theorem gg2_0 (x : Tr) : funO 5 mth cal 1000 ir67 [(.ep 57 0 (rowK x 2))] [.go, .go, .go, .go, .br true, .br true] = some ((.b false), [.eqb (decide (2 < 22)) true, .eqb (Sx.inK .i64 2) true, .eqb (decide (0 ≤ 2)) true]) := by kernel_rfl
theorem gg2 (x : Tr) : Pu 67 [(.ep 57 0 (rowK x 2))] (.b false) := by
  exact pu_of Tryz.func67 irc67 (gg2_0 x) rfl ⟨(of_eqb (by decide)), (of_eqb (by decide)), (of_eqb (by decide)), trivial⟩
theorem gg3_0 (x : Tr) : funO 5 mth cal 1000 ir67 [(.ep 57 0 (rowK x 3))] [.go, .go, .go, .go, .br true, .br true] = some ((.b false), [.eqb (decide (3 < 22)) true, .eqb (Sx.inK .i64 3) true, .eqb (decide (0 ≤ 3)) true]) := by kernel_rfl
theorem gg3 (x : Tr) : Pu 67 [(.ep 57 0 (rowK x 3))] (.b false) := by
  exact pu_of Tryz.func67 irc67 (gg3_0 x) rfl ⟨(of_eqb (by decide)), (of_eqb (by decide)), (of_eqb (by decide)), trivial⟩
theorem gg4_0 (x : Tr) : funO 5 mth cal 1000 ir67 [(.ep 57 0 (rowK x 4))] [.go, .go, .go, .go, .br true, .br true] = some ((.b false), [.eqb (decide (4 < 22)) true, .eqb (Sx.inK .i64 4) true, .eqb (decide (0 ≤ 4)) true]) := by kernel_rfl
theorem gg4 (x : Tr) : Pu 67 [(.ep 57 0 (rowK x 4))] (.b false) := by
  exact pu_of Tryz.func67 irc67 (gg4_0 x) rfl ⟨(of_eqb (by decide)), (of_eqb (by decide)), (of_eqb (by decide)), trivial⟩
theorem gg5_0 (x : Tr) (vname0 : Bool) : funO 5 mth cal 1000 ir67 [(.ep 57 0 (rowK x 5))] [.go, .go, .go, .go, .br true, .br true, .go, .go, .br true, .br true, .br true, .cl [.as] (.b (vname0))] = some ((.b (vname0)), [.call 179 [(.s (nats x.s))] (.b (vname0)), .eqb (freeL []) true, .eqb (TV.free (.s (nats x.s))) true, .eqb (decide ((List.length (rowsT x.l) : Int) = 0)) true, .eqb (decide ((nats x.t) = ([] : List Nat))) true, .eqb (decide (x.n = 0)) true, .eqb (decide (5 < 22)) true, .eqb (Sx.inK .i64 5) true, .eqb (decide (0 ≤ 5)) true]) := by kernel_rfl
theorem gg5_1 (x : Tr) : funO 5 mth cal 1000 ir67 [(.ep 57 0 (rowK x 5))] [.go, .go, .go, .go, .br true, .br true, .go, .go, .br true, .br true, .br false] = some ((.b false), [.eqb (decide ((List.length (rowsT x.l) : Int) = 0)) false, .eqb (decide ((nats x.t) = ([] : List Nat))) true, .eqb (decide (x.n = 0)) true, .eqb (decide (5 < 22)) true, .eqb (Sx.inK .i64 5) true, .eqb (decide (0 ≤ 5)) true]) := by kernel_rfl
theorem gg5_2 (x : Tr) : funO 5 mth cal 1000 ir67 [(.ep 57 0 (rowK x 5))] [.go, .go, .go, .go, .br true, .br true, .go, .go, .br true, .br false] = some ((.b false), [.eqb (decide ((nats x.t) = ([] : List Nat))) false, .eqb (decide (x.n = 0)) true, .eqb (decide (5 < 22)) true, .eqb (Sx.inK .i64 5) true, .eqb (decide (0 ≤ 5)) true]) := by kernel_rfl
theorem gg5_3 (x : Tr) : funO 5 mth cal 1000 ir67 [(.ep 57 0 (rowK x 5))] [.go, .go, .go, .go, .br true, .br true, .go, .go, .br false] = some ((.b false), [.eqb (decide (x.n = 0)) false, .eqb (decide (5 < 22)) true, .eqb (Sx.inK .i64 5) true, .eqb (decide (0 ≤ 5)) true]) := by kernel_rfl
theorem gg5 (x : Tr) (vname0 : Bool) (c0 : (decide (x.n = 0)) = true → (decide ((nats x.t) = ([] : List Nat))) = true → (decide ((List.length (rowsT x.l) : Int) = 0)) = true → Pu 179 [(.s (nats x.s))] (.b (vname0))) : Pu 67 [(.ep 57 0 (rowK x 5))] (.b (bif decide (x.n = 0) then (bif decide ((nats x.t) = ([] : List Nat)) then (bif decide ((List.length (rowsT x.l) : Int) = 0) then vname0 else false) else false) else false)) := by
  cases h0 : (decide (x.n = 0))
  case false =>
    exact pu_of Tryz.func67 irc67 (gg5_3 x) rfl ⟨h0, (of_eqb (by decide)), (of_eqb (by decide)), (of_eqb (by decide)), trivial⟩
  case true =>
    cases h1 : (decide ((nats x.t) = ([] : List Nat)))
    case false =>
      exact pu_of Tryz.func67 irc67 (gg5_2 x) rfl ⟨h1, h0, (of_eqb (by decide)), (of_eqb (by decide)), (of_eqb (by decide)), trivial⟩
    case true =>
      cases h2 : (decide ((List.length (rowsT x.l) : Int) = 0))
      case false =>
        exact pu_of Tryz.func67 irc67 (gg5_1 x) rfl ⟨h2, h1, h0, (of_eqb (by decide)), (of_eqb (by decide)), (of_eqb (by decide)), trivial⟩
      case true =>
        exact pu_of Tryz.func67 irc67 (gg5_0 x vname0) rfl ⟨(c0 h0 h1 h2), rfl, rfl, h2, h1, h0, (of_eqb (by decide)), (of_eqb (by decide)), (of_eqb (by decide)), trivial⟩
theorem gg6_0 (x : Tr) : funO 5 mth cal 1000 ir67 [(.ep 57 0 (rowK x 6))] [.go, .go, .go, .go, .br true, .br true, .go, .go, .br true, .br true, .br true, .go, .br true, .kp] = some ((.b (decide (x.n ≤ 576460752303423487))), [.eqb (decide ((-576460752303423488) ≤ x.n)) true, .eqb (decide ((List.length (rowsT x.l) : Int) = 0)) true, .eqb (decide ((nats x.t) = ([] : List Nat))) true, .eqb (decide ((nats x.s) = ([] : List Nat))) true, .eqb (decide (6 < 22)) true, .eqb (Sx.inK .i64 6) true, .eqb (decide (0 ≤ 6)) true]) := by kernel_rfl
theorem gg6_1 (x : Tr) : funO 5 mth cal 1000 ir67 [(.ep 57 0 (rowK x 6))] [.go, .go, .go, .go, .br true, .br true, .go, .go, .br true, .br true, .br true, .go, .br false] = some ((.b false), [.eqb (decide ((-576460752303423488) ≤ x.n)) false, .eqb (decide ((List.length (rowsT x.l) : Int) = 0)) true, .eqb (decide ((nats x.t) = ([] : List Nat))) true, .eqb (decide ((nats x.s) = ([] : List Nat))) true, .eqb (decide (6 < 22)) true, .eqb (Sx.inK .i64 6) true, .eqb (decide (0 ≤ 6)) true]) := by kernel_rfl
theorem gg6_2 (x : Tr) : funO 5 mth cal 1000 ir67 [(.ep 57 0 (rowK x 6))] [.go, .go, .go, .go, .br true, .br true, .go, .go, .br true, .br true, .br false] = some ((.b false), [.eqb (decide ((List.length (rowsT x.l) : Int) = 0)) false, .eqb (decide ((nats x.t) = ([] : List Nat))) true, .eqb (decide ((nats x.s) = ([] : List Nat))) true, .eqb (decide (6 < 22)) true, .eqb (Sx.inK .i64 6) true, .eqb (decide (0 ≤ 6)) true]) := by kernel_rfl
theorem gg6_3 (x : Tr) : funO 5 mth cal 1000 ir67 [(.ep 57 0 (rowK x 6))] [.go, .go, .go, .go, .br true, .br true, .go, .go, .br true, .br false] = some ((.b false), [.eqb (decide ((nats x.t) = ([] : List Nat))) false, .eqb (decide ((nats x.s) = ([] : List Nat))) true, .eqb (decide (6 < 22)) true, .eqb (Sx.inK .i64 6) true, .eqb (decide (0 ≤ 6)) true]) := by kernel_rfl
theorem gg6_4 (x : Tr) : funO 5 mth cal 1000 ir67 [(.ep 57 0 (rowK x 6))] [.go, .go, .go, .go, .br true, .br true, .go, .go, .br false] = some ((.b false), [.eqb (decide ((nats x.s) = ([] : List Nat))) false, .eqb (decide (6 < 22)) true, .eqb (Sx.inK .i64 6) true, .eqb (decide (0 ≤ 6)) true]) := by kernel_rfl
theorem gg6 (x : Tr) : Pu 67 [(.ep 57 0 (rowK x 6))] (.b (bif decide ((nats x.s) = ([] : List Nat)) then (bif decide ((nats x.t) = ([] : List Nat)) then (bif decide ((List.length (rowsT x.l) : Int) = 0) then (bif decide ((-576460752303423488) ≤ x.n) then decide (x.n ≤ 576460752303423487) else false) else false) else false) else false)) := by
  cases h0 : (decide ((nats x.s) = ([] : List Nat)))
  case false =>
    exact pu_of Tryz.func67 irc67 (gg6_4 x) rfl ⟨h0, (of_eqb (by decide)), (of_eqb (by decide)), (of_eqb (by decide)), trivial⟩
  case true =>
    cases h1 : (decide ((nats x.t) = ([] : List Nat)))
    case false =>
      exact pu_of Tryz.func67 irc67 (gg6_3 x) rfl ⟨h1, h0, (of_eqb (by decide)), (of_eqb (by decide)), (of_eqb (by decide)), trivial⟩
    case true =>
      cases h2 : (decide ((List.length (rowsT x.l) : Int) = 0))
      case false =>
        exact pu_of Tryz.func67 irc67 (gg6_2 x) rfl ⟨h2, h1, h0, (of_eqb (by decide)), (of_eqb (by decide)), (of_eqb (by decide)), trivial⟩
      case true =>
        cases h3 : (decide ((-576460752303423488) ≤ x.n))
        case false =>
          exact pu_of Tryz.func67 irc67 (gg6_1 x) rfl ⟨h3, h2, h1, h0, (of_eqb (by decide)), (of_eqb (by decide)), (of_eqb (by decide)), trivial⟩
        case true =>
          exact pu_of Tryz.func67 irc67 (gg6_0 x) rfl ⟨h3, h2, h1, h0, (of_eqb (by decide)), (of_eqb (by decide)), (of_eqb (by decide)), trivial⟩
theorem gg7_0 (x : Tr) (vatom0 : Bool) : funO 5 mth cal 1000 ir67 [(.ep 57 0 (rowK x 7))] [.go, .go, .go, .go, .br true, .br true, .go, .go, .br true, .br true, .br true, .cl [.as] (.b (vatom0))] = some ((.b (vatom0)), [.call 72 [(.s (nats x.s))] (.b (vatom0)), .eqb (freeL []) true, .eqb (TV.free (.s (nats x.s))) true, .eqb (decide ((List.length (rowsT x.l) : Int) = 0)) true, .eqb (decide ((nats x.t) = ([] : List Nat))) true, .eqb (decide (x.n = 0)) true, .eqb (decide (7 < 22)) true, .eqb (Sx.inK .i64 7) true, .eqb (decide (0 ≤ 7)) true]) := by kernel_rfl
theorem gg7_1 (x : Tr) : funO 5 mth cal 1000 ir67 [(.ep 57 0 (rowK x 7))] [.go, .go, .go, .go, .br true, .br true, .go, .go, .br true, .br true, .br false] = some ((.b false), [.eqb (decide ((List.length (rowsT x.l) : Int) = 0)) false, .eqb (decide ((nats x.t) = ([] : List Nat))) true, .eqb (decide (x.n = 0)) true, .eqb (decide (7 < 22)) true, .eqb (Sx.inK .i64 7) true, .eqb (decide (0 ≤ 7)) true]) := by kernel_rfl
theorem gg7_2 (x : Tr) : funO 5 mth cal 1000 ir67 [(.ep 57 0 (rowK x 7))] [.go, .go, .go, .go, .br true, .br true, .go, .go, .br true, .br false] = some ((.b false), [.eqb (decide ((nats x.t) = ([] : List Nat))) false, .eqb (decide (x.n = 0)) true, .eqb (decide (7 < 22)) true, .eqb (Sx.inK .i64 7) true, .eqb (decide (0 ≤ 7)) true]) := by kernel_rfl
theorem gg7_3 (x : Tr) : funO 5 mth cal 1000 ir67 [(.ep 57 0 (rowK x 7))] [.go, .go, .go, .go, .br true, .br true, .go, .go, .br false] = some ((.b false), [.eqb (decide (x.n = 0)) false, .eqb (decide (7 < 22)) true, .eqb (Sx.inK .i64 7) true, .eqb (decide (0 ≤ 7)) true]) := by kernel_rfl
theorem gg7 (x : Tr) (vatom0 : Bool) (c0 : (decide (x.n = 0)) = true → (decide ((nats x.t) = ([] : List Nat))) = true → (decide ((List.length (rowsT x.l) : Int) = 0)) = true → Pu 72 [(.s (nats x.s))] (.b (vatom0))) : Pu 67 [(.ep 57 0 (rowK x 7))] (.b (bif decide (x.n = 0) then (bif decide ((nats x.t) = ([] : List Nat)) then (bif decide ((List.length (rowsT x.l) : Int) = 0) then vatom0 else false) else false) else false)) := by
  cases h0 : (decide (x.n = 0))
  case false =>
    exact pu_of Tryz.func67 irc67 (gg7_3 x) rfl ⟨h0, (of_eqb (by decide)), (of_eqb (by decide)), (of_eqb (by decide)), trivial⟩
  case true =>
    cases h1 : (decide ((nats x.t) = ([] : List Nat)))
    case false =>
      exact pu_of Tryz.func67 irc67 (gg7_2 x) rfl ⟨h1, h0, (of_eqb (by decide)), (of_eqb (by decide)), (of_eqb (by decide)), trivial⟩
    case true =>
      cases h2 : (decide ((List.length (rowsT x.l) : Int) = 0))
      case false =>
        exact pu_of Tryz.func67 irc67 (gg7_1 x) rfl ⟨h2, h1, h0, (of_eqb (by decide)), (of_eqb (by decide)), (of_eqb (by decide)), trivial⟩
      case true =>
        exact pu_of Tryz.func67 irc67 (gg7_0 x vatom0) rfl ⟨(c0 h0 h1 h2), rfl, rfl, h2, h1, h0, (of_eqb (by decide)), (of_eqb (by decide)), (of_eqb (by decide)), trivial⟩
theorem gg8_0 (x : Tr) : funO 5 mth cal 1000 ir67 [(.ep 57 0 (rowK x 8))] [.go, .go, .go, .go, .br true, .br true, .go, .go, .br true, .br true, .br true, .kp] = some ((.b (decide ((List.length (rowsT x.l) : Int) = 0))), [.eqb (decide ((nats x.t) = ([] : List Nat))) true, .eqb (decide ((nats x.s) = ([] : List Nat))) true, .eqb (decide (x.n = 0)) true, .eqb (decide (8 < 22)) true, .eqb (Sx.inK .i64 8) true, .eqb (decide (0 ≤ 8)) true]) := by kernel_rfl
theorem gg8_1 (x : Tr) : funO 5 mth cal 1000 ir67 [(.ep 57 0 (rowK x 8))] [.go, .go, .go, .go, .br true, .br true, .go, .go, .br true, .br true, .br false] = some ((.b false), [.eqb (decide ((nats x.t) = ([] : List Nat))) false, .eqb (decide ((nats x.s) = ([] : List Nat))) true, .eqb (decide (x.n = 0)) true, .eqb (decide (8 < 22)) true, .eqb (Sx.inK .i64 8) true, .eqb (decide (0 ≤ 8)) true]) := by kernel_rfl
theorem gg8_2 (x : Tr) : funO 5 mth cal 1000 ir67 [(.ep 57 0 (rowK x 8))] [.go, .go, .go, .go, .br true, .br true, .go, .go, .br true, .br false] = some ((.b false), [.eqb (decide ((nats x.s) = ([] : List Nat))) false, .eqb (decide (x.n = 0)) true, .eqb (decide (8 < 22)) true, .eqb (Sx.inK .i64 8) true, .eqb (decide (0 ≤ 8)) true]) := by kernel_rfl
theorem gg8_3 (x : Tr) : funO 5 mth cal 1000 ir67 [(.ep 57 0 (rowK x 8))] [.go, .go, .go, .go, .br true, .br true, .go, .go, .br false] = some ((.b false), [.eqb (decide (x.n = 0)) false, .eqb (decide (8 < 22)) true, .eqb (Sx.inK .i64 8) true, .eqb (decide (0 ≤ 8)) true]) := by kernel_rfl
theorem gg8 (x : Tr) : Pu 67 [(.ep 57 0 (rowK x 8))] (.b (bif decide (x.n = 0) then (bif decide ((nats x.s) = ([] : List Nat)) then (bif decide ((nats x.t) = ([] : List Nat)) then decide ((List.length (rowsT x.l) : Int) = 0) else false) else false) else false)) := by
  cases h0 : (decide (x.n = 0))
  case false =>
    exact pu_of Tryz.func67 irc67 (gg8_3 x) rfl ⟨h0, (of_eqb (by decide)), (of_eqb (by decide)), (of_eqb (by decide)), trivial⟩
  case true =>
    cases h1 : (decide ((nats x.s) = ([] : List Nat)))
    case false =>
      exact pu_of Tryz.func67 irc67 (gg8_2 x) rfl ⟨h1, h0, (of_eqb (by decide)), (of_eqb (by decide)), (of_eqb (by decide)), trivial⟩
    case true =>
      cases h2 : (decide ((nats x.t) = ([] : List Nat)))
      case false =>
        exact pu_of Tryz.func67 irc67 (gg8_1 x) rfl ⟨h2, h1, h0, (of_eqb (by decide)), (of_eqb (by decide)), (of_eqb (by decide)), trivial⟩
      case true =>
        exact pu_of Tryz.func67 irc67 (gg8_0 x) rfl ⟨h2, h1, h0, (of_eqb (by decide)), (of_eqb (by decide)), (of_eqb (by decide)), trivial⟩
theorem gg9_0 (x : Tr) (veach0 : Bool) : funO 5 mth cal 1000 ir67 [(.ep 57 0 (rowK x 9))] [.go, .go, .go, .go, .br true, .br true, .go, .go, .br true, .br true, .br true, .br true, .cl [.as, .as] (.b (veach0))] = some ((.b (veach0)), [.call 73 [(.es 57 (.r (rowsT x.l))), (.f (.func 67) [] [])] (.b (veach0)), .eqb (freeL []) true, .eqb (TV.free (.f (.func 67) [] [])) true, .eqb (TV.free (.es 57 (.r (rowsT x.l)))) true, .eqb (decide ((List.length (rowsT x.l) : Int) = 2)) true, .eqb (decide ((nats x.t) = ([] : List Nat))) true, .eqb (decide ((nats x.s) = ([] : List Nat))) true, .eqb (decide (x.n = 0)) true, .eqb (decide (9 < 22)) true, .eqb (Sx.inK .i64 9) true, .eqb (decide (0 ≤ 9)) true]) := by kernel_rfl
theorem gg9_1 (x : Tr) : funO 5 mth cal 1000 ir67 [(.ep 57 0 (rowK x 9))] [.go, .go, .go, .go, .br true, .br true, .go, .go, .br true, .br true, .br true, .br false] = some ((.b false), [.eqb (decide ((List.length (rowsT x.l) : Int) = 2)) false, .eqb (decide ((nats x.t) = ([] : List Nat))) true, .eqb (decide ((nats x.s) = ([] : List Nat))) true, .eqb (decide (x.n = 0)) true, .eqb (decide (9 < 22)) true, .eqb (Sx.inK .i64 9) true, .eqb (decide (0 ≤ 9)) true]) := by kernel_rfl
theorem gg9_2 (x : Tr) : funO 5 mth cal 1000 ir67 [(.ep 57 0 (rowK x 9))] [.go, .go, .go, .go, .br true, .br true, .go, .go, .br true, .br true, .br false] = some ((.b false), [.eqb (decide ((nats x.t) = ([] : List Nat))) false, .eqb (decide ((nats x.s) = ([] : List Nat))) true, .eqb (decide (x.n = 0)) true, .eqb (decide (9 < 22)) true, .eqb (Sx.inK .i64 9) true, .eqb (decide (0 ≤ 9)) true]) := by kernel_rfl
theorem gg9_3 (x : Tr) : funO 5 mth cal 1000 ir67 [(.ep 57 0 (rowK x 9))] [.go, .go, .go, .go, .br true, .br true, .go, .go, .br true, .br false] = some ((.b false), [.eqb (decide ((nats x.s) = ([] : List Nat))) false, .eqb (decide (x.n = 0)) true, .eqb (decide (9 < 22)) true, .eqb (Sx.inK .i64 9) true, .eqb (decide (0 ≤ 9)) true]) := by kernel_rfl
theorem gg9_4 (x : Tr) : funO 5 mth cal 1000 ir67 [(.ep 57 0 (rowK x 9))] [.go, .go, .go, .go, .br true, .br true, .go, .go, .br false] = some ((.b false), [.eqb (decide (x.n = 0)) false, .eqb (decide (9 < 22)) true, .eqb (Sx.inK .i64 9) true, .eqb (decide (0 ≤ 9)) true]) := by kernel_rfl
theorem gg9 (x : Tr) (veach0 : Bool) (c0 : (decide (x.n = 0)) = true → (decide ((nats x.s) = ([] : List Nat))) = true → (decide ((nats x.t) = ([] : List Nat))) = true → (decide ((List.length (rowsT x.l) : Int) = 2)) = true → Pu 73 [(.es 57 (.r (rowsT x.l))), (.f (.func 67) [] [])] (.b (veach0))) : Pu 67 [(.ep 57 0 (rowK x 9))] (.b (bif decide (x.n = 0) then (bif decide ((nats x.s) = ([] : List Nat)) then (bif decide ((nats x.t) = ([] : List Nat)) then (bif decide ((List.length (rowsT x.l) : Int) = 2) then veach0 else false) else false) else false) else false)) := by
  cases h0 : (decide (x.n = 0))
  case false =>
    exact pu_of Tryz.func67 irc67 (gg9_4 x) rfl ⟨h0, (of_eqb (by decide)), (of_eqb (by decide)), (of_eqb (by decide)), trivial⟩
  case true =>
    cases h1 : (decide ((nats x.s) = ([] : List Nat)))
    case false =>
      exact pu_of Tryz.func67 irc67 (gg9_3 x) rfl ⟨h1, h0, (of_eqb (by decide)), (of_eqb (by decide)), (of_eqb (by decide)), trivial⟩
    case true =>
      cases h2 : (decide ((nats x.t) = ([] : List Nat)))
      case false =>
        exact pu_of Tryz.func67 irc67 (gg9_2 x) rfl ⟨h2, h1, h0, (of_eqb (by decide)), (of_eqb (by decide)), (of_eqb (by decide)), trivial⟩
      case true =>
        cases h3 : (decide ((List.length (rowsT x.l) : Int) = 2))
        case false =>
          exact pu_of Tryz.func67 irc67 (gg9_1 x) rfl ⟨h3, h2, h1, h0, (of_eqb (by decide)), (of_eqb (by decide)), (of_eqb (by decide)), trivial⟩
        case true =>
          exact pu_of Tryz.func67 irc67 (gg9_0 x veach0) rfl ⟨(c0 h0 h1 h2 h3), rfl, rfl, rfl, h3, h2, h1, h0, (of_eqb (by decide)), (of_eqb (by decide)), (of_eqb (by decide)), trivial⟩
theorem gg10_0 (x : Tr) (veach0 : Bool) : funO 5 mth cal 1000 ir67 [(.ep 57 0 (rowK x 10))] [.go, .go, .go, .go, .br true, .br true, .go, .go, .br true, .br true, .br true, .cl [.as, .as] (.b (veach0))] = some ((.b (veach0)), [.call 73 [(.es 57 (.r (rowsT x.l))), (.f (.func 67) [] [])] (.b (veach0)), .eqb (freeL []) true, .eqb (TV.free (.f (.func 67) [] [])) true, .eqb (TV.free (.es 57 (.r (rowsT x.l)))) true, .eqb (decide ((nats x.t) = ([] : List Nat))) true, .eqb (decide ((nats x.s) = ([] : List Nat))) true, .eqb (decide (x.n = 0)) true, .eqb (decide (10 < 22)) true, .eqb (Sx.inK .i64 10) true, .eqb (decide (0 ≤ 10)) true]) := by kernel_rfl
theorem gg10_1 (x : Tr) : funO 5 mth cal 1000 ir67 [(.ep 57 0 (rowK x 10))] [.go, .go, .go, .go, .br true, .br true, .go, .go, .br true, .br true, .br false] = some ((.b false), [.eqb (decide ((nats x.t) = ([] : List Nat))) false, .eqb (decide ((nats x.s) = ([] : List Nat))) true, .eqb (decide (x.n = 0)) true, .eqb (decide (10 < 22)) true, .eqb (Sx.inK .i64 10) true, .eqb (decide (0 ≤ 10)) true]) := by kernel_rfl
theorem gg10_2 (x : Tr) : funO 5 mth cal 1000 ir67 [(.ep 57 0 (rowK x 10))] [.go, .go, .go, .go, .br true, .br true, .go, .go, .br true, .br false] = some ((.b false), [.eqb (decide ((nats x.s) = ([] : List Nat))) false, .eqb (decide (x.n = 0)) true, .eqb (decide (10 < 22)) true, .eqb (Sx.inK .i64 10) true, .eqb (decide (0 ≤ 10)) true]) := by kernel_rfl
theorem gg10_3 (x : Tr) : funO 5 mth cal 1000 ir67 [(.ep 57 0 (rowK x 10))] [.go, .go, .go, .go, .br true, .br true, .go, .go, .br false] = some ((.b false), [.eqb (decide (x.n = 0)) false, .eqb (decide (10 < 22)) true, .eqb (Sx.inK .i64 10) true, .eqb (decide (0 ≤ 10)) true]) := by kernel_rfl
theorem gg10 (x : Tr) (veach0 : Bool) (c0 : (decide (x.n = 0)) = true → (decide ((nats x.s) = ([] : List Nat))) = true → (decide ((nats x.t) = ([] : List Nat))) = true → Pu 73 [(.es 57 (.r (rowsT x.l))), (.f (.func 67) [] [])] (.b (veach0))) : Pu 67 [(.ep 57 0 (rowK x 10))] (.b (bif decide (x.n = 0) then (bif decide ((nats x.s) = ([] : List Nat)) then (bif decide ((nats x.t) = ([] : List Nat)) then veach0 else false) else false) else false)) := by
  cases h0 : (decide (x.n = 0))
  case false =>
    exact pu_of Tryz.func67 irc67 (gg10_3 x) rfl ⟨h0, (of_eqb (by decide)), (of_eqb (by decide)), (of_eqb (by decide)), trivial⟩
  case true =>
    cases h1 : (decide ((nats x.s) = ([] : List Nat)))
    case false =>
      exact pu_of Tryz.func67 irc67 (gg10_2 x) rfl ⟨h1, h0, (of_eqb (by decide)), (of_eqb (by decide)), (of_eqb (by decide)), trivial⟩
    case true =>
      cases h2 : (decide ((nats x.t) = ([] : List Nat)))
      case false =>
        exact pu_of Tryz.func67 irc67 (gg10_1 x) rfl ⟨h2, h1, h0, (of_eqb (by decide)), (of_eqb (by decide)), (of_eqb (by decide)), trivial⟩
      case true =>
        exact pu_of Tryz.func67 irc67 (gg10_0 x veach0) rfl ⟨(c0 h0 h1 h2), rfl, rfl, rfl, h2, h1, h0, (of_eqb (by decide)), (of_eqb (by decide)), (of_eqb (by decide)), trivial⟩
theorem gg11_0 (x : Tr) (veach0 : Bool) : funO 5 mth cal 1000 ir67 [(.ep 57 0 (rowK x 11))] [.go, .go, .go, .go, .br true, .br true, .go, .go, .br true, .br true, .go, .br true, .br true, .cl [.as, .as] (.b (veach0))] = some ((.b (veach0)), [.call 73 [(.es 57 (.r (rowsT x.l))), (.f (.func 67) [] [])] (.b (veach0)), .eqb (freeL []) true, .eqb (TV.free (.f (.func 67) [] [])) true, .eqb (TV.free (.es 57 (.r (rowsT x.l)))) true, .eqb (decide ((List.length (rowsT x.l) : Int) = 2)) true, .eqb (decide ((nats x.s) = ([43] : List Nat))) true, .eqb (decide ((nats x.t) = ([] : List Nat))) true, .eqb (decide (x.n = 0)) true, .eqb (decide (11 < 22)) true, .eqb (Sx.inK .i64 11) true, .eqb (decide (0 ≤ 11)) true]) := by kernel_rfl
theorem gg11_1 (x : Tr) : funO 5 mth cal 1000 ir67 [(.ep 57 0 (rowK x 11))] [.go, .go, .go, .go, .br true, .br true, .go, .go, .br true, .br true, .go, .br true, .br false] = some ((.b false), [.eqb (decide ((List.length (rowsT x.l) : Int) = 2)) false, .eqb (decide ((nats x.s) = ([43] : List Nat))) true, .eqb (decide ((nats x.t) = ([] : List Nat))) true, .eqb (decide (x.n = 0)) true, .eqb (decide (11 < 22)) true, .eqb (Sx.inK .i64 11) true, .eqb (decide (0 ≤ 11)) true]) := by kernel_rfl
theorem gg11_2 (x : Tr) (veach0 : Bool) : funO 5 mth cal 1000 ir67 [(.ep 57 0 (rowK x 11))] [.go, .go, .go, .go, .br true, .br true, .go, .go, .br true, .br true, .go, .br false, .br true, .br true, .cl [.as, .as] (.b (veach0))] = some ((.b (veach0)), [.call 73 [(.es 57 (.r (rowsT x.l))), (.f (.func 67) [] [])] (.b (veach0)), .eqb (freeL []) true, .eqb (TV.free (.f (.func 67) [] [])) true, .eqb (TV.free (.es 57 (.r (rowsT x.l)))) true, .eqb (decide ((List.length (rowsT x.l) : Int) = 2)) true, .eqb (decide ((nats x.s) = ([45] : List Nat))) true, .eqb (decide ((nats x.s) = ([43] : List Nat))) false, .eqb (decide ((nats x.t) = ([] : List Nat))) true, .eqb (decide (x.n = 0)) true, .eqb (decide (11 < 22)) true, .eqb (Sx.inK .i64 11) true, .eqb (decide (0 ≤ 11)) true]) := by kernel_rfl
theorem gg11_3 (x : Tr) : funO 5 mth cal 1000 ir67 [(.ep 57 0 (rowK x 11))] [.go, .go, .go, .go, .br true, .br true, .go, .go, .br true, .br true, .go, .br false, .br true, .br false] = some ((.b false), [.eqb (decide ((List.length (rowsT x.l) : Int) = 2)) false, .eqb (decide ((nats x.s) = ([45] : List Nat))) true, .eqb (decide ((nats x.s) = ([43] : List Nat))) false, .eqb (decide ((nats x.t) = ([] : List Nat))) true, .eqb (decide (x.n = 0)) true, .eqb (decide (11 < 22)) true, .eqb (Sx.inK .i64 11) true, .eqb (decide (0 ≤ 11)) true]) := by kernel_rfl
theorem gg11_4 (x : Tr) (veach0 : Bool) : funO 5 mth cal 1000 ir67 [(.ep 57 0 (rowK x 11))] [.go, .go, .go, .go, .br true, .br true, .go, .go, .br true, .br true, .go, .br false, .br false, .br true, .br true, .cl [.as, .as] (.b (veach0))] = some ((.b (veach0)), [.call 73 [(.es 57 (.r (rowsT x.l))), (.f (.func 67) [] [])] (.b (veach0)), .eqb (freeL []) true, .eqb (TV.free (.f (.func 67) [] [])) true, .eqb (TV.free (.es 57 (.r (rowsT x.l)))) true, .eqb (decide ((List.length (rowsT x.l) : Int) = 2)) true, .eqb (decide ((nats x.s) = ([42] : List Nat))) true, .eqb (decide ((nats x.s) = ([45] : List Nat))) false, .eqb (decide ((nats x.s) = ([43] : List Nat))) false, .eqb (decide ((nats x.t) = ([] : List Nat))) true, .eqb (decide (x.n = 0)) true, .eqb (decide (11 < 22)) true, .eqb (Sx.inK .i64 11) true, .eqb (decide (0 ≤ 11)) true]) := by kernel_rfl
theorem gg11_5 (x : Tr) : funO 5 mth cal 1000 ir67 [(.ep 57 0 (rowK x 11))] [.go, .go, .go, .go, .br true, .br true, .go, .go, .br true, .br true, .go, .br false, .br false, .br true, .br false] = some ((.b false), [.eqb (decide ((List.length (rowsT x.l) : Int) = 2)) false, .eqb (decide ((nats x.s) = ([42] : List Nat))) true, .eqb (decide ((nats x.s) = ([45] : List Nat))) false, .eqb (decide ((nats x.s) = ([43] : List Nat))) false, .eqb (decide ((nats x.t) = ([] : List Nat))) true, .eqb (decide (x.n = 0)) true, .eqb (decide (11 < 22)) true, .eqb (Sx.inK .i64 11) true, .eqb (decide (0 ≤ 11)) true]) := by kernel_rfl
theorem gg11_6 (x : Tr) : funO 5 mth cal 1000 ir67 [(.ep 57 0 (rowK x 11))] [.go, .go, .go, .go, .br true, .br true, .go, .go, .br true, .br true, .go, .br false, .br false, .br false] = some ((.b false), [.eqb (decide ((nats x.s) = ([42] : List Nat))) false, .eqb (decide ((nats x.s) = ([45] : List Nat))) false, .eqb (decide ((nats x.s) = ([43] : List Nat))) false, .eqb (decide ((nats x.t) = ([] : List Nat))) true, .eqb (decide (x.n = 0)) true, .eqb (decide (11 < 22)) true, .eqb (Sx.inK .i64 11) true, .eqb (decide (0 ≤ 11)) true]) := by kernel_rfl
theorem gg11_7 (x : Tr) : funO 5 mth cal 1000 ir67 [(.ep 57 0 (rowK x 11))] [.go, .go, .go, .go, .br true, .br true, .go, .go, .br true, .br false] = some ((.b false), [.eqb (decide ((nats x.t) = ([] : List Nat))) false, .eqb (decide (x.n = 0)) true, .eqb (decide (11 < 22)) true, .eqb (Sx.inK .i64 11) true, .eqb (decide (0 ≤ 11)) true]) := by kernel_rfl
theorem gg11_8 (x : Tr) : funO 5 mth cal 1000 ir67 [(.ep 57 0 (rowK x 11))] [.go, .go, .go, .go, .br true, .br true, .go, .go, .br false] = some ((.b false), [.eqb (decide (x.n = 0)) false, .eqb (decide (11 < 22)) true, .eqb (Sx.inK .i64 11) true, .eqb (decide (0 ≤ 11)) true]) := by kernel_rfl
theorem gg11 (x : Tr) (veach0 : Bool) (c0 : (decide (x.n = 0)) = true → (decide ((nats x.t) = ([] : List Nat))) = true → (decide ((nats x.s) = ([43] : List Nat))) = true → (decide ((List.length (rowsT x.l) : Int) = 2)) = true → Pu 73 [(.es 57 (.r (rowsT x.l))), (.f (.func 67) [] [])] (.b (veach0))) (c1 : (decide (x.n = 0)) = true → (decide ((nats x.t) = ([] : List Nat))) = true → (decide ((nats x.s) = ([43] : List Nat))) = false → (decide ((nats x.s) = ([45] : List Nat))) = true → (decide ((List.length (rowsT x.l) : Int) = 2)) = true → Pu 73 [(.es 57 (.r (rowsT x.l))), (.f (.func 67) [] [])] (.b (veach0))) (c2 : (decide (x.n = 0)) = true → (decide ((nats x.t) = ([] : List Nat))) = true → (decide ((nats x.s) = ([43] : List Nat))) = false → (decide ((nats x.s) = ([45] : List Nat))) = false → (decide ((nats x.s) = ([42] : List Nat))) = true → (decide ((List.length (rowsT x.l) : Int) = 2)) = true → Pu 73 [(.es 57 (.r (rowsT x.l))), (.f (.func 67) [] [])] (.b (veach0))) : Pu 67 [(.ep 57 0 (rowK x 11))] (.b (bif decide (x.n = 0) then (bif decide ((nats x.t) = ([] : List Nat)) then (bif decide ((nats x.s) = ([43] : List Nat)) then (bif decide ((List.length (rowsT x.l) : Int) = 2) then veach0 else false) else (bif decide ((nats x.s) = ([45] : List Nat)) then (bif decide ((List.length (rowsT x.l) : Int) = 2) then veach0 else false) else (bif decide ((nats x.s) = ([42] : List Nat)) then (bif decide ((List.length (rowsT x.l) : Int) = 2) then veach0 else false) else false))) else false) else false)) := by
  cases h0 : (decide (x.n = 0))
  case false =>
    exact pu_of Tryz.func67 irc67 (gg11_8 x) rfl ⟨h0, (of_eqb (by decide)), (of_eqb (by decide)), (of_eqb (by decide)), trivial⟩
  case true =>
    cases h1 : (decide ((nats x.t) = ([] : List Nat)))
    case false =>
      exact pu_of Tryz.func67 irc67 (gg11_7 x) rfl ⟨h1, h0, (of_eqb (by decide)), (of_eqb (by decide)), (of_eqb (by decide)), trivial⟩
    case true =>
      cases h2 : (decide ((nats x.s) = ([43] : List Nat)))
      case false =>
        cases h3 : (decide ((nats x.s) = ([45] : List Nat)))
        case false =>
          cases h4 : (decide ((nats x.s) = ([42] : List Nat)))
          case false =>
            exact pu_of Tryz.func67 irc67 (gg11_6 x) rfl ⟨h4, h3, h2, h1, h0, (of_eqb (by decide)), (of_eqb (by decide)), (of_eqb (by decide)), trivial⟩
          case true =>
            cases h5 : (decide ((List.length (rowsT x.l) : Int) = 2))
            case false =>
              exact pu_of Tryz.func67 irc67 (gg11_5 x) rfl ⟨h5, h4, h3, h2, h1, h0, (of_eqb (by decide)), (of_eqb (by decide)), (of_eqb (by decide)), trivial⟩
            case true =>
              exact pu_of Tryz.func67 irc67 (gg11_4 x veach0) rfl ⟨(c2 h0 h1 h2 h3 h4 h5), rfl, rfl, rfl, h5, h4, h3, h2, h1, h0, (of_eqb (by decide)), (of_eqb (by decide)), (of_eqb (by decide)), trivial⟩
        case true =>
          cases h4 : (decide ((List.length (rowsT x.l) : Int) = 2))
          case false =>
            exact pu_of Tryz.func67 irc67 (gg11_3 x) rfl ⟨h4, h3, h2, h1, h0, (of_eqb (by decide)), (of_eqb (by decide)), (of_eqb (by decide)), trivial⟩
          case true =>
            exact pu_of Tryz.func67 irc67 (gg11_2 x veach0) rfl ⟨(c1 h0 h1 h2 h3 h4), rfl, rfl, rfl, h4, h3, h2, h1, h0, (of_eqb (by decide)), (of_eqb (by decide)), (of_eqb (by decide)), trivial⟩
      case true =>
        cases h3 : (decide ((List.length (rowsT x.l) : Int) = 2))
        case false =>
          exact pu_of Tryz.func67 irc67 (gg11_1 x) rfl ⟨h3, h2, h1, h0, (of_eqb (by decide)), (of_eqb (by decide)), (of_eqb (by decide)), trivial⟩
        case true =>
          exact pu_of Tryz.func67 irc67 (gg11_0 x veach0) rfl ⟨(c0 h0 h1 h2 h3), rfl, rfl, rfl, h3, h2, h1, h0, (of_eqb (by decide)), (of_eqb (by decide)), (of_eqb (by decide)), trivial⟩
theorem gg12_0 (x : Tr) : funO 5 mth cal 1000 ir67 [(.ep 57 0 (rowK x 12))] [.go, .go, .go, .go, .br true, .br true] = some ((.b false), [.eqb (decide (12 < 22)) true, .eqb (Sx.inK .i64 12) true, .eqb (decide (0 ≤ 12)) true]) := by kernel_rfl
theorem gg12 (x : Tr) : Pu 67 [(.ep 57 0 (rowK x 12))] (.b false) := by
  exact pu_of Tryz.func67 irc67 (gg12_0 x) rfl ⟨(of_eqb (by decide)), (of_eqb (by decide)), (of_eqb (by decide)), trivial⟩
theorem gg13_0 (x : Tr) : funO 5 mth cal 1000 ir67 [(.ep 57 0 (rowK x 13))] [.go, .go, .go, .go, .br true, .br true] = some ((.b false), [.eqb (decide (13 < 22)) true, .eqb (Sx.inK .i64 13) true, .eqb (decide (0 ≤ 13)) true]) := by kernel_rfl
theorem gg13 (x : Tr) : Pu 67 [(.ep 57 0 (rowK x 13))] (.b false) := by
  exact pu_of Tryz.func67 irc67 (gg13_0 x) rfl ⟨(of_eqb (by decide)), (of_eqb (by decide)), (of_eqb (by decide)), trivial⟩
theorem gg14_0 (x : Tr) : funO 5 mth cal 1000 ir67 [(.ep 57 0 (rowK x 14))] [.go, .go, .go, .go, .br true, .br true] = some ((.b false), [.eqb (decide (14 < 22)) true, .eqb (Sx.inK .i64 14) true, .eqb (decide (0 ≤ 14)) true]) := by kernel_rfl
theorem gg14 (x : Tr) : Pu 67 [(.ep 57 0 (rowK x 14))] (.b false) := by
  exact pu_of Tryz.func67 irc67 (gg14_0 x) rfl ⟨(of_eqb (by decide)), (of_eqb (by decide)), (of_eqb (by decide)), trivial⟩
theorem gg15_0 (x : Tr) : funO 5 mth cal 1000 ir67 [(.ep 57 0 (rowK x 15))] [.go, .go, .go, .go, .br true, .br true] = some ((.b false), [.eqb (decide (15 < 22)) true, .eqb (Sx.inK .i64 15) true, .eqb (decide (0 ≤ 15)) true]) := by kernel_rfl
theorem gg15 (x : Tr) : Pu 67 [(.ep 57 0 (rowK x 15))] (.b false) := by
  exact pu_of Tryz.func67 irc67 (gg15_0 x) rfl ⟨(of_eqb (by decide)), (of_eqb (by decide)), (of_eqb (by decide)), trivial⟩
theorem gg16_0 (x : Tr) : funO 5 mth cal 1000 ir67 [(.ep 57 0 (rowK x 16))] [.go, .go, .go, .go, .br true, .br true] = some ((.b false), [.eqb (decide (16 < 22)) true, .eqb (Sx.inK .i64 16) true, .eqb (decide (0 ≤ 16)) true]) := by kernel_rfl
theorem gg16 (x : Tr) : Pu 67 [(.ep 57 0 (rowK x 16))] (.b false) := by
  exact pu_of Tryz.func67 irc67 (gg16_0 x) rfl ⟨(of_eqb (by decide)), (of_eqb (by decide)), (of_eqb (by decide)), trivial⟩
theorem gg17_0 (x : Tr) : funO 5 mth cal 1000 ir67 [(.ep 57 0 (rowK x 17))] [.go, .go, .go, .go, .br true, .br true] = some ((.b false), [.eqb (decide (17 < 22)) true, .eqb (Sx.inK .i64 17) true, .eqb (decide (0 ≤ 17)) true]) := by kernel_rfl
theorem gg17 (x : Tr) : Pu 67 [(.ep 57 0 (rowK x 17))] (.b false) := by
  exact pu_of Tryz.func67 irc67 (gg17_0 x) rfl ⟨(of_eqb (by decide)), (of_eqb (by decide)), (of_eqb (by decide)), trivial⟩
theorem gg18_0 (x : Tr) : funO 5 mth cal 1000 ir67 [(.ep 57 0 (rowK x 18))] [.go, .go, .go, .go, .br true, .br true] = some ((.b false), [.eqb (decide (18 < 22)) true, .eqb (Sx.inK .i64 18) true, .eqb (decide (0 ≤ 18)) true]) := by kernel_rfl
theorem gg18 (x : Tr) : Pu 67 [(.ep 57 0 (rowK x 18))] (.b false) := by
  exact pu_of Tryz.func67 irc67 (gg18_0 x) rfl ⟨(of_eqb (by decide)), (of_eqb (by decide)), (of_eqb (by decide)), trivial⟩
theorem gg19_0 (x : Tr) : funO 5 mth cal 1000 ir67 [(.ep 57 0 (rowK x 19))] [.go, .go, .go, .go, .br true, .br true] = some ((.b false), [.eqb (decide (19 < 22)) true, .eqb (Sx.inK .i64 19) true, .eqb (decide (0 ≤ 19)) true]) := by kernel_rfl
theorem gg19 (x : Tr) : Pu 67 [(.ep 57 0 (rowK x 19))] (.b false) := by
  exact pu_of Tryz.func67 irc67 (gg19_0 x) rfl ⟨(of_eqb (by decide)), (of_eqb (by decide)), (of_eqb (by decide)), trivial⟩
theorem gg20_0 (x : Tr) : funO 5 mth cal 1000 ir67 [(.ep 57 0 (rowK x 20))] [.go, .go, .go, .go, .br true, .br true] = some ((.b false), [.eqb (decide (20 < 22)) true, .eqb (Sx.inK .i64 20) true, .eqb (decide (0 ≤ 20)) true]) := by kernel_rfl
theorem gg20 (x : Tr) : Pu 67 [(.ep 57 0 (rowK x 20))] (.b false) := by
  exact pu_of Tryz.func67 irc67 (gg20_0 x) rfl ⟨(of_eqb (by decide)), (of_eqb (by decide)), (of_eqb (by decide)), trivial⟩
theorem gg21_0 (x : Tr) : funO 5 mth cal 1000 ir67 [(.ep 57 0 (rowK x 21))] [.go, .go, .go, .go, .br true, .br true] = some ((.b false), [.eqb (decide (21 < 22)) true, .eqb (Sx.inK .i64 21) true, .eqb (decide (0 ≤ 21)) true]) := by kernel_rfl
theorem gg21 (x : Tr) : Pu 67 [(.ep 57 0 (rowK x 21))] (.b false) := by
  exact pu_of Tryz.func67 irc67 (gg21_0 x) rfl ⟨(of_eqb (by decide)), (of_eqb (by decide)), (of_eqb (by decide)), trivial⟩
theorem ggO_1 (x : Tr) : funO 5 mth cal 1000 ir67 [(.ep 57 0 (rowV x))] [.go, .go, .go, .go, .br true, .br false] = some ((.b false), [.eqb (decide (x.k < 22)) false, .eqb (Sx.inK .i64 x.k) true, .eqb (decide (0 ≤ x.k)) true]) := by kernel_rfl
theorem ggO_2 (x : Tr) : funO 5 mth cal 1000 ir67 [(.ep 57 0 (rowV x))] [.go, .go, .go, .go, .br false] = some ((.b false), [.eqb (decide (0 ≤ x.k)) false]) := by kernel_rfl
theorem ggO (x : Tr) (s0 : (decide (0 ≤ x.k)) = true → (Sx.inK .i64 x.k) = true) (d0 : (decide (0 ≤ x.k)) = true → (decide (x.k < 22)) = true → False) : Pu 67 [(.ep 57 0 (rowV x))] (.b (bif decide (0 ≤ x.k) then (bif decide (x.k < 22) then false else false) else false)) := by
  cases h0 : (decide (0 ≤ x.k))
  case false =>
    exact pu_of Tryz.func67 irc67 (ggO_2 x) rfl ⟨h0, trivial⟩
  case true =>
    cases h1 : (decide (x.k < 22))
    case false =>
      exact pu_of Tryz.func67 irc67 (ggO_1 x) rfl ⟨h1, (s0 h0), h0, trivial⟩
    case true =>
      exact (d0 h0 h1).elim
theorem tt0_0 (x : Tr) : funO 5 mth cal 1000 ir69 [(.ep 57 0 (rowK x 0))] [.go, .go, .br true, .br true] = some ((.b false), [.eqb (decide (0 < 22)) true, .eqb (Sx.inK .i64 0) true, .eqb (decide (0 ≤ 0)) true]) := by kernel_rfl
theorem tt0 (x : Tr) : Pu 69 [(.ep 57 0 (rowK x 0))] (.b false) := by
  exact pu_of Tryz.func69 irc69 (tt0_0 x) rfl ⟨(of_eqb (by decide)), (of_eqb (by decide)), (of_eqb (by decide)), trivial⟩
theorem tt1_0 (x : Tr) : funO 5 mth cal 1000 ir69 [(.ep 57 0 (rowK x 1))] [.go, .go, .br true, .br true] = some ((.b false), [.eqb (decide (1 < 22)) true, .eqb (Sx.inK .i64 1) true, .eqb (decide (0 ≤ 1)) true]) := by kernel_rfl
theorem tt1 (x : Tr) : Pu 69 [(.ep 57 0 (rowK x 1))] (.b false) := by
  exact pu_of Tryz.func69 irc69 (tt1_0 x) rfl ⟨(of_eqb (by decide)), (of_eqb (by decide)), (of_eqb (by decide)), trivial⟩
theorem tt2_0 (x : Tr) : funO 5 mth cal 1000 ir69 [(.ep 57 0 (rowK x 2))] [.go, .go, .br true, .br true] = some ((.b false), [.eqb (decide (2 < 22)) true, .eqb (Sx.inK .i64 2) true, .eqb (decide (0 ≤ 2)) true]) := by kernel_rfl
theorem tt2 (x : Tr) : Pu 69 [(.ep 57 0 (rowK x 2))] (.b false) := by
  exact pu_of Tryz.func69 irc69 (tt2_0 x) rfl ⟨(of_eqb (by decide)), (of_eqb (by decide)), (of_eqb (by decide)), trivial⟩
theorem tt3_0 (x : Tr) : funO 5 mth cal 1000 ir69 [(.ep 57 0 (rowK x 3))] [.go, .go, .br true, .br true] = some ((.b false), [.eqb (decide (3 < 22)) true, .eqb (Sx.inK .i64 3) true, .eqb (decide (0 ≤ 3)) true]) := by kernel_rfl
theorem tt3 (x : Tr) : Pu 69 [(.ep 57 0 (rowK x 3))] (.b false) := by
  exact pu_of Tryz.func69 irc69 (tt3_0 x) rfl ⟨(of_eqb (by decide)), (of_eqb (by decide)), (of_eqb (by decide)), trivial⟩
theorem tt4_0 (x : Tr) : funO 5 mth cal 1000 ir69 [(.ep 57 0 (rowK x 4))] [.go, .go, .br true, .br true] = some ((.b false), [.eqb (decide (4 < 22)) true, .eqb (Sx.inK .i64 4) true, .eqb (decide (0 ≤ 4)) true]) := by kernel_rfl
theorem tt4 (x : Tr) : Pu 69 [(.ep 57 0 (rowK x 4))] (.b false) := by
  exact pu_of Tryz.func69 irc69 (tt4_0 x) rfl ⟨(of_eqb (by decide)), (of_eqb (by decide)), (of_eqb (by decide)), trivial⟩
theorem tt5_0 (x : Tr) : funO 5 mth cal 1000 ir69 [(.ep 57 0 (rowK x 5))] [.go, .go, .br true, .br true] = some ((.b false), [.eqb (decide (5 < 22)) true, .eqb (Sx.inK .i64 5) true, .eqb (decide (0 ≤ 5)) true]) := by kernel_rfl
theorem tt5 (x : Tr) : Pu 69 [(.ep 57 0 (rowK x 5))] (.b false) := by
  exact pu_of Tryz.func69 irc69 (tt5_0 x) rfl ⟨(of_eqb (by decide)), (of_eqb (by decide)), (of_eqb (by decide)), trivial⟩
theorem tt6_0 (x : Tr) : funO 5 mth cal 1000 ir69 [(.ep 57 0 (rowK x 6))] [.go, .go, .br true, .br true] = some ((.b false), [.eqb (decide (6 < 22)) true, .eqb (Sx.inK .i64 6) true, .eqb (decide (0 ≤ 6)) true]) := by kernel_rfl
theorem tt6 (x : Tr) : Pu 69 [(.ep 57 0 (rowK x 6))] (.b false) := by
  exact pu_of Tryz.func69 irc69 (tt6_0 x) rfl ⟨(of_eqb (by decide)), (of_eqb (by decide)), (of_eqb (by decide)), trivial⟩
theorem tt7_0 (x : Tr) : funO 5 mth cal 1000 ir69 [(.ep 57 0 (rowK x 7))] [.go, .go, .br true, .br true] = some ((.b false), [.eqb (decide (7 < 22)) true, .eqb (Sx.inK .i64 7) true, .eqb (decide (0 ≤ 7)) true]) := by kernel_rfl
theorem tt7 (x : Tr) : Pu 69 [(.ep 57 0 (rowK x 7))] (.b false) := by
  exact pu_of Tryz.func69 irc69 (tt7_0 x) rfl ⟨(of_eqb (by decide)), (of_eqb (by decide)), (of_eqb (by decide)), trivial⟩
theorem tt8_0 (x : Tr) : funO 5 mth cal 1000 ir69 [(.ep 57 0 (rowK x 8))] [.go, .go, .br true, .br true] = some ((.b false), [.eqb (decide (8 < 22)) true, .eqb (Sx.inK .i64 8) true, .eqb (decide (0 ≤ 8)) true]) := by kernel_rfl
theorem tt8 (x : Tr) : Pu 69 [(.ep 57 0 (rowK x 8))] (.b false) := by
  exact pu_of Tryz.func69 irc69 (tt8_0 x) rfl ⟨(of_eqb (by decide)), (of_eqb (by decide)), (of_eqb (by decide)), trivial⟩
theorem tt9_0 (x : Tr) : funO 5 mth cal 1000 ir69 [(.ep 57 0 (rowK x 9))] [.go, .go, .br true, .br true] = some ((.b false), [.eqb (decide (9 < 22)) true, .eqb (Sx.inK .i64 9) true, .eqb (decide (0 ≤ 9)) true]) := by kernel_rfl
theorem tt9 (x : Tr) : Pu 69 [(.ep 57 0 (rowK x 9))] (.b false) := by
  exact pu_of Tryz.func69 irc69 (tt9_0 x) rfl ⟨(of_eqb (by decide)), (of_eqb (by decide)), (of_eqb (by decide)), trivial⟩
theorem tt10_0 (x : Tr) : funO 5 mth cal 1000 ir69 [(.ep 57 0 (rowK x 10))] [.go, .go, .br true, .br true] = some ((.b false), [.eqb (decide (10 < 22)) true, .eqb (Sx.inK .i64 10) true, .eqb (decide (0 ≤ 10)) true]) := by kernel_rfl
theorem tt10 (x : Tr) : Pu 69 [(.ep 57 0 (rowK x 10))] (.b false) := by
  exact pu_of Tryz.func69 irc69 (tt10_0 x) rfl ⟨(of_eqb (by decide)), (of_eqb (by decide)), (of_eqb (by decide)), trivial⟩
theorem tt11_0 (x : Tr) (veach1 : Bool) : funO 5 mth cal 1000 ir69 [(.ep 57 0 (rowK x 11))] [.go, .go, .br true, .br true, .go, .go, .br true, .br true, .cl [.as] (.b true), .br true, .cl [.as, .as] (.b (veach1))] = some ((.b (veach1)), [.call 73 [(.es 57 (.r (rowsT x.l))), (.f (.func 67) [] [])] (.b (veach1)), .eqb (freeL []) true, .eqb (TV.free (.f (.func 67) [] [])) true, .eqb (TV.free (.es 57 (.r (rowsT x.l)))) true, .eqb (decide ((List.length (rowsT x.l) : Int) = 2)) true, .call 130 [(.s (nats x.s))] (.b true), .eqb (freeL []) true, .eqb (TV.free (.s (nats x.s))) true, .eqb (decide ((nats x.t) = ([] : List Nat))) true, .eqb (decide (x.n = 0)) true, .eqb (decide (11 < 22)) true, .eqb (Sx.inK .i64 11) true, .eqb (decide (0 ≤ 11)) true]) := by kernel_rfl
theorem tt11_1 (x : Tr) : funO 5 mth cal 1000 ir69 [(.ep 57 0 (rowK x 11))] [.go, .go, .br true, .br true, .go, .go, .br true, .br true, .cl [.as] (.b true), .br false] = some ((.b false), [.eqb (decide ((List.length (rowsT x.l) : Int) = 2)) false, .call 130 [(.s (nats x.s))] (.b true), .eqb (freeL []) true, .eqb (TV.free (.s (nats x.s))) true, .eqb (decide ((nats x.t) = ([] : List Nat))) true, .eqb (decide (x.n = 0)) true, .eqb (decide (11 < 22)) true, .eqb (Sx.inK .i64 11) true, .eqb (decide (0 ≤ 11)) true]) := by kernel_rfl
theorem tt11_2 (x : Tr) : funO 5 mth cal 1000 ir69 [(.ep 57 0 (rowK x 11))] [.go, .go, .br true, .br true, .go, .go, .br true, .br true, .cl [.as] (.b false)] = some ((.b false), [.call 130 [(.s (nats x.s))] (.b false), .eqb (freeL []) true, .eqb (TV.free (.s (nats x.s))) true, .eqb (decide ((nats x.t) = ([] : List Nat))) true, .eqb (decide (x.n = 0)) true, .eqb (decide (11 < 22)) true, .eqb (Sx.inK .i64 11) true, .eqb (decide (0 ≤ 11)) true]) := by kernel_rfl
theorem tt11_3 (x : Tr) : funO 5 mth cal 1000 ir69 [(.ep 57 0 (rowK x 11))] [.go, .go, .br true, .br true, .go, .go, .br true, .br false] = some ((.b false), [.eqb (decide ((nats x.t) = ([] : List Nat))) false, .eqb (decide (x.n = 0)) true, .eqb (decide (11 < 22)) true, .eqb (Sx.inK .i64 11) true, .eqb (decide (0 ≤ 11)) true]) := by kernel_rfl
theorem tt11_4 (x : Tr) : funO 5 mth cal 1000 ir69 [(.ep 57 0 (rowK x 11))] [.go, .go, .br true, .br true, .go, .go, .br false] = some ((.b false), [.eqb (decide (x.n = 0)) false, .eqb (decide (11 < 22)) true, .eqb (Sx.inK .i64 11) true, .eqb (decide (0 ≤ 11)) true]) := by kernel_rfl
theorem tt11 (x : Tr) (vcompares0 : Bool) (veach1 : Bool) (c0 : (decide (x.n = 0)) = true → (decide ((nats x.t) = ([] : List Nat))) = true → Pu 130 [(.s (nats x.s))] (.b (vcompares0))) (c1 : (decide (x.n = 0)) = true → (decide ((nats x.t) = ([] : List Nat))) = true → vcompares0 = true → (decide ((List.length (rowsT x.l) : Int) = 2)) = true → Pu 73 [(.es 57 (.r (rowsT x.l))), (.f (.func 67) [] [])] (.b (veach1))) : Pu 69 [(.ep 57 0 (rowK x 11))] (.b (bif decide (x.n = 0) then (bif decide ((nats x.t) = ([] : List Nat)) then (bif vcompares0 then (bif decide ((List.length (rowsT x.l) : Int) = 2) then veach1 else false) else false) else false) else false)) := by
  cases h0 : (decide (x.n = 0))
  case false =>
    exact pu_of Tryz.func69 irc69 (tt11_4 x) rfl ⟨h0, (of_eqb (by decide)), (of_eqb (by decide)), (of_eqb (by decide)), trivial⟩
  case true =>
    cases h1 : (decide ((nats x.t) = ([] : List Nat)))
    case false =>
      exact pu_of Tryz.func69 irc69 (tt11_3 x) rfl ⟨h1, h0, (of_eqb (by decide)), (of_eqb (by decide)), (of_eqb (by decide)), trivial⟩
    case true =>
      cases vcompares0
      case false =>
        exact pu_of Tryz.func69 irc69 (tt11_2 x) rfl ⟨(c0 h0 h1), rfl, rfl, h1, h0, (of_eqb (by decide)), (of_eqb (by decide)), (of_eqb (by decide)), trivial⟩
      case true =>
        cases h3 : (decide ((List.length (rowsT x.l) : Int) = 2))
        case false =>
          exact pu_of Tryz.func69 irc69 (tt11_1 x) rfl ⟨h3, (c0 h0 h1), rfl, rfl, h1, h0, (of_eqb (by decide)), (of_eqb (by decide)), (of_eqb (by decide)), trivial⟩
        case true =>
          exact pu_of Tryz.func69 irc69 (tt11_0 x veach1) rfl ⟨(c1 h0 h1 rfl h3), rfl, rfl, rfl, h3, (c0 h0 h1), rfl, rfl, h1, h0, (of_eqb (by decide)), (of_eqb (by decide)), (of_eqb (by decide)), trivial⟩
theorem tt12_0 (x : Tr) (veach0 : Bool) : funO 5 mth cal 1000 ir69 [(.ep 57 0 (rowK x 12))] [.go, .go, .br true, .br true, .go, .go, .br true, .br true, .go, .go, .br true, .br true, .br true, .br true, .cl [.as, .as] (.b (veach0))] = some ((.b (veach0)), [.call 73 [(.es 57 (.r (rowsT x.l))), (.f (.func 67) [] [])] (.b (veach0)), .eqb (freeL []) true, .eqb (TV.free (.f (.func 67) [] [])) true, .eqb (TV.free (.es 57 (.r (rowsT x.l)))) true, .eqb (decide ((List.length (rowsT x.l) : Int) = 1)) true, .eqb (decide (0 ≤ 0)) true, .eqb (decide ((nats x.s) = ([105, 115, 95, 97, 116, 111, 109] : List Nat))) true, .eqb (decide (0 < 7)) true, .eqb (decide ((nats x.t) = ([] : List Nat))) true, .eqb (decide (x.n = 0)) true, .eqb (decide (12 < 22)) true, .eqb (Sx.inK .i64 12) true, .eqb (decide (0 ≤ 12)) true]) := by kernel_rfl
theorem tt12_1 (x : Tr) : funO 5 mth cal 1000 ir69 [(.ep 57 0 (rowK x 12))] [.go, .go, .br true, .br true, .go, .go, .br true, .br true, .go, .go, .br true, .br true, .br true, .br false] = some ((.b false), [.eqb (decide ((List.length (rowsT x.l) : Int) = 1)) false, .eqb (decide (0 ≤ 0)) true, .eqb (decide ((nats x.s) = ([105, 115, 95, 97, 116, 111, 109] : List Nat))) true, .eqb (decide (0 < 7)) true, .eqb (decide ((nats x.t) = ([] : List Nat))) true, .eqb (decide (x.n = 0)) true, .eqb (decide (12 < 22)) true, .eqb (Sx.inK .i64 12) true, .eqb (decide (0 ≤ 12)) true]) := by kernel_rfl
theorem tt12_2 (x : Tr) (veach0 : Bool) : funO 5 mth cal 1000 ir69 [(.ep 57 0 (rowK x 12))] [.go, .go, .br true, .br true, .go, .go, .br true, .br true, .go, .go, .br true, .br false, .br true, .br true, .br true, .br true, .cl [.as, .as] (.b (veach0))] = some ((.b (veach0)), [.call 73 [(.es 57 (.r (rowsT x.l))), (.f (.func 67) [] [])] (.b (veach0)), .eqb (freeL []) true, .eqb (TV.free (.f (.func 67) [] [])) true, .eqb (TV.free (.es 57 (.r (rowsT x.l)))) true, .eqb (decide ((List.length (rowsT x.l) : Int) = 1)) true, .eqb (decide (0 ≤ 1)) true, .eqb (decide ((nats x.s) = ([105, 115, 95, 105, 110, 116, 101, 103, 101, 114] : List Nat))) true, .eqb (decide (1 < 7)) true, .eqb (Sx.inK .i64 1) true, .eqb (decide ((nats x.s) = ([105, 115, 95, 97, 116, 111, 109] : List Nat))) false, .eqb (decide (0 < 7)) true, .eqb (decide ((nats x.t) = ([] : List Nat))) true, .eqb (decide (x.n = 0)) true, .eqb (decide (12 < 22)) true, .eqb (Sx.inK .i64 12) true, .eqb (decide (0 ≤ 12)) true]) := by kernel_rfl
theorem tt12_3 (x : Tr) : funO 5 mth cal 1000 ir69 [(.ep 57 0 (rowK x 12))] [.go, .go, .br true, .br true, .go, .go, .br true, .br true, .go, .go, .br true, .br false, .br true, .br true, .br true, .br false] = some ((.b false), [.eqb (decide ((List.length (rowsT x.l) : Int) = 1)) false, .eqb (decide (0 ≤ 1)) true, .eqb (decide ((nats x.s) = ([105, 115, 95, 105, 110, 116, 101, 103, 101, 114] : List Nat))) true, .eqb (decide (1 < 7)) true, .eqb (Sx.inK .i64 1) true, .eqb (decide ((nats x.s) = ([105, 115, 95, 97, 116, 111, 109] : List Nat))) false, .eqb (decide (0 < 7)) true, .eqb (decide ((nats x.t) = ([] : List Nat))) true, .eqb (decide (x.n = 0)) true, .eqb (decide (12 < 22)) true, .eqb (Sx.inK .i64 12) true, .eqb (decide (0 ≤ 12)) true]) := by kernel_rfl
theorem tt12_4 (x : Tr) (veach0 : Bool) : funO 5 mth cal 1000 ir69 [(.ep 57 0 (rowK x 12))] [.go, .go, .br true, .br true, .go, .go, .br true, .br true, .go, .go, .br true, .br false, .br true, .br false, .br true, .br true, .br true, .br true, .cl [.as, .as] (.b (veach0))] = some ((.b (veach0)), [.call 73 [(.es 57 (.r (rowsT x.l))), (.f (.func 67) [] [])] (.b (veach0)), .eqb (freeL []) true, .eqb (TV.free (.f (.func 67) [] [])) true, .eqb (TV.free (.es 57 (.r (rowsT x.l)))) true, .eqb (decide ((List.length (rowsT x.l) : Int) = 1)) true, .eqb (decide (0 ≤ 2)) true, .eqb (decide ((nats x.s) = ([105, 115, 95, 112, 105, 100] : List Nat))) true, .eqb (decide (2 < 7)) true, .eqb (Sx.inK .i64 2) true, .eqb (decide ((nats x.s) = ([105, 115, 95, 105, 110, 116, 101, 103, 101, 114] : List Nat))) false, .eqb (decide (1 < 7)) true, .eqb (Sx.inK .i64 1) true, .eqb (decide ((nats x.s) = ([105, 115, 95, 97, 116, 111, 109] : List Nat))) false, .eqb (decide (0 < 7)) true, .eqb (decide ((nats x.t) = ([] : List Nat))) true, .eqb (decide (x.n = 0)) true, .eqb (decide (12 < 22)) true, .eqb (Sx.inK .i64 12) true, .eqb (decide (0 ≤ 12)) true]) := by kernel_rfl
theorem tt12_5 (x : Tr) : funO 5 mth cal 1000 ir69 [(.ep 57 0 (rowK x 12))] [.go, .go, .br true, .br true, .go, .go, .br true, .br true, .go, .go, .br true, .br false, .br true, .br false, .br true, .br true, .br true, .br false] = some ((.b false), [.eqb (decide ((List.length (rowsT x.l) : Int) = 1)) false, .eqb (decide (0 ≤ 2)) true, .eqb (decide ((nats x.s) = ([105, 115, 95, 112, 105, 100] : List Nat))) true, .eqb (decide (2 < 7)) true, .eqb (Sx.inK .i64 2) true, .eqb (decide ((nats x.s) = ([105, 115, 95, 105, 110, 116, 101, 103, 101, 114] : List Nat))) false, .eqb (decide (1 < 7)) true, .eqb (Sx.inK .i64 1) true, .eqb (decide ((nats x.s) = ([105, 115, 95, 97, 116, 111, 109] : List Nat))) false, .eqb (decide (0 < 7)) true, .eqb (decide ((nats x.t) = ([] : List Nat))) true, .eqb (decide (x.n = 0)) true, .eqb (decide (12 < 22)) true, .eqb (Sx.inK .i64 12) true, .eqb (decide (0 ≤ 12)) true]) := by kernel_rfl
theorem tt12_6 (x : Tr) (veach0 : Bool) : funO 5 mth cal 1000 ir69 [(.ep 57 0 (rowK x 12))] [.go, .go, .br true, .br true, .go, .go, .br true, .br true, .go, .go, .br true, .br false, .br true, .br false, .br true, .br false, .br true, .br true, .br true, .br true, .cl [.as, .as] (.b (veach0))] = some ((.b (veach0)), [.call 73 [(.es 57 (.r (rowsT x.l))), (.f (.func 67) [] [])] (.b (veach0)), .eqb (freeL []) true, .eqb (TV.free (.f (.func 67) [] [])) true, .eqb (TV.free (.es 57 (.r (rowsT x.l)))) true, .eqb (decide ((List.length (rowsT x.l) : Int) = 1)) true, .eqb (decide (0 ≤ 3)) true, .eqb (decide ((nats x.s) = ([105, 115, 95, 114, 101, 102, 101, 114, 101, 110, 99, 101] : List Nat))) true, .eqb (decide (3 < 7)) true, .eqb (Sx.inK .i64 3) true, .eqb (decide ((nats x.s) = ([105, 115, 95, 112, 105, 100] : List Nat))) false, .eqb (decide (2 < 7)) true, .eqb (Sx.inK .i64 2) true, .eqb (decide ((nats x.s) = ([105, 115, 95, 105, 110, 116, 101, 103, 101, 114] : List Nat))) false, .eqb (decide (1 < 7)) true, .eqb (Sx.inK .i64 1) true, .eqb (decide ((nats x.s) = ([105, 115, 95, 97, 116, 111, 109] : List Nat))) false, .eqb (decide (0 < 7)) true, .eqb (decide ((nats x.t) = ([] : List Nat))) true, .eqb (decide (x.n = 0)) true, .eqb (decide (12 < 22)) true, .eqb (Sx.inK .i64 12) true, .eqb (decide (0 ≤ 12)) true]) := by kernel_rfl
theorem tt12_7 (x : Tr) : funO 5 mth cal 1000 ir69 [(.ep 57 0 (rowK x 12))] [.go, .go, .br true, .br true, .go, .go, .br true, .br true, .go, .go, .br true, .br false, .br true, .br false, .br true, .br false, .br true, .br true, .br true, .br false] = some ((.b false), [.eqb (decide ((List.length (rowsT x.l) : Int) = 1)) false, .eqb (decide (0 ≤ 3)) true, .eqb (decide ((nats x.s) = ([105, 115, 95, 114, 101, 102, 101, 114, 101, 110, 99, 101] : List Nat))) true, .eqb (decide (3 < 7)) true, .eqb (Sx.inK .i64 3) true, .eqb (decide ((nats x.s) = ([105, 115, 95, 112, 105, 100] : List Nat))) false, .eqb (decide (2 < 7)) true, .eqb (Sx.inK .i64 2) true, .eqb (decide ((nats x.s) = ([105, 115, 95, 105, 110, 116, 101, 103, 101, 114] : List Nat))) false, .eqb (decide (1 < 7)) true, .eqb (Sx.inK .i64 1) true, .eqb (decide ((nats x.s) = ([105, 115, 95, 97, 116, 111, 109] : List Nat))) false, .eqb (decide (0 < 7)) true, .eqb (decide ((nats x.t) = ([] : List Nat))) true, .eqb (decide (x.n = 0)) true, .eqb (decide (12 < 22)) true, .eqb (Sx.inK .i64 12) true, .eqb (decide (0 ≤ 12)) true]) := by kernel_rfl
theorem tt12_8 (x : Tr) (veach0 : Bool) : funO 5 mth cal 1000 ir69 [(.ep 57 0 (rowK x 12))] [.go, .go, .br true, .br true, .go, .go, .br true, .br true, .go, .go, .br true, .br false, .br true, .br false, .br true, .br false, .br true, .br false, .br true, .br true, .br true, .br true, .cl [.as, .as] (.b (veach0))] = some ((.b (veach0)), [.call 73 [(.es 57 (.r (rowsT x.l))), (.f (.func 67) [] [])] (.b (veach0)), .eqb (freeL []) true, .eqb (TV.free (.f (.func 67) [] [])) true, .eqb (TV.free (.es 57 (.r (rowsT x.l)))) true, .eqb (decide ((List.length (rowsT x.l) : Int) = 1)) true, .eqb (decide (0 ≤ 4)) true, .eqb (decide ((nats x.s) = ([105, 115, 95, 116, 117, 112, 108, 101] : List Nat))) true, .eqb (decide (4 < 7)) true, .eqb (Sx.inK .i64 4) true, .eqb (decide ((nats x.s) = ([105, 115, 95, 114, 101, 102, 101, 114, 101, 110, 99, 101] : List Nat))) false, .eqb (decide (3 < 7)) true, .eqb (Sx.inK .i64 3) true, .eqb (decide ((nats x.s) = ([105, 115, 95, 112, 105, 100] : List Nat))) false, .eqb (decide (2 < 7)) true, .eqb (Sx.inK .i64 2) true, .eqb (decide ((nats x.s) = ([105, 115, 95, 105, 110, 116, 101, 103, 101, 114] : List Nat))) false, .eqb (decide (1 < 7)) true, .eqb (Sx.inK .i64 1) true, .eqb (decide ((nats x.s) = ([105, 115, 95, 97, 116, 111, 109] : List Nat))) false, .eqb (decide (0 < 7)) true, .eqb (decide ((nats x.t) = ([] : List Nat))) true, .eqb (decide (x.n = 0)) true, .eqb (decide (12 < 22)) true, .eqb (Sx.inK .i64 12) true, .eqb (decide (0 ≤ 12)) true]) := by kernel_rfl
theorem tt12_9 (x : Tr) : funO 5 mth cal 1000 ir69 [(.ep 57 0 (rowK x 12))] [.go, .go, .br true, .br true, .go, .go, .br true, .br true, .go, .go, .br true, .br false, .br true, .br false, .br true, .br false, .br true, .br false, .br true, .br true, .br true, .br false] = some ((.b false), [.eqb (decide ((List.length (rowsT x.l) : Int) = 1)) false, .eqb (decide (0 ≤ 4)) true, .eqb (decide ((nats x.s) = ([105, 115, 95, 116, 117, 112, 108, 101] : List Nat))) true, .eqb (decide (4 < 7)) true, .eqb (Sx.inK .i64 4) true, .eqb (decide ((nats x.s) = ([105, 115, 95, 114, 101, 102, 101, 114, 101, 110, 99, 101] : List Nat))) false, .eqb (decide (3 < 7)) true, .eqb (Sx.inK .i64 3) true, .eqb (decide ((nats x.s) = ([105, 115, 95, 112, 105, 100] : List Nat))) false, .eqb (decide (2 < 7)) true, .eqb (Sx.inK .i64 2) true, .eqb (decide ((nats x.s) = ([105, 115, 95, 105, 110, 116, 101, 103, 101, 114] : List Nat))) false, .eqb (decide (1 < 7)) true, .eqb (Sx.inK .i64 1) true, .eqb (decide ((nats x.s) = ([105, 115, 95, 97, 116, 111, 109] : List Nat))) false, .eqb (decide (0 < 7)) true, .eqb (decide ((nats x.t) = ([] : List Nat))) true, .eqb (decide (x.n = 0)) true, .eqb (decide (12 < 22)) true, .eqb (Sx.inK .i64 12) true, .eqb (decide (0 ≤ 12)) true]) := by kernel_rfl
theorem tt12_10 (x : Tr) (veach0 : Bool) : funO 5 mth cal 1000 ir69 [(.ep 57 0 (rowK x 12))] [.go, .go, .br true, .br true, .go, .go, .br true, .br true, .go, .go, .br true, .br false, .br true, .br false, .br true, .br false, .br true, .br false, .br true, .br false, .br true, .br true, .br true, .br true, .cl [.as, .as] (.b (veach0))] = some ((.b (veach0)), [.call 73 [(.es 57 (.r (rowsT x.l))), (.f (.func 67) [] [])] (.b (veach0)), .eqb (freeL []) true, .eqb (TV.free (.f (.func 67) [] [])) true, .eqb (TV.free (.es 57 (.r (rowsT x.l)))) true, .eqb (decide ((List.length (rowsT x.l) : Int) = 1)) true, .eqb (decide (0 ≤ 5)) true, .eqb (decide ((nats x.s) = ([105, 115, 95, 108, 105, 115, 116] : List Nat))) true, .eqb (decide (5 < 7)) true, .eqb (Sx.inK .i64 5) true, .eqb (decide ((nats x.s) = ([105, 115, 95, 116, 117, 112, 108, 101] : List Nat))) false, .eqb (decide (4 < 7)) true, .eqb (Sx.inK .i64 4) true, .eqb (decide ((nats x.s) = ([105, 115, 95, 114, 101, 102, 101, 114, 101, 110, 99, 101] : List Nat))) false, .eqb (decide (3 < 7)) true, .eqb (Sx.inK .i64 3) true, .eqb (decide ((nats x.s) = ([105, 115, 95, 112, 105, 100] : List Nat))) false, .eqb (decide (2 < 7)) true, .eqb (Sx.inK .i64 2) true, .eqb (decide ((nats x.s) = ([105, 115, 95, 105, 110, 116, 101, 103, 101, 114] : List Nat))) false, .eqb (decide (1 < 7)) true, .eqb (Sx.inK .i64 1) true, .eqb (decide ((nats x.s) = ([105, 115, 95, 97, 116, 111, 109] : List Nat))) false, .eqb (decide (0 < 7)) true, .eqb (decide ((nats x.t) = ([] : List Nat))) true, .eqb (decide (x.n = 0)) true, .eqb (decide (12 < 22)) true, .eqb (Sx.inK .i64 12) true, .eqb (decide (0 ≤ 12)) true]) := by kernel_rfl
theorem tt12_11 (x : Tr) : funO 5 mth cal 1000 ir69 [(.ep 57 0 (rowK x 12))] [.go, .go, .br true, .br true, .go, .go, .br true, .br true, .go, .go, .br true, .br false, .br true, .br false, .br true, .br false, .br true, .br false, .br true, .br false, .br true, .br true, .br true, .br false] = some ((.b false), [.eqb (decide ((List.length (rowsT x.l) : Int) = 1)) false, .eqb (decide (0 ≤ 5)) true, .eqb (decide ((nats x.s) = ([105, 115, 95, 108, 105, 115, 116] : List Nat))) true, .eqb (decide (5 < 7)) true, .eqb (Sx.inK .i64 5) true, .eqb (decide ((nats x.s) = ([105, 115, 95, 116, 117, 112, 108, 101] : List Nat))) false, .eqb (decide (4 < 7)) true, .eqb (Sx.inK .i64 4) true, .eqb (decide ((nats x.s) = ([105, 115, 95, 114, 101, 102, 101, 114, 101, 110, 99, 101] : List Nat))) false, .eqb (decide (3 < 7)) true, .eqb (Sx.inK .i64 3) true, .eqb (decide ((nats x.s) = ([105, 115, 95, 112, 105, 100] : List Nat))) false, .eqb (decide (2 < 7)) true, .eqb (Sx.inK .i64 2) true, .eqb (decide ((nats x.s) = ([105, 115, 95, 105, 110, 116, 101, 103, 101, 114] : List Nat))) false, .eqb (decide (1 < 7)) true, .eqb (Sx.inK .i64 1) true, .eqb (decide ((nats x.s) = ([105, 115, 95, 97, 116, 111, 109] : List Nat))) false, .eqb (decide (0 < 7)) true, .eqb (decide ((nats x.t) = ([] : List Nat))) true, .eqb (decide (x.n = 0)) true, .eqb (decide (12 < 22)) true, .eqb (Sx.inK .i64 12) true, .eqb (decide (0 ≤ 12)) true]) := by kernel_rfl
theorem tt12_12 (x : Tr) (veach0 : Bool) : funO 5 mth cal 1000 ir69 [(.ep 57 0 (rowK x 12))] [.go, .go, .br true, .br true, .go, .go, .br true, .br true, .go, .go, .br true, .br false, .br true, .br false, .br true, .br false, .br true, .br false, .br true, .br false, .br true, .br false, .br true, .br true, .br true, .br true, .cl [.as, .as] (.b (veach0))] = some ((.b (veach0)), [.call 73 [(.es 57 (.r (rowsT x.l))), (.f (.func 67) [] [])] (.b (veach0)), .eqb (freeL []) true, .eqb (TV.free (.f (.func 67) [] [])) true, .eqb (TV.free (.es 57 (.r (rowsT x.l)))) true, .eqb (decide ((List.length (rowsT x.l) : Int) = 1)) true, .eqb (decide (0 ≤ 6)) true, .eqb (decide ((nats x.s) = ([105, 115, 95, 102, 117, 110, 99, 116, 105, 111, 110] : List Nat))) true, .eqb (decide (6 < 7)) true, .eqb (Sx.inK .i64 6) true, .eqb (decide ((nats x.s) = ([105, 115, 95, 108, 105, 115, 116] : List Nat))) false, .eqb (decide (5 < 7)) true, .eqb (Sx.inK .i64 5) true, .eqb (decide ((nats x.s) = ([105, 115, 95, 116, 117, 112, 108, 101] : List Nat))) false, .eqb (decide (4 < 7)) true, .eqb (Sx.inK .i64 4) true, .eqb (decide ((nats x.s) = ([105, 115, 95, 114, 101, 102, 101, 114, 101, 110, 99, 101] : List Nat))) false, .eqb (decide (3 < 7)) true, .eqb (Sx.inK .i64 3) true, .eqb (decide ((nats x.s) = ([105, 115, 95, 112, 105, 100] : List Nat))) false, .eqb (decide (2 < 7)) true, .eqb (Sx.inK .i64 2) true, .eqb (decide ((nats x.s) = ([105, 115, 95, 105, 110, 116, 101, 103, 101, 114] : List Nat))) false, .eqb (decide (1 < 7)) true, .eqb (Sx.inK .i64 1) true, .eqb (decide ((nats x.s) = ([105, 115, 95, 97, 116, 111, 109] : List Nat))) false, .eqb (decide (0 < 7)) true, .eqb (decide ((nats x.t) = ([] : List Nat))) true, .eqb (decide (x.n = 0)) true, .eqb (decide (12 < 22)) true, .eqb (Sx.inK .i64 12) true, .eqb (decide (0 ≤ 12)) true]) := by kernel_rfl
theorem tt12_13 (x : Tr) : funO 5 mth cal 1000 ir69 [(.ep 57 0 (rowK x 12))] [.go, .go, .br true, .br true, .go, .go, .br true, .br true, .go, .go, .br true, .br false, .br true, .br false, .br true, .br false, .br true, .br false, .br true, .br false, .br true, .br false, .br true, .br true, .br true, .br false] = some ((.b false), [.eqb (decide ((List.length (rowsT x.l) : Int) = 1)) false, .eqb (decide (0 ≤ 6)) true, .eqb (decide ((nats x.s) = ([105, 115, 95, 102, 117, 110, 99, 116, 105, 111, 110] : List Nat))) true, .eqb (decide (6 < 7)) true, .eqb (Sx.inK .i64 6) true, .eqb (decide ((nats x.s) = ([105, 115, 95, 108, 105, 115, 116] : List Nat))) false, .eqb (decide (5 < 7)) true, .eqb (Sx.inK .i64 5) true, .eqb (decide ((nats x.s) = ([105, 115, 95, 116, 117, 112, 108, 101] : List Nat))) false, .eqb (decide (4 < 7)) true, .eqb (Sx.inK .i64 4) true, .eqb (decide ((nats x.s) = ([105, 115, 95, 114, 101, 102, 101, 114, 101, 110, 99, 101] : List Nat))) false, .eqb (decide (3 < 7)) true, .eqb (Sx.inK .i64 3) true, .eqb (decide ((nats x.s) = ([105, 115, 95, 112, 105, 100] : List Nat))) false, .eqb (decide (2 < 7)) true, .eqb (Sx.inK .i64 2) true, .eqb (decide ((nats x.s) = ([105, 115, 95, 105, 110, 116, 101, 103, 101, 114] : List Nat))) false, .eqb (decide (1 < 7)) true, .eqb (Sx.inK .i64 1) true, .eqb (decide ((nats x.s) = ([105, 115, 95, 97, 116, 111, 109] : List Nat))) false, .eqb (decide (0 < 7)) true, .eqb (decide ((nats x.t) = ([] : List Nat))) true, .eqb (decide (x.n = 0)) true, .eqb (decide (12 < 22)) true, .eqb (Sx.inK .i64 12) true, .eqb (decide (0 ≤ 12)) true]) := by kernel_rfl
theorem tt12_14 (x : Tr) : funO 5 mth cal 1000 ir69 [(.ep 57 0 (rowK x 12))] [.go, .go, .br true, .br true, .go, .go, .br true, .br true, .go, .go, .br true, .br false, .br true, .br false, .br true, .br false, .br true, .br false, .br true, .br false, .br true, .br false, .br true, .br false, .br false, .br false] = some ((.b false), [.eqb (decide (0 ≤ (-1))) false, .eqb (decide (7 < 7)) false, .eqb (Sx.inK .i64 7) true, .eqb (decide ((nats x.s) = ([105, 115, 95, 102, 117, 110, 99, 116, 105, 111, 110] : List Nat))) false, .eqb (decide (6 < 7)) true, .eqb (Sx.inK .i64 6) true, .eqb (decide ((nats x.s) = ([105, 115, 95, 108, 105, 115, 116] : List Nat))) false, .eqb (decide (5 < 7)) true, .eqb (Sx.inK .i64 5) true, .eqb (decide ((nats x.s) = ([105, 115, 95, 116, 117, 112, 108, 101] : List Nat))) false, .eqb (decide (4 < 7)) true, .eqb (Sx.inK .i64 4) true, .eqb (decide ((nats x.s) = ([105, 115, 95, 114, 101, 102, 101, 114, 101, 110, 99, 101] : List Nat))) false, .eqb (decide (3 < 7)) true, .eqb (Sx.inK .i64 3) true, .eqb (decide ((nats x.s) = ([105, 115, 95, 112, 105, 100] : List Nat))) false, .eqb (decide (2 < 7)) true, .eqb (Sx.inK .i64 2) true, .eqb (decide ((nats x.s) = ([105, 115, 95, 105, 110, 116, 101, 103, 101, 114] : List Nat))) false, .eqb (decide (1 < 7)) true, .eqb (Sx.inK .i64 1) true, .eqb (decide ((nats x.s) = ([105, 115, 95, 97, 116, 111, 109] : List Nat))) false, .eqb (decide (0 < 7)) true, .eqb (decide ((nats x.t) = ([] : List Nat))) true, .eqb (decide (x.n = 0)) true, .eqb (decide (12 < 22)) true, .eqb (Sx.inK .i64 12) true, .eqb (decide (0 ≤ 12)) true]) := by kernel_rfl
theorem tt12_15 (x : Tr) : funO 5 mth cal 1000 ir69 [(.ep 57 0 (rowK x 12))] [.go, .go, .br true, .br true, .go, .go, .br true, .br false] = some ((.b false), [.eqb (decide ((nats x.t) = ([] : List Nat))) false, .eqb (decide (x.n = 0)) true, .eqb (decide (12 < 22)) true, .eqb (Sx.inK .i64 12) true, .eqb (decide (0 ≤ 12)) true]) := by kernel_rfl
theorem tt12_16 (x : Tr) : funO 5 mth cal 1000 ir69 [(.ep 57 0 (rowK x 12))] [.go, .go, .br true, .br true, .go, .go, .br false] = some ((.b false), [.eqb (decide (x.n = 0)) false, .eqb (decide (12 < 22)) true, .eqb (Sx.inK .i64 12) true, .eqb (decide (0 ≤ 12)) true]) := by kernel_rfl
theorem tt12 (x : Tr) (veach0 : Bool) (c0 : (decide (x.n = 0)) = true → (decide ((nats x.t) = ([] : List Nat))) = true → (decide ((nats x.s) = ([105, 115, 95, 97, 116, 111, 109] : List Nat))) = true → (decide ((List.length (rowsT x.l) : Int) = 1)) = true → Pu 73 [(.es 57 (.r (rowsT x.l))), (.f (.func 67) [] [])] (.b (veach0))) (c1 : (decide (x.n = 0)) = true → (decide ((nats x.t) = ([] : List Nat))) = true → (decide ((nats x.s) = ([105, 115, 95, 97, 116, 111, 109] : List Nat))) = false → (decide ((nats x.s) = ([105, 115, 95, 105, 110, 116, 101, 103, 101, 114] : List Nat))) = true → (decide ((List.length (rowsT x.l) : Int) = 1)) = true → Pu 73 [(.es 57 (.r (rowsT x.l))), (.f (.func 67) [] [])] (.b (veach0))) (c2 : (decide (x.n = 0)) = true → (decide ((nats x.t) = ([] : List Nat))) = true → (decide ((nats x.s) = ([105, 115, 95, 97, 116, 111, 109] : List Nat))) = false → (decide ((nats x.s) = ([105, 115, 95, 105, 110, 116, 101, 103, 101, 114] : List Nat))) = false → (decide ((nats x.s) = ([105, 115, 95, 112, 105, 100] : List Nat))) = true → (decide ((List.length (rowsT x.l) : Int) = 1)) = true → Pu 73 [(.es 57 (.r (rowsT x.l))), (.f (.func 67) [] [])] (.b (veach0))) (c3 : (decide (x.n = 0)) = true → (decide ((nats x.t) = ([] : List Nat))) = true → (decide ((nats x.s) = ([105, 115, 95, 97, 116, 111, 109] : List Nat))) = false → (decide ((nats x.s) = ([105, 115, 95, 105, 110, 116, 101, 103, 101, 114] : List Nat))) = false → (decide ((nats x.s) = ([105, 115, 95, 112, 105, 100] : List Nat))) = false → (decide ((nats x.s) = ([105, 115, 95, 114, 101, 102, 101, 114, 101, 110, 99, 101] : List Nat))) = true → (decide ((List.length (rowsT x.l) : Int) = 1)) = true → Pu 73 [(.es 57 (.r (rowsT x.l))), (.f (.func 67) [] [])] (.b (veach0))) (c4 : (decide (x.n = 0)) = true → (decide ((nats x.t) = ([] : List Nat))) = true → (decide ((nats x.s) = ([105, 115, 95, 97, 116, 111, 109] : List Nat))) = false → (decide ((nats x.s) = ([105, 115, 95, 105, 110, 116, 101, 103, 101, 114] : List Nat))) = false → (decide ((nats x.s) = ([105, 115, 95, 112, 105, 100] : List Nat))) = false → (decide ((nats x.s) = ([105, 115, 95, 114, 101, 102, 101, 114, 101, 110, 99, 101] : List Nat))) = false → (decide ((nats x.s) = ([105, 115, 95, 116, 117, 112, 108, 101] : List Nat))) = true → (decide ((List.length (rowsT x.l) : Int) = 1)) = true → Pu 73 [(.es 57 (.r (rowsT x.l))), (.f (.func 67) [] [])] (.b (veach0))) (c5 : (decide (x.n = 0)) = true → (decide ((nats x.t) = ([] : List Nat))) = true → (decide ((nats x.s) = ([105, 115, 95, 97, 116, 111, 109] : List Nat))) = false → (decide ((nats x.s) = ([105, 115, 95, 105, 110, 116, 101, 103, 101, 114] : List Nat))) = false → (decide ((nats x.s) = ([105, 115, 95, 112, 105, 100] : List Nat))) = false → (decide ((nats x.s) = ([105, 115, 95, 114, 101, 102, 101, 114, 101, 110, 99, 101] : List Nat))) = false → (decide ((nats x.s) = ([105, 115, 95, 116, 117, 112, 108, 101] : List Nat))) = false → (decide ((nats x.s) = ([105, 115, 95, 108, 105, 115, 116] : List Nat))) = true → (decide ((List.length (rowsT x.l) : Int) = 1)) = true → Pu 73 [(.es 57 (.r (rowsT x.l))), (.f (.func 67) [] [])] (.b (veach0))) (c6 : (decide (x.n = 0)) = true → (decide ((nats x.t) = ([] : List Nat))) = true → (decide ((nats x.s) = ([105, 115, 95, 97, 116, 111, 109] : List Nat))) = false → (decide ((nats x.s) = ([105, 115, 95, 105, 110, 116, 101, 103, 101, 114] : List Nat))) = false → (decide ((nats x.s) = ([105, 115, 95, 112, 105, 100] : List Nat))) = false → (decide ((nats x.s) = ([105, 115, 95, 114, 101, 102, 101, 114, 101, 110, 99, 101] : List Nat))) = false → (decide ((nats x.s) = ([105, 115, 95, 116, 117, 112, 108, 101] : List Nat))) = false → (decide ((nats x.s) = ([105, 115, 95, 108, 105, 115, 116] : List Nat))) = false → (decide ((nats x.s) = ([105, 115, 95, 102, 117, 110, 99, 116, 105, 111, 110] : List Nat))) = true → (decide ((List.length (rowsT x.l) : Int) = 1)) = true → Pu 73 [(.es 57 (.r (rowsT x.l))), (.f (.func 67) [] [])] (.b (veach0))) : Pu 69 [(.ep 57 0 (rowK x 12))] (.b (bif decide (x.n = 0) then (bif decide ((nats x.t) = ([] : List Nat)) then (bif decide ((nats x.s) = ([105, 115, 95, 97, 116, 111, 109] : List Nat)) then (bif decide ((List.length (rowsT x.l) : Int) = 1) then veach0 else false) else (bif decide ((nats x.s) = ([105, 115, 95, 105, 110, 116, 101, 103, 101, 114] : List Nat)) then (bif decide ((List.length (rowsT x.l) : Int) = 1) then veach0 else false) else (bif decide ((nats x.s) = ([105, 115, 95, 112, 105, 100] : List Nat)) then (bif decide ((List.length (rowsT x.l) : Int) = 1) then veach0 else false) else (bif decide ((nats x.s) = ([105, 115, 95, 114, 101, 102, 101, 114, 101, 110, 99, 101] : List Nat)) then (bif decide ((List.length (rowsT x.l) : Int) = 1) then veach0 else false) else (bif decide ((nats x.s) = ([105, 115, 95, 116, 117, 112, 108, 101] : List Nat)) then (bif decide ((List.length (rowsT x.l) : Int) = 1) then veach0 else false) else (bif decide ((nats x.s) = ([105, 115, 95, 108, 105, 115, 116] : List Nat)) then (bif decide ((List.length (rowsT x.l) : Int) = 1) then veach0 else false) else (bif decide ((nats x.s) = ([105, 115, 95, 102, 117, 110, 99, 116, 105, 111, 110] : List Nat)) then (bif decide ((List.length (rowsT x.l) : Int) = 1) then veach0 else false) else false))))))) else false) else false)) := by
  cases h0 : (decide (x.n = 0))
  case false =>
    exact pu_of Tryz.func69 irc69 (tt12_16 x) rfl ⟨h0, (of_eqb (by decide)), (of_eqb (by decide)), (of_eqb (by decide)), trivial⟩
  case true =>
    cases h1 : (decide ((nats x.t) = ([] : List Nat)))
    case false =>
      exact pu_of Tryz.func69 irc69 (tt12_15 x) rfl ⟨h1, h0, (of_eqb (by decide)), (of_eqb (by decide)), (of_eqb (by decide)), trivial⟩
    case true =>
      cases h2 : (decide ((nats x.s) = ([105, 115, 95, 97, 116, 111, 109] : List Nat)))
      case false =>
        cases h3 : (decide ((nats x.s) = ([105, 115, 95, 105, 110, 116, 101, 103, 101, 114] : List Nat)))
        case false =>
          cases h4 : (decide ((nats x.s) = ([105, 115, 95, 112, 105, 100] : List Nat)))
          case false =>
            cases h5 : (decide ((nats x.s) = ([105, 115, 95, 114, 101, 102, 101, 114, 101, 110, 99, 101] : List Nat)))
            case false =>
              cases h6 : (decide ((nats x.s) = ([105, 115, 95, 116, 117, 112, 108, 101] : List Nat)))
              case false =>
                cases h7 : (decide ((nats x.s) = ([105, 115, 95, 108, 105, 115, 116] : List Nat)))
                case false =>
                  cases h8 : (decide ((nats x.s) = ([105, 115, 95, 102, 117, 110, 99, 116, 105, 111, 110] : List Nat)))
                  case false =>
                    exact pu_of Tryz.func69 irc69 (tt12_14 x) rfl ⟨(of_eqb (by decide)), (of_eqb (by decide)), (of_eqb (by decide)), h8, (of_eqb (by decide)), (of_eqb (by decide)), h7, (of_eqb (by decide)), (of_eqb (by decide)), h6, (of_eqb (by decide)), (of_eqb (by decide)), h5, (of_eqb (by decide)), (of_eqb (by decide)), h4, (of_eqb (by decide)), (of_eqb (by decide)), h3, (of_eqb (by decide)), (of_eqb (by decide)), h2, (of_eqb (by decide)), h1, h0, (of_eqb (by decide)), (of_eqb (by decide)), (of_eqb (by decide)), trivial⟩
                  case true =>
                    cases h9 : (decide ((List.length (rowsT x.l) : Int) = 1))
                    case false =>
                      exact pu_of Tryz.func69 irc69 (tt12_13 x) rfl ⟨h9, (of_eqb (by decide)), h8, (of_eqb (by decide)), (of_eqb (by decide)), h7, (of_eqb (by decide)), (of_eqb (by decide)), h6, (of_eqb (by decide)), (of_eqb (by decide)), h5, (of_eqb (by decide)), (of_eqb (by decide)), h4, (of_eqb (by decide)), (of_eqb (by decide)), h3, (of_eqb (by decide)), (of_eqb (by decide)), h2, (of_eqb (by decide)), h1, h0, (of_eqb (by decide)), (of_eqb (by decide)), (of_eqb (by decide)), trivial⟩
                    case true =>
                      exact pu_of Tryz.func69 irc69 (tt12_12 x veach0) rfl ⟨(c6 h0 h1 h2 h3 h4 h5 h6 h7 h8 h9), rfl, rfl, rfl, h9, (of_eqb (by decide)), h8, (of_eqb (by decide)), (of_eqb (by decide)), h7, (of_eqb (by decide)), (of_eqb (by decide)), h6, (of_eqb (by decide)), (of_eqb (by decide)), h5, (of_eqb (by decide)), (of_eqb (by decide)), h4, (of_eqb (by decide)), (of_eqb (by decide)), h3, (of_eqb (by decide)), (of_eqb (by decide)), h2, (of_eqb (by decide)), h1, h0, (of_eqb (by decide)), (of_eqb (by decide)), (of_eqb (by decide)), trivial⟩
                case true =>
                  cases h8 : (decide ((List.length (rowsT x.l) : Int) = 1))
                  case false =>
                    exact pu_of Tryz.func69 irc69 (tt12_11 x) rfl ⟨h8, (of_eqb (by decide)), h7, (of_eqb (by decide)), (of_eqb (by decide)), h6, (of_eqb (by decide)), (of_eqb (by decide)), h5, (of_eqb (by decide)), (of_eqb (by decide)), h4, (of_eqb (by decide)), (of_eqb (by decide)), h3, (of_eqb (by decide)), (of_eqb (by decide)), h2, (of_eqb (by decide)), h1, h0, (of_eqb (by decide)), (of_eqb (by decide)), (of_eqb (by decide)), trivial⟩
                  case true =>
                    exact pu_of Tryz.func69 irc69 (tt12_10 x veach0) rfl ⟨(c5 h0 h1 h2 h3 h4 h5 h6 h7 h8), rfl, rfl, rfl, h8, (of_eqb (by decide)), h7, (of_eqb (by decide)), (of_eqb (by decide)), h6, (of_eqb (by decide)), (of_eqb (by decide)), h5, (of_eqb (by decide)), (of_eqb (by decide)), h4, (of_eqb (by decide)), (of_eqb (by decide)), h3, (of_eqb (by decide)), (of_eqb (by decide)), h2, (of_eqb (by decide)), h1, h0, (of_eqb (by decide)), (of_eqb (by decide)), (of_eqb (by decide)), trivial⟩
              case true =>
                cases h7 : (decide ((List.length (rowsT x.l) : Int) = 1))
                case false =>
                  exact pu_of Tryz.func69 irc69 (tt12_9 x) rfl ⟨h7, (of_eqb (by decide)), h6, (of_eqb (by decide)), (of_eqb (by decide)), h5, (of_eqb (by decide)), (of_eqb (by decide)), h4, (of_eqb (by decide)), (of_eqb (by decide)), h3, (of_eqb (by decide)), (of_eqb (by decide)), h2, (of_eqb (by decide)), h1, h0, (of_eqb (by decide)), (of_eqb (by decide)), (of_eqb (by decide)), trivial⟩
                case true =>
                  exact pu_of Tryz.func69 irc69 (tt12_8 x veach0) rfl ⟨(c4 h0 h1 h2 h3 h4 h5 h6 h7), rfl, rfl, rfl, h7, (of_eqb (by decide)), h6, (of_eqb (by decide)), (of_eqb (by decide)), h5, (of_eqb (by decide)), (of_eqb (by decide)), h4, (of_eqb (by decide)), (of_eqb (by decide)), h3, (of_eqb (by decide)), (of_eqb (by decide)), h2, (of_eqb (by decide)), h1, h0, (of_eqb (by decide)), (of_eqb (by decide)), (of_eqb (by decide)), trivial⟩
            case true =>
              cases h6 : (decide ((List.length (rowsT x.l) : Int) = 1))
              case false =>
                exact pu_of Tryz.func69 irc69 (tt12_7 x) rfl ⟨h6, (of_eqb (by decide)), h5, (of_eqb (by decide)), (of_eqb (by decide)), h4, (of_eqb (by decide)), (of_eqb (by decide)), h3, (of_eqb (by decide)), (of_eqb (by decide)), h2, (of_eqb (by decide)), h1, h0, (of_eqb (by decide)), (of_eqb (by decide)), (of_eqb (by decide)), trivial⟩
              case true =>
                exact pu_of Tryz.func69 irc69 (tt12_6 x veach0) rfl ⟨(c3 h0 h1 h2 h3 h4 h5 h6), rfl, rfl, rfl, h6, (of_eqb (by decide)), h5, (of_eqb (by decide)), (of_eqb (by decide)), h4, (of_eqb (by decide)), (of_eqb (by decide)), h3, (of_eqb (by decide)), (of_eqb (by decide)), h2, (of_eqb (by decide)), h1, h0, (of_eqb (by decide)), (of_eqb (by decide)), (of_eqb (by decide)), trivial⟩
          case true =>
            cases h5 : (decide ((List.length (rowsT x.l) : Int) = 1))
            case false =>
              exact pu_of Tryz.func69 irc69 (tt12_5 x) rfl ⟨h5, (of_eqb (by decide)), h4, (of_eqb (by decide)), (of_eqb (by decide)), h3, (of_eqb (by decide)), (of_eqb (by decide)), h2, (of_eqb (by decide)), h1, h0, (of_eqb (by decide)), (of_eqb (by decide)), (of_eqb (by decide)), trivial⟩
            case true =>
              exact pu_of Tryz.func69 irc69 (tt12_4 x veach0) rfl ⟨(c2 h0 h1 h2 h3 h4 h5), rfl, rfl, rfl, h5, (of_eqb (by decide)), h4, (of_eqb (by decide)), (of_eqb (by decide)), h3, (of_eqb (by decide)), (of_eqb (by decide)), h2, (of_eqb (by decide)), h1, h0, (of_eqb (by decide)), (of_eqb (by decide)), (of_eqb (by decide)), trivial⟩
        case true =>
          cases h4 : (decide ((List.length (rowsT x.l) : Int) = 1))
          case false =>
            exact pu_of Tryz.func69 irc69 (tt12_3 x) rfl ⟨h4, (of_eqb (by decide)), h3, (of_eqb (by decide)), (of_eqb (by decide)), h2, (of_eqb (by decide)), h1, h0, (of_eqb (by decide)), (of_eqb (by decide)), (of_eqb (by decide)), trivial⟩
          case true =>
            exact pu_of Tryz.func69 irc69 (tt12_2 x veach0) rfl ⟨(c1 h0 h1 h2 h3 h4), rfl, rfl, rfl, h4, (of_eqb (by decide)), h3, (of_eqb (by decide)), (of_eqb (by decide)), h2, (of_eqb (by decide)), h1, h0, (of_eqb (by decide)), (of_eqb (by decide)), (of_eqb (by decide)), trivial⟩
      case true =>
        cases h3 : (decide ((List.length (rowsT x.l) : Int) = 1))
        case false =>
          exact pu_of Tryz.func69 irc69 (tt12_1 x) rfl ⟨h3, (of_eqb (by decide)), h2, (of_eqb (by decide)), h1, h0, (of_eqb (by decide)), (of_eqb (by decide)), (of_eqb (by decide)), trivial⟩
        case true =>
          exact pu_of Tryz.func69 irc69 (tt12_0 x veach0) rfl ⟨(c0 h0 h1 h2 h3), rfl, rfl, rfl, h3, (of_eqb (by decide)), h2, (of_eqb (by decide)), h1, h0, (of_eqb (by decide)), (of_eqb (by decide)), (of_eqb (by decide)), trivial⟩
theorem tt13_0 (x : Tr) : funO 5 mth cal 1000 ir69 [(.ep 57 0 (rowK x 13))] [.go, .go, .br true, .br true] = some ((.b false), [.eqb (decide (13 < 22)) true, .eqb (Sx.inK .i64 13) true, .eqb (decide (0 ≤ 13)) true]) := by kernel_rfl
theorem tt13 (x : Tr) : Pu 69 [(.ep 57 0 (rowK x 13))] (.b false) := by
  exact pu_of Tryz.func69 irc69 (tt13_0 x) rfl ⟨(of_eqb (by decide)), (of_eqb (by decide)), (of_eqb (by decide)), trivial⟩
theorem tt14_0 (x : Tr) : funO 5 mth cal 1000 ir69 [(.ep 57 0 (rowK x 14))] [.go, .go, .br true, .br true] = some ((.b false), [.eqb (decide (14 < 22)) true, .eqb (Sx.inK .i64 14) true, .eqb (decide (0 ≤ 14)) true]) := by kernel_rfl
theorem tt14 (x : Tr) : Pu 69 [(.ep 57 0 (rowK x 14))] (.b false) := by
  exact pu_of Tryz.func69 irc69 (tt14_0 x) rfl ⟨(of_eqb (by decide)), (of_eqb (by decide)), (of_eqb (by decide)), trivial⟩
theorem tt15_0 (x : Tr) : funO 5 mth cal 1000 ir69 [(.ep 57 0 (rowK x 15))] [.go, .go, .br true, .br true] = some ((.b false), [.eqb (decide (15 < 22)) true, .eqb (Sx.inK .i64 15) true, .eqb (decide (0 ≤ 15)) true]) := by kernel_rfl
theorem tt15 (x : Tr) : Pu 69 [(.ep 57 0 (rowK x 15))] (.b false) := by
  exact pu_of Tryz.func69 irc69 (tt15_0 x) rfl ⟨(of_eqb (by decide)), (of_eqb (by decide)), (of_eqb (by decide)), trivial⟩
theorem tt16_0 (x : Tr) : funO 5 mth cal 1000 ir69 [(.ep 57 0 (rowK x 16))] [.go, .go, .br true, .br true] = some ((.b false), [.eqb (decide (16 < 22)) true, .eqb (Sx.inK .i64 16) true, .eqb (decide (0 ≤ 16)) true]) := by kernel_rfl
theorem tt16 (x : Tr) : Pu 69 [(.ep 57 0 (rowK x 16))] (.b false) := by
  exact pu_of Tryz.func69 irc69 (tt16_0 x) rfl ⟨(of_eqb (by decide)), (of_eqb (by decide)), (of_eqb (by decide)), trivial⟩
theorem tt17_0 (x : Tr) : funO 5 mth cal 1000 ir69 [(.ep 57 0 (rowK x 17))] [.go, .go, .br true, .br true] = some ((.b false), [.eqb (decide (17 < 22)) true, .eqb (Sx.inK .i64 17) true, .eqb (decide (0 ≤ 17)) true]) := by kernel_rfl
theorem tt17 (x : Tr) : Pu 69 [(.ep 57 0 (rowK x 17))] (.b false) := by
  exact pu_of Tryz.func69 irc69 (tt17_0 x) rfl ⟨(of_eqb (by decide)), (of_eqb (by decide)), (of_eqb (by decide)), trivial⟩
theorem tt18_0 (x : Tr) : funO 5 mth cal 1000 ir69 [(.ep 57 0 (rowK x 18))] [.go, .go, .br true, .br true] = some ((.b false), [.eqb (decide (18 < 22)) true, .eqb (Sx.inK .i64 18) true, .eqb (decide (0 ≤ 18)) true]) := by kernel_rfl
theorem tt18 (x : Tr) : Pu 69 [(.ep 57 0 (rowK x 18))] (.b false) := by
  exact pu_of Tryz.func69 irc69 (tt18_0 x) rfl ⟨(of_eqb (by decide)), (of_eqb (by decide)), (of_eqb (by decide)), trivial⟩
theorem tt19_0 (x : Tr) : funO 5 mth cal 1000 ir69 [(.ep 57 0 (rowK x 19))] [.go, .go, .br true, .br true] = some ((.b false), [.eqb (decide (19 < 22)) true, .eqb (Sx.inK .i64 19) true, .eqb (decide (0 ≤ 19)) true]) := by kernel_rfl
theorem tt19 (x : Tr) : Pu 69 [(.ep 57 0 (rowK x 19))] (.b false) := by
  exact pu_of Tryz.func69 irc69 (tt19_0 x) rfl ⟨(of_eqb (by decide)), (of_eqb (by decide)), (of_eqb (by decide)), trivial⟩
theorem tt20_0 (x : Tr) : funO 5 mth cal 1000 ir69 [(.ep 57 0 (rowK x 20))] [.go, .go, .br true, .br true] = some ((.b false), [.eqb (decide (20 < 22)) true, .eqb (Sx.inK .i64 20) true, .eqb (decide (0 ≤ 20)) true]) := by kernel_rfl
theorem tt20 (x : Tr) : Pu 69 [(.ep 57 0 (rowK x 20))] (.b false) := by
  exact pu_of Tryz.func69 irc69 (tt20_0 x) rfl ⟨(of_eqb (by decide)), (of_eqb (by decide)), (of_eqb (by decide)), trivial⟩
theorem tt21_0 (x : Tr) : funO 5 mth cal 1000 ir69 [(.ep 57 0 (rowK x 21))] [.go, .go, .br true, .br true] = some ((.b false), [.eqb (decide (21 < 22)) true, .eqb (Sx.inK .i64 21) true, .eqb (decide (0 ≤ 21)) true]) := by kernel_rfl
theorem tt21 (x : Tr) : Pu 69 [(.ep 57 0 (rowK x 21))] (.b false) := by
  exact pu_of Tryz.func69 irc69 (tt21_0 x) rfl ⟨(of_eqb (by decide)), (of_eqb (by decide)), (of_eqb (by decide)), trivial⟩
theorem ttO_1 (x : Tr) : funO 5 mth cal 1000 ir69 [(.ep 57 0 (rowV x))] [.go, .go, .br true, .br false] = some ((.b false), [.eqb (decide (x.k < 22)) false, .eqb (Sx.inK .i64 x.k) true, .eqb (decide (0 ≤ x.k)) true]) := by kernel_rfl
theorem ttO_2 (x : Tr) : funO 5 mth cal 1000 ir69 [(.ep 57 0 (rowV x))] [.go, .go, .br false] = some ((.b false), [.eqb (decide (0 ≤ x.k)) false]) := by kernel_rfl
theorem ttO (x : Tr) (s0 : (decide (0 ≤ x.k)) = true → (Sx.inK .i64 x.k) = true) (d0 : (decide (0 ≤ x.k)) = true → (decide (x.k < 22)) = true → False) : Pu 69 [(.ep 57 0 (rowV x))] (.b (bif decide (0 ≤ x.k) then (bif decide (x.k < 22) then false else false) else false)) := by
  cases h0 : (decide (0 ≤ x.k))
  case false =>
    exact pu_of Tryz.func69 irc69 (ttO_2 x) rfl ⟨h0, trivial⟩
  case true =>
    cases h1 : (decide (x.k < 22))
    case false =>
      exact pu_of Tryz.func69 irc69 (ttO_1 x) rfl ⟨h1, (s0 h0), h0, trivial⟩
    case true =>
      exact (d0 h0 h1).elim
theorem gdP_0 (x : Tr) (veach0 : Bool) : funO 5 mth cal 1000 ir68 [(.ep 57 0 (rowV x))] [.br true, .go, .br true, .br true, .br true, .cl [.as, .as] (.b (veach0))] = some ((.b (veach0)), [.call 73 [(.es 57 (.r (rowsT x.l))), (.f (.func 69) [] [])] (.b (veach0)), .eqb (freeL []) true, .eqb (TV.free (.f (.func 69) [] [])) true, .eqb (TV.free (.es 57 (.r (rowsT x.l)))) true, .eqb (decide ((nats x.t) = ([] : List Nat))) true, .eqb (decide ((nats x.s) = ([] : List Nat))) true, .eqb (decide (x.n = 0)) true, .eqb (decide (x.k = 4)) true]) := by kernel_rfl
theorem gdP_1 (x : Tr) : funO 5 mth cal 1000 ir68 [(.ep 57 0 (rowV x))] [.br true, .go, .br true, .br true, .br false] = some ((.b false), [.eqb (decide ((nats x.t) = ([] : List Nat))) false, .eqb (decide ((nats x.s) = ([] : List Nat))) true, .eqb (decide (x.n = 0)) true, .eqb (decide (x.k = 4)) true]) := by kernel_rfl
theorem gdP_2 (x : Tr) : funO 5 mth cal 1000 ir68 [(.ep 57 0 (rowV x))] [.br true, .go, .br true, .br false] = some ((.b false), [.eqb (decide ((nats x.s) = ([] : List Nat))) false, .eqb (decide (x.n = 0)) true, .eqb (decide (x.k = 4)) true]) := by kernel_rfl
theorem gdP_3 (x : Tr) : funO 5 mth cal 1000 ir68 [(.ep 57 0 (rowV x))] [.br true, .go, .br false] = some ((.b false), [.eqb (decide (x.n = 0)) false, .eqb (decide (x.k = 4)) true]) := by kernel_rfl
theorem gdP_4 (x : Tr) : funO 5 mth cal 1000 ir68 [(.ep 57 0 (rowV x))] [.br false] = some ((.b false), [.eqb (decide (x.k = 4)) false]) := by kernel_rfl
theorem gdP (x : Tr) (veach0 : Bool) (c0 : (decide (x.k = 4)) = true → (decide (x.n = 0)) = true → (decide ((nats x.s) = ([] : List Nat))) = true → (decide ((nats x.t) = ([] : List Nat))) = true → Pu 73 [(.es 57 (.r (rowsT x.l))), (.f (.func 69) [] [])] (.b (veach0))) : Pu 68 [(.ep 57 0 (rowV x))] (.b (bif decide (x.k = 4) then (bif decide (x.n = 0) then (bif decide ((nats x.s) = ([] : List Nat)) then (bif decide ((nats x.t) = ([] : List Nat)) then veach0 else false) else false) else false) else false)) := by
  cases h0 : (decide (x.k = 4))
  case false =>
    exact pu_of Tryz.func68 irc68 (gdP_4 x) rfl ⟨h0, trivial⟩
  case true =>
    cases h1 : (decide (x.n = 0))
    case false =>
      exact pu_of Tryz.func68 irc68 (gdP_3 x) rfl ⟨h1, h0, trivial⟩
    case true =>
      cases h2 : (decide ((nats x.s) = ([] : List Nat)))
      case false =>
        exact pu_of Tryz.func68 irc68 (gdP_2 x) rfl ⟨h2, h1, h0, trivial⟩
      case true =>
        cases h3 : (decide ((nats x.t) = ([] : List Nat)))
        case false =>
          exact pu_of Tryz.func68 irc68 (gdP_1 x) rfl ⟨h3, h2, h1, h0, trivial⟩
        case true =>
          exact pu_of Tryz.func68 irc68 (gdP_0 x veach0) rfl ⟨(c0 h0 h1 h2 h3), rfl, rfl, rfl, h3, h2, h1, h0, trivial⟩

/-- What a leaf or a tuple asks. -/
def patK (k : Int) (x : Tr) (kids : Bool) : Bool := match k with
  | 5 => decide (x.n = 0) && (decide (nats x.t = []) && (decide ((x.l.length : Int) = 0) && nameA x.s))
  | 6 => decide (nats x.s = []) && (decide (nats x.t = []) && (decide ((x.l.length : Int) = 0) && (decide (-576460752303423488 ≤ x.n) && decide (x.n ≤ 576460752303423487))))
  | 7 => decide (x.n = 0) && (decide (nats x.t = []) && (decide ((x.l.length : Int) = 0) && atomN x.s))
  | 8 => decide (x.n = 0) && (decide (nats x.s = []) && (decide (nats x.t = []) && decide ((x.l.length : Int) = 0)))
  | 9 => decide (x.n = 0) && (decide (nats x.s = []) && (decide (nats x.t = []) && (decide ((x.l.length : Int) = 2) && kids)))
  | 10 => decide (x.n = 0) && (decide (nats x.s = []) && (decide (nats x.t = []) && kids))
  | _ => false
theorem patK_not {k : Int} {x : Tr} {b : Bool} (h : ¬ (0 ≤ k ∧ k < 22)) : patK k x b = false := by
  unfold patK
  split <;> first | rfl | (exfalso; omega)
def pat (x : Tr) : Bool := foldT (fun x L => patK x.k x (L.all id)) x
theorem all_id {α : Type} (f : α → Bool) (l : List α) : (l.map f).all id = l.all f := by rw [List.all_map]; rfl
theorem pat_eq (x : Tr) : pat x = patK x.k x (x.l.all pat) := by
  unfold pat
  rw [foldT_eq, all_id]
def gddK (k : Int) (x : Tr) (kids : Bool) : Bool := match k with
  | 11 => decide (x.n = 0) && (decide (nats x.t = []) && (bif decide (nats x.s = [43]) then decide ((x.l.length : Int) = 2) && kids else bif decide (nats x.s = [45]) then decide ((x.l.length : Int) = 2) && kids else decide (nats x.s = [42]) && (decide ((x.l.length : Int) = 2) && kids)))
  | k => patK k x kids
theorem gddK_not {k : Int} {x : Tr} {b : Bool} (h : ¬ (0 ≤ k ∧ k < 22)) : gddK k x b = false := by
  unfold gddK
  split <;> first | (exfalso; omega) | exact patK_not h
def gdd (x : Tr) : Bool := foldT (fun x L => gddK x.k x (L.all id)) x
theorem gdd_eq (x : Tr) : gdd x = gddK x.k x (x.l.all gdd) := by
  unfold gdd
  rw [foldT_eq, all_id]
def kinds : List (List Nat) := [[105, 115, 95, 97, 116, 111, 109], [105, 115, 95, 105, 110, 116, 101, 103, 101, 114], [105, 115, 95, 112, 105, 100], [105, 115, 95, 114, 101, 102, 101, 114, 101, 110, 99, 101], [105, 115, 95, 116, 117, 112, 108, 101], [105, 115, 95, 108, 105, 115, 116], [105, 115, 95, 102, 117, 110, 99, 116, 105, 111, 110]]
def isIn : List (List Nat) → List Nat → Bool → Bool
  | [], _, _ => false
  | [a], s, q => decide (s = a) && q
  | a :: r, s, q => bif decide (s = a) then q else isIn r s q
def cmpW : List (List Nat) := [[61, 58, 61], [61, 47, 61], [60], [61, 60], [62], [62, 61]]
def ariW : List (List Nat) := [[43], [45], [42], [100, 105, 118], [114, 101, 109]]
def cmpN (s : ByteArray) : Bool := isIn cmpW (nats s) true
def ariN (s : ByteArray) : Bool := isIn ariW (nats s) true
theorem ari_pu (s : ByteArray) : Pu 129 [.s (nats s)] (.b (ariN s)) := by
  have q := B1.arith s
  simp only [Bool.cond_false_right] at q
  exact q
theorem cmp_pu (s : ByteArray) : Pu 130 [.s (nats s)] (.b (cmpN s)) := by
  have q := B1.cmps s _ _ (B1.cmp0 s)
  simp only [Bool.cond_false_right] at q
  exact q
def tstK (k : Int) (x : Tr) : Bool := match k with
  | 11 => decide (x.n = 0) && (decide (nats x.t = []) && (cmpN x.s && (decide ((x.l.length : Int) = 2) && x.l.all gdd)))
  | 12 => decide (x.n = 0) && (decide (nats x.t = []) && isIn kinds (nats x.s) (decide ((x.l.length : Int) = 1) && x.l.all gdd))
  | _ => false
theorem tstK_not {k : Int} {x : Tr} (h : ¬ (0 ≤ k ∧ k < 22)) : tstK k x = false := by
  unfold tstK
  split <;> first | rfl | (exfalso; omega)
def tst (x : Tr) : Bool := tstK x.k x
def gd (x : Tr) : Bool := decide (x.k = 4) && (decide (x.n = 0) && (decide (nats x.s = []) && (decide (nats x.t = []) && x.l.all tst)))

theorem kin {x : Tr} (hx : TrOk x) : Sx.inK .i64 x.k = true := by
  have h := hx.wf.k
  rw [inK64_iff]
  simp [Lit.wf, IntKind.min, IntKind.max, IntKind.signed, IntKind.bits] at h
  omega
theorem pattern_pu : ∀ x : Tr, TrOk x → Pu 65 [.ep 57 0 (rowV x)] (.b (pat x)) := by
  intro x
  induction x using Tr.ind with
  | h x ih =>
    intro hx
    have hE : Pu 73 [.es 57 (.r (rowsT x.l)), .f (.func 65) [] []] (.b (x.l.all pat)) := each_tr rfl rfl hx.len fun y hy => ih y hy (hx.kid hy)
    rw [pat_eq]
    by_cases hk : 0 ≤ x.k ∧ x.k < 22
    · have hd : x.k = 0 ∨ x.k = 1 ∨ x.k = 2 ∨ x.k = 3 ∨ x.k = 4 ∨ x.k = 5 ∨ x.k = 6 ∨ x.k = 7 ∨ x.k = 8 ∨ x.k = 9 ∨ x.k = 10 ∨ x.k = 11 ∨ x.k = 12 ∨ x.k = 13 ∨ x.k = 14 ∨ x.k = 15 ∨ x.k = 16 ∨ x.k = 17 ∨ x.k = 18 ∨ x.k = 19 ∨ x.k = 20 ∨ x.k = 21 := by omega
      rcases hd with h | h | h | h | h | h | h | h | h | h | h | h | h | h | h | h | h | h | h | h | h | h
      · have q := pt0 x
        try simp only [Bool.cond_false_right, rowsT_len] at q
        rw [rowV_k h, h]; exact q
      · have q := pt1 x
        try simp only [Bool.cond_false_right, rowsT_len] at q
        rw [rowV_k h, h]; exact q
      · have q := pt2 x
        try simp only [Bool.cond_false_right, rowsT_len] at q
        rw [rowV_k h, h]; exact q
      · have q := pt3 x
        try simp only [Bool.cond_false_right, rowsT_len] at q
        rw [rowV_k h, h]; exact q
      · have q := pt4 x
        try simp only [Bool.cond_false_right, rowsT_len] at q
        rw [rowV_k h, h]; exact q
      · have q := pt5 x _ (by intros; exact name_pu hx.wf.s)
        try simp only [Bool.cond_false_right, rowsT_len] at q
        rw [rowV_k h, h]; exact q
      · have q := pt6 x
        try simp only [Bool.cond_false_right, rowsT_len] at q
        rw [rowV_k h, h]; exact q
      · have q := pt7 x _ (by intros; exact atom_pu hx.wf.s)
        try simp only [Bool.cond_false_right, rowsT_len] at q
        rw [rowV_k h, h]; exact q
      · have q := pt8 x
        try simp only [Bool.cond_false_right, rowsT_len] at q
        rw [rowV_k h, h]; exact q
      · have q := pt9 x _ (by intros; exact hE)
        try simp only [Bool.cond_false_right, rowsT_len] at q
        rw [rowV_k h, h]; exact q
      · have q := pt10 x _ (by intros; exact hE)
        try simp only [Bool.cond_false_right, rowsT_len] at q
        rw [rowV_k h, h]; exact q
      · have q := pt11 x
        try simp only [Bool.cond_false_right, rowsT_len] at q
        rw [rowV_k h, h]; exact q
      · have q := pt12 x
        try simp only [Bool.cond_false_right, rowsT_len] at q
        rw [rowV_k h, h]; exact q
      · have q := pt13 x
        try simp only [Bool.cond_false_right, rowsT_len] at q
        rw [rowV_k h, h]; exact q
      · have q := pt14 x
        try simp only [Bool.cond_false_right, rowsT_len] at q
        rw [rowV_k h, h]; exact q
      · have q := pt15 x
        try simp only [Bool.cond_false_right, rowsT_len] at q
        rw [rowV_k h, h]; exact q
      · have q := pt16 x
        try simp only [Bool.cond_false_right, rowsT_len] at q
        rw [rowV_k h, h]; exact q
      · have q := pt17 x
        try simp only [Bool.cond_false_right, rowsT_len] at q
        rw [rowV_k h, h]; exact q
      · have q := pt18 x
        try simp only [Bool.cond_false_right, rowsT_len] at q
        rw [rowV_k h, h]; exact q
      · have q := pt19 x
        try simp only [Bool.cond_false_right, rowsT_len] at q
        rw [rowV_k h, h]; exact q
      · have q := pt20 x
        try simp only [Bool.cond_false_right, rowsT_len] at q
        rw [rowV_k h, h]; exact q
      · have q := pt21 x
        try simp only [Bool.cond_false_right, rowsT_len] at q
        rw [rowV_k h, h]; exact q
    · have q := ptO x (by intro _; exact kin hx) (by intro h1 h2; simp only [decide_eq_true_eq] at h1 h2; exact hk ⟨h1, h2⟩)
      simp only [Bool.cond_false_right, Bool.and_false] at q
      rw [patK_not hk]; exact q
theorem guarded_pu : ∀ x : Tr, TrOk x → Pu 67 [.ep 57 0 (rowV x)] (.b (gdd x)) := by
  intro x
  induction x using Tr.ind with
  | h x ih =>
    intro hx
    have hE : Pu 73 [.es 57 (.r (rowsT x.l)), .f (.func 67) [] []] (.b (x.l.all gdd)) := each_tr rfl rfl hx.len fun y hy => ih y hy (hx.kid hy)
    rw [gdd_eq]
    by_cases hk : 0 ≤ x.k ∧ x.k < 22
    · have hd : x.k = 0 ∨ x.k = 1 ∨ x.k = 2 ∨ x.k = 3 ∨ x.k = 4 ∨ x.k = 5 ∨ x.k = 6 ∨ x.k = 7 ∨ x.k = 8 ∨ x.k = 9 ∨ x.k = 10 ∨ x.k = 11 ∨ x.k = 12 ∨ x.k = 13 ∨ x.k = 14 ∨ x.k = 15 ∨ x.k = 16 ∨ x.k = 17 ∨ x.k = 18 ∨ x.k = 19 ∨ x.k = 20 ∨ x.k = 21 := by omega
      rcases hd with h | h | h | h | h | h | h | h | h | h | h | h | h | h | h | h | h | h | h | h | h | h
      · have q := gg0 x
        try simp only [Bool.cond_false_right, rowsT_len] at q
        rw [rowV_k h, h]; exact q
      · have q := gg1 x
        try simp only [Bool.cond_false_right, rowsT_len] at q
        rw [rowV_k h, h]; exact q
      · have q := gg2 x
        try simp only [Bool.cond_false_right, rowsT_len] at q
        rw [rowV_k h, h]; exact q
      · have q := gg3 x
        try simp only [Bool.cond_false_right, rowsT_len] at q
        rw [rowV_k h, h]; exact q
      · have q := gg4 x
        try simp only [Bool.cond_false_right, rowsT_len] at q
        rw [rowV_k h, h]; exact q
      · have q := gg5 x _ (by intros; exact name_pu hx.wf.s)
        try simp only [Bool.cond_false_right, rowsT_len] at q
        rw [rowV_k h, h]; exact q
      · have q := gg6 x
        try simp only [Bool.cond_false_right, rowsT_len] at q
        rw [rowV_k h, h]; exact q
      · have q := gg7 x _ (by intros; exact atom_pu hx.wf.s)
        try simp only [Bool.cond_false_right, rowsT_len] at q
        rw [rowV_k h, h]; exact q
      · have q := gg8 x
        try simp only [Bool.cond_false_right, rowsT_len] at q
        rw [rowV_k h, h]; exact q
      · have q := gg9 x _ (by intros; exact hE)
        try simp only [Bool.cond_false_right, rowsT_len] at q
        rw [rowV_k h, h]; exact q
      · have q := gg10 x _ (by intros; exact hE)
        try simp only [Bool.cond_false_right, rowsT_len] at q
        rw [rowV_k h, h]; exact q
      · have q := gg11 x _ (by intros; exact hE) (by intros; exact hE) (by intros; exact hE)
        try simp only [Bool.cond_false_right, rowsT_len] at q
        rw [rowV_k h, h]; exact q
      · have q := gg12 x
        try simp only [Bool.cond_false_right, rowsT_len] at q
        rw [rowV_k h, h]; exact q
      · have q := gg13 x
        try simp only [Bool.cond_false_right, rowsT_len] at q
        rw [rowV_k h, h]; exact q
      · have q := gg14 x
        try simp only [Bool.cond_false_right, rowsT_len] at q
        rw [rowV_k h, h]; exact q
      · have q := gg15 x
        try simp only [Bool.cond_false_right, rowsT_len] at q
        rw [rowV_k h, h]; exact q
      · have q := gg16 x
        try simp only [Bool.cond_false_right, rowsT_len] at q
        rw [rowV_k h, h]; exact q
      · have q := gg17 x
        try simp only [Bool.cond_false_right, rowsT_len] at q
        rw [rowV_k h, h]; exact q
      · have q := gg18 x
        try simp only [Bool.cond_false_right, rowsT_len] at q
        rw [rowV_k h, h]; exact q
      · have q := gg19 x
        try simp only [Bool.cond_false_right, rowsT_len] at q
        rw [rowV_k h, h]; exact q
      · have q := gg20 x
        try simp only [Bool.cond_false_right, rowsT_len] at q
        rw [rowV_k h, h]; exact q
      · have q := gg21 x
        try simp only [Bool.cond_false_right, rowsT_len] at q
        rw [rowV_k h, h]; exact q
    · have q := ggO x (by intro _; exact kin hx) (by intro h1 h2; simp only [decide_eq_true_eq] at h1 h2; exact hk ⟨h1, h2⟩)
      simp only [Bool.cond_false_right, Bool.and_false] at q
      rw [gddK_not hk]; exact q
theorem test_pu (x : Tr) (hx : TrOk x) : Pu 69 [.ep 57 0 (rowV x)] (.b (tst x)) := by
    have hE : Pu 73 [.es 57 (.r (rowsT x.l)), .f (.func 67) [] []] (.b (x.l.all gdd)) := each_tr rfl rfl hx.len fun y hy => guarded_pu y (hx.kid hy)
    unfold tst
    by_cases hk : 0 ≤ x.k ∧ x.k < 22
    · have hd : x.k = 0 ∨ x.k = 1 ∨ x.k = 2 ∨ x.k = 3 ∨ x.k = 4 ∨ x.k = 5 ∨ x.k = 6 ∨ x.k = 7 ∨ x.k = 8 ∨ x.k = 9 ∨ x.k = 10 ∨ x.k = 11 ∨ x.k = 12 ∨ x.k = 13 ∨ x.k = 14 ∨ x.k = 15 ∨ x.k = 16 ∨ x.k = 17 ∨ x.k = 18 ∨ x.k = 19 ∨ x.k = 20 ∨ x.k = 21 := by omega
      rcases hd with h | h | h | h | h | h | h | h | h | h | h | h | h | h | h | h | h | h | h | h | h | h
      · have q := tt0 x
        try simp only [Bool.cond_false_right, rowsT_len] at q
        rw [rowV_k h, h]; exact q
      · have q := tt1 x
        try simp only [Bool.cond_false_right, rowsT_len] at q
        rw [rowV_k h, h]; exact q
      · have q := tt2 x
        try simp only [Bool.cond_false_right, rowsT_len] at q
        rw [rowV_k h, h]; exact q
      · have q := tt3 x
        try simp only [Bool.cond_false_right, rowsT_len] at q
        rw [rowV_k h, h]; exact q
      · have q := tt4 x
        try simp only [Bool.cond_false_right, rowsT_len] at q
        rw [rowV_k h, h]; exact q
      · have q := tt5 x
        try simp only [Bool.cond_false_right, rowsT_len] at q
        rw [rowV_k h, h]; exact q
      · have q := tt6 x
        try simp only [Bool.cond_false_right, rowsT_len] at q
        rw [rowV_k h, h]; exact q
      · have q := tt7 x
        try simp only [Bool.cond_false_right, rowsT_len] at q
        rw [rowV_k h, h]; exact q
      · have q := tt8 x
        try simp only [Bool.cond_false_right, rowsT_len] at q
        rw [rowV_k h, h]; exact q
      · have q := tt9 x
        try simp only [Bool.cond_false_right, rowsT_len] at q
        rw [rowV_k h, h]; exact q
      · have q := tt10 x
        try simp only [Bool.cond_false_right, rowsT_len] at q
        rw [rowV_k h, h]; exact q
      · have q := tt11 x _ _ (by intros; exact cmp_pu x.s) (by intros; exact hE)
        try simp only [Bool.cond_false_right, rowsT_len] at q
        rw [rowV_k h, h]; exact q
      · have q := tt12 x _  (by intros; exact hE) (by intros; exact hE) (by intros; exact hE) (by intros; exact hE) (by intros; exact hE) (by intros; exact hE) (by intros; exact hE)
        try simp only [Bool.cond_false_right, rowsT_len] at q
        rw [rowV_k h, h]; exact q
      · have q := tt13 x
        try simp only [Bool.cond_false_right, rowsT_len] at q
        rw [rowV_k h, h]; exact q
      · have q := tt14 x
        try simp only [Bool.cond_false_right, rowsT_len] at q
        rw [rowV_k h, h]; exact q
      · have q := tt15 x
        try simp only [Bool.cond_false_right, rowsT_len] at q
        rw [rowV_k h, h]; exact q
      · have q := tt16 x
        try simp only [Bool.cond_false_right, rowsT_len] at q
        rw [rowV_k h, h]; exact q
      · have q := tt17 x
        try simp only [Bool.cond_false_right, rowsT_len] at q
        rw [rowV_k h, h]; exact q
      · have q := tt18 x
        try simp only [Bool.cond_false_right, rowsT_len] at q
        rw [rowV_k h, h]; exact q
      · have q := tt19 x
        try simp only [Bool.cond_false_right, rowsT_len] at q
        rw [rowV_k h, h]; exact q
      · have q := tt20 x
        try simp only [Bool.cond_false_right, rowsT_len] at q
        rw [rowV_k h, h]; exact q
      · have q := tt21 x
        try simp only [Bool.cond_false_right, rowsT_len] at q
        rw [rowV_k h, h]; exact q
    · have q := ttO x (by intro _; exact kin hx) (by intro h1 h2; simp only [decide_eq_true_eq] at h1 h2; exact hk ⟨h1, h2⟩)
      simp only [Bool.cond_false_right, Bool.and_false] at q
      rw [tstK_not hk]; exact q
theorem guard_pu (x : Tr) (hx : TrOk x) : Pu 68 [.ep 57 0 (rowV x)] (.b (gd x)) := by
  have hE : Pu 73 [.es 57 (.r (rowsT x.l)), .f (.func 69) [] []] (.b (x.l.all tst)) := each_tr rfl rfl hx.len fun y hy => test_pu y (hx.kid hy)
  have q := gdP x _ (by intros; exact hE)
  simp only [Bool.cond_false_right] at q
  exact q
end Go.Proofs.YtdjafnjmkkagjaaGreatDoor.Oa.B3
-- dead: iaA (.p 6 0) (.i .i8 x.k)
-- dead: iaA (.p 6 0) (.i .i8 x.k)
-- dead: iaA (.p 9 0) (.i .i8 x.k)
