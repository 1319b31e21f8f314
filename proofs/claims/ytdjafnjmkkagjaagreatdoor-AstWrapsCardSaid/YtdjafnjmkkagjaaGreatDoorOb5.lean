/-
  The exported rules of ast, over data. No condition but that trees be in range.
-/
import Derived.Test.YtdjafnjmkkagjaaGreatDoorOb4
namespace Go.Proofs.YtdjafnjmkkagjaaGreatDoor.Oa.B5
open Go.RowKit Sx B3 B4
set_option maxRecDepth 100000
set_option linter.unusedSimpArgs false
def ir31 : XF := ⟨8, 1, [(2, none)], (.seq (.reg [⟨some 1, none, .box 57 5 (.t 0)⟩,
  ⟨some 2, none, .mv (.c (.b false))⟩])
  (.seq (.reg [⟨some 3, none, .call 61 [(.t 1)]⟩,
  ⟨some 4, none, .call 62 [(.t 3)]⟩,
  ⟨some 5, none, .mv (.t 4)⟩,
  ⟨some 6, some (5, true), .call 66 [(.t 1)]⟩,
  ⟨some 7, none, .pick (.t 5) (.t 6) (.c (.b false))⟩,
  ⟨some 2, none, .mv (.t 7)⟩])
  .ret))⟩

theorem irc31 : cFunc Tryz.prog Tryz.f31 = some ir31 := by kernel_rfl
def ir30 : XF := ⟨8, 1, [(2, none)], (.seq (.reg [⟨some 1, none, .box 57 5 (.t 0)⟩,
  ⟨some 2, none, .mv (.c (.b false))⟩])
  (.seq (.reg [⟨some 3, none, .call 61 [(.t 1)]⟩,
  ⟨some 4, none, .call 62 [(.t 3)]⟩,
  ⟨some 5, none, .mv (.t 4)⟩,
  ⟨some 6, some (5, true), .call 65 [(.t 1)]⟩,
  ⟨some 7, none, .pick (.t 5) (.t 6) (.c (.b false))⟩,
  ⟨some 2, none, .mv (.t 7)⟩])
  .ret))⟩

theorem irc30 : cFunc Tryz.prog Tryz.f30 = some ir30 := by kernel_rfl
def ir32 : XF := ⟨8, 1, [(2, none)], (.seq (.reg [⟨some 1, none, .box 57 5 (.t 0)⟩,
  ⟨some 2, none, .mv (.c (.b false))⟩])
  (.seq (.reg [⟨some 3, none, .call 61 [(.t 1)]⟩,
  ⟨some 4, none, .call 62 [(.t 3)]⟩,
  ⟨some 5, none, .mv (.t 4)⟩,
  ⟨some 6, some (5, true), .call 67 [(.t 1)]⟩,
  ⟨some 7, none, .pick (.t 5) (.t 6) (.c (.b false))⟩,
  ⟨some 2, none, .mv (.t 7)⟩])
  .ret))⟩

theorem irc32 : cFunc Tryz.prog Tryz.f32 = some ir32 := by kernel_rfl
def ir33 : XF := ⟨8, 1, [(2, none)], (.seq (.reg [⟨some 1, none, .box 57 5 (.t 0)⟩,
  ⟨some 2, none, .mv (.c (.b false))⟩])
  (.seq (.reg [⟨some 3, none, .call 61 [(.t 1)]⟩,
  ⟨some 4, none, .call 62 [(.t 3)]⟩,
  ⟨some 5, none, .mv (.t 4)⟩,
  ⟨some 6, some (5, true), .call 68 [(.t 1)]⟩,
  ⟨some 7, none, .pick (.t 5) (.t 6) (.c (.b false))⟩,
  ⟨some 2, none, .mv (.t 7)⟩])
  .ret))⟩

theorem irc33 : cFunc Tryz.prog Tryz.f33 = some ir33 := by kernel_rfl
def ir34 : XF := ⟨8, 1, [(2, none)], (.seq (.reg [⟨some 1, none, .box 57 5 (.t 0)⟩,
  ⟨some 2, none, .mv (.c (.b false))⟩])
  (.seq (.reg [⟨some 3, none, .call 61 [(.t 1)]⟩,
  ⟨some 4, none, .call 62 [(.t 3)]⟩,
  ⟨some 5, none, .mv (.t 4)⟩,
  ⟨some 6, some (5, true), .call 69 [(.t 1)]⟩,
  ⟨some 7, none, .pick (.t 5) (.t 6) (.c (.b false))⟩,
  ⟨some 2, none, .mv (.t 7)⟩])
  .ret))⟩

theorem irc34 : cFunc Tryz.prog Tryz.f34 = some ir34 := by kernel_rfl
def ir36 : XF := ⟨16, 2, [(4, none)], (.seq (.reg [⟨some 2, none, .box 57 5 (.t 0)⟩,
  ⟨some 4, none, .mv (.c (.b false))⟩])
  (.seq (.reg [⟨some 5, none, .call 61 [(.t 2)]⟩,
  ⟨some 6, none, .call 62 [(.t 5)]⟩,
  ⟨some 7, none, .mv (.t 6)⟩,
  ⟨some 8, some (7, true), .mv (.t 1)⟩,
  ⟨some 9, some (7, true), .bop .geq (.t 8) (.c (.i .i64 0))⟩,
  ⟨some 10, none, .pick (.t 7) (.t 9) (.c (.b false))⟩,
  ⟨some 11, none, .mv (.t 10)⟩,
  ⟨some 12, some (11, true), .mv (.t 1)⟩,
  ⟨some 13, some (11, true), .call 74 [(.t 12)]⟩,
  ⟨some 14, some (11, true), .callv (.t 13) [(.t 2)]⟩,
  ⟨some 15, none, .pick (.t 11) (.t 14) (.c (.b false))⟩,
  ⟨some 4, none, .mv (.t 15)⟩])
  .ret))⟩

theorem irc36 : cFunc Tryz.prog Tryz.f36 = some ir36 := by kernel_rfl
def ir62 : XF := ⟨11, 1, [(2, none)], (.seq (.reg [⟨some 1, none, .box 101 2 (.t 0)⟩,
  ⟨some 2, none, .mv (.c (.b false))⟩])
  (.seq (.reg [⟨some 3, none, .fa 0 (.t 1)⟩,
  ⟨some 4, none, .ld false 1 (.t 3)⟩,
  ⟨some 5, none, .bop .leq (.t 4) (.c (.i .i64 4096))⟩,
  ⟨some 6, none, .mv (.t 5)⟩,
  ⟨some 7, some (6, true), .fa 1 (.t 1)⟩,
  ⟨some 8, some (6, true), .ld false 1 (.t 7)⟩,
  ⟨some 9, some (6, true), .bop .leq (.t 8) (.c (.i .i64 64))⟩,
  ⟨some 10, none, .pick (.t 6) (.t 9) (.c (.b false))⟩,
  ⟨some 2, none, .mv (.t 10)⟩])
  .ret))⟩

theorem irc62 : cFunc Tryz.prog Tryz.f62 = some ir62 := by kernel_rfl
def ir74 : XF := ⟨4, 1, [(2, none)], (.seq (.reg [⟨some 1, none, .box 3 1 (.t 0)⟩,
  ⟨some 2, none, .mv (.c .fn)⟩])
  (.seq (.reg [⟨some 3, none, .mkf (.func 142) [] [(.t 1)]⟩,
  ⟨some 2, none, .mv (.t 3)⟩])
  .ret))⟩

theorem irc74 : cFunc Tryz.prog Tryz.f74 = some ir74 := by kernel_rfl
def ir35 : XF := ⟨26, 1, [(2, none)], (.seq (.reg [⟨some 1, none, .box 57 5 (.t 0)⟩,
  ⟨some 2, none, .mv (.c (.i .i64 0))⟩])
  (.seq (.reg [⟨some 3, none, .box 108 1 (.c .fn)⟩,
  ⟨none, none, .st 1 (.t 3) (.c (.f (.func 70) [] []))⟩])
  (.seq (.reg [⟨some 5, none, .mkf (.func 75) [] [(.t 3)]⟩,
  ⟨some 4, none, .mv (.t 5)⟩])
  (.seq (.seq (.reg [⟨some 6, none, .call 61 [(.t 1)]⟩,
  ⟨some 7, none, .call 62 [(.t 6)]⟩,
  ⟨some 8, none, .un .not (.t 7)⟩,
  ⟨some 9, none, .mv (.t 8)⟩,
  ⟨some 10, some (9, false), .fa 0 (.t 1)⟩,
  ⟨some 11, some (9, false), .ld false 1 (.t 10)⟩,
  ⟨some 12, some (9, false), .bop .neq (.t 11) (.c (.i .i8 0))⟩,
  ⟨some 13, none, .pick (.t 9) (.c (.b true)) (.t 12)⟩,
  ⟨some 14, none, .mv (.t 13)⟩,
  ⟨some 15, some (14, false), .bld [(.b false), (.b false), (.b false), (.b false)] [(3, 1, (.c (.b true)))]⟩,
  ⟨some 16, some (14, false), .call 71 [(.t 15), (.t 1)]⟩,
  ⟨some 17, some (14, false), .un .not (.t 16)⟩,
  ⟨some 18, none, .pick (.t 14) (.c (.b true)) (.t 17)⟩,
  ⟨some 19, none, .mv (.t 18)⟩,
  ⟨some 20, some (19, false), .fa 4 (.t 1)⟩,
  ⟨some 21, some (19, false), .ld false 1 (.t 20)⟩,
  ⟨some 22, some (19, false), .mv (.t 4)⟩,
  ⟨some 23, some (19, false), .call 73 [(.t 21), (.t 22)]⟩,
  ⟨some 24, some (19, false), .un .not (.t 23)⟩,
  ⟨some 25, none, .pick (.t 19) (.c (.b true)) (.t 24)⟩])
  (.cond (.t 25) (.seq (.reg [⟨some 2, none, .mv (.c (.i .i64 70))⟩])
  .ret)
  .skip))
  (.seq (.reg [⟨some 2, none, .mv (.c (.i .i64 0))⟩])
  .ret)))))⟩

theorem irc35 : cFunc Tryz.prog Tryz.f35 = some ir35 := by kernel_rfl
def ir70 : XF := ⟨54, 1, [(2, none)], (.seq (.reg [⟨some 2, none, .mv (.c (.b false))⟩])
  (.seq (.par [⟨some 3, none, .mv (.t 0)⟩,
  ⟨some 4, none, .nck (.t 3)⟩,
  ⟨some 5, none, .fa 0 (.t 4)⟩,
  ⟨some 6, none, .ld false 1 (.t 5)⟩,
  ⟨some 7, none, .bop .eql (.t 6) (.c (.i .i8 2))⟩,
  ⟨some 8, none, .mv (.t 7)⟩,
  ⟨some 9, some (8, true), .bld [(.b false), (.b false), (.b false), (.b false)] [(0, 1, (.c (.b true))), (1, 1, (.c (.b true))), (3, 1, (.c (.b true)))]⟩,
  ⟨some 10, some (8, true), .mv (.t 0)⟩,
  ⟨some 11, some (8, true), .call 71 [(.t 9), (.t 10)]⟩,
  ⟨some 12, none, .pick (.t 8) (.t 11) (.c (.b false))⟩,
  ⟨some 13, none, .mv (.t 12)⟩,
  ⟨some 14, some (13, true), .mv (.t 0)⟩,
  ⟨some 15, some (13, true), .nck (.t 14)⟩,
  ⟨some 16, some (13, true), .fa 2 (.t 15)⟩,
  ⟨some 17, some (13, true), .ld false 1 (.t 16)⟩,
  ⟨some 18, some (13, true), .call 72 [(.t 17)]⟩,
  ⟨some 19, none, .pick (.t 13) (.t 18) (.c (.b false))⟩,
  ⟨some 20, none, .mv (.t 19)⟩,
  ⟨some 21, some (20, true), .mv (.t 0)⟩,
  ⟨some 22, some (20, true), .nck (.t 21)⟩,
  ⟨some 23, some (20, true), .fa 1 (.t 22)⟩,
  ⟨some 24, some (20, true), .ld false 1 (.t 23)⟩,
  ⟨some 25, some (20, true), .bop .geq (.t 24) (.c (.i .i64 0))⟩,
  ⟨some 26, none, .pick (.t 20) (.t 25) (.c (.b false))⟩,
  ⟨some 27, none, .mv (.t 26)⟩,
  ⟨some 28, some (27, true), .mv (.t 0)⟩,
  ⟨some 29, some (27, true), .nck (.t 28)⟩,
  ⟨some 30, some (27, true), .fa 1 (.t 29)⟩,
  ⟨some 31, some (27, true), .ld false 1 (.t 30)⟩,
  ⟨some 32, some (27, true), .bop .leq (.t 31) (.c (.i .i64 8))⟩,
  ⟨some 33, none, .pick (.t 27) (.t 32) (.c (.b false))⟩,
  ⟨some 34, none, .mv (.t 33)⟩,
  ⟨some 35, some (34, true), .mv (.t 0)⟩,
  ⟨some 36, some (34, true), .nck (.t 35)⟩,
  ⟨some 37, some (34, true), .fa 4 (.t 36)⟩,
  ⟨some 38, some (34, true), .ld false 1 (.t 37)⟩,
  ⟨some 39, some (34, true), .len 1 (.t 38)⟩,
  ⟨some 40, some (34, true), .bop .gtr (.t 39) (.c (.i .i64 0))⟩,
  ⟨some 41, none, .pick (.t 34) (.t 40) (.c (.b false))⟩,
  ⟨some 42, none, .mv (.t 41)⟩,
  ⟨some 43, some (42, true), .mv (.t 0)⟩,
  ⟨some 44, some (42, true), .nck (.t 43)⟩,
  ⟨some 45, some (42, true), .fa 4 (.t 44)⟩,
  ⟨some 46, some (42, true), .ld false 1 (.t 45)⟩,
  ⟨some 47, some (42, true), .mv (.t 0)⟩,
  ⟨some 48, some (42, true), .nck (.t 47)⟩,
  ⟨some 49, some (42, true), .fa 1 (.t 48)⟩,
  ⟨some 50, some (42, true), .ld false 1 (.t 49)⟩,
  ⟨some 51, some (42, true), .call 74 [(.t 50)]⟩,
  ⟨some 52, some (42, true), .call 73 [(.t 46), (.t 51)]⟩,
  ⟨some 53, none, .pick (.t 42) (.t 52) (.c (.b false))⟩,
  ⟨some 2, none, .mv (.t 53)⟩] [0, 1, 3, 7, 15, 31, 63, 63, 255, 511, 1023, 2047, 4095, 8191, 16383, 32767, 65535, 131071, 262143, 524287, 1048575, 2097151, 4194303, 8388607, 16777215, 33554431, 67108863, 134217727, 268435455, 536870911, 1073741823, 2147483647, 4294967295, 8589934591, 17179869183, 34359738367, 68719476735, 137438953471, 274877906943, 549755813887, 1099511627775, 2199023255551, 4398046511103, 8796093022207, 1099511627775, 18691697672191, 53876069761023, 124244813938687, 264982302294015, 562949953421311, 1125899906842623, 2251799813685247])
  .ret))⟩

theorem irc70 : cFunc Tryz.prog Tryz.f70 = some ir70 := by kernel_rfl
def ir75 : XF := ⟨29, 2, [(3, none)], (.seq (.reg [⟨some 3, none, .mv (.c (.b false))⟩])
  (.seq (.par [⟨some 4, none, .mv (.t 0)⟩,
  ⟨some 5, none, .nck (.t 4)⟩,
  ⟨some 6, none, .fa 0 (.t 5)⟩,
  ⟨some 7, none, .ld false 1 (.t 6)⟩,
  ⟨some 8, none, .bop .eql (.t 7) (.c (.i .i8 1))⟩,
  ⟨some 9, none, .mv (.t 8)⟩,
  ⟨some 10, some (9, true), .bld [(.b false), (.b false), (.b false), (.b false)] [(1, 1, (.c (.b true))), (3, 1, (.c (.b true)))]⟩,
  ⟨some 11, some (9, true), .mv (.t 0)⟩,
  ⟨some 12, some (9, true), .call 71 [(.t 10), (.t 11)]⟩,
  ⟨some 13, none, .pick (.t 9) (.t 12) (.c (.b false))⟩,
  ⟨some 14, none, .mv (.t 13)⟩,
  ⟨some 15, some (14, true), .mv (.t 0)⟩,
  ⟨some 16, some (14, true), .nck (.t 15)⟩,
  ⟨some 17, some (14, true), .fa 2 (.t 16)⟩,
  ⟨some 18, some (14, true), .ld false 1 (.t 17)⟩,
  ⟨some 19, some (14, true), .call 72 [(.t 18)]⟩,
  ⟨some 20, none, .pick (.t 14) (.t 19) (.c (.b false))⟩,
  ⟨some 21, none, .mv (.t 20)⟩,
  ⟨some 22, some (21, true), .mv (.t 0)⟩,
  ⟨some 23, some (21, true), .nck (.t 22)⟩,
  ⟨some 24, some (21, true), .fa 4 (.t 23)⟩,
  ⟨some 25, some (21, true), .ld false 1 (.t 24)⟩,
  ⟨some 26, some (21, true), .ld false 1 (.t 1)⟩,
  ⟨some 27, some (21, true), .call 73 [(.t 25), (.t 26)]⟩,
  ⟨some 28, none, .pick (.t 21) (.t 27) (.c (.b false))⟩,
  ⟨some 3, none, .mv (.t 28)⟩] [0, 1, 3, 7, 15, 31, 63, 63, 255, 511, 1023, 2047, 4095, 8191, 16383, 32767, 65535, 131071, 262143, 524287, 1048575, 2097151, 262143, 8388607, 16777215, 33554431])
  .ret))⟩

theorem irc75 : cFunc Tryz.prog Tryz.f75 = some ir75 := by kernel_rfl
def ir71 : XF := ⟨48, 2, [(4, none)], (.seq (.reg [⟨some 2, none, .box 110 4 (.t 0)⟩,
  ⟨some 4, none, .mv (.c (.b false))⟩])
  (.seq (.reg [⟨some 5, none, .fa 0 (.t 2)⟩,
  ⟨some 6, none, .ld false 1 (.t 5)⟩,
  ⟨some 7, none, .mv (.t 6)⟩,
  ⟨some 8, some (7, false), .mv (.t 1)⟩,
  ⟨some 9, some (7, false), .nck (.t 8)⟩,
  ⟨some 10, some (7, false), .fa 1 (.t 9)⟩,
  ⟨some 11, some (7, false), .ld false 1 (.t 10)⟩,
  ⟨some 12, some (7, false), .bop .eql (.t 11) (.c (.i .i64 0))⟩,
  ⟨some 13, none, .pick (.t 7) (.c (.b true)) (.t 12)⟩,
  ⟨some 14, none, .mv (.t 13)⟩,
  ⟨some 15, some (14, true), .fa 1 (.t 2)⟩,
  ⟨some 16, some (14, true), .ld false 1 (.t 15)⟩,
  ⟨some 17, some (14, true), .mv (.t 16)⟩,
  ⟨some 18, some (17, false), .mv (.t 1)⟩,
  ⟨some 19, some (17, false), .nck (.t 18)⟩,
  ⟨some 20, some (17, false), .fa 2 (.t 19)⟩,
  ⟨some 21, some (17, false), .ld false 1 (.t 20)⟩,
  ⟨some 22, some (17, false), .bop .eql (.t 21) (.c (.s []))⟩,
  ⟨some 23, some (14, true), .pick (.t 17) (.c (.b true)) (.t 22)⟩,
  ⟨some 24, none, .pick (.t 14) (.t 23) (.c (.b false))⟩,
  ⟨some 25, none, .mv (.t 24)⟩,
  ⟨some 26, some (25, true), .fa 2 (.t 2)⟩,
  ⟨some 27, some (25, true), .ld false 1 (.t 26)⟩,
  ⟨some 28, some (25, true), .mv (.t 27)⟩,
  ⟨some 29, some (28, false), .mv (.t 1)⟩,
  ⟨some 30, some (28, false), .nck (.t 29)⟩,
  ⟨some 31, some (28, false), .fa 3 (.t 30)⟩,
  ⟨some 32, some (28, false), .ld false 1 (.t 31)⟩,
  ⟨some 33, some (28, false), .bop .eql (.t 32) (.c (.s []))⟩,
  ⟨some 34, some (25, true), .pick (.t 28) (.c (.b true)) (.t 33)⟩,
  ⟨some 35, none, .pick (.t 25) (.t 34) (.c (.b false))⟩,
  ⟨some 36, none, .mv (.t 35)⟩,
  ⟨some 37, some (36, true), .fa 3 (.t 2)⟩,
  ⟨some 38, some (36, true), .ld false 1 (.t 37)⟩,
  ⟨some 39, some (36, true), .mv (.t 38)⟩,
  ⟨some 40, some (39, false), .mv (.t 1)⟩,
  ⟨some 41, some (39, false), .nck (.t 40)⟩,
  ⟨some 42, some (39, false), .fa 4 (.t 41)⟩,
  ⟨some 43, some (39, false), .ld false 1 (.t 42)⟩,
  ⟨some 44, some (39, false), .len 1 (.t 43)⟩,
  ⟨some 45, some (39, false), .bop .eql (.t 44) (.c (.i .i64 0))⟩,
  ⟨some 46, some (36, true), .pick (.t 39) (.c (.b true)) (.t 45)⟩,
  ⟨some 47, none, .pick (.t 36) (.t 46) (.c (.b false))⟩,
  ⟨some 4, none, .mv (.t 47)⟩])
  .ret))⟩

theorem irc71 : cFunc Tryz.prog Tryz.f71 = some ir71 := by kernel_rfl
def tabI : Trie XF := (.nd (.nd (.nd (.nd .lf none (.nd (.nd (.nd .lf (some ir71) .lf) none .lf) none .lf)) none .lf) none .lf) none (.nd .lf none (.nd (.nd .lf none (.nd (.nd (.nd .lf (some ir74) .lf) none .lf) none .lf)) none (.nd .lf none (.nd .lf none (.nd .lf (some ir62) .lf))))))
def tabL : List (Nat × XF) := [(62, ir62), (71, ir71), (74, ir74)]
theorem tabI_eq : tabI = ofList tabL := by kernel_rfl
theorem tabI_ok : TabOk Tryz.prog tabI := tab_of tabI_eq (by kernel_rfl) fun p hp => by
  simp only [tabL, List.mem_cons, List.not_mem_nil, or_false] at hp
  rcases hp with rfl | rfl | rfl
  · exact ⟨_, Tryz.func62, irc62⟩
  · exact ⟨_, Tryz.func71, irc71⟩
  · exact ⟨_, Tryz.func74, irc74⟩
abbrev cal : CallT := run mth tabI noOrc 1000 20
theorem pu_of {f : Nat} {fn : Func} {x : XF} (hfn : Tryz.prog.funcs[f]? = some fn) (hc : cFunc Tryz.prog fn = some x) {args : List TV} {pa : List PA} {v : TV} {obs : List Ob} (hx : funO 5 mth cal 1000 x args pa = some (v, obs)) (hv : v.flat = true) (ho : Owes Tryz.prog rho obs) : Pu f args v :=
  pu_of' tabI_ok hfn hc hx hv ho
theorem lp_more {x : IC} {ks : List Nat} {m : Nat} {e e2 e' : Trie TV} {t t2 t' : Trie TB} {n n' : Nat} {pa : List PA} {ex : EX} {obs : List Ob} (hx : bodyO 5 mth cal 1000 x ks m e t n pa = some (.nrm, e2, t2, obs)) (ho : Owes Tryz.prog rho obs) (hl : LoopC Tryz.prog rho x e2 t2 m ex e' t' n') : LoopC Tryz.prog rho x e t n ex e' t' n' :=
  lp_more' tabI_ok hx ho hl
theorem lp_end {x : IC} {ks : List Nat} {m : Nat} {e e2 : Trie TV} {t t2 : Trie TB} {n : Nat} {pa : List PA} {ex : EX} {obs : List Ob} (hx : bodyO 5 mth cal 1000 x ks m e t n pa = some (ex, e2, t2, obs)) (hne : ex ≠ .nrm) (ho : Owes Tryz.prog rho obs) : LoopC Tryz.prog rho x e t n ex e2 t2 m :=
  lp_end' tabI_ok hx hne ho
theorem eCheck_0 (x : Tr) (vmeasure0 : Int) (vmeasure1 : Int) : funO 5 mth cal 1000 ir35 [(.ag [(.i .i8 x.k), (.i .i64 x.n), (.s (nats x.s)), (.s (nats x.t)), (.es 57 (.r (rowsT x.l)))])] [.cl [.ptr 57] (.ag [(.i .i64 vmeasure0), (.i .i64 vmeasure1)]), .go, .br true, .br true, .br true] = some ((.i .i64 70), [.eqb (!decide (x.k = 0)) true, .eqb (decide (vmeasure1 ≤ 64)) true, .eqb (decide (vmeasure0 ≤ 4096)) true, .call 61 [(.ep 57 0 [.i x.k, .i x.n, .s (nats x.s), .s (nats x.t), (.r (rowsT x.l))])] (.ag [(.i .i64 vmeasure0), (.i .i64 vmeasure1)]), .eqb (freeL []) true]) := by kernel_rfl
theorem eCheck_1 (x : Tr) (vmeasure0 : Int) (vmeasure1 : Int) : funO 5 mth cal 1000 ir35 [(.ag [(.i .i8 x.k), (.i .i64 x.n), (.s (nats x.s)), (.s (nats x.t)), (.es 57 (.r (rowsT x.l)))])] [.cl [.ptr 57] (.ag [(.i .i64 vmeasure0), (.i .i64 vmeasure1)]), .go, .br true, .br true, .br false, .go, .br true, .br true, .br true, .cl [.as, .fn [.ptr 108]] (.b true)] = some ((.i .i64 0), [.call 73 [(.es 57 (.r (rowsT x.l))), (.f (.func 75) [] [(.ep 108 0 [.f 70])])] (.b true), .eqb (freeL []) true, .eqb (freeL []) true, .eqb (TV.free (.es 57 (.r (rowsT x.l)))) true, .eqb (decide ((nats x.t) = ([] : List Nat))) true, .eqb (decide ((nats x.s) = ([] : List Nat))) true, .eqb (decide (x.n = 0)) true, .eqb (!decide (x.k = 0)) false, .eqb (decide (vmeasure1 ≤ 64)) true, .eqb (decide (vmeasure0 ≤ 4096)) true, .call 61 [(.ep 57 0 [.i x.k, .i x.n, .s (nats x.s), .s (nats x.t), (.r (rowsT x.l))])] (.ag [(.i .i64 vmeasure0), (.i .i64 vmeasure1)]), .eqb (freeL []) true]) := by kernel_rfl
theorem eCheck_2 (x : Tr) (vmeasure0 : Int) (vmeasure1 : Int) : funO 5 mth cal 1000 ir35 [(.ag [(.i .i8 x.k), (.i .i64 x.n), (.s (nats x.s)), (.s (nats x.t)), (.es 57 (.r (rowsT x.l)))])] [.cl [.ptr 57] (.ag [(.i .i64 vmeasure0), (.i .i64 vmeasure1)]), .go, .br true, .br true, .br false, .go, .br true, .br true, .br true, .cl [.as, .fn [.ptr 108]] (.b false)] = some ((.i .i64 70), [.call 73 [(.es 57 (.r (rowsT x.l))), (.f (.func 75) [] [(.ep 108 0 [.f 70])])] (.b false), .eqb (freeL []) true, .eqb (freeL []) true, .eqb (TV.free (.es 57 (.r (rowsT x.l)))) true, .eqb (decide ((nats x.t) = ([] : List Nat))) true, .eqb (decide ((nats x.s) = ([] : List Nat))) true, .eqb (decide (x.n = 0)) true, .eqb (!decide (x.k = 0)) false, .eqb (decide (vmeasure1 ≤ 64)) true, .eqb (decide (vmeasure0 ≤ 4096)) true, .call 61 [(.ep 57 0 [.i x.k, .i x.n, .s (nats x.s), .s (nats x.t), (.r (rowsT x.l))])] (.ag [(.i .i64 vmeasure0), (.i .i64 vmeasure1)]), .eqb (freeL []) true]) := by kernel_rfl
theorem eCheck_3 (x : Tr) (vmeasure0 : Int) (vmeasure1 : Int) : funO 5 mth cal 1000 ir35 [(.ag [(.i .i8 x.k), (.i .i64 x.n), (.s (nats x.s)), (.s (nats x.t)), (.es 57 (.r (rowsT x.l)))])] [.cl [.ptr 57] (.ag [(.i .i64 vmeasure0), (.i .i64 vmeasure1)]), .go, .br true, .br true, .br false, .go, .br true, .br true, .br false] = some ((.i .i64 70), [.eqb (decide ((nats x.t) = ([] : List Nat))) false, .eqb (decide ((nats x.s) = ([] : List Nat))) true, .eqb (decide (x.n = 0)) true, .eqb (!decide (x.k = 0)) false, .eqb (decide (vmeasure1 ≤ 64)) true, .eqb (decide (vmeasure0 ≤ 4096)) true, .call 61 [(.ep 57 0 [.i x.k, .i x.n, .s (nats x.s), .s (nats x.t), (.r (rowsT x.l))])] (.ag [(.i .i64 vmeasure0), (.i .i64 vmeasure1)]), .eqb (freeL []) true]) := by kernel_rfl
theorem eCheck_4 (x : Tr) (vmeasure0 : Int) (vmeasure1 : Int) : funO 5 mth cal 1000 ir35 [(.ag [(.i .i8 x.k), (.i .i64 x.n), (.s (nats x.s)), (.s (nats x.t)), (.es 57 (.r (rowsT x.l)))])] [.cl [.ptr 57] (.ag [(.i .i64 vmeasure0), (.i .i64 vmeasure1)]), .go, .br true, .br true, .br false, .go, .br true, .br false] = some ((.i .i64 70), [.eqb (decide ((nats x.s) = ([] : List Nat))) false, .eqb (decide (x.n = 0)) true, .eqb (!decide (x.k = 0)) false, .eqb (decide (vmeasure1 ≤ 64)) true, .eqb (decide (vmeasure0 ≤ 4096)) true, .call 61 [(.ep 57 0 [.i x.k, .i x.n, .s (nats x.s), .s (nats x.t), (.r (rowsT x.l))])] (.ag [(.i .i64 vmeasure0), (.i .i64 vmeasure1)]), .eqb (freeL []) true]) := by kernel_rfl
theorem eCheck_5 (x : Tr) (vmeasure0 : Int) (vmeasure1 : Int) : funO 5 mth cal 1000 ir35 [(.ag [(.i .i8 x.k), (.i .i64 x.n), (.s (nats x.s)), (.s (nats x.t)), (.es 57 (.r (rowsT x.l)))])] [.cl [.ptr 57] (.ag [(.i .i64 vmeasure0), (.i .i64 vmeasure1)]), .go, .br true, .br true, .br false, .go, .br false] = some ((.i .i64 70), [.eqb (decide (x.n = 0)) false, .eqb (!decide (x.k = 0)) false, .eqb (decide (vmeasure1 ≤ 64)) true, .eqb (decide (vmeasure0 ≤ 4096)) true, .call 61 [(.ep 57 0 [.i x.k, .i x.n, .s (nats x.s), .s (nats x.t), (.r (rowsT x.l))])] (.ag [(.i .i64 vmeasure0), (.i .i64 vmeasure1)]), .eqb (freeL []) true]) := by kernel_rfl
theorem eCheck_6 (x : Tr) (vmeasure0 : Int) (vmeasure1 : Int) : funO 5 mth cal 1000 ir35 [(.ag [(.i .i8 x.k), (.i .i64 x.n), (.s (nats x.s)), (.s (nats x.t)), (.es 57 (.r (rowsT x.l)))])] [.cl [.ptr 57] (.ag [(.i .i64 vmeasure0), (.i .i64 vmeasure1)]), .go, .br true, .br false] = some ((.i .i64 70), [.eqb (decide (vmeasure1 ≤ 64)) false, .eqb (decide (vmeasure0 ≤ 4096)) true, .call 61 [(.ep 57 0 [.i x.k, .i x.n, .s (nats x.s), .s (nats x.t), (.r (rowsT x.l))])] (.ag [(.i .i64 vmeasure0), (.i .i64 vmeasure1)]), .eqb (freeL []) true]) := by kernel_rfl
theorem eCheck_7 (x : Tr) (vmeasure0 : Int) (vmeasure1 : Int) : funO 5 mth cal 1000 ir35 [(.ag [(.i .i8 x.k), (.i .i64 x.n), (.s (nats x.s)), (.s (nats x.t)), (.es 57 (.r (rowsT x.l)))])] [.cl [.ptr 57] (.ag [(.i .i64 vmeasure0), (.i .i64 vmeasure1)]), .go, .br false] = some ((.i .i64 70), [.eqb (decide (vmeasure0 ≤ 4096)) false, .call 61 [(.ep 57 0 [.i x.k, .i x.n, .s (nats x.s), .s (nats x.t), (.r (rowsT x.l))])] (.ag [(.i .i64 vmeasure0), (.i .i64 vmeasure1)]), .eqb (freeL []) true]) := by kernel_rfl
theorem eCheck (x : Tr) (vmeasure0 : Int) (vmeasure1 : Int) (veach2 : Bool) (c0 : Pu 61 [(.ep 57 0 [.i x.k, .i x.n, .s (nats x.s), .s (nats x.t), (.r (rowsT x.l))])] (.ag [(.i .i64 vmeasure0), (.i .i64 vmeasure1)])) (c1 : (decide (vmeasure0 ≤ 4096)) = true → (decide (vmeasure1 ≤ 64)) = true → (!decide (x.k = 0)) = false → (decide (x.n = 0)) = true → (decide ((nats x.s) = ([] : List Nat))) = true → (decide ((nats x.t) = ([] : List Nat))) = true → Pu 73 [(.es 57 (.r (rowsT x.l))), (.f (.func 75) [] [(.ep 108 0 [.f 70])])] (.b (veach2))) : Pu 35 [(.ag [(.i .i8 x.k), (.i .i64 x.n), (.s (nats x.s)), (.s (nats x.t)), (.es 57 (.r (rowsT x.l)))])] (.i .i64 (bif decide (vmeasure0 ≤ 4096) then (bif decide (vmeasure1 ≤ 64) then (bif !decide (x.k = 0) then 70 else (bif decide (x.n = 0) then (bif decide ((nats x.s) = ([] : List Nat)) then (bif decide ((nats x.t) = ([] : List Nat)) then (bif veach2 then 0 else 70) else 70) else 70) else 70)) else 70) else 70)) := by
  cases h0 : (decide (vmeasure0 ≤ 4096))
  case false =>
    exact pu_of Tryz.func35 irc35 (eCheck_7 x vmeasure0 vmeasure1) rfl ⟨h0, (c0), rfl, trivial⟩
  case true =>
    cases h1 : (decide (vmeasure1 ≤ 64))
    case false =>
      exact pu_of Tryz.func35 irc35 (eCheck_6 x vmeasure0 vmeasure1) rfl ⟨h1, h0, (c0), rfl, trivial⟩
    case true =>
      cases h2 : (!decide (x.k = 0))
      case false =>
        cases h3 : (decide (x.n = 0))
        case false =>
          exact pu_of Tryz.func35 irc35 (eCheck_5 x vmeasure0 vmeasure1) rfl ⟨h3, h2, h1, h0, (c0), rfl, trivial⟩
        case true =>
          cases h4 : (decide ((nats x.s) = ([] : List Nat)))
          case false =>
            exact pu_of Tryz.func35 irc35 (eCheck_4 x vmeasure0 vmeasure1) rfl ⟨h4, h3, h2, h1, h0, (c0), rfl, trivial⟩
          case true =>
            cases h5 : (decide ((nats x.t) = ([] : List Nat)))
            case false =>
              exact pu_of Tryz.func35 irc35 (eCheck_3 x vmeasure0 vmeasure1) rfl ⟨h5, h4, h3, h2, h1, h0, (c0), rfl, trivial⟩
            case true =>
              cases veach2
              case false =>
                exact pu_of Tryz.func35 irc35 (eCheck_2 x vmeasure0 vmeasure1) rfl ⟨(c1 h0 h1 h2 h3 h4 h5), rfl, rfl, rfl, h5, h4, h3, h2, h1, h0, (c0), rfl, trivial⟩
              case true =>
                exact pu_of Tryz.func35 irc35 (eCheck_1 x vmeasure0 vmeasure1) rfl ⟨(c1 h0 h1 h2 h3 h4 h5), rfl, rfl, rfl, h5, h4, h3, h2, h1, h0, (c0), rfl, trivial⟩
      case true =>
        exact pu_of Tryz.func35 irc35 (eCheck_0 x vmeasure0 vmeasure1) rfl ⟨h2, h1, h0, (c0), rfl, trivial⟩
theorem cF_0 (x : Tr) (veach1 : Bool) : funO 5 mth cal 1000 ir70 [(.ep 57 0 (rowV x))] [.br true, .go, .br true, .cl [.as] (.b true), .br true, .br true, .br true, .go, .cl [.as, .fn [.ptr 3]] (.b (veach1))] = some ((.b (veach1)), [.call 73 [(.es 57 (.r (rowsT x.l))), (.f (.func 142) [] [(.ep 3 0 [.i x.n])])] (.b (veach1)), .eqb (freeL []) true, .eqb (freeL []) true, .eqb (TV.free (.es 57 (.r (rowsT x.l)))) true, .eqb (decide (0 < (List.length (rowsT x.l) : Int))) true, .eqb (decide (x.n ≤ 8)) true, .eqb (decide (0 ≤ x.n)) true, .call 72 [(.s (nats x.s))] (.b true), .eqb (freeL []) true, .eqb (TV.free (.s (nats x.s))) true, .eqb (decide ((nats x.t) = ([] : List Nat))) true, .eqb (decide (x.k = 2)) true]) := by kernel_rfl
theorem cF_1 (x : Tr) : funO 5 mth cal 1000 ir70 [(.ep 57 0 (rowV x))] [.br true, .go, .br true, .cl [.as] (.b true), .br true, .br true, .br false] = some ((.b false), [.eqb (decide (0 < (List.length (rowsT x.l) : Int))) false, .eqb (decide (x.n ≤ 8)) true, .eqb (decide (0 ≤ x.n)) true, .call 72 [(.s (nats x.s))] (.b true), .eqb (freeL []) true, .eqb (TV.free (.s (nats x.s))) true, .eqb (decide ((nats x.t) = ([] : List Nat))) true, .eqb (decide (x.k = 2)) true]) := by kernel_rfl
theorem cF_2 (x : Tr) : funO 5 mth cal 1000 ir70 [(.ep 57 0 (rowV x))] [.br true, .go, .br true, .cl [.as] (.b true), .br true, .br false] = some ((.b false), [.eqb (decide (x.n ≤ 8)) false, .eqb (decide (0 ≤ x.n)) true, .call 72 [(.s (nats x.s))] (.b true), .eqb (freeL []) true, .eqb (TV.free (.s (nats x.s))) true, .eqb (decide ((nats x.t) = ([] : List Nat))) true, .eqb (decide (x.k = 2)) true]) := by kernel_rfl
theorem cF_3 (x : Tr) : funO 5 mth cal 1000 ir70 [(.ep 57 0 (rowV x))] [.br true, .go, .br true, .cl [.as] (.b true), .br false] = some ((.b false), [.eqb (decide (0 ≤ x.n)) false, .call 72 [(.s (nats x.s))] (.b true), .eqb (freeL []) true, .eqb (TV.free (.s (nats x.s))) true, .eqb (decide ((nats x.t) = ([] : List Nat))) true, .eqb (decide (x.k = 2)) true]) := by kernel_rfl
theorem cF_4 (x : Tr) : funO 5 mth cal 1000 ir70 [(.ep 57 0 (rowV x))] [.br true, .go, .br true, .cl [.as] (.b false)] = some ((.b false), [.call 72 [(.s (nats x.s))] (.b false), .eqb (freeL []) true, .eqb (TV.free (.s (nats x.s))) true, .eqb (decide ((nats x.t) = ([] : List Nat))) true, .eqb (decide (x.k = 2)) true]) := by kernel_rfl
theorem cF_5 (x : Tr) : funO 5 mth cal 1000 ir70 [(.ep 57 0 (rowV x))] [.br true, .go, .br false] = some ((.b false), [.eqb (decide ((nats x.t) = ([] : List Nat))) false, .eqb (decide (x.k = 2)) true]) := by kernel_rfl
theorem cF_6 (x : Tr) : funO 5 mth cal 1000 ir70 [(.ep 57 0 (rowV x))] [.br false] = some ((.b false), [.eqb (decide (x.k = 2)) false]) := by kernel_rfl
theorem cF (x : Tr) (vatom0 : Bool) (veach1 : Bool) (c0 : (decide (x.k = 2)) = true → (decide ((nats x.t) = ([] : List Nat))) = true → Pu 72 [(.s (nats x.s))] (.b (vatom0))) (c1 : (decide (x.k = 2)) = true → (decide ((nats x.t) = ([] : List Nat))) = true → vatom0 = true → (decide (0 ≤ x.n)) = true → (decide (x.n ≤ 8)) = true → (decide (0 < (List.length (rowsT x.l) : Int))) = true → Pu 73 [(.es 57 (.r (rowsT x.l))), (.f (.func 142) [] [(.ep 3 0 [.i x.n])])] (.b (veach1))) : Pu 70 [(.ep 57 0 (rowV x))] (.b (bif decide (x.k = 2) then (bif decide ((nats x.t) = ([] : List Nat)) then (bif vatom0 then (bif decide (0 ≤ x.n) then (bif decide (x.n ≤ 8) then (bif decide (0 < (List.length (rowsT x.l) : Int)) then veach1 else false) else false) else false) else false) else false) else false)) := by
  cases h0 : (decide (x.k = 2))
  case false =>
    exact pu_of Tryz.func70 irc70 (cF_6 x) rfl ⟨h0, trivial⟩
  case true =>
    cases h1 : (decide ((nats x.t) = ([] : List Nat)))
    case false =>
      exact pu_of Tryz.func70 irc70 (cF_5 x) rfl ⟨h1, h0, trivial⟩
    case true =>
      cases vatom0
      case false =>
        exact pu_of Tryz.func70 irc70 (cF_4 x) rfl ⟨(c0 h0 h1), rfl, rfl, h1, h0, trivial⟩
      case true =>
        cases h3 : (decide (0 ≤ x.n))
        case false =>
          exact pu_of Tryz.func70 irc70 (cF_3 x) rfl ⟨h3, (c0 h0 h1), rfl, rfl, h1, h0, trivial⟩
        case true =>
          cases h4 : (decide (x.n ≤ 8))
          case false =>
            exact pu_of Tryz.func70 irc70 (cF_2 x) rfl ⟨h4, h3, (c0 h0 h1), rfl, rfl, h1, h0, trivial⟩
          case true =>
            cases h5 : (decide (0 < (List.length (rowsT x.l) : Int)))
            case false =>
              exact pu_of Tryz.func70 irc70 (cF_1 x) rfl ⟨h5, h4, h3, (c0 h0 h1), rfl, rfl, h1, h0, trivial⟩
            case true =>
              exact pu_of Tryz.func70 irc70 (cF_0 x veach1) rfl ⟨(c1 h0 h1 rfl h3 h4 h5), rfl, rfl, rfl, h5, h4, h3, (c0 h0 h1), rfl, rfl, h1, h0, trivial⟩
theorem cM_0 (x : Tr) (veach1 : Bool) : funO 5 mth cal 1000 ir75 [(.ep 57 0 (rowV x)), (.ep 108 0 [.f 70])] [.br true, .go, .br true, .br true, .cl [.as] (.b true), .cl [.as, .as] (.b (veach1))] = some ((.b (veach1)), [.call 73 [(.es 57 (.r (rowsT x.l))), (.f (.func 70) [] [])] (.b (veach1)), .eqb (freeL []) true, .eqb (TV.free (.f (.func 70) [] [])) true, .eqb (TV.free (.es 57 (.r (rowsT x.l)))) true, .call 72 [(.s (nats x.s))] (.b true), .eqb (freeL []) true, .eqb (TV.free (.s (nats x.s))) true, .eqb (decide ((nats x.t) = ([] : List Nat))) true, .eqb (decide (x.n = 0)) true, .eqb (decide (x.k = 1)) true]) := by kernel_rfl
theorem cM_1 (x : Tr) : funO 5 mth cal 1000 ir75 [(.ep 57 0 (rowV x)), (.ep 108 0 [.f 70])] [.br true, .go, .br true, .br true, .cl [.as] (.b false)] = some ((.b false), [.call 72 [(.s (nats x.s))] (.b false), .eqb (freeL []) true, .eqb (TV.free (.s (nats x.s))) true, .eqb (decide ((nats x.t) = ([] : List Nat))) true, .eqb (decide (x.n = 0)) true, .eqb (decide (x.k = 1)) true]) := by kernel_rfl
theorem cM_2 (x : Tr) : funO 5 mth cal 1000 ir75 [(.ep 57 0 (rowV x)), (.ep 108 0 [.f 70])] [.br true, .go, .br true, .br false] = some ((.b false), [.eqb (decide ((nats x.t) = ([] : List Nat))) false, .eqb (decide (x.n = 0)) true, .eqb (decide (x.k = 1)) true]) := by kernel_rfl
theorem cM_3 (x : Tr) : funO 5 mth cal 1000 ir75 [(.ep 57 0 (rowV x)), (.ep 108 0 [.f 70])] [.br true, .go, .br false] = some ((.b false), [.eqb (decide (x.n = 0)) false, .eqb (decide (x.k = 1)) true]) := by kernel_rfl
theorem cM_4 (x : Tr) : funO 5 mth cal 1000 ir75 [(.ep 57 0 (rowV x)), (.ep 108 0 [.f 70])] [.br false] = some ((.b false), [.eqb (decide (x.k = 1)) false]) := by kernel_rfl
theorem cM (x : Tr) (vatom0 : Bool) (veach1 : Bool) (c0 : (decide (x.k = 1)) = true → (decide (x.n = 0)) = true → (decide ((nats x.t) = ([] : List Nat))) = true → Pu 72 [(.s (nats x.s))] (.b (vatom0))) (c1 : (decide (x.k = 1)) = true → (decide (x.n = 0)) = true → (decide ((nats x.t) = ([] : List Nat))) = true → vatom0 = true → Pu 73 [(.es 57 (.r (rowsT x.l))), (.f (.func 70) [] [])] (.b (veach1))) : Pu 75 [(.ep 57 0 (rowV x)), (.ep 108 0 [.f 70])] (.b (bif decide (x.k = 1) then (bif decide (x.n = 0) then (bif decide ((nats x.t) = ([] : List Nat)) then (bif vatom0 then veach1 else false) else false) else false) else false)) := by
  cases h0 : (decide (x.k = 1))
  case false =>
    exact pu_of Tryz.func75 irc75 (cM_4 x) rfl ⟨h0, trivial⟩
  case true =>
    cases h1 : (decide (x.n = 0))
    case false =>
      exact pu_of Tryz.func75 irc75 (cM_3 x) rfl ⟨h1, h0, trivial⟩
    case true =>
      cases h2 : (decide ((nats x.t) = ([] : List Nat)))
      case false =>
        exact pu_of Tryz.func75 irc75 (cM_2 x) rfl ⟨h2, h1, h0, trivial⟩
      case true =>
        cases vatom0
        case false =>
          exact pu_of Tryz.func75 irc75 (cM_1 x) rfl ⟨(c0 h0 h1 h2), rfl, rfl, h2, h1, h0, trivial⟩
        case true =>
          exact pu_of Tryz.func75 irc75 (cM_0 x veach1) rfl ⟨(c1 h0 h1 h2 rfl), rfl, rfl, rfl, (c0 h0 h1 h2), rfl, rfl, h2, h1, h0, trivial⟩
theorem eExpr_0 (x : Tr) (vmeasure0 : Int) (vmeasure1 : Int) (vexpr2 : Bool) : funO 5 mth cal 1000 ir31 [(.ag [(.i .i8 x.k), (.i .i64 x.n), (.s (nats x.s)), (.s (nats x.t)), (.es 57 (.r (rowsT x.l)))])] [.cl [.ptr 57] (.ag [(.i .i64 vmeasure0), (.i .i64 vmeasure1)]), .go, .br true, .br true, .cl [.ptr 57] (.b (vexpr2))] = some ((.b (vexpr2)), [.call 66 [(.ep 57 0 [.i x.k, .i x.n, .s (nats x.s), .s (nats x.t), (.r (rowsT x.l))])] (.b (vexpr2)), .eqb (freeL []) true, .eqb (decide (vmeasure1 ≤ 64)) true, .eqb (decide (vmeasure0 ≤ 4096)) true, .call 61 [(.ep 57 0 [.i x.k, .i x.n, .s (nats x.s), .s (nats x.t), (.r (rowsT x.l))])] (.ag [(.i .i64 vmeasure0), (.i .i64 vmeasure1)]), .eqb (freeL []) true]) := by kernel_rfl
theorem eExpr_1 (x : Tr) (vmeasure0 : Int) (vmeasure1 : Int) : funO 5 mth cal 1000 ir31 [(.ag [(.i .i8 x.k), (.i .i64 x.n), (.s (nats x.s)), (.s (nats x.t)), (.es 57 (.r (rowsT x.l)))])] [.cl [.ptr 57] (.ag [(.i .i64 vmeasure0), (.i .i64 vmeasure1)]), .go, .br true, .br false] = some ((.b false), [.eqb (decide (vmeasure1 ≤ 64)) false, .eqb (decide (vmeasure0 ≤ 4096)) true, .call 61 [(.ep 57 0 [.i x.k, .i x.n, .s (nats x.s), .s (nats x.t), (.r (rowsT x.l))])] (.ag [(.i .i64 vmeasure0), (.i .i64 vmeasure1)]), .eqb (freeL []) true]) := by kernel_rfl
theorem eExpr_2 (x : Tr) (vmeasure0 : Int) (vmeasure1 : Int) : funO 5 mth cal 1000 ir31 [(.ag [(.i .i8 x.k), (.i .i64 x.n), (.s (nats x.s)), (.s (nats x.t)), (.es 57 (.r (rowsT x.l)))])] [.cl [.ptr 57] (.ag [(.i .i64 vmeasure0), (.i .i64 vmeasure1)]), .go, .br false] = some ((.b false), [.eqb (decide (vmeasure0 ≤ 4096)) false, .call 61 [(.ep 57 0 [.i x.k, .i x.n, .s (nats x.s), .s (nats x.t), (.r (rowsT x.l))])] (.ag [(.i .i64 vmeasure0), (.i .i64 vmeasure1)]), .eqb (freeL []) true]) := by kernel_rfl
theorem eExpr (x : Tr) (vmeasure0 : Int) (vmeasure1 : Int) (vexpr2 : Bool) (c0 : Pu 61 [(.ep 57 0 [.i x.k, .i x.n, .s (nats x.s), .s (nats x.t), (.r (rowsT x.l))])] (.ag [(.i .i64 vmeasure0), (.i .i64 vmeasure1)])) (c1 : (decide (vmeasure0 ≤ 4096)) = true → (decide (vmeasure1 ≤ 64)) = true → Pu 66 [(.ep 57 0 [.i x.k, .i x.n, .s (nats x.s), .s (nats x.t), (.r (rowsT x.l))])] (.b (vexpr2))) : Pu 31 [(.ag [(.i .i8 x.k), (.i .i64 x.n), (.s (nats x.s)), (.s (nats x.t)), (.es 57 (.r (rowsT x.l)))])] (.b (bif decide (vmeasure0 ≤ 4096) then (bif decide (vmeasure1 ≤ 64) then vexpr2 else false) else false)) := by
  cases h0 : (decide (vmeasure0 ≤ 4096))
  case false =>
    exact pu_of Tryz.func31 irc31 (eExpr_2 x vmeasure0 vmeasure1) rfl ⟨h0, (c0), rfl, trivial⟩
  case true =>
    cases h1 : (decide (vmeasure1 ≤ 64))
    case false =>
      exact pu_of Tryz.func31 irc31 (eExpr_1 x vmeasure0 vmeasure1) rfl ⟨h1, h0, (c0), rfl, trivial⟩
    case true =>
      exact pu_of Tryz.func31 irc31 (eExpr_0 x vmeasure0 vmeasure1 vexpr2) rfl ⟨(c1 h0 h1), rfl, h1, h0, (c0), rfl, trivial⟩
theorem ePattern_0 (x : Tr) (vmeasure0 : Int) (vmeasure1 : Int) (vpattern2 : Bool) : funO 5 mth cal 1000 ir30 [(.ag [(.i .i8 x.k), (.i .i64 x.n), (.s (nats x.s)), (.s (nats x.t)), (.es 57 (.r (rowsT x.l)))])] [.cl [.ptr 57] (.ag [(.i .i64 vmeasure0), (.i .i64 vmeasure1)]), .go, .br true, .br true, .cl [.ptr 57] (.b (vpattern2))] = some ((.b (vpattern2)), [.call 65 [(.ep 57 0 [.i x.k, .i x.n, .s (nats x.s), .s (nats x.t), (.r (rowsT x.l))])] (.b (vpattern2)), .eqb (freeL []) true, .eqb (decide (vmeasure1 ≤ 64)) true, .eqb (decide (vmeasure0 ≤ 4096)) true, .call 61 [(.ep 57 0 [.i x.k, .i x.n, .s (nats x.s), .s (nats x.t), (.r (rowsT x.l))])] (.ag [(.i .i64 vmeasure0), (.i .i64 vmeasure1)]), .eqb (freeL []) true]) := by kernel_rfl
theorem ePattern_1 (x : Tr) (vmeasure0 : Int) (vmeasure1 : Int) : funO 5 mth cal 1000 ir30 [(.ag [(.i .i8 x.k), (.i .i64 x.n), (.s (nats x.s)), (.s (nats x.t)), (.es 57 (.r (rowsT x.l)))])] [.cl [.ptr 57] (.ag [(.i .i64 vmeasure0), (.i .i64 vmeasure1)]), .go, .br true, .br false] = some ((.b false), [.eqb (decide (vmeasure1 ≤ 64)) false, .eqb (decide (vmeasure0 ≤ 4096)) true, .call 61 [(.ep 57 0 [.i x.k, .i x.n, .s (nats x.s), .s (nats x.t), (.r (rowsT x.l))])] (.ag [(.i .i64 vmeasure0), (.i .i64 vmeasure1)]), .eqb (freeL []) true]) := by kernel_rfl
theorem ePattern_2 (x : Tr) (vmeasure0 : Int) (vmeasure1 : Int) : funO 5 mth cal 1000 ir30 [(.ag [(.i .i8 x.k), (.i .i64 x.n), (.s (nats x.s)), (.s (nats x.t)), (.es 57 (.r (rowsT x.l)))])] [.cl [.ptr 57] (.ag [(.i .i64 vmeasure0), (.i .i64 vmeasure1)]), .go, .br false] = some ((.b false), [.eqb (decide (vmeasure0 ≤ 4096)) false, .call 61 [(.ep 57 0 [.i x.k, .i x.n, .s (nats x.s), .s (nats x.t), (.r (rowsT x.l))])] (.ag [(.i .i64 vmeasure0), (.i .i64 vmeasure1)]), .eqb (freeL []) true]) := by kernel_rfl
theorem ePattern (x : Tr) (vmeasure0 : Int) (vmeasure1 : Int) (vpattern2 : Bool) (c0 : Pu 61 [(.ep 57 0 [.i x.k, .i x.n, .s (nats x.s), .s (nats x.t), (.r (rowsT x.l))])] (.ag [(.i .i64 vmeasure0), (.i .i64 vmeasure1)])) (c1 : (decide (vmeasure0 ≤ 4096)) = true → (decide (vmeasure1 ≤ 64)) = true → Pu 65 [(.ep 57 0 [.i x.k, .i x.n, .s (nats x.s), .s (nats x.t), (.r (rowsT x.l))])] (.b (vpattern2))) : Pu 30 [(.ag [(.i .i8 x.k), (.i .i64 x.n), (.s (nats x.s)), (.s (nats x.t)), (.es 57 (.r (rowsT x.l)))])] (.b (bif decide (vmeasure0 ≤ 4096) then (bif decide (vmeasure1 ≤ 64) then vpattern2 else false) else false)) := by
  cases h0 : (decide (vmeasure0 ≤ 4096))
  case false =>
    exact pu_of Tryz.func30 irc30 (ePattern_2 x vmeasure0 vmeasure1) rfl ⟨h0, (c0), rfl, trivial⟩
  case true =>
    cases h1 : (decide (vmeasure1 ≤ 64))
    case false =>
      exact pu_of Tryz.func30 irc30 (ePattern_1 x vmeasure0 vmeasure1) rfl ⟨h1, h0, (c0), rfl, trivial⟩
    case true =>
      exact pu_of Tryz.func30 irc30 (ePattern_0 x vmeasure0 vmeasure1 vpattern2) rfl ⟨(c1 h0 h1), rfl, h1, h0, (c0), rfl, trivial⟩
theorem eGuarded_0 (x : Tr) (vmeasure0 : Int) (vmeasure1 : Int) (vguarded2 : Bool) : funO 5 mth cal 1000 ir32 [(.ag [(.i .i8 x.k), (.i .i64 x.n), (.s (nats x.s)), (.s (nats x.t)), (.es 57 (.r (rowsT x.l)))])] [.cl [.ptr 57] (.ag [(.i .i64 vmeasure0), (.i .i64 vmeasure1)]), .go, .br true, .br true, .cl [.ptr 57] (.b (vguarded2))] = some ((.b (vguarded2)), [.call 67 [(.ep 57 0 [.i x.k, .i x.n, .s (nats x.s), .s (nats x.t), (.r (rowsT x.l))])] (.b (vguarded2)), .eqb (freeL []) true, .eqb (decide (vmeasure1 ≤ 64)) true, .eqb (decide (vmeasure0 ≤ 4096)) true, .call 61 [(.ep 57 0 [.i x.k, .i x.n, .s (nats x.s), .s (nats x.t), (.r (rowsT x.l))])] (.ag [(.i .i64 vmeasure0), (.i .i64 vmeasure1)]), .eqb (freeL []) true]) := by kernel_rfl
theorem eGuarded_1 (x : Tr) (vmeasure0 : Int) (vmeasure1 : Int) : funO 5 mth cal 1000 ir32 [(.ag [(.i .i8 x.k), (.i .i64 x.n), (.s (nats x.s)), (.s (nats x.t)), (.es 57 (.r (rowsT x.l)))])] [.cl [.ptr 57] (.ag [(.i .i64 vmeasure0), (.i .i64 vmeasure1)]), .go, .br true, .br false] = some ((.b false), [.eqb (decide (vmeasure1 ≤ 64)) false, .eqb (decide (vmeasure0 ≤ 4096)) true, .call 61 [(.ep 57 0 [.i x.k, .i x.n, .s (nats x.s), .s (nats x.t), (.r (rowsT x.l))])] (.ag [(.i .i64 vmeasure0), (.i .i64 vmeasure1)]), .eqb (freeL []) true]) := by kernel_rfl
theorem eGuarded_2 (x : Tr) (vmeasure0 : Int) (vmeasure1 : Int) : funO 5 mth cal 1000 ir32 [(.ag [(.i .i8 x.k), (.i .i64 x.n), (.s (nats x.s)), (.s (nats x.t)), (.es 57 (.r (rowsT x.l)))])] [.cl [.ptr 57] (.ag [(.i .i64 vmeasure0), (.i .i64 vmeasure1)]), .go, .br false] = some ((.b false), [.eqb (decide (vmeasure0 ≤ 4096)) false, .call 61 [(.ep 57 0 [.i x.k, .i x.n, .s (nats x.s), .s (nats x.t), (.r (rowsT x.l))])] (.ag [(.i .i64 vmeasure0), (.i .i64 vmeasure1)]), .eqb (freeL []) true]) := by kernel_rfl
theorem eGuarded (x : Tr) (vmeasure0 : Int) (vmeasure1 : Int) (vguarded2 : Bool) (c0 : Pu 61 [(.ep 57 0 [.i x.k, .i x.n, .s (nats x.s), .s (nats x.t), (.r (rowsT x.l))])] (.ag [(.i .i64 vmeasure0), (.i .i64 vmeasure1)])) (c1 : (decide (vmeasure0 ≤ 4096)) = true → (decide (vmeasure1 ≤ 64)) = true → Pu 67 [(.ep 57 0 [.i x.k, .i x.n, .s (nats x.s), .s (nats x.t), (.r (rowsT x.l))])] (.b (vguarded2))) : Pu 32 [(.ag [(.i .i8 x.k), (.i .i64 x.n), (.s (nats x.s)), (.s (nats x.t)), (.es 57 (.r (rowsT x.l)))])] (.b (bif decide (vmeasure0 ≤ 4096) then (bif decide (vmeasure1 ≤ 64) then vguarded2 else false) else false)) := by
  cases h0 : (decide (vmeasure0 ≤ 4096))
  case false =>
    exact pu_of Tryz.func32 irc32 (eGuarded_2 x vmeasure0 vmeasure1) rfl ⟨h0, (c0), rfl, trivial⟩
  case true =>
    cases h1 : (decide (vmeasure1 ≤ 64))
    case false =>
      exact pu_of Tryz.func32 irc32 (eGuarded_1 x vmeasure0 vmeasure1) rfl ⟨h1, h0, (c0), rfl, trivial⟩
    case true =>
      exact pu_of Tryz.func32 irc32 (eGuarded_0 x vmeasure0 vmeasure1 vguarded2) rfl ⟨(c1 h0 h1), rfl, h1, h0, (c0), rfl, trivial⟩
theorem eGuard_0 (x : Tr) (vmeasure0 : Int) (vmeasure1 : Int) (vguard2 : Bool) : funO 5 mth cal 1000 ir33 [(.ag [(.i .i8 x.k), (.i .i64 x.n), (.s (nats x.s)), (.s (nats x.t)), (.es 57 (.r (rowsT x.l)))])] [.cl [.ptr 57] (.ag [(.i .i64 vmeasure0), (.i .i64 vmeasure1)]), .go, .br true, .br true, .cl [.ptr 57] (.b (vguard2))] = some ((.b (vguard2)), [.call 68 [(.ep 57 0 [.i x.k, .i x.n, .s (nats x.s), .s (nats x.t), (.r (rowsT x.l))])] (.b (vguard2)), .eqb (freeL []) true, .eqb (decide (vmeasure1 ≤ 64)) true, .eqb (decide (vmeasure0 ≤ 4096)) true, .call 61 [(.ep 57 0 [.i x.k, .i x.n, .s (nats x.s), .s (nats x.t), (.r (rowsT x.l))])] (.ag [(.i .i64 vmeasure0), (.i .i64 vmeasure1)]), .eqb (freeL []) true]) := by kernel_rfl
theorem eGuard_1 (x : Tr) (vmeasure0 : Int) (vmeasure1 : Int) : funO 5 mth cal 1000 ir33 [(.ag [(.i .i8 x.k), (.i .i64 x.n), (.s (nats x.s)), (.s (nats x.t)), (.es 57 (.r (rowsT x.l)))])] [.cl [.ptr 57] (.ag [(.i .i64 vmeasure0), (.i .i64 vmeasure1)]), .go, .br true, .br false] = some ((.b false), [.eqb (decide (vmeasure1 ≤ 64)) false, .eqb (decide (vmeasure0 ≤ 4096)) true, .call 61 [(.ep 57 0 [.i x.k, .i x.n, .s (nats x.s), .s (nats x.t), (.r (rowsT x.l))])] (.ag [(.i .i64 vmeasure0), (.i .i64 vmeasure1)]), .eqb (freeL []) true]) := by kernel_rfl
theorem eGuard_2 (x : Tr) (vmeasure0 : Int) (vmeasure1 : Int) : funO 5 mth cal 1000 ir33 [(.ag [(.i .i8 x.k), (.i .i64 x.n), (.s (nats x.s)), (.s (nats x.t)), (.es 57 (.r (rowsT x.l)))])] [.cl [.ptr 57] (.ag [(.i .i64 vmeasure0), (.i .i64 vmeasure1)]), .go, .br false] = some ((.b false), [.eqb (decide (vmeasure0 ≤ 4096)) false, .call 61 [(.ep 57 0 [.i x.k, .i x.n, .s (nats x.s), .s (nats x.t), (.r (rowsT x.l))])] (.ag [(.i .i64 vmeasure0), (.i .i64 vmeasure1)]), .eqb (freeL []) true]) := by kernel_rfl
theorem eGuard (x : Tr) (vmeasure0 : Int) (vmeasure1 : Int) (vguard2 : Bool) (c0 : Pu 61 [(.ep 57 0 [.i x.k, .i x.n, .s (nats x.s), .s (nats x.t), (.r (rowsT x.l))])] (.ag [(.i .i64 vmeasure0), (.i .i64 vmeasure1)])) (c1 : (decide (vmeasure0 ≤ 4096)) = true → (decide (vmeasure1 ≤ 64)) = true → Pu 68 [(.ep 57 0 [.i x.k, .i x.n, .s (nats x.s), .s (nats x.t), (.r (rowsT x.l))])] (.b (vguard2))) : Pu 33 [(.ag [(.i .i8 x.k), (.i .i64 x.n), (.s (nats x.s)), (.s (nats x.t)), (.es 57 (.r (rowsT x.l)))])] (.b (bif decide (vmeasure0 ≤ 4096) then (bif decide (vmeasure1 ≤ 64) then vguard2 else false) else false)) := by
  cases h0 : (decide (vmeasure0 ≤ 4096))
  case false =>
    exact pu_of Tryz.func33 irc33 (eGuard_2 x vmeasure0 vmeasure1) rfl ⟨h0, (c0), rfl, trivial⟩
  case true =>
    cases h1 : (decide (vmeasure1 ≤ 64))
    case false =>
      exact pu_of Tryz.func33 irc33 (eGuard_1 x vmeasure0 vmeasure1) rfl ⟨h1, h0, (c0), rfl, trivial⟩
    case true =>
      exact pu_of Tryz.func33 irc33 (eGuard_0 x vmeasure0 vmeasure1 vguard2) rfl ⟨(c1 h0 h1), rfl, h1, h0, (c0), rfl, trivial⟩
theorem eTest_0 (x : Tr) (vmeasure0 : Int) (vmeasure1 : Int) (vtest2 : Bool) : funO 5 mth cal 1000 ir34 [(.ag [(.i .i8 x.k), (.i .i64 x.n), (.s (nats x.s)), (.s (nats x.t)), (.es 57 (.r (rowsT x.l)))])] [.cl [.ptr 57] (.ag [(.i .i64 vmeasure0), (.i .i64 vmeasure1)]), .go, .br true, .br true, .cl [.ptr 57] (.b (vtest2))] = some ((.b (vtest2)), [.call 69 [(.ep 57 0 [.i x.k, .i x.n, .s (nats x.s), .s (nats x.t), (.r (rowsT x.l))])] (.b (vtest2)), .eqb (freeL []) true, .eqb (decide (vmeasure1 ≤ 64)) true, .eqb (decide (vmeasure0 ≤ 4096)) true, .call 61 [(.ep 57 0 [.i x.k, .i x.n, .s (nats x.s), .s (nats x.t), (.r (rowsT x.l))])] (.ag [(.i .i64 vmeasure0), (.i .i64 vmeasure1)]), .eqb (freeL []) true]) := by kernel_rfl
theorem eTest_1 (x : Tr) (vmeasure0 : Int) (vmeasure1 : Int) : funO 5 mth cal 1000 ir34 [(.ag [(.i .i8 x.k), (.i .i64 x.n), (.s (nats x.s)), (.s (nats x.t)), (.es 57 (.r (rowsT x.l)))])] [.cl [.ptr 57] (.ag [(.i .i64 vmeasure0), (.i .i64 vmeasure1)]), .go, .br true, .br false] = some ((.b false), [.eqb (decide (vmeasure1 ≤ 64)) false, .eqb (decide (vmeasure0 ≤ 4096)) true, .call 61 [(.ep 57 0 [.i x.k, .i x.n, .s (nats x.s), .s (nats x.t), (.r (rowsT x.l))])] (.ag [(.i .i64 vmeasure0), (.i .i64 vmeasure1)]), .eqb (freeL []) true]) := by kernel_rfl
theorem eTest_2 (x : Tr) (vmeasure0 : Int) (vmeasure1 : Int) : funO 5 mth cal 1000 ir34 [(.ag [(.i .i8 x.k), (.i .i64 x.n), (.s (nats x.s)), (.s (nats x.t)), (.es 57 (.r (rowsT x.l)))])] [.cl [.ptr 57] (.ag [(.i .i64 vmeasure0), (.i .i64 vmeasure1)]), .go, .br false] = some ((.b false), [.eqb (decide (vmeasure0 ≤ 4096)) false, .call 61 [(.ep 57 0 [.i x.k, .i x.n, .s (nats x.s), .s (nats x.t), (.r (rowsT x.l))])] (.ag [(.i .i64 vmeasure0), (.i .i64 vmeasure1)]), .eqb (freeL []) true]) := by kernel_rfl
theorem eTest (x : Tr) (vmeasure0 : Int) (vmeasure1 : Int) (vtest2 : Bool) (c0 : Pu 61 [(.ep 57 0 [.i x.k, .i x.n, .s (nats x.s), .s (nats x.t), (.r (rowsT x.l))])] (.ag [(.i .i64 vmeasure0), (.i .i64 vmeasure1)])) (c1 : (decide (vmeasure0 ≤ 4096)) = true → (decide (vmeasure1 ≤ 64)) = true → Pu 69 [(.ep 57 0 [.i x.k, .i x.n, .s (nats x.s), .s (nats x.t), (.r (rowsT x.l))])] (.b (vtest2))) : Pu 34 [(.ag [(.i .i8 x.k), (.i .i64 x.n), (.s (nats x.s)), (.s (nats x.t)), (.es 57 (.r (rowsT x.l)))])] (.b (bif decide (vmeasure0 ≤ 4096) then (bif decide (vmeasure1 ≤ 64) then vtest2 else false) else false)) := by
  cases h0 : (decide (vmeasure0 ≤ 4096))
  case false =>
    exact pu_of Tryz.func34 irc34 (eTest_2 x vmeasure0 vmeasure1) rfl ⟨h0, (c0), rfl, trivial⟩
  case true =>
    cases h1 : (decide (vmeasure1 ≤ 64))
    case false =>
      exact pu_of Tryz.func34 irc34 (eTest_1 x vmeasure0 vmeasure1) rfl ⟨h1, h0, (c0), rfl, trivial⟩
    case true =>
      exact pu_of Tryz.func34 irc34 (eTest_0 x vmeasure0 vmeasure1 vtest2) rfl ⟨(c1 h0 h1), rfl, h1, h0, (c0), rfl, trivial⟩
theorem eClause_0 (x : Tr) (m : Int) (vmeasure0 : Int) (vmeasure1 : Int) (v12 : Bool) : funO 5 mth cal 1000 ir36 [(.ag [(.i .i8 x.k), (.i .i64 x.n), (.s (nats x.s)), (.s (nats x.t)), (.es 57 (.r (rowsT x.l)))]), (.i .i64 m)] [.cl [.ptr 57] (.ag [(.i .i64 vmeasure0), (.i .i64 vmeasure1)]), .go, .br true, .br true, .br true, .go, .cl [.ptr 57, .ptr 3] (.b (v12))] = some ((.b (v12)), [.call 142 [(.ep 57 0 [.i x.k, .i x.n, .s (nats x.s), .s (nats x.t), (.r (rowsT x.l))]), (.ep 3 0 [.i m])] (.b (v12)), .eqb (freeL []) true, .eqb (decide (0 ≤ m)) true, .eqb (decide (vmeasure1 ≤ 64)) true, .eqb (decide (vmeasure0 ≤ 4096)) true, .call 61 [(.ep 57 0 [.i x.k, .i x.n, .s (nats x.s), .s (nats x.t), (.r (rowsT x.l))])] (.ag [(.i .i64 vmeasure0), (.i .i64 vmeasure1)]), .eqb (freeL []) true]) := by kernel_rfl
theorem eClause_1 (x : Tr) (m : Int) (vmeasure0 : Int) (vmeasure1 : Int) : funO 5 mth cal 1000 ir36 [(.ag [(.i .i8 x.k), (.i .i64 x.n), (.s (nats x.s)), (.s (nats x.t)), (.es 57 (.r (rowsT x.l)))]), (.i .i64 m)] [.cl [.ptr 57] (.ag [(.i .i64 vmeasure0), (.i .i64 vmeasure1)]), .go, .br true, .br true, .br false] = some ((.b false), [.eqb (decide (0 ≤ m)) false, .eqb (decide (vmeasure1 ≤ 64)) true, .eqb (decide (vmeasure0 ≤ 4096)) true, .call 61 [(.ep 57 0 [.i x.k, .i x.n, .s (nats x.s), .s (nats x.t), (.r (rowsT x.l))])] (.ag [(.i .i64 vmeasure0), (.i .i64 vmeasure1)]), .eqb (freeL []) true]) := by kernel_rfl
theorem eClause_2 (x : Tr) (m : Int) (vmeasure0 : Int) (vmeasure1 : Int) : funO 5 mth cal 1000 ir36 [(.ag [(.i .i8 x.k), (.i .i64 x.n), (.s (nats x.s)), (.s (nats x.t)), (.es 57 (.r (rowsT x.l)))]), (.i .i64 m)] [.cl [.ptr 57] (.ag [(.i .i64 vmeasure0), (.i .i64 vmeasure1)]), .go, .br true, .br false] = some ((.b false), [.eqb (decide (vmeasure1 ≤ 64)) false, .eqb (decide (vmeasure0 ≤ 4096)) true, .call 61 [(.ep 57 0 [.i x.k, .i x.n, .s (nats x.s), .s (nats x.t), (.r (rowsT x.l))])] (.ag [(.i .i64 vmeasure0), (.i .i64 vmeasure1)]), .eqb (freeL []) true]) := by kernel_rfl
theorem eClause_3 (x : Tr) (m : Int) (vmeasure0 : Int) (vmeasure1 : Int) : funO 5 mth cal 1000 ir36 [(.ag [(.i .i8 x.k), (.i .i64 x.n), (.s (nats x.s)), (.s (nats x.t)), (.es 57 (.r (rowsT x.l)))]), (.i .i64 m)] [.cl [.ptr 57] (.ag [(.i .i64 vmeasure0), (.i .i64 vmeasure1)]), .go, .br false] = some ((.b false), [.eqb (decide (vmeasure0 ≤ 4096)) false, .call 61 [(.ep 57 0 [.i x.k, .i x.n, .s (nats x.s), .s (nats x.t), (.r (rowsT x.l))])] (.ag [(.i .i64 vmeasure0), (.i .i64 vmeasure1)]), .eqb (freeL []) true]) := by kernel_rfl
theorem eClause (x : Tr) (m : Int) (vmeasure0 : Int) (vmeasure1 : Int) (v12 : Bool) (c0 : Pu 61 [(.ep 57 0 [.i x.k, .i x.n, .s (nats x.s), .s (nats x.t), (.r (rowsT x.l))])] (.ag [(.i .i64 vmeasure0), (.i .i64 vmeasure1)])) (c1 : (decide (vmeasure0 ≤ 4096)) = true → (decide (vmeasure1 ≤ 64)) = true → (decide (0 ≤ m)) = true → Pu 142 [(.ep 57 0 [.i x.k, .i x.n, .s (nats x.s), .s (nats x.t), (.r (rowsT x.l))]), (.ep 3 0 [.i m])] (.b (v12))) : Pu 36 [(.ag [(.i .i8 x.k), (.i .i64 x.n), (.s (nats x.s)), (.s (nats x.t)), (.es 57 (.r (rowsT x.l)))]), (.i .i64 m)] (.b (bif decide (vmeasure0 ≤ 4096) then (bif decide (vmeasure1 ≤ 64) then (bif decide (0 ≤ m) then v12 else false) else false) else false)) := by
  cases h0 : (decide (vmeasure0 ≤ 4096))
  case false =>
    exact pu_of Tryz.func36 irc36 (eClause_3 x m vmeasure0 vmeasure1) rfl ⟨h0, (c0), rfl, trivial⟩
  case true =>
    cases h1 : (decide (vmeasure1 ≤ 64))
    case false =>
      exact pu_of Tryz.func36 irc36 (eClause_2 x m vmeasure0 vmeasure1) rfl ⟨h1, h0, (c0), rfl, trivial⟩
    case true =>
      cases h2 : (decide (0 ≤ m))
      case false =>
        exact pu_of Tryz.func36 irc36 (eClause_1 x m vmeasure0 vmeasure1) rfl ⟨h2, h1, h0, (c0), rfl, trivial⟩
      case true =>
        exact pu_of Tryz.func36 irc36 (eClause_0 x m vmeasure0 vmeasure1 v12) rfl ⟨(c1 h0 h1 h2), rfl, h2, h1, h0, (c0), rfl, trivial⟩
theorem Expr_pu (x : Tr) (hx : TrOk x) : Pu 31 [agV x] (.b (fitsB x && ex x)) := by
  have q := eExpr x _ _ _ (measure_pu hx) (by intros; exact expr_pu x hx)
  simp only [Bool.cond_false_right, ← Bool.and_assoc] at q
  exact q
theorem Pattern_pu (x : Tr) (hx : TrOk x) : Pu 30 [agV x] (.b (fitsB x && pat x)) := by
  have q := ePattern x _ _ _ (measure_pu hx) (by intros; exact pattern_pu x hx)
  simp only [Bool.cond_false_right, ← Bool.and_assoc] at q
  exact q
theorem Guarded_pu (x : Tr) (hx : TrOk x) : Pu 32 [agV x] (.b (fitsB x && gdd x)) := by
  have q := eGuarded x _ _ _ (measure_pu hx) (by intros; exact guarded_pu x hx)
  simp only [Bool.cond_false_right, ← Bool.and_assoc] at q
  exact q
theorem Guard_pu (x : Tr) (hx : TrOk x) : Pu 33 [agV x] (.b (fitsB x && gd x)) := by
  have q := eGuard x _ _ _ (measure_pu hx) (by intros; exact guard_pu x hx)
  simp only [Bool.cond_false_right, ← Bool.and_assoc] at q
  exact q
theorem Test_pu (x : Tr) (hx : TrOk x) : Pu 34 [agV x] (.b (fitsB x && tst x)) := by
  have q := eTest x _ _ _ (measure_pu hx) (by intros; exact test_pu x hx)
  simp only [Bool.cond_false_right, ← Bool.and_assoc] at q
  exact q
theorem Clause_pu (x : Tr) (m : Int) (hx : TrOk x) : Pu 36 [agV x, .i .i64 m] (.b (fitsB x && (decide (0 ≤ m) && cl m x))) := by
  have q := eClause x m _ _ _ (measure_pu hx) (by intros; exact clause_pu (kid_of x hx) m)
  simp only [Bool.cond_false_right, ← Bool.and_assoc] at q
  rw [← Bool.and_assoc]
  exact q
/-- A function, a module that may be. -/
def fnB (x : Tr) : Bool := decide (x.k = 2) && (decide (nats x.t = []) && (atomN x.s && (decide (0 ≤ x.n) && (decide (x.n ≤ 8) && (decide (0 < (x.l.length : Int)) && x.l.all (cl x.n))))))
def modB (x : Tr) : Bool := decide (x.k = 1) && (decide (x.n = 0) && (decide (nats x.t = []) && (atomN x.s && x.l.all fnB)))
def chkB (x : Tr) : Bool := fitsB x && (decide (x.k = 0) && (decide (x.n = 0) && (decide (nats x.s = []) && (decide (nats x.t = []) && x.l.all modB))))
theorem fn_pu (x : Tr) (hx : TrOk x) : Pu 70 [.ep 57 0 (rowV x)] (.b (fnB x)) := by
  have q := cF x _ _ (by intros; exact atom_pu hx.wf.s) (by intros; exact each_tr (f := cl x.n) rfl rfl hx.len fun y hy => clause_pu (kid_of y (hx.kid hy)) x.n)
  simp only [Bool.cond_false_right, rowsT_len] at q
  exact q
theorem mod_pu (x : Tr) (hx : TrOk x) : Pu 75 [.ep 57 0 (rowV x), .ep 108 0 [.f 70]] (.b (modB x)) := by
  have q := cM x _ _ (by intros; exact atom_pu hx.wf.s) (by intros; exact each_tr (f := fnB) rfl rfl hx.len fun y hy => fn_pu y (hx.kid hy))
  simp only [Bool.cond_false_right] at q
  exact q
theorem Check_pu (x : Tr) (hx : TrOk x) : Pu 35 [agV x] (.i .i64 (bif chkB x then 0 else 70)) := by
  have q := eCheck x _ _ _ (measure_pu hx) (by intros; exact each_tr (f := modB) rfl rfl hx.len fun y hy => mod_pu y (hx.kid hy))
  have e : chkB x = (decide (x.sz 4097 ≤ 4096) && (decide (x.dp 65 ≤ 64) && (decide (x.k = 0) && (decide (x.n = 0) && (decide (nats x.s = []) && (decide (nats x.t = []) && x.l.all modB)))))) := by unfold chkB fitsB; rw [Bool.and_assoc]
  rw [e]
  revert q
  cases decide (x.sz 4097 ≤ 4096) <;> cases decide (x.dp 65 ≤ 64) <;> cases decide (x.k = 0) <;> cases decide (x.n = 0) <;> cases decide (nats x.s = []) <;> cases decide (nats x.t = []) <;> exact fun q => q
end Go.Proofs.YtdjafnjmkkagjaaGreatDoor.Oa.B5

