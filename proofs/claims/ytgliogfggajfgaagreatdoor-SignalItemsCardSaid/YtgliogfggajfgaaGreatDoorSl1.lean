/-
  SignalItems, over data. No condition but that the reason be in range.
-/
import Derived.Test.YtgliogfggajfgaaGreatDoorSg3
namespace Go.Proofs.YtgliogfggajfgaaGreatDoor.Oa.S1
open Go.RowKit Sx
set_option maxRecDepth 100000
set_option linter.unusedSimpArgs false
set_option linter.unusedVariables false
def ir3 : XF := ⟨104, 3, [(6, none)], (.seq (.reg [⟨some 5, none, .box 25 5 (.t 2)⟩,
  ⟨some 6, none, .mv (.c (.b false))⟩])
  (.seq (.seq (.reg [⟨some 19, none, .ld true 5 (.t 5)⟩,
  ⟨some 20, none, .call 4 [(.t 19)]⟩])
  (.cond (.t 20) (.seq (.reg [⟨some 21, none, .call 5 []⟩,
  ⟨some 6, none, .mv (.t 21)⟩])
  .ret)
  .skip))
  (.seq (.par [⟨some 22, none, .mv (.t 0)⟩,
  ⟨some 23, none, .ld true 5 (.t 5)⟩,
  ⟨some 24, none, .call 6 [(.t 22), (.t 23)]⟩,
  ⟨some 25, none, .mv (.t 0)⟩,
  ⟨some 26, none, .ld true 5 (.t 5)⟩,
  ⟨some 27, none, .call 7 [(.t 25), (.t 26)]⟩,
  ⟨some 7, none, .box 29 6 (.c (.ag [(.i .i8 0), (.i .i64 0), (.s []), (.s []), .sln, (.b false)]))⟩,
  ⟨some 8, none, .box 29 6 (.c (.ag [(.i .i8 0), (.i .i64 0), (.s []), (.s []), .sln, (.b false)]))⟩,
  ⟨none, none, .st 6 (.t 7) (.t 24)⟩,
  ⟨none, none, .st 6 (.t 8) (.t 27)⟩] [0, 0, 3, 0, 0, 31, 0, 0, 255, 511])
  (.seq (.par [⟨some 28, none, .mv (.t 0)⟩,
  ⟨some 29, none, .mv (.t 1)⟩,
  ⟨some 30, none, .ld true 5 (.t 5)⟩,
  ⟨some 31, none, .call 8 [(.t 28), (.t 29), (.t 30)]⟩,
  ⟨some 32, none, .mv (.t 0)⟩,
  ⟨some 33, none, .mv (.t 1)⟩,
  ⟨some 34, none, .ld true 5 (.t 5)⟩,
  ⟨some 35, none, .call 9 [(.t 32), (.t 33), (.t 34)]⟩,
  ⟨some 9, none, .box 29 6 (.c (.ag [(.i .i8 0), (.i .i64 0), (.s []), (.s []), .sln, (.b false)]))⟩,
  ⟨some 10, none, .box 29 6 (.c (.ag [(.i .i8 0), (.i .i64 0), (.s []), (.s []), .sln, (.b false)]))⟩,
  ⟨none, none, .st 6 (.t 9) (.t 31)⟩,
  ⟨none, none, .st 6 (.t 10) (.t 35)⟩] [0, 0, 0, 7, 0, 0, 0, 127, 0, 0, 1023, 2047])
  (.seq (.par [⟨some 37, none, .call 11 []⟩,
  ⟨some 38, none, .ld true 5 (.t 5)⟩,
  ⟨some 39, none, .call 10 [(.c .pn), (.t 37), (.c (.i .i64 0)), (.c (.i .i64 1)), (.t 38)]⟩,
  ⟨some 36, none, .mv (.t 39)⟩,
  ⟨some 40, none, .ex (.t 36) 0⟩,
  ⟨some 41, none, .ex (.t 36) 1⟩,
  ⟨some 11, none, .mv (.t 40)⟩,
  ⟨some 12, none, .mv (.t 41)⟩] [0, 0, 3, 7, 15, 15, 31, 127])
  (.seq (.par [⟨some 43, none, .call 13 []⟩,
  ⟨some 44, none, .ld true 5 (.t 5)⟩,
  ⟨some 45, none, .call 12 [(.t 43), (.c .pn), (.c (.i .i64 1)), (.t 44)]⟩,
  ⟨some 42, none, .mv (.t 45)⟩,
  ⟨some 46, none, .ex (.t 42) 0⟩,
  ⟨some 47, none, .ex (.t 42) 1⟩,
  ⟨some 13, none, .mv (.t 46)⟩,
  ⟨some 14, none, .mv (.t 47)⟩] [0, 0, 3, 7, 15, 15, 31, 127])
  (.seq (.reg [⟨some 49, none, .call 14 [(.c .pn), (.c .pn), (.c (.i .i64 1)), (.c (.i .i64 2))]⟩,
  ⟨some 48, none, .mv (.t 49)⟩,
  ⟨some 50, none, .ex (.t 48) 0⟩,
  ⟨some 51, none, .ex (.t 48) 1⟩,
  ⟨some 15, none, .mv (.t 50)⟩,
  ⟨some 16, none, .mv (.t 51)⟩])
  (.seq (.reg [⟨some 53, none, .call 13 []⟩,
  ⟨some 54, none, .call 15 [(.t 53), (.c .pn), (.c (.i .i64 1)), (.c (.i .i64 2))]⟩,
  ⟨some 52, none, .mv (.t 54)⟩,
  ⟨some 55, none, .ex (.t 52) 0⟩,
  ⟨some 56, none, .ex (.t 52) 1⟩,
  ⟨some 17, none, .mv (.t 55)⟩,
  ⟨some 18, none, .mv (.t 56)⟩])
  (.seq (.reg [⟨some 57, none, .fa 5 (.t 7)⟩,
  ⟨some 58, none, .ld false 1 (.t 57)⟩,
  ⟨some 59, none, .mv (.t 58)⟩,
  ⟨some 60, some (59, true), .fa 5 (.t 9)⟩,
  ⟨some 61, some (59, true), .ld false 1 (.t 60)⟩,
  ⟨some 62, none, .pick (.t 59) (.t 61) (.c (.b false))⟩,
  ⟨some 63, none, .mv (.t 62)⟩,
  ⟨some 64, some (63, true), .fa 5 (.t 8)⟩,
  ⟨some 65, some (63, true), .ld false 1 (.t 64)⟩,
  ⟨some 66, none, .pick (.t 63) (.t 65) (.c (.b false))⟩,
  ⟨some 67, none, .mv (.t 66)⟩,
  ⟨some 68, some (67, true), .fa 5 (.t 10)⟩,
  ⟨some 69, some (67, true), .ld false 1 (.t 68)⟩,
  ⟨some 70, none, .pick (.t 67) (.t 69) (.c (.b false))⟩,
  ⟨some 71, none, .mv (.t 70)⟩,
  ⟨some 72, some (71, true), .fa 0 (.t 7)⟩,
  ⟨some 73, some (71, true), .ld true 5 (.t 72)⟩,
  ⟨some 74, some (71, true), .fa 0 (.t 8)⟩,
  ⟨some 75, some (71, true), .ld true 5 (.t 74)⟩,
  ⟨some 76, some (71, true), .call 16 [(.t 73), (.t 75)]⟩,
  ⟨some 77, none, .pick (.t 71) (.t 76) (.c (.b false))⟩,
  ⟨some 78, none, .mv (.t 77)⟩,
  ⟨some 79, some (78, true), .fa 0 (.t 9)⟩,
  ⟨some 80, some (78, true), .ld true 5 (.t 79)⟩,
  ⟨some 81, some (78, true), .fa 0 (.t 10)⟩,
  ⟨some 82, some (78, true), .ld true 5 (.t 81)⟩,
  ⟨some 83, some (78, true), .call 16 [(.t 80), (.t 82)]⟩,
  ⟨some 84, none, .pick (.t 78) (.t 83) (.c (.b false))⟩,
  ⟨some 85, none, .mv (.t 84)⟩,
  ⟨some 86, some (85, true), .mv (.t 12)⟩,
  ⟨some 87, some (85, true), .bop .eql (.t 86) (.c (.i .i64 1))⟩,
  ⟨some 88, none, .pick (.t 85) (.t 87) (.c (.b false))⟩,
  ⟨some 89, none, .mv (.t 88)⟩,
  ⟨some 90, some (89, true), .mv (.t 14)⟩,
  ⟨some 91, some (89, true), .bop .eql (.t 90) (.c (.i .i64 1))⟩,
  ⟨some 92, none, .pick (.t 89) (.t 91) (.c (.b false))⟩,
  ⟨some 93, none, .mv (.t 92)⟩,
  ⟨some 94, some (93, true), .mv (.t 16)⟩,
  ⟨some 95, some (93, true), .bop .eql (.t 94) (.c (.i .i64 1))⟩,
  ⟨some 96, none, .pick (.t 93) (.t 95) (.c (.b false))⟩,
  ⟨some 97, none, .mv (.t 96)⟩,
  ⟨some 98, some (97, true), .mv (.t 18)⟩,
  ⟨some 99, some (97, true), .bop .eql (.t 98) (.c (.i .i64 1))⟩,
  ⟨some 100, none, .pick (.t 97) (.t 99) (.c (.b false))⟩,
  ⟨some 101, none, .mv (.t 100)⟩,
  ⟨some 102, some (101, true), .call 5 []⟩,
  ⟨some 103, none, .pick (.t 101) (.t 102) (.c (.b false))⟩,
  ⟨some 6, none, .mv (.t 103)⟩])
  .ret)))))))))⟩

theorem irc3 : cFunc Tryz.prog Tryz.f3 = some ir3 := by kernel_rfl
def ir10 : XF := ⟨51, 5, [(10, none), (11, none)], (.seq (.reg [⟨some 9, none, .box 25 5 (.t 4)⟩,
  ⟨some 10, none, .mv (.c .sln)⟩,
  ⟨some 11, none, .mv (.c (.i .i64 0))⟩])
  (.seq (.reg [⟨some 15, none, .mv (.t 0)⟩,
  ⟨some 16, none, .mv (.t 1)⟩,
  ⟨some 17, none, .mv (.t 3)⟩,
  ⟨some 18, none, .call 31 [(.t 15), (.t 16), (.t 17)]⟩,
  ⟨some 14, none, .mv (.t 18)⟩,
  ⟨some 19, none, .ex (.t 14) 0⟩,
  ⟨some 20, none, .ex (.t 14) 1⟩,
  ⟨some 12, none, .mv (.t 19)⟩,
  ⟨some 13, none, .mv (.t 20)⟩])
  (.seq (.blk 0 (.seq (.reg [⟨some 27, none, .mv (.t 13)⟩,
  ⟨some 28, none, .bop .eql (.t 27) (.c (.i .i64 1))⟩,
  ⟨some 26, none, .mv (.t 28)⟩])
  (.cond (.t 26) (.seq (.reg [⟨some 29, none, .mv (.t 13)⟩,
  ⟨some 10, none, .mv (.c .sln)⟩,
  ⟨some 11, none, .mv (.t 29)⟩])
  .ret)
  (.seq (.reg [⟨some 31, none, .ld true 5 (.t 9)⟩,
  ⟨some 32, none, .call 32 [(.t 31)]⟩,
  ⟨some 33, none, .bop .neq (.t 32) (.c (.i .i64 0))⟩,
  ⟨some 34, none, .mv (.t 33)⟩,
  ⟨some 35, some (34, false), .mv (.t 2)⟩,
  ⟨some 36, some (34, false), .bop .lss (.t 35) (.c (.i .i64 0))⟩,
  ⟨some 37, none, .pick (.t 34) (.c (.b true)) (.t 36)⟩,
  ⟨some 30, none, .mv (.t 37)⟩])
  (.cond (.t 30) (.seq (.reg [⟨some 10, none, .mv (.c .sln)⟩,
  ⟨some 11, none, .mv (.c (.i .i64 2))⟩])
  .ret)
  (.seq (.reg [⟨some 39, none, .mv (.t 13)⟩,
  ⟨some 40, none, .bop .neq (.t 39) (.c (.i .i64 0))⟩,
  ⟨some 38, none, .mv (.t 40)⟩])
  (.cond (.t 38) (.seq (.reg [⟨some 41, none, .mv (.t 13)⟩,
  ⟨some 10, none, .mv (.c .sln)⟩,
  ⟨some 11, none, .mv (.t 41)⟩])
  .ret)
  (.seq (.reg [⟨some 43, none, .ld true 5 (.t 9)⟩,
  ⟨some 44, none, .call 33 [(.t 43), (.c (.s [107, 105, 108, 108]))]⟩,
  ⟨some 42, none, .mv (.t 44)⟩])
  (.cond (.t 42) (.reg [⟨some 45, none, .mv (.t 12)⟩,
  ⟨some 46, none, .mv (.t 3)⟩,
  ⟨some 47, none, .call 25 [(.c (.s [107, 105, 108, 108, 101, 100]))]⟩,
  ⟨some 48, none, .call 34 [(.t 45), (.t 46), (.t 47)]⟩])
  (.reg [⟨some 21, none, .mv (.t 12)⟩,
  ⟨some 22, none, .mv (.t 2)⟩,
  ⟨some 23, none, .mv (.t 3)⟩,
  ⟨some 24, none, .ld true 5 (.t 9)⟩,
  ⟨some 25, none, .call 35 [(.t 21), (.t 22), (.t 23), (.t 24)]⟩]))))))))))
  (.seq (.reg [⟨some 49, none, .mv (.t 12)⟩,
  ⟨some 50, none, .call 36 [(.t 49)]⟩,
  ⟨some 10, none, .mv (.t 50)⟩,
  ⟨some 11, none, .mv (.c (.i .i64 0))⟩])
  .ret))))⟩

theorem irc10 : cFunc Tryz.prog Tryz.f10 = some ir10 := by kernel_rfl
def ir31 : XF := ⟨28, 3, [(6, none), (7, none)], (.seq (.reg [⟨some 6, none, .mv (.c .pn)⟩,
  ⟨some 7, none, .mv (.c (.i .i64 0))⟩])
  (.seq (.seq (.reg [⟨some 10, none, .mv (.t 0)⟩,
  ⟨some 11, none, .eq 0 false true (.t 10) (.c .pn)⟩,
  ⟨some 12, none, .mv (.t 11)⟩,
  ⟨some 13, some (12, false), .mv (.t 1)⟩,
  ⟨some 14, some (12, false), .eq 0 false true (.t 13) (.c .pn)⟩,
  ⟨some 15, none, .pick (.t 12) (.c (.b true)) (.t 14)⟩])
  (.cond (.t 15) (.seq (.reg [⟨some 6, none, .mv (.c .pn)⟩,
  ⟨some 7, none, .mv (.c (.i .i64 1))⟩])
  .ret)
  .skip))
  (.seq (.seq (.reg [⟨some 17, none, .mv (.t 0)⟩,
  ⟨some 18, none, .mv (.t 2)⟩,
  ⟨some 19, none, .call 21 [(.t 17), (.t 18)]⟩,
  ⟨some 16, none, .mv (.t 19)⟩,
  ⟨some 20, none, .ex (.t 16) 0⟩,
  ⟨some 21, none, .ex (.t 16) 1⟩,
  ⟨some 8, none, .box 56 9 (.c (.ag [(.i .i64 0), (.i .i64 0), .sln, .sln, (.s []), (.b false), (.b false), .sln, .sln]))⟩,
  ⟨none, none, .st 9 (.t 8) (.t 20)⟩,
  ⟨some 9, none, .mv (.t 21)⟩])
  (.seq (.reg [⟨some 22, none, .mv (.t 9)⟩,
  ⟨some 23, none, .un .not (.t 22)⟩])
  (.cond (.t 23) (.seq (.reg [⟨some 6, none, .mv (.c .pn)⟩,
  ⟨some 7, none, .mv (.c (.i .i64 4))⟩])
  .ret)
  .skip)))
  (.seq (.reg [⟨some 24, none, .mv (.t 0)⟩,
  ⟨some 25, none, .mv (.t 1)⟩,
  ⟨some 26, none, .bld [.pn, .pn, .sln] [(0, 1, (.t 24)), (1, 1, (.t 25))]⟩,
  ⟨some 27, none, .box 111 3 (.t 26)⟩,
  ⟨some 6, none, .mv (.t 27)⟩,
  ⟨some 7, none, .mv (.c (.i .i64 0))⟩])
  .ret))))⟩

theorem irc31 : cFunc Tryz.prog Tryz.f31 = some ir31 := by kernel_rfl
def ir12 : XF := ⟨37, 4, [(8, none), (9, none)], (.seq (.reg [⟨some 7, none, .box 25 5 (.t 3)⟩,
  ⟨some 8, none, .mv (.c .sln)⟩,
  ⟨some 9, none, .mv (.c (.i .i64 0))⟩])
  (.seq (.reg [⟨some 13, none, .mv (.t 0)⟩,
  ⟨some 14, none, .mv (.t 1)⟩,
  ⟨some 15, none, .mv (.t 2)⟩,
  ⟨some 16, none, .call 31 [(.t 13), (.t 14), (.t 15)]⟩,
  ⟨some 12, none, .mv (.t 16)⟩,
  ⟨some 17, none, .ex (.t 12) 0⟩,
  ⟨some 18, none, .ex (.t 12) 1⟩,
  ⟨some 10, none, .mv (.t 17)⟩,
  ⟨some 11, none, .mv (.t 18)⟩])
  (.seq (.blk 0 (.seq (.reg [⟨some 20, none, .mv (.t 11)⟩,
  ⟨some 21, none, .bop .eql (.t 20) (.c (.i .i64 1))⟩,
  ⟨some 19, none, .mv (.t 21)⟩])
  (.cond (.t 19) (.seq (.reg [⟨some 22, none, .mv (.t 11)⟩,
  ⟨some 8, none, .mv (.c .sln)⟩,
  ⟨some 9, none, .mv (.t 22)⟩])
  .ret)
  (.seq (.reg [⟨some 24, none, .ld true 5 (.t 7)⟩,
  ⟨some 25, none, .call 32 [(.t 24)]⟩,
  ⟨some 26, none, .bop .neq (.t 25) (.c (.i .i64 0))⟩,
  ⟨some 23, none, .mv (.t 26)⟩])
  (.cond (.t 23) (.seq (.reg [⟨some 8, none, .mv (.c .sln)⟩,
  ⟨some 9, none, .mv (.c (.i .i64 2))⟩])
  .ret)
  (.seq (.reg [⟨some 28, none, .mv (.t 11)⟩,
  ⟨some 29, none, .bop .neq (.t 28) (.c (.i .i64 0))⟩,
  ⟨some 27, none, .mv (.t 29)⟩])
  (.cond (.t 27) (.seq (.reg [⟨some 30, none, .mv (.t 11)⟩,
  ⟨some 8, none, .mv (.c .sln)⟩,
  ⟨some 9, none, .mv (.t 30)⟩])
  .ret)
  .skip)))))))
  (.seq (.reg [⟨some 31, none, .mv (.t 10)⟩,
  ⟨some 32, none, .mv (.t 2)⟩,
  ⟨some 33, none, .ld true 5 (.t 7)⟩,
  ⟨some 34, none, .call 34 [(.t 31), (.t 32), (.t 33)]⟩])
  (.seq (.reg [⟨some 35, none, .mv (.t 10)⟩,
  ⟨some 36, none, .call 36 [(.t 35)]⟩,
  ⟨some 8, none, .mv (.t 36)⟩,
  ⟨some 9, none, .mv (.c (.i .i64 0))⟩])
  .ret)))))⟩

theorem irc12 : cFunc Tryz.prog Tryz.f12 = some ir12 := by kernel_rfl
def ir14 : XF := ⟨47, 4, [(8, none), (9, none)], (.seq (.reg [⟨some 8, none, .mv (.c .sln)⟩,
  ⟨some 9, none, .mv (.c (.i .i64 0))⟩])
  (.seq (.reg [⟨some 15, none, .mv (.t 0)⟩,
  ⟨some 16, none, .mv (.t 1)⟩,
  ⟨some 17, none, .mv (.t 2)⟩,
  ⟨some 18, none, .call 31 [(.t 15), (.t 16), (.t 17)]⟩,
  ⟨some 14, none, .mv (.t 18)⟩,
  ⟨some 19, none, .ex (.t 14) 0⟩,
  ⟨some 20, none, .ex (.t 14) 1⟩,
  ⟨some 10, none, .mv (.t 19)⟩,
  ⟨some 11, none, .mv (.t 20)⟩])
  (.seq (.seq (.reg [⟨some 21, none, .mv (.t 11)⟩,
  ⟨some 22, none, .bop .neq (.t 21) (.c (.i .i64 0))⟩])
  (.cond (.t 22) (.seq (.reg [⟨some 23, none, .mv (.t 11)⟩,
  ⟨some 8, none, .mv (.c .sln)⟩,
  ⟨some 9, none, .mv (.t 23)⟩])
  .ret)
  .skip))
  (.seq (.seq (.reg [⟨some 25, none, .mv (.t 0)⟩,
  ⟨some 26, none, .mv (.t 3)⟩,
  ⟨some 27, none, .call 21 [(.t 25), (.t 26)]⟩,
  ⟨some 24, none, .mv (.t 27)⟩,
  ⟨some 28, none, .ex (.t 24) 0⟩,
  ⟨some 29, none, .ex (.t 24) 1⟩,
  ⟨some 12, none, .box 56 9 (.c (.ag [(.i .i64 0), (.i .i64 0), .sln, .sln, (.s []), (.b false), (.b false), .sln, .sln]))⟩,
  ⟨none, none, .st 9 (.t 12) (.t 28)⟩,
  ⟨some 13, none, .mv (.t 29)⟩])
  (.blk 0 (.seq (.reg [⟨some 36, none, .mv (.t 2)⟩,
  ⟨some 37, none, .mv (.t 3)⟩,
  ⟨some 38, none, .bop .eql (.t 36) (.t 37)⟩,
  ⟨some 35, none, .mv (.t 38)⟩])
  (.cond (.t 35) .skip
  (.seq (.reg [⟨some 40, none, .mv (.t 13)⟩,
  ⟨some 39, none, .mv (.t 40)⟩])
  (.cond (.t 39) (.reg [⟨some 41, none, .mv (.t 1)⟩,
  ⟨some 42, none, .mv (.t 2)⟩,
  ⟨some 43, none, .mv (.t 3)⟩,
  ⟨some 44, none, .call 19 [(.t 41), (.t 42), (.t 43)]⟩])
  (.reg [⟨some 30, none, .mv (.t 10)⟩,
  ⟨some 31, none, .mv (.t 3)⟩,
  ⟨some 32, none, .mv (.t 2)⟩,
  ⟨some 33, none, .call 25 [(.c (.s [110, 111, 112, 114, 111, 99]))]⟩,
  ⟨some 34, none, .call 35 [(.t 30), (.t 31), (.t 32), (.t 33)]⟩])))))))
  (.seq (.reg [⟨some 45, none, .mv (.t 10)⟩,
  ⟨some 46, none, .call 36 [(.t 45)]⟩,
  ⟨some 8, none, .mv (.t 46)⟩,
  ⟨some 9, none, .mv (.c (.i .i64 0))⟩])
  .ret)))))⟩

theorem irc14 : cFunc Tryz.prog Tryz.f14 = some ir14 := by kernel_rfl
def ir15 : XF := ⟨56, 4, [(8, none), (9, none)], (.seq (.reg [⟨some 8, none, .mv (.c (.i .i64 0))⟩,
  ⟨some 9, none, .mv (.c (.i .i64 0))⟩])
  (.seq (.reg [⟨some 16, none, .mv (.t 0)⟩,
  ⟨some 17, none, .mv (.t 1)⟩,
  ⟨some 18, none, .mv (.t 2)⟩,
  ⟨some 19, none, .call 31 [(.t 16), (.t 17), (.t 18)]⟩,
  ⟨some 15, none, .mv (.t 19)⟩,
  ⟨some 20, none, .ex (.t 15) 0⟩,
  ⟨some 21, none, .ex (.t 15) 1⟩,
  ⟨some 10, none, .mv (.t 20)⟩,
  ⟨some 11, none, .mv (.t 21)⟩])
  (.seq (.seq (.reg [⟨some 22, none, .mv (.t 11)⟩,
  ⟨some 23, none, .bop .neq (.t 22) (.c (.i .i64 0))⟩])
  (.cond (.t 23) (.seq (.reg [⟨some 24, none, .mv (.t 11)⟩,
  ⟨some 8, none, .mv (.c (.i .i64 0))⟩,
  ⟨some 9, none, .mv (.t 24)⟩])
  .ret)
  .skip))
  (.seq (.seq (.reg [⟨some 25, none, .mv (.t 3)⟩,
  ⟨some 26, none, .bop .lss (.t 25) (.c (.i .i64 1))⟩])
  (.cond (.t 26) (.seq (.reg [⟨some 8, none, .mv (.c (.i .i64 0))⟩,
  ⟨some 9, none, .mv (.c (.i .i64 2))⟩])
  .ret)
  .skip))
  (.seq (.reg [⟨some 28, none, .mv (.t 1)⟩,
  ⟨some 29, none, .mv (.t 2)⟩,
  ⟨some 30, none, .mv (.t 3)⟩,
  ⟨some 31, none, .call 37 [(.t 28), (.t 29), (.t 30)]⟩,
  ⟨some 27, none, .mv (.t 31)⟩,
  ⟨some 32, none, .ex (.t 27) 0⟩,
  ⟨some 33, none, .ex (.t 27) 1⟩,
  ⟨some 12, none, .mv (.t 32)⟩,
  ⟨some 11, none, .mv (.t 33)⟩])
  (.seq (.seq (.reg [⟨some 34, none, .mv (.t 11)⟩,
  ⟨some 35, none, .bop .neq (.t 34) (.c (.i .i64 0))⟩])
  (.cond (.t 35) (.seq (.reg [⟨some 36, none, .mv (.t 11)⟩,
  ⟨some 8, none, .mv (.c (.i .i64 0))⟩,
  ⟨some 9, none, .mv (.t 36)⟩])
  .ret)
  .skip))
  (.seq (.seq (.reg [⟨some 38, none, .mv (.t 0)⟩,
  ⟨some 39, none, .mv (.t 3)⟩,
  ⟨some 40, none, .call 21 [(.t 38), (.t 39)]⟩,
  ⟨some 37, none, .mv (.t 40)⟩,
  ⟨some 41, none, .ex (.t 37) 0⟩,
  ⟨some 42, none, .ex (.t 37) 1⟩,
  ⟨some 13, none, .box 56 9 (.c (.ag [(.i .i64 0), (.i .i64 0), .sln, .sln, (.s []), (.b false), (.b false), .sln, .sln]))⟩,
  ⟨none, none, .st 9 (.t 13) (.t 41)⟩,
  ⟨some 14, none, .mv (.t 42)⟩])
  (.seq (.reg [⟨some 43, none, .mv (.t 14)⟩,
  ⟨some 44, none, .un .not (.t 43)⟩])
  (.cond (.t 44) (.seq (.reg [⟨some 45, none, .mv (.t 1)⟩,
  ⟨some 46, none, .mv (.t 12)⟩,
  ⟨some 47, none, .call 38 [(.t 45), (.t 46)]⟩])
  (.reg [⟨some 48, none, .mv (.t 10)⟩,
  ⟨some 49, none, .mv (.t 2)⟩,
  ⟨some 50, none, .mv (.t 12)⟩,
  ⟨some 51, none, .mv (.t 3)⟩,
  ⟨some 52, none, .call 25 [(.c (.s [110, 111, 112, 114, 111, 99]))]⟩,
  ⟨some 53, none, .call 8 [(.t 50), (.t 51), (.t 52)]⟩,
  ⟨some 54, none, .call 39 [(.t 48), (.t 49), (.t 53)]⟩]))
  .skip)))
  (.seq (.reg [⟨some 55, none, .mv (.t 12)⟩,
  ⟨some 8, none, .mv (.t 55)⟩,
  ⟨some 9, none, .mv (.c (.i .i64 0))⟩])
  .ret))))))))⟩

theorem irc15 : cFunc Tryz.prog Tryz.f15 = some ir15 := by kernel_rfl
def ir11 : XF := ⟨6, 0, [(0, none)], (.seq (.reg [⟨some 0, none, .mv (.c .pn)⟩])
  (.seq (.reg [⟨some 1, none, .mkm⟩,
  ⟨some 2, none, .mkm⟩,
  ⟨some 3, none, .mkm⟩,
  ⟨some 4, none, .bld [.mn, .mn, .mn, (.i .i64 0)] [(0, 1, (.t 1)), (1, 1, (.t 2)), (2, 1, (.t 3))]⟩,
  ⟨some 5, none, .box 79 4 (.t 4)⟩,
  ⟨some 0, none, .mv (.t 5)⟩])
  .ret))⟩

theorem irc11 : cFunc Tryz.prog Tryz.f11 = some ir11 := by kernel_rfl
def ir13 : XF := ⟨5, 0, [(0, none)], (.seq (.reg [⟨some 0, none, .mv (.c .pn)⟩])
  (.seq (.reg [⟨some 1, none, .mkm⟩,
  ⟨some 2, none, .mkm⟩,
  ⟨some 3, none, .bld [.mn, .mn, (.i .i64 0)] [(0, 1, (.t 1)), (1, 1, (.t 2))]⟩,
  ⟨some 4, none, .box 83 3 (.t 3)⟩,
  ⟨some 0, none, .mv (.t 4)⟩])
  .ret))⟩

theorem irc13 : cFunc Tryz.prog Tryz.f13 = some ir13 := by kernel_rfl
def tabI : Trie XF := (.nd (.nd (.nd (.nd (.nd (.nd .lf (some ir31) .lf) (some ir15) .lf) none .lf) none (.nd .lf (some ir11) .lf)) none (.nd .lf none (.nd .lf (some ir13) .lf))) none (.nd (.nd .lf none (.nd .lf (some ir12) .lf)) none (.nd (.nd .lf (some ir10) .lf) none (.nd .lf (some ir14) .lf))))
def tabL : List (Nat × XF) := [(10, ir10), (11, ir11), (12, ir12), (13, ir13), (14, ir14), (15, ir15), (31, ir31)]
theorem tabI_eq : tabI = ofList tabL := by kernel_rfl
theorem tabI_ok : TabOk Tryz.prog tabI := tab_of tabI_eq (by kernel_rfl) fun p hp => by
  simp only [tabL, List.mem_cons, List.not_mem_nil, or_false] at hp
  rcases hp with rfl | rfl | rfl | rfl | rfl | rfl | rfl
  · exact ⟨_, Tryz.func10, irc10⟩
  · exact ⟨_, Tryz.func11, irc11⟩
  · exact ⟨_, Tryz.func12, irc12⟩
  · exact ⟨_, Tryz.func13, irc13⟩
  · exact ⟨_, Tryz.func14, irc14⟩
  · exact ⟨_, Tryz.func15, irc15⟩
  · exact ⟨_, Tryz.func31, irc31⟩
abbrev cal : CallT := run mth tabI noOrc 1000 20
theorem pu_of {f : Nat} {fn : Func} {x : XF} (hfn : Tryz.prog.funcs[f]? = some fn) (hc : cFunc Tryz.prog fn = some x) {args : List TV} {pa : List PA} {v : TV} {obs : List Ob} (hx : funO 4 mth cal 1000 x args pa = some (v, obs)) (hv : v.flat = true) (ho : Owes Tryz.prog rho obs) : Pu f args v :=
  pu_of' tabI_ok hfn hc hx hv ho
theorem lp_more {x : IC} {ks : List Nat} {m : Nat} {e e2 e' : Trie TV} {t t2 t' : Trie TB} {n n' : Nat} {pa : List PA} {ex : EX} {obs : List Ob} (hx : bodyO 4 mth cal 1000 x ks m e t n pa = some (.nrm, e2, t2, obs)) (ho : Owes Tryz.prog rho obs) (hl : LoopC Tryz.prog rho x e2 t2 m ex e' t' n') : LoopC Tryz.prog rho x e t n ex e' t' n' :=
  lp_more' tabI_ok hx ho hl
theorem lp_end {x : IC} {ks : List Nat} {m : Nat} {e e2 : Trie TV} {t t2 : Trie TB} {n : Nat} {pa : List PA} {ex : EX} {obs : List Ob} (hx : bodyO 4 mth cal 1000 x ks m e t n pa = some (ex, e2, t2, obs)) (hne : ex ≠ .nrm) (ho : Owes Tryz.prog rho obs) : LoopC Tryz.prog rho x e t n ex e2 t2 m :=
  lp_end' tabI_ok hx hne ho
theorem si_0 (n m : Int) (x : Tr) (vwakes1 : Bool) : funO 4 mth cal 1000 ir3 [(.i .i64 n), (.i .i64 m), (.ag [(.i .i8 x.k), (.i .i64 x.n), (.s (nats x.s)), (.s (nats x.t)), (.es 25 (.r (rowsT x.l)))])] [.cl [.as] (.b true), .cl [] (.b (vwakes1))] = some ((.b (vwakes1)), [.call 5 [] (.b (vwakes1)), .eqb (freeL []) true, .call 4 [(.ag [(.i .i8 x.k), (.i .i64 x.n), (.s (nats x.s)), (.s (nats x.t)), (.es 25 (.r (rowsT x.l)))])] (.b true), .eqb (freeL []) true, .eqb (TV.free (.ag [(.i .i8 x.k), (.i .i64 x.n), (.s (nats x.s)), (.s (nats x.t)), (.es 25 (.r (rowsT x.l)))])) true]) := by kernel_rfl
theorem si_1 (n m : Int) (x : Tr) (vExited2 : Int) (vExited3 : Int) (vExited4 : List Nat) (vExited5 : List Nat) (vExited6 : List (List Dat)) (vExited8 : Int) (vExited9 : Int) (vExited10 : List Nat) (vExited11 : List Nat) (vExited12 : List (List Dat)) (vDown14 : Int) (vDown15 : Int) (vDown16 : List Nat) (vDown17 : List Nat) (vDown18 : List (List Dat)) (vDown20 : Int) (vDown21 : Int) (vDown22 : List Nat) (vDown23 : List Nat) (vDown24 : List (List Dat)) (vwakes1 : Bool) : funO 4 mth cal 1000 ir3 [(.i .i64 n), (.i .i64 m), (.ag [(.i .i8 x.k), (.i .i64 x.n), (.s (nats x.s)), (.s (nats x.t)), (.es 25 (.r (rowsT x.l)))])] [.cl [.as] (.b false), .cf [.as, .as] (.ag [(.i .i8 vExited2), (.i .i64 vExited3), (.s vExited4), (.s vExited5), (.es 25 (.r vExited6)), (.b true)]), .cf [.as, .as] (.ag [(.i .i8 vExited8), (.i .i64 vExited9), (.s vExited10), (.s vExited11), (.es 25 (.r vExited12)), (.b true)]), .cf [.as, .as, .as] (.ag [(.i .i8 vDown14), (.i .i64 vDown15), (.s vDown16), (.s vDown17), (.es 25 (.r vDown18)), (.b true)]), .cf [.as, .as, .as] (.ag [(.i .i8 vDown20), (.i .i64 vDown21), (.s vDown22), (.s vDown23), (.es 25 (.r vDown24)), (.b true)]), .go, .go, .go, .br true, .go, .go, .go, .br true, .go, .go, .br true, .go, .go, .go, .br true, .cl [.as, .as] (.b true), .cl [.as, .as] (.b true), .br true, .br true, .br true, .br true, .cl [] (.b (vwakes1))] = some ((.b (vwakes1)), [.call 5 [] (.b (vwakes1)), .eqb (freeL []) true, .eqb (decide (1 = 1)) true, .eqb (decide (1 = 1)) true, .eqb (decide (1 = 1)) true, .eqb (decide (1 = 1)) true, .call 16 [(.ag [(.i .i8 vDown14), (.i .i64 vDown15), (.s vDown16), (.s vDown17), (.es 25 (.r vDown18))]), (.ag [(.i .i8 vDown20), (.i .i64 vDown21), (.s vDown22), (.s vDown23), (.es 25 (.r vDown24))])] (.b true), .eqb (freeL []) true, .eqb (TV.free (.ag [(.i .i8 vDown20), (.i .i64 vDown21), (.s vDown22), (.s vDown23), (.es 25 (.r vDown24))])) true, .eqb (TV.free (.ag [(.i .i8 vDown14), (.i .i64 vDown15), (.s vDown16), (.s vDown17), (.es 25 (.r vDown18))])) true, .call 16 [(.ag [(.i .i8 vExited2), (.i .i64 vExited3), (.s vExited4), (.s vExited5), (.es 25 (.r vExited6))]), (.ag [(.i .i8 vExited8), (.i .i64 vExited9), (.s vExited10), (.s vExited11), (.es 25 (.r vExited12))])] (.b true), .eqb (freeL []) true, .eqb (TV.free (.ag [(.i .i8 vExited8), (.i .i64 vExited9), (.s vExited10), (.s vExited11), (.es 25 (.r vExited12))])) true, .eqb (TV.free (.ag [(.i .i8 vExited2), (.i .i64 vExited3), (.s vExited4), (.s vExited5), (.es 25 (.r vExited6))])) true, .eqb (!decide (1 = 0)) true, .eqb (!decide (1 = 0)) true, .eqb (decide (1 = 1)) true, .eqb (decide (1 = 1)) true, .call 9 [(.i .i64 n), (.i .i64 m), (.ag [(.i .i8 x.k), (.i .i64 x.n), (.s (nats x.s)), (.s (nats x.t)), (.es 25 (.r (rowsT x.l)))])] (.ag [(.i .i8 vDown20), (.i .i64 vDown21), (.s vDown22), (.s vDown23), (.es 25 (.r vDown24)), (.b true)]), .eqb (freeL []) true, .eqb (TV.free (.ag [(.i .i8 x.k), (.i .i64 x.n), (.s (nats x.s)), (.s (nats x.t)), (.es 25 (.r (rowsT x.l)))])) true, .eqb (TV.free (.i .i64 m)) true, .eqb (TV.free (.i .i64 n)) true, .call 8 [(.i .i64 n), (.i .i64 m), (.ag [(.i .i8 x.k), (.i .i64 x.n), (.s (nats x.s)), (.s (nats x.t)), (.es 25 (.r (rowsT x.l)))])] (.ag [(.i .i8 vDown14), (.i .i64 vDown15), (.s vDown16), (.s vDown17), (.es 25 (.r vDown18)), (.b true)]), .eqb (freeL []) true, .eqb (TV.free (.ag [(.i .i8 x.k), (.i .i64 x.n), (.s (nats x.s)), (.s (nats x.t)), (.es 25 (.r (rowsT x.l)))])) true, .eqb (TV.free (.i .i64 m)) true, .eqb (TV.free (.i .i64 n)) true, .call 7 [(.i .i64 n), (.ag [(.i .i8 x.k), (.i .i64 x.n), (.s (nats x.s)), (.s (nats x.t)), (.es 25 (.r (rowsT x.l)))])] (.ag [(.i .i8 vExited8), (.i .i64 vExited9), (.s vExited10), (.s vExited11), (.es 25 (.r vExited12)), (.b true)]), .eqb (freeL []) true, .eqb (TV.free (.ag [(.i .i8 x.k), (.i .i64 x.n), (.s (nats x.s)), (.s (nats x.t)), (.es 25 (.r (rowsT x.l)))])) true, .eqb (TV.free (.i .i64 n)) true, .call 6 [(.i .i64 n), (.ag [(.i .i8 x.k), (.i .i64 x.n), (.s (nats x.s)), (.s (nats x.t)), (.es 25 (.r (rowsT x.l)))])] (.ag [(.i .i8 vExited2), (.i .i64 vExited3), (.s vExited4), (.s vExited5), (.es 25 (.r vExited6)), (.b true)]), .eqb (freeL []) true, .eqb (TV.free (.ag [(.i .i8 x.k), (.i .i64 x.n), (.s (nats x.s)), (.s (nats x.t)), (.es 25 (.r (rowsT x.l)))])) true, .eqb (TV.free (.i .i64 n)) true, .call 4 [(.ag [(.i .i8 x.k), (.i .i64 x.n), (.s (nats x.s)), (.s (nats x.t)), (.es 25 (.r (rowsT x.l)))])] (.b false), .eqb (freeL []) true, .eqb (TV.free (.ag [(.i .i8 x.k), (.i .i64 x.n), (.s (nats x.s)), (.s (nats x.t)), (.es 25 (.r (rowsT x.l)))])) true]) := by kernel_rfl
theorem si_2 (n m : Int) (x : Tr) (vExited2 : Int) (vExited3 : Int) (vExited4 : List Nat) (vExited5 : List Nat) (vExited6 : List (List Dat)) (vExited8 : Int) (vExited9 : Int) (vExited10 : List Nat) (vExited11 : List Nat) (vExited12 : List (List Dat)) (vDown14 : Int) (vDown15 : Int) (vDown16 : List Nat) (vDown17 : List Nat) (vDown18 : List (List Dat)) (vDown20 : Int) (vDown21 : Int) (vDown22 : List Nat) (vDown23 : List Nat) (vDown24 : List (List Dat)) : funO 4 mth cal 1000 ir3 [(.i .i64 n), (.i .i64 m), (.ag [(.i .i8 x.k), (.i .i64 x.n), (.s (nats x.s)), (.s (nats x.t)), (.es 25 (.r (rowsT x.l)))])] [.cl [.as] (.b false), .cf [.as, .as] (.ag [(.i .i8 vExited2), (.i .i64 vExited3), (.s vExited4), (.s vExited5), (.es 25 (.r vExited6)), (.b true)]), .cf [.as, .as] (.ag [(.i .i8 vExited8), (.i .i64 vExited9), (.s vExited10), (.s vExited11), (.es 25 (.r vExited12)), (.b true)]), .cf [.as, .as, .as] (.ag [(.i .i8 vDown14), (.i .i64 vDown15), (.s vDown16), (.s vDown17), (.es 25 (.r vDown18)), (.b true)]), .cf [.as, .as, .as] (.ag [(.i .i8 vDown20), (.i .i64 vDown21), (.s vDown22), (.s vDown23), (.es 25 (.r vDown24)), (.b true)]), .go, .go, .go, .br true, .go, .go, .go, .br true, .go, .go, .br true, .go, .go, .go, .br true, .cl [.as, .as] (.b true), .cl [.as, .as] (.b false)] = some ((.b false), [.call 16 [(.ag [(.i .i8 vDown14), (.i .i64 vDown15), (.s vDown16), (.s vDown17), (.es 25 (.r vDown18))]), (.ag [(.i .i8 vDown20), (.i .i64 vDown21), (.s vDown22), (.s vDown23), (.es 25 (.r vDown24))])] (.b false), .eqb (freeL []) true, .eqb (TV.free (.ag [(.i .i8 vDown20), (.i .i64 vDown21), (.s vDown22), (.s vDown23), (.es 25 (.r vDown24))])) true, .eqb (TV.free (.ag [(.i .i8 vDown14), (.i .i64 vDown15), (.s vDown16), (.s vDown17), (.es 25 (.r vDown18))])) true, .call 16 [(.ag [(.i .i8 vExited2), (.i .i64 vExited3), (.s vExited4), (.s vExited5), (.es 25 (.r vExited6))]), (.ag [(.i .i8 vExited8), (.i .i64 vExited9), (.s vExited10), (.s vExited11), (.es 25 (.r vExited12))])] (.b true), .eqb (freeL []) true, .eqb (TV.free (.ag [(.i .i8 vExited8), (.i .i64 vExited9), (.s vExited10), (.s vExited11), (.es 25 (.r vExited12))])) true, .eqb (TV.free (.ag [(.i .i8 vExited2), (.i .i64 vExited3), (.s vExited4), (.s vExited5), (.es 25 (.r vExited6))])) true, .eqb (!decide (1 = 0)) true, .eqb (!decide (1 = 0)) true, .eqb (decide (1 = 1)) true, .eqb (decide (1 = 1)) true, .call 9 [(.i .i64 n), (.i .i64 m), (.ag [(.i .i8 x.k), (.i .i64 x.n), (.s (nats x.s)), (.s (nats x.t)), (.es 25 (.r (rowsT x.l)))])] (.ag [(.i .i8 vDown20), (.i .i64 vDown21), (.s vDown22), (.s vDown23), (.es 25 (.r vDown24)), (.b true)]), .eqb (freeL []) true, .eqb (TV.free (.ag [(.i .i8 x.k), (.i .i64 x.n), (.s (nats x.s)), (.s (nats x.t)), (.es 25 (.r (rowsT x.l)))])) true, .eqb (TV.free (.i .i64 m)) true, .eqb (TV.free (.i .i64 n)) true, .call 8 [(.i .i64 n), (.i .i64 m), (.ag [(.i .i8 x.k), (.i .i64 x.n), (.s (nats x.s)), (.s (nats x.t)), (.es 25 (.r (rowsT x.l)))])] (.ag [(.i .i8 vDown14), (.i .i64 vDown15), (.s vDown16), (.s vDown17), (.es 25 (.r vDown18)), (.b true)]), .eqb (freeL []) true, .eqb (TV.free (.ag [(.i .i8 x.k), (.i .i64 x.n), (.s (nats x.s)), (.s (nats x.t)), (.es 25 (.r (rowsT x.l)))])) true, .eqb (TV.free (.i .i64 m)) true, .eqb (TV.free (.i .i64 n)) true, .call 7 [(.i .i64 n), (.ag [(.i .i8 x.k), (.i .i64 x.n), (.s (nats x.s)), (.s (nats x.t)), (.es 25 (.r (rowsT x.l)))])] (.ag [(.i .i8 vExited8), (.i .i64 vExited9), (.s vExited10), (.s vExited11), (.es 25 (.r vExited12)), (.b true)]), .eqb (freeL []) true, .eqb (TV.free (.ag [(.i .i8 x.k), (.i .i64 x.n), (.s (nats x.s)), (.s (nats x.t)), (.es 25 (.r (rowsT x.l)))])) true, .eqb (TV.free (.i .i64 n)) true, .call 6 [(.i .i64 n), (.ag [(.i .i8 x.k), (.i .i64 x.n), (.s (nats x.s)), (.s (nats x.t)), (.es 25 (.r (rowsT x.l)))])] (.ag [(.i .i8 vExited2), (.i .i64 vExited3), (.s vExited4), (.s vExited5), (.es 25 (.r vExited6)), (.b true)]), .eqb (freeL []) true, .eqb (TV.free (.ag [(.i .i8 x.k), (.i .i64 x.n), (.s (nats x.s)), (.s (nats x.t)), (.es 25 (.r (rowsT x.l)))])) true, .eqb (TV.free (.i .i64 n)) true, .call 4 [(.ag [(.i .i8 x.k), (.i .i64 x.n), (.s (nats x.s)), (.s (nats x.t)), (.es 25 (.r (rowsT x.l)))])] (.b false), .eqb (freeL []) true, .eqb (TV.free (.ag [(.i .i8 x.k), (.i .i64 x.n), (.s (nats x.s)), (.s (nats x.t)), (.es 25 (.r (rowsT x.l)))])) true]) := by kernel_rfl
theorem si_3 (n m : Int) (x : Tr) (vExited2 : Int) (vExited3 : Int) (vExited4 : List Nat) (vExited5 : List Nat) (vExited6 : List (List Dat)) (vExited8 : Int) (vExited9 : Int) (vExited10 : List Nat) (vExited11 : List Nat) (vExited12 : List (List Dat)) (vDown14 : Int) (vDown15 : Int) (vDown16 : List Nat) (vDown17 : List Nat) (vDown18 : List (List Dat)) (vDown20 : Int) (vDown21 : Int) (vDown22 : List Nat) (vDown23 : List Nat) (vDown24 : List (List Dat)) : funO 4 mth cal 1000 ir3 [(.i .i64 n), (.i .i64 m), (.ag [(.i .i8 x.k), (.i .i64 x.n), (.s (nats x.s)), (.s (nats x.t)), (.es 25 (.r (rowsT x.l)))])] [.cl [.as] (.b false), .cf [.as, .as] (.ag [(.i .i8 vExited2), (.i .i64 vExited3), (.s vExited4), (.s vExited5), (.es 25 (.r vExited6)), (.b true)]), .cf [.as, .as] (.ag [(.i .i8 vExited8), (.i .i64 vExited9), (.s vExited10), (.s vExited11), (.es 25 (.r vExited12)), (.b true)]), .cf [.as, .as, .as] (.ag [(.i .i8 vDown14), (.i .i64 vDown15), (.s vDown16), (.s vDown17), (.es 25 (.r vDown18)), (.b true)]), .cf [.as, .as, .as] (.ag [(.i .i8 vDown20), (.i .i64 vDown21), (.s vDown22), (.s vDown23), (.es 25 (.r vDown24)), (.b true)]), .go, .go, .go, .br true, .go, .go, .go, .br true, .go, .go, .br true, .go, .go, .go, .br true, .cl [.as, .as] (.b false)] = some ((.b false), [.call 16 [(.ag [(.i .i8 vExited2), (.i .i64 vExited3), (.s vExited4), (.s vExited5), (.es 25 (.r vExited6))]), (.ag [(.i .i8 vExited8), (.i .i64 vExited9), (.s vExited10), (.s vExited11), (.es 25 (.r vExited12))])] (.b false), .eqb (freeL []) true, .eqb (TV.free (.ag [(.i .i8 vExited8), (.i .i64 vExited9), (.s vExited10), (.s vExited11), (.es 25 (.r vExited12))])) true, .eqb (TV.free (.ag [(.i .i8 vExited2), (.i .i64 vExited3), (.s vExited4), (.s vExited5), (.es 25 (.r vExited6))])) true, .eqb (!decide (1 = 0)) true, .eqb (!decide (1 = 0)) true, .eqb (decide (1 = 1)) true, .eqb (decide (1 = 1)) true, .call 9 [(.i .i64 n), (.i .i64 m), (.ag [(.i .i8 x.k), (.i .i64 x.n), (.s (nats x.s)), (.s (nats x.t)), (.es 25 (.r (rowsT x.l)))])] (.ag [(.i .i8 vDown20), (.i .i64 vDown21), (.s vDown22), (.s vDown23), (.es 25 (.r vDown24)), (.b true)]), .eqb (freeL []) true, .eqb (TV.free (.ag [(.i .i8 x.k), (.i .i64 x.n), (.s (nats x.s)), (.s (nats x.t)), (.es 25 (.r (rowsT x.l)))])) true, .eqb (TV.free (.i .i64 m)) true, .eqb (TV.free (.i .i64 n)) true, .call 8 [(.i .i64 n), (.i .i64 m), (.ag [(.i .i8 x.k), (.i .i64 x.n), (.s (nats x.s)), (.s (nats x.t)), (.es 25 (.r (rowsT x.l)))])] (.ag [(.i .i8 vDown14), (.i .i64 vDown15), (.s vDown16), (.s vDown17), (.es 25 (.r vDown18)), (.b true)]), .eqb (freeL []) true, .eqb (TV.free (.ag [(.i .i8 x.k), (.i .i64 x.n), (.s (nats x.s)), (.s (nats x.t)), (.es 25 (.r (rowsT x.l)))])) true, .eqb (TV.free (.i .i64 m)) true, .eqb (TV.free (.i .i64 n)) true, .call 7 [(.i .i64 n), (.ag [(.i .i8 x.k), (.i .i64 x.n), (.s (nats x.s)), (.s (nats x.t)), (.es 25 (.r (rowsT x.l)))])] (.ag [(.i .i8 vExited8), (.i .i64 vExited9), (.s vExited10), (.s vExited11), (.es 25 (.r vExited12)), (.b true)]), .eqb (freeL []) true, .eqb (TV.free (.ag [(.i .i8 x.k), (.i .i64 x.n), (.s (nats x.s)), (.s (nats x.t)), (.es 25 (.r (rowsT x.l)))])) true, .eqb (TV.free (.i .i64 n)) true, .call 6 [(.i .i64 n), (.ag [(.i .i8 x.k), (.i .i64 x.n), (.s (nats x.s)), (.s (nats x.t)), (.es 25 (.r (rowsT x.l)))])] (.ag [(.i .i8 vExited2), (.i .i64 vExited3), (.s vExited4), (.s vExited5), (.es 25 (.r vExited6)), (.b true)]), .eqb (freeL []) true, .eqb (TV.free (.ag [(.i .i8 x.k), (.i .i64 x.n), (.s (nats x.s)), (.s (nats x.t)), (.es 25 (.r (rowsT x.l)))])) true, .eqb (TV.free (.i .i64 n)) true, .call 4 [(.ag [(.i .i8 x.k), (.i .i64 x.n), (.s (nats x.s)), (.s (nats x.t)), (.es 25 (.r (rowsT x.l)))])] (.b false), .eqb (freeL []) true, .eqb (TV.free (.ag [(.i .i8 x.k), (.i .i64 x.n), (.s (nats x.s)), (.s (nats x.t)), (.es 25 (.r (rowsT x.l)))])) true]) := by kernel_rfl
theorem si_4 (n m : Int) (x : Tr) (vExited2 : Int) (vExited3 : Int) (vExited4 : List Nat) (vExited5 : List Nat) (vExited6 : List (List Dat)) (vExited8 : Int) (vExited9 : Int) (vExited10 : List Nat) (vExited11 : List Nat) (vExited12 : List (List Dat)) (vDown14 : Int) (vDown15 : Int) (vDown16 : List Nat) (vDown17 : List Nat) (vDown18 : List (List Dat)) (vDown20 : Int) (vDown21 : Int) (vDown22 : List Nat) (vDown23 : List Nat) (vDown24 : List (List Dat)) : funO 4 mth cal 1000 ir3 [(.i .i64 n), (.i .i64 m), (.ag [(.i .i8 x.k), (.i .i64 x.n), (.s (nats x.s)), (.s (nats x.t)), (.es 25 (.r (rowsT x.l)))])] [.cl [.as] (.b false), .cf [.as, .as] (.ag [(.i .i8 vExited2), (.i .i64 vExited3), (.s vExited4), (.s vExited5), (.es 25 (.r vExited6)), (.b true)]), .cf [.as, .as] (.ag [(.i .i8 vExited8), (.i .i64 vExited9), (.s vExited10), (.s vExited11), (.es 25 (.r vExited12)), (.b true)]), .cf [.as, .as, .as] (.ag [(.i .i8 vDown14), (.i .i64 vDown15), (.s vDown16), (.s vDown17), (.es 25 (.r vDown18)), (.b true)]), .cf [.as, .as, .as] (.ag [(.i .i8 vDown20), (.i .i64 vDown21), (.s vDown22), (.s vDown23), (.es 25 (.r vDown24)), (.b false)]), .go, .go, .go, .br true, .go, .go, .go, .br true, .go, .go, .br true, .go, .go, .go, .br true] = some ((.b false), [.eqb (!decide (1 = 0)) true, .eqb (!decide (1 = 0)) true, .eqb (decide (1 = 1)) true, .eqb (decide (1 = 1)) true, .call 9 [(.i .i64 n), (.i .i64 m), (.ag [(.i .i8 x.k), (.i .i64 x.n), (.s (nats x.s)), (.s (nats x.t)), (.es 25 (.r (rowsT x.l)))])] (.ag [(.i .i8 vDown20), (.i .i64 vDown21), (.s vDown22), (.s vDown23), (.es 25 (.r vDown24)), (.b false)]), .eqb (freeL []) true, .eqb (TV.free (.ag [(.i .i8 x.k), (.i .i64 x.n), (.s (nats x.s)), (.s (nats x.t)), (.es 25 (.r (rowsT x.l)))])) true, .eqb (TV.free (.i .i64 m)) true, .eqb (TV.free (.i .i64 n)) true, .call 8 [(.i .i64 n), (.i .i64 m), (.ag [(.i .i8 x.k), (.i .i64 x.n), (.s (nats x.s)), (.s (nats x.t)), (.es 25 (.r (rowsT x.l)))])] (.ag [(.i .i8 vDown14), (.i .i64 vDown15), (.s vDown16), (.s vDown17), (.es 25 (.r vDown18)), (.b true)]), .eqb (freeL []) true, .eqb (TV.free (.ag [(.i .i8 x.k), (.i .i64 x.n), (.s (nats x.s)), (.s (nats x.t)), (.es 25 (.r (rowsT x.l)))])) true, .eqb (TV.free (.i .i64 m)) true, .eqb (TV.free (.i .i64 n)) true, .call 7 [(.i .i64 n), (.ag [(.i .i8 x.k), (.i .i64 x.n), (.s (nats x.s)), (.s (nats x.t)), (.es 25 (.r (rowsT x.l)))])] (.ag [(.i .i8 vExited8), (.i .i64 vExited9), (.s vExited10), (.s vExited11), (.es 25 (.r vExited12)), (.b true)]), .eqb (freeL []) true, .eqb (TV.free (.ag [(.i .i8 x.k), (.i .i64 x.n), (.s (nats x.s)), (.s (nats x.t)), (.es 25 (.r (rowsT x.l)))])) true, .eqb (TV.free (.i .i64 n)) true, .call 6 [(.i .i64 n), (.ag [(.i .i8 x.k), (.i .i64 x.n), (.s (nats x.s)), (.s (nats x.t)), (.es 25 (.r (rowsT x.l)))])] (.ag [(.i .i8 vExited2), (.i .i64 vExited3), (.s vExited4), (.s vExited5), (.es 25 (.r vExited6)), (.b true)]), .eqb (freeL []) true, .eqb (TV.free (.ag [(.i .i8 x.k), (.i .i64 x.n), (.s (nats x.s)), (.s (nats x.t)), (.es 25 (.r (rowsT x.l)))])) true, .eqb (TV.free (.i .i64 n)) true, .call 4 [(.ag [(.i .i8 x.k), (.i .i64 x.n), (.s (nats x.s)), (.s (nats x.t)), (.es 25 (.r (rowsT x.l)))])] (.b false), .eqb (freeL []) true, .eqb (TV.free (.ag [(.i .i8 x.k), (.i .i64 x.n), (.s (nats x.s)), (.s (nats x.t)), (.es 25 (.r (rowsT x.l)))])) true]) := by kernel_rfl
theorem si_5 (n m : Int) (x : Tr) (vExited2 : Int) (vExited3 : Int) (vExited4 : List Nat) (vExited5 : List Nat) (vExited6 : List (List Dat)) (vExited8 : Int) (vExited9 : Int) (vExited10 : List Nat) (vExited11 : List Nat) (vExited12 : List (List Dat)) (vDown14 : Int) (vDown15 : Int) (vDown16 : List Nat) (vDown17 : List Nat) (vDown18 : List (List Dat)) (vDown20 : Int) (vDown21 : Int) (vDown22 : List Nat) (vDown23 : List Nat) (vDown24 : List (List Dat)) (vDown25 : Bool) : funO 4 mth cal 1000 ir3 [(.i .i64 n), (.i .i64 m), (.ag [(.i .i8 x.k), (.i .i64 x.n), (.s (nats x.s)), (.s (nats x.t)), (.es 25 (.r (rowsT x.l)))])] [.cl [.as] (.b false), .cf [.as, .as] (.ag [(.i .i8 vExited2), (.i .i64 vExited3), (.s vExited4), (.s vExited5), (.es 25 (.r vExited6)), (.b true)]), .cf [.as, .as] (.ag [(.i .i8 vExited8), (.i .i64 vExited9), (.s vExited10), (.s vExited11), (.es 25 (.r vExited12)), (.b true)]), .cf [.as, .as, .as] (.ag [(.i .i8 vDown14), (.i .i64 vDown15), (.s vDown16), (.s vDown17), (.es 25 (.r vDown18)), (.b false)]), .cf [.as, .as, .as] (.ag [(.i .i8 vDown20), (.i .i64 vDown21), (.s vDown22), (.s vDown23), (.es 25 (.r vDown24)), (.b (vDown25))]), .go, .go, .go, .br true, .go, .go, .go, .br true, .go, .go, .br true, .go, .go, .go, .br true] = some ((.b false), [.eqb (!decide (1 = 0)) true, .eqb (!decide (1 = 0)) true, .eqb (decide (1 = 1)) true, .eqb (decide (1 = 1)) true, .call 9 [(.i .i64 n), (.i .i64 m), (.ag [(.i .i8 x.k), (.i .i64 x.n), (.s (nats x.s)), (.s (nats x.t)), (.es 25 (.r (rowsT x.l)))])] (.ag [(.i .i8 vDown20), (.i .i64 vDown21), (.s vDown22), (.s vDown23), (.es 25 (.r vDown24)), (.b (vDown25))]), .eqb (freeL []) true, .eqb (TV.free (.ag [(.i .i8 x.k), (.i .i64 x.n), (.s (nats x.s)), (.s (nats x.t)), (.es 25 (.r (rowsT x.l)))])) true, .eqb (TV.free (.i .i64 m)) true, .eqb (TV.free (.i .i64 n)) true, .call 8 [(.i .i64 n), (.i .i64 m), (.ag [(.i .i8 x.k), (.i .i64 x.n), (.s (nats x.s)), (.s (nats x.t)), (.es 25 (.r (rowsT x.l)))])] (.ag [(.i .i8 vDown14), (.i .i64 vDown15), (.s vDown16), (.s vDown17), (.es 25 (.r vDown18)), (.b false)]), .eqb (freeL []) true, .eqb (TV.free (.ag [(.i .i8 x.k), (.i .i64 x.n), (.s (nats x.s)), (.s (nats x.t)), (.es 25 (.r (rowsT x.l)))])) true, .eqb (TV.free (.i .i64 m)) true, .eqb (TV.free (.i .i64 n)) true, .call 7 [(.i .i64 n), (.ag [(.i .i8 x.k), (.i .i64 x.n), (.s (nats x.s)), (.s (nats x.t)), (.es 25 (.r (rowsT x.l)))])] (.ag [(.i .i8 vExited8), (.i .i64 vExited9), (.s vExited10), (.s vExited11), (.es 25 (.r vExited12)), (.b true)]), .eqb (freeL []) true, .eqb (TV.free (.ag [(.i .i8 x.k), (.i .i64 x.n), (.s (nats x.s)), (.s (nats x.t)), (.es 25 (.r (rowsT x.l)))])) true, .eqb (TV.free (.i .i64 n)) true, .call 6 [(.i .i64 n), (.ag [(.i .i8 x.k), (.i .i64 x.n), (.s (nats x.s)), (.s (nats x.t)), (.es 25 (.r (rowsT x.l)))])] (.ag [(.i .i8 vExited2), (.i .i64 vExited3), (.s vExited4), (.s vExited5), (.es 25 (.r vExited6)), (.b true)]), .eqb (freeL []) true, .eqb (TV.free (.ag [(.i .i8 x.k), (.i .i64 x.n), (.s (nats x.s)), (.s (nats x.t)), (.es 25 (.r (rowsT x.l)))])) true, .eqb (TV.free (.i .i64 n)) true, .call 4 [(.ag [(.i .i8 x.k), (.i .i64 x.n), (.s (nats x.s)), (.s (nats x.t)), (.es 25 (.r (rowsT x.l)))])] (.b false), .eqb (freeL []) true, .eqb (TV.free (.ag [(.i .i8 x.k), (.i .i64 x.n), (.s (nats x.s)), (.s (nats x.t)), (.es 25 (.r (rowsT x.l)))])) true]) := by kernel_rfl
theorem si_6 (n m : Int) (x : Tr) (vExited2 : Int) (vExited3 : Int) (vExited4 : List Nat) (vExited5 : List Nat) (vExited6 : List (List Dat)) (vExited8 : Int) (vExited9 : Int) (vExited10 : List Nat) (vExited11 : List Nat) (vExited12 : List (List Dat)) (vDown14 : Int) (vDown15 : Int) (vDown16 : List Nat) (vDown17 : List Nat) (vDown18 : List (List Dat)) (vDown20 : Int) (vDown21 : Int) (vDown22 : List Nat) (vDown23 : List Nat) (vDown24 : List (List Dat)) (vDown25 : Bool) : funO 4 mth cal 1000 ir3 [(.i .i64 n), (.i .i64 m), (.ag [(.i .i8 x.k), (.i .i64 x.n), (.s (nats x.s)), (.s (nats x.t)), (.es 25 (.r (rowsT x.l)))])] [.cl [.as] (.b false), .cf [.as, .as] (.ag [(.i .i8 vExited2), (.i .i64 vExited3), (.s vExited4), (.s vExited5), (.es 25 (.r vExited6)), (.b true)]), .cf [.as, .as] (.ag [(.i .i8 vExited8), (.i .i64 vExited9), (.s vExited10), (.s vExited11), (.es 25 (.r vExited12)), (.b false)]), .cf [.as, .as, .as] (.ag [(.i .i8 vDown14), (.i .i64 vDown15), (.s vDown16), (.s vDown17), (.es 25 (.r vDown18)), (.b true)]), .cf [.as, .as, .as] (.ag [(.i .i8 vDown20), (.i .i64 vDown21), (.s vDown22), (.s vDown23), (.es 25 (.r vDown24)), (.b (vDown25))]), .go, .go, .go, .br true, .go, .go, .go, .br true, .go, .go, .br true, .go, .go, .go, .br true] = some ((.b false), [.eqb (!decide (1 = 0)) true, .eqb (!decide (1 = 0)) true, .eqb (decide (1 = 1)) true, .eqb (decide (1 = 1)) true, .call 9 [(.i .i64 n), (.i .i64 m), (.ag [(.i .i8 x.k), (.i .i64 x.n), (.s (nats x.s)), (.s (nats x.t)), (.es 25 (.r (rowsT x.l)))])] (.ag [(.i .i8 vDown20), (.i .i64 vDown21), (.s vDown22), (.s vDown23), (.es 25 (.r vDown24)), (.b (vDown25))]), .eqb (freeL []) true, .eqb (TV.free (.ag [(.i .i8 x.k), (.i .i64 x.n), (.s (nats x.s)), (.s (nats x.t)), (.es 25 (.r (rowsT x.l)))])) true, .eqb (TV.free (.i .i64 m)) true, .eqb (TV.free (.i .i64 n)) true, .call 8 [(.i .i64 n), (.i .i64 m), (.ag [(.i .i8 x.k), (.i .i64 x.n), (.s (nats x.s)), (.s (nats x.t)), (.es 25 (.r (rowsT x.l)))])] (.ag [(.i .i8 vDown14), (.i .i64 vDown15), (.s vDown16), (.s vDown17), (.es 25 (.r vDown18)), (.b true)]), .eqb (freeL []) true, .eqb (TV.free (.ag [(.i .i8 x.k), (.i .i64 x.n), (.s (nats x.s)), (.s (nats x.t)), (.es 25 (.r (rowsT x.l)))])) true, .eqb (TV.free (.i .i64 m)) true, .eqb (TV.free (.i .i64 n)) true, .call 7 [(.i .i64 n), (.ag [(.i .i8 x.k), (.i .i64 x.n), (.s (nats x.s)), (.s (nats x.t)), (.es 25 (.r (rowsT x.l)))])] (.ag [(.i .i8 vExited8), (.i .i64 vExited9), (.s vExited10), (.s vExited11), (.es 25 (.r vExited12)), (.b false)]), .eqb (freeL []) true, .eqb (TV.free (.ag [(.i .i8 x.k), (.i .i64 x.n), (.s (nats x.s)), (.s (nats x.t)), (.es 25 (.r (rowsT x.l)))])) true, .eqb (TV.free (.i .i64 n)) true, .call 6 [(.i .i64 n), (.ag [(.i .i8 x.k), (.i .i64 x.n), (.s (nats x.s)), (.s (nats x.t)), (.es 25 (.r (rowsT x.l)))])] (.ag [(.i .i8 vExited2), (.i .i64 vExited3), (.s vExited4), (.s vExited5), (.es 25 (.r vExited6)), (.b true)]), .eqb (freeL []) true, .eqb (TV.free (.ag [(.i .i8 x.k), (.i .i64 x.n), (.s (nats x.s)), (.s (nats x.t)), (.es 25 (.r (rowsT x.l)))])) true, .eqb (TV.free (.i .i64 n)) true, .call 4 [(.ag [(.i .i8 x.k), (.i .i64 x.n), (.s (nats x.s)), (.s (nats x.t)), (.es 25 (.r (rowsT x.l)))])] (.b false), .eqb (freeL []) true, .eqb (TV.free (.ag [(.i .i8 x.k), (.i .i64 x.n), (.s (nats x.s)), (.s (nats x.t)), (.es 25 (.r (rowsT x.l)))])) true]) := by kernel_rfl
theorem si_7 (n m : Int) (x : Tr) (vExited2 : Int) (vExited3 : Int) (vExited4 : List Nat) (vExited5 : List Nat) (vExited6 : List (List Dat)) (vExited8 : Int) (vExited9 : Int) (vExited10 : List Nat) (vExited11 : List Nat) (vExited12 : List (List Dat)) (vDown14 : Int) (vDown15 : Int) (vDown16 : List Nat) (vDown17 : List Nat) (vDown18 : List (List Dat)) (vDown20 : Int) (vDown21 : Int) (vDown22 : List Nat) (vDown23 : List Nat) (vDown24 : List (List Dat)) (vDown25 : Bool) : funO 4 mth cal 1000 ir3 [(.i .i64 n), (.i .i64 m), (.ag [(.i .i8 x.k), (.i .i64 x.n), (.s (nats x.s)), (.s (nats x.t)), (.es 25 (.r (rowsT x.l)))])] [.cl [.as] (.b false), .cf [.as, .as] (.ag [(.i .i8 vExited2), (.i .i64 vExited3), (.s vExited4), (.s vExited5), (.es 25 (.r vExited6)), (.b true)]), .cf [.as, .as] (.ag [(.i .i8 vExited8), (.i .i64 vExited9), (.s vExited10), (.s vExited11), (.es 25 (.r vExited12)), (.b false)]), .cf [.as, .as, .as] (.ag [(.i .i8 vDown14), (.i .i64 vDown15), (.s vDown16), (.s vDown17), (.es 25 (.r vDown18)), (.b false)]), .cf [.as, .as, .as] (.ag [(.i .i8 vDown20), (.i .i64 vDown21), (.s vDown22), (.s vDown23), (.es 25 (.r vDown24)), (.b (vDown25))]), .go, .go, .go, .br true, .go, .go, .go, .br true, .go, .go, .br true, .go, .go, .go, .br true] = some ((.b false), [.eqb (!decide (1 = 0)) true, .eqb (!decide (1 = 0)) true, .eqb (decide (1 = 1)) true, .eqb (decide (1 = 1)) true, .call 9 [(.i .i64 n), (.i .i64 m), (.ag [(.i .i8 x.k), (.i .i64 x.n), (.s (nats x.s)), (.s (nats x.t)), (.es 25 (.r (rowsT x.l)))])] (.ag [(.i .i8 vDown20), (.i .i64 vDown21), (.s vDown22), (.s vDown23), (.es 25 (.r vDown24)), (.b (vDown25))]), .eqb (freeL []) true, .eqb (TV.free (.ag [(.i .i8 x.k), (.i .i64 x.n), (.s (nats x.s)), (.s (nats x.t)), (.es 25 (.r (rowsT x.l)))])) true, .eqb (TV.free (.i .i64 m)) true, .eqb (TV.free (.i .i64 n)) true, .call 8 [(.i .i64 n), (.i .i64 m), (.ag [(.i .i8 x.k), (.i .i64 x.n), (.s (nats x.s)), (.s (nats x.t)), (.es 25 (.r (rowsT x.l)))])] (.ag [(.i .i8 vDown14), (.i .i64 vDown15), (.s vDown16), (.s vDown17), (.es 25 (.r vDown18)), (.b false)]), .eqb (freeL []) true, .eqb (TV.free (.ag [(.i .i8 x.k), (.i .i64 x.n), (.s (nats x.s)), (.s (nats x.t)), (.es 25 (.r (rowsT x.l)))])) true, .eqb (TV.free (.i .i64 m)) true, .eqb (TV.free (.i .i64 n)) true, .call 7 [(.i .i64 n), (.ag [(.i .i8 x.k), (.i .i64 x.n), (.s (nats x.s)), (.s (nats x.t)), (.es 25 (.r (rowsT x.l)))])] (.ag [(.i .i8 vExited8), (.i .i64 vExited9), (.s vExited10), (.s vExited11), (.es 25 (.r vExited12)), (.b false)]), .eqb (freeL []) true, .eqb (TV.free (.ag [(.i .i8 x.k), (.i .i64 x.n), (.s (nats x.s)), (.s (nats x.t)), (.es 25 (.r (rowsT x.l)))])) true, .eqb (TV.free (.i .i64 n)) true, .call 6 [(.i .i64 n), (.ag [(.i .i8 x.k), (.i .i64 x.n), (.s (nats x.s)), (.s (nats x.t)), (.es 25 (.r (rowsT x.l)))])] (.ag [(.i .i8 vExited2), (.i .i64 vExited3), (.s vExited4), (.s vExited5), (.es 25 (.r vExited6)), (.b true)]), .eqb (freeL []) true, .eqb (TV.free (.ag [(.i .i8 x.k), (.i .i64 x.n), (.s (nats x.s)), (.s (nats x.t)), (.es 25 (.r (rowsT x.l)))])) true, .eqb (TV.free (.i .i64 n)) true, .call 4 [(.ag [(.i .i8 x.k), (.i .i64 x.n), (.s (nats x.s)), (.s (nats x.t)), (.es 25 (.r (rowsT x.l)))])] (.b false), .eqb (freeL []) true, .eqb (TV.free (.ag [(.i .i8 x.k), (.i .i64 x.n), (.s (nats x.s)), (.s (nats x.t)), (.es 25 (.r (rowsT x.l)))])) true]) := by kernel_rfl
theorem si_8 (n m : Int) (x : Tr) (vExited2 : Int) (vExited3 : Int) (vExited4 : List Nat) (vExited5 : List Nat) (vExited6 : List (List Dat)) (vExited8 : Int) (vExited9 : Int) (vExited10 : List Nat) (vExited11 : List Nat) (vExited12 : List (List Dat)) (vExited13 : Bool) (vDown14 : Int) (vDown15 : Int) (vDown16 : List Nat) (vDown17 : List Nat) (vDown18 : List (List Dat)) (vDown20 : Int) (vDown21 : Int) (vDown22 : List Nat) (vDown23 : List Nat) (vDown24 : List (List Dat)) (vDown25 : Bool) : funO 4 mth cal 1000 ir3 [(.i .i64 n), (.i .i64 m), (.ag [(.i .i8 x.k), (.i .i64 x.n), (.s (nats x.s)), (.s (nats x.t)), (.es 25 (.r (rowsT x.l)))])] [.cl [.as] (.b false), .cf [.as, .as] (.ag [(.i .i8 vExited2), (.i .i64 vExited3), (.s vExited4), (.s vExited5), (.es 25 (.r vExited6)), (.b true)]), .cf [.as, .as] (.ag [(.i .i8 vExited8), (.i .i64 vExited9), (.s vExited10), (.s vExited11), (.es 25 (.r vExited12)), (.b (vExited13))]), .cf [.as, .as, .as] (.ag [(.i .i8 vDown14), (.i .i64 vDown15), (.s vDown16), (.s vDown17), (.es 25 (.r vDown18)), (.b false)]), .cf [.as, .as, .as] (.ag [(.i .i8 vDown20), (.i .i64 vDown21), (.s vDown22), (.s vDown23), (.es 25 (.r vDown24)), (.b (vDown25))]), .go, .go, .go, .br true, .go, .go, .go, .br true, .go, .go, .br true, .go, .go, .go, .br true] = some ((.b false), [.eqb (!decide (1 = 0)) true, .eqb (!decide (1 = 0)) true, .eqb (decide (1 = 1)) true, .eqb (decide (1 = 1)) true, .call 9 [(.i .i64 n), (.i .i64 m), (.ag [(.i .i8 x.k), (.i .i64 x.n), (.s (nats x.s)), (.s (nats x.t)), (.es 25 (.r (rowsT x.l)))])] (.ag [(.i .i8 vDown20), (.i .i64 vDown21), (.s vDown22), (.s vDown23), (.es 25 (.r vDown24)), (.b (vDown25))]), .eqb (freeL []) true, .eqb (TV.free (.ag [(.i .i8 x.k), (.i .i64 x.n), (.s (nats x.s)), (.s (nats x.t)), (.es 25 (.r (rowsT x.l)))])) true, .eqb (TV.free (.i .i64 m)) true, .eqb (TV.free (.i .i64 n)) true, .call 8 [(.i .i64 n), (.i .i64 m), (.ag [(.i .i8 x.k), (.i .i64 x.n), (.s (nats x.s)), (.s (nats x.t)), (.es 25 (.r (rowsT x.l)))])] (.ag [(.i .i8 vDown14), (.i .i64 vDown15), (.s vDown16), (.s vDown17), (.es 25 (.r vDown18)), (.b false)]), .eqb (freeL []) true, .eqb (TV.free (.ag [(.i .i8 x.k), (.i .i64 x.n), (.s (nats x.s)), (.s (nats x.t)), (.es 25 (.r (rowsT x.l)))])) true, .eqb (TV.free (.i .i64 m)) true, .eqb (TV.free (.i .i64 n)) true, .call 7 [(.i .i64 n), (.ag [(.i .i8 x.k), (.i .i64 x.n), (.s (nats x.s)), (.s (nats x.t)), (.es 25 (.r (rowsT x.l)))])] (.ag [(.i .i8 vExited8), (.i .i64 vExited9), (.s vExited10), (.s vExited11), (.es 25 (.r vExited12)), (.b (vExited13))]), .eqb (freeL []) true, .eqb (TV.free (.ag [(.i .i8 x.k), (.i .i64 x.n), (.s (nats x.s)), (.s (nats x.t)), (.es 25 (.r (rowsT x.l)))])) true, .eqb (TV.free (.i .i64 n)) true, .call 6 [(.i .i64 n), (.ag [(.i .i8 x.k), (.i .i64 x.n), (.s (nats x.s)), (.s (nats x.t)), (.es 25 (.r (rowsT x.l)))])] (.ag [(.i .i8 vExited2), (.i .i64 vExited3), (.s vExited4), (.s vExited5), (.es 25 (.r vExited6)), (.b true)]), .eqb (freeL []) true, .eqb (TV.free (.ag [(.i .i8 x.k), (.i .i64 x.n), (.s (nats x.s)), (.s (nats x.t)), (.es 25 (.r (rowsT x.l)))])) true, .eqb (TV.free (.i .i64 n)) true, .call 4 [(.ag [(.i .i8 x.k), (.i .i64 x.n), (.s (nats x.s)), (.s (nats x.t)), (.es 25 (.r (rowsT x.l)))])] (.b false), .eqb (freeL []) true, .eqb (TV.free (.ag [(.i .i8 x.k), (.i .i64 x.n), (.s (nats x.s)), (.s (nats x.t)), (.es 25 (.r (rowsT x.l)))])) true]) := by kernel_rfl
theorem si_9 (n m : Int) (x : Tr) (vExited2 : Int) (vExited3 : Int) (vExited4 : List Nat) (vExited5 : List Nat) (vExited6 : List (List Dat)) (vExited8 : Int) (vExited9 : Int) (vExited10 : List Nat) (vExited11 : List Nat) (vExited12 : List (List Dat)) (vExited13 : Bool) (vDown14 : Int) (vDown15 : Int) (vDown16 : List Nat) (vDown17 : List Nat) (vDown18 : List (List Dat)) (vDown19 : Bool) (vDown20 : Int) (vDown21 : Int) (vDown22 : List Nat) (vDown23 : List Nat) (vDown24 : List (List Dat)) (vDown25 : Bool) : funO 4 mth cal 1000 ir3 [(.i .i64 n), (.i .i64 m), (.ag [(.i .i8 x.k), (.i .i64 x.n), (.s (nats x.s)), (.s (nats x.t)), (.es 25 (.r (rowsT x.l)))])] [.cl [.as] (.b false), .cf [.as, .as] (.ag [(.i .i8 vExited2), (.i .i64 vExited3), (.s vExited4), (.s vExited5), (.es 25 (.r vExited6)), (.b false)]), .cf [.as, .as] (.ag [(.i .i8 vExited8), (.i .i64 vExited9), (.s vExited10), (.s vExited11), (.es 25 (.r vExited12)), (.b (vExited13))]), .cf [.as, .as, .as] (.ag [(.i .i8 vDown14), (.i .i64 vDown15), (.s vDown16), (.s vDown17), (.es 25 (.r vDown18)), (.b (vDown19))]), .cf [.as, .as, .as] (.ag [(.i .i8 vDown20), (.i .i64 vDown21), (.s vDown22), (.s vDown23), (.es 25 (.r vDown24)), (.b (vDown25))]), .go, .go, .go, .br true, .go, .go, .go, .br true, .go, .go, .br true, .go, .go, .go, .br true] = some ((.b false), [.eqb (!decide (1 = 0)) true, .eqb (!decide (1 = 0)) true, .eqb (decide (1 = 1)) true, .eqb (decide (1 = 1)) true, .call 9 [(.i .i64 n), (.i .i64 m), (.ag [(.i .i8 x.k), (.i .i64 x.n), (.s (nats x.s)), (.s (nats x.t)), (.es 25 (.r (rowsT x.l)))])] (.ag [(.i .i8 vDown20), (.i .i64 vDown21), (.s vDown22), (.s vDown23), (.es 25 (.r vDown24)), (.b (vDown25))]), .eqb (freeL []) true, .eqb (TV.free (.ag [(.i .i8 x.k), (.i .i64 x.n), (.s (nats x.s)), (.s (nats x.t)), (.es 25 (.r (rowsT x.l)))])) true, .eqb (TV.free (.i .i64 m)) true, .eqb (TV.free (.i .i64 n)) true, .call 8 [(.i .i64 n), (.i .i64 m), (.ag [(.i .i8 x.k), (.i .i64 x.n), (.s (nats x.s)), (.s (nats x.t)), (.es 25 (.r (rowsT x.l)))])] (.ag [(.i .i8 vDown14), (.i .i64 vDown15), (.s vDown16), (.s vDown17), (.es 25 (.r vDown18)), (.b (vDown19))]), .eqb (freeL []) true, .eqb (TV.free (.ag [(.i .i8 x.k), (.i .i64 x.n), (.s (nats x.s)), (.s (nats x.t)), (.es 25 (.r (rowsT x.l)))])) true, .eqb (TV.free (.i .i64 m)) true, .eqb (TV.free (.i .i64 n)) true, .call 7 [(.i .i64 n), (.ag [(.i .i8 x.k), (.i .i64 x.n), (.s (nats x.s)), (.s (nats x.t)), (.es 25 (.r (rowsT x.l)))])] (.ag [(.i .i8 vExited8), (.i .i64 vExited9), (.s vExited10), (.s vExited11), (.es 25 (.r vExited12)), (.b (vExited13))]), .eqb (freeL []) true, .eqb (TV.free (.ag [(.i .i8 x.k), (.i .i64 x.n), (.s (nats x.s)), (.s (nats x.t)), (.es 25 (.r (rowsT x.l)))])) true, .eqb (TV.free (.i .i64 n)) true, .call 6 [(.i .i64 n), (.ag [(.i .i8 x.k), (.i .i64 x.n), (.s (nats x.s)), (.s (nats x.t)), (.es 25 (.r (rowsT x.l)))])] (.ag [(.i .i8 vExited2), (.i .i64 vExited3), (.s vExited4), (.s vExited5), (.es 25 (.r vExited6)), (.b false)]), .eqb (freeL []) true, .eqb (TV.free (.ag [(.i .i8 x.k), (.i .i64 x.n), (.s (nats x.s)), (.s (nats x.t)), (.es 25 (.r (rowsT x.l)))])) true, .eqb (TV.free (.i .i64 n)) true, .call 4 [(.ag [(.i .i8 x.k), (.i .i64 x.n), (.s (nats x.s)), (.s (nats x.t)), (.es 25 (.r (rowsT x.l)))])] (.b false), .eqb (freeL []) true, .eqb (TV.free (.ag [(.i .i8 x.k), (.i .i64 x.n), (.s (nats x.s)), (.s (nats x.t)), (.es 25 (.r (rowsT x.l)))])) true]) := by kernel_rfl
theorem si_p0 (n m : Int) (x : Tr) (vwakes1 : Bool) (c0 : Pu 4 [(.ag [(.i .i8 x.k), (.i .i64 x.n), (.s (nats x.s)), (.s (nats x.t)), (.es 25 (.r (rowsT x.l)))])] (.b true)) (c1 : Pu 5 [] (.b (vwakes1))) : Pu 3 [(.i .i64 n), (.i .i64 m), (.ag [(.i .i8 x.k), (.i .i64 x.n), (.s (nats x.s)), (.s (nats x.t)), (.es 25 (.r (rowsT x.l)))])] (.b (vwakes1)) :=
  pu_of Tryz.func3 irc3 (si_0 n m x vwakes1) rfl ⟨c1, rfl, c0, rfl, rfl, trivial⟩
theorem si_p1 (n m : Int) (x : Tr) (vExited2 : Int) (vExited3 : Int) (vExited4 : List Nat) (vExited5 : List Nat) (vExited6 : List (List Dat)) (vExited8 : Int) (vExited9 : Int) (vExited10 : List Nat) (vExited11 : List Nat) (vExited12 : List (List Dat)) (vDown14 : Int) (vDown15 : Int) (vDown16 : List Nat) (vDown17 : List Nat) (vDown18 : List (List Dat)) (vDown20 : Int) (vDown21 : Int) (vDown22 : List Nat) (vDown23 : List Nat) (vDown24 : List (List Dat)) (vwakes1 : Bool) (c0 : Pu 4 [(.ag [(.i .i8 x.k), (.i .i64 x.n), (.s (nats x.s)), (.s (nats x.t)), (.es 25 (.r (rowsT x.l)))])] (.b false)) (c1 : Pu 6 [(.i .i64 n), (.ag [(.i .i8 x.k), (.i .i64 x.n), (.s (nats x.s)), (.s (nats x.t)), (.es 25 (.r (rowsT x.l)))])] (.ag [(.i .i8 vExited2), (.i .i64 vExited3), (.s vExited4), (.s vExited5), (.es 25 (.r vExited6)), (.b true)])) (c2 : Pu 7 [(.i .i64 n), (.ag [(.i .i8 x.k), (.i .i64 x.n), (.s (nats x.s)), (.s (nats x.t)), (.es 25 (.r (rowsT x.l)))])] (.ag [(.i .i8 vExited8), (.i .i64 vExited9), (.s vExited10), (.s vExited11), (.es 25 (.r vExited12)), (.b true)])) (c3 : Pu 8 [(.i .i64 n), (.i .i64 m), (.ag [(.i .i8 x.k), (.i .i64 x.n), (.s (nats x.s)), (.s (nats x.t)), (.es 25 (.r (rowsT x.l)))])] (.ag [(.i .i8 vDown14), (.i .i64 vDown15), (.s vDown16), (.s vDown17), (.es 25 (.r vDown18)), (.b true)])) (c4 : Pu 9 [(.i .i64 n), (.i .i64 m), (.ag [(.i .i8 x.k), (.i .i64 x.n), (.s (nats x.s)), (.s (nats x.t)), (.es 25 (.r (rowsT x.l)))])] (.ag [(.i .i8 vDown20), (.i .i64 vDown21), (.s vDown22), (.s vDown23), (.es 25 (.r vDown24)), (.b true)])) (c5 : Pu 16 [(.ag [(.i .i8 vExited2), (.i .i64 vExited3), (.s vExited4), (.s vExited5), (.es 25 (.r vExited6))]), (.ag [(.i .i8 vExited8), (.i .i64 vExited9), (.s vExited10), (.s vExited11), (.es 25 (.r vExited12))])] (.b true)) (c6 : Pu 16 [(.ag [(.i .i8 vDown14), (.i .i64 vDown15), (.s vDown16), (.s vDown17), (.es 25 (.r vDown18))]), (.ag [(.i .i8 vDown20), (.i .i64 vDown21), (.s vDown22), (.s vDown23), (.es 25 (.r vDown24))])] (.b true)) (c7 : Pu 5 [] (.b (vwakes1))) : Pu 3 [(.i .i64 n), (.i .i64 m), (.ag [(.i .i8 x.k), (.i .i64 x.n), (.s (nats x.s)), (.s (nats x.t)), (.es 25 (.r (rowsT x.l)))])] (.b (vwakes1)) :=
  pu_of Tryz.func3 irc3 (si_1 n m x vExited2 vExited3 vExited4 vExited5 vExited6 vExited8 vExited9 vExited10 vExited11 vExited12 vDown14 vDown15 vDown16 vDown17 vDown18 vDown20 vDown21 vDown22 vDown23 vDown24 vwakes1) rfl ⟨c7, rfl, (of_eqb (by decide)), (of_eqb (by decide)), (of_eqb (by decide)), (of_eqb (by decide)), c6, rfl, rfl, rfl, c5, rfl, rfl, rfl, (of_eqb (by decide)), (of_eqb (by decide)), (of_eqb (by decide)), (of_eqb (by decide)), c4, rfl, rfl, rfl, rfl, c3, rfl, rfl, rfl, rfl, c2, rfl, rfl, rfl, c1, rfl, rfl, rfl, c0, rfl, rfl, trivial⟩
theorem si_p2 (n m : Int) (x : Tr) (vExited2 : Int) (vExited3 : Int) (vExited4 : List Nat) (vExited5 : List Nat) (vExited6 : List (List Dat)) (vExited8 : Int) (vExited9 : Int) (vExited10 : List Nat) (vExited11 : List Nat) (vExited12 : List (List Dat)) (vDown14 : Int) (vDown15 : Int) (vDown16 : List Nat) (vDown17 : List Nat) (vDown18 : List (List Dat)) (vDown20 : Int) (vDown21 : Int) (vDown22 : List Nat) (vDown23 : List Nat) (vDown24 : List (List Dat)) (c0 : Pu 4 [(.ag [(.i .i8 x.k), (.i .i64 x.n), (.s (nats x.s)), (.s (nats x.t)), (.es 25 (.r (rowsT x.l)))])] (.b false)) (c1 : Pu 6 [(.i .i64 n), (.ag [(.i .i8 x.k), (.i .i64 x.n), (.s (nats x.s)), (.s (nats x.t)), (.es 25 (.r (rowsT x.l)))])] (.ag [(.i .i8 vExited2), (.i .i64 vExited3), (.s vExited4), (.s vExited5), (.es 25 (.r vExited6)), (.b true)])) (c2 : Pu 7 [(.i .i64 n), (.ag [(.i .i8 x.k), (.i .i64 x.n), (.s (nats x.s)), (.s (nats x.t)), (.es 25 (.r (rowsT x.l)))])] (.ag [(.i .i8 vExited8), (.i .i64 vExited9), (.s vExited10), (.s vExited11), (.es 25 (.r vExited12)), (.b true)])) (c3 : Pu 8 [(.i .i64 n), (.i .i64 m), (.ag [(.i .i8 x.k), (.i .i64 x.n), (.s (nats x.s)), (.s (nats x.t)), (.es 25 (.r (rowsT x.l)))])] (.ag [(.i .i8 vDown14), (.i .i64 vDown15), (.s vDown16), (.s vDown17), (.es 25 (.r vDown18)), (.b true)])) (c4 : Pu 9 [(.i .i64 n), (.i .i64 m), (.ag [(.i .i8 x.k), (.i .i64 x.n), (.s (nats x.s)), (.s (nats x.t)), (.es 25 (.r (rowsT x.l)))])] (.ag [(.i .i8 vDown20), (.i .i64 vDown21), (.s vDown22), (.s vDown23), (.es 25 (.r vDown24)), (.b true)])) (c5 : Pu 16 [(.ag [(.i .i8 vExited2), (.i .i64 vExited3), (.s vExited4), (.s vExited5), (.es 25 (.r vExited6))]), (.ag [(.i .i8 vExited8), (.i .i64 vExited9), (.s vExited10), (.s vExited11), (.es 25 (.r vExited12))])] (.b true)) (c6 : Pu 16 [(.ag [(.i .i8 vDown14), (.i .i64 vDown15), (.s vDown16), (.s vDown17), (.es 25 (.r vDown18))]), (.ag [(.i .i8 vDown20), (.i .i64 vDown21), (.s vDown22), (.s vDown23), (.es 25 (.r vDown24))])] (.b false)) : Pu 3 [(.i .i64 n), (.i .i64 m), (.ag [(.i .i8 x.k), (.i .i64 x.n), (.s (nats x.s)), (.s (nats x.t)), (.es 25 (.r (rowsT x.l)))])] (.b false) :=
  pu_of Tryz.func3 irc3 (si_2 n m x vExited2 vExited3 vExited4 vExited5 vExited6 vExited8 vExited9 vExited10 vExited11 vExited12 vDown14 vDown15 vDown16 vDown17 vDown18 vDown20 vDown21 vDown22 vDown23 vDown24) rfl ⟨c6, rfl, rfl, rfl, c5, rfl, rfl, rfl, (of_eqb (by decide)), (of_eqb (by decide)), (of_eqb (by decide)), (of_eqb (by decide)), c4, rfl, rfl, rfl, rfl, c3, rfl, rfl, rfl, rfl, c2, rfl, rfl, rfl, c1, rfl, rfl, rfl, c0, rfl, rfl, trivial⟩
theorem si_p3 (n m : Int) (x : Tr) (vExited2 : Int) (vExited3 : Int) (vExited4 : List Nat) (vExited5 : List Nat) (vExited6 : List (List Dat)) (vExited8 : Int) (vExited9 : Int) (vExited10 : List Nat) (vExited11 : List Nat) (vExited12 : List (List Dat)) (vDown14 : Int) (vDown15 : Int) (vDown16 : List Nat) (vDown17 : List Nat) (vDown18 : List (List Dat)) (vDown20 : Int) (vDown21 : Int) (vDown22 : List Nat) (vDown23 : List Nat) (vDown24 : List (List Dat)) (c0 : Pu 4 [(.ag [(.i .i8 x.k), (.i .i64 x.n), (.s (nats x.s)), (.s (nats x.t)), (.es 25 (.r (rowsT x.l)))])] (.b false)) (c1 : Pu 6 [(.i .i64 n), (.ag [(.i .i8 x.k), (.i .i64 x.n), (.s (nats x.s)), (.s (nats x.t)), (.es 25 (.r (rowsT x.l)))])] (.ag [(.i .i8 vExited2), (.i .i64 vExited3), (.s vExited4), (.s vExited5), (.es 25 (.r vExited6)), (.b true)])) (c2 : Pu 7 [(.i .i64 n), (.ag [(.i .i8 x.k), (.i .i64 x.n), (.s (nats x.s)), (.s (nats x.t)), (.es 25 (.r (rowsT x.l)))])] (.ag [(.i .i8 vExited8), (.i .i64 vExited9), (.s vExited10), (.s vExited11), (.es 25 (.r vExited12)), (.b true)])) (c3 : Pu 8 [(.i .i64 n), (.i .i64 m), (.ag [(.i .i8 x.k), (.i .i64 x.n), (.s (nats x.s)), (.s (nats x.t)), (.es 25 (.r (rowsT x.l)))])] (.ag [(.i .i8 vDown14), (.i .i64 vDown15), (.s vDown16), (.s vDown17), (.es 25 (.r vDown18)), (.b true)])) (c4 : Pu 9 [(.i .i64 n), (.i .i64 m), (.ag [(.i .i8 x.k), (.i .i64 x.n), (.s (nats x.s)), (.s (nats x.t)), (.es 25 (.r (rowsT x.l)))])] (.ag [(.i .i8 vDown20), (.i .i64 vDown21), (.s vDown22), (.s vDown23), (.es 25 (.r vDown24)), (.b true)])) (c5 : Pu 16 [(.ag [(.i .i8 vExited2), (.i .i64 vExited3), (.s vExited4), (.s vExited5), (.es 25 (.r vExited6))]), (.ag [(.i .i8 vExited8), (.i .i64 vExited9), (.s vExited10), (.s vExited11), (.es 25 (.r vExited12))])] (.b false)) : Pu 3 [(.i .i64 n), (.i .i64 m), (.ag [(.i .i8 x.k), (.i .i64 x.n), (.s (nats x.s)), (.s (nats x.t)), (.es 25 (.r (rowsT x.l)))])] (.b false) :=
  pu_of Tryz.func3 irc3 (si_3 n m x vExited2 vExited3 vExited4 vExited5 vExited6 vExited8 vExited9 vExited10 vExited11 vExited12 vDown14 vDown15 vDown16 vDown17 vDown18 vDown20 vDown21 vDown22 vDown23 vDown24) rfl ⟨c5, rfl, rfl, rfl, (of_eqb (by decide)), (of_eqb (by decide)), (of_eqb (by decide)), (of_eqb (by decide)), c4, rfl, rfl, rfl, rfl, c3, rfl, rfl, rfl, rfl, c2, rfl, rfl, rfl, c1, rfl, rfl, rfl, c0, rfl, rfl, trivial⟩
theorem si_p4 (n m : Int) (x : Tr) (vExited2 : Int) (vExited3 : Int) (vExited4 : List Nat) (vExited5 : List Nat) (vExited6 : List (List Dat)) (vExited8 : Int) (vExited9 : Int) (vExited10 : List Nat) (vExited11 : List Nat) (vExited12 : List (List Dat)) (vDown14 : Int) (vDown15 : Int) (vDown16 : List Nat) (vDown17 : List Nat) (vDown18 : List (List Dat)) (vDown20 : Int) (vDown21 : Int) (vDown22 : List Nat) (vDown23 : List Nat) (vDown24 : List (List Dat)) (c0 : Pu 4 [(.ag [(.i .i8 x.k), (.i .i64 x.n), (.s (nats x.s)), (.s (nats x.t)), (.es 25 (.r (rowsT x.l)))])] (.b false)) (c1 : Pu 6 [(.i .i64 n), (.ag [(.i .i8 x.k), (.i .i64 x.n), (.s (nats x.s)), (.s (nats x.t)), (.es 25 (.r (rowsT x.l)))])] (.ag [(.i .i8 vExited2), (.i .i64 vExited3), (.s vExited4), (.s vExited5), (.es 25 (.r vExited6)), (.b true)])) (c2 : Pu 7 [(.i .i64 n), (.ag [(.i .i8 x.k), (.i .i64 x.n), (.s (nats x.s)), (.s (nats x.t)), (.es 25 (.r (rowsT x.l)))])] (.ag [(.i .i8 vExited8), (.i .i64 vExited9), (.s vExited10), (.s vExited11), (.es 25 (.r vExited12)), (.b true)])) (c3 : Pu 8 [(.i .i64 n), (.i .i64 m), (.ag [(.i .i8 x.k), (.i .i64 x.n), (.s (nats x.s)), (.s (nats x.t)), (.es 25 (.r (rowsT x.l)))])] (.ag [(.i .i8 vDown14), (.i .i64 vDown15), (.s vDown16), (.s vDown17), (.es 25 (.r vDown18)), (.b true)])) (c4 : Pu 9 [(.i .i64 n), (.i .i64 m), (.ag [(.i .i8 x.k), (.i .i64 x.n), (.s (nats x.s)), (.s (nats x.t)), (.es 25 (.r (rowsT x.l)))])] (.ag [(.i .i8 vDown20), (.i .i64 vDown21), (.s vDown22), (.s vDown23), (.es 25 (.r vDown24)), (.b false)])) : Pu 3 [(.i .i64 n), (.i .i64 m), (.ag [(.i .i8 x.k), (.i .i64 x.n), (.s (nats x.s)), (.s (nats x.t)), (.es 25 (.r (rowsT x.l)))])] (.b false) :=
  pu_of Tryz.func3 irc3 (si_4 n m x vExited2 vExited3 vExited4 vExited5 vExited6 vExited8 vExited9 vExited10 vExited11 vExited12 vDown14 vDown15 vDown16 vDown17 vDown18 vDown20 vDown21 vDown22 vDown23 vDown24) rfl ⟨(of_eqb (by decide)), (of_eqb (by decide)), (of_eqb (by decide)), (of_eqb (by decide)), c4, rfl, rfl, rfl, rfl, c3, rfl, rfl, rfl, rfl, c2, rfl, rfl, rfl, c1, rfl, rfl, rfl, c0, rfl, rfl, trivial⟩
theorem si_p5 (n m : Int) (x : Tr) (vExited2 : Int) (vExited3 : Int) (vExited4 : List Nat) (vExited5 : List Nat) (vExited6 : List (List Dat)) (vExited8 : Int) (vExited9 : Int) (vExited10 : List Nat) (vExited11 : List Nat) (vExited12 : List (List Dat)) (vDown14 : Int) (vDown15 : Int) (vDown16 : List Nat) (vDown17 : List Nat) (vDown18 : List (List Dat)) (vDown20 : Int) (vDown21 : Int) (vDown22 : List Nat) (vDown23 : List Nat) (vDown24 : List (List Dat)) (vDown25 : Bool) (c0 : Pu 4 [(.ag [(.i .i8 x.k), (.i .i64 x.n), (.s (nats x.s)), (.s (nats x.t)), (.es 25 (.r (rowsT x.l)))])] (.b false)) (c1 : Pu 6 [(.i .i64 n), (.ag [(.i .i8 x.k), (.i .i64 x.n), (.s (nats x.s)), (.s (nats x.t)), (.es 25 (.r (rowsT x.l)))])] (.ag [(.i .i8 vExited2), (.i .i64 vExited3), (.s vExited4), (.s vExited5), (.es 25 (.r vExited6)), (.b true)])) (c2 : Pu 7 [(.i .i64 n), (.ag [(.i .i8 x.k), (.i .i64 x.n), (.s (nats x.s)), (.s (nats x.t)), (.es 25 (.r (rowsT x.l)))])] (.ag [(.i .i8 vExited8), (.i .i64 vExited9), (.s vExited10), (.s vExited11), (.es 25 (.r vExited12)), (.b true)])) (c3 : Pu 8 [(.i .i64 n), (.i .i64 m), (.ag [(.i .i8 x.k), (.i .i64 x.n), (.s (nats x.s)), (.s (nats x.t)), (.es 25 (.r (rowsT x.l)))])] (.ag [(.i .i8 vDown14), (.i .i64 vDown15), (.s vDown16), (.s vDown17), (.es 25 (.r vDown18)), (.b false)])) (c4 : Pu 9 [(.i .i64 n), (.i .i64 m), (.ag [(.i .i8 x.k), (.i .i64 x.n), (.s (nats x.s)), (.s (nats x.t)), (.es 25 (.r (rowsT x.l)))])] (.ag [(.i .i8 vDown20), (.i .i64 vDown21), (.s vDown22), (.s vDown23), (.es 25 (.r vDown24)), (.b (vDown25))])) : Pu 3 [(.i .i64 n), (.i .i64 m), (.ag [(.i .i8 x.k), (.i .i64 x.n), (.s (nats x.s)), (.s (nats x.t)), (.es 25 (.r (rowsT x.l)))])] (.b false) :=
  pu_of Tryz.func3 irc3 (si_5 n m x vExited2 vExited3 vExited4 vExited5 vExited6 vExited8 vExited9 vExited10 vExited11 vExited12 vDown14 vDown15 vDown16 vDown17 vDown18 vDown20 vDown21 vDown22 vDown23 vDown24 vDown25) rfl ⟨(of_eqb (by decide)), (of_eqb (by decide)), (of_eqb (by decide)), (of_eqb (by decide)), c4, rfl, rfl, rfl, rfl, c3, rfl, rfl, rfl, rfl, c2, rfl, rfl, rfl, c1, rfl, rfl, rfl, c0, rfl, rfl, trivial⟩
theorem si_p6 (n m : Int) (x : Tr) (vExited2 : Int) (vExited3 : Int) (vExited4 : List Nat) (vExited5 : List Nat) (vExited6 : List (List Dat)) (vExited8 : Int) (vExited9 : Int) (vExited10 : List Nat) (vExited11 : List Nat) (vExited12 : List (List Dat)) (vDown14 : Int) (vDown15 : Int) (vDown16 : List Nat) (vDown17 : List Nat) (vDown18 : List (List Dat)) (vDown20 : Int) (vDown21 : Int) (vDown22 : List Nat) (vDown23 : List Nat) (vDown24 : List (List Dat)) (vDown25 : Bool) (c0 : Pu 4 [(.ag [(.i .i8 x.k), (.i .i64 x.n), (.s (nats x.s)), (.s (nats x.t)), (.es 25 (.r (rowsT x.l)))])] (.b false)) (c1 : Pu 6 [(.i .i64 n), (.ag [(.i .i8 x.k), (.i .i64 x.n), (.s (nats x.s)), (.s (nats x.t)), (.es 25 (.r (rowsT x.l)))])] (.ag [(.i .i8 vExited2), (.i .i64 vExited3), (.s vExited4), (.s vExited5), (.es 25 (.r vExited6)), (.b true)])) (c2 : Pu 7 [(.i .i64 n), (.ag [(.i .i8 x.k), (.i .i64 x.n), (.s (nats x.s)), (.s (nats x.t)), (.es 25 (.r (rowsT x.l)))])] (.ag [(.i .i8 vExited8), (.i .i64 vExited9), (.s vExited10), (.s vExited11), (.es 25 (.r vExited12)), (.b false)])) (c3 : Pu 8 [(.i .i64 n), (.i .i64 m), (.ag [(.i .i8 x.k), (.i .i64 x.n), (.s (nats x.s)), (.s (nats x.t)), (.es 25 (.r (rowsT x.l)))])] (.ag [(.i .i8 vDown14), (.i .i64 vDown15), (.s vDown16), (.s vDown17), (.es 25 (.r vDown18)), (.b true)])) (c4 : Pu 9 [(.i .i64 n), (.i .i64 m), (.ag [(.i .i8 x.k), (.i .i64 x.n), (.s (nats x.s)), (.s (nats x.t)), (.es 25 (.r (rowsT x.l)))])] (.ag [(.i .i8 vDown20), (.i .i64 vDown21), (.s vDown22), (.s vDown23), (.es 25 (.r vDown24)), (.b (vDown25))])) : Pu 3 [(.i .i64 n), (.i .i64 m), (.ag [(.i .i8 x.k), (.i .i64 x.n), (.s (nats x.s)), (.s (nats x.t)), (.es 25 (.r (rowsT x.l)))])] (.b false) :=
  pu_of Tryz.func3 irc3 (si_6 n m x vExited2 vExited3 vExited4 vExited5 vExited6 vExited8 vExited9 vExited10 vExited11 vExited12 vDown14 vDown15 vDown16 vDown17 vDown18 vDown20 vDown21 vDown22 vDown23 vDown24 vDown25) rfl ⟨(of_eqb (by decide)), (of_eqb (by decide)), (of_eqb (by decide)), (of_eqb (by decide)), c4, rfl, rfl, rfl, rfl, c3, rfl, rfl, rfl, rfl, c2, rfl, rfl, rfl, c1, rfl, rfl, rfl, c0, rfl, rfl, trivial⟩
theorem si_p7 (n m : Int) (x : Tr) (vExited2 : Int) (vExited3 : Int) (vExited4 : List Nat) (vExited5 : List Nat) (vExited6 : List (List Dat)) (vExited8 : Int) (vExited9 : Int) (vExited10 : List Nat) (vExited11 : List Nat) (vExited12 : List (List Dat)) (vDown14 : Int) (vDown15 : Int) (vDown16 : List Nat) (vDown17 : List Nat) (vDown18 : List (List Dat)) (vDown20 : Int) (vDown21 : Int) (vDown22 : List Nat) (vDown23 : List Nat) (vDown24 : List (List Dat)) (vDown25 : Bool) (c0 : Pu 4 [(.ag [(.i .i8 x.k), (.i .i64 x.n), (.s (nats x.s)), (.s (nats x.t)), (.es 25 (.r (rowsT x.l)))])] (.b false)) (c1 : Pu 6 [(.i .i64 n), (.ag [(.i .i8 x.k), (.i .i64 x.n), (.s (nats x.s)), (.s (nats x.t)), (.es 25 (.r (rowsT x.l)))])] (.ag [(.i .i8 vExited2), (.i .i64 vExited3), (.s vExited4), (.s vExited5), (.es 25 (.r vExited6)), (.b true)])) (c2 : Pu 7 [(.i .i64 n), (.ag [(.i .i8 x.k), (.i .i64 x.n), (.s (nats x.s)), (.s (nats x.t)), (.es 25 (.r (rowsT x.l)))])] (.ag [(.i .i8 vExited8), (.i .i64 vExited9), (.s vExited10), (.s vExited11), (.es 25 (.r vExited12)), (.b false)])) (c3 : Pu 8 [(.i .i64 n), (.i .i64 m), (.ag [(.i .i8 x.k), (.i .i64 x.n), (.s (nats x.s)), (.s (nats x.t)), (.es 25 (.r (rowsT x.l)))])] (.ag [(.i .i8 vDown14), (.i .i64 vDown15), (.s vDown16), (.s vDown17), (.es 25 (.r vDown18)), (.b false)])) (c4 : Pu 9 [(.i .i64 n), (.i .i64 m), (.ag [(.i .i8 x.k), (.i .i64 x.n), (.s (nats x.s)), (.s (nats x.t)), (.es 25 (.r (rowsT x.l)))])] (.ag [(.i .i8 vDown20), (.i .i64 vDown21), (.s vDown22), (.s vDown23), (.es 25 (.r vDown24)), (.b (vDown25))])) : Pu 3 [(.i .i64 n), (.i .i64 m), (.ag [(.i .i8 x.k), (.i .i64 x.n), (.s (nats x.s)), (.s (nats x.t)), (.es 25 (.r (rowsT x.l)))])] (.b false) :=
  pu_of Tryz.func3 irc3 (si_7 n m x vExited2 vExited3 vExited4 vExited5 vExited6 vExited8 vExited9 vExited10 vExited11 vExited12 vDown14 vDown15 vDown16 vDown17 vDown18 vDown20 vDown21 vDown22 vDown23 vDown24 vDown25) rfl ⟨(of_eqb (by decide)), (of_eqb (by decide)), (of_eqb (by decide)), (of_eqb (by decide)), c4, rfl, rfl, rfl, rfl, c3, rfl, rfl, rfl, rfl, c2, rfl, rfl, rfl, c1, rfl, rfl, rfl, c0, rfl, rfl, trivial⟩
theorem si_p8 (n m : Int) (x : Tr) (vExited2 : Int) (vExited3 : Int) (vExited4 : List Nat) (vExited5 : List Nat) (vExited6 : List (List Dat)) (vExited8 : Int) (vExited9 : Int) (vExited10 : List Nat) (vExited11 : List Nat) (vExited12 : List (List Dat)) (vExited13 : Bool) (vDown14 : Int) (vDown15 : Int) (vDown16 : List Nat) (vDown17 : List Nat) (vDown18 : List (List Dat)) (vDown20 : Int) (vDown21 : Int) (vDown22 : List Nat) (vDown23 : List Nat) (vDown24 : List (List Dat)) (vDown25 : Bool) (c0 : Pu 4 [(.ag [(.i .i8 x.k), (.i .i64 x.n), (.s (nats x.s)), (.s (nats x.t)), (.es 25 (.r (rowsT x.l)))])] (.b false)) (c1 : Pu 6 [(.i .i64 n), (.ag [(.i .i8 x.k), (.i .i64 x.n), (.s (nats x.s)), (.s (nats x.t)), (.es 25 (.r (rowsT x.l)))])] (.ag [(.i .i8 vExited2), (.i .i64 vExited3), (.s vExited4), (.s vExited5), (.es 25 (.r vExited6)), (.b true)])) (c2 : Pu 7 [(.i .i64 n), (.ag [(.i .i8 x.k), (.i .i64 x.n), (.s (nats x.s)), (.s (nats x.t)), (.es 25 (.r (rowsT x.l)))])] (.ag [(.i .i8 vExited8), (.i .i64 vExited9), (.s vExited10), (.s vExited11), (.es 25 (.r vExited12)), (.b (vExited13))])) (c3 : Pu 8 [(.i .i64 n), (.i .i64 m), (.ag [(.i .i8 x.k), (.i .i64 x.n), (.s (nats x.s)), (.s (nats x.t)), (.es 25 (.r (rowsT x.l)))])] (.ag [(.i .i8 vDown14), (.i .i64 vDown15), (.s vDown16), (.s vDown17), (.es 25 (.r vDown18)), (.b false)])) (c4 : Pu 9 [(.i .i64 n), (.i .i64 m), (.ag [(.i .i8 x.k), (.i .i64 x.n), (.s (nats x.s)), (.s (nats x.t)), (.es 25 (.r (rowsT x.l)))])] (.ag [(.i .i8 vDown20), (.i .i64 vDown21), (.s vDown22), (.s vDown23), (.es 25 (.r vDown24)), (.b (vDown25))])) : Pu 3 [(.i .i64 n), (.i .i64 m), (.ag [(.i .i8 x.k), (.i .i64 x.n), (.s (nats x.s)), (.s (nats x.t)), (.es 25 (.r (rowsT x.l)))])] (.b false) :=
  pu_of Tryz.func3 irc3 (si_8 n m x vExited2 vExited3 vExited4 vExited5 vExited6 vExited8 vExited9 vExited10 vExited11 vExited12 vExited13 vDown14 vDown15 vDown16 vDown17 vDown18 vDown20 vDown21 vDown22 vDown23 vDown24 vDown25) rfl ⟨(of_eqb (by decide)), (of_eqb (by decide)), (of_eqb (by decide)), (of_eqb (by decide)), c4, rfl, rfl, rfl, rfl, c3, rfl, rfl, rfl, rfl, c2, rfl, rfl, rfl, c1, rfl, rfl, rfl, c0, rfl, rfl, trivial⟩
theorem si_p9 (n m : Int) (x : Tr) (vExited2 : Int) (vExited3 : Int) (vExited4 : List Nat) (vExited5 : List Nat) (vExited6 : List (List Dat)) (vExited8 : Int) (vExited9 : Int) (vExited10 : List Nat) (vExited11 : List Nat) (vExited12 : List (List Dat)) (vExited13 : Bool) (vDown14 : Int) (vDown15 : Int) (vDown16 : List Nat) (vDown17 : List Nat) (vDown18 : List (List Dat)) (vDown19 : Bool) (vDown20 : Int) (vDown21 : Int) (vDown22 : List Nat) (vDown23 : List Nat) (vDown24 : List (List Dat)) (vDown25 : Bool) (c0 : Pu 4 [(.ag [(.i .i8 x.k), (.i .i64 x.n), (.s (nats x.s)), (.s (nats x.t)), (.es 25 (.r (rowsT x.l)))])] (.b false)) (c1 : Pu 6 [(.i .i64 n), (.ag [(.i .i8 x.k), (.i .i64 x.n), (.s (nats x.s)), (.s (nats x.t)), (.es 25 (.r (rowsT x.l)))])] (.ag [(.i .i8 vExited2), (.i .i64 vExited3), (.s vExited4), (.s vExited5), (.es 25 (.r vExited6)), (.b false)])) (c2 : Pu 7 [(.i .i64 n), (.ag [(.i .i8 x.k), (.i .i64 x.n), (.s (nats x.s)), (.s (nats x.t)), (.es 25 (.r (rowsT x.l)))])] (.ag [(.i .i8 vExited8), (.i .i64 vExited9), (.s vExited10), (.s vExited11), (.es 25 (.r vExited12)), (.b (vExited13))])) (c3 : Pu 8 [(.i .i64 n), (.i .i64 m), (.ag [(.i .i8 x.k), (.i .i64 x.n), (.s (nats x.s)), (.s (nats x.t)), (.es 25 (.r (rowsT x.l)))])] (.ag [(.i .i8 vDown14), (.i .i64 vDown15), (.s vDown16), (.s vDown17), (.es 25 (.r vDown18)), (.b (vDown19))])) (c4 : Pu 9 [(.i .i64 n), (.i .i64 m), (.ag [(.i .i8 x.k), (.i .i64 x.n), (.s (nats x.s)), (.s (nats x.t)), (.es 25 (.r (rowsT x.l)))])] (.ag [(.i .i8 vDown20), (.i .i64 vDown21), (.s vDown22), (.s vDown23), (.es 25 (.r vDown24)), (.b (vDown25))])) : Pu 3 [(.i .i64 n), (.i .i64 m), (.ag [(.i .i8 x.k), (.i .i64 x.n), (.s (nats x.s)), (.s (nats x.t)), (.es 25 (.r (rowsT x.l)))])] (.b false) :=
  pu_of Tryz.func3 irc3 (si_9 n m x vExited2 vExited3 vExited4 vExited5 vExited6 vExited8 vExited9 vExited10 vExited11 vExited12 vExited13 vDown14 vDown15 vDown16 vDown17 vDown18 vDown19 vDown20 vDown21 vDown22 vDown23 vDown24 vDown25) rfl ⟨(of_eqb (by decide)), (of_eqb (by decide)), (of_eqb (by decide)), (of_eqb (by decide)), c4, rfl, rfl, rfl, rfl, c3, rfl, rfl, rfl, rfl, c2, rfl, rfl, rfl, c1, rfl, rfl, rfl, c0, rfl, rfl, trivial⟩
theorem items_pu (n m : Int) (x : Tr) (hx : TrOk x) : Pu 3 [.i .i64 n, .i .i64 m, agV x] (.b true) := by
  by_cases h : 1024 ≤ x.sz 1024
  · have g := great_pu x hx
    rw [decide_eq_true h] at g
    exact si_p0 n m x true g wakes_pu
  · have g := great_pu x hx
    rw [decide_eq_false h] at g
    exact si_p1 n m x _ _ _ _ _ _ _ _ _ _ _ _ _ _ _ _ _ _ _ _ true g (exited_pu n x hx) (rexited_pu n x hx) (down_pu n m x hx) (rdown_pu n m x hx) (same_pu _ (ex_ok hx)) (same_pu _ (dn_ok hx)) wakes_pu
end Go.Proofs.YtgliogfggajfgaaGreatDoor.Oa.S1
namespace Go.Proofs.YtgliogfggajfgaaGreatDoor
open Go.RowKit Sx
theorem signalItems_any {F : Nat → Prop} {x : Tr} {n m : Int} {w : World} {sv : Value} (hL : Letters w) (hx : TrV F w x sv) :
    Calls Tryz.prog 3 #[.int .i64 n, .int .i64 m, .agg #[.int .i8 x.k, .int .i64 x.n, .string x.s, .string x.t, sv]] w fun e w' => e = .returned (.bool true) ∧ Below w.heap.size w w' := by
  refine (Oa.Pu.calls (Oa.S1.items_pu n m x (Oa.trOk_of hx)) hL (vs := #[_, _, _]) ⟨_, _, rfl, rfl, _, _, rfl, rfl, _, _, rfl, Oa.vr_agV hx, rfl⟩).mono ?_
  rintro e w' ⟨v, M', rfl, _, _, _, hv, hb⟩
  obtain rfl : v = .bool true := hv
  exact ⟨rfl, hb⟩
end Go.Proofs.YtgliogfggajfgaaGreatDoor

