/-
  What is held against itself is the same: terms, handlers, truths, numbers, children, supervisors, records, frames, stacks, over data. No condition but that data be in range.
-/
import Derived.Test.YtgjfdbbghefdbaaGreatDoorFa1
namespace Go.Proofs.YtgjfdbbghefdbaaGreatDoor.Fa.B1
open Go.RowKit Sx Dd
-- SHORT 35:api.Frame
set_option maxRecDepth 100000
set_option linter.unusedVariables false
set_option linter.unusedSimpArgs false
def lp12_0 : IC := (.seq (.seq (.reg [⟨some 41, none, .mv (.t 5)⟩,
  ⟨some 42, none, .fa 4 (.t 2)⟩,
  ⟨some 43, none, .ld false 1 (.t 42)⟩,
  ⟨some 44, none, .len 1 (.t 43)⟩,
  ⟨some 45, none, .bop .lss (.t 41) (.t 44)⟩])
  (.cond (.t 45) .skip
  (.exit 0)))
  (.seq (.blk 1 (.seq (.par [⟨some 48, none, .fa 4 (.t 2)⟩,
  ⟨some 49, none, .ld false 1 (.t 48)⟩,
  ⟨some 50, none, .mv (.t 5)⟩,
  ⟨some 51, none, .ia 5 (.t 49) (.t 50)⟩,
  ⟨some 52, none, .ld true 5 (.t 51)⟩,
  ⟨some 53, none, .fa 4 (.t 3)⟩,
  ⟨some 54, none, .ld false 1 (.t 53)⟩,
  ⟨some 55, none, .mv (.t 5)⟩,
  ⟨some 56, none, .ia 5 (.t 54) (.t 55)⟩,
  ⟨some 57, none, .ld true 5 (.t 56)⟩,
  ⟨some 58, none, .call 12 [(.t 52), (.t 57)]⟩,
  ⟨some 59, none, .un .not (.t 58)⟩] [0, 1, 0, 7, 15, 0, 32, 0, 224, 480, 1023, 2047])
  (.cond (.t 59) (.seq (.reg [⟨some 4, none, .mv (.c (.b false))⟩])
  .ret)
  .skip)))
  (.reg [⟨some 46, none, .mv (.t 5)⟩,
  ⟨some 47, none, .bop .add (.t 46) (.c (.i .i64 1))⟩,
  ⟨some 5, none, .mv (.t 47)⟩])))
def ir12 : XF := ⟨60, 2, [(4, none)], (.seq (.reg [⟨some 2, none, .box 26 5 (.t 0)⟩,
  ⟨some 3, none, .box 26 5 (.t 1)⟩,
  ⟨some 4, none, .mv (.c (.b false))⟩])
  (.seq (.seq (.reg [⟨some 6, none, .fa 0 (.t 2)⟩,
  ⟨some 7, none, .ld false 1 (.t 6)⟩,
  ⟨some 8, none, .fa 0 (.t 3)⟩,
  ⟨some 9, none, .ld false 1 (.t 8)⟩,
  ⟨some 10, none, .bop .neq (.t 7) (.t 9)⟩,
  ⟨some 11, none, .mv (.t 10)⟩,
  ⟨some 12, some (11, false), .fa 1 (.t 2)⟩,
  ⟨some 13, some (11, false), .ld false 1 (.t 12)⟩,
  ⟨some 14, some (11, false), .fa 1 (.t 3)⟩,
  ⟨some 15, some (11, false), .ld false 1 (.t 14)⟩,
  ⟨some 16, some (11, false), .bop .neq (.t 13) (.t 15)⟩,
  ⟨some 17, none, .pick (.t 11) (.c (.b true)) (.t 16)⟩,
  ⟨some 18, none, .mv (.t 17)⟩,
  ⟨some 19, some (18, false), .fa 2 (.t 2)⟩,
  ⟨some 20, some (18, false), .ld false 1 (.t 19)⟩,
  ⟨some 21, some (18, false), .fa 2 (.t 3)⟩,
  ⟨some 22, some (18, false), .ld false 1 (.t 21)⟩,
  ⟨some 23, some (18, false), .bop .neq (.t 20) (.t 22)⟩,
  ⟨some 24, none, .pick (.t 18) (.c (.b true)) (.t 23)⟩,
  ⟨some 25, none, .mv (.t 24)⟩,
  ⟨some 26, some (25, false), .fa 3 (.t 2)⟩,
  ⟨some 27, some (25, false), .ld false 1 (.t 26)⟩,
  ⟨some 28, some (25, false), .fa 3 (.t 3)⟩,
  ⟨some 29, some (25, false), .ld false 1 (.t 28)⟩,
  ⟨some 30, some (25, false), .bop .neq (.t 27) (.t 29)⟩,
  ⟨some 31, none, .pick (.t 25) (.c (.b true)) (.t 30)⟩,
  ⟨some 32, none, .mv (.t 31)⟩,
  ⟨some 33, some (32, false), .fa 4 (.t 2)⟩,
  ⟨some 34, some (32, false), .ld false 1 (.t 33)⟩,
  ⟨some 35, some (32, false), .len 1 (.t 34)⟩,
  ⟨some 36, some (32, false), .fa 4 (.t 3)⟩,
  ⟨some 37, some (32, false), .ld false 1 (.t 36)⟩,
  ⟨some 38, some (32, false), .len 1 (.t 37)⟩,
  ⟨some 39, some (32, false), .bop .neq (.t 35) (.t 38)⟩,
  ⟨some 40, none, .pick (.t 32) (.c (.b true)) (.t 39)⟩])
  (.cond (.t 40) (.seq (.reg [⟨some 4, none, .mv (.c (.b false))⟩])
  .ret)
  .skip))
  (.seq (.seq (.reg [⟨some 5, none, .mv (.c (.i .i64 0))⟩])
  (.blk 0 (.loop lp12_0)))
  (.seq (.reg [⟨some 4, none, .mv (.c (.b true))⟩])
  .ret))))⟩

theorem irc12 : cFunc Tryz.prog Tryz.f12 = some ir12 := by kernel_rfl
def lp20_0 : IC := (.seq (.seq (.reg [⟨some 11, none, .mv (.t 5)⟩,
  ⟨some 12, none, .mv (.t 0)⟩,
  ⟨some 13, none, .len 1 (.t 12)⟩,
  ⟨some 14, none, .bop .lss (.t 11) (.t 13)⟩])
  (.cond (.t 14) .skip
  (.exit 0)))
  (.seq (.blk 1 (.seq (.par [⟨some 17, none, .mv (.t 0)⟩,
  ⟨some 18, none, .mv (.t 5)⟩,
  ⟨some 19, none, .ia 5 (.t 17) (.t 18)⟩,
  ⟨some 20, none, .ld true 5 (.t 19)⟩,
  ⟨some 21, none, .mv (.t 1)⟩,
  ⟨some 22, none, .mv (.t 5)⟩,
  ⟨some 23, none, .ia 5 (.t 21) (.t 22)⟩,
  ⟨some 24, none, .ld true 5 (.t 23)⟩,
  ⟨some 25, none, .call 12 [(.t 20), (.t 24)]⟩,
  ⟨some 26, none, .un .not (.t 25)⟩] [0, 0, 3, 7, 0, 0, 48, 112, 255, 511])
  (.cond (.t 26) (.seq (.reg [⟨some 4, none, .mv (.c (.b false))⟩])
  .ret)
  .skip)))
  (.reg [⟨some 15, none, .mv (.t 5)⟩,
  ⟨some 16, none, .bop .add (.t 15) (.c (.i .i64 1))⟩,
  ⟨some 5, none, .mv (.t 16)⟩])))
def ir20 : XF := ⟨27, 2, [(4, none)], (.seq (.reg [⟨some 4, none, .mv (.c (.b false))⟩])
  (.seq (.seq (.reg [⟨some 6, none, .mv (.t 0)⟩,
  ⟨some 7, none, .len 1 (.t 6)⟩,
  ⟨some 8, none, .mv (.t 1)⟩,
  ⟨some 9, none, .len 1 (.t 8)⟩,
  ⟨some 10, none, .bop .neq (.t 7) (.t 9)⟩])
  (.cond (.t 10) (.seq (.reg [⟨some 4, none, .mv (.c (.b false))⟩])
  .ret)
  .skip))
  (.seq (.seq (.reg [⟨some 5, none, .mv (.c (.i .i64 0))⟩])
  (.blk 0 (.loop lp20_0)))
  (.seq (.reg [⟨some 4, none, .mv (.c (.b true))⟩])
  .ret))))⟩

theorem irc20 : cFunc Tryz.prog Tryz.f20 = some ir20 := by kernel_rfl
def lp22_0 : IC := (.seq (.seq (.reg [⟨some 11, none, .mv (.t 5)⟩,
  ⟨some 12, none, .mv (.t 0)⟩,
  ⟨some 13, none, .len 1 (.t 12)⟩,
  ⟨some 14, none, .bop .lss (.t 11) (.t 13)⟩])
  (.cond (.t 14) .skip
  (.exit 0)))
  (.seq (.blk 1 (.seq (.par [⟨some 17, none, .mv (.t 0)⟩,
  ⟨some 18, none, .mv (.t 5)⟩,
  ⟨some 19, none, .ia 2 (.t 17) (.t 18)⟩,
  ⟨some 20, none, .ld true 2 (.t 19)⟩,
  ⟨some 21, none, .mv (.t 1)⟩,
  ⟨some 22, none, .mv (.t 5)⟩,
  ⟨some 23, none, .ia 2 (.t 21) (.t 22)⟩,
  ⟨some 24, none, .ld true 2 (.t 23)⟩,
  ⟨some 25, none, .eqw true [0, 0] (.t 20) (.t 24)⟩] [0, 0, 3, 7, 0, 0, 48, 112, 255])
  (.cond (.t 25) (.seq (.reg [⟨some 4, none, .mv (.c (.b false))⟩])
  .ret)
  .skip)))
  (.reg [⟨some 15, none, .mv (.t 5)⟩,
  ⟨some 16, none, .bop .add (.t 15) (.c (.i .i64 1))⟩,
  ⟨some 5, none, .mv (.t 16)⟩])))
def ir22 : XF := ⟨26, 2, [(4, none)], (.seq (.reg [⟨some 4, none, .mv (.c (.b false))⟩])
  (.seq (.seq (.reg [⟨some 6, none, .mv (.t 0)⟩,
  ⟨some 7, none, .len 1 (.t 6)⟩,
  ⟨some 8, none, .mv (.t 1)⟩,
  ⟨some 9, none, .len 1 (.t 8)⟩,
  ⟨some 10, none, .bop .neq (.t 7) (.t 9)⟩])
  (.cond (.t 10) (.seq (.reg [⟨some 4, none, .mv (.c (.b false))⟩])
  .ret)
  .skip))
  (.seq (.seq (.reg [⟨some 5, none, .mv (.c (.i .i64 0))⟩])
  (.blk 0 (.loop lp22_0)))
  (.seq (.reg [⟨some 4, none, .mv (.c (.b true))⟩])
  .ret))))⟩

theorem irc22 : cFunc Tryz.prog Tryz.f22 = some ir22 := by kernel_rfl
def lp21_0 : IC := (.seq (.seq (.reg [⟨some 11, none, .mv (.t 5)⟩,
  ⟨some 12, none, .mv (.t 0)⟩,
  ⟨some 13, none, .len 1 (.t 12)⟩,
  ⟨some 14, none, .bop .lss (.t 11) (.t 13)⟩])
  (.cond (.t 14) .skip
  (.exit 0)))
  (.seq (.blk 1 (.seq (.par [⟨some 17, none, .mv (.t 0)⟩,
  ⟨some 18, none, .mv (.t 5)⟩,
  ⟨some 19, none, .ia 1 (.t 17) (.t 18)⟩,
  ⟨some 20, none, .ld false 1 (.t 19)⟩,
  ⟨some 21, none, .mv (.t 1)⟩,
  ⟨some 22, none, .mv (.t 5)⟩,
  ⟨some 23, none, .ia 1 (.t 21) (.t 22)⟩,
  ⟨some 24, none, .ld false 1 (.t 23)⟩,
  ⟨some 25, none, .beq true (.t 20) (.t 24)⟩] [0, 0, 3, 7, 0, 0, 48, 112, 255])
  (.cond (.t 25) (.seq (.reg [⟨some 4, none, .mv (.c (.b false))⟩])
  .ret)
  .skip)))
  (.reg [⟨some 15, none, .mv (.t 5)⟩,
  ⟨some 16, none, .bop .add (.t 15) (.c (.i .i64 1))⟩,
  ⟨some 5, none, .mv (.t 16)⟩])))
def ir21 : XF := ⟨26, 2, [(4, none)], (.seq (.reg [⟨some 4, none, .mv (.c (.b false))⟩])
  (.seq (.seq (.reg [⟨some 6, none, .mv (.t 0)⟩,
  ⟨some 7, none, .len 1 (.t 6)⟩,
  ⟨some 8, none, .mv (.t 1)⟩,
  ⟨some 9, none, .len 1 (.t 8)⟩,
  ⟨some 10, none, .bop .neq (.t 7) (.t 9)⟩])
  (.cond (.t 10) (.seq (.reg [⟨some 4, none, .mv (.c (.b false))⟩])
  .ret)
  .skip))
  (.seq (.seq (.reg [⟨some 5, none, .mv (.c (.i .i64 0))⟩])
  (.blk 0 (.loop lp21_0)))
  (.seq (.reg [⟨some 4, none, .mv (.c (.b true))⟩])
  .ret))))⟩

theorem irc21 : cFunc Tryz.prog Tryz.f21 = some ir21 := by kernel_rfl
def lp25_0 : IC := (.seq (.seq (.reg [⟨some 11, none, .mv (.t 5)⟩,
  ⟨some 12, none, .mv (.t 0)⟩,
  ⟨some 13, none, .len 1 (.t 12)⟩,
  ⟨some 14, none, .bop .lss (.t 11) (.t 13)⟩])
  (.cond (.t 14) .skip
  (.exit 0)))
  (.seq (.blk 1 (.seq (.par [⟨some 17, none, .mv (.t 0)⟩,
  ⟨some 18, none, .mv (.t 5)⟩,
  ⟨some 19, none, .ia 1 (.t 17) (.t 18)⟩,
  ⟨some 20, none, .ld false 1 (.t 19)⟩,
  ⟨some 21, none, .mv (.t 1)⟩,
  ⟨some 22, none, .mv (.t 5)⟩,
  ⟨some 23, none, .ia 1 (.t 21) (.t 22)⟩,
  ⟨some 24, none, .ld false 1 (.t 23)⟩,
  ⟨some 25, none, .bop .neq (.t 20) (.t 24)⟩] [0, 0, 3, 7, 0, 0, 48, 112, 255])
  (.cond (.t 25) (.seq (.reg [⟨some 4, none, .mv (.c (.b false))⟩])
  .ret)
  .skip)))
  (.reg [⟨some 15, none, .mv (.t 5)⟩,
  ⟨some 16, none, .bop .add (.t 15) (.c (.i .i64 1))⟩,
  ⟨some 5, none, .mv (.t 16)⟩])))
def ir25 : XF := ⟨26, 2, [(4, none)], (.seq (.reg [⟨some 4, none, .mv (.c (.b false))⟩])
  (.seq (.seq (.reg [⟨some 6, none, .mv (.t 0)⟩,
  ⟨some 7, none, .len 1 (.t 6)⟩,
  ⟨some 8, none, .mv (.t 1)⟩,
  ⟨some 9, none, .len 1 (.t 8)⟩,
  ⟨some 10, none, .bop .neq (.t 7) (.t 9)⟩])
  (.cond (.t 10) (.seq (.reg [⟨some 4, none, .mv (.c (.b false))⟩])
  .ret)
  .skip))
  (.seq (.seq (.reg [⟨some 5, none, .mv (.c (.i .i64 0))⟩])
  (.blk 0 (.loop lp25_0)))
  (.seq (.reg [⟨some 4, none, .mv (.c (.b true))⟩])
  .ret))))⟩

theorem irc25 : cFunc Tryz.prog Tryz.f25 = some ir25 := by kernel_rfl
def lp31_0 : IC := (.seq (.seq (.reg [⟨some 64, none, .mv (.t 5)⟩,
  ⟨some 65, none, .fa 11 (.t 2)⟩,
  ⟨some 66, none, .ld false 1 (.t 65)⟩,
  ⟨some 67, none, .len 1 (.t 66)⟩,
  ⟨some 68, none, .bop .lss (.t 64) (.t 67)⟩])
  (.cond (.t 68) .skip
  (.exit 0)))
  (.seq (.blk 1 (.seq (.par [⟨some 71, none, .fa 11 (.t 2)⟩,
  ⟨some 72, none, .ld false 1 (.t 71)⟩,
  ⟨some 73, none, .mv (.t 5)⟩,
  ⟨some 74, none, .ia 4 (.t 72) (.t 73)⟩,
  ⟨some 75, none, .ld true 4 (.t 74)⟩,
  ⟨some 76, none, .fa 11 (.t 3)⟩,
  ⟨some 77, none, .ld false 1 (.t 76)⟩,
  ⟨some 78, none, .mv (.t 5)⟩,
  ⟨some 79, none, .ia 4 (.t 77) (.t 78)⟩,
  ⟨some 80, none, .ld true 4 (.t 79)⟩,
  ⟨some 81, none, .call 24 [(.t 75), (.t 80)]⟩,
  ⟨some 82, none, .un .not (.t 81)⟩] [0, 1, 0, 7, 15, 0, 32, 0, 224, 480, 1023, 2047])
  (.cond (.t 82) (.seq (.reg [⟨some 4, none, .mv (.c (.b false))⟩])
  .ret)
  .skip)))
  (.reg [⟨some 69, none, .mv (.t 5)⟩,
  ⟨some 70, none, .bop .add (.t 69) (.c (.i .i64 1))⟩,
  ⟨some 5, none, .mv (.t 70)⟩])))
def ir31 : XF := ⟨83, 2, [(4, none)], (.seq (.reg [⟨some 2, none, .box 87 12 (.t 0)⟩,
  ⟨some 3, none, .box 87 12 (.t 1)⟩,
  ⟨some 4, none, .mv (.c (.b false))⟩])
  (.seq (.seq (.reg [⟨some 6, none, .fa 5 (.t 2)⟩,
  ⟨some 7, none, .ld false 1 (.t 6)⟩,
  ⟨some 8, none, .fa 5 (.t 3)⟩,
  ⟨some 9, none, .ld false 1 (.t 8)⟩,
  ⟨some 10, none, .bop .neq (.t 7) (.t 9)⟩,
  ⟨some 11, none, .mv (.t 10)⟩,
  ⟨some 12, some (11, false), .fa 6 (.t 2)⟩,
  ⟨some 13, some (11, false), .ld false 1 (.t 12)⟩,
  ⟨some 14, some (11, false), .fa 6 (.t 3)⟩,
  ⟨some 15, some (11, false), .ld false 1 (.t 14)⟩,
  ⟨some 16, some (11, false), .bop .neq (.t 13) (.t 15)⟩,
  ⟨some 17, none, .pick (.t 11) (.c (.b true)) (.t 16)⟩,
  ⟨some 18, none, .mv (.t 17)⟩,
  ⟨some 19, some (18, false), .fa 7 (.t 2)⟩,
  ⟨some 20, some (18, false), .ld false 1 (.t 19)⟩,
  ⟨some 21, some (18, false), .fa 7 (.t 3)⟩,
  ⟨some 22, some (18, false), .ld false 1 (.t 21)⟩,
  ⟨some 23, some (18, false), .bop .neq (.t 20) (.t 22)⟩,
  ⟨some 24, none, .pick (.t 18) (.c (.b true)) (.t 23)⟩,
  ⟨some 25, none, .mv (.t 24)⟩,
  ⟨some 26, some (25, false), .fa 8 (.t 2)⟩,
  ⟨some 27, some (25, false), .ld false 1 (.t 26)⟩,
  ⟨some 28, some (25, false), .fa 8 (.t 3)⟩,
  ⟨some 29, some (25, false), .ld false 1 (.t 28)⟩,
  ⟨some 30, some (25, false), .bop .neq (.t 27) (.t 29)⟩,
  ⟨some 31, none, .pick (.t 25) (.c (.b true)) (.t 30)⟩,
  ⟨some 32, none, .mv (.t 31)⟩,
  ⟨some 33, some (32, false), .fa 9 (.t 2)⟩,
  ⟨some 34, some (32, false), .ld false 1 (.t 33)⟩,
  ⟨some 35, some (32, false), .fa 9 (.t 3)⟩,
  ⟨some 36, some (32, false), .ld false 1 (.t 35)⟩,
  ⟨some 37, some (32, false), .bop .neq (.t 34) (.t 36)⟩,
  ⟨some 38, none, .pick (.t 32) (.c (.b true)) (.t 37)⟩,
  ⟨some 39, none, .mv (.t 38)⟩,
  ⟨some 40, some (39, false), .fa 0 (.t 2)⟩,
  ⟨some 41, some (39, false), .ld true 5 (.t 40)⟩,
  ⟨some 42, some (39, false), .fa 0 (.t 3)⟩,
  ⟨some 43, some (39, false), .ld true 5 (.t 42)⟩,
  ⟨some 44, some (39, false), .call 12 [(.t 41), (.t 43)]⟩,
  ⟨some 45, some (39, false), .un .not (.t 44)⟩,
  ⟨some 46, none, .pick (.t 39) (.c (.b true)) (.t 45)⟩,
  ⟨some 47, none, .mv (.t 46)⟩,
  ⟨some 48, some (47, false), .fa 10 (.t 2)⟩,
  ⟨some 49, some (47, false), .ld false 1 (.t 48)⟩,
  ⟨some 50, some (47, false), .fa 10 (.t 3)⟩,
  ⟨some 51, some (47, false), .ld false 1 (.t 50)⟩,
  ⟨some 52, some (47, false), .call 20 [(.t 49), (.t 51)]⟩,
  ⟨some 53, some (47, false), .un .not (.t 52)⟩,
  ⟨some 54, none, .pick (.t 47) (.c (.b true)) (.t 53)⟩,
  ⟨some 55, none, .mv (.t 54)⟩,
  ⟨some 56, some (55, false), .fa 11 (.t 2)⟩,
  ⟨some 57, some (55, false), .ld false 1 (.t 56)⟩,
  ⟨some 58, some (55, false), .len 1 (.t 57)⟩,
  ⟨some 59, some (55, false), .fa 11 (.t 3)⟩,
  ⟨some 60, some (55, false), .ld false 1 (.t 59)⟩,
  ⟨some 61, some (55, false), .len 1 (.t 60)⟩,
  ⟨some 62, some (55, false), .bop .neq (.t 58) (.t 61)⟩,
  ⟨some 63, none, .pick (.t 55) (.c (.b true)) (.t 62)⟩])
  (.cond (.t 63) (.seq (.reg [⟨some 4, none, .mv (.c (.b false))⟩])
  .ret)
  .skip))
  (.seq (.seq (.reg [⟨some 5, none, .mv (.c (.i .i64 0))⟩])
  (.blk 0 (.loop lp31_0)))
  (.seq (.reg [⟨some 4, none, .mv (.c (.b true))⟩])
  .ret))))⟩

theorem irc31 : cFunc Tryz.prog Tryz.f31 = some ir31 := by kernel_rfl
def lp24_0 : IC := (.seq (.seq (.reg [⟨some 34, none, .mv (.t 5)⟩,
  ⟨some 35, none, .fa 3 (.t 2)⟩,
  ⟨some 36, none, .ld false 1 (.t 35)⟩,
  ⟨some 37, none, .len 1 (.t 36)⟩,
  ⟨some 38, none, .bop .lss (.t 34) (.t 37)⟩])
  (.cond (.t 38) .skip
  (.exit 0)))
  (.seq (.blk 1 (.seq (.par [⟨some 41, none, .fa 3 (.t 2)⟩,
  ⟨some 42, none, .ld false 1 (.t 41)⟩,
  ⟨some 43, none, .mv (.t 5)⟩,
  ⟨some 44, none, .ia 12 (.t 42) (.t 43)⟩,
  ⟨some 45, none, .ld true 12 (.t 44)⟩,
  ⟨some 46, none, .fa 3 (.t 3)⟩,
  ⟨some 47, none, .ld false 1 (.t 46)⟩,
  ⟨some 48, none, .mv (.t 5)⟩,
  ⟨some 49, none, .ia 12 (.t 47) (.t 48)⟩,
  ⟨some 50, none, .ld true 12 (.t 49)⟩,
  ⟨some 51, none, .call 31 [(.t 45), (.t 50)]⟩,
  ⟨some 52, none, .un .not (.t 51)⟩] [0, 1, 0, 7, 15, 0, 32, 0, 224, 480, 1023, 2047])
  (.cond (.t 52) (.seq (.reg [⟨some 4, none, .mv (.c (.b false))⟩])
  .ret)
  .skip)))
  (.reg [⟨some 39, none, .mv (.t 5)⟩,
  ⟨some 40, none, .bop .add (.t 39) (.c (.i .i64 1))⟩,
  ⟨some 5, none, .mv (.t 40)⟩])))
def ir24 : XF := ⟨53, 2, [(4, none)], (.seq (.reg [⟨some 2, none, .box 38 4 (.t 0)⟩,
  ⟨some 3, none, .box 38 4 (.t 1)⟩,
  ⟨some 4, none, .mv (.c (.b false))⟩])
  (.seq (.seq (.reg [⟨some 6, none, .fa 0 (.t 2)⟩,
  ⟨some 7, none, .ld false 1 (.t 6)⟩,
  ⟨some 8, none, .fa 0 (.t 3)⟩,
  ⟨some 9, none, .ld false 1 (.t 8)⟩,
  ⟨some 10, none, .bop .neq (.t 7) (.t 9)⟩,
  ⟨some 11, none, .mv (.t 10)⟩,
  ⟨some 12, some (11, false), .fa 1 (.t 2)⟩,
  ⟨some 13, some (11, false), .ld false 1 (.t 12)⟩,
  ⟨some 14, some (11, false), .fa 1 (.t 3)⟩,
  ⟨some 15, some (11, false), .ld false 1 (.t 14)⟩,
  ⟨some 16, some (11, false), .bop .neq (.t 13) (.t 15)⟩,
  ⟨some 17, none, .pick (.t 11) (.c (.b true)) (.t 16)⟩,
  ⟨some 18, none, .mv (.t 17)⟩,
  ⟨some 19, some (18, false), .fa 2 (.t 2)⟩,
  ⟨some 20, some (18, false), .ld false 1 (.t 19)⟩,
  ⟨some 21, some (18, false), .fa 2 (.t 3)⟩,
  ⟨some 22, some (18, false), .ld false 1 (.t 21)⟩,
  ⟨some 23, some (18, false), .bop .neq (.t 20) (.t 22)⟩,
  ⟨some 24, none, .pick (.t 18) (.c (.b true)) (.t 23)⟩,
  ⟨some 25, none, .mv (.t 24)⟩,
  ⟨some 26, some (25, false), .fa 3 (.t 2)⟩,
  ⟨some 27, some (25, false), .ld false 1 (.t 26)⟩,
  ⟨some 28, some (25, false), .len 1 (.t 27)⟩,
  ⟨some 29, some (25, false), .fa 3 (.t 3)⟩,
  ⟨some 30, some (25, false), .ld false 1 (.t 29)⟩,
  ⟨some 31, some (25, false), .len 1 (.t 30)⟩,
  ⟨some 32, some (25, false), .bop .neq (.t 28) (.t 31)⟩,
  ⟨some 33, none, .pick (.t 25) (.c (.b true)) (.t 32)⟩])
  (.cond (.t 33) (.seq (.reg [⟨some 4, none, .mv (.c (.b false))⟩])
  .ret)
  .skip))
  (.seq (.seq (.reg [⟨some 5, none, .mv (.c (.i .i64 0))⟩])
  (.blk 0 (.loop lp24_0)))
  (.seq (.reg [⟨some 4, none, .mv (.c (.b true))⟩])
  .ret))))⟩

theorem irc24 : cFunc Tryz.prog Tryz.f24 = some ir24 := by kernel_rfl
def lp23_0 : IC := (.seq (.seq (.reg [⟨some 11, none, .mv (.t 5)⟩,
  ⟨some 12, none, .mv (.t 0)⟩,
  ⟨some 13, none, .len 1 (.t 12)⟩,
  ⟨some 14, none, .bop .lss (.t 11) (.t 13)⟩])
  (.cond (.t 14) .skip
  (.exit 0)))
  (.seq (.blk 1 (.seq (.par [⟨some 17, none, .mv (.t 0)⟩,
  ⟨some 18, none, .mv (.t 5)⟩,
  ⟨some 19, none, .ia 13 (.t 17) (.t 18)⟩,
  ⟨some 20, none, .fa 12 (.t 19)⟩,
  ⟨some 21, none, .ld false 1 (.t 20)⟩,
  ⟨some 22, none, .mv (.t 1)⟩,
  ⟨some 23, none, .mv (.t 5)⟩,
  ⟨some 24, none, .ia 13 (.t 22) (.t 23)⟩,
  ⟨some 25, none, .fa 12 (.t 24)⟩,
  ⟨some 26, none, .ld false 1 (.t 25)⟩,
  ⟨some 27, none, .bop .neq (.t 21) (.t 26)⟩,
  ⟨some 28, none, .mv (.t 27)⟩,
  ⟨some 29, some (28, false), .mv (.t 0)⟩,
  ⟨some 30, some (28, false), .mv (.t 5)⟩,
  ⟨some 31, some (28, false), .ia 13 (.t 29) (.t 30)⟩,
  ⟨some 32, some (28, false), .fa 0 (.t 31)⟩,
  ⟨some 33, some (28, false), .ld true 12 (.t 32)⟩,
  ⟨some 34, some (28, false), .mv (.t 1)⟩,
  ⟨some 35, some (28, false), .mv (.t 5)⟩,
  ⟨some 36, some (28, false), .ia 13 (.t 34) (.t 35)⟩,
  ⟨some 37, some (28, false), .fa 0 (.t 36)⟩,
  ⟨some 38, some (28, false), .ld true 12 (.t 37)⟩,
  ⟨some 39, some (28, false), .call 31 [(.t 33), (.t 38)]⟩,
  ⟨some 40, some (28, false), .un .not (.t 39)⟩,
  ⟨some 41, none, .pick (.t 28) (.c (.b true)) (.t 40)⟩] [0, 0, 3, 7, 15, 0, 0, 96, 224, 480, 1023, 2047, 4095, 4095, 16383, 32767, 65535, 4095, 4095, 397311, 921599, 1970175, 4194303, 8388607, 16777215])
  (.cond (.t 41) (.seq (.reg [⟨some 4, none, .mv (.c (.b false))⟩])
  .ret)
  .skip)))
  (.reg [⟨some 15, none, .mv (.t 5)⟩,
  ⟨some 16, none, .bop .add (.t 15) (.c (.i .i64 1))⟩,
  ⟨some 5, none, .mv (.t 16)⟩])))
def ir23 : XF := ⟨42, 2, [(4, none)], (.seq (.reg [⟨some 4, none, .mv (.c (.b false))⟩])
  (.seq (.seq (.reg [⟨some 6, none, .mv (.t 0)⟩,
  ⟨some 7, none, .len 1 (.t 6)⟩,
  ⟨some 8, none, .mv (.t 1)⟩,
  ⟨some 9, none, .len 1 (.t 8)⟩,
  ⟨some 10, none, .bop .neq (.t 7) (.t 9)⟩])
  (.cond (.t 10) (.seq (.reg [⟨some 4, none, .mv (.c (.b false))⟩])
  .ret)
  .skip))
  (.seq (.seq (.reg [⟨some 5, none, .mv (.c (.i .i64 0))⟩])
  (.blk 0 (.loop lp23_0)))
  (.seq (.reg [⟨some 4, none, .mv (.c (.b true))⟩])
  .ret))))⟩

theorem irc23 : cFunc Tryz.prog Tryz.f23 = some ir23 := by kernel_rfl
def ir9 : XF := ⟨151, 2, [(4, none)], (.seq (.reg [⟨some 2, none, .box 43 35 (.t 0)⟩,
  ⟨some 3, none, .box 43 35 (.t 1)⟩,
  ⟨some 4, none, .mv (.c (.b false))⟩])
  (.seq (.seq (.reg [⟨some 7, none, .fa 0 (.t 2)⟩,
  ⟨some 8, none, .ld false 1 (.t 7)⟩,
  ⟨some 9, none, .fa 0 (.t 3)⟩,
  ⟨some 10, none, .ld false 1 (.t 9)⟩,
  ⟨some 11, none, .bop .neq (.t 8) (.t 10)⟩,
  ⟨some 12, none, .mv (.t 11)⟩,
  ⟨some 13, some (12, false), .fa 1 (.t 2)⟩,
  ⟨some 14, some (12, false), .ld false 1 (.t 13)⟩,
  ⟨some 15, some (12, false), .fa 1 (.t 3)⟩,
  ⟨some 16, some (12, false), .ld false 1 (.t 15)⟩,
  ⟨some 17, some (12, false), .bop .neq (.t 14) (.t 16)⟩,
  ⟨some 18, none, .pick (.t 12) (.c (.b true)) (.t 17)⟩,
  ⟨some 19, none, .mv (.t 18)⟩,
  ⟨some 20, some (19, false), .fa 2 (.t 2)⟩,
  ⟨some 21, some (19, false), .ld false 1 (.t 20)⟩,
  ⟨some 22, some (19, false), .fa 2 (.t 3)⟩,
  ⟨some 23, some (19, false), .ld false 1 (.t 22)⟩,
  ⟨some 24, some (19, false), .bop .neq (.t 21) (.t 23)⟩,
  ⟨some 25, none, .pick (.t 19) (.c (.b true)) (.t 24)⟩,
  ⟨some 26, none, .mv (.t 25)⟩,
  ⟨some 27, some (26, false), .fa 7 (.t 2)⟩,
  ⟨some 28, some (26, false), .ld false 1 (.t 27)⟩,
  ⟨some 29, some (26, false), .fa 7 (.t 3)⟩,
  ⟨some 30, some (26, false), .ld false 1 (.t 29)⟩,
  ⟨some 31, some (26, false), .bop .neq (.t 28) (.t 30)⟩,
  ⟨some 32, none, .pick (.t 26) (.c (.b true)) (.t 31)⟩,
  ⟨some 33, none, .mv (.t 32)⟩,
  ⟨some 34, some (33, false), .fa 3 (.t 2)⟩,
  ⟨some 35, some (33, false), .ld false 1 (.t 34)⟩,
  ⟨some 36, some (33, false), .fa 3 (.t 3)⟩,
  ⟨some 37, some (33, false), .ld false 1 (.t 36)⟩,
  ⟨some 38, some (33, false), .call 20 [(.t 35), (.t 37)]⟩,
  ⟨some 39, some (33, false), .un .not (.t 38)⟩,
  ⟨some 40, none, .pick (.t 33) (.c (.b true)) (.t 39)⟩,
  ⟨some 41, none, .mv (.t 40)⟩,
  ⟨some 42, some (41, false), .fa 4 (.t 2)⟩,
  ⟨some 43, some (41, false), .ld false 1 (.t 42)⟩,
  ⟨some 44, some (41, false), .fa 4 (.t 3)⟩,
  ⟨some 45, some (41, false), .ld false 1 (.t 44)⟩,
  ⟨some 46, some (41, false), .call 21 [(.t 43), (.t 45)]⟩,
  ⟨some 47, some (41, false), .un .not (.t 46)⟩,
  ⟨some 48, none, .pick (.t 41) (.c (.b true)) (.t 47)⟩,
  ⟨some 49, none, .mv (.t 48)⟩,
  ⟨some 50, some (49, false), .fa 5 (.t 2)⟩,
  ⟨some 51, some (49, false), .ld false 1 (.t 50)⟩,
  ⟨some 52, some (49, false), .fa 5 (.t 3)⟩,
  ⟨some 53, some (49, false), .ld false 1 (.t 52)⟩,
  ⟨some 54, some (49, false), .call 20 [(.t 51), (.t 53)]⟩,
  ⟨some 55, some (49, false), .un .not (.t 54)⟩,
  ⟨some 56, none, .pick (.t 49) (.c (.b true)) (.t 55)⟩,
  ⟨some 57, none, .mv (.t 56)⟩,
  ⟨some 58, some (57, false), .fa 6 (.t 2)⟩,
  ⟨some 59, some (57, false), .ld false 1 (.t 58)⟩,
  ⟨some 60, some (57, false), .fa 6 (.t 3)⟩,
  ⟨some 61, some (57, false), .ld false 1 (.t 60)⟩,
  ⟨some 62, some (57, false), .call 22 [(.t 59), (.t 61)]⟩,
  ⟨some 63, some (57, false), .un .not (.t 62)⟩,
  ⟨some 64, none, .pick (.t 57) (.c (.b true)) (.t 63)⟩])
  (.cond (.t 64) (.seq (.reg [⟨some 4, none, .mv (.c (.b false))⟩])
  .ret)
  .skip))
  (.seq (.par [⟨some 65, none, .fa 8 (.t 2)⟩,
  ⟨some 66, none, .ld true 27 (.t 65)⟩,
  ⟨some 67, none, .fa 8 (.t 3)⟩,
  ⟨some 68, none, .ld true 27 (.t 67)⟩,
  ⟨some 5, none, .box 41 27 (.c (.ag [(.i .i8 0), (.i .i64 0), (.i .i64 0), (.i .i64 0), (.i .i64 0), (.i .i8 0), (.i .i64 0), (.s []), (.s []), .sln, (.i .i8 0), (.i .i64 0), (.s []), (.s []), .sln, (.i .i8 0), (.i .i64 0), (.s []), (.s []), .sln, .sln, (.i .i8 0), (.i .i64 0), (.i .i64 0), .sln, .sln, .sln]))⟩,
  ⟨some 6, none, .box 41 27 (.c (.ag [(.i .i8 0), (.i .i64 0), (.i .i64 0), (.i .i64 0), (.i .i64 0), (.i .i8 0), (.i .i64 0), (.s []), (.s []), .sln, (.i .i8 0), (.i .i64 0), (.s []), (.s []), .sln, (.i .i8 0), (.i .i64 0), (.s []), (.s []), .sln, .sln, (.i .i8 0), (.i .i64 0), (.i .i64 0), .sln, .sln, .sln]))⟩,
  ⟨none, none, .st 27 (.t 5) (.t 66)⟩,
  ⟨none, none, .st 27 (.t 6) (.t 68)⟩] [0, 1, 0, 4, 0, 0, 51, 127])
  (.seq (.reg [⟨some 69, none, .fa 0 (.t 5)⟩,
  ⟨some 70, none, .ld false 1 (.t 69)⟩,
  ⟨some 71, none, .fa 0 (.t 6)⟩,
  ⟨some 72, none, .ld false 1 (.t 71)⟩,
  ⟨some 73, none, .bop .eql (.t 70) (.t 72)⟩,
  ⟨some 74, none, .mv (.t 73)⟩,
  ⟨some 75, some (74, true), .fa 1 (.t 5)⟩,
  ⟨some 76, some (74, true), .ld false 1 (.t 75)⟩,
  ⟨some 77, some (74, true), .fa 1 (.t 6)⟩,
  ⟨some 78, some (74, true), .ld false 1 (.t 77)⟩,
  ⟨some 79, some (74, true), .bop .eql (.t 76) (.t 78)⟩,
  ⟨some 80, none, .pick (.t 74) (.t 79) (.c (.b false))⟩,
  ⟨some 81, none, .mv (.t 80)⟩,
  ⟨some 82, some (81, true), .fa 2 (.t 5)⟩,
  ⟨some 83, some (81, true), .ld false 1 (.t 82)⟩,
  ⟨some 84, some (81, true), .fa 2 (.t 6)⟩,
  ⟨some 85, some (81, true), .ld false 1 (.t 84)⟩,
  ⟨some 86, some (81, true), .bop .eql (.t 83) (.t 85)⟩,
  ⟨some 87, none, .pick (.t 81) (.t 86) (.c (.b false))⟩,
  ⟨some 88, none, .mv (.t 87)⟩,
  ⟨some 89, some (88, true), .fa 3 (.t 5)⟩,
  ⟨some 90, some (88, true), .ld false 1 (.t 89)⟩,
  ⟨some 91, some (88, true), .fa 3 (.t 6)⟩,
  ⟨some 92, some (88, true), .ld false 1 (.t 91)⟩,
  ⟨some 93, some (88, true), .bop .eql (.t 90) (.t 92)⟩,
  ⟨some 94, none, .pick (.t 88) (.t 93) (.c (.b false))⟩,
  ⟨some 95, none, .mv (.t 94)⟩,
  ⟨some 96, some (95, true), .fa 4 (.t 5)⟩,
  ⟨some 97, some (95, true), .ld false 1 (.t 96)⟩,
  ⟨some 98, some (95, true), .fa 4 (.t 6)⟩,
  ⟨some 99, some (95, true), .ld false 1 (.t 98)⟩,
  ⟨some 100, some (95, true), .bop .eql (.t 97) (.t 99)⟩,
  ⟨some 101, none, .pick (.t 95) (.t 100) (.c (.b false))⟩,
  ⟨some 102, none, .mv (.t 101)⟩,
  ⟨some 103, some (102, true), .fa 5 (.t 5)⟩,
  ⟨some 104, some (102, true), .ld true 5 (.t 103)⟩,
  ⟨some 105, some (102, true), .fa 5 (.t 6)⟩,
  ⟨some 106, some (102, true), .ld true 5 (.t 105)⟩,
  ⟨some 107, some (102, true), .call 12 [(.t 104), (.t 106)]⟩,
  ⟨some 108, none, .pick (.t 102) (.t 107) (.c (.b false))⟩,
  ⟨some 109, none, .mv (.t 108)⟩,
  ⟨some 110, some (109, true), .fa 10 (.t 5)⟩,
  ⟨some 111, some (109, true), .ld true 5 (.t 110)⟩,
  ⟨some 112, some (109, true), .fa 10 (.t 6)⟩,
  ⟨some 113, some (109, true), .ld true 5 (.t 112)⟩,
  ⟨some 114, some (109, true), .call 12 [(.t 111), (.t 113)]⟩,
  ⟨some 115, none, .pick (.t 109) (.t 114) (.c (.b false))⟩,
  ⟨some 116, none, .mv (.t 115)⟩,
  ⟨some 117, some (116, true), .fa 15 (.t 5)⟩,
  ⟨some 118, some (116, true), .ld true 5 (.t 117)⟩,
  ⟨some 119, some (116, true), .fa 15 (.t 6)⟩,
  ⟨some 120, some (116, true), .ld true 5 (.t 119)⟩,
  ⟨some 121, some (116, true), .call 12 [(.t 118), (.t 120)]⟩,
  ⟨some 122, none, .pick (.t 116) (.t 121) (.c (.b false))⟩,
  ⟨some 123, none, .mv (.t 122)⟩,
  ⟨some 124, some (123, true), .fa 20 (.t 5)⟩,
  ⟨some 125, some (123, true), .ld false 1 (.t 124)⟩,
  ⟨some 126, some (123, true), .fa 20 (.t 6)⟩,
  ⟨some 127, some (123, true), .ld false 1 (.t 126)⟩,
  ⟨some 128, some (123, true), .call 23 [(.t 125), (.t 127)]⟩,
  ⟨some 129, none, .pick (.t 123) (.t 128) (.c (.b false))⟩,
  ⟨some 130, none, .mv (.t 129)⟩,
  ⟨some 131, some (130, true), .fa 21 (.t 5)⟩,
  ⟨some 132, some (130, true), .ld true 4 (.t 131)⟩,
  ⟨some 133, some (130, true), .fa 21 (.t 6)⟩,
  ⟨some 134, some (130, true), .ld true 4 (.t 133)⟩,
  ⟨some 135, some (130, true), .call 24 [(.t 132), (.t 134)]⟩,
  ⟨some 136, none, .pick (.t 130) (.t 135) (.c (.b false))⟩,
  ⟨some 137, none, .mv (.t 136)⟩,
  ⟨some 138, some (137, true), .fa 25 (.t 5)⟩,
  ⟨some 139, some (137, true), .ld false 1 (.t 138)⟩,
  ⟨some 140, some (137, true), .fa 25 (.t 6)⟩,
  ⟨some 141, some (137, true), .ld false 1 (.t 140)⟩,
  ⟨some 142, some (137, true), .call 25 [(.t 139), (.t 141)]⟩,
  ⟨some 143, none, .pick (.t 137) (.t 142) (.c (.b false))⟩,
  ⟨some 144, none, .mv (.t 143)⟩,
  ⟨some 145, some (144, true), .fa 26 (.t 5)⟩,
  ⟨some 146, some (144, true), .ld false 1 (.t 145)⟩,
  ⟨some 147, some (144, true), .fa 26 (.t 6)⟩,
  ⟨some 148, some (144, true), .ld false 1 (.t 147)⟩,
  ⟨some 149, some (144, true), .call 25 [(.t 146), (.t 148)]⟩,
  ⟨some 150, none, .pick (.t 144) (.t 149) (.c (.b false))⟩,
  ⟨some 4, none, .mv (.t 150)⟩])
  .ret))))⟩

theorem irc9 : cFunc Tryz.prog Tryz.f9 = some ir9 := by kernel_rfl
def lp13_0 : IC := (.seq (.seq (.reg [⟨some 11, none, .mv (.t 5)⟩,
  ⟨some 12, none, .mv (.t 0)⟩,
  ⟨some 13, none, .len 1 (.t 12)⟩,
  ⟨some 14, none, .bop .lss (.t 11) (.t 13)⟩])
  (.cond (.t 14) .skip
  (.exit 0)))
  (.seq (.blk 1 (.seq (.par [⟨some 17, none, .mv (.t 0)⟩,
  ⟨some 18, none, .mv (.t 5)⟩,
  ⟨some 19, none, .ia 35 (.t 17) (.t 18)⟩,
  ⟨some 20, none, .ld true 35 (.t 19)⟩,
  ⟨some 21, none, .mv (.t 1)⟩,
  ⟨some 22, none, .mv (.t 5)⟩,
  ⟨some 23, none, .ia 35 (.t 21) (.t 22)⟩,
  ⟨some 24, none, .ld true 35 (.t 23)⟩,
  ⟨some 25, none, .call 9 [(.t 20), (.t 24)]⟩,
  ⟨some 26, none, .un .not (.t 25)⟩] [0, 0, 3, 7, 0, 0, 48, 112, 255, 511])
  (.cond (.t 26) (.seq (.reg [⟨some 4, none, .mv (.c (.b false))⟩])
  .ret)
  .skip)))
  (.reg [⟨some 15, none, .mv (.t 5)⟩,
  ⟨some 16, none, .bop .add (.t 15) (.c (.i .i64 1))⟩,
  ⟨some 5, none, .mv (.t 16)⟩])))
def ir13 : XF := ⟨27, 2, [(4, none)], (.seq (.reg [⟨some 4, none, .mv (.c (.b false))⟩])
  (.seq (.seq (.reg [⟨some 6, none, .mv (.t 0)⟩,
  ⟨some 7, none, .len 1 (.t 6)⟩,
  ⟨some 8, none, .mv (.t 1)⟩,
  ⟨some 9, none, .len 1 (.t 8)⟩,
  ⟨some 10, none, .bop .neq (.t 7) (.t 9)⟩])
  (.cond (.t 10) (.seq (.reg [⟨some 4, none, .mv (.c (.b false))⟩])
  .ret)
  .skip))
  (.seq (.seq (.reg [⟨some 5, none, .mv (.c (.i .i64 0))⟩])
  (.blk 0 (.loop lp13_0)))
  (.seq (.reg [⟨some 4, none, .mv (.c (.b true))⟩])
  .ret))))⟩

theorem irc13 : cFunc Tryz.prog Tryz.f13 = some ir13 := by kernel_rfl
def tabI : Trie XF := .lf
def tabL : List (Nat × XF) := []
theorem tabI_eq : tabI = ofList tabL := by kernel_rfl
theorem tabI_ok : TabOk Tryz.prog tabI := tab_of tabI_eq (by kernel_rfl) fun p hp => by
  simp only [tabL, List.mem_cons, List.not_mem_nil, or_false] at hp
abbrev cal : CallT := run mth tabI noOrc 1000 20
theorem pu_of {f : Nat} {fn : Func} {x : XF} (hfn : Tryz.prog.funcs[f]? = some fn) (hc : cFunc Tryz.prog fn = some x) {args : List TV} {pa : List PA} {v : TV} {obs : List Ob} (hx : funO 6 mth cal 1000 x args pa = some (v, obs)) (hv : v.flat = true) (ho : Owes Tryz.prog rho obs) : Pu f args v :=
  pu_of' tabI_ok hfn hc hx hv ho
theorem lp_more {x : IC} {ks : List Nat} {m : Nat} {e e2 e' : Trie TV} {t t2 t' : Trie TB} {n n' : Nat} {pa : List PA} {ex : EX} {obs : List Ob} (hx : bodyO 6 mth cal 1000 x ks m e t n pa = some (.nrm, e2, t2, obs)) (ho : Owes Tryz.prog rho obs) (hl : LoopC Tryz.prog rho x e2 t2 m ex e' t' n') : LoopC Tryz.prog rho x e t n ex e' t' n' :=
  lp_more' tabI_ok hx ho hl
theorem lp_end {x : IC} {ks : List Nat} {m : Nat} {e e2 : Trie TV} {t t2 : Trie TB} {n : Nat} {pa : List PA} {ex : EX} {obs : List Ob} (hx : bodyO 6 mth cal 1000 x ks m e t n pa = some (ex, e2, t2, obs)) (hne : ex ≠ .nrm) (ho : Owes Tryz.prog rho obs) : LoopC Tryz.prog rho x e t n ex e2 t2 m :=
  lp_end' tabI_ok hx hne ho
theorem sal_0r (d : Dat) (k : Int) : bodyO 6 mth cal 1000 lp20_0 [0, 1, 4, 5] 6 (mkE [(0, (.es 26 d)), (1, (.es 26 d)), (4, (.b false)), (5, (.i .i64 k))]) (mkT []) 6 [.br true, .cl [.as, .as] (.b true)] = some (.nrm, (mkE [(0, (.es 26 d)), (1, (.es 26 d)), (4, (.b false)), (5, (.i .i64 (k + 1)))]), (mkT []), [.eqb (Sx.underK 6 (mkE [(0, (.es 26 d)), (1, (.es 26 d)), (4, (.b false)), (5, (.i .i64 (k + 1)))]) [0, 1, 4, 5]) true, .eqb (Sx.underT 6 (mkT [])) true, .eqb (Sx.inK .i64 (k + 1)) true, .call 12 [(.ag [(.i .i8 (Dat.int (List.getD (List.getD (Dat.rows d) (Int.toNat k) []) 0 .o))), (.i .i64 (Dat.int (List.getD (List.getD (Dat.rows d) (Int.toNat k) []) 1 .o))), (.s (Dat.str (List.getD (List.getD (Dat.rows d) (Int.toNat k) []) 2 .o))), (.s (Dat.str (List.getD (List.getD (Dat.rows d) (Int.toNat k) []) 3 .o))), (.es 26 (List.getD (List.getD (Dat.rows d) (Int.toNat k) []) 4 .o))]), (.ag [(.i .i8 (Dat.int (List.getD (List.getD (Dat.rows d) (Int.toNat k) []) 0 .o))), (.i .i64 (Dat.int (List.getD (List.getD (Dat.rows d) (Int.toNat k) []) 1 .o))), (.s (Dat.str (List.getD (List.getD (Dat.rows d) (Int.toNat k) []) 2 .o))), (.s (Dat.str (List.getD (List.getD (Dat.rows d) (Int.toNat k) []) 3 .o))), (.es 26 (List.getD (List.getD (Dat.rows d) (Int.toNat k) []) 4 .o))])] (.b true), .eqb (freeL []) true, .eqb (TV.free (.ag [(.i .i8 (Dat.int (List.getD (List.getD (Dat.rows d) (Int.toNat k) []) 0 .o))), (.i .i64 (Dat.int (List.getD (List.getD (Dat.rows d) (Int.toNat k) []) 1 .o))), (.s (Dat.str (List.getD (List.getD (Dat.rows d) (Int.toNat k) []) 2 .o))), (.s (Dat.str (List.getD (List.getD (Dat.rows d) (Int.toNat k) []) 3 .o))), (.es 26 (List.getD (List.getD (Dat.rows d) (Int.toNat k) []) 4 .o))])) true, .eqb (TV.free (.ag [(.i .i8 (Dat.int (List.getD (List.getD (Dat.rows d) (Int.toNat k) []) 0 .o))), (.i .i64 (Dat.int (List.getD (List.getD (Dat.rows d) (Int.toNat k) []) 1 .o))), (.s (Dat.str (List.getD (List.getD (Dat.rows d) (Int.toNat k) []) 2 .o))), (.s (Dat.str (List.getD (List.getD (Dat.rows d) (Int.toNat k) []) 3 .o))), (.es 26 (List.getD (List.getD (Dat.rows d) (Int.toNat k) []) 4 .o))])) true, .eqb (Sx.inB k (List.length (Dat.rows d))) true, .eqb (Sx.inB k (List.length (Dat.rows d))) true, .eqb (decide (k < (List.length (Dat.rows d) : Int))) true]) := by kernel_rfl
theorem sal_0 (d : Dat) (k : Int) (h0 : (decide (k < (List.length (Dat.rows d) : Int))) = true) (s0 : (Sx.inK .i64 (k + 1)) = true) (c1 : Pu 12 [(.ag [(.i .i8 (Dat.int (List.getD (List.getD (Dat.rows d) (Int.toNat k) []) 0 .o))), (.i .i64 (Dat.int (List.getD (List.getD (Dat.rows d) (Int.toNat k) []) 1 .o))), (.s (Dat.str (List.getD (List.getD (Dat.rows d) (Int.toNat k) []) 2 .o))), (.s (Dat.str (List.getD (List.getD (Dat.rows d) (Int.toNat k) []) 3 .o))), (.es 26 (List.getD (List.getD (Dat.rows d) (Int.toNat k) []) 4 .o))]), (.ag [(.i .i8 (Dat.int (List.getD (List.getD (Dat.rows d) (Int.toNat k) []) 0 .o))), (.i .i64 (Dat.int (List.getD (List.getD (Dat.rows d) (Int.toNat k) []) 1 .o))), (.s (Dat.str (List.getD (List.getD (Dat.rows d) (Int.toNat k) []) 2 .o))), (.s (Dat.str (List.getD (List.getD (Dat.rows d) (Int.toNat k) []) 3 .o))), (.es 26 (List.getD (List.getD (Dat.rows d) (Int.toNat k) []) 4 .o))])] (.b true)) (s2 : (Sx.inB k (List.length (Dat.rows d))) = true) {EX : EX} {EE : Trie TV} {ET : Trie TB} {EN : Nat} (more : LoopC Tryz.prog rho lp20_0 (mkE [(0, (.es 26 d)), (1, (.es 26 d)), (4, (.b false)), (5, (.i .i64 (k + 1)))]) (mkT []) 6 EX EE ET EN) : LoopC Tryz.prog rho lp20_0 (mkE [(0, (.es 26 d)), (1, (.es 26 d)), (4, (.b false)), (5, (.i .i64 k))]) (mkT []) 6 EX EE ET EN :=
  lp_more (sal_0r d k) ⟨(of_eqb (by kernel_rfl)), (of_eqb (by kernel_rfl)), s0, c1, rfl, rfl, rfl, s2, s2, h0, trivial⟩ more
theorem sal_1r (d : Dat) (k : Int) : bodyO 6 mth cal 1000 lp20_0 [0, 1, 4, 5] 6 (mkE [(0, (.es 26 d)), (1, (.es 26 d)), (4, (.b false)), (5, (.i .i64 k))]) (mkT []) 6 [.br false] = some ((.exit 0), (mkE [(0, (.es 26 d)), (1, (.es 26 d)), (4, (.b false)), (5, (.i .i64 k))]), (mkT []), [.eqb (Sx.underK 6 (mkE [(0, (.es 26 d)), (1, (.es 26 d)), (4, (.b false)), (5, (.i .i64 k))]) [0, 1, 4, 5]) true, .eqb (Sx.underT 6 (mkT [])) true, .eqb (decide (k < (List.length (Dat.rows d) : Int))) false]) := by kernel_rfl
theorem sal_1 (d : Dat) (k : Int) (h0 : (decide (k < (List.length (Dat.rows d) : Int))) = false) : LoopC Tryz.prog rho lp20_0 (mkE [(0, (.es 26 d)), (1, (.es 26 d)), (4, (.b false)), (5, (.i .i64 k))]) (mkT []) 6 (.exit 0) (mkE [(0, (.es 26 d)), (1, (.es 26 d)), (4, (.b false)), (5, (.i .i64 k))]) (mkT []) 6 :=
  lp_end (sal_1r d k) (by simp) ⟨(of_eqb (by kernel_rfl)), (of_eqb (by kernel_rfl)), h0, trivial⟩
theorem sa_0 (d : Dat) (j : Int) : funO 6 mth cal 1000 ir20 [(.es 26 d), (.es 26 d)] [.br false, .lp [0, 1, 4, 5] 6 (.exit 0) (mkE [(0, (.es 26 d)), (1, (.es 26 d)), (4, (.b false)), (5, (.i .i64 j))]) (mkT []) 6] = some ((.b true), [.loop lp20_0 (mkE [(0, (.es 26 d)), (1, (.es 26 d)), (4, (.b false)), (5, (.i .i64 0))]) (mkT []) 6 (.exit 0) (mkE [(0, (.es 26 d)), (1, (.es 26 d)), (4, (.b false)), (5, (.i .i64 j))]) (mkT []) 6, .eqb (Sx.underK 6 (mkE [(0, (.es 26 d)), (1, (.es 26 d)), (4, (.b false)), (5, (.i .i64 0))]) [0, 1, 4, 5]) true, .eqb (Sx.underT 6 (mkT [])) true, .eqb (!decide ((List.length (Dat.rows d) : Int) = (List.length (Dat.rows d) : Int))) false]) := by kernel_rfl
theorem sa_p0 (d : Dat) (j : Int) (l0 : LoopC Tryz.prog rho lp20_0 (mkE [(0, (.es 26 d)), (1, (.es 26 d)), (4, (.b false)), (5, (.i .i64 0))]) (mkT []) 6 (.exit 0) (mkE [(0, (.es 26 d)), (1, (.es 26 d)), (4, (.b false)), (5, (.i .i64 j))]) (mkT []) 6) : Pu 20 [(.es 26 d), (.es 26 d)] (.b true) :=
  pu_of Tryz.func20 irc20 (sa_0 d j) rfl ⟨l0, (of_eqb (by kernel_rfl)), (of_eqb (by kernel_rfl)), (of_eqb (by simp [ieq_eq])), trivial⟩
theorem stl_0r (d : Dat) (k : Int) : bodyO 6 mth cal 1000 lp22_0 [0, 1, 4, 5] 6 (mkE [(0, (.es 63 d)), (1, (.es 63 d)), (4, (.b false)), (5, (.i .i64 k))]) (mkT []) 6 [.br true, .br false] = some (.nrm, (mkE [(0, (.es 63 d)), (1, (.es 63 d)), (4, (.b false)), (5, (.i .i64 (k + 1)))]), (mkT []), [.eqb (Sx.underK 6 (mkE [(0, (.es 63 d)), (1, (.es 63 d)), (4, (.b false)), (5, (.i .i64 (k + 1)))]) [0, 1, 4, 5]) true, .eqb (Sx.underT 6 (mkT [])) true, .eqb (Sx.inK .i64 (k + 1)) true, .eqb (cond true (cond (cond (ieq (Dat.int (List.getD (List.getD (Dat.rows d) (Int.toNat k) []) 0 .o)) (Dat.int (List.getD (List.getD (Dat.rows d) (Int.toNat k) []) 0 .o))) (cond (ieq (Dat.int (List.getD (List.getD (Dat.rows d) (Int.toNat k) []) 1 .o)) (Dat.int (List.getD (List.getD (Dat.rows d) (Int.toNat k) []) 1 .o))) true false) false) false true) (cond (ieq (Dat.int (List.getD (List.getD (Dat.rows d) (Int.toNat k) []) 0 .o)) (Dat.int (List.getD (List.getD (Dat.rows d) (Int.toNat k) []) 0 .o))) (cond (ieq (Dat.int (List.getD (List.getD (Dat.rows d) (Int.toNat k) []) 1 .o)) (Dat.int (List.getD (List.getD (Dat.rows d) (Int.toNat k) []) 1 .o))) true false) false)) false, .eqb (Sx.inB k (List.length (Dat.rows d))) true, .eqb (Sx.inB k (List.length (Dat.rows d))) true, .eqb (decide (k < (List.length (Dat.rows d) : Int))) true]) := by kernel_rfl
theorem stl_0 (d : Dat) (k : Int) (h0 : (decide (k < (List.length (Dat.rows d) : Int))) = true) (s0 : (Sx.inK .i64 (k + 1)) = true) (s1 : (Sx.inB k (List.length (Dat.rows d))) = true) {EX : EX} {EE : Trie TV} {ET : Trie TB} {EN : Nat} (more : LoopC Tryz.prog rho lp22_0 (mkE [(0, (.es 63 d)), (1, (.es 63 d)), (4, (.b false)), (5, (.i .i64 (k + 1)))]) (mkT []) 6 EX EE ET EN) : LoopC Tryz.prog rho lp22_0 (mkE [(0, (.es 63 d)), (1, (.es 63 d)), (4, (.b false)), (5, (.i .i64 k))]) (mkT []) 6 EX EE ET EN :=
  lp_more (stl_0r d k) ⟨(of_eqb (by kernel_rfl)), (of_eqb (by kernel_rfl)), s0, (of_eqb (by simp [ieq_eq])), s1, s1, h0, trivial⟩ more
theorem stl_1r (d : Dat) (k : Int) : bodyO 6 mth cal 1000 lp22_0 [0, 1, 4, 5] 6 (mkE [(0, (.es 63 d)), (1, (.es 63 d)), (4, (.b false)), (5, (.i .i64 k))]) (mkT []) 6 [.br false] = some ((.exit 0), (mkE [(0, (.es 63 d)), (1, (.es 63 d)), (4, (.b false)), (5, (.i .i64 k))]), (mkT []), [.eqb (Sx.underK 6 (mkE [(0, (.es 63 d)), (1, (.es 63 d)), (4, (.b false)), (5, (.i .i64 k))]) [0, 1, 4, 5]) true, .eqb (Sx.underT 6 (mkT [])) true, .eqb (decide (k < (List.length (Dat.rows d) : Int))) false]) := by kernel_rfl
theorem stl_1 (d : Dat) (k : Int) (h0 : (decide (k < (List.length (Dat.rows d) : Int))) = false) : LoopC Tryz.prog rho lp22_0 (mkE [(0, (.es 63 d)), (1, (.es 63 d)), (4, (.b false)), (5, (.i .i64 k))]) (mkT []) 6 (.exit 0) (mkE [(0, (.es 63 d)), (1, (.es 63 d)), (4, (.b false)), (5, (.i .i64 k))]) (mkT []) 6 :=
  lp_end (stl_1r d k) (by simp) ⟨(of_eqb (by kernel_rfl)), (of_eqb (by kernel_rfl)), h0, trivial⟩
theorem st_0 (d : Dat) (j : Int) : funO 6 mth cal 1000 ir22 [(.es 63 d), (.es 63 d)] [.br false, .lp [0, 1, 4, 5] 6 (.exit 0) (mkE [(0, (.es 63 d)), (1, (.es 63 d)), (4, (.b false)), (5, (.i .i64 j))]) (mkT []) 6] = some ((.b true), [.loop lp22_0 (mkE [(0, (.es 63 d)), (1, (.es 63 d)), (4, (.b false)), (5, (.i .i64 0))]) (mkT []) 6 (.exit 0) (mkE [(0, (.es 63 d)), (1, (.es 63 d)), (4, (.b false)), (5, (.i .i64 j))]) (mkT []) 6, .eqb (Sx.underK 6 (mkE [(0, (.es 63 d)), (1, (.es 63 d)), (4, (.b false)), (5, (.i .i64 0))]) [0, 1, 4, 5]) true, .eqb (Sx.underT 6 (mkT [])) true, .eqb (!decide ((List.length (Dat.rows d) : Int) = (List.length (Dat.rows d) : Int))) false]) := by kernel_rfl
theorem st_p0 (d : Dat) (j : Int) (l0 : LoopC Tryz.prog rho lp22_0 (mkE [(0, (.es 63 d)), (1, (.es 63 d)), (4, (.b false)), (5, (.i .i64 0))]) (mkT []) 6 (.exit 0) (mkE [(0, (.es 63 d)), (1, (.es 63 d)), (4, (.b false)), (5, (.i .i64 j))]) (mkT []) 6) : Pu 22 [(.es 63 d), (.es 63 d)] (.b true) :=
  pu_of Tryz.func22 irc22 (st_0 d j) rfl ⟨l0, (of_eqb (by kernel_rfl)), (of_eqb (by kernel_rfl)), (of_eqb (by simp [ieq_eq])), trivial⟩
theorem sbl_0r (d : Dat) (k : Int) : bodyO 6 mth cal 1000 lp21_0 [0, 1, 4, 5] 6 (mkE [(0, (.es 4 d)), (1, (.es 4 d)), (4, (.b false)), (5, (.i .i64 k))]) (mkT []) 6 [.br true, .kp, .kp, .br false] = some (.nrm, (mkE [(0, (.es 4 d)), (1, (.es 4 d)), (4, (.b false)), (5, (.i .i64 (k + 1)))]), (mkT []), [.eqb (Sx.underK 6 (mkE [(0, (.es 4 d)), (1, (.es 4 d)), (4, (.b false)), (5, (.i .i64 (k + 1)))]) [0, 1, 4, 5]) true, .eqb (Sx.underT 6 (mkT [])) true, .eqb (Sx.inK .i64 (k + 1)) true, .eqb (!decide ((Dat.bool (List.getD (List.getD (Dat.rows d) (Int.toNat k) []) 0 .o)) = (Dat.bool (List.getD (List.getD (Dat.rows d) (Int.toNat k) []) 0 .o)))) false, .eqb (Sx.inB k (List.length (Dat.rows d))) true, .eqb (Sx.inB k (List.length (Dat.rows d))) true, .eqb (decide (k < (List.length (Dat.rows d) : Int))) true]) := by kernel_rfl
theorem sbl_0 (d : Dat) (k : Int) (h0 : (decide (k < (List.length (Dat.rows d) : Int))) = true) (s0 : (Sx.inK .i64 (k + 1)) = true) (s1 : (Sx.inB k (List.length (Dat.rows d))) = true) {EX : EX} {EE : Trie TV} {ET : Trie TB} {EN : Nat} (more : LoopC Tryz.prog rho lp21_0 (mkE [(0, (.es 4 d)), (1, (.es 4 d)), (4, (.b false)), (5, (.i .i64 (k + 1)))]) (mkT []) 6 EX EE ET EN) : LoopC Tryz.prog rho lp21_0 (mkE [(0, (.es 4 d)), (1, (.es 4 d)), (4, (.b false)), (5, (.i .i64 k))]) (mkT []) 6 EX EE ET EN :=
  lp_more (sbl_0r d k) ⟨(of_eqb (by kernel_rfl)), (of_eqb (by kernel_rfl)), s0, (of_eqb (by simp [ieq_eq])), s1, s1, h0, trivial⟩ more
theorem sbl_1r (d : Dat) (k : Int) : bodyO 6 mth cal 1000 lp21_0 [0, 1, 4, 5] 6 (mkE [(0, (.es 4 d)), (1, (.es 4 d)), (4, (.b false)), (5, (.i .i64 k))]) (mkT []) 6 [.br false] = some ((.exit 0), (mkE [(0, (.es 4 d)), (1, (.es 4 d)), (4, (.b false)), (5, (.i .i64 k))]), (mkT []), [.eqb (Sx.underK 6 (mkE [(0, (.es 4 d)), (1, (.es 4 d)), (4, (.b false)), (5, (.i .i64 k))]) [0, 1, 4, 5]) true, .eqb (Sx.underT 6 (mkT [])) true, .eqb (decide (k < (List.length (Dat.rows d) : Int))) false]) := by kernel_rfl
theorem sbl_1 (d : Dat) (k : Int) (h0 : (decide (k < (List.length (Dat.rows d) : Int))) = false) : LoopC Tryz.prog rho lp21_0 (mkE [(0, (.es 4 d)), (1, (.es 4 d)), (4, (.b false)), (5, (.i .i64 k))]) (mkT []) 6 (.exit 0) (mkE [(0, (.es 4 d)), (1, (.es 4 d)), (4, (.b false)), (5, (.i .i64 k))]) (mkT []) 6 :=
  lp_end (sbl_1r d k) (by simp) ⟨(of_eqb (by kernel_rfl)), (of_eqb (by kernel_rfl)), h0, trivial⟩
theorem sb_0 (d : Dat) (j : Int) : funO 6 mth cal 1000 ir21 [(.es 4 d), (.es 4 d)] [.br false, .lp [0, 1, 4, 5] 6 (.exit 0) (mkE [(0, (.es 4 d)), (1, (.es 4 d)), (4, (.b false)), (5, (.i .i64 j))]) (mkT []) 6] = some ((.b true), [.loop lp21_0 (mkE [(0, (.es 4 d)), (1, (.es 4 d)), (4, (.b false)), (5, (.i .i64 0))]) (mkT []) 6 (.exit 0) (mkE [(0, (.es 4 d)), (1, (.es 4 d)), (4, (.b false)), (5, (.i .i64 j))]) (mkT []) 6, .eqb (Sx.underK 6 (mkE [(0, (.es 4 d)), (1, (.es 4 d)), (4, (.b false)), (5, (.i .i64 0))]) [0, 1, 4, 5]) true, .eqb (Sx.underT 6 (mkT [])) true, .eqb (!decide ((List.length (Dat.rows d) : Int) = (List.length (Dat.rows d) : Int))) false]) := by kernel_rfl
theorem sb_p0 (d : Dat) (j : Int) (l0 : LoopC Tryz.prog rho lp21_0 (mkE [(0, (.es 4 d)), (1, (.es 4 d)), (4, (.b false)), (5, (.i .i64 0))]) (mkT []) 6 (.exit 0) (mkE [(0, (.es 4 d)), (1, (.es 4 d)), (4, (.b false)), (5, (.i .i64 j))]) (mkT []) 6) : Pu 21 [(.es 4 d), (.es 4 d)] (.b true) :=
  pu_of Tryz.func21 irc21 (sb_0 d j) rfl ⟨l0, (of_eqb (by kernel_rfl)), (of_eqb (by kernel_rfl)), (of_eqb (by simp [ieq_eq])), trivial⟩
theorem sil_0r (d : Dat) (k : Int) : bodyO 6 mth cal 1000 lp25_0 [0, 1, 4, 5] 6 (mkE [(0, (.es 3 d)), (1, (.es 3 d)), (4, (.b false)), (5, (.i .i64 k))]) (mkT []) 6 [.br true, .br false] = some (.nrm, (mkE [(0, (.es 3 d)), (1, (.es 3 d)), (4, (.b false)), (5, (.i .i64 (k + 1)))]), (mkT []), [.eqb (Sx.underK 6 (mkE [(0, (.es 3 d)), (1, (.es 3 d)), (4, (.b false)), (5, (.i .i64 (k + 1)))]) [0, 1, 4, 5]) true, .eqb (Sx.underT 6 (mkT [])) true, .eqb (Sx.inK .i64 (k + 1)) true, .eqb (!decide ((Dat.int (List.getD (List.getD (Dat.rows d) (Int.toNat k) []) 0 .o)) = (Dat.int (List.getD (List.getD (Dat.rows d) (Int.toNat k) []) 0 .o)))) false, .eqb (Sx.inB k (List.length (Dat.rows d))) true, .eqb (Sx.inB k (List.length (Dat.rows d))) true, .eqb (decide (k < (List.length (Dat.rows d) : Int))) true]) := by kernel_rfl
theorem sil_0 (d : Dat) (k : Int) (h0 : (decide (k < (List.length (Dat.rows d) : Int))) = true) (s0 : (Sx.inK .i64 (k + 1)) = true) (s1 : (Sx.inB k (List.length (Dat.rows d))) = true) {EX : EX} {EE : Trie TV} {ET : Trie TB} {EN : Nat} (more : LoopC Tryz.prog rho lp25_0 (mkE [(0, (.es 3 d)), (1, (.es 3 d)), (4, (.b false)), (5, (.i .i64 (k + 1)))]) (mkT []) 6 EX EE ET EN) : LoopC Tryz.prog rho lp25_0 (mkE [(0, (.es 3 d)), (1, (.es 3 d)), (4, (.b false)), (5, (.i .i64 k))]) (mkT []) 6 EX EE ET EN :=
  lp_more (sil_0r d k) ⟨(of_eqb (by kernel_rfl)), (of_eqb (by kernel_rfl)), s0, (of_eqb (by simp [ieq_eq])), s1, s1, h0, trivial⟩ more
theorem sil_1r (d : Dat) (k : Int) : bodyO 6 mth cal 1000 lp25_0 [0, 1, 4, 5] 6 (mkE [(0, (.es 3 d)), (1, (.es 3 d)), (4, (.b false)), (5, (.i .i64 k))]) (mkT []) 6 [.br false] = some ((.exit 0), (mkE [(0, (.es 3 d)), (1, (.es 3 d)), (4, (.b false)), (5, (.i .i64 k))]), (mkT []), [.eqb (Sx.underK 6 (mkE [(0, (.es 3 d)), (1, (.es 3 d)), (4, (.b false)), (5, (.i .i64 k))]) [0, 1, 4, 5]) true, .eqb (Sx.underT 6 (mkT [])) true, .eqb (decide (k < (List.length (Dat.rows d) : Int))) false]) := by kernel_rfl
theorem sil_1 (d : Dat) (k : Int) (h0 : (decide (k < (List.length (Dat.rows d) : Int))) = false) : LoopC Tryz.prog rho lp25_0 (mkE [(0, (.es 3 d)), (1, (.es 3 d)), (4, (.b false)), (5, (.i .i64 k))]) (mkT []) 6 (.exit 0) (mkE [(0, (.es 3 d)), (1, (.es 3 d)), (4, (.b false)), (5, (.i .i64 k))]) (mkT []) 6 :=
  lp_end (sil_1r d k) (by simp) ⟨(of_eqb (by kernel_rfl)), (of_eqb (by kernel_rfl)), h0, trivial⟩
theorem si_0 (d : Dat) (j : Int) : funO 6 mth cal 1000 ir25 [(.es 3 d), (.es 3 d)] [.br false, .lp [0, 1, 4, 5] 6 (.exit 0) (mkE [(0, (.es 3 d)), (1, (.es 3 d)), (4, (.b false)), (5, (.i .i64 j))]) (mkT []) 6] = some ((.b true), [.loop lp25_0 (mkE [(0, (.es 3 d)), (1, (.es 3 d)), (4, (.b false)), (5, (.i .i64 0))]) (mkT []) 6 (.exit 0) (mkE [(0, (.es 3 d)), (1, (.es 3 d)), (4, (.b false)), (5, (.i .i64 j))]) (mkT []) 6, .eqb (Sx.underK 6 (mkE [(0, (.es 3 d)), (1, (.es 3 d)), (4, (.b false)), (5, (.i .i64 0))]) [0, 1, 4, 5]) true, .eqb (Sx.underT 6 (mkT [])) true, .eqb (!decide ((List.length (Dat.rows d) : Int) = (List.length (Dat.rows d) : Int))) false]) := by kernel_rfl
theorem si_p0 (d : Dat) (j : Int) (l0 : LoopC Tryz.prog rho lp25_0 (mkE [(0, (.es 3 d)), (1, (.es 3 d)), (4, (.b false)), (5, (.i .i64 0))]) (mkT []) 6 (.exit 0) (mkE [(0, (.es 3 d)), (1, (.es 3 d)), (4, (.b false)), (5, (.i .i64 j))]) (mkT []) 6) : Pu 25 [(.es 3 d), (.es 3 d)] (.b true) :=
  pu_of Tryz.func25 irc25 (si_0 d j) rfl ⟨l0, (of_eqb (by kernel_rfl)), (of_eqb (by kernel_rfl)), (of_eqb (by simp [ieq_eq])), trivial⟩
theorem srl_0r (d : Dat) (k : Int) : bodyO 6 mth cal 1000 lp23_0 [0, 1, 4, 5] 6 (mkE [(0, (.es 89 d)), (1, (.es 89 d)), (4, (.b false)), (5, (.i .i64 k))]) (mkT []) 6 [.br true, .br false, .cl [.as, .as] (.b true)] = some (.nrm, (mkE [(0, (.es 89 d)), (1, (.es 89 d)), (4, (.b false)), (5, (.i .i64 (k + 1)))]), (mkT []), [.eqb (Sx.underK 6 (mkE [(0, (.es 89 d)), (1, (.es 89 d)), (4, (.b false)), (5, (.i .i64 (k + 1)))]) [0, 1, 4, 5]) true, .eqb (Sx.underT 6 (mkT [])) true, .eqb (Sx.inK .i64 (k + 1)) true, .call 31 [(.ag [(.i .i8 (Dat.int (List.getD (List.getD (Dat.rows d) (Int.toNat k) []) 0 .o))), (.i .i64 (Dat.int (List.getD (List.getD (Dat.rows d) (Int.toNat k) []) 1 .o))), (.s (Dat.str (List.getD (List.getD (Dat.rows d) (Int.toNat k) []) 2 .o))), (.s (Dat.str (List.getD (List.getD (Dat.rows d) (Int.toNat k) []) 3 .o))), (.es 26 (List.getD (List.getD (Dat.rows d) (Int.toNat k) []) 4 .o)), (.i .i8 (Dat.int (List.getD (List.getD (Dat.rows d) (Int.toNat k) []) 5 .o))), (.i .i8 (Dat.int (List.getD (List.getD (Dat.rows d) (Int.toNat k) []) 6 .o))), (.i .i64 (Dat.int (List.getD (List.getD (Dat.rows d) (Int.toNat k) []) 7 .o))), (.s (Dat.str (List.getD (List.getD (Dat.rows d) (Int.toNat k) []) 8 .o))), (.s (Dat.str (List.getD (List.getD (Dat.rows d) (Int.toNat k) []) 9 .o))), (.es 26 (List.getD (List.getD (Dat.rows d) (Int.toNat k) []) 10 .o)), (.es 38 (List.getD (List.getD (Dat.rows d) (Int.toNat k) []) 11 .o))]), (.ag [(.i .i8 (Dat.int (List.getD (List.getD (Dat.rows d) (Int.toNat k) []) 0 .o))), (.i .i64 (Dat.int (List.getD (List.getD (Dat.rows d) (Int.toNat k) []) 1 .o))), (.s (Dat.str (List.getD (List.getD (Dat.rows d) (Int.toNat k) []) 2 .o))), (.s (Dat.str (List.getD (List.getD (Dat.rows d) (Int.toNat k) []) 3 .o))), (.es 26 (List.getD (List.getD (Dat.rows d) (Int.toNat k) []) 4 .o)), (.i .i8 (Dat.int (List.getD (List.getD (Dat.rows d) (Int.toNat k) []) 5 .o))), (.i .i8 (Dat.int (List.getD (List.getD (Dat.rows d) (Int.toNat k) []) 6 .o))), (.i .i64 (Dat.int (List.getD (List.getD (Dat.rows d) (Int.toNat k) []) 7 .o))), (.s (Dat.str (List.getD (List.getD (Dat.rows d) (Int.toNat k) []) 8 .o))), (.s (Dat.str (List.getD (List.getD (Dat.rows d) (Int.toNat k) []) 9 .o))), (.es 26 (List.getD (List.getD (Dat.rows d) (Int.toNat k) []) 10 .o)), (.es 38 (List.getD (List.getD (Dat.rows d) (Int.toNat k) []) 11 .o))])] (.b true), .eqb (freeL []) true, .eqb (TV.free (.ag [(.i .i8 (Dat.int (List.getD (List.getD (Dat.rows d) (Int.toNat k) []) 0 .o))), (.i .i64 (Dat.int (List.getD (List.getD (Dat.rows d) (Int.toNat k) []) 1 .o))), (.s (Dat.str (List.getD (List.getD (Dat.rows d) (Int.toNat k) []) 2 .o))), (.s (Dat.str (List.getD (List.getD (Dat.rows d) (Int.toNat k) []) 3 .o))), (.es 26 (List.getD (List.getD (Dat.rows d) (Int.toNat k) []) 4 .o)), (.i .i8 (Dat.int (List.getD (List.getD (Dat.rows d) (Int.toNat k) []) 5 .o))), (.i .i8 (Dat.int (List.getD (List.getD (Dat.rows d) (Int.toNat k) []) 6 .o))), (.i .i64 (Dat.int (List.getD (List.getD (Dat.rows d) (Int.toNat k) []) 7 .o))), (.s (Dat.str (List.getD (List.getD (Dat.rows d) (Int.toNat k) []) 8 .o))), (.s (Dat.str (List.getD (List.getD (Dat.rows d) (Int.toNat k) []) 9 .o))), (.es 26 (List.getD (List.getD (Dat.rows d) (Int.toNat k) []) 10 .o)), (.es 38 (List.getD (List.getD (Dat.rows d) (Int.toNat k) []) 11 .o))])) true, .eqb (TV.free (.ag [(.i .i8 (Dat.int (List.getD (List.getD (Dat.rows d) (Int.toNat k) []) 0 .o))), (.i .i64 (Dat.int (List.getD (List.getD (Dat.rows d) (Int.toNat k) []) 1 .o))), (.s (Dat.str (List.getD (List.getD (Dat.rows d) (Int.toNat k) []) 2 .o))), (.s (Dat.str (List.getD (List.getD (Dat.rows d) (Int.toNat k) []) 3 .o))), (.es 26 (List.getD (List.getD (Dat.rows d) (Int.toNat k) []) 4 .o)), (.i .i8 (Dat.int (List.getD (List.getD (Dat.rows d) (Int.toNat k) []) 5 .o))), (.i .i8 (Dat.int (List.getD (List.getD (Dat.rows d) (Int.toNat k) []) 6 .o))), (.i .i64 (Dat.int (List.getD (List.getD (Dat.rows d) (Int.toNat k) []) 7 .o))), (.s (Dat.str (List.getD (List.getD (Dat.rows d) (Int.toNat k) []) 8 .o))), (.s (Dat.str (List.getD (List.getD (Dat.rows d) (Int.toNat k) []) 9 .o))), (.es 26 (List.getD (List.getD (Dat.rows d) (Int.toNat k) []) 10 .o)), (.es 38 (List.getD (List.getD (Dat.rows d) (Int.toNat k) []) 11 .o))])) true, .eqb (Sx.inB k (List.length (Dat.rows d))) true, .eqb (Sx.inB k (List.length (Dat.rows d))) true, .eqb (!decide ((Dat.int (List.getD (List.getD (Dat.rows d) (Int.toNat k) []) 12 .o)) = (Dat.int (List.getD (List.getD (Dat.rows d) (Int.toNat k) []) 12 .o)))) false, .eqb (Sx.inB k (List.length (Dat.rows d))) true, .eqb (Sx.inB k (List.length (Dat.rows d))) true, .eqb (decide (k < (List.length (Dat.rows d) : Int))) true]) := by kernel_rfl
theorem srl_0 (d : Dat) (k : Int) (h0 : (decide (k < (List.length (Dat.rows d) : Int))) = true) (s0 : (Sx.inK .i64 (k + 1)) = true) (c1 : Pu 31 [(.ag [(.i .i8 (Dat.int (List.getD (List.getD (Dat.rows d) (Int.toNat k) []) 0 .o))), (.i .i64 (Dat.int (List.getD (List.getD (Dat.rows d) (Int.toNat k) []) 1 .o))), (.s (Dat.str (List.getD (List.getD (Dat.rows d) (Int.toNat k) []) 2 .o))), (.s (Dat.str (List.getD (List.getD (Dat.rows d) (Int.toNat k) []) 3 .o))), (.es 26 (List.getD (List.getD (Dat.rows d) (Int.toNat k) []) 4 .o)), (.i .i8 (Dat.int (List.getD (List.getD (Dat.rows d) (Int.toNat k) []) 5 .o))), (.i .i8 (Dat.int (List.getD (List.getD (Dat.rows d) (Int.toNat k) []) 6 .o))), (.i .i64 (Dat.int (List.getD (List.getD (Dat.rows d) (Int.toNat k) []) 7 .o))), (.s (Dat.str (List.getD (List.getD (Dat.rows d) (Int.toNat k) []) 8 .o))), (.s (Dat.str (List.getD (List.getD (Dat.rows d) (Int.toNat k) []) 9 .o))), (.es 26 (List.getD (List.getD (Dat.rows d) (Int.toNat k) []) 10 .o)), (.es 38 (List.getD (List.getD (Dat.rows d) (Int.toNat k) []) 11 .o))]), (.ag [(.i .i8 (Dat.int (List.getD (List.getD (Dat.rows d) (Int.toNat k) []) 0 .o))), (.i .i64 (Dat.int (List.getD (List.getD (Dat.rows d) (Int.toNat k) []) 1 .o))), (.s (Dat.str (List.getD (List.getD (Dat.rows d) (Int.toNat k) []) 2 .o))), (.s (Dat.str (List.getD (List.getD (Dat.rows d) (Int.toNat k) []) 3 .o))), (.es 26 (List.getD (List.getD (Dat.rows d) (Int.toNat k) []) 4 .o)), (.i .i8 (Dat.int (List.getD (List.getD (Dat.rows d) (Int.toNat k) []) 5 .o))), (.i .i8 (Dat.int (List.getD (List.getD (Dat.rows d) (Int.toNat k) []) 6 .o))), (.i .i64 (Dat.int (List.getD (List.getD (Dat.rows d) (Int.toNat k) []) 7 .o))), (.s (Dat.str (List.getD (List.getD (Dat.rows d) (Int.toNat k) []) 8 .o))), (.s (Dat.str (List.getD (List.getD (Dat.rows d) (Int.toNat k) []) 9 .o))), (.es 26 (List.getD (List.getD (Dat.rows d) (Int.toNat k) []) 10 .o)), (.es 38 (List.getD (List.getD (Dat.rows d) (Int.toNat k) []) 11 .o))])] (.b true)) (s2 : (Sx.inB k (List.length (Dat.rows d))) = true) {EX : EX} {EE : Trie TV} {ET : Trie TB} {EN : Nat} (more : LoopC Tryz.prog rho lp23_0 (mkE [(0, (.es 89 d)), (1, (.es 89 d)), (4, (.b false)), (5, (.i .i64 (k + 1)))]) (mkT []) 6 EX EE ET EN) : LoopC Tryz.prog rho lp23_0 (mkE [(0, (.es 89 d)), (1, (.es 89 d)), (4, (.b false)), (5, (.i .i64 k))]) (mkT []) 6 EX EE ET EN :=
  lp_more (srl_0r d k) ⟨(of_eqb (by kernel_rfl)), (of_eqb (by kernel_rfl)), s0, c1, rfl, rfl, rfl, s2, s2, (of_eqb (by simp [ieq_eq])), s2, s2, h0, trivial⟩ more
theorem srl_1r (d : Dat) (k : Int) : bodyO 6 mth cal 1000 lp23_0 [0, 1, 4, 5] 6 (mkE [(0, (.es 89 d)), (1, (.es 89 d)), (4, (.b false)), (5, (.i .i64 k))]) (mkT []) 6 [.br false] = some ((.exit 0), (mkE [(0, (.es 89 d)), (1, (.es 89 d)), (4, (.b false)), (5, (.i .i64 k))]), (mkT []), [.eqb (Sx.underK 6 (mkE [(0, (.es 89 d)), (1, (.es 89 d)), (4, (.b false)), (5, (.i .i64 k))]) [0, 1, 4, 5]) true, .eqb (Sx.underT 6 (mkT [])) true, .eqb (decide (k < (List.length (Dat.rows d) : Int))) false]) := by kernel_rfl
theorem srl_1 (d : Dat) (k : Int) (h0 : (decide (k < (List.length (Dat.rows d) : Int))) = false) : LoopC Tryz.prog rho lp23_0 (mkE [(0, (.es 89 d)), (1, (.es 89 d)), (4, (.b false)), (5, (.i .i64 k))]) (mkT []) 6 (.exit 0) (mkE [(0, (.es 89 d)), (1, (.es 89 d)), (4, (.b false)), (5, (.i .i64 k))]) (mkT []) 6 :=
  lp_end (srl_1r d k) (by simp) ⟨(of_eqb (by kernel_rfl)), (of_eqb (by kernel_rfl)), h0, trivial⟩
theorem sr_0 (d : Dat) (j : Int) : funO 6 mth cal 1000 ir23 [(.es 89 d), (.es 89 d)] [.br false, .lp [0, 1, 4, 5] 6 (.exit 0) (mkE [(0, (.es 89 d)), (1, (.es 89 d)), (4, (.b false)), (5, (.i .i64 j))]) (mkT []) 6] = some ((.b true), [.loop lp23_0 (mkE [(0, (.es 89 d)), (1, (.es 89 d)), (4, (.b false)), (5, (.i .i64 0))]) (mkT []) 6 (.exit 0) (mkE [(0, (.es 89 d)), (1, (.es 89 d)), (4, (.b false)), (5, (.i .i64 j))]) (mkT []) 6, .eqb (Sx.underK 6 (mkE [(0, (.es 89 d)), (1, (.es 89 d)), (4, (.b false)), (5, (.i .i64 0))]) [0, 1, 4, 5]) true, .eqb (Sx.underT 6 (mkT [])) true, .eqb (!decide ((List.length (Dat.rows d) : Int) = (List.length (Dat.rows d) : Int))) false]) := by kernel_rfl
theorem sr_p0 (d : Dat) (j : Int) (l0 : LoopC Tryz.prog rho lp23_0 (mkE [(0, (.es 89 d)), (1, (.es 89 d)), (4, (.b false)), (5, (.i .i64 0))]) (mkT []) 6 (.exit 0) (mkE [(0, (.es 89 d)), (1, (.es 89 d)), (4, (.b false)), (5, (.i .i64 j))]) (mkT []) 6) : Pu 23 [(.es 89 d), (.es 89 d)] (.b true) :=
  pu_of Tryz.func23 irc23 (sr_0 d j) rfl ⟨l0, (of_eqb (by kernel_rfl)), (of_eqb (by kernel_rfl)), (of_eqb (by simp [ieq_eq])), trivial⟩
theorem sfl_0r (d : Dat) (k : Int) : bodyO 6 mth cal 1000 lp13_0 [0, 1, 4, 5] 6 (mkE [(0, (.es 43 d)), (1, (.es 43 d)), (4, (.b false)), (5, (.i .i64 k))]) (mkT []) 6 [.br true, .cl [.as, .as] (.b true)] = some (.nrm, (mkE [(0, (.es 43 d)), (1, (.es 43 d)), (4, (.b false)), (5, (.i .i64 (k + 1)))]), (mkT []), [.eqb (Sx.underK 6 (mkE [(0, (.es 43 d)), (1, (.es 43 d)), (4, (.b false)), (5, (.i .i64 (k + 1)))]) [0, 1, 4, 5]) true, .eqb (Sx.underT 6 (mkT [])) true, .eqb (Sx.inK .i64 (k + 1)) true, .call 9 [(agR 43 (List.getD (Dat.rows d) (Int.toNat k) [])), (agR 43 (List.getD (Dat.rows d) (Int.toNat k) []))] (.b true), .eqb (freeL []) true, .eqb (TV.free (agR 43 (List.getD (Dat.rows d) (Int.toNat k) []))) true, .eqb (TV.free (agR 43 (List.getD (Dat.rows d) (Int.toNat k) []))) true, .eqb (Sx.inB k (List.length (Dat.rows d))) true, .eqb (Sx.inB k (List.length (Dat.rows d))) true, .eqb (decide (k < (List.length (Dat.rows d) : Int))) true]) := by kernel_rfl
theorem sfl_0 (d : Dat) (k : Int) (h0 : (decide (k < (List.length (Dat.rows d) : Int))) = true) (s0 : (Sx.inK .i64 (k + 1)) = true) (c1 : Pu 9 [(agR 43 (List.getD (Dat.rows d) (Int.toNat k) [])), (agR 43 (List.getD (Dat.rows d) (Int.toNat k) []))] (.b true)) (s2 : (Sx.inB k (List.length (Dat.rows d))) = true) {EX : EX} {EE : Trie TV} {ET : Trie TB} {EN : Nat} (more : LoopC Tryz.prog rho lp13_0 (mkE [(0, (.es 43 d)), (1, (.es 43 d)), (4, (.b false)), (5, (.i .i64 (k + 1)))]) (mkT []) 6 EX EE ET EN) : LoopC Tryz.prog rho lp13_0 (mkE [(0, (.es 43 d)), (1, (.es 43 d)), (4, (.b false)), (5, (.i .i64 k))]) (mkT []) 6 EX EE ET EN :=
  lp_more (sfl_0r d k) ⟨(of_eqb (by kernel_rfl)), (of_eqb (by kernel_rfl)), s0, c1, rfl, rfl, rfl, s2, s2, h0, trivial⟩ more
theorem sfl_1r (d : Dat) (k : Int) : bodyO 6 mth cal 1000 lp13_0 [0, 1, 4, 5] 6 (mkE [(0, (.es 43 d)), (1, (.es 43 d)), (4, (.b false)), (5, (.i .i64 k))]) (mkT []) 6 [.br false] = some ((.exit 0), (mkE [(0, (.es 43 d)), (1, (.es 43 d)), (4, (.b false)), (5, (.i .i64 k))]), (mkT []), [.eqb (Sx.underK 6 (mkE [(0, (.es 43 d)), (1, (.es 43 d)), (4, (.b false)), (5, (.i .i64 k))]) [0, 1, 4, 5]) true, .eqb (Sx.underT 6 (mkT [])) true, .eqb (decide (k < (List.length (Dat.rows d) : Int))) false]) := by kernel_rfl
theorem sfl_1 (d : Dat) (k : Int) (h0 : (decide (k < (List.length (Dat.rows d) : Int))) = false) : LoopC Tryz.prog rho lp13_0 (mkE [(0, (.es 43 d)), (1, (.es 43 d)), (4, (.b false)), (5, (.i .i64 k))]) (mkT []) 6 (.exit 0) (mkE [(0, (.es 43 d)), (1, (.es 43 d)), (4, (.b false)), (5, (.i .i64 k))]) (mkT []) 6 :=
  lp_end (sfl_1r d k) (by simp) ⟨(of_eqb (by kernel_rfl)), (of_eqb (by kernel_rfl)), h0, trivial⟩
theorem sf_0 (d : Dat) (j : Int) : funO 6 mth cal 1000 ir13 [(.es 43 d), (.es 43 d)] [.br false, .lp [0, 1, 4, 5] 6 (.exit 0) (mkE [(0, (.es 43 d)), (1, (.es 43 d)), (4, (.b false)), (5, (.i .i64 j))]) (mkT []) 6] = some ((.b true), [.loop lp13_0 (mkE [(0, (.es 43 d)), (1, (.es 43 d)), (4, (.b false)), (5, (.i .i64 0))]) (mkT []) 6 (.exit 0) (mkE [(0, (.es 43 d)), (1, (.es 43 d)), (4, (.b false)), (5, (.i .i64 j))]) (mkT []) 6, .eqb (Sx.underK 6 (mkE [(0, (.es 43 d)), (1, (.es 43 d)), (4, (.b false)), (5, (.i .i64 0))]) [0, 1, 4, 5]) true, .eqb (Sx.underT 6 (mkT [])) true, .eqb (!decide ((List.length (Dat.rows d) : Int) = (List.length (Dat.rows d) : Int))) false]) := by kernel_rfl
theorem sf_p0 (d : Dat) (j : Int) (l0 : LoopC Tryz.prog rho lp13_0 (mkE [(0, (.es 43 d)), (1, (.es 43 d)), (4, (.b false)), (5, (.i .i64 0))]) (mkT []) 6 (.exit 0) (mkE [(0, (.es 43 d)), (1, (.es 43 d)), (4, (.b false)), (5, (.i .i64 j))]) (mkT []) 6) : Pu 13 [(.es 43 d), (.es 43 d)] (.b true) :=
  pu_of Tryz.func13 irc13 (sf_0 d j) rfl ⟨l0, (of_eqb (by kernel_rfl)), (of_eqb (by kernel_rfl)), (of_eqb (by simp [ieq_eq])), trivial⟩
theorem sml_0r (k n : Int) (s t : List Nat) (d : Dat) (j : Int) : bodyO 6 mth cal 1000 lp12_0 [2, 3, 4, 5] 8 (mkE [(2, (.p 6 0)), (3, (.p 7 0)), (4, (.b false)), (5, (.i .i64 j))]) (mkT [(6, .cells [(.i .i8 k), (.i .i64 n), (.s s), (.s t), (.es 26 d)] 26 false), (7, .cells [(.i .i8 k), (.i .i64 n), (.s s), (.s t), (.es 26 d)] 26 false)]) 8 [.br true, .cl [.as, .as] (.b true)] = some (.nrm, (mkE [(2, (.p 6 0)), (3, (.p 7 0)), (4, (.b false)), (5, (.i .i64 (j + 1)))]), (mkT [(6, .cells [(.i .i8 k), (.i .i64 n), (.s s), (.s t), (.es 26 d)] 26 false), (7, .cells [(.i .i8 k), (.i .i64 n), (.s s), (.s t), (.es 26 d)] 26 false)]), [.eqb (Sx.underK 8 (mkE [(2, (.p 6 0)), (3, (.p 7 0)), (4, (.b false)), (5, (.i .i64 (j + 1)))]) [2, 3, 4, 5]) true, .eqb (Sx.underT 8 (mkT [(6, .cells [(.i .i8 k), (.i .i64 n), (.s s), (.s t), (.es 26 d)] 26 false), (7, .cells [(.i .i8 k), (.i .i64 n), (.s s), (.s t), (.es 26 d)] 26 false)])) true, .eqb (Sx.inK .i64 (j + 1)) true, .call 12 [(.ag [(.i .i8 (Dat.int (List.getD (List.getD (Dat.rows d) (Int.toNat j) []) 0 .o))), (.i .i64 (Dat.int (List.getD (List.getD (Dat.rows d) (Int.toNat j) []) 1 .o))), (.s (Dat.str (List.getD (List.getD (Dat.rows d) (Int.toNat j) []) 2 .o))), (.s (Dat.str (List.getD (List.getD (Dat.rows d) (Int.toNat j) []) 3 .o))), (.es 26 (List.getD (List.getD (Dat.rows d) (Int.toNat j) []) 4 .o))]), (.ag [(.i .i8 (Dat.int (List.getD (List.getD (Dat.rows d) (Int.toNat j) []) 0 .o))), (.i .i64 (Dat.int (List.getD (List.getD (Dat.rows d) (Int.toNat j) []) 1 .o))), (.s (Dat.str (List.getD (List.getD (Dat.rows d) (Int.toNat j) []) 2 .o))), (.s (Dat.str (List.getD (List.getD (Dat.rows d) (Int.toNat j) []) 3 .o))), (.es 26 (List.getD (List.getD (Dat.rows d) (Int.toNat j) []) 4 .o))])] (.b true), .eqb (freeL []) true, .eqb (TV.free (.ag [(.i .i8 (Dat.int (List.getD (List.getD (Dat.rows d) (Int.toNat j) []) 0 .o))), (.i .i64 (Dat.int (List.getD (List.getD (Dat.rows d) (Int.toNat j) []) 1 .o))), (.s (Dat.str (List.getD (List.getD (Dat.rows d) (Int.toNat j) []) 2 .o))), (.s (Dat.str (List.getD (List.getD (Dat.rows d) (Int.toNat j) []) 3 .o))), (.es 26 (List.getD (List.getD (Dat.rows d) (Int.toNat j) []) 4 .o))])) true, .eqb (TV.free (.ag [(.i .i8 (Dat.int (List.getD (List.getD (Dat.rows d) (Int.toNat j) []) 0 .o))), (.i .i64 (Dat.int (List.getD (List.getD (Dat.rows d) (Int.toNat j) []) 1 .o))), (.s (Dat.str (List.getD (List.getD (Dat.rows d) (Int.toNat j) []) 2 .o))), (.s (Dat.str (List.getD (List.getD (Dat.rows d) (Int.toNat j) []) 3 .o))), (.es 26 (List.getD (List.getD (Dat.rows d) (Int.toNat j) []) 4 .o))])) true, .eqb (Sx.inB j (List.length (Dat.rows d))) true, .eqb (Sx.inB j (List.length (Dat.rows d))) true, .eqb (decide (j < (List.length (Dat.rows d) : Int))) true]) := by kernel_rfl
theorem sml_0 (k n : Int) (s t : List Nat) (d : Dat) (j : Int) (h0 : (decide (j < (List.length (Dat.rows d) : Int))) = true) (s0 : (Sx.inK .i64 (j + 1)) = true) (c1 : Pu 12 [(.ag [(.i .i8 (Dat.int (List.getD (List.getD (Dat.rows d) (Int.toNat j) []) 0 .o))), (.i .i64 (Dat.int (List.getD (List.getD (Dat.rows d) (Int.toNat j) []) 1 .o))), (.s (Dat.str (List.getD (List.getD (Dat.rows d) (Int.toNat j) []) 2 .o))), (.s (Dat.str (List.getD (List.getD (Dat.rows d) (Int.toNat j) []) 3 .o))), (.es 26 (List.getD (List.getD (Dat.rows d) (Int.toNat j) []) 4 .o))]), (.ag [(.i .i8 (Dat.int (List.getD (List.getD (Dat.rows d) (Int.toNat j) []) 0 .o))), (.i .i64 (Dat.int (List.getD (List.getD (Dat.rows d) (Int.toNat j) []) 1 .o))), (.s (Dat.str (List.getD (List.getD (Dat.rows d) (Int.toNat j) []) 2 .o))), (.s (Dat.str (List.getD (List.getD (Dat.rows d) (Int.toNat j) []) 3 .o))), (.es 26 (List.getD (List.getD (Dat.rows d) (Int.toNat j) []) 4 .o))])] (.b true)) (s2 : (Sx.inB j (List.length (Dat.rows d))) = true) {EX : EX} {EE : Trie TV} {ET : Trie TB} {EN : Nat} (more : LoopC Tryz.prog rho lp12_0 (mkE [(2, (.p 6 0)), (3, (.p 7 0)), (4, (.b false)), (5, (.i .i64 (j + 1)))]) (mkT [(6, .cells [(.i .i8 k), (.i .i64 n), (.s s), (.s t), (.es 26 d)] 26 false), (7, .cells [(.i .i8 k), (.i .i64 n), (.s s), (.s t), (.es 26 d)] 26 false)]) 8 EX EE ET EN) : LoopC Tryz.prog rho lp12_0 (mkE [(2, (.p 6 0)), (3, (.p 7 0)), (4, (.b false)), (5, (.i .i64 j))]) (mkT [(6, .cells [(.i .i8 k), (.i .i64 n), (.s s), (.s t), (.es 26 d)] 26 false), (7, .cells [(.i .i8 k), (.i .i64 n), (.s s), (.s t), (.es 26 d)] 26 false)]) 8 EX EE ET EN :=
  lp_more (sml_0r k n s t d j) ⟨(of_eqb (by kernel_rfl)), (of_eqb (by kernel_rfl)), s0, c1, rfl, rfl, rfl, s2, s2, h0, trivial⟩ more
theorem sml_1r (k n : Int) (s t : List Nat) (d : Dat) (j : Int) : bodyO 6 mth cal 1000 lp12_0 [2, 3, 4, 5] 8 (mkE [(2, (.p 6 0)), (3, (.p 7 0)), (4, (.b false)), (5, (.i .i64 j))]) (mkT [(6, .cells [(.i .i8 k), (.i .i64 n), (.s s), (.s t), (.es 26 d)] 26 false), (7, .cells [(.i .i8 k), (.i .i64 n), (.s s), (.s t), (.es 26 d)] 26 false)]) 8 [.br false] = some ((.exit 0), (mkE [(2, (.p 6 0)), (3, (.p 7 0)), (4, (.b false)), (5, (.i .i64 j))]), (mkT [(6, .cells [(.i .i8 k), (.i .i64 n), (.s s), (.s t), (.es 26 d)] 26 false), (7, .cells [(.i .i8 k), (.i .i64 n), (.s s), (.s t), (.es 26 d)] 26 false)]), [.eqb (Sx.underK 8 (mkE [(2, (.p 6 0)), (3, (.p 7 0)), (4, (.b false)), (5, (.i .i64 j))]) [2, 3, 4, 5]) true, .eqb (Sx.underT 8 (mkT [(6, .cells [(.i .i8 k), (.i .i64 n), (.s s), (.s t), (.es 26 d)] 26 false), (7, .cells [(.i .i8 k), (.i .i64 n), (.s s), (.s t), (.es 26 d)] 26 false)])) true, .eqb (decide (j < (List.length (Dat.rows d) : Int))) false]) := by kernel_rfl
theorem sml_1 (k n : Int) (s t : List Nat) (d : Dat) (j : Int) (h0 : (decide (j < (List.length (Dat.rows d) : Int))) = false) : LoopC Tryz.prog rho lp12_0 (mkE [(2, (.p 6 0)), (3, (.p 7 0)), (4, (.b false)), (5, (.i .i64 j))]) (mkT [(6, .cells [(.i .i8 k), (.i .i64 n), (.s s), (.s t), (.es 26 d)] 26 false), (7, .cells [(.i .i8 k), (.i .i64 n), (.s s), (.s t), (.es 26 d)] 26 false)]) 8 (.exit 0) (mkE [(2, (.p 6 0)), (3, (.p 7 0)), (4, (.b false)), (5, (.i .i64 j))]) (mkT [(6, .cells [(.i .i8 k), (.i .i64 n), (.s s), (.s t), (.es 26 d)] 26 false), (7, .cells [(.i .i8 k), (.i .i64 n), (.s s), (.s t), (.es 26 d)] 26 false)]) 8 :=
  lp_end (sml_1r k n s t d j) (by simp) ⟨(of_eqb (by kernel_rfl)), (of_eqb (by kernel_rfl)), h0, trivial⟩
theorem sm_0 (k n : Int) (s t : List Nat) (d : Dat) (j : Int) : funO 6 mth cal 1000 ir12 [(.ag [(.i .i8 k), (.i .i64 n), (.s s), (.s t), (.es 26 d)]), (.ag [(.i .i8 k), (.i .i64 n), (.s s), (.s t), (.es 26 d)])] [.br false, .br false, .br false, .br false, .br false, .lp [2, 3, 4, 5] 8 (.exit 0) (mkE [(2, (.p 6 0)), (3, (.p 7 0)), (4, (.b false)), (5, (.i .i64 j))]) (mkT [(6, .cells [(.i .i8 k), (.i .i64 n), (.s s), (.s t), (.es 26 d)] 26 false), (7, .cells [(.i .i8 k), (.i .i64 n), (.s s), (.s t), (.es 26 d)] 26 false)]) 8] = some ((.b true), [.loop lp12_0 (mkE [(2, (.p 6 0)), (3, (.p 7 0)), (4, (.b false)), (5, (.i .i64 0))]) (mkT [(6, .cells [(.i .i8 k), (.i .i64 n), (.s s), (.s t), (.es 26 d)] 26 false), (7, .cells [(.i .i8 k), (.i .i64 n), (.s s), (.s t), (.es 26 d)] 26 false)]) 8 (.exit 0) (mkE [(2, (.p 6 0)), (3, (.p 7 0)), (4, (.b false)), (5, (.i .i64 j))]) (mkT [(6, .cells [(.i .i8 k), (.i .i64 n), (.s s), (.s t), (.es 26 d)] 26 false), (7, .cells [(.i .i8 k), (.i .i64 n), (.s s), (.s t), (.es 26 d)] 26 false)]) 8, .eqb (Sx.underK 8 (mkE [(2, (.p 6 0)), (3, (.p 7 0)), (4, (.b false)), (5, (.i .i64 0))]) [2, 3, 4, 5]) true, .eqb (Sx.underT 8 (mkT [(6, .cells [(.i .i8 k), (.i .i64 n), (.s s), (.s t), (.es 26 d)] 26 false), (7, .cells [(.i .i8 k), (.i .i64 n), (.s s), (.s t), (.es 26 d)] 26 false)])) true, .eqb (!decide ((List.length (Dat.rows d) : Int) = (List.length (Dat.rows d) : Int))) false, .eqb (!decide (t = t)) false, .eqb (!decide (s = s)) false, .eqb (!decide (n = n)) false, .eqb (!decide (k = k)) false]) := by kernel_rfl
theorem sm_p0 (k n : Int) (s t : List Nat) (d : Dat) (j : Int) (l0 : LoopC Tryz.prog rho lp12_0 (mkE [(2, (.p 6 0)), (3, (.p 7 0)), (4, (.b false)), (5, (.i .i64 0))]) (mkT [(6, .cells [(.i .i8 k), (.i .i64 n), (.s s), (.s t), (.es 26 d)] 26 false), (7, .cells [(.i .i8 k), (.i .i64 n), (.s s), (.s t), (.es 26 d)] 26 false)]) 8 (.exit 0) (mkE [(2, (.p 6 0)), (3, (.p 7 0)), (4, (.b false)), (5, (.i .i64 j))]) (mkT [(6, .cells [(.i .i8 k), (.i .i64 n), (.s s), (.s t), (.es 26 d)] 26 false), (7, .cells [(.i .i8 k), (.i .i64 n), (.s s), (.s t), (.es 26 d)] 26 false)]) 8) : Pu 12 [(.ag [(.i .i8 k), (.i .i64 n), (.s s), (.s t), (.es 26 d)]), (.ag [(.i .i8 k), (.i .i64 n), (.s s), (.s t), (.es 26 d)])] (.b true) :=
  pu_of Tryz.func12 irc12 (sm_0 k n s t d j) rfl ⟨l0, (of_eqb (by kernel_rfl)), (of_eqb (by kernel_rfl)), (of_eqb (by simp [ieq_eq])), (of_eqb (by simp [ieq_eq])), (of_eqb (by simp [ieq_eq])), (of_eqb (by simp [ieq_eq])), (of_eqb (by simp [ieq_eq])), trivial⟩
theorem scl_0r (k n : Int) (s t : List Nat) (d : Dat) (kd rs sh : Int) (m f : List Nat) (ar su : Dat) (j : Int) : bodyO 6 mth cal 1000 lp31_0 [2, 3, 4, 5] 8 (mkE [(2, (.p 6 0)), (3, (.p 7 0)), (4, (.b false)), (5, (.i .i64 j))]) (mkT [(6, .cells [(.i .i8 k), (.i .i64 n), (.s s), (.s t), (.es 26 d), (.i .i8 kd), (.i .i8 rs), (.i .i64 sh), (.s m), (.s f), (.es 26 ar), (.es 38 su)] 87 false), (7, .cells [(.i .i8 k), (.i .i64 n), (.s s), (.s t), (.es 26 d), (.i .i8 kd), (.i .i8 rs), (.i .i64 sh), (.s m), (.s f), (.es 26 ar), (.es 38 su)] 87 false)]) 8 [.br true, .cl [.as, .as] (.b true)] = some (.nrm, (mkE [(2, (.p 6 0)), (3, (.p 7 0)), (4, (.b false)), (5, (.i .i64 (j + 1)))]), (mkT [(6, .cells [(.i .i8 k), (.i .i64 n), (.s s), (.s t), (.es 26 d), (.i .i8 kd), (.i .i8 rs), (.i .i64 sh), (.s m), (.s f), (.es 26 ar), (.es 38 su)] 87 false), (7, .cells [(.i .i8 k), (.i .i64 n), (.s s), (.s t), (.es 26 d), (.i .i8 kd), (.i .i8 rs), (.i .i64 sh), (.s m), (.s f), (.es 26 ar), (.es 38 su)] 87 false)]), [.eqb (Sx.underK 8 (mkE [(2, (.p 6 0)), (3, (.p 7 0)), (4, (.b false)), (5, (.i .i64 (j + 1)))]) [2, 3, 4, 5]) true, .eqb (Sx.underT 8 (mkT [(6, .cells [(.i .i8 k), (.i .i64 n), (.s s), (.s t), (.es 26 d), (.i .i8 kd), (.i .i8 rs), (.i .i64 sh), (.s m), (.s f), (.es 26 ar), (.es 38 su)] 87 false), (7, .cells [(.i .i8 k), (.i .i64 n), (.s s), (.s t), (.es 26 d), (.i .i8 kd), (.i .i8 rs), (.i .i64 sh), (.s m), (.s f), (.es 26 ar), (.es 38 su)] 87 false)])) true, .eqb (Sx.inK .i64 (j + 1)) true, .call 24 [(.ag [(.i .i8 (Dat.int (List.getD (List.getD (Dat.rows su) (Int.toNat j) []) 0 .o))), (.i .i64 (Dat.int (List.getD (List.getD (Dat.rows su) (Int.toNat j) []) 1 .o))), (.i .i64 (Dat.int (List.getD (List.getD (Dat.rows su) (Int.toNat j) []) 2 .o))), (.es 87 (List.getD (List.getD (Dat.rows su) (Int.toNat j) []) 3 .o))]), (.ag [(.i .i8 (Dat.int (List.getD (List.getD (Dat.rows su) (Int.toNat j) []) 0 .o))), (.i .i64 (Dat.int (List.getD (List.getD (Dat.rows su) (Int.toNat j) []) 1 .o))), (.i .i64 (Dat.int (List.getD (List.getD (Dat.rows su) (Int.toNat j) []) 2 .o))), (.es 87 (List.getD (List.getD (Dat.rows su) (Int.toNat j) []) 3 .o))])] (.b true), .eqb (freeL []) true, .eqb (TV.free (.ag [(.i .i8 (Dat.int (List.getD (List.getD (Dat.rows su) (Int.toNat j) []) 0 .o))), (.i .i64 (Dat.int (List.getD (List.getD (Dat.rows su) (Int.toNat j) []) 1 .o))), (.i .i64 (Dat.int (List.getD (List.getD (Dat.rows su) (Int.toNat j) []) 2 .o))), (.es 87 (List.getD (List.getD (Dat.rows su) (Int.toNat j) []) 3 .o))])) true, .eqb (TV.free (.ag [(.i .i8 (Dat.int (List.getD (List.getD (Dat.rows su) (Int.toNat j) []) 0 .o))), (.i .i64 (Dat.int (List.getD (List.getD (Dat.rows su) (Int.toNat j) []) 1 .o))), (.i .i64 (Dat.int (List.getD (List.getD (Dat.rows su) (Int.toNat j) []) 2 .o))), (.es 87 (List.getD (List.getD (Dat.rows su) (Int.toNat j) []) 3 .o))])) true, .eqb (Sx.inB j (List.length (Dat.rows su))) true, .eqb (Sx.inB j (List.length (Dat.rows su))) true, .eqb (decide (j < (List.length (Dat.rows su) : Int))) true]) := by kernel_rfl
theorem scl_0 (k n : Int) (s t : List Nat) (d : Dat) (kd rs sh : Int) (m f : List Nat) (ar su : Dat) (j : Int) (h0 : (decide (j < (List.length (Dat.rows su) : Int))) = true) (s0 : (Sx.inK .i64 (j + 1)) = true) (c1 : Pu 24 [(.ag [(.i .i8 (Dat.int (List.getD (List.getD (Dat.rows su) (Int.toNat j) []) 0 .o))), (.i .i64 (Dat.int (List.getD (List.getD (Dat.rows su) (Int.toNat j) []) 1 .o))), (.i .i64 (Dat.int (List.getD (List.getD (Dat.rows su) (Int.toNat j) []) 2 .o))), (.es 87 (List.getD (List.getD (Dat.rows su) (Int.toNat j) []) 3 .o))]), (.ag [(.i .i8 (Dat.int (List.getD (List.getD (Dat.rows su) (Int.toNat j) []) 0 .o))), (.i .i64 (Dat.int (List.getD (List.getD (Dat.rows su) (Int.toNat j) []) 1 .o))), (.i .i64 (Dat.int (List.getD (List.getD (Dat.rows su) (Int.toNat j) []) 2 .o))), (.es 87 (List.getD (List.getD (Dat.rows su) (Int.toNat j) []) 3 .o))])] (.b true)) (s2 : (Sx.inB j (List.length (Dat.rows su))) = true) {EX : EX} {EE : Trie TV} {ET : Trie TB} {EN : Nat} (more : LoopC Tryz.prog rho lp31_0 (mkE [(2, (.p 6 0)), (3, (.p 7 0)), (4, (.b false)), (5, (.i .i64 (j + 1)))]) (mkT [(6, .cells [(.i .i8 k), (.i .i64 n), (.s s), (.s t), (.es 26 d), (.i .i8 kd), (.i .i8 rs), (.i .i64 sh), (.s m), (.s f), (.es 26 ar), (.es 38 su)] 87 false), (7, .cells [(.i .i8 k), (.i .i64 n), (.s s), (.s t), (.es 26 d), (.i .i8 kd), (.i .i8 rs), (.i .i64 sh), (.s m), (.s f), (.es 26 ar), (.es 38 su)] 87 false)]) 8 EX EE ET EN) : LoopC Tryz.prog rho lp31_0 (mkE [(2, (.p 6 0)), (3, (.p 7 0)), (4, (.b false)), (5, (.i .i64 j))]) (mkT [(6, .cells [(.i .i8 k), (.i .i64 n), (.s s), (.s t), (.es 26 d), (.i .i8 kd), (.i .i8 rs), (.i .i64 sh), (.s m), (.s f), (.es 26 ar), (.es 38 su)] 87 false), (7, .cells [(.i .i8 k), (.i .i64 n), (.s s), (.s t), (.es 26 d), (.i .i8 kd), (.i .i8 rs), (.i .i64 sh), (.s m), (.s f), (.es 26 ar), (.es 38 su)] 87 false)]) 8 EX EE ET EN :=
  lp_more (scl_0r k n s t d kd rs sh m f ar su j) ⟨(of_eqb (by kernel_rfl)), (of_eqb (by kernel_rfl)), s0, c1, rfl, rfl, rfl, s2, s2, h0, trivial⟩ more
theorem scl_1r (k n : Int) (s t : List Nat) (d : Dat) (kd rs sh : Int) (m f : List Nat) (ar su : Dat) (j : Int) : bodyO 6 mth cal 1000 lp31_0 [2, 3, 4, 5] 8 (mkE [(2, (.p 6 0)), (3, (.p 7 0)), (4, (.b false)), (5, (.i .i64 j))]) (mkT [(6, .cells [(.i .i8 k), (.i .i64 n), (.s s), (.s t), (.es 26 d), (.i .i8 kd), (.i .i8 rs), (.i .i64 sh), (.s m), (.s f), (.es 26 ar), (.es 38 su)] 87 false), (7, .cells [(.i .i8 k), (.i .i64 n), (.s s), (.s t), (.es 26 d), (.i .i8 kd), (.i .i8 rs), (.i .i64 sh), (.s m), (.s f), (.es 26 ar), (.es 38 su)] 87 false)]) 8 [.br false] = some ((.exit 0), (mkE [(2, (.p 6 0)), (3, (.p 7 0)), (4, (.b false)), (5, (.i .i64 j))]), (mkT [(6, .cells [(.i .i8 k), (.i .i64 n), (.s s), (.s t), (.es 26 d), (.i .i8 kd), (.i .i8 rs), (.i .i64 sh), (.s m), (.s f), (.es 26 ar), (.es 38 su)] 87 false), (7, .cells [(.i .i8 k), (.i .i64 n), (.s s), (.s t), (.es 26 d), (.i .i8 kd), (.i .i8 rs), (.i .i64 sh), (.s m), (.s f), (.es 26 ar), (.es 38 su)] 87 false)]), [.eqb (Sx.underK 8 (mkE [(2, (.p 6 0)), (3, (.p 7 0)), (4, (.b false)), (5, (.i .i64 j))]) [2, 3, 4, 5]) true, .eqb (Sx.underT 8 (mkT [(6, .cells [(.i .i8 k), (.i .i64 n), (.s s), (.s t), (.es 26 d), (.i .i8 kd), (.i .i8 rs), (.i .i64 sh), (.s m), (.s f), (.es 26 ar), (.es 38 su)] 87 false), (7, .cells [(.i .i8 k), (.i .i64 n), (.s s), (.s t), (.es 26 d), (.i .i8 kd), (.i .i8 rs), (.i .i64 sh), (.s m), (.s f), (.es 26 ar), (.es 38 su)] 87 false)])) true, .eqb (decide (j < (List.length (Dat.rows su) : Int))) false]) := by kernel_rfl
theorem scl_1 (k n : Int) (s t : List Nat) (d : Dat) (kd rs sh : Int) (m f : List Nat) (ar su : Dat) (j : Int) (h0 : (decide (j < (List.length (Dat.rows su) : Int))) = false) : LoopC Tryz.prog rho lp31_0 (mkE [(2, (.p 6 0)), (3, (.p 7 0)), (4, (.b false)), (5, (.i .i64 j))]) (mkT [(6, .cells [(.i .i8 k), (.i .i64 n), (.s s), (.s t), (.es 26 d), (.i .i8 kd), (.i .i8 rs), (.i .i64 sh), (.s m), (.s f), (.es 26 ar), (.es 38 su)] 87 false), (7, .cells [(.i .i8 k), (.i .i64 n), (.s s), (.s t), (.es 26 d), (.i .i8 kd), (.i .i8 rs), (.i .i64 sh), (.s m), (.s f), (.es 26 ar), (.es 38 su)] 87 false)]) 8 (.exit 0) (mkE [(2, (.p 6 0)), (3, (.p 7 0)), (4, (.b false)), (5, (.i .i64 j))]) (mkT [(6, .cells [(.i .i8 k), (.i .i64 n), (.s s), (.s t), (.es 26 d), (.i .i8 kd), (.i .i8 rs), (.i .i64 sh), (.s m), (.s f), (.es 26 ar), (.es 38 su)] 87 false), (7, .cells [(.i .i8 k), (.i .i64 n), (.s s), (.s t), (.es 26 d), (.i .i8 kd), (.i .i8 rs), (.i .i64 sh), (.s m), (.s f), (.es 26 ar), (.es 38 su)] 87 false)]) 8 :=
  lp_end (scl_1r k n s t d kd rs sh m f ar su j) (by simp) ⟨(of_eqb (by kernel_rfl)), (of_eqb (by kernel_rfl)), h0, trivial⟩
theorem sc_0 (k n : Int) (s t : List Nat) (d : Dat) (kd rs sh : Int) (m f : List Nat) (ar su : Dat) (j : Int) : funO 6 mth cal 1000 ir31 [(.ag [(.i .i8 k), (.i .i64 n), (.s s), (.s t), (.es 26 d), (.i .i8 kd), (.i .i8 rs), (.i .i64 sh), (.s m), (.s f), (.es 26 ar), (.es 38 su)]), (.ag [(.i .i8 k), (.i .i64 n), (.s s), (.s t), (.es 26 d), (.i .i8 kd), (.i .i8 rs), (.i .i64 sh), (.s m), (.s f), (.es 26 ar), (.es 38 su)])] [.br false, .br false, .br false, .br false, .br false, .cl [.as, .as] (.b true), .cl [.as, .as] (.b true), .br false, .lp [2, 3, 4, 5] 8 (.exit 0) (mkE [(2, (.p 6 0)), (3, (.p 7 0)), (4, (.b false)), (5, (.i .i64 j))]) (mkT [(6, .cells [(.i .i8 k), (.i .i64 n), (.s s), (.s t), (.es 26 d), (.i .i8 kd), (.i .i8 rs), (.i .i64 sh), (.s m), (.s f), (.es 26 ar), (.es 38 su)] 87 false), (7, .cells [(.i .i8 k), (.i .i64 n), (.s s), (.s t), (.es 26 d), (.i .i8 kd), (.i .i8 rs), (.i .i64 sh), (.s m), (.s f), (.es 26 ar), (.es 38 su)] 87 false)]) 8] = some ((.b true), [.loop lp31_0 (mkE [(2, (.p 6 0)), (3, (.p 7 0)), (4, (.b false)), (5, (.i .i64 0))]) (mkT [(6, .cells [(.i .i8 k), (.i .i64 n), (.s s), (.s t), (.es 26 d), (.i .i8 kd), (.i .i8 rs), (.i .i64 sh), (.s m), (.s f), (.es 26 ar), (.es 38 su)] 87 false), (7, .cells [(.i .i8 k), (.i .i64 n), (.s s), (.s t), (.es 26 d), (.i .i8 kd), (.i .i8 rs), (.i .i64 sh), (.s m), (.s f), (.es 26 ar), (.es 38 su)] 87 false)]) 8 (.exit 0) (mkE [(2, (.p 6 0)), (3, (.p 7 0)), (4, (.b false)), (5, (.i .i64 j))]) (mkT [(6, .cells [(.i .i8 k), (.i .i64 n), (.s s), (.s t), (.es 26 d), (.i .i8 kd), (.i .i8 rs), (.i .i64 sh), (.s m), (.s f), (.es 26 ar), (.es 38 su)] 87 false), (7, .cells [(.i .i8 k), (.i .i64 n), (.s s), (.s t), (.es 26 d), (.i .i8 kd), (.i .i8 rs), (.i .i64 sh), (.s m), (.s f), (.es 26 ar), (.es 38 su)] 87 false)]) 8, .eqb (Sx.underK 8 (mkE [(2, (.p 6 0)), (3, (.p 7 0)), (4, (.b false)), (5, (.i .i64 0))]) [2, 3, 4, 5]) true, .eqb (Sx.underT 8 (mkT [(6, .cells [(.i .i8 k), (.i .i64 n), (.s s), (.s t), (.es 26 d), (.i .i8 kd), (.i .i8 rs), (.i .i64 sh), (.s m), (.s f), (.es 26 ar), (.es 38 su)] 87 false), (7, .cells [(.i .i8 k), (.i .i64 n), (.s s), (.s t), (.es 26 d), (.i .i8 kd), (.i .i8 rs), (.i .i64 sh), (.s m), (.s f), (.es 26 ar), (.es 38 su)] 87 false)])) true, .eqb (!decide ((List.length (Dat.rows su) : Int) = (List.length (Dat.rows su) : Int))) false, .call 20 [(.es 26 ar), (.es 26 ar)] (.b true), .eqb (freeL []) true, .eqb (TV.free (.es 26 ar)) true, .eqb (TV.free (.es 26 ar)) true, .call 12 [(.ag [(.i .i8 k), (.i .i64 n), (.s s), (.s t), (.es 26 d)]), (.ag [(.i .i8 k), (.i .i64 n), (.s s), (.s t), (.es 26 d)])] (.b true), .eqb (freeL []) true, .eqb (TV.free (.ag [(.i .i8 k), (.i .i64 n), (.s s), (.s t), (.es 26 d)])) true, .eqb (TV.free (.ag [(.i .i8 k), (.i .i64 n), (.s s), (.s t), (.es 26 d)])) true, .eqb (!decide (f = f)) false, .eqb (!decide (m = m)) false, .eqb (!decide (sh = sh)) false, .eqb (!decide (rs = rs)) false, .eqb (!decide (kd = kd)) false]) := by kernel_rfl
theorem sc_p0 (k n : Int) (s t : List Nat) (d : Dat) (kd rs sh : Int) (m f : List Nat) (ar su : Dat) (j : Int) (c0 : Pu 12 [(.ag [(.i .i8 k), (.i .i64 n), (.s s), (.s t), (.es 26 d)]), (.ag [(.i .i8 k), (.i .i64 n), (.s s), (.s t), (.es 26 d)])] (.b true)) (c1 : Pu 20 [(.es 26 ar), (.es 26 ar)] (.b true)) (l2 : LoopC Tryz.prog rho lp31_0 (mkE [(2, (.p 6 0)), (3, (.p 7 0)), (4, (.b false)), (5, (.i .i64 0))]) (mkT [(6, .cells [(.i .i8 k), (.i .i64 n), (.s s), (.s t), (.es 26 d), (.i .i8 kd), (.i .i8 rs), (.i .i64 sh), (.s m), (.s f), (.es 26 ar), (.es 38 su)] 87 false), (7, .cells [(.i .i8 k), (.i .i64 n), (.s s), (.s t), (.es 26 d), (.i .i8 kd), (.i .i8 rs), (.i .i64 sh), (.s m), (.s f), (.es 26 ar), (.es 38 su)] 87 false)]) 8 (.exit 0) (mkE [(2, (.p 6 0)), (3, (.p 7 0)), (4, (.b false)), (5, (.i .i64 j))]) (mkT [(6, .cells [(.i .i8 k), (.i .i64 n), (.s s), (.s t), (.es 26 d), (.i .i8 kd), (.i .i8 rs), (.i .i64 sh), (.s m), (.s f), (.es 26 ar), (.es 38 su)] 87 false), (7, .cells [(.i .i8 k), (.i .i64 n), (.s s), (.s t), (.es 26 d), (.i .i8 kd), (.i .i8 rs), (.i .i64 sh), (.s m), (.s f), (.es 26 ar), (.es 38 su)] 87 false)]) 8) : Pu 31 [(.ag [(.i .i8 k), (.i .i64 n), (.s s), (.s t), (.es 26 d), (.i .i8 kd), (.i .i8 rs), (.i .i64 sh), (.s m), (.s f), (.es 26 ar), (.es 38 su)]), (.ag [(.i .i8 k), (.i .i64 n), (.s s), (.s t), (.es 26 d), (.i .i8 kd), (.i .i8 rs), (.i .i64 sh), (.s m), (.s f), (.es 26 ar), (.es 38 su)])] (.b true) :=
  pu_of Tryz.func31 irc31 (sc_0 k n s t d kd rs sh m f ar su j) rfl ⟨l2, (of_eqb (by kernel_rfl)), (of_eqb (by kernel_rfl)), (of_eqb (by simp [ieq_eq])), c1, rfl, rfl, rfl, c0, rfl, rfl, rfl, (of_eqb (by simp [ieq_eq])), (of_eqb (by simp [ieq_eq])), (of_eqb (by simp [ieq_eq])), (of_eqb (by simp [ieq_eq])), (of_eqb (by simp [ieq_eq])), trivial⟩
theorem ssl_0r (st mr mt : Int) (d : Dat) (j : Int) : bodyO 6 mth cal 1000 lp24_0 [2, 3, 4, 5] 8 (mkE [(2, (.p 6 0)), (3, (.p 7 0)), (4, (.b false)), (5, (.i .i64 j))]) (mkT [(6, .cells [(.i .i8 st), (.i .i64 mr), (.i .i64 mt), (.es 87 d)] 38 false), (7, .cells [(.i .i8 st), (.i .i64 mr), (.i .i64 mt), (.es 87 d)] 38 false)]) 8 [.br true, .cl [.as, .as] (.b true)] = some (.nrm, (mkE [(2, (.p 6 0)), (3, (.p 7 0)), (4, (.b false)), (5, (.i .i64 (j + 1)))]), (mkT [(6, .cells [(.i .i8 st), (.i .i64 mr), (.i .i64 mt), (.es 87 d)] 38 false), (7, .cells [(.i .i8 st), (.i .i64 mr), (.i .i64 mt), (.es 87 d)] 38 false)]), [.eqb (Sx.underK 8 (mkE [(2, (.p 6 0)), (3, (.p 7 0)), (4, (.b false)), (5, (.i .i64 (j + 1)))]) [2, 3, 4, 5]) true, .eqb (Sx.underT 8 (mkT [(6, .cells [(.i .i8 st), (.i .i64 mr), (.i .i64 mt), (.es 87 d)] 38 false), (7, .cells [(.i .i8 st), (.i .i64 mr), (.i .i64 mt), (.es 87 d)] 38 false)])) true, .eqb (Sx.inK .i64 (j + 1)) true, .call 31 [(.ag [(.i .i8 (Dat.int (List.getD (List.getD (Dat.rows d) (Int.toNat j) []) 0 .o))), (.i .i64 (Dat.int (List.getD (List.getD (Dat.rows d) (Int.toNat j) []) 1 .o))), (.s (Dat.str (List.getD (List.getD (Dat.rows d) (Int.toNat j) []) 2 .o))), (.s (Dat.str (List.getD (List.getD (Dat.rows d) (Int.toNat j) []) 3 .o))), (.es 26 (List.getD (List.getD (Dat.rows d) (Int.toNat j) []) 4 .o)), (.i .i8 (Dat.int (List.getD (List.getD (Dat.rows d) (Int.toNat j) []) 5 .o))), (.i .i8 (Dat.int (List.getD (List.getD (Dat.rows d) (Int.toNat j) []) 6 .o))), (.i .i64 (Dat.int (List.getD (List.getD (Dat.rows d) (Int.toNat j) []) 7 .o))), (.s (Dat.str (List.getD (List.getD (Dat.rows d) (Int.toNat j) []) 8 .o))), (.s (Dat.str (List.getD (List.getD (Dat.rows d) (Int.toNat j) []) 9 .o))), (.es 26 (List.getD (List.getD (Dat.rows d) (Int.toNat j) []) 10 .o)), (.es 38 (List.getD (List.getD (Dat.rows d) (Int.toNat j) []) 11 .o))]), (.ag [(.i .i8 (Dat.int (List.getD (List.getD (Dat.rows d) (Int.toNat j) []) 0 .o))), (.i .i64 (Dat.int (List.getD (List.getD (Dat.rows d) (Int.toNat j) []) 1 .o))), (.s (Dat.str (List.getD (List.getD (Dat.rows d) (Int.toNat j) []) 2 .o))), (.s (Dat.str (List.getD (List.getD (Dat.rows d) (Int.toNat j) []) 3 .o))), (.es 26 (List.getD (List.getD (Dat.rows d) (Int.toNat j) []) 4 .o)), (.i .i8 (Dat.int (List.getD (List.getD (Dat.rows d) (Int.toNat j) []) 5 .o))), (.i .i8 (Dat.int (List.getD (List.getD (Dat.rows d) (Int.toNat j) []) 6 .o))), (.i .i64 (Dat.int (List.getD (List.getD (Dat.rows d) (Int.toNat j) []) 7 .o))), (.s (Dat.str (List.getD (List.getD (Dat.rows d) (Int.toNat j) []) 8 .o))), (.s (Dat.str (List.getD (List.getD (Dat.rows d) (Int.toNat j) []) 9 .o))), (.es 26 (List.getD (List.getD (Dat.rows d) (Int.toNat j) []) 10 .o)), (.es 38 (List.getD (List.getD (Dat.rows d) (Int.toNat j) []) 11 .o))])] (.b true), .eqb (freeL []) true, .eqb (TV.free (.ag [(.i .i8 (Dat.int (List.getD (List.getD (Dat.rows d) (Int.toNat j) []) 0 .o))), (.i .i64 (Dat.int (List.getD (List.getD (Dat.rows d) (Int.toNat j) []) 1 .o))), (.s (Dat.str (List.getD (List.getD (Dat.rows d) (Int.toNat j) []) 2 .o))), (.s (Dat.str (List.getD (List.getD (Dat.rows d) (Int.toNat j) []) 3 .o))), (.es 26 (List.getD (List.getD (Dat.rows d) (Int.toNat j) []) 4 .o)), (.i .i8 (Dat.int (List.getD (List.getD (Dat.rows d) (Int.toNat j) []) 5 .o))), (.i .i8 (Dat.int (List.getD (List.getD (Dat.rows d) (Int.toNat j) []) 6 .o))), (.i .i64 (Dat.int (List.getD (List.getD (Dat.rows d) (Int.toNat j) []) 7 .o))), (.s (Dat.str (List.getD (List.getD (Dat.rows d) (Int.toNat j) []) 8 .o))), (.s (Dat.str (List.getD (List.getD (Dat.rows d) (Int.toNat j) []) 9 .o))), (.es 26 (List.getD (List.getD (Dat.rows d) (Int.toNat j) []) 10 .o)), (.es 38 (List.getD (List.getD (Dat.rows d) (Int.toNat j) []) 11 .o))])) true, .eqb (TV.free (.ag [(.i .i8 (Dat.int (List.getD (List.getD (Dat.rows d) (Int.toNat j) []) 0 .o))), (.i .i64 (Dat.int (List.getD (List.getD (Dat.rows d) (Int.toNat j) []) 1 .o))), (.s (Dat.str (List.getD (List.getD (Dat.rows d) (Int.toNat j) []) 2 .o))), (.s (Dat.str (List.getD (List.getD (Dat.rows d) (Int.toNat j) []) 3 .o))), (.es 26 (List.getD (List.getD (Dat.rows d) (Int.toNat j) []) 4 .o)), (.i .i8 (Dat.int (List.getD (List.getD (Dat.rows d) (Int.toNat j) []) 5 .o))), (.i .i8 (Dat.int (List.getD (List.getD (Dat.rows d) (Int.toNat j) []) 6 .o))), (.i .i64 (Dat.int (List.getD (List.getD (Dat.rows d) (Int.toNat j) []) 7 .o))), (.s (Dat.str (List.getD (List.getD (Dat.rows d) (Int.toNat j) []) 8 .o))), (.s (Dat.str (List.getD (List.getD (Dat.rows d) (Int.toNat j) []) 9 .o))), (.es 26 (List.getD (List.getD (Dat.rows d) (Int.toNat j) []) 10 .o)), (.es 38 (List.getD (List.getD (Dat.rows d) (Int.toNat j) []) 11 .o))])) true, .eqb (Sx.inB j (List.length (Dat.rows d))) true, .eqb (Sx.inB j (List.length (Dat.rows d))) true, .eqb (decide (j < (List.length (Dat.rows d) : Int))) true]) := by kernel_rfl
theorem ssl_0 (st mr mt : Int) (d : Dat) (j : Int) (h0 : (decide (j < (List.length (Dat.rows d) : Int))) = true) (s0 : (Sx.inK .i64 (j + 1)) = true) (c1 : Pu 31 [(.ag [(.i .i8 (Dat.int (List.getD (List.getD (Dat.rows d) (Int.toNat j) []) 0 .o))), (.i .i64 (Dat.int (List.getD (List.getD (Dat.rows d) (Int.toNat j) []) 1 .o))), (.s (Dat.str (List.getD (List.getD (Dat.rows d) (Int.toNat j) []) 2 .o))), (.s (Dat.str (List.getD (List.getD (Dat.rows d) (Int.toNat j) []) 3 .o))), (.es 26 (List.getD (List.getD (Dat.rows d) (Int.toNat j) []) 4 .o)), (.i .i8 (Dat.int (List.getD (List.getD (Dat.rows d) (Int.toNat j) []) 5 .o))), (.i .i8 (Dat.int (List.getD (List.getD (Dat.rows d) (Int.toNat j) []) 6 .o))), (.i .i64 (Dat.int (List.getD (List.getD (Dat.rows d) (Int.toNat j) []) 7 .o))), (.s (Dat.str (List.getD (List.getD (Dat.rows d) (Int.toNat j) []) 8 .o))), (.s (Dat.str (List.getD (List.getD (Dat.rows d) (Int.toNat j) []) 9 .o))), (.es 26 (List.getD (List.getD (Dat.rows d) (Int.toNat j) []) 10 .o)), (.es 38 (List.getD (List.getD (Dat.rows d) (Int.toNat j) []) 11 .o))]), (.ag [(.i .i8 (Dat.int (List.getD (List.getD (Dat.rows d) (Int.toNat j) []) 0 .o))), (.i .i64 (Dat.int (List.getD (List.getD (Dat.rows d) (Int.toNat j) []) 1 .o))), (.s (Dat.str (List.getD (List.getD (Dat.rows d) (Int.toNat j) []) 2 .o))), (.s (Dat.str (List.getD (List.getD (Dat.rows d) (Int.toNat j) []) 3 .o))), (.es 26 (List.getD (List.getD (Dat.rows d) (Int.toNat j) []) 4 .o)), (.i .i8 (Dat.int (List.getD (List.getD (Dat.rows d) (Int.toNat j) []) 5 .o))), (.i .i8 (Dat.int (List.getD (List.getD (Dat.rows d) (Int.toNat j) []) 6 .o))), (.i .i64 (Dat.int (List.getD (List.getD (Dat.rows d) (Int.toNat j) []) 7 .o))), (.s (Dat.str (List.getD (List.getD (Dat.rows d) (Int.toNat j) []) 8 .o))), (.s (Dat.str (List.getD (List.getD (Dat.rows d) (Int.toNat j) []) 9 .o))), (.es 26 (List.getD (List.getD (Dat.rows d) (Int.toNat j) []) 10 .o)), (.es 38 (List.getD (List.getD (Dat.rows d) (Int.toNat j) []) 11 .o))])] (.b true)) (s2 : (Sx.inB j (List.length (Dat.rows d))) = true) {EX : EX} {EE : Trie TV} {ET : Trie TB} {EN : Nat} (more : LoopC Tryz.prog rho lp24_0 (mkE [(2, (.p 6 0)), (3, (.p 7 0)), (4, (.b false)), (5, (.i .i64 (j + 1)))]) (mkT [(6, .cells [(.i .i8 st), (.i .i64 mr), (.i .i64 mt), (.es 87 d)] 38 false), (7, .cells [(.i .i8 st), (.i .i64 mr), (.i .i64 mt), (.es 87 d)] 38 false)]) 8 EX EE ET EN) : LoopC Tryz.prog rho lp24_0 (mkE [(2, (.p 6 0)), (3, (.p 7 0)), (4, (.b false)), (5, (.i .i64 j))]) (mkT [(6, .cells [(.i .i8 st), (.i .i64 mr), (.i .i64 mt), (.es 87 d)] 38 false), (7, .cells [(.i .i8 st), (.i .i64 mr), (.i .i64 mt), (.es 87 d)] 38 false)]) 8 EX EE ET EN :=
  lp_more (ssl_0r st mr mt d j) ⟨(of_eqb (by kernel_rfl)), (of_eqb (by kernel_rfl)), s0, c1, rfl, rfl, rfl, s2, s2, h0, trivial⟩ more
theorem ssl_1r (st mr mt : Int) (d : Dat) (j : Int) : bodyO 6 mth cal 1000 lp24_0 [2, 3, 4, 5] 8 (mkE [(2, (.p 6 0)), (3, (.p 7 0)), (4, (.b false)), (5, (.i .i64 j))]) (mkT [(6, .cells [(.i .i8 st), (.i .i64 mr), (.i .i64 mt), (.es 87 d)] 38 false), (7, .cells [(.i .i8 st), (.i .i64 mr), (.i .i64 mt), (.es 87 d)] 38 false)]) 8 [.br false] = some ((.exit 0), (mkE [(2, (.p 6 0)), (3, (.p 7 0)), (4, (.b false)), (5, (.i .i64 j))]), (mkT [(6, .cells [(.i .i8 st), (.i .i64 mr), (.i .i64 mt), (.es 87 d)] 38 false), (7, .cells [(.i .i8 st), (.i .i64 mr), (.i .i64 mt), (.es 87 d)] 38 false)]), [.eqb (Sx.underK 8 (mkE [(2, (.p 6 0)), (3, (.p 7 0)), (4, (.b false)), (5, (.i .i64 j))]) [2, 3, 4, 5]) true, .eqb (Sx.underT 8 (mkT [(6, .cells [(.i .i8 st), (.i .i64 mr), (.i .i64 mt), (.es 87 d)] 38 false), (7, .cells [(.i .i8 st), (.i .i64 mr), (.i .i64 mt), (.es 87 d)] 38 false)])) true, .eqb (decide (j < (List.length (Dat.rows d) : Int))) false]) := by kernel_rfl
theorem ssl_1 (st mr mt : Int) (d : Dat) (j : Int) (h0 : (decide (j < (List.length (Dat.rows d) : Int))) = false) : LoopC Tryz.prog rho lp24_0 (mkE [(2, (.p 6 0)), (3, (.p 7 0)), (4, (.b false)), (5, (.i .i64 j))]) (mkT [(6, .cells [(.i .i8 st), (.i .i64 mr), (.i .i64 mt), (.es 87 d)] 38 false), (7, .cells [(.i .i8 st), (.i .i64 mr), (.i .i64 mt), (.es 87 d)] 38 false)]) 8 (.exit 0) (mkE [(2, (.p 6 0)), (3, (.p 7 0)), (4, (.b false)), (5, (.i .i64 j))]) (mkT [(6, .cells [(.i .i8 st), (.i .i64 mr), (.i .i64 mt), (.es 87 d)] 38 false), (7, .cells [(.i .i8 st), (.i .i64 mr), (.i .i64 mt), (.es 87 d)] 38 false)]) 8 :=
  lp_end (ssl_1r st mr mt d j) (by simp) ⟨(of_eqb (by kernel_rfl)), (of_eqb (by kernel_rfl)), h0, trivial⟩
theorem ss_0 (st mr mt : Int) (d : Dat) (j : Int) : funO 6 mth cal 1000 ir24 [(.ag [(.i .i8 st), (.i .i64 mr), (.i .i64 mt), (.es 87 d)]), (.ag [(.i .i8 st), (.i .i64 mr), (.i .i64 mt), (.es 87 d)])] [.br false, .br false, .br false, .br false, .lp [2, 3, 4, 5] 8 (.exit 0) (mkE [(2, (.p 6 0)), (3, (.p 7 0)), (4, (.b false)), (5, (.i .i64 j))]) (mkT [(6, .cells [(.i .i8 st), (.i .i64 mr), (.i .i64 mt), (.es 87 d)] 38 false), (7, .cells [(.i .i8 st), (.i .i64 mr), (.i .i64 mt), (.es 87 d)] 38 false)]) 8] = some ((.b true), [.loop lp24_0 (mkE [(2, (.p 6 0)), (3, (.p 7 0)), (4, (.b false)), (5, (.i .i64 0))]) (mkT [(6, .cells [(.i .i8 st), (.i .i64 mr), (.i .i64 mt), (.es 87 d)] 38 false), (7, .cells [(.i .i8 st), (.i .i64 mr), (.i .i64 mt), (.es 87 d)] 38 false)]) 8 (.exit 0) (mkE [(2, (.p 6 0)), (3, (.p 7 0)), (4, (.b false)), (5, (.i .i64 j))]) (mkT [(6, .cells [(.i .i8 st), (.i .i64 mr), (.i .i64 mt), (.es 87 d)] 38 false), (7, .cells [(.i .i8 st), (.i .i64 mr), (.i .i64 mt), (.es 87 d)] 38 false)]) 8, .eqb (Sx.underK 8 (mkE [(2, (.p 6 0)), (3, (.p 7 0)), (4, (.b false)), (5, (.i .i64 0))]) [2, 3, 4, 5]) true, .eqb (Sx.underT 8 (mkT [(6, .cells [(.i .i8 st), (.i .i64 mr), (.i .i64 mt), (.es 87 d)] 38 false), (7, .cells [(.i .i8 st), (.i .i64 mr), (.i .i64 mt), (.es 87 d)] 38 false)])) true, .eqb (!decide ((List.length (Dat.rows d) : Int) = (List.length (Dat.rows d) : Int))) false, .eqb (!decide (mt = mt)) false, .eqb (!decide (mr = mr)) false, .eqb (!decide (st = st)) false]) := by kernel_rfl
theorem ss_p0 (st mr mt : Int) (d : Dat) (j : Int) (l0 : LoopC Tryz.prog rho lp24_0 (mkE [(2, (.p 6 0)), (3, (.p 7 0)), (4, (.b false)), (5, (.i .i64 0))]) (mkT [(6, .cells [(.i .i8 st), (.i .i64 mr), (.i .i64 mt), (.es 87 d)] 38 false), (7, .cells [(.i .i8 st), (.i .i64 mr), (.i .i64 mt), (.es 87 d)] 38 false)]) 8 (.exit 0) (mkE [(2, (.p 6 0)), (3, (.p 7 0)), (4, (.b false)), (5, (.i .i64 j))]) (mkT [(6, .cells [(.i .i8 st), (.i .i64 mr), (.i .i64 mt), (.es 87 d)] 38 false), (7, .cells [(.i .i8 st), (.i .i64 mr), (.i .i64 mt), (.es 87 d)] 38 false)]) 8) : Pu 24 [(.ag [(.i .i8 st), (.i .i64 mr), (.i .i64 mt), (.es 87 d)]), (.ag [(.i .i8 st), (.i .i64 mr), (.i .i64 mt), (.es 87 d)])] (.b true) :=
  pu_of Tryz.func24 irc24 (ss_0 st mr mt d j) rfl ⟨l0, (of_eqb (by kernel_rfl)), (of_eqb (by kernel_rfl)), (of_eqb (by simp [ieq_eq])), (of_eqb (by simp [ieq_eq])), (of_eqb (by simp [ieq_eq])), (of_eqb (by simp [ieq_eq])), trivial⟩
theorem fr_0 (r : List Dat) : funO 6 mth cal 1000 ir9 [(agR 43 r), (agR 43 r)] [.br false, .br false, .br false, .br false, .cl [.as, .as] (.b true), .cl [.as, .as] (.b true), .cl [.as, .as] (.b true), .cl [.as, .as] (.b true), .br true, .br true, .br true, .br true, .br true, .cl [.as, .as] (.b true), .cl [.as, .as] (.b true), .cl [.as, .as] (.b true), .cl [.as, .as] (.b true), .cl [.as, .as] (.b true), .cl [.as, .as] (.b true), .cl [.as, .as] (.b true)] = some ((.b true), [.call 25 [(.es 3 (List.getD r 34 .o)), (.es 3 (List.getD r 34 .o))] (.b true), .eqb (freeL []) true, .eqb (TV.free (.es 3 (List.getD r 34 .o))) true, .eqb (TV.free (.es 3 (List.getD r 34 .o))) true, .call 25 [(.es 3 (List.getD r 33 .o)), (.es 3 (List.getD r 33 .o))] (.b true), .eqb (freeL []) true, .eqb (TV.free (.es 3 (List.getD r 33 .o))) true, .eqb (TV.free (.es 3 (List.getD r 33 .o))) true, .call 24 [(.ag [(.i .i8 (Dat.int (List.getD r 29 .o))), (.i .i64 (Dat.int (List.getD r 30 .o))), (.i .i64 (Dat.int (List.getD r 31 .o))), (.es 87 (List.getD r 32 .o))]), (.ag [(.i .i8 (Dat.int (List.getD r 29 .o))), (.i .i64 (Dat.int (List.getD r 30 .o))), (.i .i64 (Dat.int (List.getD r 31 .o))), (.es 87 (List.getD r 32 .o))])] (.b true), .eqb (freeL []) true, .eqb (TV.free (.ag [(.i .i8 (Dat.int (List.getD r 29 .o))), (.i .i64 (Dat.int (List.getD r 30 .o))), (.i .i64 (Dat.int (List.getD r 31 .o))), (.es 87 (List.getD r 32 .o))])) true, .eqb (TV.free (.ag [(.i .i8 (Dat.int (List.getD r 29 .o))), (.i .i64 (Dat.int (List.getD r 30 .o))), (.i .i64 (Dat.int (List.getD r 31 .o))), (.es 87 (List.getD r 32 .o))])) true, .call 23 [(.es 89 (List.getD r 28 .o)), (.es 89 (List.getD r 28 .o))] (.b true), .eqb (freeL []) true, .eqb (TV.free (.es 89 (List.getD r 28 .o))) true, .eqb (TV.free (.es 89 (List.getD r 28 .o))) true, .call 12 [(.ag [(.i .i8 (Dat.int (List.getD r 23 .o))), (.i .i64 (Dat.int (List.getD r 24 .o))), (.s (Dat.str (List.getD r 25 .o))), (.s (Dat.str (List.getD r 26 .o))), (.es 26 (List.getD r 27 .o))]), (.ag [(.i .i8 (Dat.int (List.getD r 23 .o))), (.i .i64 (Dat.int (List.getD r 24 .o))), (.s (Dat.str (List.getD r 25 .o))), (.s (Dat.str (List.getD r 26 .o))), (.es 26 (List.getD r 27 .o))])] (.b true), .eqb (freeL []) true, .eqb (TV.free (.ag [(.i .i8 (Dat.int (List.getD r 23 .o))), (.i .i64 (Dat.int (List.getD r 24 .o))), (.s (Dat.str (List.getD r 25 .o))), (.s (Dat.str (List.getD r 26 .o))), (.es 26 (List.getD r 27 .o))])) true, .eqb (TV.free (.ag [(.i .i8 (Dat.int (List.getD r 23 .o))), (.i .i64 (Dat.int (List.getD r 24 .o))), (.s (Dat.str (List.getD r 25 .o))), (.s (Dat.str (List.getD r 26 .o))), (.es 26 (List.getD r 27 .o))])) true, .call 12 [(.ag [(.i .i8 (Dat.int (List.getD r 18 .o))), (.i .i64 (Dat.int (List.getD r 19 .o))), (.s (Dat.str (List.getD r 20 .o))), (.s (Dat.str (List.getD r 21 .o))), (.es 26 (List.getD r 22 .o))]), (.ag [(.i .i8 (Dat.int (List.getD r 18 .o))), (.i .i64 (Dat.int (List.getD r 19 .o))), (.s (Dat.str (List.getD r 20 .o))), (.s (Dat.str (List.getD r 21 .o))), (.es 26 (List.getD r 22 .o))])] (.b true), .eqb (freeL []) true, .eqb (TV.free (.ag [(.i .i8 (Dat.int (List.getD r 18 .o))), (.i .i64 (Dat.int (List.getD r 19 .o))), (.s (Dat.str (List.getD r 20 .o))), (.s (Dat.str (List.getD r 21 .o))), (.es 26 (List.getD r 22 .o))])) true, .eqb (TV.free (.ag [(.i .i8 (Dat.int (List.getD r 18 .o))), (.i .i64 (Dat.int (List.getD r 19 .o))), (.s (Dat.str (List.getD r 20 .o))), (.s (Dat.str (List.getD r 21 .o))), (.es 26 (List.getD r 22 .o))])) true, .call 12 [(.ag [(.i .i8 (Dat.int (List.getD r 13 .o))), (.i .i64 (Dat.int (List.getD r 14 .o))), (.s (Dat.str (List.getD r 15 .o))), (.s (Dat.str (List.getD r 16 .o))), (.es 26 (List.getD r 17 .o))]), (.ag [(.i .i8 (Dat.int (List.getD r 13 .o))), (.i .i64 (Dat.int (List.getD r 14 .o))), (.s (Dat.str (List.getD r 15 .o))), (.s (Dat.str (List.getD r 16 .o))), (.es 26 (List.getD r 17 .o))])] (.b true), .eqb (freeL []) true, .eqb (TV.free (.ag [(.i .i8 (Dat.int (List.getD r 13 .o))), (.i .i64 (Dat.int (List.getD r 14 .o))), (.s (Dat.str (List.getD r 15 .o))), (.s (Dat.str (List.getD r 16 .o))), (.es 26 (List.getD r 17 .o))])) true, .eqb (TV.free (.ag [(.i .i8 (Dat.int (List.getD r 13 .o))), (.i .i64 (Dat.int (List.getD r 14 .o))), (.s (Dat.str (List.getD r 15 .o))), (.s (Dat.str (List.getD r 16 .o))), (.es 26 (List.getD r 17 .o))])) true, .eqb (decide ((Dat.int (List.getD r 12 .o)) = (Dat.int (List.getD r 12 .o)))) true, .eqb (decide ((Dat.int (List.getD r 11 .o)) = (Dat.int (List.getD r 11 .o)))) true, .eqb (decide ((Dat.int (List.getD r 10 .o)) = (Dat.int (List.getD r 10 .o)))) true, .eqb (decide ((Dat.int (List.getD r 9 .o)) = (Dat.int (List.getD r 9 .o)))) true, .eqb (decide ((Dat.int (List.getD r 8 .o)) = (Dat.int (List.getD r 8 .o)))) true, .call 22 [(.es 63 (List.getD r 6 .o)), (.es 63 (List.getD r 6 .o))] (.b true), .eqb (freeL []) true, .eqb (TV.free (.es 63 (List.getD r 6 .o))) true, .eqb (TV.free (.es 63 (List.getD r 6 .o))) true, .call 20 [(.es 26 (List.getD r 5 .o)), (.es 26 (List.getD r 5 .o))] (.b true), .eqb (freeL []) true, .eqb (TV.free (.es 26 (List.getD r 5 .o))) true, .eqb (TV.free (.es 26 (List.getD r 5 .o))) true, .call 21 [(.es 4 (List.getD r 4 .o)), (.es 4 (List.getD r 4 .o))] (.b true), .eqb (freeL []) true, .eqb (TV.free (.es 4 (List.getD r 4 .o))) true, .eqb (TV.free (.es 4 (List.getD r 4 .o))) true, .call 20 [(.es 26 (List.getD r 3 .o)), (.es 26 (List.getD r 3 .o))] (.b true), .eqb (freeL []) true, .eqb (TV.free (.es 26 (List.getD r 3 .o))) true, .eqb (TV.free (.es 26 (List.getD r 3 .o))) true, .eqb (!decide ((Dat.int (List.getD r 7 .o)) = (Dat.int (List.getD r 7 .o)))) false, .eqb (!decide ((Dat.int (List.getD r 2 .o)) = (Dat.int (List.getD r 2 .o)))) false, .eqb (!decide ((Dat.int (List.getD r 1 .o)) = (Dat.int (List.getD r 1 .o)))) false, .eqb (!decide ((Dat.int (List.getD r 0 .o)) = (Dat.int (List.getD r 0 .o)))) false]) := by kernel_rfl
theorem fr_p0 (r : List Dat) (c0 : Pu 20 [(.es 26 (List.getD r 3 .o)), (.es 26 (List.getD r 3 .o))] (.b true)) (c1 : Pu 21 [(.es 4 (List.getD r 4 .o)), (.es 4 (List.getD r 4 .o))] (.b true)) (c2 : Pu 20 [(.es 26 (List.getD r 5 .o)), (.es 26 (List.getD r 5 .o))] (.b true)) (c3 : Pu 22 [(.es 63 (List.getD r 6 .o)), (.es 63 (List.getD r 6 .o))] (.b true)) (c4 : Pu 12 [(.ag [(.i .i8 (Dat.int (List.getD r 13 .o))), (.i .i64 (Dat.int (List.getD r 14 .o))), (.s (Dat.str (List.getD r 15 .o))), (.s (Dat.str (List.getD r 16 .o))), (.es 26 (List.getD r 17 .o))]), (.ag [(.i .i8 (Dat.int (List.getD r 13 .o))), (.i .i64 (Dat.int (List.getD r 14 .o))), (.s (Dat.str (List.getD r 15 .o))), (.s (Dat.str (List.getD r 16 .o))), (.es 26 (List.getD r 17 .o))])] (.b true)) (c5 : Pu 12 [(.ag [(.i .i8 (Dat.int (List.getD r 18 .o))), (.i .i64 (Dat.int (List.getD r 19 .o))), (.s (Dat.str (List.getD r 20 .o))), (.s (Dat.str (List.getD r 21 .o))), (.es 26 (List.getD r 22 .o))]), (.ag [(.i .i8 (Dat.int (List.getD r 18 .o))), (.i .i64 (Dat.int (List.getD r 19 .o))), (.s (Dat.str (List.getD r 20 .o))), (.s (Dat.str (List.getD r 21 .o))), (.es 26 (List.getD r 22 .o))])] (.b true)) (c6 : Pu 12 [(.ag [(.i .i8 (Dat.int (List.getD r 23 .o))), (.i .i64 (Dat.int (List.getD r 24 .o))), (.s (Dat.str (List.getD r 25 .o))), (.s (Dat.str (List.getD r 26 .o))), (.es 26 (List.getD r 27 .o))]), (.ag [(.i .i8 (Dat.int (List.getD r 23 .o))), (.i .i64 (Dat.int (List.getD r 24 .o))), (.s (Dat.str (List.getD r 25 .o))), (.s (Dat.str (List.getD r 26 .o))), (.es 26 (List.getD r 27 .o))])] (.b true)) (c7 : Pu 23 [(.es 89 (List.getD r 28 .o)), (.es 89 (List.getD r 28 .o))] (.b true)) (c8 : Pu 24 [(.ag [(.i .i8 (Dat.int (List.getD r 29 .o))), (.i .i64 (Dat.int (List.getD r 30 .o))), (.i .i64 (Dat.int (List.getD r 31 .o))), (.es 87 (List.getD r 32 .o))]), (.ag [(.i .i8 (Dat.int (List.getD r 29 .o))), (.i .i64 (Dat.int (List.getD r 30 .o))), (.i .i64 (Dat.int (List.getD r 31 .o))), (.es 87 (List.getD r 32 .o))])] (.b true)) (c9 : Pu 25 [(.es 3 (List.getD r 33 .o)), (.es 3 (List.getD r 33 .o))] (.b true)) (c10 : Pu 25 [(.es 3 (List.getD r 34 .o)), (.es 3 (List.getD r 34 .o))] (.b true)) : Pu 9 [(agR 43 r), (agR 43 r)] (.b true) :=
  pu_of Tryz.func9 irc9 (fr_0 r) rfl ⟨c10, rfl, rfl, rfl, c9, rfl, rfl, rfl, c8, rfl, rfl, rfl, c7, rfl, rfl, rfl, c6, rfl, rfl, rfl, c5, rfl, rfl, rfl, c4, rfl, rfl, rfl, (of_eqb (by simp [ieq_eq])), (of_eqb (by simp [ieq_eq])), (of_eqb (by simp [ieq_eq])), (of_eqb (by simp [ieq_eq])), (of_eqb (by simp [ieq_eq])), c3, rfl, rfl, rfl, c2, rfl, rfl, rfl, c1, rfl, rfl, rfl, c0, rfl, rfl, rfl, (of_eqb (by simp [ieq_eq])), (of_eqb (by simp [ieq_eq])), (of_eqb (by simp [ieq_eq])), (of_eqb (by simp [ieq_eq])), trivial⟩

theorem getD_in {row : List Dat} {d : Dat} (hd : Dok d) (h : row ∈ d.rows) (j : Nat) : Dok (row.getD j .o) := hd.at h j
abbrev tmV (k n : Int) (s t : List Nat) (d : Dat) : TV := .ag [.i .i8 k, .i .i64 n, .s s, .s t, .es 26 d]
theorem same_step {d : Dat} (h1 : d.rows.length ≤ 140737488355328) (kid : ∀ row, row ∈ d.rows → Pu 12 [agR 26 row, agR 26 row] (.b true)) (k n : Int) (s t : List Nat) : Pu 12 [tmV k n s t d, tmV k n s t d] (.b true) := by
  apply sm_p0 k n s t d (j := (d.rows.length : Int))
  refine loop_up (N := d.rows.length) (E := fun j => mkE [(2, (.p 6 0)), (3, (.p 7 0)), (4, (.b false)), (5, (.i .i64 j))]) h1 ?_ ?_
  · intro j hj e0 e1 e2 more
    apply sml_0
    all_goals first | with_reducible exact e0 | with_reducible exact e1 | with_reducible exact e2 | with_reducible exact more | exact kid _ (mem_at hj)
  · intro e
    apply sml_1
    exact e
theorem same_in {d : Dat} (hd : Dok d) : ∀ (k n : Int) (s t : List Nat), Pu 12 [tmV k n s t d, tmV k n s t d] (.b true) := by
  induction hd with
  | mk d h0 hs h1 h2 ih =>
    refine same_step h1 fun row hr => ?_
    have key : ∀ (k n : Int) (s t : List Nat), Pu 12 [tmV k n s t (row.getD 4 .o), tmV k n s t (row.getD 4 .o)] (.b true) := by
      rw [List.getD_eq_getElem?_getD]
      cases e : row[4]? with
      | none => exact same_step z2 fun row h => by cases h
      | some u => exact ih row hr u (List.mem_of_getElem? e)
    exact key _ _ _ _
theorem sameAll_in {d : Dat} (hd : Dok d) : Pu 20 [.es 26 d, .es 26 d] (.b true) := by
  apply sa_p0 d (j := (d.rows.length : Int))
  refine loop_up (N := d.rows.length) (E := fun j => mkE [(0, (.es 26 d)), (1, (.es 26 d)), (4, (.b false)), (5, (.i .i64 j))]) hd.len ?_ ?_
  · intro j hj e0 e1 e2 more
    apply sal_0
    all_goals first | with_reducible exact e0 | with_reducible exact e1 | with_reducible exact e2 | with_reducible exact more | exact same_in (hd.at (mem_at hj) 4) _ _ _ _
  · intro e
    apply sal_1
    exact e
theorem sameTries_in {d : Dat} (hd : Dok d) : Pu 22 [.es 63 d, .es 63 d] (.b true) := by
  apply st_p0 d (j := (d.rows.length : Int))
  refine loop_up (N := d.rows.length) (E := fun j => mkE [(0, (.es 63 d)), (1, (.es 63 d)), (4, (.b false)), (5, (.i .i64 j))]) hd.len ?_ ?_
  · intro j hj e0 e1 e2 more
    apply stl_0
    all_goals first | with_reducible exact e0 | with_reducible exact e1 | with_reducible exact e2 | with_reducible exact more
  · intro e
    apply stl_1
    exact e
theorem sameBound_in {d : Dat} (hd : Dok d) : Pu 21 [.es 4 d, .es 4 d] (.b true) := by
  apply sb_p0 d (j := (d.rows.length : Int))
  refine loop_up (N := d.rows.length) (E := fun j => mkE [(0, (.es 4 d)), (1, (.es 4 d)), (4, (.b false)), (5, (.i .i64 j))]) hd.len ?_ ?_
  · intro j hj e0 e1 e2 more
    apply sbl_0
    all_goals first | with_reducible exact e0 | with_reducible exact e1 | with_reducible exact e2 | with_reducible exact more
  · intro e
    apply sbl_1
    exact e
theorem ints_in {d : Dat} (hd : Dok d) : Pu 25 [.es 3 d, .es 3 d] (.b true) := by
  apply si_p0 d (j := (d.rows.length : Int))
  refine loop_up (N := d.rows.length) (E := fun j => mkE [(0, (.es 3 d)), (1, (.es 3 d)), (4, (.b false)), (5, (.i .i64 j))]) hd.len ?_ ?_
  · intro j hj e0 e1 e2 more
    apply sil_0
    all_goals first | with_reducible exact e0 | with_reducible exact e1 | with_reducible exact e2 | with_reducible exact more
  · intro e
    apply sil_1
    exact e
abbrev spV (st mr mt : Int) (d : Dat) : TV := .ag [.i .i8 st, .i .i64 mr, .i .i64 mt, .es 87 d]
abbrev chV (k n : Int) (s t : List Nat) (d : Dat) (kd rs sh : Int) (m f : List Nat) (ar su : Dat) : TV := .ag [.i .i8 k, .i .i64 n, .s s, .s t, .es 26 d, .i .i8 kd, .i .i8 rs, .i .i64 sh, .s m, .s f, .es 26 ar, .es 38 su]
theorem sup_step {d : Dat} (h1 : d.rows.length ≤ 140737488355328) (kid : ∀ row, row ∈ d.rows → Pu 31 [agR 87 row, agR 87 row] (.b true)) (st mr mt : Int) : Pu 24 [spV st mr mt d, spV st mr mt d] (.b true) := by
  apply ss_p0 st mr mt d (j := (d.rows.length : Int))
  refine loop_up (N := d.rows.length) (E := fun j => mkE [(2, (.p 6 0)), (3, (.p 7 0)), (4, (.b false)), (5, (.i .i64 j))]) h1 ?_ ?_
  · intro j hj e0 e1 e2 more
    apply ssl_0
    all_goals first | with_reducible exact e0 | with_reducible exact e1 | with_reducible exact e2 | with_reducible exact more | exact kid _ (mem_at hj)
  · intro e
    apply ssl_1
    exact e
theorem child_step {d ar su : Dat} (hd : Dok d) (ha : Dok ar) (h1 : su.rows.length ≤ 140737488355328) (kid : ∀ row, row ∈ su.rows → Pu 24 [agR 38 row, agR 38 row] (.b true)) (k n : Int) (s t : List Nat) (kd rs sh : Int) (m f : List Nat) : Pu 31 [chV k n s t d kd rs sh m f ar su, chV k n s t d kd rs sh m f ar su] (.b true) := by
  apply sc_p0 k n s t d kd rs sh m f ar su (j := (su.rows.length : Int))
  all_goals first
    | exact same_in hd _ _ _ _
    | exact sameAll_in ha
    | skip
  refine loop_up (N := su.rows.length) (E := fun j => mkE [(2, (.p 6 0)), (3, (.p 7 0)), (4, (.b false)), (5, (.i .i64 j))]) h1 ?_ ?_
  · intro j hj e0 e1 e2 more
    apply scl_0
    all_goals first | with_reducible exact e0 | with_reducible exact e1 | with_reducible exact e2 | with_reducible exact more | exact kid _ (mem_at hj)
  · intro e
    apply scl_1
    exact e
theorem cs_in {d : Dat} (hd : Dok d) : (∀ row, row ∈ d.rows → Pu 24 [agR 38 row, agR 38 row] (.b true)) ∧ (∀ row, row ∈ d.rows → Pu 31 [agR 87 row, agR 87 row] (.b true)) := by
  induction hd with
  | mk d h0 hs h1 h2 ih =>
    have hd : Dok d := .mk d h0 hs h1 h2
    have sub : ∀ row, row ∈ d.rows → ∀ i : Nat, (∀ r, r ∈ (row.getD i .o).rows → Pu 24 [agR 38 r, agR 38 r] (.b true)) ∧ (∀ r, r ∈ (row.getD i .o).rows → Pu 31 [agR 87 r, agR 87 r] (.b true)) := fun row hr i => by
      rw [List.getD_eq_getElem?_getD]
      cases e : row[i]? with
      | none => exact ⟨fun r h => (by cases h), fun r h => (by cases h)⟩
      | some u => exact ih row hr u (List.mem_of_getElem? e)
    exact ⟨fun row hr => sup_step (hd.at hr 3).len (sub row hr 3).2 _ _ _, fun row hr => child_step (hd.at hr 4) (hd.at hr 10) (hd.at hr 11).len (sub row hr 11).1 _ _ _ _ _ _ _ _ _⟩
theorem sup_in {d : Dat} (hd : Dok d) (st mr mt : Int) : Pu 24 [spV st mr mt d, spV st mr mt d] (.b true) := sup_step hd.len (cs_in hd).2 st mr mt
theorem sameRecs_in {d : Dat} (hd : Dok d) : Pu 23 [.es 89 d, .es 89 d] (.b true) := by
  apply sr_p0 d (j := (d.rows.length : Int))
  refine loop_up (N := d.rows.length) (E := fun j => mkE [(0, (.es 89 d)), (1, (.es 89 d)), (4, (.b false)), (5, (.i .i64 j))]) hd.len ?_ ?_
  · intro j hj e0 e1 e2 more
    apply srl_0
    all_goals first | with_reducible exact e0 | with_reducible exact e1 | with_reducible exact e2 | with_reducible exact more | exact (cs_in hd).2 _ (mem_at hj)
  · intro e
    apply srl_1
    exact e
theorem sameFrame_in {r : List Dat} (hr : AllOk r) : Pu 9 [agR 43 r, agR 43 r] (.b true) := by
  exact fr_p0 r (sameAll_in (hr.at 3)) (sameBound_in (hr.at 4)) (sameAll_in (hr.at 5)) (sameTries_in (hr.at 6)) (same_in (hr.at 17) _ _ _ _) (same_in (hr.at 22) _ _ _ _) (same_in (hr.at 27) _ _ _ _) (sameRecs_in (hr.at 28)) (sup_in (hr.at 32) _ _ _) (ints_in (hr.at 33)) (ints_in (hr.at 34))
theorem sameFrames_in {d : Dat} (hd : Dok d) : Pu 13 [.es 43 d, .es 43 d] (.b true) := by
  apply sf_p0 d (j := (d.rows.length : Int))
  refine loop_up (N := d.rows.length) (E := fun j => mkE [(0, (.es 43 d)), (1, (.es 43 d)), (4, (.b false)), (5, (.i .i64 j))]) hd.len ?_ ?_
  · intro j hj e0 e1 e2 more
    apply sfl_0
    all_goals first | with_reducible exact e0 | with_reducible exact e1 | with_reducible exact e2 | with_reducible exact more | exact sameFrame_in (fun u hu => hd.sub (mem_at hj) hu)
  · intro e
    apply sfl_1
    exact e

end Go.Proofs.YtgjfdbbghefdbaaGreatDoor.Fa.B1

