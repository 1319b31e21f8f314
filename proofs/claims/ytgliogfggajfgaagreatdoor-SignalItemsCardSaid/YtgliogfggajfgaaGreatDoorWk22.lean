/-
  A law's wakes, run by the closed runner. Conditions: the variables that it reads are laid. The code below is printed by Gen.
-/
import Derived.Test.YtgliogfggajfgaaGreatDoorSk2
namespace Go.Proofs.YtgliogfggajfgaaGreatDoor.Sx
open Go.RowKit
set_option maxRecDepth 100000
def ir22_5 : XF := ⟨90, 0, [(0, none)], (.seq (.reg [⟨some 0, none, .mv (.c (.b false))⟩])
  (.seq (.reg [⟨some 9, none, .call 18 [(.c (.i .i64 3)), (.c (.i .i64 8))]⟩,
  ⟨some 8, none, .mv (.t 9)⟩,
  ⟨some 10, none, .ex (.t 8) 0⟩,
  ⟨some 11, none, .ex (.t 8) 1⟩,
  ⟨some 12, none, .ex (.t 8) 2⟩,
  ⟨some 1, none, .mv (.t 10)⟩,
  ⟨some 2, none, .mv (.t 11)⟩,
  ⟨some 3, none, .mv (.t 12)⟩])
  (.seq (.seq (.reg [⟨some 13, none, .mv (.t 3)⟩,
  ⟨some 14, none, .un .not (.t 13)⟩,
  ⟨some 15, none, .mv (.t 14)⟩,
  ⟨some 16, some (15, false), .mv (.t 2)⟩,
  ⟨some 17, some (15, false), .call 19 [(.t 16), (.c (.i .i64 1)), (.c (.i .i64 2))]⟩,
  ⟨some 18, some (15, false), .bop .neq (.t 17) (.c (.i .i64 0))⟩,
  ⟨some 19, none, .pick (.t 15) (.c (.b true)) (.t 18)⟩,
  ⟨some 20, none, .mv (.t 19)⟩,
  ⟨some 21, some (20, false), .mv (.t 2)⟩,
  ⟨some 22, some (20, false), .call 19 [(.t 21), (.c (.i .i64 2)), (.c (.i .i64 3))]⟩,
  ⟨some 23, some (20, false), .bop .neq (.t 22) (.c (.i .i64 0))⟩,
  ⟨some 24, none, .pick (.t 20) (.c (.b true)) (.t 23)⟩])
  (.cond (.t 24) (.seq (.reg [⟨some 0, none, .mv (.c (.b false))⟩])
  .ret)
  .skip))
  (.seq (.reg [⟨some 26, none, .mv (.t 1)⟩,
  ⟨some 27, none, .mv (.t 2)⟩,
  ⟨some 28, none, .call 20 [(.c (.s [107, 105, 108, 108]))]⟩,
  ⟨some 29, none, .call 10 [(.t 26), (.t 27), (.c (.i .i64 0)), (.c (.i .i64 1)), (.t 28)]⟩,
  ⟨some 25, none, .mv (.t 29)⟩,
  ⟨some 30, none, .ex (.t 25) 0⟩,
  ⟨some 31, none, .ex (.t 25) 1⟩,
  ⟨some 4, none, .mv (.t 30)⟩,
  ⟨some 5, none, .mv (.t 31)⟩])
  (.seq (.reg [⟨some 33, none, .mv (.t 1)⟩,
  ⟨some 34, none, .call 21 [(.t 33), (.c (.i .i64 3))]⟩,
  ⟨some 32, none, .mv (.t 34)⟩,
  ⟨some 35, none, .ex (.t 32) 0⟩,
  ⟨some 36, none, .ex (.t 32) 1⟩,
  ⟨some 6, none, .box 56 9 (.c (.ag [(.i .i64 0), (.i .i64 0), .sln, .sln, (.s []), (.b false), (.b false), .sln, .sln]))⟩,
  ⟨none, none, .st 9 (.t 6) (.t 35)⟩,
  ⟨some 7, none, .mv (.t 36)⟩])
  (.seq (.reg [⟨some 37, none, .mv (.t 5)⟩,
  ⟨some 38, none, .bop .eql (.t 37) (.c (.i .i64 0))⟩,
  ⟨some 39, none, .mv (.t 38)⟩,
  ⟨some 40, some (39, true), .mv (.t 4)⟩,
  ⟨some 41, some (39, true), .len 1 (.t 40)⟩,
  ⟨some 42, some (39, true), .bop .eql (.t 41) (.c (.i .i64 2))⟩,
  ⟨some 43, none, .pick (.t 39) (.t 42) (.c (.b false))⟩,
  ⟨some 44, none, .mv (.t 43)⟩,
  ⟨some 45, some (44, true), .mv (.t 4)⟩,
  ⟨some 46, some (44, true), .ia 7 (.t 45) (.c (.i .i64 0))⟩,
  ⟨some 47, some (44, true), .fa 0 (.t 46)⟩,
  ⟨some 48, some (44, true), .ld false 1 (.t 47)⟩,
  ⟨some 49, some (44, true), .bop .eql (.t 48) (.c (.i .i64 1))⟩,
  ⟨some 50, none, .pick (.t 44) (.t 49) (.c (.b false))⟩,
  ⟨some 51, none, .mv (.t 50)⟩,
  ⟨some 52, some (51, true), .mv (.t 4)⟩,
  ⟨some 53, some (51, true), .ia 7 (.t 52) (.c (.i .i64 1))⟩,
  ⟨some 54, some (51, true), .fa 0 (.t 53)⟩,
  ⟨some 55, some (51, true), .ld false 1 (.t 54)⟩,
  ⟨some 56, some (51, true), .bop .eql (.t 55) (.c (.i .i64 2))⟩,
  ⟨some 57, none, .pick (.t 51) (.t 56) (.c (.b false))⟩,
  ⟨some 58, none, .mv (.t 57)⟩,
  ⟨some 59, some (58, true), .mv (.t 4)⟩,
  ⟨some 60, some (58, true), .ia 7 (.t 59) (.c (.i .i64 1))⟩,
  ⟨some 61, some (58, true), .fa 1 (.t 60)⟩,
  ⟨some 62, some (58, true), .ld true 5 (.t 61)⟩,
  ⟨some 63, some (58, true), .call 22 [(.t 62), (.c (.s [107, 105, 108, 108, 101, 100]))]⟩,
  ⟨some 64, none, .pick (.t 58) (.t 63) (.c (.b false))⟩,
  ⟨some 65, none, .mv (.t 64)⟩,
  ⟨some 66, some (65, true), .mv (.t 7)⟩,
  ⟨some 67, none, .pick (.t 65) (.t 66) (.c (.b false))⟩,
  ⟨some 68, none, .mv (.t 67)⟩,
  ⟨some 69, some (68, true), .fa 3 (.t 6)⟩,
  ⟨some 70, some (68, true), .ld false 1 (.t 69)⟩,
  ⟨some 71, some (68, true), .len 1 (.t 70)⟩,
  ⟨some 72, some (68, true), .bop .eql (.t 71) (.c (.i .i64 1))⟩,
  ⟨some 73, none, .pick (.t 68) (.t 72) (.c (.b false))⟩,
  ⟨some 74, none, .mv (.t 73)⟩,
  ⟨some 75, some (74, true), .fa 3 (.t 6)⟩,
  ⟨some 76, some (74, true), .ld false 1 (.t 75)⟩,
  ⟨some 77, some (74, true), .ia 6 (.t 76) (.c (.i .i64 0))⟩,
  ⟨some 78, some (74, true), .fa 5 (.t 77)⟩,
  ⟨some 79, some (74, true), .ld false 1 (.t 78)⟩,
  ⟨some 80, none, .pick (.t 74) (.t 79) (.c (.b false))⟩,
  ⟨some 81, none, .mv (.t 80)⟩,
  ⟨some 82, some (81, true), .fa 3 (.t 6)⟩,
  ⟨some 83, some (81, true), .ld false 1 (.t 82)⟩,
  ⟨some 84, some (81, true), .ia 6 (.t 83) (.c (.i .i64 0))⟩,
  ⟨some 85, some (81, true), .fa 0 (.t 84)⟩,
  ⟨some 86, some (81, true), .ld true 5 (.t 85)⟩,
  ⟨some 87, some (81, true), .call 23 [(.t 86)]⟩,
  ⟨some 88, some (81, true), .bop .eql (.t 87) (.c (.s [123, 101, 120, 105, 116, 101, 100, 44, 60, 50, 62, 44, 107, 105, 108, 108, 101, 100, 125]))⟩,
  ⟨some 89, none, .pick (.t 81) (.t 88) (.c (.b false))⟩,
  ⟨some 0, none, .mv (.t 89)⟩])
  .ret))))))⟩
def ir22_6 : XF := ⟨11, 2, [(4, some (true, 6))], (.seq (.reg [⟨some 3, none, .box 25 5 (.t 1)⟩,
  ⟨some 4, none, .box 29 6 (.c (.ag [(.i .i8 0), (.i .i64 0), (.s []), (.s []), .sln, (.b false)]))⟩])
  (.seq (.par [⟨some 5, none, .call 25 [(.c (.s [101, 120, 105, 116, 101, 100]))]⟩,
  ⟨some 6, none, .mv (.t 0)⟩,
  ⟨some 7, none, .call 26 [(.c (.i .i8 4)), (.t 6)]⟩,
  ⟨some 8, none, .ld true 5 (.t 3)⟩,
  ⟨some 9, none, .bls 25 5 3 [(.i .i8 0), (.i .i64 0), (.s []), (.s []), .sln, (.i .i8 0), (.i .i64 0), (.s []), (.s []), .sln, (.i .i8 0), (.i .i64 0), (.s []), (.s []), .sln] [(0, 5, (.t 5)), (5, 5, (.t 7)), (10, 5, (.t 8))]⟩,
  ⟨some 10, none, .call 24 [(.t 9)]⟩,
  ⟨none, none, .st 6 (.t 4) (.t 10)⟩] [0, 0, 3, 0, 15, 31, 63])
  .ret))⟩
def ir22_10 : XF := ⟨51, 5, [(10, none), (11, none)], (.seq (.reg [⟨some 9, none, .box 25 5 (.t 4)⟩,
  ⟨some 10, none, .mv (.c .sln)⟩,
  ⟨some 11, none, .mv (.c (.i .i64 0))⟩])
  (.seq (.reg [⟨some 15, none, .mv (.t 0)⟩,
  ⟨some 16, none, .mv (.t 1)⟩,
  ⟨some 17, none, .mv (.t 3)⟩,
  ⟨some 18, none, .call 31 [(.t 15), (.t 16), (.t 17)]⟩,
  ⟨some 14, none, .mv (.t 18)⟩,
  ⟨some 19, none, .ex (.t 14) 0⟩,
  ⟨some 20, none, .ex (.t 14) 1⟩,
  ⟨some 12, none, .mv (.t 19)⟩,
  ⟨some 13, none, .mv (.t 20)⟩])
  (.seq (.blk 0 (.seq (.reg [⟨some 27, none, .mv (.t 13)⟩,
  ⟨some 28, none, .bop .eql (.t 27) (.c (.i .i64 1))⟩,
  ⟨some 26, none, .mv (.t 28)⟩])
  (.cond (.t 26) (.seq (.reg [⟨some 29, none, .mv (.t 13)⟩,
  ⟨some 10, none, .mv (.c .sln)⟩,
  ⟨some 11, none, .mv (.t 29)⟩])
  .ret)
  (.seq (.reg [⟨some 31, none, .ld true 5 (.t 9)⟩,
  ⟨some 32, none, .call 32 [(.t 31)]⟩,
  ⟨some 33, none, .bop .neq (.t 32) (.c (.i .i64 0))⟩,
  ⟨some 34, none, .mv (.t 33)⟩,
  ⟨some 35, some (34, false), .mv (.t 2)⟩,
  ⟨some 36, some (34, false), .bop .lss (.t 35) (.c (.i .i64 0))⟩,
  ⟨some 37, none, .pick (.t 34) (.c (.b true)) (.t 36)⟩,
  ⟨some 30, none, .mv (.t 37)⟩])
  (.cond (.t 30) (.seq (.reg [⟨some 10, none, .mv (.c .sln)⟩,
  ⟨some 11, none, .mv (.c (.i .i64 2))⟩])
  .ret)
  (.seq (.reg [⟨some 39, none, .mv (.t 13)⟩,
  ⟨some 40, none, .bop .neq (.t 39) (.c (.i .i64 0))⟩,
  ⟨some 38, none, .mv (.t 40)⟩])
  (.cond (.t 38) (.seq (.reg [⟨some 41, none, .mv (.t 13)⟩,
  ⟨some 10, none, .mv (.c .sln)⟩,
  ⟨some 11, none, .mv (.t 41)⟩])
  .ret)
  (.seq (.reg [⟨some 43, none, .ld true 5 (.t 9)⟩,
  ⟨some 44, none, .call 33 [(.t 43), (.c (.s [107, 105, 108, 108]))]⟩,
  ⟨some 42, none, .mv (.t 44)⟩])
  (.cond (.t 42) (.reg [⟨some 45, none, .mv (.t 12)⟩,
  ⟨some 46, none, .mv (.t 3)⟩,
  ⟨some 47, none, .call 25 [(.c (.s [107, 105, 108, 108, 101, 100]))]⟩,
  ⟨some 48, none, .call 34 [(.t 45), (.t 46), (.t 47)]⟩])
  (.reg [⟨some 21, none, .mv (.t 12)⟩,
  ⟨some 22, none, .mv (.t 2)⟩,
  ⟨some 23, none, .mv (.t 3)⟩,
  ⟨some 24, none, .ld true 5 (.t 9)⟩,
  ⟨some 25, none, .call 35 [(.t 21), (.t 22), (.t 23), (.t 24)]⟩]))))))))))
  (.seq (.reg [⟨some 49, none, .mv (.t 12)⟩,
  ⟨some 50, none, .call 36 [(.t 49)]⟩,
  ⟨some 10, none, .mv (.t 50)⟩,
  ⟨some 11, none, .mv (.c (.i .i64 0))⟩])
  .ret))))⟩
def ir22_11 : XF := ⟨6, 0, [(0, none)], (.seq (.reg [⟨some 0, none, .mv (.c .pn)⟩])
  (.seq (.reg [⟨some 1, none, .mkm⟩,
  ⟨some 2, none, .mkm⟩,
  ⟨some 3, none, .mkm⟩,
  ⟨some 4, none, .bld [.mn, .mn, .mn, (.i .i64 0)] [(0, 1, (.t 1)), (1, 1, (.t 2)), (2, 1, (.t 3))]⟩,
  ⟨some 5, none, .box 79 4 (.t 4)⟩,
  ⟨some 0, none, .mv (.t 5)⟩])
  .ret))⟩
def ir22_13 : XF := ⟨5, 0, [(0, none)], (.seq (.reg [⟨some 0, none, .mv (.c .pn)⟩])
  (.seq (.reg [⟨some 1, none, .mkm⟩,
  ⟨some 2, none, .mkm⟩,
  ⟨some 3, none, .bld [.mn, .mn, (.i .i64 0)] [(0, 1, (.t 1)), (1, 1, (.t 2))]⟩,
  ⟨some 4, none, .box 83 3 (.t 3)⟩,
  ⟨some 0, none, .mv (.t 4)⟩])
  .ret))⟩
def ir22_18 : XF := ⟨50, 2, [(4, none), (5, none), (6, none)], (.seq (.reg [⟨some 4, none, .mv (.c .pn)⟩,
  ⟨some 5, none, .mv (.c .pn)⟩,
  ⟨some 6, none, .mv (.c (.b false))⟩])
  (.seq (.reg [⟨some 13, none, .call 13 []⟩,
  ⟨some 7, none, .mv (.t 13)⟩])
  (.seq (.seq (.reg [⟨some 8, none, .mv (.c (.i .i64 1))⟩])
  (.blk 0 (.loop (.seq (.seq (.reg [⟨some 14, none, .mv (.t 8)⟩,
  ⟨some 15, none, .mv (.t 0)⟩,
  ⟨some 16, none, .bop .leq (.t 14) (.t 15)⟩])
  (.cond (.t 16) .skip
  (.exit 0)))
  (.seq (.blk 1 (.seq (.reg [⟨some 20, none, .mv (.t 7)⟩,
  ⟨some 21, none, .bld [(.i .i8 0), (.i .i64 0), (.i .i64 0), .sln, .sln, .sln, .sln, (.i .i64 0), (.i .i8 0), (.i .i64 0), (.i .i64 0), (.i .i64 0), (.i .i64 0), (.i .i8 0), (.i .i64 0), (.s []), (.s []), .sln, (.i .i8 0), (.i .i64 0), (.s []), (.s []), .sln, (.i .i8 0), (.i .i64 0), (.s []), (.s []), .sln, .sln, (.i .i8 0), (.i .i64 0), (.i .i64 0), .sln, .sln, .sln] []⟩,
  ⟨some 22, none, .call 40 [(.t 20), (.c (.i .i64 0)), (.t 21)]⟩,
  ⟨some 19, none, .mv (.t 22)⟩,
  ⟨some 23, none, .ex (.t 19) 0⟩,
  ⟨some 24, none, .ex (.t 19) 1⟩,
  ⟨some 9, none, .mv (.t 23)⟩,
  ⟨some 10, none, .mv (.t 24)⟩])
  (.seq (.reg [⟨some 26, none, .mv (.t 7)⟩,
  ⟨some 27, none, .mv (.t 8)⟩,
  ⟨some 28, none, .call 21 [(.t 26), (.t 27)]⟩,
  ⟨some 25, none, .mv (.t 28)⟩,
  ⟨some 29, none, .ex (.t 25) 0⟩,
  ⟨some 30, none, .ex (.t 25) 1⟩,
  ⟨some 11, none, .box 56 9 (.c (.ag [(.i .i64 0), (.i .i64 0), .sln, .sln, (.s []), (.b false), (.b false), .sln, .sln]))⟩,
  ⟨none, none, .st 9 (.t 11) (.t 29)⟩,
  ⟨some 12, none, .mv (.t 30)⟩])
  (.seq (.seq (.reg [⟨some 31, none, .mv (.t 10)⟩,
  ⟨some 32, none, .bop .neq (.t 31) (.c (.i .i64 0))⟩,
  ⟨some 33, none, .mv (.t 32)⟩,
  ⟨some 34, some (33, false), .mv (.t 12)⟩,
  ⟨some 35, some (33, false), .un .not (.t 34)⟩,
  ⟨some 36, none, .pick (.t 33) (.c (.b true)) (.t 35)⟩])
  (.cond (.t 36) (.seq (.reg [⟨some 4, none, .mv (.c .pn)⟩,
  ⟨some 5, none, .mv (.c .pn)⟩,
  ⟨some 6, none, .mv (.c (.b false))⟩])
  .ret)
  .skip))
  (.seq (.reg [⟨some 37, none, .mv (.t 1)⟩,
  ⟨some 38, none, .mv (.t 8)⟩,
  ⟨some 39, none, .cvi .u64 (.t 38)⟩,
  ⟨some 40, none, .bop .shr (.t 37) (.t 39)⟩,
  ⟨some 41, none, .bop .and (.t 40) (.c (.i .i64 1))⟩,
  ⟨some 42, none, .bop .eql (.t 41) (.c (.i .i64 1))⟩,
  ⟨some 43, none, .fa 5 (.t 11)⟩,
  ⟨none, none, .st 1 (.t 43) (.t 42)⟩])
  (.seq (.reg [⟨some 44, none, .mv (.t 7)⟩,
  ⟨some 45, none, .ld true 9 (.t 11)⟩,
  ⟨some 46, none, .call 41 [(.t 44), (.t 45)]⟩,
  ⟨some 47, none, .bop .neq (.t 46) (.c (.i .i64 0))⟩])
  (.cond (.t 47) (.seq (.reg [⟨some 4, none, .mv (.c .pn)⟩,
  ⟨some 5, none, .mv (.c .pn)⟩,
  ⟨some 6, none, .mv (.c (.b false))⟩])
  .ret)
  .skip)))))))
  (.reg [⟨some 17, none, .mv (.t 8)⟩,
  ⟨some 18, none, .bop .add (.t 17) (.c (.i .i64 1))⟩,
  ⟨some 8, none, .mv (.t 18)⟩]))))))
  (.seq (.reg [⟨some 48, none, .mv (.t 7)⟩,
  ⟨some 49, none, .call 11 []⟩,
  ⟨some 4, none, .mv (.t 48)⟩,
  ⟨some 5, none, .mv (.t 49)⟩,
  ⟨some 6, none, .mv (.c (.b true))⟩])
  .ret))))⟩
def ir22_19 : XF := ⟨43, 3, [(6, none)], (.seq (.reg [⟨some 6, none, .mv (.c (.i .i64 0))⟩])
  (.seq (.blk 0 (.seq (.reg [⟨some 8, none, .mv (.t 0)⟩,
  ⟨some 9, none, .eq 0 false true (.t 8) (.c .pn)⟩,
  ⟨some 7, none, .mv (.t 9)⟩])
  (.cond (.t 7) (.seq (.reg [⟨some 6, none, .mv (.c (.i .i64 1))⟩])
  .ret)
  (.seq (.reg [⟨some 11, none, .mv (.t 1)⟩,
  ⟨some 12, none, .mv (.t 2)⟩,
  ⟨some 13, none, .call 42 [(.t 11), (.t 12)]⟩,
  ⟨some 14, none, .un .not (.t 13)⟩,
  ⟨some 10, none, .mv (.t 14)⟩])
  (.cond (.t 10) (.seq (.reg [⟨some 6, none, .mv (.c (.i .i64 2))⟩])
  .ret)
  (.seq (.par [⟨some 16, none, .mv (.t 0)⟩,
  ⟨some 17, none, .mv (.t 1)⟩,
  ⟨some 18, none, .mv (.t 2)⟩,
  ⟨some 19, none, .call 43 [(.t 16), (.t 17), (.t 18)]⟩,
  ⟨some 20, none, .un .not (.t 19)⟩,
  ⟨some 21, none, .mv (.t 20)⟩,
  ⟨some 22, some (21, true), .mv (.t 0)⟩,
  ⟨some 23, some (21, true), .nck (.t 22)⟩,
  ⟨some 24, some (21, true), .fa 0 (.t 23)⟩,
  ⟨some 25, some (21, true), .ld false 1 (.t 24)⟩,
  ⟨some 26, some (21, true), .mv (.t 1)⟩,
  ⟨some 27, some (21, true), .lk .n false .mn (.t 25) (.t 26)⟩,
  ⟨some 28, some (21, true), .len 2 (.t 27)⟩,
  ⟨some 29, some (21, true), .mv (.t 0)⟩,
  ⟨some 30, some (21, true), .nck (.t 29)⟩,
  ⟨some 31, some (21, true), .fa 0 (.t 30)⟩,
  ⟨some 32, some (21, true), .ld false 1 (.t 31)⟩,
  ⟨some 33, some (21, true), .mv (.t 2)⟩,
  ⟨some 34, some (21, true), .lk .n false .mn (.t 32) (.t 33)⟩,
  ⟨some 35, some (21, true), .len 2 (.t 34)⟩,
  ⟨some 36, some (21, true), .mm true (.t 28) (.t 35)⟩,
  ⟨some 37, some (21, true), .bop .geq (.t 36) (.c (.i .i64 64))⟩,
  ⟨some 38, none, .pick (.t 21) (.t 37) (.c (.b false))⟩,
  ⟨some 15, none, .mv (.t 38)⟩] [0, 0, 0, 7, 15, 31, 63, 127, 255, 511, 63, 2047, 4095, 63, 8255, 24639, 57407, 63, 254015, 524287, 1048575, 2097151, 4194303, 8388607])
  (.cond (.t 15) (.seq (.reg [⟨some 6, none, .mv (.c (.i .i64 20))⟩])
  .ret)
  .skip)))))))
  (.seq (.reg [⟨some 39, none, .mv (.t 0)⟩,
  ⟨some 40, none, .mv (.t 1)⟩,
  ⟨some 41, none, .mv (.t 2)⟩,
  ⟨some 42, none, .call 44 [(.t 39), (.t 40), (.t 41), (.c (.b true))]⟩])
  (.seq (.reg [⟨some 6, none, .mv (.c (.i .i64 0))⟩])
  .ret))))⟩
def ir22_20 : XF := ⟨5, 1, [(2, some (true, 5))], (.seq (.reg [⟨some 2, none, .box 25 5 (.c (.ag [(.i .i8 0), (.i .i64 0), (.s []), (.s []), .sln]))⟩])
  (.seq (.reg [⟨some 3, none, .mv (.t 0)⟩,
  ⟨some 4, none, .bld [(.i .i8 0), (.i .i64 0), (.s []), (.s []), .sln] [(0, 1, (.c (.i .i8 1))), (2, 1, (.t 3))]⟩,
  ⟨none, none, .st 5 (.t 2) (.t 4)⟩])
  .ret))⟩
def ir22_21 : XF := ⟨27, 2, [(4, some (true, 9)), (5, none)], (.seq (.reg [⟨some 4, none, .box 56 9 (.c (.ag [(.i .i64 0), (.i .i64 0), .sln, .sln, (.s []), (.b false), (.b false), .sln, .sln]))⟩,
  ⟨some 5, none, .mv (.c (.b false))⟩])
  (.seq (.seq (.reg [⟨some 6, none, .mv (.t 0)⟩,
  ⟨some 7, none, .eq 0 false true (.t 6) (.c .pn)⟩,
  ⟨some 8, none, .mv (.t 7)⟩,
  ⟨some 9, some (8, false), .mv (.t 0)⟩,
  ⟨some 10, some (8, false), .nck (.t 9)⟩,
  ⟨some 11, some (8, false), .fa 0 (.t 10)⟩,
  ⟨some 12, some (8, false), .ld false 1 (.t 11)⟩,
  ⟨some 13, some (8, false), .mv (.t 1)⟩,
  ⟨some 14, some (8, false), .lk .n false .pn (.t 12) (.t 13)⟩,
  ⟨some 15, some (8, false), .eq 0 false true (.t 14) (.c .pn)⟩,
  ⟨some 16, none, .pick (.t 8) (.c (.b true)) (.t 15)⟩])
  (.cond (.t 16) (.seq (.reg [⟨some 17, none, .ld true 9 (.t 4)⟩,
  ⟨none, none, .st 9 (.t 4) (.t 17)⟩,
  ⟨some 5, none, .mv (.c (.b false))⟩])
  .ret)
  .skip))
  (.seq (.reg [⟨some 18, none, .mv (.t 0)⟩,
  ⟨some 19, none, .nck (.t 18)⟩,
  ⟨some 20, none, .fa 0 (.t 19)⟩,
  ⟨some 21, none, .ld false 1 (.t 20)⟩,
  ⟨some 22, none, .mv (.t 1)⟩,
  ⟨some 23, none, .lk .n false .pn (.t 21) (.t 22)⟩,
  ⟨some 24, none, .nck (.t 23)⟩,
  ⟨some 25, none, .ld true 9 (.t 24)⟩,
  ⟨some 26, none, .call 45 [(.t 25)]⟩,
  ⟨none, none, .st 9 (.t 4) (.t 26)⟩,
  ⟨some 5, none, .mv (.c (.b true))⟩])
  .ret)))⟩
def ir22_22 : XF := ⟨14, 2, [(4, none)], (.seq (.reg [⟨some 2, none, .box 25 5 (.t 0)⟩,
  ⟨some 4, none, .mv (.c (.b false))⟩])
  (.seq (.reg [⟨some 5, none, .fa 0 (.t 2)⟩,
  ⟨some 6, none, .ld false 1 (.t 5)⟩,
  ⟨some 7, none, .bop .eql (.t 6) (.c (.i .i8 1))⟩,
  ⟨some 8, none, .mv (.t 7)⟩,
  ⟨some 9, some (8, true), .fa 2 (.t 2)⟩,
  ⟨some 10, some (8, true), .ld false 1 (.t 9)⟩,
  ⟨some 11, some (8, true), .mv (.t 1)⟩,
  ⟨some 12, some (8, true), .bop .eql (.t 10) (.t 11)⟩,
  ⟨some 13, none, .pick (.t 8) (.t 12) (.c (.b false))⟩,
  ⟨some 4, none, .mv (.t 13)⟩])
  .ret))⟩
def ir22_23 : XF := ⟨8, 1, [(2, none)], (.seq (.reg [⟨some 1, none, .box 25 5 (.t 0)⟩,
  ⟨some 2, none, .mv (.c (.s []))⟩])
  (.seq (.seq (.reg [⟨some 3, none, .ld true 5 (.t 1)⟩,
  ⟨some 4, none, .call 46 [(.t 3)]⟩,
  ⟨some 5, none, .bop .neq (.t 4) (.c (.i .i64 0))⟩])
  (.cond (.t 5) (.seq (.reg [⟨some 2, none, .mv (.c (.s []))⟩])
  .ret)
  .skip))
  (.seq (.reg [⟨some 6, none, .ld true 5 (.t 1)⟩,
  ⟨some 7, none, .call 47 [(.t 6)]⟩,
  ⟨some 2, none, .mv (.t 7)⟩])
  .ret)))⟩
def ir22_24 : XF := ⟨25, 1, [(2, some (true, 6))], (.seq (.reg [⟨some 2, none, .box 29 6 (.c (.ag [(.i .i8 0), (.i .i64 0), (.s []), (.s []), .sln, (.b false)]))⟩])
  (.seq (.reg [⟨some 6, none, .mv (.t 0)⟩,
  ⟨some 7, none, .call 48 [(.t 6)]⟩,
  ⟨some 5, none, .mv (.t 7)⟩,
  ⟨some 8, none, .ex (.t 5) 0⟩,
  ⟨some 9, none, .ex (.t 5) 1⟩,
  ⟨some 3, none, .box 25 5 (.c (.ag [(.i .i8 0), (.i .i64 0), (.s []), (.s []), .sln]))⟩,
  ⟨none, none, .st 5 (.t 3) (.t 8)⟩,
  ⟨some 4, none, .mv (.t 9)⟩])
  (.seq (.seq (.reg [⟨some 10, none, .mv (.t 4)⟩,
  ⟨some 11, none, .bop .neq (.t 10) (.c (.i .i64 0))⟩])
  (.cond (.t 11) (.seq (.reg [⟨some 12, none, .mv (.t 0)⟩,
  ⟨some 13, none, .mv (.t 0)⟩,
  ⟨some 14, none, .len 1 (.t 13)⟩,
  ⟨some 15, none, .bop .sub (.t 14) (.c (.i .i64 1))⟩,
  ⟨some 16, none, .call 25 [(.c (.s [115, 121, 115, 116, 101, 109, 95, 108, 105, 109, 105, 116]))]⟩,
  ⟨some 17, none, .ia 5 (.t 12) (.t 15)⟩,
  ⟨none, none, .st 5 (.t 17) (.t 16)⟩])
  (.reg [⟨some 19, none, .mv (.t 0)⟩,
  ⟨some 20, none, .call 48 [(.t 19)]⟩,
  ⟨some 18, none, .mv (.t 20)⟩,
  ⟨some 21, none, .ex (.t 18) 0⟩,
  ⟨some 22, none, .ex (.t 18) 1⟩,
  ⟨none, none, .st 5 (.t 3) (.t 21)⟩]))
  .skip))
  (.seq (.reg [⟨some 23, none, .ld true 5 (.t 3)⟩,
  ⟨some 24, none, .bld [(.i .i8 0), (.i .i64 0), (.s []), (.s []), .sln, (.b false)] [(0, 5, (.t 23)), (5, 1, (.c (.b true)))]⟩,
  ⟨none, none, .st 6 (.t 2) (.t 24)⟩])
  .ret))))⟩
def ir22_25 : XF := ⟨5, 1, [(2, some (true, 5))], (.seq (.reg [⟨some 2, none, .box 25 5 (.c (.ag [(.i .i8 0), (.i .i64 0), (.s []), (.s []), .sln]))⟩])
  (.seq (.reg [⟨some 3, none, .mv (.t 0)⟩,
  ⟨some 4, none, .bld [(.i .i8 0), (.i .i64 0), (.s []), (.s []), .sln] [(0, 1, (.c (.i .i8 1))), (2, 1, (.t 3))]⟩,
  ⟨none, none, .st 5 (.t 2) (.t 4)⟩])
  .ret))⟩
def ir22_26 : XF := ⟨10, 2, [(4, some (true, 5))], (.seq (.reg [⟨some 4, none, .box 25 5 (.c (.ag [(.i .i8 0), (.i .i64 0), (.s []), (.s []), .sln]))⟩])
  (.seq (.reg [⟨some 5, none, .mv (.t 0)⟩,
  ⟨some 6, none, .mv (.t 1)⟩,
  ⟨some 7, none, .mm true (.t 6) (.c (.i .i64 0))⟩,
  ⟨some 8, none, .mm false (.t 7) (.c (.i .i64 576460752303423487))⟩,
  ⟨some 9, none, .bld [(.i .i8 0), (.i .i64 0), (.s []), (.s []), .sln] [(0, 1, (.t 5)), (1, 1, (.t 8))]⟩,
  ⟨none, none, .st 5 (.t 4) (.t 9)⟩])
  .ret))⟩
def ir22_31 : XF := ⟨28, 3, [(6, none), (7, none)], (.seq (.reg [⟨some 6, none, .mv (.c .pn)⟩,
  ⟨some 7, none, .mv (.c (.i .i64 0))⟩])
  (.seq (.seq (.reg [⟨some 10, none, .mv (.t 0)⟩,
  ⟨some 11, none, .eq 0 false true (.t 10) (.c .pn)⟩,
  ⟨some 12, none, .mv (.t 11)⟩,
  ⟨some 13, some (12, false), .mv (.t 1)⟩,
  ⟨some 14, some (12, false), .eq 0 false true (.t 13) (.c .pn)⟩,
  ⟨some 15, none, .pick (.t 12) (.c (.b true)) (.t 14)⟩])
  (.cond (.t 15) (.seq (.reg [⟨some 6, none, .mv (.c .pn)⟩,
  ⟨some 7, none, .mv (.c (.i .i64 1))⟩])
  .ret)
  .skip))
  (.seq (.seq (.reg [⟨some 17, none, .mv (.t 0)⟩,
  ⟨some 18, none, .mv (.t 2)⟩,
  ⟨some 19, none, .call 21 [(.t 17), (.t 18)]⟩,
  ⟨some 16, none, .mv (.t 19)⟩,
  ⟨some 20, none, .ex (.t 16) 0⟩,
  ⟨some 21, none, .ex (.t 16) 1⟩,
  ⟨some 8, none, .box 56 9 (.c (.ag [(.i .i64 0), (.i .i64 0), .sln, .sln, (.s []), (.b false), (.b false), .sln, .sln]))⟩,
  ⟨none, none, .st 9 (.t 8) (.t 20)⟩,
  ⟨some 9, none, .mv (.t 21)⟩])
  (.seq (.reg [⟨some 22, none, .mv (.t 9)⟩,
  ⟨some 23, none, .un .not (.t 22)⟩])
  (.cond (.t 23) (.seq (.reg [⟨some 6, none, .mv (.c .pn)⟩,
  ⟨some 7, none, .mv (.c (.i .i64 4))⟩])
  .ret)
  .skip)))
  (.seq (.reg [⟨some 24, none, .mv (.t 0)⟩,
  ⟨some 25, none, .mv (.t 1)⟩,
  ⟨some 26, none, .bld [.pn, .pn, .sln] [(0, 1, (.t 24)), (1, 1, (.t 25))]⟩,
  ⟨some 27, none, .box 111 3 (.t 26)⟩,
  ⟨some 6, none, .mv (.t 27)⟩,
  ⟨some 7, none, .mv (.c (.i .i64 0))⟩])
  .ret))))⟩
def ir22_32 : XF := ⟨15, 1, [(2, none)], (.seq (.reg [⟨some 1, none, .box 25 5 (.t 0)⟩,
  ⟨some 2, none, .mv (.c (.i .i64 0))⟩])
  (.seq (.reg [⟨some 3, none, .box 3 1 (.c (.i .i64 0))⟩,
  ⟨some 4, none, .box 4 1 (.c (.b false))⟩,
  ⟨none, none, .st 1 (.t 3) (.c (.i .i64 0))⟩,
  ⟨none, none, .st 1 (.t 4) (.c (.b true))⟩])
  (.seq (.reg [⟨some 5, none, .box 112 1 (.c .fn)⟩])
  (.seq (.reg [⟨some 6, none, .mkf (.func 50) [] [(.t 3), (.t 4), (.t 5)]⟩,
  ⟨none, none, .st 1 (.t 5) (.t 6)⟩])
  (.seq (.reg [⟨some 7, none, .ld false 1 (.t 5)⟩,
  ⟨some 8, none, .callv (.t 7) [(.t 1)]⟩])
  (.seq (.blk 0 (.seq (.reg [⟨some 10, none, .ld false 1 (.t 4)⟩,
  ⟨some 11, none, .un .not (.t 10)⟩,
  ⟨some 9, none, .mv (.t 11)⟩])
  (.cond (.t 9) (.seq (.reg [⟨some 2, none, .mv (.c (.i .i64 30))⟩])
  .ret)
  (.seq (.reg [⟨some 13, none, .ld false 1 (.t 3)⟩,
  ⟨some 14, none, .bop .gtr (.t 13) (.c (.i .i64 256))⟩,
  ⟨some 12, none, .mv (.t 14)⟩])
  (.cond (.t 12) (.seq (.reg [⟨some 2, none, .mv (.c (.i .i64 11))⟩])
  .ret)
  .skip)))))
  (.seq (.reg [⟨some 2, none, .mv (.c (.i .i64 0))⟩])
  .ret)))))))⟩
def ir22_33 : XF := ⟨14, 2, [(4, none)], (.seq (.reg [⟨some 2, none, .box 25 5 (.t 0)⟩,
  ⟨some 4, none, .mv (.c (.b false))⟩])
  (.seq (.reg [⟨some 5, none, .fa 0 (.t 2)⟩,
  ⟨some 6, none, .ld false 1 (.t 5)⟩,
  ⟨some 7, none, .bop .eql (.t 6) (.c (.i .i8 1))⟩,
  ⟨some 8, none, .mv (.t 7)⟩,
  ⟨some 9, some (8, true), .fa 2 (.t 2)⟩,
  ⟨some 10, some (8, true), .ld false 1 (.t 9)⟩,
  ⟨some 11, some (8, true), .mv (.t 1)⟩,
  ⟨some 12, some (8, true), .bop .eql (.t 10) (.t 11)⟩,
  ⟨some 13, none, .pick (.t 8) (.t 12) (.c (.b false))⟩,
  ⟨some 4, none, .mv (.t 13)⟩])
  .ret))⟩
def ir22_34 : XF := ⟨24, 3, [], (.seq (.reg [⟨some 5, none, .box 25 5 (.t 2)⟩])
  (.seq (.reg [⟨some 6, none, .mv (.t 0)⟩,
  ⟨some 7, none, .mv (.t 1)⟩,
  ⟨some 8, none, .call 52 [(.t 6), (.t 7)]⟩,
  ⟨some 9, none, .un .not (.t 8)⟩])
  (.cond (.t 9) (.par [⟨some 10, none, .mv (.t 0)⟩,
  ⟨some 11, none, .mv (.t 0)⟩,
  ⟨some 12, none, .nck (.t 11)⟩,
  ⟨some 13, none, .fa 2 (.t 12)⟩,
  ⟨some 14, none, .fa 0 (.t 13)⟩,
  ⟨some 15, none, .ld false 1 (.t 14)⟩,
  ⟨some 16, none, .mv (.t 1)⟩,
  ⟨some 17, none, .ld true 5 (.t 5)⟩,
  ⟨some 18, none, .bld [(.i .i64 0), (.i .i8 0), (.i .i64 0), (.s []), (.s []), .sln, (.i .i64 0)] [(0, 1, (.t 16)), (1, 5, (.t 17))]⟩,
  ⟨some 19, none, .bls 60 7 1 [(.i .i64 0), (.i .i8 0), (.i .i64 0), (.s []), (.s []), .sln, (.i .i64 0)] [(0, 7, (.t 18))]⟩,
  ⟨some 20, none, .app 60 7 (.t 15) (.t 19)⟩,
  ⟨some 21, none, .nck (.t 10)⟩,
  ⟨some 22, none, .fa 2 (.t 21)⟩,
  ⟨some 23, none, .fa 0 (.t 22)⟩,
  ⟨none, none, .st 1 (.t 23) (.t 20)⟩] [0, 0, 2, 6, 14, 30, 0, 0, 192, 448, 1022, 2047, 4095, 8191, 16383])
  .skip)))⟩
def ir22_35 : XF := ⟨44, 4, [], (.seq (.reg [⟨some 7, none, .box 25 5 (.t 3)⟩])
  (.seq (.reg [⟨some 11, none, .mv (.t 0)⟩,
  ⟨some 12, none, .nck (.t 11)⟩,
  ⟨some 13, none, .fa 0 (.t 12)⟩,
  ⟨some 14, none, .ld false 1 (.t 13)⟩,
  ⟨some 15, none, .mv (.t 2)⟩,
  ⟨some 16, none, .call 21 [(.t 14), (.t 15)]⟩,
  ⟨some 10, none, .mv (.t 16)⟩,
  ⟨some 17, none, .ex (.t 10) 0⟩,
  ⟨some 18, none, .ex (.t 10) 1⟩,
  ⟨some 8, none, .box 56 9 (.c (.ag [(.i .i64 0), (.i .i64 0), .sln, .sln, (.s []), (.b false), (.b false), .sln, .sln]))⟩,
  ⟨none, none, .st 9 (.t 8) (.t 17)⟩,
  ⟨some 9, none, .mv (.t 18)⟩])
  (.blk 0 (.seq (.reg [⟨some 20, none, .mv (.t 9)⟩,
  ⟨some 21, none, .un .not (.t 20)⟩,
  ⟨some 22, none, .mv (.t 21)⟩,
  ⟨some 23, some (22, false), .mv (.t 0)⟩,
  ⟨some 24, some (22, false), .mv (.t 2)⟩,
  ⟨some 25, some (22, false), .call 52 [(.t 23), (.t 24)]⟩,
  ⟨some 26, none, .pick (.t 22) (.c (.b true)) (.t 25)⟩,
  ⟨some 19, none, .mv (.t 26)⟩])
  (.cond (.t 19) .skip
  (.seq (.reg [⟨some 28, none, .fa 5 (.t 8)⟩,
  ⟨some 29, none, .ld false 1 (.t 28)⟩,
  ⟨some 27, none, .mv (.t 29)⟩])
  (.cond (.t 27) (.reg [⟨some 30, none, .mv (.t 0)⟩,
  ⟨some 31, none, .mv (.t 2)⟩,
  ⟨some 32, none, .mv (.t 1)⟩,
  ⟨some 33, none, .ld true 5 (.t 7)⟩,
  ⟨some 34, none, .call 6 [(.t 32), (.t 33)]⟩,
  ⟨some 35, none, .call 39 [(.t 30), (.t 31), (.t 34)]⟩])
  (.seq (.reg [⟨some 37, none, .ld true 5 (.t 7)⟩,
  ⟨some 38, none, .call 33 [(.t 37), (.c (.s [110, 111, 114, 109, 97, 108]))]⟩,
  ⟨some 39, none, .un .not (.t 38)⟩,
  ⟨some 36, none, .mv (.t 39)⟩])
  (.cond (.t 36) (.reg [⟨some 40, none, .mv (.t 0)⟩,
  ⟨some 41, none, .mv (.t 2)⟩,
  ⟨some 42, none, .ld true 5 (.t 7)⟩,
  ⟨some 43, none, .call 34 [(.t 40), (.t 41), (.t 42)]⟩])
  .skip)))))))))⟩
def ir22_36 : XF := ⟨71, 1, [(2, none)], (.seq (.reg [⟨some 1, none, .box 68 1 (.t 0)⟩,
  ⟨some 2, none, .mv (.c .sln)⟩])
  (.seq (.seq (.reg [⟨some 11, none, .ld false 1 (.t 1)⟩,
  ⟨some 12, none, .nck (.t 11)⟩,
  ⟨some 13, none, .fa 2 (.t 12)⟩,
  ⟨some 14, none, .call 53 [(.t 13)]⟩])
  (.blk 0 (.rng 71 (.t 14) [15] (.reg [⟨some 3, none, .box 60 7 (.c (.ag [(.i .i64 0), (.i .i8 0), (.i .i64 0), (.s []), (.s []), .sln, (.i .i64 0)]))⟩,
  ⟨none, none, .st 7 (.t 3) (.t 15)⟩]) (.blk 1 (.seq (.par [⟨some 16, none, .ld false 1 (.t 1)⟩,
  ⟨some 17, none, .nck (.t 16)⟩,
  ⟨some 18, none, .fa 0 (.t 17)⟩,
  ⟨some 19, none, .ld false 1 (.t 18)⟩,
  ⟨some 20, none, .fa 0 (.t 3)⟩,
  ⟨some 21, none, .ld false 1 (.t 20)⟩,
  ⟨some 22, none, .call 54 [(.t 19), (.t 21)]⟩] [0, 1, 3, 7, 0, 16, 63])
  (.seq (.par [⟨some 24, none, .ld false 1 (.t 1)⟩,
  ⟨some 25, none, .nck (.t 24)⟩,
  ⟨some 26, none, .fa 1 (.t 25)⟩,
  ⟨some 27, none, .ld false 1 (.t 26)⟩,
  ⟨some 28, none, .fa 0 (.t 3)⟩,
  ⟨some 29, none, .ld false 1 (.t 28)⟩,
  ⟨some 30, none, .call 55 [(.t 27), (.t 29)]⟩,
  ⟨some 23, none, .mv (.t 30)⟩,
  ⟨some 31, none, .ex (.t 23) 0⟩,
  ⟨some 32, none, .ex (.t 23) 1⟩,
  ⟨some 33, none, .ex (.t 23) 2⟩,
  ⟨some 4, none, .mv (.t 31)⟩,
  ⟨some 5, none, .mv (.t 32)⟩,
  ⟨some 6, none, .mv (.t 33)⟩] [0, 1, 3, 7, 0, 16, 63, 127, 255, 255, 255, 511, 3071, 8191])
  (.seq (.seq (.reg [⟨some 34, none, .mv (.t 4)⟩,
  ⟨some 35, none, .len 1 (.t 34)⟩,
  ⟨some 36, none, .mv (.c (.i .i64 0))⟩])
  (.blk 2 (.loop (.seq (.reg [⟨some 37, none, .bop .lss (.t 36) (.t 35)⟩])
  (.seq (.cond (.t 37) .skip
  (.exit 2))
  (.seq (.blk 3 (.seq (.reg [⟨some 38, none, .ia 1 (.t 34) (.t 36)⟩,
  ⟨some 39, none, .ld false 1 (.t 38)⟩,
  ⟨some 8, none, .mv (.t 39)⟩])
  (.reg [⟨some 40, none, .ld false 1 (.t 1)⟩,
  ⟨some 41, none, .fa 0 (.t 3)⟩,
  ⟨some 42, none, .ld false 1 (.t 41)⟩,
  ⟨some 43, none, .mv (.t 8)⟩,
  ⟨some 44, none, .fa 1 (.t 3)⟩,
  ⟨some 45, none, .ld true 5 (.t 44)⟩,
  ⟨some 46, none, .call 35 [(.t 40), (.t 42), (.t 43), (.t 45)]⟩])))
  (.reg [⟨some 47, none, .bop .add (.t 36) (.c (.i .i64 1))⟩,
  ⟨some 36, none, .mv (.t 47)⟩])))))))
  (.seq (.reg [⟨some 48, none, .mv (.t 5)⟩,
  ⟨some 49, none, .len 1 (.t 48)⟩,
  ⟨some 50, none, .mv (.c (.i .i64 0))⟩])
  (.blk 4 (.loop (.seq (.reg [⟨some 51, none, .bop .lss (.t 50) (.t 49)⟩])
  (.seq (.cond (.t 51) .skip
  (.exit 4))
  (.seq (.blk 5 (.seq (.reg [⟨some 52, none, .ia 3 (.t 48) (.t 50)⟩,
  ⟨some 53, none, .ld true 3 (.t 52)⟩,
  ⟨some 10, none, .box 124 3 (.c (.ag [(.i .i64 0), (.i .i64 0), (.i .i64 0)]))⟩,
  ⟨none, none, .st 3 (.t 10) (.t 53)⟩])
  (.par [⟨some 54, none, .ld false 1 (.t 1)⟩,
  ⟨some 55, none, .fa 1 (.t 10)⟩,
  ⟨some 56, none, .ld false 1 (.t 55)⟩,
  ⟨some 57, none, .fa 0 (.t 10)⟩,
  ⟨some 58, none, .ld false 1 (.t 57)⟩,
  ⟨some 59, none, .fa 0 (.t 3)⟩,
  ⟨some 60, none, .ld false 1 (.t 59)⟩,
  ⟨some 61, none, .fa 1 (.t 3)⟩,
  ⟨some 62, none, .ld true 5 (.t 61)⟩,
  ⟨some 63, none, .call 8 [(.t 58), (.t 60), (.t 62)]⟩,
  ⟨some 64, none, .call 39 [(.t 54), (.t 56), (.t 63)]⟩] [0, 0, 2, 0, 8, 0, 32, 0, 128, 504, 1023])))
  (.reg [⟨some 65, none, .bop .add (.t 50) (.c (.i .i64 1))⟩,
  ⟨some 50, none, .mv (.t 65)⟩]))))))))))))))
  (.seq (.reg [⟨some 66, none, .ld false 1 (.t 1)⟩,
  ⟨some 67, none, .nck (.t 66)⟩,
  ⟨some 68, none, .fa 2 (.t 67)⟩,
  ⟨some 69, none, .fa 0 (.t 68)⟩,
  ⟨some 70, none, .ld false 1 (.t 69)⟩,
  ⟨some 2, none, .mv (.t 70)⟩])
  .ret)))⟩
def ir22_39 : XF := ⟨30, 3, [], (.seq (.reg [⟨some 5, none, .box 29 6 (.t 2)⟩])
  (.seq (.reg [⟨some 9, none, .mv (.t 0)⟩,
  ⟨some 10, none, .nck (.t 9)⟩,
  ⟨some 11, none, .fa 0 (.t 10)⟩,
  ⟨some 12, none, .ld false 1 (.t 11)⟩,
  ⟨some 13, none, .mv (.t 1)⟩,
  ⟨some 14, none, .call 21 [(.t 12), (.t 13)]⟩,
  ⟨some 8, none, .mv (.t 14)⟩,
  ⟨some 15, none, .ex (.t 8) 0⟩,
  ⟨some 16, none, .ex (.t 8) 1⟩,
  ⟨some 6, none, .box 56 9 (.c (.ag [(.i .i64 0), (.i .i64 0), .sln, .sln, (.s []), (.b false), (.b false), .sln, .sln]))⟩,
  ⟨none, none, .st 9 (.t 6) (.t 15)⟩,
  ⟨some 7, none, .mv (.t 16)⟩])
  (.seq (.reg [⟨some 17, none, .mv (.t 7)⟩])
  (.cond (.t 17) (.seq (.reg [⟨some 19, none, .ld true 9 (.t 6)⟩,
  ⟨some 20, none, .ld true 6 (.t 5)⟩,
  ⟨some 21, none, .call 58 [(.t 19), (.t 20)]⟩,
  ⟨some 18, none, .mv (.t 21)⟩,
  ⟨some 22, none, .ex (.t 18) 0⟩,
  ⟨some 23, none, .ex (.t 18) 1⟩,
  ⟨none, none, .st 9 (.t 6) (.t 22)⟩])
  (.par [⟨some 24, none, .mv (.t 0)⟩,
  ⟨some 25, none, .nck (.t 24)⟩,
  ⟨some 26, none, .fa 0 (.t 25)⟩,
  ⟨some 27, none, .ld false 1 (.t 26)⟩,
  ⟨some 28, none, .ld true 9 (.t 6)⟩,
  ⟨some 29, none, .call 41 [(.t 27), (.t 28)]⟩] [0, 1, 3, 7, 0, 31]))
  .skip))))⟩
def ir22_40 : XF := ⟨53, 3, [(6, none), (7, none)], (.seq (.reg [⟨some 5, none, .box 98 35 (.t 2)⟩,
  ⟨some 6, none, .mv (.c (.i .i64 0))⟩,
  ⟨some 7, none, .mv (.c (.i .i64 0))⟩])
  (.seq (.blk 0 (.seq (.reg [⟨some 11, none, .mv (.t 0)⟩,
  ⟨some 12, none, .eq 0 false true (.t 11) (.c .pn)⟩,
  ⟨some 10, none, .mv (.t 12)⟩])
  (.cond (.t 10) (.seq (.reg [⟨some 6, none, .mv (.c (.i .i64 0))⟩,
  ⟨some 7, none, .mv (.c (.i .i64 1))⟩])
  .ret)
  (.seq (.reg [⟨some 14, none, .mv (.t 0)⟩,
  ⟨some 15, none, .nck (.t 14)⟩,
  ⟨some 16, none, .fa 0 (.t 15)⟩,
  ⟨some 17, none, .ld false 1 (.t 16)⟩,
  ⟨some 18, none, .len 2 (.t 17)⟩,
  ⟨some 19, none, .bop .geq (.t 18) (.c (.i .i64 32))⟩,
  ⟨some 13, none, .mv (.t 19)⟩])
  (.cond (.t 13) (.seq (.reg [⟨some 6, none, .mv (.c (.i .i64 0))⟩,
  ⟨some 7, none, .mv (.c (.i .i64 20))⟩])
  .ret)
  .skip)))))
  (.seq (.par [⟨some 21, none, .mv (.t 0)⟩,
  ⟨some 22, none, .nck (.t 21)⟩,
  ⟨some 23, none, .fa 2 (.t 22)⟩,
  ⟨some 24, none, .ld false 1 (.t 23)⟩,
  ⟨some 25, none, .bop .add (.t 24) (.c (.i .i64 1))⟩,
  ⟨some 26, none, .mv (.t 1)⟩,
  ⟨some 27, none, .ld true 35 (.t 5)⟩,
  ⟨some 28, none, .call 59 [(.t 25), (.t 26), (.t 27)]⟩,
  ⟨some 20, none, .mv (.t 28)⟩,
  ⟨some 29, none, .ex (.t 20) 0⟩,
  ⟨some 30, none, .ex (.t 20) 1⟩,
  ⟨some 8, none, .box 56 9 (.c (.ag [(.i .i64 0), (.i .i64 0), .sln, .sln, (.s []), (.b false), (.b false), .sln, .sln]))⟩,
  ⟨none, none, .st 9 (.t 8) (.t 29)⟩,
  ⟨some 9, none, .mv (.t 30)⟩] [0, 1, 3, 7, 15, 0, 0, 127, 255, 511, 511, 0, 3071, 8191])
  (.seq (.seq (.reg [⟨some 31, none, .mv (.t 9)⟩,
  ⟨some 32, none, .bop .neq (.t 31) (.c (.i .i64 0))⟩])
  (.cond (.t 32) (.seq (.reg [⟨some 33, none, .mv (.t 9)⟩,
  ⟨some 6, none, .mv (.c (.i .i64 0))⟩,
  ⟨some 7, none, .mv (.t 33)⟩])
  .ret)
  .skip))
  (.seq (.reg [⟨some 34, none, .mv (.t 0)⟩,
  ⟨some 35, none, .nck (.t 34)⟩,
  ⟨some 36, none, .fa 2 (.t 35)⟩,
  ⟨some 37, none, .ld false 1 (.t 36)⟩,
  ⟨some 38, none, .bop .add (.t 37) (.c (.i .i64 1))⟩,
  ⟨some 39, none, .nck (.t 34)⟩,
  ⟨some 40, none, .fa 2 (.t 39)⟩,
  ⟨none, none, .st 1 (.t 40) (.t 38)⟩])
  (.seq (.par [⟨some 41, none, .mv (.t 0)⟩,
  ⟨some 42, none, .nck (.t 41)⟩,
  ⟨some 43, none, .fa 0 (.t 42)⟩,
  ⟨some 44, none, .ld false 1 (.t 43)⟩,
  ⟨some 45, none, .mv (.t 0)⟩,
  ⟨some 46, none, .nck (.t 45)⟩,
  ⟨some 47, none, .fa 2 (.t 46)⟩,
  ⟨some 48, none, .ld false 1 (.t 47)⟩,
  ⟨none, none, .ins .n (.t 44) (.t 48) (.t 8)⟩] [0, 1, 3, 7, 0, 16, 48, 112, 255])
  (.seq (.reg [⟨some 49, none, .mv (.t 0)⟩,
  ⟨some 50, none, .nck (.t 49)⟩,
  ⟨some 51, none, .fa 2 (.t 50)⟩,
  ⟨some 52, none, .ld false 1 (.t 51)⟩,
  ⟨some 6, none, .mv (.t 52)⟩,
  ⟨some 7, none, .mv (.c (.i .i64 0))⟩])
  .ret)))))))⟩
def ir22_41 : XF := ⟨44, 2, [(4, none)], (.seq (.reg [⟨some 3, none, .box 56 9 (.t 1)⟩,
  ⟨some 4, none, .mv (.c (.i .i64 0))⟩])
  (.seq (.seq (.reg [⟨some 6, none, .mv (.t 0)⟩,
  ⟨some 7, none, .eq 0 false true (.t 6) (.c .pn)⟩])
  (.cond (.t 7) (.seq (.reg [⟨some 4, none, .mv (.c (.i .i64 1))⟩])
  .ret)
  .skip))
  (.seq (.par [⟨some 8, none, .mv (.t 0)⟩,
  ⟨some 9, none, .nck (.t 8)⟩,
  ⟨some 10, none, .fa 0 (.t 9)⟩,
  ⟨some 11, none, .ld false 1 (.t 10)⟩,
  ⟨some 12, none, .fa 0 (.t 3)⟩,
  ⟨some 13, none, .ld false 1 (.t 12)⟩,
  ⟨some 14, none, .lk .n false .pn (.t 11) (.t 13)⟩,
  ⟨some 5, none, .mv (.t 14)⟩] [0, 1, 3, 7, 0, 16, 63, 127])
  (.seq (.blk 0 (.seq (.reg [⟨some 16, none, .mv (.t 5)⟩,
  ⟨some 17, none, .eq 0 false true (.t 16) (.c .pn)⟩,
  ⟨some 15, none, .mv (.t 17)⟩])
  (.cond (.t 15) (.seq (.reg [⟨some 4, none, .mv (.c (.i .i64 4))⟩])
  .ret)
  (.seq (.par [⟨some 19, none, .ld true 9 (.t 3)⟩,
  ⟨some 20, none, .call 60 [(.t 19)]⟩,
  ⟨some 21, none, .bop .neq (.t 20) (.c (.i .i64 0))⟩,
  ⟨some 22, none, .mv (.t 21)⟩,
  ⟨some 23, some (22, false), .fa 4 (.t 3)⟩,
  ⟨some 24, some (22, false), .ld false 1 (.t 23)⟩,
  ⟨some 25, some (22, false), .mv (.t 5)⟩,
  ⟨some 26, some (22, false), .nck (.t 25)⟩,
  ⟨some 27, some (22, false), .fa 4 (.t 26)⟩,
  ⟨some 28, some (22, false), .ld false 1 (.t 27)⟩,
  ⟨some 29, some (22, false), .bop .neq (.t 24) (.t 28)⟩,
  ⟨some 30, none, .pick (.t 22) (.c (.b true)) (.t 29)⟩,
  ⟨some 31, none, .mv (.t 30)⟩,
  ⟨some 32, some (31, false), .fa 1 (.t 3)⟩,
  ⟨some 33, some (31, false), .ld false 1 (.t 32)⟩,
  ⟨some 34, some (31, false), .mv (.t 5)⟩,
  ⟨some 35, some (31, false), .nck (.t 34)⟩,
  ⟨some 36, some (31, false), .fa 1 (.t 35)⟩,
  ⟨some 37, some (31, false), .ld false 1 (.t 36)⟩,
  ⟨some 38, some (31, false), .bop .neq (.t 33) (.t 37)⟩,
  ⟨some 39, none, .pick (.t 31) (.c (.b true)) (.t 38)⟩,
  ⟨some 18, none, .mv (.t 39)⟩] [0, 1, 3, 7, 15, 31, 15, 79, 207, 463, 1023, 2047, 4095, 8191, 16383, 8191, 40959, 106495, 237567, 524287, 1048575, 2097151])
  (.cond (.t 18) (.seq (.reg [⟨some 4, none, .mv (.c (.i .i64 2))⟩])
  .ret)
  .skip)))))
  (.seq (.reg [⟨some 40, none, .mv (.t 5)⟩,
  ⟨some 41, none, .ld true 9 (.t 3)⟩,
  ⟨some 42, none, .call 45 [(.t 41)]⟩,
  ⟨some 43, none, .nck (.t 40)⟩,
  ⟨none, none, .st 9 (.t 43) (.t 42)⟩])
  (.seq (.reg [⟨some 4, none, .mv (.c (.i .i64 0))⟩])
  .ret))))))⟩
def ir22_42 : XF := ⟨16, 2, [(4, none)], (.seq (.reg [⟨some 4, none, .mv (.c (.b false))⟩])
  (.seq (.reg [⟨some 5, none, .mv (.t 0)⟩,
  ⟨some 6, none, .bop .geq (.t 5) (.c (.i .i64 1))⟩,
  ⟨some 7, none, .mv (.t 6)⟩,
  ⟨some 8, some (7, true), .mv (.t 1)⟩,
  ⟨some 9, some (7, true), .bop .geq (.t 8) (.c (.i .i64 1))⟩,
  ⟨some 10, none, .pick (.t 7) (.t 9) (.c (.b false))⟩,
  ⟨some 11, none, .mv (.t 10)⟩,
  ⟨some 12, some (11, true), .mv (.t 0)⟩,
  ⟨some 13, some (11, true), .mv (.t 1)⟩,
  ⟨some 14, some (11, true), .bop .neq (.t 12) (.t 13)⟩,
  ⟨some 15, none, .pick (.t 11) (.t 14) (.c (.b false))⟩,
  ⟨some 4, none, .mv (.t 15)⟩])
  .ret))⟩
def ir22_43 : XF := ⟨23, 3, [(6, none)], (.seq (.reg [⟨some 6, none, .mv (.c (.b false))⟩])
  (.seq (.reg [⟨some 7, none, .mv (.t 0)⟩,
  ⟨some 8, none, .eq 0 true true (.t 7) (.c .pn)⟩,
  ⟨some 9, none, .mv (.t 8)⟩,
  ⟨some 10, some (9, true), .mv (.t 0)⟩,
  ⟨some 11, some (9, true), .nck (.t 10)⟩,
  ⟨some 12, some (9, true), .fa 1 (.t 11)⟩,
  ⟨some 13, some (9, true), .ld false 1 (.t 12)⟩,
  ⟨some 14, some (9, true), .mv (.t 1)⟩,
  ⟨some 15, some (9, true), .mv (.t 2)⟩,
  ⟨some 16, some (9, true), .mm false (.t 14) (.t 15)⟩,
  ⟨some 17, some (9, true), .mv (.t 1)⟩,
  ⟨some 18, some (9, true), .mv (.t 2)⟩,
  ⟨some 19, some (9, true), .mm true (.t 17) (.t 18)⟩,
  ⟨some 20, some (9, true), .bld [(.i .i64 0), (.i .i64 0)] [(0, 1, (.t 16)), (1, 1, (.t 19))]⟩,
  ⟨some 21, some (9, true), .lk (.w [0, 0]) false (.b false) (.t 13) (.t 20)⟩,
  ⟨some 22, none, .pick (.t 9) (.t 21) (.c (.b false))⟩,
  ⟨some 6, none, .mv (.t 22)⟩])
  .ret))⟩
def ir22_44 : XF := ⟨74, 4, [], (.seq (.seq (.reg [⟨some 11, none, .mv (.t 1)⟩,
  ⟨some 12, none, .mv (.t 2)⟩,
  ⟨some 13, none, .bld [(.i .i64 0), (.i .i64 0)] [(0, 1, (.t 11)), (1, 1, (.t 12))]⟩,
  ⟨some 14, none, .mv (.t 2)⟩,
  ⟨some 15, none, .mv (.t 1)⟩,
  ⟨some 16, none, .bld [(.i .i64 0), (.i .i64 0)] [(0, 1, (.t 14)), (1, 1, (.t 15))]⟩,
  ⟨some 17, none, .bld [(.i .i64 0), (.i .i64 0), (.i .i64 0), (.i .i64 0)] [(0, 2, (.t 13)), (2, 2, (.t 16))]⟩,
  ⟨some 18, none, .mv (.c (.i .i64 0))⟩])
  (.blk 0 (.loop (.seq (.reg [⟨some 19, none, .bop .lss (.t 18) (.c (.i .i64 2))⟩])
  (.seq (.cond (.t 19) .skip
  (.exit 0))
  (.seq (.blk 1 (.seq (.reg [⟨some 20, none, .ixA true 2 2 (.t 17) (.t 18)⟩,
  ⟨some 9, none, .box 131 2 (.c (.ag [(.i .i64 0), (.i .i64 0)]))⟩,
  ⟨none, none, .st 2 (.t 9) (.t 20)⟩])
  (.seq (.seq (.par [⟨some 21, none, .mv (.t 0)⟩,
  ⟨some 22, none, .nck (.t 21)⟩,
  ⟨some 23, none, .fa 0 (.t 22)⟩,
  ⟨some 24, none, .ld false 1 (.t 23)⟩,
  ⟨some 25, none, .iaA 2 1 (.t 9) (.c (.i .i64 0))⟩,
  ⟨some 26, none, .ld false 1 (.t 25)⟩,
  ⟨some 27, none, .lk .n false .mn (.t 24) (.t 26)⟩,
  ⟨some 28, none, .eq 2 false true (.t 27) (.c .mn)⟩] [0, 1, 3, 7, 0, 16, 63, 127])
  (.cond (.t 28) (.par [⟨some 29, none, .mv (.t 0)⟩,
  ⟨some 30, none, .nck (.t 29)⟩,
  ⟨some 31, none, .fa 0 (.t 30)⟩,
  ⟨some 32, none, .ld false 1 (.t 31)⟩,
  ⟨some 33, none, .iaA 2 1 (.t 9) (.c (.i .i64 0))⟩,
  ⟨some 34, none, .ld false 1 (.t 33)⟩,
  ⟨some 35, none, .mkm⟩,
  ⟨none, none, .ins .n (.t 32) (.t 34) (.t 35)⟩] [0, 1, 3, 7, 0, 16, 0, 127])
  .skip))
  (.seq (.reg [⟨some 36, none, .mv (.t 3)⟩])
  (.cond (.t 36) (.par [⟨some 37, none, .mv (.t 0)⟩,
  ⟨some 38, none, .nck (.t 37)⟩,
  ⟨some 39, none, .fa 0 (.t 38)⟩,
  ⟨some 40, none, .ld false 1 (.t 39)⟩,
  ⟨some 41, none, .iaA 2 1 (.t 9) (.c (.i .i64 0))⟩,
  ⟨some 42, none, .ld false 1 (.t 41)⟩,
  ⟨some 43, none, .lk .n false .mn (.t 40) (.t 42)⟩,
  ⟨some 44, none, .iaA 2 1 (.t 9) (.c (.i .i64 1))⟩,
  ⟨some 45, none, .ld false 1 (.t 44)⟩,
  ⟨none, none, .ins .n (.t 43) (.t 45) (.c (.b true))⟩] [0, 1, 3, 7, 0, 16, 63, 0, 128, 511])
  (.par [⟨some 46, none, .mv (.t 0)⟩,
  ⟨some 47, none, .nck (.t 46)⟩,
  ⟨some 48, none, .fa 0 (.t 47)⟩,
  ⟨some 49, none, .ld false 1 (.t 48)⟩,
  ⟨some 50, none, .iaA 2 1 (.t 9) (.c (.i .i64 0))⟩,
  ⟨some 51, none, .ld false 1 (.t 50)⟩,
  ⟨some 52, none, .lk .n false .mn (.t 49) (.t 51)⟩,
  ⟨some 53, none, .iaA 2 1 (.t 9) (.c (.i .i64 1))⟩,
  ⟨some 54, none, .ld false 1 (.t 53)⟩,
  ⟨none, none, .del .n (.t 52) (.t 54)⟩] [0, 1, 3, 7, 0, 16, 63, 0, 128, 511]))))))
  (.reg [⟨some 55, none, .bop .add (.t 18) (.c (.i .i64 1))⟩,
  ⟨some 18, none, .mv (.t 55)⟩])))))))
  (.seq (.reg [⟨some 56, none, .mv (.t 1)⟩,
  ⟨some 57, none, .mv (.t 2)⟩,
  ⟨some 58, none, .mm false (.t 56) (.t 57)⟩,
  ⟨some 59, none, .mv (.t 1)⟩,
  ⟨some 60, none, .mv (.t 2)⟩,
  ⟨some 61, none, .mm true (.t 59) (.t 60)⟩,
  ⟨some 62, none, .bld [(.i .i64 0), (.i .i64 0)] [(0, 1, (.t 58)), (1, 1, (.t 61))]⟩,
  ⟨some 10, none, .box 131 2 (.c (.ag [(.i .i64 0), (.i .i64 0)]))⟩,
  ⟨none, none, .st 2 (.t 10) (.t 62)⟩])
  (.seq (.reg [⟨some 63, none, .mv (.t 3)⟩])
  (.cond (.t 63) (.par [⟨some 64, none, .mv (.t 0)⟩,
  ⟨some 65, none, .nck (.t 64)⟩,
  ⟨some 66, none, .fa 1 (.t 65)⟩,
  ⟨some 67, none, .ld false 1 (.t 66)⟩,
  ⟨some 68, none, .ld true 2 (.t 10)⟩,
  ⟨none, none, .ins (.w [0, 0]) (.t 67) (.t 68) (.c (.b true))⟩] [0, 1, 3, 7, 0, 31])
  (.par [⟨some 69, none, .mv (.t 0)⟩,
  ⟨some 70, none, .nck (.t 69)⟩,
  ⟨some 71, none, .fa 1 (.t 70)⟩,
  ⟨some 72, none, .ld false 1 (.t 71)⟩,
  ⟨some 73, none, .ld true 2 (.t 10)⟩,
  ⟨none, none, .del (.w [0, 0]) (.t 72) (.t 73)⟩] [0, 1, 3, 7, 0, 31])))))⟩
def ir22_45 : XF := ⟨20, 1, [(2, some (true, 9))], (.seq (.reg [⟨some 1, none, .box 56 9 (.t 0)⟩,
  ⟨some 2, none, .box 56 9 (.c (.ag [(.i .i64 0), (.i .i64 0), .sln, .sln, (.s []), (.b false), (.b false), .sln, .sln]))⟩])
  (.seq (.par [⟨some 3, none, .fa 2 (.t 1)⟩,
  ⟨some 4, none, .ld false 1 (.t 3)⟩,
  ⟨some 5, none, .call 61 [(.t 4)]⟩,
  ⟨some 6, none, .fa 3 (.t 1)⟩,
  ⟨some 7, none, .ld false 1 (.t 6)⟩,
  ⟨some 8, none, .call 62 [(.t 7)]⟩,
  ⟨some 9, none, .fa 7 (.t 1)⟩,
  ⟨some 10, none, .ld false 1 (.t 9)⟩,
  ⟨some 11, none, .call 63 [(.t 10)]⟩,
  ⟨some 12, none, .fa 8 (.t 1)⟩,
  ⟨some 13, none, .ld false 1 (.t 12)⟩,
  ⟨some 14, none, .call 64 [(.t 13)]⟩,
  ⟨some 15, none, .fa 2 (.t 1)⟩,
  ⟨none, none, .st 1 (.t 15) (.t 5)⟩,
  ⟨some 16, none, .fa 3 (.t 1)⟩,
  ⟨none, none, .st 1 (.t 16) (.t 8)⟩,
  ⟨some 17, none, .fa 7 (.t 1)⟩,
  ⟨none, none, .st 1 (.t 17) (.t 11)⟩,
  ⟨some 18, none, .fa 8 (.t 1)⟩,
  ⟨none, none, .st 1 (.t 18) (.t 14)⟩] [0, 1, 3, 0, 8, 31, 0, 64, 255, 0, 512, 2047, 1759, 8191, 16383, 32767, 65535, 131071, 262143, 524287])
  (.seq (.reg [⟨some 19, none, .ld true 9 (.t 1)⟩,
  ⟨none, none, .st 9 (.t 2) (.t 19)⟩])
  .ret)))⟩
def ir22_46 : XF := ⟨14, 1, [(2, none)], (.seq (.reg [⟨some 1, none, .box 25 5 (.t 0)⟩,
  ⟨some 2, none, .mv (.c (.i .i64 0))⟩])
  (.seq (.reg [⟨some 6, none, .ld true 5 (.t 1)⟩,
  ⟨some 7, none, .call 65 [(.t 6), (.c (.i .i64 257))]⟩,
  ⟨some 5, none, .mv (.t 7)⟩,
  ⟨some 8, none, .ex (.t 5) 0⟩,
  ⟨some 9, none, .ex (.t 5) 1⟩,
  ⟨some 3, none, .mv (.t 8)⟩,
  ⟨some 4, none, .mv (.t 9)⟩])
  (.seq (.seq (.reg [⟨some 10, none, .mv (.t 4)⟩,
  ⟨some 11, none, .un .not (.t 10)⟩])
  (.cond (.t 11) (.seq (.reg [⟨some 2, none, .mv (.c (.i .i64 30))⟩])
  .ret)
  .skip))
  (.seq (.seq (.reg [⟨some 12, none, .mv (.t 3)⟩,
  ⟨some 13, none, .bop .gtr (.t 12) (.c (.i .i64 256))⟩])
  (.cond (.t 13) (.seq (.reg [⟨some 2, none, .mv (.c (.i .i64 11))⟩])
  .ret)
  .skip))
  (.seq (.reg [⟨some 2, none, .mv (.c (.i .i64 0))⟩])
  .ret)))))⟩
def ir22_47 : XF := ⟨81, 1, [(2, none)], (.seq (.reg [⟨some 1, none, .box 25 5 (.t 0)⟩,
  ⟨some 2, none, .mv (.c (.s []))⟩])
  (.seq (.seq (.reg [⟨some 4, none, .fa 0 (.t 1)⟩,
  ⟨some 5, none, .ld false 1 (.t 4)⟩])
  (.blk 0 (.seq (.reg [⟨some 7, none, .bop .eql (.t 5) (.c (.i .i8 0))⟩,
  ⟨some 6, none, .mv (.t 7)⟩])
  (.cond (.t 6) (.seq (.reg [⟨some 8, none, .fa 1 (.t 1)⟩,
  ⟨some 9, none, .ld false 1 (.t 8)⟩,
  ⟨some 10, none, .call 66 [(.t 9)]⟩,
  ⟨some 2, none, .mv (.t 10)⟩])
  .ret)
  (.seq (.reg [⟨some 12, none, .bop .eql (.t 5) (.c (.i .i8 1))⟩,
  ⟨some 11, none, .mv (.t 12)⟩])
  (.cond (.t 11) (.seq (.reg [⟨some 13, none, .fa 2 (.t 1)⟩,
  ⟨some 14, none, .ld false 1 (.t 13)⟩,
  ⟨some 2, none, .mv (.t 14)⟩])
  .ret)
  (.seq (.reg [⟨some 16, none, .bop .eql (.t 5) (.c (.i .i8 2))⟩,
  ⟨some 15, none, .mv (.t 16)⟩])
  (.cond (.t 15) (.seq (.reg [⟨some 17, none, .fa 1 (.t 1)⟩,
  ⟨some 18, none, .ld false 1 (.t 17)⟩,
  ⟨some 19, none, .call 66 [(.t 18)]⟩,
  ⟨some 20, none, .bop .add (.c (.s [35, 82, 101, 102, 60])) (.t 19)⟩,
  ⟨some 21, none, .bop .add (.t 20) (.c (.s [62]))⟩,
  ⟨some 2, none, .mv (.t 21)⟩])
  .ret)
  (.seq (.reg [⟨some 23, none, .bop .eql (.t 5) (.c (.i .i8 4))⟩,
  ⟨some 22, none, .mv (.t 23)⟩])
  (.cond (.t 22) (.seq (.reg [⟨some 24, none, .fa 1 (.t 1)⟩,
  ⟨some 25, none, .ld false 1 (.t 24)⟩,
  ⟨some 26, none, .call 66 [(.t 25)]⟩,
  ⟨some 27, none, .bop .add (.c (.s [60])) (.t 26)⟩,
  ⟨some 28, none, .bop .add (.t 27) (.c (.s [62]))⟩,
  ⟨some 2, none, .mv (.t 28)⟩])
  .ret)
  (.seq (.reg [⟨some 30, none, .bop .eql (.t 5) (.c (.i .i8 3))⟩,
  ⟨some 29, none, .mv (.t 30)⟩])
  (.cond (.t 29) (.seq (.par [⟨some 31, none, .fa 2 (.t 1)⟩,
  ⟨some 32, none, .ld false 1 (.t 31)⟩,
  ⟨some 33, none, .bop .add (.c (.s [102, 117, 110, 32])) (.t 32)⟩,
  ⟨some 34, none, .bop .add (.t 33) (.c (.s [58]))⟩,
  ⟨some 35, none, .fa 3 (.t 1)⟩,
  ⟨some 36, none, .ld false 1 (.t 35)⟩,
  ⟨some 37, none, .bop .add (.t 34) (.t 36)⟩,
  ⟨some 38, none, .bop .add (.t 37) (.c (.s [47]))⟩,
  ⟨some 39, none, .fa 1 (.t 1)⟩,
  ⟨some 40, none, .ld false 1 (.t 39)⟩,
  ⟨some 41, none, .call 66 [(.t 40)]⟩,
  ⟨some 42, none, .bop .add (.t 38) (.t 41)⟩,
  ⟨some 2, none, .mv (.t 42)⟩] [0, 1, 3, 7, 0, 16, 63, 127, 0, 256, 768, 2047, 4095])
  .ret)
  (.seq (.reg [⟨some 44, none, .bop .eql (.t 5) (.c (.i .i8 5))⟩,
  ⟨some 43, none, .mv (.t 44)⟩])
  (.cond (.t 43) (.seq (.reg [⟨some 45, none, .fa 4 (.t 1)⟩,
  ⟨some 46, none, .ld false 1 (.t 45)⟩,
  ⟨some 47, none, .call 67 [(.t 46)]⟩,
  ⟨some 48, none, .bop .add (.c (.s [123])) (.t 47)⟩,
  ⟨some 49, none, .bop .add (.t 48) (.c (.s [125]))⟩,
  ⟨some 2, none, .mv (.t 49)⟩])
  .ret)
  (.seq (.reg [⟨some 51, none, .bop .eql (.t 5) (.c (.i .i8 6))⟩,
  ⟨some 50, none, .mv (.t 51)⟩])
  (.cond (.t 50) (.seq (.reg [⟨some 2, none, .mv (.c (.s [91, 93]))⟩])
  .ret)
  .skip))))))))))))))))
  (.seq (.reg [⟨some 3, none, .mv (.c .sln)⟩])
  (.seq (.blk 1 (.loop (.seq (.seq (.reg [⟨some 52, none, .fa 0 (.t 1)⟩,
  ⟨some 53, none, .ld false 1 (.t 52)⟩,
  ⟨some 54, none, .bop .eql (.t 53) (.c (.i .i8 7))⟩])
  (.cond (.t 54) .skip
  (.exit 1)))
  (.blk 2 (.seq (.reg [⟨some 55, none, .mv (.t 3)⟩,
  ⟨some 56, none, .fa 4 (.t 1)⟩,
  ⟨some 57, none, .ld false 1 (.t 56)⟩,
  ⟨some 58, none, .ia 5 (.t 57) (.c (.i .i64 0))⟩,
  ⟨some 59, none, .ld true 5 (.t 58)⟩,
  ⟨some 60, none, .bls 25 5 1 [(.i .i8 0), (.i .i64 0), (.s []), (.s []), .sln] [(0, 5, (.t 59))]⟩,
  ⟨some 61, none, .app 25 5 (.t 55) (.t 60)⟩,
  ⟨some 3, none, .mv (.t 61)⟩])
  (.reg [⟨some 62, none, .fa 4 (.t 1)⟩,
  ⟨some 63, none, .ld false 1 (.t 62)⟩,
  ⟨some 64, none, .ia 5 (.t 63) (.c (.i .i64 1))⟩,
  ⟨some 65, none, .ld true 5 (.t 64)⟩,
  ⟨none, none, .st 5 (.t 1) (.t 65)⟩]))))))
  (.seq (.seq (.reg [⟨some 66, none, .fa 0 (.t 1)⟩,
  ⟨some 67, none, .ld false 1 (.t 66)⟩,
  ⟨some 68, none, .bop .eql (.t 67) (.c (.i .i8 6))⟩])
  (.cond (.t 68) (.seq (.reg [⟨some 69, none, .mv (.t 3)⟩,
  ⟨some 70, none, .call 67 [(.t 69)]⟩,
  ⟨some 71, none, .bop .add (.c (.s [91])) (.t 70)⟩,
  ⟨some 72, none, .bop .add (.t 71) (.c (.s [93]))⟩,
  ⟨some 2, none, .mv (.t 72)⟩])
  .ret)
  .skip))
  (.seq (.par [⟨some 73, none, .mv (.t 3)⟩,
  ⟨some 74, none, .call 67 [(.t 73)]⟩,
  ⟨some 75, none, .bop .add (.c (.s [91])) (.t 74)⟩,
  ⟨some 76, none, .bop .add (.t 75) (.c (.s [124]))⟩,
  ⟨some 77, none, .ld true 5 (.t 1)⟩,
  ⟨some 78, none, .call 47 [(.t 77)]⟩,
  ⟨some 79, none, .bop .add (.t 76) (.t 78)⟩,
  ⟨some 80, none, .bop .add (.t 79) (.c (.s [93]))⟩,
  ⟨some 2, none, .mv (.t 80)⟩] [0, 1, 3, 7, 0, 19, 63, 127, 255])
  .ret))))))⟩
def ir22_48 : XF := ⟨8, 1, [(2, some (true, 5)), (3, none)], (.seq (.reg [⟨some 2, none, .box 25 5 (.c (.ag [(.i .i8 0), (.i .i64 0), (.s []), (.s []), .sln]))⟩,
  ⟨some 3, none, .mv (.c (.i .i64 0))⟩])
  (.seq (.reg [⟨some 4, none, .mv (.t 0)⟩,
  ⟨some 5, none, .call 68 [(.c (.i .i8 5)), (.t 4)]⟩,
  ⟨some 6, none, .ex (.t 5) 0⟩,
  ⟨some 7, none, .ex (.t 5) 1⟩,
  ⟨none, none, .st 5 (.t 2) (.t 6)⟩,
  ⟨some 3, none, .mv (.t 7)⟩])
  .ret))⟩
def ir22_50 : XF := ⟨36, 4, [], (.seq (.reg [⟨some 6, none, .ld false 1 (.t 1)⟩,
  ⟨some 7, none, .bop .add (.t 6) (.c (.i .i64 1))⟩,
  ⟨none, none, .st 1 (.t 1) (.t 7)⟩])
  (.seq (.reg [⟨some 8, none, .ld false 1 (.t 2)⟩,
  ⟨some 9, none, .mv (.t 8)⟩,
  ⟨some 10, some (9, true), .mv (.t 0)⟩,
  ⟨some 11, some (9, true), .call 51 [(.t 10)]⟩,
  ⟨some 12, none, .pick (.t 9) (.t 11) (.c (.b false))⟩,
  ⟨none, none, .st 1 (.t 2) (.t 12)⟩])
  (.seq (.reg [⟨some 13, none, .mv (.t 0)⟩,
  ⟨some 14, none, .nck (.t 13)⟩,
  ⟨some 15, none, .fa 4 (.t 14)⟩,
  ⟨some 16, none, .ld false 1 (.t 15)⟩,
  ⟨some 17, none, .len 1 (.t 16)⟩,
  ⟨some 18, none, .mv (.c (.i .i64 0))⟩])
  (.blk 0 (.loop (.seq (.reg [⟨some 19, none, .bop .lss (.t 18) (.t 17)⟩])
  (.seq (.cond (.t 19) .skip
  (.exit 0))
  (.seq (.blk 1 (.seq (.reg [⟨some 20, none, .mv (.t 18)⟩,
  ⟨some 5, none, .mv (.t 20)⟩])
  (.seq (.seq (.reg [⟨some 21, none, .ld false 1 (.t 1)⟩,
  ⟨some 22, none, .bop .gtr (.t 21) (.c (.i .i64 256))⟩,
  ⟨some 23, none, .mv (.t 22)⟩,
  ⟨some 24, some (23, false), .ld false 1 (.t 2)⟩,
  ⟨some 25, some (23, false), .un .not (.t 24)⟩,
  ⟨some 26, none, .pick (.t 23) (.c (.b true)) (.t 25)⟩])
  (.cond (.t 26) .ret
  .skip))
  (.par [⟨some 27, none, .ld false 1 (.t 3)⟩,
  ⟨some 28, none, .mv (.t 0)⟩,
  ⟨some 29, none, .nck (.t 28)⟩,
  ⟨some 30, none, .fa 4 (.t 29)⟩,
  ⟨some 31, none, .ld false 1 (.t 30)⟩,
  ⟨some 32, none, .mv (.t 5)⟩,
  ⟨some 33, none, .ia 5 (.t 31) (.t 32)⟩,
  ⟨some 34, none, .callv (.t 27) [(.t 33)]⟩] [0, 0, 2, 6, 14, 0, 62, 127]))))
  (.reg [⟨some 35, none, .bop .add (.t 18) (.c (.i .i64 1))⟩,
  ⟨some 18, none, .mv (.t 35)⟩])))))))))⟩
def ir22_51 : XF := ⟨68, 1, [(2, none)], (.seq (.reg [⟨some 2, none, .mv (.c (.b false))⟩])
  (.seq (.seq (.reg [⟨some 8, none, .mv (.t 0)⟩,
  ⟨some 9, none, .call 70 [(.t 8)]⟩])
  (.blk 0 (.seq (.reg [⟨some 10, none, .ta true 146 (.ag [(.i .i64 0)]) (.t 9)⟩,
  ⟨some 11, none, .ex (.t 10) 1⟩,
  ⟨some 12, none, .ex (.t 10) 0⟩])
  (.cond (.t 11) (.seq (.reg [⟨some 3, none, .box 146 1 (.c (.ag [(.i .i64 0)]))⟩,
  ⟨none, none, .st 1 (.t 3) (.t 12)⟩])
  (.seq (.reg [⟨some 13, none, .fa 0 (.t 3)⟩,
  ⟨some 14, none, .ld false 1 (.t 13)⟩,
  ⟨some 15, none, .call 71 [(.t 14)]⟩,
  ⟨some 2, none, .mv (.t 15)⟩])
  .ret))
  (.seq (.reg [⟨some 16, none, .ta true 147 (.ag [(.i .i64 0)]) (.t 9)⟩,
  ⟨some 17, none, .ex (.t 16) 1⟩,
  ⟨some 18, none, .ex (.t 16) 0⟩])
  (.cond (.t 17) (.seq (.reg [⟨some 4, none, .box 147 1 (.c (.ag [(.i .i64 0)]))⟩,
  ⟨none, none, .st 1 (.t 4) (.t 18)⟩])
  (.seq (.reg [⟨some 19, none, .fa 0 (.t 4)⟩,
  ⟨some 20, none, .ld false 1 (.t 19)⟩,
  ⟨some 21, none, .bop .geq (.t 20) (.c (.i .i64 0))⟩,
  ⟨some 22, none, .mv (.t 21)⟩,
  ⟨some 23, some (22, true), .fa 0 (.t 4)⟩,
  ⟨some 24, some (22, true), .ld false 1 (.t 23)⟩,
  ⟨some 25, some (22, true), .bop .leq (.t 24) (.c (.i .i64 576460752303423487))⟩,
  ⟨some 26, none, .pick (.t 22) (.t 25) (.c (.b false))⟩,
  ⟨some 2, none, .mv (.t 26)⟩])
  .ret))
  (.seq (.reg [⟨some 27, none, .ta true 149 (.ag [(.s [])]) (.t 9)⟩,
  ⟨some 28, none, .ex (.t 27) 1⟩,
  ⟨some 29, none, .ex (.t 27) 0⟩])
  (.cond (.t 28) (.seq (.reg [⟨some 5, none, .box 149 1 (.c (.ag [(.s [])]))⟩,
  ⟨none, none, .st 1 (.t 5) (.t 29)⟩])
  (.seq (.reg [⟨some 30, none, .fa 0 (.t 5)⟩,
  ⟨some 31, none, .ld false 1 (.t 30)⟩,
  ⟨some 32, none, .call 72 [(.t 31)]⟩,
  ⟨some 2, none, .mv (.t 32)⟩])
  .ret))
  (.seq (.reg [⟨some 33, none, .ta true 152 (.ag [(.s []), (.s []), (.i .i64 0)]) (.t 9)⟩,
  ⟨some 34, none, .ex (.t 33) 1⟩,
  ⟨some 35, none, .ex (.t 33) 0⟩])
  (.cond (.t 34) (.seq (.reg [⟨some 6, none, .box 152 3 (.c (.ag [(.s []), (.s []), (.i .i64 0)]))⟩,
  ⟨none, none, .st 3 (.t 6) (.t 35)⟩])
  (.seq (.reg [⟨some 36, none, .fa 0 (.t 6)⟩,
  ⟨some 37, none, .ld false 1 (.t 36)⟩,
  ⟨some 38, none, .call 72 [(.t 37)]⟩,
  ⟨some 39, none, .mv (.t 38)⟩,
  ⟨some 40, some (39, true), .fa 1 (.t 6)⟩,
  ⟨some 41, some (39, true), .ld false 1 (.t 40)⟩,
  ⟨some 42, some (39, true), .call 72 [(.t 41)]⟩,
  ⟨some 43, none, .pick (.t 39) (.t 42) (.c (.b false))⟩,
  ⟨some 44, none, .mv (.t 43)⟩,
  ⟨some 45, some (44, true), .fa 2 (.t 6)⟩,
  ⟨some 46, some (44, true), .ld false 1 (.t 45)⟩,
  ⟨some 47, some (44, true), .bop .geq (.t 46) (.c (.i .i64 0))⟩,
  ⟨some 48, none, .pick (.t 44) (.t 47) (.c (.b false))⟩,
  ⟨some 49, none, .mv (.t 48)⟩,
  ⟨some 50, some (49, true), .fa 2 (.t 6)⟩,
  ⟨some 51, some (49, true), .ld false 1 (.t 50)⟩,
  ⟨some 52, some (49, true), .bop .leq (.t 51) (.c (.i .i64 8))⟩,
  ⟨some 53, none, .pick (.t 49) (.t 52) (.c (.b false))⟩,
  ⟨some 2, none, .mv (.t 53)⟩])
  .ret))
  (.seq (.reg [⟨some 54, none, .ta true 154 (.ag [.sln, (.i .i64 0)]) (.t 9)⟩,
  ⟨some 55, none, .ex (.t 54) 1⟩,
  ⟨some 56, none, .ex (.t 54) 0⟩])
  (.cond (.t 55) (.seq (.reg [⟨some 7, none, .box 154 2 (.c (.ag [.sln, (.i .i64 0)]))⟩,
  ⟨none, none, .st 2 (.t 7) (.t 56)⟩])
  (.seq (.reg [⟨some 57, none, .fa 1 (.t 7)⟩,
  ⟨some 58, none, .ld false 1 (.t 57)⟩,
  ⟨some 59, none, .bop .lss (.t 58) (.c (.i .i64 0))⟩,
  ⟨some 60, none, .mv (.t 59)⟩,
  ⟨some 61, some (60, false), .fa 0 (.t 7)⟩,
  ⟨some 62, some (60, false), .ld false 1 (.t 61)⟩,
  ⟨some 63, some (60, false), .len 1 (.t 62)⟩,
  ⟨some 64, some (60, false), .fa 1 (.t 7)⟩,
  ⟨some 65, some (60, false), .ld false 1 (.t 64)⟩,
  ⟨some 66, some (60, false), .bop .eql (.t 63) (.t 65)⟩,
  ⟨some 67, none, .pick (.t 60) (.c (.b true)) (.t 66)⟩,
  ⟨some 2, none, .mv (.t 67)⟩])
  .ret))
  .skip))))))))))))
  (.seq (.reg [⟨some 2, none, .mv (.c (.b false))⟩])
  .ret)))⟩
def ir22_52 : XF := ⟨15, 2, [(4, some (false, 1))], (.seq (.reg [⟨some 3, none, .box 3 1 (.t 1)⟩,
  ⟨some 4, none, .box 4 1 (.c (.b false))⟩])
  (.seq (.seq (.reg [⟨some 6, none, .mv (.t 0)⟩,
  ⟨some 7, none, .nck (.t 6)⟩,
  ⟨some 8, none, .fa 2 (.t 7)⟩,
  ⟨some 9, none, .call 53 [(.t 8)]⟩])
  (.blk 0 (.rng 15 (.t 9) [10] (.reg [⟨some 5, none, .box 60 7 (.c (.ag [(.i .i64 0), (.i .i8 0), (.i .i64 0), (.s []), (.s []), .sln, (.i .i64 0)]))⟩,
  ⟨none, none, .st 7 (.t 5) (.t 10)⟩]) (.blk 1 (.seq (.reg [⟨some 11, none, .fa 0 (.t 5)⟩,
  ⟨some 12, none, .ld false 1 (.t 11)⟩,
  ⟨some 13, none, .ld false 1 (.t 3)⟩,
  ⟨some 14, none, .bop .eql (.t 12) (.t 13)⟩])
  (.cond (.t 14) (.seq (.reg [⟨none, none, .st 1 (.t 4) (.c (.b true))⟩])
  .ret)
  .skip))))))
  (.seq (.reg [⟨none, none, .st 1 (.t 4) (.c (.b false))⟩])
  .ret)))⟩
def ir22_53 : XF := ⟨4, 1, [(2, none)], (.seq (.reg [⟨some 1, none, .box 155 1 (.t 0)⟩,
  ⟨some 2, none, .mv (.c .fn)⟩])
  (.seq (.reg [⟨some 3, none, .mkf (.func 73) [] [(.t 1)]⟩,
  ⟨some 2, none, .mv (.t 3)⟩])
  .ret))⟩
def ir22_54 : XF := ⟨29, 2, [(4, none)], (.seq (.reg [⟨some 4, none, .mv (.c (.i .i64 0))⟩])
  (.seq (.seq (.reg [⟨some 6, none, .mv (.t 0)⟩,
  ⟨some 7, none, .eq 0 false true (.t 6) (.c .pn)⟩])
  (.cond (.t 7) (.seq (.reg [⟨some 4, none, .mv (.c (.i .i64 1))⟩])
  .ret)
  .skip))
  (.seq (.reg [⟨some 8, none, .mv (.t 0)⟩,
  ⟨some 9, none, .nck (.t 8)⟩,
  ⟨some 10, none, .fa 0 (.t 9)⟩,
  ⟨some 11, none, .ld false 1 (.t 10)⟩,
  ⟨some 12, none, .mv (.t 1)⟩,
  ⟨some 13, none, .lk .n false .pn (.t 11) (.t 12)⟩,
  ⟨some 5, none, .mv (.t 13)⟩])
  (.seq (.seq (.reg [⟨some 14, none, .mv (.t 5)⟩,
  ⟨some 15, none, .eq 0 false true (.t 14) (.c .pn)⟩])
  (.cond (.t 15) (.seq (.reg [⟨some 4, none, .mv (.c (.i .i64 4))⟩])
  .ret)
  .skip))
  (.seq (.par [⟨some 16, none, .mv (.t 0)⟩,
  ⟨some 17, none, .nck (.t 16)⟩,
  ⟨some 18, none, .fa 1 (.t 17)⟩,
  ⟨some 19, none, .ld false 1 (.t 18)⟩,
  ⟨some 20, none, .mv (.t 5)⟩,
  ⟨some 21, none, .nck (.t 20)⟩,
  ⟨some 22, none, .fa 4 (.t 21)⟩,
  ⟨some 23, none, .ld false 1 (.t 22)⟩,
  ⟨none, none, .del .s (.t 19) (.t 23)⟩] [0, 1, 3, 7, 0, 16, 48, 112, 255])
  (.seq (.reg [⟨some 24, none, .mv (.t 0)⟩,
  ⟨some 25, none, .nck (.t 24)⟩,
  ⟨some 26, none, .fa 0 (.t 25)⟩,
  ⟨some 27, none, .ld false 1 (.t 26)⟩,
  ⟨some 28, none, .mv (.t 1)⟩,
  ⟨none, none, .del .n (.t 27) (.t 28)⟩])
  (.seq (.reg [⟨some 4, none, .mv (.c (.i .i64 0))⟩])
  .ret)))))))⟩
def ir22_55 : XF := ⟨40, 2, [(4, none), (5, none), (6, none)], (.seq (.reg [⟨some 3, none, .box 3 1 (.t 1)⟩,
  ⟨some 4, none, .mv (.c .sln)⟩,
  ⟨some 5, none, .mv (.c .sln)⟩,
  ⟨some 6, none, .mv (.c (.i .i64 0))⟩])
  (.seq (.blk 0 (.seq (.reg [⟨some 10, none, .mv (.t 0)⟩,
  ⟨some 11, none, .eq 0 false true (.t 10) (.c .pn)⟩,
  ⟨some 9, none, .mv (.t 11)⟩])
  (.cond (.t 9) (.seq (.reg [⟨some 4, none, .mv (.c .sln)⟩,
  ⟨some 5, none, .mv (.c .sln)⟩,
  ⟨some 6, none, .mv (.c (.i .i64 1))⟩])
  .ret)
  (.seq (.reg [⟨some 13, none, .ld false 1 (.t 3)⟩,
  ⟨some 14, none, .bop .lss (.t 13) (.c (.i .i64 1))⟩,
  ⟨some 12, none, .mv (.t 14)⟩])
  (.cond (.t 12) (.seq (.reg [⟨some 4, none, .mv (.c .sln)⟩,
  ⟨some 5, none, .mv (.c .sln)⟩,
  ⟨some 6, none, .mv (.c (.i .i64 2))⟩])
  .ret)
  .skip)))))
  (.seq (.par [⟨some 15, none, .mv (.t 0)⟩,
  ⟨some 16, none, .ld false 1 (.t 3)⟩,
  ⟨some 17, none, .call 74 [(.t 15), (.t 16)]⟩,
  ⟨some 18, none, .mv (.t 0)⟩,
  ⟨some 19, none, .ld false 1 (.t 3)⟩,
  ⟨some 20, none, .call 75 [(.t 18), (.t 19)]⟩,
  ⟨some 4, none, .mv (.t 17)⟩,
  ⟨some 5, none, .mv (.t 20)⟩] [0, 0, 3, 0, 0, 31, 63, 127])
  (.seq (.seq (.reg [⟨some 21, none, .mv (.t 4)⟩,
  ⟨some 22, none, .len 1 (.t 21)⟩,
  ⟨some 23, none, .mv (.c (.i .i64 0))⟩])
  (.blk 1 (.loop (.seq (.reg [⟨some 24, none, .bop .lss (.t 23) (.t 22)⟩])
  (.seq (.cond (.t 24) .skip
  (.exit 1))
  (.seq (.blk 2 (.seq (.reg [⟨some 25, none, .ia 1 (.t 21) (.t 23)⟩,
  ⟨some 26, none, .ld false 1 (.t 25)⟩,
  ⟨some 8, none, .mv (.t 26)⟩])
  (.reg [⟨some 27, none, .mv (.t 0)⟩,
  ⟨some 28, none, .ld false 1 (.t 3)⟩,
  ⟨some 29, none, .mv (.t 8)⟩,
  ⟨some 30, none, .call 44 [(.t 27), (.t 28), (.t 29), (.c (.b false))]⟩])))
  (.reg [⟨some 31, none, .bop .add (.t 23) (.c (.i .i64 1))⟩,
  ⟨some 23, none, .mv (.t 31)⟩])))))))
  (.seq (.reg [⟨some 32, none, .mv (.t 0)⟩,
  ⟨some 33, none, .nck (.t 32)⟩,
  ⟨some 34, none, .fa 2 (.t 33)⟩,
  ⟨some 35, none, .ld false 1 (.t 34)⟩,
  ⟨some 36, none, .mkf (.func 77) [] [(.t 3)]⟩,
  ⟨some 37, none, .call 76 [(.t 35), (.t 36)]⟩])
  (.seq (.reg [⟨some 38, none, .mv (.t 4)⟩,
  ⟨some 39, none, .mv (.t 5)⟩,
  ⟨some 4, none, .mv (.t 38)⟩,
  ⟨some 5, none, .mv (.t 39)⟩,
  ⟨some 6, none, .mv (.c (.i .i64 0))⟩])
  .ret))))))⟩
def ir22_58 : XF := ⟨41, 2, [(4, some (true, 9)), (5, none)], (.seq (.reg [⟨some 2, none, .box 56 9 (.t 0)⟩,
  ⟨some 3, none, .box 29 6 (.t 1)⟩,
  ⟨some 4, none, .box 56 9 (.c (.ag [(.i .i64 0), (.i .i64 0), .sln, .sln, (.s []), (.b false), (.b false), .sln, .sln]))⟩,
  ⟨some 5, none, .mv (.c (.b false))⟩])
  (.seq (.reg [⟨some 10, none, .ld true 9 (.t 2)⟩,
  ⟨some 11, none, .call 45 [(.t 10)]⟩,
  ⟨some 6, none, .box 56 9 (.c (.ag [(.i .i64 0), (.i .i64 0), .sln, .sln, (.s []), (.b false), (.b false), .sln, .sln]))⟩,
  ⟨none, none, .st 9 (.t 6) (.t 11)⟩])
  (.seq (.reg [⟨some 7, none, .mv (.c (.i .i64 0))⟩])
  (.seq (.seq (.reg [⟨some 12, none, .fa 3 (.t 2)⟩,
  ⟨some 13, none, .ld false 1 (.t 12)⟩,
  ⟨some 14, none, .len 1 (.t 13)⟩,
  ⟨some 15, none, .mv (.c (.i .i64 0))⟩])
  (.blk 0 (.loop (.seq (.reg [⟨some 16, none, .bop .lss (.t 15) (.t 14)⟩])
  (.seq (.cond (.t 16) .skip
  (.exit 0))
  (.seq (.blk 1 (.seq (.reg [⟨some 17, none, .ia 6 (.t 13) (.t 15)⟩,
  ⟨some 18, none, .ld true 6 (.t 17)⟩,
  ⟨some 9, none, .box 29 6 (.c (.ag [(.i .i8 0), (.i .i64 0), (.s []), (.s []), .sln, (.b false)]))⟩,
  ⟨none, none, .st 6 (.t 9) (.t 18)⟩])
  (.seq (.reg [⟨some 19, none, .fa 5 (.t 9)⟩,
  ⟨some 20, none, .ld false 1 (.t 19)⟩,
  ⟨some 21, none, .un .not (.t 20)⟩])
  (.cond (.t 21) (.reg [⟨some 22, none, .mv (.t 7)⟩,
  ⟨some 23, none, .bop .add (.t 22) (.c (.i .i64 1))⟩,
  ⟨some 7, none, .mv (.t 23)⟩])
  .skip))))
  (.reg [⟨some 24, none, .bop .add (.t 15) (.c (.i .i64 1))⟩,
  ⟨some 15, none, .mv (.t 24)⟩])))))))
  (.seq (.seq (.reg [⟨some 25, none, .fa 5 (.t 3)⟩,
  ⟨some 26, none, .ld false 1 (.t 25)⟩,
  ⟨some 27, none, .un .not (.t 26)⟩,
  ⟨some 28, none, .mv (.t 27)⟩,
  ⟨some 29, some (28, true), .mv (.t 7)⟩,
  ⟨some 30, some (28, true), .bop .geq (.t 29) (.c (.i .i64 64))⟩,
  ⟨some 31, none, .pick (.t 28) (.t 30) (.c (.b false))⟩])
  (.cond (.t 31) (.seq (.reg [⟨some 32, none, .ld true 9 (.t 6)⟩,
  ⟨none, none, .st 9 (.t 4) (.t 32)⟩,
  ⟨some 5, none, .mv (.c (.b false))⟩])
  .ret)
  .skip))
  (.seq (.reg [⟨some 33, none, .fa 3 (.t 6)⟩,
  ⟨some 34, none, .ld false 1 (.t 33)⟩,
  ⟨some 35, none, .ld true 6 (.t 3)⟩,
  ⟨some 36, none, .bls 29 6 1 [(.i .i8 0), (.i .i64 0), (.s []), (.s []), .sln, (.b false)] [(0, 6, (.t 35))]⟩,
  ⟨some 37, none, .app 29 6 (.t 34) (.t 36)⟩,
  ⟨some 38, none, .fa 3 (.t 6)⟩,
  ⟨none, none, .st 1 (.t 38) (.t 37)⟩,
  ⟨some 39, none, .fa 6 (.t 6)⟩,
  ⟨none, none, .st 1 (.t 39) (.c (.b false))⟩])
  (.seq (.reg [⟨some 40, none, .ld true 9 (.t 6)⟩,
  ⟨none, none, .st 9 (.t 4) (.t 40)⟩,
  ⟨some 5, none, .mv (.c (.b true))⟩])
  .ret)))))))⟩
def ir22_59 : XF := ⟨33, 3, [(6, some (true, 9)), (7, none)], (.seq (.reg [⟨some 5, none, .box 98 35 (.t 2)⟩,
  ⟨some 6, none, .box 56 9 (.c (.ag [(.i .i64 0), (.i .i64 0), .sln, .sln, (.s []), (.b false), (.b false), .sln, .sln]))⟩,
  ⟨some 7, none, .mv (.c (.i .i64 0))⟩])
  (.seq (.seq (.reg [⟨some 9, none, .mv (.t 0)⟩,
  ⟨some 10, none, .bop .lss (.t 9) (.c (.i .i64 1))⟩,
  ⟨some 11, none, .mv (.t 10)⟩,
  ⟨some 12, some (11, false), .mv (.t 1)⟩,
  ⟨some 13, some (11, false), .bop .lss (.t 12) (.c (.i .i64 0))⟩,
  ⟨some 14, none, .pick (.t 11) (.c (.b true)) (.t 13)⟩])
  (.cond (.t 14) (.seq (.reg [⟨some 15, none, .bld [(.i .i64 0), (.i .i64 0), .sln, .sln, (.s []), (.b false), (.b false), .sln, .sln] []⟩,
  ⟨none, none, .st 9 (.t 6) (.t 15)⟩,
  ⟨some 7, none, .mv (.c (.i .i64 2))⟩])
  .ret)
  .skip))
  (.seq (.reg [⟨some 16, none, .mv (.t 0)⟩,
  ⟨some 17, none, .mv (.t 1)⟩,
  ⟨some 18, none, .ld true 35 (.t 5)⟩,
  ⟨some 19, none, .bls 98 35 1 [(.i .i8 0), (.i .i64 0), (.i .i64 0), .sln, .sln, .sln, .sln, (.i .i64 0), (.i .i8 0), (.i .i64 0), (.i .i64 0), (.i .i64 0), (.i .i64 0), (.i .i8 0), (.i .i64 0), (.s []), (.s []), .sln, (.i .i8 0), (.i .i64 0), (.s []), (.s []), .sln, (.i .i8 0), (.i .i64 0), (.s []), (.s []), .sln, .sln, (.i .i8 0), (.i .i64 0), (.i .i64 0), .sln, .sln, .sln] [(0, 35, (.t 18))]⟩,
  ⟨some 20, none, .call 61 [(.t 19)]⟩,
  ⟨some 21, none, .bld [(.i .i64 0), (.i .i64 0), .sln, .sln, (.s []), (.b false), (.b false), .sln, .sln] [(0, 1, (.t 16)), (1, 1, (.t 17)), (2, 1, (.t 20))]⟩,
  ⟨some 8, none, .box 56 9 (.c (.ag [(.i .i64 0), (.i .i64 0), .sln, .sln, (.s []), (.b false), (.b false), .sln, .sln]))⟩,
  ⟨none, none, .st 9 (.t 8) (.t 21)⟩])
  (.seq (.seq (.reg [⟨some 22, none, .mv (.t 1)⟩,
  ⟨some 23, none, .bop .gtr (.t 22) (.c (.i .i64 0))⟩,
  ⟨some 24, none, .mv (.t 23)⟩,
  ⟨some 25, some (24, true), .mv (.t 1)⟩,
  ⟨some 26, some (24, true), .mv (.t 0)⟩,
  ⟨some 27, some (24, true), .bop .neq (.t 25) (.t 26)⟩,
  ⟨some 28, none, .pick (.t 24) (.t 27) (.c (.b false))⟩])
  (.cond (.t 28) (.reg [⟨some 29, none, .mv (.t 1)⟩,
  ⟨some 30, none, .bls 3 1 1 [(.i .i64 0)] [(0, 1, (.t 29))]⟩,
  ⟨some 31, none, .fa 7 (.t 8)⟩,
  ⟨none, none, .st 1 (.t 31) (.t 30)⟩])
  .skip))
  (.seq (.reg [⟨some 32, none, .ld true 9 (.t 8)⟩,
  ⟨none, none, .st 9 (.t 6) (.t 32)⟩,
  ⟨some 7, none, .mv (.c (.i .i64 0))⟩])
  .ret)))))⟩
def ir22_60 : XF := ⟨59, 1, [(2, none)], (.seq (.reg [⟨some 1, none, .box 56 9 (.t 0)⟩,
  ⟨some 2, none, .mv (.c (.i .i64 0))⟩])
  (.seq (.par [⟨some 6, none, .fa 7 (.t 1)⟩,
  ⟨some 7, none, .ld false 1 (.t 6)⟩,
  ⟨some 8, none, .call 80 [(.t 7)]⟩,
  ⟨some 9, none, .fa 0 (.t 1)⟩,
  ⟨some 10, none, .ld false 1 (.t 9)⟩,
  ⟨some 11, none, .call 81 [(.t 8), (.t 10)]⟩,
  ⟨some 5, none, .mv (.t 11)⟩,
  ⟨some 12, none, .ex (.t 5) 0⟩,
  ⟨some 13, none, .ex (.t 5) 1⟩,
  ⟨some 3, none, .mv (.t 12)⟩,
  ⟨some 4, none, .mv (.t 13)⟩] [0, 1, 3, 0, 8, 31, 63, 127, 127, 255, 1023])
  (.seq (.blk 0 (.seq (.seq (.reg [⟨some 15, none, .fa 0 (.t 1)⟩,
  ⟨some 16, none, .ld false 1 (.t 15)⟩,
  ⟨some 17, none, .bop .lss (.t 16) (.c (.i .i64 1))⟩,
  ⟨some 14, none, .mv (.t 17)⟩])
  (.cond (.t 14) .skip
  (.seq (.reg [⟨some 18, none, .fa 1 (.t 1)⟩,
  ⟨some 19, none, .ld false 1 (.t 18)⟩,
  ⟨some 20, none, .bop .lss (.t 19) (.c (.i .i64 0))⟩,
  ⟨some 14, none, .mv (.t 20)⟩])
  (.cond (.t 14) .skip
  (.seq (.reg [⟨some 21, none, .fa 7 (.t 1)⟩,
  ⟨some 22, none, .ld false 1 (.t 21)⟩,
  ⟨some 23, none, .len 1 (.t 22)⟩,
  ⟨some 24, none, .bop .gtr (.t 23) (.c (.i .i64 64))⟩,
  ⟨some 14, none, .mv (.t 24)⟩])
  (.cond (.t 14) .skip
  (.seq (.reg [⟨some 25, none, .fa 8 (.t 1)⟩,
  ⟨some 26, none, .ld false 1 (.t 25)⟩,
  ⟨some 27, none, .len 1 (.t 26)⟩,
  ⟨some 28, none, .bop .gtr (.t 27) (.c (.i .i64 32))⟩,
  ⟨some 14, none, .mv (.t 28)⟩])
  (.cond (.t 14) .skip
  (.seq (.reg [⟨some 29, none, .fa 2 (.t 1)⟩,
  ⟨some 30, none, .ld false 1 (.t 29)⟩,
  ⟨some 31, none, .len 1 (.t 30)⟩,
  ⟨some 32, none, .bop .gtr (.t 31) (.c (.i .i64 64))⟩,
  ⟨some 14, none, .mv (.t 32)⟩])
  (.cond (.t 14) .skip
  (.seq (.reg [⟨some 33, none, .fa 4 (.t 1)⟩,
  ⟨some 34, none, .ld false 1 (.t 33)⟩,
  ⟨some 35, none, .bop .neq (.t 34) (.c (.s []))⟩,
  ⟨some 36, none, .mv (.t 35)⟩,
  ⟨some 37, some (36, true), .fa 4 (.t 1)⟩,
  ⟨some 38, some (36, true), .ld false 1 (.t 37)⟩,
  ⟨some 39, some (36, true), .call 72 [(.t 38)]⟩,
  ⟨some 40, some (36, true), .un .not (.t 39)⟩,
  ⟨some 41, none, .pick (.t 36) (.t 40) (.c (.b false))⟩,
  ⟨some 14, none, .mv (.t 41)⟩])
  (.cond (.t 14) .skip
  (.seq (.reg [⟨some 42, none, .fa 7 (.t 1)⟩,
  ⟨some 43, none, .ld false 1 (.t 42)⟩,
  ⟨some 44, none, .call 80 [(.t 43)]⟩,
  ⟨some 45, none, .call 82 [(.t 44)]⟩,
  ⟨some 46, none, .un .not (.t 45)⟩,
  ⟨some 14, none, .mv (.t 46)⟩])
  (.cond (.t 14) .skip
  (.seq (.reg [⟨some 47, none, .mv (.t 4)⟩,
  ⟨some 14, none, .mv (.t 47)⟩])
  (.cond (.t 14) .skip
  (.seq (.reg [⟨some 48, none, .fa 8 (.t 1)⟩,
  ⟨some 49, none, .ld false 1 (.t 48)⟩,
  ⟨some 50, none, .call 83 [(.t 49)]⟩,
  ⟨some 51, none, .call 84 [(.t 50)]⟩,
  ⟨some 52, none, .un .not (.t 51)⟩,
  ⟨some 14, none, .mv (.t 52)⟩])
  (.cond (.t 14) .skip
  (.seq (.reg [⟨some 53, none, .fa 8 (.t 1)⟩,
  ⟨some 54, none, .ld false 1 (.t 53)⟩,
  ⟨some 55, none, .call 85 [(.t 54), (.c (.f (.func 86) [] []))]⟩,
  ⟨some 14, none, .mv (.t 55)⟩])
  (.cond (.t 14) .skip
  (.reg [⟨some 56, none, .fa 3 (.t 1)⟩,
  ⟨some 57, none, .ld false 1 (.t 56)⟩,
  ⟨some 58, none, .call 87 [(.t 57), (.c (.f (.func 88) [] []))]⟩,
  ⟨some 14, none, .mv (.t 58)⟩])))))))))))))))))))))
  (.cond (.t 14) (.seq (.reg [⟨some 2, none, .mv (.c (.i .i64 2))⟩])
  .ret)
  .skip)))
  (.seq (.reg [⟨some 2, none, .mv (.c (.i .i64 0))⟩])
  .ret))))⟩
def ir22_61 : XF := ⟨24, 1, [(2, none)], (.seq (.reg [⟨some 2, none, .mv (.c .sln)⟩])
  (.seq (.reg [⟨some 3, none, .mv (.c .sln)⟩])
  (.seq (.blk 0 (.loop (.seq (.seq (.reg [⟨some 4, none, .mv (.t 0)⟩,
  ⟨some 5, none, .len 1 (.t 4)⟩,
  ⟨some 6, none, .mv (.t 3)⟩,
  ⟨some 7, none, .len 1 (.t 6)⟩,
  ⟨some 8, none, .bop .gtr (.t 5) (.t 7)⟩])
  (.cond (.t 8) .skip
  (.exit 0)))
  (.blk 1 (.seq (.reg [⟨some 10, none, .mv (.t 3)⟩,
  ⟨some 11, none, .mv (.t 0)⟩,
  ⟨some 12, none, .mv (.t 3)⟩,
  ⟨some 13, none, .len 1 (.t 12)⟩,
  ⟨some 14, none, .ia 35 (.t 11) (.t 13)⟩,
  ⟨some 15, none, .ld true 35 (.t 14)⟩,
  ⟨some 16, none, .call 89 [(.t 10), (.t 15)]⟩,
  ⟨some 9, none, .mv (.t 16)⟩,
  ⟨some 17, none, .ex (.t 9) 0⟩,
  ⟨some 18, none, .ex (.t 9) 1⟩,
  ⟨some 3, none, .mv (.t 17)⟩])
  (.seq (.reg [⟨some 19, none, .mv (.t 3)⟩,
  ⟨some 20, none, .eq 1 false true (.t 19) (.c .sln)⟩])
  (.cond (.t 20) (.seq (.reg [⟨some 21, none, .mv (.t 0)⟩,
  ⟨some 22, none, .call 90 [(.t 21)]⟩,
  ⟨some 2, none, .mv (.t 22)⟩])
  .ret)
  .skip)))))))
  (.seq (.reg [⟨some 23, none, .mv (.t 3)⟩,
  ⟨some 2, none, .mv (.t 23)⟩])
  .ret))))⟩
def ir22_62 : XF := ⟨8, 1, [(2, none)], (.seq (.reg [⟨some 2, none, .mv (.c .sln)⟩])
  (.seq (.seq (.reg [⟨some 3, none, .mv (.t 0)⟩,
  ⟨some 4, none, .eq 1 false true (.t 3) (.c .sln)⟩])
  (.cond (.t 4) (.seq (.reg [⟨some 2, none, .mv (.c .sln)⟩])
  .ret)
  .skip))
  (.seq (.reg [⟨some 5, none, .bls 29 6 0 [] []⟩,
  ⟨some 6, none, .mv (.t 0)⟩,
  ⟨some 7, none, .app 29 6 (.t 5) (.t 6)⟩,
  ⟨some 2, none, .mv (.t 7)⟩])
  .ret)))⟩
def ir22_63 : XF := ⟨8, 1, [(2, none)], (.seq (.reg [⟨some 2, none, .mv (.c .sln)⟩])
  (.seq (.seq (.reg [⟨some 3, none, .mv (.t 0)⟩,
  ⟨some 4, none, .eq 1 false true (.t 3) (.c .sln)⟩])
  (.cond (.t 4) (.seq (.reg [⟨some 2, none, .mv (.c .sln)⟩])
  .ret)
  .skip))
  (.seq (.reg [⟨some 5, none, .bls 3 1 0 [] []⟩,
  ⟨some 6, none, .mv (.t 0)⟩,
  ⟨some 7, none, .app 3 1 (.t 5) (.t 6)⟩,
  ⟨some 2, none, .mv (.t 7)⟩])
  .ret)))⟩
def ir22_64 : XF := ⟨8, 1, [(2, none)], (.seq (.reg [⟨some 2, none, .mv (.c .sln)⟩])
  (.seq (.seq (.reg [⟨some 3, none, .mv (.t 0)⟩,
  ⟨some 4, none, .eq 1 false true (.t 3) (.c .sln)⟩])
  (.cond (.t 4) (.seq (.reg [⟨some 2, none, .mv (.c .sln)⟩])
  .ret)
  .skip))
  (.seq (.reg [⟨some 5, none, .bls 138 2 0 [] []⟩,
  ⟨some 6, none, .mv (.t 0)⟩,
  ⟨some 7, none, .app 138 2 (.t 5) (.t 6)⟩,
  ⟨some 2, none, .mv (.t 7)⟩])
  .ret)))⟩
def ir22_65 : XF := ⟨43, 2, [(4, none), (5, none)], (.seq (.reg [⟨some 2, none, .box 25 5 (.t 0)⟩,
  ⟨some 4, none, .mv (.c (.i .i64 0))⟩,
  ⟨some 5, none, .mv (.c (.b false))⟩])
  (.seq (.seq (.reg [⟨some 10, none, .ld true 5 (.t 2)⟩,
  ⟨some 11, none, .call 91 [(.t 10)]⟩,
  ⟨some 12, none, .un .not (.t 11)⟩])
  (.cond (.t 12) (.seq (.reg [⟨some 4, none, .mv (.c (.i .i64 1))⟩,
  ⟨some 5, none, .mv (.c (.b false))⟩])
  .ret)
  .skip))
  (.seq (.reg [⟨some 6, none, .mv (.c (.i .i64 1))⟩])
  (.seq (.seq (.reg [⟨some 7, none, .mv (.c (.i .i64 0))⟩])
  (.blk 0 (.loop (.seq (.seq (.reg [⟨some 13, none, .mv (.t 7)⟩,
  ⟨some 14, none, .fa 4 (.t 2)⟩,
  ⟨some 15, none, .ld false 1 (.t 14)⟩,
  ⟨some 16, none, .len 1 (.t 15)⟩,
  ⟨some 17, none, .bop .lss (.t 13) (.t 16)⟩])
  (.cond (.t 17) .skip
  (.exit 0)))
  (.seq (.blk 1 (.seq (.seq (.reg [⟨some 20, none, .mv (.t 6)⟩,
  ⟨some 21, none, .mv (.t 1)⟩,
  ⟨some 22, none, .bop .geq (.t 20) (.t 21)⟩])
  (.cond (.t 22) (.seq (.reg [⟨some 23, none, .mv (.t 6)⟩,
  ⟨some 4, none, .mv (.t 23)⟩,
  ⟨some 5, none, .mv (.c (.b true))⟩])
  .ret)
  .skip))
  (.seq (.reg [⟨some 25, none, .fa 4 (.t 2)⟩,
  ⟨some 26, none, .ld false 1 (.t 25)⟩,
  ⟨some 27, none, .mv (.t 7)⟩,
  ⟨some 28, none, .ia 5 (.t 26) (.t 27)⟩,
  ⟨some 29, none, .ld true 5 (.t 28)⟩,
  ⟨some 30, none, .mv (.t 1)⟩,
  ⟨some 31, none, .mv (.t 6)⟩,
  ⟨some 32, none, .bop .sub (.t 30) (.t 31)⟩,
  ⟨some 33, none, .call 65 [(.t 29), (.t 32)]⟩,
  ⟨some 24, none, .mv (.t 33)⟩,
  ⟨some 34, none, .ex (.t 24) 0⟩,
  ⟨some 35, none, .ex (.t 24) 1⟩,
  ⟨some 8, none, .mv (.t 34)⟩,
  ⟨some 9, none, .mv (.t 35)⟩])
  (.seq (.seq (.reg [⟨some 36, none, .mv (.t 9)⟩,
  ⟨some 37, none, .un .not (.t 36)⟩])
  (.cond (.t 37) (.seq (.reg [⟨some 38, none, .mv (.t 6)⟩,
  ⟨some 4, none, .mv (.t 38)⟩,
  ⟨some 5, none, .mv (.c (.b false))⟩])
  .ret)
  .skip))
  (.reg [⟨some 39, none, .mv (.t 6)⟩,
  ⟨some 40, none, .mv (.t 8)⟩,
  ⟨some 41, none, .bop .add (.t 39) (.t 40)⟩,
  ⟨some 6, none, .mv (.t 41)⟩])))))
  (.reg [⟨some 18, none, .mv (.t 7)⟩,
  ⟨some 19, none, .bop .add (.t 18) (.c (.i .i64 1))⟩,
  ⟨some 7, none, .mv (.t 19)⟩]))))))
  (.seq (.reg [⟨some 42, none, .mv (.t 6)⟩,
  ⟨some 4, none, .mv (.t 42)⟩,
  ⟨some 5, none, .mv (.c (.b true))⟩])
  .ret)))))⟩
def ir22_66 : XF := ⟨5, 1, [(2, none)], (.seq (.reg [⟨some 2, none, .mv (.c (.s []))⟩])
  (.seq (.reg [⟨some 3, none, .mv (.t 0)⟩,
  ⟨some 4, none, .call 92 [(.t 3)]⟩,
  ⟨some 2, none, .mv (.t 4)⟩])
  .ret))⟩
def ir22_67 : XF := ⟨23, 1, [(2, none)], (.seq (.reg [⟨some 2, none, .mv (.c (.s []))⟩])
  (.seq (.reg [⟨some 3, none, .mv (.c (.s []))⟩])
  (.seq (.seq (.reg [⟨some 4, none, .mv (.c (.i .i64 0))⟩])
  (.blk 0 (.loop (.seq (.seq (.reg [⟨some 5, none, .mv (.t 4)⟩,
  ⟨some 6, none, .mv (.t 0)⟩,
  ⟨some 7, none, .len 1 (.t 6)⟩,
  ⟨some 8, none, .bop .lss (.t 5) (.t 7)⟩])
  (.cond (.t 8) .skip
  (.exit 0)))
  (.seq (.blk 1 (.seq (.seq (.reg [⟨some 11, none, .mv (.t 4)⟩,
  ⟨some 12, none, .bop .gtr (.t 11) (.c (.i .i64 0))⟩])
  (.cond (.t 12) (.reg [⟨some 13, none, .mv (.t 3)⟩,
  ⟨some 14, none, .bop .add (.t 13) (.c (.s [44]))⟩,
  ⟨some 3, none, .mv (.t 14)⟩])
  .skip))
  (.reg [⟨some 15, none, .mv (.t 3)⟩,
  ⟨some 16, none, .mv (.t 0)⟩,
  ⟨some 17, none, .mv (.t 4)⟩,
  ⟨some 18, none, .ia 5 (.t 16) (.t 17)⟩,
  ⟨some 19, none, .ld true 5 (.t 18)⟩,
  ⟨some 20, none, .call 47 [(.t 19)]⟩,
  ⟨some 21, none, .bop .add (.t 15) (.t 20)⟩,
  ⟨some 3, none, .mv (.t 21)⟩])))
  (.reg [⟨some 9, none, .mv (.t 4)⟩,
  ⟨some 10, none, .bop .add (.t 9) (.c (.i .i64 1))⟩,
  ⟨some 4, none, .mv (.t 10)⟩]))))))
  (.seq (.reg [⟨some 22, none, .mv (.t 3)⟩,
  ⟨some 2, none, .mv (.t 22)⟩])
  .ret))))⟩
def ir22_68 : XF := ⟨34, 2, [(4, some (true, 5)), (5, none)], (.seq (.reg [⟨some 4, none, .box 25 5 (.c (.ag [(.i .i8 0), (.i .i64 0), (.s []), (.s []), .sln]))⟩,
  ⟨some 5, none, .mv (.c (.i .i64 0))⟩])
  (.seq (.reg [⟨some 6, none, .mv (.c (.i .i64 1))⟩])
  (.seq (.seq (.reg [⟨some 10, none, .mv (.t 1)⟩,
  ⟨some 11, none, .len 1 (.t 10)⟩,
  ⟨some 12, none, .mv (.c (.i .i64 0))⟩])
  (.blk 0 (.loop (.seq (.reg [⟨some 13, none, .bop .lss (.t 12) (.t 11)⟩])
  (.seq (.cond (.t 13) .skip
  (.exit 0))
  (.seq (.blk 1 (.seq (.reg [⟨some 14, none, .ia 5 (.t 10) (.t 12)⟩,
  ⟨some 15, none, .ld true 5 (.t 14)⟩,
  ⟨some 8, none, .box 25 5 (.c (.ag [(.i .i8 0), (.i .i64 0), (.s []), (.s []), .sln]))⟩,
  ⟨none, none, .st 5 (.t 8) (.t 15)⟩])
  (.seq (.seq (.reg [⟨some 16, none, .ld true 5 (.t 8)⟩,
  ⟨some 17, none, .call 32 [(.t 16)]⟩,
  ⟨some 9, none, .mv (.t 17)⟩])
  (.seq (.reg [⟨some 18, none, .mv (.t 9)⟩,
  ⟨some 19, none, .bop .eql (.t 18) (.c (.i .i64 30))⟩])
  (.cond (.t 19) (.seq (.reg [⟨some 20, none, .bld [(.i .i8 0), (.i .i64 0), (.s []), (.s []), .sln] []⟩,
  ⟨some 21, none, .mv (.t 9)⟩,
  ⟨none, none, .st 5 (.t 4) (.t 20)⟩,
  ⟨some 5, none, .mv (.t 21)⟩])
  .ret)
  .skip)))
  (.reg [⟨some 22, none, .mv (.t 6)⟩,
  ⟨some 23, none, .ld true 5 (.t 8)⟩,
  ⟨some 24, none, .call 93 [(.t 23)]⟩,
  ⟨some 25, none, .bop .add (.t 22) (.t 24)⟩,
  ⟨some 6, none, .mv (.t 25)⟩]))))
  (.reg [⟨some 26, none, .bop .add (.t 12) (.c (.i .i64 1))⟩,
  ⟨some 12, none, .mv (.t 26)⟩])))))))
  (.seq (.seq (.reg [⟨some 27, none, .mv (.t 6)⟩,
  ⟨some 28, none, .bop .gtr (.t 27) (.c (.i .i64 256))⟩])
  (.cond (.t 28) (.seq (.reg [⟨some 29, none, .bld [(.i .i8 0), (.i .i64 0), (.s []), (.s []), .sln] []⟩,
  ⟨none, none, .st 5 (.t 4) (.t 29)⟩,
  ⟨some 5, none, .mv (.c (.i .i64 11))⟩])
  .ret)
  .skip))
  (.seq (.reg [⟨some 30, none, .mv (.t 0)⟩,
  ⟨some 31, none, .mv (.t 1)⟩,
  ⟨some 32, none, .app 25 5 (.c .sln) (.t 31)⟩,
  ⟨some 33, none, .bld [(.i .i8 0), (.i .i64 0), (.s []), (.s []), .sln] [(0, 1, (.t 30)), (4, 1, (.t 32))]⟩,
  ⟨none, none, .st 5 (.t 4) (.t 33)⟩,
  ⟨some 5, none, .mv (.c (.i .i64 0))⟩])
  .ret)))))⟩
def ir22_70 : XF := ⟨128, 1, [(2, none)], (.seq (.reg [⟨some 1, none, .box 113 1 (.t 0)⟩,
  ⟨some 2, none, .mv (.c .ifn)⟩])
  (.seq (.reg [⟨some 4, none, .mkf (.func 95) [] [(.t 1)]⟩,
  ⟨some 3, none, .mv (.t 4)⟩])
  (.seq (.blk 0 (.seq (.reg [⟨some 6, none, .ld false 1 (.t 1)⟩,
  ⟨some 7, none, .nck (.t 6)⟩,
  ⟨some 8, none, .fa 0 (.t 7)⟩,
  ⟨some 9, none, .ld false 1 (.t 8)⟩,
  ⟨some 10, none, .bop .eql (.t 9) (.c (.i .i8 0))⟩,
  ⟨some 11, none, .mv (.t 10)⟩,
  ⟨some 12, some (11, true), .mv (.t 3)⟩,
  ⟨some 13, some (11, true), .callv (.t 12) [(.c (.b true)), (.c (.b false)), (.c (.b false)), (.c (.b false))]⟩,
  ⟨some 14, none, .pick (.t 11) (.t 13) (.c (.b false))⟩,
  ⟨some 5, none, .mv (.t 14)⟩])
  (.cond (.t 5) (.seq (.reg [⟨some 15, none, .ld false 1 (.t 1)⟩,
  ⟨some 16, none, .nck (.t 15)⟩,
  ⟨some 17, none, .fa 1 (.t 16)⟩,
  ⟨some 18, none, .ld false 1 (.t 17)⟩,
  ⟨some 19, none, .bld [(.i .i64 0)] [(0, 1, (.t 18))]⟩,
  ⟨some 20, none, .mki 146 (.t 19)⟩,
  ⟨some 2, none, .mv (.t 20)⟩])
  .ret)
  (.seq (.reg [⟨some 22, none, .ld false 1 (.t 1)⟩,
  ⟨some 23, none, .nck (.t 22)⟩,
  ⟨some 24, none, .fa 0 (.t 23)⟩,
  ⟨some 25, none, .ld false 1 (.t 24)⟩,
  ⟨some 26, none, .bop .eql (.t 25) (.c (.i .i8 2))⟩,
  ⟨some 27, none, .mv (.t 26)⟩,
  ⟨some 28, some (27, false), .ld false 1 (.t 1)⟩,
  ⟨some 29, some (27, false), .nck (.t 28)⟩,
  ⟨some 30, some (27, false), .fa 0 (.t 29)⟩,
  ⟨some 31, some (27, false), .ld false 1 (.t 30)⟩,
  ⟨some 32, some (27, false), .bop .eql (.t 31) (.c (.i .i8 4))⟩,
  ⟨some 33, none, .pick (.t 27) (.c (.b true)) (.t 32)⟩,
  ⟨some 34, none, .mv (.t 33)⟩,
  ⟨some 35, some (34, true), .mv (.t 3)⟩,
  ⟨some 36, some (34, true), .callv (.t 35) [(.c (.b true)), (.c (.b false)), (.c (.b false)), (.c (.b false))]⟩,
  ⟨some 37, none, .pick (.t 34) (.t 36) (.c (.b false))⟩,
  ⟨some 21, none, .mv (.t 37)⟩])
  (.cond (.t 21) (.seq (.reg [⟨some 38, none, .ld false 1 (.t 1)⟩,
  ⟨some 39, none, .nck (.t 38)⟩,
  ⟨some 40, none, .fa 1 (.t 39)⟩,
  ⟨some 41, none, .ld false 1 (.t 40)⟩,
  ⟨some 42, none, .bld [(.i .i64 0)] [(0, 1, (.t 41))]⟩,
  ⟨some 43, none, .mki 147 (.t 42)⟩,
  ⟨some 2, none, .mv (.t 43)⟩])
  .ret)
  (.seq (.reg [⟨some 45, none, .ld false 1 (.t 1)⟩,
  ⟨some 46, none, .nck (.t 45)⟩,
  ⟨some 47, none, .fa 0 (.t 46)⟩,
  ⟨some 48, none, .ld false 1 (.t 47)⟩,
  ⟨some 49, none, .bop .eql (.t 48) (.c (.i .i8 1))⟩,
  ⟨some 50, none, .mv (.t 49)⟩,
  ⟨some 51, some (50, true), .mv (.t 3)⟩,
  ⟨some 52, some (50, true), .callv (.t 51) [(.c (.b false)), (.c (.b true)), (.c (.b false)), (.c (.b false))]⟩,
  ⟨some 53, none, .pick (.t 50) (.t 52) (.c (.b false))⟩,
  ⟨some 44, none, .mv (.t 53)⟩])
  (.cond (.t 44) (.seq (.reg [⟨some 54, none, .ld false 1 (.t 1)⟩,
  ⟨some 55, none, .nck (.t 54)⟩,
  ⟨some 56, none, .fa 2 (.t 55)⟩,
  ⟨some 57, none, .ld false 1 (.t 56)⟩,
  ⟨some 58, none, .bld [(.s [])] [(0, 1, (.t 57))]⟩,
  ⟨some 59, none, .mki 149 (.t 58)⟩,
  ⟨some 2, none, .mv (.t 59)⟩])
  .ret)
  (.seq (.reg [⟨some 61, none, .ld false 1 (.t 1)⟩,
  ⟨some 62, none, .nck (.t 61)⟩,
  ⟨some 63, none, .fa 0 (.t 62)⟩,
  ⟨some 64, none, .ld false 1 (.t 63)⟩,
  ⟨some 65, none, .bop .eql (.t 64) (.c (.i .i8 3))⟩,
  ⟨some 66, none, .mv (.t 65)⟩,
  ⟨some 67, some (66, true), .mv (.t 3)⟩,
  ⟨some 68, some (66, true), .callv (.t 67) [(.c (.b true)), (.c (.b true)), (.c (.b true)), (.c (.b false))]⟩,
  ⟨some 69, none, .pick (.t 66) (.t 68) (.c (.b false))⟩,
  ⟨some 60, none, .mv (.t 69)⟩])
  (.cond (.t 60) (.seq (.par [⟨some 70, none, .ld false 1 (.t 1)⟩,
  ⟨some 71, none, .nck (.t 70)⟩,
  ⟨some 72, none, .fa 2 (.t 71)⟩,
  ⟨some 73, none, .ld false 1 (.t 72)⟩,
  ⟨some 74, none, .ld false 1 (.t 1)⟩,
  ⟨some 75, none, .nck (.t 74)⟩,
  ⟨some 76, none, .fa 3 (.t 75)⟩,
  ⟨some 77, none, .ld false 1 (.t 76)⟩,
  ⟨some 78, none, .ld false 1 (.t 1)⟩,
  ⟨some 79, none, .nck (.t 78)⟩,
  ⟨some 80, none, .fa 1 (.t 79)⟩,
  ⟨some 81, none, .ld false 1 (.t 80)⟩,
  ⟨some 82, none, .bld [(.s []), (.s []), (.i .i64 0)] [(0, 1, (.t 73)), (1, 1, (.t 77)), (2, 1, (.t 81))]⟩,
  ⟨some 83, none, .mki 152 (.t 82)⟩,
  ⟨some 2, none, .mv (.t 83)⟩] [0, 1, 3, 7, 0, 16, 48, 112, 0, 256, 768, 1792, 4095, 8191, 16383])
  .ret)
  (.seq (.reg [⟨some 85, none, .ld false 1 (.t 1)⟩,
  ⟨some 86, none, .nck (.t 85)⟩,
  ⟨some 87, none, .fa 0 (.t 86)⟩,
  ⟨some 88, none, .ld false 1 (.t 87)⟩,
  ⟨some 89, none, .bop .eql (.t 88) (.c (.i .i8 5))⟩,
  ⟨some 90, none, .mv (.t 89)⟩,
  ⟨some 91, some (90, true), .mv (.t 3)⟩,
  ⟨some 92, some (90, true), .callv (.t 91) [(.c (.b false)), (.c (.b false)), (.c (.b false)), (.c (.b true))]⟩,
  ⟨some 93, none, .pick (.t 90) (.t 92) (.c (.b false))⟩,
  ⟨some 84, none, .mv (.t 93)⟩])
  (.cond (.t 84) (.seq (.reg [⟨some 94, none, .ld false 1 (.t 1)⟩,
  ⟨some 95, none, .nck (.t 94)⟩,
  ⟨some 96, none, .fa 4 (.t 95)⟩,
  ⟨some 97, none, .ld false 1 (.t 96)⟩,
  ⟨some 98, none, .bld [.sln, (.i .i64 0)] [(0, 1, (.t 97)), (1, 1, (.c (.i .i64 (-1))))]⟩,
  ⟨some 99, none, .mki 154 (.t 98)⟩,
  ⟨some 2, none, .mv (.t 99)⟩])
  .ret)
  (.seq (.reg [⟨some 101, none, .ld false 1 (.t 1)⟩,
  ⟨some 102, none, .nck (.t 101)⟩,
  ⟨some 103, none, .fa 0 (.t 102)⟩,
  ⟨some 104, none, .ld false 1 (.t 103)⟩,
  ⟨some 105, none, .bop .eql (.t 104) (.c (.i .i8 6))⟩,
  ⟨some 106, none, .mv (.t 105)⟩,
  ⟨some 107, some (106, true), .mv (.t 3)⟩,
  ⟨some 108, some (106, true), .callv (.t 107) [(.c (.b false)), (.c (.b false)), (.c (.b false)), (.c (.b false))]⟩,
  ⟨some 109, none, .pick (.t 106) (.t 108) (.c (.b false))⟩,
  ⟨some 100, none, .mv (.t 109)⟩])
  (.cond (.t 100) (.seq (.reg [⟨some 110, none, .bld [.sln, (.i .i64 0)] [(0, 1, (.c .sln)), (1, 1, (.c (.i .i64 0)))]⟩,
  ⟨some 111, none, .mki 154 (.t 110)⟩,
  ⟨some 2, none, .mv (.t 111)⟩])
  .ret)
  (.seq (.reg [⟨some 113, none, .ld false 1 (.t 1)⟩,
  ⟨some 114, none, .nck (.t 113)⟩,
  ⟨some 115, none, .fa 0 (.t 114)⟩,
  ⟨some 116, none, .ld false 1 (.t 115)⟩,
  ⟨some 117, none, .bop .eql (.t 116) (.c (.i .i8 7))⟩,
  ⟨some 118, none, .mv (.t 117)⟩,
  ⟨some 119, some (118, true), .mv (.t 3)⟩,
  ⟨some 120, some (118, true), .callv (.t 119) [(.c (.b false)), (.c (.b false)), (.c (.b false)), (.c (.b true))]⟩,
  ⟨some 121, none, .pick (.t 118) (.t 120) (.c (.b false))⟩,
  ⟨some 112, none, .mv (.t 121)⟩])
  (.cond (.t 112) (.seq (.reg [⟨some 122, none, .ld false 1 (.t 1)⟩,
  ⟨some 123, none, .nck (.t 122)⟩,
  ⟨some 124, none, .fa 4 (.t 123)⟩,
  ⟨some 125, none, .ld false 1 (.t 124)⟩,
  ⟨some 126, none, .bld [.sln, (.i .i64 0)] [(0, 1, (.t 125)), (1, 1, (.c (.i .i64 2)))]⟩,
  ⟨some 127, none, .mki 154 (.t 126)⟩,
  ⟨some 2, none, .mv (.t 127)⟩])
  .ret)
  .skip)))))))))))))))
  (.seq (.reg [⟨some 2, none, .mv (.c .ifn)⟩])
  .ret))))⟩
def ir22_72 : XF := ⟨11, 1, [(2, none)], (.seq (.reg [⟨some 2, none, .mv (.c (.b false))⟩])
  (.seq (.par [⟨some 3, none, .mv (.t 0)⟩,
  ⟨some 4, none, .call 96 [(.t 3)]⟩,
  ⟨some 5, none, .mv (.t 4)⟩,
  ⟨some 6, some (5, true), .mv (.t 0)⟩,
  ⟨some 7, some (5, true), .ixS (.t 6) (.c (.i .i64 0))⟩,
  ⟨some 8, some (5, true), .slcA 4 2 (.c (.p 0 0)) none (some (.c (.i .i64 1))) none⟩,
  ⟨some 9, some (5, true), .call 97 [(.t 7), (.t 8)]⟩,
  ⟨some 10, none, .pick (.t 5) (.t 9) (.c (.b false))⟩,
  ⟨some 2, none, .mv (.t 10)⟩] [0, 1, 3, 7, 15, 7, 63, 127, 255])
  .ret))⟩
def ir22_73 : XF := ⟨23, 2, [], (.seq (.reg [⟨some 3, none, .mv (.c (.i .i64 0))⟩])
  (.blk 0 (.loop (.seq (.seq (.reg [⟨some 4, none, .mv (.t 3)⟩,
  ⟨some 5, none, .ld false 1 (.t 1)⟩,
  ⟨some 6, none, .nck (.t 5)⟩,
  ⟨some 7, none, .fa 0 (.t 6)⟩,
  ⟨some 8, none, .ld false 1 (.t 7)⟩,
  ⟨some 9, none, .len 1 (.t 8)⟩,
  ⟨some 10, none, .bop .lss (.t 4) (.t 9)⟩])
  (.cond (.t 10) .skip
  (.exit 0)))
  (.seq (.blk 1 (.seq (.reg [⟨some 13, none, .mv (.t 0)⟩,
  ⟨some 14, none, .ld false 1 (.t 1)⟩,
  ⟨some 15, none, .nck (.t 14)⟩,
  ⟨some 16, none, .fa 0 (.t 15)⟩,
  ⟨some 17, none, .ld false 1 (.t 16)⟩,
  ⟨some 18, none, .mv (.t 3)⟩,
  ⟨some 19, none, .ia 7 (.t 17) (.t 18)⟩,
  ⟨some 20, none, .ld true 7 (.t 19)⟩,
  ⟨some 21, none, .callv (.t 13) [(.t 20)]⟩,
  ⟨some 22, none, .un .not (.t 21)⟩])
  (.cond (.t 22) .ret
  .skip)))
  (.reg [⟨some 11, none, .mv (.t 3)⟩,
  ⟨some 12, none, .bop .add (.t 11) (.c (.i .i64 1))⟩,
  ⟨some 3, none, .mv (.t 12)⟩]))))))⟩
def ir22_74 : XF := ⟨15, 2, [(4, none)], (.seq (.reg [⟨some 4, none, .mv (.c .sln)⟩])
  (.seq (.seq (.reg [⟨some 5, none, .mv (.t 0)⟩,
  ⟨some 6, none, .eq 0 false true (.t 5) (.c .pn)⟩])
  (.cond (.t 6) (.seq (.reg [⟨some 4, none, .mv (.c .sln)⟩])
  .ret)
  .skip))
  (.seq (.reg [⟨some 7, none, .mv (.t 0)⟩,
  ⟨some 8, none, .nck (.t 7)⟩,
  ⟨some 9, none, .fa 0 (.t 8)⟩,
  ⟨some 10, none, .ld false 1 (.t 9)⟩,
  ⟨some 11, none, .mv (.t 1)⟩,
  ⟨some 12, none, .lk .n false .mn (.t 10) (.t 11)⟩,
  ⟨some 13, none, .call 99 [(.t 12)]⟩,
  ⟨some 14, none, .call 98 [(.t 13)]⟩,
  ⟨some 4, none, .mv (.t 14)⟩])
  .ret)))⟩
def ir22_75 : XF := ⟨8, 2, [(4, none)], (.seq (.reg [⟨some 3, none, .box 3 1 (.t 1)⟩,
  ⟨some 4, none, .mv (.c .sln)⟩])
  (.seq (.reg [⟨some 5, none, .mv (.t 0)⟩,
  ⟨some 6, none, .mkf (.func 100) [] [(.t 3)]⟩,
  ⟨some 7, none, .call 78 [(.t 5), (.t 6)]⟩,
  ⟨some 4, none, .mv (.t 7)⟩])
  .ret))⟩
def ir22_78 : XF := ⟨37, 2, [(4, none)], (.seq (.reg [⟨some 4, none, .mv (.c .sln)⟩])
  (.seq (.seq (.reg [⟨some 9, none, .mv (.t 0)⟩,
  ⟨some 10, none, .eq 0 false true (.t 9) (.c .pn)⟩])
  (.cond (.t 10) (.seq (.reg [⟨some 4, none, .mv (.c .sln)⟩])
  .ret)
  .skip))
  (.seq (.reg [⟨some 5, none, .mv (.c .sln)⟩])
  (.seq (.seq (.reg [⟨some 11, none, .mv (.t 0)⟩,
  ⟨some 12, none, .nck (.t 11)⟩,
  ⟨some 13, none, .fa 2 (.t 12)⟩,
  ⟨some 14, none, .ld false 1 (.t 13)⟩,
  ⟨some 15, none, .call 101 [(.t 14)]⟩,
  ⟨some 16, none, .call 98 [(.t 15)]⟩,
  ⟨some 17, none, .len 1 (.t 16)⟩,
  ⟨some 18, none, .mv (.c (.i .i64 0))⟩])
  (.blk 0 (.loop (.seq (.reg [⟨some 19, none, .bop .lss (.t 18) (.t 17)⟩])
  (.seq (.cond (.t 19) .skip
  (.exit 0))
  (.seq (.blk 1 (.seq (.reg [⟨some 20, none, .ia 1 (.t 16) (.t 18)⟩,
  ⟨some 21, none, .ld false 1 (.t 20)⟩,
  ⟨some 7, none, .mv (.t 21)⟩])
  (.seq (.reg [⟨some 22, none, .mv (.t 0)⟩,
  ⟨some 23, none, .nck (.t 22)⟩,
  ⟨some 24, none, .fa 2 (.t 23)⟩,
  ⟨some 25, none, .ld false 1 (.t 24)⟩,
  ⟨some 26, none, .mv (.t 7)⟩,
  ⟨some 27, none, .lk .n false (.ag [(.i .i64 0), (.i .i64 0), (.i .i64 0)]) (.t 25) (.t 26)⟩,
  ⟨some 8, none, .box 124 3 (.c (.ag [(.i .i64 0), (.i .i64 0), (.i .i64 0)]))⟩,
  ⟨none, none, .st 3 (.t 8) (.t 27)⟩])
  (.seq (.reg [⟨some 28, none, .mv (.t 1)⟩,
  ⟨some 29, none, .ld true 3 (.t 8)⟩,
  ⟨some 30, none, .callv (.t 28) [(.t 29)]⟩])
  (.cond (.t 30) (.reg [⟨some 31, none, .mv (.t 5)⟩,
  ⟨some 32, none, .ld true 3 (.t 8)⟩,
  ⟨some 33, none, .bls 124 3 1 [(.i .i64 0), (.i .i64 0), (.i .i64 0)] [(0, 3, (.t 32))]⟩,
  ⟨some 34, none, .app 124 3 (.t 31) (.t 33)⟩,
  ⟨some 5, none, .mv (.t 34)⟩])
  .skip)))))
  (.reg [⟨some 35, none, .bop .add (.t 18) (.c (.i .i64 1))⟩,
  ⟨some 18, none, .mv (.t 35)⟩])))))))
  (.seq (.reg [⟨some 36, none, .mv (.t 5)⟩,
  ⟨some 4, none, .mv (.t 36)⟩])
  .ret)))))⟩
def ir22_80 : XF := ⟨5, 1, [(2, some (true, 2))], (.seq (.reg [⟨some 2, none, .box 163 2 (.c (.ag [.sln, .fn]))⟩])
  (.seq (.reg [⟨some 3, none, .mv (.t 0)⟩,
  ⟨some 4, none, .bld [.sln, .fn] [(0, 1, (.t 3)), (1, 1, (.c (.f (.func 102) [] [])))]⟩,
  ⟨none, none, .st 2 (.t 2) (.t 4)⟩])
  .ret))⟩
def ir22_81 : XF := ⟨13, 2, [(4, none), (5, none)], (.seq (.reg [⟨some 2, none, .box 163 2 (.t 0)⟩,
  ⟨some 4, none, .mv (.c (.i .i64 0))⟩,
  ⟨some 5, none, .mv (.c (.b false))⟩])
  (.seq (.reg [⟨some 6, none, .fa 0 (.t 2)⟩,
  ⟨some 7, none, .ld false 1 (.t 6)⟩,
  ⟨some 8, none, .mv (.t 1)⟩,
  ⟨some 9, none, .mkf (.func 104) [] [(.t 2)]⟩,
  ⟨some 10, none, .call 103 [(.t 7), (.t 8), (.t 9)]⟩,
  ⟨some 11, none, .ex (.t 10) 0⟩,
  ⟨some 12, none, .ex (.t 10) 1⟩,
  ⟨some 4, none, .mv (.t 11)⟩,
  ⟨some 5, none, .mv (.t 12)⟩])
  .ret))⟩
def ir22_82 : XF := ⟨24, 1, [(2, none)], (.seq (.reg [⟨some 1, none, .box 163 2 (.t 0)⟩,
  ⟨some 2, none, .mv (.c (.b false))⟩])
  (.seq (.reg [⟨some 3, none, .mv (.c (.i .i64 0))⟩])
  (.seq (.seq (.reg [⟨some 6, none, .fa 0 (.t 1)⟩,
  ⟨some 7, none, .ld false 1 (.t 6)⟩,
  ⟨some 8, none, .len 1 (.t 7)⟩,
  ⟨some 9, none, .mv (.c (.i .i64 0))⟩])
  (.blk 0 (.loop (.seq (.reg [⟨some 10, none, .bop .lss (.t 9) (.t 8)⟩])
  (.seq (.cond (.t 10) .skip
  (.exit 0))
  (.seq (.blk 1 (.seq (.reg [⟨some 11, none, .ia 1 (.t 7) (.t 9)⟩,
  ⟨some 12, none, .ld false 1 (.t 11)⟩,
  ⟨some 5, none, .mv (.t 12)⟩])
  (.seq (.seq (.reg [⟨some 13, none, .fa 1 (.t 1)⟩,
  ⟨some 14, none, .ld false 1 (.t 13)⟩,
  ⟨some 15, none, .mv (.t 5)⟩,
  ⟨some 16, none, .callv (.t 14) [(.t 15)]⟩,
  ⟨some 17, none, .mv (.t 3)⟩,
  ⟨some 18, none, .bop .leq (.t 16) (.t 17)⟩])
  (.cond (.t 18) (.seq (.reg [⟨some 2, none, .mv (.c (.b false))⟩])
  .ret)
  .skip))
  (.reg [⟨some 19, none, .fa 1 (.t 1)⟩,
  ⟨some 20, none, .ld false 1 (.t 19)⟩,
  ⟨some 21, none, .mv (.t 5)⟩,
  ⟨some 22, none, .callv (.t 20) [(.t 21)]⟩,
  ⟨some 3, none, .mv (.t 22)⟩]))))
  (.reg [⟨some 23, none, .bop .add (.t 9) (.c (.i .i64 1))⟩,
  ⟨some 9, none, .mv (.t 23)⟩])))))))
  (.seq (.reg [⟨some 2, none, .mv (.c (.b true))⟩])
  .ret))))⟩
def ir22_83 : XF := ⟨5, 1, [(2, some (true, 2))], (.seq (.reg [⟨some 2, none, .box 168 2 (.c (.ag [.sln, .fn]))⟩])
  (.seq (.reg [⟨some 3, none, .mv (.t 0)⟩,
  ⟨some 4, none, .bld [.sln, .fn] [(0, 1, (.t 3)), (1, 1, (.c (.f (.func 106) [] [])))]⟩,
  ⟨none, none, .st 2 (.t 2) (.t 4)⟩])
  .ret))⟩
def ir22_84 : XF := ⟨24, 1, [(2, none)], (.seq (.reg [⟨some 1, none, .box 168 2 (.t 0)⟩,
  ⟨some 2, none, .mv (.c (.b false))⟩])
  (.seq (.reg [⟨some 3, none, .mv (.c (.i .i64 0))⟩])
  (.seq (.seq (.reg [⟨some 6, none, .fa 0 (.t 1)⟩,
  ⟨some 7, none, .ld false 1 (.t 6)⟩,
  ⟨some 8, none, .len 1 (.t 7)⟩,
  ⟨some 9, none, .mv (.c (.i .i64 0))⟩])
  (.blk 0 (.loop (.seq (.reg [⟨some 10, none, .bop .lss (.t 9) (.t 8)⟩])
  (.seq (.cond (.t 10) .skip
  (.exit 0))
  (.seq (.blk 1 (.seq (.reg [⟨some 11, none, .ia 2 (.t 7) (.t 9)⟩,
  ⟨some 12, none, .ld true 2 (.t 11)⟩,
  ⟨some 5, none, .box 138 2 (.c (.ag [(.i .i64 0), (.i .i64 0)]))⟩,
  ⟨none, none, .st 2 (.t 5) (.t 12)⟩])
  (.seq (.seq (.reg [⟨some 13, none, .fa 1 (.t 1)⟩,
  ⟨some 14, none, .ld false 1 (.t 13)⟩,
  ⟨some 15, none, .ld true 2 (.t 5)⟩,
  ⟨some 16, none, .callv (.t 14) [(.t 15)]⟩,
  ⟨some 17, none, .mv (.t 3)⟩,
  ⟨some 18, none, .bop .leq (.t 16) (.t 17)⟩])
  (.cond (.t 18) (.seq (.reg [⟨some 2, none, .mv (.c (.b false))⟩])
  .ret)
  .skip))
  (.reg [⟨some 19, none, .fa 1 (.t 1)⟩,
  ⟨some 20, none, .ld false 1 (.t 19)⟩,
  ⟨some 21, none, .ld true 2 (.t 5)⟩,
  ⟨some 22, none, .callv (.t 20) [(.t 21)]⟩,
  ⟨some 3, none, .mv (.t 22)⟩]))))
  (.reg [⟨some 23, none, .bop .add (.t 9) (.c (.i .i64 1))⟩,
  ⟨some 9, none, .mv (.t 23)⟩])))))))
  (.seq (.reg [⟨some 2, none, .mv (.c (.b true))⟩])
  .ret))))⟩
def ir22_85 : XF := ⟨9, 2, [(4, none)], (.seq (.reg [⟨some 4, none, .mv (.c (.b false))⟩])
  (.seq (.reg [⟨some 5, none, .mv (.t 0)⟩,
  ⟨some 6, none, .mv (.t 1)⟩,
  ⟨some 7, none, .call 107 [(.t 5), (.t 6)]⟩,
  ⟨some 8, none, .bop .geq (.t 7) (.c (.i .i64 0))⟩,
  ⟨some 4, none, .mv (.t 8)⟩])
  .ret))⟩
def ir22_87 : XF := ⟨9, 2, [(4, none)], (.seq (.reg [⟨some 4, none, .mv (.c (.b false))⟩])
  (.seq (.reg [⟨some 5, none, .mv (.t 0)⟩,
  ⟨some 6, none, .mv (.t 1)⟩,
  ⟨some 7, none, .call 108 [(.t 5), (.t 6)]⟩,
  ⟨some 8, none, .bop .geq (.t 7) (.c (.i .i64 0))⟩,
  ⟨some 4, none, .mv (.t 8)⟩])
  .ret))⟩
def ir22_88 : XF := ⟨7, 1, [(2, none)], (.seq (.reg [⟨some 1, none, .box 29 6 (.t 0)⟩,
  ⟨some 2, none, .mv (.c (.b false))⟩])
  (.seq (.reg [⟨some 3, none, .fa 0 (.t 1)⟩,
  ⟨some 4, none, .ld true 5 (.t 3)⟩,
  ⟨some 5, none, .call 32 [(.t 4)]⟩,
  ⟨some 6, none, .bop .neq (.t 5) (.c (.i .i64 0))⟩,
  ⟨some 2, none, .mv (.t 6)⟩])
  .ret))⟩
def ir22_89 : XF := ⟨15, 2, [(4, none), (5, none)], (.seq (.reg [⟨some 3, none, .box 98 35 (.t 1)⟩,
  ⟨some 4, none, .mv (.c .sln)⟩,
  ⟨some 5, none, .mv (.c (.i .i64 0))⟩])
  (.seq (.seq (.reg [⟨some 6, none, .mv (.t 0)⟩,
  ⟨some 7, none, .len 1 (.t 6)⟩,
  ⟨some 8, none, .bop .geq (.t 7) (.c (.i .i64 64))⟩])
  (.cond (.t 8) (.seq (.reg [⟨some 4, none, .mv (.c .sln)⟩,
  ⟨some 5, none, .mv (.c (.i .i64 11))⟩])
  .ret)
  .skip))
  (.seq (.par [⟨some 9, none, .mv (.t 0)⟩,
  ⟨some 10, none, .call 109 [(.t 9)]⟩,
  ⟨some 11, none, .ld true 35 (.t 3)⟩,
  ⟨some 12, none, .call 110 [(.t 11)]⟩,
  ⟨some 13, none, .bls 98 35 1 [(.i .i8 0), (.i .i64 0), (.i .i64 0), .sln, .sln, .sln, .sln, (.i .i64 0), (.i .i8 0), (.i .i64 0), (.i .i64 0), (.i .i64 0), (.i .i64 0), (.i .i8 0), (.i .i64 0), (.s []), (.s []), .sln, (.i .i8 0), (.i .i64 0), (.s []), (.s []), .sln, (.i .i8 0), (.i .i64 0), (.s []), (.s []), .sln, .sln, (.i .i8 0), (.i .i64 0), (.i .i64 0), .sln, .sln, .sln] [(0, 35, (.t 12))]⟩,
  ⟨some 14, none, .app 98 35 (.t 10) (.t 13)⟩,
  ⟨some 4, none, .mv (.t 14)⟩,
  ⟨some 5, none, .mv (.c (.i .i64 0))⟩] [0, 1, 0, 7, 15, 31, 63, 127])
  .ret)))⟩
def ir22_91 : XF := ⟨80, 1, [(2, none)], (.seq (.reg [⟨some 1, none, .box 25 5 (.t 0)⟩,
  ⟨some 2, none, .mv (.c (.b false))⟩])
  (.seq (.seq (.reg [⟨some 3, none, .fa 0 (.t 1)⟩,
  ⟨some 4, none, .ld false 1 (.t 3)⟩])
  (.blk 0 (.seq (.reg [⟨some 6, none, .bop .eql (.t 4) (.c (.i .i8 0))⟩,
  ⟨some 5, none, .mv (.t 6)⟩])
  (.cond (.t 5) (.seq (.reg [⟨some 7, none, .ld true 5 (.t 1)⟩,
  ⟨some 8, none, .call 111 [(.t 7), (.c (.b true)), (.c (.b false)), (.c (.b false)), (.c (.b false))]⟩,
  ⟨some 9, none, .mv (.t 8)⟩,
  ⟨some 10, some (9, true), .fa 1 (.t 1)⟩,
  ⟨some 11, some (9, true), .ld false 1 (.t 10)⟩,
  ⟨some 12, some (9, true), .call 112 [(.t 11)]⟩,
  ⟨some 13, none, .pick (.t 9) (.t 12) (.c (.b false))⟩,
  ⟨some 2, none, .mv (.t 13)⟩])
  .ret)
  (.seq (.reg [⟨some 15, none, .bop .eql (.t 4) (.c (.i .i8 1))⟩,
  ⟨some 14, none, .mv (.t 15)⟩])
  (.cond (.t 14) (.seq (.reg [⟨some 16, none, .ld true 5 (.t 1)⟩,
  ⟨some 17, none, .call 111 [(.t 16), (.c (.b false)), (.c (.b true)), (.c (.b false)), (.c (.b false))]⟩,
  ⟨some 18, none, .mv (.t 17)⟩,
  ⟨some 19, some (18, true), .fa 2 (.t 1)⟩,
  ⟨some 20, some (18, true), .ld false 1 (.t 19)⟩,
  ⟨some 21, some (18, true), .call 113 [(.t 20)]⟩,
  ⟨some 22, none, .pick (.t 18) (.t 21) (.c (.b false))⟩,
  ⟨some 2, none, .mv (.t 22)⟩])
  .ret)
  (.seq (.seq (.reg [⟨some 24, none, .bop .eql (.t 4) (.c (.i .i8 2))⟩,
  ⟨some 23, none, .mv (.t 24)⟩])
  (.cond (.t 23) .skip
  (.reg [⟨some 25, none, .bop .eql (.t 4) (.c (.i .i8 4))⟩,
  ⟨some 23, none, .mv (.t 25)⟩])))
  (.cond (.t 23) (.seq (.reg [⟨some 26, none, .ld true 5 (.t 1)⟩,
  ⟨some 27, none, .call 111 [(.t 26), (.c (.b true)), (.c (.b false)), (.c (.b false)), (.c (.b false))]⟩,
  ⟨some 28, none, .mv (.t 27)⟩,
  ⟨some 29, some (28, true), .fa 1 (.t 1)⟩,
  ⟨some 30, some (28, true), .ld false 1 (.t 29)⟩,
  ⟨some 31, some (28, true), .bop .geq (.t 30) (.c (.i .i64 0))⟩,
  ⟨some 32, none, .pick (.t 28) (.t 31) (.c (.b false))⟩,
  ⟨some 33, none, .mv (.t 32)⟩,
  ⟨some 34, some (33, true), .fa 1 (.t 1)⟩,
  ⟨some 35, some (33, true), .ld false 1 (.t 34)⟩,
  ⟨some 36, some (33, true), .bop .leq (.t 35) (.c (.i .i64 576460752303423487))⟩,
  ⟨some 37, none, .pick (.t 33) (.t 36) (.c (.b false))⟩,
  ⟨some 2, none, .mv (.t 37)⟩])
  .ret)
  (.seq (.reg [⟨some 39, none, .bop .eql (.t 4) (.c (.i .i8 3))⟩,
  ⟨some 38, none, .mv (.t 39)⟩])
  (.cond (.t 38) (.seq (.reg [⟨some 40, none, .ld true 5 (.t 1)⟩,
  ⟨some 41, none, .call 111 [(.t 40), (.c (.b true)), (.c (.b true)), (.c (.b true)), (.c (.b false))]⟩,
  ⟨some 42, none, .mv (.t 41)⟩,
  ⟨some 43, some (42, true), .fa 2 (.t 1)⟩,
  ⟨some 44, some (42, true), .ld false 1 (.t 43)⟩,
  ⟨some 45, some (42, true), .call 113 [(.t 44)]⟩,
  ⟨some 46, none, .pick (.t 42) (.t 45) (.c (.b false))⟩,
  ⟨some 47, none, .mv (.t 46)⟩,
  ⟨some 48, some (47, true), .fa 3 (.t 1)⟩,
  ⟨some 49, some (47, true), .ld false 1 (.t 48)⟩,
  ⟨some 50, some (47, true), .call 113 [(.t 49)]⟩,
  ⟨some 51, none, .pick (.t 47) (.t 50) (.c (.b false))⟩,
  ⟨some 52, none, .mv (.t 51)⟩,
  ⟨some 53, some (52, true), .fa 1 (.t 1)⟩,
  ⟨some 54, some (52, true), .ld false 1 (.t 53)⟩,
  ⟨some 55, some (52, true), .bop .geq (.t 54) (.c (.i .i64 0))⟩,
  ⟨some 56, none, .pick (.t 52) (.t 55) (.c (.b false))⟩,
  ⟨some 57, none, .mv (.t 56)⟩,
  ⟨some 58, some (57, true), .fa 1 (.t 1)⟩,
  ⟨some 59, some (57, true), .ld false 1 (.t 58)⟩,
  ⟨some 60, some (57, true), .bop .leq (.t 59) (.c (.i .i64 8))⟩,
  ⟨some 61, none, .pick (.t 57) (.t 60) (.c (.b false))⟩,
  ⟨some 2, none, .mv (.t 61)⟩])
  .ret)
  (.seq (.reg [⟨some 63, none, .bop .eql (.t 4) (.c (.i .i8 5))⟩,
  ⟨some 62, none, .mv (.t 63)⟩])
  (.cond (.t 62) (.seq (.reg [⟨some 64, none, .ld true 5 (.t 1)⟩,
  ⟨some 65, none, .call 111 [(.t 64), (.c (.b false)), (.c (.b false)), (.c (.b false)), (.c (.b true))]⟩,
  ⟨some 2, none, .mv (.t 65)⟩])
  .ret)
  (.seq (.reg [⟨some 67, none, .bop .eql (.t 4) (.c (.i .i8 6))⟩,
  ⟨some 66, none, .mv (.t 67)⟩])
  (.cond (.t 66) (.seq (.reg [⟨some 68, none, .ld true 5 (.t 1)⟩,
  ⟨some 69, none, .call 111 [(.t 68), (.c (.b false)), (.c (.b false)), (.c (.b false)), (.c (.b false))]⟩,
  ⟨some 2, none, .mv (.t 69)⟩])
  .ret)
  (.seq (.reg [⟨some 71, none, .bop .eql (.t 4) (.c (.i .i8 7))⟩,
  ⟨some 70, none, .mv (.t 71)⟩])
  (.cond (.t 70) (.seq (.reg [⟨some 72, none, .ld true 5 (.t 1)⟩,
  ⟨some 73, none, .call 111 [(.t 72), (.c (.b false)), (.c (.b false)), (.c (.b false)), (.c (.b true))]⟩,
  ⟨some 74, none, .mv (.t 73)⟩,
  ⟨some 75, some (74, true), .fa 4 (.t 1)⟩,
  ⟨some 76, some (74, true), .ld false 1 (.t 75)⟩,
  ⟨some 77, some (74, true), .len 1 (.t 76)⟩,
  ⟨some 78, some (74, true), .bop .eql (.t 77) (.c (.i .i64 2))⟩,
  ⟨some 79, none, .pick (.t 74) (.t 78) (.c (.b false))⟩,
  ⟨some 2, none, .mv (.t 79)⟩])
  .ret)
  .skip))))))))))))))))
  (.seq (.reg [⟨some 2, none, .mv (.c (.b false))⟩])
  .ret)))⟩
def ir22_92 : XF := ⟨5, 1, [(2, none)], (.seq (.reg [⟨some 2, none, .mv (.c (.s []))⟩])
  (.seq (.reg [⟨some 3, none, .mv (.t 0)⟩,
  ⟨some 4, none, .call 114 [(.t 3), (.c (.i .i64 10))]⟩,
  ⟨some 2, none, .mv (.t 4)⟩])
  .ret))⟩
def ir22_93 : XF := ⟨9, 1, [(2, none)], (.seq (.reg [⟨some 1, none, .box 25 5 (.t 0)⟩,
  ⟨some 2, none, .mv (.c (.i .i64 0))⟩])
  (.seq (.reg [⟨some 3, none, .box 3 1 (.c (.i .i64 0))⟩,
  ⟨none, none, .st 1 (.t 3) (.c (.i .i64 0))⟩])
  (.seq (.reg [⟨some 4, none, .box 112 1 (.c .fn)⟩])
  (.seq (.reg [⟨some 5, none, .mkf (.func 115) [] [(.t 3), (.t 4)]⟩,
  ⟨none, none, .st 1 (.t 4) (.t 5)⟩])
  (.seq (.reg [⟨some 6, none, .ld false 1 (.t 4)⟩,
  ⟨some 7, none, .callv (.t 6) [(.t 1)]⟩])
  (.seq (.reg [⟨some 8, none, .ld false 1 (.t 3)⟩,
  ⟨some 2, none, .mv (.t 8)⟩])
  .ret))))))⟩
def ir22_95 : XF := ⟨49, 5, [(9, none)], (.seq (.reg [⟨some 9, none, .mv (.c (.b false))⟩])
  (.seq (.reg [⟨some 10, none, .mv (.t 0)⟩,
  ⟨some 11, none, .mv (.t 10)⟩,
  ⟨some 12, some (11, false), .ld false 1 (.t 4)⟩,
  ⟨some 13, some (11, false), .nck (.t 12)⟩,
  ⟨some 14, some (11, false), .fa 1 (.t 13)⟩,
  ⟨some 15, some (11, false), .ld false 1 (.t 14)⟩,
  ⟨some 16, some (11, false), .bop .eql (.t 15) (.c (.i .i64 0))⟩,
  ⟨some 17, none, .pick (.t 11) (.c (.b true)) (.t 16)⟩,
  ⟨some 18, none, .mv (.t 17)⟩,
  ⟨some 19, some (18, true), .mv (.t 1)⟩,
  ⟨some 20, some (18, true), .mv (.t 19)⟩,
  ⟨some 21, some (20, false), .ld false 1 (.t 4)⟩,
  ⟨some 22, some (20, false), .nck (.t 21)⟩,
  ⟨some 23, some (20, false), .fa 2 (.t 22)⟩,
  ⟨some 24, some (20, false), .ld false 1 (.t 23)⟩,
  ⟨some 25, some (20, false), .bop .eql (.t 24) (.c (.s []))⟩,
  ⟨some 26, some (18, true), .pick (.t 20) (.c (.b true)) (.t 25)⟩,
  ⟨some 27, none, .pick (.t 18) (.t 26) (.c (.b false))⟩,
  ⟨some 28, none, .mv (.t 27)⟩,
  ⟨some 29, some (28, true), .mv (.t 2)⟩,
  ⟨some 30, some (28, true), .mv (.t 29)⟩,
  ⟨some 31, some (30, false), .ld false 1 (.t 4)⟩,
  ⟨some 32, some (30, false), .nck (.t 31)⟩,
  ⟨some 33, some (30, false), .fa 3 (.t 32)⟩,
  ⟨some 34, some (30, false), .ld false 1 (.t 33)⟩,
  ⟨some 35, some (30, false), .bop .eql (.t 34) (.c (.s []))⟩,
  ⟨some 36, some (28, true), .pick (.t 30) (.c (.b true)) (.t 35)⟩,
  ⟨some 37, none, .pick (.t 28) (.t 36) (.c (.b false))⟩,
  ⟨some 38, none, .mv (.t 37)⟩,
  ⟨some 39, some (38, true), .mv (.t 3)⟩,
  ⟨some 40, some (38, true), .mv (.t 39)⟩,
  ⟨some 41, some (40, false), .ld false 1 (.t 4)⟩,
  ⟨some 42, some (40, false), .nck (.t 41)⟩,
  ⟨some 43, some (40, false), .fa 4 (.t 42)⟩,
  ⟨some 44, some (40, false), .ld false 1 (.t 43)⟩,
  ⟨some 45, some (40, false), .len 1 (.t 44)⟩,
  ⟨some 46, some (40, false), .bop .eql (.t 45) (.c (.i .i64 0))⟩,
  ⟨some 47, some (38, true), .pick (.t 40) (.c (.b true)) (.t 46)⟩,
  ⟨some 48, none, .pick (.t 38) (.t 47) (.c (.b false))⟩,
  ⟨some 9, none, .mv (.t 48)⟩])
  .ret))⟩
def ir22_96 : XF := ⟨18, 1, [(2, none)], (.seq (.reg [⟨some 2, none, .mv (.c (.b false))⟩])
  (.seq (.reg [⟨some 3, none, .mv (.t 0)⟩,
  ⟨some 4, none, .len 0 (.t 3)⟩,
  ⟨some 5, none, .bop .geq (.t 4) (.c (.i .i64 1))⟩,
  ⟨some 6, none, .mv (.t 5)⟩,
  ⟨some 7, some (6, true), .mv (.t 0)⟩,
  ⟨some 8, some (6, true), .len 0 (.t 7)⟩,
  ⟨some 9, some (6, true), .bop .leq (.t 8) (.c (.i .i64 32))⟩,
  ⟨some 10, none, .pick (.t 6) (.t 9) (.c (.b false))⟩,
  ⟨some 11, none, .mv (.t 10)⟩,
  ⟨some 12, some (11, true), .mv (.t 0)⟩,
  ⟨some 13, some (11, true), .call 116 [(.t 12)]⟩,
  ⟨some 14, some (11, true), .mv (.t 0)⟩,
  ⟨some 15, some (11, true), .len 0 (.t 14)⟩,
  ⟨some 16, some (11, true), .bop .eql (.t 13) (.t 15)⟩,
  ⟨some 17, none, .pick (.t 11) (.t 16) (.c (.b false))⟩,
  ⟨some 2, none, .mv (.t 17)⟩])
  .ret))⟩
def ir22_97 : XF := ⟨24, 2, [(4, none)], (.seq (.reg [⟨some 4, none, .mv (.c (.b false))⟩])
  (.seq (.seq (.reg [⟨some 7, none, .mv (.t 1)⟩,
  ⟨some 8, none, .len 1 (.t 7)⟩,
  ⟨some 9, none, .mv (.c (.i .i64 0))⟩])
  (.blk 0 (.loop (.seq (.reg [⟨some 10, none, .bop .lss (.t 9) (.t 8)⟩])
  (.seq (.cond (.t 10) .skip
  (.exit 0))
  (.seq (.blk 1 (.seq (.reg [⟨some 11, none, .ia 2 (.t 7) (.t 9)⟩,
  ⟨some 12, none, .ld true 2 (.t 11)⟩,
  ⟨some 6, none, .box 180 2 (.c (.ag [(.i .u8 0), (.i .u8 0)]))⟩,
  ⟨none, none, .st 2 (.t 6) (.t 12)⟩])
  (.seq (.reg [⟨some 13, none, .iaA 2 1 (.t 6) (.c (.i .i64 0))⟩,
  ⟨some 14, none, .ld false 1 (.t 13)⟩,
  ⟨some 15, none, .mv (.t 0)⟩,
  ⟨some 16, none, .bop .leq (.t 14) (.t 15)⟩,
  ⟨some 17, none, .mv (.t 16)⟩,
  ⟨some 18, some (17, true), .mv (.t 0)⟩,
  ⟨some 19, some (17, true), .iaA 2 1 (.t 6) (.c (.i .i64 1))⟩,
  ⟨some 20, some (17, true), .ld false 1 (.t 19)⟩,
  ⟨some 21, some (17, true), .bop .leq (.t 18) (.t 20)⟩,
  ⟨some 22, none, .pick (.t 17) (.t 21) (.c (.b false))⟩])
  (.cond (.t 22) (.seq (.reg [⟨some 4, none, .mv (.c (.b true))⟩])
  .ret)
  .skip))))
  (.reg [⟨some 23, none, .bop .add (.t 9) (.c (.i .i64 1))⟩,
  ⟨some 9, none, .mv (.t 23)⟩])))))))
  (.seq (.reg [⟨some 4, none, .mv (.c (.b false))⟩])
  .ret)))⟩
def ir22_103 : XF := ⟨49, 3, [(6, none), (7, none)], (.seq (.reg [⟨some 6, none, .mv (.c (.i .i64 0))⟩,
  ⟨some 7, none, .mv (.c (.b false))⟩])
  (.seq (.reg [⟨some 12, none, .mv (.t 0)⟩,
  ⟨some 13, none, .len 1 (.t 12)⟩,
  ⟨some 8, none, .mv (.t 13)⟩])
  (.seq (.reg [⟨some 14, none, .mv (.t 8)⟩,
  ⟨some 9, none, .mv (.c (.i .i64 0))⟩,
  ⟨some 10, none, .mv (.t 14)⟩])
  (.seq (.blk 0 (.loop (.seq (.seq (.reg [⟨some 15, none, .mv (.t 9)⟩,
  ⟨some 16, none, .mv (.t 10)⟩,
  ⟨some 17, none, .bop .lss (.t 15) (.t 16)⟩])
  (.cond (.t 17) .skip
  (.exit 0)))
  (.blk 1 (.seq (.reg [⟨some 18, none, .mv (.t 9)⟩,
  ⟨some 19, none, .mv (.t 10)⟩,
  ⟨some 20, none, .bop .add (.t 18) (.t 19)⟩,
  ⟨some 21, none, .cvi .u64 (.t 20)⟩,
  ⟨some 22, none, .bop .shr (.t 21) (.c (.i .u64 1))⟩,
  ⟨some 23, none, .cvi .i64 (.t 22)⟩,
  ⟨some 11, none, .mv (.t 23)⟩])
  (.seq (.reg [⟨some 24, none, .mv (.t 2)⟩,
  ⟨some 25, none, .mv (.t 0)⟩,
  ⟨some 26, none, .mv (.t 11)⟩,
  ⟨some 27, none, .ia 1 (.t 25) (.t 26)⟩,
  ⟨some 28, none, .ld false 1 (.t 27)⟩,
  ⟨some 29, none, .mv (.t 1)⟩,
  ⟨some 30, none, .callv (.t 24) [(.t 28), (.t 29)]⟩,
  ⟨some 31, none, .bop .lss (.t 30) (.c (.i .i64 0))⟩])
  (.cond (.t 31) (.reg [⟨some 32, none, .mv (.t 11)⟩,
  ⟨some 33, none, .bop .add (.t 32) (.c (.i .i64 1))⟩,
  ⟨some 9, none, .mv (.t 33)⟩])
  (.reg [⟨some 34, none, .mv (.t 11)⟩,
  ⟨some 10, none, .mv (.t 34)⟩]))))))))
  (.seq (.reg [⟨some 35, none, .mv (.t 9)⟩,
  ⟨some 36, none, .mv (.t 9)⟩,
  ⟨some 37, none, .mv (.t 8)⟩,
  ⟨some 38, none, .bop .lss (.t 36) (.t 37)⟩,
  ⟨some 39, none, .mv (.t 38)⟩,
  ⟨some 40, some (39, true), .mv (.t 2)⟩,
  ⟨some 41, some (39, true), .mv (.t 0)⟩,
  ⟨some 42, some (39, true), .mv (.t 9)⟩,
  ⟨some 43, some (39, true), .ia 1 (.t 41) (.t 42)⟩,
  ⟨some 44, some (39, true), .ld false 1 (.t 43)⟩,
  ⟨some 45, some (39, true), .mv (.t 1)⟩,
  ⟨some 46, some (39, true), .callv (.t 40) [(.t 44), (.t 45)]⟩,
  ⟨some 47, some (39, true), .bop .eql (.t 46) (.c (.i .i64 0))⟩,
  ⟨some 48, none, .pick (.t 39) (.t 47) (.c (.b false))⟩,
  ⟨some 6, none, .mv (.t 35)⟩,
  ⟨some 7, none, .mv (.t 48)⟩])
  .ret)))))⟩
def ir22_107 : XF := ⟨19, 2, [(4, none)], (.seq (.reg [⟨some 4, none, .mv (.c (.i .i64 0))⟩])
  (.seq (.seq (.reg [⟨some 6, none, .mv (.t 0)⟩,
  ⟨some 7, none, .len 1 (.t 6)⟩,
  ⟨some 8, none, .mv (.c (.i .i64 0))⟩])
  (.blk 0 (.loop (.seq (.reg [⟨some 9, none, .bop .lss (.t 8) (.t 7)⟩])
  (.seq (.cond (.t 9) .skip
  (.exit 0))
  (.seq (.blk 1 (.seq (.reg [⟨some 10, none, .mv (.t 8)⟩,
  ⟨some 5, none, .mv (.t 10)⟩])
  (.seq (.reg [⟨some 11, none, .mv (.t 1)⟩,
  ⟨some 12, none, .mv (.t 0)⟩,
  ⟨some 13, none, .mv (.t 5)⟩,
  ⟨some 14, none, .ia 2 (.t 12) (.t 13)⟩,
  ⟨some 15, none, .ld true 2 (.t 14)⟩,
  ⟨some 16, none, .callv (.t 11) [(.t 15)]⟩])
  (.cond (.t 16) (.seq (.reg [⟨some 17, none, .mv (.t 5)⟩,
  ⟨some 4, none, .mv (.t 17)⟩])
  .ret)
  .skip))))
  (.reg [⟨some 18, none, .bop .add (.t 8) (.c (.i .i64 1))⟩,
  ⟨some 8, none, .mv (.t 18)⟩])))))))
  (.seq (.reg [⟨some 4, none, .mv (.c (.i .i64 (-1)))⟩])
  .ret)))⟩
def ir22_108 : XF := ⟨19, 2, [(4, none)], (.seq (.reg [⟨some 4, none, .mv (.c (.i .i64 0))⟩])
  (.seq (.seq (.reg [⟨some 6, none, .mv (.t 0)⟩,
  ⟨some 7, none, .len 1 (.t 6)⟩,
  ⟨some 8, none, .mv (.c (.i .i64 0))⟩])
  (.blk 0 (.loop (.seq (.reg [⟨some 9, none, .bop .lss (.t 8) (.t 7)⟩])
  (.seq (.cond (.t 9) .skip
  (.exit 0))
  (.seq (.blk 1 (.seq (.reg [⟨some 10, none, .mv (.t 8)⟩,
  ⟨some 5, none, .mv (.t 10)⟩])
  (.seq (.reg [⟨some 11, none, .mv (.t 1)⟩,
  ⟨some 12, none, .mv (.t 0)⟩,
  ⟨some 13, none, .mv (.t 5)⟩,
  ⟨some 14, none, .ia 6 (.t 12) (.t 13)⟩,
  ⟨some 15, none, .ld true 6 (.t 14)⟩,
  ⟨some 16, none, .callv (.t 11) [(.t 15)]⟩])
  (.cond (.t 16) (.seq (.reg [⟨some 17, none, .mv (.t 5)⟩,
  ⟨some 4, none, .mv (.t 17)⟩])
  .ret)
  .skip))))
  (.reg [⟨some 18, none, .bop .add (.t 8) (.c (.i .i64 1))⟩,
  ⟨some 8, none, .mv (.t 18)⟩])))))))
  (.seq (.reg [⟨some 4, none, .mv (.c (.i .i64 (-1)))⟩])
  .ret)))⟩
def ir22_109 : XF := ⟨28, 1, [(2, none)], (.seq (.reg [⟨some 2, none, .mv (.c .sln)⟩])
  (.seq (.reg [⟨some 5, none, .mv (.t 0)⟩,
  ⟨some 6, none, .len 1 (.t 5)⟩,
  ⟨some 7, none, .mks 98 35 [(.i .i8 0), (.i .i64 0), (.i .i64 0), .sln, .sln, .sln, .sln, (.i .i64 0), (.i .i8 0), (.i .i64 0), (.i .i64 0), (.i .i64 0), (.i .i64 0), (.i .i8 0), (.i .i64 0), (.s []), (.s []), .sln, (.i .i8 0), (.i .i64 0), (.s []), (.s []), .sln, (.i .i8 0), (.i .i64 0), (.s []), (.s []), .sln, .sln, (.i .i8 0), (.i .i64 0), (.i .i64 0), .sln, .sln, .sln] (.t 6) (.t 6)⟩,
  ⟨some 3, none, .mv (.t 7)⟩])
  (.seq (.seq (.reg [⟨some 8, none, .mv (.t 0)⟩,
  ⟨some 9, none, .len 1 (.t 8)⟩,
  ⟨some 10, none, .mv (.c (.i .i64 0))⟩])
  (.blk 0 (.loop (.seq (.reg [⟨some 11, none, .bop .lss (.t 10) (.t 9)⟩])
  (.seq (.cond (.t 11) .skip
  (.exit 0))
  (.seq (.blk 1 (.seq (.reg [⟨some 12, none, .mv (.t 10)⟩,
  ⟨some 4, none, .mv (.t 12)⟩])
  (.reg [⟨some 13, none, .mv (.t 3)⟩,
  ⟨some 14, none, .mv (.t 4)⟩,
  ⟨some 15, none, .mv (.t 0)⟩,
  ⟨some 16, none, .mv (.t 4)⟩,
  ⟨some 17, none, .ia 35 (.t 15) (.t 16)⟩,
  ⟨some 18, none, .ld true 35 (.t 17)⟩,
  ⟨some 19, none, .call 110 [(.t 18)]⟩,
  ⟨some 20, none, .ia 35 (.t 13) (.t 14)⟩,
  ⟨none, none, .st 35 (.t 20) (.t 19)⟩])))
  (.reg [⟨some 21, none, .bop .add (.t 10) (.c (.i .i64 1))⟩,
  ⟨some 10, none, .mv (.t 21)⟩])))))))
  (.seq (.reg [⟨some 22, none, .mv (.t 3)⟩,
  ⟨some 23, none, .mv (.t 3)⟩,
  ⟨some 24, none, .len 1 (.t 23)⟩,
  ⟨some 25, none, .mv (.t 3)⟩,
  ⟨some 26, none, .len 1 (.t 25)⟩,
  ⟨some 27, none, .slc 35 (.t 22) none (some (.t 24)) (some (.t 26))⟩,
  ⟨some 2, none, .mv (.t 27)⟩])
  .ret))))⟩
def ir22_110 : XF := ⟨38, 1, [(2, some (true, 35))], (.seq (.reg [⟨some 1, none, .box 98 35 (.t 0)⟩,
  ⟨some 2, none, .box 98 35 (.c (.ag [(.i .i8 0), (.i .i64 0), (.i .i64 0), .sln, .sln, .sln, .sln, (.i .i64 0), (.i .i8 0), (.i .i64 0), (.i .i64 0), (.i .i64 0), (.i .i64 0), (.i .i8 0), (.i .i64 0), (.s []), (.s []), .sln, (.i .i8 0), (.i .i64 0), (.s []), (.s []), .sln, (.i .i8 0), (.i .i64 0), (.s []), (.s []), .sln, .sln, (.i .i8 0), (.i .i64 0), (.i .i64 0), .sln, .sln, .sln]))⟩])
  (.seq (.par [⟨some 3, none, .fa 3 (.t 1)⟩,
  ⟨some 4, none, .ld false 1 (.t 3)⟩,
  ⟨some 5, none, .call 122 [(.t 4)]⟩,
  ⟨some 6, none, .fa 4 (.t 1)⟩,
  ⟨some 7, none, .ld false 1 (.t 6)⟩,
  ⟨some 8, none, .call 123 [(.t 7)]⟩,
  ⟨some 9, none, .fa 5 (.t 1)⟩,
  ⟨some 10, none, .ld false 1 (.t 9)⟩,
  ⟨some 11, none, .call 122 [(.t 10)]⟩,
  ⟨some 12, none, .fa 6 (.t 1)⟩,
  ⟨some 13, none, .ld false 1 (.t 12)⟩,
  ⟨some 14, none, .call 124 [(.t 13)]⟩,
  ⟨some 15, none, .fa 3 (.t 1)⟩,
  ⟨none, none, .st 1 (.t 15) (.t 5)⟩,
  ⟨some 16, none, .fa 4 (.t 1)⟩,
  ⟨none, none, .st 1 (.t 16) (.t 8)⟩,
  ⟨some 17, none, .fa 5 (.t 1)⟩,
  ⟨none, none, .st 1 (.t 17) (.t 11)⟩,
  ⟨some 18, none, .fa 6 (.t 1)⟩,
  ⟨none, none, .st 1 (.t 18) (.t 14)⟩] [0, 1, 3, 0, 8, 31, 0, 64, 255, 0, 512, 2047, 1759, 8191, 16383, 32767, 65535, 131071, 262143, 524287])
  (.seq (.par [⟨some 19, none, .fa 8 (.t 1)⟩,
  ⟨some 20, none, .fa 20 (.t 19)⟩,
  ⟨some 21, none, .ld false 1 (.t 20)⟩,
  ⟨some 22, none, .call 125 [(.t 21)]⟩,
  ⟨some 23, none, .fa 8 (.t 1)⟩,
  ⟨some 24, none, .fa 25 (.t 23)⟩,
  ⟨some 25, none, .ld false 1 (.t 24)⟩,
  ⟨some 26, none, .call 63 [(.t 25)]⟩,
  ⟨some 27, none, .fa 8 (.t 1)⟩,
  ⟨some 28, none, .fa 26 (.t 27)⟩,
  ⟨some 29, none, .ld false 1 (.t 28)⟩,
  ⟨some 30, none, .call 63 [(.t 29)]⟩,
  ⟨some 31, none, .fa 8 (.t 1)⟩,
  ⟨some 32, none, .fa 20 (.t 31)⟩,
  ⟨none, none, .st 1 (.t 32) (.t 22)⟩,
  ⟨some 33, none, .fa 8 (.t 1)⟩,
  ⟨some 34, none, .fa 25 (.t 33)⟩,
  ⟨none, none, .st 1 (.t 34) (.t 26)⟩,
  ⟨some 35, none, .fa 8 (.t 1)⟩,
  ⟨some 36, none, .fa 26 (.t 35)⟩,
  ⟨none, none, .st 1 (.t 36) (.t 30)⟩] [0, 1, 3, 7, 0, 16, 48, 127, 0, 256, 768, 2047, 1919, 6015, 16383, 32767, 65535, 131071, 262143, 524287, 1048575])
  (.seq (.reg [⟨some 37, none, .ld true 35 (.t 1)⟩,
  ⟨none, none, .st 35 (.t 2) (.t 37)⟩])
  .ret))))⟩
def ir22_111 : XF := ⟨42, 5, [(10, none)], (.seq (.reg [⟨some 5, none, .box 25 5 (.t 0)⟩,
  ⟨some 10, none, .mv (.c (.b false))⟩])
  (.seq (.reg [⟨some 11, none, .mv (.t 1)⟩,
  ⟨some 12, none, .mv (.t 11)⟩,
  ⟨some 13, some (12, false), .fa 1 (.t 5)⟩,
  ⟨some 14, some (12, false), .ld false 1 (.t 13)⟩,
  ⟨some 15, some (12, false), .bop .eql (.t 14) (.c (.i .i64 0))⟩,
  ⟨some 16, none, .pick (.t 12) (.c (.b true)) (.t 15)⟩,
  ⟨some 17, none, .mv (.t 16)⟩,
  ⟨some 18, some (17, true), .mv (.t 2)⟩,
  ⟨some 19, some (17, true), .mv (.t 18)⟩,
  ⟨some 20, some (19, false), .fa 2 (.t 5)⟩,
  ⟨some 21, some (19, false), .ld false 1 (.t 20)⟩,
  ⟨some 22, some (19, false), .bop .eql (.t 21) (.c (.s []))⟩,
  ⟨some 23, some (17, true), .pick (.t 19) (.c (.b true)) (.t 22)⟩,
  ⟨some 24, none, .pick (.t 17) (.t 23) (.c (.b false))⟩,
  ⟨some 25, none, .mv (.t 24)⟩,
  ⟨some 26, some (25, true), .mv (.t 3)⟩,
  ⟨some 27, some (25, true), .mv (.t 26)⟩,
  ⟨some 28, some (27, false), .fa 3 (.t 5)⟩,
  ⟨some 29, some (27, false), .ld false 1 (.t 28)⟩,
  ⟨some 30, some (27, false), .bop .eql (.t 29) (.c (.s []))⟩,
  ⟨some 31, some (25, true), .pick (.t 27) (.c (.b true)) (.t 30)⟩,
  ⟨some 32, none, .pick (.t 25) (.t 31) (.c (.b false))⟩,
  ⟨some 33, none, .mv (.t 32)⟩,
  ⟨some 34, some (33, true), .mv (.t 4)⟩,
  ⟨some 35, some (33, true), .mv (.t 34)⟩,
  ⟨some 36, some (35, false), .fa 4 (.t 5)⟩,
  ⟨some 37, some (35, false), .ld false 1 (.t 36)⟩,
  ⟨some 38, some (35, false), .len 1 (.t 37)⟩,
  ⟨some 39, some (35, false), .bop .eql (.t 38) (.c (.i .i64 0))⟩,
  ⟨some 40, some (33, true), .pick (.t 35) (.c (.b true)) (.t 39)⟩,
  ⟨some 41, none, .pick (.t 33) (.t 40) (.c (.b false))⟩,
  ⟨some 10, none, .mv (.t 41)⟩])
  .ret))⟩
def ir22_113 : XF := ⟨28, 1, [(2, none)], (.seq (.reg [⟨some 2, none, .mv (.c (.b false))⟩])
  (.seq (.reg [⟨some 3, none, .mv (.t 0)⟩,
  ⟨some 4, none, .len 0 (.t 3)⟩,
  ⟨some 5, none, .bop .geq (.t 4) (.c (.i .i64 1))⟩,
  ⟨some 6, none, .mv (.t 5)⟩,
  ⟨some 7, some (6, true), .mv (.t 0)⟩,
  ⟨some 8, some (6, true), .len 0 (.t 7)⟩,
  ⟨some 9, some (6, true), .bop .leq (.t 8) (.c (.i .i64 32))⟩,
  ⟨some 10, none, .pick (.t 6) (.t 9) (.c (.b false))⟩,
  ⟨some 11, none, .mv (.t 10)⟩,
  ⟨some 12, some (11, true), .mv (.t 0)⟩,
  ⟨some 13, some (11, true), .ixS (.t 12) (.c (.i .i64 0))⟩,
  ⟨some 14, some (11, true), .bop .geq (.t 13) (.c (.i .u8 97))⟩,
  ⟨some 15, none, .pick (.t 11) (.t 14) (.c (.b false))⟩,
  ⟨some 16, none, .mv (.t 15)⟩,
  ⟨some 17, some (16, true), .mv (.t 0)⟩,
  ⟨some 18, some (16, true), .ixS (.t 17) (.c (.i .i64 0))⟩,
  ⟨some 19, some (16, true), .bop .leq (.t 18) (.c (.i .u8 122))⟩,
  ⟨some 20, none, .pick (.t 16) (.t 19) (.c (.b false))⟩,
  ⟨some 21, none, .mv (.t 20)⟩,
  ⟨some 22, some (21, true), .mv (.t 0)⟩,
  ⟨some 23, some (21, true), .call 126 [(.t 22)]⟩,
  ⟨some 24, some (21, true), .mv (.t 0)⟩,
  ⟨some 25, some (21, true), .len 0 (.t 24)⟩,
  ⟨some 26, some (21, true), .bop .eql (.t 23) (.t 25)⟩,
  ⟨some 27, none, .pick (.t 21) (.t 26) (.c (.b false))⟩,
  ⟨some 2, none, .mv (.t 27)⟩])
  .ret))⟩
def ir22_114 : XF := ⟨54, 2, [(4, none)], (.seq (.reg [⟨some 4, none, .mv (.c (.s []))⟩])
  (.seq (.seq (.reg [⟨some 10, none, .mv (.t 1)⟩,
  ⟨some 11, none, .bop .eql (.t 10) (.c (.i .i64 10))⟩])
  (.cond (.t 11) (.seq (.seq (.reg [⟨some 12, none, .mv (.t 0)⟩,
  ⟨some 13, none, .bop .leq (.c (.i .i64 0)) (.t 12)⟩,
  ⟨some 14, none, .mv (.t 13)⟩,
  ⟨some 15, some (14, true), .mv (.t 0)⟩,
  ⟨some 16, some (14, true), .bop .lss (.t 15) (.c (.i .i64 100))⟩,
  ⟨some 17, none, .pick (.t 14) (.t 16) (.c (.b false))⟩])
  (.cond (.t 17) (.seq (.reg [⟨some 18, none, .mv (.t 0)⟩,
  ⟨some 19, none, .call 127 [(.t 18)]⟩,
  ⟨some 4, none, .mv (.t 19)⟩])
  .ret)
  .skip))
  (.seq (.reg [⟨some 5, none, .box 207 24 (.c (.ag [(.i .u8 0), (.i .u8 0), (.i .u8 0), (.i .u8 0), (.i .u8 0), (.i .u8 0), (.i .u8 0), (.i .u8 0), (.i .u8 0), (.i .u8 0), (.i .u8 0), (.i .u8 0), (.i .u8 0), (.i .u8 0), (.i .u8 0), (.i .u8 0), (.i .u8 0), (.i .u8 0), (.i .u8 0), (.i .u8 0), (.i .u8 0), (.i .u8 0), (.i .u8 0), (.i .u8 0)]))⟩])
  (.seq (.reg [⟨some 20, none, .mv (.t 0)⟩,
  ⟨some 21, none, .cvi .u64 (.t 20)⟩,
  ⟨some 6, none, .mv (.t 21)⟩])
  (.seq (.seq (.reg [⟨some 22, none, .mv (.t 0)⟩,
  ⟨some 23, none, .bop .lss (.t 22) (.c (.i .i64 0))⟩])
  (.cond (.t 23) (.reg [⟨some 24, none, .mv (.t 6)⟩,
  ⟨some 25, none, .un .neg (.t 24)⟩,
  ⟨some 6, none, .mv (.t 25)⟩])
  .skip))
  (.seq (.reg [⟨some 26, none, .mv (.t 6)⟩,
  ⟨some 27, none, .call 128 [(.t 26)]⟩,
  ⟨some 7, none, .mv (.t 27)⟩])
  (.seq (.reg [⟨some 28, none, .mv (.t 7)⟩,
  ⟨some 29, none, .bop .add (.c (.i .i64 1)) (.t 28)⟩,
  ⟨some 30, none, .slcA 24 1 (.t 5) (some (.c (.i .i64 1))) (some (.t 29)) none⟩,
  ⟨some 31, none, .mv (.t 6)⟩,
  ⟨some 32, none, .call 129 [(.t 30), (.t 31)]⟩])
  (.seq (.seq (.reg [⟨some 33, none, .mv (.t 0)⟩,
  ⟨some 34, none, .bop .lss (.t 33) (.c (.i .i64 0))⟩])
  (.cond (.t 34) (.seq (.reg [⟨some 35, none, .iaA 24 1 (.t 5) (.c (.i .i64 0))⟩,
  ⟨none, none, .st 1 (.t 35) (.c (.i .u8 45))⟩])
  (.seq (.reg [⟨some 36, none, .mv (.t 7)⟩,
  ⟨some 37, none, .bop .add (.c (.i .i64 1)) (.t 36)⟩,
  ⟨some 38, none, .slcA 24 1 (.t 5) none (some (.t 37)) none⟩,
  ⟨some 39, none, .cvb (.t 38)⟩,
  ⟨some 4, none, .mv (.t 39)⟩])
  .ret))
  .skip))
  (.seq (.reg [⟨some 40, none, .mv (.t 7)⟩,
  ⟨some 41, none, .bop .add (.c (.i .i64 1)) (.t 40)⟩,
  ⟨some 42, none, .slcA 24 1 (.t 5) (some (.c (.i .i64 1))) (some (.t 41)) none⟩,
  ⟨some 43, none, .cvb (.t 42)⟩,
  ⟨some 4, none, .mv (.t 43)⟩])
  .ret))))))))
  .skip))
  (.seq (.reg [⟨some 45, none, .mv (.t 0)⟩,
  ⟨some 46, none, .cvi .u64 (.t 45)⟩,
  ⟨some 47, none, .mv (.t 1)⟩,
  ⟨some 48, none, .mv (.t 0)⟩,
  ⟨some 49, none, .bop .lss (.t 48) (.c (.i .i64 0))⟩,
  ⟨some 50, none, .call 130 [(.c .sln), (.t 46), (.t 47), (.t 49), (.c (.b false))]⟩,
  ⟨some 44, none, .mv (.t 50)⟩,
  ⟨some 51, none, .ex (.t 44) 0⟩,
  ⟨some 52, none, .ex (.t 44) 1⟩,
  ⟨some 8, none, .mv (.t 51)⟩,
  ⟨some 9, none, .mv (.t 52)⟩])
  (.seq (.reg [⟨some 53, none, .mv (.t 9)⟩,
  ⟨some 4, none, .mv (.t 53)⟩])
  .ret))))⟩
def ir22_115 : XF := ⟨26, 3, [], (.seq (.reg [⟨some 5, none, .ld false 1 (.t 1)⟩,
  ⟨some 6, none, .bop .add (.t 5) (.c (.i .i64 1))⟩,
  ⟨none, none, .st 1 (.t 1) (.t 6)⟩])
  (.seq (.reg [⟨some 7, none, .mv (.t 0)⟩,
  ⟨some 8, none, .nck (.t 7)⟩,
  ⟨some 9, none, .fa 4 (.t 8)⟩,
  ⟨some 10, none, .ld false 1 (.t 9)⟩,
  ⟨some 11, none, .len 1 (.t 10)⟩,
  ⟨some 12, none, .mv (.c (.i .i64 0))⟩])
  (.blk 0 (.loop (.seq (.reg [⟨some 13, none, .bop .lss (.t 12) (.t 11)⟩])
  (.seq (.cond (.t 13) .skip
  (.exit 0))
  (.seq (.blk 1 (.seq (.reg [⟨some 14, none, .mv (.t 12)⟩,
  ⟨some 4, none, .mv (.t 14)⟩])
  (.seq (.seq (.reg [⟨some 15, none, .ld false 1 (.t 1)⟩,
  ⟨some 16, none, .bop .gtr (.t 15) (.c (.i .i64 256))⟩])
  (.cond (.t 16) .ret
  .skip))
  (.par [⟨some 17, none, .ld false 1 (.t 2)⟩,
  ⟨some 18, none, .mv (.t 0)⟩,
  ⟨some 19, none, .nck (.t 18)⟩,
  ⟨some 20, none, .fa 4 (.t 19)⟩,
  ⟨some 21, none, .ld false 1 (.t 20)⟩,
  ⟨some 22, none, .mv (.t 4)⟩,
  ⟨some 23, none, .ia 5 (.t 21) (.t 22)⟩,
  ⟨some 24, none, .callv (.t 17) [(.t 23)]⟩] [0, 0, 2, 6, 14, 0, 62, 127]))))
  (.reg [⟨some 25, none, .bop .add (.t 12) (.c (.i .i64 1))⟩,
  ⟨some 12, none, .mv (.t 25)⟩]))))))))⟩
def ir22_116 : XF := ⟨19, 1, [(2, none)], (.seq (.reg [⟨some 2, none, .mv (.c (.i .i64 0))⟩])
  (.seq (.seq (.reg [⟨some 4, none, .mv (.t 0)⟩,
  ⟨some 5, none, .len 0 (.t 4)⟩,
  ⟨some 6, none, .mv (.c (.i .i64 0))⟩])
  (.blk 0 (.loop (.seq (.reg [⟨some 7, none, .bop .lss (.t 6) (.t 5)⟩])
  (.seq (.cond (.t 7) .skip
  (.exit 0))
  (.seq (.blk 1 (.seq (.reg [⟨some 8, none, .mv (.t 6)⟩,
  ⟨some 3, none, .mv (.t 8)⟩])
  (.seq (.par [⟨some 9, none, .mv (.t 0)⟩,
  ⟨some 10, none, .mv (.t 3)⟩,
  ⟨some 11, none, .ixS (.t 9) (.t 10)⟩,
  ⟨some 12, none, .slcA 4 2 (.c (.p 0 0)) none none none⟩,
  ⟨some 13, none, .call 97 [(.t 11), (.t 12)]⟩,
  ⟨some 14, none, .un .not (.t 13)⟩] [0, 0, 3, 0, 15, 31])
  (.cond (.t 14) (.seq (.reg [⟨some 15, none, .mv (.t 3)⟩,
  ⟨some 2, none, .mv (.t 15)⟩])
  .ret)
  .skip))))
  (.reg [⟨some 16, none, .bop .add (.t 6) (.c (.i .i64 1))⟩,
  ⟨some 6, none, .mv (.t 16)⟩])))))))
  (.seq (.reg [⟨some 17, none, .mv (.t 0)⟩,
  ⟨some 18, none, .len 0 (.t 17)⟩,
  ⟨some 2, none, .mv (.t 18)⟩])
  .ret)))⟩
def ir22_122 : XF := ⟨8, 1, [(2, none)], (.seq (.reg [⟨some 2, none, .mv (.c .sln)⟩])
  (.seq (.seq (.reg [⟨some 3, none, .mv (.t 0)⟩,
  ⟨some 4, none, .eq 1 false true (.t 3) (.c .sln)⟩])
  (.cond (.t 4) (.seq (.reg [⟨some 2, none, .mv (.c .sln)⟩])
  .ret)
  .skip))
  (.seq (.reg [⟨some 5, none, .bls 25 5 0 [] []⟩,
  ⟨some 6, none, .mv (.t 0)⟩,
  ⟨some 7, none, .app 25 5 (.t 5) (.t 6)⟩,
  ⟨some 2, none, .mv (.t 7)⟩])
  .ret)))⟩
def ir22_123 : XF := ⟨8, 1, [(2, none)], (.seq (.reg [⟨some 2, none, .mv (.c .sln)⟩])
  (.seq (.seq (.reg [⟨some 3, none, .mv (.t 0)⟩,
  ⟨some 4, none, .eq 1 false true (.t 3) (.c .sln)⟩])
  (.cond (.t 4) (.seq (.reg [⟨some 2, none, .mv (.c .sln)⟩])
  .ret)
  .skip))
  (.seq (.reg [⟨some 5, none, .bls 4 1 0 [] []⟩,
  ⟨some 6, none, .mv (.t 0)⟩,
  ⟨some 7, none, .app 4 1 (.t 5) (.t 6)⟩,
  ⟨some 2, none, .mv (.t 7)⟩])
  .ret)))⟩
def ir22_124 : XF := ⟨8, 1, [(2, none)], (.seq (.reg [⟨some 2, none, .mv (.c .sln)⟩])
  (.seq (.seq (.reg [⟨some 3, none, .mv (.t 0)⟩,
  ⟨some 4, none, .eq 1 false true (.t 3) (.c .sln)⟩])
  (.cond (.t 4) (.seq (.reg [⟨some 2, none, .mv (.c .sln)⟩])
  .ret)
  .skip))
  (.seq (.reg [⟨some 5, none, .bls 200 2 0 [] []⟩,
  ⟨some 6, none, .mv (.t 0)⟩,
  ⟨some 7, none, .app 200 2 (.t 5) (.t 6)⟩,
  ⟨some 2, none, .mv (.t 7)⟩])
  .ret)))⟩
def ir22_125 : XF := ⟨8, 1, [(2, none)], (.seq (.reg [⟨some 2, none, .mv (.c .sln)⟩])
  (.seq (.seq (.reg [⟨some 3, none, .mv (.t 0)⟩,
  ⟨some 4, none, .eq 1 false true (.t 3) (.c .sln)⟩])
  (.cond (.t 4) (.seq (.reg [⟨some 2, none, .mv (.c .sln)⟩])
  .ret)
  .skip))
  (.seq (.reg [⟨some 5, none, .bls 206 13 0 [] []⟩,
  ⟨some 6, none, .mv (.t 0)⟩,
  ⟨some 7, none, .app 206 13 (.t 5) (.t 6)⟩,
  ⟨some 2, none, .mv (.t 7)⟩])
  .ret)))⟩
def ir22_126 : XF := ⟨17, 1, [(2, none)], (.seq (.reg [⟨some 2, none, .mv (.c (.i .i64 0))⟩])
  (.seq (.reg [⟨some 3, none, .mv (.c (.i .i64 0))⟩])
  (.seq (.blk 0 (.loop (.seq (.seq (.reg [⟨some 4, none, .mv (.t 3)⟩,
  ⟨some 5, none, .mv (.t 0)⟩,
  ⟨some 6, none, .len 0 (.t 5)⟩,
  ⟨some 7, none, .bop .lss (.t 4) (.t 6)⟩,
  ⟨some 8, none, .mv (.t 7)⟩,
  ⟨some 9, some (8, true), .mv (.t 0)⟩,
  ⟨some 10, some (8, true), .mv (.t 3)⟩,
  ⟨some 11, some (8, true), .ixS (.t 9) (.t 10)⟩,
  ⟨some 12, some (8, true), .call 134 [(.t 11)]⟩,
  ⟨some 13, none, .pick (.t 8) (.t 12) (.c (.b false))⟩])
  (.cond (.t 13) .skip
  (.exit 0)))
  (.blk 1 (.reg [⟨some 14, none, .mv (.t 3)⟩,
  ⟨some 15, none, .bop .add (.t 14) (.c (.i .i64 1))⟩,
  ⟨some 3, none, .mv (.t 15)⟩])))))
  (.seq (.reg [⟨some 16, none, .mv (.t 3)⟩,
  ⟨some 2, none, .mv (.t 16)⟩])
  .ret))))⟩
def ir22_127 : XF := ⟨15, 1, [(2, none)], (.seq (.reg [⟨some 2, none, .mv (.c (.s []))⟩])
  (.seq (.seq (.reg [⟨some 3, none, .mv (.t 0)⟩,
  ⟨some 4, none, .bop .lss (.t 3) (.c (.i .i64 10))⟩])
  (.cond (.t 4) (.seq (.reg [⟨some 5, none, .mv (.t 0)⟩,
  ⟨some 6, none, .mv (.t 0)⟩,
  ⟨some 7, none, .bop .add (.t 6) (.c (.i .i64 1))⟩,
  ⟨some 8, none, .slcS (.c (.s [48, 49, 50, 51, 52, 53, 54, 55, 56, 57, 97, 98, 99, 100, 101, 102, 103, 104, 105, 106, 107, 108, 109, 110, 111, 112, 113, 114, 115, 116, 117, 118, 119, 120, 121, 122])) (some (.t 5)) (some (.t 7))⟩,
  ⟨some 2, none, .mv (.t 8)⟩])
  .ret)
  .skip))
  (.seq (.reg [⟨some 9, none, .mv (.t 0)⟩,
  ⟨some 10, none, .bop .mul (.t 9) (.c (.i .i64 2))⟩,
  ⟨some 11, none, .mv (.t 0)⟩,
  ⟨some 12, none, .bop .mul (.t 11) (.c (.i .i64 2))⟩,
  ⟨some 13, none, .bop .add (.t 12) (.c (.i .i64 2))⟩,
  ⟨some 14, none, .slcS (.c (.s [48, 48, 48, 49, 48, 50, 48, 51, 48, 52, 48, 53, 48, 54, 48, 55, 48, 56, 48, 57, 49, 48, 49, 49, 49, 50, 49, 51, 49, 52, 49, 53, 49, 54, 49, 55, 49, 56, 49, 57, 50, 48, 50, 49, 50, 50, 50, 51, 50, 52, 50, 53, 50, 54, 50, 55, 50, 56, 50, 57, 51, 48, 51, 49, 51, 50, 51, 51, 51, 52, 51, 53, 51, 54, 51, 55, 51, 56, 51, 57, 52, 48, 52, 49, 52, 50, 52, 51, 52, 52, 52, 53, 52, 54, 52, 55, 52, 56, 52, 57, 53, 48, 53, 49, 53, 50, 53, 51, 53, 52, 53, 53, 53, 54, 53, 55, 53, 56, 53, 57, 54, 48, 54, 49, 54, 50, 54, 51, 54, 52, 54, 53, 54, 54, 54, 55, 54, 56, 54, 57, 55, 48, 55, 49, 55, 50, 55, 51, 55, 52, 55, 53, 55, 54, 55, 55, 55, 56, 55, 57, 56, 48, 56, 49, 56, 50, 56, 51, 56, 52, 56, 53, 56, 54, 56, 55, 56, 56, 56, 57, 57, 48, 57, 49, 57, 50, 57, 51, 57, 52, 57, 53, 57, 54, 57, 55, 57, 56, 57, 57])) (some (.t 10)) (some (.t 13))⟩,
  ⟨some 2, none, .mv (.t 14)⟩])
  .ret)))⟩
def ir22_134 : XF := ⟨29, 1, [(2, none)], (.seq (.reg [⟨some 2, none, .mv (.c (.b false))⟩])
  (.seq (.reg [⟨some 3, none, .mv (.t 0)⟩,
  ⟨some 4, none, .bop .geq (.t 3) (.c (.i .u8 97))⟩,
  ⟨some 5, none, .mv (.t 4)⟩,
  ⟨some 6, some (5, true), .mv (.t 0)⟩,
  ⟨some 7, some (5, true), .bop .leq (.t 6) (.c (.i .u8 122))⟩,
  ⟨some 8, none, .pick (.t 5) (.t 7) (.c (.b false))⟩,
  ⟨some 9, none, .mv (.t 8)⟩,
  ⟨some 10, some (9, false), .mv (.t 0)⟩,
  ⟨some 11, some (9, false), .bop .geq (.t 10) (.c (.i .u8 65))⟩,
  ⟨some 12, some (9, false), .mv (.t 11)⟩,
  ⟨some 13, some (12, true), .mv (.t 0)⟩,
  ⟨some 14, some (12, true), .bop .leq (.t 13) (.c (.i .u8 90))⟩,
  ⟨some 15, some (9, false), .pick (.t 12) (.t 14) (.c (.b false))⟩,
  ⟨some 16, none, .pick (.t 9) (.c (.b true)) (.t 15)⟩,
  ⟨some 17, none, .mv (.t 16)⟩,
  ⟨some 18, some (17, false), .mv (.t 0)⟩,
  ⟨some 19, some (17, false), .bop .geq (.t 18) (.c (.i .u8 48))⟩,
  ⟨some 20, some (17, false), .mv (.t 19)⟩,
  ⟨some 21, some (20, true), .mv (.t 0)⟩,
  ⟨some 22, some (20, true), .bop .leq (.t 21) (.c (.i .u8 57))⟩,
  ⟨some 23, some (17, false), .pick (.t 20) (.t 22) (.c (.b false))⟩,
  ⟨some 24, none, .pick (.t 17) (.c (.b true)) (.t 23)⟩,
  ⟨some 25, none, .mv (.t 24)⟩,
  ⟨some 26, some (25, false), .mv (.t 0)⟩,
  ⟨some 27, some (25, false), .bop .eql (.t 26) (.c (.i .u8 95))⟩,
  ⟨some 28, none, .pick (.t 25) (.c (.b true)) (.t 27)⟩,
  ⟨some 2, none, .mv (.t 28)⟩])
  .ret))⟩
def irTab22 : Trie XF := (.nd (.nd (.nd (.nd (.nd (.nd (.nd (.nd .lf (some ir22_127) .lf) (some ir22_63) .lf) (some ir22_31) (.nd .lf (some ir22_95) .lf)) none (.nd .lf (some ir22_47) (.nd .lf (some ir22_111) .lf))) none (.nd (.nd .lf (some ir22_39) (.nd .lf (some ir22_103) .lf)) (some ir22_23) (.nd (.nd .lf (some ir22_87) .lf) (some ir22_55) .lf))) none (.nd (.nd (.nd (.nd .lf (some ir22_67) .lf) (some ir22_35) .lf) (some ir22_19) (.nd (.nd .lf (some ir22_83) .lf) (some ir22_51) (.nd .lf (some ir22_115) .lf))) (some ir22_11) (.nd (.nd (.nd .lf (some ir22_75) .lf) (some ir22_43) (.nd .lf (some ir22_107) .lf)) none (.nd (.nd .lf (some ir22_91) .lf) (some ir22_59) (.nd .lf (some ir22_123) .lf))))) none (.nd (.nd (.nd (.nd (.nd .lf (some ir22_65) .lf) (some ir22_33) (.nd .lf (some ir22_97) .lf)) none (.nd (.nd .lf (some ir22_81) .lf) none (.nd .lf (some ir22_113) .lf))) none (.nd (.nd (.nd .lf (some ir22_73) .lf) (some ir22_41) .lf) (some ir22_25) (.nd (.nd .lf (some ir22_89) .lf) none .lf))) (some ir22_5) (.nd (.nd .lf (some ir22_21) (.nd (.nd .lf (some ir22_85) .lf) (some ir22_53) .lf)) (some ir22_13) (.nd (.nd .lf (some ir22_45) (.nd .lf (some ir22_109) .lf)) none (.nd (.nd .lf (some ir22_93) .lf) (some ir22_61) (.nd .lf (some ir22_125) .lf)))))) none (.nd (.nd (.nd (.nd (.nd (.nd .lf (some ir22_64) .lf) (some ir22_32) (.nd .lf (some ir22_96) .lf)) none (.nd (.nd .lf (some ir22_80) .lf) (some ir22_48) .lf)) none (.nd (.nd (.nd .lf (some ir22_72) .lf) (some ir22_40) .lf) (some ir22_24) (.nd (.nd .lf (some ir22_88) .lf) none .lf))) none (.nd (.nd (.nd (.nd .lf (some ir22_68) .lf) (some ir22_36) .lf) (some ir22_20) (.nd (.nd .lf (some ir22_84) .lf) (some ir22_52) (.nd .lf (some ir22_116) .lf))) none (.nd (.nd .lf (some ir22_44) (.nd .lf (some ir22_108) .lf)) none (.nd (.nd .lf (some ir22_92) .lf) (some ir22_60) (.nd .lf (some ir22_124) .lf))))) none (.nd (.nd (.nd (.nd (.nd .lf (some ir22_66) .lf) (some ir22_34) .lf) (some ir22_18) (.nd (.nd .lf (some ir22_82) .lf) (some ir22_50) (.nd .lf (some ir22_114) .lf))) (some ir22_10) (.nd (.nd (.nd .lf (some ir22_74) .lf) (some ir22_42) .lf) (some ir22_26) (.nd .lf (some ir22_58) (.nd .lf (some ir22_122) .lf)))) (some ir22_6) (.nd (.nd (.nd (.nd (.nd .lf (some ir22_134) .lf) (some ir22_70) .lf) none .lf) (some ir22_22) (.nd .lf (some ir22_54) .lf)) none (.nd (.nd (.nd .lf (some ir22_78) .lf) (some ir22_46) (.nd .lf (some ir22_110) .lf)) none (.nd .lf (some ir22_62) (.nd .lf (some ir22_126) .lf)))))))
theorem irc22_5 : cFunc Tryz.prog Tryz.f5 = some ir22_5 := by kernel_rfl
theorem irc22_6 : cFunc Tryz.prog Tryz.f6 = some ir22_6 := by kernel_rfl
theorem irc22_10 : cFunc Tryz.prog Tryz.f10 = some ir22_10 := by kernel_rfl
theorem irc22_11 : cFunc Tryz.prog Tryz.f11 = some ir22_11 := by kernel_rfl
theorem irc22_13 : cFunc Tryz.prog Tryz.f13 = some ir22_13 := by kernel_rfl
theorem irc22_18 : cFunc Tryz.prog Tryz.f18 = some ir22_18 := by kernel_rfl
theorem irc22_19 : cFunc Tryz.prog Tryz.f19 = some ir22_19 := by kernel_rfl
theorem irc22_20 : cFunc Tryz.prog Tryz.f20 = some ir22_20 := by kernel_rfl
theorem irc22_21 : cFunc Tryz.prog Tryz.f21 = some ir22_21 := by kernel_rfl
theorem irc22_22 : cFunc Tryz.prog Tryz.f22 = some ir22_22 := by kernel_rfl
theorem irc22_23 : cFunc Tryz.prog Tryz.f23 = some ir22_23 := by kernel_rfl
theorem irc22_24 : cFunc Tryz.prog Tryz.f24 = some ir22_24 := by kernel_rfl
theorem irc22_25 : cFunc Tryz.prog Tryz.f25 = some ir22_25 := by kernel_rfl
theorem irc22_26 : cFunc Tryz.prog Tryz.f26 = some ir22_26 := by kernel_rfl
theorem irc22_31 : cFunc Tryz.prog Tryz.f31 = some ir22_31 := by kernel_rfl
theorem irc22_32 : cFunc Tryz.prog Tryz.f32 = some ir22_32 := by kernel_rfl
theorem irc22_33 : cFunc Tryz.prog Tryz.f33 = some ir22_33 := by kernel_rfl
theorem irc22_34 : cFunc Tryz.prog Tryz.f34 = some ir22_34 := by kernel_rfl
theorem irc22_35 : cFunc Tryz.prog Tryz.f35 = some ir22_35 := by kernel_rfl
theorem irc22_36 : cFunc Tryz.prog Tryz.f36 = some ir22_36 := by kernel_rfl
theorem irc22_39 : cFunc Tryz.prog Tryz.f39 = some ir22_39 := by kernel_rfl
theorem irc22_40 : cFunc Tryz.prog Tryz.f40 = some ir22_40 := by kernel_rfl
theorem irc22_41 : cFunc Tryz.prog Tryz.f41 = some ir22_41 := by kernel_rfl
theorem irc22_42 : cFunc Tryz.prog Tryz.f42 = some ir22_42 := by kernel_rfl
theorem irc22_43 : cFunc Tryz.prog Tryz.f43 = some ir22_43 := by kernel_rfl
theorem irc22_44 : cFunc Tryz.prog Tryz.f44 = some ir22_44 := by kernel_rfl
theorem irc22_45 : cFunc Tryz.prog Tryz.f45 = some ir22_45 := by kernel_rfl
theorem irc22_46 : cFunc Tryz.prog Tryz.f46 = some ir22_46 := by kernel_rfl
theorem irc22_47 : cFunc Tryz.prog Tryz.f47 = some ir22_47 := by kernel_rfl
theorem irc22_48 : cFunc Tryz.prog Tryz.f48 = some ir22_48 := by kernel_rfl
theorem irc22_50 : cFunc Tryz.prog Tryz.f50 = some ir22_50 := by kernel_rfl
theorem irc22_51 : cFunc Tryz.prog Tryz.f51 = some ir22_51 := by kernel_rfl
theorem irc22_52 : cFunc Tryz.prog Tryz.f52 = some ir22_52 := by kernel_rfl
theorem irc22_53 : cFunc Tryz.prog Tryz.f53 = some ir22_53 := by kernel_rfl
theorem irc22_54 : cFunc Tryz.prog Tryz.f54 = some ir22_54 := by kernel_rfl
theorem irc22_55 : cFunc Tryz.prog Tryz.f55 = some ir22_55 := by kernel_rfl
theorem irc22_58 : cFunc Tryz.prog Tryz.f58 = some ir22_58 := by kernel_rfl
theorem irc22_59 : cFunc Tryz.prog Tryz.f59 = some ir22_59 := by kernel_rfl
theorem irc22_60 : cFunc Tryz.prog Tryz.f60 = some ir22_60 := by kernel_rfl
theorem irc22_61 : cFunc Tryz.prog Tryz.f61 = some ir22_61 := by kernel_rfl
theorem irc22_62 : cFunc Tryz.prog Tryz.f62 = some ir22_62 := by kernel_rfl
theorem irc22_63 : cFunc Tryz.prog Tryz.f63 = some ir22_63 := by kernel_rfl
theorem irc22_64 : cFunc Tryz.prog Tryz.f64 = some ir22_64 := by kernel_rfl
theorem irc22_65 : cFunc Tryz.prog Tryz.f65 = some ir22_65 := by kernel_rfl
theorem irc22_66 : cFunc Tryz.prog Tryz.f66 = some ir22_66 := by kernel_rfl
theorem irc22_67 : cFunc Tryz.prog Tryz.f67 = some ir22_67 := by kernel_rfl
theorem irc22_68 : cFunc Tryz.prog Tryz.f68 = some ir22_68 := by kernel_rfl
theorem irc22_70 : cFunc Tryz.prog Tryz.f70 = some ir22_70 := by kernel_rfl
theorem irc22_72 : cFunc Tryz.prog Tryz.f72 = some ir22_72 := by kernel_rfl
theorem irc22_73 : cFunc Tryz.prog Tryz.f73 = some ir22_73 := by kernel_rfl
theorem irc22_74 : cFunc Tryz.prog Tryz.f74 = some ir22_74 := by kernel_rfl
theorem irc22_75 : cFunc Tryz.prog Tryz.f75 = some ir22_75 := by kernel_rfl
theorem irc22_78 : cFunc Tryz.prog Tryz.f78 = some ir22_78 := by kernel_rfl
theorem irc22_80 : cFunc Tryz.prog Tryz.f80 = some ir22_80 := by kernel_rfl
theorem irc22_81 : cFunc Tryz.prog Tryz.f81 = some ir22_81 := by kernel_rfl
theorem irc22_82 : cFunc Tryz.prog Tryz.f82 = some ir22_82 := by kernel_rfl
theorem irc22_83 : cFunc Tryz.prog Tryz.f83 = some ir22_83 := by kernel_rfl
theorem irc22_84 : cFunc Tryz.prog Tryz.f84 = some ir22_84 := by kernel_rfl
theorem irc22_85 : cFunc Tryz.prog Tryz.f85 = some ir22_85 := by kernel_rfl
theorem irc22_87 : cFunc Tryz.prog Tryz.f87 = some ir22_87 := by kernel_rfl
theorem irc22_88 : cFunc Tryz.prog Tryz.f88 = some ir22_88 := by kernel_rfl
theorem irc22_89 : cFunc Tryz.prog Tryz.f89 = some ir22_89 := by kernel_rfl
theorem irc22_91 : cFunc Tryz.prog Tryz.f91 = some ir22_91 := by kernel_rfl
theorem irc22_92 : cFunc Tryz.prog Tryz.f92 = some ir22_92 := by kernel_rfl
theorem irc22_93 : cFunc Tryz.prog Tryz.f93 = some ir22_93 := by kernel_rfl
theorem irc22_95 : cFunc Tryz.prog Tryz.f95 = some ir22_95 := by kernel_rfl
theorem irc22_96 : cFunc Tryz.prog Tryz.f96 = some ir22_96 := by kernel_rfl
theorem irc22_97 : cFunc Tryz.prog Tryz.f97 = some ir22_97 := by kernel_rfl
theorem irc22_103 : cFunc Tryz.prog Tryz.f103 = some ir22_103 := by kernel_rfl
theorem irc22_107 : cFunc Tryz.prog Tryz.f107 = some ir22_107 := by kernel_rfl
theorem irc22_108 : cFunc Tryz.prog Tryz.f108 = some ir22_108 := by kernel_rfl
theorem irc22_109 : cFunc Tryz.prog Tryz.f109 = some ir22_109 := by kernel_rfl
theorem irc22_110 : cFunc Tryz.prog Tryz.f110 = some ir22_110 := by kernel_rfl
theorem irc22_111 : cFunc Tryz.prog Tryz.f111 = some ir22_111 := by kernel_rfl
theorem irc22_113 : cFunc Tryz.prog Tryz.f113 = some ir22_113 := by kernel_rfl
theorem irc22_114 : cFunc Tryz.prog Tryz.f114 = some ir22_114 := by kernel_rfl
theorem irc22_115 : cFunc Tryz.prog Tryz.f115 = some ir22_115 := by kernel_rfl
theorem irc22_116 : cFunc Tryz.prog Tryz.f116 = some ir22_116 := by kernel_rfl
theorem irc22_122 : cFunc Tryz.prog Tryz.f122 = some ir22_122 := by kernel_rfl
theorem irc22_123 : cFunc Tryz.prog Tryz.f123 = some ir22_123 := by kernel_rfl
theorem irc22_124 : cFunc Tryz.prog Tryz.f124 = some ir22_124 := by kernel_rfl
theorem irc22_125 : cFunc Tryz.prog Tryz.f125 = some ir22_125 := by kernel_rfl
theorem irc22_126 : cFunc Tryz.prog Tryz.f126 = some ir22_126 := by kernel_rfl
theorem irc22_127 : cFunc Tryz.prog Tryz.f127 = some ir22_127 := by kernel_rfl
theorem irc22_134 : cFunc Tryz.prog Tryz.f134 = some ir22_134 := by kernel_rfl
def irList22 : List (Nat × XF) := [(5, ir22_5), (6, ir22_6), (10, ir22_10), (11, ir22_11), (13, ir22_13), (18, ir22_18), (19, ir22_19), (20, ir22_20), (21, ir22_21), (22, ir22_22), (23, ir22_23), (24, ir22_24), (25, ir22_25), (26, ir22_26), (31, ir22_31), (32, ir22_32), (33, ir22_33), (34, ir22_34), (35, ir22_35), (36, ir22_36), (39, ir22_39), (40, ir22_40), (41, ir22_41), (42, ir22_42), (43, ir22_43), (44, ir22_44), (45, ir22_45), (46, ir22_46), (47, ir22_47), (48, ir22_48), (50, ir22_50), (51, ir22_51), (52, ir22_52), (53, ir22_53), (54, ir22_54), (55, ir22_55), (58, ir22_58), (59, ir22_59), (60, ir22_60), (61, ir22_61), (62, ir22_62), (63, ir22_63), (64, ir22_64), (65, ir22_65), (66, ir22_66), (67, ir22_67), (68, ir22_68), (70, ir22_70), (72, ir22_72), (73, ir22_73), (74, ir22_74), (75, ir22_75), (78, ir22_78), (80, ir22_80), (81, ir22_81), (82, ir22_82), (83, ir22_83), (84, ir22_84), (85, ir22_85), (87, ir22_87), (88, ir22_88), (89, ir22_89), (91, ir22_91), (92, ir22_92), (93, ir22_93), (95, ir22_95), (96, ir22_96), (97, ir22_97), (103, ir22_103), (107, ir22_107), (108, ir22_108), (109, ir22_109), (110, ir22_110), (111, ir22_111), (113, ir22_113), (114, ir22_114), (115, ir22_115), (116, ir22_116), (122, ir22_122), (123, ir22_123), (124, ir22_124), (125, ir22_125), (126, ir22_126), (127, ir22_127), (134, ir22_134)]
theorem irTab_eq22 : irTab22 = ofList irList22 := by kernel_rfl
theorem irSmall22 : smallAll irList22 = true := by kernel_rfl
theorem irTab_ok22 : TabOk Tryz.prog irTab22 := tab_of irTab_eq22 irSmall22 fun p hp => by
  simp only [irList22, List.mem_cons, List.not_mem_nil, or_false] at hp
  rcases hp with rfl | rfl | rfl | rfl | rfl | rfl | rfl | rfl | rfl | rfl | rfl | rfl | rfl | rfl | rfl | rfl | rfl | rfl | rfl | rfl | rfl | rfl | rfl | rfl | rfl | rfl | rfl | rfl | rfl | rfl | rfl | rfl | rfl | rfl | rfl | rfl | rfl | rfl | rfl | rfl | rfl | rfl | rfl | rfl | rfl | rfl | rfl | rfl | rfl | rfl | rfl | rfl | rfl | rfl | rfl | rfl | rfl | rfl | rfl | rfl | rfl | rfl | rfl | rfl | rfl | rfl | rfl | rfl | rfl | rfl | rfl | rfl | rfl | rfl | rfl | rfl | rfl | rfl | rfl | rfl | rfl | rfl | rfl | rfl | rfl
  · exact ⟨_, Tryz.func5, irc22_5⟩
  · exact ⟨_, Tryz.func6, irc22_6⟩
  · exact ⟨_, Tryz.func10, irc22_10⟩
  · exact ⟨_, Tryz.func11, irc22_11⟩
  · exact ⟨_, Tryz.func13, irc22_13⟩
  · exact ⟨_, Tryz.func18, irc22_18⟩
  · exact ⟨_, Tryz.func19, irc22_19⟩
  · exact ⟨_, Tryz.func20, irc22_20⟩
  · exact ⟨_, Tryz.func21, irc22_21⟩
  · exact ⟨_, Tryz.func22, irc22_22⟩
  · exact ⟨_, Tryz.func23, irc22_23⟩
  · exact ⟨_, Tryz.func24, irc22_24⟩
  · exact ⟨_, Tryz.func25, irc22_25⟩
  · exact ⟨_, Tryz.func26, irc22_26⟩
  · exact ⟨_, Tryz.func31, irc22_31⟩
  · exact ⟨_, Tryz.func32, irc22_32⟩
  · exact ⟨_, Tryz.func33, irc22_33⟩
  · exact ⟨_, Tryz.func34, irc22_34⟩
  · exact ⟨_, Tryz.func35, irc22_35⟩
  · exact ⟨_, Tryz.func36, irc22_36⟩
  · exact ⟨_, Tryz.func39, irc22_39⟩
  · exact ⟨_, Tryz.func40, irc22_40⟩
  · exact ⟨_, Tryz.func41, irc22_41⟩
  · exact ⟨_, Tryz.func42, irc22_42⟩
  · exact ⟨_, Tryz.func43, irc22_43⟩
  · exact ⟨_, Tryz.func44, irc22_44⟩
  · exact ⟨_, Tryz.func45, irc22_45⟩
  · exact ⟨_, Tryz.func46, irc22_46⟩
  · exact ⟨_, Tryz.func47, irc22_47⟩
  · exact ⟨_, Tryz.func48, irc22_48⟩
  · exact ⟨_, Tryz.func50, irc22_50⟩
  · exact ⟨_, Tryz.func51, irc22_51⟩
  · exact ⟨_, Tryz.func52, irc22_52⟩
  · exact ⟨_, Tryz.func53, irc22_53⟩
  · exact ⟨_, Tryz.func54, irc22_54⟩
  · exact ⟨_, Tryz.func55, irc22_55⟩
  · exact ⟨_, Tryz.func58, irc22_58⟩
  · exact ⟨_, Tryz.func59, irc22_59⟩
  · exact ⟨_, Tryz.func60, irc22_60⟩
  · exact ⟨_, Tryz.func61, irc22_61⟩
  · exact ⟨_, Tryz.func62, irc22_62⟩
  · exact ⟨_, Tryz.func63, irc22_63⟩
  · exact ⟨_, Tryz.func64, irc22_64⟩
  · exact ⟨_, Tryz.func65, irc22_65⟩
  · exact ⟨_, Tryz.func66, irc22_66⟩
  · exact ⟨_, Tryz.func67, irc22_67⟩
  · exact ⟨_, Tryz.func68, irc22_68⟩
  · exact ⟨_, Tryz.func70, irc22_70⟩
  · exact ⟨_, Tryz.func72, irc22_72⟩
  · exact ⟨_, Tryz.func73, irc22_73⟩
  · exact ⟨_, Tryz.func74, irc22_74⟩
  · exact ⟨_, Tryz.func75, irc22_75⟩
  · exact ⟨_, Tryz.func78, irc22_78⟩
  · exact ⟨_, Tryz.func80, irc22_80⟩
  · exact ⟨_, Tryz.func81, irc22_81⟩
  · exact ⟨_, Tryz.func82, irc22_82⟩
  · exact ⟨_, Tryz.func83, irc22_83⟩
  · exact ⟨_, Tryz.func84, irc22_84⟩
  · exact ⟨_, Tryz.func85, irc22_85⟩
  · exact ⟨_, Tryz.func87, irc22_87⟩
  · exact ⟨_, Tryz.func88, irc22_88⟩
  · exact ⟨_, Tryz.func89, irc22_89⟩
  · exact ⟨_, Tryz.func91, irc22_91⟩
  · exact ⟨_, Tryz.func92, irc22_92⟩
  · exact ⟨_, Tryz.func93, irc22_93⟩
  · exact ⟨_, Tryz.func95, irc22_95⟩
  · exact ⟨_, Tryz.func96, irc22_96⟩
  · exact ⟨_, Tryz.func97, irc22_97⟩
  · exact ⟨_, Tryz.func103, irc22_103⟩
  · exact ⟨_, Tryz.func107, irc22_107⟩
  · exact ⟨_, Tryz.func108, irc22_108⟩
  · exact ⟨_, Tryz.func109, irc22_109⟩
  · exact ⟨_, Tryz.func110, irc22_110⟩
  · exact ⟨_, Tryz.func111, irc22_111⟩
  · exact ⟨_, Tryz.func113, irc22_113⟩
  · exact ⟨_, Tryz.func114, irc22_114⟩
  · exact ⟨_, Tryz.func115, irc22_115⟩
  · exact ⟨_, Tryz.func116, irc22_116⟩
  · exact ⟨_, Tryz.func122, irc22_122⟩
  · exact ⟨_, Tryz.func123, irc22_123⟩
  · exact ⟨_, Tryz.func124, irc22_124⟩
  · exact ⟨_, Tryz.func125, irc22_125⟩
  · exact ⟨_, Tryz.func126, irc22_126⟩
  · exact ⟨_, Tryz.func127, irc22_127⟩
  · exact ⟨_, Tryz.func134, irc22_134⟩
theorem follows_mix22 : Tryz.prog.follows .mixedOrders = true := by kernel_rfl
theorem size_g22 : Tryz.prog.globals.size = 4 := by kernel_rfl
def letterVals22 : List Value := [.int .u8 97, .int .u8 122, .int .u8 65, .int .u8 90, .int .u8 48, .int .u8 57, .int .u8 95, .int .u8 95]
def told22 : List (Nat × List TV) := [(0, [.i .u8 97, .i .u8 122, .i .u8 65, .i .u8 90, .i .u8 48, .i .u8 57, .i .u8 95, .i .u8 95])]
def wkT22 : List (Nat × String × Nat) := []
def wkM22 (lay : Nat → List Kd) : Meth := ⟨tabM wkT22, fun _ _ => none, lay⟩
theorem wkM_ok22 {ρ : Cx} (hp : ρ.prog = Tryz.prog) : MethOk Tryz.prog ρ (wkM22 ρ.lay) := ⟨tabM_ok (l := wkT22) fun x hx =>  (by cases hx), fun _ _ _ h => (by cases h), rfl, hp⟩
def wkO22 : List (Nat × (List TV → SH → Option (TV × SH))) := [(99, kOrc 119 102), (101, kOrc 120 77), (98, skOrc [119, 120] 3), (76, dfOrc)]
theorem irRun22 (lay : Nat → List Kd) (tys : Nat → Nat) : okv (run (wkM22 lay) irTab22 (listOrc wkO22) 100000 200 (.fn 5) [] (startL 4 told22 tys)) = true := by kernel_rfl
/-- The law's wakes, at any memory in which the variables that it reads are laid. -/
theorem wakes22 {ρ : Cx} (hp : ρ.prog = Tryz.prog) (hρ : ∀ j, scalV (ρ j)) (hl : (0, letterVals22) ∈ ρ.tl) : PureC Tryz.prog ρ 5 [] (.b true) := by
  have run : ∀ (w : World) (M : Mem), MemOk M w → ToldM ρ.tl M → Calls Tryz.prog 5 #[] w fun e w' => e = .returned (.bool true) ∧ Below w.heap.size w w' := fun w M hM hT => by
    refine (shut_of hρ (wkM_ok22 hp) follows_mix22 irTab_ok22 (orc := listOrc wkO22) (fun B => listOrc_ok fun p hp => ?_) (L := told22) (by rw [size_g22]; decide) (fun p hp => ?_) (fun p hp => ?_) (fun tys => by rw [size_g22]; exact irRun22 _ tys) hM hT).2
    · simp only [wkO22, List.mem_cons, List.not_mem_nil, or_false] at hp
      rcases hp with rfl | rfl | rfl | rfl
      · exact k_ok Tryz.func99 (by kernel_rfl) (by kernel_rfl) fun mb W => keys_B mb W
      · exact k_ok Tryz.func101 (by kernel_rfl) (by kernel_rfl) fun mb W => keys_S mb W
      · refine sk_ok Tryz.func98 (by kernel_rfl) (by kernel_rfl) (fun g hg => ?_) (fun g hg => ?_)
        · simp only [List.mem_cons, List.not_mem_nil, or_false] at hg
          rcases hg with rfl | rfl
          · exact sk_B
          · exact sk_S
        · simp only [List.mem_cons, List.not_mem_nil, or_false] at hg
          rcases hg with rfl | rfl
          · exact fun W bx h1 h2 => sortedKeys_B_nil bx W h1 h2
          · exact fun W bx h1 h2 => sortedKeys_S_nil bx W h1 h2
      · exact df_ok Tryz.func76 (by kernel_rfl) (by kernel_rfl) fun W b c x fa ca h => df_S h x fa ca
    · simp only [told22, List.mem_cons, List.not_mem_nil, or_false] at hp
      rw [size_g22]
      rcases hp with rfl <;> decide
    · simp only [told22, List.mem_cons, List.not_mem_nil, or_false] at hp
      rcases hp with rfl
      · exact ⟨_, hl, by simp [letterVals22, VRs, VR, VR.VRs]⟩
  refine ⟨fun vs w => enter_of' Tryz.func5 (by kernel_rfl) (by kernel_rfl) vs w, fun w M vs hM hT hv => ?_⟩
  have hvs : vs = #[] := Array.toList_inj.1 hv
  subst hvs
  refine (run w M hM hT).mono ?_
  rintro e w' ⟨rfl, hb⟩
  exact ⟨_, M, rfl, fun _ _ q => q, fun _ _ q => .inl q, memOk_below hM hb, rfl, hb⟩
end Go.Proofs.YtgliogfggajfgaaGreatDoor.Sx
