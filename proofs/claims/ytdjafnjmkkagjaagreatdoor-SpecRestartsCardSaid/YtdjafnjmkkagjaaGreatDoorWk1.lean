/-
  A law's wakes, run by the closed runner. Conditions: the letters' table and errors.errorType are laid. The code below is printed by Gen.
-/
import Derived.Test.YtdjafnjmkkagjaaGreatDoorSx4
import Derived.Test.YtdjafnjmkkagjaaGreatDoorAs2
namespace Go.Proofs.YtdjafnjmkkagjaaGreatDoor.Sx
open Go.RowKit
set_option maxRecDepth 100000
def ir12 : XF := ⟨68, 0, [(0, none)], (.seq (.reg [⟨some 0, none, .mv (.c (.b false))⟩])
  (.seq (.reg [⟨some 14, none, .call 41 [(.c (.s [123, 97, 44, 123, 115, 101, 114, 118, 101, 114, 44, 109, 44, 49, 125, 44, 112, 101, 114, 109, 97, 110, 101, 110, 116, 44, 53, 125]))]⟩,
  ⟨some 13, none, .mv (.t 14)⟩,
  ⟨some 15, none, .ex (.t 13) 0⟩,
  ⟨some 16, none, .ex (.t 13) 1⟩,
  ⟨some 17, none, .ex (.t 13) 2⟩,
  ⟨some 1, none, .box 25 5 (.c (.ag [(.i .i8 0), (.i .i64 0), (.s []), (.s []), .sln]))⟩,
  ⟨none, none, .st 5 (.t 1) (.t 15)⟩,
  ⟨some 2, none, .mv (.t 16)⟩,
  ⟨some 3, none, .mv (.t 17)⟩])
  (.seq (.reg [⟨some 19, none, .call 41 [(.c (.s [123, 97, 44, 123, 115, 101, 114, 118, 101, 114, 44, 109, 44, 49, 125, 44, 97, 108, 119, 97, 121, 115, 44, 53, 125]))]⟩,
  ⟨some 18, none, .mv (.t 19)⟩,
  ⟨some 20, none, .ex (.t 18) 0⟩,
  ⟨some 21, none, .ex (.t 18) 1⟩,
  ⟨some 22, none, .ex (.t 18) 2⟩,
  ⟨some 4, none, .box 25 5 (.c (.ag [(.i .i8 0), (.i .i64 0), (.s []), (.s []), .sln]))⟩,
  ⟨none, none, .st 5 (.t 4) (.t 20)⟩,
  ⟨some 5, none, .mv (.t 21)⟩,
  ⟨some 6, none, .mv (.t 22)⟩])
  (.seq (.reg [⟨some 24, none, .ld true 5 (.t 1)⟩,
  ⟨some 25, none, .call 19 [(.t 24)]⟩,
  ⟨some 23, none, .mv (.t 25)⟩,
  ⟨some 26, none, .ex (.t 23) 0⟩,
  ⟨some 27, none, .ex (.t 23) 1⟩,
  ⟨some 28, none, .ex (.t 23) 2⟩,
  ⟨some 7, none, .box 28 12 (.c (.ag [(.i .i8 0), (.i .i64 0), (.s []), (.s []), .sln, (.i .i8 0), (.i .i8 0), (.i .i64 0), (.s []), (.s []), .sln, .sln]))⟩,
  ⟨none, none, .st 12 (.t 7) (.t 26)⟩,
  ⟨some 8, none, .mv (.t 27)⟩,
  ⟨some 9, none, .mv (.t 28)⟩])
  (.seq (.reg [⟨some 30, none, .ld true 5 (.t 4)⟩,
  ⟨some 31, none, .call 19 [(.t 30)]⟩,
  ⟨some 29, none, .mv (.t 31)⟩,
  ⟨some 32, none, .ex (.t 29) 0⟩,
  ⟨some 33, none, .ex (.t 29) 1⟩,
  ⟨some 34, none, .ex (.t 29) 2⟩,
  ⟨some 10, none, .box 28 12 (.c (.ag [(.i .i8 0), (.i .i64 0), (.s []), (.s []), .sln, (.i .i8 0), (.i .i8 0), (.i .i64 0), (.s []), (.s []), .sln, .sln]))⟩,
  ⟨none, none, .st 12 (.t 10) (.t 32)⟩,
  ⟨some 11, none, .mv (.t 33)⟩,
  ⟨some 12, none, .mv (.t 34)⟩])
  (.seq (.reg [⟨some 35, none, .mv (.t 3)⟩,
  ⟨some 36, none, .bop .eql (.t 35) (.c (.i .i64 0))⟩,
  ⟨some 37, none, .mv (.t 36)⟩,
  ⟨some 38, some (37, true), .mv (.t 6)⟩,
  ⟨some 39, some (37, true), .bop .eql (.t 38) (.c (.i .i64 0))⟩,
  ⟨some 40, none, .pick (.t 37) (.t 39) (.c (.b false))⟩,
  ⟨some 41, none, .mv (.t 40)⟩,
  ⟨some 42, some (41, true), .mv (.t 9)⟩,
  ⟨some 43, some (41, true), .bop .eql (.t 42) (.c (.i .i64 0))⟩,
  ⟨some 44, none, .pick (.t 41) (.t 43) (.c (.b false))⟩,
  ⟨some 45, none, .mv (.t 44)⟩,
  ⟨some 46, some (45, true), .mv (.t 8)⟩,
  ⟨some 47, some (45, true), .bop .eql (.t 46) (.c (.i .i64 0))⟩,
  ⟨some 48, none, .pick (.t 45) (.t 47) (.c (.b false))⟩,
  ⟨some 49, none, .mv (.t 48)⟩,
  ⟨some 50, some (49, true), .fa 7 (.t 7)⟩,
  ⟨some 51, some (49, true), .ld false 1 (.t 50)⟩,
  ⟨some 52, some (49, true), .bop .eql (.t 51) (.c (.i .i64 5))⟩,
  ⟨some 53, none, .pick (.t 49) (.t 52) (.c (.b false))⟩,
  ⟨some 54, none, .mv (.t 53)⟩,
  ⟨some 55, some (54, true), .fa 10 (.t 7)⟩,
  ⟨some 56, some (54, true), .ld false 1 (.t 55)⟩,
  ⟨some 57, some (54, true), .len 1 (.t 56)⟩,
  ⟨some 58, some (54, true), .bop .eql (.t 57) (.c (.i .i64 1))⟩,
  ⟨some 59, none, .pick (.t 54) (.t 58) (.c (.b false))⟩,
  ⟨some 60, none, .mv (.t 59)⟩,
  ⟨some 61, some (60, true), .mv (.t 12)⟩,
  ⟨some 62, some (60, true), .bop .eql (.t 61) (.c (.i .i64 250))⟩,
  ⟨some 63, none, .pick (.t 60) (.t 62) (.c (.b false))⟩,
  ⟨some 64, none, .mv (.t 63)⟩,
  ⟨some 65, some (64, true), .mv (.t 11)⟩,
  ⟨some 66, some (64, true), .bop .eql (.t 65) (.c (.i .i64 7))⟩,
  ⟨some 67, none, .pick (.t 64) (.t 66) (.c (.b false))⟩,
  ⟨some 0, none, .mv (.t 67)⟩])
  .ret))))))⟩
def ir15 : XF := ⟨5, 1, [(2, some (true, 5))], (.seq (.reg [⟨some 2, none, .box 25 5 (.c (.ag [(.i .i8 0), (.i .i64 0), (.s []), (.s []), .sln]))⟩])
  (.seq (.reg [⟨some 3, none, .mv (.t 0)⟩,
  ⟨some 4, none, .bld [(.i .i8 0), (.i .i64 0), (.s []), (.s []), .sln] [(0, 1, (.c (.i .i8 1))), (2, 1, (.t 3))]⟩,
  ⟨none, none, .st 5 (.t 2) (.t 4)⟩])
  .ret))⟩
def ir19 : XF := ⟨22, 1, [(2, some (true, 12)), (3, none), (4, none)], (.seq (.reg [⟨some 1, none, .box 25 5 (.t 0)⟩,
  ⟨some 2, none, .box 28 12 (.c (.ag [(.i .i8 0), (.i .i64 0), (.s []), (.s []), .sln, (.i .i8 0), (.i .i8 0), (.i .i64 0), (.s []), (.s []), .sln, .sln]))⟩,
  ⟨some 3, none, .mv (.c (.i .i64 0))⟩,
  ⟨some 4, none, .mv (.c (.i .i64 0))⟩])
  (.seq (.seq (.reg [⟨some 6, none, .ld true 5 (.t 1)⟩,
  ⟨some 7, none, .call 48 [(.t 6)]⟩,
  ⟨some 8, none, .bop .neq (.t 7) (.c (.i .i64 0))⟩])
  (.cond (.t 8) (.seq (.reg [⟨some 9, none, .ld true 12 (.t 2)⟩,
  ⟨none, none, .st 12 (.t 2) (.t 9)⟩,
  ⟨some 3, none, .mv (.c (.i .i64 0))⟩,
  ⟨some 4, none, .mv (.c (.i .i64 2))⟩])
  .ret)
  .skip))
  (.seq (.reg [⟨some 11, none, .call 49 [(.t 1), (.c (.i .i64 0))]⟩,
  ⟨some 10, none, .mv (.t 11)⟩,
  ⟨some 12, none, .ex (.t 10) 0⟩,
  ⟨some 13, none, .ex (.t 10) 1⟩,
  ⟨none, none, .st 12 (.t 2) (.t 12)⟩,
  ⟨some 5, none, .mv (.t 13)⟩])
  (.seq (.reg [⟨some 15, none, .mv (.t 5)⟩,
  ⟨some 16, none, .call 50 [(.t 15)]⟩,
  ⟨some 14, none, .mv (.t 16)⟩,
  ⟨some 17, none, .ex (.t 14) 0⟩,
  ⟨some 18, none, .ex (.t 14) 1⟩,
  ⟨some 3, none, .mv (.t 17)⟩,
  ⟨some 4, none, .mv (.t 18)⟩])
  (.seq (.reg [⟨some 19, none, .ld true 12 (.t 2)⟩,
  ⟨some 20, none, .mv (.t 3)⟩,
  ⟨some 21, none, .mv (.t 4)⟩,
  ⟨none, none, .st 12 (.t 2) (.t 19)⟩,
  ⟨some 3, none, .mv (.t 20)⟩,
  ⟨some 4, none, .mv (.t 21)⟩])
  .ret)))))⟩
def ir40 : XF := ⟨31, 2, [(4, none)], (.seq (.reg [⟨some 2, none, .box 25 5 (.t 0)⟩,
  ⟨some 4, none, .mv (.c (.i .i64 0))⟩])
  (.seq (.reg [⟨some 5, none, .mv (.c (.i .i64 1))⟩])
  (.seq (.seq (.reg [⟨some 6, none, .mv (.c (.i .i64 0))⟩])
  (.blk 0 (.loop (.seq (.seq (.reg [⟨some 7, none, .mv (.t 6)⟩,
  ⟨some 8, none, .fa 4 (.t 2)⟩,
  ⟨some 9, none, .ld false 1 (.t 8)⟩,
  ⟨some 10, none, .len 1 (.t 9)⟩,
  ⟨some 11, none, .bop .lss (.t 7) (.t 10)⟩,
  ⟨some 12, none, .mv (.t 11)⟩,
  ⟨some 13, some (12, true), .mv (.t 5)⟩,
  ⟨some 14, some (12, true), .mv (.t 1)⟩,
  ⟨some 15, some (12, true), .bop .lss (.t 13) (.t 14)⟩,
  ⟨some 16, none, .pick (.t 12) (.t 15) (.c (.b false))⟩])
  (.cond (.t 16) .skip
  (.exit 0)))
  (.seq (.blk 1 (.reg [⟨some 19, none, .mv (.t 5)⟩,
  ⟨some 20, none, .fa 4 (.t 2)⟩,
  ⟨some 21, none, .ld false 1 (.t 20)⟩,
  ⟨some 22, none, .mv (.t 6)⟩,
  ⟨some 23, none, .ia 5 (.t 21) (.t 22)⟩,
  ⟨some 24, none, .ld true 5 (.t 23)⟩,
  ⟨some 25, none, .mv (.t 1)⟩,
  ⟨some 26, none, .mv (.t 5)⟩,
  ⟨some 27, none, .bop .sub (.t 25) (.t 26)⟩,
  ⟨some 28, none, .call 40 [(.t 24), (.t 27)]⟩,
  ⟨some 29, none, .bop .add (.t 19) (.t 28)⟩,
  ⟨some 5, none, .mv (.t 29)⟩]))
  (.reg [⟨some 17, none, .mv (.t 6)⟩,
  ⟨some 18, none, .bop .add (.t 17) (.c (.i .i64 1))⟩,
  ⟨some 6, none, .mv (.t 18)⟩]))))))
  (.seq (.reg [⟨some 30, none, .mv (.t 5)⟩,
  ⟨some 4, none, .mv (.t 30)⟩])
  .ret))))⟩
def ir41 : XF := ⟨31, 1, [(2, some (true, 5)), (3, none), (4, none)], (.seq (.reg [⟨some 2, none, .box 25 5 (.c (.ag [(.i .i8 0), (.i .i64 0), (.s []), (.s []), .sln]))⟩,
  ⟨some 3, none, .mv (.c (.i .i64 0))⟩,
  ⟨some 4, none, .mv (.c (.i .i64 0))⟩])
  (.seq (.reg [⟨some 7, none, .mv (.t 0)⟩,
  ⟨some 8, none, .bld [(.s []), (.i .i64 0), (.i .i64 0), (.i .i64 0)] [(0, 1, (.t 7))]⟩,
  ⟨some 9, none, .box 130 4 (.t 8)⟩,
  ⟨some 5, none, .mv (.t 9)⟩])
  (.seq (.reg [⟨some 10, none, .mv (.t 5)⟩,
  ⟨some 11, none, .call 85 [(.t 10)]⟩,
  ⟨some 6, none, .box 25 5 (.c (.ag [(.i .i8 0), (.i .i64 0), (.s []), (.s []), .sln]))⟩,
  ⟨none, none, .st 5 (.t 6) (.t 11)⟩])
  (.seq (.seq (.reg [⟨some 12, none, .mv (.t 5)⟩,
  ⟨some 13, none, .nck (.t 12)⟩,
  ⟨some 14, none, .fa 3 (.t 13)⟩,
  ⟨some 15, none, .ld false 1 (.t 14)⟩,
  ⟨some 16, none, .bop .neq (.t 15) (.c (.i .i64 0))⟩])
  (.cond (.t 16) (.seq (.par [⟨some 17, none, .bld [(.i .i8 0), (.i .i64 0), (.s []), (.s []), .sln] []⟩,
  ⟨some 18, none, .mv (.t 5)⟩,
  ⟨some 19, none, .nck (.t 18)⟩,
  ⟨some 20, none, .fa 3 (.t 19)⟩,
  ⟨some 21, none, .ld false 1 (.t 20)⟩,
  ⟨none, none, .st 5 (.t 2) (.t 17)⟩,
  ⟨some 3, none, .mv (.c (.i .i64 0))⟩,
  ⟨some 4, none, .mv (.t 21)⟩] [0, 0, 2, 6, 14, 1, 33, 127])
  .ret)
  .skip))
  (.seq (.seq (.reg [⟨some 22, none, .ld true 5 (.t 6)⟩,
  ⟨some 23, none, .call 54 [(.t 22)]⟩,
  ⟨some 24, none, .bop .gtr (.t 23) (.c (.i .i64 256))⟩])
  (.cond (.t 24) (.seq (.reg [⟨some 25, none, .bld [(.i .i8 0), (.i .i64 0), (.s []), (.s []), .sln] []⟩,
  ⟨none, none, .st 5 (.t 2) (.t 25)⟩,
  ⟨some 3, none, .mv (.c (.i .i64 0))⟩,
  ⟨some 4, none, .mv (.c (.i .i64 11))⟩])
  .ret)
  .skip))
  (.seq (.par [⟨some 26, none, .ld true 5 (.t 6)⟩,
  ⟨some 27, none, .mv (.t 5)⟩,
  ⟨some 28, none, .nck (.t 27)⟩,
  ⟨some 29, none, .fa 1 (.t 28)⟩,
  ⟨some 30, none, .ld false 1 (.t 29)⟩,
  ⟨none, none, .st 5 (.t 2) (.t 26)⟩,
  ⟨some 3, none, .mv (.t 30)⟩,
  ⟨some 4, none, .mv (.c (.i .i64 0))⟩] [0, 0, 2, 6, 14, 1, 63, 127])
  .ret))))))⟩
def ir42 : XF := ⟨18, 2, [(4, none)], (.seq (.reg [⟨some 4, none, .mv (.c (.b false))⟩])
  (.seq (.reg [⟨some 5, none, .mv (.t 0)⟩,
  ⟨some 6, none, .nck (.t 5)⟩,
  ⟨some 7, none, .fa 0 (.t 6)⟩,
  ⟨some 8, none, .ld false 1 (.t 7)⟩,
  ⟨some 9, none, .bop .eql (.t 8) (.c (.i .i8 1))⟩,
  ⟨some 10, none, .mv (.t 9)⟩,
  ⟨some 11, some (10, true), .mv (.t 0)⟩,
  ⟨some 12, some (10, true), .nck (.t 11)⟩,
  ⟨some 13, some (10, true), .fa 2 (.t 12)⟩,
  ⟨some 14, some (10, true), .ld false 1 (.t 13)⟩,
  ⟨some 15, some (10, true), .mv (.t 1)⟩,
  ⟨some 16, some (10, true), .bop .eql (.t 14) (.t 15)⟩,
  ⟨some 17, none, .pick (.t 10) (.t 16) (.c (.b false))⟩,
  ⟨some 4, none, .mv (.t 17)⟩])
  .ret))⟩
def ir43 : XF := ⟨30, 3, [(6, none)], (.seq (.reg [⟨some 6, none, .mv (.c (.b false))⟩])
  (.seq (.reg [⟨some 7, none, .mv (.t 0)⟩,
  ⟨some 8, none, .nck (.t 7)⟩,
  ⟨some 9, none, .fa 0 (.t 8)⟩,
  ⟨some 10, none, .ld false 1 (.t 9)⟩,
  ⟨some 11, none, .bop .eql (.t 10) (.c (.i .i8 5))⟩,
  ⟨some 12, none, .mv (.t 11)⟩,
  ⟨some 13, some (12, true), .mv (.t 0)⟩,
  ⟨some 14, some (12, true), .nck (.t 13)⟩,
  ⟨some 15, some (12, true), .fa 4 (.t 14)⟩,
  ⟨some 16, some (12, true), .ld false 1 (.t 15)⟩,
  ⟨some 17, some (12, true), .len 1 (.t 16)⟩,
  ⟨some 18, some (12, true), .mv (.t 2)⟩,
  ⟨some 19, some (12, true), .bop .eql (.t 17) (.t 18)⟩,
  ⟨some 20, none, .pick (.t 12) (.t 19) (.c (.b false))⟩,
  ⟨some 21, none, .mv (.t 20)⟩,
  ⟨some 22, some (21, true), .mv (.t 0)⟩,
  ⟨some 23, some (21, true), .nck (.t 22)⟩,
  ⟨some 24, some (21, true), .fa 4 (.t 23)⟩,
  ⟨some 25, some (21, true), .ld false 1 (.t 24)⟩,
  ⟨some 26, some (21, true), .ia 5 (.t 25) (.c (.i .i64 0))⟩,
  ⟨some 27, some (21, true), .mv (.t 1)⟩,
  ⟨some 28, some (21, true), .call 42 [(.t 26), (.t 27)]⟩,
  ⟨some 29, none, .pick (.t 21) (.t 28) (.c (.b false))⟩,
  ⟨some 6, none, .mv (.t 29)⟩])
  .ret))⟩
def ir48 : XF := ⟨15, 1, [(2, none)], (.seq (.reg [⟨some 1, none, .box 25 5 (.t 0)⟩,
  ⟨some 2, none, .mv (.c (.i .i64 0))⟩])
  (.seq (.reg [⟨some 3, none, .box 3 1 (.c (.i .i64 0))⟩,
  ⟨some 4, none, .box 4 1 (.c (.b false))⟩,
  ⟨none, none, .st 1 (.t 3) (.c (.i .i64 0))⟩,
  ⟨none, none, .st 1 (.t 4) (.c (.b true))⟩])
  (.seq (.reg [⟨some 5, none, .box 140 1 (.c .fn)⟩])
  (.seq (.reg [⟨some 6, none, .mkf (.func 93) [] [(.t 3), (.t 4), (.t 5)]⟩,
  ⟨none, none, .st 1 (.t 5) (.t 6)⟩])
  (.seq (.reg [⟨some 7, none, .ld false 1 (.t 5)⟩,
  ⟨some 8, none, .callv (.t 7) [(.t 1)]⟩])
  (.seq (.blk 0 (.seq (.reg [⟨some 10, none, .ld false 1 (.t 4)⟩,
  ⟨some 11, none, .un .not (.t 10)⟩,
  ⟨some 9, none, .mv (.t 11)⟩])
  (.cond (.t 9) (.seq (.reg [⟨some 2, none, .mv (.c (.i .i64 30))⟩])
  .ret)
  (.seq (.reg [⟨some 13, none, .ld false 1 (.t 3)⟩,
  ⟨some 14, none, .bop .gtr (.t 13) (.c (.i .i64 256))⟩,
  ⟨some 12, none, .mv (.t 14)⟩])
  (.cond (.t 12) (.seq (.reg [⟨some 2, none, .mv (.c (.i .i64 11))⟩])
  .ret)
  .skip)))))
  (.seq (.reg [⟨some 2, none, .mv (.c (.i .i64 0))⟩])
  .ret)))))))⟩
def ir49 : XF := ⟨22, 2, [(4, some (true, 12)), (5, none)], (.seq (.reg [⟨some 2, none, .box 73 1 (.t 0)⟩,
  ⟨some 3, none, .box 3 1 (.t 1)⟩,
  ⟨some 4, none, .box 28 12 (.c (.ag [(.i .i8 0), (.i .i64 0), (.s []), (.s []), .sln, (.i .i8 0), (.i .i8 0), (.i .i64 0), (.s []), (.s []), .sln, .sln]))⟩,
  ⟨some 5, none, .mv (.c .ifn)⟩])
  (.seq (.reg [⟨some 6, none, .mkf (.func 97) [] [(.t 2)]⟩,
  ⟨some 7, none, .call 96 [(.c (.i .i64 1)), (.t 6)]⟩,
  ⟨some 8, none, .mkf (.func 98) [] [(.t 2), (.t 4)]⟩,
  ⟨some 9, none, .call 96 [(.c (.i .i64 2)), (.t 8)]⟩,
  ⟨some 10, none, .mkf (.func 99) [] [(.t 4), (.t 2), (.t 3)]⟩,
  ⟨some 11, none, .mkf (.func 101) [] [(.t 2), (.t 4)]⟩,
  ⟨some 12, none, .call 96 [(.c (.i .i64 7)), (.t 11)]⟩,
  ⟨some 13, none, .mkf (.func 103) [] [(.t 2), (.t 4)]⟩,
  ⟨some 14, none, .call 96 [(.c (.i .i64 8)), (.t 13)]⟩,
  ⟨some 15, none, .bls 144 1 5 [.fn, .fn, .fn, .fn, .fn] [(0, 1, (.t 7)), (1, 1, (.t 9)), (2, 1, (.t 10)), (3, 1, (.t 12)), (4, 1, (.t 14))]⟩,
  ⟨some 16, none, .call 95 [(.t 15)]⟩,
  ⟨some 5, none, .mv (.t 16)⟩])
  (.seq (.seq (.reg [⟨some 17, none, .mv (.t 5)⟩,
  ⟨some 18, none, .eq 4 true true (.t 17) (.c .ifn)⟩])
  (.cond (.t 18) (.seq (.reg [⟨some 19, none, .bld [(.i .i8 0), (.i .i64 0), (.s []), (.s []), .sln, (.i .i8 0), (.i .i8 0), (.i .i64 0), (.s []), (.s []), .sln, .sln] []⟩,
  ⟨some 20, none, .mv (.t 5)⟩,
  ⟨none, none, .st 12 (.t 4) (.t 19)⟩,
  ⟨some 5, none, .mv (.t 20)⟩])
  .ret)
  .skip))
  (.seq (.reg [⟨some 21, none, .ld true 12 (.t 4)⟩,
  ⟨none, none, .st 12 (.t 4) (.t 21)⟩,
  ⟨some 5, none, .mv (.c .ifn)⟩])
  .ret))))⟩
def ir50 : XF := ⟨16, 1, [(2, none), (3, none)], (.seq (.reg [⟨some 2, none, .mv (.c (.i .i64 0))⟩,
  ⟨some 3, none, .mv (.c (.i .i64 0))⟩])
  (.seq (.reg [⟨some 4, none, .box 149 1 (.c .pn)⟩])
  (.seq (.seq (.reg [⟨some 5, none, .mv (.t 0)⟩,
  ⟨some 6, none, .mki 151 (.t 4)⟩,
  ⟨some 7, none, .call 104 [(.t 5), (.t 6)]⟩])
  (.cond (.t 7) (.seq (.par [⟨some 8, none, .ld false 1 (.t 4)⟩,
  ⟨some 9, none, .nck (.t 8)⟩,
  ⟨some 10, none, .fa 0 (.t 9)⟩,
  ⟨some 11, none, .ld false 1 (.t 10)⟩,
  ⟨some 12, none, .ld false 1 (.t 4)⟩,
  ⟨some 13, none, .nck (.t 12)⟩,
  ⟨some 14, none, .fa 1 (.t 13)⟩,
  ⟨some 15, none, .ld false 1 (.t 14)⟩,
  ⟨some 2, none, .mv (.t 11)⟩,
  ⟨some 3, none, .mv (.t 15)⟩] [0, 1, 3, 7, 0, 16, 48, 112, 15, 511])
  .ret)
  .skip))
  (.seq (.reg [⟨some 2, none, .mv (.c (.i .i64 0))⟩,
  ⟨some 3, none, .mv (.c (.i .i64 0))⟩])
  .ret))))⟩
def ir54 : XF := ⟨6, 1, [(2, none)], (.seq (.reg [⟨some 1, none, .box 25 5 (.t 0)⟩,
  ⟨some 2, none, .mv (.c (.i .i64 0))⟩])
  (.seq (.reg [⟨some 3, none, .ld true 5 (.t 1)⟩,
  ⟨some 4, none, .call 40 [(.t 3), (.c (.i .i64 257))]⟩,
  ⟨some 5, none, .mm false (.t 4) (.c (.i .i64 257))⟩,
  ⟨some 2, none, .mv (.t 5)⟩])
  .ret))⟩
def ir85 : XF := ⟨143, 1, [(2, some (true, 5))], (.seq (.reg [⟨some 2, none, .box 25 5 (.c (.ag [(.i .i8 0), (.i .i64 0), (.s []), (.s []), .sln]))⟩])
  (.seq (.seq (.par [⟨some 8, none, .mv (.t 0)⟩,
  ⟨some 9, none, .nck (.t 8)⟩,
  ⟨some 10, none, .fa 3 (.t 9)⟩,
  ⟨some 11, none, .ld false 1 (.t 10)⟩,
  ⟨some 12, none, .bop .neq (.t 11) (.c (.i .i64 0))⟩,
  ⟨some 13, none, .mv (.t 12)⟩,
  ⟨some 14, some (13, false), .mv (.t 0)⟩,
  ⟨some 15, some (13, false), .nck (.t 14)⟩,
  ⟨some 16, some (13, false), .fa 1 (.t 15)⟩,
  ⟨some 17, some (13, false), .ld false 1 (.t 16)⟩,
  ⟨some 18, some (13, false), .mv (.t 0)⟩,
  ⟨some 19, some (13, false), .nck (.t 18)⟩,
  ⟨some 20, some (13, false), .fa 0 (.t 19)⟩,
  ⟨some 21, some (13, false), .ld false 1 (.t 20)⟩,
  ⟨some 22, some (13, false), .len 0 (.t 21)⟩,
  ⟨some 23, some (13, false), .bop .geq (.t 17) (.t 22)⟩,
  ⟨some 24, none, .pick (.t 13) (.c (.b true)) (.t 23)⟩] [0, 1, 3, 7, 15, 31, 63, 127, 255, 511, 63, 1087, 3135, 7231, 15423, 32767, 65535])
  (.cond (.t 24) (.seq (.reg [⟨some 25, none, .mv (.t 0)⟩,
  ⟨some 26, none, .call 146 [(.t 25), (.c (.i .i64 2))]⟩,
  ⟨none, none, .st 5 (.t 2) (.t 26)⟩])
  .ret)
  .skip))
  (.seq (.par [⟨some 27, none, .mv (.t 0)⟩,
  ⟨some 28, none, .nck (.t 27)⟩,
  ⟨some 29, none, .fa 0 (.t 28)⟩,
  ⟨some 30, none, .ld false 1 (.t 29)⟩,
  ⟨some 31, none, .mv (.t 0)⟩,
  ⟨some 32, none, .nck (.t 31)⟩,
  ⟨some 33, none, .fa 1 (.t 32)⟩,
  ⟨some 34, none, .ld false 1 (.t 33)⟩,
  ⟨some 35, none, .ixS (.t 30) (.t 34)⟩,
  ⟨some 3, none, .mv (.t 35)⟩] [0, 1, 3, 7, 0, 16, 48, 112, 255, 511])
  (.seq (.seq (.reg [⟨some 36, none, .mv (.t 3)⟩,
  ⟨some 37, none, .bop .neq (.t 36) (.c (.i .u8 123))⟩,
  ⟨some 38, none, .mv (.t 37)⟩,
  ⟨some 39, some (38, true), .mv (.t 3)⟩,
  ⟨some 40, some (38, true), .bop .neq (.t 39) (.c (.i .u8 91))⟩,
  ⟨some 41, none, .pick (.t 38) (.t 40) (.c (.b false))⟩,
  ⟨some 42, none, .mv (.t 41)⟩,
  ⟨some 43, some (42, true), .mv (.t 3)⟩,
  ⟨some 44, some (42, true), .bop .neq (.t 43) (.c (.i .u8 60))⟩,
  ⟨some 45, none, .pick (.t 42) (.t 44) (.c (.b false))⟩,
  ⟨some 46, none, .mv (.t 45)⟩,
  ⟨some 47, some (46, true), .mv (.t 3)⟩,
  ⟨some 48, some (46, true), .bop .neq (.t 47) (.c (.i .u8 35))⟩,
  ⟨some 49, none, .pick (.t 46) (.t 48) (.c (.b false))⟩,
  ⟨some 50, none, .mv (.t 49)⟩,
  ⟨some 51, some (50, true), .mv (.t 3)⟩,
  ⟨some 52, some (50, true), .bop .neq (.t 51) (.c (.i .u8 45))⟩,
  ⟨some 53, none, .pick (.t 50) (.t 52) (.c (.b false))⟩,
  ⟨some 54, none, .mv (.t 53)⟩,
  ⟨some 55, some (54, true), .mv (.t 3)⟩,
  ⟨some 56, some (54, true), .call 147 [(.t 55)]⟩,
  ⟨some 57, some (54, true), .un .not (.t 56)⟩,
  ⟨some 58, none, .pick (.t 54) (.t 57) (.c (.b false))⟩])
  (.cond (.t 58) (.seq (.reg [⟨some 59, none, .mv (.t 0)⟩,
  ⟨some 60, none, .call 146 [(.t 59), (.c (.i .i64 2))]⟩,
  ⟨none, none, .st 5 (.t 2) (.t 60)⟩])
  .ret)
  .skip))
  (.seq (.reg [⟨some 61, none, .mv (.t 0)⟩,
  ⟨some 62, none, .nck (.t 61)⟩,
  ⟨some 63, none, .fa 2 (.t 62)⟩,
  ⟨some 64, none, .ld false 1 (.t 63)⟩,
  ⟨some 65, none, .bop .add (.t 64) (.c (.i .i64 1))⟩,
  ⟨some 66, none, .nck (.t 61)⟩,
  ⟨some 67, none, .fa 2 (.t 66)⟩,
  ⟨none, none, .st 1 (.t 67) (.t 65)⟩])
  (.seq (.seq (.reg [⟨some 68, none, .mv (.t 0)⟩,
  ⟨some 69, none, .nck (.t 68)⟩,
  ⟨some 70, none, .fa 2 (.t 69)⟩,
  ⟨some 71, none, .ld false 1 (.t 70)⟩,
  ⟨some 72, none, .bop .gtr (.t 71) (.c (.i .i64 256))⟩])
  (.cond (.t 72) (.seq (.reg [⟨some 73, none, .mv (.t 0)⟩,
  ⟨some 74, none, .call 146 [(.t 73), (.c (.i .i64 11))]⟩,
  ⟨none, none, .st 5 (.t 2) (.t 74)⟩])
  .ret)
  .skip))
  (.seq (.blk 0 (.seq (.reg [⟨some 76, none, .mv (.t 0)⟩,
  ⟨some 77, none, .call 148 [(.t 76), (.c (.s [123, 125]))]⟩,
  ⟨some 75, none, .mv (.t 77)⟩])
  (.cond (.t 75) (.seq (.reg [⟨some 78, none, .bld [(.i .i8 0), (.i .i64 0), (.s []), (.s []), .sln] [(0, 1, (.c (.i .i8 5)))]⟩,
  ⟨none, none, .st 5 (.t 2) (.t 78)⟩])
  .ret)
  (.seq (.reg [⟨some 80, none, .mv (.t 0)⟩,
  ⟨some 81, none, .call 148 [(.t 80), (.c (.s [123]))]⟩,
  ⟨some 79, none, .mv (.t 81)⟩])
  (.cond (.t 79) (.seq (.reg [⟨some 82, none, .mv (.t 0)⟩,
  ⟨some 83, none, .call 149 [(.t 82)]⟩,
  ⟨some 4, none, .mv (.t 83)⟩])
  (.seq (.seq (.reg [⟨some 84, none, .mv (.t 0)⟩,
  ⟨some 85, none, .nck (.t 84)⟩,
  ⟨some 86, none, .fa 3 (.t 85)⟩,
  ⟨some 87, none, .ld false 1 (.t 86)⟩,
  ⟨some 88, none, .bop .neq (.t 87) (.c (.i .i64 0))⟩,
  ⟨some 89, none, .mv (.t 88)⟩,
  ⟨some 90, some (89, false), .mv (.t 0)⟩,
  ⟨some 91, some (89, false), .call 148 [(.t 90), (.c (.s [125]))]⟩,
  ⟨some 92, some (89, false), .un .not (.t 91)⟩,
  ⟨some 93, none, .pick (.t 89) (.c (.b true)) (.t 92)⟩])
  (.cond (.t 93) (.seq (.reg [⟨some 94, none, .mv (.t 0)⟩,
  ⟨some 95, none, .call 146 [(.t 94), (.c (.i .i64 2))]⟩,
  ⟨none, none, .st 5 (.t 2) (.t 95)⟩])
  .ret)
  .skip))
  (.seq (.reg [⟨some 96, none, .mv (.t 4)⟩,
  ⟨some 97, none, .bld [(.i .i8 0), (.i .i64 0), (.s []), (.s []), .sln] [(0, 1, (.c (.i .i8 5))), (4, 1, (.t 96))]⟩,
  ⟨none, none, .st 5 (.t 2) (.t 97)⟩])
  .ret)))
  (.seq (.reg [⟨some 99, none, .mv (.t 0)⟩,
  ⟨some 100, none, .call 148 [(.t 99), (.c (.s [91]))]⟩,
  ⟨some 98, none, .mv (.t 100)⟩])
  (.cond (.t 98) (.seq (.reg [⟨some 101, none, .mv (.t 0)⟩,
  ⟨some 102, none, .call 150 [(.t 101)]⟩,
  ⟨none, none, .st 5 (.t 2) (.t 102)⟩])
  .ret)
  (.seq (.reg [⟨some 104, none, .mv (.t 0)⟩,
  ⟨some 105, none, .call 148 [(.t 104), (.c (.s [35, 82, 101, 102, 60]))]⟩,
  ⟨some 103, none, .mv (.t 105)⟩])
  (.cond (.t 103) (.seq (.reg [⟨some 106, none, .mv (.t 0)⟩,
  ⟨some 107, none, .call 151 [(.t 106), (.c (.i .i8 2))]⟩,
  ⟨none, none, .st 5 (.t 2) (.t 107)⟩])
  .ret)
  (.seq (.reg [⟨some 109, none, .mv (.t 0)⟩,
  ⟨some 110, none, .call 148 [(.t 109), (.c (.s [60]))]⟩,
  ⟨some 108, none, .mv (.t 110)⟩])
  (.cond (.t 108) (.seq (.reg [⟨some 111, none, .mv (.t 0)⟩,
  ⟨some 112, none, .call 151 [(.t 111), (.c (.i .i8 4))]⟩,
  ⟨none, none, .st 5 (.t 2) (.t 112)⟩])
  .ret)
  (.seq (.reg [⟨some 114, none, .mv (.t 0)⟩,
  ⟨some 115, none, .call 148 [(.t 114), (.c (.s [45]))]⟩,
  ⟨some 113, none, .mv (.t 115)⟩])
  (.cond (.t 113) (.seq (.reg [⟨some 116, none, .mv (.t 0)⟩,
  ⟨some 117, none, .call 152 [(.t 116)]⟩,
  ⟨none, none, .st 5 (.t 2) (.t 117)⟩])
  .ret)
  (.seq (.reg [⟨some 119, none, .mv (.t 3)⟩,
  ⟨some 120, none, .bop .geq (.t 119) (.c (.i .u8 48))⟩,
  ⟨some 121, none, .mv (.t 120)⟩,
  ⟨some 122, some (121, true), .mv (.t 3)⟩,
  ⟨some 123, some (121, true), .bop .leq (.t 122) (.c (.i .u8 57))⟩,
  ⟨some 124, none, .pick (.t 121) (.t 123) (.c (.b false))⟩,
  ⟨some 118, none, .mv (.t 124)⟩])
  (.cond (.t 118) (.seq (.reg [⟨some 125, none, .mv (.t 0)⟩,
  ⟨some 126, none, .call 154 [(.t 125)]⟩,
  ⟨some 127, none, .call 153 [(.t 126)]⟩,
  ⟨none, none, .st 5 (.t 2) (.t 127)⟩])
  .ret)
  .skip)))))))))))))))
  (.seq (.reg [⟨some 129, none, .mv (.t 0)⟩,
  ⟨some 130, none, .call 155 [(.t 129)]⟩,
  ⟨some 128, none, .mv (.t 130)⟩,
  ⟨some 131, none, .ex (.t 128) 0⟩,
  ⟨some 132, none, .ex (.t 128) 1⟩,
  ⟨some 5, none, .box 25 5 (.c (.ag [(.i .i8 0), (.i .i64 0), (.s []), (.s []), .sln]))⟩,
  ⟨none, none, .st 5 (.t 5) (.t 131)⟩,
  ⟨some 6, none, .mv (.t 132)⟩])
  (.seq (.seq (.reg [⟨some 133, none, .mv (.t 6)⟩])
  (.cond (.t 133) (.seq (.reg [⟨some 134, none, .ld true 5 (.t 5)⟩,
  ⟨none, none, .st 5 (.t 2) (.t 134)⟩])
  .ret)
  .skip))
  (.seq (.reg [⟨some 135, none, .mv (.t 0)⟩,
  ⟨some 136, none, .call 156 [(.t 135)]⟩,
  ⟨some 7, none, .mv (.t 136)⟩])
  (.seq (.seq (.reg [⟨some 137, none, .mv (.t 7)⟩,
  ⟨some 138, none, .bop .eql (.t 137) (.c (.s []))⟩])
  (.cond (.t 138) (.seq (.reg [⟨some 139, none, .mv (.t 0)⟩,
  ⟨some 140, none, .call 146 [(.t 139), (.c (.i .i64 2))]⟩,
  ⟨none, none, .st 5 (.t 2) (.t 140)⟩])
  .ret)
  .skip))
  (.seq (.reg [⟨some 141, none, .mv (.t 7)⟩,
  ⟨some 142, none, .call 15 [(.t 141)]⟩,
  ⟨none, none, .st 5 (.t 2) (.t 142)⟩])
  .ret))))))))))))⟩
def ir86 : XF := ⟨5, 0, [(0, none)], (.seq (.reg [⟨some 0, none, .mv (.c .mn)⟩])
  (.seq (.reg [⟨some 1, none, .mkm⟩,
  ⟨some 2, none, .bls 9 1 3 [(.s []), (.s []), (.s [])] [(0, 1, (.c (.s [112, 101, 114, 109, 97, 110, 101, 110, 116]))), (1, 1, (.c (.s [116, 114, 97, 110, 115, 105, 101, 110, 116]))), (2, 1, (.c (.s [116, 101, 109, 112, 111, 114, 97, 114, 121])))]⟩,
  ⟨none, none, .ins true (.t 1) (.c (.s [114, 101, 115, 116, 97, 114, 116])) (.t 2)⟩,
  ⟨some 3, none, .bls 9 1 4 [(.s []), (.s []), (.s []), (.s [])] [(0, 1, (.c (.s [111, 110, 101, 95, 102, 111, 114, 95, 111, 110, 101]))), (1, 1, (.c (.s [111, 110, 101, 95, 102, 111, 114, 95, 97, 108, 108]))), (2, 1, (.c (.s [114, 101, 115, 116, 95, 102, 111, 114, 95, 111, 110, 101]))), (3, 1, (.c (.s [115, 105, 109, 112, 108, 101, 95, 111, 110, 101, 95, 102, 111, 114, 95, 111, 110, 101])))]⟩,
  ⟨none, none, .ins true (.t 1) (.c (.s [115, 116, 114, 97, 116, 101, 103, 121])) (.t 3)⟩,
  ⟨some 4, none, .mv (.t 1)⟩,
  ⟨some 0, none, .mv (.t 4)⟩])
  .ret))⟩
def ir93 : XF := ⟨36, 4, [], (.seq (.reg [⟨some 6, none, .ld false 1 (.t 1)⟩,
  ⟨some 7, none, .bop .add (.t 6) (.c (.i .i64 1))⟩,
  ⟨none, none, .st 1 (.t 1) (.t 7)⟩])
  (.seq (.reg [⟨some 8, none, .ld false 1 (.t 2)⟩,
  ⟨some 9, none, .mv (.t 8)⟩,
  ⟨some 10, some (9, true), .mv (.t 0)⟩,
  ⟨some 11, some (9, true), .call 94 [(.t 10)]⟩,
  ⟨some 12, none, .pick (.t 9) (.t 11) (.c (.b false))⟩,
  ⟨none, none, .st 1 (.t 2) (.t 12)⟩])
  (.seq (.reg [⟨some 13, none, .mv (.t 0)⟩,
  ⟨some 14, none, .nck (.t 13)⟩,
  ⟨some 15, none, .fa 4 (.t 14)⟩,
  ⟨some 16, none, .ld false 1 (.t 15)⟩,
  ⟨some 17, none, .len 1 (.t 16)⟩,
  ⟨some 18, none, .mv (.c (.i .i64 0))⟩])
  (.blk 0 (.loop (.seq (.reg [⟨some 19, none, .bop .lss (.t 18) (.t 17)⟩])
  (.seq (.cond (.t 19) .skip
  (.exit 0))
  (.seq (.blk 1 (.seq (.reg [⟨some 20, none, .mv (.t 18)⟩,
  ⟨some 5, none, .mv (.t 20)⟩])
  (.seq (.seq (.reg [⟨some 21, none, .ld false 1 (.t 1)⟩,
  ⟨some 22, none, .bop .gtr (.t 21) (.c (.i .i64 256))⟩,
  ⟨some 23, none, .mv (.t 22)⟩,
  ⟨some 24, some (23, false), .ld false 1 (.t 2)⟩,
  ⟨some 25, some (23, false), .un .not (.t 24)⟩,
  ⟨some 26, none, .pick (.t 23) (.c (.b true)) (.t 25)⟩])
  (.cond (.t 26) .ret
  .skip))
  (.par [⟨some 27, none, .ld false 1 (.t 3)⟩,
  ⟨some 28, none, .mv (.t 0)⟩,
  ⟨some 29, none, .nck (.t 28)⟩,
  ⟨some 30, none, .fa 4 (.t 29)⟩,
  ⟨some 31, none, .ld false 1 (.t 30)⟩,
  ⟨some 32, none, .mv (.t 5)⟩,
  ⟨some 33, none, .ia 5 (.t 31) (.t 32)⟩,
  ⟨some 34, none, .callv (.t 27) [(.t 33)]⟩] [0, 0, 2, 6, 14, 0, 62, 127]))))
  (.reg [⟨some 35, none, .bop .add (.t 18) (.c (.i .i64 1))⟩,
  ⟨some 18, none, .mv (.t 35)⟩])))))))))⟩
def ir94 : XF := ⟨68, 1, [(2, none)], (.seq (.reg [⟨some 2, none, .mv (.c (.b false))⟩])
  (.seq (.seq (.reg [⟨some 8, none, .mv (.t 0)⟩,
  ⟨some 9, none, .call 161 [(.t 8)]⟩])
  (.blk 0 (.seq (.reg [⟨some 10, none, .ta true 182 (.ag [(.i .i64 0)]) (.t 9)⟩,
  ⟨some 11, none, .ex (.t 10) 1⟩,
  ⟨some 12, none, .ex (.t 10) 0⟩])
  (.cond (.t 11) (.seq (.reg [⟨some 3, none, .box 182 1 (.c (.ag [(.i .i64 0)]))⟩,
  ⟨none, none, .st 1 (.t 3) (.t 12)⟩])
  (.seq (.reg [⟨some 13, none, .fa 0 (.t 3)⟩,
  ⟨some 14, none, .ld false 1 (.t 13)⟩,
  ⟨some 15, none, .call 162 [(.t 14)]⟩,
  ⟨some 2, none, .mv (.t 15)⟩])
  .ret))
  (.seq (.reg [⟨some 16, none, .ta true 184 (.ag [(.i .i64 0)]) (.t 9)⟩,
  ⟨some 17, none, .ex (.t 16) 1⟩,
  ⟨some 18, none, .ex (.t 16) 0⟩])
  (.cond (.t 17) (.seq (.reg [⟨some 4, none, .box 184 1 (.c (.ag [(.i .i64 0)]))⟩,
  ⟨none, none, .st 1 (.t 4) (.t 18)⟩])
  (.seq (.reg [⟨some 19, none, .fa 0 (.t 4)⟩,
  ⟨some 20, none, .ld false 1 (.t 19)⟩,
  ⟨some 21, none, .bop .geq (.t 20) (.c (.i .i64 0))⟩,
  ⟨some 22, none, .mv (.t 21)⟩,
  ⟨some 23, some (22, true), .fa 0 (.t 4)⟩,
  ⟨some 24, some (22, true), .ld false 1 (.t 23)⟩,
  ⟨some 25, some (22, true), .bop .leq (.t 24) (.c (.i .i64 576460752303423487))⟩,
  ⟨some 26, none, .pick (.t 22) (.t 25) (.c (.b false))⟩,
  ⟨some 2, none, .mv (.t 26)⟩])
  .ret))
  (.seq (.reg [⟨some 27, none, .ta true 186 (.ag [(.s [])]) (.t 9)⟩,
  ⟨some 28, none, .ex (.t 27) 1⟩,
  ⟨some 29, none, .ex (.t 27) 0⟩])
  (.cond (.t 28) (.seq (.reg [⟨some 5, none, .box 186 1 (.c (.ag [(.s [])]))⟩,
  ⟨none, none, .st 1 (.t 5) (.t 29)⟩])
  (.seq (.reg [⟨some 30, none, .fa 0 (.t 5)⟩,
  ⟨some 31, none, .ld false 1 (.t 30)⟩,
  ⟨some 32, none, .call 118 [(.t 31)]⟩,
  ⟨some 2, none, .mv (.t 32)⟩])
  .ret))
  (.seq (.reg [⟨some 33, none, .ta true 188 (.ag [(.s []), (.s []), (.i .i64 0)]) (.t 9)⟩,
  ⟨some 34, none, .ex (.t 33) 1⟩,
  ⟨some 35, none, .ex (.t 33) 0⟩])
  (.cond (.t 34) (.seq (.reg [⟨some 6, none, .box 188 3 (.c (.ag [(.s []), (.s []), (.i .i64 0)]))⟩,
  ⟨none, none, .st 3 (.t 6) (.t 35)⟩])
  (.seq (.reg [⟨some 36, none, .fa 0 (.t 6)⟩,
  ⟨some 37, none, .ld false 1 (.t 36)⟩,
  ⟨some 38, none, .call 118 [(.t 37)]⟩,
  ⟨some 39, none, .mv (.t 38)⟩,
  ⟨some 40, some (39, true), .fa 1 (.t 6)⟩,
  ⟨some 41, some (39, true), .ld false 1 (.t 40)⟩,
  ⟨some 42, some (39, true), .call 118 [(.t 41)]⟩,
  ⟨some 43, none, .pick (.t 39) (.t 42) (.c (.b false))⟩,
  ⟨some 44, none, .mv (.t 43)⟩,
  ⟨some 45, some (44, true), .fa 2 (.t 6)⟩,
  ⟨some 46, some (44, true), .ld false 1 (.t 45)⟩,
  ⟨some 47, some (44, true), .bop .geq (.t 46) (.c (.i .i64 0))⟩,
  ⟨some 48, none, .pick (.t 44) (.t 47) (.c (.b false))⟩,
  ⟨some 49, none, .mv (.t 48)⟩,
  ⟨some 50, some (49, true), .fa 2 (.t 6)⟩,
  ⟨some 51, some (49, true), .ld false 1 (.t 50)⟩,
  ⟨some 52, some (49, true), .bop .leq (.t 51) (.c (.i .i64 8))⟩,
  ⟨some 53, none, .pick (.t 49) (.t 52) (.c (.b false))⟩,
  ⟨some 2, none, .mv (.t 53)⟩])
  .ret))
  (.seq (.reg [⟨some 54, none, .ta true 190 (.ag [.sln, (.i .i64 0)]) (.t 9)⟩,
  ⟨some 55, none, .ex (.t 54) 1⟩,
  ⟨some 56, none, .ex (.t 54) 0⟩])
  (.cond (.t 55) (.seq (.reg [⟨some 7, none, .box 190 2 (.c (.ag [.sln, (.i .i64 0)]))⟩,
  ⟨none, none, .st 2 (.t 7) (.t 56)⟩])
  (.seq (.reg [⟨some 57, none, .fa 1 (.t 7)⟩,
  ⟨some 58, none, .ld false 1 (.t 57)⟩,
  ⟨some 59, none, .bop .lss (.t 58) (.c (.i .i64 0))⟩,
  ⟨some 60, none, .mv (.t 59)⟩,
  ⟨some 61, some (60, false), .fa 0 (.t 7)⟩,
  ⟨some 62, some (60, false), .ld false 1 (.t 61)⟩,
  ⟨some 63, some (60, false), .len 1 (.t 62)⟩,
  ⟨some 64, some (60, false), .fa 1 (.t 7)⟩,
  ⟨some 65, some (60, false), .ld false 1 (.t 64)⟩,
  ⟨some 66, some (60, false), .bop .eql (.t 63) (.t 65)⟩,
  ⟨some 67, none, .pick (.t 60) (.c (.b true)) (.t 66)⟩,
  ⟨some 2, none, .mv (.t 67)⟩])
  .ret))
  .skip))))))))))))
  (.seq (.reg [⟨some 2, none, .mv (.c (.b false))⟩])
  .ret)))⟩
def ir95 : XF := ⟨18, 1, [(2, none)], (.seq (.reg [⟨some 2, none, .mv (.c .ifn)⟩])
  (.seq (.seq (.reg [⟨some 6, none, .mv (.t 0)⟩,
  ⟨some 7, none, .len 1 (.t 6)⟩,
  ⟨some 8, none, .mv (.c (.i .i64 0))⟩])
  (.blk 0 (.loop (.seq (.reg [⟨some 9, none, .bop .lss (.t 8) (.t 7)⟩])
  (.seq (.cond (.t 9) .skip
  (.exit 0))
  (.seq (.blk 1 (.seq (.reg [⟨some 10, none, .ia 1 (.t 6) (.t 8)⟩,
  ⟨some 11, none, .ld false 1 (.t 10)⟩,
  ⟨some 4, none, .mv (.t 11)⟩])
  (.seq (.reg [⟨some 12, none, .mv (.t 4)⟩,
  ⟨some 13, none, .callv (.t 12) []⟩,
  ⟨some 5, none, .mv (.t 13)⟩])
  (.seq (.reg [⟨some 14, none, .mv (.t 5)⟩,
  ⟨some 15, none, .eq 4 true true (.t 14) (.c .ifn)⟩])
  (.cond (.t 15) (.seq (.reg [⟨some 16, none, .mv (.t 5)⟩,
  ⟨some 2, none, .mv (.t 16)⟩])
  .ret)
  .skip)))))
  (.reg [⟨some 17, none, .bop .add (.t 8) (.c (.i .i64 1))⟩,
  ⟨some 8, none, .mv (.t 17)⟩])))))))
  (.seq (.reg [⟨some 2, none, .mv (.c .ifn)⟩])
  .ret)))⟩
def ir96 : XF := ⟨6, 2, [(4, none)], (.seq (.reg [⟨some 2, none, .box 3 1 (.t 0)⟩,
  ⟨some 3, none, .box 31 1 (.t 1)⟩,
  ⟨some 4, none, .mv (.c .fn)⟩])
  (.seq (.reg [⟨some 5, none, .mkf (.func 163) [] [(.t 3), (.t 2)]⟩,
  ⟨some 4, none, .mv (.t 5)⟩])
  .ret))⟩
def ir97 : XF := ⟨15, 1, [(1, none)], (.seq (.reg [⟨some 1, none, .mv (.c (.b false))⟩])
  (.seq (.reg [⟨some 2, none, .ld false 1 (.t 0)⟩,
  ⟨some 3, none, .nck (.t 2)⟩,
  ⟨some 4, none, .fa 0 (.t 3)⟩,
  ⟨some 5, none, .ld false 1 (.t 4)⟩,
  ⟨some 6, none, .bop .eql (.t 5) (.c (.i .i8 5))⟩,
  ⟨some 7, none, .mv (.t 6)⟩,
  ⟨some 8, some (7, true), .ld false 1 (.t 0)⟩,
  ⟨some 9, some (7, true), .nck (.t 8)⟩,
  ⟨some 10, some (7, true), .fa 4 (.t 9)⟩,
  ⟨some 11, some (7, true), .ld false 1 (.t 10)⟩,
  ⟨some 12, some (7, true), .len 1 (.t 11)⟩,
  ⟨some 13, some (7, true), .bop .eql (.t 12) (.c (.i .i64 4))⟩,
  ⟨some 14, none, .pick (.t 7) (.t 13) (.c (.b false))⟩,
  ⟨some 1, none, .mv (.t 14)⟩])
  .ret))⟩
def ir98 : XF := ⟨20, 2, [(2, none)], (.seq (.reg [⟨some 2, none, .mv (.c (.b false))⟩])
  (.seq (.reg [⟨some 3, none, .ld false 1 (.t 0)⟩,
  ⟨some 4, none, .nck (.t 3)⟩,
  ⟨some 5, none, .fa 4 (.t 4)⟩,
  ⟨some 6, none, .ld false 1 (.t 5)⟩,
  ⟨some 7, none, .ia 5 (.t 6) (.c (.i .i64 0))⟩,
  ⟨some 8, none, .ld true 5 (.t 7)⟩,
  ⟨some 9, none, .fa 0 (.t 1)⟩,
  ⟨none, none, .st 5 (.t 9) (.t 8)⟩])
  (.seq (.reg [⟨some 10, none, .fa 0 (.t 1)⟩,
  ⟨some 11, none, .fa 0 (.t 10)⟩,
  ⟨some 12, none, .ld false 1 (.t 11)⟩,
  ⟨some 13, none, .bop .eql (.t 12) (.c (.i .i8 1))⟩,
  ⟨some 14, none, .mv (.t 13)⟩,
  ⟨some 15, some (14, false), .fa 0 (.t 1)⟩,
  ⟨some 16, some (14, false), .fa 0 (.t 15)⟩,
  ⟨some 17, some (14, false), .ld false 1 (.t 16)⟩,
  ⟨some 18, some (14, false), .bop .eql (.t 17) (.c (.i .i8 0))⟩,
  ⟨some 19, none, .pick (.t 14) (.c (.b true)) (.t 18)⟩,
  ⟨some 2, none, .mv (.t 19)⟩])
  .ret)))⟩
def ir99 : XF := ⟨11, 3, [(3, none)], (.seq (.reg [⟨some 3, none, .mv (.c .ifn)⟩])
  (.seq (.par [⟨some 4, none, .ld false 1 (.t 1)⟩,
  ⟨some 5, none, .nck (.t 4)⟩,
  ⟨some 6, none, .fa 4 (.t 5)⟩,
  ⟨some 7, none, .ld false 1 (.t 6)⟩,
  ⟨some 8, none, .ia 5 (.t 7) (.c (.i .i64 1))⟩,
  ⟨some 9, none, .ld false 1 (.t 2)⟩,
  ⟨some 10, none, .call 100 [(.t 0), (.t 8), (.t 9)]⟩,
  ⟨some 3, none, .mv (.t 10)⟩] [0, 1, 3, 7, 15, 0, 63, 127])
  .ret))⟩
def ir100 : XF := ⟨115, 3, [(6, none)], (.seq (.reg [⟨some 3, none, .box 95 1 (.t 0)⟩,
  ⟨some 4, none, .box 73 1 (.t 1)⟩,
  ⟨some 6, none, .mv (.c .ifn)⟩])
  (.seq (.blk 0 (.seq (.reg [⟨some 12, none, .ld false 1 (.t 4)⟩,
  ⟨some 13, none, .call 43 [(.t 12), (.c (.s [115, 101, 114, 118, 101, 114])), (.c (.i .i64 3))]⟩,
  ⟨some 11, none, .mv (.t 13)⟩])
  (.cond (.t 11) (.seq (.par [⟨some 14, none, .ld false 1 (.t 3)⟩,
  ⟨some 15, none, .ld false 1 (.t 3)⟩,
  ⟨some 16, none, .ld false 1 (.t 3)⟩,
  ⟨some 17, none, .ld false 1 (.t 4)⟩,
  ⟨some 18, none, .nck (.t 17)⟩,
  ⟨some 19, none, .fa 4 (.t 18)⟩,
  ⟨some 20, none, .ld false 1 (.t 19)⟩,
  ⟨some 21, none, .ia 5 (.t 20) (.c (.i .i64 1))⟩,
  ⟨some 22, none, .fa 2 (.t 21)⟩,
  ⟨some 23, none, .ld false 1 (.t 22)⟩,
  ⟨some 24, none, .ld false 1 (.t 4)⟩,
  ⟨some 25, none, .nck (.t 24)⟩,
  ⟨some 26, none, .fa 4 (.t 25)⟩,
  ⟨some 27, none, .ld false 1 (.t 26)⟩,
  ⟨some 28, none, .ia 5 (.t 27) (.c (.i .i64 2))⟩,
  ⟨some 29, none, .ld true 5 (.t 28)⟩,
  ⟨some 30, none, .bls 25 5 1 [(.i .i8 0), (.i .i64 0), (.s []), (.s []), .sln] [(0, 5, (.t 29))]⟩,
  ⟨some 31, none, .nck (.t 14)⟩,
  ⟨some 32, none, .fa 5 (.t 31)⟩,
  ⟨none, none, .st 1 (.t 32) (.c (.i .i8 0))⟩,
  ⟨some 33, none, .nck (.t 15)⟩,
  ⟨some 34, none, .fa 8 (.t 33)⟩,
  ⟨none, none, .st 1 (.t 34) (.t 23)⟩,
  ⟨some 35, none, .nck (.t 16)⟩,
  ⟨some 36, none, .fa 10 (.t 35)⟩,
  ⟨none, none, .st 1 (.t 36) (.t 30)⟩] [0, 0, 0, 0, 8, 24, 56, 120, 248, 504, 0, 1024, 3072, 7168, 15360, 31744, 64512, 65529, 196601, 458745, 983035, 2031611, 4128763, 8388607, 16777215, 33554431])
  (.seq (.reg [⟨some 37, none, .mkf (.func 164) [] [(.t 4)]⟩,
  ⟨some 38, none, .call 96 [(.c (.i .i64 4)), (.t 37)]⟩,
  ⟨some 39, none, .callv (.t 38) []⟩,
  ⟨some 6, none, .mv (.t 39)⟩])
  .ret))
  (.seq (.reg [⟨some 41, none, .ld false 1 (.t 4)⟩,
  ⟨some 42, none, .call 43 [(.t 41), (.c (.s [112, 114, 111, 99])), (.c (.i .i64 4))]⟩,
  ⟨some 40, none, .mv (.t 42)⟩])
  (.cond (.t 40) (.seq (.par [⟨some 43, none, .ld false 1 (.t 3)⟩,
  ⟨some 44, none, .ld false 1 (.t 3)⟩,
  ⟨some 45, none, .ld false 1 (.t 3)⟩,
  ⟨some 46, none, .ld false 1 (.t 4)⟩,
  ⟨some 47, none, .nck (.t 46)⟩,
  ⟨some 48, none, .fa 4 (.t 47)⟩,
  ⟨some 49, none, .ld false 1 (.t 48)⟩,
  ⟨some 50, none, .ia 5 (.t 49) (.c (.i .i64 1))⟩,
  ⟨some 51, none, .fa 2 (.t 50)⟩,
  ⟨some 52, none, .ld false 1 (.t 51)⟩,
  ⟨some 53, none, .ld false 1 (.t 4)⟩,
  ⟨some 54, none, .nck (.t 53)⟩,
  ⟨some 55, none, .fa 4 (.t 54)⟩,
  ⟨some 56, none, .ld false 1 (.t 55)⟩,
  ⟨some 57, none, .ia 5 (.t 56) (.c (.i .i64 2))⟩,
  ⟨some 58, none, .fa 2 (.t 57)⟩,
  ⟨some 59, none, .ld false 1 (.t 58)⟩,
  ⟨some 60, none, .nck (.t 43)⟩,
  ⟨some 61, none, .fa 5 (.t 60)⟩,
  ⟨none, none, .st 1 (.t 61) (.c (.i .i8 1))⟩,
  ⟨some 62, none, .nck (.t 44)⟩,
  ⟨some 63, none, .fa 8 (.t 62)⟩,
  ⟨none, none, .st 1 (.t 63) (.t 52)⟩,
  ⟨some 64, none, .nck (.t 45)⟩,
  ⟨some 65, none, .fa 9 (.t 64)⟩,
  ⟨none, none, .st 1 (.t 65) (.t 59)⟩] [0, 0, 0, 0, 8, 24, 56, 120, 248, 504, 0, 1024, 3072, 7168, 15360, 31744, 64512, 131065, 262137, 524281, 1048571, 2097147, 4194299, 8388607, 16777215, 33554431])
  (.seq (.reg [⟨some 66, none, .mkf (.func 165) [] [(.t 4)]⟩,
  ⟨some 67, none, .call 96 [(.c (.i .i64 4)), (.t 66)]⟩,
  ⟨some 68, none, .mkf (.func 166) [] [(.t 4), (.t 3)]⟩,
  ⟨some 69, none, .call 96 [(.c (.i .i64 5)), (.t 68)]⟩,
  ⟨some 70, none, .bls 144 1 2 [.fn, .fn] [(0, 1, (.t 67)), (1, 1, (.t 69))]⟩,
  ⟨some 71, none, .call 95 [(.t 70)]⟩,
  ⟨some 6, none, .mv (.t 71)⟩])
  .ret))
  (.seq (.reg [⟨some 73, none, .ld false 1 (.t 4)⟩,
  ⟨some 74, none, .call 43 [(.t 73), (.c (.s [115, 117, 112])), (.c (.i .i64 3))]⟩,
  ⟨some 72, none, .mv (.t 74)⟩])
  (.cond (.t 72) (.seq (.par [⟨some 76, none, .ld false 1 (.t 4)⟩,
  ⟨some 77, none, .nck (.t 76)⟩,
  ⟨some 78, none, .fa 4 (.t 77)⟩,
  ⟨some 79, none, .ld false 1 (.t 78)⟩,
  ⟨some 80, none, .ia 5 (.t 79) (.c (.i .i64 1))⟩,
  ⟨some 81, none, .ld false 1 (.t 4)⟩,
  ⟨some 82, none, .nck (.t 81)⟩,
  ⟨some 83, none, .fa 4 (.t 82)⟩,
  ⟨some 84, none, .ld false 1 (.t 83)⟩,
  ⟨some 85, none, .ia 5 (.t 84) (.c (.i .i64 2))⟩,
  ⟨some 86, none, .mv (.t 2)⟩,
  ⟨some 87, none, .bop .add (.t 86) (.c (.i .i64 1))⟩,
  ⟨some 88, none, .call 55 [(.t 80), (.t 85), (.t 87)]⟩,
  ⟨some 75, none, .mv (.t 88)⟩,
  ⟨some 89, none, .ex (.t 75) 0⟩,
  ⟨some 90, none, .ex (.t 75) 1⟩,
  ⟨some 7, none, .box 36 4 (.c (.ag [(.i .i8 0), (.i .i64 0), (.i .i64 0), .sln]))⟩,
  ⟨none, none, .st 4 (.t 7) (.t 89)⟩,
  ⟨some 8, none, .mv (.t 90)⟩] [0, 1, 3, 7, 15, 0, 32, 96, 224, 480, 0, 1024, 4095, 8191, 16383, 16383, 0, 98303, 262143])
  (.seq (.seq (.reg [⟨some 91, none, .mv (.t 8)⟩,
  ⟨some 92, none, .eq 4 true true (.t 91) (.c .ifn)⟩])
  (.cond (.t 92) (.seq (.reg [⟨some 94, none, .mv (.t 8)⟩,
  ⟨some 95, none, .call 50 [(.t 94)]⟩,
  ⟨some 93, none, .mv (.t 95)⟩,
  ⟨some 96, none, .ex (.t 93) 0⟩,
  ⟨some 97, none, .ex (.t 93) 1⟩,
  ⟨some 9, none, .mv (.t 96)⟩,
  ⟨some 10, none, .mv (.t 97)⟩])
  (.seq (.reg [⟨some 98, none, .mv (.t 10)⟩,
  ⟨some 99, none, .bld [(.i .i64 0), (.i .i64 0)] [(0, 1, (.c (.i .i64 6))), (1, 1, (.t 98))]⟩,
  ⟨some 100, none, .box 153 2 (.t 99)⟩,
  ⟨some 101, none, .mki 149 (.t 100)⟩,
  ⟨some 102, none, .bls 83 1 1 [.ifn] [(0, 1, (.t 101))]⟩,
  ⟨some 103, none, .call 167 [(.t 102)]⟩,
  ⟨some 6, none, .mv (.t 103)⟩])
  .ret))
  .skip))
  (.seq (.par [⟨some 104, none, .ld false 1 (.t 3)⟩,
  ⟨some 105, none, .ld false 1 (.t 3)⟩,
  ⟨some 106, none, .ld true 4 (.t 7)⟩,
  ⟨some 107, none, .bls 36 4 1 [(.i .i8 0), (.i .i64 0), (.i .i64 0), .sln] [(0, 4, (.t 106))]⟩,
  ⟨some 108, none, .nck (.t 104)⟩,
  ⟨some 109, none, .fa 5 (.t 108)⟩,
  ⟨none, none, .st 1 (.t 109) (.c (.i .i8 2))⟩,
  ⟨some 110, none, .nck (.t 105)⟩,
  ⟨some 111, none, .fa 11 (.t 110)⟩,
  ⟨none, none, .st 1 (.t 111) (.t 107)⟩] [0, 0, 0, 4, 1, 17, 49, 127, 255, 511])
  (.seq (.reg [⟨some 6, none, .mv (.c .ifn)⟩])
  .ret))))
  .skip)))))))
  (.seq (.reg [⟨some 112, none, .bld [(.i .i64 0), (.i .i64 0)] [(0, 1, (.c (.i .i64 3))), (1, 1, (.c (.i .i64 250)))]⟩,
  ⟨some 113, none, .box 153 2 (.t 112)⟩,
  ⟨some 114, none, .mki 149 (.t 113)⟩,
  ⟨some 6, none, .mv (.t 114)⟩])
  .ret)))⟩
def ir101 : XF := ⟨14, 2, [(2, none)], (.seq (.reg [⟨some 2, none, .mv (.c (.b false))⟩])
  (.seq (.reg [⟨some 4, none, .ld false 1 (.t 0)⟩,
  ⟨some 5, none, .nck (.t 4)⟩,
  ⟨some 6, none, .fa 4 (.t 5)⟩,
  ⟨some 7, none, .ld false 1 (.t 6)⟩,
  ⟨some 8, none, .ia 5 (.t 7) (.c (.i .i64 2))⟩,
  ⟨some 9, none, .call 102 [(.c (.s [114, 101, 115, 116, 97, 114, 116])), (.t 8)]⟩,
  ⟨some 3, none, .mv (.t 9)⟩,
  ⟨some 10, none, .ex (.t 3) 0⟩,
  ⟨some 11, none, .ex (.t 3) 1⟩,
  ⟨some 12, none, .fa 6 (.t 1)⟩,
  ⟨none, none, .st 1 (.t 12) (.t 10)⟩,
  ⟨some 2, none, .mv (.t 11)⟩])
  (.seq (.reg [⟨some 13, none, .mv (.t 2)⟩,
  ⟨some 2, none, .mv (.t 13)⟩])
  .ret)))⟩
def ir102 : XF := ⟨17, 2, [(4, none), (5, none)], (.seq (.reg [⟨some 3, none, .box 73 1 (.t 1)⟩,
  ⟨some 4, none, .mv (.c (.i .i8 0))⟩,
  ⟨some 5, none, .mv (.c (.b false))⟩])
  (.seq (.reg [⟨some 7, none, .call 86 []⟩,
  ⟨some 8, none, .mv (.t 0)⟩,
  ⟨some 9, none, .lk true false .sln (.t 7) (.t 8)⟩,
  ⟨some 10, none, .mkf (.func 169) [] [(.t 3)]⟩,
  ⟨some 11, none, .call 168 [(.t 9), (.t 10)]⟩,
  ⟨some 6, none, .mv (.t 11)⟩])
  (.seq (.reg [⟨some 12, none, .mv (.t 6)⟩,
  ⟨some 13, none, .mm true (.t 12) (.c (.i .i64 0))⟩,
  ⟨some 14, none, .cvi .i8 (.t 13)⟩,
  ⟨some 15, none, .mv (.t 6)⟩,
  ⟨some 16, none, .bop .geq (.t 15) (.c (.i .i64 0))⟩,
  ⟨some 4, none, .mv (.t 14)⟩,
  ⟨some 5, none, .mv (.t 16)⟩])
  .ret)))⟩
def ir103 : XF := ⟨41, 2, [(2, none)], (.seq (.reg [⟨some 2, none, .mv (.c (.b false))⟩])
  (.seq (.seq (.reg [⟨some 4, none, .ld false 1 (.t 0)⟩,
  ⟨some 5, none, .nck (.t 4)⟩,
  ⟨some 6, none, .fa 4 (.t 5)⟩,
  ⟨some 7, none, .ld false 1 (.t 6)⟩,
  ⟨some 8, none, .ia 5 (.t 7) (.c (.i .i64 3))⟩,
  ⟨some 3, none, .mv (.t 8)⟩])
  (.blk 0 (.seq (.reg [⟨some 34, none, .mv (.t 3)⟩,
  ⟨some 35, none, .call 42 [(.t 34), (.c (.s [105, 110, 102, 105, 110, 105, 116, 121]))]⟩,
  ⟨some 33, none, .mv (.t 35)⟩])
  (.cond (.t 33) (.reg [⟨some 36, none, .fa 7 (.t 1)⟩,
  ⟨none, none, .st 1 (.t 36) (.c (.i .i64 (-2)))⟩])
  (.seq (.reg [⟨some 38, none, .mv (.t 3)⟩,
  ⟨some 39, none, .call 42 [(.t 38), (.c (.s [98, 114, 117, 116, 97, 108, 95, 107, 105, 108, 108]))]⟩,
  ⟨some 37, none, .mv (.t 39)⟩])
  (.cond (.t 37) (.reg [⟨some 40, none, .fa 7 (.t 1)⟩,
  ⟨none, none, .st 1 (.t 40) (.c (.i .i64 (-1)))⟩])
  (.seq (.reg [⟨some 9, none, .mv (.t 3)⟩,
  ⟨some 10, none, .nck (.t 9)⟩,
  ⟨some 11, none, .fa 1 (.t 10)⟩,
  ⟨some 12, none, .ld false 1 (.t 11)⟩,
  ⟨some 13, none, .fa 7 (.t 1)⟩,
  ⟨none, none, .st 1 (.t 13) (.t 12)⟩])
  (.seq (.reg [⟨some 14, none, .mv (.t 3)⟩,
  ⟨some 15, none, .nck (.t 14)⟩,
  ⟨some 16, none, .fa 0 (.t 15)⟩,
  ⟨some 17, none, .ld false 1 (.t 16)⟩,
  ⟨some 18, none, .bop .eql (.t 17) (.c (.i .i8 0))⟩,
  ⟨some 19, none, .mv (.t 18)⟩,
  ⟨some 20, some (19, true), .mv (.t 3)⟩,
  ⟨some 21, some (19, true), .nck (.t 20)⟩,
  ⟨some 22, some (19, true), .fa 1 (.t 21)⟩,
  ⟨some 23, some (19, true), .ld false 1 (.t 22)⟩,
  ⟨some 24, some (19, true), .bop .geq (.t 23) (.c (.i .i64 1))⟩,
  ⟨some 25, none, .pick (.t 19) (.t 24) (.c (.b false))⟩,
  ⟨some 26, none, .mv (.t 25)⟩,
  ⟨some 27, some (26, true), .mv (.t 3)⟩,
  ⟨some 28, some (26, true), .nck (.t 27)⟩,
  ⟨some 29, some (26, true), .fa 1 (.t 28)⟩,
  ⟨some 30, some (26, true), .ld false 1 (.t 29)⟩,
  ⟨some 31, some (26, true), .bop .leq (.t 30) (.c (.i .i64 1073741824))⟩,
  ⟨some 32, none, .pick (.t 26) (.t 31) (.c (.b false))⟩,
  ⟨some 2, none, .mv (.t 32)⟩])
  .ret))))))))
  (.seq (.reg [⟨some 2, none, .mv (.c (.b true))⟩])
  .ret)))⟩
def ir118 : XF := ⟨11, 1, [(2, none)], (.seq (.reg [⟨some 2, none, .mv (.c (.b false))⟩])
  (.seq (.par [⟨some 3, none, .mv (.t 0)⟩,
  ⟨some 4, none, .call 176 [(.t 3)]⟩,
  ⟨some 5, none, .mv (.t 4)⟩,
  ⟨some 6, some (5, true), .mv (.t 0)⟩,
  ⟨some 7, some (5, true), .ixS (.t 6) (.c (.i .i64 0))⟩,
  ⟨some 8, some (5, true), .slcA 4 2 (.c (.p 1 0)) none (some (.c (.i .i64 1))) none⟩,
  ⟨some 9, some (5, true), .call 177 [(.t 7), (.t 8)]⟩,
  ⟨some 10, none, .pick (.t 5) (.t 9) (.c (.b false))⟩,
  ⟨some 2, none, .mv (.t 10)⟩] [0, 1, 3, 7, 15, 7, 63, 127, 255])
  .ret))⟩
def ir147 : XF := ⟨29, 1, [(2, none)], (.seq (.reg [⟨some 2, none, .mv (.c (.b false))⟩])
  (.seq (.reg [⟨some 3, none, .mv (.t 0)⟩,
  ⟨some 4, none, .bop .geq (.t 3) (.c (.i .u8 97))⟩,
  ⟨some 5, none, .mv (.t 4)⟩,
  ⟨some 6, some (5, true), .mv (.t 0)⟩,
  ⟨some 7, some (5, true), .bop .leq (.t 6) (.c (.i .u8 122))⟩,
  ⟨some 8, none, .pick (.t 5) (.t 7) (.c (.b false))⟩,
  ⟨some 9, none, .mv (.t 8)⟩,
  ⟨some 10, some (9, false), .mv (.t 0)⟩,
  ⟨some 11, some (9, false), .bop .geq (.t 10) (.c (.i .u8 65))⟩,
  ⟨some 12, some (9, false), .mv (.t 11)⟩,
  ⟨some 13, some (12, true), .mv (.t 0)⟩,
  ⟨some 14, some (12, true), .bop .leq (.t 13) (.c (.i .u8 90))⟩,
  ⟨some 15, some (9, false), .pick (.t 12) (.t 14) (.c (.b false))⟩,
  ⟨some 16, none, .pick (.t 9) (.c (.b true)) (.t 15)⟩,
  ⟨some 17, none, .mv (.t 16)⟩,
  ⟨some 18, some (17, false), .mv (.t 0)⟩,
  ⟨some 19, some (17, false), .bop .geq (.t 18) (.c (.i .u8 48))⟩,
  ⟨some 20, some (17, false), .mv (.t 19)⟩,
  ⟨some 21, some (20, true), .mv (.t 0)⟩,
  ⟨some 22, some (20, true), .bop .leq (.t 21) (.c (.i .u8 57))⟩,
  ⟨some 23, some (17, false), .pick (.t 20) (.t 22) (.c (.b false))⟩,
  ⟨some 24, none, .pick (.t 17) (.c (.b true)) (.t 23)⟩,
  ⟨some 25, none, .mv (.t 24)⟩,
  ⟨some 26, some (25, false), .mv (.t 0)⟩,
  ⟨some 27, some (25, false), .bop .eql (.t 26) (.c (.i .u8 95))⟩,
  ⟨some 28, none, .pick (.t 25) (.c (.b true)) (.t 27)⟩,
  ⟨some 2, none, .mv (.t 28)⟩])
  .ret))⟩
def ir148 : XF := ⟨47, 2, [(4, none)], (.seq (.reg [⟨some 4, none, .mv (.c (.b false))⟩])
  (.seq (.seq (.par [⟨some 5, none, .mv (.t 0)⟩,
  ⟨some 6, none, .nck (.t 5)⟩,
  ⟨some 7, none, .fa 0 (.t 6)⟩,
  ⟨some 8, none, .ld false 1 (.t 7)⟩,
  ⟨some 9, none, .len 0 (.t 8)⟩,
  ⟨some 10, none, .mv (.t 0)⟩,
  ⟨some 11, none, .nck (.t 10)⟩,
  ⟨some 12, none, .fa 1 (.t 11)⟩,
  ⟨some 13, none, .ld false 1 (.t 12)⟩,
  ⟨some 14, none, .bop .sub (.t 9) (.t 13)⟩,
  ⟨some 15, none, .mv (.t 1)⟩,
  ⟨some 16, none, .len 0 (.t 15)⟩,
  ⟨some 17, none, .bop .lss (.t 14) (.t 16)⟩,
  ⟨some 18, none, .mv (.t 17)⟩,
  ⟨some 19, some (18, false), .mv (.t 0)⟩,
  ⟨some 20, some (18, false), .nck (.t 19)⟩,
  ⟨some 21, some (18, false), .fa 0 (.t 20)⟩,
  ⟨some 22, some (18, false), .ld false 1 (.t 21)⟩,
  ⟨some 23, some (18, false), .mv (.t 0)⟩,
  ⟨some 24, some (18, false), .nck (.t 23)⟩,
  ⟨some 25, some (18, false), .fa 1 (.t 24)⟩,
  ⟨some 26, some (18, false), .ld false 1 (.t 25)⟩,
  ⟨some 27, some (18, false), .mv (.t 0)⟩,
  ⟨some 28, some (18, false), .nck (.t 27)⟩,
  ⟨some 29, some (18, false), .fa 1 (.t 28)⟩,
  ⟨some 30, some (18, false), .ld false 1 (.t 29)⟩,
  ⟨some 31, some (18, false), .mv (.t 1)⟩,
  ⟨some 32, some (18, false), .len 0 (.t 31)⟩,
  ⟨some 33, some (18, false), .bop .add (.t 30) (.t 32)⟩,
  ⟨some 34, some (18, false), .slcS (.t 22) (some (.t 26)) (some (.t 33))⟩,
  ⟨some 35, some (18, false), .mv (.t 1)⟩,
  ⟨some 36, some (18, false), .bop .neq (.t 34) (.t 35)⟩,
  ⟨some 37, none, .pick (.t 18) (.c (.b true)) (.t 36)⟩] [0, 1, 3, 7, 15, 0, 32, 96, 224, 511, 0, 1024, 4095, 8191, 16383, 32767, 65535, 131071, 16383, 278527, 802815, 1851391, 16383, 4210687, 12599295, 29376511, 16383, 67125247, 264257535, 536870911, 16383, 2147483647, 4294967295])
  (.cond (.t 37) (.seq (.reg [⟨some 4, none, .mv (.c (.b false))⟩])
  .ret)
  .skip))
  (.seq (.reg [⟨some 38, none, .mv (.t 0)⟩,
  ⟨some 39, none, .nck (.t 38)⟩,
  ⟨some 40, none, .fa 1 (.t 39)⟩,
  ⟨some 41, none, .ld false 1 (.t 40)⟩,
  ⟨some 42, none, .mv (.t 1)⟩,
  ⟨some 43, none, .len 0 (.t 42)⟩,
  ⟨some 44, none, .bop .add (.t 41) (.t 43)⟩,
  ⟨some 45, none, .nck (.t 38)⟩,
  ⟨some 46, none, .fa 1 (.t 45)⟩,
  ⟨none, none, .st 1 (.t 46) (.t 44)⟩])
  (.seq (.reg [⟨some 4, none, .mv (.c (.b true))⟩])
  .ret))))⟩
def ir149 : XF := ⟨20, 1, [(2, none)], (.seq (.reg [⟨some 2, none, .mv (.c .sln)⟩])
  (.seq (.reg [⟨some 3, none, .mv (.c .sln)⟩])
  (.blk 0 (.loop (.blk 1 (.seq (.reg [⟨some 4, none, .mv (.t 3)⟩,
  ⟨some 5, none, .mv (.t 0)⟩,
  ⟨some 6, none, .call 85 [(.t 5)]⟩,
  ⟨some 7, none, .bls 25 5 1 [(.i .i8 0), (.i .i64 0), (.s []), (.s []), .sln] [(0, 5, (.t 6))]⟩,
  ⟨some 8, none, .app 25 5 (.t 4) (.t 7)⟩,
  ⟨some 3, none, .mv (.t 8)⟩])
  (.seq (.reg [⟨some 9, none, .mv (.t 0)⟩,
  ⟨some 10, none, .nck (.t 9)⟩,
  ⟨some 11, none, .fa 3 (.t 10)⟩,
  ⟨some 12, none, .ld false 1 (.t 11)⟩,
  ⟨some 13, none, .bop .neq (.t 12) (.c (.i .i64 0))⟩,
  ⟨some 14, none, .mv (.t 13)⟩,
  ⟨some 15, some (14, false), .mv (.t 0)⟩,
  ⟨some 16, some (14, false), .call 148 [(.t 15), (.c (.s [44]))]⟩,
  ⟨some 17, some (14, false), .un .not (.t 16)⟩,
  ⟨some 18, none, .pick (.t 14) (.c (.b true)) (.t 17)⟩])
  (.cond (.t 18) (.seq (.reg [⟨some 19, none, .mv (.t 3)⟩,
  ⟨some 2, none, .mv (.t 19)⟩])
  .ret)
  .skip))))))))⟩
def ir153 : XF := ⟨5, 1, [(2, some (true, 5))], (.seq (.reg [⟨some 2, none, .box 25 5 (.c (.ag [(.i .i8 0), (.i .i64 0), (.s []), (.s []), .sln]))⟩])
  (.seq (.reg [⟨some 3, none, .mv (.t 0)⟩,
  ⟨some 4, none, .bld [(.i .i8 0), (.i .i64 0), (.s []), (.s []), .sln] [(0, 1, (.c (.i .i8 0))), (1, 1, (.t 3))]⟩,
  ⟨none, none, .st 5 (.t 2) (.t 4)⟩])
  .ret))⟩
def ir154 : XF := ⟨54, 1, [(2, none)], (.seq (.reg [⟨some 2, none, .mv (.c (.i .i64 0))⟩])
  (.seq (.par [⟨some 7, none, .mv (.t 0)⟩,
  ⟨some 8, none, .nck (.t 7)⟩,
  ⟨some 9, none, .fa 0 (.t 8)⟩,
  ⟨some 10, none, .ld false 1 (.t 9)⟩,
  ⟨some 11, none, .mv (.t 0)⟩,
  ⟨some 12, none, .nck (.t 11)⟩,
  ⟨some 13, none, .fa 1 (.t 12)⟩,
  ⟨some 14, none, .ld false 1 (.t 13)⟩,
  ⟨some 15, none, .slcS (.t 10) (some (.t 14)) none⟩,
  ⟨some 16, none, .call 191 [(.t 15)]⟩,
  ⟨some 6, none, .mv (.t 16)⟩,
  ⟨some 17, none, .ex (.t 6) 0⟩,
  ⟨some 18, none, .ex (.t 6) 1⟩,
  ⟨some 19, none, .ex (.t 6) 2⟩,
  ⟨some 3, none, .mv (.t 17)⟩,
  ⟨some 4, none, .mv (.t 18)⟩,
  ⟨some 5, none, .mv (.t 19)⟩] [0, 1, 3, 7, 0, 16, 48, 112, 255, 511, 1023, 2047, 2047, 2047, 4095, 24575, 65535])
  (.seq (.seq (.par [⟨some 20, none, .mv (.t 5)⟩,
  ⟨some 21, none, .bop .eql (.t 20) (.c (.i .i64 2))⟩,
  ⟨some 22, none, .mv (.t 21)⟩,
  ⟨some 23, some (22, false), .mv (.t 4)⟩,
  ⟨some 24, some (22, false), .bop .gtr (.t 23) (.c (.i .i64 1))⟩,
  ⟨some 25, some (22, false), .mv (.t 24)⟩,
  ⟨some 26, some (25, true), .mv (.t 0)⟩,
  ⟨some 27, some (25, true), .nck (.t 26)⟩,
  ⟨some 28, some (25, true), .fa 0 (.t 27)⟩,
  ⟨some 29, some (25, true), .ld false 1 (.t 28)⟩,
  ⟨some 30, some (25, true), .mv (.t 0)⟩,
  ⟨some 31, some (25, true), .nck (.t 30)⟩,
  ⟨some 32, some (25, true), .fa 1 (.t 31)⟩,
  ⟨some 33, some (25, true), .ld false 1 (.t 32)⟩,
  ⟨some 34, some (25, true), .ixS (.t 29) (.t 33)⟩,
  ⟨some 35, some (25, true), .bop .eql (.t 34) (.c (.i .u8 48))⟩,
  ⟨some 36, some (22, false), .pick (.t 25) (.t 35) (.c (.b false))⟩,
  ⟨some 37, none, .pick (.t 22) (.c (.b true)) (.t 36)⟩] [0, 1, 3, 7, 15, 31, 63, 127, 255, 511, 63, 1087, 3135, 7231, 16383, 32767, 65535, 131071])
  (.cond (.t 37) (.seq (.reg [⟨some 38, none, .mv (.t 0)⟩,
  ⟨some 39, none, .call 146 [(.t 38), (.c (.i .i64 2))]⟩])
  (.seq (.reg [⟨some 2, none, .mv (.c (.i .i64 0))⟩])
  .ret))
  .skip))
  (.seq (.seq (.reg [⟨some 40, none, .mv (.t 5)⟩,
  ⟨some 41, none, .bop .neq (.t 40) (.c (.i .i64 0))⟩])
  (.cond (.t 41) (.seq (.reg [⟨some 42, none, .mv (.t 0)⟩,
  ⟨some 43, none, .mv (.t 5)⟩,
  ⟨some 44, none, .call 146 [(.t 42), (.t 43)]⟩])
  (.seq (.reg [⟨some 2, none, .mv (.c (.i .i64 0))⟩])
  .ret))
  .skip))
  (.seq (.reg [⟨some 45, none, .mv (.t 0)⟩,
  ⟨some 46, none, .nck (.t 45)⟩,
  ⟨some 47, none, .fa 1 (.t 46)⟩,
  ⟨some 48, none, .ld false 1 (.t 47)⟩,
  ⟨some 49, none, .mv (.t 4)⟩,
  ⟨some 50, none, .bop .add (.t 48) (.t 49)⟩,
  ⟨some 51, none, .nck (.t 45)⟩,
  ⟨some 52, none, .fa 1 (.t 51)⟩,
  ⟨none, none, .st 1 (.t 52) (.t 50)⟩])
  (.seq (.reg [⟨some 53, none, .mv (.t 3)⟩,
  ⟨some 2, none, .mv (.t 53)⟩])
  .ret))))))⟩
def ir155 : XF := ⟨143, 1, [(2, some (true, 5)), (3, none)], (.seq (.reg [⟨some 2, none, .box 25 5 (.c (.ag [(.i .i8 0), (.i .i64 0), (.s []), (.s []), .sln]))⟩,
  ⟨some 3, none, .mv (.c (.b false))⟩])
  (.seq (.reg [⟨some 9, none, .mv (.t 0)⟩,
  ⟨some 10, none, .nck (.t 9)⟩,
  ⟨some 11, none, .fa 1 (.t 10)⟩,
  ⟨some 12, none, .ld false 1 (.t 11)⟩,
  ⟨some 4, none, .mv (.t 12)⟩])
  (.seq (.seq (.reg [⟨some 13, none, .mv (.t 0)⟩,
  ⟨some 14, none, .call 148 [(.t 13), (.c (.s [102, 117, 110, 32]))]⟩])
  (.cond (.t 14) (.seq (.reg [⟨some 15, none, .mv (.t 0)⟩,
  ⟨some 16, none, .call 156 [(.t 15)]⟩,
  ⟨some 5, none, .mv (.t 16)⟩])
  (.seq (.reg [⟨some 17, none, .mv (.t 5)⟩,
  ⟨some 18, none, .bop .neq (.t 17) (.c (.s []))⟩,
  ⟨some 19, none, .mv (.t 18)⟩,
  ⟨some 20, some (19, true), .mv (.t 0)⟩,
  ⟨some 21, some (19, true), .call 148 [(.t 20), (.c (.s [58]))]⟩,
  ⟨some 22, none, .pick (.t 19) (.t 21) (.c (.b false))⟩])
  (.cond (.t 22) (.seq (.reg [⟨some 23, none, .mv (.t 0)⟩,
  ⟨some 24, none, .call 156 [(.t 23)]⟩,
  ⟨some 6, none, .mv (.t 24)⟩])
  (.seq (.par [⟨some 25, none, .mv (.t 6)⟩,
  ⟨some 26, none, .bop .neq (.t 25) (.c (.s []))⟩,
  ⟨some 27, none, .mv (.t 26)⟩,
  ⟨some 28, some (27, true), .mv (.t 0)⟩,
  ⟨some 29, some (27, true), .call 148 [(.t 28), (.c (.s [47]))]⟩,
  ⟨some 30, none, .pick (.t 27) (.t 29) (.c (.b false))⟩,
  ⟨some 31, none, .mv (.t 30)⟩,
  ⟨some 32, some (31, true), .mv (.t 0)⟩,
  ⟨some 33, some (31, true), .nck (.t 32)⟩,
  ⟨some 34, some (31, true), .fa 1 (.t 33)⟩,
  ⟨some 35, some (31, true), .ld false 1 (.t 34)⟩,
  ⟨some 36, some (31, true), .mv (.t 0)⟩,
  ⟨some 37, some (31, true), .nck (.t 36)⟩,
  ⟨some 38, some (31, true), .fa 0 (.t 37)⟩,
  ⟨some 39, some (31, true), .ld false 1 (.t 38)⟩,
  ⟨some 40, some (31, true), .len 0 (.t 39)⟩,
  ⟨some 41, some (31, true), .bop .lss (.t 35) (.t 40)⟩,
  ⟨some 42, none, .pick (.t 31) (.t 41) (.c (.b false))⟩,
  ⟨some 43, none, .mv (.t 42)⟩,
  ⟨some 44, some (43, true), .mv (.t 0)⟩,
  ⟨some 45, some (43, true), .nck (.t 44)⟩,
  ⟨some 46, some (43, true), .fa 0 (.t 45)⟩,
  ⟨some 47, some (43, true), .ld false 1 (.t 46)⟩,
  ⟨some 48, some (43, true), .mv (.t 0)⟩,
  ⟨some 49, some (43, true), .nck (.t 48)⟩,
  ⟨some 50, some (43, true), .fa 1 (.t 49)⟩,
  ⟨some 51, some (43, true), .ld false 1 (.t 50)⟩,
  ⟨some 52, some (43, true), .ixS (.t 47) (.t 51)⟩,
  ⟨some 53, some (43, true), .bop .geq (.t 52) (.c (.i .u8 48))⟩,
  ⟨some 54, none, .pick (.t 43) (.t 53) (.c (.b false))⟩,
  ⟨some 55, none, .mv (.t 54)⟩,
  ⟨some 56, some (55, true), .mv (.t 0)⟩,
  ⟨some 57, some (55, true), .nck (.t 56)⟩,
  ⟨some 58, some (55, true), .fa 0 (.t 57)⟩,
  ⟨some 59, some (55, true), .ld false 1 (.t 58)⟩,
  ⟨some 60, some (55, true), .mv (.t 0)⟩,
  ⟨some 61, some (55, true), .nck (.t 60)⟩,
  ⟨some 62, some (55, true), .fa 1 (.t 61)⟩,
  ⟨some 63, some (55, true), .ld false 1 (.t 62)⟩,
  ⟨some 64, some (55, true), .ixS (.t 59) (.t 63)⟩,
  ⟨some 65, some (55, true), .bop .leq (.t 64) (.c (.i .u8 57))⟩,
  ⟨some 66, none, .pick (.t 55) (.t 65) (.c (.b false))⟩] [0, 1, 3, 7, 15, 31, 63, 127, 255, 511, 1023, 127, 2175, 6271, 14463, 30847, 65535, 131071, 262143, 524287, 1048575, 2097151, 4194303, 524287, 8912895, 25690111, 59244543, 134217727, 268435455, 536870911, 1073741823, 2147483647, 4294967295, 8589934591, 17179869183, 2147483647, 36507222015, 105226698751, 242665652223, 549755813887, 1099511627775, 2199023255551])
  (.cond (.t 66) (.seq (.reg [⟨some 67, none, .mv (.t 0)⟩,
  ⟨some 68, none, .nck (.t 67)⟩,
  ⟨some 69, none, .fa 1 (.t 68)⟩,
  ⟨some 70, none, .ld false 1 (.t 69)⟩,
  ⟨some 7, none, .mv (.t 70)⟩])
  (.seq (.blk 0 (.loop (.seq (.seq (.reg [⟨some 71, none, .mv (.t 7)⟩,
  ⟨some 72, none, .mv (.t 0)⟩,
  ⟨some 73, none, .nck (.t 72)⟩,
  ⟨some 74, none, .fa 0 (.t 73)⟩,
  ⟨some 75, none, .ld false 1 (.t 74)⟩,
  ⟨some 76, none, .len 0 (.t 75)⟩,
  ⟨some 77, none, .bop .lss (.t 71) (.t 76)⟩,
  ⟨some 78, none, .mv (.t 77)⟩,
  ⟨some 79, some (78, true), .mv (.t 0)⟩,
  ⟨some 80, some (78, true), .nck (.t 79)⟩,
  ⟨some 81, some (78, true), .fa 0 (.t 80)⟩,
  ⟨some 82, some (78, true), .ld false 1 (.t 81)⟩,
  ⟨some 83, some (78, true), .mv (.t 7)⟩,
  ⟨some 84, some (78, true), .ixS (.t 82) (.t 83)⟩,
  ⟨some 85, some (78, true), .bop .geq (.t 84) (.c (.i .u8 48))⟩,
  ⟨some 86, none, .pick (.t 78) (.t 85) (.c (.b false))⟩,
  ⟨some 87, none, .mv (.t 86)⟩,
  ⟨some 88, some (87, true), .mv (.t 0)⟩,
  ⟨some 89, some (87, true), .nck (.t 88)⟩,
  ⟨some 90, some (87, true), .fa 0 (.t 89)⟩,
  ⟨some 91, some (87, true), .ld false 1 (.t 90)⟩,
  ⟨some 92, some (87, true), .mv (.t 7)⟩,
  ⟨some 93, some (87, true), .ixS (.t 91) (.t 92)⟩,
  ⟨some 94, some (87, true), .bop .leq (.t 93) (.c (.i .u8 57))⟩,
  ⟨some 95, none, .pick (.t 87) (.t 94) (.c (.b false))⟩])
  (.cond (.t 95) .skip
  (.exit 0)))
  (.blk 1 (.reg [⟨some 96, none, .mv (.t 7)⟩,
  ⟨some 97, none, .bop .add (.t 96) (.c (.i .i64 1))⟩,
  ⟨some 7, none, .mv (.t 97)⟩])))))
  (.seq (.par [⟨some 98, none, .mv (.t 7)⟩,
  ⟨some 99, none, .mv (.t 0)⟩,
  ⟨some 100, none, .nck (.t 99)⟩,
  ⟨some 101, none, .fa 1 (.t 100)⟩,
  ⟨some 102, none, .ld false 1 (.t 101)⟩,
  ⟨some 103, none, .bop .add (.t 102) (.c (.i .i64 1))⟩,
  ⟨some 104, none, .bop .eql (.t 98) (.t 103)⟩,
  ⟨some 105, none, .mv (.t 104)⟩,
  ⟨some 106, some (105, true), .mv (.t 0)⟩,
  ⟨some 107, some (105, true), .nck (.t 106)⟩,
  ⟨some 108, some (105, true), .fa 0 (.t 107)⟩,
  ⟨some 109, some (105, true), .ld false 1 (.t 108)⟩,
  ⟨some 110, some (105, true), .mv (.t 0)⟩,
  ⟨some 111, some (105, true), .nck (.t 110)⟩,
  ⟨some 112, some (105, true), .fa 1 (.t 111)⟩,
  ⟨some 113, some (105, true), .ld false 1 (.t 112)⟩,
  ⟨some 114, some (105, true), .ixS (.t 109) (.t 113)⟩,
  ⟨some 115, some (105, true), .bop .sub (.t 114) (.c (.i .u8 48))⟩,
  ⟨some 116, some (105, true), .cvi .i64 (.t 115)⟩,
  ⟨some 117, some (105, true), .bop .leq (.t 116) (.c (.i .i64 8))⟩,
  ⟨some 118, none, .pick (.t 105) (.t 117) (.c (.b false))⟩] [0, 0, 2, 6, 14, 30, 63, 127, 255, 511, 1023, 2047, 255, 4351, 12543, 28927, 65535, 131071, 262143, 524287, 1048575])
  (.cond (.t 118) (.seq (.par [⟨some 119, none, .mv (.t 0)⟩,
  ⟨some 120, none, .nck (.t 119)⟩,
  ⟨some 121, none, .fa 0 (.t 120)⟩,
  ⟨some 122, none, .ld false 1 (.t 121)⟩,
  ⟨some 123, none, .mv (.t 0)⟩,
  ⟨some 124, none, .nck (.t 123)⟩,
  ⟨some 125, none, .fa 1 (.t 124)⟩,
  ⟨some 126, none, .ld false 1 (.t 125)⟩,
  ⟨some 127, none, .ixS (.t 122) (.t 126)⟩,
  ⟨some 128, none, .bop .sub (.t 127) (.c (.i .u8 48))⟩,
  ⟨some 129, none, .cvi .i64 (.t 128)⟩,
  ⟨some 8, none, .mv (.t 129)⟩] [0, 1, 3, 7, 0, 16, 48, 112, 255, 511, 1023, 2047])
  (.seq (.reg [⟨some 130, none, .mv (.t 0)⟩,
  ⟨some 131, none, .mv (.t 7)⟩,
  ⟨some 132, none, .nck (.t 130)⟩,
  ⟨some 133, none, .fa 1 (.t 132)⟩,
  ⟨none, none, .st 1 (.t 133) (.t 131)⟩])
  (.seq (.reg [⟨some 134, none, .mv (.t 5)⟩,
  ⟨some 135, none, .mv (.t 6)⟩,
  ⟨some 136, none, .mv (.t 8)⟩,
  ⟨some 137, none, .bld [(.i .i8 0), (.i .i64 0), (.s []), (.s []), .sln] [(0, 1, (.c (.i .i8 3))), (2, 1, (.t 134)), (3, 1, (.t 135)), (1, 1, (.t 136))]⟩,
  ⟨none, none, .st 5 (.t 2) (.t 137)⟩,
  ⟨some 3, none, .mv (.c (.b true))⟩])
  .ret)))
  .skip))))
  .skip)))
  .skip)))
  .skip))
  (.seq (.reg [⟨some 138, none, .mv (.t 0)⟩,
  ⟨some 139, none, .mv (.t 4)⟩,
  ⟨some 140, none, .nck (.t 138)⟩,
  ⟨some 141, none, .fa 1 (.t 140)⟩,
  ⟨none, none, .st 1 (.t 141) (.t 139)⟩])
  (.seq (.reg [⟨some 142, none, .bld [(.i .i8 0), (.i .i64 0), (.s []), (.s []), .sln] []⟩,
  ⟨none, none, .st 5 (.t 2) (.t 142)⟩,
  ⟨some 3, none, .mv (.c (.b false))⟩])
  .ret)))))⟩
def ir156 : XF := ⟨45, 1, [(2, none)], (.seq (.reg [⟨some 2, none, .mv (.c (.s []))⟩])
  (.seq (.reg [⟨some 5, none, .mv (.t 0)⟩,
  ⟨some 6, none, .nck (.t 5)⟩,
  ⟨some 7, none, .fa 1 (.t 6)⟩,
  ⟨some 8, none, .ld false 1 (.t 7)⟩,
  ⟨some 3, none, .mv (.t 8)⟩])
  (.seq (.blk 0 (.loop (.seq (.seq (.reg [⟨some 9, none, .mv (.t 3)⟩,
  ⟨some 10, none, .mv (.t 0)⟩,
  ⟨some 11, none, .nck (.t 10)⟩,
  ⟨some 12, none, .fa 0 (.t 11)⟩,
  ⟨some 13, none, .ld false 1 (.t 12)⟩,
  ⟨some 14, none, .len 0 (.t 13)⟩,
  ⟨some 15, none, .bop .lss (.t 9) (.t 14)⟩,
  ⟨some 16, none, .mv (.t 15)⟩,
  ⟨some 17, some (16, true), .mv (.t 0)⟩,
  ⟨some 18, some (16, true), .nck (.t 17)⟩,
  ⟨some 19, some (16, true), .fa 0 (.t 18)⟩,
  ⟨some 20, some (16, true), .ld false 1 (.t 19)⟩,
  ⟨some 21, some (16, true), .mv (.t 3)⟩,
  ⟨some 22, some (16, true), .ixS (.t 20) (.t 21)⟩,
  ⟨some 23, some (16, true), .call 147 [(.t 22)]⟩,
  ⟨some 24, none, .pick (.t 16) (.t 23) (.c (.b false))⟩])
  (.cond (.t 24) .skip
  (.exit 0)))
  (.blk 1 (.reg [⟨some 25, none, .mv (.t 3)⟩,
  ⟨some 26, none, .bop .add (.t 25) (.c (.i .i64 1))⟩,
  ⟨some 3, none, .mv (.t 26)⟩])))))
  (.seq (.par [⟨some 27, none, .mv (.t 0)⟩,
  ⟨some 28, none, .nck (.t 27)⟩,
  ⟨some 29, none, .fa 0 (.t 28)⟩,
  ⟨some 30, none, .ld false 1 (.t 29)⟩,
  ⟨some 31, none, .mv (.t 0)⟩,
  ⟨some 32, none, .nck (.t 31)⟩,
  ⟨some 33, none, .fa 1 (.t 32)⟩,
  ⟨some 34, none, .ld false 1 (.t 33)⟩,
  ⟨some 35, none, .mv (.t 3)⟩,
  ⟨some 36, none, .slcS (.t 30) (some (.t 34)) (some (.t 35))⟩,
  ⟨some 4, none, .mv (.t 36)⟩] [0, 1, 3, 7, 0, 16, 48, 112, 0, 511, 1023])
  (.seq (.seq (.reg [⟨some 37, none, .mv (.t 4)⟩,
  ⟨some 38, none, .call 192 [(.t 37)]⟩,
  ⟨some 39, none, .un .not (.t 38)⟩])
  (.cond (.t 39) (.seq (.reg [⟨some 2, none, .mv (.c (.s []))⟩])
  .ret)
  .skip))
  (.seq (.reg [⟨some 40, none, .mv (.t 0)⟩,
  ⟨some 41, none, .mv (.t 3)⟩,
  ⟨some 42, none, .nck (.t 40)⟩,
  ⟨some 43, none, .fa 1 (.t 42)⟩,
  ⟨none, none, .st 1 (.t 43) (.t 41)⟩])
  (.seq (.reg [⟨some 44, none, .mv (.t 4)⟩,
  ⟨some 2, none, .mv (.t 44)⟩])
  .ret)))))))⟩
def ir161 : XF := ⟨128, 1, [(2, none)], (.seq (.reg [⟨some 1, none, .box 73 1 (.t 0)⟩,
  ⟨some 2, none, .mv (.c .ifn)⟩])
  (.seq (.reg [⟨some 4, none, .mkf (.func 197) [] [(.t 1)]⟩,
  ⟨some 3, none, .mv (.t 4)⟩])
  (.seq (.blk 0 (.seq (.reg [⟨some 6, none, .ld false 1 (.t 1)⟩,
  ⟨some 7, none, .nck (.t 6)⟩,
  ⟨some 8, none, .fa 0 (.t 7)⟩,
  ⟨some 9, none, .ld false 1 (.t 8)⟩,
  ⟨some 10, none, .bop .eql (.t 9) (.c (.i .i8 0))⟩,
  ⟨some 11, none, .mv (.t 10)⟩,
  ⟨some 12, some (11, true), .mv (.t 3)⟩,
  ⟨some 13, some (11, true), .callv (.t 12) [(.c (.b true)), (.c (.b false)), (.c (.b false)), (.c (.b false))]⟩,
  ⟨some 14, none, .pick (.t 11) (.t 13) (.c (.b false))⟩,
  ⟨some 5, none, .mv (.t 14)⟩])
  (.cond (.t 5) (.seq (.reg [⟨some 15, none, .ld false 1 (.t 1)⟩,
  ⟨some 16, none, .nck (.t 15)⟩,
  ⟨some 17, none, .fa 1 (.t 16)⟩,
  ⟨some 18, none, .ld false 1 (.t 17)⟩,
  ⟨some 19, none, .bld [(.i .i64 0)] [(0, 1, (.t 18))]⟩,
  ⟨some 20, none, .mki 182 (.t 19)⟩,
  ⟨some 2, none, .mv (.t 20)⟩])
  .ret)
  (.seq (.reg [⟨some 22, none, .ld false 1 (.t 1)⟩,
  ⟨some 23, none, .nck (.t 22)⟩,
  ⟨some 24, none, .fa 0 (.t 23)⟩,
  ⟨some 25, none, .ld false 1 (.t 24)⟩,
  ⟨some 26, none, .bop .eql (.t 25) (.c (.i .i8 2))⟩,
  ⟨some 27, none, .mv (.t 26)⟩,
  ⟨some 28, some (27, false), .ld false 1 (.t 1)⟩,
  ⟨some 29, some (27, false), .nck (.t 28)⟩,
  ⟨some 30, some (27, false), .fa 0 (.t 29)⟩,
  ⟨some 31, some (27, false), .ld false 1 (.t 30)⟩,
  ⟨some 32, some (27, false), .bop .eql (.t 31) (.c (.i .i8 4))⟩,
  ⟨some 33, none, .pick (.t 27) (.c (.b true)) (.t 32)⟩,
  ⟨some 34, none, .mv (.t 33)⟩,
  ⟨some 35, some (34, true), .mv (.t 3)⟩,
  ⟨some 36, some (34, true), .callv (.t 35) [(.c (.b true)), (.c (.b false)), (.c (.b false)), (.c (.b false))]⟩,
  ⟨some 37, none, .pick (.t 34) (.t 36) (.c (.b false))⟩,
  ⟨some 21, none, .mv (.t 37)⟩])
  (.cond (.t 21) (.seq (.reg [⟨some 38, none, .ld false 1 (.t 1)⟩,
  ⟨some 39, none, .nck (.t 38)⟩,
  ⟨some 40, none, .fa 1 (.t 39)⟩,
  ⟨some 41, none, .ld false 1 (.t 40)⟩,
  ⟨some 42, none, .bld [(.i .i64 0)] [(0, 1, (.t 41))]⟩,
  ⟨some 43, none, .mki 184 (.t 42)⟩,
  ⟨some 2, none, .mv (.t 43)⟩])
  .ret)
  (.seq (.reg [⟨some 45, none, .ld false 1 (.t 1)⟩,
  ⟨some 46, none, .nck (.t 45)⟩,
  ⟨some 47, none, .fa 0 (.t 46)⟩,
  ⟨some 48, none, .ld false 1 (.t 47)⟩,
  ⟨some 49, none, .bop .eql (.t 48) (.c (.i .i8 1))⟩,
  ⟨some 50, none, .mv (.t 49)⟩,
  ⟨some 51, some (50, true), .mv (.t 3)⟩,
  ⟨some 52, some (50, true), .callv (.t 51) [(.c (.b false)), (.c (.b true)), (.c (.b false)), (.c (.b false))]⟩,
  ⟨some 53, none, .pick (.t 50) (.t 52) (.c (.b false))⟩,
  ⟨some 44, none, .mv (.t 53)⟩])
  (.cond (.t 44) (.seq (.reg [⟨some 54, none, .ld false 1 (.t 1)⟩,
  ⟨some 55, none, .nck (.t 54)⟩,
  ⟨some 56, none, .fa 2 (.t 55)⟩,
  ⟨some 57, none, .ld false 1 (.t 56)⟩,
  ⟨some 58, none, .bld [(.s [])] [(0, 1, (.t 57))]⟩,
  ⟨some 59, none, .mki 186 (.t 58)⟩,
  ⟨some 2, none, .mv (.t 59)⟩])
  .ret)
  (.seq (.reg [⟨some 61, none, .ld false 1 (.t 1)⟩,
  ⟨some 62, none, .nck (.t 61)⟩,
  ⟨some 63, none, .fa 0 (.t 62)⟩,
  ⟨some 64, none, .ld false 1 (.t 63)⟩,
  ⟨some 65, none, .bop .eql (.t 64) (.c (.i .i8 3))⟩,
  ⟨some 66, none, .mv (.t 65)⟩,
  ⟨some 67, some (66, true), .mv (.t 3)⟩,
  ⟨some 68, some (66, true), .callv (.t 67) [(.c (.b true)), (.c (.b true)), (.c (.b true)), (.c (.b false))]⟩,
  ⟨some 69, none, .pick (.t 66) (.t 68) (.c (.b false))⟩,
  ⟨some 60, none, .mv (.t 69)⟩])
  (.cond (.t 60) (.seq (.par [⟨some 70, none, .ld false 1 (.t 1)⟩,
  ⟨some 71, none, .nck (.t 70)⟩,
  ⟨some 72, none, .fa 2 (.t 71)⟩,
  ⟨some 73, none, .ld false 1 (.t 72)⟩,
  ⟨some 74, none, .ld false 1 (.t 1)⟩,
  ⟨some 75, none, .nck (.t 74)⟩,
  ⟨some 76, none, .fa 3 (.t 75)⟩,
  ⟨some 77, none, .ld false 1 (.t 76)⟩,
  ⟨some 78, none, .ld false 1 (.t 1)⟩,
  ⟨some 79, none, .nck (.t 78)⟩,
  ⟨some 80, none, .fa 1 (.t 79)⟩,
  ⟨some 81, none, .ld false 1 (.t 80)⟩,
  ⟨some 82, none, .bld [(.s []), (.s []), (.i .i64 0)] [(0, 1, (.t 73)), (1, 1, (.t 77)), (2, 1, (.t 81))]⟩,
  ⟨some 83, none, .mki 188 (.t 82)⟩,
  ⟨some 2, none, .mv (.t 83)⟩] [0, 1, 3, 7, 0, 16, 48, 112, 0, 256, 768, 1792, 4095, 8191, 16383])
  .ret)
  (.seq (.reg [⟨some 85, none, .ld false 1 (.t 1)⟩,
  ⟨some 86, none, .nck (.t 85)⟩,
  ⟨some 87, none, .fa 0 (.t 86)⟩,
  ⟨some 88, none, .ld false 1 (.t 87)⟩,
  ⟨some 89, none, .bop .eql (.t 88) (.c (.i .i8 5))⟩,
  ⟨some 90, none, .mv (.t 89)⟩,
  ⟨some 91, some (90, true), .mv (.t 3)⟩,
  ⟨some 92, some (90, true), .callv (.t 91) [(.c (.b false)), (.c (.b false)), (.c (.b false)), (.c (.b true))]⟩,
  ⟨some 93, none, .pick (.t 90) (.t 92) (.c (.b false))⟩,
  ⟨some 84, none, .mv (.t 93)⟩])
  (.cond (.t 84) (.seq (.reg [⟨some 94, none, .ld false 1 (.t 1)⟩,
  ⟨some 95, none, .nck (.t 94)⟩,
  ⟨some 96, none, .fa 4 (.t 95)⟩,
  ⟨some 97, none, .ld false 1 (.t 96)⟩,
  ⟨some 98, none, .bld [.sln, (.i .i64 0)] [(0, 1, (.t 97)), (1, 1, (.c (.i .i64 (-1))))]⟩,
  ⟨some 99, none, .mki 190 (.t 98)⟩,
  ⟨some 2, none, .mv (.t 99)⟩])
  .ret)
  (.seq (.reg [⟨some 101, none, .ld false 1 (.t 1)⟩,
  ⟨some 102, none, .nck (.t 101)⟩,
  ⟨some 103, none, .fa 0 (.t 102)⟩,
  ⟨some 104, none, .ld false 1 (.t 103)⟩,
  ⟨some 105, none, .bop .eql (.t 104) (.c (.i .i8 6))⟩,
  ⟨some 106, none, .mv (.t 105)⟩,
  ⟨some 107, some (106, true), .mv (.t 3)⟩,
  ⟨some 108, some (106, true), .callv (.t 107) [(.c (.b false)), (.c (.b false)), (.c (.b false)), (.c (.b false))]⟩,
  ⟨some 109, none, .pick (.t 106) (.t 108) (.c (.b false))⟩,
  ⟨some 100, none, .mv (.t 109)⟩])
  (.cond (.t 100) (.seq (.reg [⟨some 110, none, .bld [.sln, (.i .i64 0)] [(0, 1, (.c .sln)), (1, 1, (.c (.i .i64 0)))]⟩,
  ⟨some 111, none, .mki 190 (.t 110)⟩,
  ⟨some 2, none, .mv (.t 111)⟩])
  .ret)
  (.seq (.reg [⟨some 113, none, .ld false 1 (.t 1)⟩,
  ⟨some 114, none, .nck (.t 113)⟩,
  ⟨some 115, none, .fa 0 (.t 114)⟩,
  ⟨some 116, none, .ld false 1 (.t 115)⟩,
  ⟨some 117, none, .bop .eql (.t 116) (.c (.i .i8 7))⟩,
  ⟨some 118, none, .mv (.t 117)⟩,
  ⟨some 119, some (118, true), .mv (.t 3)⟩,
  ⟨some 120, some (118, true), .callv (.t 119) [(.c (.b false)), (.c (.b false)), (.c (.b false)), (.c (.b true))]⟩,
  ⟨some 121, none, .pick (.t 118) (.t 120) (.c (.b false))⟩,
  ⟨some 112, none, .mv (.t 121)⟩])
  (.cond (.t 112) (.seq (.reg [⟨some 122, none, .ld false 1 (.t 1)⟩,
  ⟨some 123, none, .nck (.t 122)⟩,
  ⟨some 124, none, .fa 4 (.t 123)⟩,
  ⟨some 125, none, .ld false 1 (.t 124)⟩,
  ⟨some 126, none, .bld [.sln, (.i .i64 0)] [(0, 1, (.t 125)), (1, 1, (.c (.i .i64 2)))]⟩,
  ⟨some 127, none, .mki 190 (.t 126)⟩,
  ⟨some 2, none, .mv (.t 127)⟩])
  .ret)
  .skip)))))))))))))))
  (.seq (.reg [⟨some 2, none, .mv (.c .ifn)⟩])
  .ret))))⟩
def ir162 : XF := ⟨9, 1, [(2, none)], (.seq (.reg [⟨some 2, none, .mv (.c (.b false))⟩])
  (.seq (.reg [⟨some 3, none, .mv (.t 0)⟩,
  ⟨some 4, none, .bop .geq (.t 3) (.c (.i .i64 (-576460752303423488)))⟩,
  ⟨some 5, none, .mv (.t 4)⟩,
  ⟨some 6, some (5, true), .mv (.t 0)⟩,
  ⟨some 7, some (5, true), .bop .leq (.t 6) (.c (.i .i64 576460752303423487))⟩,
  ⟨some 8, none, .pick (.t 5) (.t 7) (.c (.b false))⟩,
  ⟨some 2, none, .mv (.t 8)⟩])
  .ret))⟩
def ir163 : XF := ⟨10, 2, [(2, none)], (.seq (.reg [⟨some 2, none, .mv (.c .ifn)⟩])
  (.seq (.seq (.reg [⟨some 3, none, .ld false 1 (.t 0)⟩,
  ⟨some 4, none, .callv (.t 3) []⟩,
  ⟨some 5, none, .un .not (.t 4)⟩])
  (.cond (.t 5) (.seq (.reg [⟨some 6, none, .ld false 1 (.t 1)⟩,
  ⟨some 7, none, .bld [(.i .i64 0), (.i .i64 0)] [(0, 1, (.t 6)), (1, 1, (.c (.i .i64 250)))]⟩,
  ⟨some 8, none, .box 153 2 (.t 7)⟩,
  ⟨some 9, none, .mki 149 (.t 8)⟩,
  ⟨some 2, none, .mv (.t 9)⟩])
  .ret)
  .skip))
  (.seq (.reg [⟨some 2, none, .mv (.c .ifn)⟩])
  .ret)))⟩
def ir164 : XF := ⟨10, 1, [(1, none)], (.seq (.reg [⟨some 1, none, .mv (.c (.b false))⟩])
  (.seq (.reg [⟨some 2, none, .ld false 1 (.t 0)⟩,
  ⟨some 3, none, .nck (.t 2)⟩,
  ⟨some 4, none, .fa 4 (.t 3)⟩,
  ⟨some 5, none, .ld false 1 (.t 4)⟩,
  ⟨some 6, none, .ia 5 (.t 5) (.c (.i .i64 1))⟩,
  ⟨some 7, none, .fa 0 (.t 6)⟩,
  ⟨some 8, none, .ld false 1 (.t 7)⟩,
  ⟨some 9, none, .bop .eql (.t 8) (.c (.i .i8 1))⟩,
  ⟨some 1, none, .mv (.t 9)⟩])
  .ret))⟩
def ir168 : XF := ⟨19, 2, [(4, none)], (.seq (.reg [⟨some 4, none, .mv (.c (.i .i64 0))⟩])
  (.seq (.seq (.reg [⟨some 6, none, .mv (.t 0)⟩,
  ⟨some 7, none, .len 1 (.t 6)⟩,
  ⟨some 8, none, .mv (.c (.i .i64 0))⟩])
  (.blk 0 (.loop (.seq (.reg [⟨some 9, none, .bop .lss (.t 8) (.t 7)⟩])
  (.seq (.cond (.t 9) .skip
  (.exit 0))
  (.seq (.blk 1 (.seq (.reg [⟨some 10, none, .mv (.t 8)⟩,
  ⟨some 5, none, .mv (.t 10)⟩])
  (.seq (.reg [⟨some 11, none, .mv (.t 1)⟩,
  ⟨some 12, none, .mv (.t 0)⟩,
  ⟨some 13, none, .mv (.t 5)⟩,
  ⟨some 14, none, .ia 1 (.t 12) (.t 13)⟩,
  ⟨some 15, none, .ld false 1 (.t 14)⟩,
  ⟨some 16, none, .callv (.t 11) [(.t 15)]⟩])
  (.cond (.t 16) (.seq (.reg [⟨some 17, none, .mv (.t 5)⟩,
  ⟨some 4, none, .mv (.t 17)⟩])
  .ret)
  .skip))))
  (.reg [⟨some 18, none, .bop .add (.t 8) (.c (.i .i64 1))⟩,
  ⟨some 8, none, .mv (.t 18)⟩])))))))
  (.seq (.reg [⟨some 4, none, .mv (.c (.i .i64 (-1)))⟩])
  .ret)))⟩
def ir169 : XF := ⟨7, 2, [(3, none)], (.seq (.reg [⟨some 3, none, .mv (.c (.b false))⟩])
  (.seq (.reg [⟨some 4, none, .ld false 1 (.t 1)⟩,
  ⟨some 5, none, .mv (.t 0)⟩,
  ⟨some 6, none, .call 42 [(.t 4), (.t 5)]⟩,
  ⟨some 3, none, .mv (.t 6)⟩])
  .ret))⟩
def ir176 : XF := ⟨18, 1, [(2, none)], (.seq (.reg [⟨some 2, none, .mv (.c (.b false))⟩])
  (.seq (.reg [⟨some 3, none, .mv (.t 0)⟩,
  ⟨some 4, none, .len 0 (.t 3)⟩,
  ⟨some 5, none, .bop .geq (.t 4) (.c (.i .i64 1))⟩,
  ⟨some 6, none, .mv (.t 5)⟩,
  ⟨some 7, some (6, true), .mv (.t 0)⟩,
  ⟨some 8, some (6, true), .len 0 (.t 7)⟩,
  ⟨some 9, some (6, true), .bop .leq (.t 8) (.c (.i .i64 32))⟩,
  ⟨some 10, none, .pick (.t 6) (.t 9) (.c (.b false))⟩,
  ⟨some 11, none, .mv (.t 10)⟩,
  ⟨some 12, some (11, true), .mv (.t 0)⟩,
  ⟨some 13, some (11, true), .call 201 [(.t 12)]⟩,
  ⟨some 14, some (11, true), .mv (.t 0)⟩,
  ⟨some 15, some (11, true), .len 0 (.t 14)⟩,
  ⟨some 16, some (11, true), .bop .eql (.t 13) (.t 15)⟩,
  ⟨some 17, none, .pick (.t 11) (.t 16) (.c (.b false))⟩,
  ⟨some 2, none, .mv (.t 17)⟩])
  .ret))⟩
def ir177 : XF := ⟨24, 2, [(4, none)], (.seq (.reg [⟨some 4, none, .mv (.c (.b false))⟩])
  (.seq (.seq (.reg [⟨some 7, none, .mv (.t 1)⟩,
  ⟨some 8, none, .len 1 (.t 7)⟩,
  ⟨some 9, none, .mv (.c (.i .i64 0))⟩])
  (.blk 0 (.loop (.seq (.reg [⟨some 10, none, .bop .lss (.t 9) (.t 8)⟩])
  (.seq (.cond (.t 10) .skip
  (.exit 0))
  (.seq (.blk 1 (.seq (.reg [⟨some 11, none, .ia 2 (.t 7) (.t 9)⟩,
  ⟨some 12, none, .ld true 2 (.t 11)⟩,
  ⟨some 6, none, .box 211 2 (.c (.ag [(.i .u8 0), (.i .u8 0)]))⟩,
  ⟨none, none, .st 2 (.t 6) (.t 12)⟩])
  (.seq (.reg [⟨some 13, none, .iaA 2 1 (.t 6) (.c (.i .i64 0))⟩,
  ⟨some 14, none, .ld false 1 (.t 13)⟩,
  ⟨some 15, none, .mv (.t 0)⟩,
  ⟨some 16, none, .bop .leq (.t 14) (.t 15)⟩,
  ⟨some 17, none, .mv (.t 16)⟩,
  ⟨some 18, some (17, true), .mv (.t 0)⟩,
  ⟨some 19, some (17, true), .iaA 2 1 (.t 6) (.c (.i .i64 1))⟩,
  ⟨some 20, some (17, true), .ld false 1 (.t 19)⟩,
  ⟨some 21, some (17, true), .bop .leq (.t 18) (.t 20)⟩,
  ⟨some 22, none, .pick (.t 17) (.t 21) (.c (.b false))⟩])
  (.cond (.t 22) (.seq (.reg [⟨some 4, none, .mv (.c (.b true))⟩])
  .ret)
  .skip))))
  (.reg [⟨some 23, none, .bop .add (.t 9) (.c (.i .i64 1))⟩,
  ⟨some 9, none, .mv (.t 23)⟩])))))))
  (.seq (.reg [⟨some 4, none, .mv (.c (.b false))⟩])
  .ret)))⟩
def ir191 : XF := ⟨47, 1, [(2, none), (3, none), (4, none)], (.seq (.reg [⟨some 2, none, .mv (.c (.i .i64 0))⟩,
  ⟨some 3, none, .mv (.c (.i .i64 0))⟩,
  ⟨some 4, none, .mv (.c (.i .i64 0))⟩])
  (.seq (.reg [⟨some 5, none, .mv (.c (.i .i64 0))⟩,
  ⟨some 6, none, .mv (.c (.i .i64 0))⟩])
  (.seq (.reg [⟨some 7, none, .mv (.c (.b false))⟩])
  (.seq (.blk 0 (.loop (.seq (.seq (.reg [⟨some 8, none, .mv (.t 6)⟩,
  ⟨some 9, none, .mv (.t 0)⟩,
  ⟨some 10, none, .len 0 (.t 9)⟩,
  ⟨some 11, none, .bop .lss (.t 8) (.t 10)⟩,
  ⟨some 12, none, .mv (.t 11)⟩,
  ⟨some 13, some (12, true), .mv (.t 0)⟩,
  ⟨some 14, some (12, true), .mv (.t 6)⟩,
  ⟨some 15, some (12, true), .ixS (.t 13) (.t 14)⟩,
  ⟨some 16, some (12, true), .bop .geq (.t 15) (.c (.i .u8 48))⟩,
  ⟨some 17, none, .pick (.t 12) (.t 16) (.c (.b false))⟩,
  ⟨some 18, none, .mv (.t 17)⟩,
  ⟨some 19, some (18, true), .mv (.t 0)⟩,
  ⟨some 20, some (18, true), .mv (.t 6)⟩,
  ⟨some 21, some (18, true), .ixS (.t 19) (.t 20)⟩,
  ⟨some 22, some (18, true), .bop .leq (.t 21) (.c (.i .u8 57))⟩,
  ⟨some 23, none, .pick (.t 18) (.t 22) (.c (.b false))⟩])
  (.cond (.t 23) .skip
  (.exit 0)))
  (.blk 1 (.seq (.seq (.reg [⟨some 24, none, .mv (.t 7)⟩,
  ⟨some 25, none, .un .not (.t 24)⟩])
  (.cond (.t 25) (.reg [⟨some 26, none, .mv (.t 5)⟩,
  ⟨some 27, none, .bop .mul (.t 26) (.c (.i .i64 10))⟩,
  ⟨some 28, none, .mv (.t 0)⟩,
  ⟨some 29, none, .mv (.t 6)⟩,
  ⟨some 30, none, .ixS (.t 28) (.t 29)⟩,
  ⟨some 31, none, .bop .sub (.t 30) (.c (.i .u8 48))⟩,
  ⟨some 32, none, .cvi .i64 (.t 31)⟩,
  ⟨some 33, none, .bop .add (.t 27) (.t 32)⟩,
  ⟨some 5, none, .mv (.t 33)⟩])
  .skip))
  (.seq (.reg [⟨some 34, none, .mv (.t 7)⟩,
  ⟨some 35, none, .mv (.t 34)⟩,
  ⟨some 36, some (35, false), .mv (.t 5)⟩,
  ⟨some 37, some (35, false), .bop .gtr (.t 36) (.c (.i .i64 576460752303423487))⟩,
  ⟨some 38, none, .pick (.t 35) (.c (.b true)) (.t 37)⟩,
  ⟨some 7, none, .mv (.t 38)⟩])
  (.reg [⟨some 39, none, .mv (.t 6)⟩,
  ⟨some 40, none, .bop .add (.t 39) (.c (.i .i64 1))⟩,
  ⟨some 6, none, .mv (.t 40)⟩])))))))
  (.seq (.seq (.reg [⟨some 41, none, .mv (.t 6)⟩,
  ⟨some 42, none, .bop .eql (.t 41) (.c (.i .i64 0))⟩])
  (.cond (.t 42) (.seq (.reg [⟨some 2, none, .mv (.c (.i .i64 0))⟩,
  ⟨some 3, none, .mv (.c (.i .i64 0))⟩,
  ⟨some 4, none, .mv (.c (.i .i64 2))⟩])
  .ret)
  .skip))
  (.seq (.seq (.reg [⟨some 43, none, .mv (.t 7)⟩])
  (.cond (.t 43) (.seq (.reg [⟨some 44, none, .mv (.t 6)⟩,
  ⟨some 2, none, .mv (.c (.i .i64 0))⟩,
  ⟨some 3, none, .mv (.t 44)⟩,
  ⟨some 4, none, .mv (.c (.i .i64 11))⟩])
  .ret)
  .skip))
  (.seq (.reg [⟨some 45, none, .mv (.t 5)⟩,
  ⟨some 46, none, .mv (.t 6)⟩,
  ⟨some 2, none, .mv (.t 45)⟩,
  ⟨some 3, none, .mv (.t 46)⟩,
  ⟨some 4, none, .mv (.c (.i .i64 0))⟩])
  .ret)))))))⟩
def ir192 : XF := ⟨28, 1, [(2, none)], (.seq (.reg [⟨some 2, none, .mv (.c (.b false))⟩])
  (.seq (.reg [⟨some 3, none, .mv (.t 0)⟩,
  ⟨some 4, none, .len 0 (.t 3)⟩,
  ⟨some 5, none, .bop .geq (.t 4) (.c (.i .i64 1))⟩,
  ⟨some 6, none, .mv (.t 5)⟩,
  ⟨some 7, some (6, true), .mv (.t 0)⟩,
  ⟨some 8, some (6, true), .len 0 (.t 7)⟩,
  ⟨some 9, some (6, true), .bop .leq (.t 8) (.c (.i .i64 32))⟩,
  ⟨some 10, none, .pick (.t 6) (.t 9) (.c (.b false))⟩,
  ⟨some 11, none, .mv (.t 10)⟩,
  ⟨some 12, some (11, true), .mv (.t 0)⟩,
  ⟨some 13, some (11, true), .ixS (.t 12) (.c (.i .i64 0))⟩,
  ⟨some 14, some (11, true), .bop .geq (.t 13) (.c (.i .u8 97))⟩,
  ⟨some 15, none, .pick (.t 11) (.t 14) (.c (.b false))⟩,
  ⟨some 16, none, .mv (.t 15)⟩,
  ⟨some 17, some (16, true), .mv (.t 0)⟩,
  ⟨some 18, some (16, true), .ixS (.t 17) (.c (.i .i64 0))⟩,
  ⟨some 19, some (16, true), .bop .leq (.t 18) (.c (.i .u8 122))⟩,
  ⟨some 20, none, .pick (.t 16) (.t 19) (.c (.b false))⟩,
  ⟨some 21, none, .mv (.t 20)⟩,
  ⟨some 22, some (21, true), .mv (.t 0)⟩,
  ⟨some 23, some (21, true), .call 212 [(.t 22)]⟩,
  ⟨some 24, some (21, true), .mv (.t 0)⟩,
  ⟨some 25, some (21, true), .len 0 (.t 24)⟩,
  ⟨some 26, some (21, true), .bop .eql (.t 23) (.t 25)⟩,
  ⟨some 27, none, .pick (.t 21) (.t 26) (.c (.b false))⟩,
  ⟨some 2, none, .mv (.t 27)⟩])
  .ret))⟩
def ir197 : XF := ⟨49, 5, [(9, none)], (.seq (.reg [⟨some 9, none, .mv (.c (.b false))⟩])
  (.seq (.reg [⟨some 10, none, .mv (.t 0)⟩,
  ⟨some 11, none, .mv (.t 10)⟩,
  ⟨some 12, some (11, false), .ld false 1 (.t 4)⟩,
  ⟨some 13, some (11, false), .nck (.t 12)⟩,
  ⟨some 14, some (11, false), .fa 1 (.t 13)⟩,
  ⟨some 15, some (11, false), .ld false 1 (.t 14)⟩,
  ⟨some 16, some (11, false), .bop .eql (.t 15) (.c (.i .i64 0))⟩,
  ⟨some 17, none, .pick (.t 11) (.c (.b true)) (.t 16)⟩,
  ⟨some 18, none, .mv (.t 17)⟩,
  ⟨some 19, some (18, true), .mv (.t 1)⟩,
  ⟨some 20, some (18, true), .mv (.t 19)⟩,
  ⟨some 21, some (20, false), .ld false 1 (.t 4)⟩,
  ⟨some 22, some (20, false), .nck (.t 21)⟩,
  ⟨some 23, some (20, false), .fa 2 (.t 22)⟩,
  ⟨some 24, some (20, false), .ld false 1 (.t 23)⟩,
  ⟨some 25, some (20, false), .bop .eql (.t 24) (.c (.s []))⟩,
  ⟨some 26, some (18, true), .pick (.t 20) (.c (.b true)) (.t 25)⟩,
  ⟨some 27, none, .pick (.t 18) (.t 26) (.c (.b false))⟩,
  ⟨some 28, none, .mv (.t 27)⟩,
  ⟨some 29, some (28, true), .mv (.t 2)⟩,
  ⟨some 30, some (28, true), .mv (.t 29)⟩,
  ⟨some 31, some (30, false), .ld false 1 (.t 4)⟩,
  ⟨some 32, some (30, false), .nck (.t 31)⟩,
  ⟨some 33, some (30, false), .fa 3 (.t 32)⟩,
  ⟨some 34, some (30, false), .ld false 1 (.t 33)⟩,
  ⟨some 35, some (30, false), .bop .eql (.t 34) (.c (.s []))⟩,
  ⟨some 36, some (28, true), .pick (.t 30) (.c (.b true)) (.t 35)⟩,
  ⟨some 37, none, .pick (.t 28) (.t 36) (.c (.b false))⟩,
  ⟨some 38, none, .mv (.t 37)⟩,
  ⟨some 39, some (38, true), .mv (.t 3)⟩,
  ⟨some 40, some (38, true), .mv (.t 39)⟩,
  ⟨some 41, some (40, false), .ld false 1 (.t 4)⟩,
  ⟨some 42, some (40, false), .nck (.t 41)⟩,
  ⟨some 43, some (40, false), .fa 4 (.t 42)⟩,
  ⟨some 44, some (40, false), .ld false 1 (.t 43)⟩,
  ⟨some 45, some (40, false), .len 1 (.t 44)⟩,
  ⟨some 46, some (40, false), .bop .eql (.t 45) (.c (.i .i64 0))⟩,
  ⟨some 47, some (38, true), .pick (.t 40) (.c (.b true)) (.t 46)⟩,
  ⟨some 48, none, .pick (.t 38) (.t 47) (.c (.b false))⟩,
  ⟨some 9, none, .mv (.t 48)⟩])
  .ret))⟩
def ir201 : XF := ⟨19, 1, [(2, none)], (.seq (.reg [⟨some 2, none, .mv (.c (.i .i64 0))⟩])
  (.seq (.seq (.reg [⟨some 4, none, .mv (.t 0)⟩,
  ⟨some 5, none, .len 0 (.t 4)⟩,
  ⟨some 6, none, .mv (.c (.i .i64 0))⟩])
  (.blk 0 (.loop (.seq (.reg [⟨some 7, none, .bop .lss (.t 6) (.t 5)⟩])
  (.seq (.cond (.t 7) .skip
  (.exit 0))
  (.seq (.blk 1 (.seq (.reg [⟨some 8, none, .mv (.t 6)⟩,
  ⟨some 3, none, .mv (.t 8)⟩])
  (.seq (.par [⟨some 9, none, .mv (.t 0)⟩,
  ⟨some 10, none, .mv (.t 3)⟩,
  ⟨some 11, none, .ixS (.t 9) (.t 10)⟩,
  ⟨some 12, none, .slcA 4 2 (.c (.p 1 0)) none none none⟩,
  ⟨some 13, none, .call 177 [(.t 11), (.t 12)]⟩,
  ⟨some 14, none, .un .not (.t 13)⟩] [0, 0, 3, 0, 15, 31])
  (.cond (.t 14) (.seq (.reg [⟨some 15, none, .mv (.t 3)⟩,
  ⟨some 2, none, .mv (.t 15)⟩])
  .ret)
  .skip))))
  (.reg [⟨some 16, none, .bop .add (.t 6) (.c (.i .i64 1))⟩,
  ⟨some 6, none, .mv (.t 16)⟩])))))))
  (.seq (.reg [⟨some 17, none, .mv (.t 0)⟩,
  ⟨some 18, none, .len 0 (.t 17)⟩,
  ⟨some 2, none, .mv (.t 18)⟩])
  .ret)))⟩
def ir212 : XF := ⟨17, 1, [(2, none)], (.seq (.reg [⟨some 2, none, .mv (.c (.i .i64 0))⟩])
  (.seq (.reg [⟨some 3, none, .mv (.c (.i .i64 0))⟩])
  (.seq (.blk 0 (.loop (.seq (.seq (.reg [⟨some 4, none, .mv (.t 3)⟩,
  ⟨some 5, none, .mv (.t 0)⟩,
  ⟨some 6, none, .len 0 (.t 5)⟩,
  ⟨some 7, none, .bop .lss (.t 4) (.t 6)⟩,
  ⟨some 8, none, .mv (.t 7)⟩,
  ⟨some 9, some (8, true), .mv (.t 0)⟩,
  ⟨some 10, some (8, true), .mv (.t 3)⟩,
  ⟨some 11, some (8, true), .ixS (.t 9) (.t 10)⟩,
  ⟨some 12, some (8, true), .call 221 [(.t 11)]⟩,
  ⟨some 13, none, .pick (.t 8) (.t 12) (.c (.b false))⟩])
  (.cond (.t 13) .skip
  (.exit 0)))
  (.blk 1 (.reg [⟨some 14, none, .mv (.t 3)⟩,
  ⟨some 15, none, .bop .add (.t 14) (.c (.i .i64 1))⟩,
  ⟨some 3, none, .mv (.t 15)⟩])))))
  (.seq (.reg [⟨some 16, none, .mv (.t 3)⟩,
  ⟨some 2, none, .mv (.t 16)⟩])
  .ret))))⟩
def ir221 : XF := ⟨29, 1, [(2, none)], (.seq (.reg [⟨some 2, none, .mv (.c (.b false))⟩])
  (.seq (.reg [⟨some 3, none, .mv (.t 0)⟩,
  ⟨some 4, none, .bop .geq (.t 3) (.c (.i .u8 97))⟩,
  ⟨some 5, none, .mv (.t 4)⟩,
  ⟨some 6, some (5, true), .mv (.t 0)⟩,
  ⟨some 7, some (5, true), .bop .leq (.t 6) (.c (.i .u8 122))⟩,
  ⟨some 8, none, .pick (.t 5) (.t 7) (.c (.b false))⟩,
  ⟨some 9, none, .mv (.t 8)⟩,
  ⟨some 10, some (9, false), .mv (.t 0)⟩,
  ⟨some 11, some (9, false), .bop .geq (.t 10) (.c (.i .u8 65))⟩,
  ⟨some 12, some (9, false), .mv (.t 11)⟩,
  ⟨some 13, some (12, true), .mv (.t 0)⟩,
  ⟨some 14, some (12, true), .bop .leq (.t 13) (.c (.i .u8 90))⟩,
  ⟨some 15, some (9, false), .pick (.t 12) (.t 14) (.c (.b false))⟩,
  ⟨some 16, none, .pick (.t 9) (.c (.b true)) (.t 15)⟩,
  ⟨some 17, none, .mv (.t 16)⟩,
  ⟨some 18, some (17, false), .mv (.t 0)⟩,
  ⟨some 19, some (17, false), .bop .geq (.t 18) (.c (.i .u8 48))⟩,
  ⟨some 20, some (17, false), .mv (.t 19)⟩,
  ⟨some 21, some (20, true), .mv (.t 0)⟩,
  ⟨some 22, some (20, true), .bop .leq (.t 21) (.c (.i .u8 57))⟩,
  ⟨some 23, some (17, false), .pick (.t 20) (.t 22) (.c (.b false))⟩,
  ⟨some 24, none, .pick (.t 17) (.c (.b true)) (.t 23)⟩,
  ⟨some 25, none, .mv (.t 24)⟩,
  ⟨some 26, some (25, false), .mv (.t 0)⟩,
  ⟨some 27, some (25, false), .bop .eql (.t 26) (.c (.i .u8 95))⟩,
  ⟨some 28, none, .pick (.t 25) (.c (.b true)) (.t 27)⟩,
  ⟨some 2, none, .mv (.t 28)⟩])
  .ret))⟩
def irTab : Trie XF := (.nd (.nd (.nd (.nd (.nd (.nd (.nd .lf none (.nd .lf (some ir191) .lf)) none (.nd .lf (some ir95) .lf)) (some ir15) .lf) none (.nd (.nd .lf none (.nd .lf (some ir103) .lf)) none .lf)) none (.nd (.nd (.nd .lf none (.nd (.nd .lf (some ir163) .lf) (some ir99) .lf)) (some ir19) (.nd (.nd (.nd .lf (some ir147) .lf) none .lf) none .lf)) none (.nd (.nd .lf (some ir43) .lf) none (.nd (.nd (.nd .lf (some ir155) .lf) none .lf) none .lf)))) none (.nd (.nd (.nd (.nd .lf none (.nd (.nd .lf (some ir161) .lf) (some ir97) .lf)) none (.nd .lf (some ir49) (.nd (.nd .lf (some ir177) .lf) none .lf))) none (.nd (.nd (.nd .lf none (.nd .lf (some ir201) .lf)) (some ir41) (.nd (.nd .lf (some ir169) .lf) none .lf)) none (.nd (.nd (.nd .lf (some ir153) .lf) none .lf) none .lf))) none (.nd (.nd (.nd (.nd .lf none (.nd .lf (some ir197) .lf)) none (.nd .lf (some ir101) .lf)) none (.nd (.nd (.nd .lf (some ir149) .lf) (some ir85) .lf) none .lf)) none (.nd .lf none (.nd (.nd .lf (some ir93) (.nd .lf (some ir221) .lf)) none .lf))))) none (.nd (.nd (.nd (.nd (.nd (.nd .lf none (.nd .lf (some ir192) .lf)) none (.nd .lf (some ir96) .lf)) none (.nd .lf (some ir48) (.nd (.nd .lf (some ir176) .lf) none .lf))) none (.nd (.nd .lf (some ir40) (.nd (.nd .lf (some ir168) .lf) none .lf)) none .lf)) none (.nd (.nd (.nd .lf none (.nd (.nd .lf (some ir164) .lf) (some ir100) .lf)) none (.nd (.nd (.nd .lf (some ir148) .lf) none (.nd .lf (some ir212) .lf)) none .lf)) (some ir12) (.nd .lf none (.nd (.nd (.nd .lf (some ir156) .lf) none .lf) none .lf)))) none (.nd (.nd (.nd (.nd .lf none (.nd (.nd .lf (some ir162) .lf) (some ir98) .lf)) none (.nd .lf (some ir50) .lf)) none (.nd (.nd .lf (some ir42) .lf) none (.nd (.nd (.nd .lf (some ir154) .lf) none .lf) none .lf))) none (.nd (.nd (.nd .lf none (.nd .lf (some ir102) .lf)) none (.nd (.nd .lf (some ir86) .lf) (some ir54) (.nd .lf (some ir118) .lf))) none (.nd .lf none (.nd (.nd .lf (some ir94) .lf) none .lf))))))
theorem irc12 : cFunc Tryz.prog Tryz.f12 = some ir12 := by kernel_rfl
theorem irc15 : cFunc Tryz.prog Tryz.f15 = some ir15 := by kernel_rfl
theorem irc19 : cFunc Tryz.prog Tryz.f19 = some ir19 := by kernel_rfl
theorem irc40 : cFunc Tryz.prog Tryz.f40 = some ir40 := by kernel_rfl
theorem irc41 : cFunc Tryz.prog Tryz.f41 = some ir41 := by kernel_rfl
theorem irc42 : cFunc Tryz.prog Tryz.f42 = some ir42 := by kernel_rfl
theorem irc43 : cFunc Tryz.prog Tryz.f43 = some ir43 := by kernel_rfl
theorem irc48 : cFunc Tryz.prog Tryz.f48 = some ir48 := by kernel_rfl
theorem irc49 : cFunc Tryz.prog Tryz.f49 = some ir49 := by kernel_rfl
theorem irc50 : cFunc Tryz.prog Tryz.f50 = some ir50 := by kernel_rfl
theorem irc54 : cFunc Tryz.prog Tryz.f54 = some ir54 := by kernel_rfl
theorem irc85 : cFunc Tryz.prog Tryz.f85 = some ir85 := by kernel_rfl
theorem irc86 : cFunc Tryz.prog Tryz.f86 = some ir86 := by kernel_rfl
theorem irc93 : cFunc Tryz.prog Tryz.f93 = some ir93 := by kernel_rfl
theorem irc94 : cFunc Tryz.prog Tryz.f94 = some ir94 := by kernel_rfl
theorem irc95 : cFunc Tryz.prog Tryz.f95 = some ir95 := by kernel_rfl
theorem irc96 : cFunc Tryz.prog Tryz.f96 = some ir96 := by kernel_rfl
theorem irc97 : cFunc Tryz.prog Tryz.f97 = some ir97 := by kernel_rfl
theorem irc98 : cFunc Tryz.prog Tryz.f98 = some ir98 := by kernel_rfl
theorem irc99 : cFunc Tryz.prog Tryz.f99 = some ir99 := by kernel_rfl
theorem irc100 : cFunc Tryz.prog Tryz.f100 = some ir100 := by kernel_rfl
theorem irc101 : cFunc Tryz.prog Tryz.f101 = some ir101 := by kernel_rfl
theorem irc102 : cFunc Tryz.prog Tryz.f102 = some ir102 := by kernel_rfl
theorem irc103 : cFunc Tryz.prog Tryz.f103 = some ir103 := by kernel_rfl
theorem irc118 : cFunc Tryz.prog Tryz.f118 = some ir118 := by kernel_rfl
theorem irc147 : cFunc Tryz.prog Tryz.f147 = some ir147 := by kernel_rfl
theorem irc148 : cFunc Tryz.prog Tryz.f148 = some ir148 := by kernel_rfl
theorem irc149 : cFunc Tryz.prog Tryz.f149 = some ir149 := by kernel_rfl
theorem irc153 : cFunc Tryz.prog Tryz.f153 = some ir153 := by kernel_rfl
theorem irc154 : cFunc Tryz.prog Tryz.f154 = some ir154 := by kernel_rfl
theorem irc155 : cFunc Tryz.prog Tryz.f155 = some ir155 := by kernel_rfl
theorem irc156 : cFunc Tryz.prog Tryz.f156 = some ir156 := by kernel_rfl
theorem irc161 : cFunc Tryz.prog Tryz.f161 = some ir161 := by kernel_rfl
theorem irc162 : cFunc Tryz.prog Tryz.f162 = some ir162 := by kernel_rfl
theorem irc163 : cFunc Tryz.prog Tryz.f163 = some ir163 := by kernel_rfl
theorem irc164 : cFunc Tryz.prog Tryz.f164 = some ir164 := by kernel_rfl
theorem irc168 : cFunc Tryz.prog Tryz.f168 = some ir168 := by kernel_rfl
theorem irc169 : cFunc Tryz.prog Tryz.f169 = some ir169 := by kernel_rfl
theorem irc176 : cFunc Tryz.prog Tryz.f176 = some ir176 := by kernel_rfl
theorem irc177 : cFunc Tryz.prog Tryz.f177 = some ir177 := by kernel_rfl
theorem irc191 : cFunc Tryz.prog Tryz.f191 = some ir191 := by kernel_rfl
theorem irc192 : cFunc Tryz.prog Tryz.f192 = some ir192 := by kernel_rfl
theorem irc197 : cFunc Tryz.prog Tryz.f197 = some ir197 := by kernel_rfl
theorem irc201 : cFunc Tryz.prog Tryz.f201 = some ir201 := by kernel_rfl
theorem irc212 : cFunc Tryz.prog Tryz.f212 = some ir212 := by kernel_rfl
theorem irc221 : cFunc Tryz.prog Tryz.f221 = some ir221 := by kernel_rfl
def irList : List (Nat × XF) := [(12, ir12), (15, ir15), (19, ir19), (40, ir40), (41, ir41), (42, ir42), (43, ir43), (48, ir48), (49, ir49), (50, ir50), (54, ir54), (85, ir85), (86, ir86), (93, ir93), (94, ir94), (95, ir95), (96, ir96), (97, ir97), (98, ir98), (99, ir99), (100, ir100), (101, ir101), (102, ir102), (103, ir103), (118, ir118), (147, ir147), (148, ir148), (149, ir149), (153, ir153), (154, ir154), (155, ir155), (156, ir156), (161, ir161), (162, ir162), (163, ir163), (164, ir164), (168, ir168), (169, ir169), (176, ir176), (177, ir177), (191, ir191), (192, ir192), (197, ir197), (201, ir201), (212, ir212), (221, ir221)]
theorem irTab_eq : irTab = ofList irList := by kernel_rfl
theorem irSmall : smallAll irList = true := by kernel_rfl
theorem irTab_ok : TabOk Tryz.prog irTab := tab_of irTab_eq irSmall fun p hp => by
  simp only [irList, List.mem_cons, List.not_mem_nil, or_false] at hp
  rcases hp with rfl | rfl | rfl | rfl | rfl | rfl | rfl | rfl | rfl | rfl | rfl | rfl | rfl | rfl | rfl | rfl | rfl | rfl | rfl | rfl | rfl | rfl | rfl | rfl | rfl | rfl | rfl | rfl | rfl | rfl | rfl | rfl | rfl | rfl | rfl | rfl | rfl | rfl | rfl | rfl | rfl | rfl | rfl | rfl | rfl | rfl
  · exact ⟨_, Tryz.func12, irc12⟩
  · exact ⟨_, Tryz.func15, irc15⟩
  · exact ⟨_, Tryz.func19, irc19⟩
  · exact ⟨_, Tryz.func40, irc40⟩
  · exact ⟨_, Tryz.func41, irc41⟩
  · exact ⟨_, Tryz.func42, irc42⟩
  · exact ⟨_, Tryz.func43, irc43⟩
  · exact ⟨_, Tryz.func48, irc48⟩
  · exact ⟨_, Tryz.func49, irc49⟩
  · exact ⟨_, Tryz.func50, irc50⟩
  · exact ⟨_, Tryz.func54, irc54⟩
  · exact ⟨_, Tryz.func85, irc85⟩
  · exact ⟨_, Tryz.func86, irc86⟩
  · exact ⟨_, Tryz.func93, irc93⟩
  · exact ⟨_, Tryz.func94, irc94⟩
  · exact ⟨_, Tryz.func95, irc95⟩
  · exact ⟨_, Tryz.func96, irc96⟩
  · exact ⟨_, Tryz.func97, irc97⟩
  · exact ⟨_, Tryz.func98, irc98⟩
  · exact ⟨_, Tryz.func99, irc99⟩
  · exact ⟨_, Tryz.func100, irc100⟩
  · exact ⟨_, Tryz.func101, irc101⟩
  · exact ⟨_, Tryz.func102, irc102⟩
  · exact ⟨_, Tryz.func103, irc103⟩
  · exact ⟨_, Tryz.func118, irc118⟩
  · exact ⟨_, Tryz.func147, irc147⟩
  · exact ⟨_, Tryz.func148, irc148⟩
  · exact ⟨_, Tryz.func149, irc149⟩
  · exact ⟨_, Tryz.func153, irc153⟩
  · exact ⟨_, Tryz.func154, irc154⟩
  · exact ⟨_, Tryz.func155, irc155⟩
  · exact ⟨_, Tryz.func156, irc156⟩
  · exact ⟨_, Tryz.func161, irc161⟩
  · exact ⟨_, Tryz.func162, irc162⟩
  · exact ⟨_, Tryz.func163, irc163⟩
  · exact ⟨_, Tryz.func164, irc164⟩
  · exact ⟨_, Tryz.func168, irc168⟩
  · exact ⟨_, Tryz.func169, irc169⟩
  · exact ⟨_, Tryz.func176, irc176⟩
  · exact ⟨_, Tryz.func177, irc177⟩
  · exact ⟨_, Tryz.func191, irc191⟩
  · exact ⟨_, Tryz.func192, irc192⟩
  · exact ⟨_, Tryz.func197, irc197⟩
  · exact ⟨_, Tryz.func201, irc201⟩
  · exact ⟨_, Tryz.func212, irc212⟩
  · exact ⟨_, Tryz.func221, irc221⟩
theorem follows_mix : Tryz.prog.follows .mixedOrders = true := by kernel_rfl
def letterVals : List Value := [.int .u8 97, .int .u8 122, .int .u8 65, .int .u8 90, .int .u8 48, .int .u8 57, .int .u8 95, .int .u8 95]
def told : List (Nat × List TV) := [(1, [.i .u8 97, .i .u8 122, .i .u8 65, .i .u8 90, .i .u8 48, .i .u8 57, .i .u8 95, .i .u8 95]), (0, [.ifc 232 (.ag [.x 0])])]
def errH : Value := .pointer (some ⟨5, 83, none⟩)
theorem size_globals : Tryz.prog.globals.size = 5 := by kernel_rfl
theorem told_in {w : World} (hb : ∀ (j : Nat) (v : Value), letterVals[j]? = some v → w.cell? ⟨1, j, none⟩ = some v) (hE : w.cell? ⟨0, 0, none⟩ = some (.iface 232 (.agg #[errH]))) : Told (fun _ => errH) w told := by
  intro p hp
  simp only [told, List.mem_cons, List.not_mem_nil, or_false] at hp
  rcases hp with rfl | rfl
  · exact told_cells (vs := letterVals) (by simp [letterVals, VRs, VR, VR.VRs]) hb (by decide)
  · refine told_cells (vs := [.iface 232 (.agg #[errH])]) ⟨_, _, rfl, ⟨_, rfl, #[errH], rfl, _, _, rfl, rfl, rfl⟩, rfl⟩ (fun j v hj => ?_) (by decide)
    match j, hj with
    | 0, hj => cases hj; exact hE
theorem irRun (tys : Nat → Nat) : okv (run noMeth irTab (oneOrc 104 (asOrc 149 151 232 0)) 100000 100 12 [] (startL Tryz.prog.globals.size told tys)) = true := by kernel_rfl
/-- The law's wakes, at any memory in which the table of letters and the type of errors are laid. -/
theorem wakes_told {w : World} (hb : ∀ (j : Nat) (v : Value), letterVals[j]? = some v → w.cell? ⟨1, j, none⟩ = some v) (hE : w.cell? ⟨0, 0, none⟩ = some (.iface 232 (.agg #[errH]))) :
    Calls Tryz.prog 12 #[] w fun e w' => e = .returned (.bool true) ∧ Below w.heap.size w w' := by
  refine told_ok follows_mix irTab_ok (noMeth_ok _) (ρ := fun _ => errH) (fun _ => trivial) (by rw [size_globals]; decide) (fun p hp => ?_) (told_in hb hE) (oneOrc_ok (as_ok Tryz.func104 (by kernel_rfl) (by kernel_rfl) (by rw [size_globals]; decide) (fun a b o W h1 old h2 h3 => as_any a b o W h1 old h2 h3) fun a W => as_nil a W)) irRun
  simp only [told, List.mem_cons, List.not_mem_nil, or_false] at hp
  rw [size_globals]
  rcases hp with rfl | rfl <;> decide
end Go.Proofs.YtdjafnjmkkagjaaGreatDoor.Sx
