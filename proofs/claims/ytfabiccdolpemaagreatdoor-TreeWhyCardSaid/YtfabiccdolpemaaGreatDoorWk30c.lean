/-
  A law's wakes, run by the closed runner. Conditions: the variables that it reads are laid. The code below is printed by Gen.
-/
import Derived.Test.YtfabiccdolpemaaGreatDoorOx6
import Derived.Test.YtfabiccdolpemaaGreatDoorAtF
import Derived.Test.YtfabiccdolpemaaGreatDoorAtB
import Derived.Test.YtfabiccdolpemaaGreatDoorAtS
namespace Go.Proofs.YtfabiccdolpemaaGreatDoor.Sx
open Go.RowKit
set_option maxRecDepth 100000
def ir30_6 : XF := ⟨47, 0, [(0, none)], (.seq (.reg [⟨some 0, none, .mv (.c (.b false))⟩])
  (.seq (.reg [⟨some 8, none, .call 12 [(.c (.s [99, 111, 110, 102, 105, 103, 32, 123, 115, 117, 112, 44, 123, 111, 110, 101, 95, 102, 111, 114, 95, 111, 110, 101, 44, 49, 44, 53, 125, 44, 91, 93, 125, 46]))]⟩,
  ⟨some 7, none, .mv (.t 8)⟩,
  ⟨some 9, none, .ex (.t 7) 0⟩,
  ⟨some 10, none, .ex (.t 7) 1⟩,
  ⟨some 11, none, .ex (.t 7) 2⟩,
  ⟨some 1, none, .box 47 3 (.c (.ag [.sln, .sln, .sln]))⟩,
  ⟨some 2, none, .box 51 4 (.c (.ag [(.i .i8 0), (.i .i64 0), (.i .i64 0), .sln]))⟩,
  ⟨some 3, none, .box 24 2 (.c (.ag [(.i .i64 0), (.i .i64 0)]))⟩,
  ⟨none, none, .st 3 (.t 1) (.t 9)⟩,
  ⟨none, none, .st 4 (.t 2) (.t 10)⟩,
  ⟨none, none, .st 2 (.t 3) (.t 11)⟩])
  (.seq (.reg [⟨some 13, none, .call 12 [(.c (.s [99, 111, 110, 102, 105, 103, 32, 53, 46]))]⟩,
  ⟨some 12, none, .mv (.t 13)⟩,
  ⟨some 14, none, .ex (.t 12) 0⟩,
  ⟨some 15, none, .ex (.t 12) 1⟩,
  ⟨some 16, none, .ex (.t 12) 2⟩,
  ⟨some 4, none, .box 47 3 (.c (.ag [.sln, .sln, .sln]))⟩,
  ⟨some 5, none, .box 51 4 (.c (.ag [(.i .i8 0), (.i .i64 0), (.i .i64 0), .sln]))⟩,
  ⟨some 6, none, .box 24 2 (.c (.ag [(.i .i64 0), (.i .i64 0)]))⟩,
  ⟨none, none, .st 3 (.t 4) (.t 14)⟩,
  ⟨none, none, .st 4 (.t 5) (.t 15)⟩,
  ⟨none, none, .st 2 (.t 6) (.t 16)⟩])
  (.seq (.reg [⟨some 17, none, .fa 0 (.t 3)⟩,
  ⟨some 18, none, .ld false 1 (.t 17)⟩,
  ⟨some 19, none, .bop .eql (.t 18) (.c (.i .i64 0))⟩,
  ⟨some 20, none, .mv (.t 19)⟩,
  ⟨some 21, some (20, true), .fa 0 (.t 1)⟩,
  ⟨some 22, some (20, true), .ld false 1 (.t 21)⟩,
  ⟨some 23, some (20, true), .len 1 (.t 22)⟩,
  ⟨some 24, some (20, true), .bop .eql (.t 23) (.c (.i .i64 0))⟩,
  ⟨some 25, none, .pick (.t 20) (.t 24) (.c (.b false))⟩,
  ⟨some 26, none, .mv (.t 25)⟩,
  ⟨some 27, some (26, true), .fa 3 (.t 2)⟩,
  ⟨some 28, some (26, true), .ld false 1 (.t 27)⟩,
  ⟨some 29, some (26, true), .len 1 (.t 28)⟩,
  ⟨some 30, some (26, true), .bop .eql (.t 29) (.c (.i .i64 0))⟩,
  ⟨some 31, none, .pick (.t 26) (.t 30) (.c (.b false))⟩,
  ⟨some 32, none, .mv (.t 31)⟩,
  ⟨some 33, some (32, true), .fa 2 (.t 2)⟩,
  ⟨some 34, some (32, true), .ld false 1 (.t 33)⟩,
  ⟨some 35, some (32, true), .bop .eql (.t 34) (.c (.i .i64 5))⟩,
  ⟨some 36, none, .pick (.t 32) (.t 35) (.c (.b false))⟩,
  ⟨some 37, none, .mv (.t 36)⟩,
  ⟨some 38, some (37, true), .fa 0 (.t 6)⟩,
  ⟨some 39, some (37, true), .ld false 1 (.t 38)⟩,
  ⟨some 40, some (37, true), .bop .eql (.t 39) (.c (.i .i64 250))⟩,
  ⟨some 41, none, .pick (.t 37) (.t 40) (.c (.b false))⟩,
  ⟨some 42, none, .mv (.t 41)⟩,
  ⟨some 43, some (42, true), .ld true 4 (.t 2)⟩,
  ⟨some 44, some (42, true), .call 13 [(.t 43)]⟩,
  ⟨some 45, some (42, true), .bop .eql (.t 44) (.c (.i .i64 0))⟩,
  ⟨some 46, none, .pick (.t 42) (.t 45) (.c (.b false))⟩,
  ⟨some 0, none, .mv (.t 46)⟩])
  .ret))))⟩
def ir30_11 : XF := ⟨10, 1, [(2, none)], (.seq (.reg [⟨some 1, none, .box 24 2 (.t 0)⟩,
  ⟨some 2, none, .mv (.c .ifn)⟩])
  (.seq (.seq (.reg [⟨some 3, none, .fa 0 (.t 1)⟩,
  ⟨some 4, none, .ld false 1 (.t 3)⟩,
  ⟨some 5, none, .bop .eql (.t 4) (.c (.i .i64 0))⟩])
  (.cond (.t 5) (.seq (.reg [⟨some 2, none, .mv (.c .ifn)⟩])
  .ret)
  .skip))
  (.seq (.reg [⟨some 6, none, .ld true 2 (.t 1)⟩,
  ⟨some 7, none, .bld [(.i .i64 0), (.i .i64 0)] [(0, 2, (.t 6))]⟩,
  ⟨some 8, none, .box 75 2 (.t 7)⟩,
  ⟨some 9, none, .mki 73 (.t 8)⟩,
  ⟨some 2, none, .mv (.t 9)⟩])
  .ret)))⟩
def ir30_12 : XF := ⟨23, 1, [(2, some (true, 3)), (3, some (true, 4)), (4, some (true, 2))], (.seq (.reg [⟨some 2, none, .box 47 3 (.c (.ag [.sln, .sln, .sln]))⟩,
  ⟨some 3, none, .box 51 4 (.c (.ag [(.i .i8 0), (.i .i64 0), (.i .i64 0), .sln]))⟩,
  ⟨some 4, none, .box 24 2 (.c (.ag [(.i .i64 0), (.i .i64 0)]))⟩])
  (.seq (.reg [⟨some 9, none, .mv (.t 0)⟩,
  ⟨some 10, none, .call 20 [(.t 9)]⟩,
  ⟨some 8, none, .mv (.t 10)⟩,
  ⟨some 11, none, .ex (.t 8) 0⟩,
  ⟨some 12, none, .ex (.t 8) 1⟩,
  ⟨some 13, none, .ex (.t 8) 2⟩,
  ⟨some 5, none, .box 47 3 (.c (.ag [.sln, .sln, .sln]))⟩,
  ⟨some 6, none, .box 51 4 (.c (.ag [(.i .i8 0), (.i .i64 0), (.i .i64 0), .sln]))⟩,
  ⟨none, none, .st 3 (.t 5) (.t 11)⟩,
  ⟨none, none, .st 4 (.t 6) (.t 12)⟩,
  ⟨some 7, none, .mv (.t 13)⟩])
  (.seq (.seq (.reg [⟨some 14, none, .mv (.t 7)⟩,
  ⟨some 15, none, .eq 4 true true (.t 14) (.c .ifn)⟩])
  (.cond (.t 15) (.seq (.reg [⟨some 16, none, .bld [.sln, .sln, .sln] []⟩,
  ⟨some 17, none, .bld [(.i .i8 0), (.i .i64 0), (.i .i64 0), .sln] []⟩,
  ⟨some 18, none, .mv (.t 7)⟩,
  ⟨some 19, none, .call 21 [(.t 18)]⟩,
  ⟨none, none, .st 3 (.t 2) (.t 16)⟩,
  ⟨none, none, .st 4 (.t 3) (.t 17)⟩,
  ⟨none, none, .st 2 (.t 4) (.t 19)⟩])
  .ret)
  .skip))
  (.seq (.par [⟨some 20, none, .ld true 3 (.t 5)⟩,
  ⟨some 21, none, .ld true 4 (.t 6)⟩,
  ⟨some 22, none, .bld [(.i .i64 0), (.i .i64 0)] []⟩,
  ⟨none, none, .st 3 (.t 2) (.t 20)⟩,
  ⟨none, none, .st 4 (.t 3) (.t 21)⟩,
  ⟨none, none, .st 2 (.t 4) (.t 22)⟩] [0, 0, 0, 1, 11, 31])
  .ret))))⟩
def ir30_13 : XF := ⟨7, 1, [(2, some (false, 1))], (.seq (.reg [⟨some 1, none, .box 51 4 (.t 0)⟩,
  ⟨some 2, none, .box 3 1 (.c (.i .i64 0))⟩])
  (.seq (.reg [⟨some 3, none, .ld true 4 (.t 1)⟩,
  ⟨some 4, none, .mkf (.func 23) [] [(.t 2)]⟩,
  ⟨some 5, none, .call 22 [(.t 3), (.t 4)]⟩])
  (.seq (.reg [⟨some 6, none, .ld false 1 (.t 2)⟩,
  ⟨none, none, .st 1 (.t 2) (.t 6)⟩])
  .ret)))⟩
def ir30_20 : XF := ⟨66, 1, [(2, some (true, 3)), (3, some (true, 4)), (4, none)], (.seq (.reg [⟨some 2, none, .box 47 3 (.c (.ag [.sln, .sln, .sln]))⟩,
  ⟨some 3, none, .box 51 4 (.c (.ag [(.i .i8 0), (.i .i64 0), (.i .i64 0), .sln]))⟩,
  ⟨some 4, none, .mv (.c .ifn)⟩])
  (.seq (.reg [⟨some 13, none, .mv (.t 0)⟩,
  ⟨some 14, none, .call 26 [(.t 13)]⟩,
  ⟨some 12, none, .mv (.t 14)⟩,
  ⟨some 15, none, .ex (.t 12) 0⟩,
  ⟨some 16, none, .ex (.t 12) 1⟩,
  ⟨some 17, none, .ex (.t 12) 2⟩,
  ⟨some 5, none, .box 104 5 (.c (.ag [(.i .i8 0), (.i .i64 0), (.s []), (.s []), .sln]))⟩,
  ⟨some 7, none, .box 24 2 (.c (.ag [(.i .i64 0), (.i .i64 0)]))⟩,
  ⟨none, none, .st 5 (.t 5) (.t 15)⟩,
  ⟨some 6, none, .mv (.t 16)⟩,
  ⟨none, none, .st 2 (.t 7) (.t 17)⟩])
  (.seq (.seq (.reg [⟨some 18, none, .ld true 2 (.t 7)⟩,
  ⟨some 19, none, .call 11 [(.t 18)]⟩,
  ⟨some 8, none, .mv (.t 19)⟩])
  (.seq (.reg [⟨some 20, none, .mv (.t 8)⟩,
  ⟨some 21, none, .eq 4 true true (.t 20) (.c .ifn)⟩])
  (.cond (.t 21) (.seq (.par [⟨some 22, none, .ld true 3 (.t 2)⟩,
  ⟨some 23, none, .ld true 4 (.t 3)⟩,
  ⟨some 24, none, .mv (.t 8)⟩,
  ⟨none, none, .st 3 (.t 2) (.t 22)⟩,
  ⟨none, none, .st 4 (.t 3) (.t 23)⟩,
  ⟨some 4, none, .mv (.t 24)⟩] [0, 0, 0, 1, 11, 31])
  .ret)
  .skip)))
  (.seq (.reg [⟨some 26, none, .mv (.t 0)⟩,
  ⟨some 27, none, .mv (.t 6)⟩,
  ⟨some 28, none, .call 27 [(.t 26), (.t 27)]⟩,
  ⟨some 25, none, .mv (.t 28)⟩,
  ⟨some 29, none, .ex (.t 25) 0⟩,
  ⟨some 30, none, .ex (.t 25) 1⟩,
  ⟨some 9, none, .box 82 5 (.c (.ag [(.i .i8 0), (.i .i64 0), (.s []), (.s []), .sln]))⟩,
  ⟨none, none, .st 5 (.t 9) (.t 29)⟩,
  ⟨some 4, none, .mv (.t 30)⟩])
  (.seq (.seq (.reg [⟨some 31, none, .mv (.t 4)⟩,
  ⟨some 32, none, .eq 4 true true (.t 31) (.c .ifn)⟩])
  (.cond (.t 32) (.seq (.par [⟨some 33, none, .ld true 3 (.t 2)⟩,
  ⟨some 34, none, .ld true 4 (.t 3)⟩,
  ⟨some 35, none, .mv (.t 4)⟩,
  ⟨none, none, .st 3 (.t 2) (.t 33)⟩,
  ⟨none, none, .st 4 (.t 3) (.t 34)⟩,
  ⟨some 4, none, .mv (.t 35)⟩] [0, 0, 0, 1, 11, 31])
  .ret)
  .skip))
  (.seq (.reg [⟨some 37, none, .ld true 5 (.t 5)⟩,
  ⟨some 38, none, .call 28 [(.t 37)]⟩,
  ⟨some 36, none, .mv (.t 38)⟩,
  ⟨some 39, none, .ex (.t 36) 0⟩,
  ⟨some 40, none, .ex (.t 36) 1⟩,
  ⟨some 10, none, .mv (.t 39)⟩,
  ⟨some 11, none, .mv (.t 40)⟩])
  (.seq (.seq (.reg [⟨some 41, none, .mv (.t 11)⟩,
  ⟨some 42, none, .bop .neq (.t 41) (.c (.i .i64 0))⟩])
  (.cond (.t 42) (.seq (.par [⟨some 43, none, .ld true 3 (.t 2)⟩,
  ⟨some 44, none, .ld true 4 (.t 3)⟩,
  ⟨some 45, none, .mv (.t 11)⟩,
  ⟨some 46, none, .mv (.t 10)⟩,
  ⟨some 47, none, .bld [(.i .i64 0), (.i .i64 0)] [(0, 1, (.t 45)), (1, 1, (.t 46))]⟩,
  ⟨some 48, none, .call 11 [(.t 47)]⟩,
  ⟨none, none, .st 3 (.t 2) (.t 43)⟩,
  ⟨none, none, .st 4 (.t 3) (.t 44)⟩,
  ⟨some 4, none, .mv (.t 48)⟩] [0, 0, 0, 0, 12, 28, 61, 127, 255])
  .ret)
  .skip))
  (.seq (.seq (.reg [⟨some 50, none, .ld true 5 (.t 5)⟩,
  ⟨some 51, none, .call 29 [(.t 50)]⟩,
  ⟨some 49, none, .mv (.t 51)⟩,
  ⟨some 52, none, .ex (.t 49) 0⟩,
  ⟨some 53, none, .ex (.t 49) 1⟩,
  ⟨none, none, .st 3 (.t 2) (.t 52)⟩,
  ⟨some 11, none, .mv (.t 53)⟩])
  (.seq (.reg [⟨some 54, none, .mv (.t 11)⟩,
  ⟨some 55, none, .bop .eql (.t 54) (.c (.i .i64 0))⟩])
  (.cond (.t 55) (.reg [⟨some 57, none, .ld true 5 (.t 9)⟩,
  ⟨some 58, none, .call 30 [(.t 57)]⟩,
  ⟨some 56, none, .mv (.t 58)⟩,
  ⟨some 59, none, .ex (.t 56) 0⟩,
  ⟨some 60, none, .ex (.t 56) 1⟩,
  ⟨none, none, .st 4 (.t 3) (.t 59)⟩,
  ⟨some 11, none, .mv (.t 60)⟩])
  .skip)))
  (.seq (.par [⟨some 61, none, .ld true 3 (.t 2)⟩,
  ⟨some 62, none, .ld true 4 (.t 3)⟩,
  ⟨some 63, none, .mv (.t 11)⟩,
  ⟨some 64, none, .bld [(.i .i64 0), (.i .i64 0)] [(0, 1, (.t 63))]⟩,
  ⟨some 65, none, .call 11 [(.t 64)]⟩,
  ⟨none, none, .st 3 (.t 2) (.t 61)⟩,
  ⟨none, none, .st 4 (.t 3) (.t 62)⟩,
  ⟨some 4, none, .mv (.t 65)⟩] [0, 0, 0, 4, 12, 29, 63, 127])
  .ret)))))))))⟩
def ir30_21 : XF := ⟨12, 1, [(2, some (true, 2))], (.seq (.reg [⟨some 2, none, .box 24 2 (.c (.ag [(.i .i64 0), (.i .i64 0)]))⟩])
  (.seq (.reg [⟨some 3, none, .box 73 1 (.c .pn)⟩])
  (.seq (.seq (.reg [⟨some 4, none, .mv (.t 0)⟩,
  ⟨some 5, none, .mki 115 (.t 3)⟩,
  ⟨some 6, none, .call 7 [(.t 4), (.t 5)]⟩])
  (.cond (.t 6) (.reg [⟨some 7, none, .ld false 1 (.t 3)⟩,
  ⟨some 8, none, .nck (.t 7)⟩,
  ⟨some 9, none, .fa 0 (.t 8)⟩,
  ⟨some 10, none, .ld true 2 (.t 9)⟩,
  ⟨none, none, .st 2 (.t 2) (.t 10)⟩])
  .skip))
  (.seq (.reg [⟨some 11, none, .ld true 2 (.t 2)⟩,
  ⟨none, none, .st 2 (.t 2) (.t 11)⟩])
  .ret))))⟩
def ir30_22 : XF := ⟨12, 2, [], (.seq (.reg [⟨some 2, none, .box 51 4 (.t 0)⟩,
  ⟨some 3, none, .box 86 1 (.t 1)⟩])
  (.seq (.seq (.reg [⟨some 5, none, .ld true 4 (.t 2)⟩,
  ⟨some 6, none, .call 31 [(.t 5)]⟩,
  ⟨some 7, none, .un .not (.t 6)⟩])
  (.cond (.t 7) .ret
  .skip))
  (.seq (.reg [⟨some 4, none, .box 117 1 (.c .fn)⟩])
  (.seq (.reg [⟨some 8, none, .mkf (.func 32) [] [(.t 3), (.t 4)]⟩,
  ⟨none, none, .st 1 (.t 4) (.t 8)⟩])
  (.reg [⟨some 9, none, .ld false 1 (.t 4)⟩,
  ⟨some 10, none, .ld true 4 (.t 2)⟩,
  ⟨some 11, none, .callv (.t 9) [(.t 10)]⟩])))))⟩
def ir30_26 : XF := ⟨55, 1, [(2, some (true, 5)), (3, none), (4, some (true, 2))], (.seq (.reg [⟨some 2, none, .box 104 5 (.c (.ag [(.i .i8 0), (.i .i64 0), (.s []), (.s []), .sln]))⟩,
  ⟨some 3, none, .mv (.c (.i .i64 0))⟩,
  ⟨some 4, none, .box 24 2 (.c (.ag [(.i .i64 0), (.i .i64 0)]))⟩])
  (.seq (.reg [⟨some 6, none, .mv (.t 0)⟩,
  ⟨some 7, none, .call 33 [(.t 6)]⟩,
  ⟨some 5, none, .mv (.t 7)⟩])
  (.seq (.seq (.reg [⟨some 8, none, .mv (.t 5)⟩,
  ⟨some 9, none, .nck (.t 8)⟩,
  ⟨some 10, none, .fa 3 (.t 9)⟩,
  ⟨some 11, none, .fa 0 (.t 10)⟩,
  ⟨some 12, none, .ld false 1 (.t 11)⟩,
  ⟨some 13, none, .bop .eql (.t 12) (.c (.i .i64 3))⟩])
  (.cond (.t 13) (.seq (.par [⟨some 14, none, .ld true 5 (.t 2)⟩,
  ⟨some 15, none, .mv (.t 5)⟩,
  ⟨some 16, none, .nck (.t 15)⟩,
  ⟨some 17, none, .fa 3 (.t 16)⟩,
  ⟨some 18, none, .ld true 2 (.t 17)⟩,
  ⟨none, none, .st 5 (.t 2) (.t 14)⟩,
  ⟨some 3, none, .mv (.c (.i .i64 (-1)))⟩,
  ⟨none, none, .st 2 (.t 4) (.t 18)⟩] [0, 0, 2, 6, 14, 1, 33, 127])
  .ret)
  .skip))
  (.seq (.reg [⟨some 19, none, .mv (.t 5)⟩,
  ⟨some 20, none, .call 34 [(.t 19)]⟩,
  ⟨none, none, .st 5 (.t 2) (.t 20)⟩])
  (.seq (.reg [⟨some 3, none, .mv (.c (.i .i64 (-1)))⟩])
  (.seq (.seq (.reg [⟨some 21, none, .mv (.t 5)⟩,
  ⟨some 22, none, .call 35 [(.t 21), (.c (.s [99, 111, 110, 102, 105, 103]))]⟩])
  (.cond (.t 22) (.seq (.reg [⟨some 23, none, .mv (.t 5)⟩,
  ⟨some 24, none, .call 36 [(.t 23)]⟩,
  ⟨some 25, none, .fld false 3 1 (.t 24)⟩,
  ⟨some 26, none, .bop .add (.t 25) (.c (.i .i64 6))⟩,
  ⟨some 3, none, .mv (.t 26)⟩])
  (.par [⟨some 27, none, .mv (.t 5)⟩,
  ⟨some 28, none, .mv (.t 5)⟩,
  ⟨some 29, none, .mv (.t 5)⟩,
  ⟨some 30, none, .nck (.t 29)⟩,
  ⟨some 31, none, .fa 0 (.t 30)⟩,
  ⟨some 32, none, .ld false 1 (.t 31)⟩,
  ⟨some 33, none, .mv (.t 5)⟩,
  ⟨some 34, none, .nck (.t 33)⟩,
  ⟨some 35, none, .fa 1 (.t 34)⟩,
  ⟨some 36, none, .ld false 1 (.t 35)⟩,
  ⟨some 37, none, .slc 4 (.t 32) none (some (.t 36)) none⟩,
  ⟨some 38, none, .bld [(.i .i64 0), (.i .i64 0)] []⟩,
  ⟨some 39, none, .nck (.t 27)⟩,
  ⟨some 40, none, .fa 0 (.t 39)⟩,
  ⟨none, none, .st 1 (.t 40) (.t 37)⟩,
  ⟨some 41, none, .nck (.t 28)⟩,
  ⟨some 42, none, .fa 3 (.t 41)⟩,
  ⟨none, none, .st 2 (.t 42) (.t 38)⟩] [0, 0, 0, 4, 12, 28, 0, 64, 192, 448, 1020, 0, 2045, 6141, 14333, 32767, 65535, 131071]))
  .skip))
  (.seq (.seq (.reg [⟨some 44, none, .mv (.t 5)⟩,
  ⟨some 45, none, .ld true 5 (.t 2)⟩,
  ⟨some 46, none, .call 37 [(.t 44), (.t 45)]⟩,
  ⟨some 43, none, .mv (.t 46)⟩,
  ⟨some 47, none, .ex (.t 43) 0⟩,
  ⟨some 48, none, .ex (.t 43) 1⟩,
  ⟨none, none, .st 5 (.t 2) (.t 47)⟩,
  ⟨none, none, .st 2 (.t 4) (.t 48)⟩])
  (.seq (.reg [⟨some 49, none, .fa 0 (.t 4)⟩,
  ⟨some 50, none, .ld false 1 (.t 49)⟩,
  ⟨some 51, none, .bop .neq (.t 50) (.c (.i .i64 0))⟩])
  (.cond (.t 51) (.reg [⟨some 3, none, .mv (.c (.i .i64 (-1)))⟩])
  .skip)))
  (.seq (.par [⟨some 52, none, .ld true 5 (.t 2)⟩,
  ⟨some 53, none, .mv (.t 3)⟩,
  ⟨some 54, none, .ld true 2 (.t 4)⟩,
  ⟨none, none, .st 5 (.t 2) (.t 52)⟩,
  ⟨some 3, none, .mv (.t 53)⟩,
  ⟨none, none, .st 2 (.t 4) (.t 54)⟩] [0, 0, 0, 1, 11, 31])
  .ret))))))))⟩
def ir30_27 : XF := ⟨95, 2, [(4, some (true, 5)), (5, none)], (.seq (.reg [⟨some 4, none, .box 82 5 (.c (.ag [(.i .i8 0), (.i .i64 0), (.s []), (.s []), .sln]))⟩,
  ⟨some 5, none, .mv (.c .ifn)⟩])
  (.seq (.seq (.reg [⟨some 11, none, .mv (.t 1)⟩,
  ⟨some 12, none, .bop .lss (.t 11) (.c (.i .i64 0))⟩])
  (.cond (.t 12) (.seq (.par [⟨some 13, none, .ld true 5 (.t 4)⟩,
  ⟨some 14, none, .mv (.t 0)⟩,
  ⟨some 15, none, .len 0 (.t 14)⟩,
  ⟨some 16, none, .bld [(.i .i64 0), (.i .i64 0)] [(0, 1, (.c (.i .i64 80))), (1, 1, (.t 15))]⟩,
  ⟨some 17, none, .call 11 [(.t 16)]⟩,
  ⟨none, none, .st 5 (.t 4) (.t 13)⟩,
  ⟨some 5, none, .mv (.t 17)⟩] [0, 0, 2, 6, 14, 31, 63])
  .ret)
  .skip))
  (.seq (.reg [⟨some 19, none, .mv (.t 0)⟩,
  ⟨some 20, none, .mv (.t 1)⟩,
  ⟨some 21, none, .slcS (.t 19) (some (.t 20)) none⟩,
  ⟨some 22, none, .call 38 [(.t 21)]⟩,
  ⟨some 18, none, .mv (.t 22)⟩,
  ⟨some 23, none, .ex (.t 18) 0⟩,
  ⟨some 24, none, .ex (.t 18) 1⟩,
  ⟨some 7, none, .box 24 2 (.c (.ag [(.i .i64 0), (.i .i64 0)]))⟩,
  ⟨some 6, none, .mv (.t 23)⟩,
  ⟨none, none, .st 2 (.t 7) (.t 24)⟩])
  (.seq (.reg [⟨some 25, none, .fa 1 (.t 7)⟩,
  ⟨some 26, none, .ld false 1 (.t 25)⟩,
  ⟨some 27, none, .mv (.t 1)⟩,
  ⟨some 28, none, .bop .add (.t 26) (.t 27)⟩,
  ⟨some 29, none, .fa 1 (.t 7)⟩,
  ⟨none, none, .st 1 (.t 29) (.t 28)⟩])
  (.seq (.seq (.reg [⟨some 30, none, .fa 0 (.t 7)⟩,
  ⟨some 31, none, .ld false 1 (.t 30)⟩,
  ⟨some 32, none, .bop .neq (.t 31) (.c (.i .i64 0))⟩])
  (.cond (.t 32) (.seq (.par [⟨some 33, none, .ld true 5 (.t 4)⟩,
  ⟨some 34, none, .ld true 2 (.t 7)⟩,
  ⟨some 35, none, .call 11 [(.t 34)]⟩,
  ⟨none, none, .st 5 (.t 4) (.t 33)⟩,
  ⟨some 5, none, .mv (.t 35)⟩] [0, 0, 2, 7, 15])
  .ret)
  .skip))
  (.seq (.reg [⟨some 36, none, .mv (.t 6)⟩,
  ⟨some 37, none, .len 1 (.t 36)⟩,
  ⟨some 38, none, .bop .sub (.t 37) (.c (.i .i64 1))⟩,
  ⟨some 8, none, .mv (.t 38)⟩])
  (.seq (.seq (.reg [⟨some 39, none, .mv (.t 8)⟩,
  ⟨some 40, none, .bop .lss (.t 39) (.c (.i .i64 0))⟩,
  ⟨some 41, none, .mv (.t 40)⟩,
  ⟨some 42, some (41, false), .mv (.t 6)⟩,
  ⟨some 43, some (41, false), .mv (.t 8)⟩,
  ⟨some 44, some (41, false), .ia 4 (.t 42) (.t 43)⟩,
  ⟨some 45, some (41, false), .fa 0 (.t 44)⟩,
  ⟨some 46, some (41, false), .ld false 1 (.t 45)⟩,
  ⟨some 47, some (41, false), .bop .neq (.t 46) (.c (.i .i8 4))⟩,
  ⟨some 48, none, .pick (.t 41) (.c (.b true)) (.t 47)⟩])
  (.cond (.t 48) (.seq (.par [⟨some 49, none, .ld true 5 (.t 4)⟩,
  ⟨some 50, none, .mv (.t 0)⟩,
  ⟨some 51, none, .len 0 (.t 50)⟩,
  ⟨some 52, none, .bld [(.i .i64 0), (.i .i64 0)] [(0, 1, (.c (.i .i64 80))), (1, 1, (.t 51))]⟩,
  ⟨some 53, none, .call 11 [(.t 52)]⟩,
  ⟨none, none, .st 5 (.t 4) (.t 49)⟩,
  ⟨some 5, none, .mv (.t 53)⟩] [0, 0, 2, 6, 14, 31, 63])
  .ret)
  .skip))
  (.seq (.reg [⟨some 55, none, .mv (.t 0)⟩,
  ⟨some 56, none, .mv (.t 1)⟩,
  ⟨some 57, none, .mv (.t 1)⟩,
  ⟨some 58, none, .mv (.t 6)⟩,
  ⟨some 59, none, .mv (.t 8)⟩,
  ⟨some 60, none, .ia 4 (.t 58) (.t 59)⟩,
  ⟨some 61, none, .fa 3 (.t 60)⟩,
  ⟨some 62, none, .ld false 1 (.t 61)⟩,
  ⟨some 63, none, .bop .add (.t 57) (.t 62)⟩,
  ⟨some 64, none, .slcS (.t 55) (some (.t 56)) (some (.t 63))⟩,
  ⟨some 65, none, .call 39 [(.t 64)]⟩,
  ⟨some 54, none, .mv (.t 65)⟩,
  ⟨some 66, none, .ex (.t 54) 0⟩,
  ⟨some 67, none, .ex (.t 54) 1⟩,
  ⟨some 9, none, .box 104 5 (.c (.ag [(.i .i8 0), (.i .i64 0), (.s []), (.s []), .sln]))⟩,
  ⟨none, none, .st 5 (.t 9) (.t 66)⟩,
  ⟨none, none, .st 2 (.t 7) (.t 67)⟩])
  (.seq (.reg [⟨some 68, none, .fa 1 (.t 7)⟩,
  ⟨some 69, none, .ld false 1 (.t 68)⟩,
  ⟨some 70, none, .mv (.t 1)⟩,
  ⟨some 71, none, .bop .add (.t 69) (.t 70)⟩,
  ⟨some 72, none, .fa 1 (.t 7)⟩,
  ⟨none, none, .st 1 (.t 72) (.t 71)⟩])
  (.seq (.seq (.reg [⟨some 73, none, .fa 0 (.t 7)⟩,
  ⟨some 74, none, .ld false 1 (.t 73)⟩,
  ⟨some 75, none, .bop .neq (.t 74) (.c (.i .i64 0))⟩])
  (.cond (.t 75) (.seq (.par [⟨some 76, none, .ld true 5 (.t 4)⟩,
  ⟨some 77, none, .ld true 2 (.t 7)⟩,
  ⟨some 78, none, .call 11 [(.t 77)]⟩,
  ⟨none, none, .st 5 (.t 4) (.t 76)⟩,
  ⟨some 5, none, .mv (.t 78)⟩] [0, 0, 2, 7, 15])
  .ret)
  .skip))
  (.seq (.reg [⟨some 80, none, .ld true 5 (.t 9)⟩,
  ⟨some 81, none, .call 40 [(.t 80)]⟩,
  ⟨some 79, none, .mv (.t 81)⟩,
  ⟨some 82, none, .ex (.t 79) 0⟩,
  ⟨some 83, none, .ex (.t 79) 1⟩,
  ⟨none, none, .st 5 (.t 4) (.t 82)⟩,
  ⟨some 10, none, .mv (.t 83)⟩])
  (.seq (.seq (.reg [⟨some 84, none, .mv (.t 10)⟩])
  (.blk 0 (.seq (.blk 2 (.seq (.blk 1 (.seq (.seq (.seq (.reg [⟨some 86, none, .bop .eql (.t 84) (.c (.i .i64 2))⟩,
  ⟨some 85, none, .mv (.t 86)⟩])
  (.cond (.t 85) (.exit 1)
  .skip))
  (.seq (.reg [⟨some 88, none, .bop .eql (.t 84) (.c (.i .i64 11))⟩,
  ⟨some 87, none, .mv (.t 88)⟩])
  (.cond (.t 87) (.exit 2)
  .skip)))
  (.exit 0)))
  (.reg [⟨some 10, none, .mv (.c (.i .i64 80))⟩])))
  (.seq (.seq (.par [⟨some 89, none, .ld true 5 (.t 4)⟩,
  ⟨some 90, none, .mv (.t 10)⟩,
  ⟨some 91, none, .mv (.t 1)⟩,
  ⟨some 92, none, .bld [(.i .i64 0), (.i .i64 0)] [(0, 1, (.t 90)), (1, 1, (.t 91))]⟩,
  ⟨some 93, none, .call 11 [(.t 92)]⟩,
  ⟨none, none, .st 5 (.t 4) (.t 89)⟩,
  ⟨some 5, none, .mv (.t 93)⟩] [0, 0, 0, 6, 14, 31, 63])
  .ret)
  (.exit 0)))))
  (.seq (.reg [⟨some 94, none, .ld true 5 (.t 4)⟩,
  ⟨none, none, .st 5 (.t 4) (.t 94)⟩,
  ⟨some 5, none, .mv (.c .ifn)⟩])
  .ret)))))))))))))⟩
def ir30_28 : XF := ⟨51, 1, [(2, none), (3, none)], (.seq (.reg [⟨some 1, none, .box 104 5 (.t 0)⟩,
  ⟨some 2, none, .mv (.c (.i .i64 0))⟩,
  ⟨some 3, none, .mv (.c (.i .i64 0))⟩])
  (.seq (.seq (.reg [⟨some 12, none, .ld true 5 (.t 1)⟩,
  ⟨some 13, none, .call 41 [(.t 12)]⟩,
  ⟨some 4, none, .mv (.t 13)⟩])
  (.seq (.reg [⟨some 14, none, .mv (.t 4)⟩,
  ⟨some 15, none, .bop .neq (.t 14) (.c (.i .i64 0))⟩])
  (.cond (.t 15) (.seq (.reg [⟨some 16, none, .mv (.t 4)⟩,
  ⟨some 2, none, .mv (.c (.i .i64 0))⟩,
  ⟨some 3, none, .mv (.t 16)⟩])
  .ret)
  .skip)))
  (.seq (.reg [⟨some 5, none, .box 26 1 (.c .ifn)⟩])
  (.seq (.reg [⟨some 17, none, .mkf (.func 42) [] [(.t 5)]⟩,
  ⟨some 18, none, .bld [.pn, .fn] [(0, 1, (.t 1)), (1, 1, (.t 17))]⟩,
  ⟨some 6, none, .box 144 2 (.c (.ag [.pn, .fn]))⟩,
  ⟨none, none, .st 2 (.t 6) (.t 18)⟩])
  (.seq (.seq (.reg [⟨some 19, none, .mkf (.func 43) [(.t 6)] []⟩,
  ⟨some 20, none, .mkf (.func 44) [(.t 6)] []⟩,
  ⟨some 21, none, .mkf (.func 45) [(.t 6)] []⟩,
  ⟨some 22, none, .bls 1 1 3 [.fn, .fn, .fn] [(0, 1, (.t 19)), (1, 1, (.t 20)), (2, 1, (.t 21))]⟩,
  ⟨some 23, none, .len 1 (.t 22)⟩,
  ⟨some 24, none, .mv (.c (.i .i64 0))⟩])
  (.blk 0 (.loop (.seq (.reg [⟨some 25, none, .bop .lss (.t 24) (.t 23)⟩])
  (.seq (.cond (.t 25) .skip
  (.exit 0))
  (.seq (.blk 1 (.seq (.reg [⟨some 26, none, .ia 1 (.t 22) (.t 24)⟩,
  ⟨some 27, none, .ld false 1 (.t 26)⟩,
  ⟨some 8, none, .mv (.t 27)⟩])
  (.reg [⟨some 28, none, .mv (.t 8)⟩,
  ⟨some 29, none, .callv (.t 28) []⟩])))
  (.reg [⟨some 30, none, .bop .add (.t 24) (.c (.i .i64 1))⟩,
  ⟨some 24, none, .mv (.t 30)⟩])))))))
  (.seq (.reg [⟨some 9, none, .box 138 1 (.c .pn)⟩])
  (.seq (.seq (.reg [⟨some 31, none, .ld false 1 (.t 5)⟩,
  ⟨some 32, none, .mki 139 (.t 9)⟩,
  ⟨some 33, none, .call 7 [(.t 31), (.t 32)]⟩,
  ⟨some 34, none, .un .not (.t 33)⟩])
  (.cond (.t 34) (.seq (.reg [⟨some 2, none, .mv (.c (.i .i64 0))⟩,
  ⟨some 3, none, .mv (.c (.i .i64 0))⟩])
  .ret)
  .skip))
  (.seq (.seq (.reg [⟨some 35, none, .bls 22 1 4 [(.i .i64 0), (.i .i64 0), (.i .i64 0), (.i .i64 0)] [(0, 1, (.c (.i .i64 91))), (1, 1, (.c (.i .i64 90))), (2, 1, (.c (.i .i64 92))), (3, 1, (.c (.i .i64 11)))]⟩,
  ⟨some 36, none, .len 1 (.t 35)⟩,
  ⟨some 37, none, .mv (.c (.i .i64 0))⟩])
  (.blk 2 (.loop (.seq (.reg [⟨some 38, none, .bop .lss (.t 37) (.t 36)⟩])
  (.seq (.cond (.t 38) .skip
  (.exit 2))
  (.seq (.blk 3 (.seq (.reg [⟨some 39, none, .ia 1 (.t 35) (.t 37)⟩,
  ⟨some 40, none, .ld false 1 (.t 39)⟩,
  ⟨some 11, none, .mv (.t 40)⟩])
  (.seq (.reg [⟨some 41, none, .ld false 1 (.t 5)⟩,
  ⟨some 42, none, .mv (.t 11)⟩,
  ⟨some 43, none, .mki 22 (.t 42)⟩,
  ⟨some 44, none, .call 10 [(.t 41), (.t 43)]⟩])
  (.cond (.t 44) (.seq (.reg [⟨some 45, none, .ld false 1 (.t 9)⟩,
  ⟨some 46, none, .nck (.t 45)⟩,
  ⟨some 47, none, .fa 1 (.t 46)⟩,
  ⟨some 48, none, .ld false 1 (.t 47)⟩,
  ⟨some 49, none, .mv (.t 11)⟩,
  ⟨some 2, none, .mv (.t 48)⟩,
  ⟨some 3, none, .mv (.t 49)⟩])
  .ret)
  .skip))))
  (.reg [⟨some 50, none, .bop .add (.t 37) (.c (.i .i64 1))⟩,
  ⟨some 37, none, .mv (.t 50)⟩])))))))
  (.seq (.reg [⟨some 2, none, .mv (.c (.i .i64 0))⟩,
  ⟨some 3, none, .mv (.c (.i .i64 0))⟩])
  .ret)))))))))⟩
def ir30_29 : XF := ⟨129, 1, [(2, some (true, 3)), (3, none)], (.seq (.reg [⟨some 1, none, .box 104 5 (.t 0)⟩,
  ⟨some 2, none, .box 47 3 (.c (.ag [.sln, .sln, .sln]))⟩,
  ⟨some 3, none, .mv (.c (.i .i64 0))⟩])
  (.seq (.seq (.reg [⟨some 16, none, .ld true 5 (.t 1)⟩,
  ⟨some 17, none, .call 28 [(.t 16)]⟩,
  ⟨some 15, none, .mv (.t 17)⟩,
  ⟨some 18, none, .ex (.t 15) 0⟩,
  ⟨some 19, none, .ex (.t 15) 1⟩,
  ⟨some 4, none, .mv (.t 18)⟩,
  ⟨some 5, none, .mv (.t 19)⟩])
  (.seq (.reg [⟨some 20, none, .mv (.t 5)⟩,
  ⟨some 21, none, .bop .neq (.t 20) (.c (.i .i64 0))⟩])
  (.cond (.t 21) (.seq (.reg [⟨some 22, none, .bld [.sln, .sln, .sln] []⟩,
  ⟨none, none, .st 3 (.t 2) (.t 22)⟩,
  ⟨some 3, none, .mv (.c (.i .i64 2))⟩])
  .ret)
  .skip)))
  (.seq (.reg [⟨some 23, none, .ld true 5 (.t 1)⟩,
  ⟨some 24, none, .call 46 [(.t 23)]⟩,
  ⟨some 6, none, .box 146 1 (.c .pn)⟩,
  ⟨none, none, .st 1 (.t 6) (.t 24)⟩])
  (.seq (.reg [⟨some 7, none, .box 4 1 (.c (.b false))⟩,
  ⟨none, none, .st 1 (.t 7) (.c (.b false))⟩])
  (.seq (.seq (.reg [⟨some 25, none, .ld true 5 (.t 1)⟩,
  ⟨some 26, none, .call 47 [(.t 25)]⟩])
  (.blk 0 (.rng 129 (.t 26) [27, 28] (.seq (.reg [⟨some 8, none, .mv (.t 27)⟩])
  (.reg [⟨some 9, none, .box 151 10 (.c (.ag [(.i .i8 0), (.i .i64 0), (.s []), (.s []), .sln, (.i .i8 0), (.i .i64 0), (.s []), (.s []), .sln]))⟩,
  ⟨none, none, .st 10 (.t 9) (.t 28)⟩])) (.blk 1 (.seq (.reg [⟨some 29, none, .ld false 1 (.t 6)⟩,
  ⟨some 30, none, .iaA 2 5 (.t 9) (.c (.i .i64 0))⟩,
  ⟨some 31, none, .fa 2 (.t 30)⟩,
  ⟨some 32, none, .ld false 1 (.t 31)⟩,
  ⟨some 33, none, .nck (.t 29)⟩,
  ⟨some 34, none, .fa 3 (.t 33)⟩,
  ⟨none, none, .st 1 (.t 34) (.t 32)⟩])
  (.seq (.par [⟨some 35, none, .ld false 1 (.t 6)⟩,
  ⟨some 36, none, .nck (.t 35)⟩,
  ⟨some 37, none, .fa 0 (.t 36)⟩,
  ⟨some 38, none, .fa 0 (.t 37)⟩,
  ⟨some 39, none, .ld false 1 (.t 38)⟩,
  ⟨some 40, none, .mv (.t 8)⟩,
  ⟨some 41, none, .ld false 1 (.t 6)⟩,
  ⟨some 42, none, .nck (.t 41)⟩,
  ⟨some 43, none, .fa 0 (.t 42)⟩,
  ⟨some 44, none, .fa 1 (.t 43)⟩,
  ⟨some 45, none, .ld false 1 (.t 44)⟩,
  ⟨some 46, none, .len 1 (.t 45)⟩,
  ⟨some 47, none, .ia 5 (.t 39) (.t 40)⟩,
  ⟨some 48, none, .fa 3 (.t 47)⟩,
  ⟨none, none, .st 1 (.t 48) (.t 46)⟩] [0, 1, 3, 7, 15, 0, 0, 64, 192, 448, 960, 1984, 4095, 8191, 16383])
  (.seq (.reg [⟨some 49, none, .ld false 1 (.t 6)⟩,
  ⟨some 50, none, .iaA 2 5 (.t 9) (.c (.i .i64 1))⟩,
  ⟨some 51, none, .ld true 5 (.t 50)⟩,
  ⟨some 52, none, .call 48 [(.t 49), (.t 51)]⟩])
  (.seq (.par [⟨some 53, none, .ld false 1 (.t 6)⟩,
  ⟨some 54, none, .nck (.t 53)⟩,
  ⟨some 55, none, .fa 0 (.t 54)⟩,
  ⟨some 56, none, .fa 0 (.t 55)⟩,
  ⟨some 57, none, .ld false 1 (.t 56)⟩,
  ⟨some 58, none, .mv (.t 8)⟩,
  ⟨some 59, none, .ld false 1 (.t 6)⟩,
  ⟨some 60, none, .nck (.t 59)⟩,
  ⟨some 61, none, .fa 5 (.t 60)⟩,
  ⟨some 62, none, .ld false 1 (.t 61)⟩,
  ⟨some 63, none, .ia 5 (.t 57) (.t 58)⟩,
  ⟨some 64, none, .fa 4 (.t 63)⟩,
  ⟨none, none, .st 1 (.t 64) (.t 62)⟩] [0, 1, 3, 7, 15, 0, 0, 64, 192, 448, 1023, 2047, 4095])
  (.reg [⟨some 65, none, .ld false 1 (.t 7)⟩,
  ⟨some 66, none, .mv (.t 65)⟩,
  ⟨some 67, some (66, false), .ld false 1 (.t 6)⟩,
  ⟨some 68, some (66, false), .nck (.t 67)⟩,
  ⟨some 69, some (66, false), .fa 5 (.t 68)⟩,
  ⟨some 70, some (66, false), .ld false 1 (.t 69)⟩,
  ⟨some 71, some (66, false), .bop .gtr (.t 70) (.c (.i .i64 32))⟩,
  ⟨some 72, none, .pick (.t 66) (.c (.b true)) (.t 71)⟩,
  ⟨none, none, .st 1 (.t 7) (.t 72)⟩])))))))))
  (.seq (.reg [⟨some 10, none, .mv (.c (.i .i64 0))⟩])
  (.seq (.seq (.reg [⟨some 73, none, .ld false 1 (.t 6)⟩,
  ⟨some 74, none, .nck (.t 73)⟩,
  ⟨some 75, none, .fa 0 (.t 74)⟩,
  ⟨some 76, none, .fa 2 (.t 75)⟩,
  ⟨some 77, none, .ld false 1 (.t 76)⟩,
  ⟨some 78, none, .len 1 (.t 77)⟩,
  ⟨some 79, none, .mv (.c (.i .i64 0))⟩])
  (.blk 2 (.loop (.seq (.reg [⟨some 80, none, .bop .lss (.t 79) (.t 78)⟩])
  (.seq (.cond (.t 80) .skip
  (.exit 2))
  (.seq (.blk 3 (.seq (.reg [⟨some 81, none, .ia 1 (.t 77) (.t 79)⟩,
  ⟨some 82, none, .ld false 1 (.t 81)⟩,
  ⟨some 12, none, .mv (.t 82)⟩])
  (.reg [⟨some 83, none, .mv (.t 10)⟩,
  ⟨some 84, none, .mv (.t 12)⟩,
  ⟨some 85, none, .len 1 (.t 84)⟩,
  ⟨some 86, none, .bop .add (.t 83) (.t 85)⟩,
  ⟨some 10, none, .mv (.t 86)⟩])))
  (.reg [⟨some 87, none, .bop .add (.t 79) (.c (.i .i64 1))⟩,
  ⟨some 79, none, .mv (.t 87)⟩])))))))
  (.seq (.seq (.reg [⟨some 88, none, .ld false 1 (.t 6)⟩,
  ⟨some 89, none, .nck (.t 88)⟩,
  ⟨some 90, none, .fa 0 (.t 89)⟩,
  ⟨some 91, none, .fa 1 (.t 90)⟩,
  ⟨some 92, none, .ld false 1 (.t 91)⟩,
  ⟨some 93, none, .len 1 (.t 92)⟩,
  ⟨some 94, none, .mv (.c (.i .i64 0))⟩])
  (.blk 4 (.loop (.seq (.reg [⟨some 95, none, .bop .lss (.t 94) (.t 93)⟩])
  (.seq (.cond (.t 95) .skip
  (.exit 4))
  (.seq (.blk 5 (.seq (.reg [⟨some 96, none, .ia 14 (.t 92) (.t 94)⟩,
  ⟨some 97, none, .ld true 14 (.t 96)⟩,
  ⟨some 14, none, .box 162 14 (.c (.ag [(.i .i8 0), (.i .i64 0), (.i .i64 0), (.i .i8 0), (.i .i64 0), (.s []), (.s []), .sln, (.i .i8 0), (.i .i64 0), (.s []), (.s []), .sln, .sln]))⟩,
  ⟨none, none, .st 14 (.t 14) (.t 97)⟩])
  (.reg [⟨some 98, none, .ld false 1 (.t 7)⟩,
  ⟨some 99, none, .mv (.t 98)⟩,
  ⟨some 100, some (99, false), .fa 0 (.t 14)⟩,
  ⟨some 101, some (99, false), .ld false 1 (.t 100)⟩,
  ⟨some 102, some (99, false), .bop .eql (.t 101) (.c (.i .i8 4))⟩,
  ⟨some 103, some (99, false), .mv (.t 102)⟩,
  ⟨some 104, some (103, true), .fa 1 (.t 14)⟩,
  ⟨some 105, some (103, true), .ld false 1 (.t 104)⟩,
  ⟨some 106, some (103, true), .bop .gtr (.t 105) (.c (.i .i64 256))⟩,
  ⟨some 107, some (99, false), .pick (.t 103) (.t 106) (.c (.b false))⟩,
  ⟨some 108, none, .pick (.t 99) (.c (.b true)) (.t 107)⟩,
  ⟨none, none, .st 1 (.t 7) (.t 108)⟩])))
  (.reg [⟨some 109, none, .bop .add (.t 94) (.c (.i .i64 1))⟩,
  ⟨some 94, none, .mv (.t 109)⟩])))))))
  (.seq (.seq (.reg [⟨some 110, none, .ld false 1 (.t 7)⟩,
  ⟨some 111, none, .mv (.t 110)⟩,
  ⟨some 112, some (111, false), .ld false 1 (.t 6)⟩,
  ⟨some 113, some (111, false), .nck (.t 112)⟩,
  ⟨some 114, some (111, false), .fa 0 (.t 113)⟩,
  ⟨some 115, some (111, false), .fa 1 (.t 114)⟩,
  ⟨some 116, some (111, false), .ld false 1 (.t 115)⟩,
  ⟨some 117, some (111, false), .len 1 (.t 116)⟩,
  ⟨some 118, some (111, false), .bop .gtr (.t 117) (.c (.i .i64 4096))⟩,
  ⟨some 119, none, .pick (.t 111) (.c (.b true)) (.t 118)⟩,
  ⟨some 120, none, .mv (.t 119)⟩,
  ⟨some 121, some (120, false), .mv (.t 10)⟩,
  ⟨some 122, some (120, false), .bop .gtr (.t 121) (.c (.i .i64 4096))⟩,
  ⟨some 123, none, .pick (.t 120) (.c (.b true)) (.t 122)⟩])
  (.cond (.t 123) (.seq (.reg [⟨some 124, none, .bld [.sln, .sln, .sln] []⟩,
  ⟨none, none, .st 3 (.t 2) (.t 124)⟩,
  ⟨some 3, none, .mv (.c (.i .i64 11))⟩])
  .ret)
  .skip))
  (.seq (.reg [⟨some 125, none, .ld false 1 (.t 6)⟩,
  ⟨some 126, none, .nck (.t 125)⟩,
  ⟨some 127, none, .fa 0 (.t 126)⟩,
  ⟨some 128, none, .ld true 3 (.t 127)⟩,
  ⟨none, none, .st 3 (.t 2) (.t 128)⟩,
  ⟨some 3, none, .mv (.c (.i .i64 0))⟩])
  .ret))))))))))⟩
def ir30_30 : XF := ⟨31, 1, [(2, some (true, 4)), (3, none)], (.seq (.reg [⟨some 1, none, .box 82 5 (.t 0)⟩,
  ⟨some 2, none, .box 51 4 (.c (.ag [(.i .i8 0), (.i .i64 0), (.i .i64 0), .sln]))⟩,
  ⟨some 3, none, .mv (.c (.i .i64 0))⟩])
  (.seq (.blk 0 (.seq (.reg [⟨some 8, none, .ld true 5 (.t 1)⟩,
  ⟨some 9, none, .call 49 [(.t 8)]⟩,
  ⟨some 10, none, .bop .neq (.t 9) (.c (.i .i64 0))⟩,
  ⟨some 7, none, .mv (.t 10)⟩])
  (.cond (.t 7) (.seq (.reg [⟨some 11, none, .bld [(.i .i8 0), (.i .i64 0), (.i .i64 0), .sln] []⟩,
  ⟨none, none, .st 4 (.t 2) (.t 11)⟩,
  ⟨some 3, none, .mv (.c (.i .i64 2))⟩])
  .ret)
  (.seq (.reg [⟨some 13, none, .call 50 [(.t 1), (.c (.s [115, 117, 112])), (.c (.i .i64 3))]⟩,
  ⟨some 14, none, .un .not (.t 13)⟩,
  ⟨some 12, none, .mv (.t 14)⟩])
  (.cond (.t 12) (.seq (.reg [⟨some 15, none, .bld [(.i .i8 0), (.i .i64 0), (.i .i64 0), .sln] []⟩,
  ⟨none, none, .st 4 (.t 2) (.t 15)⟩,
  ⟨some 3, none, .mv (.c (.i .i64 250))⟩])
  .ret)
  .skip)))))
  (.seq (.par [⟨some 17, none, .fa 4 (.t 1)⟩,
  ⟨some 18, none, .ld false 1 (.t 17)⟩,
  ⟨some 19, none, .ia 5 (.t 18) (.c (.i .i64 1))⟩,
  ⟨some 20, none, .ld true 5 (.t 19)⟩,
  ⟨some 21, none, .fa 4 (.t 1)⟩,
  ⟨some 22, none, .ld false 1 (.t 21)⟩,
  ⟨some 23, none, .ia 5 (.t 22) (.c (.i .i64 2))⟩,
  ⟨some 24, none, .ld true 5 (.t 23)⟩,
  ⟨some 25, none, .call 51 [(.t 20), (.t 24)]⟩,
  ⟨some 16, none, .mv (.t 25)⟩,
  ⟨some 26, none, .ex (.t 16) 0⟩,
  ⟨some 27, none, .ex (.t 16) 1⟩,
  ⟨some 28, none, .ex (.t 16) 2⟩,
  ⟨some 4, none, .box 51 4 (.c (.ag [(.i .i8 0), (.i .i64 0), (.i .i64 0), .sln]))⟩,
  ⟨none, none, .st 4 (.t 4) (.t 26)⟩,
  ⟨some 5, none, .mv (.t 27)⟩,
  ⟨some 6, none, .mv (.t 28)⟩] [0, 1, 3, 7, 0, 16, 48, 112, 255, 511, 1023, 1023, 1023, 0, 10239, 28671, 65535])
  (.seq (.reg [⟨some 29, none, .ld true 4 (.t 4)⟩,
  ⟨some 30, none, .mv (.t 6)⟩,
  ⟨none, none, .st 4 (.t 2) (.t 29)⟩,
  ⟨some 3, none, .mv (.t 30)⟩])
  .ret))))⟩
def ir30_31 : XF := ⟨14, 1, [(2, none)], (.seq (.reg [⟨some 1, none, .box 51 4 (.t 0)⟩,
  ⟨some 2, none, .mv (.c (.b false))⟩])
  (.seq (.reg [⟨some 7, none, .ld true 4 (.t 1)⟩,
  ⟨some 8, none, .call 52 [(.t 7)]⟩,
  ⟨some 6, none, .mv (.t 8)⟩,
  ⟨some 9, none, .ex (.t 6) 0⟩,
  ⟨some 10, none, .ex (.t 6) 1⟩,
  ⟨some 11, none, .ex (.t 6) 2⟩,
  ⟨some 3, none, .box 82 5 (.c (.ag [(.i .i8 0), (.i .i64 0), (.s []), (.s []), .sln]))⟩,
  ⟨some 4, none, .box 82 5 (.c (.ag [(.i .i8 0), (.i .i64 0), (.s []), (.s []), .sln]))⟩,
  ⟨none, none, .st 5 (.t 3) (.t 9)⟩,
  ⟨none, none, .st 5 (.t 4) (.t 10)⟩,
  ⟨some 5, none, .mv (.t 11)⟩])
  (.seq (.reg [⟨some 12, none, .mv (.t 5)⟩,
  ⟨some 13, none, .bop .neq (.t 12) (.c (.i .i64 2))⟩,
  ⟨some 2, none, .mv (.t 13)⟩])
  .ret)))⟩
def ir30_32 : XF := ⟨30, 3, [], (.seq (.reg [⟨some 3, none, .box 51 4 (.t 0)⟩])
  (.seq (.reg [⟨some 8, none, .fa 3 (.t 3)⟩,
  ⟨some 9, none, .ld false 1 (.t 8)⟩,
  ⟨some 10, none, .len 1 (.t 9)⟩,
  ⟨some 11, none, .mv (.c (.i .i64 0))⟩])
  (.blk 0 (.loop (.seq (.reg [⟨some 12, none, .bop .lss (.t 11) (.t 10)⟩])
  (.seq (.cond (.t 12) .skip
  (.exit 0))
  (.seq (.blk 1 (.seq (.reg [⟨some 13, none, .ia 12 (.t 9) (.t 11)⟩,
  ⟨some 14, none, .ld true 12 (.t 13)⟩,
  ⟨some 5, none, .box 85 12 (.c (.ag [(.i .i8 0), (.i .i64 0), (.s []), (.s []), .sln, (.i .i8 0), (.i .i8 0), (.i .i64 0), (.s []), (.s []), .sln, .sln]))⟩,
  ⟨none, none, .st 12 (.t 5) (.t 14)⟩])
  (.seq (.reg [⟨some 15, none, .ld false 1 (.t 1)⟩,
  ⟨some 16, none, .ld true 12 (.t 5)⟩,
  ⟨some 17, none, .callv (.t 15) [(.t 16)]⟩])
  (.seq (.reg [⟨some 18, none, .fa 11 (.t 5)⟩,
  ⟨some 19, none, .ld false 1 (.t 18)⟩,
  ⟨some 20, none, .len 1 (.t 19)⟩,
  ⟨some 21, none, .mv (.c (.i .i64 0))⟩])
  (.blk 2 (.loop (.seq (.reg [⟨some 22, none, .bop .lss (.t 21) (.t 20)⟩])
  (.seq (.cond (.t 22) .skip
  (.exit 2))
  (.seq (.blk 3 (.seq (.reg [⟨some 23, none, .ia 4 (.t 19) (.t 21)⟩,
  ⟨some 24, none, .ld true 4 (.t 23)⟩,
  ⟨some 7, none, .box 51 4 (.c (.ag [(.i .i8 0), (.i .i64 0), (.i .i64 0), .sln]))⟩,
  ⟨none, none, .st 4 (.t 7) (.t 24)⟩])
  (.reg [⟨some 25, none, .ld false 1 (.t 2)⟩,
  ⟨some 26, none, .ld true 4 (.t 7)⟩,
  ⟨some 27, none, .callv (.t 25) [(.t 26)]⟩])))
  (.reg [⟨some 28, none, .bop .add (.t 21) (.c (.i .i64 1))⟩,
  ⟨some 21, none, .mv (.t 28)⟩]))))))))))
  (.reg [⟨some 29, none, .bop .add (.t 11) (.c (.i .i64 1))⟩,
  ⟨some 11, none, .mv (.t 29)⟩]))))))))⟩
def ir30_33 : XF := ⟨52, 1, [(2, none)], (.seq (.reg [⟨some 2, none, .mv (.c .pn)⟩])
  (.seq (.reg [⟨some 8, none, .mv (.t 0)⟩,
  ⟨some 9, none, .len 0 (.t 8)⟩,
  ⟨some 10, none, .bld [.sln, (.i .i64 0), (.i .i64 0), (.i .i64 0), (.i .i64 0), (.i .i64 0), (.i .i64 0), (.i .i64 0), .mn] [(2, 1, (.t 9))]⟩,
  ⟨some 11, none, .box 123 9 (.t 10)⟩,
  ⟨some 3, none, .box 118 1 (.c .pn)⟩,
  ⟨none, none, .st 1 (.t 3) (.t 11)⟩])
  (.seq (.seq (.reg [⟨some 12, none, .mv (.t 0)⟩,
  ⟨some 13, none, .call 53 [(.t 12)]⟩])
  (.blk 0 (.rng 52 (.t 13) [14, 15] (.reg [⟨some 5, none, .box 127 4 (.c (.ag [(.i .i8 0), (.i .i64 0), (.s []), (.i .i64 0)]))⟩,
  ⟨none, none, .st 4 (.t 5) (.t 15)⟩]) (.blk 1 (.par [⟨some 16, none, .ld false 1 (.t 3)⟩,
  ⟨some 17, none, .ld false 1 (.t 3)⟩,
  ⟨some 18, none, .nck (.t 17)⟩,
  ⟨some 19, none, .fa 0 (.t 18)⟩,
  ⟨some 20, none, .ld false 1 (.t 19)⟩,
  ⟨some 21, none, .ld true 4 (.t 5)⟩,
  ⟨some 22, none, .bls 127 4 1 [(.i .i8 0), (.i .i64 0), (.s []), (.i .i64 0)] [(0, 4, (.t 21))]⟩,
  ⟨some 23, none, .app 127 4 (.t 20) (.t 22)⟩,
  ⟨some 24, none, .nck (.t 16)⟩,
  ⟨some 25, none, .fa 0 (.t 24)⟩,
  ⟨none, none, .st 1 (.t 25) (.t 23)⟩] [0, 0, 2, 6, 14, 0, 32, 126, 255, 511, 1023])))))
  (.seq (.seq (.reg [⟨some 27, none, .mv (.t 0)⟩,
  ⟨some 28, none, .call 38 [(.t 27)]⟩,
  ⟨some 26, none, .mv (.t 28)⟩,
  ⟨some 29, none, .ex (.t 26) 0⟩,
  ⟨some 30, none, .ex (.t 26) 1⟩,
  ⟨some 7, none, .box 24 2 (.c (.ag [(.i .i64 0), (.i .i64 0)]))⟩,
  ⟨some 6, none, .mv (.t 29)⟩,
  ⟨none, none, .st 2 (.t 7) (.t 30)⟩])
  (.seq (.reg [⟨some 31, none, .fa 0 (.t 7)⟩,
  ⟨some 32, none, .ld false 1 (.t 31)⟩,
  ⟨some 33, none, .bop .neq (.t 32) (.c (.i .i64 0))⟩])
  (.cond (.t 33) (.reg [⟨some 34, none, .ld false 1 (.t 3)⟩,
  ⟨some 35, none, .ld true 2 (.t 7)⟩,
  ⟨some 36, none, .nck (.t 34)⟩,
  ⟨some 37, none, .fa 3 (.t 36)⟩,
  ⟨none, none, .st 2 (.t 37) (.t 35)⟩])
  .skip)))
  (.seq (.reg [⟨some 38, none, .ld false 1 (.t 3)⟩,
  ⟨some 39, none, .mkm⟩,
  ⟨some 40, none, .ld false 1 (.t 3)⟩,
  ⟨some 41, none, .mkf (.func 54) [(.t 40)] []⟩,
  ⟨none, none, .ins .s (.t 39) (.c (.s [102, 117, 110])) (.t 41)⟩,
  ⟨some 42, none, .ld false 1 (.t 3)⟩,
  ⟨some 43, none, .mkf (.func 55) [(.t 42)] []⟩,
  ⟨none, none, .ins .s (.t 39) (.c (.s [99, 97, 115, 101])) (.t 43)⟩,
  ⟨some 44, none, .ld false 1 (.t 3)⟩,
  ⟨some 45, none, .mkf (.func 56) [(.t 44)] []⟩,
  ⟨none, none, .ins .s (.t 39) (.c (.s [116, 114, 121])) (.t 45)⟩,
  ⟨some 46, none, .ld false 1 (.t 3)⟩,
  ⟨some 47, none, .mkf (.func 57) [(.t 46)] []⟩,
  ⟨none, none, .ins .s (.t 39) (.c (.s [114, 101, 99, 101, 105, 118, 101])) (.t 47)⟩,
  ⟨some 48, none, .mv (.t 39)⟩,
  ⟨some 49, none, .nck (.t 38)⟩,
  ⟨some 50, none, .fa 8 (.t 49)⟩,
  ⟨none, none, .st 1 (.t 50) (.t 48)⟩])
  (.seq (.reg [⟨some 51, none, .ld false 1 (.t 3)⟩,
  ⟨some 2, none, .mv (.t 51)⟩])
  .ret))))))⟩
def ir30_34 : XF := ⟨44, 1, [(2, some (true, 5))], (.seq (.reg [⟨some 2, none, .box 104 5 (.c (.ag [(.i .i8 0), (.i .i64 0), (.s []), (.s []), .sln]))⟩])
  (.seq (.reg [⟨some 5, none, .fa 0 (.t 2)⟩,
  ⟨none, none, .st 1 (.t 5) (.c (.i .i8 0))⟩])
  (.seq (.blk 0 (.loop (.seq (.seq (.reg [⟨some 6, none, .mv (.t 0)⟩,
  ⟨some 7, none, .call 58 [(.t 6), (.c (.s [109, 111, 100, 117, 108, 101]))]⟩])
  (.cond (.t 7) .skip
  (.exit 0)))
  (.blk 1 (.seq (.reg [⟨some 8, none, .mv (.t 0)⟩,
  ⟨some 9, none, .call 59 [(.t 8), (.c (.i .i8 0))]⟩,
  ⟨some 10, none, .fld false 2 1 (.t 9)⟩,
  ⟨some 11, none, .bld [(.i .i8 0), (.i .i64 0), (.s []), (.s []), .sln] [(0, 1, (.c (.i .i8 1))), (2, 1, (.t 10))]⟩,
  ⟨some 3, none, .box 104 5 (.c (.ag [(.i .i8 0), (.i .i64 0), (.s []), (.s []), .sln]))⟩,
  ⟨none, none, .st 5 (.t 3) (.t 11)⟩])
  (.seq (.reg [⟨some 12, none, .mv (.t 0)⟩,
  ⟨some 13, none, .call 59 [(.t 12), (.c (.i .i8 4))]⟩])
  (.seq (.blk 2 (.loop (.seq (.seq (.reg [⟨some 14, none, .mv (.t 0)⟩,
  ⟨some 15, none, .call 36 [(.t 14)]⟩,
  ⟨some 16, none, .fld false 0 1 (.t 15)⟩,
  ⟨some 17, none, .bop .eql (.t 16) (.c (.i .i8 0))⟩,
  ⟨some 18, none, .mv (.t 17)⟩,
  ⟨some 19, some (18, true), .mv (.t 0)⟩,
  ⟨some 20, some (18, true), .call 60 [(.t 19)]⟩,
  ⟨some 21, some (18, true), .un .not (.t 20)⟩,
  ⟨some 22, none, .pick (.t 18) (.t 21) (.c (.b false))⟩])
  (.cond (.t 22) .skip
  (.exit 2)))
  (.blk 3 (.seq (.reg [⟨some 23, none, .bld [(.i .i8 0), (.i .i64 0), (.s []), (.s []), .sln] [(0, 1, (.c (.i .i8 2)))]⟩,
  ⟨some 4, none, .box 104 5 (.c (.ag [(.i .i8 0), (.i .i64 0), (.s []), (.s []), .sln]))⟩,
  ⟨none, none, .st 5 (.t 4) (.t 23)⟩])
  (.seq (.reg [⟨some 24, none, .mv (.t 0)⟩,
  ⟨some 25, none, .mv (.t 0)⟩,
  ⟨some 26, none, .call 62 [(.t 25), (.t 4)]⟩,
  ⟨some 27, none, .call 61 [(.t 24), (.c (.s [59])), (.t 26)]⟩,
  ⟨some 28, none, .fa 4 (.t 4)⟩,
  ⟨none, none, .st 1 (.t 28) (.t 27)⟩])
  (.seq (.reg [⟨some 29, none, .mv (.t 0)⟩,
  ⟨some 30, none, .call 59 [(.t 29), (.c (.i .i8 4))]⟩])
  (.reg [⟨some 31, none, .fa 4 (.t 3)⟩,
  ⟨some 32, none, .ld false 1 (.t 31)⟩,
  ⟨some 33, none, .ld true 5 (.t 4)⟩,
  ⟨some 34, none, .bls 104 5 1 [(.i .i8 0), (.i .i64 0), (.s []), (.s []), .sln] [(0, 5, (.t 33))]⟩,
  ⟨some 35, none, .app 104 5 (.t 32) (.t 34)⟩,
  ⟨some 36, none, .fa 4 (.t 3)⟩,
  ⟨none, none, .st 1 (.t 36) (.t 35)⟩]))))))))
  (.reg [⟨some 37, none, .fa 4 (.t 2)⟩,
  ⟨some 38, none, .ld false 1 (.t 37)⟩,
  ⟨some 39, none, .ld true 5 (.t 3)⟩,
  ⟨some 40, none, .bls 104 5 1 [(.i .i8 0), (.i .i64 0), (.s []), (.s []), .sln] [(0, 5, (.t 39))]⟩,
  ⟨some 41, none, .app 104 5 (.t 38) (.t 40)⟩,
  ⟨some 42, none, .fa 4 (.t 2)⟩,
  ⟨none, none, .st 1 (.t 42) (.t 41)⟩]))))))))
  (.seq (.reg [⟨some 43, none, .ld true 5 (.t 2)⟩,
  ⟨none, none, .st 5 (.t 2) (.t 43)⟩])
  .ret))))⟩
def ir30_35 : XF := ⟨22, 2, [(4, none)], (.seq (.reg [⟨some 4, none, .mv (.c (.b false))⟩])
  (.seq (.reg [⟨some 6, none, .mv (.t 0)⟩,
  ⟨some 7, none, .call 36 [(.t 6)]⟩,
  ⟨some 5, none, .box 127 4 (.c (.ag [(.i .i8 0), (.i .i64 0), (.s []), (.i .i64 0)]))⟩,
  ⟨none, none, .st 4 (.t 5) (.t 7)⟩])
  (.seq (.reg [⟨some 8, none, .mv (.t 0)⟩,
  ⟨some 9, none, .call 60 [(.t 8)]⟩,
  ⟨some 10, none, .un .not (.t 9)⟩,
  ⟨some 11, none, .mv (.t 10)⟩,
  ⟨some 12, some (11, true), .fa 0 (.t 5)⟩,
  ⟨some 13, some (11, true), .ld false 1 (.t 12)⟩,
  ⟨some 14, some (11, true), .bop .eql (.t 13) (.c (.i .i8 3))⟩,
  ⟨some 15, none, .pick (.t 11) (.t 14) (.c (.b false))⟩,
  ⟨some 16, none, .mv (.t 15)⟩,
  ⟨some 17, some (16, true), .fa 2 (.t 5)⟩,
  ⟨some 18, some (16, true), .ld false 1 (.t 17)⟩,
  ⟨some 19, some (16, true), .mv (.t 1)⟩,
  ⟨some 20, some (16, true), .bop .eql (.t 18) (.t 19)⟩,
  ⟨some 21, none, .pick (.t 16) (.t 20) (.c (.b false))⟩,
  ⟨some 4, none, .mv (.t 21)⟩])
  .ret)))⟩
def ir30_36 : XF := ⟨28, 1, [(2, some (true, 4))], (.seq (.reg [⟨some 2, none, .box 127 4 (.c (.ag [(.i .i8 0), (.i .i64 0), (.s []), (.i .i64 0)]))⟩])
  (.seq (.seq (.par [⟨some 3, none, .mv (.t 0)⟩,
  ⟨some 4, none, .nck (.t 3)⟩,
  ⟨some 5, none, .fa 1 (.t 4)⟩,
  ⟨some 6, none, .ld false 1 (.t 5)⟩,
  ⟨some 7, none, .mv (.t 0)⟩,
  ⟨some 8, none, .nck (.t 7)⟩,
  ⟨some 9, none, .fa 0 (.t 8)⟩,
  ⟨some 10, none, .ld false 1 (.t 9)⟩,
  ⟨some 11, none, .len 1 (.t 10)⟩,
  ⟨some 12, none, .bop .geq (.t 6) (.t 11)⟩] [0, 1, 3, 7, 0, 16, 48, 112, 240, 511])
  (.cond (.t 12) (.seq (.reg [⟨some 13, none, .mv (.t 0)⟩,
  ⟨some 14, none, .nck (.t 13)⟩,
  ⟨some 15, none, .fa 2 (.t 14)⟩,
  ⟨some 16, none, .ld false 1 (.t 15)⟩,
  ⟨some 17, none, .bld [(.i .i8 0), (.i .i64 0), (.s []), (.i .i64 0)] [(0, 1, (.c (.i .i8 (-1)))), (3, 1, (.t 16))]⟩,
  ⟨none, none, .st 4 (.t 2) (.t 17)⟩])
  .ret)
  .skip))
  (.seq (.par [⟨some 18, none, .mv (.t 0)⟩,
  ⟨some 19, none, .nck (.t 18)⟩,
  ⟨some 20, none, .fa 0 (.t 19)⟩,
  ⟨some 21, none, .ld false 1 (.t 20)⟩,
  ⟨some 22, none, .mv (.t 0)⟩,
  ⟨some 23, none, .nck (.t 22)⟩,
  ⟨some 24, none, .fa 1 (.t 23)⟩,
  ⟨some 25, none, .ld false 1 (.t 24)⟩,
  ⟨some 26, none, .ia 4 (.t 21) (.t 25)⟩,
  ⟨some 27, none, .ld true 4 (.t 26)⟩,
  ⟨none, none, .st 4 (.t 2) (.t 27)⟩] [0, 1, 3, 7, 0, 16, 48, 112, 255, 511, 1023])
  .ret)))⟩
def ir30_37 : XF := ⟨58, 2, [(4, some (true, 5)), (5, some (true, 2))], (.seq (.reg [⟨some 3, none, .box 104 5 (.t 1)⟩,
  ⟨some 4, none, .box 104 5 (.c (.ag [(.i .i8 0), (.i .i64 0), (.s []), (.s []), .sln]))⟩,
  ⟨some 5, none, .box 24 2 (.c (.ag [(.i .i64 0), (.i .i64 0)]))⟩])
  (.seq (.seq (.par [⟨some 8, none, .mv (.t 0)⟩,
  ⟨some 9, none, .nck (.t 8)⟩,
  ⟨some 10, none, .fa 1 (.t 9)⟩,
  ⟨some 11, none, .ld false 1 (.t 10)⟩,
  ⟨some 12, none, .mv (.t 0)⟩,
  ⟨some 13, none, .nck (.t 12)⟩,
  ⟨some 14, none, .fa 0 (.t 13)⟩,
  ⟨some 15, none, .ld false 1 (.t 14)⟩,
  ⟨some 16, none, .len 1 (.t 15)⟩,
  ⟨some 17, none, .bop .lss (.t 11) (.t 16)⟩,
  ⟨some 18, none, .mv (.t 17)⟩,
  ⟨some 19, some (18, false), .mv (.t 0)⟩,
  ⟨some 20, some (18, false), .nck (.t 19)⟩,
  ⟨some 21, some (18, false), .fa 3 (.t 20)⟩,
  ⟨some 22, some (18, false), .fa 0 (.t 21)⟩,
  ⟨some 23, some (18, false), .ld false 1 (.t 22)⟩,
  ⟨some 24, some (18, false), .bop .neq (.t 23) (.c (.i .i64 0))⟩,
  ⟨some 25, none, .pick (.t 18) (.c (.b true)) (.t 24)⟩] [0, 1, 3, 7, 0, 16, 48, 112, 240, 511, 1023, 2047, 4095, 8191, 16383, 32767, 65535, 131071])
  (.cond (.t 25) (.reg [⟨some 26, none, .mv (.t 0)⟩,
  ⟨some 27, none, .call 63 [(.t 26)]⟩])
  .skip))
  (.seq (.seq (.reg [⟨some 29, none, .ld true 5 (.t 3)⟩,
  ⟨some 30, none, .call 64 [(.t 29)]⟩,
  ⟨some 28, none, .mv (.t 30)⟩,
  ⟨some 31, none, .ex (.t 28) 0⟩,
  ⟨some 32, none, .ex (.t 28) 1⟩,
  ⟨some 6, none, .mv (.t 31)⟩,
  ⟨some 7, none, .mv (.t 32)⟩])
  (.seq (.reg [⟨some 33, none, .mv (.t 0)⟩,
  ⟨some 34, none, .call 60 [(.t 33)]⟩,
  ⟨some 35, none, .un .not (.t 34)⟩,
  ⟨some 36, none, .mv (.t 35)⟩,
  ⟨some 37, some (36, true), .mv (.t 6)⟩,
  ⟨some 38, some (36, true), .bop .gtr (.t 37) (.c (.i .i64 4096))⟩,
  ⟨some 39, some (36, true), .mv (.t 38)⟩,
  ⟨some 40, some (39, false), .mv (.t 7)⟩,
  ⟨some 41, some (39, false), .bop .gtr (.t 40) (.c (.i .i64 64))⟩,
  ⟨some 42, some (36, true), .pick (.t 39) (.c (.b true)) (.t 41)⟩,
  ⟨some 43, none, .pick (.t 36) (.t 42) (.c (.b false))⟩])
  (.cond (.t 43) (.reg [⟨some 44, none, .mv (.t 0)⟩,
  ⟨some 45, none, .call 65 [(.t 44), (.c (.i .i64 11)), (.c (.i .i64 0))]⟩])
  .skip)))
  (.seq (.seq (.reg [⟨some 46, none, .mv (.t 0)⟩,
  ⟨some 47, none, .call 60 [(.t 46)]⟩])
  (.cond (.t 47) (.seq (.par [⟨some 48, none, .bld [(.i .i8 0), (.i .i64 0), (.s []), (.s []), .sln] []⟩,
  ⟨some 49, none, .mv (.t 0)⟩,
  ⟨some 50, none, .nck (.t 49)⟩,
  ⟨some 51, none, .fa 5 (.t 50)⟩,
  ⟨some 52, none, .ld true 2 (.t 51)⟩,
  ⟨none, none, .st 5 (.t 4) (.t 48)⟩,
  ⟨none, none, .st 2 (.t 5) (.t 52)⟩] [0, 0, 2, 6, 14, 1, 63])
  .ret)
  .skip))
  (.seq (.par [⟨some 53, none, .ld true 5 (.t 3)⟩,
  ⟨some 54, none, .mv (.t 0)⟩,
  ⟨some 55, none, .nck (.t 54)⟩,
  ⟨some 56, none, .fa 5 (.t 55)⟩,
  ⟨some 57, none, .ld true 2 (.t 56)⟩,
  ⟨none, none, .st 5 (.t 4) (.t 53)⟩,
  ⟨none, none, .st 2 (.t 5) (.t 57)⟩] [0, 0, 2, 6, 14, 1, 63])
  .ret)))))⟩
def ir30_38 : XF := ⟨20, 1, [(2, some (false, 1)), (3, some (true, 2))], (.seq (.reg [⟨some 2, none, .box 120 1 (.c .sln)⟩,
  ⟨some 3, none, .box 24 2 (.c (.ag [(.i .i64 0), (.i .i64 0)]))⟩])
  (.seq (.seq (.reg [⟨some 6, none, .mv (.t 0)⟩,
  ⟨some 7, none, .call 66 [(.t 6), (.t 3)]⟩])
  (.blk 0 (.rng 20 (.t 7) [8, 9] (.reg [⟨some 5, none, .box 127 4 (.c (.ag [(.i .i8 0), (.i .i64 0), (.s []), (.i .i64 0)]))⟩,
  ⟨none, none, .st 4 (.t 5) (.t 9)⟩]) (.blk 1 (.reg [⟨some 10, none, .ld false 1 (.t 2)⟩,
  ⟨some 11, none, .ld true 4 (.t 5)⟩,
  ⟨some 12, none, .bls 127 4 1 [(.i .i8 0), (.i .i64 0), (.s []), (.i .i64 0)] [(0, 4, (.t 11))]⟩,
  ⟨some 13, none, .app 127 4 (.t 10) (.t 12)⟩,
  ⟨none, none, .st 1 (.t 2) (.t 13)⟩])))))
  (.seq (.seq (.reg [⟨some 14, none, .fa 0 (.t 3)⟩,
  ⟨some 15, none, .ld false 1 (.t 14)⟩,
  ⟨some 16, none, .bop .neq (.t 15) (.c (.i .i64 0))⟩])
  (.cond (.t 16) (.seq (.par [⟨some 17, none, .ld true 2 (.t 3)⟩,
  ⟨none, none, .st 1 (.t 2) (.c .sln)⟩,
  ⟨none, none, .st 2 (.t 3) (.t 17)⟩] [0, 0, 3])
  .ret)
  .skip))
  (.seq (.par [⟨some 18, none, .ld false 1 (.t 2)⟩,
  ⟨some 19, none, .ld true 2 (.t 3)⟩,
  ⟨none, none, .st 1 (.t 2) (.t 18)⟩,
  ⟨none, none, .st 2 (.t 3) (.t 19)⟩] [0, 0, 1, 7])
  .ret))))⟩
def ir30_39 : XF := ⟨24, 1, [(2, some (true, 5)), (3, some (true, 2))], (.seq (.reg [⟨some 2, none, .box 104 5 (.c (.ag [(.i .i8 0), (.i .i64 0), (.s []), (.s []), .sln]))⟩,
  ⟨some 3, none, .box 24 2 (.c (.ag [(.i .i64 0), (.i .i64 0)]))⟩])
  (.seq (.reg [⟨some 5, none, .mv (.t 0)⟩,
  ⟨some 6, none, .call 33 [(.t 5)]⟩,
  ⟨some 4, none, .mv (.t 6)⟩])
  (.seq (.seq (.reg [⟨some 7, none, .mv (.t 4)⟩,
  ⟨some 8, none, .nck (.t 7)⟩,
  ⟨some 9, none, .fa 3 (.t 8)⟩,
  ⟨some 10, none, .fa 0 (.t 9)⟩,
  ⟨some 11, none, .ld false 1 (.t 10)⟩,
  ⟨some 12, none, .bop .eql (.t 11) (.c (.i .i64 3))⟩])
  (.cond (.t 12) (.seq (.par [⟨some 13, none, .bld [(.i .i8 0), (.i .i64 0), (.s []), (.s []), .sln] []⟩,
  ⟨some 14, none, .mv (.t 4)⟩,
  ⟨some 15, none, .nck (.t 14)⟩,
  ⟨some 16, none, .fa 3 (.t 15)⟩,
  ⟨some 17, none, .ld true 2 (.t 16)⟩,
  ⟨none, none, .st 5 (.t 2) (.t 13)⟩,
  ⟨none, none, .st 2 (.t 3) (.t 17)⟩] [0, 0, 2, 6, 14, 1, 63])
  .ret)
  .skip))
  (.seq (.reg [⟨some 18, none, .mv (.t 4)⟩,
  ⟨some 19, none, .mv (.t 4)⟩,
  ⟨some 20, none, .call 67 [(.t 19)]⟩,
  ⟨some 21, none, .call 37 [(.t 18), (.t 20)]⟩,
  ⟨some 22, none, .ex (.t 21) 0⟩,
  ⟨some 23, none, .ex (.t 21) 1⟩,
  ⟨none, none, .st 5 (.t 2) (.t 22)⟩,
  ⟨none, none, .st 2 (.t 3) (.t 23)⟩])
  .ret))))⟩
def ir30_40 : XF := ⟨28, 1, [(2, some (true, 5)), (3, none)], (.seq (.reg [⟨some 1, none, .box 104 5 (.t 0)⟩,
  ⟨some 2, none, .box 82 5 (.c (.ag [(.i .i8 0), (.i .i64 0), (.s []), (.s []), .sln]))⟩,
  ⟨some 3, none, .mv (.c (.i .i64 0))⟩])
  (.seq (.reg [⟨some 8, none, .mkm⟩,
  ⟨none, none, .ins .n (.t 8) (.c (.i .i8 6)) (.c (.i .i8 0))⟩,
  ⟨none, none, .ins .n (.t 8) (.c (.i .i8 7)) (.c (.i .i8 1))⟩,
  ⟨none, none, .ins .n (.t 8) (.c (.i .i8 8)) (.c (.i .i8 6))⟩,
  ⟨none, none, .ins .n (.t 8) (.c (.i .i8 9)) (.c (.i .i8 7))⟩,
  ⟨none, none, .ins .n (.t 8) (.c (.i .i8 10)) (.c (.i .i8 5))⟩,
  ⟨some 9, none, .mv (.t 8)⟩,
  ⟨some 4, none, .box 181 1 (.c .mn)⟩,
  ⟨none, none, .st 1 (.t 4) (.t 9)⟩])
  (.seq (.seq (.reg [⟨some 10, none, .ld true 5 (.t 1)⟩,
  ⟨some 11, none, .call 68 [(.t 10)]⟩,
  ⟨some 12, none, .un .not (.t 11)⟩])
  (.cond (.t 12) (.seq (.reg [⟨some 13, none, .bld [(.i .i8 0), (.i .i64 0), (.s []), (.s []), .sln] []⟩,
  ⟨none, none, .st 5 (.t 2) (.t 13)⟩,
  ⟨some 3, none, .mv (.c (.i .i64 2))⟩])
  .ret)
  .skip))
  (.seq (.reg [⟨some 5, none, .box 4 1 (.c (.b false))⟩,
  ⟨none, none, .st 1 (.t 5) (.c (.b true))⟩])
  (.seq (.reg [⟨some 6, none, .box 183 1 (.c .fn)⟩])
  (.seq (.reg [⟨some 14, none, .mkf (.func 69) [] [(.t 4), (.t 5), (.t 6)]⟩,
  ⟨none, none, .st 1 (.t 6) (.t 14)⟩])
  (.seq (.reg [⟨some 15, none, .ld false 1 (.t 6)⟩,
  ⟨some 16, none, .ld true 5 (.t 1)⟩,
  ⟨some 17, none, .callv (.t 15) [(.t 16)]⟩,
  ⟨some 7, none, .box 82 5 (.c (.ag [(.i .i8 0), (.i .i64 0), (.s []), (.s []), .sln]))⟩,
  ⟨none, none, .st 5 (.t 7) (.t 17)⟩])
  (.seq (.blk 0 (.seq (.reg [⟨some 19, none, .ld false 1 (.t 5)⟩,
  ⟨some 20, none, .un .not (.t 19)⟩,
  ⟨some 18, none, .mv (.t 20)⟩])
  (.cond (.t 18) (.seq (.reg [⟨some 21, none, .bld [(.i .i8 0), (.i .i64 0), (.s []), (.s []), .sln] []⟩,
  ⟨none, none, .st 5 (.t 2) (.t 21)⟩,
  ⟨some 3, none, .mv (.c (.i .i64 2))⟩])
  .ret)
  (.seq (.reg [⟨some 23, none, .ld true 5 (.t 7)⟩,
  ⟨some 24, none, .call 70 [(.t 23)]⟩,
  ⟨some 25, none, .bop .gtr (.t 24) (.c (.i .i64 256))⟩,
  ⟨some 22, none, .mv (.t 25)⟩])
  (.cond (.t 22) (.seq (.reg [⟨some 26, none, .bld [(.i .i8 0), (.i .i64 0), (.s []), (.s []), .sln] []⟩,
  ⟨none, none, .st 5 (.t 2) (.t 26)⟩,
  ⟨some 3, none, .mv (.c (.i .i64 11))⟩])
  .ret)
  .skip)))))
  (.seq (.reg [⟨some 27, none, .ld true 5 (.t 7)⟩,
  ⟨none, none, .st 5 (.t 2) (.t 27)⟩,
  ⟨some 3, none, .mv (.c (.i .i64 0))⟩])
  .ret)))))))))⟩
def ir30_41 : XF := ⟨26, 1, [(2, none)], (.seq (.reg [⟨some 1, none, .box 104 5 (.t 0)⟩,
  ⟨some 2, none, .mv (.c (.i .i64 0))⟩])
  (.seq (.reg [⟨some 3, none, .box 188 1 (.c .fn)⟩,
  ⟨none, none, .st 1 (.t 3) (.c (.f (.func 71) [] []))⟩])
  (.seq (.reg [⟨some 5, none, .mkf (.func 76) [] [(.t 3)]⟩,
  ⟨some 4, none, .mv (.t 5)⟩])
  (.seq (.seq (.reg [⟨some 6, none, .call 77 [(.t 1)]⟩,
  ⟨some 7, none, .call 78 [(.t 6)]⟩,
  ⟨some 8, none, .un .not (.t 7)⟩,
  ⟨some 9, none, .mv (.t 8)⟩,
  ⟨some 10, some (9, false), .fa 0 (.t 1)⟩,
  ⟨some 11, some (9, false), .ld false 1 (.t 10)⟩,
  ⟨some 12, some (9, false), .bop .neq (.t 11) (.c (.i .i8 0))⟩,
  ⟨some 13, none, .pick (.t 9) (.c (.b true)) (.t 12)⟩,
  ⟨some 14, none, .mv (.t 13)⟩,
  ⟨some 15, some (14, false), .bld [(.b false), (.b false), (.b false), (.b false)] [(3, 1, (.c (.b true)))]⟩,
  ⟨some 16, some (14, false), .call 72 [(.t 15), (.t 1)]⟩,
  ⟨some 17, some (14, false), .un .not (.t 16)⟩,
  ⟨some 18, none, .pick (.t 14) (.c (.b true)) (.t 17)⟩,
  ⟨some 19, none, .mv (.t 18)⟩,
  ⟨some 20, some (19, false), .fa 4 (.t 1)⟩,
  ⟨some 21, some (19, false), .ld false 1 (.t 20)⟩,
  ⟨some 22, some (19, false), .mv (.t 4)⟩,
  ⟨some 23, some (19, false), .call 74 [(.t 21), (.t 22)]⟩,
  ⟨some 24, some (19, false), .un .not (.t 23)⟩,
  ⟨some 25, none, .pick (.t 19) (.c (.b true)) (.t 24)⟩])
  (.cond (.t 25) (.seq (.reg [⟨some 2, none, .mv (.c (.i .i64 70))⟩])
  .ret)
  .skip))
  (.seq (.reg [⟨some 2, none, .mv (.c (.i .i64 0))⟩])
  .ret)))))⟩
def ir30_43 : XF := ⟨6, 1, [], (.seq (.reg [⟨some 1, none, .box 195 1 (.t 0)⟩])
  (.reg [⟨some 2, none, .ld false 1 (.t 1)⟩,
  ⟨some 3, none, .mkf (.func 80) [] [(.t 1)]⟩,
  ⟨some 4, none, .mkf (.func 83) [] [(.t 1)]⟩,
  ⟨some 5, none, .call 79 [(.t 2), (.t 3), (.t 4)]⟩]))⟩
def ir30_44 : XF := ⟨5, 1, [], (.seq (.reg [⟨some 1, none, .box 195 1 (.t 0)⟩])
  (.reg [⟨some 2, none, .ld false 1 (.t 1)⟩,
  ⟨some 3, none, .mkf (.func 87) [] [(.t 1)]⟩,
  ⟨some 4, none, .call 79 [(.t 2), (.c (.f (.func 86) [] [])), (.t 3)]⟩]))⟩
def ir30_45 : XF := ⟨5, 1, [], (.seq (.reg [⟨some 1, none, .box 195 1 (.t 0)⟩])
  (.reg [⟨some 2, none, .ld false 1 (.t 1)⟩,
  ⟨some 3, none, .mkf (.func 92) [] [(.t 1)]⟩,
  ⟨some 4, none, .call 79 [(.t 2), (.c (.f (.func 91) [] [])), (.t 3)]⟩]))⟩
def ir30_46 : XF := ⟨47, 1, [(2, none)], (.seq (.reg [⟨some 1, none, .box 104 5 (.t 0)⟩,
  ⟨some 2, none, .mv (.c .pn)⟩])
  (.seq (.reg [⟨some 4, none, .bld [.sln, .sln, .sln, (.s []), .sln, (.i .i64 0), .fn, .fn, .fn, .fn, .fn, .fn, .fn, .fn, .fn, .fn, .fn, .fn, .fn, .fn, .fn, .fn, .fn, .fn, .fn, .fn, .fn, .fn] []⟩,
  ⟨some 5, none, .box 156 28 (.t 4)⟩,
  ⟨some 3, none, .mv (.t 5)⟩])
  (.seq (.reg [⟨some 6, none, .mv (.t 3)⟩,
  ⟨some 7, none, .ld true 5 (.t 1)⟩,
  ⟨some 8, none, .call 96 [(.t 7)]⟩,
  ⟨some 9, none, .nck (.t 6)⟩,
  ⟨some 10, none, .fa 0 (.t 9)⟩,
  ⟨some 11, none, .fa 0 (.t 10)⟩,
  ⟨none, none, .st 1 (.t 11) (.t 8)⟩])
  (.seq (.reg [⟨some 12, none, .mv (.t 3)⟩,
  ⟨some 13, none, .mv (.t 3)⟩,
  ⟨some 14, none, .mkf (.func 97) [(.t 13)] []⟩,
  ⟨some 15, none, .mv (.t 3)⟩,
  ⟨some 16, none, .mkf (.func 97) [(.t 15)] []⟩,
  ⟨some 17, none, .mv (.t 3)⟩,
  ⟨some 18, none, .mkf (.func 97) [(.t 17)] []⟩,
  ⟨some 19, none, .mv (.t 3)⟩,
  ⟨some 20, none, .mkf (.func 97) [(.t 19)] []⟩,
  ⟨some 21, none, .mv (.t 3)⟩,
  ⟨some 22, none, .mkf (.func 97) [(.t 21)] []⟩,
  ⟨some 23, none, .mv (.t 3)⟩,
  ⟨some 24, none, .mkf (.func 98) [(.t 23)] []⟩,
  ⟨some 25, none, .mv (.t 3)⟩,
  ⟨some 26, none, .mkf (.func 98) [(.t 25)] []⟩,
  ⟨some 27, none, .mv (.t 3)⟩,
  ⟨some 28, none, .mkf (.func 98) [(.t 27)] []⟩,
  ⟨some 29, none, .mv (.t 3)⟩,
  ⟨some 30, none, .mkf (.func 98) [(.t 29)] []⟩,
  ⟨some 31, none, .mv (.t 3)⟩,
  ⟨some 32, none, .mkf (.func 99) [(.t 31)] []⟩,
  ⟨some 33, none, .mv (.t 3)⟩,
  ⟨some 34, none, .mkf (.func 99) [(.t 33)] []⟩,
  ⟨some 35, none, .mv (.t 3)⟩,
  ⟨some 36, none, .mkf (.func 100) [(.t 35)] []⟩,
  ⟨some 37, none, .mv (.t 3)⟩,
  ⟨some 38, none, .mkf (.func 101) [(.t 37)] []⟩,
  ⟨some 39, none, .mv (.t 3)⟩,
  ⟨some 40, none, .mkf (.func 102) [(.t 39)] []⟩,
  ⟨some 41, none, .mv (.t 3)⟩,
  ⟨some 42, none, .mkf (.func 103) [(.t 41)] []⟩,
  ⟨some 43, none, .bld [.fn, .fn, .fn, .fn, .fn, .fn, .fn, .fn, .fn, .fn, .fn, .fn, .fn, .fn, .fn, .fn, .fn, .fn, .fn, .fn, .fn, .fn] [(5, 1, (.t 14)), (6, 1, (.t 16)), (7, 1, (.t 18)), (8, 1, (.t 20)), (17, 1, (.t 22)), (10, 1, (.t 24)), (9, 1, (.t 26)), (11, 1, (.t 28)), (16, 1, (.t 30)), (14, 1, (.t 32)), (15, 1, (.t 34)), (13, 1, (.t 36)), (18, 1, (.t 38)), (19, 1, (.t 40)), (20, 1, (.t 42))]⟩,
  ⟨some 44, none, .nck (.t 12)⟩,
  ⟨some 45, none, .fa 6 (.t 44)⟩,
  ⟨none, none, .st 22 (.t 45) (.t 43)⟩])
  (.seq (.reg [⟨some 46, none, .mv (.t 3)⟩,
  ⟨some 2, none, .mv (.t 46)⟩])
  .ret)))))⟩
def ir30_47 : XF := ⟨4, 1, [(2, none)], (.seq (.reg [⟨some 1, none, .box 104 5 (.t 0)⟩,
  ⟨some 2, none, .mv (.c .fn)⟩])
  (.seq (.reg [⟨some 3, none, .mkf (.func 104) [] [(.t 1)]⟩,
  ⟨some 2, none, .mv (.t 3)⟩])
  .ret))⟩
def ir30_49 : XF := ⟨15, 1, [(2, none)], (.seq (.reg [⟨some 1, none, .box 82 5 (.t 0)⟩,
  ⟨some 2, none, .mv (.c (.i .i64 0))⟩])
  (.seq (.reg [⟨some 3, none, .box 3 1 (.c (.i .i64 0))⟩,
  ⟨some 4, none, .box 4 1 (.c (.b false))⟩,
  ⟨none, none, .st 1 (.t 3) (.c (.i .i64 0))⟩,
  ⟨none, none, .st 1 (.t 4) (.c (.b true))⟩])
  (.seq (.reg [⟨some 5, none, .box 215 1 (.c .fn)⟩])
  (.seq (.reg [⟨some 6, none, .mkf (.func 109) [] [(.t 3), (.t 4), (.t 5)]⟩,
  ⟨none, none, .st 1 (.t 5) (.t 6)⟩])
  (.seq (.reg [⟨some 7, none, .ld false 1 (.t 5)⟩,
  ⟨some 8, none, .callv (.t 7) [(.t 1)]⟩])
  (.seq (.blk 0 (.seq (.reg [⟨some 10, none, .ld false 1 (.t 4)⟩,
  ⟨some 11, none, .un .not (.t 10)⟩,
  ⟨some 9, none, .mv (.t 11)⟩])
  (.cond (.t 9) (.seq (.reg [⟨some 2, none, .mv (.c (.i .i64 30))⟩])
  .ret)
  (.seq (.reg [⟨some 13, none, .ld false 1 (.t 3)⟩,
  ⟨some 14, none, .bop .gtr (.t 13) (.c (.i .i64 256))⟩,
  ⟨some 12, none, .mv (.t 14)⟩])
  (.cond (.t 12) (.seq (.reg [⟨some 2, none, .mv (.c (.i .i64 11))⟩])
  .ret)
  .skip)))))
  (.seq (.reg [⟨some 2, none, .mv (.c (.i .i64 0))⟩])
  .ret)))))))⟩
def ir30_50 : XF := ⟨30, 3, [(6, none)], (.seq (.reg [⟨some 6, none, .mv (.c (.b false))⟩])
  (.seq (.reg [⟨some 7, none, .mv (.t 0)⟩,
  ⟨some 8, none, .nck (.t 7)⟩,
  ⟨some 9, none, .fa 0 (.t 8)⟩,
  ⟨some 10, none, .ld false 1 (.t 9)⟩,
  ⟨some 11, none, .bop .eql (.t 10) (.c (.i .i8 5))⟩,
  ⟨some 12, none, .mv (.t 11)⟩,
  ⟨some 13, some (12, true), .mv (.t 0)⟩,
  ⟨some 14, some (12, true), .nck (.t 13)⟩,
  ⟨some 15, some (12, true), .fa 4 (.t 14)⟩,
  ⟨some 16, some (12, true), .ld false 1 (.t 15)⟩,
  ⟨some 17, some (12, true), .len 1 (.t 16)⟩,
  ⟨some 18, some (12, true), .mv (.t 2)⟩,
  ⟨some 19, some (12, true), .bop .eql (.t 17) (.t 18)⟩,
  ⟨some 20, none, .pick (.t 12) (.t 19) (.c (.b false))⟩,
  ⟨some 21, none, .mv (.t 20)⟩,
  ⟨some 22, some (21, true), .mv (.t 0)⟩,
  ⟨some 23, some (21, true), .nck (.t 22)⟩,
  ⟨some 24, some (21, true), .fa 4 (.t 23)⟩,
  ⟨some 25, some (21, true), .ld false 1 (.t 24)⟩,
  ⟨some 26, some (21, true), .ia 5 (.t 25) (.c (.i .i64 0))⟩,
  ⟨some 27, some (21, true), .mv (.t 1)⟩,
  ⟨some 28, some (21, true), .call 111 [(.t 26), (.t 27)]⟩,
  ⟨some 29, none, .pick (.t 21) (.t 28) (.c (.b false))⟩,
  ⟨some 6, none, .mv (.t 29)⟩])
  .ret))⟩
def ir30_51 : XF := ⟨29, 2, [(4, some (true, 4)), (5, none), (6, none)], (.seq (.reg [⟨some 2, none, .box 82 5 (.t 0)⟩,
  ⟨some 3, none, .box 82 5 (.t 1)⟩,
  ⟨some 4, none, .box 51 4 (.c (.ag [(.i .i8 0), (.i .i64 0), (.i .i64 0), .sln]))⟩,
  ⟨some 5, none, .mv (.c (.i .i64 0))⟩,
  ⟨some 6, none, .mv (.c (.i .i64 0))⟩])
  (.seq (.seq (.reg [⟨some 8, none, .ld true 5 (.t 2)⟩,
  ⟨some 9, none, .call 49 [(.t 8)]⟩,
  ⟨some 10, none, .bop .neq (.t 9) (.c (.i .i64 0))⟩,
  ⟨some 11, none, .mv (.t 10)⟩,
  ⟨some 12, some (11, false), .ld true 5 (.t 3)⟩,
  ⟨some 13, some (11, false), .call 49 [(.t 12)]⟩,
  ⟨some 14, some (11, false), .bop .neq (.t 13) (.c (.i .i64 0))⟩,
  ⟨some 15, none, .pick (.t 11) (.c (.b true)) (.t 14)⟩])
  (.cond (.t 15) (.seq (.reg [⟨some 16, none, .ld true 4 (.t 4)⟩,
  ⟨none, none, .st 4 (.t 4) (.t 16)⟩,
  ⟨some 5, none, .mv (.c (.i .i64 0))⟩,
  ⟨some 6, none, .mv (.c (.i .i64 2))⟩])
  .ret)
  .skip))
  (.seq (.reg [⟨some 18, none, .call 112 [(.t 2), (.t 3), (.c (.i .i64 1))]⟩,
  ⟨some 17, none, .mv (.t 18)⟩,
  ⟨some 19, none, .ex (.t 17) 0⟩,
  ⟨some 20, none, .ex (.t 17) 1⟩,
  ⟨none, none, .st 4 (.t 4) (.t 19)⟩,
  ⟨some 7, none, .mv (.t 20)⟩])
  (.seq (.reg [⟨some 22, none, .mv (.t 7)⟩,
  ⟨some 23, none, .call 113 [(.t 22)]⟩,
  ⟨some 21, none, .mv (.t 23)⟩,
  ⟨some 24, none, .ex (.t 21) 0⟩,
  ⟨some 25, none, .ex (.t 21) 1⟩,
  ⟨some 5, none, .mv (.t 24)⟩,
  ⟨some 6, none, .mv (.t 25)⟩])
  (.seq (.reg [⟨some 26, none, .ld true 4 (.t 4)⟩,
  ⟨some 27, none, .mv (.t 5)⟩,
  ⟨some 28, none, .mv (.t 6)⟩,
  ⟨none, none, .st 4 (.t 4) (.t 26)⟩,
  ⟨some 5, none, .mv (.t 27)⟩,
  ⟨some 6, none, .mv (.t 28)⟩])
  .ret)))))⟩
def ir30_52 : XF := ⟨26, 1, [(2, some (true, 5)), (3, some (true, 5)), (4, none)], (.seq (.reg [⟨some 1, none, .box 51 4 (.t 0)⟩,
  ⟨some 2, none, .box 82 5 (.c (.ag [(.i .i8 0), (.i .i64 0), (.s []), (.s []), .sln]))⟩,
  ⟨some 3, none, .box 82 5 (.c (.ag [(.i .i8 0), (.i .i64 0), (.s []), (.s []), .sln]))⟩,
  ⟨some 4, none, .mv (.c (.i .i64 0))⟩])
  (.seq (.reg [⟨some 5, none, .box 222 1 (.c (.ag [(.b false)]))⟩])
  (.seq (.reg [⟨some 10, none, .call 114 [(.t 5), (.t 1), (.c (.i .i64 1))]⟩,
  ⟨some 9, none, .mv (.t 10)⟩,
  ⟨some 11, none, .ex (.t 9) 0⟩,
  ⟨some 12, none, .ex (.t 9) 1⟩,
  ⟨some 13, none, .ex (.t 9) 2⟩,
  ⟨some 6, none, .box 82 5 (.c (.ag [(.i .i8 0), (.i .i64 0), (.s []), (.s []), .sln]))⟩,
  ⟨some 7, none, .box 82 5 (.c (.ag [(.i .i8 0), (.i .i64 0), (.s []), (.s []), .sln]))⟩,
  ⟨none, none, .st 5 (.t 6) (.t 11)⟩,
  ⟨none, none, .st 5 (.t 7) (.t 12)⟩,
  ⟨some 8, none, .mv (.t 13)⟩])
  (.seq (.blk 0 (.seq (.reg [⟨some 15, none, .mv (.t 8)⟩,
  ⟨some 16, none, .un .not (.t 15)⟩,
  ⟨some 14, none, .mv (.t 16)⟩])
  (.cond (.t 14) (.seq (.par [⟨some 17, none, .ld true 5 (.t 2)⟩,
  ⟨some 18, none, .ld true 5 (.t 3)⟩,
  ⟨none, none, .st 5 (.t 2) (.t 17)⟩,
  ⟨none, none, .st 5 (.t 3) (.t 18)⟩,
  ⟨some 4, none, .mv (.c (.i .i64 2))⟩] [0, 0, 1, 7, 15])
  .ret)
  (.seq (.reg [⟨some 20, none, .fa 0 (.t 5)⟩,
  ⟨some 21, none, .ld false 1 (.t 20)⟩,
  ⟨some 19, none, .mv (.t 21)⟩])
  (.cond (.t 19) (.seq (.par [⟨some 22, none, .ld true 5 (.t 2)⟩,
  ⟨some 23, none, .ld true 5 (.t 3)⟩,
  ⟨none, none, .st 5 (.t 2) (.t 22)⟩,
  ⟨none, none, .st 5 (.t 3) (.t 23)⟩,
  ⟨some 4, none, .mv (.c (.i .i64 11))⟩] [0, 0, 1, 7, 15])
  .ret)
  .skip)))))
  (.seq (.par [⟨some 24, none, .ld true 5 (.t 6)⟩,
  ⟨some 25, none, .ld true 5 (.t 7)⟩,
  ⟨none, none, .st 5 (.t 2) (.t 24)⟩,
  ⟨none, none, .st 5 (.t 3) (.t 25)⟩,
  ⟨some 4, none, .mv (.c (.i .i64 0))⟩] [0, 0, 1, 7, 15])
  .ret)))))⟩
def ir30_53 : XF := ⟨6, 1, [(2, none)], (.seq (.reg [⟨some 2, none, .mv (.c .fn)⟩])
  (.seq (.reg [⟨some 3, none, .box 24 2 (.c (.ag [(.i .i64 0), (.i .i64 0)]))⟩])
  (.seq (.reg [⟨some 4, none, .mv (.t 0)⟩,
  ⟨some 5, none, .call 66 [(.t 4), (.t 3)]⟩,
  ⟨some 2, none, .mv (.t 5)⟩])
  .ret)))⟩
def ir30_58 : XF := ⟨18, 2, [(4, none)], (.seq (.reg [⟨some 4, none, .mv (.c (.b false))⟩])
  (.seq (.reg [⟨some 6, none, .mv (.t 0)⟩,
  ⟨some 7, none, .mv (.t 1)⟩,
  ⟨some 8, none, .call 35 [(.t 6), (.t 7)]⟩,
  ⟨some 5, none, .mv (.t 8)⟩])
  (.seq (.seq (.reg [⟨some 9, none, .mv (.t 5)⟩])
  (.cond (.t 9) (.reg [⟨some 10, none, .mv (.t 0)⟩,
  ⟨some 11, none, .nck (.t 10)⟩,
  ⟨some 12, none, .fa 1 (.t 11)⟩,
  ⟨some 13, none, .ld false 1 (.t 12)⟩,
  ⟨some 14, none, .bop .add (.t 13) (.c (.i .i64 1))⟩,
  ⟨some 15, none, .nck (.t 10)⟩,
  ⟨some 16, none, .fa 1 (.t 15)⟩,
  ⟨none, none, .st 1 (.t 16) (.t 14)⟩])
  .skip))
  (.seq (.reg [⟨some 17, none, .mv (.t 5)⟩,
  ⟨some 4, none, .mv (.t 17)⟩])
  .ret))))⟩
def ir30_59 : XF := ⟨26, 2, [(4, some (true, 4))], (.seq (.reg [⟨some 4, none, .box 127 4 (.c (.ag [(.i .i8 0), (.i .i64 0), (.s []), (.i .i64 0)]))⟩])
  (.seq (.seq (.reg [⟨some 5, none, .mv (.t 0)⟩,
  ⟨some 6, none, .call 36 [(.t 5)]⟩,
  ⟨none, none, .st 4 (.t 4) (.t 6)⟩])
  (.seq (.reg [⟨some 7, none, .fa 0 (.t 4)⟩,
  ⟨some 8, none, .ld false 1 (.t 7)⟩,
  ⟨some 9, none, .mv (.t 1)⟩,
  ⟨some 10, none, .bop .neq (.t 8) (.t 9)⟩,
  ⟨some 11, none, .mv (.t 10)⟩,
  ⟨some 12, some (11, false), .mv (.t 0)⟩,
  ⟨some 13, some (11, false), .call 60 [(.t 12)]⟩,
  ⟨some 14, none, .pick (.t 11) (.c (.b true)) (.t 13)⟩])
  (.cond (.t 14) (.seq (.reg [⟨some 15, none, .mv (.t 0)⟩,
  ⟨some 16, none, .call 63 [(.t 15)]⟩])
  (.seq (.reg [⟨some 17, none, .bld [(.i .i8 0), (.i .i64 0), (.s []), (.i .i64 0)] []⟩,
  ⟨none, none, .st 4 (.t 4) (.t 17)⟩])
  .ret))
  .skip)))
  (.seq (.reg [⟨some 18, none, .mv (.t 0)⟩,
  ⟨some 19, none, .nck (.t 18)⟩,
  ⟨some 20, none, .fa 1 (.t 19)⟩,
  ⟨some 21, none, .ld false 1 (.t 20)⟩,
  ⟨some 22, none, .bop .add (.t 21) (.c (.i .i64 1))⟩,
  ⟨some 23, none, .nck (.t 18)⟩,
  ⟨some 24, none, .fa 1 (.t 23)⟩,
  ⟨none, none, .st 1 (.t 24) (.t 22)⟩])
  (.seq (.reg [⟨some 25, none, .ld true 4 (.t 4)⟩,
  ⟨none, none, .st 4 (.t 4) (.t 25)⟩])
  .ret))))⟩
def ir30_60 : XF := ⟨9, 1, [(2, none)], (.seq (.reg [⟨some 2, none, .mv (.c (.b false))⟩])
  (.seq (.reg [⟨some 3, none, .mv (.t 0)⟩,
  ⟨some 4, none, .nck (.t 3)⟩,
  ⟨some 5, none, .fa 5 (.t 4)⟩,
  ⟨some 6, none, .fa 0 (.t 5)⟩,
  ⟨some 7, none, .ld false 1 (.t 6)⟩,
  ⟨some 8, none, .bop .neq (.t 7) (.c (.i .i64 0))⟩,
  ⟨some 2, none, .mv (.t 8)⟩])
  .ret))⟩
def ir30_64 : XF := ⟨10, 1, [(2, none), (3, none)], (.seq (.reg [⟨some 1, none, .box 104 5 (.t 0)⟩,
  ⟨some 2, none, .mv (.c (.i .i64 0))⟩,
  ⟨some 3, none, .mv (.c (.i .i64 0))⟩])
  (.seq (.reg [⟨some 5, none, .call 77 [(.t 1)]⟩,
  ⟨some 4, none, .box 193 2 (.c (.ag [(.i .i64 0), (.i .i64 0)]))⟩,
  ⟨none, none, .st 2 (.t 4) (.t 5)⟩])
  (.seq (.par [⟨some 6, none, .fa 0 (.t 4)⟩,
  ⟨some 7, none, .ld false 1 (.t 6)⟩,
  ⟨some 8, none, .fa 1 (.t 4)⟩,
  ⟨some 9, none, .ld false 1 (.t 8)⟩,
  ⟨some 2, none, .mv (.t 7)⟩,
  ⟨some 3, none, .mv (.t 9)⟩] [0, 1, 0, 4, 3, 31])
  .ret)))⟩
def ir30_66 : XF := ⟨6, 2, [(4, none)], (.seq (.reg [⟨some 2, none, .box 9 1 (.t 0)⟩,
  ⟨some 3, none, .box 180 1 (.t 1)⟩,
  ⟨some 4, none, .mv (.c .fn)⟩])
  (.seq (.reg [⟨some 5, none, .mkf (.func 123) [] [(.t 2), (.t 3)]⟩,
  ⟨some 4, none, .mv (.t 5)⟩])
  .ret))⟩
def ir30_67 : XF := ⟨5, 1, [(2, some (true, 5))], (.seq (.reg [⟨some 2, none, .box 104 5 (.c (.ag [(.i .i8 0), (.i .i64 0), (.s []), (.s []), .sln]))⟩])
  (.seq (.reg [⟨some 3, none, .mv (.t 0)⟩,
  ⟨some 4, none, .call 126 [(.t 3), (.c (.i .i64 2))]⟩,
  ⟨none, none, .st 5 (.t 2) (.t 4)⟩])
  .ret))⟩
def ir30_68 : XF := ⟨8, 1, [(2, none)], (.seq (.reg [⟨some 1, none, .box 104 5 (.t 0)⟩,
  ⟨some 2, none, .mv (.c (.b false))⟩])
  (.seq (.reg [⟨some 3, none, .call 77 [(.t 1)]⟩,
  ⟨some 4, none, .call 78 [(.t 3)]⟩,
  ⟨some 5, none, .mv (.t 4)⟩,
  ⟨some 6, some (5, true), .call 127 [(.t 1)]⟩,
  ⟨some 7, none, .pick (.t 5) (.t 6) (.c (.b false))⟩,
  ⟨some 2, none, .mv (.t 7)⟩])
  .ret))⟩
def ir30_69 : XF := ⟨45, 4, [(5, some (true, 5))], (.seq (.reg [⟨some 4, none, .box 104 5 (.t 0)⟩,
  ⟨some 5, none, .box 82 5 (.c (.ag [(.i .i8 0), (.i .i64 0), (.s []), (.s []), .sln]))⟩])
  (.seq (.reg [⟨some 12, none, .ld false 1 (.t 1)⟩,
  ⟨some 13, none, .fa 0 (.t 4)⟩,
  ⟨some 14, none, .ld false 1 (.t 13)⟩,
  ⟨some 15, none, .lk .n true (.i .i8 0) (.t 12) (.t 14)⟩,
  ⟨some 11, none, .mv (.t 15)⟩,
  ⟨some 16, none, .ex (.t 11) 0⟩,
  ⟨some 17, none, .ex (.t 11) 1⟩,
  ⟨some 6, none, .mv (.t 16)⟩,
  ⟨some 7, none, .mv (.t 17)⟩])
  (.seq (.reg [⟨some 18, none, .ld false 1 (.t 2)⟩,
  ⟨some 19, none, .mv (.t 18)⟩,
  ⟨some 20, some (19, true), .mv (.t 7)⟩,
  ⟨some 21, none, .pick (.t 19) (.t 20) (.c (.b false))⟩,
  ⟨none, none, .st 1 (.t 2) (.t 21)⟩])
  (.seq (.reg [⟨some 22, none, .mv (.t 6)⟩,
  ⟨some 23, none, .fa 1 (.t 4)⟩,
  ⟨some 24, none, .ld false 1 (.t 23)⟩,
  ⟨some 25, none, .fa 2 (.t 4)⟩,
  ⟨some 26, none, .ld false 1 (.t 25)⟩,
  ⟨some 27, none, .bld [(.i .i8 0), (.i .i64 0), (.s []), (.s []), .sln] [(0, 1, (.t 22)), (1, 1, (.t 24)), (2, 1, (.t 26))]⟩,
  ⟨some 8, none, .box 82 5 (.c (.ag [(.i .i8 0), (.i .i64 0), (.s []), (.s []), .sln]))⟩,
  ⟨none, none, .st 5 (.t 8) (.t 27)⟩])
  (.seq (.seq (.reg [⟨some 28, none, .fa 4 (.t 4)⟩,
  ⟨some 29, none, .ld false 1 (.t 28)⟩,
  ⟨some 30, none, .len 1 (.t 29)⟩,
  ⟨some 31, none, .mv (.c (.i .i64 0))⟩])
  (.blk 0 (.loop (.seq (.reg [⟨some 32, none, .bop .lss (.t 31) (.t 30)⟩])
  (.seq (.cond (.t 32) .skip
  (.exit 0))
  (.seq (.blk 1 (.seq (.reg [⟨some 33, none, .ia 5 (.t 29) (.t 31)⟩,
  ⟨some 34, none, .ld true 5 (.t 33)⟩,
  ⟨some 10, none, .box 104 5 (.c (.ag [(.i .i8 0), (.i .i64 0), (.s []), (.s []), .sln]))⟩,
  ⟨none, none, .st 5 (.t 10) (.t 34)⟩])
  (.par [⟨some 35, none, .fa 4 (.t 8)⟩,
  ⟨some 36, none, .ld false 1 (.t 35)⟩,
  ⟨some 37, none, .ld false 1 (.t 3)⟩,
  ⟨some 38, none, .ld true 5 (.t 10)⟩,
  ⟨some 39, none, .callv (.t 37) [(.t 38)]⟩,
  ⟨some 40, none, .bls 82 5 1 [(.i .i8 0), (.i .i64 0), (.s []), (.s []), .sln] [(0, 5, (.t 39))]⟩,
  ⟨some 41, none, .app 82 5 (.t 36) (.t 40)⟩,
  ⟨some 42, none, .fa 4 (.t 8)⟩,
  ⟨none, none, .st 1 (.t 42) (.t 41)⟩] [0, 1, 0, 0, 12, 28, 63, 127, 255])))
  (.reg [⟨some 43, none, .bop .add (.t 31) (.c (.i .i64 1))⟩,
  ⟨some 31, none, .mv (.t 43)⟩])))))))
  (.seq (.reg [⟨some 44, none, .ld true 5 (.t 8)⟩,
  ⟨none, none, .st 5 (.t 5) (.t 44)⟩])
  .ret))))))⟩
def ir30_70 : XF := ⟨9, 1, [(2, none)], (.seq (.reg [⟨some 1, none, .box 82 5 (.t 0)⟩,
  ⟨some 2, none, .mv (.c (.i .i64 0))⟩])
  (.seq (.reg [⟨some 3, none, .box 3 1 (.c (.i .i64 0))⟩,
  ⟨none, none, .st 1 (.t 3) (.c (.i .i64 0))⟩])
  (.seq (.reg [⟨some 4, none, .box 215 1 (.c .fn)⟩])
  (.seq (.reg [⟨some 5, none, .mkf (.func 128) [] [(.t 3), (.t 4)]⟩,
  ⟨none, none, .st 1 (.t 4) (.t 5)⟩])
  (.seq (.reg [⟨some 6, none, .ld false 1 (.t 4)⟩,
  ⟨some 7, none, .callv (.t 6) [(.t 1)]⟩])
  (.seq (.reg [⟨some 8, none, .ld false 1 (.t 3)⟩,
  ⟨some 2, none, .mv (.t 8)⟩])
  .ret))))))⟩
def ir30_72 : XF := ⟨48, 2, [(4, none)], (.seq (.reg [⟨some 2, none, .box 187 4 (.t 0)⟩,
  ⟨some 4, none, .mv (.c (.b false))⟩])
  (.seq (.reg [⟨some 5, none, .fa 0 (.t 2)⟩,
  ⟨some 6, none, .ld false 1 (.t 5)⟩,
  ⟨some 7, none, .mv (.t 6)⟩,
  ⟨some 8, some (7, false), .mv (.t 1)⟩,
  ⟨some 9, some (7, false), .nck (.t 8)⟩,
  ⟨some 10, some (7, false), .fa 1 (.t 9)⟩,
  ⟨some 11, some (7, false), .ld false 1 (.t 10)⟩,
  ⟨some 12, some (7, false), .bop .eql (.t 11) (.c (.i .i64 0))⟩,
  ⟨some 13, none, .pick (.t 7) (.c (.b true)) (.t 12)⟩,
  ⟨some 14, none, .mv (.t 13)⟩,
  ⟨some 15, some (14, true), .fa 1 (.t 2)⟩,
  ⟨some 16, some (14, true), .ld false 1 (.t 15)⟩,
  ⟨some 17, some (14, true), .mv (.t 16)⟩,
  ⟨some 18, some (17, false), .mv (.t 1)⟩,
  ⟨some 19, some (17, false), .nck (.t 18)⟩,
  ⟨some 20, some (17, false), .fa 2 (.t 19)⟩,
  ⟨some 21, some (17, false), .ld false 1 (.t 20)⟩,
  ⟨some 22, some (17, false), .bop .eql (.t 21) (.c (.s []))⟩,
  ⟨some 23, some (14, true), .pick (.t 17) (.c (.b true)) (.t 22)⟩,
  ⟨some 24, none, .pick (.t 14) (.t 23) (.c (.b false))⟩,
  ⟨some 25, none, .mv (.t 24)⟩,
  ⟨some 26, some (25, true), .fa 2 (.t 2)⟩,
  ⟨some 27, some (25, true), .ld false 1 (.t 26)⟩,
  ⟨some 28, some (25, true), .mv (.t 27)⟩,
  ⟨some 29, some (28, false), .mv (.t 1)⟩,
  ⟨some 30, some (28, false), .nck (.t 29)⟩,
  ⟨some 31, some (28, false), .fa 3 (.t 30)⟩,
  ⟨some 32, some (28, false), .ld false 1 (.t 31)⟩,
  ⟨some 33, some (28, false), .bop .eql (.t 32) (.c (.s []))⟩,
  ⟨some 34, some (25, true), .pick (.t 28) (.c (.b true)) (.t 33)⟩,
  ⟨some 35, none, .pick (.t 25) (.t 34) (.c (.b false))⟩,
  ⟨some 36, none, .mv (.t 35)⟩,
  ⟨some 37, some (36, true), .fa 3 (.t 2)⟩,
  ⟨some 38, some (36, true), .ld false 1 (.t 37)⟩,
  ⟨some 39, some (36, true), .mv (.t 38)⟩,
  ⟨some 40, some (39, false), .mv (.t 1)⟩,
  ⟨some 41, some (39, false), .nck (.t 40)⟩,
  ⟨some 42, some (39, false), .fa 4 (.t 41)⟩,
  ⟨some 43, some (39, false), .ld false 1 (.t 42)⟩,
  ⟨some 44, some (39, false), .len 1 (.t 43)⟩,
  ⟨some 45, some (39, false), .bop .eql (.t 44) (.c (.i .i64 0))⟩,
  ⟨some 46, some (36, true), .pick (.t 39) (.c (.b true)) (.t 45)⟩,
  ⟨some 47, none, .pick (.t 36) (.t 46) (.c (.b false))⟩,
  ⟨some 4, none, .mv (.t 47)⟩])
  .ret))⟩
def ir30_73 : XF := ⟨13, 1, [(2, none)], (.seq (.reg [⟨some 2, none, .mv (.c (.b false))⟩])
  (.seq (.reg [⟨some 4, none, .bls 9 1 13 [(.s []), (.s []), (.s []), (.s []), (.s []), (.s []), (.s []), (.s []), (.s []), (.s []), (.s []), (.s []), (.s [])] [(0, 1, (.c (.s [97, 102, 116, 101, 114]))), (1, 1, (.c (.s [99, 97, 115, 101]))), (2, 1, (.c (.s [99, 97, 116, 99, 104]))), (3, 1, (.c (.s [99, 111, 110, 102, 105, 103]))), (4, 1, (.c (.s [100, 105, 118]))), (5, 1, (.c (.s [101, 110, 100]))), (6, 1, (.c (.s [102, 117, 110]))), (7, 1, (.c (.s [109, 111, 100, 117, 108, 101]))), (8, 1, (.c (.s [111, 102]))), (9, 1, (.c (.s [114, 101, 99, 101, 105, 118, 101]))), (10, 1, (.c (.s [114, 101, 109]))), (11, 1, (.c (.s [116, 114, 121]))), (12, 1, (.c (.s [119, 104, 101, 110])))]⟩,
  ⟨some 3, none, .mv (.t 4)⟩])
  (.seq (.reg [⟨some 5, none, .mv (.t 0)⟩,
  ⟨some 6, none, .call 129 [(.t 5)]⟩,
  ⟨some 7, none, .mv (.t 6)⟩,
  ⟨some 8, some (7, true), .mv (.t 3)⟩,
  ⟨some 9, some (7, true), .mv (.t 0)⟩,
  ⟨some 10, some (7, true), .call 130 [(.t 8), (.t 9)]⟩,
  ⟨some 11, some (7, true), .un .not (.t 10)⟩,
  ⟨some 12, none, .pick (.t 7) (.t 11) (.c (.b false))⟩,
  ⟨some 2, none, .mv (.t 12)⟩])
  .ret)))⟩
def ir30_74 : XF := ⟨18, 2, [(4, none)], (.seq (.reg [⟨some 4, none, .mv (.c (.b false))⟩])
  (.seq (.seq (.reg [⟨some 6, none, .mv (.t 0)⟩,
  ⟨some 7, none, .len 1 (.t 6)⟩,
  ⟨some 8, none, .mv (.c (.i .i64 0))⟩])
  (.blk 0 (.loop (.seq (.reg [⟨some 9, none, .bop .lss (.t 8) (.t 7)⟩])
  (.seq (.cond (.t 9) .skip
  (.exit 0))
  (.seq (.blk 1 (.seq (.reg [⟨some 10, none, .mv (.t 8)⟩,
  ⟨some 5, none, .mv (.t 10)⟩])
  (.seq (.reg [⟨some 11, none, .mv (.t 1)⟩,
  ⟨some 12, none, .mv (.t 0)⟩,
  ⟨some 13, none, .mv (.t 5)⟩,
  ⟨some 14, none, .ia 5 (.t 12) (.t 13)⟩,
  ⟨some 15, none, .callv (.t 11) [(.t 14)]⟩,
  ⟨some 16, none, .un .not (.t 15)⟩])
  (.cond (.t 16) (.seq (.reg [⟨some 4, none, .mv (.c (.b false))⟩])
  .ret)
  .skip))))
  (.reg [⟨some 17, none, .bop .add (.t 8) (.c (.i .i64 1))⟩,
  ⟨some 8, none, .mv (.t 17)⟩])))))))
  (.seq (.reg [⟨some 4, none, .mv (.c (.b true))⟩])
  .ret)))⟩
def ir30_77 : XF := ⟨17, 1, [(2, some (true, 2))], (.seq (.reg [⟨some 2, none, .box 193 2 (.c (.ag [(.i .i64 0), (.i .i64 0)]))⟩])
  (.seq (.reg [⟨some 6, none, .bld [(.i .i64 0), (.i .i64 0)] []⟩,
  ⟨some 3, none, .box 193 2 (.c (.ag [(.i .i64 0), (.i .i64 0)]))⟩,
  ⟨none, none, .st 2 (.t 3) (.t 6)⟩])
  (.seq (.reg [⟨some 4, none, .box 205 1 (.c .fn)⟩])
  (.seq (.reg [⟨some 7, none, .mkf (.func 134) [] [(.t 3), (.t 4)]⟩,
  ⟨none, none, .st 1 (.t 4) (.t 7)⟩])
  (.seq (.reg [⟨some 8, none, .ld false 1 (.t 4)⟩,
  ⟨some 9, none, .mv (.t 0)⟩,
  ⟨some 10, none, .callv (.t 8) [(.t 9)]⟩])
  (.seq (.reg [⟨some 5, none, .box 237 1 (.c .fn)⟩])
  (.seq (.reg [⟨some 11, none, .mkf (.func 135) [] [(.t 5)]⟩,
  ⟨none, none, .st 1 (.t 5) (.t 11)⟩])
  (.seq (.reg [⟨some 12, none, .ld false 1 (.t 5)⟩,
  ⟨some 13, none, .mv (.t 0)⟩,
  ⟨some 14, none, .callv (.t 12) [(.t 13), (.c (.i .i64 65))]⟩,
  ⟨some 15, none, .fa 1 (.t 3)⟩,
  ⟨none, none, .st 1 (.t 15) (.t 14)⟩])
  (.seq (.reg [⟨some 16, none, .ld true 2 (.t 3)⟩,
  ⟨none, none, .st 2 (.t 2) (.t 16)⟩])
  .ret)))))))))⟩
def ir30_78 : XF := ⟨11, 1, [(2, none)], (.seq (.reg [⟨some 1, none, .box 193 2 (.t 0)⟩,
  ⟨some 2, none, .mv (.c (.b false))⟩])
  (.seq (.reg [⟨some 3, none, .fa 0 (.t 1)⟩,
  ⟨some 4, none, .ld false 1 (.t 3)⟩,
  ⟨some 5, none, .bop .leq (.t 4) (.c (.i .i64 4096))⟩,
  ⟨some 6, none, .mv (.t 5)⟩,
  ⟨some 7, some (6, true), .fa 1 (.t 1)⟩,
  ⟨some 8, some (6, true), .ld false 1 (.t 7)⟩,
  ⟨some 9, some (6, true), .bop .leq (.t 8) (.c (.i .i64 64))⟩,
  ⟨some 10, none, .pick (.t 6) (.t 9) (.c (.b false))⟩,
  ⟨some 2, none, .mv (.t 10)⟩])
  .ret))⟩
def ir30_79 : XF := ⟨60, 3, [], (.seq (.reg [⟨some 6, none, .mv (.c (.i .i64 1))⟩])
  (.seq (.reg [⟨some 10, none, .mv (.t 0)⟩,
  ⟨some 11, none, .nck (.t 10)⟩,
  ⟨some 12, none, .fa 0 (.t 11)⟩,
  ⟨some 13, none, .ld false 1 (.t 12)⟩,
  ⟨some 14, none, .nck (.t 13)⟩,
  ⟨some 15, none, .fa 4 (.t 14)⟩,
  ⟨some 16, none, .ld false 1 (.t 15)⟩,
  ⟨some 17, none, .len 1 (.t 16)⟩,
  ⟨some 18, none, .mv (.c (.i .i64 0))⟩])
  (.blk 0 (.loop (.seq (.reg [⟨some 19, none, .bop .lss (.t 18) (.t 17)⟩])
  (.seq (.cond (.t 19) .skip
  (.exit 0))
  (.seq (.blk 1 (.seq (.reg [⟨some 20, none, .mv (.t 18)⟩,
  ⟨some 7, none, .mv (.t 20)⟩])
  (.seq (.reg [⟨some 21, none, .mv (.t 1)⟩,
  ⟨some 22, none, .mv (.t 7)⟩,
  ⟨some 23, none, .mv (.t 6)⟩,
  ⟨some 24, none, .callv (.t 21) [(.t 22), (.t 23)]⟩])
  (.seq (.reg [⟨some 25, none, .mv (.t 0)⟩,
  ⟨some 26, none, .nck (.t 25)⟩,
  ⟨some 27, none, .fa 0 (.t 26)⟩,
  ⟨some 28, none, .ld false 1 (.t 27)⟩,
  ⟨some 29, none, .nck (.t 28)⟩,
  ⟨some 30, none, .fa 4 (.t 29)⟩,
  ⟨some 31, none, .ld false 1 (.t 30)⟩,
  ⟨some 32, none, .mv (.t 7)⟩,
  ⟨some 33, none, .ia 5 (.t 31) (.t 32)⟩,
  ⟨some 8, none, .mv (.t 33)⟩])
  (.seq (.reg [⟨some 34, none, .mv (.t 6)⟩,
  ⟨some 35, none, .bop .add (.t 34) (.c (.i .i64 1))⟩,
  ⟨some 6, none, .mv (.t 35)⟩])
  (.seq (.reg [⟨some 36, none, .mv (.t 8)⟩,
  ⟨some 37, none, .nck (.t 36)⟩,
  ⟨some 38, none, .fa 4 (.t 37)⟩,
  ⟨some 39, none, .ld false 1 (.t 38)⟩,
  ⟨some 40, none, .len 1 (.t 39)⟩,
  ⟨some 41, none, .mv (.c (.i .i64 0))⟩])
  (.blk 2 (.loop (.seq (.reg [⟨some 42, none, .bop .lss (.t 41) (.t 40)⟩])
  (.seq (.cond (.t 42) .skip
  (.exit 2))
  (.seq (.blk 3 (.seq (.reg [⟨some 43, none, .mv (.t 41)⟩,
  ⟨some 9, none, .mv (.t 43)⟩])
  (.seq (.reg [⟨some 44, none, .mv (.t 2)⟩,
  ⟨some 45, none, .mv (.t 8)⟩,
  ⟨some 46, none, .mv (.t 9)⟩,
  ⟨some 47, none, .mv (.t 6)⟩,
  ⟨some 48, none, .callv (.t 44) [(.t 45), (.t 46), (.t 47)]⟩])
  (.reg [⟨some 49, none, .mv (.t 6)⟩,
  ⟨some 50, none, .mv (.t 8)⟩,
  ⟨some 51, none, .nck (.t 50)⟩,
  ⟨some 52, none, .fa 4 (.t 51)⟩,
  ⟨some 53, none, .ld false 1 (.t 52)⟩,
  ⟨some 54, none, .mv (.t 9)⟩,
  ⟨some 55, none, .ia 5 (.t 53) (.t 54)⟩,
  ⟨some 56, none, .call 90 [(.t 55)]⟩,
  ⟨some 57, none, .bop .add (.t 49) (.t 56)⟩,
  ⟨some 6, none, .mv (.t 57)⟩]))))
  (.reg [⟨some 58, none, .bop .add (.t 41) (.c (.i .i64 1))⟩,
  ⟨some 41, none, .mv (.t 58)⟩]))))))))))))
  (.reg [⟨some 59, none, .bop .add (.t 18) (.c (.i .i64 1))⟩,
  ⟨some 18, none, .mv (.t 59)⟩]))))))))⟩
def ir30_96 : XF := ⟨38, 1, [(2, none)], (.seq (.reg [⟨some 1, none, .box 104 5 (.t 0)⟩,
  ⟨some 2, none, .mv (.c .sln)⟩])
  (.seq (.reg [⟨some 3, none, .mv (.c .sln)⟩])
  (.seq (.seq (.reg [⟨some 8, none, .ld true 5 (.t 1)⟩,
  ⟨some 9, none, .call 41 [(.t 8)]⟩,
  ⟨some 10, none, .bop .eql (.t 9) (.c (.i .i64 0))⟩])
  (.cond (.t 10) (.seq (.reg [⟨some 11, none, .fa 4 (.t 1)⟩,
  ⟨some 12, none, .ld false 1 (.t 11)⟩,
  ⟨some 13, none, .len 1 (.t 12)⟩,
  ⟨some 14, none, .mv (.c (.i .i64 0))⟩])
  (.blk 0 (.loop (.seq (.reg [⟨some 15, none, .bop .lss (.t 14) (.t 13)⟩])
  (.seq (.cond (.t 15) .skip
  (.exit 0))
  (.seq (.blk 1 (.seq (.reg [⟨some 16, none, .ia 5 (.t 12) (.t 14)⟩,
  ⟨some 17, none, .ld true 5 (.t 16)⟩,
  ⟨some 5, none, .box 104 5 (.c (.ag [(.i .i8 0), (.i .i64 0), (.s []), (.s []), .sln]))⟩,
  ⟨none, none, .st 5 (.t 5) (.t 17)⟩])
  (.seq (.reg [⟨some 18, none, .fa 4 (.t 5)⟩,
  ⟨some 19, none, .ld false 1 (.t 18)⟩,
  ⟨some 20, none, .len 1 (.t 19)⟩,
  ⟨some 21, none, .mv (.c (.i .i64 0))⟩])
  (.blk 2 (.loop (.seq (.reg [⟨some 22, none, .bop .lss (.t 21) (.t 20)⟩])
  (.seq (.cond (.t 22) .skip
  (.exit 2))
  (.seq (.blk 3 (.seq (.reg [⟨some 23, none, .ia 5 (.t 19) (.t 21)⟩,
  ⟨some 24, none, .ld true 5 (.t 23)⟩,
  ⟨some 7, none, .box 104 5 (.c (.ag [(.i .i8 0), (.i .i64 0), (.s []), (.s []), .sln]))⟩,
  ⟨none, none, .st 5 (.t 7) (.t 24)⟩])
  (.reg [⟨some 25, none, .mv (.t 3)⟩,
  ⟨some 26, none, .fa 2 (.t 5)⟩,
  ⟨some 27, none, .ld false 1 (.t 26)⟩,
  ⟨some 28, none, .fa 2 (.t 7)⟩,
  ⟨some 29, none, .ld false 1 (.t 28)⟩,
  ⟨some 30, none, .fa 1 (.t 7)⟩,
  ⟨some 31, none, .ld false 1 (.t 30)⟩,
  ⟨some 32, none, .bld [(.s []), (.s []), (.i .i64 0), (.i .i64 0), (.i .i64 0)] [(0, 1, (.t 27)), (1, 1, (.t 29)), (2, 1, (.t 31))]⟩,
  ⟨some 33, none, .bls 158 5 1 [(.s []), (.s []), (.i .i64 0), (.i .i64 0), (.i .i64 0)] [(0, 5, (.t 32))]⟩,
  ⟨some 34, none, .app 158 5 (.t 25) (.t 33)⟩,
  ⟨some 3, none, .mv (.t 34)⟩])))
  (.reg [⟨some 35, none, .bop .add (.t 21) (.c (.i .i64 1))⟩,
  ⟨some 21, none, .mv (.t 35)⟩])))))))))
  (.reg [⟨some 36, none, .bop .add (.t 14) (.c (.i .i64 1))⟩,
  ⟨some 14, none, .mv (.t 36)⟩])))))))
  .skip))
  (.seq (.reg [⟨some 37, none, .mv (.t 3)⟩,
  ⟨some 2, none, .mv (.t 37)⟩])
  .ret))))⟩
def ir30_104 : XF := ⟨33, 2, [], (.seq (.reg [⟨some 3, none, .mv (.c (.i .i64 0))⟩])
  (.seq (.reg [⟨some 8, none, .fa 4 (.t 1)⟩,
  ⟨some 9, none, .ld false 1 (.t 8)⟩,
  ⟨some 10, none, .len 1 (.t 9)⟩,
  ⟨some 11, none, .mv (.c (.i .i64 0))⟩])
  (.blk 0 (.loop (.seq (.reg [⟨some 12, none, .bop .lss (.t 11) (.t 10)⟩])
  (.seq (.cond (.t 12) .skip
  (.exit 0))
  (.seq (.blk 1 (.seq (.reg [⟨some 13, none, .ia 5 (.t 9) (.t 11)⟩,
  ⟨some 14, none, .ld true 5 (.t 13)⟩,
  ⟨some 5, none, .box 104 5 (.c (.ag [(.i .i8 0), (.i .i64 0), (.s []), (.s []), .sln]))⟩,
  ⟨none, none, .st 5 (.t 5) (.t 14)⟩])
  (.seq (.reg [⟨some 15, none, .fa 4 (.t 5)⟩,
  ⟨some 16, none, .ld false 1 (.t 15)⟩,
  ⟨some 17, none, .len 1 (.t 16)⟩,
  ⟨some 18, none, .mv (.c (.i .i64 0))⟩])
  (.blk 2 (.loop (.seq (.reg [⟨some 19, none, .bop .lss (.t 18) (.t 17)⟩])
  (.seq (.cond (.t 19) .skip
  (.exit 2))
  (.seq (.blk 3 (.seq (.reg [⟨some 20, none, .ia 5 (.t 16) (.t 18)⟩,
  ⟨some 21, none, .ld true 5 (.t 20)⟩,
  ⟨some 7, none, .box 104 5 (.c (.ag [(.i .i8 0), (.i .i64 0), (.s []), (.s []), .sln]))⟩,
  ⟨none, none, .st 5 (.t 7) (.t 21)⟩])
  (.seq (.seq (.reg [⟨some 22, none, .mv (.t 0)⟩,
  ⟨some 23, none, .mv (.t 3)⟩,
  ⟨some 24, none, .ld true 5 (.t 5)⟩,
  ⟨some 25, none, .ld true 5 (.t 7)⟩,
  ⟨some 26, none, .bld [(.i .i8 0), (.i .i64 0), (.s []), (.s []), .sln, (.i .i8 0), (.i .i64 0), (.s []), (.s []), .sln] [(0, 5, (.t 24)), (5, 5, (.t 25))]⟩,
  ⟨some 27, none, .callv (.t 22) [(.t 23), (.t 26)]⟩,
  ⟨some 28, none, .un .not (.t 27)⟩])
  (.cond (.t 28) .ret
  .skip))
  (.reg [⟨some 29, none, .mv (.t 3)⟩,
  ⟨some 30, none, .bop .add (.t 29) (.c (.i .i64 1))⟩,
  ⟨some 3, none, .mv (.t 30)⟩]))))
  (.reg [⟨some 31, none, .bop .add (.t 18) (.c (.i .i64 1))⟩,
  ⟨some 18, none, .mv (.t 31)⟩])))))))))
  (.reg [⟨some 32, none, .bop .add (.t 11) (.c (.i .i64 1))⟩,
  ⟨some 11, none, .mv (.t 32)⟩]))))))))⟩
def ir30_109 : XF := ⟨36, 4, [], (.seq (.reg [⟨some 6, none, .ld false 1 (.t 1)⟩,
  ⟨some 7, none, .bop .add (.t 6) (.c (.i .i64 1))⟩,
  ⟨none, none, .st 1 (.t 1) (.t 7)⟩])
  (.seq (.reg [⟨some 8, none, .ld false 1 (.t 2)⟩,
  ⟨some 9, none, .mv (.t 8)⟩,
  ⟨some 10, some (9, true), .mv (.t 0)⟩,
  ⟨some 11, some (9, true), .call 110 [(.t 10)]⟩,
  ⟨some 12, none, .pick (.t 9) (.t 11) (.c (.b false))⟩,
  ⟨none, none, .st 1 (.t 2) (.t 12)⟩])
  (.seq (.reg [⟨some 13, none, .mv (.t 0)⟩,
  ⟨some 14, none, .nck (.t 13)⟩,
  ⟨some 15, none, .fa 4 (.t 14)⟩,
  ⟨some 16, none, .ld false 1 (.t 15)⟩,
  ⟨some 17, none, .len 1 (.t 16)⟩,
  ⟨some 18, none, .mv (.c (.i .i64 0))⟩])
  (.blk 0 (.loop (.seq (.reg [⟨some 19, none, .bop .lss (.t 18) (.t 17)⟩])
  (.seq (.cond (.t 19) .skip
  (.exit 0))
  (.seq (.blk 1 (.seq (.reg [⟨some 20, none, .mv (.t 18)⟩,
  ⟨some 5, none, .mv (.t 20)⟩])
  (.seq (.seq (.reg [⟨some 21, none, .ld false 1 (.t 1)⟩,
  ⟨some 22, none, .bop .gtr (.t 21) (.c (.i .i64 256))⟩,
  ⟨some 23, none, .mv (.t 22)⟩,
  ⟨some 24, some (23, false), .ld false 1 (.t 2)⟩,
  ⟨some 25, some (23, false), .un .not (.t 24)⟩,
  ⟨some 26, none, .pick (.t 23) (.c (.b true)) (.t 25)⟩])
  (.cond (.t 26) .ret
  .skip))
  (.par [⟨some 27, none, .ld false 1 (.t 3)⟩,
  ⟨some 28, none, .mv (.t 0)⟩,
  ⟨some 29, none, .nck (.t 28)⟩,
  ⟨some 30, none, .fa 4 (.t 29)⟩,
  ⟨some 31, none, .ld false 1 (.t 30)⟩,
  ⟨some 32, none, .mv (.t 5)⟩,
  ⟨some 33, none, .ia 5 (.t 31) (.t 32)⟩,
  ⟨some 34, none, .callv (.t 27) [(.t 33)]⟩] [0, 0, 2, 6, 14, 0, 62, 127]))))
  (.reg [⟨some 35, none, .bop .add (.t 18) (.c (.i .i64 1))⟩,
  ⟨some 18, none, .mv (.t 35)⟩])))))))))⟩
def ir30_110 : XF := ⟨68, 1, [(2, none)], (.seq (.reg [⟨some 2, none, .mv (.c (.b false))⟩])
  (.seq (.seq (.reg [⟨some 8, none, .mv (.t 0)⟩,
  ⟨some 9, none, .call 160 [(.t 8)]⟩])
  (.blk 0 (.seq (.reg [⟨some 10, none, .ta true 262 (.ag [(.i .i64 0)]) (.t 9)⟩,
  ⟨some 11, none, .ex (.t 10) 1⟩,
  ⟨some 12, none, .ex (.t 10) 0⟩])
  (.cond (.t 11) (.seq (.reg [⟨some 3, none, .box 262 1 (.c (.ag [(.i .i64 0)]))⟩,
  ⟨none, none, .st 1 (.t 3) (.t 12)⟩])
  (.seq (.reg [⟨some 13, none, .fa 0 (.t 3)⟩,
  ⟨some 14, none, .ld false 1 (.t 13)⟩,
  ⟨some 15, none, .call 161 [(.t 14)]⟩,
  ⟨some 2, none, .mv (.t 15)⟩])
  .ret))
  (.seq (.reg [⟨some 16, none, .ta true 264 (.ag [(.i .i64 0)]) (.t 9)⟩,
  ⟨some 17, none, .ex (.t 16) 1⟩,
  ⟨some 18, none, .ex (.t 16) 0⟩])
  (.cond (.t 17) (.seq (.reg [⟨some 4, none, .box 264 1 (.c (.ag [(.i .i64 0)]))⟩,
  ⟨none, none, .st 1 (.t 4) (.t 18)⟩])
  (.seq (.reg [⟨some 19, none, .fa 0 (.t 4)⟩,
  ⟨some 20, none, .ld false 1 (.t 19)⟩,
  ⟨some 21, none, .bop .geq (.t 20) (.c (.i .i64 0))⟩,
  ⟨some 22, none, .mv (.t 21)⟩,
  ⟨some 23, some (22, true), .fa 0 (.t 4)⟩,
  ⟨some 24, some (22, true), .ld false 1 (.t 23)⟩,
  ⟨some 25, some (22, true), .bop .leq (.t 24) (.c (.i .i64 576460752303423487))⟩,
  ⟨some 26, none, .pick (.t 22) (.t 25) (.c (.b false))⟩,
  ⟨some 2, none, .mv (.t 26)⟩])
  .ret))
  (.seq (.reg [⟨some 27, none, .ta true 266 (.ag [(.s [])]) (.t 9)⟩,
  ⟨some 28, none, .ex (.t 27) 1⟩,
  ⟨some 29, none, .ex (.t 27) 0⟩])
  (.cond (.t 28) (.seq (.reg [⟨some 5, none, .box 266 1 (.c (.ag [(.s [])]))⟩,
  ⟨none, none, .st 1 (.t 5) (.t 29)⟩])
  (.seq (.reg [⟨some 30, none, .fa 0 (.t 5)⟩,
  ⟨some 31, none, .ld false 1 (.t 30)⟩,
  ⟨some 32, none, .call 129 [(.t 31)]⟩,
  ⟨some 2, none, .mv (.t 32)⟩])
  .ret))
  (.seq (.reg [⟨some 33, none, .ta true 268 (.ag [(.s []), (.s []), (.i .i64 0)]) (.t 9)⟩,
  ⟨some 34, none, .ex (.t 33) 1⟩,
  ⟨some 35, none, .ex (.t 33) 0⟩])
  (.cond (.t 34) (.seq (.reg [⟨some 6, none, .box 268 3 (.c (.ag [(.s []), (.s []), (.i .i64 0)]))⟩,
  ⟨none, none, .st 3 (.t 6) (.t 35)⟩])
  (.seq (.reg [⟨some 36, none, .fa 0 (.t 6)⟩,
  ⟨some 37, none, .ld false 1 (.t 36)⟩,
  ⟨some 38, none, .call 129 [(.t 37)]⟩,
  ⟨some 39, none, .mv (.t 38)⟩,
  ⟨some 40, some (39, true), .fa 1 (.t 6)⟩,
  ⟨some 41, some (39, true), .ld false 1 (.t 40)⟩,
  ⟨some 42, some (39, true), .call 129 [(.t 41)]⟩,
  ⟨some 43, none, .pick (.t 39) (.t 42) (.c (.b false))⟩,
  ⟨some 44, none, .mv (.t 43)⟩,
  ⟨some 45, some (44, true), .fa 2 (.t 6)⟩,
  ⟨some 46, some (44, true), .ld false 1 (.t 45)⟩,
  ⟨some 47, some (44, true), .bop .geq (.t 46) (.c (.i .i64 0))⟩,
  ⟨some 48, none, .pick (.t 44) (.t 47) (.c (.b false))⟩,
  ⟨some 49, none, .mv (.t 48)⟩,
  ⟨some 50, some (49, true), .fa 2 (.t 6)⟩,
  ⟨some 51, some (49, true), .ld false 1 (.t 50)⟩,
  ⟨some 52, some (49, true), .bop .leq (.t 51) (.c (.i .i64 8))⟩,
  ⟨some 53, none, .pick (.t 49) (.t 52) (.c (.b false))⟩,
  ⟨some 2, none, .mv (.t 53)⟩])
  .ret))
  (.seq (.reg [⟨some 54, none, .ta true 270 (.ag [.sln, (.i .i64 0)]) (.t 9)⟩,
  ⟨some 55, none, .ex (.t 54) 1⟩,
  ⟨some 56, none, .ex (.t 54) 0⟩])
  (.cond (.t 55) (.seq (.reg [⟨some 7, none, .box 270 2 (.c (.ag [.sln, (.i .i64 0)]))⟩,
  ⟨none, none, .st 2 (.t 7) (.t 56)⟩])
  (.seq (.reg [⟨some 57, none, .fa 1 (.t 7)⟩,
  ⟨some 58, none, .ld false 1 (.t 57)⟩,
  ⟨some 59, none, .bop .lss (.t 58) (.c (.i .i64 0))⟩,
  ⟨some 60, none, .mv (.t 59)⟩,
  ⟨some 61, some (60, false), .fa 0 (.t 7)⟩,
  ⟨some 62, some (60, false), .ld false 1 (.t 61)⟩,
  ⟨some 63, some (60, false), .len 1 (.t 62)⟩,
  ⟨some 64, some (60, false), .fa 1 (.t 7)⟩,
  ⟨some 65, some (60, false), .ld false 1 (.t 64)⟩,
  ⟨some 66, some (60, false), .bop .eql (.t 63) (.t 65)⟩,
  ⟨some 67, none, .pick (.t 60) (.c (.b true)) (.t 66)⟩,
  ⟨some 2, none, .mv (.t 67)⟩])
  .ret))
  .skip))))))))))))
  (.seq (.reg [⟨some 2, none, .mv (.c (.b false))⟩])
  .ret)))⟩
def ir30_111 : XF := ⟨18, 2, [(4, none)], (.seq (.reg [⟨some 4, none, .mv (.c (.b false))⟩])
  (.seq (.reg [⟨some 5, none, .mv (.t 0)⟩,
  ⟨some 6, none, .nck (.t 5)⟩,
  ⟨some 7, none, .fa 0 (.t 6)⟩,
  ⟨some 8, none, .ld false 1 (.t 7)⟩,
  ⟨some 9, none, .bop .eql (.t 8) (.c (.i .i8 1))⟩,
  ⟨some 10, none, .mv (.t 9)⟩,
  ⟨some 11, some (10, true), .mv (.t 0)⟩,
  ⟨some 12, some (10, true), .nck (.t 11)⟩,
  ⟨some 13, some (10, true), .fa 2 (.t 12)⟩,
  ⟨some 14, some (10, true), .ld false 1 (.t 13)⟩,
  ⟨some 15, some (10, true), .mv (.t 1)⟩,
  ⟨some 16, some (10, true), .bop .eql (.t 14) (.t 15)⟩,
  ⟨some 17, none, .pick (.t 10) (.t 16) (.c (.b false))⟩,
  ⟨some 4, none, .mv (.t 17)⟩])
  .ret))⟩
def ir30_112 : XF := ⟨32, 3, [(6, some (true, 4)), (7, none)], (.seq (.reg [⟨some 3, none, .box 165 1 (.t 0)⟩,
  ⟨some 4, none, .box 165 1 (.t 1)⟩,
  ⟨some 5, none, .box 3 1 (.t 2)⟩,
  ⟨some 6, none, .box 51 4 (.c (.ag [(.i .i8 0), (.i .i64 0), (.i .i64 0), .sln]))⟩,
  ⟨some 7, none, .mv (.c .ifn)⟩])
  (.seq (.reg [⟨some 8, none, .mv (.c (.f (.func 162) [] []))⟩])
  (.seq (.reg [⟨some 9, none, .box 80 1 (.c .sln)⟩])
  (.seq (.reg [⟨some 10, none, .mkf (.func 166) [] [(.t 3)]⟩,
  ⟨some 11, none, .call 163 [(.c (.i .i64 1)), (.t 10)]⟩,
  ⟨some 12, none, .mkf (.func 167) [] [(.t 3), (.t 6)]⟩,
  ⟨some 13, none, .call 163 [(.c (.i .i64 2)), (.t 12)]⟩,
  ⟨some 14, none, .mv (.t 8)⟩,
  ⟨some 15, none, .mkf (.func 169) [] [(.t 3)]⟩,
  ⟨some 16, none, .callv (.t 14) [(.c (.i .i64 3)), (.t 15), (.c (.i .i64 0)), (.c (.i .i64 1000))]⟩,
  ⟨some 17, none, .mv (.t 8)⟩,
  ⟨some 18, none, .mkf (.func 170) [] [(.t 3)]⟩,
  ⟨some 19, none, .callv (.t 17) [(.c (.i .i64 4)), (.t 18), (.c (.i .i64 1)), (.c (.i .i64 1073741824))]⟩,
  ⟨some 20, none, .mkf (.func 171) [] [(.t 3), (.t 6), (.t 4), (.t 9)]⟩,
  ⟨some 21, none, .call 163 [(.c (.i .i64 5)), (.t 20)]⟩,
  ⟨some 22, none, .mkf (.func 173) [] [(.t 9), (.t 5), (.t 6)]⟩,
  ⟨some 23, none, .mkf (.func 178) [] [(.t 6), (.t 9)]⟩,
  ⟨some 24, none, .call 163 [(.c (.i .i64 7)), (.t 23)]⟩,
  ⟨some 25, none, .bls 272 1 7 [.fn, .fn, .fn, .fn, .fn, .fn, .fn] [(0, 1, (.t 11)), (1, 1, (.t 13)), (2, 1, (.t 16)), (3, 1, (.t 19)), (4, 1, (.t 21)), (5, 1, (.t 22)), (6, 1, (.t 24))]⟩,
  ⟨some 26, none, .call 165 [(.t 25)]⟩,
  ⟨some 7, none, .mv (.t 26)⟩])
  (.seq (.seq (.reg [⟨some 27, none, .mv (.t 7)⟩,
  ⟨some 28, none, .eq 4 true true (.t 27) (.c .ifn)⟩])
  (.cond (.t 28) (.seq (.reg [⟨some 29, none, .bld [(.i .i8 0), (.i .i64 0), (.i .i64 0), .sln] []⟩,
  ⟨some 30, none, .mv (.t 7)⟩,
  ⟨none, none, .st 4 (.t 6) (.t 29)⟩,
  ⟨some 7, none, .mv (.t 30)⟩])
  .ret)
  .skip))
  (.seq (.reg [⟨some 31, none, .ld true 4 (.t 6)⟩,
  ⟨none, none, .st 4 (.t 6) (.t 31)⟩,
  ⟨some 7, none, .mv (.c .ifn)⟩])
  .ret))))))⟩
def ir30_113 : XF := ⟨16, 1, [(2, none), (3, none)], (.seq (.reg [⟨some 2, none, .mv (.c (.i .i64 0))⟩,
  ⟨some 3, none, .mv (.c (.i .i64 0))⟩])
  (.seq (.reg [⟨some 4, none, .box 279 1 (.c .pn)⟩])
  (.seq (.seq (.reg [⟨some 5, none, .mv (.t 0)⟩,
  ⟨some 6, none, .mki 287 (.t 4)⟩,
  ⟨some 7, none, .call 7 [(.t 5), (.t 6)]⟩])
  (.cond (.t 7) (.seq (.par [⟨some 8, none, .ld false 1 (.t 4)⟩,
  ⟨some 9, none, .nck (.t 8)⟩,
  ⟨some 10, none, .fa 0 (.t 9)⟩,
  ⟨some 11, none, .ld false 1 (.t 10)⟩,
  ⟨some 12, none, .ld false 1 (.t 4)⟩,
  ⟨some 13, none, .nck (.t 12)⟩,
  ⟨some 14, none, .fa 1 (.t 13)⟩,
  ⟨some 15, none, .ld false 1 (.t 14)⟩,
  ⟨some 2, none, .mv (.t 11)⟩,
  ⟨some 3, none, .mv (.t 15)⟩] [0, 1, 3, 7, 0, 16, 48, 112, 15, 511])
  .ret)
  .skip))
  (.seq (.reg [⟨some 2, none, .mv (.c (.i .i64 0))⟩,
  ⟨some 3, none, .mv (.c (.i .i64 0))⟩])
  .ret))))⟩
def ir30_114 : XF := ⟨153, 3, [(6, some (true, 5)), (7, some (true, 5)), (8, none)], (.seq (.reg [⟨some 6, none, .box 82 5 (.c (.ag [(.i .i8 0), (.i .i64 0), (.s []), (.s []), .sln]))⟩,
  ⟨some 7, none, .box 82 5 (.c (.ag [(.i .i8 0), (.i .i64 0), (.s []), (.s []), .sln]))⟩,
  ⟨some 8, none, .mv (.c (.b false))⟩])
  (.seq (.reg [⟨some 15, none, .call 179 []⟩,
  ⟨some 16, none, .lk .s false .sln (.t 15) (.c (.s [115, 116, 114, 97, 116, 101, 103, 121]))⟩,
  ⟨some 9, none, .mv (.t 16)⟩])
  (.seq (.seq (.reg [⟨some 17, none, .mv (.t 1)⟩,
  ⟨some 18, none, .nck (.t 17)⟩,
  ⟨some 19, none, .fa 0 (.t 18)⟩,
  ⟨some 20, none, .ld false 1 (.t 19)⟩,
  ⟨some 21, none, .bop .lss (.t 20) (.c (.i .i8 0))⟩,
  ⟨some 22, none, .mv (.t 21)⟩,
  ⟨some 23, some (22, false), .mv (.t 1)⟩,
  ⟨some 24, some (22, false), .nck (.t 23)⟩,
  ⟨some 25, some (22, false), .fa 0 (.t 24)⟩,
  ⟨some 26, some (22, false), .ld false 1 (.t 25)⟩,
  ⟨some 27, some (22, false), .cvi .i64 (.t 26)⟩,
  ⟨some 28, some (22, false), .mv (.t 9)⟩,
  ⟨some 29, some (22, false), .len 1 (.t 28)⟩,
  ⟨some 30, some (22, false), .bop .geq (.t 27) (.t 29)⟩,
  ⟨some 31, none, .pick (.t 22) (.c (.b true)) (.t 30)⟩,
  ⟨some 32, none, .mv (.t 31)⟩,
  ⟨some 33, some (32, false), .mv (.t 1)⟩,
  ⟨some 34, some (32, false), .nck (.t 33)⟩,
  ⟨some 35, some (32, false), .fa 1 (.t 34)⟩,
  ⟨some 36, some (32, false), .ld false 1 (.t 35)⟩,
  ⟨some 37, some (32, false), .bop .lss (.t 36) (.c (.i .i64 0))⟩,
  ⟨some 38, none, .pick (.t 32) (.c (.b true)) (.t 37)⟩,
  ⟨some 39, none, .mv (.t 38)⟩,
  ⟨some 40, some (39, false), .mv (.t 1)⟩,
  ⟨some 41, some (39, false), .nck (.t 40)⟩,
  ⟨some 42, some (39, false), .fa 1 (.t 41)⟩,
  ⟨some 43, some (39, false), .ld false 1 (.t 42)⟩,
  ⟨some 44, some (39, false), .bop .gtr (.t 43) (.c (.i .i64 1000))⟩,
  ⟨some 45, none, .pick (.t 39) (.c (.b true)) (.t 44)⟩,
  ⟨some 46, none, .mv (.t 45)⟩,
  ⟨some 47, some (46, false), .mv (.t 1)⟩,
  ⟨some 48, some (46, false), .nck (.t 47)⟩,
  ⟨some 49, some (46, false), .fa 2 (.t 48)⟩,
  ⟨some 50, some (46, false), .ld false 1 (.t 49)⟩,
  ⟨some 51, some (46, false), .bop .lss (.t 50) (.c (.i .i64 1))⟩,
  ⟨some 52, none, .pick (.t 46) (.c (.b true)) (.t 51)⟩,
  ⟨some 53, none, .mv (.t 52)⟩,
  ⟨some 54, some (53, false), .mv (.t 1)⟩,
  ⟨some 55, some (53, false), .nck (.t 54)⟩,
  ⟨some 56, some (53, false), .fa 2 (.t 55)⟩,
  ⟨some 57, some (53, false), .ld false 1 (.t 56)⟩,
  ⟨some 58, some (53, false), .bop .gtr (.t 57) (.c (.i .i64 1073741824))⟩,
  ⟨some 59, none, .pick (.t 53) (.c (.b true)) (.t 58)⟩,
  ⟨some 60, none, .mv (.t 59)⟩,
  ⟨some 61, some (60, false), .mv (.t 1)⟩,
  ⟨some 62, some (60, false), .nck (.t 61)⟩,
  ⟨some 63, some (60, false), .fa 3 (.t 62)⟩,
  ⟨some 64, some (60, false), .ld false 1 (.t 63)⟩,
  ⟨some 65, some (60, false), .len 1 (.t 64)⟩,
  ⟨some 66, some (60, false), .bop .gtr (.t 65) (.c (.i .i64 16))⟩,
  ⟨some 67, none, .pick (.t 60) (.c (.b true)) (.t 66)⟩,
  ⟨some 68, none, .mv (.t 67)⟩,
  ⟨some 69, some (68, false), .mv (.t 2)⟩,
  ⟨some 70, some (68, false), .bop .gtr (.t 69) (.c (.i .i64 6))⟩,
  ⟨some 71, none, .pick (.t 68) (.c (.b true)) (.t 70)⟩,
  ⟨some 72, none, .mv (.t 71)⟩,
  ⟨some 73, some (72, false), .mv (.t 1)⟩,
  ⟨some 74, some (72, false), .nck (.t 73)⟩,
  ⟨some 75, some (72, false), .fa 0 (.t 74)⟩,
  ⟨some 76, some (72, false), .ld false 1 (.t 75)⟩,
  ⟨some 77, some (72, false), .bop .eql (.t 76) (.c (.i .i8 3))⟩,
  ⟨some 78, some (72, false), .mv (.t 77)⟩,
  ⟨some 79, some (78, true), .mv (.t 1)⟩,
  ⟨some 80, some (78, true), .nck (.t 79)⟩,
  ⟨some 81, some (78, true), .fa 3 (.t 80)⟩,
  ⟨some 82, some (78, true), .ld false 1 (.t 81)⟩,
  ⟨some 83, some (78, true), .len 1 (.t 82)⟩,
  ⟨some 84, some (78, true), .bop .neq (.t 83) (.c (.i .i64 1))⟩,
  ⟨some 85, some (72, false), .pick (.t 78) (.t 84) (.c (.b false))⟩,
  ⟨some 86, none, .pick (.t 72) (.c (.b true)) (.t 85)⟩])
  (.cond (.t 86) (.seq (.par [⟨some 87, none, .ld true 5 (.t 6)⟩,
  ⟨some 88, none, .ld true 5 (.t 7)⟩,
  ⟨none, none, .st 5 (.t 6) (.t 87)⟩,
  ⟨none, none, .st 5 (.t 7) (.t 88)⟩,
  ⟨some 8, none, .mv (.c (.b false))⟩] [0, 0, 1, 7, 15])
  .ret)
  .skip))
  (.seq (.reg [⟨some 10, none, .mv (.c .sln)⟩])
  (.seq (.seq (.reg [⟨some 89, none, .mv (.t 1)⟩,
  ⟨some 90, none, .nck (.t 89)⟩,
  ⟨some 91, none, .fa 3 (.t 90)⟩,
  ⟨some 92, none, .ld false 1 (.t 91)⟩,
  ⟨some 93, none, .len 1 (.t 92)⟩,
  ⟨some 94, none, .mv (.c (.i .i64 0))⟩])
  (.blk 0 (.loop (.seq (.reg [⟨some 95, none, .bop .lss (.t 94) (.t 93)⟩])
  (.seq (.cond (.t 95) .skip
  (.exit 0))
  (.seq (.blk 1 (.seq (.reg [⟨some 96, none, .mv (.t 94)⟩,
  ⟨some 11, none, .mv (.t 96)⟩])
  (.seq (.reg [⟨some 97, none, .mv (.t 1)⟩,
  ⟨some 98, none, .nck (.t 97)⟩,
  ⟨some 99, none, .fa 3 (.t 98)⟩,
  ⟨some 100, none, .ld false 1 (.t 99)⟩,
  ⟨some 101, none, .mv (.t 11)⟩,
  ⟨some 102, none, .ia 12 (.t 100) (.t 101)⟩,
  ⟨some 12, none, .box 291 1 (.c .pn)⟩,
  ⟨none, none, .st 1 (.t 12) (.t 102)⟩])
  (.seq (.reg [⟨some 104, none, .mv (.t 0)⟩,
  ⟨some 105, none, .ld false 1 (.t 12)⟩,
  ⟨some 106, none, .mv (.t 2)⟩,
  ⟨some 107, none, .call 180 [(.t 104), (.t 105), (.t 106)]⟩,
  ⟨some 103, none, .mv (.t 107)⟩,
  ⟨some 108, none, .ex (.t 103) 0⟩,
  ⟨some 109, none, .ex (.t 103) 1⟩,
  ⟨some 13, none, .box 82 5 (.c (.ag [(.i .i8 0), (.i .i64 0), (.s []), (.s []), .sln]))⟩,
  ⟨none, none, .st 5 (.t 13) (.t 108)⟩,
  ⟨some 14, none, .mv (.t 109)⟩])
  (.seq (.seq (.reg [⟨some 110, none, .mv (.t 14)⟩,
  ⟨some 111, none, .un .not (.t 110)⟩,
  ⟨some 112, none, .mv (.t 111)⟩,
  ⟨some 113, some (112, false), .mv (.t 1)⟩,
  ⟨some 114, some (112, false), .nck (.t 113)⟩,
  ⟨some 115, some (112, false), .fa 3 (.t 114)⟩,
  ⟨some 116, some (112, false), .ld false 1 (.t 115)⟩,
  ⟨some 117, some (112, false), .mv (.t 11)⟩,
  ⟨some 118, some (112, false), .slc 12 (.t 116) none (some (.t 117)) none⟩,
  ⟨some 119, some (112, false), .mkf (.func 181) [] [(.t 12)]⟩,
  ⟨some 120, some (112, false), .call 175 [(.t 118), (.t 119)]⟩,
  ⟨some 121, none, .pick (.t 112) (.c (.b true)) (.t 120)⟩])
  (.cond (.t 121) (.seq (.par [⟨some 122, none, .ld true 5 (.t 6)⟩,
  ⟨some 123, none, .ld true 5 (.t 7)⟩,
  ⟨none, none, .st 5 (.t 6) (.t 122)⟩,
  ⟨none, none, .st 5 (.t 7) (.t 123)⟩,
  ⟨some 8, none, .mv (.c (.b false))⟩] [0, 0, 1, 7, 15])
  .ret)
  .skip))
  (.reg [⟨some 124, none, .mv (.t 10)⟩,
  ⟨some 125, none, .ld true 5 (.t 13)⟩,
  ⟨some 126, none, .bls 82 5 1 [(.i .i8 0), (.i .i64 0), (.s []), (.s []), .sln] [(0, 5, (.t 125))]⟩,
  ⟨some 127, none, .app 82 5 (.t 124) (.t 126)⟩,
  ⟨some 10, none, .mv (.t 127)⟩]))))))
  (.reg [⟨some 128, none, .bop .add (.t 94) (.c (.i .i64 1))⟩,
  ⟨some 94, none, .mv (.t 128)⟩])))))))
  (.seq (.par [⟨some 129, none, .mv (.t 0)⟩,
  ⟨some 130, none, .mv (.t 9)⟩,
  ⟨some 131, none, .mv (.t 1)⟩,
  ⟨some 132, none, .nck (.t 131)⟩,
  ⟨some 133, none, .fa 0 (.t 132)⟩,
  ⟨some 134, none, .ld false 1 (.t 133)⟩,
  ⟨some 135, none, .ia 1 (.t 130) (.t 134)⟩,
  ⟨some 136, none, .ld false 1 (.t 135)⟩,
  ⟨some 137, none, .call 183 [(.t 136)]⟩,
  ⟨some 138, none, .mv (.t 1)⟩,
  ⟨some 139, none, .nck (.t 138)⟩,
  ⟨some 140, none, .fa 1 (.t 139)⟩,
  ⟨some 141, none, .ld false 1 (.t 140)⟩,
  ⟨some 142, none, .bld [(.i .i8 0), (.i .i64 0), (.s []), (.s []), .sln] [(1, 1, (.t 141))]⟩,
  ⟨some 143, none, .mv (.t 1)⟩,
  ⟨some 144, none, .nck (.t 143)⟩,
  ⟨some 145, none, .fa 2 (.t 144)⟩,
  ⟨some 146, none, .ld false 1 (.t 145)⟩,
  ⟨some 147, none, .bld [(.i .i8 0), (.i .i64 0), (.s []), (.s []), .sln] [(1, 1, (.t 146))]⟩,
  ⟨some 148, none, .bls 82 5 3 [(.i .i8 0), (.i .i64 0), (.s []), (.s []), .sln, (.i .i8 0), (.i .i64 0), (.s []), (.s []), .sln, (.i .i8 0), (.i .i64 0), (.s []), (.s []), .sln] [(0, 5, (.t 137)), (5, 5, (.t 142)), (10, 5, (.t 147))]⟩,
  ⟨some 149, none, .call 182 [(.t 129), (.t 148)]⟩,
  ⟨some 150, none, .mv (.t 0)⟩,
  ⟨some 151, none, .mv (.t 10)⟩,
  ⟨some 152, none, .call 184 [(.t 150), (.t 151)]⟩,
  ⟨none, none, .st 5 (.t 6) (.t 149)⟩,
  ⟨none, none, .st 5 (.t 7) (.t 152)⟩,
  ⟨some 8, none, .mv (.c (.b true))⟩] [0, 0, 0, 4, 12, 28, 62, 126, 254, 0, 512, 1536, 3584, 7680, 0, 16384, 49152, 114688, 245760, 524286, 1048575, 0, 0, 8388607, 16777215, 33554431, 67108863])
  .ret))))))⟩
def ir30_115 : XF := ⟨10, 2, [], (.seq (.reg [⟨some 4, none, .mv (.t 0)⟩,
  ⟨some 5, none, .mv (.t 1)⟩,
  ⟨some 6, none, .call 58 [(.t 4), (.t 5)]⟩,
  ⟨some 7, none, .un .not (.t 6)⟩])
  (.cond (.t 7) (.reg [⟨some 8, none, .mv (.t 0)⟩,
  ⟨some 9, none, .call 63 [(.t 8)]⟩])
  .skip))⟩
def ir30_116 : XF := ⟨27, 2, [(4, none)], (.seq (.reg [⟨some 4, none, .mv (.c (.i .i64 0))⟩])
  (.seq (.reg [⟨some 6, none, .mv (.t 0)⟩,
  ⟨some 7, none, .call 59 [(.t 6), (.c (.i .i8 2))]⟩,
  ⟨some 5, none, .box 127 4 (.c (.ag [(.i .i8 0), (.i .i64 0), (.s []), (.i .i64 0)]))⟩,
  ⟨none, none, .st 4 (.t 5) (.t 7)⟩])
  (.seq (.blk 0 (.seq (.reg [⟨some 11, none, .mv (.t 0)⟩,
  ⟨some 12, none, .call 60 [(.t 11)]⟩,
  ⟨some 10, none, .mv (.t 12)⟩])
  (.cond (.t 10) .skip
  (.seq (.reg [⟨some 14, none, .mv (.t 1)⟩,
  ⟨some 13, none, .mv (.t 14)⟩])
  (.cond (.t 13) (.seq (.reg [⟨some 15, none, .fa 1 (.t 5)⟩,
  ⟨some 16, none, .ld false 1 (.t 15)⟩,
  ⟨some 17, none, .un .neg (.t 16)⟩,
  ⟨some 4, none, .mv (.t 17)⟩])
  .ret)
  (.seq (.reg [⟨some 19, none, .fa 1 (.t 5)⟩,
  ⟨some 20, none, .ld false 1 (.t 19)⟩,
  ⟨some 21, none, .bop .gtr (.t 20) (.c (.i .i64 576460752303423487))⟩,
  ⟨some 18, none, .mv (.t 21)⟩])
  (.cond (.t 18) (.reg [⟨some 22, none, .mv (.t 0)⟩,
  ⟨some 23, none, .fa 3 (.t 5)⟩,
  ⟨some 24, none, .ld false 1 (.t 23)⟩,
  ⟨some 25, none, .call 65 [(.t 22), (.c (.i .i64 11)), (.t 24)]⟩])
  (.reg [⟨some 8, none, .fa 1 (.t 5)⟩,
  ⟨some 9, none, .ld false 1 (.t 8)⟩,
  ⟨some 4, none, .mv (.t 9)⟩]))))))))
  (.seq (.reg [⟨some 26, none, .mv (.t 4)⟩,
  ⟨some 4, none, .mv (.t 26)⟩])
  .ret))))⟩
def ir30_120 : XF := ⟨35, 4, [(8, none)], (.seq (.reg [⟨some 8, none, .mv (.c .sln)⟩])
  (.scope (.seq (.seq (.reg [⟨some 9, none, .mv (.t 0)⟩,
  ⟨some 10, none, .mv (.t 2)⟩,
  ⟨some 11, none, .call 58 [(.t 9), (.t 10)]⟩])
  (.cond (.t 11) (.seq (.reg [⟨some 8, none, .mv (.c .sln)⟩])
  .ret)
  .skip))
  (.seq .skip
  (.seq (.blk 0 (.loop (.seq (.seq (.reg [⟨some 12, none, .mv (.t 0)⟩,
  ⟨some 13, none, .call 60 [(.t 12)]⟩,
  ⟨some 14, none, .un .not (.t 13)⟩])
  (.cond (.t 14) .skip
  (.exit 0)))
  (.blk 1 (.seq (.seq (.reg [⟨some 15, none, .mv (.t 8)⟩,
  ⟨some 16, none, .len 1 (.t 15)⟩,
  ⟨some 17, none, .mv (.t 3)⟩,
  ⟨some 18, none, .bop .eql (.t 16) (.t 17)⟩])
  (.cond (.t 18) (.seq (.reg [⟨some 19, none, .mv (.t 0)⟩,
  ⟨some 20, none, .mv (.t 0)⟩,
  ⟨some 21, none, .call 36 [(.t 20)]⟩,
  ⟨some 22, none, .fld false 3 1 (.t 21)⟩,
  ⟨some 23, none, .call 65 [(.t 19), (.c (.i .i64 11)), (.t 22)]⟩])
  (.exit 0))
  .skip))
  (.seq (.reg [⟨some 24, none, .mv (.t 8)⟩,
  ⟨some 25, none, .mv (.t 1)⟩,
  ⟨some 26, none, .callv (.t 25) []⟩,
  ⟨some 27, none, .bls 104 5 1 [(.i .i8 0), (.i .i64 0), (.s []), (.s []), .sln] [(0, 5, (.t 26))]⟩,
  ⟨some 28, none, .app 104 5 (.t 24) (.t 27)⟩,
  ⟨some 8, none, .mv (.t 28)⟩])
  (.seq (.seq (.reg [⟨some 29, none, .mv (.t 0)⟩,
  ⟨some 30, none, .mv (.t 2)⟩,
  ⟨some 31, none, .call 58 [(.t 29), (.t 30)]⟩])
  (.cond (.t 31) (.exit 0)
  .skip))
  (.reg [⟨some 32, none, .mv (.t 0)⟩,
  ⟨some 33, none, .call 115 [(.t 32), (.c (.s [44]))]⟩]))))))))
  (.seq (.reg [⟨some 34, none, .mv (.t 8)⟩,
  ⟨some 8, none, .mv (.t 34)⟩])
  .ret))))))⟩
def ir30_123 : XF := ⟨44, 3, [], (.seq (.seq (.reg [⟨some 9, none, .ld false 1 (.t 1)⟩,
  ⟨some 10, none, .len 0 (.t 9)⟩,
  ⟨some 11, none, .bop .gtr (.t 10) (.c (.i .i64 8192))⟩])
  (.cond (.t 11) (.seq (.reg [⟨some 12, none, .ld false 1 (.t 2)⟩,
  ⟨some 13, none, .bld [(.i .i64 0), (.i .i64 0)] [(0, 1, (.c (.i .i64 3)))]⟩,
  ⟨some 14, none, .nck (.t 12)⟩,
  ⟨none, none, .st 2 (.t 14) (.t 13)⟩])
  .ret)
  .skip))
  (.seq (.reg [⟨some 4, none, .mv (.c (.i .i64 0))⟩,
  ⟨some 5, none, .mv (.c (.i .i64 0))⟩])
  (.blk 0 (.loop (.seq (.seq (.par [⟨some 15, none, .ld false 1 (.t 1)⟩,
  ⟨some 16, none, .mv (.t 5)⟩,
  ⟨some 17, none, .call 124 [(.t 15), (.t 16)]⟩,
  ⟨some 18, none, .ld false 1 (.t 1)⟩,
  ⟨some 19, none, .len 0 (.t 18)⟩,
  ⟨some 20, none, .bop .lss (.t 17) (.t 19)⟩] [0, 0, 3, 0, 8, 31])
  (.cond (.t 20) .skip
  (.exit 0)))
  (.seq (.blk 1 (.seq (.reg [⟨some 24, none, .ld false 1 (.t 1)⟩,
  ⟨some 25, none, .mv (.t 5)⟩,
  ⟨some 26, none, .call 125 [(.t 24), (.t 25)]⟩,
  ⟨some 23, none, .mv (.t 26)⟩,
  ⟨some 27, none, .ex (.t 23) 0⟩,
  ⟨some 28, none, .ex (.t 23) 1⟩,
  ⟨some 29, none, .ex (.t 23) 2⟩,
  ⟨some 6, none, .box 127 4 (.c (.ag [(.i .i8 0), (.i .i64 0), (.s []), (.i .i64 0)]))⟩,
  ⟨some 8, none, .box 24 2 (.c (.ag [(.i .i64 0), (.i .i64 0)]))⟩,
  ⟨none, none, .st 4 (.t 6) (.t 27)⟩,
  ⟨some 7, none, .mv (.t 28)⟩,
  ⟨none, none, .st 2 (.t 8) (.t 29)⟩])
  (.seq (.seq (.reg [⟨some 30, none, .ld false 1 (.t 2)⟩,
  ⟨some 31, none, .ld true 2 (.t 8)⟩,
  ⟨some 32, none, .nck (.t 30)⟩,
  ⟨none, none, .st 2 (.t 32) (.t 31)⟩])
  (.seq (.reg [⟨some 33, none, .fa 0 (.t 8)⟩,
  ⟨some 34, none, .ld false 1 (.t 33)⟩,
  ⟨some 35, none, .bop .neq (.t 34) (.c (.i .i64 0))⟩,
  ⟨some 36, none, .mv (.t 35)⟩,
  ⟨some 37, some (36, false), .mv (.t 0)⟩,
  ⟨some 38, some (36, false), .mv (.t 4)⟩,
  ⟨some 39, some (36, false), .ld true 4 (.t 6)⟩,
  ⟨some 40, some (36, false), .callv (.t 37) [(.t 38), (.t 39)]⟩,
  ⟨some 41, some (36, false), .un .not (.t 40)⟩,
  ⟨some 42, none, .pick (.t 36) (.c (.b true)) (.t 41)⟩])
  (.cond (.t 42) .ret
  .skip)))
  (.reg [⟨some 43, none, .mv (.t 7)⟩,
  ⟨some 5, none, .mv (.t 43)⟩]))))
  (.reg [⟨some 21, none, .mv (.t 4)⟩,
  ⟨some 22, none, .bop .add (.t 21) (.c (.i .i64 1))⟩,
  ⟨some 4, none, .mv (.t 22)⟩])))))))⟩
def ir30_124 : XF := ⟨56, 2, [(4, none)], (.seq (.reg [⟨some 4, none, .mv (.c (.i .i64 0))⟩])
  (.seq (.seq (.reg [⟨some 8, none, .mv (.t 1)⟩,
  ⟨some 9, none, .bop .lss (.t 8) (.c (.i .i64 0))⟩,
  ⟨some 10, none, .mv (.t 9)⟩,
  ⟨some 11, some (10, false), .mv (.t 1)⟩,
  ⟨some 12, some (10, false), .mv (.t 0)⟩,
  ⟨some 13, some (10, false), .len 0 (.t 12)⟩,
  ⟨some 14, some (10, false), .bop .geq (.t 11) (.t 13)⟩,
  ⟨some 15, none, .pick (.t 10) (.c (.b true)) (.t 14)⟩])
  (.cond (.t 15) (.seq (.reg [⟨some 16, none, .mv (.t 1)⟩,
  ⟨some 4, none, .mv (.t 16)⟩])
  .ret)
  .skip))
  (.seq (.reg [⟨some 5, none, .mv (.c (.b false))⟩])
  (.seq (.seq (.reg [⟨some 17, none, .mv (.t 0)⟩,
  ⟨some 18, none, .len 0 (.t 17)⟩,
  ⟨some 19, none, .mv (.t 1)⟩,
  ⟨some 20, none, .bop .sub (.t 18) (.t 19)⟩,
  ⟨some 21, none, .mv (.c (.i .i64 0))⟩])
  (.blk 0 (.loop (.seq (.reg [⟨some 22, none, .bop .lss (.t 21) (.t 20)⟩])
  (.seq (.cond (.t 22) .skip
  (.exit 0))
  (.seq (.blk 1 (.seq (.reg [⟨some 23, none, .mv (.t 21)⟩,
  ⟨some 6, none, .mv (.t 23)⟩])
  (.seq (.reg [⟨some 24, none, .mv (.t 0)⟩,
  ⟨some 25, none, .mv (.t 1)⟩,
  ⟨some 26, none, .mv (.t 6)⟩,
  ⟨some 27, none, .bop .add (.t 25) (.t 26)⟩,
  ⟨some 28, none, .ixS (.t 24) (.t 27)⟩,
  ⟨some 7, none, .mv (.t 28)⟩])
  (.blk 2 (.seq (.reg [⟨some 30, none, .mv (.t 7)⟩,
  ⟨some 31, none, .bop .eql (.t 30) (.c (.i .u8 10))⟩,
  ⟨some 29, none, .mv (.t 31)⟩])
  (.cond (.t 29) (.reg [⟨some 5, none, .mv (.c (.b false))⟩])
  (.seq (.reg [⟨some 33, none, .mv (.t 7)⟩,
  ⟨some 34, none, .bop .eql (.t 33) (.c (.i .u8 37))⟩,
  ⟨some 32, none, .mv (.t 34)⟩])
  (.cond (.t 32) (.reg [⟨some 5, none, .mv (.c (.b true))⟩])
  (.seq (.reg [⟨some 36, none, .mv (.t 5)⟩,
  ⟨some 37, none, .un .not (.t 36)⟩,
  ⟨some 38, none, .mv (.t 37)⟩,
  ⟨some 39, some (38, true), .mv (.t 7)⟩,
  ⟨some 40, some (38, true), .bop .neq (.t 39) (.c (.i .u8 32))⟩,
  ⟨some 41, none, .pick (.t 38) (.t 40) (.c (.b false))⟩,
  ⟨some 42, none, .mv (.t 41)⟩,
  ⟨some 43, some (42, true), .mv (.t 7)⟩,
  ⟨some 44, some (42, true), .bop .neq (.t 43) (.c (.i .u8 9))⟩,
  ⟨some 45, none, .pick (.t 42) (.t 44) (.c (.b false))⟩,
  ⟨some 46, none, .mv (.t 45)⟩,
  ⟨some 47, some (46, true), .mv (.t 7)⟩,
  ⟨some 48, some (46, true), .bop .neq (.t 47) (.c (.i .u8 13))⟩,
  ⟨some 49, none, .pick (.t 46) (.t 48) (.c (.b false))⟩,
  ⟨some 35, none, .mv (.t 49)⟩])
  (.cond (.t 35) (.seq (.reg [⟨some 50, none, .mv (.t 1)⟩,
  ⟨some 51, none, .mv (.t 6)⟩,
  ⟨some 52, none, .bop .add (.t 50) (.t 51)⟩,
  ⟨some 4, none, .mv (.t 52)⟩])
  .ret)
  .skip))))))))))
  (.reg [⟨some 53, none, .bop .add (.t 21) (.c (.i .i64 1))⟩,
  ⟨some 21, none, .mv (.t 53)⟩])))))))
  (.seq (.reg [⟨some 54, none, .mv (.t 0)⟩,
  ⟨some 55, none, .len 0 (.t 54)⟩,
  ⟨some 4, none, .mv (.t 55)⟩])
  .ret)))))⟩
def ir30_125 : XF := ⟨120, 2, [(4, some (true, 4)), (5, none), (6, some (true, 2))], (.seq (.reg [⟨some 4, none, .box 127 4 (.c (.ag [(.i .i8 0), (.i .i64 0), (.s []), (.i .i64 0)]))⟩,
  ⟨some 5, none, .mv (.c (.i .i64 0))⟩,
  ⟨some 6, none, .box 24 2 (.c (.ag [(.i .i64 0), (.i .i64 0)]))⟩])
  (.seq (.reg [⟨some 7, none, .mv (.c (.f (.func 186) [] []))⟩])
  (.seq (.seq (.reg [⟨some 13, none, .mv (.t 1)⟩,
  ⟨some 14, none, .bop .lss (.t 13) (.c (.i .i64 0))⟩,
  ⟨some 15, none, .mv (.t 14)⟩,
  ⟨some 16, some (15, false), .mv (.t 1)⟩,
  ⟨some 17, some (15, false), .mv (.t 0)⟩,
  ⟨some 18, some (15, false), .len 0 (.t 17)⟩,
  ⟨some 19, some (15, false), .bop .gtr (.t 16) (.t 18)⟩,
  ⟨some 20, none, .pick (.t 15) (.c (.b true)) (.t 19)⟩])
  (.cond (.t 20) (.seq (.reg [⟨some 21, none, .mv (.t 7)⟩,
  ⟨some 22, none, .mv (.t 1)⟩,
  ⟨some 23, none, .callv (.t 21) [(.c (.i .i64 60)), (.t 22)]⟩,
  ⟨some 24, none, .ex (.t 23) 0⟩,
  ⟨some 25, none, .ex (.t 23) 1⟩,
  ⟨some 26, none, .ex (.t 23) 2⟩,
  ⟨none, none, .st 4 (.t 4) (.t 24)⟩,
  ⟨some 5, none, .mv (.t 25)⟩,
  ⟨none, none, .st 2 (.t 6) (.t 26)⟩])
  .ret)
  .skip))
  (.seq (.seq (.reg [⟨some 27, none, .mv (.t 0)⟩,
  ⟨some 28, none, .mv (.t 1)⟩,
  ⟨some 29, none, .call 124 [(.t 27), (.t 28)]⟩,
  ⟨some 1, none, .mv (.t 29)⟩])
  (.seq (.reg [⟨some 30, none, .mv (.t 1)⟩,
  ⟨some 31, none, .mv (.t 0)⟩,
  ⟨some 32, none, .len 0 (.t 31)⟩,
  ⟨some 33, none, .bop .eql (.t 30) (.t 32)⟩])
  (.cond (.t 33) (.seq (.reg [⟨some 34, none, .mv (.t 7)⟩,
  ⟨some 35, none, .mv (.t 1)⟩,
  ⟨some 36, none, .callv (.t 34) [(.c (.i .i64 60)), (.t 35)]⟩,
  ⟨some 37, none, .ex (.t 36) 0⟩,
  ⟨some 38, none, .ex (.t 36) 1⟩,
  ⟨some 39, none, .ex (.t 36) 2⟩,
  ⟨none, none, .st 4 (.t 4) (.t 37)⟩,
  ⟨some 5, none, .mv (.t 38)⟩,
  ⟨none, none, .st 2 (.t 6) (.t 39)⟩])
  .ret)
  .skip)))
  (.seq (.reg [⟨some 40, none, .mv (.t 0)⟩,
  ⟨some 41, none, .mv (.t 1)⟩,
  ⟨some 42, none, .slcS (.t 40) (some (.t 41)) none⟩,
  ⟨some 8, none, .mv (.t 42)⟩])
  (.seq (.reg [⟨some 43, none, .mv (.t 8)⟩,
  ⟨some 44, none, .call 187 [(.t 43)]⟩,
  ⟨some 9, none, .mv (.t 44)⟩])
  (.seq (.seq (.reg [⟨some 45, none, .mv (.t 8)⟩,
  ⟨some 46, none, .ixS (.t 45) (.c (.i .i64 0))⟩,
  ⟨some 10, none, .mv (.t 46)⟩])
  (.blk 0 (.seq (.reg [⟨some 48, none, .mv (.t 10)⟩,
  ⟨some 49, none, .bop .leq (.c (.i .u8 48)) (.t 48)⟩,
  ⟨some 50, none, .mv (.t 49)⟩,
  ⟨some 51, some (50, true), .mv (.t 10)⟩,
  ⟨some 52, some (50, true), .bop .leq (.t 51) (.c (.i .u8 57))⟩,
  ⟨some 53, none, .pick (.t 50) (.t 52) (.c (.b false))⟩,
  ⟨some 47, none, .mv (.t 53)⟩])
  (.cond (.t 47) (.seq (.reg [⟨some 54, none, .mv (.t 8)⟩,
  ⟨some 55, none, .mv (.t 1)⟩,
  ⟨some 56, none, .call 188 [(.t 54), (.t 55)]⟩,
  ⟨some 57, none, .ex (.t 56) 0⟩,
  ⟨some 58, none, .ex (.t 56) 1⟩,
  ⟨some 59, none, .ex (.t 56) 2⟩,
  ⟨none, none, .st 4 (.t 4) (.t 57)⟩,
  ⟨some 5, none, .mv (.t 58)⟩,
  ⟨none, none, .st 2 (.t 6) (.t 59)⟩])
  .ret)
  (.seq (.reg [⟨some 61, none, .mv (.t 9)⟩,
  ⟨some 62, none, .bop .gtr (.t 61) (.c (.i .i64 32))⟩,
  ⟨some 60, none, .mv (.t 62)⟩])
  (.cond (.t 60) (.seq (.reg [⟨some 63, none, .mv (.t 7)⟩,
  ⟨some 64, none, .mv (.t 1)⟩,
  ⟨some 65, none, .callv (.t 63) [(.c (.i .i64 11)), (.t 64)]⟩,
  ⟨some 66, none, .ex (.t 65) 0⟩,
  ⟨some 67, none, .ex (.t 65) 1⟩,
  ⟨some 68, none, .ex (.t 65) 2⟩,
  ⟨none, none, .st 4 (.t 4) (.t 66)⟩,
  ⟨some 5, none, .mv (.t 67)⟩,
  ⟨none, none, .st 2 (.t 6) (.t 68)⟩])
  .ret)
  (.seq (.reg [⟨some 70, none, .mv (.t 9)⟩,
  ⟨some 71, none, .bop .gtr (.t 70) (.c (.i .i64 0))⟩,
  ⟨some 69, none, .mv (.t 71)⟩])
  (.cond (.t 69) (.seq (.reg [⟨some 72, none, .mv (.t 8)⟩,
  ⟨some 73, none, .mv (.t 9)⟩,
  ⟨some 74, none, .slcS (.t 72) none (some (.t 73))⟩,
  ⟨some 75, none, .mv (.t 1)⟩,
  ⟨some 76, none, .bld [(.i .i8 0), (.i .i64 0), (.s []), (.i .i64 0)] [(0, 1, (.c (.i .i8 1))), (2, 1, (.t 74)), (3, 1, (.t 75))]⟩,
  ⟨none, none, .st 4 (.t 4) (.t 76)⟩])
  (.seq (.seq (.reg [⟨some 77, none, .fa 2 (.t 4)⟩,
  ⟨some 78, none, .ld false 1 (.t 77)⟩,
  ⟨some 79, none, .call 129 [(.t 78)]⟩])
  (.cond (.t 79) (.reg [⟨some 80, none, .fa 0 (.t 4)⟩,
  ⟨none, none, .st 1 (.t 80) (.c (.i .i8 0))⟩])
  .skip))
  (.seq (.seq (.reg [⟨some 81, none, .fa 2 (.t 4)⟩,
  ⟨some 82, none, .ld false 1 (.t 81)⟩,
  ⟨some 83, none, .call 189 [(.t 82)]⟩])
  (.cond (.t 83) (.reg [⟨some 84, none, .fa 0 (.t 4)⟩,
  ⟨none, none, .st 1 (.t 84) (.c (.i .i8 3))⟩])
  .skip))
  (.seq (.par [⟨some 85, none, .ld true 4 (.t 4)⟩,
  ⟨some 86, none, .mv (.t 1)⟩,
  ⟨some 87, none, .mv (.t 9)⟩,
  ⟨some 88, none, .bop .add (.t 86) (.t 87)⟩,
  ⟨some 89, none, .ld true 2 (.t 6)⟩,
  ⟨none, none, .st 4 (.t 4) (.t 85)⟩,
  ⟨some 5, none, .mv (.t 88)⟩,
  ⟨none, none, .st 2 (.t 6) (.t 89)⟩] [0, 0, 0, 6, 0, 1, 47, 127])
  .ret))))
  (.seq (.reg [⟨some 91, none, .mv (.t 10)⟩,
  ⟨some 92, none, .bop .eql (.t 91) (.c (.i .u8 46))⟩,
  ⟨some 90, none, .mv (.t 92)⟩])
  (.cond (.t 90) (.seq (.par [⟨some 93, none, .mv (.t 1)⟩,
  ⟨some 94, none, .bld [(.i .i8 0), (.i .i64 0), (.s []), (.i .i64 0)] [(0, 1, (.c (.i .i8 4))), (3, 1, (.t 93))]⟩,
  ⟨some 95, none, .mv (.t 1)⟩,
  ⟨some 96, none, .bop .add (.t 95) (.c (.i .i64 1))⟩,
  ⟨some 97, none, .ld true 2 (.t 6)⟩,
  ⟨none, none, .st 4 (.t 4) (.t 94)⟩,
  ⟨some 5, none, .mv (.t 96)⟩,
  ⟨none, none, .st 2 (.t 6) (.t 97)⟩] [0, 1, 0, 4, 0, 3, 47, 127])
  .ret)
  .skip))))))))))
  (.seq (.seq (.reg [⟨some 98, none, .ld true 22 (.c (.p 1 0))⟩,
  ⟨some 99, none, .mv (.c (.i .i64 0))⟩])
  (.blk 1 (.loop (.seq (.reg [⟨some 100, none, .bop .lss (.t 99) (.c (.i .i64 22))⟩])
  (.seq (.cond (.t 100) .skip
  (.exit 1))
  (.seq (.blk 2 (.seq (.reg [⟨some 101, none, .ixA false 22 1 (.t 98) (.t 99)⟩,
  ⟨some 12, none, .mv (.t 101)⟩])
  (.seq (.reg [⟨some 102, none, .mv (.t 8)⟩,
  ⟨some 103, none, .mv (.t 12)⟩,
  ⟨some 104, none, .call 190 [(.t 102), (.t 103)]⟩])
  (.cond (.t 104) (.seq (.par [⟨some 105, none, .mv (.t 12)⟩,
  ⟨some 106, none, .mv (.t 1)⟩,
  ⟨some 107, none, .bld [(.i .i8 0), (.i .i64 0), (.s []), (.i .i64 0)] [(0, 1, (.c (.i .i8 3))), (2, 1, (.t 105)), (3, 1, (.t 106))]⟩,
  ⟨some 108, none, .mv (.t 1)⟩,
  ⟨some 109, none, .mv (.t 12)⟩,
  ⟨some 110, none, .len 0 (.t 109)⟩,
  ⟨some 111, none, .bop .add (.t 108) (.t 110)⟩,
  ⟨some 112, none, .ld true 2 (.t 6)⟩,
  ⟨none, none, .st 4 (.t 4) (.t 107)⟩,
  ⟨some 5, none, .mv (.t 111)⟩,
  ⟨none, none, .st 2 (.t 6) (.t 112)⟩] [0, 0, 3, 0, 0, 16, 56, 0, 7, 383, 1023])
  .ret)
  .skip))))
  (.reg [⟨some 113, none, .bop .add (.t 99) (.c (.i .i64 1))⟩,
  ⟨some 99, none, .mv (.t 113)⟩])))))))
  (.seq (.reg [⟨some 114, none, .mv (.t 7)⟩,
  ⟨some 115, none, .mv (.t 1)⟩,
  ⟨some 116, none, .callv (.t 114) [(.c (.i .i64 60)), (.t 115)]⟩,
  ⟨some 117, none, .ex (.t 116) 0⟩,
  ⟨some 118, none, .ex (.t 116) 1⟩,
  ⟨some 119, none, .ex (.t 116) 2⟩,
  ⟨none, none, .st 4 (.t 4) (.t 117)⟩,
  ⟨some 5, none, .mv (.t 118)⟩,
  ⟨none, none, .st 2 (.t 6) (.t 119)⟩])
  .ret)))))))))⟩
def ir30_126 : XF := ⟨36, 2, [(4, some (true, 5))], (.seq (.reg [⟨some 4, none, .box 104 5 (.c (.ag [(.i .i8 0), (.i .i64 0), (.s []), (.s []), .sln]))⟩])
  (.seq (.seq (.reg [⟨some 5, none, .mv (.t 0)⟩,
  ⟨some 6, none, .call 60 [(.t 5)]⟩])
  (.cond (.t 6) (.seq (.reg [⟨some 7, none, .ld true 5 (.t 4)⟩,
  ⟨none, none, .st 5 (.t 4) (.t 7)⟩])
  .ret)
  .skip))
  (.seq (.seq (.reg [⟨some 8, none, .mv (.t 0)⟩,
  ⟨some 9, none, .nck (.t 8)⟩,
  ⟨some 10, none, .fa 7 (.t 9)⟩,
  ⟨some 11, none, .ld false 1 (.t 10)⟩,
  ⟨some 12, none, .bop .add (.t 11) (.c (.i .i64 1))⟩,
  ⟨some 13, none, .nck (.t 8)⟩,
  ⟨some 14, none, .fa 7 (.t 13)⟩,
  ⟨none, none, .st 1 (.t 14) (.t 12)⟩])
  (.seq (.reg [⟨some 15, none, .mv (.t 0)⟩,
  ⟨some 16, none, .nck (.t 15)⟩,
  ⟨some 17, none, .fa 7 (.t 16)⟩,
  ⟨some 18, none, .ld false 1 (.t 17)⟩,
  ⟨some 19, none, .bop .gtr (.t 18) (.c (.i .i64 128))⟩])
  (.cond (.t 19) (.seq (.reg [⟨some 20, none, .mv (.t 0)⟩,
  ⟨some 21, none, .mv (.t 0)⟩,
  ⟨some 22, none, .call 36 [(.t 21)]⟩,
  ⟨some 23, none, .fld false 3 1 (.t 22)⟩,
  ⟨some 24, none, .call 65 [(.t 20), (.c (.i .i64 11)), (.t 23)]⟩,
  ⟨none, none, .st 5 (.t 4) (.t 24)⟩])
  .ret)
  .skip)))
  (.seq (.reg [⟨some 25, none, .mv (.t 0)⟩,
  ⟨some 26, none, .mv (.t 1)⟩,
  ⟨some 27, none, .call 191 [(.t 25), (.t 26)]⟩,
  ⟨none, none, .st 5 (.t 4) (.t 27)⟩])
  (.seq (.reg [⟨some 28, none, .mv (.t 0)⟩,
  ⟨some 29, none, .nck (.t 28)⟩,
  ⟨some 30, none, .fa 7 (.t 29)⟩,
  ⟨some 31, none, .ld false 1 (.t 30)⟩,
  ⟨some 32, none, .bop .sub (.t 31) (.c (.i .i64 1))⟩,
  ⟨some 33, none, .nck (.t 28)⟩,
  ⟨some 34, none, .fa 7 (.t 33)⟩,
  ⟨none, none, .st 1 (.t 34) (.t 32)⟩])
  (.seq (.reg [⟨some 35, none, .ld true 5 (.t 4)⟩,
  ⟨none, none, .st 5 (.t 4) (.t 35)⟩])
  .ret))))))⟩
def ir30_127 : XF := ⟨22, 1, [(2, none)], (.seq (.reg [⟨some 2, none, .mv (.c (.b false))⟩])
  (.seq (.reg [⟨some 5, none, .call 192 []⟩,
  ⟨some 3, none, .box 299 22 (.c (.ag [.fn, .fn, .fn, .fn, .fn, .fn, .fn, .fn, .fn, .fn, .fn, .fn, .fn, .fn, .fn, .fn, .fn, .fn, .fn, .fn, .fn, .fn]))⟩,
  ⟨none, none, .st 22 (.t 3) (.t 5)⟩])
  (.seq (.reg [⟨some 6, none, .call 193 [(.t 3), (.c (.f (.func 127) [] []))]⟩])
  (.seq (.reg [⟨some 4, none, .box 303 1 (.c .fn)⟩,
  ⟨none, none, .st 1 (.t 4) (.c (.f (.func 194) [] []))⟩])
  (.seq (.reg [⟨some 7, none, .call 195 [(.c (.f (.func 196) [] [])), (.c (.f (.func 127) [] []))]⟩,
  ⟨some 8, none, .iaA 22 1 (.t 3) (.c (.i .i8 11))⟩,
  ⟨none, none, .st 1 (.t 8) (.t 7)⟩])
  (.seq (.reg [⟨some 9, none, .iaA 22 1 (.t 3) (.c (.i .i8 13))⟩,
  ⟨none, none, .st 1 (.t 9) (.c (.f (.func 199) [] []))⟩])
  (.seq (.reg [⟨some 10, none, .mkf (.func 200) [] [(.t 4)]⟩,
  ⟨some 11, none, .iaA 22 1 (.t 3) (.c (.i .i8 14))⟩,
  ⟨none, none, .st 1 (.t 11) (.t 10)⟩])
  (.seq (.reg [⟨some 12, none, .mkf (.func 201) [] [(.t 4)]⟩,
  ⟨some 13, none, .iaA 22 1 (.t 3) (.c (.i .i8 15))⟩,
  ⟨none, none, .st 1 (.t 13) (.t 12)⟩])
  (.seq (.reg [⟨some 14, none, .mkf (.func 202) [] [(.t 4)]⟩,
  ⟨some 15, none, .iaA 22 1 (.t 3) (.c (.i .i8 16))⟩,
  ⟨none, none, .st 1 (.t 15) (.t 14)⟩])
  (.seq (.reg [⟨some 16, none, .iaA 22 1 (.t 3) (.c (.i .i8 17))⟩,
  ⟨none, none, .st 1 (.t 16) (.c (.f (.func 203) [] []))⟩])
  (.seq (.reg [⟨some 17, none, .iaA 22 1 (.t 3) (.c (.i .i8 18))⟩,
  ⟨none, none, .st 1 (.t 17) (.c (.f (.func 204) [] []))⟩])
  (.seq (.reg [⟨some 18, none, .iaA 22 1 (.t 3) (.c (.i .i8 19))⟩,
  ⟨none, none, .st 1 (.t 18) (.c (.f (.func 205) [] []))⟩])
  (.seq (.reg [⟨some 19, none, .iaA 22 1 (.t 3) (.c (.i .i8 20))⟩,
  ⟨none, none, .st 1 (.t 19) (.c (.f (.func 207) [] []))⟩])
  (.seq (.reg [⟨some 20, none, .mv (.t 0)⟩,
  ⟨some 21, none, .call 208 [(.t 3), (.t 20)]⟩,
  ⟨some 2, none, .mv (.t 21)⟩])
  .ret))))))))))))))⟩
def ir30_128 : XF := ⟨26, 3, [], (.seq (.reg [⟨some 5, none, .ld false 1 (.t 1)⟩,
  ⟨some 6, none, .bop .add (.t 5) (.c (.i .i64 1))⟩,
  ⟨none, none, .st 1 (.t 1) (.t 6)⟩])
  (.seq (.reg [⟨some 7, none, .mv (.t 0)⟩,
  ⟨some 8, none, .nck (.t 7)⟩,
  ⟨some 9, none, .fa 4 (.t 8)⟩,
  ⟨some 10, none, .ld false 1 (.t 9)⟩,
  ⟨some 11, none, .len 1 (.t 10)⟩,
  ⟨some 12, none, .mv (.c (.i .i64 0))⟩])
  (.blk 0 (.loop (.seq (.reg [⟨some 13, none, .bop .lss (.t 12) (.t 11)⟩])
  (.seq (.cond (.t 13) .skip
  (.exit 0))
  (.seq (.blk 1 (.seq (.reg [⟨some 14, none, .mv (.t 12)⟩,
  ⟨some 4, none, .mv (.t 14)⟩])
  (.seq (.seq (.reg [⟨some 15, none, .ld false 1 (.t 1)⟩,
  ⟨some 16, none, .bop .gtr (.t 15) (.c (.i .i64 256))⟩])
  (.cond (.t 16) .ret
  .skip))
  (.par [⟨some 17, none, .ld false 1 (.t 2)⟩,
  ⟨some 18, none, .mv (.t 0)⟩,
  ⟨some 19, none, .nck (.t 18)⟩,
  ⟨some 20, none, .fa 4 (.t 19)⟩,
  ⟨some 21, none, .ld false 1 (.t 20)⟩,
  ⟨some 22, none, .mv (.t 4)⟩,
  ⟨some 23, none, .ia 5 (.t 21) (.t 22)⟩,
  ⟨some 24, none, .callv (.t 17) [(.t 23)]⟩] [0, 0, 2, 6, 14, 0, 62, 127]))))
  (.reg [⟨some 25, none, .bop .add (.t 12) (.c (.i .i64 1))⟩,
  ⟨some 12, none, .mv (.t 25)⟩]))))))))⟩
def ir30_129 : XF := ⟨11, 1, [(2, none)], (.seq (.reg [⟨some 2, none, .mv (.c (.b false))⟩])
  (.seq (.par [⟨some 3, none, .mv (.t 0)⟩,
  ⟨some 4, none, .call 209 [(.t 3)]⟩,
  ⟨some 5, none, .mv (.t 4)⟩,
  ⟨some 6, some (5, true), .mv (.t 0)⟩,
  ⟨some 7, some (5, true), .ixS (.t 6) (.c (.i .i64 0))⟩,
  ⟨some 8, some (5, true), .slcA 4 2 (.c (.p 2 0)) none (some (.c (.i .i64 1))) none⟩,
  ⟨some 9, some (5, true), .call 210 [(.t 7), (.t 8)]⟩,
  ⟨some 10, none, .pick (.t 5) (.t 9) (.c (.b false))⟩,
  ⟨some 2, none, .mv (.t 10)⟩] [0, 1, 3, 7, 15, 7, 63, 127, 255])
  .ret))⟩
def ir30_130 : XF := ⟨9, 2, [(4, none)], (.seq (.reg [⟨some 4, none, .mv (.c (.b false))⟩])
  (.seq (.reg [⟨some 5, none, .mv (.t 0)⟩,
  ⟨some 6, none, .mv (.t 1)⟩,
  ⟨some 7, none, .call 144 [(.t 5), (.t 6)]⟩,
  ⟨some 8, none, .bop .geq (.t 7) (.c (.i .i64 0))⟩,
  ⟨some 4, none, .mv (.t 8)⟩])
  .ret))⟩
def ir30_134 : XF := ⟨29, 3, [], (.seq (.reg [⟨some 5, none, .fa 0 (.t 1)⟩,
  ⟨some 6, none, .ld false 1 (.t 5)⟩,
  ⟨some 7, none, .bop .add (.t 6) (.c (.i .i64 1))⟩,
  ⟨some 8, none, .fa 0 (.t 1)⟩,
  ⟨none, none, .st 1 (.t 8) (.t 7)⟩])
  (.seq (.reg [⟨some 9, none, .mv (.t 0)⟩,
  ⟨some 10, none, .nck (.t 9)⟩,
  ⟨some 11, none, .fa 4 (.t 10)⟩,
  ⟨some 12, none, .ld false 1 (.t 11)⟩,
  ⟨some 13, none, .len 1 (.t 12)⟩,
  ⟨some 14, none, .mv (.c (.i .i64 0))⟩])
  (.blk 0 (.loop (.seq (.reg [⟨some 15, none, .bop .lss (.t 14) (.t 13)⟩])
  (.seq (.cond (.t 15) .skip
  (.exit 0))
  (.seq (.blk 1 (.seq (.reg [⟨some 16, none, .mv (.t 14)⟩,
  ⟨some 4, none, .mv (.t 16)⟩])
  (.seq (.seq (.reg [⟨some 17, none, .fa 0 (.t 1)⟩,
  ⟨some 18, none, .ld false 1 (.t 17)⟩,
  ⟨some 19, none, .bop .gtr (.t 18) (.c (.i .i64 4096))⟩])
  (.cond (.t 19) .ret
  .skip))
  (.par [⟨some 20, none, .ld false 1 (.t 2)⟩,
  ⟨some 21, none, .mv (.t 0)⟩,
  ⟨some 22, none, .nck (.t 21)⟩,
  ⟨some 23, none, .fa 4 (.t 22)⟩,
  ⟨some 24, none, .ld false 1 (.t 23)⟩,
  ⟨some 25, none, .mv (.t 4)⟩,
  ⟨some 26, none, .ia 5 (.t 24) (.t 25)⟩,
  ⟨some 27, none, .callv (.t 20) [(.t 26)]⟩] [0, 0, 2, 6, 14, 0, 62, 127]))))
  (.reg [⟨some 28, none, .bop .add (.t 14) (.c (.i .i64 1))⟩,
  ⟨some 14, none, .mv (.t 28)⟩]))))))))⟩
def ir30_135 : XF := ⟨37, 3, [(5, none)], (.seq (.reg [⟨some 5, none, .mv (.c (.i .i64 0))⟩])
  (.seq (.reg [⟨some 6, none, .mv (.c (.i .i64 1))⟩])
  (.seq (.seq (.reg [⟨some 8, none, .mv (.t 0)⟩,
  ⟨some 9, none, .nck (.t 8)⟩,
  ⟨some 10, none, .fa 4 (.t 9)⟩,
  ⟨some 11, none, .ld false 1 (.t 10)⟩,
  ⟨some 12, none, .len 1 (.t 11)⟩,
  ⟨some 13, none, .mv (.c (.i .i64 0))⟩])
  (.blk 0 (.loop (.seq (.reg [⟨some 14, none, .bop .lss (.t 13) (.t 12)⟩])
  (.seq (.cond (.t 14) .skip
  (.exit 0))
  (.seq (.blk 1 (.seq (.reg [⟨some 15, none, .mv (.t 13)⟩,
  ⟨some 7, none, .mv (.t 15)⟩])
  (.seq (.reg [⟨some 16, none, .mv (.t 1)⟩,
  ⟨some 17, none, .bop .gtr (.t 16) (.c (.i .i64 1))⟩,
  ⟨some 18, none, .mv (.t 17)⟩,
  ⟨some 19, some (18, true), .mv (.t 6)⟩,
  ⟨some 20, some (18, true), .bop .leq (.t 19) (.c (.i .i64 64))⟩,
  ⟨some 21, none, .pick (.t 18) (.t 20) (.c (.b false))⟩])
  (.cond (.t 21) (.par [⟨some 22, none, .mv (.t 6)⟩,
  ⟨some 23, none, .ld false 1 (.t 2)⟩,
  ⟨some 24, none, .mv (.t 0)⟩,
  ⟨some 25, none, .nck (.t 24)⟩,
  ⟨some 26, none, .fa 4 (.t 25)⟩,
  ⟨some 27, none, .ld false 1 (.t 26)⟩,
  ⟨some 28, none, .mv (.t 7)⟩,
  ⟨some 29, none, .ia 5 (.t 27) (.t 28)⟩,
  ⟨some 30, none, .mv (.t 1)⟩,
  ⟨some 31, none, .bop .sub (.t 30) (.c (.i .i64 1))⟩,
  ⟨some 32, none, .callv (.t 23) [(.t 29), (.t 31)]⟩,
  ⟨some 33, none, .bop .add (.c (.i .i64 1)) (.t 32)⟩,
  ⟨some 34, none, .mm true (.t 22) (.t 33)⟩,
  ⟨some 6, none, .mv (.t 34)⟩] [0, 0, 0, 4, 12, 28, 0, 124, 0, 256, 1022, 2046, 4095, 8191])
  .skip))))
  (.reg [⟨some 35, none, .bop .add (.t 13) (.c (.i .i64 1))⟩,
  ⟨some 13, none, .mv (.t 35)⟩])))))))
  (.seq (.reg [⟨some 36, none, .mv (.t 6)⟩,
  ⟨some 5, none, .mv (.t 36)⟩])
  .ret))))⟩
def ir30_144 : XF := ⟨19, 2, [(4, none)], (.seq (.reg [⟨some 4, none, .mv (.c (.i .i64 0))⟩])
  (.seq (.seq (.reg [⟨some 6, none, .mv (.t 0)⟩,
  ⟨some 7, none, .len 1 (.t 6)⟩,
  ⟨some 8, none, .mv (.c (.i .i64 0))⟩])
  (.blk 0 (.loop (.seq (.reg [⟨some 9, none, .bop .lss (.t 8) (.t 7)⟩])
  (.seq (.cond (.t 9) .skip
  (.exit 0))
  (.seq (.blk 1 (.seq (.reg [⟨some 10, none, .mv (.t 8)⟩,
  ⟨some 5, none, .mv (.t 10)⟩])
  (.seq (.reg [⟨some 11, none, .mv (.t 1)⟩,
  ⟨some 12, none, .mv (.t 0)⟩,
  ⟨some 13, none, .mv (.t 5)⟩,
  ⟨some 14, none, .ia 1 (.t 12) (.t 13)⟩,
  ⟨some 15, none, .ld false 1 (.t 14)⟩,
  ⟨some 16, none, .bop .eql (.t 11) (.t 15)⟩])
  (.cond (.t 16) (.seq (.reg [⟨some 17, none, .mv (.t 5)⟩,
  ⟨some 4, none, .mv (.t 17)⟩])
  .ret)
  .skip))))
  (.reg [⟨some 18, none, .bop .add (.t 8) (.c (.i .i64 1))⟩,
  ⟨some 8, none, .mv (.t 18)⟩])))))))
  (.seq (.reg [⟨some 4, none, .mv (.c (.i .i64 (-1)))⟩])
  .ret)))⟩
def ir30_160 : XF := ⟨128, 1, [(2, none)], (.seq (.reg [⟨some 1, none, .box 165 1 (.t 0)⟩,
  ⟨some 2, none, .mv (.c .ifn)⟩])
  (.seq (.reg [⟨some 4, none, .mkf (.func 223) [] [(.t 1)]⟩,
  ⟨some 3, none, .mv (.t 4)⟩])
  (.seq (.blk 0 (.seq (.reg [⟨some 6, none, .ld false 1 (.t 1)⟩,
  ⟨some 7, none, .nck (.t 6)⟩,
  ⟨some 8, none, .fa 0 (.t 7)⟩,
  ⟨some 9, none, .ld false 1 (.t 8)⟩,
  ⟨some 10, none, .bop .eql (.t 9) (.c (.i .i8 0))⟩,
  ⟨some 11, none, .mv (.t 10)⟩,
  ⟨some 12, some (11, true), .mv (.t 3)⟩,
  ⟨some 13, some (11, true), .callv (.t 12) [(.c (.b true)), (.c (.b false)), (.c (.b false)), (.c (.b false))]⟩,
  ⟨some 14, none, .pick (.t 11) (.t 13) (.c (.b false))⟩,
  ⟨some 5, none, .mv (.t 14)⟩])
  (.cond (.t 5) (.seq (.reg [⟨some 15, none, .ld false 1 (.t 1)⟩,
  ⟨some 16, none, .nck (.t 15)⟩,
  ⟨some 17, none, .fa 1 (.t 16)⟩,
  ⟨some 18, none, .ld false 1 (.t 17)⟩,
  ⟨some 19, none, .bld [(.i .i64 0)] [(0, 1, (.t 18))]⟩,
  ⟨some 20, none, .mki 262 (.t 19)⟩,
  ⟨some 2, none, .mv (.t 20)⟩])
  .ret)
  (.seq (.reg [⟨some 22, none, .ld false 1 (.t 1)⟩,
  ⟨some 23, none, .nck (.t 22)⟩,
  ⟨some 24, none, .fa 0 (.t 23)⟩,
  ⟨some 25, none, .ld false 1 (.t 24)⟩,
  ⟨some 26, none, .bop .eql (.t 25) (.c (.i .i8 2))⟩,
  ⟨some 27, none, .mv (.t 26)⟩,
  ⟨some 28, some (27, false), .ld false 1 (.t 1)⟩,
  ⟨some 29, some (27, false), .nck (.t 28)⟩,
  ⟨some 30, some (27, false), .fa 0 (.t 29)⟩,
  ⟨some 31, some (27, false), .ld false 1 (.t 30)⟩,
  ⟨some 32, some (27, false), .bop .eql (.t 31) (.c (.i .i8 4))⟩,
  ⟨some 33, none, .pick (.t 27) (.c (.b true)) (.t 32)⟩,
  ⟨some 34, none, .mv (.t 33)⟩,
  ⟨some 35, some (34, true), .mv (.t 3)⟩,
  ⟨some 36, some (34, true), .callv (.t 35) [(.c (.b true)), (.c (.b false)), (.c (.b false)), (.c (.b false))]⟩,
  ⟨some 37, none, .pick (.t 34) (.t 36) (.c (.b false))⟩,
  ⟨some 21, none, .mv (.t 37)⟩])
  (.cond (.t 21) (.seq (.reg [⟨some 38, none, .ld false 1 (.t 1)⟩,
  ⟨some 39, none, .nck (.t 38)⟩,
  ⟨some 40, none, .fa 1 (.t 39)⟩,
  ⟨some 41, none, .ld false 1 (.t 40)⟩,
  ⟨some 42, none, .bld [(.i .i64 0)] [(0, 1, (.t 41))]⟩,
  ⟨some 43, none, .mki 264 (.t 42)⟩,
  ⟨some 2, none, .mv (.t 43)⟩])
  .ret)
  (.seq (.reg [⟨some 45, none, .ld false 1 (.t 1)⟩,
  ⟨some 46, none, .nck (.t 45)⟩,
  ⟨some 47, none, .fa 0 (.t 46)⟩,
  ⟨some 48, none, .ld false 1 (.t 47)⟩,
  ⟨some 49, none, .bop .eql (.t 48) (.c (.i .i8 1))⟩,
  ⟨some 50, none, .mv (.t 49)⟩,
  ⟨some 51, some (50, true), .mv (.t 3)⟩,
  ⟨some 52, some (50, true), .callv (.t 51) [(.c (.b false)), (.c (.b true)), (.c (.b false)), (.c (.b false))]⟩,
  ⟨some 53, none, .pick (.t 50) (.t 52) (.c (.b false))⟩,
  ⟨some 44, none, .mv (.t 53)⟩])
  (.cond (.t 44) (.seq (.reg [⟨some 54, none, .ld false 1 (.t 1)⟩,
  ⟨some 55, none, .nck (.t 54)⟩,
  ⟨some 56, none, .fa 2 (.t 55)⟩,
  ⟨some 57, none, .ld false 1 (.t 56)⟩,
  ⟨some 58, none, .bld [(.s [])] [(0, 1, (.t 57))]⟩,
  ⟨some 59, none, .mki 266 (.t 58)⟩,
  ⟨some 2, none, .mv (.t 59)⟩])
  .ret)
  (.seq (.reg [⟨some 61, none, .ld false 1 (.t 1)⟩,
  ⟨some 62, none, .nck (.t 61)⟩,
  ⟨some 63, none, .fa 0 (.t 62)⟩,
  ⟨some 64, none, .ld false 1 (.t 63)⟩,
  ⟨some 65, none, .bop .eql (.t 64) (.c (.i .i8 3))⟩,
  ⟨some 66, none, .mv (.t 65)⟩,
  ⟨some 67, some (66, true), .mv (.t 3)⟩,
  ⟨some 68, some (66, true), .callv (.t 67) [(.c (.b true)), (.c (.b true)), (.c (.b true)), (.c (.b false))]⟩,
  ⟨some 69, none, .pick (.t 66) (.t 68) (.c (.b false))⟩,
  ⟨some 60, none, .mv (.t 69)⟩])
  (.cond (.t 60) (.seq (.par [⟨some 70, none, .ld false 1 (.t 1)⟩,
  ⟨some 71, none, .nck (.t 70)⟩,
  ⟨some 72, none, .fa 2 (.t 71)⟩,
  ⟨some 73, none, .ld false 1 (.t 72)⟩,
  ⟨some 74, none, .ld false 1 (.t 1)⟩,
  ⟨some 75, none, .nck (.t 74)⟩,
  ⟨some 76, none, .fa 3 (.t 75)⟩,
  ⟨some 77, none, .ld false 1 (.t 76)⟩,
  ⟨some 78, none, .ld false 1 (.t 1)⟩,
  ⟨some 79, none, .nck (.t 78)⟩,
  ⟨some 80, none, .fa 1 (.t 79)⟩,
  ⟨some 81, none, .ld false 1 (.t 80)⟩,
  ⟨some 82, none, .bld [(.s []), (.s []), (.i .i64 0)] [(0, 1, (.t 73)), (1, 1, (.t 77)), (2, 1, (.t 81))]⟩,
  ⟨some 83, none, .mki 268 (.t 82)⟩,
  ⟨some 2, none, .mv (.t 83)⟩] [0, 1, 3, 7, 0, 16, 48, 112, 0, 256, 768, 1792, 4095, 8191, 16383])
  .ret)
  (.seq (.reg [⟨some 85, none, .ld false 1 (.t 1)⟩,
  ⟨some 86, none, .nck (.t 85)⟩,
  ⟨some 87, none, .fa 0 (.t 86)⟩,
  ⟨some 88, none, .ld false 1 (.t 87)⟩,
  ⟨some 89, none, .bop .eql (.t 88) (.c (.i .i8 5))⟩,
  ⟨some 90, none, .mv (.t 89)⟩,
  ⟨some 91, some (90, true), .mv (.t 3)⟩,
  ⟨some 92, some (90, true), .callv (.t 91) [(.c (.b false)), (.c (.b false)), (.c (.b false)), (.c (.b true))]⟩,
  ⟨some 93, none, .pick (.t 90) (.t 92) (.c (.b false))⟩,
  ⟨some 84, none, .mv (.t 93)⟩])
  (.cond (.t 84) (.seq (.reg [⟨some 94, none, .ld false 1 (.t 1)⟩,
  ⟨some 95, none, .nck (.t 94)⟩,
  ⟨some 96, none, .fa 4 (.t 95)⟩,
  ⟨some 97, none, .ld false 1 (.t 96)⟩,
  ⟨some 98, none, .bld [.sln, (.i .i64 0)] [(0, 1, (.t 97)), (1, 1, (.c (.i .i64 (-1))))]⟩,
  ⟨some 99, none, .mki 270 (.t 98)⟩,
  ⟨some 2, none, .mv (.t 99)⟩])
  .ret)
  (.seq (.reg [⟨some 101, none, .ld false 1 (.t 1)⟩,
  ⟨some 102, none, .nck (.t 101)⟩,
  ⟨some 103, none, .fa 0 (.t 102)⟩,
  ⟨some 104, none, .ld false 1 (.t 103)⟩,
  ⟨some 105, none, .bop .eql (.t 104) (.c (.i .i8 6))⟩,
  ⟨some 106, none, .mv (.t 105)⟩,
  ⟨some 107, some (106, true), .mv (.t 3)⟩,
  ⟨some 108, some (106, true), .callv (.t 107) [(.c (.b false)), (.c (.b false)), (.c (.b false)), (.c (.b false))]⟩,
  ⟨some 109, none, .pick (.t 106) (.t 108) (.c (.b false))⟩,
  ⟨some 100, none, .mv (.t 109)⟩])
  (.cond (.t 100) (.seq (.reg [⟨some 110, none, .bld [.sln, (.i .i64 0)] [(0, 1, (.c .sln)), (1, 1, (.c (.i .i64 0)))]⟩,
  ⟨some 111, none, .mki 270 (.t 110)⟩,
  ⟨some 2, none, .mv (.t 111)⟩])
  .ret)
  (.seq (.reg [⟨some 113, none, .ld false 1 (.t 1)⟩,
  ⟨some 114, none, .nck (.t 113)⟩,
  ⟨some 115, none, .fa 0 (.t 114)⟩,
  ⟨some 116, none, .ld false 1 (.t 115)⟩,
  ⟨some 117, none, .bop .eql (.t 116) (.c (.i .i8 7))⟩,
  ⟨some 118, none, .mv (.t 117)⟩,
  ⟨some 119, some (118, true), .mv (.t 3)⟩,
  ⟨some 120, some (118, true), .callv (.t 119) [(.c (.b false)), (.c (.b false)), (.c (.b false)), (.c (.b true))]⟩,
  ⟨some 121, none, .pick (.t 118) (.t 120) (.c (.b false))⟩,
  ⟨some 112, none, .mv (.t 121)⟩])
  (.cond (.t 112) (.seq (.reg [⟨some 122, none, .ld false 1 (.t 1)⟩,
  ⟨some 123, none, .nck (.t 122)⟩,
  ⟨some 124, none, .fa 4 (.t 123)⟩,
  ⟨some 125, none, .ld false 1 (.t 124)⟩,
  ⟨some 126, none, .bld [.sln, (.i .i64 0)] [(0, 1, (.t 125)), (1, 1, (.c (.i .i64 2)))]⟩,
  ⟨some 127, none, .mki 270 (.t 126)⟩,
  ⟨some 2, none, .mv (.t 127)⟩])
  .ret)
  .skip)))))))))))))))
  (.seq (.reg [⟨some 2, none, .mv (.c .ifn)⟩])
  .ret))))⟩
def ir30_161 : XF := ⟨9, 1, [(2, none)], (.seq (.reg [⟨some 2, none, .mv (.c (.b false))⟩])
  (.seq (.reg [⟨some 3, none, .mv (.t 0)⟩,
  ⟨some 4, none, .bop .geq (.t 3) (.c (.i .i64 (-576460752303423488)))⟩,
  ⟨some 5, none, .mv (.t 4)⟩,
  ⟨some 6, some (5, true), .mv (.t 0)⟩,
  ⟨some 7, some (5, true), .bop .leq (.t 6) (.c (.i .i64 576460752303423487))⟩,
  ⟨some 8, none, .pick (.t 5) (.t 7) (.c (.b false))⟩,
  ⟨some 2, none, .mv (.t 8)⟩])
  .ret))⟩
def ir30_162 : XF := ⟨12, 4, [(8, none)], (.seq (.reg [⟨some 5, none, .box 271 1 (.t 1)⟩,
  ⟨some 6, none, .box 3 1 (.t 2)⟩,
  ⟨some 7, none, .box 3 1 (.t 3)⟩,
  ⟨some 8, none, .mv (.c .fn)⟩])
  (.seq (.reg [⟨some 9, none, .mv (.t 0)⟩,
  ⟨some 10, none, .mkf (.func 164) [] [(.t 5), (.t 6), (.t 7)]⟩,
  ⟨some 11, none, .call 163 [(.t 9), (.t 10)]⟩,
  ⟨some 8, none, .mv (.t 11)⟩])
  .ret))⟩
def ir30_163 : XF := ⟨6, 2, [(4, none)], (.seq (.reg [⟨some 2, none, .box 3 1 (.t 0)⟩,
  ⟨some 3, none, .box 29 1 (.t 1)⟩,
  ⟨some 4, none, .mv (.c .fn)⟩])
  (.seq (.reg [⟨some 5, none, .mkf (.func 224) [] [(.t 3), (.t 2)]⟩,
  ⟨some 4, none, .mv (.t 5)⟩])
  .ret))⟩
def ir30_164 : XF := ⟨28, 3, [(3, none)], (.seq (.reg [⟨some 3, none, .mv (.c (.b false))⟩])
  (.seq (.par [⟨some 4, none, .ld false 1 (.t 0)⟩,
  ⟨some 5, none, .callv (.t 4) []⟩,
  ⟨some 6, none, .nck (.t 5)⟩,
  ⟨some 7, none, .fa 0 (.t 6)⟩,
  ⟨some 8, none, .ld false 1 (.t 7)⟩,
  ⟨some 9, none, .bop .eql (.t 8) (.c (.i .i8 0))⟩,
  ⟨some 10, none, .mv (.t 9)⟩,
  ⟨some 11, some (10, true), .ld false 1 (.t 0)⟩,
  ⟨some 12, some (10, true), .callv (.t 11) []⟩,
  ⟨some 13, some (10, true), .nck (.t 12)⟩,
  ⟨some 14, some (10, true), .fa 1 (.t 13)⟩,
  ⟨some 15, some (10, true), .ld false 1 (.t 14)⟩,
  ⟨some 16, some (10, true), .ld false 1 (.t 1)⟩,
  ⟨some 17, some (10, true), .bop .geq (.t 15) (.t 16)⟩,
  ⟨some 18, none, .pick (.t 10) (.t 17) (.c (.b false))⟩,
  ⟨some 19, none, .mv (.t 18)⟩,
  ⟨some 20, some (19, true), .ld false 1 (.t 0)⟩,
  ⟨some 21, some (19, true), .callv (.t 20) []⟩,
  ⟨some 22, some (19, true), .nck (.t 21)⟩,
  ⟨some 23, some (19, true), .fa 1 (.t 22)⟩,
  ⟨some 24, some (19, true), .ld false 1 (.t 23)⟩,
  ⟨some 25, some (19, true), .ld false 1 (.t 2)⟩,
  ⟨some 26, some (19, true), .bop .leq (.t 24) (.t 25)⟩,
  ⟨some 27, none, .pick (.t 19) (.t 26) (.c (.b false))⟩,
  ⟨some 3, none, .mv (.t 27)⟩] [0, 1, 3, 7, 15, 31, 63, 127, 255, 511, 1023, 2047, 127, 8191, 16383, 32767, 65535, 131071, 262143, 524287, 1048575, 65535, 4194303, 8388607, 16777215])
  .ret))⟩
def ir30_165 : XF := ⟨18, 1, [(2, none)], (.seq (.reg [⟨some 2, none, .mv (.c .ifn)⟩])
  (.seq (.seq (.reg [⟨some 6, none, .mv (.t 0)⟩,
  ⟨some 7, none, .len 1 (.t 6)⟩,
  ⟨some 8, none, .mv (.c (.i .i64 0))⟩])
  (.blk 0 (.loop (.seq (.reg [⟨some 9, none, .bop .lss (.t 8) (.t 7)⟩])
  (.seq (.cond (.t 9) .skip
  (.exit 0))
  (.seq (.blk 1 (.seq (.reg [⟨some 10, none, .ia 1 (.t 6) (.t 8)⟩,
  ⟨some 11, none, .ld false 1 (.t 10)⟩,
  ⟨some 4, none, .mv (.t 11)⟩])
  (.seq (.reg [⟨some 12, none, .mv (.t 4)⟩,
  ⟨some 13, none, .callv (.t 12) []⟩,
  ⟨some 5, none, .mv (.t 13)⟩])
  (.seq (.reg [⟨some 14, none, .mv (.t 5)⟩,
  ⟨some 15, none, .eq 4 true true (.t 14) (.c .ifn)⟩])
  (.cond (.t 15) (.seq (.reg [⟨some 16, none, .mv (.t 5)⟩,
  ⟨some 2, none, .mv (.t 16)⟩])
  .ret)
  .skip)))))
  (.reg [⟨some 17, none, .bop .add (.t 8) (.c (.i .i64 1))⟩,
  ⟨some 8, none, .mv (.t 17)⟩])))))))
  (.seq (.reg [⟨some 2, none, .mv (.c .ifn)⟩])
  .ret)))⟩
def ir30_166 : XF := ⟨15, 1, [(1, none)], (.seq (.reg [⟨some 1, none, .mv (.c (.b false))⟩])
  (.seq (.reg [⟨some 2, none, .ld false 1 (.t 0)⟩,
  ⟨some 3, none, .nck (.t 2)⟩,
  ⟨some 4, none, .fa 0 (.t 3)⟩,
  ⟨some 5, none, .ld false 1 (.t 4)⟩,
  ⟨some 6, none, .bop .eql (.t 5) (.c (.i .i8 5))⟩,
  ⟨some 7, none, .mv (.t 6)⟩,
  ⟨some 8, some (7, true), .ld false 1 (.t 0)⟩,
  ⟨some 9, some (7, true), .nck (.t 8)⟩,
  ⟨some 10, some (7, true), .fa 4 (.t 9)⟩,
  ⟨some 11, some (7, true), .ld false 1 (.t 10)⟩,
  ⟨some 12, some (7, true), .len 1 (.t 11)⟩,
  ⟨some 13, some (7, true), .bop .eql (.t 12) (.c (.i .i64 3))⟩,
  ⟨some 14, none, .pick (.t 7) (.t 13) (.c (.b false))⟩,
  ⟨some 1, none, .mv (.t 14)⟩])
  .ret))⟩
def ir30_167 : XF := ⟨14, 2, [(2, none)], (.seq (.reg [⟨some 2, none, .mv (.c (.b false))⟩])
  (.seq (.reg [⟨some 4, none, .ld false 1 (.t 0)⟩,
  ⟨some 5, none, .nck (.t 4)⟩,
  ⟨some 6, none, .fa 4 (.t 5)⟩,
  ⟨some 7, none, .ld false 1 (.t 6)⟩,
  ⟨some 8, none, .ia 5 (.t 7) (.c (.i .i64 0))⟩,
  ⟨some 9, none, .call 168 [(.c (.s [115, 116, 114, 97, 116, 101, 103, 121])), (.t 8)]⟩,
  ⟨some 3, none, .mv (.t 9)⟩,
  ⟨some 10, none, .ex (.t 3) 0⟩,
  ⟨some 11, none, .ex (.t 3) 1⟩,
  ⟨some 12, none, .fa 0 (.t 1)⟩,
  ⟨none, none, .st 1 (.t 12) (.t 10)⟩,
  ⟨some 2, none, .mv (.t 11)⟩])
  (.seq (.reg [⟨some 13, none, .mv (.t 2)⟩,
  ⟨some 2, none, .mv (.t 13)⟩])
  .ret)))⟩
def ir30_168 : XF := ⟨17, 2, [(4, none), (5, none)], (.seq (.reg [⟨some 3, none, .box 165 1 (.t 1)⟩,
  ⟨some 4, none, .mv (.c (.i .i8 0))⟩,
  ⟨some 5, none, .mv (.c (.b false))⟩])
  (.seq (.reg [⟨some 7, none, .call 179 []⟩,
  ⟨some 8, none, .mv (.t 0)⟩,
  ⟨some 9, none, .lk .s false .sln (.t 7) (.t 8)⟩,
  ⟨some 10, none, .mkf (.func 226) [] [(.t 3)]⟩,
  ⟨some 11, none, .call 225 [(.t 9), (.t 10)]⟩,
  ⟨some 6, none, .mv (.t 11)⟩])
  (.seq (.reg [⟨some 12, none, .mv (.t 6)⟩,
  ⟨some 13, none, .mm true (.t 12) (.c (.i .i64 0))⟩,
  ⟨some 14, none, .cvi .i8 (.t 13)⟩,
  ⟨some 15, none, .mv (.t 6)⟩,
  ⟨some 16, none, .bop .geq (.t 15) (.c (.i .i64 0))⟩,
  ⟨some 4, none, .mv (.t 14)⟩,
  ⟨some 5, none, .mv (.t 16)⟩])
  .ret)))⟩
def ir30_169 : XF := ⟨7, 1, [(1, none)], (.seq (.reg [⟨some 1, none, .mv (.c .pn)⟩])
  (.seq (.reg [⟨some 2, none, .ld false 1 (.t 0)⟩,
  ⟨some 3, none, .nck (.t 2)⟩,
  ⟨some 4, none, .fa 4 (.t 3)⟩,
  ⟨some 5, none, .ld false 1 (.t 4)⟩,
  ⟨some 6, none, .ia 5 (.t 5) (.c (.i .i64 1))⟩,
  ⟨some 1, none, .mv (.t 6)⟩])
  .ret))⟩
def ir30_170 : XF := ⟨7, 1, [(1, none)], (.seq (.reg [⟨some 1, none, .mv (.c .pn)⟩])
  (.seq (.reg [⟨some 2, none, .ld false 1 (.t 0)⟩,
  ⟨some 3, none, .nck (.t 2)⟩,
  ⟨some 4, none, .fa 4 (.t 3)⟩,
  ⟨some 5, none, .ld false 1 (.t 4)⟩,
  ⟨some 6, none, .ia 5 (.t 5) (.c (.i .i64 2))⟩,
  ⟨some 1, none, .mv (.t 6)⟩])
  .ret))⟩
def ir30_171 : XF := ⟨29, 4, [(4, none)], (.seq (.reg [⟨some 4, none, .mv (.c (.b false))⟩])
  (.seq (.par [⟨some 5, none, .ld false 1 (.t 0)⟩,
  ⟨some 6, none, .nck (.t 5)⟩,
  ⟨some 7, none, .fa 4 (.t 6)⟩,
  ⟨some 8, none, .ld false 1 (.t 7)⟩,
  ⟨some 9, none, .ia 5 (.t 8) (.c (.i .i64 1))⟩,
  ⟨some 10, none, .fa 1 (.t 9)⟩,
  ⟨some 11, none, .ld false 1 (.t 10)⟩,
  ⟨some 12, none, .ld false 1 (.t 0)⟩,
  ⟨some 13, none, .nck (.t 12)⟩,
  ⟨some 14, none, .fa 4 (.t 13)⟩,
  ⟨some 15, none, .ld false 1 (.t 14)⟩,
  ⟨some 16, none, .ia 5 (.t 15) (.c (.i .i64 2))⟩,
  ⟨some 17, none, .fa 1 (.t 16)⟩,
  ⟨some 18, none, .ld false 1 (.t 17)⟩,
  ⟨some 19, none, .fa 1 (.t 1)⟩,
  ⟨none, none, .st 1 (.t 19) (.t 11)⟩,
  ⟨some 20, none, .fa 2 (.t 1)⟩,
  ⟨none, none, .st 1 (.t 20) (.t 18)⟩] [0, 1, 3, 7, 15, 31, 63, 0, 128, 384, 896, 1920, 3968, 8064, 127, 16511, 65535, 131071])
  (.seq (.reg [⟨some 22, none, .ld false 1 (.t 2)⟩,
  ⟨some 23, none, .nck (.t 22)⟩,
  ⟨some 24, none, .ld true 5 (.t 23)⟩,
  ⟨some 25, none, .call 172 [(.t 24)]⟩,
  ⟨some 21, none, .mv (.t 25)⟩,
  ⟨some 26, none, .ex (.t 21) 0⟩,
  ⟨some 27, none, .ex (.t 21) 1⟩,
  ⟨none, none, .st 1 (.t 3) (.t 26)⟩,
  ⟨some 4, none, .mv (.t 27)⟩])
  (.seq (.reg [⟨some 28, none, .mv (.t 4)⟩,
  ⟨some 4, none, .mv (.t 28)⟩])
  .ret))))⟩
def ir30_172 : XF := ⟨18, 1, [(2, none), (3, none)], (.seq (.reg [⟨some 1, none, .box 82 5 (.t 0)⟩,
  ⟨some 2, none, .mv (.c .sln)⟩,
  ⟨some 3, none, .mv (.c (.b false))⟩])
  (.seq (.seq (.reg [⟨some 6, none, .ld true 5 (.t 1)⟩,
  ⟨some 7, none, .call 49 [(.t 6)]⟩,
  ⟨some 8, none, .bop .neq (.t 7) (.c (.i .i64 0))⟩])
  (.cond (.t 8) (.seq (.reg [⟨some 2, none, .mv (.c .sln)⟩,
  ⟨some 3, none, .mv (.c (.b false))⟩])
  .ret)
  .skip))
  (.seq (.reg [⟨some 10, none, .ld true 5 (.t 1)⟩,
  ⟨some 11, none, .call 227 [(.t 10)]⟩,
  ⟨some 9, none, .mv (.t 11)⟩,
  ⟨some 12, none, .ex (.t 9) 0⟩,
  ⟨some 13, none, .ex (.t 9) 1⟩,
  ⟨some 5, none, .box 82 5 (.c (.ag [(.i .i8 0), (.i .i64 0), (.s []), (.s []), .sln]))⟩,
  ⟨some 4, none, .mv (.t 12)⟩,
  ⟨none, none, .st 5 (.t 5) (.t 13)⟩])
  (.seq (.seq (.reg [⟨some 14, none, .fa 0 (.t 5)⟩,
  ⟨some 15, none, .ld false 1 (.t 14)⟩,
  ⟨some 16, none, .bop .neq (.t 15) (.c (.i .i8 6))⟩])
  (.cond (.t 16) (.seq (.reg [⟨some 2, none, .mv (.c .sln)⟩,
  ⟨some 3, none, .mv (.c (.b false))⟩])
  .ret)
  .skip))
  (.seq (.reg [⟨some 17, none, .mv (.t 4)⟩,
  ⟨some 2, none, .mv (.t 17)⟩,
  ⟨some 3, none, .mv (.c (.b true))⟩])
  .ret)))))⟩
def ir30_173 : XF := ⟨57, 3, [(3, none)], (.seq (.reg [⟨some 3, none, .mv (.c .ifn)⟩])
  (.seq (.seq (.reg [⟨some 9, none, .ld false 1 (.t 0)⟩,
  ⟨some 10, none, .len 1 (.t 9)⟩,
  ⟨some 11, none, .bop .gtr (.t 10) (.c (.i .i64 16))⟩,
  ⟨some 12, none, .mv (.t 11)⟩,
  ⟨some 13, some (12, false), .ld false 1 (.t 1)⟩,
  ⟨some 14, some (12, false), .bop .gtr (.t 13) (.c (.i .i64 6))⟩,
  ⟨some 15, none, .pick (.t 12) (.c (.b true)) (.t 14)⟩])
  (.cond (.t 15) (.seq (.reg [⟨some 16, none, .bld [(.i .i64 0), (.i .i64 0)] [(0, 1, (.c (.i .i64 5))), (1, 1, (.c (.i .i64 3)))]⟩,
  ⟨some 17, none, .box 281 2 (.t 16)⟩,
  ⟨some 18, none, .mki 279 (.t 17)⟩,
  ⟨some 3, none, .mv (.t 18)⟩])
  .ret)
  .skip))
  (.seq (.seq (.reg [⟨some 19, none, .ld false 1 (.t 0)⟩,
  ⟨some 20, none, .len 1 (.t 19)⟩,
  ⟨some 21, none, .mv (.c (.i .i64 0))⟩])
  (.blk 0 (.loop (.seq (.reg [⟨some 22, none, .bop .lss (.t 21) (.t 20)⟩])
  (.seq (.cond (.t 22) .skip
  (.exit 0))
  (.seq (.blk 1 (.seq (.reg [⟨some 23, none, .mv (.t 21)⟩,
  ⟨some 4, none, .mv (.t 23)⟩])
  (.seq (.par [⟨some 25, none, .ld false 1 (.t 0)⟩,
  ⟨some 26, none, .mv (.t 4)⟩,
  ⟨some 27, none, .ia 5 (.t 25) (.t 26)⟩,
  ⟨some 28, none, .ld false 1 (.t 1)⟩,
  ⟨some 29, none, .call 174 [(.t 27), (.t 28)]⟩,
  ⟨some 24, none, .mv (.t 29)⟩,
  ⟨some 30, none, .ex (.t 24) 0⟩,
  ⟨some 31, none, .ex (.t 24) 1⟩,
  ⟨some 5, none, .box 85 12 (.c (.ag [(.i .i8 0), (.i .i64 0), (.s []), (.s []), .sln, (.i .i8 0), (.i .i8 0), (.i .i64 0), (.s []), (.s []), .sln, .sln]))⟩,
  ⟨none, none, .st 12 (.t 5) (.t 30)⟩,
  ⟨some 6, none, .mv (.t 31)⟩] [0, 0, 3, 0, 15, 31, 63, 63, 0, 383, 1023])
  (.seq (.seq (.reg [⟨some 32, none, .mv (.t 6)⟩,
  ⟨some 33, none, .eq 4 true true (.t 32) (.c .ifn)⟩])
  (.cond (.t 33) (.seq (.reg [⟨some 35, none, .mv (.t 6)⟩,
  ⟨some 36, none, .call 113 [(.t 35)]⟩,
  ⟨some 34, none, .mv (.t 36)⟩,
  ⟨some 37, none, .ex (.t 34) 0⟩,
  ⟨some 38, none, .ex (.t 34) 1⟩,
  ⟨some 7, none, .mv (.t 37)⟩,
  ⟨some 8, none, .mv (.t 38)⟩])
  (.seq (.reg [⟨some 39, none, .mv (.t 8)⟩,
  ⟨some 40, none, .bld [(.i .i64 0), (.i .i64 0)] [(0, 1, (.c (.i .i64 6))), (1, 1, (.t 39))]⟩,
  ⟨some 41, none, .box 281 2 (.t 40)⟩,
  ⟨some 42, none, .mki 279 (.t 41)⟩,
  ⟨some 3, none, .mv (.t 42)⟩])
  .ret))
  .skip))
  (.seq (.seq (.reg [⟨some 43, none, .fa 3 (.t 2)⟩,
  ⟨some 44, none, .ld false 1 (.t 43)⟩,
  ⟨some 45, none, .mkf (.func 176) [] [(.t 5)]⟩,
  ⟨some 46, none, .call 175 [(.t 44), (.t 45)]⟩])
  (.cond (.t 46) (.seq (.reg [⟨some 47, none, .bld [(.i .i64 0), (.i .i64 0)] [(0, 1, (.c (.i .i64 6))), (1, 1, (.c (.i .i64 91)))]⟩,
  ⟨some 48, none, .box 281 2 (.t 47)⟩,
  ⟨some 49, none, .mki 279 (.t 48)⟩,
  ⟨some 3, none, .mv (.t 49)⟩])
  .ret)
  .skip))
  (.reg [⟨some 50, none, .fa 3 (.t 2)⟩,
  ⟨some 51, none, .ld false 1 (.t 50)⟩,
  ⟨some 52, none, .ld true 12 (.t 5)⟩,
  ⟨some 53, none, .bls 85 12 1 [(.i .i8 0), (.i .i64 0), (.s []), (.s []), .sln, (.i .i8 0), (.i .i8 0), (.i .i64 0), (.s []), (.s []), .sln, .sln] [(0, 12, (.t 52))]⟩,
  ⟨some 54, none, .app 85 12 (.t 51) (.t 53)⟩,
  ⟨some 55, none, .fa 3 (.t 2)⟩,
  ⟨none, none, .st 1 (.t 55) (.t 54)⟩]))))))
  (.reg [⟨some 56, none, .bop .add (.t 21) (.c (.i .i64 1))⟩,
  ⟨some 21, none, .mv (.t 56)⟩])))))))
  (.seq (.reg [⟨some 3, none, .mv (.c .ifn)⟩])
  .ret))))⟩
def ir30_178 : XF := ⟨11, 2, [(2, none)], (.seq (.reg [⟨some 2, none, .mv (.c (.b false))⟩])
  (.seq (.reg [⟨some 3, none, .fa 0 (.t 0)⟩,
  ⟨some 4, none, .ld false 1 (.t 3)⟩,
  ⟨some 5, none, .bop .neq (.t 4) (.c (.i .i8 3))⟩,
  ⟨some 6, none, .mv (.t 5)⟩,
  ⟨some 7, some (6, false), .ld false 1 (.t 1)⟩,
  ⟨some 8, some (6, false), .len 1 (.t 7)⟩,
  ⟨some 9, some (6, false), .bop .eql (.t 8) (.c (.i .i64 1))⟩,
  ⟨some 10, none, .pick (.t 6) (.c (.b true)) (.t 9)⟩,
  ⟨some 2, none, .mv (.t 10)⟩])
  .ret))⟩
def ir30_179 : XF := ⟨5, 0, [(0, none)], (.seq (.reg [⟨some 0, none, .mv (.c .mn)⟩])
  (.seq (.reg [⟨some 1, none, .mkm⟩,
  ⟨some 2, none, .bls 9 1 3 [(.s []), (.s []), (.s [])] [(0, 1, (.c (.s [112, 101, 114, 109, 97, 110, 101, 110, 116]))), (1, 1, (.c (.s [116, 114, 97, 110, 115, 105, 101, 110, 116]))), (2, 1, (.c (.s [116, 101, 109, 112, 111, 114, 97, 114, 121])))]⟩,
  ⟨none, none, .ins .s (.t 1) (.c (.s [114, 101, 115, 116, 97, 114, 116])) (.t 2)⟩,
  ⟨some 3, none, .bls 9 1 4 [(.s []), (.s []), (.s []), (.s [])] [(0, 1, (.c (.s [111, 110, 101, 95, 102, 111, 114, 95, 111, 110, 101]))), (1, 1, (.c (.s [111, 110, 101, 95, 102, 111, 114, 95, 97, 108, 108]))), (2, 1, (.c (.s [114, 101, 115, 116, 95, 102, 111, 114, 95, 111, 110, 101]))), (3, 1, (.c (.s [115, 105, 109, 112, 108, 101, 95, 111, 110, 101, 95, 102, 111, 114, 95, 111, 110, 101])))]⟩,
  ⟨none, none, .ins .s (.t 1) (.c (.s [115, 116, 114, 97, 116, 101, 103, 121])) (.t 3)⟩,
  ⟨some 4, none, .mv (.t 1)⟩,
  ⟨some 0, none, .mv (.t 4)⟩])
  .ret))⟩
def ir30_182 : XF := ⟨24, 2, [(4, some (true, 5))], (.seq (.reg [⟨some 4, none, .box 82 5 (.c (.ag [(.i .i8 0), (.i .i64 0), (.s []), (.s []), .sln]))⟩])
  (.seq (.reg [⟨some 8, none, .mv (.t 1)⟩,
  ⟨some 9, none, .call 238 [(.t 8)]⟩,
  ⟨some 7, none, .mv (.t 9)⟩,
  ⟨some 10, none, .ex (.t 7) 0⟩,
  ⟨some 11, none, .ex (.t 7) 1⟩,
  ⟨some 5, none, .box 82 5 (.c (.ag [(.i .i8 0), (.i .i64 0), (.s []), (.s []), .sln]))⟩,
  ⟨none, none, .st 5 (.t 5) (.t 10)⟩,
  ⟨some 6, none, .mv (.t 11)⟩])
  (.seq (.reg [⟨some 12, none, .mv (.t 0)⟩,
  ⟨some 13, none, .mv (.t 0)⟩,
  ⟨some 14, none, .nck (.t 13)⟩,
  ⟨some 15, none, .fa 0 (.t 14)⟩,
  ⟨some 16, none, .ld false 1 (.t 15)⟩,
  ⟨some 17, none, .mv (.t 16)⟩,
  ⟨some 18, some (17, false), .mv (.t 6)⟩,
  ⟨some 19, some (17, false), .bop .neq (.t 18) (.c (.i .i64 0))⟩,
  ⟨some 20, none, .pick (.t 17) (.c (.b true)) (.t 19)⟩,
  ⟨some 21, none, .nck (.t 12)⟩,
  ⟨some 22, none, .fa 0 (.t 21)⟩,
  ⟨none, none, .st 1 (.t 22) (.t 20)⟩])
  (.seq (.reg [⟨some 23, none, .ld true 5 (.t 5)⟩,
  ⟨none, none, .st 5 (.t 4) (.t 23)⟩])
  .ret))))⟩
def ir30_183 : XF := ⟨5, 1, [(2, some (true, 5))], (.seq (.reg [⟨some 2, none, .box 82 5 (.c (.ag [(.i .i8 0), (.i .i64 0), (.s []), (.s []), .sln]))⟩])
  (.seq (.reg [⟨some 3, none, .mv (.t 0)⟩,
  ⟨some 4, none, .bld [(.i .i8 0), (.i .i64 0), (.s []), (.s []), .sln] [(0, 1, (.c (.i .i8 1))), (2, 1, (.t 3))]⟩,
  ⟨none, none, .st 5 (.t 2) (.t 4)⟩])
  .ret))⟩
def ir30_184 : XF := ⟨24, 2, [(4, some (true, 5))], (.seq (.reg [⟨some 4, none, .box 82 5 (.c (.ag [(.i .i8 0), (.i .i64 0), (.s []), (.s []), .sln]))⟩])
  (.seq (.reg [⟨some 8, none, .mv (.t 1)⟩,
  ⟨some 9, none, .call 239 [(.t 8)]⟩,
  ⟨some 7, none, .mv (.t 9)⟩,
  ⟨some 10, none, .ex (.t 7) 0⟩,
  ⟨some 11, none, .ex (.t 7) 1⟩,
  ⟨some 5, none, .box 82 5 (.c (.ag [(.i .i8 0), (.i .i64 0), (.s []), (.s []), .sln]))⟩,
  ⟨none, none, .st 5 (.t 5) (.t 10)⟩,
  ⟨some 6, none, .mv (.t 11)⟩])
  (.seq (.reg [⟨some 12, none, .mv (.t 0)⟩,
  ⟨some 13, none, .mv (.t 0)⟩,
  ⟨some 14, none, .nck (.t 13)⟩,
  ⟨some 15, none, .fa 0 (.t 14)⟩,
  ⟨some 16, none, .ld false 1 (.t 15)⟩,
  ⟨some 17, none, .mv (.t 16)⟩,
  ⟨some 18, some (17, false), .mv (.t 6)⟩,
  ⟨some 19, some (17, false), .bop .neq (.t 18) (.c (.i .i64 0))⟩,
  ⟨some 20, none, .pick (.t 17) (.c (.b true)) (.t 19)⟩,
  ⟨some 21, none, .nck (.t 12)⟩,
  ⟨some 22, none, .fa 0 (.t 21)⟩,
  ⟨none, none, .st 1 (.t 22) (.t 20)⟩])
  (.seq (.reg [⟨some 23, none, .ld true 5 (.t 5)⟩,
  ⟨none, none, .st 5 (.t 4) (.t 23)⟩])
  .ret))))⟩
def ir30_187 : XF := ⟨19, 1, [(2, none)], (.seq (.reg [⟨some 2, none, .mv (.c (.i .i64 0))⟩])
  (.seq (.seq (.reg [⟨some 4, none, .mv (.t 0)⟩,
  ⟨some 5, none, .len 0 (.t 4)⟩,
  ⟨some 6, none, .mv (.c (.i .i64 0))⟩])
  (.blk 0 (.loop (.seq (.reg [⟨some 7, none, .bop .lss (.t 6) (.t 5)⟩])
  (.seq (.cond (.t 7) .skip
  (.exit 0))
  (.seq (.blk 1 (.seq (.reg [⟨some 8, none, .mv (.t 6)⟩,
  ⟨some 3, none, .mv (.t 8)⟩])
  (.seq (.par [⟨some 9, none, .mv (.t 0)⟩,
  ⟨some 10, none, .mv (.t 3)⟩,
  ⟨some 11, none, .ixS (.t 9) (.t 10)⟩,
  ⟨some 12, none, .slcA 4 2 (.c (.p 2 0)) none none none⟩,
  ⟨some 13, none, .call 210 [(.t 11), (.t 12)]⟩,
  ⟨some 14, none, .un .not (.t 13)⟩] [0, 0, 3, 0, 15, 31])
  (.cond (.t 14) (.seq (.reg [⟨some 15, none, .mv (.t 3)⟩,
  ⟨some 2, none, .mv (.t 15)⟩])
  .ret)
  .skip))))
  (.reg [⟨some 16, none, .bop .add (.t 6) (.c (.i .i64 1))⟩,
  ⟨some 6, none, .mv (.t 16)⟩])))))))
  (.seq (.reg [⟨some 17, none, .mv (.t 0)⟩,
  ⟨some 18, none, .len 0 (.t 17)⟩,
  ⟨some 2, none, .mv (.t 18)⟩])
  .ret)))⟩
def ir30_188 : XF := ⟨49, 2, [(4, some (true, 4)), (5, none), (6, some (true, 2))], (.seq (.reg [⟨some 4, none, .box 127 4 (.c (.ag [(.i .i8 0), (.i .i64 0), (.s []), (.i .i64 0)]))⟩,
  ⟨some 5, none, .mv (.c (.i .i64 0))⟩,
  ⟨some 6, none, .box 24 2 (.c (.ag [(.i .i64 0), (.i .i64 0)]))⟩])
  (.seq (.reg [⟨some 7, none, .mv (.c (.i .i64 0))⟩,
  ⟨some 8, none, .mv (.c (.i .i64 0))⟩])
  (.seq (.blk 0 (.loop (.seq (.seq (.reg [⟨some 9, none, .mv (.t 8)⟩,
  ⟨some 10, none, .mv (.t 0)⟩,
  ⟨some 11, none, .len 0 (.t 10)⟩,
  ⟨some 12, none, .bop .lss (.t 9) (.t 11)⟩,
  ⟨some 13, none, .mv (.t 12)⟩,
  ⟨some 14, some (13, true), .mv (.t 0)⟩,
  ⟨some 15, some (13, true), .mv (.t 8)⟩,
  ⟨some 16, some (13, true), .ixS (.t 14) (.t 15)⟩,
  ⟨some 17, some (13, true), .bop .leq (.c (.i .u8 48)) (.t 16)⟩,
  ⟨some 18, none, .pick (.t 13) (.t 17) (.c (.b false))⟩,
  ⟨some 19, none, .mv (.t 18)⟩,
  ⟨some 20, some (19, true), .mv (.t 0)⟩,
  ⟨some 21, some (19, true), .mv (.t 8)⟩,
  ⟨some 22, some (19, true), .ixS (.t 20) (.t 21)⟩,
  ⟨some 23, some (19, true), .bop .leq (.t 22) (.c (.i .u8 57))⟩,
  ⟨some 24, none, .pick (.t 19) (.t 23) (.c (.b false))⟩])
  (.cond (.t 24) .skip
  (.exit 0)))
  (.seq (.blk 1 (.reg [⟨some 27, none, .mv (.t 7)⟩,
  ⟨some 28, none, .bop .mul (.t 27) (.c (.i .i64 10))⟩,
  ⟨some 29, none, .mv (.t 0)⟩,
  ⟨some 30, none, .mv (.t 8)⟩,
  ⟨some 31, none, .ixS (.t 29) (.t 30)⟩,
  ⟨some 32, none, .bop .sub (.t 31) (.c (.i .u8 48))⟩,
  ⟨some 33, none, .cvi .i64 (.t 32)⟩,
  ⟨some 34, none, .bop .add (.t 28) (.t 33)⟩,
  ⟨some 35, none, .mm false (.t 34) (.c (.i .i64 576460752303423489))⟩,
  ⟨some 7, none, .mv (.t 35)⟩]))
  (.reg [⟨some 25, none, .mv (.t 8)⟩,
  ⟨some 26, none, .bop .add (.t 25) (.c (.i .i64 1))⟩,
  ⟨some 8, none, .mv (.t 26)⟩])))))
  (.seq (.seq (.reg [⟨some 36, none, .mv (.t 7)⟩,
  ⟨some 37, none, .bop .gtr (.t 36) (.c (.i .i64 576460752303423488))⟩])
  (.cond (.t 37) (.seq (.reg [⟨some 38, none, .bld [(.i .i8 0), (.i .i64 0), (.s []), (.i .i64 0)] []⟩,
  ⟨some 39, none, .mv (.t 1)⟩,
  ⟨some 40, none, .mv (.t 1)⟩,
  ⟨some 41, none, .bld [(.i .i64 0), (.i .i64 0)] [(0, 1, (.c (.i .i64 11))), (1, 1, (.t 40))]⟩,
  ⟨none, none, .st 4 (.t 4) (.t 38)⟩,
  ⟨some 5, none, .mv (.t 39)⟩,
  ⟨none, none, .st 2 (.t 6) (.t 41)⟩])
  .ret)
  .skip))
  (.seq (.reg [⟨some 42, none, .mv (.t 7)⟩,
  ⟨some 43, none, .mv (.t 1)⟩,
  ⟨some 44, none, .bld [(.i .i8 0), (.i .i64 0), (.s []), (.i .i64 0)] [(0, 1, (.c (.i .i8 2))), (1, 1, (.t 42)), (3, 1, (.t 43))]⟩,
  ⟨some 45, none, .mv (.t 1)⟩,
  ⟨some 46, none, .mv (.t 8)⟩,
  ⟨some 47, none, .bop .add (.t 45) (.t 46)⟩,
  ⟨some 48, none, .bld [(.i .i64 0), (.i .i64 0)] []⟩,
  ⟨none, none, .st 4 (.t 4) (.t 44)⟩,
  ⟨some 5, none, .mv (.t 47)⟩,
  ⟨none, none, .st 2 (.t 6) (.t 48)⟩])
  .ret)))))⟩
def ir30_189 : XF := ⟨13, 1, [(2, none)], (.seq (.reg [⟨some 2, none, .mv (.c (.b false))⟩])
  (.seq (.seq (.reg [⟨some 5, none, .ld true 13 (.c (.p 3 0))⟩,
  ⟨some 6, none, .mv (.c (.i .i64 0))⟩])
  (.blk 0 (.loop (.seq (.reg [⟨some 7, none, .bop .lss (.t 6) (.c (.i .i64 13))⟩])
  (.seq (.cond (.t 7) .skip
  (.exit 0))
  (.seq (.blk 1 (.seq (.reg [⟨some 8, none, .ixA false 13 1 (.t 5) (.t 6)⟩,
  ⟨some 4, none, .mv (.t 8)⟩])
  (.seq (.reg [⟨some 9, none, .mv (.t 4)⟩,
  ⟨some 10, none, .mv (.t 0)⟩,
  ⟨some 11, none, .bop .eql (.t 9) (.t 10)⟩])
  (.cond (.t 11) (.seq (.reg [⟨some 2, none, .mv (.c (.b true))⟩])
  .ret)
  .skip))))
  (.reg [⟨some 12, none, .bop .add (.t 6) (.c (.i .i64 1))⟩,
  ⟨some 6, none, .mv (.t 12)⟩])))))))
  (.seq (.reg [⟨some 2, none, .mv (.c (.b false))⟩])
  .ret)))⟩
def ir30_190 : XF := ⟨8, 2, [(4, none)], (.seq (.reg [⟨some 4, none, .mv (.c (.b false))⟩])
  (.seq (.reg [⟨some 5, none, .mv (.t 0)⟩,
  ⟨some 6, none, .mv (.t 1)⟩,
  ⟨some 7, none, .call 242 [(.t 5), (.t 6)]⟩,
  ⟨some 4, none, .mv (.t 7)⟩])
  .ret))⟩
def ir30_191 : XF := ⟨160, 2, [(4, some (true, 5))], (.seq (.reg [⟨some 4, none, .box 104 5 (.c (.ag [(.i .i8 0), (.i .i64 0), (.s []), (.s []), .sln]))⟩])
  (.seq (.reg [⟨some 10, none, .mv (.t 0)⟩,
  ⟨some 11, none, .mkf (.func 121) [(.t 10)] []⟩,
  ⟨some 12, none, .mv (.t 0)⟩,
  ⟨some 13, none, .mkf (.func 241) [(.t 12)] []⟩,
  ⟨some 14, none, .mv (.t 0)⟩,
  ⟨some 15, none, .mkf (.func 67) [(.t 14)] []⟩,
  ⟨some 16, none, .bld [.fn, .fn, .fn] [(0, 1, (.t 11)), (1, 1, (.t 13)), (2, 1, (.t 15))]⟩,
  ⟨some 17, none, .mv (.t 1)⟩,
  ⟨some 18, none, .ixA false 3 1 (.t 16) (.t 17)⟩,
  ⟨some 5, none, .mv (.t 18)⟩])
  (.seq (.seq (.reg [⟨some 19, none, .mv (.t 0)⟩,
  ⟨some 20, none, .call 36 [(.t 19)]⟩,
  ⟨some 6, none, .box 127 4 (.c (.ag [(.i .i8 0), (.i .i64 0), (.s []), (.i .i64 0)]))⟩,
  ⟨none, none, .st 4 (.t 6) (.t 20)⟩])
  (.seq (.reg [⟨some 21, none, .fa 0 (.t 6)⟩,
  ⟨some 22, none, .ld false 1 (.t 21)⟩])
  (.blk 0 (.seq (.reg [⟨some 24, none, .bop .eql (.t 22) (.c (.i .i8 1))⟩,
  ⟨some 23, none, .mv (.t 24)⟩])
  (.cond (.t 23) (.seq (.reg [⟨some 25, none, .mv (.t 0)⟩,
  ⟨some 26, none, .nck (.t 25)⟩,
  ⟨some 27, none, .fa 1 (.t 26)⟩,
  ⟨some 28, none, .ld false 1 (.t 27)⟩,
  ⟨some 29, none, .bop .add (.t 28) (.c (.i .i64 1))⟩,
  ⟨some 30, none, .nck (.t 25)⟩,
  ⟨some 31, none, .fa 1 (.t 30)⟩,
  ⟨none, none, .st 1 (.t 31) (.t 29)⟩])
  (.seq (.reg [⟨some 32, none, .fa 2 (.t 6)⟩,
  ⟨some 33, none, .ld false 1 (.t 32)⟩,
  ⟨some 34, none, .bld [(.i .i8 0), (.i .i64 0), (.s []), (.s []), .sln] [(0, 1, (.c (.i .i8 5))), (2, 1, (.t 33))]⟩,
  ⟨some 7, none, .box 104 5 (.c (.ag [(.i .i8 0), (.i .i64 0), (.s []), (.s []), .sln]))⟩,
  ⟨none, none, .st 5 (.t 7) (.t 34)⟩])
  (.seq (.seq (.reg [⟨some 35, none, .mv (.t 1)⟩,
  ⟨some 36, none, .bop .eql (.t 35) (.c (.i .i64 2))⟩,
  ⟨some 37, none, .mv (.t 36)⟩,
  ⟨some 38, some (37, true), .mv (.t 0)⟩,
  ⟨some 39, some (37, true), .call 58 [(.t 38), (.c (.s [40]))]⟩,
  ⟨some 40, none, .pick (.t 37) (.t 39) (.c (.b false))⟩])
  (.cond (.t 40) (.seq (.par [⟨some 41, none, .ld true 5 (.t 7)⟩,
  ⟨some 42, none, .bls 104 5 1 [(.i .i8 0), (.i .i64 0), (.s []), (.s []), .sln] [(0, 5, (.t 41))]⟩,
  ⟨some 43, none, .mv (.t 0)⟩,
  ⟨some 44, none, .mv (.t 0)⟩,
  ⟨some 45, none, .mkf (.func 67) [(.t 44)] []⟩,
  ⟨some 46, none, .call 120 [(.t 43), (.t 45), (.c (.s [41])), (.c (.i .i64 8))]⟩,
  ⟨some 47, none, .app 104 5 (.t 42) (.t 46)⟩,
  ⟨some 48, none, .bld [(.i .i8 0), (.i .i64 0), (.s []), (.s []), .sln] [(0, 1, (.c (.i .i8 16))), (4, 1, (.t 47))]⟩,
  ⟨none, none, .st 5 (.t 4) (.t 48)⟩] [0, 1, 0, 0, 8, 28, 63, 127, 255])
  .ret)
  .skip))
  (.seq (.reg [⟨some 49, none, .ld true 5 (.t 7)⟩,
  ⟨none, none, .st 5 (.t 4) (.t 49)⟩])
  .ret))))
  (.seq (.reg [⟨some 51, none, .bop .eql (.t 22) (.c (.i .i8 2))⟩,
  ⟨some 50, none, .mv (.t 51)⟩])
  (.cond (.t 50) (.seq (.reg [⟨some 52, none, .mv (.t 0)⟩,
  ⟨some 53, none, .call 116 [(.t 52), (.c (.b false))]⟩,
  ⟨some 54, none, .bld [(.i .i8 0), (.i .i64 0), (.s []), (.s []), .sln] [(0, 1, (.c (.i .i8 6))), (1, 1, (.t 53))]⟩,
  ⟨none, none, .st 5 (.t 4) (.t 54)⟩])
  .ret)
  (.seq (.reg [⟨some 56, none, .bop .eql (.t 22) (.c (.i .i8 0))⟩,
  ⟨some 55, none, .mv (.t 56)⟩])
  (.cond (.t 55) (.seq (.reg [⟨some 57, none, .mv (.t 0)⟩,
  ⟨some 58, none, .nck (.t 57)⟩,
  ⟨some 59, none, .fa 1 (.t 58)⟩,
  ⟨some 60, none, .ld false 1 (.t 59)⟩,
  ⟨some 61, none, .bop .add (.t 60) (.c (.i .i64 1))⟩,
  ⟨some 62, none, .nck (.t 57)⟩,
  ⟨some 63, none, .fa 1 (.t 62)⟩,
  ⟨none, none, .st 1 (.t 63) (.t 61)⟩])
  (.seq (.reg [⟨some 64, none, .mv (.t 0)⟩,
  ⟨some 65, none, .fa 2 (.t 6)⟩,
  ⟨some 66, none, .ld false 1 (.t 65)⟩,
  ⟨some 67, none, .mv (.t 1)⟩,
  ⟨some 68, none, .call 243 [(.t 64), (.t 66), (.t 67)]⟩,
  ⟨none, none, .st 5 (.t 4) (.t 68)⟩])
  .ret))
  (.seq (.reg [⟨some 70, none, .bop .eql (.t 22) (.c (.i .i8 3))⟩,
  ⟨some 69, none, .mv (.t 70)⟩])
  (.cond (.t 69) (.seq (.par [⟨some 72, none, .mv (.t 0)⟩,
  ⟨some 73, none, .nck (.t 72)⟩,
  ⟨some 74, none, .fa 8 (.t 73)⟩,
  ⟨some 75, none, .ld false 1 (.t 74)⟩,
  ⟨some 76, none, .fa 2 (.t 6)⟩,
  ⟨some 77, none, .ld false 1 (.t 76)⟩,
  ⟨some 78, none, .lk .s true .fn (.t 75) (.t 77)⟩,
  ⟨some 71, none, .mv (.t 78)⟩,
  ⟨some 79, none, .ex (.t 71) 0⟩,
  ⟨some 80, none, .ex (.t 71) 1⟩,
  ⟨some 8, none, .mv (.t 79)⟩,
  ⟨some 9, none, .mv (.t 80)⟩] [0, 1, 3, 7, 0, 16, 63, 127, 255, 255, 511, 2047])
  (.blk 1 (.seq (.reg [⟨some 82, none, .mv (.t 9)⟩,
  ⟨some 83, none, .mv (.t 82)⟩,
  ⟨some 84, some (83, true), .mv (.t 1)⟩,
  ⟨some 85, some (83, true), .bop .eql (.t 84) (.c (.i .i64 2))⟩,
  ⟨some 86, none, .pick (.t 83) (.t 85) (.c (.b false))⟩,
  ⟨some 81, none, .mv (.t 86)⟩])
  (.cond (.t 81) (.seq (.reg [⟨some 87, none, .mv (.t 0)⟩,
  ⟨some 88, none, .nck (.t 87)⟩,
  ⟨some 89, none, .fa 1 (.t 88)⟩,
  ⟨some 90, none, .ld false 1 (.t 89)⟩,
  ⟨some 91, none, .bop .add (.t 90) (.c (.i .i64 1))⟩,
  ⟨some 92, none, .nck (.t 87)⟩,
  ⟨some 93, none, .fa 1 (.t 92)⟩,
  ⟨none, none, .st 1 (.t 93) (.t 91)⟩])
  (.seq (.reg [⟨some 94, none, .mv (.t 8)⟩,
  ⟨some 95, none, .callv (.t 94) []⟩,
  ⟨none, none, .st 5 (.t 4) (.t 95)⟩])
  .ret))
  (.seq (.reg [⟨some 97, none, .fa 2 (.t 6)⟩,
  ⟨some 98, none, .ld false 1 (.t 97)⟩,
  ⟨some 99, none, .bop .eql (.t 98) (.c (.s [45]))⟩,
  ⟨some 96, none, .mv (.t 99)⟩])
  (.cond (.t 96) (.seq (.reg [⟨some 100, none, .mv (.t 0)⟩,
  ⟨some 101, none, .nck (.t 100)⟩,
  ⟨some 102, none, .fa 1 (.t 101)⟩,
  ⟨some 103, none, .ld false 1 (.t 102)⟩,
  ⟨some 104, none, .bop .add (.t 103) (.c (.i .i64 1))⟩,
  ⟨some 105, none, .nck (.t 100)⟩,
  ⟨some 106, none, .fa 1 (.t 105)⟩,
  ⟨none, none, .st 1 (.t 106) (.t 104)⟩])
  (.seq (.reg [⟨some 107, none, .mv (.t 0)⟩,
  ⟨some 108, none, .call 116 [(.t 107), (.c (.b true))]⟩,
  ⟨some 109, none, .bld [(.i .i8 0), (.i .i64 0), (.s []), (.s []), .sln] [(0, 1, (.c (.i .i8 6))), (1, 1, (.t 108))]⟩,
  ⟨none, none, .st 5 (.t 4) (.t 109)⟩])
  .ret))
  (.seq (.reg [⟨some 111, none, .fa 2 (.t 6)⟩,
  ⟨some 112, none, .ld false 1 (.t 111)⟩,
  ⟨some 113, none, .bop .eql (.t 112) (.c (.s [123]))⟩,
  ⟨some 110, none, .mv (.t 113)⟩])
  (.cond (.t 110) (.seq (.reg [⟨some 114, none, .mv (.t 0)⟩,
  ⟨some 115, none, .nck (.t 114)⟩,
  ⟨some 116, none, .fa 1 (.t 115)⟩,
  ⟨some 117, none, .ld false 1 (.t 116)⟩,
  ⟨some 118, none, .bop .add (.t 117) (.c (.i .i64 1))⟩,
  ⟨some 119, none, .nck (.t 114)⟩,
  ⟨some 120, none, .fa 1 (.t 119)⟩,
  ⟨none, none, .st 1 (.t 120) (.t 118)⟩])
  (.seq (.reg [⟨some 121, none, .mv (.t 0)⟩,
  ⟨some 122, none, .mv (.t 5)⟩,
  ⟨some 123, none, .call 120 [(.t 121), (.t 122), (.c (.s [125])), (.c (.i .i64 4096))]⟩,
  ⟨some 124, none, .bld [(.i .i8 0), (.i .i64 0), (.s []), (.s []), .sln] [(0, 1, (.c (.i .i8 10))), (4, 1, (.t 123))]⟩,
  ⟨none, none, .st 5 (.t 4) (.t 124)⟩])
  .ret))
  (.seq (.reg [⟨some 126, none, .fa 2 (.t 6)⟩,
  ⟨some 127, none, .ld false 1 (.t 126)⟩,
  ⟨some 128, none, .bop .eql (.t 127) (.c (.s [91]))⟩,
  ⟨some 125, none, .mv (.t 128)⟩])
  (.cond (.t 125) (.seq (.reg [⟨some 129, none, .mv (.t 0)⟩,
  ⟨some 130, none, .nck (.t 129)⟩,
  ⟨some 131, none, .fa 1 (.t 130)⟩,
  ⟨some 132, none, .ld false 1 (.t 131)⟩,
  ⟨some 133, none, .bop .add (.t 132) (.c (.i .i64 1))⟩,
  ⟨some 134, none, .nck (.t 129)⟩,
  ⟨some 135, none, .fa 1 (.t 134)⟩,
  ⟨none, none, .st 1 (.t 135) (.t 133)⟩])
  (.seq (.reg [⟨some 136, none, .mv (.t 0)⟩,
  ⟨some 137, none, .mv (.t 5)⟩,
  ⟨some 138, none, .call 244 [(.t 136), (.t 137)]⟩,
  ⟨none, none, .st 5 (.t 4) (.t 138)⟩])
  .ret))
  (.seq (.reg [⟨some 140, none, .fa 2 (.t 6)⟩,
  ⟨some 141, none, .ld false 1 (.t 140)⟩,
  ⟨some 142, none, .bop .eql (.t 141) (.c (.s [40]))⟩,
  ⟨some 143, none, .mv (.t 142)⟩,
  ⟨some 144, some (143, true), .mv (.t 1)⟩,
  ⟨some 145, some (143, true), .bop .gtr (.t 144) (.c (.i .i64 0))⟩,
  ⟨some 146, none, .pick (.t 143) (.t 145) (.c (.b false))⟩,
  ⟨some 139, none, .mv (.t 146)⟩])
  (.cond (.t 139) (.seq (.reg [⟨some 147, none, .mv (.t 0)⟩,
  ⟨some 148, none, .nck (.t 147)⟩,
  ⟨some 149, none, .fa 1 (.t 148)⟩,
  ⟨some 150, none, .ld false 1 (.t 149)⟩,
  ⟨some 151, none, .bop .add (.t 150) (.c (.i .i64 1))⟩,
  ⟨some 152, none, .nck (.t 147)⟩,
  ⟨some 153, none, .fa 1 (.t 152)⟩,
  ⟨none, none, .st 1 (.t 153) (.t 151)⟩])
  (.seq (.reg [⟨some 154, none, .mv (.t 0)⟩,
  ⟨some 155, none, .mv (.t 5)⟩,
  ⟨some 156, none, .mv (.t 1)⟩,
  ⟨some 157, none, .call 245 [(.t 154), (.t 155), (.t 156)]⟩,
  ⟨none, none, .st 5 (.t 4) (.t 157)⟩])
  .ret))
  .skip))))))))))))
  .skip)))))))))))
  (.seq (.reg [⟨some 158, none, .mv (.t 0)⟩,
  ⟨some 159, none, .call 63 [(.t 158)]⟩,
  ⟨none, none, .st 5 (.t 4) (.t 159)⟩])
  .ret))))⟩
def ir30_192 : XF := ⟨2, 0, [(0, some (true, 22))], (.seq (.reg [⟨some 0, none, .box 299 22 (.c (.ag [.fn, .fn, .fn, .fn, .fn, .fn, .fn, .fn, .fn, .fn, .fn, .fn, .fn, .fn, .fn, .fn, .fn, .fn, .fn, .fn, .fn, .fn]))⟩])
  (.seq (.reg [⟨some 1, none, .bld [.fn, .fn, .fn, .fn, .fn, .fn, .fn, .fn, .fn, .fn, .fn, .fn, .fn, .fn, .fn, .fn, .fn, .fn, .fn, .fn, .fn, .fn] [(5, 1, (.c (.f (.func 246) [] []))), (6, 1, (.c (.f (.func 248) [] []))), (7, 1, (.c (.f (.func 249) [] []))), (8, 1, (.c (.f (.func 250) [] []))), (21, 1, (.c .fn))]⟩,
  ⟨none, none, .st 22 (.t 0) (.t 1)⟩])
  .ret))⟩
def ir30_193 : XF := ⟨12, 2, [], (.seq (.reg [⟨some 3, none, .box 188 1 (.t 1)⟩])
  (.seq (.reg [⟨some 4, none, .mv (.t 0)⟩,
  ⟨some 5, none, .mkf (.func 251) [] [(.t 3)]⟩,
  ⟨some 6, none, .nck (.t 4)⟩,
  ⟨some 7, none, .iaA 22 1 (.t 6) (.c (.i .i8 10))⟩,
  ⟨none, none, .st 1 (.t 7) (.t 5)⟩])
  (.reg [⟨some 8, none, .mv (.t 0)⟩,
  ⟨some 9, none, .mkf (.func 252) [] [(.t 3)]⟩,
  ⟨some 10, none, .nck (.t 8)⟩,
  ⟨some 11, none, .iaA 22 1 (.t 10) (.c (.i .i8 9))⟩,
  ⟨none, none, .st 1 (.t 11) (.t 9)⟩])))⟩
def ir30_195 : XF := ⟨6, 2, [(4, none)], (.seq (.reg [⟨some 2, none, .box 125 1 (.t 0)⟩,
  ⟨some 3, none, .box 188 1 (.t 1)⟩,
  ⟨some 4, none, .mv (.c .fn)⟩])
  (.seq (.reg [⟨some 5, none, .mkf (.func 253) [] [(.t 2), (.t 3)]⟩,
  ⟨some 4, none, .mv (.t 5)⟩])
  .ret))⟩
def ir30_208 : XF := ⟨41, 2, [(4, none)], (.seq (.reg [⟨some 4, none, .mv (.c (.b false))⟩])
  (.seq (.par [⟨some 5, none, .mv (.t 1)⟩,
  ⟨some 6, none, .nck (.t 5)⟩,
  ⟨some 7, none, .fa 0 (.t 6)⟩,
  ⟨some 8, none, .ld false 1 (.t 7)⟩,
  ⟨some 9, none, .bop .geq (.t 8) (.c (.i .i8 0))⟩,
  ⟨some 10, none, .mv (.t 9)⟩,
  ⟨some 11, some (10, true), .mv (.t 1)⟩,
  ⟨some 12, some (10, true), .nck (.t 11)⟩,
  ⟨some 13, some (10, true), .fa 0 (.t 12)⟩,
  ⟨some 14, some (10, true), .ld false 1 (.t 13)⟩,
  ⟨some 15, some (10, true), .cvi .i64 (.t 14)⟩,
  ⟨some 16, some (10, true), .bop .lss (.t 15) (.c (.i .i64 22))⟩,
  ⟨some 17, none, .pick (.t 10) (.t 16) (.c (.b false))⟩,
  ⟨some 18, none, .mv (.t 17)⟩,
  ⟨some 19, some (18, true), .mv (.t 0)⟩,
  ⟨some 20, some (18, true), .mv (.t 1)⟩,
  ⟨some 21, some (18, true), .nck (.t 20)⟩,
  ⟨some 22, some (18, true), .fa 0 (.t 21)⟩,
  ⟨some 23, some (18, true), .ld false 1 (.t 22)⟩,
  ⟨some 24, some (18, true), .nck (.t 19)⟩,
  ⟨some 25, some (18, true), .iaA 22 1 (.t 24) (.t 23)⟩,
  ⟨some 26, some (18, true), .ld false 1 (.t 25)⟩,
  ⟨some 27, some (18, true), .eq 3 true true (.t 26) (.c .fn)⟩,
  ⟨some 28, none, .pick (.t 18) (.t 27) (.c (.b false))⟩,
  ⟨some 29, none, .mv (.t 28)⟩,
  ⟨some 30, some (29, true), .mv (.t 0)⟩,
  ⟨some 31, some (29, true), .mv (.t 1)⟩,
  ⟨some 32, some (29, true), .nck (.t 31)⟩,
  ⟨some 33, some (29, true), .fa 0 (.t 32)⟩,
  ⟨some 34, some (29, true), .ld false 1 (.t 33)⟩,
  ⟨some 35, some (29, true), .nck (.t 30)⟩,
  ⟨some 36, some (29, true), .iaA 22 1 (.t 35) (.t 34)⟩,
  ⟨some 37, some (29, true), .ld false 1 (.t 36)⟩,
  ⟨some 38, some (29, true), .mv (.t 1)⟩,
  ⟨some 39, some (29, true), .callv (.t 37) [(.t 38)]⟩,
  ⟨some 40, none, .pick (.t 29) (.t 39) (.c (.b false))⟩,
  ⟨some 4, none, .mv (.t 40)⟩] [0, 1, 3, 7, 15, 31, 63, 127, 255, 511, 1023, 2047, 4095, 8191, 16383, 16383, 49151, 114687, 245759, 32767, 1048575, 2097151, 4194303, 8388607, 16777215, 33554431, 33554431, 100663295, 234881023, 503316479, 67108863, 2147483647, 4294967295, 33554431, 17179869183, 34359738367, 68719476735])
  .ret))⟩
def ir30_209 : XF := ⟨18, 1, [(2, none)], (.seq (.reg [⟨some 2, none, .mv (.c (.b false))⟩])
  (.seq (.reg [⟨some 3, none, .mv (.t 0)⟩,
  ⟨some 4, none, .len 0 (.t 3)⟩,
  ⟨some 5, none, .bop .geq (.t 4) (.c (.i .i64 1))⟩,
  ⟨some 6, none, .mv (.t 5)⟩,
  ⟨some 7, some (6, true), .mv (.t 0)⟩,
  ⟨some 8, some (6, true), .len 0 (.t 7)⟩,
  ⟨some 9, some (6, true), .bop .leq (.t 8) (.c (.i .i64 32))⟩,
  ⟨some 10, none, .pick (.t 6) (.t 9) (.c (.b false))⟩,
  ⟨some 11, none, .mv (.t 10)⟩,
  ⟨some 12, some (11, true), .mv (.t 0)⟩,
  ⟨some 13, some (11, true), .call 187 [(.t 12)]⟩,
  ⟨some 14, some (11, true), .mv (.t 0)⟩,
  ⟨some 15, some (11, true), .len 0 (.t 14)⟩,
  ⟨some 16, some (11, true), .bop .eql (.t 13) (.t 15)⟩,
  ⟨some 17, none, .pick (.t 11) (.t 16) (.c (.b false))⟩,
  ⟨some 2, none, .mv (.t 17)⟩])
  .ret))⟩
def ir30_210 : XF := ⟨24, 2, [(4, none)], (.seq (.reg [⟨some 4, none, .mv (.c (.b false))⟩])
  (.seq (.seq (.reg [⟨some 7, none, .mv (.t 1)⟩,
  ⟨some 8, none, .len 1 (.t 7)⟩,
  ⟨some 9, none, .mv (.c (.i .i64 0))⟩])
  (.blk 0 (.loop (.seq (.reg [⟨some 10, none, .bop .lss (.t 9) (.t 8)⟩])
  (.seq (.cond (.t 10) .skip
  (.exit 0))
  (.seq (.blk 1 (.seq (.reg [⟨some 11, none, .ia 2 (.t 7) (.t 9)⟩,
  ⟨some 12, none, .ld true 2 (.t 11)⟩,
  ⟨some 6, none, .box 308 2 (.c (.ag [(.i .u8 0), (.i .u8 0)]))⟩,
  ⟨none, none, .st 2 (.t 6) (.t 12)⟩])
  (.seq (.reg [⟨some 13, none, .iaA 2 1 (.t 6) (.c (.i .i64 0))⟩,
  ⟨some 14, none, .ld false 1 (.t 13)⟩,
  ⟨some 15, none, .mv (.t 0)⟩,
  ⟨some 16, none, .bop .leq (.t 14) (.t 15)⟩,
  ⟨some 17, none, .mv (.t 16)⟩,
  ⟨some 18, some (17, true), .mv (.t 0)⟩,
  ⟨some 19, some (17, true), .iaA 2 1 (.t 6) (.c (.i .i64 1))⟩,
  ⟨some 20, some (17, true), .ld false 1 (.t 19)⟩,
  ⟨some 21, some (17, true), .bop .leq (.t 18) (.t 20)⟩,
  ⟨some 22, none, .pick (.t 17) (.t 21) (.c (.b false))⟩])
  (.cond (.t 22) (.seq (.reg [⟨some 4, none, .mv (.c (.b true))⟩])
  .ret)
  .skip))))
  (.reg [⟨some 23, none, .bop .add (.t 9) (.c (.i .i64 1))⟩,
  ⟨some 9, none, .mv (.t 23)⟩])))))))
  (.seq (.reg [⟨some 4, none, .mv (.c (.b false))⟩])
  .ret)))⟩
def ir30_223 : XF := ⟨49, 5, [(9, none)], (.seq (.reg [⟨some 9, none, .mv (.c (.b false))⟩])
  (.seq (.reg [⟨some 10, none, .mv (.t 0)⟩,
  ⟨some 11, none, .mv (.t 10)⟩,
  ⟨some 12, some (11, false), .ld false 1 (.t 4)⟩,
  ⟨some 13, some (11, false), .nck (.t 12)⟩,
  ⟨some 14, some (11, false), .fa 1 (.t 13)⟩,
  ⟨some 15, some (11, false), .ld false 1 (.t 14)⟩,
  ⟨some 16, some (11, false), .bop .eql (.t 15) (.c (.i .i64 0))⟩,
  ⟨some 17, none, .pick (.t 11) (.c (.b true)) (.t 16)⟩,
  ⟨some 18, none, .mv (.t 17)⟩,
  ⟨some 19, some (18, true), .mv (.t 1)⟩,
  ⟨some 20, some (18, true), .mv (.t 19)⟩,
  ⟨some 21, some (20, false), .ld false 1 (.t 4)⟩,
  ⟨some 22, some (20, false), .nck (.t 21)⟩,
  ⟨some 23, some (20, false), .fa 2 (.t 22)⟩,
  ⟨some 24, some (20, false), .ld false 1 (.t 23)⟩,
  ⟨some 25, some (20, false), .bop .eql (.t 24) (.c (.s []))⟩,
  ⟨some 26, some (18, true), .pick (.t 20) (.c (.b true)) (.t 25)⟩,
  ⟨some 27, none, .pick (.t 18) (.t 26) (.c (.b false))⟩,
  ⟨some 28, none, .mv (.t 27)⟩,
  ⟨some 29, some (28, true), .mv (.t 2)⟩,
  ⟨some 30, some (28, true), .mv (.t 29)⟩,
  ⟨some 31, some (30, false), .ld false 1 (.t 4)⟩,
  ⟨some 32, some (30, false), .nck (.t 31)⟩,
  ⟨some 33, some (30, false), .fa 3 (.t 32)⟩,
  ⟨some 34, some (30, false), .ld false 1 (.t 33)⟩,
  ⟨some 35, some (30, false), .bop .eql (.t 34) (.c (.s []))⟩,
  ⟨some 36, some (28, true), .pick (.t 30) (.c (.b true)) (.t 35)⟩,
  ⟨some 37, none, .pick (.t 28) (.t 36) (.c (.b false))⟩,
  ⟨some 38, none, .mv (.t 37)⟩,
  ⟨some 39, some (38, true), .mv (.t 3)⟩,
  ⟨some 40, some (38, true), .mv (.t 39)⟩,
  ⟨some 41, some (40, false), .ld false 1 (.t 4)⟩,
  ⟨some 42, some (40, false), .nck (.t 41)⟩,
  ⟨some 43, some (40, false), .fa 4 (.t 42)⟩,
  ⟨some 44, some (40, false), .ld false 1 (.t 43)⟩,
  ⟨some 45, some (40, false), .len 1 (.t 44)⟩,
  ⟨some 46, some (40, false), .bop .eql (.t 45) (.c (.i .i64 0))⟩,
  ⟨some 47, some (38, true), .pick (.t 40) (.c (.b true)) (.t 46)⟩,
  ⟨some 48, none, .pick (.t 38) (.t 47) (.c (.b false))⟩,
  ⟨some 9, none, .mv (.t 48)⟩])
  .ret))⟩
def ir30_224 : XF := ⟨10, 2, [(2, none)], (.seq (.reg [⟨some 2, none, .mv (.c .ifn)⟩])
  (.seq (.seq (.reg [⟨some 3, none, .ld false 1 (.t 0)⟩,
  ⟨some 4, none, .callv (.t 3) []⟩,
  ⟨some 5, none, .un .not (.t 4)⟩])
  (.cond (.t 5) (.seq (.reg [⟨some 6, none, .ld false 1 (.t 1)⟩,
  ⟨some 7, none, .bld [(.i .i64 0), (.i .i64 0)] [(0, 1, (.t 6)), (1, 1, (.c (.i .i64 250)))]⟩,
  ⟨some 8, none, .box 281 2 (.t 7)⟩,
  ⟨some 9, none, .mki 279 (.t 8)⟩,
  ⟨some 2, none, .mv (.t 9)⟩])
  .ret)
  .skip))
  (.seq (.reg [⟨some 2, none, .mv (.c .ifn)⟩])
  .ret)))⟩
def ir30_225 : XF := ⟨19, 2, [(4, none)], (.seq (.reg [⟨some 4, none, .mv (.c (.i .i64 0))⟩])
  (.seq (.seq (.reg [⟨some 6, none, .mv (.t 0)⟩,
  ⟨some 7, none, .len 1 (.t 6)⟩,
  ⟨some 8, none, .mv (.c (.i .i64 0))⟩])
  (.blk 0 (.loop (.seq (.reg [⟨some 9, none, .bop .lss (.t 8) (.t 7)⟩])
  (.seq (.cond (.t 9) .skip
  (.exit 0))
  (.seq (.blk 1 (.seq (.reg [⟨some 10, none, .mv (.t 8)⟩,
  ⟨some 5, none, .mv (.t 10)⟩])
  (.seq (.reg [⟨some 11, none, .mv (.t 1)⟩,
  ⟨some 12, none, .mv (.t 0)⟩,
  ⟨some 13, none, .mv (.t 5)⟩,
  ⟨some 14, none, .ia 1 (.t 12) (.t 13)⟩,
  ⟨some 15, none, .ld false 1 (.t 14)⟩,
  ⟨some 16, none, .callv (.t 11) [(.t 15)]⟩])
  (.cond (.t 16) (.seq (.reg [⟨some 17, none, .mv (.t 5)⟩,
  ⟨some 4, none, .mv (.t 17)⟩])
  .ret)
  .skip))))
  (.reg [⟨some 18, none, .bop .add (.t 8) (.c (.i .i64 1))⟩,
  ⟨some 8, none, .mv (.t 18)⟩])))))))
  (.seq (.reg [⟨some 4, none, .mv (.c (.i .i64 (-1)))⟩])
  .ret)))⟩
def ir30_226 : XF := ⟨7, 2, [(3, none)], (.seq (.reg [⟨some 3, none, .mv (.c (.b false))⟩])
  (.seq (.reg [⟨some 4, none, .ld false 1 (.t 1)⟩,
  ⟨some 5, none, .mv (.t 0)⟩,
  ⟨some 6, none, .call 111 [(.t 4), (.t 5)]⟩,
  ⟨some 3, none, .mv (.t 6)⟩])
  .ret))⟩
def ir30_227 : XF := ⟨20, 1, [(2, none), (3, some (true, 5))], (.seq (.reg [⟨some 1, none, .box 82 5 (.t 0)⟩,
  ⟨some 2, none, .mv (.c .sln)⟩,
  ⟨some 3, none, .box 82 5 (.c (.ag [(.i .i8 0), (.i .i64 0), (.s []), (.s []), .sln]))⟩])
  (.seq (.blk 0 (.loop (.seq (.seq (.reg [⟨some 4, none, .fa 0 (.t 1)⟩,
  ⟨some 5, none, .ld false 1 (.t 4)⟩,
  ⟨some 6, none, .bop .eql (.t 5) (.c (.i .i8 7))⟩])
  (.cond (.t 6) .skip
  (.exit 0)))
  (.seq (.blk 1 (.reg [⟨some 11, none, .mv (.t 2)⟩,
  ⟨some 12, none, .fa 4 (.t 1)⟩,
  ⟨some 13, none, .ld false 1 (.t 12)⟩,
  ⟨some 14, none, .ia 5 (.t 13) (.c (.i .i64 0))⟩,
  ⟨some 15, none, .ld true 5 (.t 14)⟩,
  ⟨some 16, none, .bls 82 5 1 [(.i .i8 0), (.i .i64 0), (.s []), (.s []), .sln] [(0, 5, (.t 15))]⟩,
  ⟨some 17, none, .app 82 5 (.t 11) (.t 16)⟩,
  ⟨some 2, none, .mv (.t 17)⟩]))
  (.reg [⟨some 7, none, .fa 4 (.t 1)⟩,
  ⟨some 8, none, .ld false 1 (.t 7)⟩,
  ⟨some 9, none, .ia 5 (.t 8) (.c (.i .i64 1))⟩,
  ⟨some 10, none, .ld true 5 (.t 9)⟩,
  ⟨none, none, .st 5 (.t 1) (.t 10)⟩])))))
  (.seq (.par [⟨some 18, none, .mv (.t 2)⟩,
  ⟨some 19, none, .ld true 5 (.t 1)⟩,
  ⟨some 2, none, .mv (.t 18)⟩,
  ⟨none, none, .st 5 (.t 3) (.t 19)⟩] [0, 0, 1, 7])
  .ret)))⟩
def ir30_238 : XF := ⟨8, 1, [(2, some (true, 5)), (3, none)], (.seq (.reg [⟨some 2, none, .box 82 5 (.c (.ag [(.i .i8 0), (.i .i64 0), (.s []), (.s []), .sln]))⟩,
  ⟨some 3, none, .mv (.c (.i .i64 0))⟩])
  (.seq (.reg [⟨some 4, none, .mv (.t 0)⟩,
  ⟨some 5, none, .call 263 [(.c (.i .i8 5)), (.t 4)]⟩,
  ⟨some 6, none, .ex (.t 5) 0⟩,
  ⟨some 7, none, .ex (.t 5) 1⟩,
  ⟨none, none, .st 5 (.t 2) (.t 6)⟩,
  ⟨some 3, none, .mv (.t 7)⟩])
  .ret))⟩
def ir30_239 : XF := ⟨42, 1, [(2, some (true, 5)), (3, none)], (.seq (.reg [⟨some 2, none, .box 82 5 (.c (.ag [(.i .i8 0), (.i .i64 0), (.s []), (.s []), .sln]))⟩,
  ⟨some 3, none, .mv (.c (.i .i64 0))⟩])
  (.seq (.seq (.reg [⟨some 9, none, .mv (.t 0)⟩,
  ⟨some 10, none, .call 263 [(.c (.i .i8 5)), (.t 9)]⟩,
  ⟨some 8, none, .mv (.t 10)⟩,
  ⟨some 11, none, .ex (.t 8) 0⟩,
  ⟨some 12, none, .ex (.t 8) 1⟩,
  ⟨some 4, none, .box 82 5 (.c (.ag [(.i .i8 0), (.i .i64 0), (.s []), (.s []), .sln]))⟩,
  ⟨none, none, .st 5 (.t 4) (.t 11)⟩,
  ⟨some 5, none, .mv (.t 12)⟩])
  (.seq (.reg [⟨some 13, none, .mv (.t 5)⟩,
  ⟨some 14, none, .bop .neq (.t 13) (.c (.i .i64 0))⟩,
  ⟨some 15, none, .mv (.t 14)⟩,
  ⟨some 16, some (15, false), .ld true 5 (.t 4)⟩,
  ⟨some 17, some (15, false), .call 70 [(.t 16)]⟩,
  ⟨some 18, some (15, false), .mv (.t 0)⟩,
  ⟨some 19, some (15, false), .len 1 (.t 18)⟩,
  ⟨some 20, some (15, false), .bop .add (.t 17) (.t 19)⟩,
  ⟨some 21, some (15, false), .bop .gtr (.t 20) (.c (.i .i64 256))⟩,
  ⟨some 22, none, .pick (.t 15) (.c (.b true)) (.t 21)⟩])
  (.cond (.t 22) (.seq (.reg [⟨some 23, none, .bld [(.i .i8 0), (.i .i64 0), (.s []), (.s []), .sln] []⟩,
  ⟨some 24, none, .mv (.t 5)⟩,
  ⟨some 25, none, .mm true (.t 24) (.c (.i .i64 11))⟩,
  ⟨none, none, .st 5 (.t 2) (.t 23)⟩,
  ⟨some 3, none, .mv (.t 25)⟩])
  .ret)
  .skip)))
  (.seq (.reg [⟨some 26, none, .bld [(.i .i8 0), (.i .i64 0), (.s []), (.s []), .sln] [(0, 1, (.c (.i .i8 6)))]⟩,
  ⟨some 6, none, .box 82 5 (.c (.ag [(.i .i8 0), (.i .i64 0), (.s []), (.s []), .sln]))⟩,
  ⟨none, none, .st 5 (.t 6) (.t 26)⟩])
  (.seq (.seq (.reg [⟨some 27, none, .mv (.t 0)⟩,
  ⟨some 28, none, .len 1 (.t 27)⟩,
  ⟨some 29, none, .bop .sub (.t 28) (.c (.i .i64 1))⟩,
  ⟨some 7, none, .mv (.t 29)⟩])
  (.blk 0 (.loop (.seq (.seq (.reg [⟨some 30, none, .mv (.t 7)⟩,
  ⟨some 31, none, .bop .geq (.t 30) (.c (.i .i64 0))⟩])
  (.cond (.t 31) .skip
  (.exit 0)))
  (.seq (.blk 1 (.par [⟨some 34, none, .mv (.t 0)⟩,
  ⟨some 35, none, .mv (.t 7)⟩,
  ⟨some 36, none, .ia 5 (.t 34) (.t 35)⟩,
  ⟨some 37, none, .ld true 5 (.t 36)⟩,
  ⟨some 38, none, .ld true 5 (.t 6)⟩,
  ⟨some 39, none, .bls 82 5 2 [(.i .i8 0), (.i .i64 0), (.s []), (.s []), .sln, (.i .i8 0), (.i .i64 0), (.s []), (.s []), .sln] [(0, 5, (.t 37)), (5, 5, (.t 38))]⟩,
  ⟨some 40, none, .bld [(.i .i8 0), (.i .i64 0), (.s []), (.s []), .sln] [(0, 1, (.c (.i .i8 7))), (4, 1, (.t 39))]⟩,
  ⟨none, none, .st 5 (.t 6) (.t 40)⟩] [0, 0, 3, 7, 0, 31, 63, 127]))
  (.reg [⟨some 32, none, .mv (.t 7)⟩,
  ⟨some 33, none, .bop .sub (.t 32) (.c (.i .i64 1))⟩,
  ⟨some 7, none, .mv (.t 33)⟩]))))))
  (.seq (.reg [⟨some 41, none, .ld true 5 (.t 6)⟩,
  ⟨none, none, .st 5 (.t 2) (.t 41)⟩,
  ⟨some 3, none, .mv (.c (.i .i64 0))⟩])
  .ret)))))⟩
def ir30_242 : XF := ⟨18, 2, [(4, none)], (.seq (.reg [⟨some 4, none, .mv (.c (.b false))⟩])
  (.seq (.reg [⟨some 5, none, .mv (.t 0)⟩,
  ⟨some 6, none, .len 0 (.t 5)⟩,
  ⟨some 7, none, .mv (.t 1)⟩,
  ⟨some 8, none, .len 0 (.t 7)⟩,
  ⟨some 9, none, .bop .geq (.t 6) (.t 8)⟩,
  ⟨some 10, none, .mv (.t 9)⟩,
  ⟨some 11, some (10, true), .mv (.t 0)⟩,
  ⟨some 12, some (10, true), .mv (.t 1)⟩,
  ⟨some 13, some (10, true), .len 0 (.t 12)⟩,
  ⟨some 14, some (10, true), .slcS (.t 11) none (some (.t 13))⟩,
  ⟨some 15, some (10, true), .mv (.t 1)⟩,
  ⟨some 16, some (10, true), .bop .eql (.t 14) (.t 15)⟩,
  ⟨some 17, none, .pick (.t 10) (.t 16) (.c (.b false))⟩,
  ⟨some 4, none, .mv (.t 17)⟩])
  .ret))⟩
def ir30_243 : XF := ⟨42, 3, [(6, some (true, 5))], (.seq (.reg [⟨some 6, none, .box 104 5 (.c (.ag [(.i .i8 0), (.i .i64 0), (.s []), (.s []), .sln]))⟩])
  (.seq (.blk 0 (.seq (.reg [⟨some 8, none, .mv (.t 2)⟩,
  ⟨some 9, none, .bop .eql (.t 8) (.c (.i .i64 2))⟩,
  ⟨some 10, none, .mv (.t 9)⟩,
  ⟨some 11, some (10, true), .mv (.t 0)⟩,
  ⟨some 12, some (10, true), .call 58 [(.t 11), (.c (.s [40]))]⟩,
  ⟨some 13, none, .pick (.t 10) (.t 12) (.c (.b false))⟩,
  ⟨some 7, none, .mv (.t 13)⟩])
  (.cond (.t 7) (.seq (.reg [⟨some 14, none, .mv (.t 1)⟩,
  ⟨some 15, none, .mv (.t 0)⟩,
  ⟨some 16, none, .mv (.t 0)⟩,
  ⟨some 17, none, .mkf (.func 67) [(.t 16)] []⟩,
  ⟨some 18, none, .call 120 [(.t 15), (.t 17), (.c (.s [41])), (.c (.i .i64 8))]⟩,
  ⟨some 19, none, .bld [(.i .i8 0), (.i .i64 0), (.s []), (.s []), .sln] [(0, 1, (.c (.i .i8 14))), (2, 1, (.t 14)), (4, 1, (.t 18))]⟩,
  ⟨none, none, .st 5 (.t 6) (.t 19)⟩])
  .ret)
  (.seq (.reg [⟨some 21, none, .mv (.t 2)⟩,
  ⟨some 22, none, .bop .eql (.t 21) (.c (.i .i64 2))⟩,
  ⟨some 23, none, .mv (.t 22)⟩,
  ⟨some 24, some (23, true), .mv (.t 0)⟩,
  ⟨some 25, some (23, true), .call 58 [(.t 24), (.c (.s [58]))]⟩,
  ⟨some 26, none, .pick (.t 23) (.t 25) (.c (.b false))⟩,
  ⟨some 20, none, .mv (.t 26)⟩])
  (.cond (.t 20) (.seq (.reg [⟨some 27, none, .mv (.t 1)⟩,
  ⟨some 28, none, .mv (.t 0)⟩,
  ⟨some 29, none, .call 59 [(.t 28), (.c (.i .i8 0))]⟩,
  ⟨some 30, none, .fld false 2 1 (.t 29)⟩,
  ⟨some 31, none, .bld [(.i .i8 0), (.i .i64 0), (.s []), (.s []), .sln] [(0, 1, (.c (.i .i8 15))), (2, 1, (.t 27)), (3, 1, (.t 30))]⟩,
  ⟨none, none, .st 5 (.t 6) (.t 31)⟩])
  (.seq (.reg [⟨some 32, none, .mv (.t 0)⟩,
  ⟨some 33, none, .call 115 [(.t 32), (.c (.s [40]))]⟩])
  (.seq (.reg [⟨some 34, none, .mv (.t 0)⟩,
  ⟨some 35, none, .mv (.t 0)⟩,
  ⟨some 36, none, .mkf (.func 67) [(.t 35)] []⟩,
  ⟨some 37, none, .call 120 [(.t 34), (.t 36), (.c (.s [41])), (.c (.i .i64 8))]⟩,
  ⟨some 38, none, .fa 4 (.t 6)⟩,
  ⟨none, none, .st 1 (.t 38) (.t 37)⟩])
  (.seq (.reg [⟨some 39, none, .ld true 5 (.t 6)⟩,
  ⟨none, none, .st 5 (.t 6) (.t 39)⟩])
  .ret))))
  .skip)))))
  (.seq (.reg [⟨some 40, none, .mv (.t 1)⟩,
  ⟨some 41, none, .bld [(.i .i8 0), (.i .i64 0), (.s []), (.s []), .sln] [(0, 1, (.c (.i .i8 7))), (2, 1, (.t 40))]⟩,
  ⟨none, none, .st 5 (.t 6) (.t 41)⟩])
  .ret)))⟩
def ir30_244 : XF := ⟨22, 2, [(4, some (true, 5))], (.seq (.reg [⟨some 4, none, .box 104 5 (.c (.ag [(.i .i8 0), (.i .i64 0), (.s []), (.s []), .sln]))⟩])
  (.seq (.seq (.reg [⟨some 7, none, .mv (.t 0)⟩,
  ⟨some 8, none, .call 58 [(.t 7), (.c (.s [93]))]⟩])
  (.cond (.t 8) (.seq (.reg [⟨some 9, none, .bld [(.i .i8 0), (.i .i64 0), (.s []), (.s []), .sln] [(0, 1, (.c (.i .i8 8)))]⟩,
  ⟨none, none, .st 5 (.t 4) (.t 9)⟩])
  .ret)
  .skip))
  (.seq (.reg [⟨some 10, none, .mv (.t 1)⟩,
  ⟨some 11, none, .callv (.t 10) []⟩,
  ⟨some 5, none, .box 104 5 (.c (.ag [(.i .i8 0), (.i .i64 0), (.s []), (.s []), .sln]))⟩,
  ⟨none, none, .st 5 (.t 5) (.t 11)⟩])
  (.seq (.reg [⟨some 12, none, .mv (.t 0)⟩,
  ⟨some 13, none, .call 115 [(.t 12), (.c (.s [124]))]⟩])
  (.seq (.reg [⟨some 14, none, .mv (.t 1)⟩,
  ⟨some 15, none, .callv (.t 14) []⟩,
  ⟨some 6, none, .box 104 5 (.c (.ag [(.i .i8 0), (.i .i64 0), (.s []), (.s []), .sln]))⟩,
  ⟨none, none, .st 5 (.t 6) (.t 15)⟩])
  (.seq (.reg [⟨some 16, none, .mv (.t 0)⟩,
  ⟨some 17, none, .call 115 [(.t 16), (.c (.s [93]))]⟩])
  (.seq (.reg [⟨some 18, none, .ld true 5 (.t 5)⟩,
  ⟨some 19, none, .ld true 5 (.t 6)⟩,
  ⟨some 20, none, .bls 104 5 2 [(.i .i8 0), (.i .i64 0), (.s []), (.s []), .sln, (.i .i8 0), (.i .i64 0), (.s []), (.s []), .sln] [(0, 5, (.t 18)), (5, 5, (.t 19))]⟩,
  ⟨some 21, none, .bld [(.i .i8 0), (.i .i64 0), (.s []), (.s []), .sln] [(0, 1, (.c (.i .i8 9))), (4, 1, (.t 20))]⟩,
  ⟨none, none, .st 5 (.t 4) (.t 21)⟩])
  .ret)))))))⟩
def ir30_248 : XF := ⟨13, 1, [(2, none)], (.seq (.reg [⟨some 2, none, .mv (.c (.b false))⟩])
  (.seq (.reg [⟨some 3, none, .bld [(.b false), (.b false), (.b false), (.b false)] [(0, 1, (.c (.b true)))]⟩,
  ⟨some 4, none, .mv (.t 0)⟩,
  ⟨some 5, none, .call 72 [(.t 3), (.t 4)]⟩,
  ⟨some 6, none, .mv (.t 5)⟩,
  ⟨some 7, some (6, true), .mv (.t 0)⟩,
  ⟨some 8, some (6, true), .nck (.t 7)⟩,
  ⟨some 9, some (6, true), .fa 1 (.t 8)⟩,
  ⟨some 10, some (6, true), .ld false 1 (.t 9)⟩,
  ⟨some 11, some (6, true), .call 161 [(.t 10)]⟩,
  ⟨some 12, none, .pick (.t 6) (.t 11) (.c (.b false))⟩,
  ⟨some 2, none, .mv (.t 12)⟩])
  .ret))⟩
def ir30_249 : XF := ⟨13, 1, [(2, none)], (.seq (.reg [⟨some 2, none, .mv (.c (.b false))⟩])
  (.seq (.reg [⟨some 3, none, .bld [(.b false), (.b false), (.b false), (.b false)] [(1, 1, (.c (.b true)))]⟩,
  ⟨some 4, none, .mv (.t 0)⟩,
  ⟨some 5, none, .call 72 [(.t 3), (.t 4)]⟩,
  ⟨some 6, none, .mv (.t 5)⟩,
  ⟨some 7, some (6, true), .mv (.t 0)⟩,
  ⟨some 8, some (6, true), .nck (.t 7)⟩,
  ⟨some 9, some (6, true), .fa 2 (.t 8)⟩,
  ⟨some 10, some (6, true), .ld false 1 (.t 9)⟩,
  ⟨some 11, some (6, true), .call 73 [(.t 10)]⟩,
  ⟨some 12, none, .pick (.t 6) (.t 11) (.c (.b false))⟩,
  ⟨some 2, none, .mv (.t 12)⟩])
  .ret))⟩
def ir30_250 : XF := ⟨6, 1, [(2, none)], (.seq (.reg [⟨some 2, none, .mv (.c (.b false))⟩])
  (.seq (.reg [⟨some 3, none, .bld [(.b false), (.b false), (.b false), (.b false)] []⟩,
  ⟨some 4, none, .mv (.t 0)⟩,
  ⟨some 5, none, .call 72 [(.t 3), (.t 4)]⟩,
  ⟨some 2, none, .mv (.t 5)⟩])
  .ret))⟩
def ir30_251 : XF := ⟨15, 2, [(3, none)], (.seq (.reg [⟨some 3, none, .mv (.c (.b false))⟩])
  (.seq (.par [⟨some 4, none, .bld [(.b false), (.b false), (.b false), (.b false)] [(3, 1, (.c (.b true)))]⟩,
  ⟨some 5, none, .mv (.t 0)⟩,
  ⟨some 6, none, .call 72 [(.t 4), (.t 5)]⟩,
  ⟨some 7, none, .mv (.t 6)⟩,
  ⟨some 8, some (7, true), .mv (.t 0)⟩,
  ⟨some 9, some (7, true), .nck (.t 8)⟩,
  ⟨some 10, some (7, true), .fa 4 (.t 9)⟩,
  ⟨some 11, some (7, true), .ld false 1 (.t 10)⟩,
  ⟨some 12, some (7, true), .ld false 1 (.t 1)⟩,
  ⟨some 13, some (7, true), .call 74 [(.t 11), (.t 12)]⟩,
  ⟨some 14, none, .pick (.t 7) (.t 13) (.c (.b false))⟩,
  ⟨some 3, none, .mv (.t 14)⟩] [0, 0, 3, 7, 15, 31, 63, 127, 15, 511, 1023, 2047])
  .ret))⟩
def ir30_263 : XF := ⟨34, 2, [(4, some (true, 5)), (5, none)], (.seq (.reg [⟨some 4, none, .box 82 5 (.c (.ag [(.i .i8 0), (.i .i64 0), (.s []), (.s []), .sln]))⟩,
  ⟨some 5, none, .mv (.c (.i .i64 0))⟩])
  (.seq (.reg [⟨some 6, none, .mv (.c (.i .i64 1))⟩])
  (.seq (.seq (.reg [⟨some 10, none, .mv (.t 1)⟩,
  ⟨some 11, none, .len 1 (.t 10)⟩,
  ⟨some 12, none, .mv (.c (.i .i64 0))⟩])
  (.blk 0 (.loop (.seq (.reg [⟨some 13, none, .bop .lss (.t 12) (.t 11)⟩])
  (.seq (.cond (.t 13) .skip
  (.exit 0))
  (.seq (.blk 1 (.seq (.reg [⟨some 14, none, .ia 5 (.t 10) (.t 12)⟩,
  ⟨some 15, none, .ld true 5 (.t 14)⟩,
  ⟨some 8, none, .box 82 5 (.c (.ag [(.i .i8 0), (.i .i64 0), (.s []), (.s []), .sln]))⟩,
  ⟨none, none, .st 5 (.t 8) (.t 15)⟩])
  (.seq (.seq (.reg [⟨some 16, none, .ld true 5 (.t 8)⟩,
  ⟨some 17, none, .call 49 [(.t 16)]⟩,
  ⟨some 9, none, .mv (.t 17)⟩])
  (.seq (.reg [⟨some 18, none, .mv (.t 9)⟩,
  ⟨some 19, none, .bop .eql (.t 18) (.c (.i .i64 30))⟩])
  (.cond (.t 19) (.seq (.reg [⟨some 20, none, .bld [(.i .i8 0), (.i .i64 0), (.s []), (.s []), .sln] []⟩,
  ⟨some 21, none, .mv (.t 9)⟩,
  ⟨none, none, .st 5 (.t 4) (.t 20)⟩,
  ⟨some 5, none, .mv (.t 21)⟩])
  .ret)
  .skip)))
  (.reg [⟨some 22, none, .mv (.t 6)⟩,
  ⟨some 23, none, .ld true 5 (.t 8)⟩,
  ⟨some 24, none, .call 70 [(.t 23)]⟩,
  ⟨some 25, none, .bop .add (.t 22) (.t 24)⟩,
  ⟨some 6, none, .mv (.t 25)⟩]))))
  (.reg [⟨some 26, none, .bop .add (.t 12) (.c (.i .i64 1))⟩,
  ⟨some 12, none, .mv (.t 26)⟩])))))))
  (.seq (.seq (.reg [⟨some 27, none, .mv (.t 6)⟩,
  ⟨some 28, none, .bop .gtr (.t 27) (.c (.i .i64 256))⟩])
  (.cond (.t 28) (.seq (.reg [⟨some 29, none, .bld [(.i .i8 0), (.i .i64 0), (.s []), (.s []), .sln] []⟩,
  ⟨none, none, .st 5 (.t 4) (.t 29)⟩,
  ⟨some 5, none, .mv (.c (.i .i64 11))⟩])
  .ret)
  .skip))
  (.seq (.reg [⟨some 30, none, .mv (.t 0)⟩,
  ⟨some 31, none, .mv (.t 1)⟩,
  ⟨some 32, none, .app 82 5 (.c .sln) (.t 31)⟩,
  ⟨some 33, none, .bld [(.i .i8 0), (.i .i64 0), (.s []), (.s []), .sln] [(0, 1, (.t 30)), (4, 1, (.t 32))]⟩,
  ⟨none, none, .st 5 (.t 4) (.t 33)⟩,
  ⟨some 5, none, .mv (.c (.i .i64 0))⟩])
  .ret)))))⟩
def irTab30 : Trie XF := (.nd (.nd (.nd (.nd (.nd (.nd (.nd (.nd .lf (some ir30_127) .lf) none (.nd .lf (some ir30_191) .lf)) (some ir30_31) (.nd .lf none (.nd .lf (some ir30_223) .lf))) none (.nd (.nd .lf (some ir30_79) .lf) (some ir30_47) (.nd .lf (some ir30_111) (.nd .lf (some ir30_239) .lf)))) none (.nd (.nd (.nd (.nd (.nd .lf (some ir30_263) .lf) (some ir30_135) .lf) none .lf) (some ir30_39) (.nd (.nd .lf (some ir30_167) .lf) none .lf)) none (.nd .lf none (.nd (.nd .lf (some ir30_183) .lf) none .lf)))) none (.nd (.nd (.nd (.nd .lf (some ir30_67) (.nd .lf (some ir30_195) .lf)) (some ir30_35) (.nd (.nd .lf (some ir30_163) .lf) none (.nd .lf (some ir30_227) .lf))) none (.nd .lf (some ir30_51) (.nd (.nd .lf (some ir30_179) .lf) (some ir30_115) (.nd .lf (some ir30_243) .lf)))) (some ir30_11) (.nd (.nd .lf (some ir30_43) (.nd (.nd .lf (some ir30_171) .lf) none .lf)) (some ir30_27) (.nd .lf (some ir30_59) (.nd (.nd .lf (some ir30_187) .lf) (some ir30_123) (.nd .lf (some ir30_251) .lf)))))) none (.nd (.nd (.nd (.nd (.nd (.nd .lf (some ir30_129) .lf) none (.nd .lf (some ir30_193) .lf)) (some ir30_33) (.nd (.nd .lf (some ir30_161) .lf) none (.nd .lf (some ir30_225) .lf))) none (.nd (.nd .lf none (.nd .lf (some ir30_209) .lf)) (some ir30_49) (.nd .lf (some ir30_113) .lf))) none (.nd (.nd (.nd .lf (some ir30_73) .lf) (some ir30_41) (.nd (.nd .lf (some ir30_169) .lf) none .lf)) none (.nd .lf none (.nd .lf none (.nd .lf (some ir30_249) .lf))))) none (.nd (.nd (.nd (.nd .lf (some ir30_69) .lf) (some ir30_37) (.nd (.nd .lf (some ir30_165) .lf) none .lf)) (some ir30_21) (.nd .lf (some ir30_53) .lf)) (some ir30_13) (.nd (.nd (.nd .lf (some ir30_77) .lf) (some ir30_45) (.nd (.nd .lf (some ir30_173) .lf) (some ir30_109) .lf)) (some ir30_29) (.nd .lf none (.nd (.nd .lf (some ir30_189) .lf) (some ir30_125) .lf)))))) none (.nd (.nd (.nd (.nd (.nd (.nd (.nd .lf (some ir30_128) .lf) (some ir30_64) (.nd .lf (some ir30_192) .lf)) (some ir30_32) (.nd (.nd .lf (some ir30_160) .lf) (some ir30_96) (.nd .lf (some ir30_224) .lf))) none (.nd (.nd (.nd .lf (some ir30_144) .lf) none (.nd .lf (some ir30_208) .lf)) none (.nd .lf (some ir30_112) .lf))) none (.nd (.nd (.nd .lf (some ir30_72) .lf) (some ir30_40) (.nd (.nd .lf (some ir30_168) .lf) (some ir30_104) .lf)) none (.nd .lf none (.nd (.nd .lf (some ir30_184) .lf) (some ir30_120) (.nd .lf (some ir30_248) .lf))))) none (.nd (.nd (.nd (.nd .lf (some ir30_68) .lf) (some ir30_36) (.nd (.nd .lf (some ir30_164) .lf) none .lf)) (some ir30_20) (.nd .lf (some ir30_52) (.nd .lf (some ir30_116) (.nd .lf (some ir30_244) .lf)))) (some ir30_12) (.nd (.nd .lf (some ir30_44) (.nd (.nd .lf (some ir30_172) .lf) none .lf)) (some ir30_28) (.nd .lf (some ir30_60) (.nd (.nd .lf (some ir30_188) .lf) (some ir30_124) .lf))))) none (.nd (.nd (.nd (.nd (.nd (.nd .lf (some ir30_130) .lf) (some ir30_66) .lf) (some ir30_34) (.nd (.nd .lf (some ir30_162) .lf) none (.nd .lf (some ir30_226) .lf))) none (.nd (.nd .lf none (.nd .lf (some ir30_210) .lf)) (some ir30_50) (.nd (.nd .lf (some ir30_178) .lf) (some ir30_114) (.nd .lf (some ir30_242) .lf)))) none (.nd (.nd (.nd .lf (some ir30_74) .lf) none (.nd (.nd .lf (some ir30_170) .lf) none .lf)) (some ir30_26) (.nd .lf (some ir30_58) (.nd .lf none (.nd .lf (some ir30_250) .lf))))) (some ir30_6) (.nd (.nd (.nd (.nd (.nd .lf (some ir30_134) .lf) (some ir30_70) .lf) (some ir30_38) (.nd (.nd .lf (some ir30_166) .lf) none .lf)) (some ir30_22) (.nd .lf none (.nd (.nd .lf (some ir30_182) .lf) none .lf))) none (.nd (.nd (.nd .lf (some ir30_78) .lf) (some ir30_46) (.nd .lf (some ir30_110) (.nd .lf (some ir30_238) .lf))) (some ir30_30) (.nd .lf none (.nd (.nd .lf (some ir30_190) .lf) (some ir30_126) .lf)))))))
theorem irc30_6 : cFunc Tryz.prog Tryz.f6 = some ir30_6 := by kernel_rfl
theorem irc30_11 : cFunc Tryz.prog Tryz.f11 = some ir30_11 := by kernel_rfl
theorem irc30_12 : cFunc Tryz.prog Tryz.f12 = some ir30_12 := by kernel_rfl
theorem irc30_13 : cFunc Tryz.prog Tryz.f13 = some ir30_13 := by kernel_rfl
theorem irc30_20 : cFunc Tryz.prog Tryz.f20 = some ir30_20 := by kernel_rfl
theorem irc30_21 : cFunc Tryz.prog Tryz.f21 = some ir30_21 := by kernel_rfl
theorem irc30_22 : cFunc Tryz.prog Tryz.f22 = some ir30_22 := by kernel_rfl
theorem irc30_26 : cFunc Tryz.prog Tryz.f26 = some ir30_26 := by kernel_rfl
theorem irc30_27 : cFunc Tryz.prog Tryz.f27 = some ir30_27 := by kernel_rfl
theorem irc30_28 : cFunc Tryz.prog Tryz.f28 = some ir30_28 := by kernel_rfl
theorem irc30_29 : cFunc Tryz.prog Tryz.f29 = some ir30_29 := by kernel_rfl
theorem irc30_30 : cFunc Tryz.prog Tryz.f30 = some ir30_30 := by kernel_rfl
theorem irc30_31 : cFunc Tryz.prog Tryz.f31 = some ir30_31 := by kernel_rfl
theorem irc30_32 : cFunc Tryz.prog Tryz.f32 = some ir30_32 := by kernel_rfl
theorem irc30_33 : cFunc Tryz.prog Tryz.f33 = some ir30_33 := by kernel_rfl
theorem irc30_34 : cFunc Tryz.prog Tryz.f34 = some ir30_34 := by kernel_rfl
theorem irc30_35 : cFunc Tryz.prog Tryz.f35 = some ir30_35 := by kernel_rfl
theorem irc30_36 : cFunc Tryz.prog Tryz.f36 = some ir30_36 := by kernel_rfl
theorem irc30_37 : cFunc Tryz.prog Tryz.f37 = some ir30_37 := by kernel_rfl
theorem irc30_38 : cFunc Tryz.prog Tryz.f38 = some ir30_38 := by kernel_rfl
theorem irc30_39 : cFunc Tryz.prog Tryz.f39 = some ir30_39 := by kernel_rfl
theorem irc30_40 : cFunc Tryz.prog Tryz.f40 = some ir30_40 := by kernel_rfl
theorem irc30_41 : cFunc Tryz.prog Tryz.f41 = some ir30_41 := by kernel_rfl
theorem irc30_43 : cFunc Tryz.prog Tryz.f43 = some ir30_43 := by kernel_rfl
theorem irc30_44 : cFunc Tryz.prog Tryz.f44 = some ir30_44 := by kernel_rfl
theorem irc30_45 : cFunc Tryz.prog Tryz.f45 = some ir30_45 := by kernel_rfl
theorem irc30_46 : cFunc Tryz.prog Tryz.f46 = some ir30_46 := by kernel_rfl
theorem irc30_47 : cFunc Tryz.prog Tryz.f47 = some ir30_47 := by kernel_rfl
theorem irc30_49 : cFunc Tryz.prog Tryz.f49 = some ir30_49 := by kernel_rfl
theorem irc30_50 : cFunc Tryz.prog Tryz.f50 = some ir30_50 := by kernel_rfl
theorem irc30_51 : cFunc Tryz.prog Tryz.f51 = some ir30_51 := by kernel_rfl
theorem irc30_52 : cFunc Tryz.prog Tryz.f52 = some ir30_52 := by kernel_rfl
theorem irc30_53 : cFunc Tryz.prog Tryz.f53 = some ir30_53 := by kernel_rfl
theorem irc30_58 : cFunc Tryz.prog Tryz.f58 = some ir30_58 := by kernel_rfl
theorem irc30_59 : cFunc Tryz.prog Tryz.f59 = some ir30_59 := by kernel_rfl
theorem irc30_60 : cFunc Tryz.prog Tryz.f60 = some ir30_60 := by kernel_rfl
theorem irc30_64 : cFunc Tryz.prog Tryz.f64 = some ir30_64 := by kernel_rfl
theorem irc30_66 : cFunc Tryz.prog Tryz.f66 = some ir30_66 := by kernel_rfl
theorem irc30_67 : cFunc Tryz.prog Tryz.f67 = some ir30_67 := by kernel_rfl
theorem irc30_68 : cFunc Tryz.prog Tryz.f68 = some ir30_68 := by kernel_rfl
theorem irc30_69 : cFunc Tryz.prog Tryz.f69 = some ir30_69 := by kernel_rfl
theorem irc30_70 : cFunc Tryz.prog Tryz.f70 = some ir30_70 := by kernel_rfl
theorem irc30_72 : cFunc Tryz.prog Tryz.f72 = some ir30_72 := by kernel_rfl
theorem irc30_73 : cFunc Tryz.prog Tryz.f73 = some ir30_73 := by kernel_rfl
theorem irc30_74 : cFunc Tryz.prog Tryz.f74 = some ir30_74 := by kernel_rfl
theorem irc30_77 : cFunc Tryz.prog Tryz.f77 = some ir30_77 := by kernel_rfl
theorem irc30_78 : cFunc Tryz.prog Tryz.f78 = some ir30_78 := by kernel_rfl
theorem irc30_79 : cFunc Tryz.prog Tryz.f79 = some ir30_79 := by kernel_rfl
theorem irc30_96 : cFunc Tryz.prog Tryz.f96 = some ir30_96 := by kernel_rfl
theorem irc30_104 : cFunc Tryz.prog Tryz.f104 = some ir30_104 := by kernel_rfl
theorem irc30_109 : cFunc Tryz.prog Tryz.f109 = some ir30_109 := by kernel_rfl
theorem irc30_110 : cFunc Tryz.prog Tryz.f110 = some ir30_110 := by kernel_rfl
theorem irc30_111 : cFunc Tryz.prog Tryz.f111 = some ir30_111 := by kernel_rfl
theorem irc30_112 : cFunc Tryz.prog Tryz.f112 = some ir30_112 := by kernel_rfl
theorem irc30_113 : cFunc Tryz.prog Tryz.f113 = some ir30_113 := by kernel_rfl
theorem irc30_114 : cFunc Tryz.prog Tryz.f114 = some ir30_114 := by kernel_rfl
theorem irc30_115 : cFunc Tryz.prog Tryz.f115 = some ir30_115 := by kernel_rfl
theorem irc30_116 : cFunc Tryz.prog Tryz.f116 = some ir30_116 := by kernel_rfl
theorem irc30_120 : cFunc Tryz.prog Tryz.f120 = some ir30_120 := by kernel_rfl
theorem irc30_123 : cFunc Tryz.prog Tryz.f123 = some ir30_123 := by kernel_rfl
theorem irc30_124 : cFunc Tryz.prog Tryz.f124 = some ir30_124 := by kernel_rfl
theorem irc30_125 : cFunc Tryz.prog Tryz.f125 = some ir30_125 := by kernel_rfl
theorem irc30_126 : cFunc Tryz.prog Tryz.f126 = some ir30_126 := by kernel_rfl
theorem irc30_127 : cFunc Tryz.prog Tryz.f127 = some ir30_127 := by kernel_rfl
theorem irc30_128 : cFunc Tryz.prog Tryz.f128 = some ir30_128 := by kernel_rfl
theorem irc30_129 : cFunc Tryz.prog Tryz.f129 = some ir30_129 := by kernel_rfl
theorem irc30_130 : cFunc Tryz.prog Tryz.f130 = some ir30_130 := by kernel_rfl
theorem irc30_134 : cFunc Tryz.prog Tryz.f134 = some ir30_134 := by kernel_rfl
theorem irc30_135 : cFunc Tryz.prog Tryz.f135 = some ir30_135 := by kernel_rfl
theorem irc30_144 : cFunc Tryz.prog Tryz.f144 = some ir30_144 := by kernel_rfl
theorem irc30_160 : cFunc Tryz.prog Tryz.f160 = some ir30_160 := by kernel_rfl
theorem irc30_161 : cFunc Tryz.prog Tryz.f161 = some ir30_161 := by kernel_rfl
theorem irc30_162 : cFunc Tryz.prog Tryz.f162 = some ir30_162 := by kernel_rfl
theorem irc30_163 : cFunc Tryz.prog Tryz.f163 = some ir30_163 := by kernel_rfl
theorem irc30_164 : cFunc Tryz.prog Tryz.f164 = some ir30_164 := by kernel_rfl
theorem irc30_165 : cFunc Tryz.prog Tryz.f165 = some ir30_165 := by kernel_rfl
theorem irc30_166 : cFunc Tryz.prog Tryz.f166 = some ir30_166 := by kernel_rfl
theorem irc30_167 : cFunc Tryz.prog Tryz.f167 = some ir30_167 := by kernel_rfl
theorem irc30_168 : cFunc Tryz.prog Tryz.f168 = some ir30_168 := by kernel_rfl
theorem irc30_169 : cFunc Tryz.prog Tryz.f169 = some ir30_169 := by kernel_rfl
theorem irc30_170 : cFunc Tryz.prog Tryz.f170 = some ir30_170 := by kernel_rfl
theorem irc30_171 : cFunc Tryz.prog Tryz.f171 = some ir30_171 := by kernel_rfl
theorem irc30_172 : cFunc Tryz.prog Tryz.f172 = some ir30_172 := by kernel_rfl
theorem irc30_173 : cFunc Tryz.prog Tryz.f173 = some ir30_173 := by kernel_rfl
theorem irc30_178 : cFunc Tryz.prog Tryz.f178 = some ir30_178 := by kernel_rfl
theorem irc30_179 : cFunc Tryz.prog Tryz.f179 = some ir30_179 := by kernel_rfl
theorem irc30_182 : cFunc Tryz.prog Tryz.f182 = some ir30_182 := by kernel_rfl
theorem irc30_183 : cFunc Tryz.prog Tryz.f183 = some ir30_183 := by kernel_rfl
theorem irc30_184 : cFunc Tryz.prog Tryz.f184 = some ir30_184 := by kernel_rfl
theorem irc30_187 : cFunc Tryz.prog Tryz.f187 = some ir30_187 := by kernel_rfl
theorem irc30_188 : cFunc Tryz.prog Tryz.f188 = some ir30_188 := by kernel_rfl
theorem irc30_189 : cFunc Tryz.prog Tryz.f189 = some ir30_189 := by kernel_rfl
theorem irc30_190 : cFunc Tryz.prog Tryz.f190 = some ir30_190 := by kernel_rfl
theorem irc30_191 : cFunc Tryz.prog Tryz.f191 = some ir30_191 := by kernel_rfl
theorem irc30_192 : cFunc Tryz.prog Tryz.f192 = some ir30_192 := by kernel_rfl
theorem irc30_193 : cFunc Tryz.prog Tryz.f193 = some ir30_193 := by kernel_rfl
theorem irc30_195 : cFunc Tryz.prog Tryz.f195 = some ir30_195 := by kernel_rfl
theorem irc30_208 : cFunc Tryz.prog Tryz.f208 = some ir30_208 := by kernel_rfl
theorem irc30_209 : cFunc Tryz.prog Tryz.f209 = some ir30_209 := by kernel_rfl
theorem irc30_210 : cFunc Tryz.prog Tryz.f210 = some ir30_210 := by kernel_rfl
theorem irc30_223 : cFunc Tryz.prog Tryz.f223 = some ir30_223 := by kernel_rfl
theorem irc30_224 : cFunc Tryz.prog Tryz.f224 = some ir30_224 := by kernel_rfl
theorem irc30_225 : cFunc Tryz.prog Tryz.f225 = some ir30_225 := by kernel_rfl
theorem irc30_226 : cFunc Tryz.prog Tryz.f226 = some ir30_226 := by kernel_rfl
theorem irc30_227 : cFunc Tryz.prog Tryz.f227 = some ir30_227 := by kernel_rfl
theorem irc30_238 : cFunc Tryz.prog Tryz.f238 = some ir30_238 := by kernel_rfl
theorem irc30_239 : cFunc Tryz.prog Tryz.f239 = some ir30_239 := by kernel_rfl
theorem irc30_242 : cFunc Tryz.prog Tryz.f242 = some ir30_242 := by kernel_rfl
theorem irc30_243 : cFunc Tryz.prog Tryz.f243 = some ir30_243 := by kernel_rfl
theorem irc30_244 : cFunc Tryz.prog Tryz.f244 = some ir30_244 := by kernel_rfl
theorem irc30_248 : cFunc Tryz.prog Tryz.f248 = some ir30_248 := by kernel_rfl
theorem irc30_249 : cFunc Tryz.prog Tryz.f249 = some ir30_249 := by kernel_rfl
theorem irc30_250 : cFunc Tryz.prog Tryz.f250 = some ir30_250 := by kernel_rfl
theorem irc30_251 : cFunc Tryz.prog Tryz.f251 = some ir30_251 := by kernel_rfl
theorem irc30_263 : cFunc Tryz.prog Tryz.f263 = some ir30_263 := by kernel_rfl
def irList30 : List (Nat × XF) := [(6, ir30_6), (11, ir30_11), (12, ir30_12), (13, ir30_13), (20, ir30_20), (21, ir30_21), (22, ir30_22), (26, ir30_26), (27, ir30_27), (28, ir30_28), (29, ir30_29), (30, ir30_30), (31, ir30_31), (32, ir30_32), (33, ir30_33), (34, ir30_34), (35, ir30_35), (36, ir30_36), (37, ir30_37), (38, ir30_38), (39, ir30_39), (40, ir30_40), (41, ir30_41), (43, ir30_43), (44, ir30_44), (45, ir30_45), (46, ir30_46), (47, ir30_47), (49, ir30_49), (50, ir30_50), (51, ir30_51), (52, ir30_52), (53, ir30_53), (58, ir30_58), (59, ir30_59), (60, ir30_60), (64, ir30_64), (66, ir30_66), (67, ir30_67), (68, ir30_68), (69, ir30_69), (70, ir30_70), (72, ir30_72), (73, ir30_73), (74, ir30_74), (77, ir30_77), (78, ir30_78), (79, ir30_79), (96, ir30_96), (104, ir30_104), (109, ir30_109), (110, ir30_110), (111, ir30_111), (112, ir30_112), (113, ir30_113), (114, ir30_114), (115, ir30_115), (116, ir30_116), (120, ir30_120), (123, ir30_123), (124, ir30_124), (125, ir30_125), (126, ir30_126), (127, ir30_127), (128, ir30_128), (129, ir30_129), (130, ir30_130), (134, ir30_134), (135, ir30_135), (144, ir30_144), (160, ir30_160), (161, ir30_161), (162, ir30_162), (163, ir30_163), (164, ir30_164), (165, ir30_165), (166, ir30_166), (167, ir30_167), (168, ir30_168), (169, ir30_169), (170, ir30_170), (171, ir30_171), (172, ir30_172), (173, ir30_173), (178, ir30_178), (179, ir30_179), (182, ir30_182), (183, ir30_183), (184, ir30_184), (187, ir30_187), (188, ir30_188), (189, ir30_189), (190, ir30_190), (191, ir30_191), (192, ir30_192), (193, ir30_193), (195, ir30_195), (208, ir30_208), (209, ir30_209), (210, ir30_210), (223, ir30_223), (224, ir30_224), (225, ir30_225), (226, ir30_226), (227, ir30_227), (238, ir30_238), (239, ir30_239), (242, ir30_242), (243, ir30_243), (244, ir30_244), (248, ir30_248), (249, ir30_249), (250, ir30_250), (251, ir30_251), (263, ir30_263)]
theorem irTab_eq30 : irTab30 = ofList irList30 := by kernel_rfl
theorem irSmall30 : smallAll irList30 = true := by kernel_rfl
theorem irAll30 : ∀ p, p ∈ irList30 → ∃ fn, Tryz.prog.funcs[p.1]? = some fn ∧ cFunc Tryz.prog fn = some p.2 :=
  fa ⟨_, Tryz.func6, irc30_6⟩ <|
  fa ⟨_, Tryz.func11, irc30_11⟩ <|
  fa ⟨_, Tryz.func12, irc30_12⟩ <|
  fa ⟨_, Tryz.func13, irc30_13⟩ <|
  fa ⟨_, Tryz.func20, irc30_20⟩ <|
  fa ⟨_, Tryz.func21, irc30_21⟩ <|
  fa ⟨_, Tryz.func22, irc30_22⟩ <|
  fa ⟨_, Tryz.func26, irc30_26⟩ <|
  fa ⟨_, Tryz.func27, irc30_27⟩ <|
  fa ⟨_, Tryz.func28, irc30_28⟩ <|
  fa ⟨_, Tryz.func29, irc30_29⟩ <|
  fa ⟨_, Tryz.func30, irc30_30⟩ <|
  fa ⟨_, Tryz.func31, irc30_31⟩ <|
  fa ⟨_, Tryz.func32, irc30_32⟩ <|
  fa ⟨_, Tryz.func33, irc30_33⟩ <|
  fa ⟨_, Tryz.func34, irc30_34⟩ <|
  fa ⟨_, Tryz.func35, irc30_35⟩ <|
  fa ⟨_, Tryz.func36, irc30_36⟩ <|
  fa ⟨_, Tryz.func37, irc30_37⟩ <|
  fa ⟨_, Tryz.func38, irc30_38⟩ <|
  fa ⟨_, Tryz.func39, irc30_39⟩ <|
  fa ⟨_, Tryz.func40, irc30_40⟩ <|
  fa ⟨_, Tryz.func41, irc30_41⟩ <|
  fa ⟨_, Tryz.func43, irc30_43⟩ <|
  fa ⟨_, Tryz.func44, irc30_44⟩ <|
  fa ⟨_, Tryz.func45, irc30_45⟩ <|
  fa ⟨_, Tryz.func46, irc30_46⟩ <|
  fa ⟨_, Tryz.func47, irc30_47⟩ <|
  fa ⟨_, Tryz.func49, irc30_49⟩ <|
  fa ⟨_, Tryz.func50, irc30_50⟩ <|
  fa ⟨_, Tryz.func51, irc30_51⟩ <|
  fa ⟨_, Tryz.func52, irc30_52⟩ <|
  fa ⟨_, Tryz.func53, irc30_53⟩ <|
  fa ⟨_, Tryz.func58, irc30_58⟩ <|
  fa ⟨_, Tryz.func59, irc30_59⟩ <|
  fa ⟨_, Tryz.func60, irc30_60⟩ <|
  fa ⟨_, Tryz.func64, irc30_64⟩ <|
  fa ⟨_, Tryz.func66, irc30_66⟩ <|
  fa ⟨_, Tryz.func67, irc30_67⟩ <|
  fa ⟨_, Tryz.func68, irc30_68⟩ <|
  fa ⟨_, Tryz.func69, irc30_69⟩ <|
  fa ⟨_, Tryz.func70, irc30_70⟩ <|
  fa ⟨_, Tryz.func72, irc30_72⟩ <|
  fa ⟨_, Tryz.func73, irc30_73⟩ <|
  fa ⟨_, Tryz.func74, irc30_74⟩ <|
  fa ⟨_, Tryz.func77, irc30_77⟩ <|
  fa ⟨_, Tryz.func78, irc30_78⟩ <|
  fa ⟨_, Tryz.func79, irc30_79⟩ <|
  fa ⟨_, Tryz.func96, irc30_96⟩ <|
  fa ⟨_, Tryz.func104, irc30_104⟩ <|
  fa ⟨_, Tryz.func109, irc30_109⟩ <|
  fa ⟨_, Tryz.func110, irc30_110⟩ <|
  fa ⟨_, Tryz.func111, irc30_111⟩ <|
  fa ⟨_, Tryz.func112, irc30_112⟩ <|
  fa ⟨_, Tryz.func113, irc30_113⟩ <|
  fa ⟨_, Tryz.func114, irc30_114⟩ <|
  fa ⟨_, Tryz.func115, irc30_115⟩ <|
  fa ⟨_, Tryz.func116, irc30_116⟩ <|
  fa ⟨_, Tryz.func120, irc30_120⟩ <|
  fa ⟨_, Tryz.func123, irc30_123⟩ <|
  fa ⟨_, Tryz.func124, irc30_124⟩ <|
  fa ⟨_, Tryz.func125, irc30_125⟩ <|
  fa ⟨_, Tryz.func126, irc30_126⟩ <|
  fa ⟨_, Tryz.func127, irc30_127⟩ <|
  fa ⟨_, Tryz.func128, irc30_128⟩ <|
  fa ⟨_, Tryz.func129, irc30_129⟩ <|
  fa ⟨_, Tryz.func130, irc30_130⟩ <|
  fa ⟨_, Tryz.func134, irc30_134⟩ <|
  fa ⟨_, Tryz.func135, irc30_135⟩ <|
  fa ⟨_, Tryz.func144, irc30_144⟩ <|
  fa ⟨_, Tryz.func160, irc30_160⟩ <|
  fa ⟨_, Tryz.func161, irc30_161⟩ <|
  fa ⟨_, Tryz.func162, irc30_162⟩ <|
  fa ⟨_, Tryz.func163, irc30_163⟩ <|
  fa ⟨_, Tryz.func164, irc30_164⟩ <|
  fa ⟨_, Tryz.func165, irc30_165⟩ <|
  fa ⟨_, Tryz.func166, irc30_166⟩ <|
  fa ⟨_, Tryz.func167, irc30_167⟩ <|
  fa ⟨_, Tryz.func168, irc30_168⟩ <|
  fa ⟨_, Tryz.func169, irc30_169⟩ <|
  fa ⟨_, Tryz.func170, irc30_170⟩ <|
  fa ⟨_, Tryz.func171, irc30_171⟩ <|
  fa ⟨_, Tryz.func172, irc30_172⟩ <|
  fa ⟨_, Tryz.func173, irc30_173⟩ <|
  fa ⟨_, Tryz.func178, irc30_178⟩ <|
  fa ⟨_, Tryz.func179, irc30_179⟩ <|
  fa ⟨_, Tryz.func182, irc30_182⟩ <|
  fa ⟨_, Tryz.func183, irc30_183⟩ <|
  fa ⟨_, Tryz.func184, irc30_184⟩ <|
  fa ⟨_, Tryz.func187, irc30_187⟩ <|
  fa ⟨_, Tryz.func188, irc30_188⟩ <|
  fa ⟨_, Tryz.func189, irc30_189⟩ <|
  fa ⟨_, Tryz.func190, irc30_190⟩ <|
  fa ⟨_, Tryz.func191, irc30_191⟩ <|
  fa ⟨_, Tryz.func192, irc30_192⟩ <|
  fa ⟨_, Tryz.func193, irc30_193⟩ <|
  fa ⟨_, Tryz.func195, irc30_195⟩ <|
  fa ⟨_, Tryz.func208, irc30_208⟩ <|
  fa ⟨_, Tryz.func209, irc30_209⟩ <|
  fa ⟨_, Tryz.func210, irc30_210⟩ <|
  fa ⟨_, Tryz.func223, irc30_223⟩ <|
  fa ⟨_, Tryz.func224, irc30_224⟩ <|
  fa ⟨_, Tryz.func225, irc30_225⟩ <|
  fa ⟨_, Tryz.func226, irc30_226⟩ <|
  fa ⟨_, Tryz.func227, irc30_227⟩ <|
  fa ⟨_, Tryz.func238, irc30_238⟩ <|
  fa ⟨_, Tryz.func239, irc30_239⟩ <|
  fa ⟨_, Tryz.func242, irc30_242⟩ <|
  fa ⟨_, Tryz.func243, irc30_243⟩ <|
  fa ⟨_, Tryz.func244, irc30_244⟩ <|
  fa ⟨_, Tryz.func248, irc30_248⟩ <|
  fa ⟨_, Tryz.func249, irc30_249⟩ <|
  fa ⟨_, Tryz.func250, irc30_250⟩ <|
  fa ⟨_, Tryz.func251, irc30_251⟩ <|
  fa ⟨_, Tryz.func263, irc30_263⟩ <|
  fz
theorem irTab_ok30 : TabOk Tryz.prog irTab30 := tab_of irTab_eq30 irSmall30 irAll30
theorem follows_mix30 : Tryz.prog.follows .mixedOrders = true := by kernel_rfl
theorem size_g30 : Tryz.prog.globals.size = 7 := by kernel_rfl
def letterVals30 : List Value := [.int .u8 97, .int .u8 122, .int .u8 65, .int .u8 90, .int .u8 48, .int .u8 57, .int .u8 95, .int .u8 95]
def tabVals30_1 : List Value := ([[61, 58, 61], [61, 47, 61], [45, 62], [61, 60], [62, 61], [60], [62], [61], [43], [45], [42], [40], [41], [91], [93], [123], [125], [44], [59], [124], [58], [47]] : List (List Nat)).map fun l => .string (bytesOf l)
def tabVals30_3 : List Value := ([[109, 111, 100, 117, 108, 101], [119, 104, 101, 110], [99, 97, 115, 101], [111, 102], [101, 110, 100], [116, 114, 121], [99, 97, 116, 99, 104], [114, 101, 99, 101, 105, 118, 101], [97, 102, 116, 101, 114], [102, 117, 110], [100, 105, 118], [114, 101, 109], [99, 111, 110, 102, 105, 103]] : List (List Nat)).map fun l => .string (bytesOf l)
def told30 : List (Nat × List TV) := [(2, [.i .u8 97, .i .u8 122, .i .u8 65, .i .u8 90, .i .u8 48, .i .u8 57, .i .u8 95, .i .u8 95]), (0, [.ifc 88 (.ag [.x 0])]), (1, ([[61, 58, 61], [61, 47, 61], [45, 62], [61, 60], [62, 61], [60], [62], [61], [43], [45], [42], [40], [41], [91], [93], [123], [125], [44], [59], [124], [58], [47]] : List (List Nat)).map .s), (3, ([[109, 111, 100, 117, 108, 101], [119, 104, 101, 110], [99, 97, 115, 101], [111, 102], [101, 110, 100], [116, 114, 121], [99, 97, 116, 99, 104], [114, 101, 99, 101, 105, 118, 101], [97, 102, 116, 101, 114], [102, 117, 110], [100, 105, 118], [114, 101, 109], [99, 111, 110, 102, 105, 103]] : List (List Nat)).map .s)]
def wkT30 : List (Nat × String × Nat) := []
def wkM30 (lay : Nat → List Kd) : Meth := ⟨tabM wkT30, fun _ _ => none, lay⟩
theorem wkM_ok30 {ρ : Cx} (hp : ρ.prog = Tryz.prog) : MethOk Tryz.prog ρ (wkM30 ρ.lay) := ⟨tabM_ok (l := wkT30) fun x hx =>  (by cases hx), fun _ _ _ h => (by cases h), rfl, hp⟩
def wkO30 : List (Nat × (List TV → SH → Option (TV × SH))) := [(7, asOrcL 88 0 [(138, 139), (279, 287), (73, 115)])]
def memoA30_26_0 : List TV := [(.s [99, 111, 110, 102, 105, 103, 32, 123, 115, 117, 112, 44, 123, 111, 110, 101, 95, 102, 111, 114, 95, 111, 110, 101, 44, 49, 44, 53, 125, 44, 91, 93, 125, 46])]
def memoL30_26_0 : Tls := [(1, [(.s [61, 58, 61]), (.s [61, 47, 61]), (.s [45, 62]), (.s [61, 60]), (.s [62, 61]), (.s [60]), (.s [62]), (.s [61]), (.s [43]), (.s [45]), (.s [42]), (.s [40]), (.s [41]), (.s [91]), (.s [93]), (.s [123]), (.s [125]), (.s [44]), (.s [59]), (.s [124]), (.s [58]), (.s [47])], none), (2, [(.i .u8 97), (.i .u8 122), (.i .u8 65), (.i .u8 90), (.i .u8 48), (.i .u8 57), (.i .u8 95), (.i .u8 95)], none), (3, [(.s [109, 111, 100, 117, 108, 101]), (.s [119, 104, 101, 110]), (.s [99, 97, 115, 101]), (.s [111, 102]), (.s [101, 110, 100]), (.s [116, 114, 121]), (.s [99, 97, 116, 99, 104]), (.s [114, 101, 99, 101, 105, 118, 101]), (.s [97, 102, 116, 101, 114]), (.s [102, 117, 110]), (.s [100, 105, 118]), (.s [114, 101, 109]), (.s [99, 111, 110, 102, 105, 103])], none)]
def memoA30_26_1 : List TV := [(.s [99, 111, 110, 102, 105, 103, 32, 53, 46])]
def memoL30_26_1 : Tls := [(2, [(.i .u8 97), (.i .u8 122), (.i .u8 65), (.i .u8 90), (.i .u8 48), (.i .u8 57), (.i .u8 95), (.i .u8 95)], none), (3, [(.s [109, 111, 100, 117, 108, 101]), (.s [119, 104, 101, 110]), (.s [99, 97, 115, 101]), (.s [111, 102]), (.s [101, 110, 100]), (.s [116, 114, 121]), (.s [99, 97, 116, 99, 104]), (.s [114, 101, 99, 101, 105, 118, 101]), (.s [97, 102, 116, 101, 114]), (.s [102, 117, 110]), (.s [100, 105, 118]), (.s [114, 101, 109]), (.s [99, 111, 110, 102, 105, 103])], none)]
def memoA30_68_0 : List TV := [(.ag [(.i .i8 10), (.i .i64 0), (.s []), (.s []), (.sl 756 0 5 3 3 true)])]
def memoL30_68_0 : Tls := [(2, [(.i .u8 97), (.i .u8 122), (.i .u8 65), (.i .u8 90), (.i .u8 48), (.i .u8 57), (.i .u8 95), (.i .u8 95)], none), (738, [(.i .i8 7), (.i .i64 0), (.s [111, 110, 101, 95, 102, 111, 114, 95, 111, 110, 101]), (.s []), .sln, (.i .i8 6), (.i .i64 1), (.s []), (.s []), .sln, (.i .i8 6), (.i .i64 5), (.s []), (.s []), .sln], some 104), (756, [(.i .i8 7), (.i .i64 0), (.s [115, 117, 112]), (.s []), .sln, (.i .i8 10), (.i .i64 0), (.s []), (.s []), (.sl 738 0 5 3 3 true), (.i .i8 8), (.i .i64 0), (.s []), (.s []), .sln], some 104)]
def memoA30_68_1 : List TV := [(.ag [(.i .i8 6), (.i .i64 5), (.s []), (.s []), .sln])]
def memoL30_68_1 : Tls := []
theorem wkO_ok30 {ρ : Cx} (_ : ρ.prog = Tryz.prog) (_ : ∀ j, scalV (ρ j)) (h0 : ρ 0 = .pointer (some ⟨7, 26, none⟩)) (B : Nat) : ∀ p, p ∈ wkO30 → OneOk Tryz.prog ρ B p.1 p.2 := by
  intro p hp
  simp only [wkO30, List.mem_cons, List.not_mem_nil, or_false] at hp
  rcases hp with rfl
  · refine asL_ok fun q hq => ?_
    simp only [List.mem_cons, List.not_mem_nil, or_false] at hq
    rcases hq with rfl | rfl | rfl
    · exact as_ok Tryz.func7 (by kernel_rfl) (by kernel_rfl) (by rw [size_g30]; decide) (fun a b o W h1 old h2 h3 => AsB.as_any a b o W (by rw [h0] at h1; exact h1) old h2 h3) fun a W => AsB.as_nil a W
    · exact as_ok Tryz.func7 (by kernel_rfl) (by kernel_rfl) (by rw [size_g30]; decide) (fun a b o W h1 old h2 h3 => AsS.as_any a b o W (by rw [h0] at h1; exact h1) old h2 h3) fun a W => AsS.as_nil a W
    · exact as_ok Tryz.func7 (by kernel_rfl) (by kernel_rfl) (by rw [size_g30]; decide) (fun a b o W h1 old h2 h3 => AsF.as_any a b o W (by rw [h0] at h1; exact h1) old h2 h3) fun a W => AsF.as_nil a W
theorem memoRun30_26_0 (lay : Nat → List Kd) (tys : Nat → Nat) : okV (.tu [(.ag [(.i .i8 0), (.i .i64 0), (.s []), (.s []), .sln]), (.i .i64 6), (.ag [(.i .i64 0), (.i .i64 0)])]) (run (wkM30 lay) irTab30 (listOrc wkO30) 100000 200 (.fn 26) memoA30_26_0 (memoS tys memoL30_26_0 12)) = true := (congrArg (fun r : CallT => okV (.tu [(.ag [(.i .i8 0), (.i .i64 0), (.s []), (.s []), .sln]), (.i .i64 6), (.ag [(.i .i64 0), (.i .i64 0)])]) (r (.fn 26) memoA30_26_0 (memoS tys memoL30_26_0 12))) (run_u (wkM30 lay) irTab30 wkO30 100000 200)).trans (by kernel_rfl)
theorem memoRun30_26_1 (lay : Nat → List Kd) (tys : Nat → Nat) : okV (.tu [(.ag [(.i .i8 0), (.i .i64 0), (.s []), (.s []), .sln]), (.i .i64 6), (.ag [(.i .i64 0), (.i .i64 0)])]) (run (wkM30 lay) irTab30 (listOrc wkO30) 100000 200 (.fn 26) memoA30_26_1 (memoS tys memoL30_26_1 1001)) = true := (congrArg (fun r : CallT => okV (.tu [(.ag [(.i .i8 0), (.i .i64 0), (.s []), (.s []), .sln]), (.i .i64 6), (.ag [(.i .i64 0), (.i .i64 0)])]) (r (.fn 26) memoA30_26_1 (memoS tys memoL30_26_1 1001))) (run_u (wkM30 lay) irTab30 wkO30 100000 200)).trans (by kernel_rfl)
def memoE30_26 : List (List TV × Tls × TV) := [(memoA30_26_0, memoL30_26_0, (.tu [(.ag [(.i .i8 0), (.i .i64 0), (.s []), (.s []), .sln]), (.i .i64 6), (.ag [(.i .i64 0), (.i .i64 0)])])), (memoA30_26_1, memoL30_26_1, (.tu [(.ag [(.i .i8 0), (.i .i64 0), (.s []), (.s []), .sln]), (.i .i64 6), (.ag [(.i .i64 0), (.i .i64 0)])]))]
def wkP30_26 : List (Nat × (List TV → SH → Option (TV × SH))) := (26, memoOrcL memoE30_26) :: wkO30
theorem memo_all30_26 {ρ : Cx} (hp0 : ρ.prog = Tryz.prog) (hρ : ∀ j, scalV (ρ j)) (h0 : ρ 0 = .pointer (some ⟨7, 26, none⟩)) (B : Nat) : ∀ p, p ∈ memoE30_26 → OneOk Tryz.prog ρ B 26 (memoOrc p.1 p.2.1 p.2.2) :=
  fa (memo_ok (args0 := memoA30_26_0) (L := memoL30_26_0) (nx := 12) (v0 := (.tu [(.ag [(.i .i8 0), (.i .i64 0), (.s []), (.s []), .sln]), (.i .i64 6), (.ag [(.i .i64 0), (.i .i64 0)])])) hρ (wkM_ok30 hp0) follows_mix30 irTab_ok30 (fun B => listOrc_ok (wkO_ok30 hp0 hρ h0 B)) (by kernel_rfl) (by rw [size_g30]; decide) (by decide) (by kernel_rfl) (by kernel_rfl) (memoRun30_26_0 _)) <|
  fa (memo_ok (args0 := memoA30_26_1) (L := memoL30_26_1) (nx := 1001) (v0 := (.tu [(.ag [(.i .i8 0), (.i .i64 0), (.s []), (.s []), .sln]), (.i .i64 6), (.ag [(.i .i64 0), (.i .i64 0)])])) hρ (wkM_ok30 hp0) follows_mix30 irTab_ok30 (fun B => listOrc_ok (wkO_ok30 hp0 hρ h0 B)) (by kernel_rfl) (by rw [size_g30]; decide) (by decide) (by kernel_rfl) (by kernel_rfl) (memoRun30_26_1 _)) <|
  fz
theorem wkP_ok30_26 {ρ : Cx} (hp0 : ρ.prog = Tryz.prog) (hρ : ∀ j, scalV (ρ j)) (h0 : ρ 0 = .pointer (some ⟨7, 26, none⟩)) (B : Nat) : ∀ p, p ∈ wkP30_26 → OneOk Tryz.prog ρ B p.1 p.2 :=
  fa (memoL_ok (memo_all30_26 hp0 hρ h0 B)) (wkO_ok30 hp0 hρ h0 B)
end Go.Proofs.YtfabiccdolpemaaGreatDoor.Sx
