/-
  A law's wakes, run by the closed runner. Conditions: the variables that it reads are laid. The code below is printed by Gen.
-/
import Derived.Test.YtgjfdbbghefdbaaGreatDoorOx6
import Derived.Test.YtgjfdbbghefdbaaGreatDoorChecked
namespace Go.Proofs.YtgjfdbbghefdbaaGreatDoor.Sx
open Go.RowKit
set_option maxRecDepth 100000
def ir15_7 : XF := ⟨112, 0, [(0, none)], (.seq (.reg [⟨some 0, none, .mv (.c (.b false))⟩])
  (.seq (.reg [⟨some 10, none, .call 17 []⟩,
  ⟨some 11, none, .bld [(.i .i8 0), (.i .i64 0), (.s []), (.s []), .sln] [(1, 1, (.c (.i .i64 5)))]⟩,
  ⟨some 12, none, .bls 26 5 1 [(.i .i8 0), (.i .i64 0), (.s []), (.s []), .sln] [(0, 5, (.t 11))]⟩,
  ⟨some 13, none, .call 16 [(.t 10), (.c (.i .i64 0)), (.t 12)]⟩,
  ⟨some 9, none, .mv (.t 13)⟩,
  ⟨some 14, none, .ex (.t 9) 0⟩,
  ⟨some 15, none, .ex (.t 9) 1⟩,
  ⟨some 1, none, .box 43 35 (.c (.ag [(.i .i8 0), (.i .i64 0), (.i .i64 0), .sln, .sln, .sln, .sln, (.i .i64 0), (.i .i8 0), (.i .i64 0), (.i .i64 0), (.i .i64 0), (.i .i64 0), (.i .i8 0), (.i .i64 0), (.s []), (.s []), .sln, (.i .i8 0), (.i .i64 0), (.s []), (.s []), .sln, (.i .i8 0), (.i .i64 0), (.s []), (.s []), .sln, .sln, (.i .i8 0), (.i .i64 0), (.i .i64 0), .sln, .sln, .sln]))⟩,
  ⟨none, none, .st 35 (.t 1) (.t 14)⟩,
  ⟨some 2, none, .mv (.t 15)⟩])
  (.seq (.seq (.reg [⟨some 16, none, .mv (.t 2)⟩,
  ⟨some 17, none, .bop .neq (.t 16) (.c (.i .i64 0))⟩,
  ⟨some 18, none, .mv (.t 17)⟩,
  ⟨some 19, some (18, false), .fa 3 (.t 1)⟩,
  ⟨some 20, some (18, false), .ld false 1 (.t 19)⟩,
  ⟨some 21, some (18, false), .len 1 (.t 20)⟩,
  ⟨some 22, some (18, false), .bop .neq (.t 21) (.c (.i .i64 2))⟩,
  ⟨some 23, none, .pick (.t 18) (.c (.b true)) (.t 22)⟩,
  ⟨some 24, none, .mv (.t 23)⟩,
  ⟨some 25, some (24, false), .fa 4 (.t 1)⟩,
  ⟨some 26, some (24, false), .ld false 1 (.t 25)⟩,
  ⟨some 27, some (24, false), .len 1 (.t 26)⟩,
  ⟨some 28, some (24, false), .bop .neq (.t 27) (.c (.i .i64 2))⟩,
  ⟨some 29, none, .pick (.t 24) (.c (.b true)) (.t 28)⟩,
  ⟨some 30, none, .mv (.t 29)⟩,
  ⟨some 31, some (30, false), .fa 4 (.t 1)⟩,
  ⟨some 32, some (30, false), .ld false 1 (.t 31)⟩,
  ⟨some 33, some (30, false), .ia 1 (.t 32) (.c (.i .i64 0))⟩,
  ⟨some 34, some (30, false), .ld false 1 (.t 33)⟩,
  ⟨some 35, some (30, false), .un .not (.t 34)⟩,
  ⟨some 36, none, .pick (.t 30) (.c (.b true)) (.t 35)⟩,
  ⟨some 37, none, .mv (.t 36)⟩,
  ⟨some 38, some (37, false), .fa 4 (.t 1)⟩,
  ⟨some 39, some (37, false), .ld false 1 (.t 38)⟩,
  ⟨some 40, some (37, false), .ia 1 (.t 39) (.c (.i .i64 1))⟩,
  ⟨some 41, some (37, false), .ld false 1 (.t 40)⟩,
  ⟨some 42, none, .pick (.t 37) (.c (.b true)) (.t 41)⟩])
  (.cond (.t 42) (.seq (.reg [⟨some 0, none, .mv (.c (.b false))⟩])
  .ret)
  .skip))
  (.seq (.reg [⟨some 44, none, .bld [(.i .i8 0), (.i .i64 0), (.i .i64 0), .sln, .sln, .sln, .sln, (.i .i64 0), (.i .i8 0), (.i .i64 0), (.i .i64 0), (.i .i64 0), (.i .i64 0), (.i .i8 0), (.i .i64 0), (.s []), (.s []), .sln, (.i .i8 0), (.i .i64 0), (.s []), (.s []), .sln, (.i .i8 0), (.i .i64 0), (.s []), (.s []), .sln, .sln, (.i .i8 0), (.i .i64 0), (.i .i64 0), .sln, .sln, .sln] [(0, 1, (.c (.i .i8 3)))]⟩,
  ⟨some 45, none, .ld true 35 (.t 1)⟩,
  ⟨some 46, none, .bls 43 35 2 [(.i .i8 0), (.i .i64 0), (.i .i64 0), .sln, .sln, .sln, .sln, (.i .i64 0), (.i .i8 0), (.i .i64 0), (.i .i64 0), (.i .i64 0), (.i .i64 0), (.i .i8 0), (.i .i64 0), (.s []), (.s []), .sln, (.i .i8 0), (.i .i64 0), (.s []), (.s []), .sln, (.i .i8 0), (.i .i64 0), (.s []), (.s []), .sln, .sln, (.i .i8 0), (.i .i64 0), (.i .i64 0), .sln, .sln, .sln, (.i .i8 0), (.i .i64 0), (.i .i64 0), .sln, .sln, .sln, .sln, (.i .i64 0), (.i .i8 0), (.i .i64 0), (.i .i64 0), (.i .i64 0), (.i .i64 0), (.i .i8 0), (.i .i64 0), (.s []), (.s []), .sln, (.i .i8 0), (.i .i64 0), (.s []), (.s []), .sln, (.i .i8 0), (.i .i64 0), (.s []), (.s []), .sln, .sln, (.i .i8 0), (.i .i64 0), (.i .i64 0), .sln, .sln, .sln] [(0, 35, (.t 44)), (35, 35, (.t 45))]⟩,
  ⟨some 47, none, .bld [(.i .i8 0), (.i .i64 0), (.s []), (.s []), .sln] [(1, 1, (.c (.i .i64 1)))]⟩,
  ⟨some 48, none, .call 8 [(.t 46), (.c (.i .i8 1)), (.t 47)]⟩,
  ⟨some 43, none, .mv (.t 48)⟩,
  ⟨some 49, none, .ex (.t 43) 0⟩,
  ⟨some 50, none, .ex (.t 43) 1⟩,
  ⟨some 51, none, .ex (.t 43) 2⟩,
  ⟨some 3, none, .mv (.t 49)⟩,
  ⟨some 4, none, .mv (.t 50)⟩,
  ⟨some 5, none, .mv (.t 51)⟩])
  (.seq (.reg [⟨some 52, none, .bld [(.i .i64 0), (.i .i64 0)] [(0, 1, (.c (.i .i64 1)))]⟩,
  ⟨some 53, none, .bls 63 2 1 [(.i .i64 0), (.i .i64 0)] [(0, 2, (.t 52))]⟩,
  ⟨some 54, none, .fa 6 (.t 1)⟩,
  ⟨none, none, .st 1 (.t 54) (.t 53)⟩])
  (.seq (.reg [⟨some 56, none, .ld true 35 (.t 1)⟩,
  ⟨some 57, none, .bld [(.i .i8 0), (.i .i64 0), (.i .i64 0), .sln, .sln, .sln, .sln, (.i .i64 0), (.i .i8 0), (.i .i64 0), (.i .i64 0), (.i .i64 0), (.i .i64 0), (.i .i8 0), (.i .i64 0), (.s []), (.s []), .sln, (.i .i8 0), (.i .i64 0), (.s []), (.s []), .sln, (.i .i8 0), (.i .i64 0), (.s []), (.s []), .sln, .sln, (.i .i8 0), (.i .i64 0), (.i .i64 0), .sln, .sln, .sln] []⟩,
  ⟨some 58, none, .bls 43 35 2 [(.i .i8 0), (.i .i64 0), (.i .i64 0), .sln, .sln, .sln, .sln, (.i .i64 0), (.i .i8 0), (.i .i64 0), (.i .i64 0), (.i .i64 0), (.i .i64 0), (.i .i8 0), (.i .i64 0), (.s []), (.s []), .sln, (.i .i8 0), (.i .i64 0), (.s []), (.s []), .sln, (.i .i8 0), (.i .i64 0), (.s []), (.s []), .sln, .sln, (.i .i8 0), (.i .i64 0), (.i .i64 0), .sln, .sln, .sln, (.i .i8 0), (.i .i64 0), (.i .i64 0), .sln, .sln, .sln, .sln, (.i .i64 0), (.i .i8 0), (.i .i64 0), (.i .i64 0), (.i .i64 0), (.i .i64 0), (.i .i8 0), (.i .i64 0), (.s []), (.s []), .sln, (.i .i8 0), (.i .i64 0), (.s []), (.s []), .sln, (.i .i8 0), (.i .i64 0), (.s []), (.s []), .sln, .sln, (.i .i8 0), (.i .i64 0), (.i .i64 0), .sln, .sln, .sln] [(0, 35, (.t 56)), (35, 35, (.t 57))]⟩,
  ⟨some 59, none, .bld [(.i .i8 0), (.i .i64 0), (.s []), (.s []), .sln] [(1, 1, (.c (.i .i64 1)))]⟩,
  ⟨some 60, none, .call 8 [(.t 58), (.c (.i .i8 3)), (.t 59)]⟩,
  ⟨some 55, none, .mv (.t 60)⟩,
  ⟨some 61, none, .ex (.t 55) 0⟩,
  ⟨some 62, none, .ex (.t 55) 1⟩,
  ⟨some 63, none, .ex (.t 55) 2⟩,
  ⟨some 6, none, .mv (.t 61)⟩,
  ⟨some 7, none, .mv (.t 62)⟩,
  ⟨some 8, none, .mv (.t 63)⟩])
  (.seq (.reg [⟨some 64, none, .mv (.t 3)⟩,
  ⟨some 65, none, .len 1 (.t 64)⟩,
  ⟨some 66, none, .bop .eql (.t 65) (.c (.i .i64 1))⟩,
  ⟨some 67, none, .mv (.t 66)⟩,
  ⟨some 68, some (67, true), .mv (.t 4)⟩,
  ⟨some 69, none, .pick (.t 67) (.t 68) (.c (.b false))⟩,
  ⟨some 70, none, .mv (.t 69)⟩,
  ⟨some 71, some (70, true), .mv (.t 5)⟩,
  ⟨some 72, some (70, true), .un .not (.t 71)⟩,
  ⟨some 73, none, .pick (.t 70) (.t 72) (.c (.b false))⟩,
  ⟨some 74, none, .mv (.t 73)⟩,
  ⟨some 75, some (74, true), .mv (.t 6)⟩,
  ⟨some 76, some (74, true), .len 1 (.t 75)⟩,
  ⟨some 77, some (74, true), .bop .eql (.t 76) (.c (.i .i64 1))⟩,
  ⟨some 78, none, .pick (.t 74) (.t 77) (.c (.b false))⟩,
  ⟨some 79, none, .mv (.t 78)⟩,
  ⟨some 80, some (79, true), .mv (.t 6)⟩,
  ⟨some 81, some (79, true), .ia 35 (.t 80) (.c (.i .i64 0))⟩,
  ⟨some 82, some (79, true), .fa 2 (.t 81)⟩,
  ⟨some 83, some (79, true), .ld false 1 (.t 82)⟩,
  ⟨some 84, some (79, true), .bop .eql (.t 83) (.c (.i .i64 1))⟩,
  ⟨some 85, none, .pick (.t 79) (.t 84) (.c (.b false))⟩,
  ⟨some 86, none, .mv (.t 85)⟩,
  ⟨some 87, some (86, true), .mv (.t 6)⟩,
  ⟨some 88, some (86, true), .ia 35 (.t 87) (.c (.i .i64 0))⟩,
  ⟨some 89, some (86, true), .fa 5 (.t 88)⟩,
  ⟨some 90, some (86, true), .ld false 1 (.t 89)⟩,
  ⟨some 91, some (86, true), .len 1 (.t 90)⟩,
  ⟨some 92, some (86, true), .bop .eql (.t 91) (.c (.i .i64 2))⟩,
  ⟨some 93, none, .pick (.t 86) (.t 92) (.c (.b false))⟩,
  ⟨some 94, none, .mv (.t 93)⟩,
  ⟨some 95, some (94, true), .mv (.t 6)⟩,
  ⟨some 96, some (94, true), .ia 35 (.t 95) (.c (.i .i64 0))⟩,
  ⟨some 97, some (94, true), .fa 5 (.t 96)⟩,
  ⟨some 98, some (94, true), .ld false 1 (.t 97)⟩,
  ⟨some 99, some (94, true), .ia 5 (.t 98) (.c (.i .i64 0))⟩,
  ⟨some 100, some (94, true), .fa 2 (.t 99)⟩,
  ⟨some 101, some (94, true), .ld false 1 (.t 100)⟩,
  ⟨some 102, some (94, true), .bop .eql (.t 101) (.c (.s [116, 104, 114, 111, 119]))⟩,
  ⟨some 103, none, .pick (.t 94) (.t 102) (.c (.b false))⟩,
  ⟨some 104, none, .mv (.t 103)⟩,
  ⟨some 105, some (104, true), .mv (.t 6)⟩,
  ⟨some 106, some (104, true), .ia 35 (.t 105) (.c (.i .i64 0))⟩,
  ⟨some 107, some (104, true), .fa 6 (.t 106)⟩,
  ⟨some 108, some (104, true), .ld false 1 (.t 107)⟩,
  ⟨some 109, some (104, true), .len 1 (.t 108)⟩,
  ⟨some 110, some (104, true), .bop .eql (.t 109) (.c (.i .i64 0))⟩,
  ⟨some 111, none, .pick (.t 104) (.t 110) (.c (.b false))⟩,
  ⟨some 0, none, .mv (.t 111)⟩])
  .ret)))))))⟩
def ir15_8 : XF := ⟨94, 3, [(6, none), (7, none), (8, none)], (.seq (.reg [⟨some 5, none, .box 26 5 (.t 2)⟩,
  ⟨some 6, none, .mv (.c .sln)⟩,
  ⟨some 7, none, .mv (.c (.b false))⟩,
  ⟨some 8, none, .mv (.c (.b false))⟩])
  (.scope (.seq (.reg [⟨some 12, none, .mv (.t 0)⟩,
  ⟨some 13, none, .call 18 [(.t 12)]⟩,
  ⟨some 6, none, .mv (.t 13)⟩])
  (.seq .skip
  (.seq (.blk 0 (.loop (.seq (.seq (.reg [⟨some 14, none, .mv (.t 6)⟩,
  ⟨some 15, none, .len 1 (.t 14)⟩,
  ⟨some 16, none, .bop .gtr (.t 15) (.c (.i .i64 0))⟩])
  (.cond (.t 16) .skip
  (.exit 0)))
  (.seq (.blk 1 (.seq (.reg [⟨some 25, none, .mv (.t 6)⟩,
  ⟨some 26, none, .mv (.t 6)⟩,
  ⟨some 27, none, .len 1 (.t 26)⟩,
  ⟨some 28, none, .bop .sub (.t 27) (.c (.i .i64 1))⟩,
  ⟨some 29, none, .ia 35 (.t 25) (.t 28)⟩,
  ⟨some 9, none, .mv (.t 29)⟩])
  (.seq (.reg [⟨some 30, none, .mv (.t 9)⟩,
  ⟨some 31, none, .nck (.t 30)⟩,
  ⟨some 32, none, .fa 6 (.t 31)⟩,
  ⟨some 33, none, .ld false 1 (.t 32)⟩,
  ⟨some 34, none, .len 1 (.t 33)⟩,
  ⟨some 10, none, .mv (.t 34)⟩])
  (.blk 2 (.seq (.reg [⟨some 85, none, .mv (.t 9)⟩,
  ⟨some 86, none, .nck (.t 85)⟩,
  ⟨some 87, none, .fa 0 (.t 86)⟩,
  ⟨some 88, none, .ld false 1 (.t 87)⟩,
  ⟨some 89, none, .bop .neq (.t 88) (.c (.i .i8 0))⟩,
  ⟨some 84, none, .mv (.t 89)⟩])
  (.cond (.t 84) (.seq (.reg [⟨some 90, none, .mv (.t 6)⟩,
  ⟨some 6, none, .mv (.t 90)⟩,
  ⟨some 7, none, .mv (.c (.b true))⟩,
  ⟨some 8, none, .mv (.c (.b false))⟩])
  .ret)
  (.seq (.reg [⟨some 92, none, .mv (.t 10)⟩,
  ⟨some 93, none, .bop .eql (.t 92) (.c (.i .i64 0))⟩,
  ⟨some 91, none, .mv (.t 93)⟩])
  (.cond (.t 91) (.exit 1)
  (.seq (.reg [⟨some 35, none, .mv (.t 9)⟩,
  ⟨some 36, none, .nck (.t 35)⟩,
  ⟨some 37, none, .fa 6 (.t 36)⟩,
  ⟨some 38, none, .ld false 1 (.t 37)⟩,
  ⟨some 39, none, .mv (.t 10)⟩,
  ⟨some 40, none, .bop .sub (.t 39) (.c (.i .i64 1))⟩,
  ⟨some 41, none, .ia 2 (.t 38) (.t 40)⟩,
  ⟨some 42, none, .ld true 2 (.t 41)⟩,
  ⟨some 11, none, .box 63 2 (.c (.ag [(.i .i64 0), (.i .i64 0)]))⟩,
  ⟨none, none, .st 2 (.t 11) (.t 42)⟩])
  (.seq (.reg [⟨some 43, none, .mv (.t 9)⟩,
  ⟨some 44, none, .mv (.t 9)⟩,
  ⟨some 45, none, .nck (.t 44)⟩,
  ⟨some 46, none, .fa 6 (.t 45)⟩,
  ⟨some 47, none, .ld false 1 (.t 46)⟩,
  ⟨some 48, none, .mv (.t 10)⟩,
  ⟨some 49, none, .bop .sub (.t 48) (.c (.i .i64 1))⟩,
  ⟨some 50, none, .slc 2 (.t 47) none (some (.t 49)) none⟩,
  ⟨some 51, none, .nck (.t 43)⟩,
  ⟨some 52, none, .fa 6 (.t 51)⟩,
  ⟨none, none, .st 1 (.t 52) (.t 50)⟩])
  (.seq (.par [⟨some 53, none, .mv (.t 9)⟩,
  ⟨some 54, none, .mv (.t 9)⟩,
  ⟨some 55, none, .nck (.t 54)⟩,
  ⟨some 56, none, .fa 5 (.t 55)⟩,
  ⟨some 57, none, .ld false 1 (.t 56)⟩,
  ⟨some 58, none, .fa 1 (.t 11)⟩,
  ⟨some 59, none, .ld false 1 (.t 58)⟩,
  ⟨some 60, none, .mm true (.t 59) (.c (.i .i64 0))⟩,
  ⟨some 61, none, .mv (.t 9)⟩,
  ⟨some 62, none, .nck (.t 61)⟩,
  ⟨some 63, none, .fa 5 (.t 62)⟩,
  ⟨some 64, none, .ld false 1 (.t 63)⟩,
  ⟨some 65, none, .len 1 (.t 64)⟩,
  ⟨some 66, none, .mm false (.t 60) (.t 65)⟩,
  ⟨some 67, none, .slc 5 (.t 57) none (some (.t 66)) none⟩,
  ⟨some 68, none, .mv (.t 1)⟩,
  ⟨some 69, none, .call 19 [(.t 68)]⟩,
  ⟨some 70, none, .ld true 5 (.t 5)⟩,
  ⟨some 71, none, .bls 26 5 2 [(.i .i8 0), (.i .i64 0), (.s []), (.s []), .sln, (.i .i8 0), (.i .i64 0), (.s []), (.s []), .sln] [(0, 5, (.t 69)), (5, 5, (.t 70))]⟩,
  ⟨some 72, none, .app 26 5 (.t 67) (.t 71)⟩,
  ⟨some 73, none, .nck (.t 53)⟩,
  ⟨some 74, none, .fa 5 (.t 73)⟩,
  ⟨none, none, .st 1 (.t 74) (.t 72)⟩] [0, 0, 2, 6, 14, 0, 32, 96, 0, 256, 768, 1792, 3840, 8160, 16382, 0, 32768, 0, 229376, 524286, 1048575, 2097151, 4194303])
  (.seq (.reg [⟨some 75, none, .mv (.t 9)⟩,
  ⟨some 76, none, .mv (.t 9)⟩,
  ⟨some 77, none, .fa 0 (.t 11)⟩,
  ⟨some 78, none, .ld false 1 (.t 77)⟩,
  ⟨some 79, none, .nck (.t 75)⟩,
  ⟨some 80, none, .fa 2 (.t 79)⟩,
  ⟨none, none, .st 1 (.t 80) (.t 78)⟩,
  ⟨some 81, none, .nck (.t 76)⟩,
  ⟨some 82, none, .fa 7 (.t 81)⟩,
  ⟨none, none, .st 1 (.t 82) (.c (.i .i64 (-1)))⟩])
  (.seq (.reg [⟨some 83, none, .mv (.t 6)⟩,
  ⟨some 6, none, .mv (.t 83)⟩,
  ⟨some 7, none, .mv (.c (.b false))⟩,
  ⟨some 8, none, .mv (.c (.b false))⟩])
  .ret)))))))))))))
  (.reg [⟨some 17, none, .mv (.t 6)⟩,
  ⟨some 18, none, .mv (.t 6)⟩,
  ⟨some 19, none, .len 1 (.t 18)⟩,
  ⟨some 20, none, .bop .sub (.t 19) (.c (.i .i64 1))⟩,
  ⟨some 21, none, .mv (.t 6)⟩,
  ⟨some 22, none, .len 1 (.t 21)⟩,
  ⟨some 23, none, .bop .sub (.t 22) (.c (.i .i64 1))⟩,
  ⟨some 24, none, .slc 35 (.t 17) none (some (.t 20)) (some (.t 23))⟩,
  ⟨some 6, none, .mv (.t 24)⟩])))))
  (.seq (.reg [⟨some 6, none, .mv (.c .sln)⟩,
  ⟨some 7, none, .mv (.c (.b false))⟩,
  ⟨some 8, none, .mv (.c (.b true))⟩])
  .ret))))))⟩
def ir15_16 : XF := ⟨75, 3, [(6, some (true, 35)), (7, none)], (.seq (.reg [⟨some 3, none, .box 60 3 (.t 0)⟩,
  ⟨some 6, none, .box 43 35 (.c (.ag [(.i .i8 0), (.i .i64 0), (.i .i64 0), .sln, .sln, .sln, .sln, (.i .i64 0), (.i .i8 0), (.i .i64 0), (.i .i64 0), (.i .i64 0), (.i .i64 0), (.i .i8 0), (.i .i64 0), (.s []), (.s []), .sln, (.i .i8 0), (.i .i64 0), (.s []), (.s []), .sln, (.i .i8 0), (.i .i64 0), (.s []), (.s []), .sln, .sln, (.i .i8 0), (.i .i64 0), (.i .i64 0), .sln, .sln, .sln]))⟩,
  ⟨some 7, none, .mv (.c (.i .i64 0))⟩])
  (.seq (.seq (.reg [⟨some 11, none, .ld true 3 (.t 3)⟩,
  ⟨some 12, none, .call 27 [(.t 11)]⟩,
  ⟨some 13, none, .bop .neq (.t 12) (.c (.i .i64 0))⟩,
  ⟨some 14, none, .mv (.t 13)⟩,
  ⟨some 15, some (14, false), .mv (.t 1)⟩,
  ⟨some 16, some (14, false), .bop .lss (.t 15) (.c (.i .i64 0))⟩,
  ⟨some 17, none, .pick (.t 14) (.c (.b true)) (.t 16)⟩,
  ⟨some 18, none, .mv (.t 17)⟩,
  ⟨some 19, some (18, false), .mv (.t 1)⟩,
  ⟨some 20, some (18, false), .fa 0 (.t 3)⟩,
  ⟨some 21, some (18, false), .ld false 1 (.t 20)⟩,
  ⟨some 22, some (18, false), .len 1 (.t 21)⟩,
  ⟨some 23, some (18, false), .bop .geq (.t 19) (.t 22)⟩,
  ⟨some 24, none, .pick (.t 18) (.c (.b true)) (.t 23)⟩,
  ⟨some 25, none, .mv (.t 24)⟩,
  ⟨some 26, some (25, false), .mv (.t 2)⟩,
  ⟨some 27, some (25, false), .len 1 (.t 26)⟩,
  ⟨some 28, some (25, false), .fa 0 (.t 3)⟩,
  ⟨some 29, some (25, false), .ld false 1 (.t 28)⟩,
  ⟨some 30, some (25, false), .mv (.t 1)⟩,
  ⟨some 31, some (25, false), .ia 5 (.t 29) (.t 30)⟩,
  ⟨some 32, some (25, false), .fa 2 (.t 31)⟩,
  ⟨some 33, some (25, false), .ld false 1 (.t 32)⟩,
  ⟨some 34, some (25, false), .bop .neq (.t 27) (.t 33)⟩,
  ⟨some 35, none, .pick (.t 25) (.c (.b true)) (.t 34)⟩,
  ⟨some 36, none, .mv (.t 35)⟩,
  ⟨some 37, some (36, false), .mv (.t 2)⟩,
  ⟨some 38, some (36, false), .call 28 [(.t 37), (.c (.f (.func 29) [] []))]⟩,
  ⟨some 39, none, .pick (.t 36) (.c (.b true)) (.t 38)⟩])
  (.cond (.t 39) (.seq (.reg [⟨some 40, none, .bld [(.i .i8 0), (.i .i64 0), (.i .i64 0), .sln, .sln, .sln, .sln, (.i .i64 0), (.i .i8 0), (.i .i64 0), (.i .i64 0), (.i .i64 0), (.i .i64 0), (.i .i8 0), (.i .i64 0), (.s []), (.s []), .sln, (.i .i8 0), (.i .i64 0), (.s []), (.s []), .sln, (.i .i8 0), (.i .i64 0), (.s []), (.s []), .sln, .sln, (.i .i8 0), (.i .i64 0), (.i .i64 0), .sln, .sln, .sln] []⟩,
  ⟨none, none, .st 35 (.t 6) (.t 40)⟩,
  ⟨some 7, none, .mv (.c (.i .i64 2))⟩])
  .ret)
  .skip))
  (.seq (.reg [⟨some 41, none, .fa 0 (.t 3)⟩,
  ⟨some 42, none, .ld false 1 (.t 41)⟩,
  ⟨some 43, none, .mv (.t 1)⟩,
  ⟨some 44, none, .ia 5 (.t 42) (.t 43)⟩,
  ⟨some 45, none, .ld true 5 (.t 44)⟩,
  ⟨some 8, none, .box 76 5 (.c (.ag [(.s []), (.s []), (.i .i64 0), (.i .i64 0), (.i .i64 0)]))⟩,
  ⟨none, none, .st 5 (.t 8) (.t 45)⟩])
  (.seq (.par [⟨some 46, none, .mv (.t 1)⟩,
  ⟨some 47, none, .fa 3 (.t 8)⟩,
  ⟨some 48, none, .ld false 1 (.t 47)⟩,
  ⟨some 49, none, .fa 4 (.t 8)⟩,
  ⟨some 50, none, .ld false 1 (.t 49)⟩,
  ⟨some 51, none, .mks 26 5 [(.i .i8 0), (.i .i64 0), (.s []), (.s []), .sln] (.t 50) (.t 50)⟩,
  ⟨some 52, none, .fa 4 (.t 8)⟩,
  ⟨some 53, none, .ld false 1 (.t 52)⟩,
  ⟨some 54, none, .mks 4 1 [(.b false)] (.t 53) (.t 53)⟩,
  ⟨some 55, none, .bld [(.i .i8 0), (.i .i64 0), (.i .i64 0), .sln, .sln, .sln, .sln, (.i .i64 0), (.i .i8 0), (.i .i64 0), (.i .i64 0), (.i .i64 0), (.i .i64 0), (.i .i8 0), (.i .i64 0), (.s []), (.s []), .sln, (.i .i8 0), (.i .i64 0), (.s []), (.s []), .sln, (.i .i8 0), (.i .i64 0), (.s []), (.s []), .sln, .sln, (.i .i8 0), (.i .i64 0), (.i .i64 0), .sln, .sln, .sln] [(1, 1, (.t 46)), (2, 1, (.t 48)), (3, 1, (.t 51)), (4, 1, (.t 54)), (7, 1, (.c (.i .i64 (-1))))]⟩,
  ⟨some 9, none, .box 43 35 (.c (.ag [(.i .i8 0), (.i .i64 0), (.i .i64 0), .sln, .sln, .sln, .sln, (.i .i64 0), (.i .i8 0), (.i .i64 0), (.i .i64 0), (.i .i64 0), (.i .i64 0), (.i .i8 0), (.i .i64 0), (.s []), (.s []), .sln, (.i .i8 0), (.i .i64 0), (.s []), (.s []), .sln, (.i .i8 0), (.i .i64 0), (.s []), (.s []), .sln, .sln, (.i .i8 0), (.i .i64 0), (.i .i64 0), .sln, .sln, .sln]))⟩,
  ⟨none, none, .st 35 (.t 9) (.t 55)⟩] [0, 0, 2, 0, 8, 24, 0, 64, 192, 511, 0, 2047])
  (.seq (.seq (.reg [⟨some 56, none, .mv (.t 2)⟩,
  ⟨some 57, none, .len 1 (.t 56)⟩,
  ⟨some 58, none, .mv (.c (.i .i64 0))⟩])
  (.blk 0 (.loop (.seq (.reg [⟨some 59, none, .bop .lss (.t 58) (.t 57)⟩])
  (.seq (.cond (.t 59) .skip
  (.exit 0))
  (.seq (.blk 1 (.seq (.reg [⟨some 60, none, .mv (.t 58)⟩,
  ⟨some 10, none, .mv (.t 60)⟩])
  (.par [⟨some 61, none, .fa 3 (.t 9)⟩,
  ⟨some 62, none, .ld false 1 (.t 61)⟩,
  ⟨some 63, none, .mv (.t 10)⟩,
  ⟨some 64, none, .fa 4 (.t 9)⟩,
  ⟨some 65, none, .ld false 1 (.t 64)⟩,
  ⟨some 66, none, .mv (.t 10)⟩,
  ⟨some 67, none, .mv (.t 2)⟩,
  ⟨some 68, none, .mv (.t 10)⟩,
  ⟨some 69, none, .ia 5 (.t 67) (.t 68)⟩,
  ⟨some 70, none, .ld true 5 (.t 69)⟩,
  ⟨some 71, none, .ia 5 (.t 62) (.t 63)⟩,
  ⟨none, none, .st 5 (.t 71) (.t 70)⟩,
  ⟨some 72, none, .ia 1 (.t 65) (.t 66)⟩,
  ⟨none, none, .st 1 (.t 72) (.c (.b true))⟩] [0, 1, 0, 0, 8, 0, 0, 0, 192, 448, 967, 1991, 4095, 8191])))
  (.reg [⟨some 73, none, .bop .add (.t 58) (.c (.i .i64 1))⟩,
  ⟨some 58, none, .mv (.t 73)⟩])))))))
  (.seq (.reg [⟨some 74, none, .ld true 35 (.t 9)⟩,
  ⟨none, none, .st 35 (.t 6) (.t 74)⟩,
  ⟨some 7, none, .mv (.c (.i .i64 0))⟩])
  .ret))))))⟩
def ir15_17 : XF := ⟨7, 0, [(0, some (true, 3))], (.seq (.reg [⟨some 0, none, .box 60 3 (.c (.ag [.sln, .sln, .sln]))⟩])
  (.seq (.reg [⟨some 1, none, .bld [(.s []), (.s []), (.i .i64 0), (.i .i64 0), (.i .i64 0)] [(0, 1, (.c (.s [109]))), (1, 1, (.c (.s [102]))), (2, 1, (.c (.i .i64 1))), (4, 1, (.c (.i .i64 2)))]⟩,
  ⟨some 2, none, .bls 76 5 1 [(.s []), (.s []), (.i .i64 0), (.i .i64 0), (.i .i64 0)] [(0, 5, (.t 1))]⟩,
  ⟨some 3, none, .bld [(.i .i8 0), (.i .i64 0), (.i .i64 0), (.i .i8 0), (.i .i64 0), (.s []), (.s []), .sln, (.i .i8 0), (.i .i64 0), (.s []), (.s []), .sln, .sln] [(0, 1, (.c (.i .i8 1)))]⟩,
  ⟨some 4, none, .bld [(.i .i8 0), (.i .i64 0), (.i .i64 0), (.i .i8 0), (.i .i64 0), (.s []), (.s []), .sln, (.i .i8 0), (.i .i64 0), (.s []), (.s []), .sln, .sln] [(0, 1, (.c (.i .i8 11)))]⟩,
  ⟨some 5, none, .bls 82 14 2 [(.i .i8 0), (.i .i64 0), (.i .i64 0), (.i .i8 0), (.i .i64 0), (.s []), (.s []), .sln, (.i .i8 0), (.i .i64 0), (.s []), (.s []), .sln, .sln, (.i .i8 0), (.i .i64 0), (.i .i64 0), (.i .i8 0), (.i .i64 0), (.s []), (.s []), .sln, (.i .i8 0), (.i .i64 0), (.s []), (.s []), .sln, .sln] [(0, 14, (.t 3)), (14, 14, (.t 4))]⟩,
  ⟨some 6, none, .bld [.sln, .sln, .sln] [(0, 1, (.t 2)), (1, 1, (.t 5))]⟩,
  ⟨none, none, .st 3 (.t 0) (.t 6)⟩])
  .ret))⟩
def ir15_18 : XF := ⟨28, 1, [(2, none)], (.seq (.reg [⟨some 2, none, .mv (.c .sln)⟩])
  (.seq (.reg [⟨some 5, none, .mv (.t 0)⟩,
  ⟨some 6, none, .len 1 (.t 5)⟩,
  ⟨some 7, none, .mks 43 35 [(.i .i8 0), (.i .i64 0), (.i .i64 0), .sln, .sln, .sln, .sln, (.i .i64 0), (.i .i8 0), (.i .i64 0), (.i .i64 0), (.i .i64 0), (.i .i64 0), (.i .i8 0), (.i .i64 0), (.s []), (.s []), .sln, (.i .i8 0), (.i .i64 0), (.s []), (.s []), .sln, (.i .i8 0), (.i .i64 0), (.s []), (.s []), .sln, .sln, (.i .i8 0), (.i .i64 0), (.i .i64 0), .sln, .sln, .sln] (.t 6) (.t 6)⟩,
  ⟨some 3, none, .mv (.t 7)⟩])
  (.seq (.seq (.reg [⟨some 8, none, .mv (.t 0)⟩,
  ⟨some 9, none, .len 1 (.t 8)⟩,
  ⟨some 10, none, .mv (.c (.i .i64 0))⟩])
  (.blk 0 (.loop (.seq (.reg [⟨some 11, none, .bop .lss (.t 10) (.t 9)⟩])
  (.seq (.cond (.t 11) .skip
  (.exit 0))
  (.seq (.blk 1 (.seq (.reg [⟨some 12, none, .mv (.t 10)⟩,
  ⟨some 4, none, .mv (.t 12)⟩])
  (.reg [⟨some 13, none, .mv (.t 3)⟩,
  ⟨some 14, none, .mv (.t 4)⟩,
  ⟨some 15, none, .mv (.t 0)⟩,
  ⟨some 16, none, .mv (.t 4)⟩,
  ⟨some 17, none, .ia 35 (.t 15) (.t 16)⟩,
  ⟨some 18, none, .ld true 35 (.t 17)⟩,
  ⟨some 19, none, .call 26 [(.t 18)]⟩,
  ⟨some 20, none, .ia 35 (.t 13) (.t 14)⟩,
  ⟨none, none, .st 35 (.t 20) (.t 19)⟩])))
  (.reg [⟨some 21, none, .bop .add (.t 10) (.c (.i .i64 1))⟩,
  ⟨some 10, none, .mv (.t 21)⟩])))))))
  (.seq (.reg [⟨some 22, none, .mv (.t 3)⟩,
  ⟨some 23, none, .mv (.t 3)⟩,
  ⟨some 24, none, .len 1 (.t 23)⟩,
  ⟨some 25, none, .mv (.t 3)⟩,
  ⟨some 26, none, .len 1 (.t 25)⟩,
  ⟨some 27, none, .slc 35 (.t 22) none (some (.t 24)) (some (.t 26))⟩,
  ⟨some 2, none, .mv (.t 27)⟩])
  .ret))))⟩
def ir15_19 : XF := ⟨16, 1, [(2, some (true, 5))], (.seq (.reg [⟨some 2, none, .box 26 5 (.c (.ag [(.i .i8 0), (.i .i64 0), (.s []), (.s []), .sln]))⟩])
  (.seq (.reg [⟨some 4, none, .call 30 []⟩,
  ⟨some 3, none, .box 83 4 (.c (.ag [(.s []), (.s []), (.s []), (.s [])]))⟩,
  ⟨none, none, .st 4 (.t 3) (.t 4)⟩])
  (.seq (.seq (.reg [⟨some 5, none, .mv (.t 0)⟩,
  ⟨some 6, none, .bop .lss (.t 5) (.c (.i .i8 0))⟩,
  ⟨some 7, none, .mv (.t 6)⟩,
  ⟨some 8, some (7, false), .mv (.t 0)⟩,
  ⟨some 9, some (7, false), .cvi .i64 (.t 8)⟩,
  ⟨some 10, some (7, false), .bop .geq (.t 9) (.c (.i .i64 4))⟩,
  ⟨some 11, none, .pick (.t 7) (.c (.b true)) (.t 10)⟩])
  (.cond (.t 11) (.reg [⟨some 0, none, .mv (.c (.i .i8 0))⟩])
  .skip))
  (.seq (.reg [⟨some 12, none, .mv (.t 0)⟩,
  ⟨some 13, none, .iaA 4 1 (.t 3) (.t 12)⟩,
  ⟨some 14, none, .ld false 1 (.t 13)⟩,
  ⟨some 15, none, .bld [(.i .i8 0), (.i .i64 0), (.s []), (.s []), .sln] [(0, 1, (.c (.i .i8 1))), (2, 1, (.t 14))]⟩,
  ⟨none, none, .st 5 (.t 2) (.t 15)⟩])
  .ret))))⟩
def ir15_26 : XF := ⟨38, 1, [(2, some (true, 35))], (.seq (.reg [⟨some 1, none, .box 43 35 (.t 0)⟩,
  ⟨some 2, none, .box 43 35 (.c (.ag [(.i .i8 0), (.i .i64 0), (.i .i64 0), .sln, .sln, .sln, .sln, (.i .i64 0), (.i .i8 0), (.i .i64 0), (.i .i64 0), (.i .i64 0), (.i .i64 0), (.i .i8 0), (.i .i64 0), (.s []), (.s []), .sln, (.i .i8 0), (.i .i64 0), (.s []), (.s []), .sln, (.i .i8 0), (.i .i64 0), (.s []), (.s []), .sln, .sln, (.i .i8 0), (.i .i64 0), (.i .i64 0), .sln, .sln, .sln]))⟩])
  (.seq (.par [⟨some 3, none, .fa 3 (.t 1)⟩,
  ⟨some 4, none, .ld false 1 (.t 3)⟩,
  ⟨some 5, none, .call 32 [(.t 4)]⟩,
  ⟨some 6, none, .fa 4 (.t 1)⟩,
  ⟨some 7, none, .ld false 1 (.t 6)⟩,
  ⟨some 8, none, .call 33 [(.t 7)]⟩,
  ⟨some 9, none, .fa 5 (.t 1)⟩,
  ⟨some 10, none, .ld false 1 (.t 9)⟩,
  ⟨some 11, none, .call 32 [(.t 10)]⟩,
  ⟨some 12, none, .fa 6 (.t 1)⟩,
  ⟨some 13, none, .ld false 1 (.t 12)⟩,
  ⟨some 14, none, .call 34 [(.t 13)]⟩,
  ⟨some 15, none, .fa 3 (.t 1)⟩,
  ⟨none, none, .st 1 (.t 15) (.t 5)⟩,
  ⟨some 16, none, .fa 4 (.t 1)⟩,
  ⟨none, none, .st 1 (.t 16) (.t 8)⟩,
  ⟨some 17, none, .fa 5 (.t 1)⟩,
  ⟨none, none, .st 1 (.t 17) (.t 11)⟩,
  ⟨some 18, none, .fa 6 (.t 1)⟩,
  ⟨none, none, .st 1 (.t 18) (.t 14)⟩] [0, 1, 3, 0, 8, 31, 0, 64, 255, 0, 512, 2047, 1759, 8191, 16383, 32767, 65535, 131071, 262143, 524287])
  (.seq (.par [⟨some 19, none, .fa 8 (.t 1)⟩,
  ⟨some 20, none, .fa 20 (.t 19)⟩,
  ⟨some 21, none, .ld false 1 (.t 20)⟩,
  ⟨some 22, none, .call 35 [(.t 21)]⟩,
  ⟨some 23, none, .fa 8 (.t 1)⟩,
  ⟨some 24, none, .fa 25 (.t 23)⟩,
  ⟨some 25, none, .ld false 1 (.t 24)⟩,
  ⟨some 26, none, .call 36 [(.t 25)]⟩,
  ⟨some 27, none, .fa 8 (.t 1)⟩,
  ⟨some 28, none, .fa 26 (.t 27)⟩,
  ⟨some 29, none, .ld false 1 (.t 28)⟩,
  ⟨some 30, none, .call 36 [(.t 29)]⟩,
  ⟨some 31, none, .fa 8 (.t 1)⟩,
  ⟨some 32, none, .fa 20 (.t 31)⟩,
  ⟨none, none, .st 1 (.t 32) (.t 22)⟩,
  ⟨some 33, none, .fa 8 (.t 1)⟩,
  ⟨some 34, none, .fa 25 (.t 33)⟩,
  ⟨none, none, .st 1 (.t 34) (.t 26)⟩,
  ⟨some 35, none, .fa 8 (.t 1)⟩,
  ⟨some 36, none, .fa 26 (.t 35)⟩,
  ⟨none, none, .st 1 (.t 36) (.t 30)⟩] [0, 1, 3, 7, 0, 16, 48, 127, 0, 256, 768, 2047, 1919, 6015, 16383, 32767, 65535, 131071, 262143, 524287, 1048575])
  (.seq (.reg [⟨some 37, none, .ld true 35 (.t 1)⟩,
  ⟨none, none, .st 35 (.t 2) (.t 37)⟩])
  .ret))))⟩
def ir15_27 : XF := ⟨140, 1, [(2, none)], (.seq (.reg [⟨some 1, none, .box 60 3 (.t 0)⟩,
  ⟨some 2, none, .mv (.c (.i .i64 0))⟩])
  (.seq (.seq (.reg [⟨some 11, none, .fa 1 (.t 1)⟩,
  ⟨some 12, none, .ld false 1 (.t 11)⟩,
  ⟨some 13, none, .len 1 (.t 12)⟩,
  ⟨some 14, none, .bop .eql (.t 13) (.c (.i .i64 0))⟩,
  ⟨some 15, none, .mv (.t 14)⟩,
  ⟨some 16, some (15, false), .fa 1 (.t 1)⟩,
  ⟨some 17, some (15, false), .ld false 1 (.t 16)⟩,
  ⟨some 18, some (15, false), .len 1 (.t 17)⟩,
  ⟨some 19, some (15, false), .bop .gtr (.t 18) (.c (.i .i64 4096))⟩,
  ⟨some 20, none, .pick (.t 15) (.c (.b true)) (.t 19)⟩,
  ⟨some 21, none, .mv (.t 20)⟩,
  ⟨some 22, some (21, false), .fa 0 (.t 1)⟩,
  ⟨some 23, some (21, false), .ld false 1 (.t 22)⟩,
  ⟨some 24, some (21, false), .len 1 (.t 23)⟩,
  ⟨some 25, some (21, false), .bop .gtr (.t 24) (.c (.i .i64 4096))⟩,
  ⟨some 26, none, .pick (.t 21) (.c (.b true)) (.t 25)⟩,
  ⟨some 27, none, .mv (.t 26)⟩,
  ⟨some 28, some (27, false), .fa 2 (.t 1)⟩,
  ⟨some 29, some (27, false), .ld false 1 (.t 28)⟩,
  ⟨some 30, some (27, false), .len 1 (.t 29)⟩,
  ⟨some 31, some (27, false), .bop .gtr (.t 30) (.c (.i .i64 4097))⟩,
  ⟨some 32, none, .pick (.t 27) (.c (.b true)) (.t 31)⟩])
  (.cond (.t 32) (.seq (.reg [⟨some 2, none, .mv (.c (.i .i64 130))⟩])
  .ret)
  .skip))
  (.seq (.reg [⟨some 3, none, .mv (.c (.i .i64 0))⟩])
  (.seq (.seq (.reg [⟨some 33, none, .fa 2 (.t 1)⟩,
  ⟨some 34, none, .ld false 1 (.t 33)⟩,
  ⟨some 35, none, .len 1 (.t 34)⟩,
  ⟨some 36, none, .mv (.c (.i .i64 0))⟩])
  (.blk 0 (.loop (.seq (.reg [⟨some 37, none, .bop .lss (.t 36) (.t 35)⟩])
  (.seq (.cond (.t 37) .skip
  (.exit 0))
  (.seq (.blk 1 (.seq (.reg [⟨some 38, none, .ia 1 (.t 34) (.t 36)⟩,
  ⟨some 39, none, .ld false 1 (.t 38)⟩,
  ⟨some 5, none, .mv (.t 39)⟩])
  (.seq (.reg [⟨some 40, none, .mv (.t 3)⟩,
  ⟨some 41, none, .mv (.t 5)⟩,
  ⟨some 42, none, .len 1 (.t 41)⟩,
  ⟨some 43, none, .bop .add (.t 40) (.t 42)⟩,
  ⟨some 3, none, .mv (.t 43)⟩])
  (.seq (.reg [⟨some 44, none, .mv (.t 3)⟩,
  ⟨some 45, none, .bop .gtr (.t 44) (.c (.i .i64 4096))⟩,
  ⟨some 46, none, .mv (.t 45)⟩,
  ⟨some 47, some (46, false), .mv (.t 5)⟩,
  ⟨some 48, some (46, false), .mkf (.func 38) [] [(.t 1)]⟩,
  ⟨some 49, some (46, false), .call 37 [(.t 47), (.t 48)]⟩,
  ⟨some 50, none, .pick (.t 46) (.c (.b true)) (.t 49)⟩])
  (.cond (.t 50) (.seq (.reg [⟨some 2, none, .mv (.c (.i .i64 130))⟩])
  .ret)
  .skip)))))
  (.reg [⟨some 51, none, .bop .add (.t 36) (.c (.i .i64 1))⟩,
  ⟨some 36, none, .mv (.t 51)⟩])))))))
  (.seq (.reg [⟨some 52, none, .mkm⟩,
  ⟨some 6, none, .mv (.t 52)⟩])
  (.seq (.seq (.reg [⟨some 53, none, .fa 0 (.t 1)⟩,
  ⟨some 54, none, .ld false 1 (.t 53)⟩,
  ⟨some 55, none, .len 1 (.t 54)⟩,
  ⟨some 56, none, .mv (.c (.i .i64 0))⟩])
  (.blk 2 (.loop (.seq (.reg [⟨some 57, none, .bop .lss (.t 56) (.t 55)⟩])
  (.seq (.cond (.t 57) .skip
  (.exit 2))
  (.seq (.blk 3 (.seq (.reg [⟨some 58, none, .ia 5 (.t 54) (.t 56)⟩,
  ⟨some 59, none, .ld true 5 (.t 58)⟩,
  ⟨some 8, none, .box 76 5 (.c (.ag [(.s []), (.s []), (.i .i64 0), (.i .i64 0), (.i .i64 0)]))⟩,
  ⟨none, none, .st 5 (.t 8) (.t 59)⟩])
  (.seq (.reg [⟨some 60, none, .fa 0 (.t 8)⟩,
  ⟨some 61, none, .ld false 1 (.t 60)⟩,
  ⟨some 62, none, .fa 1 (.t 8)⟩,
  ⟨some 63, none, .ld false 1 (.t 62)⟩,
  ⟨some 64, none, .fa 2 (.t 8)⟩,
  ⟨some 65, none, .ld false 1 (.t 64)⟩,
  ⟨some 66, none, .bld [(.s []), (.s []), (.i .i64 0)] [(0, 1, (.t 61)), (1, 1, (.t 63)), (2, 1, (.t 65))]⟩,
  ⟨some 9, none, .box 101 3 (.c (.ag [(.s []), (.s []), (.i .i64 0)]))⟩,
  ⟨none, none, .st 3 (.t 9) (.t 66)⟩])
  (.seq (.seq (.reg [⟨some 67, none, .fa 0 (.t 8)⟩,
  ⟨some 68, none, .ld false 1 (.t 67)⟩,
  ⟨some 69, none, .call 40 [(.t 68)]⟩,
  ⟨some 70, none, .un .not (.t 69)⟩,
  ⟨some 71, none, .mv (.t 70)⟩,
  ⟨some 72, some (71, false), .fa 1 (.t 8)⟩,
  ⟨some 73, some (71, false), .ld false 1 (.t 72)⟩,
  ⟨some 74, some (71, false), .call 40 [(.t 73)]⟩,
  ⟨some 75, some (71, false), .un .not (.t 74)⟩,
  ⟨some 76, none, .pick (.t 71) (.c (.b true)) (.t 75)⟩,
  ⟨some 77, none, .mv (.t 76)⟩,
  ⟨some 78, some (77, false), .fa 2 (.t 8)⟩,
  ⟨some 79, some (77, false), .ld false 1 (.t 78)⟩,
  ⟨some 80, some (77, false), .call 39 [(.t 79), (.c (.i .i64 8))]⟩,
  ⟨some 81, some (77, false), .un .not (.t 80)⟩,
  ⟨some 82, none, .pick (.t 77) (.c (.b true)) (.t 81)⟩,
  ⟨some 83, none, .mv (.t 82)⟩,
  ⟨some 84, some (83, false), .fa 3 (.t 8)⟩,
  ⟨some 85, some (83, false), .ld false 1 (.t 84)⟩,
  ⟨some 86, some (83, false), .fa 1 (.t 1)⟩,
  ⟨some 87, some (83, false), .ld false 1 (.t 86)⟩,
  ⟨some 88, some (83, false), .len 1 (.t 87)⟩,
  ⟨some 89, some (83, false), .bop .sub (.t 88) (.c (.i .i64 1))⟩,
  ⟨some 90, some (83, false), .call 39 [(.t 85), (.t 89)]⟩,
  ⟨some 91, some (83, false), .un .not (.t 90)⟩,
  ⟨some 92, none, .pick (.t 83) (.c (.b true)) (.t 91)⟩,
  ⟨some 93, none, .mv (.t 92)⟩,
  ⟨some 94, some (93, false), .fa 4 (.t 8)⟩,
  ⟨some 95, some (93, false), .ld false 1 (.t 94)⟩,
  ⟨some 96, some (93, false), .fa 2 (.t 8)⟩,
  ⟨some 97, some (93, false), .ld false 1 (.t 96)⟩,
  ⟨some 98, some (93, false), .bop .lss (.t 95) (.t 97)⟩,
  ⟨some 99, none, .pick (.t 93) (.c (.b true)) (.t 98)⟩,
  ⟨some 100, none, .mv (.t 99)⟩,
  ⟨some 101, some (100, false), .fa 4 (.t 8)⟩,
  ⟨some 102, some (100, false), .ld false 1 (.t 101)⟩,
  ⟨some 103, some (100, false), .bop .gtr (.t 102) (.c (.i .i64 32))⟩,
  ⟨some 104, none, .pick (.t 100) (.c (.b true)) (.t 103)⟩,
  ⟨some 105, none, .mv (.t 104)⟩,
  ⟨some 106, some (105, false), .mv (.t 6)⟩,
  ⟨some 107, some (105, false), .ld true 3 (.t 9)⟩,
  ⟨some 108, some (105, false), .lk (.w [1, 1, 0]) false (.b false) (.t 106) (.t 107)⟩,
  ⟨some 109, none, .pick (.t 105) (.c (.b true)) (.t 108)⟩])
  (.cond (.t 109) (.seq (.reg [⟨some 2, none, .mv (.c (.i .i64 130))⟩])
  .ret)
  .skip))
  (.reg [⟨some 110, none, .mv (.t 6)⟩,
  ⟨some 111, none, .ld true 3 (.t 9)⟩,
  ⟨none, none, .ins (.w [1, 1, 0]) (.t 110) (.t 111) (.c (.b true))⟩])))))
  (.reg [⟨some 112, none, .bop .add (.t 56) (.c (.i .i64 1))⟩,
  ⟨some 56, none, .mv (.t 112)⟩])))))))
  (.seq (.seq (.reg [⟨some 113, none, .fa 1 (.t 1)⟩,
  ⟨some 114, none, .ld false 1 (.t 113)⟩,
  ⟨some 115, none, .len 1 (.t 114)⟩,
  ⟨some 116, none, .mv (.c (.i .i64 0))⟩])
  (.blk 4 (.loop (.seq (.reg [⟨some 117, none, .bop .lss (.t 116) (.t 115)⟩])
  (.seq (.cond (.t 117) .skip
  (.exit 4))
  (.seq (.blk 5 (.seq (.reg [⟨some 118, none, .mv (.t 116)⟩,
  ⟨some 10, none, .mv (.t 118)⟩])
  (.seq (.reg [⟨some 119, none, .fa 1 (.t 1)⟩,
  ⟨some 120, none, .ld false 1 (.t 119)⟩,
  ⟨some 121, none, .mv (.t 10)⟩,
  ⟨some 122, none, .ia 14 (.t 120) (.t 121)⟩,
  ⟨some 123, none, .call 41 [(.t 1), (.t 122)]⟩,
  ⟨some 124, none, .un .not (.t 123)⟩])
  (.cond (.t 124) (.seq (.reg [⟨some 2, none, .mv (.c (.i .i64 130))⟩])
  .ret)
  .skip))))
  (.reg [⟨some 125, none, .bop .add (.t 116) (.c (.i .i64 1))⟩,
  ⟨some 116, none, .mv (.t 125)⟩])))))))
  (.seq (.seq (.reg [⟨some 126, none, .fa 1 (.t 1)⟩,
  ⟨some 127, none, .ld false 1 (.t 126)⟩,
  ⟨some 128, none, .fa 1 (.t 1)⟩,
  ⟨some 129, none, .ld false 1 (.t 128)⟩,
  ⟨some 130, none, .len 1 (.t 129)⟩,
  ⟨some 131, none, .bop .sub (.t 130) (.c (.i .i64 1))⟩,
  ⟨some 132, none, .ia 14 (.t 127) (.t 131)⟩,
  ⟨some 133, none, .fa 0 (.t 132)⟩,
  ⟨some 134, none, .ld false 1 (.t 133)⟩])
  (.blk 6 (.seq (.seq (.reg [⟨some 136, none, .bop .eql (.t 134) (.c (.i .i8 11))⟩,
  ⟨some 135, none, .mv (.t 136)⟩])
  (.cond (.t 135) .skip
  (.seq (.reg [⟨some 137, none, .bop .eql (.t 134) (.c (.i .i8 9))⟩,
  ⟨some 135, none, .mv (.t 137)⟩])
  (.cond (.t 135) .skip
  (.seq (.reg [⟨some 138, none, .bop .eql (.t 134) (.c (.i .i8 12))⟩,
  ⟨some 135, none, .mv (.t 138)⟩])
  (.cond (.t 135) .skip
  (.reg [⟨some 139, none, .bop .eql (.t 134) (.c (.i .i8 15))⟩,
  ⟨some 135, none, .mv (.t 139)⟩])))))))
  (.cond (.t 135) (.seq (.reg [⟨some 2, none, .mv (.c (.i .i64 0))⟩])
  .ret)
  .skip))))
  (.seq (.reg [⟨some 2, none, .mv (.c (.i .i64 130))⟩])
  .ret)))))))))⟩
def ir15_28 : XF := ⟨9, 2, [(4, none)], (.seq (.reg [⟨some 4, none, .mv (.c (.b false))⟩])
  (.seq (.reg [⟨some 5, none, .mv (.t 0)⟩,
  ⟨some 6, none, .mv (.t 1)⟩,
  ⟨some 7, none, .call 42 [(.t 5), (.t 6)]⟩,
  ⟨some 8, none, .bop .geq (.t 7) (.c (.i .i64 0))⟩,
  ⟨some 4, none, .mv (.t 8)⟩])
  .ret))⟩
def ir15_29 : XF := ⟨6, 1, [(2, none)], (.seq (.reg [⟨some 1, none, .box 26 5 (.t 0)⟩,
  ⟨some 2, none, .mv (.c (.b false))⟩])
  (.seq (.reg [⟨some 3, none, .ld true 5 (.t 1)⟩,
  ⟨some 4, none, .call 43 [(.t 3)]⟩,
  ⟨some 5, none, .bop .neq (.t 4) (.c (.i .i64 0))⟩,
  ⟨some 2, none, .mv (.t 5)⟩])
  .ret))⟩
def ir15_30 : XF := ⟨2, 0, [(0, some (true, 4))], (.seq (.reg [⟨some 0, none, .box 83 4 (.c (.ag [(.s []), (.s []), (.s []), (.s [])]))⟩])
  (.seq (.reg [⟨some 1, none, .bld [(.s []), (.s []), (.s []), (.s [])] [(0, 1, (.c (.s [110, 111, 110, 101]))), (1, 1, (.c (.s [101, 114, 114, 111, 114]))), (2, 1, (.c (.s [101, 120, 105, 116]))), (3, 1, (.c (.s [116, 104, 114, 111, 119])))]⟩,
  ⟨none, none, .st 4 (.t 0) (.t 1)⟩])
  .ret))⟩
def ir15_32 : XF := ⟨8, 1, [(2, none)], (.seq (.reg [⟨some 2, none, .mv (.c .sln)⟩])
  (.seq (.seq (.reg [⟨some 3, none, .mv (.t 0)⟩,
  ⟨some 4, none, .eq 1 false true (.t 3) (.c .sln)⟩])
  (.cond (.t 4) (.seq (.reg [⟨some 2, none, .mv (.c .sln)⟩])
  .ret)
  .skip))
  (.seq (.reg [⟨some 5, none, .bls 26 5 0 [] []⟩,
  ⟨some 6, none, .mv (.t 0)⟩,
  ⟨some 7, none, .app 26 5 (.t 5) (.t 6)⟩,
  ⟨some 2, none, .mv (.t 7)⟩])
  .ret)))⟩
def ir15_33 : XF := ⟨8, 1, [(2, none)], (.seq (.reg [⟨some 2, none, .mv (.c .sln)⟩])
  (.seq (.seq (.reg [⟨some 3, none, .mv (.t 0)⟩,
  ⟨some 4, none, .eq 1 false true (.t 3) (.c .sln)⟩])
  (.cond (.t 4) (.seq (.reg [⟨some 2, none, .mv (.c .sln)⟩])
  .ret)
  .skip))
  (.seq (.reg [⟨some 5, none, .bls 4 1 0 [] []⟩,
  ⟨some 6, none, .mv (.t 0)⟩,
  ⟨some 7, none, .app 4 1 (.t 5) (.t 6)⟩,
  ⟨some 2, none, .mv (.t 7)⟩])
  .ret)))⟩
def ir15_34 : XF := ⟨8, 1, [(2, none)], (.seq (.reg [⟨some 2, none, .mv (.c .sln)⟩])
  (.seq (.seq (.reg [⟨some 3, none, .mv (.t 0)⟩,
  ⟨some 4, none, .eq 1 false true (.t 3) (.c .sln)⟩])
  (.cond (.t 4) (.seq (.reg [⟨some 2, none, .mv (.c .sln)⟩])
  .ret)
  .skip))
  (.seq (.reg [⟨some 5, none, .bls 63 2 0 [] []⟩,
  ⟨some 6, none, .mv (.t 0)⟩,
  ⟨some 7, none, .app 63 2 (.t 5) (.t 6)⟩,
  ⟨some 2, none, .mv (.t 7)⟩])
  .ret)))⟩
def ir15_35 : XF := ⟨8, 1, [(2, none)], (.seq (.reg [⟨some 2, none, .mv (.c .sln)⟩])
  (.seq (.seq (.reg [⟨some 3, none, .mv (.t 0)⟩,
  ⟨some 4, none, .eq 1 false true (.t 3) (.c .sln)⟩])
  (.cond (.t 4) (.seq (.reg [⟨some 2, none, .mv (.c .sln)⟩])
  .ret)
  .skip))
  (.seq (.reg [⟨some 5, none, .bls 89 13 0 [] []⟩,
  ⟨some 6, none, .mv (.t 0)⟩,
  ⟨some 7, none, .app 89 13 (.t 5) (.t 6)⟩,
  ⟨some 2, none, .mv (.t 7)⟩])
  .ret)))⟩
def ir15_36 : XF := ⟨8, 1, [(2, none)], (.seq (.reg [⟨some 2, none, .mv (.c .sln)⟩])
  (.seq (.seq (.reg [⟨some 3, none, .mv (.t 0)⟩,
  ⟨some 4, none, .eq 1 false true (.t 3) (.c .sln)⟩])
  (.cond (.t 4) (.seq (.reg [⟨some 2, none, .mv (.c .sln)⟩])
  .ret)
  .skip))
  (.seq (.reg [⟨some 5, none, .bls 3 1 0 [] []⟩,
  ⟨some 6, none, .mv (.t 0)⟩,
  ⟨some 7, none, .app 3 1 (.t 5) (.t 6)⟩,
  ⟨some 2, none, .mv (.t 7)⟩])
  .ret)))⟩
def ir15_39 : XF := ⟨12, 2, [(4, none)], (.seq (.reg [⟨some 4, none, .mv (.c (.b false))⟩])
  (.seq (.reg [⟨some 5, none, .mv (.t 0)⟩,
  ⟨some 6, none, .bop .geq (.t 5) (.c (.i .i64 0))⟩,
  ⟨some 7, none, .mv (.t 6)⟩,
  ⟨some 8, some (7, true), .mv (.t 0)⟩,
  ⟨some 9, some (7, true), .mv (.t 1)⟩,
  ⟨some 10, some (7, true), .bop .leq (.t 8) (.t 9)⟩,
  ⟨some 11, none, .pick (.t 7) (.t 10) (.c (.b false))⟩,
  ⟨some 4, none, .mv (.t 11)⟩])
  .ret))⟩
def ir15_40 : XF := ⟨11, 1, [(2, none)], (.seq (.reg [⟨some 2, none, .mv (.c (.b false))⟩])
  (.seq (.par [⟨some 3, none, .mv (.t 0)⟩,
  ⟨some 4, none, .call 45 [(.t 3)]⟩,
  ⟨some 5, none, .mv (.t 4)⟩,
  ⟨some 6, some (5, true), .mv (.t 0)⟩,
  ⟨some 7, some (5, true), .ixS (.t 6) (.c (.i .i64 0))⟩,
  ⟨some 8, some (5, true), .slcA 4 2 (.c (.p 0 0)) none (some (.c (.i .i64 1))) none⟩,
  ⟨some 9, some (5, true), .call 46 [(.t 7), (.t 8)]⟩,
  ⟨some 10, none, .pick (.t 5) (.t 9) (.c (.b false))⟩,
  ⟨some 2, none, .mv (.t 10)⟩] [0, 1, 3, 7, 15, 7, 63, 127, 255])
  .ret))⟩
def ir15_41 : XF := ⟨31, 2, [(4, none)], (.seq (.reg [⟨some 4, none, .mv (.c (.b false))⟩])
  (.seq (.reg [⟨some 6, none, .call 47 []⟩,
  ⟨some 5, none, .box 114 20 (.c (.ag [.fn, .fn, .fn, .fn, .fn, .fn, .fn, .fn, .fn, .fn, .fn, .fn, .fn, .fn, .fn, .fn, .fn, .fn, .fn, .fn]))⟩,
  ⟨none, none, .st 20 (.t 5) (.t 6)⟩])
  (.seq (.reg [⟨some 7, none, .mv (.t 1)⟩,
  ⟨some 8, none, .nck (.t 7)⟩,
  ⟨some 9, none, .fa 0 (.t 8)⟩,
  ⟨some 10, none, .ld false 1 (.t 9)⟩,
  ⟨some 11, none, .bop .geq (.t 10) (.c (.i .i8 0))⟩,
  ⟨some 12, none, .mv (.t 11)⟩,
  ⟨some 13, some (12, true), .mv (.t 1)⟩,
  ⟨some 14, some (12, true), .nck (.t 13)⟩,
  ⟨some 15, some (12, true), .fa 0 (.t 14)⟩,
  ⟨some 16, some (12, true), .ld false 1 (.t 15)⟩,
  ⟨some 17, some (12, true), .cvi .i64 (.t 16)⟩,
  ⟨some 18, some (12, true), .bop .lss (.t 17) (.c (.i .i64 20))⟩,
  ⟨some 19, none, .pick (.t 12) (.t 18) (.c (.b false))⟩,
  ⟨some 20, none, .mv (.t 19)⟩,
  ⟨some 21, some (20, true), .mv (.t 1)⟩,
  ⟨some 22, some (20, true), .nck (.t 21)⟩,
  ⟨some 23, some (20, true), .fa 0 (.t 22)⟩,
  ⟨some 24, some (20, true), .ld false 1 (.t 23)⟩,
  ⟨some 25, some (20, true), .iaA 20 1 (.t 5) (.t 24)⟩,
  ⟨some 26, some (20, true), .ld false 1 (.t 25)⟩,
  ⟨some 27, some (20, true), .mv (.t 0)⟩,
  ⟨some 28, some (20, true), .mv (.t 1)⟩,
  ⟨some 29, some (20, true), .callv (.t 26) [(.t 27), (.t 28)]⟩,
  ⟨some 30, none, .pick (.t 20) (.t 29) (.c (.b false))⟩,
  ⟨some 4, none, .mv (.t 30)⟩])
  .ret)))⟩
def ir15_42 : XF := ⟨19, 2, [(4, none)], (.seq (.reg [⟨some 4, none, .mv (.c (.i .i64 0))⟩])
  (.seq (.seq (.reg [⟨some 6, none, .mv (.t 0)⟩,
  ⟨some 7, none, .len 1 (.t 6)⟩,
  ⟨some 8, none, .mv (.c (.i .i64 0))⟩])
  (.blk 0 (.loop (.seq (.reg [⟨some 9, none, .bop .lss (.t 8) (.t 7)⟩])
  (.seq (.cond (.t 9) .skip
  (.exit 0))
  (.seq (.blk 1 (.seq (.reg [⟨some 10, none, .mv (.t 8)⟩,
  ⟨some 5, none, .mv (.t 10)⟩])
  (.seq (.reg [⟨some 11, none, .mv (.t 1)⟩,
  ⟨some 12, none, .mv (.t 0)⟩,
  ⟨some 13, none, .mv (.t 5)⟩,
  ⟨some 14, none, .ia 5 (.t 12) (.t 13)⟩,
  ⟨some 15, none, .ld true 5 (.t 14)⟩,
  ⟨some 16, none, .callv (.t 11) [(.t 15)]⟩])
  (.cond (.t 16) (.seq (.reg [⟨some 17, none, .mv (.t 5)⟩,
  ⟨some 4, none, .mv (.t 17)⟩])
  .ret)
  .skip))))
  (.reg [⟨some 18, none, .bop .add (.t 8) (.c (.i .i64 1))⟩,
  ⟨some 8, none, .mv (.t 18)⟩])))))))
  (.seq (.reg [⟨some 4, none, .mv (.c (.i .i64 (-1)))⟩])
  .ret)))⟩
def ir15_43 : XF := ⟨15, 1, [(2, none)], (.seq (.reg [⟨some 1, none, .box 26 5 (.t 0)⟩,
  ⟨some 2, none, .mv (.c (.i .i64 0))⟩])
  (.seq (.reg [⟨some 3, none, .box 3 1 (.c (.i .i64 0))⟩,
  ⟨some 4, none, .box 4 1 (.c (.b false))⟩,
  ⟨none, none, .st 1 (.t 3) (.c (.i .i64 0))⟩,
  ⟨none, none, .st 1 (.t 4) (.c (.b true))⟩])
  (.seq (.reg [⟨some 5, none, .box 116 1 (.c .fn)⟩])
  (.seq (.reg [⟨some 6, none, .mkf (.func 48) [] [(.t 3), (.t 4), (.t 5)]⟩,
  ⟨none, none, .st 1 (.t 5) (.t 6)⟩])
  (.seq (.reg [⟨some 7, none, .ld false 1 (.t 5)⟩,
  ⟨some 8, none, .callv (.t 7) [(.t 1)]⟩])
  (.seq (.blk 0 (.seq (.reg [⟨some 10, none, .ld false 1 (.t 4)⟩,
  ⟨some 11, none, .un .not (.t 10)⟩,
  ⟨some 9, none, .mv (.t 11)⟩])
  (.cond (.t 9) (.seq (.reg [⟨some 2, none, .mv (.c (.i .i64 30))⟩])
  .ret)
  (.seq (.reg [⟨some 13, none, .ld false 1 (.t 3)⟩,
  ⟨some 14, none, .bop .gtr (.t 13) (.c (.i .i64 256))⟩,
  ⟨some 12, none, .mv (.t 14)⟩])
  (.cond (.t 12) (.seq (.reg [⟨some 2, none, .mv (.c (.i .i64 11))⟩])
  .ret)
  .skip)))))
  (.seq (.reg [⟨some 2, none, .mv (.c (.i .i64 0))⟩])
  .ret)))))))⟩
def ir15_45 : XF := ⟨18, 1, [(2, none)], (.seq (.reg [⟨some 2, none, .mv (.c (.b false))⟩])
  (.seq (.reg [⟨some 3, none, .mv (.t 0)⟩,
  ⟨some 4, none, .len 0 (.t 3)⟩,
  ⟨some 5, none, .bop .geq (.t 4) (.c (.i .i64 1))⟩,
  ⟨some 6, none, .mv (.t 5)⟩,
  ⟨some 7, some (6, true), .mv (.t 0)⟩,
  ⟨some 8, some (6, true), .len 0 (.t 7)⟩,
  ⟨some 9, some (6, true), .bop .leq (.t 8) (.c (.i .i64 32))⟩,
  ⟨some 10, none, .pick (.t 6) (.t 9) (.c (.b false))⟩,
  ⟨some 11, none, .mv (.t 10)⟩,
  ⟨some 12, some (11, true), .mv (.t 0)⟩,
  ⟨some 13, some (11, true), .call 50 [(.t 12)]⟩,
  ⟨some 14, some (11, true), .mv (.t 0)⟩,
  ⟨some 15, some (11, true), .len 0 (.t 14)⟩,
  ⟨some 16, some (11, true), .bop .eql (.t 13) (.t 15)⟩,
  ⟨some 17, none, .pick (.t 11) (.t 16) (.c (.b false))⟩,
  ⟨some 2, none, .mv (.t 17)⟩])
  .ret))⟩
def ir15_46 : XF := ⟨24, 2, [(4, none)], (.seq (.reg [⟨some 4, none, .mv (.c (.b false))⟩])
  (.seq (.seq (.reg [⟨some 7, none, .mv (.t 1)⟩,
  ⟨some 8, none, .len 1 (.t 7)⟩,
  ⟨some 9, none, .mv (.c (.i .i64 0))⟩])
  (.blk 0 (.loop (.seq (.reg [⟨some 10, none, .bop .lss (.t 9) (.t 8)⟩])
  (.seq (.cond (.t 10) .skip
  (.exit 0))
  (.seq (.blk 1 (.seq (.reg [⟨some 11, none, .ia 2 (.t 7) (.t 9)⟩,
  ⟨some 12, none, .ld true 2 (.t 11)⟩,
  ⟨some 6, none, .box 111 2 (.c (.ag [(.i .u8 0), (.i .u8 0)]))⟩,
  ⟨none, none, .st 2 (.t 6) (.t 12)⟩])
  (.seq (.reg [⟨some 13, none, .iaA 2 1 (.t 6) (.c (.i .i64 0))⟩,
  ⟨some 14, none, .ld false 1 (.t 13)⟩,
  ⟨some 15, none, .mv (.t 0)⟩,
  ⟨some 16, none, .bop .leq (.t 14) (.t 15)⟩,
  ⟨some 17, none, .mv (.t 16)⟩,
  ⟨some 18, some (17, true), .mv (.t 0)⟩,
  ⟨some 19, some (17, true), .iaA 2 1 (.t 6) (.c (.i .i64 1))⟩,
  ⟨some 20, some (17, true), .ld false 1 (.t 19)⟩,
  ⟨some 21, some (17, true), .bop .leq (.t 18) (.t 20)⟩,
  ⟨some 22, none, .pick (.t 17) (.t 21) (.c (.b false))⟩])
  (.cond (.t 22) (.seq (.reg [⟨some 4, none, .mv (.c (.b true))⟩])
  .ret)
  .skip))))
  (.reg [⟨some 23, none, .bop .add (.t 9) (.c (.i .i64 1))⟩,
  ⟨some 9, none, .mv (.t 23)⟩])))))))
  (.seq (.reg [⟨some 4, none, .mv (.c (.b false))⟩])
  .ret)))⟩
def ir15_47 : XF := ⟨21, 0, [(0, some (true, 20))], (.seq (.reg [⟨some 0, none, .box 114 20 (.c (.ag [.fn, .fn, .fn, .fn, .fn, .fn, .fn, .fn, .fn, .fn, .fn, .fn, .fn, .fn, .fn, .fn, .fn, .fn, .fn, .fn]))⟩])
  (.seq (.reg [⟨some 1, none, .box 120 1 (.c .fn)⟩,
  ⟨none, none, .st 1 (.t 1) (.c (.f (.func 51) [] []))⟩])
  (.seq (.reg [⟨some 2, none, .mv (.c (.f (.func 52) [] []))⟩])
  (.seq (.reg [⟨some 3, none, .mv (.c (.f (.func 54) [] []))⟩])
  (.seq (.reg [⟨some 6, none, .mkf (.func 55) [] [(.t 1)]⟩,
  ⟨some 4, none, .mv (.t 6)⟩])
  (.seq (.reg [⟨some 5, none, .mv (.c (.f (.func 56) [] []))⟩])
  (.seq (.reg [⟨some 7, none, .mv (.t 3)⟩,
  ⟨some 8, none, .mv (.t 3)⟩,
  ⟨some 9, none, .mv (.t 2)⟩,
  ⟨some 10, none, .mv (.t 2)⟩,
  ⟨some 11, none, .mv (.t 2)⟩,
  ⟨some 12, none, .mv (.t 2)⟩,
  ⟨some 13, none, .mv (.t 2)⟩,
  ⟨some 14, none, .mv (.t 5)⟩,
  ⟨some 15, none, .mv (.t 5)⟩,
  ⟨some 16, none, .mv (.t 4)⟩,
  ⟨some 17, none, .mv (.t 4)⟩,
  ⟨some 18, none, .mkf (.func 66) [] [(.t 1)]⟩,
  ⟨some 19, none, .mkf (.func 69) [] [(.t 1)]⟩,
  ⟨some 20, none, .bld [.fn, .fn, .fn, .fn, .fn, .fn, .fn, .fn, .fn, .fn, .fn, .fn, .fn, .fn, .fn, .fn, .fn, .fn, .fn, .fn] [(0, 1, (.c (.f (.func 57) [] []))), (1, 1, (.t 7)), (2, 1, (.t 8)), (3, 1, (.t 9)), (5, 1, (.t 10)), (11, 1, (.t 11)), (17, 1, (.t 12)), (19, 1, (.t 13)), (4, 1, (.c (.f (.func 58) [] []))), (6, 1, (.c (.f (.func 59) [] []))), (7, 1, (.c (.f (.func 63) [] []))), (8, 1, (.t 14)), (9, 1, (.t 15)), (10, 1, (.c (.f (.func 65) [] []))), (12, 1, (.t 16)), (16, 1, (.t 17)), (13, 1, (.t 18)), (14, 1, (.t 19)), (15, 1, (.c (.f (.func 71) [] []))), (18, 1, (.c (.f (.func 72) [] [])))]⟩,
  ⟨none, none, .st 20 (.t 0) (.t 20)⟩])
  .ret)))))))⟩
def ir15_48 : XF := ⟨36, 4, [], (.seq (.reg [⟨some 6, none, .ld false 1 (.t 1)⟩,
  ⟨some 7, none, .bop .add (.t 6) (.c (.i .i64 1))⟩,
  ⟨none, none, .st 1 (.t 1) (.t 7)⟩])
  (.seq (.reg [⟨some 8, none, .ld false 1 (.t 2)⟩,
  ⟨some 9, none, .mv (.t 8)⟩,
  ⟨some 10, some (9, true), .mv (.t 0)⟩,
  ⟨some 11, some (9, true), .call 49 [(.t 10)]⟩,
  ⟨some 12, none, .pick (.t 9) (.t 11) (.c (.b false))⟩,
  ⟨none, none, .st 1 (.t 2) (.t 12)⟩])
  (.seq (.reg [⟨some 13, none, .mv (.t 0)⟩,
  ⟨some 14, none, .nck (.t 13)⟩,
  ⟨some 15, none, .fa 4 (.t 14)⟩,
  ⟨some 16, none, .ld false 1 (.t 15)⟩,
  ⟨some 17, none, .len 1 (.t 16)⟩,
  ⟨some 18, none, .mv (.c (.i .i64 0))⟩])
  (.blk 0 (.loop (.seq (.reg [⟨some 19, none, .bop .lss (.t 18) (.t 17)⟩])
  (.seq (.cond (.t 19) .skip
  (.exit 0))
  (.seq (.blk 1 (.seq (.reg [⟨some 20, none, .mv (.t 18)⟩,
  ⟨some 5, none, .mv (.t 20)⟩])
  (.seq (.seq (.reg [⟨some 21, none, .ld false 1 (.t 1)⟩,
  ⟨some 22, none, .bop .gtr (.t 21) (.c (.i .i64 256))⟩,
  ⟨some 23, none, .mv (.t 22)⟩,
  ⟨some 24, some (23, false), .ld false 1 (.t 2)⟩,
  ⟨some 25, some (23, false), .un .not (.t 24)⟩,
  ⟨some 26, none, .pick (.t 23) (.c (.b true)) (.t 25)⟩])
  (.cond (.t 26) .ret
  .skip))
  (.par [⟨some 27, none, .ld false 1 (.t 3)⟩,
  ⟨some 28, none, .mv (.t 0)⟩,
  ⟨some 29, none, .nck (.t 28)⟩,
  ⟨some 30, none, .fa 4 (.t 29)⟩,
  ⟨some 31, none, .ld false 1 (.t 30)⟩,
  ⟨some 32, none, .mv (.t 5)⟩,
  ⟨some 33, none, .ia 5 (.t 31) (.t 32)⟩,
  ⟨some 34, none, .callv (.t 27) [(.t 33)]⟩] [0, 0, 2, 6, 14, 0, 62, 127]))))
  (.reg [⟨some 35, none, .bop .add (.t 18) (.c (.i .i64 1))⟩,
  ⟨some 18, none, .mv (.t 35)⟩])))))))))⟩
def ir15_49 : XF := ⟨68, 1, [(2, none)], (.seq (.reg [⟨some 2, none, .mv (.c (.b false))⟩])
  (.seq (.seq (.reg [⟨some 8, none, .mv (.t 0)⟩,
  ⟨some 9, none, .call 76 [(.t 8)]⟩])
  (.blk 0 (.seq (.reg [⟨some 10, none, .ta true 133 (.ag [(.i .i64 0)]) (.t 9)⟩,
  ⟨some 11, none, .ex (.t 10) 1⟩,
  ⟨some 12, none, .ex (.t 10) 0⟩])
  (.cond (.t 11) (.seq (.reg [⟨some 3, none, .box 133 1 (.c (.ag [(.i .i64 0)]))⟩,
  ⟨none, none, .st 1 (.t 3) (.t 12)⟩])
  (.seq (.reg [⟨some 13, none, .fa 0 (.t 3)⟩,
  ⟨some 14, none, .ld false 1 (.t 13)⟩,
  ⟨some 15, none, .call 77 [(.t 14)]⟩,
  ⟨some 2, none, .mv (.t 15)⟩])
  .ret))
  (.seq (.reg [⟨some 16, none, .ta true 134 (.ag [(.i .i64 0)]) (.t 9)⟩,
  ⟨some 17, none, .ex (.t 16) 1⟩,
  ⟨some 18, none, .ex (.t 16) 0⟩])
  (.cond (.t 17) (.seq (.reg [⟨some 4, none, .box 134 1 (.c (.ag [(.i .i64 0)]))⟩,
  ⟨none, none, .st 1 (.t 4) (.t 18)⟩])
  (.seq (.reg [⟨some 19, none, .fa 0 (.t 4)⟩,
  ⟨some 20, none, .ld false 1 (.t 19)⟩,
  ⟨some 21, none, .bop .geq (.t 20) (.c (.i .i64 0))⟩,
  ⟨some 22, none, .mv (.t 21)⟩,
  ⟨some 23, some (22, true), .fa 0 (.t 4)⟩,
  ⟨some 24, some (22, true), .ld false 1 (.t 23)⟩,
  ⟨some 25, some (22, true), .bop .leq (.t 24) (.c (.i .i64 576460752303423487))⟩,
  ⟨some 26, none, .pick (.t 22) (.t 25) (.c (.b false))⟩,
  ⟨some 2, none, .mv (.t 26)⟩])
  .ret))
  (.seq (.reg [⟨some 27, none, .ta true 136 (.ag [(.s [])]) (.t 9)⟩,
  ⟨some 28, none, .ex (.t 27) 1⟩,
  ⟨some 29, none, .ex (.t 27) 0⟩])
  (.cond (.t 28) (.seq (.reg [⟨some 5, none, .box 136 1 (.c (.ag [(.s [])]))⟩,
  ⟨none, none, .st 1 (.t 5) (.t 29)⟩])
  (.seq (.reg [⟨some 30, none, .fa 0 (.t 5)⟩,
  ⟨some 31, none, .ld false 1 (.t 30)⟩,
  ⟨some 32, none, .call 40 [(.t 31)]⟩,
  ⟨some 2, none, .mv (.t 32)⟩])
  .ret))
  (.seq (.reg [⟨some 33, none, .ta true 138 (.ag [(.s []), (.s []), (.i .i64 0)]) (.t 9)⟩,
  ⟨some 34, none, .ex (.t 33) 1⟩,
  ⟨some 35, none, .ex (.t 33) 0⟩])
  (.cond (.t 34) (.seq (.reg [⟨some 6, none, .box 138 3 (.c (.ag [(.s []), (.s []), (.i .i64 0)]))⟩,
  ⟨none, none, .st 3 (.t 6) (.t 35)⟩])
  (.seq (.reg [⟨some 36, none, .fa 0 (.t 6)⟩,
  ⟨some 37, none, .ld false 1 (.t 36)⟩,
  ⟨some 38, none, .call 40 [(.t 37)]⟩,
  ⟨some 39, none, .mv (.t 38)⟩,
  ⟨some 40, some (39, true), .fa 1 (.t 6)⟩,
  ⟨some 41, some (39, true), .ld false 1 (.t 40)⟩,
  ⟨some 42, some (39, true), .call 40 [(.t 41)]⟩,
  ⟨some 43, none, .pick (.t 39) (.t 42) (.c (.b false))⟩,
  ⟨some 44, none, .mv (.t 43)⟩,
  ⟨some 45, some (44, true), .fa 2 (.t 6)⟩,
  ⟨some 46, some (44, true), .ld false 1 (.t 45)⟩,
  ⟨some 47, some (44, true), .bop .geq (.t 46) (.c (.i .i64 0))⟩,
  ⟨some 48, none, .pick (.t 44) (.t 47) (.c (.b false))⟩,
  ⟨some 49, none, .mv (.t 48)⟩,
  ⟨some 50, some (49, true), .fa 2 (.t 6)⟩,
  ⟨some 51, some (49, true), .ld false 1 (.t 50)⟩,
  ⟨some 52, some (49, true), .bop .leq (.t 51) (.c (.i .i64 8))⟩,
  ⟨some 53, none, .pick (.t 49) (.t 52) (.c (.b false))⟩,
  ⟨some 2, none, .mv (.t 53)⟩])
  .ret))
  (.seq (.reg [⟨some 54, none, .ta true 140 (.ag [.sln, (.i .i64 0)]) (.t 9)⟩,
  ⟨some 55, none, .ex (.t 54) 1⟩,
  ⟨some 56, none, .ex (.t 54) 0⟩])
  (.cond (.t 55) (.seq (.reg [⟨some 7, none, .box 140 2 (.c (.ag [.sln, (.i .i64 0)]))⟩,
  ⟨none, none, .st 2 (.t 7) (.t 56)⟩])
  (.seq (.reg [⟨some 57, none, .fa 1 (.t 7)⟩,
  ⟨some 58, none, .ld false 1 (.t 57)⟩,
  ⟨some 59, none, .bop .lss (.t 58) (.c (.i .i64 0))⟩,
  ⟨some 60, none, .mv (.t 59)⟩,
  ⟨some 61, some (60, false), .fa 0 (.t 7)⟩,
  ⟨some 62, some (60, false), .ld false 1 (.t 61)⟩,
  ⟨some 63, some (60, false), .len 1 (.t 62)⟩,
  ⟨some 64, some (60, false), .fa 1 (.t 7)⟩,
  ⟨some 65, some (60, false), .ld false 1 (.t 64)⟩,
  ⟨some 66, some (60, false), .bop .eql (.t 63) (.t 65)⟩,
  ⟨some 67, none, .pick (.t 60) (.c (.b true)) (.t 66)⟩,
  ⟨some 2, none, .mv (.t 67)⟩])
  .ret))
  .skip))))))))))))
  (.seq (.reg [⟨some 2, none, .mv (.c (.b false))⟩])
  .ret)))⟩
def ir15_50 : XF := ⟨19, 1, [(2, none)], (.seq (.reg [⟨some 2, none, .mv (.c (.i .i64 0))⟩])
  (.seq (.seq (.reg [⟨some 4, none, .mv (.t 0)⟩,
  ⟨some 5, none, .len 0 (.t 4)⟩,
  ⟨some 6, none, .mv (.c (.i .i64 0))⟩])
  (.blk 0 (.loop (.seq (.reg [⟨some 7, none, .bop .lss (.t 6) (.t 5)⟩])
  (.seq (.cond (.t 7) .skip
  (.exit 0))
  (.seq (.blk 1 (.seq (.reg [⟨some 8, none, .mv (.t 6)⟩,
  ⟨some 3, none, .mv (.t 8)⟩])
  (.seq (.par [⟨some 9, none, .mv (.t 0)⟩,
  ⟨some 10, none, .mv (.t 3)⟩,
  ⟨some 11, none, .ixS (.t 9) (.t 10)⟩,
  ⟨some 12, none, .slcA 4 2 (.c (.p 0 0)) none none none⟩,
  ⟨some 13, none, .call 46 [(.t 11), (.t 12)]⟩,
  ⟨some 14, none, .un .not (.t 13)⟩] [0, 0, 3, 0, 15, 31])
  (.cond (.t 14) (.seq (.reg [⟨some 15, none, .mv (.t 3)⟩,
  ⟨some 2, none, .mv (.t 15)⟩])
  .ret)
  .skip))))
  (.reg [⟨some 16, none, .bop .add (.t 6) (.c (.i .i64 1))⟩,
  ⟨some 6, none, .mv (.t 16)⟩])))))))
  (.seq (.reg [⟨some 17, none, .mv (.t 0)⟩,
  ⟨some 18, none, .len 0 (.t 17)⟩,
  ⟨some 2, none, .mv (.t 18)⟩])
  .ret)))⟩
def ir15_52 : XF := ⟨8, 2, [(4, none)], (.seq (.reg [⟨some 4, none, .mv (.c (.b false))⟩])
  (.seq (.reg [⟨some 5, none, .bld [(.b false), (.b false), (.b false), (.b false), (.b false)] []⟩,
  ⟨some 6, none, .mv (.t 1)⟩,
  ⟨some 7, none, .call 53 [(.t 5), (.t 6)]⟩,
  ⟨some 4, none, .mv (.t 7)⟩])
  .ret))⟩
def ir15_53 : XF := ⟨57, 2, [(4, none)], (.seq (.reg [⟨some 2, none, .box 122 5 (.t 0)⟩,
  ⟨some 4, none, .mv (.c (.b false))⟩])
  (.seq (.reg [⟨some 5, none, .fa 0 (.t 2)⟩,
  ⟨some 6, none, .ld false 1 (.t 5)⟩,
  ⟨some 7, none, .mv (.t 6)⟩,
  ⟨some 8, some (7, false), .mv (.t 1)⟩,
  ⟨some 9, some (7, false), .nck (.t 8)⟩,
  ⟨some 10, some (7, false), .fa 1 (.t 9)⟩,
  ⟨some 11, some (7, false), .ld false 1 (.t 10)⟩,
  ⟨some 12, some (7, false), .bop .eql (.t 11) (.c (.i .i64 0))⟩,
  ⟨some 13, none, .pick (.t 7) (.c (.b true)) (.t 12)⟩,
  ⟨some 14, none, .mv (.t 13)⟩,
  ⟨some 15, some (14, true), .fa 1 (.t 2)⟩,
  ⟨some 16, some (14, true), .ld false 1 (.t 15)⟩,
  ⟨some 17, some (14, true), .mv (.t 16)⟩,
  ⟨some 18, some (17, false), .mv (.t 1)⟩,
  ⟨some 19, some (17, false), .nck (.t 18)⟩,
  ⟨some 20, some (17, false), .fa 2 (.t 19)⟩,
  ⟨some 21, some (17, false), .ld false 1 (.t 20)⟩,
  ⟨some 22, some (17, false), .bop .eql (.t 21) (.c (.i .i64 0))⟩,
  ⟨some 23, some (14, true), .pick (.t 17) (.c (.b true)) (.t 22)⟩,
  ⟨some 24, none, .pick (.t 14) (.t 23) (.c (.b false))⟩,
  ⟨some 25, none, .mv (.t 24)⟩,
  ⟨some 26, some (25, true), .fa 2 (.t 2)⟩,
  ⟨some 27, some (25, true), .ld false 1 (.t 26)⟩,
  ⟨some 28, some (25, true), .mv (.t 27)⟩,
  ⟨some 29, some (28, false), .mv (.t 1)⟩,
  ⟨some 30, some (28, false), .nck (.t 29)⟩,
  ⟨some 31, some (28, false), .fa 3 (.t 30)⟩,
  ⟨some 32, some (28, false), .call 78 [(.t 31)]⟩,
  ⟨some 33, some (25, true), .pick (.t 28) (.c (.b true)) (.t 32)⟩,
  ⟨some 34, none, .pick (.t 25) (.t 33) (.c (.b false))⟩,
  ⟨some 35, none, .mv (.t 34)⟩,
  ⟨some 36, some (35, true), .fa 3 (.t 2)⟩,
  ⟨some 37, some (35, true), .ld false 1 (.t 36)⟩,
  ⟨some 38, some (35, true), .mv (.t 37)⟩,
  ⟨some 39, some (38, false), .mv (.t 1)⟩,
  ⟨some 40, some (38, false), .nck (.t 39)⟩,
  ⟨some 41, some (38, false), .fa 8 (.t 40)⟩,
  ⟨some 42, some (38, false), .call 79 [(.t 41)]⟩,
  ⟨some 43, some (35, true), .pick (.t 38) (.c (.b true)) (.t 42)⟩,
  ⟨some 44, none, .pick (.t 35) (.t 43) (.c (.b false))⟩,
  ⟨some 45, none, .mv (.t 44)⟩,
  ⟨some 46, some (45, true), .fa 4 (.t 2)⟩,
  ⟨some 47, some (45, true), .ld false 1 (.t 46)⟩,
  ⟨some 48, some (45, true), .mv (.t 47)⟩,
  ⟨some 49, some (48, false), .mv (.t 1)⟩,
  ⟨some 50, some (48, false), .nck (.t 49)⟩,
  ⟨some 51, some (48, false), .fa 13 (.t 50)⟩,
  ⟨some 52, some (48, false), .ld false 1 (.t 51)⟩,
  ⟨some 53, some (48, false), .len 1 (.t 52)⟩,
  ⟨some 54, some (48, false), .bop .eql (.t 53) (.c (.i .i64 0))⟩,
  ⟨some 55, some (45, true), .pick (.t 48) (.c (.b true)) (.t 54)⟩,
  ⟨some 56, none, .pick (.t 45) (.t 55) (.c (.b false))⟩,
  ⟨some 4, none, .mv (.t 56)⟩])
  .ret))⟩
def ir15_54 : XF := ⟨15, 2, [(4, none)], (.seq (.reg [⟨some 4, none, .mv (.c (.b false))⟩])
  (.seq (.reg [⟨some 5, none, .bld [(.b false), (.b false), (.b false), (.b false), (.b false)] [(0, 1, (.c (.b true)))]⟩,
  ⟨some 6, none, .mv (.t 1)⟩,
  ⟨some 7, none, .call 53 [(.t 5), (.t 6)]⟩,
  ⟨some 8, none, .mv (.t 7)⟩,
  ⟨some 9, some (8, true), .mv (.t 1)⟩,
  ⟨some 10, some (8, true), .nck (.t 9)⟩,
  ⟨some 11, some (8, true), .fa 1 (.t 10)⟩,
  ⟨some 12, some (8, true), .ld false 1 (.t 11)⟩,
  ⟨some 13, some (8, true), .call 39 [(.t 12), (.c (.i .i64 31))]⟩,
  ⟨some 14, none, .pick (.t 8) (.t 13) (.c (.b false))⟩,
  ⟨some 4, none, .mv (.t 14)⟩])
  .ret))⟩
def ir15_76 : XF := ⟨128, 1, [(2, none)], (.seq (.reg [⟨some 1, none, .box 117 1 (.t 0)⟩,
  ⟨some 2, none, .mv (.c .ifn)⟩])
  (.seq (.reg [⟨some 4, none, .mkf (.func 93) [] [(.t 1)]⟩,
  ⟨some 3, none, .mv (.t 4)⟩])
  (.seq (.blk 0 (.seq (.reg [⟨some 6, none, .ld false 1 (.t 1)⟩,
  ⟨some 7, none, .nck (.t 6)⟩,
  ⟨some 8, none, .fa 0 (.t 7)⟩,
  ⟨some 9, none, .ld false 1 (.t 8)⟩,
  ⟨some 10, none, .bop .eql (.t 9) (.c (.i .i8 0))⟩,
  ⟨some 11, none, .mv (.t 10)⟩,
  ⟨some 12, some (11, true), .mv (.t 3)⟩,
  ⟨some 13, some (11, true), .callv (.t 12) [(.c (.b true)), (.c (.b false)), (.c (.b false)), (.c (.b false))]⟩,
  ⟨some 14, none, .pick (.t 11) (.t 13) (.c (.b false))⟩,
  ⟨some 5, none, .mv (.t 14)⟩])
  (.cond (.t 5) (.seq (.reg [⟨some 15, none, .ld false 1 (.t 1)⟩,
  ⟨some 16, none, .nck (.t 15)⟩,
  ⟨some 17, none, .fa 1 (.t 16)⟩,
  ⟨some 18, none, .ld false 1 (.t 17)⟩,
  ⟨some 19, none, .bld [(.i .i64 0)] [(0, 1, (.t 18))]⟩,
  ⟨some 20, none, .mki 133 (.t 19)⟩,
  ⟨some 2, none, .mv (.t 20)⟩])
  .ret)
  (.seq (.reg [⟨some 22, none, .ld false 1 (.t 1)⟩,
  ⟨some 23, none, .nck (.t 22)⟩,
  ⟨some 24, none, .fa 0 (.t 23)⟩,
  ⟨some 25, none, .ld false 1 (.t 24)⟩,
  ⟨some 26, none, .bop .eql (.t 25) (.c (.i .i8 2))⟩,
  ⟨some 27, none, .mv (.t 26)⟩,
  ⟨some 28, some (27, false), .ld false 1 (.t 1)⟩,
  ⟨some 29, some (27, false), .nck (.t 28)⟩,
  ⟨some 30, some (27, false), .fa 0 (.t 29)⟩,
  ⟨some 31, some (27, false), .ld false 1 (.t 30)⟩,
  ⟨some 32, some (27, false), .bop .eql (.t 31) (.c (.i .i8 4))⟩,
  ⟨some 33, none, .pick (.t 27) (.c (.b true)) (.t 32)⟩,
  ⟨some 34, none, .mv (.t 33)⟩,
  ⟨some 35, some (34, true), .mv (.t 3)⟩,
  ⟨some 36, some (34, true), .callv (.t 35) [(.c (.b true)), (.c (.b false)), (.c (.b false)), (.c (.b false))]⟩,
  ⟨some 37, none, .pick (.t 34) (.t 36) (.c (.b false))⟩,
  ⟨some 21, none, .mv (.t 37)⟩])
  (.cond (.t 21) (.seq (.reg [⟨some 38, none, .ld false 1 (.t 1)⟩,
  ⟨some 39, none, .nck (.t 38)⟩,
  ⟨some 40, none, .fa 1 (.t 39)⟩,
  ⟨some 41, none, .ld false 1 (.t 40)⟩,
  ⟨some 42, none, .bld [(.i .i64 0)] [(0, 1, (.t 41))]⟩,
  ⟨some 43, none, .mki 134 (.t 42)⟩,
  ⟨some 2, none, .mv (.t 43)⟩])
  .ret)
  (.seq (.reg [⟨some 45, none, .ld false 1 (.t 1)⟩,
  ⟨some 46, none, .nck (.t 45)⟩,
  ⟨some 47, none, .fa 0 (.t 46)⟩,
  ⟨some 48, none, .ld false 1 (.t 47)⟩,
  ⟨some 49, none, .bop .eql (.t 48) (.c (.i .i8 1))⟩,
  ⟨some 50, none, .mv (.t 49)⟩,
  ⟨some 51, some (50, true), .mv (.t 3)⟩,
  ⟨some 52, some (50, true), .callv (.t 51) [(.c (.b false)), (.c (.b true)), (.c (.b false)), (.c (.b false))]⟩,
  ⟨some 53, none, .pick (.t 50) (.t 52) (.c (.b false))⟩,
  ⟨some 44, none, .mv (.t 53)⟩])
  (.cond (.t 44) (.seq (.reg [⟨some 54, none, .ld false 1 (.t 1)⟩,
  ⟨some 55, none, .nck (.t 54)⟩,
  ⟨some 56, none, .fa 2 (.t 55)⟩,
  ⟨some 57, none, .ld false 1 (.t 56)⟩,
  ⟨some 58, none, .bld [(.s [])] [(0, 1, (.t 57))]⟩,
  ⟨some 59, none, .mki 136 (.t 58)⟩,
  ⟨some 2, none, .mv (.t 59)⟩])
  .ret)
  (.seq (.reg [⟨some 61, none, .ld false 1 (.t 1)⟩,
  ⟨some 62, none, .nck (.t 61)⟩,
  ⟨some 63, none, .fa 0 (.t 62)⟩,
  ⟨some 64, none, .ld false 1 (.t 63)⟩,
  ⟨some 65, none, .bop .eql (.t 64) (.c (.i .i8 3))⟩,
  ⟨some 66, none, .mv (.t 65)⟩,
  ⟨some 67, some (66, true), .mv (.t 3)⟩,
  ⟨some 68, some (66, true), .callv (.t 67) [(.c (.b true)), (.c (.b true)), (.c (.b true)), (.c (.b false))]⟩,
  ⟨some 69, none, .pick (.t 66) (.t 68) (.c (.b false))⟩,
  ⟨some 60, none, .mv (.t 69)⟩])
  (.cond (.t 60) (.seq (.par [⟨some 70, none, .ld false 1 (.t 1)⟩,
  ⟨some 71, none, .nck (.t 70)⟩,
  ⟨some 72, none, .fa 2 (.t 71)⟩,
  ⟨some 73, none, .ld false 1 (.t 72)⟩,
  ⟨some 74, none, .ld false 1 (.t 1)⟩,
  ⟨some 75, none, .nck (.t 74)⟩,
  ⟨some 76, none, .fa 3 (.t 75)⟩,
  ⟨some 77, none, .ld false 1 (.t 76)⟩,
  ⟨some 78, none, .ld false 1 (.t 1)⟩,
  ⟨some 79, none, .nck (.t 78)⟩,
  ⟨some 80, none, .fa 1 (.t 79)⟩,
  ⟨some 81, none, .ld false 1 (.t 80)⟩,
  ⟨some 82, none, .bld [(.s []), (.s []), (.i .i64 0)] [(0, 1, (.t 73)), (1, 1, (.t 77)), (2, 1, (.t 81))]⟩,
  ⟨some 83, none, .mki 138 (.t 82)⟩,
  ⟨some 2, none, .mv (.t 83)⟩] [0, 1, 3, 7, 0, 16, 48, 112, 0, 256, 768, 1792, 4095, 8191, 16383])
  .ret)
  (.seq (.reg [⟨some 85, none, .ld false 1 (.t 1)⟩,
  ⟨some 86, none, .nck (.t 85)⟩,
  ⟨some 87, none, .fa 0 (.t 86)⟩,
  ⟨some 88, none, .ld false 1 (.t 87)⟩,
  ⟨some 89, none, .bop .eql (.t 88) (.c (.i .i8 5))⟩,
  ⟨some 90, none, .mv (.t 89)⟩,
  ⟨some 91, some (90, true), .mv (.t 3)⟩,
  ⟨some 92, some (90, true), .callv (.t 91) [(.c (.b false)), (.c (.b false)), (.c (.b false)), (.c (.b true))]⟩,
  ⟨some 93, none, .pick (.t 90) (.t 92) (.c (.b false))⟩,
  ⟨some 84, none, .mv (.t 93)⟩])
  (.cond (.t 84) (.seq (.reg [⟨some 94, none, .ld false 1 (.t 1)⟩,
  ⟨some 95, none, .nck (.t 94)⟩,
  ⟨some 96, none, .fa 4 (.t 95)⟩,
  ⟨some 97, none, .ld false 1 (.t 96)⟩,
  ⟨some 98, none, .bld [.sln, (.i .i64 0)] [(0, 1, (.t 97)), (1, 1, (.c (.i .i64 (-1))))]⟩,
  ⟨some 99, none, .mki 140 (.t 98)⟩,
  ⟨some 2, none, .mv (.t 99)⟩])
  .ret)
  (.seq (.reg [⟨some 101, none, .ld false 1 (.t 1)⟩,
  ⟨some 102, none, .nck (.t 101)⟩,
  ⟨some 103, none, .fa 0 (.t 102)⟩,
  ⟨some 104, none, .ld false 1 (.t 103)⟩,
  ⟨some 105, none, .bop .eql (.t 104) (.c (.i .i8 6))⟩,
  ⟨some 106, none, .mv (.t 105)⟩,
  ⟨some 107, some (106, true), .mv (.t 3)⟩,
  ⟨some 108, some (106, true), .callv (.t 107) [(.c (.b false)), (.c (.b false)), (.c (.b false)), (.c (.b false))]⟩,
  ⟨some 109, none, .pick (.t 106) (.t 108) (.c (.b false))⟩,
  ⟨some 100, none, .mv (.t 109)⟩])
  (.cond (.t 100) (.seq (.reg [⟨some 110, none, .bld [.sln, (.i .i64 0)] [(0, 1, (.c .sln)), (1, 1, (.c (.i .i64 0)))]⟩,
  ⟨some 111, none, .mki 140 (.t 110)⟩,
  ⟨some 2, none, .mv (.t 111)⟩])
  .ret)
  (.seq (.reg [⟨some 113, none, .ld false 1 (.t 1)⟩,
  ⟨some 114, none, .nck (.t 113)⟩,
  ⟨some 115, none, .fa 0 (.t 114)⟩,
  ⟨some 116, none, .ld false 1 (.t 115)⟩,
  ⟨some 117, none, .bop .eql (.t 116) (.c (.i .i8 7))⟩,
  ⟨some 118, none, .mv (.t 117)⟩,
  ⟨some 119, some (118, true), .mv (.t 3)⟩,
  ⟨some 120, some (118, true), .callv (.t 119) [(.c (.b false)), (.c (.b false)), (.c (.b false)), (.c (.b true))]⟩,
  ⟨some 121, none, .pick (.t 118) (.t 120) (.c (.b false))⟩,
  ⟨some 112, none, .mv (.t 121)⟩])
  (.cond (.t 112) (.seq (.reg [⟨some 122, none, .ld false 1 (.t 1)⟩,
  ⟨some 123, none, .nck (.t 122)⟩,
  ⟨some 124, none, .fa 4 (.t 123)⟩,
  ⟨some 125, none, .ld false 1 (.t 124)⟩,
  ⟨some 126, none, .bld [.sln, (.i .i64 0)] [(0, 1, (.t 125)), (1, 1, (.c (.i .i64 2)))]⟩,
  ⟨some 127, none, .mki 140 (.t 126)⟩,
  ⟨some 2, none, .mv (.t 127)⟩])
  .ret)
  .skip)))))))))))))))
  (.seq (.reg [⟨some 2, none, .mv (.c .ifn)⟩])
  .ret))))⟩
def ir15_77 : XF := ⟨9, 1, [(2, none)], (.seq (.reg [⟨some 2, none, .mv (.c (.b false))⟩])
  (.seq (.reg [⟨some 3, none, .mv (.t 0)⟩,
  ⟨some 4, none, .bop .geq (.t 3) (.c (.i .i64 (-576460752303423488)))⟩,
  ⟨some 5, none, .mv (.t 4)⟩,
  ⟨some 6, some (5, true), .mv (.t 0)⟩,
  ⟨some 7, some (5, true), .bop .leq (.t 6) (.c (.i .i64 576460752303423487))⟩,
  ⟨some 8, none, .pick (.t 5) (.t 7) (.c (.b false))⟩,
  ⟨some 2, none, .mv (.t 8)⟩])
  .ret))⟩
def ir15_78 : XF := ⟨37, 1, [(2, none)], (.seq (.reg [⟨some 2, none, .mv (.c (.b false))⟩])
  (.seq (.reg [⟨some 3, none, .mv (.t 0)⟩,
  ⟨some 4, none, .nck (.t 3)⟩,
  ⟨some 5, none, .fa 0 (.t 4)⟩,
  ⟨some 6, none, .ld false 1 (.t 5)⟩,
  ⟨some 7, none, .bop .eql (.t 6) (.c (.i .i8 0))⟩,
  ⟨some 8, none, .mv (.t 7)⟩,
  ⟨some 9, some (8, true), .mv (.t 0)⟩,
  ⟨some 10, some (8, true), .nck (.t 9)⟩,
  ⟨some 11, some (8, true), .fa 1 (.t 10)⟩,
  ⟨some 12, some (8, true), .ld false 1 (.t 11)⟩,
  ⟨some 13, some (8, true), .bop .eql (.t 12) (.c (.i .i64 0))⟩,
  ⟨some 14, none, .pick (.t 8) (.t 13) (.c (.b false))⟩,
  ⟨some 15, none, .mv (.t 14)⟩,
  ⟨some 16, some (15, true), .mv (.t 0)⟩,
  ⟨some 17, some (15, true), .nck (.t 16)⟩,
  ⟨some 18, some (15, true), .fa 2 (.t 17)⟩,
  ⟨some 19, some (15, true), .ld false 1 (.t 18)⟩,
  ⟨some 20, some (15, true), .bop .eql (.t 19) (.c (.s []))⟩,
  ⟨some 21, none, .pick (.t 15) (.t 20) (.c (.b false))⟩,
  ⟨some 22, none, .mv (.t 21)⟩,
  ⟨some 23, some (22, true), .mv (.t 0)⟩,
  ⟨some 24, some (22, true), .nck (.t 23)⟩,
  ⟨some 25, some (22, true), .fa 3 (.t 24)⟩,
  ⟨some 26, some (22, true), .ld false 1 (.t 25)⟩,
  ⟨some 27, some (22, true), .bop .eql (.t 26) (.c (.s []))⟩,
  ⟨some 28, none, .pick (.t 22) (.t 27) (.c (.b false))⟩,
  ⟨some 29, none, .mv (.t 28)⟩,
  ⟨some 30, some (29, true), .mv (.t 0)⟩,
  ⟨some 31, some (29, true), .nck (.t 30)⟩,
  ⟨some 32, some (29, true), .fa 4 (.t 31)⟩,
  ⟨some 33, some (29, true), .ld false 1 (.t 32)⟩,
  ⟨some 34, some (29, true), .len 1 (.t 33)⟩,
  ⟨some 35, some (29, true), .bop .eql (.t 34) (.c (.i .i64 0))⟩,
  ⟨some 36, none, .pick (.t 29) (.t 35) (.c (.b false))⟩,
  ⟨some 2, none, .mv (.t 36)⟩])
  .ret))⟩
def ir15_79 : XF := ⟨37, 1, [(2, none)], (.seq (.reg [⟨some 2, none, .mv (.c (.b false))⟩])
  (.seq (.reg [⟨some 3, none, .mv (.t 0)⟩,
  ⟨some 4, none, .nck (.t 3)⟩,
  ⟨some 5, none, .fa 0 (.t 4)⟩,
  ⟨some 6, none, .ld false 1 (.t 5)⟩,
  ⟨some 7, none, .bop .eql (.t 6) (.c (.i .i8 0))⟩,
  ⟨some 8, none, .mv (.t 7)⟩,
  ⟨some 9, some (8, true), .mv (.t 0)⟩,
  ⟨some 10, some (8, true), .nck (.t 9)⟩,
  ⟨some 11, some (8, true), .fa 1 (.t 10)⟩,
  ⟨some 12, some (8, true), .ld false 1 (.t 11)⟩,
  ⟨some 13, some (8, true), .bop .eql (.t 12) (.c (.i .i64 0))⟩,
  ⟨some 14, none, .pick (.t 8) (.t 13) (.c (.b false))⟩,
  ⟨some 15, none, .mv (.t 14)⟩,
  ⟨some 16, some (15, true), .mv (.t 0)⟩,
  ⟨some 17, some (15, true), .nck (.t 16)⟩,
  ⟨some 18, some (15, true), .fa 2 (.t 17)⟩,
  ⟨some 19, some (15, true), .ld false 1 (.t 18)⟩,
  ⟨some 20, some (15, true), .bop .eql (.t 19) (.c (.s []))⟩,
  ⟨some 21, none, .pick (.t 15) (.t 20) (.c (.b false))⟩,
  ⟨some 22, none, .mv (.t 21)⟩,
  ⟨some 23, some (22, true), .mv (.t 0)⟩,
  ⟨some 24, some (22, true), .nck (.t 23)⟩,
  ⟨some 25, some (22, true), .fa 3 (.t 24)⟩,
  ⟨some 26, some (22, true), .ld false 1 (.t 25)⟩,
  ⟨some 27, some (22, true), .bop .eql (.t 26) (.c (.s []))⟩,
  ⟨some 28, none, .pick (.t 22) (.t 27) (.c (.b false))⟩,
  ⟨some 29, none, .mv (.t 28)⟩,
  ⟨some 30, some (29, true), .mv (.t 0)⟩,
  ⟨some 31, some (29, true), .nck (.t 30)⟩,
  ⟨some 32, some (29, true), .fa 4 (.t 31)⟩,
  ⟨some 33, some (29, true), .ld false 1 (.t 32)⟩,
  ⟨some 34, some (29, true), .len 1 (.t 33)⟩,
  ⟨some 35, some (29, true), .bop .eql (.t 34) (.c (.i .i64 0))⟩,
  ⟨some 36, none, .pick (.t 29) (.t 35) (.c (.b false))⟩,
  ⟨some 2, none, .mv (.t 36)⟩])
  .ret))⟩
def ir15_93 : XF := ⟨49, 5, [(9, none)], (.seq (.reg [⟨some 9, none, .mv (.c (.b false))⟩])
  (.seq (.reg [⟨some 10, none, .mv (.t 0)⟩,
  ⟨some 11, none, .mv (.t 10)⟩,
  ⟨some 12, some (11, false), .ld false 1 (.t 4)⟩,
  ⟨some 13, some (11, false), .nck (.t 12)⟩,
  ⟨some 14, some (11, false), .fa 1 (.t 13)⟩,
  ⟨some 15, some (11, false), .ld false 1 (.t 14)⟩,
  ⟨some 16, some (11, false), .bop .eql (.t 15) (.c (.i .i64 0))⟩,
  ⟨some 17, none, .pick (.t 11) (.c (.b true)) (.t 16)⟩,
  ⟨some 18, none, .mv (.t 17)⟩,
  ⟨some 19, some (18, true), .mv (.t 1)⟩,
  ⟨some 20, some (18, true), .mv (.t 19)⟩,
  ⟨some 21, some (20, false), .ld false 1 (.t 4)⟩,
  ⟨some 22, some (20, false), .nck (.t 21)⟩,
  ⟨some 23, some (20, false), .fa 2 (.t 22)⟩,
  ⟨some 24, some (20, false), .ld false 1 (.t 23)⟩,
  ⟨some 25, some (20, false), .bop .eql (.t 24) (.c (.s []))⟩,
  ⟨some 26, some (18, true), .pick (.t 20) (.c (.b true)) (.t 25)⟩,
  ⟨some 27, none, .pick (.t 18) (.t 26) (.c (.b false))⟩,
  ⟨some 28, none, .mv (.t 27)⟩,
  ⟨some 29, some (28, true), .mv (.t 2)⟩,
  ⟨some 30, some (28, true), .mv (.t 29)⟩,
  ⟨some 31, some (30, false), .ld false 1 (.t 4)⟩,
  ⟨some 32, some (30, false), .nck (.t 31)⟩,
  ⟨some 33, some (30, false), .fa 3 (.t 32)⟩,
  ⟨some 34, some (30, false), .ld false 1 (.t 33)⟩,
  ⟨some 35, some (30, false), .bop .eql (.t 34) (.c (.s []))⟩,
  ⟨some 36, some (28, true), .pick (.t 30) (.c (.b true)) (.t 35)⟩,
  ⟨some 37, none, .pick (.t 28) (.t 36) (.c (.b false))⟩,
  ⟨some 38, none, .mv (.t 37)⟩,
  ⟨some 39, some (38, true), .mv (.t 3)⟩,
  ⟨some 40, some (38, true), .mv (.t 39)⟩,
  ⟨some 41, some (40, false), .ld false 1 (.t 4)⟩,
  ⟨some 42, some (40, false), .nck (.t 41)⟩,
  ⟨some 43, some (40, false), .fa 4 (.t 42)⟩,
  ⟨some 44, some (40, false), .ld false 1 (.t 43)⟩,
  ⟨some 45, some (40, false), .len 1 (.t 44)⟩,
  ⟨some 46, some (40, false), .bop .eql (.t 45) (.c (.i .i64 0))⟩,
  ⟨some 47, some (38, true), .pick (.t 40) (.c (.b true)) (.t 46)⟩,
  ⟨some 48, none, .pick (.t 38) (.t 47) (.c (.b false))⟩,
  ⟨some 9, none, .mv (.t 48)⟩])
  .ret))⟩
def irTab15 : Trie XF := (.nd (.nd (.nd (.nd (.nd .lf none (.nd (.nd .lf (some ir15_79) .lf) (some ir15_47) .lf)) (some ir15_7) (.nd (.nd .lf (some ir15_39) .lf) none .lf)) none (.nd (.nd (.nd .lf (some ir15_35) .lf) (some ir15_19) .lf) none (.nd (.nd .lf (some ir15_43) .lf) (some ir15_27) .lf))) none (.nd (.nd (.nd (.nd .lf (some ir15_33) .lf) (some ir15_17) (.nd .lf (some ir15_49) .lf)) none (.nd (.nd .lf (some ir15_41) .lf) none .lf)) none (.nd (.nd .lf none (.nd .lf (some ir15_53) .lf)) none (.nd (.nd (.nd .lf (some ir15_77) .lf) (some ir15_45) .lf) (some ir15_29) (.nd (.nd .lf (some ir15_93) .lf) none .lf))))) none (.nd (.nd (.nd (.nd (.nd .lf (some ir15_32) .lf) (some ir15_16) (.nd .lf (some ir15_48) .lf)) (some ir15_8) (.nd (.nd .lf (some ir15_40) .lf) none .lf)) none (.nd (.nd (.nd .lf (some ir15_36) .lf) none (.nd .lf (some ir15_52) .lf)) none (.nd (.nd (.nd .lf (some ir15_76) .lf) none .lf) (some ir15_28) .lf))) none (.nd (.nd (.nd (.nd .lf (some ir15_34) .lf) (some ir15_18) (.nd .lf (some ir15_50) .lf)) none (.nd (.nd .lf (some ir15_42) .lf) (some ir15_26) .lf)) none (.nd (.nd .lf none (.nd .lf (some ir15_54) .lf)) none (.nd (.nd (.nd .lf (some ir15_78) .lf) (some ir15_46) .lf) (some ir15_30) .lf)))))
theorem irc15_7 : cFunc Tryz.prog Tryz.f7 = some ir15_7 := by kernel_rfl
theorem irc15_8 : cFunc Tryz.prog Tryz.f8 = some ir15_8 := by kernel_rfl
theorem irc15_16 : cFunc Tryz.prog Tryz.f16 = some ir15_16 := by kernel_rfl
theorem irc15_17 : cFunc Tryz.prog Tryz.f17 = some ir15_17 := by kernel_rfl
theorem irc15_18 : cFunc Tryz.prog Tryz.f18 = some ir15_18 := by kernel_rfl
theorem irc15_19 : cFunc Tryz.prog Tryz.f19 = some ir15_19 := by kernel_rfl
theorem irc15_26 : cFunc Tryz.prog Tryz.f26 = some ir15_26 := by kernel_rfl
theorem irc15_27 : cFunc Tryz.prog Tryz.f27 = some ir15_27 := by kernel_rfl
theorem irc15_28 : cFunc Tryz.prog Tryz.f28 = some ir15_28 := by kernel_rfl
theorem irc15_29 : cFunc Tryz.prog Tryz.f29 = some ir15_29 := by kernel_rfl
theorem irc15_30 : cFunc Tryz.prog Tryz.f30 = some ir15_30 := by kernel_rfl
theorem irc15_32 : cFunc Tryz.prog Tryz.f32 = some ir15_32 := by kernel_rfl
theorem irc15_33 : cFunc Tryz.prog Tryz.f33 = some ir15_33 := by kernel_rfl
theorem irc15_34 : cFunc Tryz.prog Tryz.f34 = some ir15_34 := by kernel_rfl
theorem irc15_35 : cFunc Tryz.prog Tryz.f35 = some ir15_35 := by kernel_rfl
theorem irc15_36 : cFunc Tryz.prog Tryz.f36 = some ir15_36 := by kernel_rfl
theorem irc15_39 : cFunc Tryz.prog Tryz.f39 = some ir15_39 := by kernel_rfl
theorem irc15_40 : cFunc Tryz.prog Tryz.f40 = some ir15_40 := by kernel_rfl
theorem irc15_41 : cFunc Tryz.prog Tryz.f41 = some ir15_41 := by kernel_rfl
theorem irc15_42 : cFunc Tryz.prog Tryz.f42 = some ir15_42 := by kernel_rfl
theorem irc15_43 : cFunc Tryz.prog Tryz.f43 = some ir15_43 := by kernel_rfl
theorem irc15_45 : cFunc Tryz.prog Tryz.f45 = some ir15_45 := by kernel_rfl
theorem irc15_46 : cFunc Tryz.prog Tryz.f46 = some ir15_46 := by kernel_rfl
theorem irc15_47 : cFunc Tryz.prog Tryz.f47 = some ir15_47 := by kernel_rfl
theorem irc15_48 : cFunc Tryz.prog Tryz.f48 = some ir15_48 := by kernel_rfl
theorem irc15_49 : cFunc Tryz.prog Tryz.f49 = some ir15_49 := by kernel_rfl
theorem irc15_50 : cFunc Tryz.prog Tryz.f50 = some ir15_50 := by kernel_rfl
theorem irc15_52 : cFunc Tryz.prog Tryz.f52 = some ir15_52 := by kernel_rfl
theorem irc15_53 : cFunc Tryz.prog Tryz.f53 = some ir15_53 := by kernel_rfl
theorem irc15_54 : cFunc Tryz.prog Tryz.f54 = some ir15_54 := by kernel_rfl
theorem irc15_76 : cFunc Tryz.prog Tryz.f76 = some ir15_76 := by kernel_rfl
theorem irc15_77 : cFunc Tryz.prog Tryz.f77 = some ir15_77 := by kernel_rfl
theorem irc15_78 : cFunc Tryz.prog Tryz.f78 = some ir15_78 := by kernel_rfl
theorem irc15_79 : cFunc Tryz.prog Tryz.f79 = some ir15_79 := by kernel_rfl
theorem irc15_93 : cFunc Tryz.prog Tryz.f93 = some ir15_93 := by kernel_rfl
def irList15 : List (Nat × XF) := [(7, ir15_7), (8, ir15_8), (16, ir15_16), (17, ir15_17), (18, ir15_18), (19, ir15_19), (26, ir15_26), (27, ir15_27), (28, ir15_28), (29, ir15_29), (30, ir15_30), (32, ir15_32), (33, ir15_33), (34, ir15_34), (35, ir15_35), (36, ir15_36), (39, ir15_39), (40, ir15_40), (41, ir15_41), (42, ir15_42), (43, ir15_43), (45, ir15_45), (46, ir15_46), (47, ir15_47), (48, ir15_48), (49, ir15_49), (50, ir15_50), (52, ir15_52), (53, ir15_53), (54, ir15_54), (76, ir15_76), (77, ir15_77), (78, ir15_78), (79, ir15_79), (93, ir15_93)]
theorem irTab_eq15 : irTab15 = ofList irList15 := by kernel_rfl
theorem irSmall15 : smallAll irList15 = true := by kernel_rfl
theorem irAll15 : ∀ p, p ∈ irList15 → ∃ fn, Tryz.prog.funcs[p.1]? = some fn ∧ cFunc Tryz.prog fn = some p.2 :=
  fa ⟨_, Tryz.func7, irc15_7⟩ <|
  fa ⟨_, Tryz.func8, irc15_8⟩ <|
  fa ⟨_, Tryz.func16, irc15_16⟩ <|
  fa ⟨_, Tryz.func17, irc15_17⟩ <|
  fa ⟨_, Tryz.func18, irc15_18⟩ <|
  fa ⟨_, Tryz.func19, irc15_19⟩ <|
  fa ⟨_, Tryz.func26, irc15_26⟩ <|
  fa ⟨_, Tryz.func27, irc15_27⟩ <|
  fa ⟨_, Tryz.func28, irc15_28⟩ <|
  fa ⟨_, Tryz.func29, irc15_29⟩ <|
  fa ⟨_, Tryz.func30, irc15_30⟩ <|
  fa ⟨_, Tryz.func32, irc15_32⟩ <|
  fa ⟨_, Tryz.func33, irc15_33⟩ <|
  fa ⟨_, Tryz.func34, irc15_34⟩ <|
  fa ⟨_, Tryz.func35, irc15_35⟩ <|
  fa ⟨_, Tryz.func36, irc15_36⟩ <|
  fa ⟨_, Tryz.func39, irc15_39⟩ <|
  fa ⟨_, Tryz.func40, irc15_40⟩ <|
  fa ⟨_, Tryz.func41, irc15_41⟩ <|
  fa ⟨_, Tryz.func42, irc15_42⟩ <|
  fa ⟨_, Tryz.func43, irc15_43⟩ <|
  fa ⟨_, Tryz.func45, irc15_45⟩ <|
  fa ⟨_, Tryz.func46, irc15_46⟩ <|
  fa ⟨_, Tryz.func47, irc15_47⟩ <|
  fa ⟨_, Tryz.func48, irc15_48⟩ <|
  fa ⟨_, Tryz.func49, irc15_49⟩ <|
  fa ⟨_, Tryz.func50, irc15_50⟩ <|
  fa ⟨_, Tryz.func52, irc15_52⟩ <|
  fa ⟨_, Tryz.func53, irc15_53⟩ <|
  fa ⟨_, Tryz.func54, irc15_54⟩ <|
  fa ⟨_, Tryz.func76, irc15_76⟩ <|
  fa ⟨_, Tryz.func77, irc15_77⟩ <|
  fa ⟨_, Tryz.func78, irc15_78⟩ <|
  fa ⟨_, Tryz.func79, irc15_79⟩ <|
  fa ⟨_, Tryz.func93, irc15_93⟩ <|
  fz
theorem irTab_ok15 : TabOk Tryz.prog irTab15 := tab_of irTab_eq15 irSmall15 irAll15
theorem follows_mix15 : Tryz.prog.follows .mixedOrders = true := by kernel_rfl
theorem size_g15 : Tryz.prog.globals.size = 6 := by kernel_rfl
def letterVals15 : List Value := [.int .u8 97, .int .u8 122, .int .u8 65, .int .u8 90, .int .u8 48, .int .u8 57, .int .u8 95, .int .u8 95]
def told15 : List (Nat × List TV) := [(0, [.i .u8 97, .i .u8 122, .i .u8 65, .i .u8 90, .i .u8 48, .i .u8 57, .i .u8 95, .i .u8 95])]
def wkT15 : List (Nat × String × Nat) := []
def wkM15 (lay : Nat → List Kd) : Meth := ⟨tabM wkT15, fun _ _ => none, lay⟩
theorem wkM_ok15 {ρ : Cx} (hp : ρ.prog = Tryz.prog) : MethOk Tryz.prog ρ (wkM15 ρ.lay) := ⟨tabM_ok (l := wkT15) fun x hx =>  (by cases hx), fun _ _ _ h => (by cases h), rfl, hp⟩
def wkO15 : List (Nat × (List TV → SH → Option (TV × SH))) := []
theorem irRun15 (lay : Nat → List Kd) (tys : Nat → Nat) : okv (run (wkM15 lay) irTab15 (listOrc wkO15) 100000 200 (.fn 7) [] (startL 6 told15 tys)) = true := (congrArg (fun r : CallT => okv (r (.fn 7) [] (startL 6 told15 tys))) (run_u (wkM15 lay) irTab15 wkO15 100000 200)).trans (by kernel_rfl)
/-- The law's wakes, at any memory in which the variables that it reads are laid. -/
theorem wakes15 {ρ : Cx} (hp : ρ.prog = Tryz.prog) (hρ : ∀ j, scalV (ρ j)) (hl : (0, letterVals15) ∈ ρ.tl) : PureC Tryz.prog ρ 7 [] (.b true) := by
  have run : ∀ (w : World) (M : Mem), MemOk M w → ToldM ρ.tl M → Calls Tryz.prog 7 #[] w fun e w' => e = .returned (.bool true) ∧ Below w.heap.size w w' := fun w M hM hT => by
    refine (shut_of hρ (wkM_ok15 hp) follows_mix15 irTab_ok15 (orc := listOrc wkO15) (fun B => listOrc_ok fun p hp => ?_) (L := told15) (by rw [size_g15]; decide) (fun p hp => ?_) (fun p hp => ?_) (fun tys => by rw [size_g15]; exact irRun15 _ tys) hM hT).2
    · exact absurd hp (by simp [wkO15])
    · simp only [told15, List.mem_cons, List.not_mem_nil, or_false] at hp
      rw [size_g15]
      rcases hp with rfl <;> decide
    · simp only [told15, List.mem_cons, List.not_mem_nil, or_false] at hp
      rcases hp with rfl
      · exact ⟨_, hl, by simp [letterVals15, VRs, VR, VR.VRs]⟩
  refine ⟨fun vs w => enter_of' Tryz.func7 (by kernel_rfl) (by kernel_rfl) vs w, fun w M vs hM hT hv => ?_⟩
  have hvs : vs = #[] := Array.toList_inj.1 hv
  subst hvs
  refine (run w M hM hT).mono ?_
  rintro e w' ⟨rfl, hb⟩
  exact ⟨_, M, rfl, fun _ _ q => q, fun _ _ q => .inl q, memOk_below hM hb, rfl, hb⟩
end Go.Proofs.YtgjfdbbghefdbaaGreatDoor.Sx
