/-
  A law's wakes, run by the closed runner. Conditions: the variables that it reads are laid. The code below is printed by Gen.
-/
import Derived.Test.YtpjocalboapglaaGreatDoorBu1
namespace Go.Proofs.YtpjocalboapglaaGreatDoor.Sx
open Go.RowKit
set_option maxRecDepth 100000
def ir13_7 : XF := ⟨12, 1, [(2, none)], (.seq (.reg [⟨some 2, none, .mv (.c (.s []))⟩])
  (.seq (.seq (.reg [⟨some 3, none, .mv (.t 0)⟩,
  ⟨some 4, none, .bop .lss (.t 3) (.c (.i .i64 0))⟩,
  ⟨some 5, none, .mv (.t 4)⟩,
  ⟨some 6, some (5, false), .mv (.t 0)⟩,
  ⟨some 7, some (5, false), .bop .geq (.t 6) (.c (.i .i64 32))⟩,
  ⟨some 8, none, .pick (.t 5) (.c (.b true)) (.t 7)⟩])
  (.cond (.t 8) (.seq (.reg [⟨some 2, none, .mv (.c (.s []))⟩])
  .ret)
  .skip))
  (.seq (.reg [⟨some 9, none, .mv (.t 0)⟩,
  ⟨some 10, none, .call 16 [(.t 9)]⟩,
  ⟨some 11, none, .bop .add (.c (.s [86])) (.t 10)⟩,
  ⟨some 2, none, .mv (.t 11)⟩])
  .ret)))⟩
def ir13_9 : XF := ⟨21, 0, [(0, none)], (.seq (.reg [⟨some 0, none, .mv (.c (.b false))⟩])
  (.seq (.reg [⟨some 1, none, .bld [(.i .i8 0), (.i .i64 0), (.i .i64 0), (.i .i8 0), (.i .i64 0), (.s []), (.s []), .sln, (.i .i8 0), (.i .i64 0), (.s []), (.s []), .sln, .sln] [(0, 1, (.c (.i .i8 11)))]⟩,
  ⟨some 2, none, .call 19 [(.t 1)]⟩,
  ⟨some 3, none, .call 12 [(.t 2)]⟩,
  ⟨some 4, none, .bop .eql (.t 3) (.c (.i .i64 0))⟩,
  ⟨some 5, none, .mv (.t 4)⟩,
  ⟨some 6, some (5, true), .bld [(.i .i8 0), (.i .i64 0), (.i .i64 0), (.i .i8 0), (.i .i64 0), (.s []), (.s []), .sln, (.i .i8 0), (.i .i64 0), (.s []), (.s []), .sln, .sln] [(0, 1, (.c (.i .i8 12))), (1, 1, (.c (.i .i64 7)))]⟩,
  ⟨some 7, some (5, true), .call 19 [(.t 6)]⟩,
  ⟨some 8, some (5, true), .call 12 [(.t 7)]⟩,
  ⟨some 9, some (5, true), .bop .eql (.t 8) (.c (.i .i64 130))⟩,
  ⟨some 10, none, .pick (.t 5) (.t 9) (.c (.b false))⟩,
  ⟨some 11, none, .mv (.t 10)⟩,
  ⟨some 12, some (11, true), .bld [(.i .i8 0), (.i .i64 0), (.i .i64 0), (.i .i8 0), (.i .i64 0), (.s []), (.s []), .sln, (.i .i8 0), (.i .i64 0), (.s []), (.s []), .sln, .sln] [(0, 1, (.c (.i .i8 11)))]⟩,
  ⟨some 13, some (11, true), .call 19 [(.t 12)]⟩,
  ⟨some 14, some (11, true), .call 11 [(.t 13)]⟩,
  ⟨some 15, some (11, true), .bop .eql (.t 14) (.c (.s [102, 110, 32, 109, 58, 102, 47, 48, 32, 48, 32, 48, 10, 48, 32, 48, 32, 48, 32, 48, 32, 49, 10, 49, 32, 49, 49, 32, 48, 32, 48, 32, 10]))⟩,
  ⟨some 16, none, .pick (.t 11) (.t 15) (.c (.b false))⟩,
  ⟨some 17, none, .mv (.t 16)⟩,
  ⟨some 18, some (17, true), .call 7 [(.c (.i .i64 7))]⟩,
  ⟨some 19, some (17, true), .bop .eql (.t 18) (.c (.s [86, 55]))⟩,
  ⟨some 20, none, .pick (.t 17) (.t 19) (.c (.b false))⟩,
  ⟨some 0, none, .mv (.t 20)⟩])
  .ret))⟩
def ir13_11 : XF := ⟨99, 1, [(2, none)], (.seq (.reg [⟨some 1, none, .box 31 3 (.t 0)⟩,
  ⟨some 2, none, .mv (.c (.s []))⟩])
  (.seq (.seq (.reg [⟨some 11, none, .ld true 3 (.t 1)⟩,
  ⟨some 12, none, .call 12 [(.t 11)]⟩,
  ⟨some 13, none, .bop .neq (.t 12) (.c (.i .i64 0))⟩])
  (.cond (.t 13) (.seq (.reg [⟨some 2, none, .mv (.c (.s []))⟩])
  .ret)
  .skip))
  (.seq (.reg [⟨some 3, none, .boxB 65 2 (.c (.ag [.pn, .sln]))⟩])
  (.seq (.reg [⟨some 14, none, .mkf (.func 23) [] [(.t 3)]⟩,
  ⟨some 4, none, .mv (.t 14)⟩])
  (.seq (.seq (.reg [⟨some 15, none, .fa 0 (.t 1)⟩,
  ⟨some 16, none, .ld false 1 (.t 15)⟩,
  ⟨some 17, none, .len 1 (.t 16)⟩,
  ⟨some 18, none, .mv (.c (.i .i64 0))⟩])
  (.blk 0 (.loop (.seq (.reg [⟨some 19, none, .bop .lss (.t 18) (.t 17)⟩])
  (.seq (.cond (.t 19) .skip
  (.exit 0))
  (.seq (.blk 1 (.seq (.reg [⟨some 20, none, .ia 5 (.t 16) (.t 18)⟩,
  ⟨some 21, none, .ld true 5 (.t 20)⟩,
  ⟨some 6, none, .box 49 5 (.c (.ag [(.s []), (.s []), (.i .i64 0), (.i .i64 0), (.i .i64 0)]))⟩,
  ⟨none, none, .st 5 (.t 6) (.t 21)⟩])
  (.par [⟨some 22, none, .mv (.t 4)⟩,
  ⟨some 23, none, .mki 9 (.c (.s [102, 110]))⟩,
  ⟨some 24, none, .fa 0 (.t 6)⟩,
  ⟨some 25, none, .ld false 1 (.t 24)⟩,
  ⟨some 26, none, .bop .add (.t 25) (.c (.s [58]))⟩,
  ⟨some 27, none, .fa 1 (.t 6)⟩,
  ⟨some 28, none, .ld false 1 (.t 27)⟩,
  ⟨some 29, none, .bop .add (.t 26) (.t 28)⟩,
  ⟨some 30, none, .bop .add (.t 29) (.c (.s [47]))⟩,
  ⟨some 31, none, .fa 2 (.t 6)⟩,
  ⟨some 32, none, .ld false 1 (.t 31)⟩,
  ⟨some 33, none, .call 16 [(.t 32)]⟩,
  ⟨some 34, none, .bop .add (.t 30) (.t 33)⟩,
  ⟨some 35, none, .mki 9 (.t 34)⟩,
  ⟨some 36, none, .fa 3 (.t 6)⟩,
  ⟨some 37, none, .ld false 1 (.t 36)⟩,
  ⟨some 38, none, .mki 3 (.t 37)⟩,
  ⟨some 39, none, .fa 4 (.t 6)⟩,
  ⟨some 40, none, .ld false 1 (.t 39)⟩,
  ⟨some 41, none, .mki 3 (.t 40)⟩,
  ⟨some 42, none, .bls 20 1 4 [.ifn, .ifn, .ifn, .ifn] [(0, 1, (.t 23)), (1, 1, (.t 35)), (2, 1, (.t 38)), (3, 1, (.t 41))]⟩,
  ⟨some 43, none, .callv (.t 22) [(.t 42)]⟩] [0, 0, 0, 4, 12, 0, 32, 124, 252, 0, 512, 1536, 4092, 8188, 0, 16384, 49152, 0, 131072, 393216, 1048574, 2097151])))
  (.reg [⟨some 44, none, .bop .add (.t 18) (.c (.i .i64 1))⟩,
  ⟨some 18, none, .mv (.t 44)⟩])))))))
  (.seq (.seq (.reg [⟨some 45, none, .fa 1 (.t 1)⟩,
  ⟨some 46, none, .ld false 1 (.t 45)⟩,
  ⟨some 47, none, .len 1 (.t 46)⟩,
  ⟨some 48, none, .mv (.c (.i .i64 0))⟩])
  (.blk 2 (.loop (.seq (.reg [⟨some 49, none, .bop .lss (.t 48) (.t 47)⟩])
  (.seq (.cond (.t 49) .skip
  (.exit 2))
  (.seq (.blk 3 (.seq (.reg [⟨some 50, none, .mv (.t 48)⟩,
  ⟨some 51, none, .ia 14 (.t 46) (.t 48)⟩,
  ⟨some 52, none, .ld true 14 (.t 51)⟩,
  ⟨some 8, none, .box 44 14 (.c (.ag [(.i .i8 0), (.i .i64 0), (.i .i64 0), (.i .i8 0), (.i .i64 0), (.s []), (.s []), .sln, (.i .i8 0), (.i .i64 0), (.s []), (.s []), .sln, .sln]))⟩,
  ⟨some 7, none, .mv (.t 50)⟩,
  ⟨none, none, .st 14 (.t 8) (.t 52)⟩])
  (.seq (.reg [⟨some 54, none, .fa 3 (.t 8)⟩,
  ⟨some 55, none, .call 26 [(.t 54)]⟩,
  ⟨some 53, none, .mv (.t 55)⟩,
  ⟨some 56, none, .ex (.t 53) 0⟩,
  ⟨some 57, none, .ex (.t 53) 1⟩,
  ⟨some 9, none, .mv (.t 56)⟩,
  ⟨some 10, none, .mv (.t 57)⟩])
  (.seq (.seq (.reg [⟨some 58, none, .mv (.t 10)⟩,
  ⟨some 59, none, .un .not (.t 58)⟩])
  (.cond (.t 59) (.reg [⟨some 60, none, .fa 3 (.t 8)⟩,
  ⟨some 61, none, .ld true 5 (.t 60)⟩,
  ⟨some 62, none, .call 27 [(.t 61)]⟩,
  ⟨some 9, none, .mv (.t 62)⟩])
  .skip))
  (.seq (.seq (.reg [⟨some 63, none, .fa 3 (.t 8)⟩,
  ⟨some 64, none, .call 28 [(.t 63)]⟩,
  ⟨some 65, none, .mv (.t 64)⟩,
  ⟨some 66, some (65, true), .fa 0 (.t 8)⟩,
  ⟨some 67, some (65, true), .ld false 1 (.t 66)⟩,
  ⟨some 68, some (65, true), .bop .neq (.t 67) (.c (.i .i8 0))⟩,
  ⟨some 69, none, .pick (.t 65) (.t 68) (.c (.b false))⟩,
  ⟨some 70, none, .mv (.t 69)⟩,
  ⟨some 71, some (70, true), .fa 0 (.t 8)⟩,
  ⟨some 72, some (70, true), .ld false 1 (.t 71)⟩,
  ⟨some 73, some (70, true), .bop .neq (.t 72) (.c (.i .i8 18))⟩,
  ⟨some 74, none, .pick (.t 70) (.t 73) (.c (.b false))⟩,
  ⟨some 75, none, .mv (.t 74)⟩,
  ⟨some 76, some (75, true), .fa 0 (.t 8)⟩,
  ⟨some 77, some (75, true), .ld false 1 (.t 76)⟩,
  ⟨some 78, some (75, true), .bop .neq (.t 77) (.c (.i .i8 15))⟩,
  ⟨some 79, none, .pick (.t 75) (.t 78) (.c (.b false))⟩])
  (.cond (.t 79) (.reg [⟨some 9, none, .mv (.c (.s []))⟩])
  .skip))
  (.reg [⟨some 80, none, .mv (.t 4)⟩,
  ⟨some 81, none, .mv (.t 7)⟩,
  ⟨some 82, none, .mki 3 (.t 81)⟩,
  ⟨some 83, none, .fa 0 (.t 8)⟩,
  ⟨some 84, none, .ld false 1 (.t 83)⟩,
  ⟨some 85, none, .cvi .i64 (.t 84)⟩,
  ⟨some 86, none, .mki 3 (.t 85)⟩,
  ⟨some 87, none, .fa 1 (.t 8)⟩,
  ⟨some 88, none, .ld false 1 (.t 87)⟩,
  ⟨some 89, none, .mki 3 (.t 88)⟩,
  ⟨some 90, none, .fa 2 (.t 8)⟩,
  ⟨some 91, none, .ld false 1 (.t 90)⟩,
  ⟨some 92, none, .mki 3 (.t 91)⟩,
  ⟨some 93, none, .mv (.t 9)⟩,
  ⟨some 94, none, .mki 9 (.t 93)⟩,
  ⟨some 95, none, .bls 20 1 5 [.ifn, .ifn, .ifn, .ifn, .ifn] [(0, 1, (.t 82)), (1, 1, (.t 86)), (2, 1, (.t 89)), (3, 1, (.t 92)), (4, 1, (.t 94))]⟩,
  ⟨some 96, none, .callv (.t 80) [(.t 95)]⟩]))))))
  (.reg [⟨some 97, none, .bop .add (.t 48) (.c (.i .i64 1))⟩,
  ⟨some 48, none, .mv (.t 97)⟩])))))))
  (.seq (.reg [⟨some 98, none, .call 29 [(.t 3)]⟩,
  ⟨some 2, none, .mv (.t 98)⟩])
  .ret)))))))⟩
def ir13_12 : XF := ⟨140, 1, [(2, none)], (.seq (.reg [⟨some 1, none, .box 31 3 (.t 0)⟩,
  ⟨some 2, none, .mv (.c (.i .i64 0))⟩])
  (.seq (.seq (.reg [⟨some 11, none, .fa 1 (.t 1)⟩,
  ⟨some 12, none, .ld false 1 (.t 11)⟩,
  ⟨some 13, none, .len 1 (.t 12)⟩,
  ⟨some 14, none, .bop .eql (.t 13) (.c (.i .i64 0))⟩,
  ⟨some 15, none, .mv (.t 14)⟩,
  ⟨some 16, some (15, false), .fa 1 (.t 1)⟩,
  ⟨some 17, some (15, false), .ld false 1 (.t 16)⟩,
  ⟨some 18, some (15, false), .len 1 (.t 17)⟩,
  ⟨some 19, some (15, false), .bop .gtr (.t 18) (.c (.i .i64 4096))⟩,
  ⟨some 20, none, .pick (.t 15) (.c (.b true)) (.t 19)⟩,
  ⟨some 21, none, .mv (.t 20)⟩,
  ⟨some 22, some (21, false), .fa 0 (.t 1)⟩,
  ⟨some 23, some (21, false), .ld false 1 (.t 22)⟩,
  ⟨some 24, some (21, false), .len 1 (.t 23)⟩,
  ⟨some 25, some (21, false), .bop .gtr (.t 24) (.c (.i .i64 4096))⟩,
  ⟨some 26, none, .pick (.t 21) (.c (.b true)) (.t 25)⟩,
  ⟨some 27, none, .mv (.t 26)⟩,
  ⟨some 28, some (27, false), .fa 2 (.t 1)⟩,
  ⟨some 29, some (27, false), .ld false 1 (.t 28)⟩,
  ⟨some 30, some (27, false), .len 1 (.t 29)⟩,
  ⟨some 31, some (27, false), .bop .gtr (.t 30) (.c (.i .i64 4097))⟩,
  ⟨some 32, none, .pick (.t 27) (.c (.b true)) (.t 31)⟩])
  (.cond (.t 32) (.seq (.reg [⟨some 2, none, .mv (.c (.i .i64 130))⟩])
  .ret)
  .skip))
  (.seq (.reg [⟨some 3, none, .mv (.c (.i .i64 0))⟩])
  (.seq (.seq (.reg [⟨some 33, none, .fa 2 (.t 1)⟩,
  ⟨some 34, none, .ld false 1 (.t 33)⟩,
  ⟨some 35, none, .len 1 (.t 34)⟩,
  ⟨some 36, none, .mv (.c (.i .i64 0))⟩])
  (.blk 0 (.loop (.seq (.reg [⟨some 37, none, .bop .lss (.t 36) (.t 35)⟩])
  (.seq (.cond (.t 37) .skip
  (.exit 0))
  (.seq (.blk 1 (.seq (.reg [⟨some 38, none, .ia 1 (.t 34) (.t 36)⟩,
  ⟨some 39, none, .ld false 1 (.t 38)⟩,
  ⟨some 5, none, .mv (.t 39)⟩])
  (.seq (.reg [⟨some 40, none, .mv (.t 3)⟩,
  ⟨some 41, none, .mv (.t 5)⟩,
  ⟨some 42, none, .len 1 (.t 41)⟩,
  ⟨some 43, none, .bop .add (.t 40) (.t 42)⟩,
  ⟨some 3, none, .mv (.t 43)⟩])
  (.seq (.reg [⟨some 44, none, .mv (.t 3)⟩,
  ⟨some 45, none, .bop .gtr (.t 44) (.c (.i .i64 4096))⟩,
  ⟨some 46, none, .mv (.t 45)⟩,
  ⟨some 47, some (46, false), .mv (.t 5)⟩,
  ⟨some 48, some (46, false), .mkf (.func 31) [] [(.t 1)]⟩,
  ⟨some 49, some (46, false), .call 30 [(.t 47), (.t 48)]⟩,
  ⟨some 50, none, .pick (.t 46) (.c (.b true)) (.t 49)⟩])
  (.cond (.t 50) (.seq (.reg [⟨some 2, none, .mv (.c (.i .i64 130))⟩])
  .ret)
  .skip)))))
  (.reg [⟨some 51, none, .bop .add (.t 36) (.c (.i .i64 1))⟩,
  ⟨some 36, none, .mv (.t 51)⟩])))))))
  (.seq (.reg [⟨some 52, none, .mkm⟩,
  ⟨some 6, none, .mv (.t 52)⟩])
  (.seq (.seq (.reg [⟨some 53, none, .fa 0 (.t 1)⟩,
  ⟨some 54, none, .ld false 1 (.t 53)⟩,
  ⟨some 55, none, .len 1 (.t 54)⟩,
  ⟨some 56, none, .mv (.c (.i .i64 0))⟩])
  (.blk 2 (.loop (.seq (.reg [⟨some 57, none, .bop .lss (.t 56) (.t 55)⟩])
  (.seq (.cond (.t 57) .skip
  (.exit 2))
  (.seq (.blk 3 (.seq (.reg [⟨some 58, none, .ia 5 (.t 54) (.t 56)⟩,
  ⟨some 59, none, .ld true 5 (.t 58)⟩,
  ⟨some 8, none, .box 49 5 (.c (.ag [(.s []), (.s []), (.i .i64 0), (.i .i64 0), (.i .i64 0)]))⟩,
  ⟨none, none, .st 5 (.t 8) (.t 59)⟩])
  (.seq (.reg [⟨some 60, none, .fa 0 (.t 8)⟩,
  ⟨some 61, none, .ld false 1 (.t 60)⟩,
  ⟨some 62, none, .fa 1 (.t 8)⟩,
  ⟨some 63, none, .ld false 1 (.t 62)⟩,
  ⟨some 64, none, .fa 2 (.t 8)⟩,
  ⟨some 65, none, .ld false 1 (.t 64)⟩,
  ⟨some 66, none, .bld [(.s []), (.s []), (.i .i64 0)] [(0, 1, (.t 61)), (1, 1, (.t 63)), (2, 1, (.t 65))]⟩,
  ⟨some 9, none, .box 80 3 (.c (.ag [(.s []), (.s []), (.i .i64 0)]))⟩,
  ⟨none, none, .st 3 (.t 9) (.t 66)⟩])
  (.seq (.seq (.reg [⟨some 67, none, .fa 0 (.t 8)⟩,
  ⟨some 68, none, .ld false 1 (.t 67)⟩,
  ⟨some 69, none, .call 33 [(.t 68)]⟩,
  ⟨some 70, none, .un .not (.t 69)⟩,
  ⟨some 71, none, .mv (.t 70)⟩,
  ⟨some 72, some (71, false), .fa 1 (.t 8)⟩,
  ⟨some 73, some (71, false), .ld false 1 (.t 72)⟩,
  ⟨some 74, some (71, false), .call 33 [(.t 73)]⟩,
  ⟨some 75, some (71, false), .un .not (.t 74)⟩,
  ⟨some 76, none, .pick (.t 71) (.c (.b true)) (.t 75)⟩,
  ⟨some 77, none, .mv (.t 76)⟩,
  ⟨some 78, some (77, false), .fa 2 (.t 8)⟩,
  ⟨some 79, some (77, false), .ld false 1 (.t 78)⟩,
  ⟨some 80, some (77, false), .call 32 [(.t 79), (.c (.i .i64 8))]⟩,
  ⟨some 81, some (77, false), .un .not (.t 80)⟩,
  ⟨some 82, none, .pick (.t 77) (.c (.b true)) (.t 81)⟩,
  ⟨some 83, none, .mv (.t 82)⟩,
  ⟨some 84, some (83, false), .fa 3 (.t 8)⟩,
  ⟨some 85, some (83, false), .ld false 1 (.t 84)⟩,
  ⟨some 86, some (83, false), .fa 1 (.t 1)⟩,
  ⟨some 87, some (83, false), .ld false 1 (.t 86)⟩,
  ⟨some 88, some (83, false), .len 1 (.t 87)⟩,
  ⟨some 89, some (83, false), .bop .sub (.t 88) (.c (.i .i64 1))⟩,
  ⟨some 90, some (83, false), .call 32 [(.t 85), (.t 89)]⟩,
  ⟨some 91, some (83, false), .un .not (.t 90)⟩,
  ⟨some 92, none, .pick (.t 83) (.c (.b true)) (.t 91)⟩,
  ⟨some 93, none, .mv (.t 92)⟩,
  ⟨some 94, some (93, false), .fa 4 (.t 8)⟩,
  ⟨some 95, some (93, false), .ld false 1 (.t 94)⟩,
  ⟨some 96, some (93, false), .fa 2 (.t 8)⟩,
  ⟨some 97, some (93, false), .ld false 1 (.t 96)⟩,
  ⟨some 98, some (93, false), .bop .lss (.t 95) (.t 97)⟩,
  ⟨some 99, none, .pick (.t 93) (.c (.b true)) (.t 98)⟩,
  ⟨some 100, none, .mv (.t 99)⟩,
  ⟨some 101, some (100, false), .fa 4 (.t 8)⟩,
  ⟨some 102, some (100, false), .ld false 1 (.t 101)⟩,
  ⟨some 103, some (100, false), .bop .gtr (.t 102) (.c (.i .i64 32))⟩,
  ⟨some 104, none, .pick (.t 100) (.c (.b true)) (.t 103)⟩,
  ⟨some 105, none, .mv (.t 104)⟩,
  ⟨some 106, some (105, false), .mv (.t 6)⟩,
  ⟨some 107, some (105, false), .ld true 3 (.t 9)⟩,
  ⟨some 108, some (105, false), .lk 5 false (.b false) (.t 106) (.t 107)⟩,
  ⟨some 109, none, .pick (.t 105) (.c (.b true)) (.t 108)⟩])
  (.cond (.t 109) (.seq (.reg [⟨some 2, none, .mv (.c (.i .i64 130))⟩])
  .ret)
  .skip))
  (.reg [⟨some 110, none, .mv (.t 6)⟩,
  ⟨some 111, none, .ld true 3 (.t 9)⟩,
  ⟨none, none, .ins 5 (.t 110) (.t 111) (.c (.b true))⟩])))))
  (.reg [⟨some 112, none, .bop .add (.t 56) (.c (.i .i64 1))⟩,
  ⟨some 56, none, .mv (.t 112)⟩])))))))
  (.seq (.seq (.reg [⟨some 113, none, .fa 1 (.t 1)⟩,
  ⟨some 114, none, .ld false 1 (.t 113)⟩,
  ⟨some 115, none, .len 1 (.t 114)⟩,
  ⟨some 116, none, .mv (.c (.i .i64 0))⟩])
  (.blk 4 (.loop (.seq (.reg [⟨some 117, none, .bop .lss (.t 116) (.t 115)⟩])
  (.seq (.cond (.t 117) .skip
  (.exit 4))
  (.seq (.blk 5 (.seq (.reg [⟨some 118, none, .mv (.t 116)⟩,
  ⟨some 10, none, .mv (.t 118)⟩])
  (.seq (.reg [⟨some 119, none, .fa 1 (.t 1)⟩,
  ⟨some 120, none, .ld false 1 (.t 119)⟩,
  ⟨some 121, none, .mv (.t 10)⟩,
  ⟨some 122, none, .ia 14 (.t 120) (.t 121)⟩,
  ⟨some 123, none, .call 34 [(.t 1), (.t 122)]⟩,
  ⟨some 124, none, .un .not (.t 123)⟩])
  (.cond (.t 124) (.seq (.reg [⟨some 2, none, .mv (.c (.i .i64 130))⟩])
  .ret)
  .skip))))
  (.reg [⟨some 125, none, .bop .add (.t 116) (.c (.i .i64 1))⟩,
  ⟨some 116, none, .mv (.t 125)⟩])))))))
  (.seq (.seq (.reg [⟨some 126, none, .fa 1 (.t 1)⟩,
  ⟨some 127, none, .ld false 1 (.t 126)⟩,
  ⟨some 128, none, .fa 1 (.t 1)⟩,
  ⟨some 129, none, .ld false 1 (.t 128)⟩,
  ⟨some 130, none, .len 1 (.t 129)⟩,
  ⟨some 131, none, .bop .sub (.t 130) (.c (.i .i64 1))⟩,
  ⟨some 132, none, .ia 14 (.t 127) (.t 131)⟩,
  ⟨some 133, none, .fa 0 (.t 132)⟩,
  ⟨some 134, none, .ld false 1 (.t 133)⟩])
  (.blk 6 (.seq (.seq (.reg [⟨some 136, none, .bop .eql (.t 134) (.c (.i .i8 11))⟩,
  ⟨some 135, none, .mv (.t 136)⟩])
  (.cond (.t 135) .skip
  (.seq (.reg [⟨some 137, none, .bop .eql (.t 134) (.c (.i .i8 9))⟩,
  ⟨some 135, none, .mv (.t 137)⟩])
  (.cond (.t 135) .skip
  (.seq (.reg [⟨some 138, none, .bop .eql (.t 134) (.c (.i .i8 12))⟩,
  ⟨some 135, none, .mv (.t 138)⟩])
  (.cond (.t 135) .skip
  (.reg [⟨some 139, none, .bop .eql (.t 134) (.c (.i .i8 15))⟩,
  ⟨some 135, none, .mv (.t 139)⟩])))))))
  (.cond (.t 135) (.seq (.reg [⟨some 2, none, .mv (.c (.i .i64 0))⟩])
  .ret)
  .skip))))
  (.seq (.reg [⟨some 2, none, .mv (.c (.i .i64 130))⟩])
  .ret)))))))))⟩
def ir13_16 : XF := ⟨5, 1, [(2, none)], (.seq (.reg [⟨some 2, none, .mv (.c (.s []))⟩])
  (.seq (.reg [⟨some 3, none, .mv (.t 0)⟩,
  ⟨some 4, none, .call 39 [(.t 3)]⟩,
  ⟨some 2, none, .mv (.t 4)⟩])
  .ret))⟩
def ir13_19 : XF := ⟨10, 1, [(2, some (true, 3))], (.seq (.reg [⟨some 1, none, .box 44 14 (.t 0)⟩,
  ⟨some 2, none, .box 31 3 (.c (.ag [.sln, .sln, .sln]))⟩])
  (.seq (.reg [⟨some 3, none, .bld [(.s []), (.s []), (.i .i64 0), (.i .i64 0), (.i .i64 0)] [(0, 1, (.c (.s [109]))), (1, 1, (.c (.s [102])))]⟩,
  ⟨some 4, none, .bls 49 5 1 [(.s []), (.s []), (.i .i64 0), (.i .i64 0), (.i .i64 0)] [(0, 5, (.t 3))]⟩,
  ⟨some 5, none, .bld [(.i .i8 0), (.i .i64 0), (.s []), (.s []), .sln] [(1, 1, (.c (.i .i64 1)))]⟩,
  ⟨some 6, none, .bld [(.i .i8 0), (.i .i64 0), (.i .i64 0), (.i .i8 0), (.i .i64 0), (.s []), (.s []), .sln, (.i .i8 0), (.i .i64 0), (.s []), (.s []), .sln, .sln] [(0, 1, (.c (.i .i8 0))), (3, 5, (.t 5))]⟩,
  ⟨some 7, none, .ld true 14 (.t 1)⟩,
  ⟨some 8, none, .bls 44 14 2 [(.i .i8 0), (.i .i64 0), (.i .i64 0), (.i .i8 0), (.i .i64 0), (.s []), (.s []), .sln, (.i .i8 0), (.i .i64 0), (.s []), (.s []), .sln, .sln, (.i .i8 0), (.i .i64 0), (.i .i64 0), (.i .i8 0), (.i .i64 0), (.s []), (.s []), .sln, (.i .i8 0), (.i .i64 0), (.s []), (.s []), .sln, .sln] [(0, 14, (.t 6)), (14, 14, (.t 7))]⟩,
  ⟨some 9, none, .bld [.sln, .sln, .sln] [(0, 1, (.t 4)), (1, 1, (.t 8))]⟩,
  ⟨none, none, .st 3 (.t 2) (.t 9)⟩])
  .ret))⟩
def ir13_23 : XF := ⟨31, 2, [], (.seq (.seq (.reg [⟨some 7, none, .mv (.t 0)⟩,
  ⟨some 8, none, .len 1 (.t 7)⟩,
  ⟨some 9, none, .mv (.c (.i .i64 0))⟩])
  (.blk 0 (.loop (.seq (.reg [⟨some 10, none, .bop .lss (.t 9) (.t 8)⟩])
  (.seq (.cond (.t 10) .skip
  (.exit 0))
  (.seq (.blk 1 (.seq (.reg [⟨some 11, none, .mv (.t 9)⟩,
  ⟨some 12, none, .ia 1 (.t 7) (.t 9)⟩,
  ⟨some 13, none, .ld false 1 (.t 12)⟩,
  ⟨some 3, none, .mv (.t 11)⟩,
  ⟨some 4, none, .mv (.t 13)⟩])
  (.seq (.seq (.reg [⟨some 14, none, .mv (.t 3)⟩,
  ⟨some 15, none, .bop .gtr (.t 14) (.c (.i .i64 0))⟩])
  (.cond (.t 15) (.reg [⟨some 16, none, .call 24 [(.t 1), (.c (.i .u8 32))]⟩])
  .skip))
  (.seq (.reg [⟨some 17, none, .mv (.t 4)⟩])
  (.blk 2 (.seq (.reg [⟨some 18, none, .ta true 3 (.i .i64 0) (.t 17)⟩,
  ⟨some 19, none, .ex (.t 18) 1⟩,
  ⟨some 20, none, .ex (.t 18) 0⟩])
  (.cond (.t 19) (.seq (.reg [⟨some 5, none, .mv (.t 20)⟩])
  (.reg [⟨some 21, none, .mv (.t 5)⟩,
  ⟨some 22, none, .call 16 [(.t 21)]⟩,
  ⟨some 23, none, .call 25 [(.t 1), (.t 22)]⟩]))
  (.seq (.reg [⟨some 24, none, .ta true 9 (.s []) (.t 17)⟩,
  ⟨some 25, none, .ex (.t 24) 1⟩,
  ⟨some 26, none, .ex (.t 24) 0⟩])
  (.cond (.t 25) (.seq (.reg [⟨some 6, none, .mv (.t 26)⟩])
  (.reg [⟨some 27, none, .mv (.t 6)⟩,
  ⟨some 28, none, .call 25 [(.t 1), (.t 27)]⟩]))
  .skip)))))))))
  (.reg [⟨some 29, none, .bop .add (.t 9) (.c (.i .i64 1))⟩,
  ⟨some 9, none, .mv (.t 29)⟩])))))))
  (.reg [⟨some 30, none, .call 24 [(.t 1), (.c (.i .u8 10))]⟩]))⟩
def ir13_24 : XF := ⟨17, 2, [(4, none)], (.seq (.reg [⟨some 4, none, .mv (.c .ifn)⟩])
  (.seq (.reg [⟨some 5, none, .mv (.t 0)⟩,
  ⟨some 6, none, .call 45 [(.t 5)]⟩])
  (.seq (.reg [⟨some 7, none, .mv (.t 0)⟩,
  ⟨some 8, none, .mv (.t 0)⟩,
  ⟨some 9, none, .nck (.t 8)⟩,
  ⟨some 10, none, .fa 1 (.t 9)⟩,
  ⟨some 11, none, .ld false 1 (.t 10)⟩,
  ⟨some 12, none, .mv (.t 1)⟩,
  ⟨some 13, none, .bls 5 1 1 [(.i .u8 0)] [(0, 1, (.t 12))]⟩,
  ⟨some 14, none, .app 5 1 (.t 11) (.t 13)⟩,
  ⟨some 15, none, .nck (.t 7)⟩,
  ⟨some 16, none, .fa 1 (.t 15)⟩,
  ⟨none, none, .st 1 (.t 16) (.t 14)⟩])
  (.seq (.reg [⟨some 4, none, .mv (.c .ifn)⟩])
  .ret))))⟩
def ir13_25 : XF := ⟨19, 2, [(4, none), (5, none)], (.seq (.reg [⟨some 4, none, .mv (.c (.i .i64 0))⟩,
  ⟨some 5, none, .mv (.c .ifn)⟩])
  (.seq (.reg [⟨some 6, none, .mv (.t 0)⟩,
  ⟨some 7, none, .call 45 [(.t 6)]⟩])
  (.seq (.reg [⟨some 8, none, .mv (.t 0)⟩,
  ⟨some 9, none, .mv (.t 0)⟩,
  ⟨some 10, none, .nck (.t 9)⟩,
  ⟨some 11, none, .fa 1 (.t 10)⟩,
  ⟨some 12, none, .ld false 1 (.t 11)⟩,
  ⟨some 13, none, .mv (.t 1)⟩,
  ⟨some 14, none, .app 5 1 (.t 12) (.t 13)⟩,
  ⟨some 15, none, .nck (.t 8)⟩,
  ⟨some 16, none, .fa 1 (.t 15)⟩,
  ⟨none, none, .st 1 (.t 16) (.t 14)⟩])
  (.seq (.reg [⟨some 17, none, .mv (.t 1)⟩,
  ⟨some 18, none, .len 0 (.t 17)⟩,
  ⟨some 4, none, .mv (.t 18)⟩,
  ⟨some 5, none, .mv (.c .ifn)⟩])
  .ret))))⟩
def ir13_26 : XF := ⟨35, 1, [(2, none), (3, none)], (.seq (.reg [⟨some 2, none, .mv (.c (.s []))⟩,
  ⟨some 3, none, .mv (.c (.b false))⟩])
  (.seq (.par [⟨some 4, none, .mv (.t 0)⟩,
  ⟨some 5, none, .nck (.t 4)⟩,
  ⟨some 6, none, .fa 2 (.t 5)⟩,
  ⟨some 7, none, .ld false 1 (.t 6)⟩,
  ⟨some 8, none, .mv (.t 0)⟩,
  ⟨some 9, none, .nck (.t 8)⟩,
  ⟨some 10, none, .fa 0 (.t 9)⟩,
  ⟨some 11, none, .ld false 1 (.t 10)⟩,
  ⟨some 12, none, .bop .eql (.t 11) (.c (.i .i8 1))⟩,
  ⟨some 13, none, .mv (.t 12)⟩,
  ⟨some 14, some (13, true), .mv (.t 0)⟩,
  ⟨some 15, some (13, true), .nck (.t 14)⟩,
  ⟨some 16, some (13, true), .fa 1 (.t 15)⟩,
  ⟨some 17, some (13, true), .ld false 1 (.t 16)⟩,
  ⟨some 18, some (13, true), .bop .eql (.t 17) (.c (.i .i64 0))⟩,
  ⟨some 19, none, .pick (.t 13) (.t 18) (.c (.b false))⟩,
  ⟨some 20, none, .mv (.t 19)⟩,
  ⟨some 21, some (20, true), .mv (.t 0)⟩,
  ⟨some 22, some (20, true), .nck (.t 21)⟩,
  ⟨some 23, some (20, true), .fa 3 (.t 22)⟩,
  ⟨some 24, some (20, true), .ld false 1 (.t 23)⟩,
  ⟨some 25, some (20, true), .bop .eql (.t 24) (.c (.s []))⟩,
  ⟨some 26, none, .pick (.t 20) (.t 25) (.c (.b false))⟩,
  ⟨some 27, none, .mv (.t 26)⟩,
  ⟨some 28, some (27, true), .mv (.t 0)⟩,
  ⟨some 29, some (27, true), .nck (.t 28)⟩,
  ⟨some 30, some (27, true), .fa 4 (.t 29)⟩,
  ⟨some 31, some (27, true), .ld false 1 (.t 30)⟩,
  ⟨some 32, some (27, true), .len 1 (.t 31)⟩,
  ⟨some 33, some (27, true), .bop .eql (.t 32) (.c (.i .i64 0))⟩,
  ⟨some 34, none, .pick (.t 27) (.t 33) (.c (.b false))⟩,
  ⟨some 2, none, .mv (.t 7)⟩,
  ⟨some 3, none, .mv (.t 34)⟩] [0, 1, 3, 7, 0, 16, 48, 112, 240, 496, 1008, 2032, 4080, 8176, 16368, 32752, 65520, 131056, 262128, 524272, 1048560, 2097136, 4194288, 8388592, 16777200, 33554416, 67108848, 134217712, 268435440, 536870896, 1073741808, 16777215, 4294967295])
  .ret))⟩
def ir13_27 : XF := ⟨9, 1, [(2, none)], (.seq (.reg [⟨some 1, none, .box 39 5 (.t 0)⟩,
  ⟨some 2, none, .mv (.c (.s []))⟩])
  (.seq (.seq (.reg [⟨some 3, none, .ld true 5 (.t 1)⟩,
  ⟨some 4, none, .call 46 [(.t 3)]⟩,
  ⟨some 5, none, .bop .neq (.t 4) (.c (.i .i64 0))⟩])
  (.cond (.t 5) (.seq (.reg [⟨some 2, none, .mv (.c (.s []))⟩])
  .ret)
  .skip))
  (.seq (.reg [⟨some 6, none, .ld true 5 (.t 1)⟩,
  ⟨some 7, none, .call 47 [(.c .sln), (.t 6)]⟩,
  ⟨some 8, none, .cvb (.t 7)⟩,
  ⟨some 2, none, .mv (.t 8)⟩])
  .ret)))⟩
def ir13_28 : XF := ⟨37, 1, [(2, none)], (.seq (.reg [⟨some 2, none, .mv (.c (.b false))⟩])
  (.seq (.reg [⟨some 3, none, .mv (.t 0)⟩,
  ⟨some 4, none, .nck (.t 3)⟩,
  ⟨some 5, none, .fa 0 (.t 4)⟩,
  ⟨some 6, none, .ld false 1 (.t 5)⟩,
  ⟨some 7, none, .bop .eql (.t 6) (.c (.i .i8 0))⟩,
  ⟨some 8, none, .mv (.t 7)⟩,
  ⟨some 9, some (8, true), .mv (.t 0)⟩,
  ⟨some 10, some (8, true), .nck (.t 9)⟩,
  ⟨some 11, some (8, true), .fa 1 (.t 10)⟩,
  ⟨some 12, some (8, true), .ld false 1 (.t 11)⟩,
  ⟨some 13, some (8, true), .bop .eql (.t 12) (.c (.i .i64 0))⟩,
  ⟨some 14, none, .pick (.t 8) (.t 13) (.c (.b false))⟩,
  ⟨some 15, none, .mv (.t 14)⟩,
  ⟨some 16, some (15, true), .mv (.t 0)⟩,
  ⟨some 17, some (15, true), .nck (.t 16)⟩,
  ⟨some 18, some (15, true), .fa 2 (.t 17)⟩,
  ⟨some 19, some (15, true), .ld false 1 (.t 18)⟩,
  ⟨some 20, some (15, true), .bop .eql (.t 19) (.c (.s []))⟩,
  ⟨some 21, none, .pick (.t 15) (.t 20) (.c (.b false))⟩,
  ⟨some 22, none, .mv (.t 21)⟩,
  ⟨some 23, some (22, true), .mv (.t 0)⟩,
  ⟨some 24, some (22, true), .nck (.t 23)⟩,
  ⟨some 25, some (22, true), .fa 3 (.t 24)⟩,
  ⟨some 26, some (22, true), .ld false 1 (.t 25)⟩,
  ⟨some 27, some (22, true), .bop .eql (.t 26) (.c (.s []))⟩,
  ⟨some 28, none, .pick (.t 22) (.t 27) (.c (.b false))⟩,
  ⟨some 29, none, .mv (.t 28)⟩,
  ⟨some 30, some (29, true), .mv (.t 0)⟩,
  ⟨some 31, some (29, true), .nck (.t 30)⟩,
  ⟨some 32, some (29, true), .fa 4 (.t 31)⟩,
  ⟨some 33, some (29, true), .ld false 1 (.t 32)⟩,
  ⟨some 34, some (29, true), .len 1 (.t 33)⟩,
  ⟨some 35, some (29, true), .bop .eql (.t 34) (.c (.i .i64 0))⟩,
  ⟨some 36, none, .pick (.t 29) (.t 35) (.c (.b false))⟩,
  ⟨some 2, none, .mv (.t 36)⟩])
  .ret))⟩
def ir13_32 : XF := ⟨12, 2, [(4, none)], (.seq (.reg [⟨some 4, none, .mv (.c (.b false))⟩])
  (.seq (.reg [⟨some 5, none, .mv (.t 0)⟩,
  ⟨some 6, none, .bop .geq (.t 5) (.c (.i .i64 0))⟩,
  ⟨some 7, none, .mv (.t 6)⟩,
  ⟨some 8, some (7, true), .mv (.t 0)⟩,
  ⟨some 9, some (7, true), .mv (.t 1)⟩,
  ⟨some 10, some (7, true), .bop .leq (.t 8) (.t 9)⟩,
  ⟨some 11, none, .pick (.t 7) (.t 10) (.c (.b false))⟩,
  ⟨some 4, none, .mv (.t 11)⟩])
  .ret))⟩
def ir13_33 : XF := ⟨11, 1, [(2, none)], (.seq (.reg [⟨some 2, none, .mv (.c (.b false))⟩])
  (.seq (.par [⟨some 3, none, .mv (.t 0)⟩,
  ⟨some 4, none, .call 49 [(.t 3)]⟩,
  ⟨some 5, none, .mv (.t 4)⟩,
  ⟨some 6, some (5, true), .mv (.t 0)⟩,
  ⟨some 7, some (5, true), .ixS (.t 6) (.c (.i .i64 0))⟩,
  ⟨some 8, some (5, true), .slcA 4 2 (.c (.p 0 0)) none (some (.c (.i .i64 1))) none⟩,
  ⟨some 9, some (5, true), .call 50 [(.t 7), (.t 8)]⟩,
  ⟨some 10, none, .pick (.t 5) (.t 9) (.c (.b false))⟩,
  ⟨some 2, none, .mv (.t 10)⟩] [0, 1, 3, 7, 15, 7, 63, 127, 255])
  .ret))⟩
def ir13_34 : XF := ⟨31, 2, [(4, none)], (.seq (.reg [⟨some 4, none, .mv (.c (.b false))⟩])
  (.seq (.reg [⟨some 6, none, .call 51 []⟩,
  ⟨some 5, none, .box 98 20 (.c (.ag [.fn, .fn, .fn, .fn, .fn, .fn, .fn, .fn, .fn, .fn, .fn, .fn, .fn, .fn, .fn, .fn, .fn, .fn, .fn, .fn]))⟩,
  ⟨none, none, .st 20 (.t 5) (.t 6)⟩])
  (.seq (.reg [⟨some 7, none, .mv (.t 1)⟩,
  ⟨some 8, none, .nck (.t 7)⟩,
  ⟨some 9, none, .fa 0 (.t 8)⟩,
  ⟨some 10, none, .ld false 1 (.t 9)⟩,
  ⟨some 11, none, .bop .geq (.t 10) (.c (.i .i8 0))⟩,
  ⟨some 12, none, .mv (.t 11)⟩,
  ⟨some 13, some (12, true), .mv (.t 1)⟩,
  ⟨some 14, some (12, true), .nck (.t 13)⟩,
  ⟨some 15, some (12, true), .fa 0 (.t 14)⟩,
  ⟨some 16, some (12, true), .ld false 1 (.t 15)⟩,
  ⟨some 17, some (12, true), .cvi .i64 (.t 16)⟩,
  ⟨some 18, some (12, true), .bop .lss (.t 17) (.c (.i .i64 20))⟩,
  ⟨some 19, none, .pick (.t 12) (.t 18) (.c (.b false))⟩,
  ⟨some 20, none, .mv (.t 19)⟩,
  ⟨some 21, some (20, true), .mv (.t 1)⟩,
  ⟨some 22, some (20, true), .nck (.t 21)⟩,
  ⟨some 23, some (20, true), .fa 0 (.t 22)⟩,
  ⟨some 24, some (20, true), .ld false 1 (.t 23)⟩,
  ⟨some 25, some (20, true), .iaA 20 1 (.t 5) (.t 24)⟩,
  ⟨some 26, some (20, true), .ld false 1 (.t 25)⟩,
  ⟨some 27, some (20, true), .mv (.t 0)⟩,
  ⟨some 28, some (20, true), .mv (.t 1)⟩,
  ⟨some 29, some (20, true), .callv (.t 26) [(.t 27), (.t 28)]⟩,
  ⟨some 30, none, .pick (.t 20) (.t 29) (.c (.b false))⟩,
  ⟨some 4, none, .mv (.t 30)⟩])
  .ret)))⟩
def ir13_39 : XF := ⟨5, 1, [(2, none)], (.seq (.reg [⟨some 2, none, .mv (.c (.s []))⟩])
  (.seq (.reg [⟨some 3, none, .mv (.t 0)⟩,
  ⟨some 4, none, .call 53 [(.t 3), (.c (.i .i64 10))]⟩,
  ⟨some 2, none, .mv (.t 4)⟩])
  .ret))⟩
def ir13_46 : XF := ⟨15, 1, [(2, none)], (.seq (.reg [⟨some 1, none, .box 39 5 (.t 0)⟩,
  ⟨some 2, none, .mv (.c (.i .i64 0))⟩])
  (.seq (.reg [⟨some 3, none, .box 3 1 (.c (.i .i64 0))⟩,
  ⟨some 4, none, .box 4 1 (.c (.b false))⟩,
  ⟨none, none, .st 1 (.t 3) (.c (.i .i64 0))⟩,
  ⟨none, none, .st 1 (.t 4) (.c (.b true))⟩])
  (.seq (.reg [⟨some 5, none, .box 111 1 (.c .fn)⟩])
  (.seq (.reg [⟨some 6, none, .mkf (.func 61) [] [(.t 3), (.t 4), (.t 5)]⟩,
  ⟨none, none, .st 1 (.t 5) (.t 6)⟩])
  (.seq (.reg [⟨some 7, none, .ld false 1 (.t 5)⟩,
  ⟨some 8, none, .callv (.t 7) [(.t 1)]⟩])
  (.seq (.blk 0 (.seq (.reg [⟨some 10, none, .ld false 1 (.t 4)⟩,
  ⟨some 11, none, .un .not (.t 10)⟩,
  ⟨some 9, none, .mv (.t 11)⟩])
  (.cond (.t 9) (.seq (.reg [⟨some 2, none, .mv (.c (.i .i64 30))⟩])
  .ret)
  (.seq (.reg [⟨some 13, none, .ld false 1 (.t 3)⟩,
  ⟨some 14, none, .bop .gtr (.t 13) (.c (.i .i64 256))⟩,
  ⟨some 12, none, .mv (.t 14)⟩])
  (.cond (.t 12) (.seq (.reg [⟨some 2, none, .mv (.c (.i .i64 11))⟩])
  .ret)
  .skip)))))
  (.seq (.reg [⟨some 2, none, .mv (.c (.i .i64 0))⟩])
  .ret)))))))⟩
def ir13_47 : XF := ⟨91, 2, [(4, none)], (.seq (.reg [⟨some 2, none, .box 63 1 (.t 0)⟩,
  ⟨some 3, none, .box 39 5 (.t 1)⟩,
  ⟨some 4, none, .mv (.c .sln)⟩])
  (.seq (.reg [⟨some 8, none, .mkf (.func 63) [] [(.t 2)]⟩,
  ⟨some 5, none, .mv (.t 8)⟩])
  (.seq (.seq (.reg [⟨some 9, none, .fa 0 (.t 3)⟩,
  ⟨some 10, none, .ld false 1 (.t 9)⟩])
  (.blk 0 (.seq (.reg [⟨some 12, none, .bop .eql (.t 10) (.c (.i .i8 0))⟩,
  ⟨some 11, none, .mv (.t 12)⟩])
  (.cond (.t 11) (.seq (.reg [⟨some 13, none, .ld false 1 (.t 2)⟩,
  ⟨some 14, none, .fa 1 (.t 3)⟩,
  ⟨some 15, none, .ld false 1 (.t 14)⟩,
  ⟨some 16, none, .call 64 [(.t 13), (.t 15), (.c (.i .i64 10))]⟩,
  ⟨some 4, none, .mv (.t 16)⟩])
  .ret)
  (.seq (.reg [⟨some 18, none, .bop .eql (.t 10) (.c (.i .i8 1))⟩,
  ⟨some 17, none, .mv (.t 18)⟩])
  (.cond (.t 17) (.seq (.reg [⟨some 19, none, .ld false 1 (.t 2)⟩,
  ⟨some 20, none, .fa 2 (.t 3)⟩,
  ⟨some 21, none, .ld false 1 (.t 20)⟩,
  ⟨some 22, none, .app 5 1 (.t 19) (.t 21)⟩,
  ⟨some 4, none, .mv (.t 22)⟩])
  .ret)
  (.seq (.reg [⟨some 24, none, .bop .eql (.t 10) (.c (.i .i8 2))⟩,
  ⟨some 23, none, .mv (.t 24)⟩])
  (.cond (.t 23) (.seq (.par [⟨some 25, none, .ld false 1 (.t 2)⟩,
  ⟨some 26, none, .app 5 1 (.t 25) (.c (.s [35, 82, 101, 102, 60]))⟩,
  ⟨some 27, none, .fa 1 (.t 3)⟩,
  ⟨some 28, none, .ld false 1 (.t 27)⟩,
  ⟨some 29, none, .call 64 [(.t 26), (.t 28), (.c (.i .i64 10))]⟩,
  ⟨some 30, none, .bls 5 1 1 [(.i .u8 0)] [(0, 1, (.c (.i .u8 62)))]⟩,
  ⟨some 31, none, .app 5 1 (.t 29) (.t 30)⟩,
  ⟨some 4, none, .mv (.t 31)⟩] [0, 1, 0, 4, 15, 0, 63, 127])
  .ret)
  (.seq (.reg [⟨some 33, none, .bop .eql (.t 10) (.c (.i .i8 4))⟩,
  ⟨some 32, none, .mv (.t 33)⟩])
  (.cond (.t 32) (.seq (.par [⟨some 34, none, .ld false 1 (.t 2)⟩,
  ⟨some 35, none, .bls 5 1 1 [(.i .u8 0)] [(0, 1, (.c (.i .u8 60)))]⟩,
  ⟨some 36, none, .app 5 1 (.t 34) (.t 35)⟩,
  ⟨some 37, none, .fa 1 (.t 3)⟩,
  ⟨some 38, none, .ld false 1 (.t 37)⟩,
  ⟨some 39, none, .call 64 [(.t 36), (.t 38), (.c (.i .i64 10))]⟩,
  ⟨some 40, none, .bls 5 1 1 [(.i .u8 0)] [(0, 1, (.c (.i .u8 62)))]⟩,
  ⟨some 41, none, .app 5 1 (.t 39) (.t 40)⟩,
  ⟨some 4, none, .mv (.t 41)⟩] [0, 0, 3, 0, 8, 31, 0, 127, 255])
  .ret)
  (.seq (.reg [⟨some 43, none, .bop .eql (.t 10) (.c (.i .i8 3))⟩,
  ⟨some 42, none, .mv (.t 43)⟩])
  (.cond (.t 42) (.seq (.par [⟨some 44, none, .ld false 1 (.t 2)⟩,
  ⟨some 45, none, .fa 2 (.t 3)⟩,
  ⟨some 46, none, .ld false 1 (.t 45)⟩,
  ⟨some 47, none, .bop .add (.c (.s [102, 117, 110, 32])) (.t 46)⟩,
  ⟨some 48, none, .bop .add (.t 47) (.c (.s [58]))⟩,
  ⟨some 49, none, .fa 3 (.t 3)⟩,
  ⟨some 50, none, .ld false 1 (.t 49)⟩,
  ⟨some 51, none, .bop .add (.t 48) (.t 50)⟩,
  ⟨some 52, none, .bop .add (.t 51) (.c (.s [47]))⟩,
  ⟨some 53, none, .app 5 1 (.t 44) (.t 52)⟩,
  ⟨some 54, none, .fa 1 (.t 3)⟩,
  ⟨some 55, none, .ld false 1 (.t 54)⟩,
  ⟨some 56, none, .call 64 [(.t 53), (.t 55), (.c (.i .i64 10))]⟩,
  ⟨some 4, none, .mv (.t 56)⟩] [0, 0, 2, 6, 14, 0, 32, 126, 254, 511, 0, 1024, 4095, 8191])
  .ret)
  (.seq (.reg [⟨some 58, none, .bop .eql (.t 10) (.c (.i .i8 5))⟩,
  ⟨some 57, none, .mv (.t 58)⟩])
  (.cond (.t 57) (.seq (.reg [⟨some 59, none, .ld false 1 (.t 2)⟩,
  ⟨some 60, none, .bls 5 1 1 [(.i .u8 0)] [(0, 1, (.c (.i .u8 123)))]⟩,
  ⟨some 61, none, .app 5 1 (.t 59) (.t 60)⟩,
  ⟨none, none, .st 1 (.t 2) (.t 61)⟩])
  (.seq (.reg [⟨some 62, none, .mv (.t 5)⟩,
  ⟨some 63, none, .fa 4 (.t 3)⟩,
  ⟨some 64, none, .ld false 1 (.t 63)⟩,
  ⟨some 65, none, .callv (.t 62) [(.t 64)]⟩])
  (.seq (.reg [⟨some 66, none, .ld false 1 (.t 2)⟩,
  ⟨some 67, none, .bls 5 1 1 [(.i .u8 0)] [(0, 1, (.c (.i .u8 125)))]⟩,
  ⟨some 68, none, .app 5 1 (.t 66) (.t 67)⟩,
  ⟨some 4, none, .mv (.t 68)⟩])
  .ret)))
  .skip))))))))))))))
  (.seq (.reg [⟨some 70, none, .ld true 5 (.t 3)⟩,
  ⟨some 71, none, .call 65 [(.t 70)]⟩,
  ⟨some 69, none, .mv (.t 71)⟩,
  ⟨some 72, none, .ex (.t 69) 0⟩,
  ⟨some 73, none, .ex (.t 69) 1⟩,
  ⟨some 7, none, .box 39 5 (.c (.ag [(.i .i8 0), (.i .i64 0), (.s []), (.s []), .sln]))⟩,
  ⟨some 6, none, .mv (.t 72)⟩,
  ⟨none, none, .st 5 (.t 7) (.t 73)⟩])
  (.seq (.reg [⟨some 74, none, .ld false 1 (.t 2)⟩,
  ⟨some 75, none, .bls 5 1 1 [(.i .u8 0)] [(0, 1, (.c (.i .u8 91)))]⟩,
  ⟨some 76, none, .app 5 1 (.t 74) (.t 75)⟩,
  ⟨none, none, .st 1 (.t 2) (.t 76)⟩])
  (.seq (.reg [⟨some 77, none, .mv (.t 5)⟩,
  ⟨some 78, none, .mv (.t 6)⟩,
  ⟨some 79, none, .callv (.t 77) [(.t 78)]⟩])
  (.seq (.seq (.reg [⟨some 80, none, .fa 0 (.t 7)⟩,
  ⟨some 81, none, .ld false 1 (.t 80)⟩,
  ⟨some 82, none, .bop .neq (.t 81) (.c (.i .i8 6))⟩])
  (.cond (.t 82) (.par [⟨some 83, none, .ld false 1 (.t 2)⟩,
  ⟨some 84, none, .bls 5 1 1 [(.i .u8 0)] [(0, 1, (.c (.i .u8 124)))]⟩,
  ⟨some 85, none, .app 5 1 (.t 83) (.t 84)⟩,
  ⟨some 86, none, .ld true 5 (.t 7)⟩,
  ⟨some 87, none, .call 47 [(.t 85), (.t 86)]⟩,
  ⟨none, none, .st 1 (.t 2) (.t 87)⟩] [0, 0, 3, 0, 15, 31])
  .skip))
  (.seq (.reg [⟨some 88, none, .ld false 1 (.t 2)⟩,
  ⟨some 89, none, .bls 5 1 1 [(.i .u8 0)] [(0, 1, (.c (.i .u8 93)))]⟩,
  ⟨some 90, none, .app 5 1 (.t 88) (.t 89)⟩,
  ⟨some 4, none, .mv (.t 90)⟩])
  .ret))))))))⟩
def ir13_49 : XF := ⟨18, 1, [(2, none)], (.seq (.reg [⟨some 2, none, .mv (.c (.b false))⟩])
  (.seq (.reg [⟨some 3, none, .mv (.t 0)⟩,
  ⟨some 4, none, .len 0 (.t 3)⟩,
  ⟨some 5, none, .bop .geq (.t 4) (.c (.i .i64 1))⟩,
  ⟨some 6, none, .mv (.t 5)⟩,
  ⟨some 7, some (6, true), .mv (.t 0)⟩,
  ⟨some 8, some (6, true), .len 0 (.t 7)⟩,
  ⟨some 9, some (6, true), .bop .leq (.t 8) (.c (.i .i64 32))⟩,
  ⟨some 10, none, .pick (.t 6) (.t 9) (.c (.b false))⟩,
  ⟨some 11, none, .mv (.t 10)⟩,
  ⟨some 12, some (11, true), .mv (.t 0)⟩,
  ⟨some 13, some (11, true), .call 66 [(.t 12)]⟩,
  ⟨some 14, some (11, true), .mv (.t 0)⟩,
  ⟨some 15, some (11, true), .len 0 (.t 14)⟩,
  ⟨some 16, some (11, true), .bop .eql (.t 13) (.t 15)⟩,
  ⟨some 17, none, .pick (.t 11) (.t 16) (.c (.b false))⟩,
  ⟨some 2, none, .mv (.t 17)⟩])
  .ret))⟩
def ir13_50 : XF := ⟨24, 2, [(4, none)], (.seq (.reg [⟨some 4, none, .mv (.c (.b false))⟩])
  (.seq (.seq (.reg [⟨some 7, none, .mv (.t 1)⟩,
  ⟨some 8, none, .len 1 (.t 7)⟩,
  ⟨some 9, none, .mv (.c (.i .i64 0))⟩])
  (.blk 0 (.loop (.seq (.reg [⟨some 10, none, .bop .lss (.t 9) (.t 8)⟩])
  (.seq (.cond (.t 10) .skip
  (.exit 0))
  (.seq (.blk 1 (.seq (.reg [⟨some 11, none, .ia 2 (.t 7) (.t 9)⟩,
  ⟨some 12, none, .ld true 2 (.t 11)⟩,
  ⟨some 6, none, .box 95 2 (.c (.ag [(.i .u8 0), (.i .u8 0)]))⟩,
  ⟨none, none, .st 2 (.t 6) (.t 12)⟩])
  (.seq (.reg [⟨some 13, none, .iaA 2 1 (.t 6) (.c (.i .i64 0))⟩,
  ⟨some 14, none, .ld false 1 (.t 13)⟩,
  ⟨some 15, none, .mv (.t 0)⟩,
  ⟨some 16, none, .bop .leq (.t 14) (.t 15)⟩,
  ⟨some 17, none, .mv (.t 16)⟩,
  ⟨some 18, some (17, true), .mv (.t 0)⟩,
  ⟨some 19, some (17, true), .iaA 2 1 (.t 6) (.c (.i .i64 1))⟩,
  ⟨some 20, some (17, true), .ld false 1 (.t 19)⟩,
  ⟨some 21, some (17, true), .bop .leq (.t 18) (.t 20)⟩,
  ⟨some 22, none, .pick (.t 17) (.t 21) (.c (.b false))⟩])
  (.cond (.t 22) (.seq (.reg [⟨some 4, none, .mv (.c (.b true))⟩])
  .ret)
  .skip))))
  (.reg [⟨some 23, none, .bop .add (.t 9) (.c (.i .i64 1))⟩,
  ⟨some 9, none, .mv (.t 23)⟩])))))))
  (.seq (.reg [⟨some 4, none, .mv (.c (.b false))⟩])
  .ret)))⟩
def ir13_51 : XF := ⟨21, 0, [(0, some (true, 20))], (.seq (.reg [⟨some 0, none, .box 98 20 (.c (.ag [.fn, .fn, .fn, .fn, .fn, .fn, .fn, .fn, .fn, .fn, .fn, .fn, .fn, .fn, .fn, .fn, .fn, .fn, .fn, .fn]))⟩])
  (.seq (.reg [⟨some 1, none, .box 116 1 (.c .fn)⟩,
  ⟨none, none, .st 1 (.t 1) (.c (.f (.func 67) [] []))⟩])
  (.seq (.reg [⟨some 2, none, .mv (.c (.f (.func 68) [] []))⟩])
  (.seq (.reg [⟨some 3, none, .mv (.c (.f (.func 70) [] []))⟩])
  (.seq (.reg [⟨some 6, none, .mkf (.func 71) [] [(.t 1)]⟩,
  ⟨some 4, none, .mv (.t 6)⟩])
  (.seq (.reg [⟨some 5, none, .mv (.c (.f (.func 72) [] []))⟩])
  (.seq (.reg [⟨some 7, none, .mv (.t 3)⟩,
  ⟨some 8, none, .mv (.t 3)⟩,
  ⟨some 9, none, .mv (.t 2)⟩,
  ⟨some 10, none, .mv (.t 2)⟩,
  ⟨some 11, none, .mv (.t 2)⟩,
  ⟨some 12, none, .mv (.t 2)⟩,
  ⟨some 13, none, .mv (.t 2)⟩,
  ⟨some 14, none, .mv (.t 5)⟩,
  ⟨some 15, none, .mv (.t 5)⟩,
  ⟨some 16, none, .mv (.t 4)⟩,
  ⟨some 17, none, .mv (.t 4)⟩,
  ⟨some 18, none, .mkf (.func 81) [] [(.t 1)]⟩,
  ⟨some 19, none, .mkf (.func 84) [] [(.t 1)]⟩,
  ⟨some 20, none, .bld [.fn, .fn, .fn, .fn, .fn, .fn, .fn, .fn, .fn, .fn, .fn, .fn, .fn, .fn, .fn, .fn, .fn, .fn, .fn, .fn] [(0, 1, (.c (.f (.func 73) [] []))), (1, 1, (.t 7)), (2, 1, (.t 8)), (3, 1, (.t 9)), (5, 1, (.t 10)), (11, 1, (.t 11)), (17, 1, (.t 12)), (19, 1, (.t 13)), (4, 1, (.c (.f (.func 74) [] []))), (6, 1, (.c (.f (.func 75) [] []))), (7, 1, (.c (.f (.func 78) [] []))), (8, 1, (.t 14)), (9, 1, (.t 15)), (10, 1, (.c (.f (.func 80) [] []))), (12, 1, (.t 16)), (16, 1, (.t 17)), (13, 1, (.t 18)), (14, 1, (.t 19)), (15, 1, (.c (.f (.func 86) [] []))), (18, 1, (.c (.f (.func 87) [] [])))]⟩,
  ⟨none, none, .st 20 (.t 0) (.t 20)⟩])
  .ret)))))))⟩
def ir13_53 : XF := ⟨54, 2, [(4, none)], (.seq (.reg [⟨some 4, none, .mv (.c (.s []))⟩])
  (.seq (.seq (.reg [⟨some 10, none, .mv (.t 1)⟩,
  ⟨some 11, none, .bop .eql (.t 10) (.c (.i .i64 10))⟩])
  (.cond (.t 11) (.seq (.seq (.reg [⟨some 12, none, .mv (.t 0)⟩,
  ⟨some 13, none, .bop .leq (.c (.i .i64 0)) (.t 12)⟩,
  ⟨some 14, none, .mv (.t 13)⟩,
  ⟨some 15, some (14, true), .mv (.t 0)⟩,
  ⟨some 16, some (14, true), .bop .lss (.t 15) (.c (.i .i64 100))⟩,
  ⟨some 17, none, .pick (.t 14) (.t 16) (.c (.b false))⟩])
  (.cond (.t 17) (.seq (.reg [⟨some 18, none, .mv (.t 0)⟩,
  ⟨some 19, none, .call 92 [(.t 18)]⟩,
  ⟨some 4, none, .mv (.t 19)⟩])
  .ret)
  .skip))
  (.seq (.reg [⟨some 5, none, .box 125 24 (.c (.ag [(.i .u8 0), (.i .u8 0), (.i .u8 0), (.i .u8 0), (.i .u8 0), (.i .u8 0), (.i .u8 0), (.i .u8 0), (.i .u8 0), (.i .u8 0), (.i .u8 0), (.i .u8 0), (.i .u8 0), (.i .u8 0), (.i .u8 0), (.i .u8 0), (.i .u8 0), (.i .u8 0), (.i .u8 0), (.i .u8 0), (.i .u8 0), (.i .u8 0), (.i .u8 0), (.i .u8 0)]))⟩])
  (.seq (.reg [⟨some 20, none, .mv (.t 0)⟩,
  ⟨some 21, none, .cvi .u64 (.t 20)⟩,
  ⟨some 6, none, .mv (.t 21)⟩])
  (.seq (.seq (.reg [⟨some 22, none, .mv (.t 0)⟩,
  ⟨some 23, none, .bop .lss (.t 22) (.c (.i .i64 0))⟩])
  (.cond (.t 23) (.reg [⟨some 24, none, .mv (.t 6)⟩,
  ⟨some 25, none, .un .neg (.t 24)⟩,
  ⟨some 6, none, .mv (.t 25)⟩])
  .skip))
  (.seq (.reg [⟨some 26, none, .mv (.t 6)⟩,
  ⟨some 27, none, .call 93 [(.t 26)]⟩,
  ⟨some 7, none, .mv (.t 27)⟩])
  (.seq (.reg [⟨some 28, none, .mv (.t 7)⟩,
  ⟨some 29, none, .bop .add (.c (.i .i64 1)) (.t 28)⟩,
  ⟨some 30, none, .slcA 24 1 (.t 5) (some (.c (.i .i64 1))) (some (.t 29)) none⟩,
  ⟨some 31, none, .mv (.t 6)⟩,
  ⟨some 32, none, .call 94 [(.t 30), (.t 31)]⟩])
  (.seq (.seq (.reg [⟨some 33, none, .mv (.t 0)⟩,
  ⟨some 34, none, .bop .lss (.t 33) (.c (.i .i64 0))⟩])
  (.cond (.t 34) (.seq (.reg [⟨some 35, none, .iaA 24 1 (.t 5) (.c (.i .i64 0))⟩,
  ⟨none, none, .st 1 (.t 35) (.c (.i .u8 45))⟩])
  (.seq (.reg [⟨some 36, none, .mv (.t 7)⟩,
  ⟨some 37, none, .bop .add (.c (.i .i64 1)) (.t 36)⟩,
  ⟨some 38, none, .slcA 24 1 (.t 5) none (some (.t 37)) none⟩,
  ⟨some 39, none, .cvb (.t 38)⟩,
  ⟨some 4, none, .mv (.t 39)⟩])
  .ret))
  .skip))
  (.seq (.reg [⟨some 40, none, .mv (.t 7)⟩,
  ⟨some 41, none, .bop .add (.c (.i .i64 1)) (.t 40)⟩,
  ⟨some 42, none, .slcA 24 1 (.t 5) (some (.c (.i .i64 1))) (some (.t 41)) none⟩,
  ⟨some 43, none, .cvb (.t 42)⟩,
  ⟨some 4, none, .mv (.t 43)⟩])
  .ret))))))))
  .skip))
  (.seq (.reg [⟨some 45, none, .mv (.t 0)⟩,
  ⟨some 46, none, .cvi .u64 (.t 45)⟩,
  ⟨some 47, none, .mv (.t 1)⟩,
  ⟨some 48, none, .mv (.t 0)⟩,
  ⟨some 49, none, .bop .lss (.t 48) (.c (.i .i64 0))⟩,
  ⟨some 50, none, .call 95 [(.c .sln), (.t 46), (.t 47), (.t 49), (.c (.b false))]⟩,
  ⟨some 44, none, .mv (.t 50)⟩,
  ⟨some 51, none, .ex (.t 44) 0⟩,
  ⟨some 52, none, .ex (.t 44) 1⟩,
  ⟨some 8, none, .mv (.t 51)⟩,
  ⟨some 9, none, .mv (.t 52)⟩])
  (.seq (.reg [⟨some 53, none, .mv (.t 9)⟩,
  ⟨some 4, none, .mv (.t 53)⟩])
  .ret))))⟩
def ir13_61 : XF := ⟨36, 4, [], (.seq (.reg [⟨some 6, none, .ld false 1 (.t 1)⟩,
  ⟨some 7, none, .bop .add (.t 6) (.c (.i .i64 1))⟩,
  ⟨none, none, .st 1 (.t 1) (.t 7)⟩])
  (.seq (.reg [⟨some 8, none, .ld false 1 (.t 2)⟩,
  ⟨some 9, none, .mv (.t 8)⟩,
  ⟨some 10, some (9, true), .mv (.t 0)⟩,
  ⟨some 11, some (9, true), .call 62 [(.t 10)]⟩,
  ⟨some 12, none, .pick (.t 9) (.t 11) (.c (.b false))⟩,
  ⟨none, none, .st 1 (.t 2) (.t 12)⟩])
  (.seq (.reg [⟨some 13, none, .mv (.t 0)⟩,
  ⟨some 14, none, .nck (.t 13)⟩,
  ⟨some 15, none, .fa 4 (.t 14)⟩,
  ⟨some 16, none, .ld false 1 (.t 15)⟩,
  ⟨some 17, none, .len 1 (.t 16)⟩,
  ⟨some 18, none, .mv (.c (.i .i64 0))⟩])
  (.blk 0 (.loop (.seq (.reg [⟨some 19, none, .bop .lss (.t 18) (.t 17)⟩])
  (.seq (.cond (.t 19) .skip
  (.exit 0))
  (.seq (.blk 1 (.seq (.reg [⟨some 20, none, .mv (.t 18)⟩,
  ⟨some 5, none, .mv (.t 20)⟩])
  (.seq (.seq (.reg [⟨some 21, none, .ld false 1 (.t 1)⟩,
  ⟨some 22, none, .bop .gtr (.t 21) (.c (.i .i64 256))⟩,
  ⟨some 23, none, .mv (.t 22)⟩,
  ⟨some 24, some (23, false), .ld false 1 (.t 2)⟩,
  ⟨some 25, some (23, false), .un .not (.t 24)⟩,
  ⟨some 26, none, .pick (.t 23) (.c (.b true)) (.t 25)⟩])
  (.cond (.t 26) .ret
  .skip))
  (.par [⟨some 27, none, .ld false 1 (.t 3)⟩,
  ⟨some 28, none, .mv (.t 0)⟩,
  ⟨some 29, none, .nck (.t 28)⟩,
  ⟨some 30, none, .fa 4 (.t 29)⟩,
  ⟨some 31, none, .ld false 1 (.t 30)⟩,
  ⟨some 32, none, .mv (.t 5)⟩,
  ⟨some 33, none, .ia 5 (.t 31) (.t 32)⟩,
  ⟨some 34, none, .callv (.t 27) [(.t 33)]⟩] [0, 0, 2, 6, 14, 0, 62, 127]))))
  (.reg [⟨some 35, none, .bop .add (.t 18) (.c (.i .i64 1))⟩,
  ⟨some 18, none, .mv (.t 35)⟩])))))))))⟩
def ir13_62 : XF := ⟨68, 1, [(2, none)], (.seq (.reg [⟨some 2, none, .mv (.c (.b false))⟩])
  (.seq (.seq (.reg [⟨some 8, none, .mv (.t 0)⟩,
  ⟨some 9, none, .call 99 [(.t 8)]⟩])
  (.blk 0 (.seq (.reg [⟨some 10, none, .ta true 140 (.ag [(.i .i64 0)]) (.t 9)⟩,
  ⟨some 11, none, .ex (.t 10) 1⟩,
  ⟨some 12, none, .ex (.t 10) 0⟩])
  (.cond (.t 11) (.seq (.reg [⟨some 3, none, .box 140 1 (.c (.ag [(.i .i64 0)]))⟩,
  ⟨none, none, .st 1 (.t 3) (.t 12)⟩])
  (.seq (.reg [⟨some 13, none, .fa 0 (.t 3)⟩,
  ⟨some 14, none, .ld false 1 (.t 13)⟩,
  ⟨some 15, none, .call 100 [(.t 14)]⟩,
  ⟨some 2, none, .mv (.t 15)⟩])
  .ret))
  (.seq (.reg [⟨some 16, none, .ta true 141 (.ag [(.i .i64 0)]) (.t 9)⟩,
  ⟨some 17, none, .ex (.t 16) 1⟩,
  ⟨some 18, none, .ex (.t 16) 0⟩])
  (.cond (.t 17) (.seq (.reg [⟨some 4, none, .box 141 1 (.c (.ag [(.i .i64 0)]))⟩,
  ⟨none, none, .st 1 (.t 4) (.t 18)⟩])
  (.seq (.reg [⟨some 19, none, .fa 0 (.t 4)⟩,
  ⟨some 20, none, .ld false 1 (.t 19)⟩,
  ⟨some 21, none, .bop .geq (.t 20) (.c (.i .i64 0))⟩,
  ⟨some 22, none, .mv (.t 21)⟩,
  ⟨some 23, some (22, true), .fa 0 (.t 4)⟩,
  ⟨some 24, some (22, true), .ld false 1 (.t 23)⟩,
  ⟨some 25, some (22, true), .bop .leq (.t 24) (.c (.i .i64 576460752303423487))⟩,
  ⟨some 26, none, .pick (.t 22) (.t 25) (.c (.b false))⟩,
  ⟨some 2, none, .mv (.t 26)⟩])
  .ret))
  (.seq (.reg [⟨some 27, none, .ta true 143 (.ag [(.s [])]) (.t 9)⟩,
  ⟨some 28, none, .ex (.t 27) 1⟩,
  ⟨some 29, none, .ex (.t 27) 0⟩])
  (.cond (.t 28) (.seq (.reg [⟨some 5, none, .box 143 1 (.c (.ag [(.s [])]))⟩,
  ⟨none, none, .st 1 (.t 5) (.t 29)⟩])
  (.seq (.reg [⟨some 30, none, .fa 0 (.t 5)⟩,
  ⟨some 31, none, .ld false 1 (.t 30)⟩,
  ⟨some 32, none, .call 33 [(.t 31)]⟩,
  ⟨some 2, none, .mv (.t 32)⟩])
  .ret))
  (.seq (.reg [⟨some 33, none, .ta true 145 (.ag [(.s []), (.s []), (.i .i64 0)]) (.t 9)⟩,
  ⟨some 34, none, .ex (.t 33) 1⟩,
  ⟨some 35, none, .ex (.t 33) 0⟩])
  (.cond (.t 34) (.seq (.reg [⟨some 6, none, .box 145 3 (.c (.ag [(.s []), (.s []), (.i .i64 0)]))⟩,
  ⟨none, none, .st 3 (.t 6) (.t 35)⟩])
  (.seq (.reg [⟨some 36, none, .fa 0 (.t 6)⟩,
  ⟨some 37, none, .ld false 1 (.t 36)⟩,
  ⟨some 38, none, .call 33 [(.t 37)]⟩,
  ⟨some 39, none, .mv (.t 38)⟩,
  ⟨some 40, some (39, true), .fa 1 (.t 6)⟩,
  ⟨some 41, some (39, true), .ld false 1 (.t 40)⟩,
  ⟨some 42, some (39, true), .call 33 [(.t 41)]⟩,
  ⟨some 43, none, .pick (.t 39) (.t 42) (.c (.b false))⟩,
  ⟨some 44, none, .mv (.t 43)⟩,
  ⟨some 45, some (44, true), .fa 2 (.t 6)⟩,
  ⟨some 46, some (44, true), .ld false 1 (.t 45)⟩,
  ⟨some 47, some (44, true), .bop .geq (.t 46) (.c (.i .i64 0))⟩,
  ⟨some 48, none, .pick (.t 44) (.t 47) (.c (.b false))⟩,
  ⟨some 49, none, .mv (.t 48)⟩,
  ⟨some 50, some (49, true), .fa 2 (.t 6)⟩,
  ⟨some 51, some (49, true), .ld false 1 (.t 50)⟩,
  ⟨some 52, some (49, true), .bop .leq (.t 51) (.c (.i .i64 8))⟩,
  ⟨some 53, none, .pick (.t 49) (.t 52) (.c (.b false))⟩,
  ⟨some 2, none, .mv (.t 53)⟩])
  .ret))
  (.seq (.reg [⟨some 54, none, .ta true 147 (.ag [.sln, (.i .i64 0)]) (.t 9)⟩,
  ⟨some 55, none, .ex (.t 54) 1⟩,
  ⟨some 56, none, .ex (.t 54) 0⟩])
  (.cond (.t 55) (.seq (.reg [⟨some 7, none, .box 147 2 (.c (.ag [.sln, (.i .i64 0)]))⟩,
  ⟨none, none, .st 2 (.t 7) (.t 56)⟩])
  (.seq (.reg [⟨some 57, none, .fa 1 (.t 7)⟩,
  ⟨some 58, none, .ld false 1 (.t 57)⟩,
  ⟨some 59, none, .bop .lss (.t 58) (.c (.i .i64 0))⟩,
  ⟨some 60, none, .mv (.t 59)⟩,
  ⟨some 61, some (60, false), .fa 0 (.t 7)⟩,
  ⟨some 62, some (60, false), .ld false 1 (.t 61)⟩,
  ⟨some 63, some (60, false), .len 1 (.t 62)⟩,
  ⟨some 64, some (60, false), .fa 1 (.t 7)⟩,
  ⟨some 65, some (60, false), .ld false 1 (.t 64)⟩,
  ⟨some 66, some (60, false), .bop .eql (.t 63) (.t 65)⟩,
  ⟨some 67, none, .pick (.t 60) (.c (.b true)) (.t 66)⟩,
  ⟨some 2, none, .mv (.t 67)⟩])
  .ret))
  .skip))))))))))))
  (.seq (.reg [⟨some 2, none, .mv (.c (.b false))⟩])
  .ret)))⟩
def ir13_64 : XF := ⟨11, 3, [(6, none)], (.seq (.reg [⟨some 6, none, .mv (.c .sln)⟩])
  (.seq (.reg [⟨some 7, none, .mv (.t 0)⟩,
  ⟨some 8, none, .mv (.t 1)⟩,
  ⟨some 9, none, .mv (.t 2)⟩,
  ⟨some 10, none, .call 101 [(.t 7), (.t 8), (.t 9)]⟩,
  ⟨some 6, none, .mv (.t 10)⟩])
  .ret))⟩
def ir13_66 : XF := ⟨19, 1, [(2, none)], (.seq (.reg [⟨some 2, none, .mv (.c (.i .i64 0))⟩])
  (.seq (.seq (.reg [⟨some 4, none, .mv (.t 0)⟩,
  ⟨some 5, none, .len 0 (.t 4)⟩,
  ⟨some 6, none, .mv (.c (.i .i64 0))⟩])
  (.blk 0 (.loop (.seq (.reg [⟨some 7, none, .bop .lss (.t 6) (.t 5)⟩])
  (.seq (.cond (.t 7) .skip
  (.exit 0))
  (.seq (.blk 1 (.seq (.reg [⟨some 8, none, .mv (.t 6)⟩,
  ⟨some 3, none, .mv (.t 8)⟩])
  (.seq (.par [⟨some 9, none, .mv (.t 0)⟩,
  ⟨some 10, none, .mv (.t 3)⟩,
  ⟨some 11, none, .ixS (.t 9) (.t 10)⟩,
  ⟨some 12, none, .slcA 4 2 (.c (.p 0 0)) none none none⟩,
  ⟨some 13, none, .call 50 [(.t 11), (.t 12)]⟩,
  ⟨some 14, none, .un .not (.t 13)⟩] [0, 0, 3, 0, 15, 31])
  (.cond (.t 14) (.seq (.reg [⟨some 15, none, .mv (.t 3)⟩,
  ⟨some 2, none, .mv (.t 15)⟩])
  .ret)
  .skip))))
  (.reg [⟨some 16, none, .bop .add (.t 6) (.c (.i .i64 1))⟩,
  ⟨some 6, none, .mv (.t 16)⟩])))))))
  (.seq (.reg [⟨some 17, none, .mv (.t 0)⟩,
  ⟨some 18, none, .len 0 (.t 17)⟩,
  ⟨some 2, none, .mv (.t 18)⟩])
  .ret)))⟩
def ir13_67 : XF := ⟨13, 2, [(4, none)], (.seq (.reg [⟨some 4, none, .mv (.c (.b false))⟩])
  (.seq (.reg [⟨some 5, none, .mv (.t 1)⟩,
  ⟨some 6, none, .mv (.t 0)⟩,
  ⟨some 7, none, .nck (.t 6)⟩,
  ⟨some 8, none, .fa 1 (.t 7)⟩,
  ⟨some 9, none, .ld false 1 (.t 8)⟩,
  ⟨some 10, none, .len 1 (.t 9)⟩,
  ⟨some 11, none, .bop .sub (.t 10) (.c (.i .i64 1))⟩,
  ⟨some 12, none, .call 32 [(.t 5), (.t 11)]⟩,
  ⟨some 4, none, .mv (.t 12)⟩])
  .ret))⟩
def ir13_68 : XF := ⟨8, 2, [(4, none)], (.seq (.reg [⟨some 4, none, .mv (.c (.b false))⟩])
  (.seq (.reg [⟨some 5, none, .bld [(.b false), (.b false), (.b false), (.b false), (.b false)] []⟩,
  ⟨some 6, none, .mv (.t 1)⟩,
  ⟨some 7, none, .call 69 [(.t 5), (.t 6)]⟩,
  ⟨some 4, none, .mv (.t 7)⟩])
  .ret))⟩
def ir13_69 : XF := ⟨57, 2, [(4, none)], (.seq (.reg [⟨some 2, none, .box 118 5 (.t 0)⟩,
  ⟨some 4, none, .mv (.c (.b false))⟩])
  (.seq (.reg [⟨some 5, none, .fa 0 (.t 2)⟩,
  ⟨some 6, none, .ld false 1 (.t 5)⟩,
  ⟨some 7, none, .mv (.t 6)⟩,
  ⟨some 8, some (7, false), .mv (.t 1)⟩,
  ⟨some 9, some (7, false), .nck (.t 8)⟩,
  ⟨some 10, some (7, false), .fa 1 (.t 9)⟩,
  ⟨some 11, some (7, false), .ld false 1 (.t 10)⟩,
  ⟨some 12, some (7, false), .bop .eql (.t 11) (.c (.i .i64 0))⟩,
  ⟨some 13, none, .pick (.t 7) (.c (.b true)) (.t 12)⟩,
  ⟨some 14, none, .mv (.t 13)⟩,
  ⟨some 15, some (14, true), .fa 1 (.t 2)⟩,
  ⟨some 16, some (14, true), .ld false 1 (.t 15)⟩,
  ⟨some 17, some (14, true), .mv (.t 16)⟩,
  ⟨some 18, some (17, false), .mv (.t 1)⟩,
  ⟨some 19, some (17, false), .nck (.t 18)⟩,
  ⟨some 20, some (17, false), .fa 2 (.t 19)⟩,
  ⟨some 21, some (17, false), .ld false 1 (.t 20)⟩,
  ⟨some 22, some (17, false), .bop .eql (.t 21) (.c (.i .i64 0))⟩,
  ⟨some 23, some (14, true), .pick (.t 17) (.c (.b true)) (.t 22)⟩,
  ⟨some 24, none, .pick (.t 14) (.t 23) (.c (.b false))⟩,
  ⟨some 25, none, .mv (.t 24)⟩,
  ⟨some 26, some (25, true), .fa 2 (.t 2)⟩,
  ⟨some 27, some (25, true), .ld false 1 (.t 26)⟩,
  ⟨some 28, some (25, true), .mv (.t 27)⟩,
  ⟨some 29, some (28, false), .mv (.t 1)⟩,
  ⟨some 30, some (28, false), .nck (.t 29)⟩,
  ⟨some 31, some (28, false), .fa 3 (.t 30)⟩,
  ⟨some 32, some (28, false), .call 28 [(.t 31)]⟩,
  ⟨some 33, some (25, true), .pick (.t 28) (.c (.b true)) (.t 32)⟩,
  ⟨some 34, none, .pick (.t 25) (.t 33) (.c (.b false))⟩,
  ⟨some 35, none, .mv (.t 34)⟩,
  ⟨some 36, some (35, true), .fa 3 (.t 2)⟩,
  ⟨some 37, some (35, true), .ld false 1 (.t 36)⟩,
  ⟨some 38, some (35, true), .mv (.t 37)⟩,
  ⟨some 39, some (38, false), .mv (.t 1)⟩,
  ⟨some 40, some (38, false), .nck (.t 39)⟩,
  ⟨some 41, some (38, false), .fa 8 (.t 40)⟩,
  ⟨some 42, some (38, false), .call 102 [(.t 41)]⟩,
  ⟨some 43, some (35, true), .pick (.t 38) (.c (.b true)) (.t 42)⟩,
  ⟨some 44, none, .pick (.t 35) (.t 43) (.c (.b false))⟩,
  ⟨some 45, none, .mv (.t 44)⟩,
  ⟨some 46, some (45, true), .fa 4 (.t 2)⟩,
  ⟨some 47, some (45, true), .ld false 1 (.t 46)⟩,
  ⟨some 48, some (45, true), .mv (.t 47)⟩,
  ⟨some 49, some (48, false), .mv (.t 1)⟩,
  ⟨some 50, some (48, false), .nck (.t 49)⟩,
  ⟨some 51, some (48, false), .fa 13 (.t 50)⟩,
  ⟨some 52, some (48, false), .ld false 1 (.t 51)⟩,
  ⟨some 53, some (48, false), .len 1 (.t 52)⟩,
  ⟨some 54, some (48, false), .bop .eql (.t 53) (.c (.i .i64 0))⟩,
  ⟨some 55, some (45, true), .pick (.t 48) (.c (.b true)) (.t 54)⟩,
  ⟨some 56, none, .pick (.t 45) (.t 55) (.c (.b false))⟩,
  ⟨some 4, none, .mv (.t 56)⟩])
  .ret))⟩
def ir13_71 : XF := ⟨18, 3, [(5, none)], (.seq (.reg [⟨some 5, none, .mv (.c (.b false))⟩])
  (.seq (.par [⟨some 6, none, .bld [(.b false), (.b false), (.b false), (.b false), (.b false)] [(0, 1, (.c (.b true)))]⟩,
  ⟨some 7, none, .mv (.t 1)⟩,
  ⟨some 8, none, .call 69 [(.t 6), (.t 7)]⟩,
  ⟨some 9, none, .mv (.t 8)⟩,
  ⟨some 10, some (9, true), .ld false 1 (.t 2)⟩,
  ⟨some 11, some (9, true), .mv (.t 0)⟩,
  ⟨some 12, some (9, true), .mv (.t 1)⟩,
  ⟨some 13, some (9, true), .nck (.t 12)⟩,
  ⟨some 14, some (9, true), .fa 1 (.t 13)⟩,
  ⟨some 15, some (9, true), .ld false 1 (.t 14)⟩,
  ⟨some 16, some (9, true), .callv (.t 10) [(.t 11), (.t 15)]⟩,
  ⟨some 17, none, .pick (.t 9) (.t 16) (.c (.b false))⟩,
  ⟨some 5, none, .mv (.t 17)⟩] [0, 0, 3, 7, 15, 15, 15, 79, 207, 463, 1023, 2047, 4095])
  .ret))⟩
def ir13_73 : XF := ⟨16, 2, [(4, none)], (.seq (.reg [⟨some 4, none, .mv (.c (.b false))⟩])
  (.seq (.reg [⟨some 5, none, .bld [(.b false), (.b false), (.b false), (.b false), (.b false)] [(2, 1, (.c (.b true)))]⟩,
  ⟨some 6, none, .mv (.t 1)⟩,
  ⟨some 7, none, .call 69 [(.t 5), (.t 6)]⟩,
  ⟨some 8, none, .mv (.t 7)⟩,
  ⟨some 9, some (8, true), .mv (.t 1)⟩,
  ⟨some 10, some (8, true), .nck (.t 9)⟩,
  ⟨some 11, some (8, true), .fa 3 (.t 10)⟩,
  ⟨some 12, some (8, true), .ld true 5 (.t 11)⟩,
  ⟨some 13, some (8, true), .call 46 [(.t 12)]⟩,
  ⟨some 14, some (8, true), .bop .eql (.t 13) (.c (.i .i64 0))⟩,
  ⟨some 15, none, .pick (.t 8) (.t 14) (.c (.b false))⟩,
  ⟨some 4, none, .mv (.t 15)⟩])
  .ret))⟩
def ir13_92 : XF := ⟨15, 1, [(2, none)], (.seq (.reg [⟨some 2, none, .mv (.c (.s []))⟩])
  (.seq (.seq (.reg [⟨some 3, none, .mv (.t 0)⟩,
  ⟨some 4, none, .bop .lss (.t 3) (.c (.i .i64 10))⟩])
  (.cond (.t 4) (.seq (.reg [⟨some 5, none, .mv (.t 0)⟩,
  ⟨some 6, none, .mv (.t 0)⟩,
  ⟨some 7, none, .bop .add (.t 6) (.c (.i .i64 1))⟩,
  ⟨some 8, none, .slcS (.c (.s [48, 49, 50, 51, 52, 53, 54, 55, 56, 57, 97, 98, 99, 100, 101, 102, 103, 104, 105, 106, 107, 108, 109, 110, 111, 112, 113, 114, 115, 116, 117, 118, 119, 120, 121, 122])) (some (.t 5)) (some (.t 7))⟩,
  ⟨some 2, none, .mv (.t 8)⟩])
  .ret)
  .skip))
  (.seq (.reg [⟨some 9, none, .mv (.t 0)⟩,
  ⟨some 10, none, .bop .mul (.t 9) (.c (.i .i64 2))⟩,
  ⟨some 11, none, .mv (.t 0)⟩,
  ⟨some 12, none, .bop .mul (.t 11) (.c (.i .i64 2))⟩,
  ⟨some 13, none, .bop .add (.t 12) (.c (.i .i64 2))⟩,
  ⟨some 14, none, .slcS (.c (.s [48, 48, 48, 49, 48, 50, 48, 51, 48, 52, 48, 53, 48, 54, 48, 55, 48, 56, 48, 57, 49, 48, 49, 49, 49, 50, 49, 51, 49, 52, 49, 53, 49, 54, 49, 55, 49, 56, 49, 57, 50, 48, 50, 49, 50, 50, 50, 51, 50, 52, 50, 53, 50, 54, 50, 55, 50, 56, 50, 57, 51, 48, 51, 49, 51, 50, 51, 51, 51, 52, 51, 53, 51, 54, 51, 55, 51, 56, 51, 57, 52, 48, 52, 49, 52, 50, 52, 51, 52, 52, 52, 53, 52, 54, 52, 55, 52, 56, 52, 57, 53, 48, 53, 49, 53, 50, 53, 51, 53, 52, 53, 53, 53, 54, 53, 55, 53, 56, 53, 57, 54, 48, 54, 49, 54, 50, 54, 51, 54, 52, 54, 53, 54, 54, 54, 55, 54, 56, 54, 57, 55, 48, 55, 49, 55, 50, 55, 51, 55, 52, 55, 53, 55, 54, 55, 55, 55, 56, 55, 57, 56, 48, 56, 49, 56, 50, 56, 51, 56, 52, 56, 53, 56, 54, 56, 55, 56, 56, 56, 57, 57, 48, 57, 49, 57, 50, 57, 51, 57, 52, 57, 53, 57, 54, 57, 55, 57, 56, 57, 57])) (some (.t 10)) (some (.t 13))⟩,
  ⟨some 2, none, .mv (.t 14)⟩])
  .ret)))⟩
def ir13_99 : XF := ⟨128, 1, [(2, none)], (.seq (.reg [⟨some 1, none, .box 71 1 (.t 0)⟩,
  ⟨some 2, none, .mv (.c .ifn)⟩])
  (.seq (.reg [⟨some 4, none, .mkf (.func 121) [] [(.t 1)]⟩,
  ⟨some 3, none, .mv (.t 4)⟩])
  (.seq (.blk 0 (.seq (.reg [⟨some 6, none, .ld false 1 (.t 1)⟩,
  ⟨some 7, none, .nck (.t 6)⟩,
  ⟨some 8, none, .fa 0 (.t 7)⟩,
  ⟨some 9, none, .ld false 1 (.t 8)⟩,
  ⟨some 10, none, .bop .eql (.t 9) (.c (.i .i8 0))⟩,
  ⟨some 11, none, .mv (.t 10)⟩,
  ⟨some 12, some (11, true), .mv (.t 3)⟩,
  ⟨some 13, some (11, true), .callv (.t 12) [(.c (.b true)), (.c (.b false)), (.c (.b false)), (.c (.b false))]⟩,
  ⟨some 14, none, .pick (.t 11) (.t 13) (.c (.b false))⟩,
  ⟨some 5, none, .mv (.t 14)⟩])
  (.cond (.t 5) (.seq (.reg [⟨some 15, none, .ld false 1 (.t 1)⟩,
  ⟨some 16, none, .nck (.t 15)⟩,
  ⟨some 17, none, .fa 1 (.t 16)⟩,
  ⟨some 18, none, .ld false 1 (.t 17)⟩,
  ⟨some 19, none, .bld [(.i .i64 0)] [(0, 1, (.t 18))]⟩,
  ⟨some 20, none, .mki 140 (.t 19)⟩,
  ⟨some 2, none, .mv (.t 20)⟩])
  .ret)
  (.seq (.reg [⟨some 22, none, .ld false 1 (.t 1)⟩,
  ⟨some 23, none, .nck (.t 22)⟩,
  ⟨some 24, none, .fa 0 (.t 23)⟩,
  ⟨some 25, none, .ld false 1 (.t 24)⟩,
  ⟨some 26, none, .bop .eql (.t 25) (.c (.i .i8 2))⟩,
  ⟨some 27, none, .mv (.t 26)⟩,
  ⟨some 28, some (27, false), .ld false 1 (.t 1)⟩,
  ⟨some 29, some (27, false), .nck (.t 28)⟩,
  ⟨some 30, some (27, false), .fa 0 (.t 29)⟩,
  ⟨some 31, some (27, false), .ld false 1 (.t 30)⟩,
  ⟨some 32, some (27, false), .bop .eql (.t 31) (.c (.i .i8 4))⟩,
  ⟨some 33, none, .pick (.t 27) (.c (.b true)) (.t 32)⟩,
  ⟨some 34, none, .mv (.t 33)⟩,
  ⟨some 35, some (34, true), .mv (.t 3)⟩,
  ⟨some 36, some (34, true), .callv (.t 35) [(.c (.b true)), (.c (.b false)), (.c (.b false)), (.c (.b false))]⟩,
  ⟨some 37, none, .pick (.t 34) (.t 36) (.c (.b false))⟩,
  ⟨some 21, none, .mv (.t 37)⟩])
  (.cond (.t 21) (.seq (.reg [⟨some 38, none, .ld false 1 (.t 1)⟩,
  ⟨some 39, none, .nck (.t 38)⟩,
  ⟨some 40, none, .fa 1 (.t 39)⟩,
  ⟨some 41, none, .ld false 1 (.t 40)⟩,
  ⟨some 42, none, .bld [(.i .i64 0)] [(0, 1, (.t 41))]⟩,
  ⟨some 43, none, .mki 141 (.t 42)⟩,
  ⟨some 2, none, .mv (.t 43)⟩])
  .ret)
  (.seq (.reg [⟨some 45, none, .ld false 1 (.t 1)⟩,
  ⟨some 46, none, .nck (.t 45)⟩,
  ⟨some 47, none, .fa 0 (.t 46)⟩,
  ⟨some 48, none, .ld false 1 (.t 47)⟩,
  ⟨some 49, none, .bop .eql (.t 48) (.c (.i .i8 1))⟩,
  ⟨some 50, none, .mv (.t 49)⟩,
  ⟨some 51, some (50, true), .mv (.t 3)⟩,
  ⟨some 52, some (50, true), .callv (.t 51) [(.c (.b false)), (.c (.b true)), (.c (.b false)), (.c (.b false))]⟩,
  ⟨some 53, none, .pick (.t 50) (.t 52) (.c (.b false))⟩,
  ⟨some 44, none, .mv (.t 53)⟩])
  (.cond (.t 44) (.seq (.reg [⟨some 54, none, .ld false 1 (.t 1)⟩,
  ⟨some 55, none, .nck (.t 54)⟩,
  ⟨some 56, none, .fa 2 (.t 55)⟩,
  ⟨some 57, none, .ld false 1 (.t 56)⟩,
  ⟨some 58, none, .bld [(.s [])] [(0, 1, (.t 57))]⟩,
  ⟨some 59, none, .mki 143 (.t 58)⟩,
  ⟨some 2, none, .mv (.t 59)⟩])
  .ret)
  (.seq (.reg [⟨some 61, none, .ld false 1 (.t 1)⟩,
  ⟨some 62, none, .nck (.t 61)⟩,
  ⟨some 63, none, .fa 0 (.t 62)⟩,
  ⟨some 64, none, .ld false 1 (.t 63)⟩,
  ⟨some 65, none, .bop .eql (.t 64) (.c (.i .i8 3))⟩,
  ⟨some 66, none, .mv (.t 65)⟩,
  ⟨some 67, some (66, true), .mv (.t 3)⟩,
  ⟨some 68, some (66, true), .callv (.t 67) [(.c (.b true)), (.c (.b true)), (.c (.b true)), (.c (.b false))]⟩,
  ⟨some 69, none, .pick (.t 66) (.t 68) (.c (.b false))⟩,
  ⟨some 60, none, .mv (.t 69)⟩])
  (.cond (.t 60) (.seq (.par [⟨some 70, none, .ld false 1 (.t 1)⟩,
  ⟨some 71, none, .nck (.t 70)⟩,
  ⟨some 72, none, .fa 2 (.t 71)⟩,
  ⟨some 73, none, .ld false 1 (.t 72)⟩,
  ⟨some 74, none, .ld false 1 (.t 1)⟩,
  ⟨some 75, none, .nck (.t 74)⟩,
  ⟨some 76, none, .fa 3 (.t 75)⟩,
  ⟨some 77, none, .ld false 1 (.t 76)⟩,
  ⟨some 78, none, .ld false 1 (.t 1)⟩,
  ⟨some 79, none, .nck (.t 78)⟩,
  ⟨some 80, none, .fa 1 (.t 79)⟩,
  ⟨some 81, none, .ld false 1 (.t 80)⟩,
  ⟨some 82, none, .bld [(.s []), (.s []), (.i .i64 0)] [(0, 1, (.t 73)), (1, 1, (.t 77)), (2, 1, (.t 81))]⟩,
  ⟨some 83, none, .mki 145 (.t 82)⟩,
  ⟨some 2, none, .mv (.t 83)⟩] [0, 1, 3, 7, 0, 16, 48, 112, 0, 256, 768, 1792, 4095, 8191, 16383])
  .ret)
  (.seq (.reg [⟨some 85, none, .ld false 1 (.t 1)⟩,
  ⟨some 86, none, .nck (.t 85)⟩,
  ⟨some 87, none, .fa 0 (.t 86)⟩,
  ⟨some 88, none, .ld false 1 (.t 87)⟩,
  ⟨some 89, none, .bop .eql (.t 88) (.c (.i .i8 5))⟩,
  ⟨some 90, none, .mv (.t 89)⟩,
  ⟨some 91, some (90, true), .mv (.t 3)⟩,
  ⟨some 92, some (90, true), .callv (.t 91) [(.c (.b false)), (.c (.b false)), (.c (.b false)), (.c (.b true))]⟩,
  ⟨some 93, none, .pick (.t 90) (.t 92) (.c (.b false))⟩,
  ⟨some 84, none, .mv (.t 93)⟩])
  (.cond (.t 84) (.seq (.reg [⟨some 94, none, .ld false 1 (.t 1)⟩,
  ⟨some 95, none, .nck (.t 94)⟩,
  ⟨some 96, none, .fa 4 (.t 95)⟩,
  ⟨some 97, none, .ld false 1 (.t 96)⟩,
  ⟨some 98, none, .bld [.sln, (.i .i64 0)] [(0, 1, (.t 97)), (1, 1, (.c (.i .i64 (-1))))]⟩,
  ⟨some 99, none, .mki 147 (.t 98)⟩,
  ⟨some 2, none, .mv (.t 99)⟩])
  .ret)
  (.seq (.reg [⟨some 101, none, .ld false 1 (.t 1)⟩,
  ⟨some 102, none, .nck (.t 101)⟩,
  ⟨some 103, none, .fa 0 (.t 102)⟩,
  ⟨some 104, none, .ld false 1 (.t 103)⟩,
  ⟨some 105, none, .bop .eql (.t 104) (.c (.i .i8 6))⟩,
  ⟨some 106, none, .mv (.t 105)⟩,
  ⟨some 107, some (106, true), .mv (.t 3)⟩,
  ⟨some 108, some (106, true), .callv (.t 107) [(.c (.b false)), (.c (.b false)), (.c (.b false)), (.c (.b false))]⟩,
  ⟨some 109, none, .pick (.t 106) (.t 108) (.c (.b false))⟩,
  ⟨some 100, none, .mv (.t 109)⟩])
  (.cond (.t 100) (.seq (.reg [⟨some 110, none, .bld [.sln, (.i .i64 0)] [(0, 1, (.c .sln)), (1, 1, (.c (.i .i64 0)))]⟩,
  ⟨some 111, none, .mki 147 (.t 110)⟩,
  ⟨some 2, none, .mv (.t 111)⟩])
  .ret)
  (.seq (.reg [⟨some 113, none, .ld false 1 (.t 1)⟩,
  ⟨some 114, none, .nck (.t 113)⟩,
  ⟨some 115, none, .fa 0 (.t 114)⟩,
  ⟨some 116, none, .ld false 1 (.t 115)⟩,
  ⟨some 117, none, .bop .eql (.t 116) (.c (.i .i8 7))⟩,
  ⟨some 118, none, .mv (.t 117)⟩,
  ⟨some 119, some (118, true), .mv (.t 3)⟩,
  ⟨some 120, some (118, true), .callv (.t 119) [(.c (.b false)), (.c (.b false)), (.c (.b false)), (.c (.b true))]⟩,
  ⟨some 121, none, .pick (.t 118) (.t 120) (.c (.b false))⟩,
  ⟨some 112, none, .mv (.t 121)⟩])
  (.cond (.t 112) (.seq (.reg [⟨some 122, none, .ld false 1 (.t 1)⟩,
  ⟨some 123, none, .nck (.t 122)⟩,
  ⟨some 124, none, .fa 4 (.t 123)⟩,
  ⟨some 125, none, .ld false 1 (.t 124)⟩,
  ⟨some 126, none, .bld [.sln, (.i .i64 0)] [(0, 1, (.t 125)), (1, 1, (.c (.i .i64 2)))]⟩,
  ⟨some 127, none, .mki 147 (.t 126)⟩,
  ⟨some 2, none, .mv (.t 127)⟩])
  .ret)
  .skip)))))))))))))))
  (.seq (.reg [⟨some 2, none, .mv (.c .ifn)⟩])
  .ret))))⟩
def ir13_100 : XF := ⟨9, 1, [(2, none)], (.seq (.reg [⟨some 2, none, .mv (.c (.b false))⟩])
  (.seq (.reg [⟨some 3, none, .mv (.t 0)⟩,
  ⟨some 4, none, .bop .geq (.t 3) (.c (.i .i64 (-576460752303423488)))⟩,
  ⟨some 5, none, .mv (.t 4)⟩,
  ⟨some 6, some (5, true), .mv (.t 0)⟩,
  ⟨some 7, some (5, true), .bop .leq (.t 6) (.c (.i .i64 576460752303423487))⟩,
  ⟨some 8, none, .pick (.t 5) (.t 7) (.c (.b false))⟩,
  ⟨some 2, none, .mv (.t 8)⟩])
  .ret))⟩
def ir13_101 : XF := ⟨21, 3, [(6, none)], (.seq (.reg [⟨some 6, none, .mv (.c .sln)⟩])
  (.seq (.reg [⟨some 8, none, .mv (.t 1)⟩,
  ⟨some 9, none, .cvi .u64 (.t 8)⟩,
  ⟨some 7, none, .mv (.t 9)⟩])
  (.seq (.seq (.reg [⟨some 10, none, .mv (.t 1)⟩,
  ⟨some 11, none, .bop .lss (.t 10) (.c (.i .i64 0))⟩])
  (.cond (.t 11) (.seq (.reg [⟨some 12, none, .mv (.t 0)⟩,
  ⟨some 13, none, .bls 5 1 1 [(.i .u8 0)] [(0, 1, (.c (.i .u8 45)))]⟩,
  ⟨some 14, none, .app 5 1 (.t 12) (.t 13)⟩,
  ⟨some 0, none, .mv (.t 14)⟩])
  (.reg [⟨some 15, none, .mv (.t 7)⟩,
  ⟨some 16, none, .un .neg (.t 15)⟩,
  ⟨some 7, none, .mv (.t 16)⟩]))
  .skip))
  (.seq (.reg [⟨some 17, none, .mv (.t 0)⟩,
  ⟨some 18, none, .mv (.t 7)⟩,
  ⟨some 19, none, .mv (.t 2)⟩,
  ⟨some 20, none, .call 122 [(.t 17), (.t 18), (.t 19)]⟩,
  ⟨some 6, none, .mv (.t 20)⟩])
  .ret))))⟩
def ir13_102 : XF := ⟨37, 1, [(2, none)], (.seq (.reg [⟨some 2, none, .mv (.c (.b false))⟩])
  (.seq (.reg [⟨some 3, none, .mv (.t 0)⟩,
  ⟨some 4, none, .nck (.t 3)⟩,
  ⟨some 5, none, .fa 0 (.t 4)⟩,
  ⟨some 6, none, .ld false 1 (.t 5)⟩,
  ⟨some 7, none, .bop .eql (.t 6) (.c (.i .i8 0))⟩,
  ⟨some 8, none, .mv (.t 7)⟩,
  ⟨some 9, some (8, true), .mv (.t 0)⟩,
  ⟨some 10, some (8, true), .nck (.t 9)⟩,
  ⟨some 11, some (8, true), .fa 1 (.t 10)⟩,
  ⟨some 12, some (8, true), .ld false 1 (.t 11)⟩,
  ⟨some 13, some (8, true), .bop .eql (.t 12) (.c (.i .i64 0))⟩,
  ⟨some 14, none, .pick (.t 8) (.t 13) (.c (.b false))⟩,
  ⟨some 15, none, .mv (.t 14)⟩,
  ⟨some 16, some (15, true), .mv (.t 0)⟩,
  ⟨some 17, some (15, true), .nck (.t 16)⟩,
  ⟨some 18, some (15, true), .fa 2 (.t 17)⟩,
  ⟨some 19, some (15, true), .ld false 1 (.t 18)⟩,
  ⟨some 20, some (15, true), .bop .eql (.t 19) (.c (.s []))⟩,
  ⟨some 21, none, .pick (.t 15) (.t 20) (.c (.b false))⟩,
  ⟨some 22, none, .mv (.t 21)⟩,
  ⟨some 23, some (22, true), .mv (.t 0)⟩,
  ⟨some 24, some (22, true), .nck (.t 23)⟩,
  ⟨some 25, some (22, true), .fa 3 (.t 24)⟩,
  ⟨some 26, some (22, true), .ld false 1 (.t 25)⟩,
  ⟨some 27, some (22, true), .bop .eql (.t 26) (.c (.s []))⟩,
  ⟨some 28, none, .pick (.t 22) (.t 27) (.c (.b false))⟩,
  ⟨some 29, none, .mv (.t 28)⟩,
  ⟨some 30, some (29, true), .mv (.t 0)⟩,
  ⟨some 31, some (29, true), .nck (.t 30)⟩,
  ⟨some 32, some (29, true), .fa 4 (.t 31)⟩,
  ⟨some 33, some (29, true), .ld false 1 (.t 32)⟩,
  ⟨some 34, some (29, true), .len 1 (.t 33)⟩,
  ⟨some 35, some (29, true), .bop .eql (.t 34) (.c (.i .i64 0))⟩,
  ⟨some 36, none, .pick (.t 29) (.t 35) (.c (.b false))⟩,
  ⟨some 2, none, .mv (.t 36)⟩])
  .ret))⟩
def ir13_121 : XF := ⟨49, 5, [(9, none)], (.seq (.reg [⟨some 9, none, .mv (.c (.b false))⟩])
  (.seq (.reg [⟨some 10, none, .mv (.t 0)⟩,
  ⟨some 11, none, .mv (.t 10)⟩,
  ⟨some 12, some (11, false), .ld false 1 (.t 4)⟩,
  ⟨some 13, some (11, false), .nck (.t 12)⟩,
  ⟨some 14, some (11, false), .fa 1 (.t 13)⟩,
  ⟨some 15, some (11, false), .ld false 1 (.t 14)⟩,
  ⟨some 16, some (11, false), .bop .eql (.t 15) (.c (.i .i64 0))⟩,
  ⟨some 17, none, .pick (.t 11) (.c (.b true)) (.t 16)⟩,
  ⟨some 18, none, .mv (.t 17)⟩,
  ⟨some 19, some (18, true), .mv (.t 1)⟩,
  ⟨some 20, some (18, true), .mv (.t 19)⟩,
  ⟨some 21, some (20, false), .ld false 1 (.t 4)⟩,
  ⟨some 22, some (20, false), .nck (.t 21)⟩,
  ⟨some 23, some (20, false), .fa 2 (.t 22)⟩,
  ⟨some 24, some (20, false), .ld false 1 (.t 23)⟩,
  ⟨some 25, some (20, false), .bop .eql (.t 24) (.c (.s []))⟩,
  ⟨some 26, some (18, true), .pick (.t 20) (.c (.b true)) (.t 25)⟩,
  ⟨some 27, none, .pick (.t 18) (.t 26) (.c (.b false))⟩,
  ⟨some 28, none, .mv (.t 27)⟩,
  ⟨some 29, some (28, true), .mv (.t 2)⟩,
  ⟨some 30, some (28, true), .mv (.t 29)⟩,
  ⟨some 31, some (30, false), .ld false 1 (.t 4)⟩,
  ⟨some 32, some (30, false), .nck (.t 31)⟩,
  ⟨some 33, some (30, false), .fa 3 (.t 32)⟩,
  ⟨some 34, some (30, false), .ld false 1 (.t 33)⟩,
  ⟨some 35, some (30, false), .bop .eql (.t 34) (.c (.s []))⟩,
  ⟨some 36, some (28, true), .pick (.t 30) (.c (.b true)) (.t 35)⟩,
  ⟨some 37, none, .pick (.t 28) (.t 36) (.c (.b false))⟩,
  ⟨some 38, none, .mv (.t 37)⟩,
  ⟨some 39, some (38, true), .mv (.t 3)⟩,
  ⟨some 40, some (38, true), .mv (.t 39)⟩,
  ⟨some 41, some (40, false), .ld false 1 (.t 4)⟩,
  ⟨some 42, some (40, false), .nck (.t 41)⟩,
  ⟨some 43, some (40, false), .fa 4 (.t 42)⟩,
  ⟨some 44, some (40, false), .ld false 1 (.t 43)⟩,
  ⟨some 45, some (40, false), .len 1 (.t 44)⟩,
  ⟨some 46, some (40, false), .bop .eql (.t 45) (.c (.i .i64 0))⟩,
  ⟨some 47, some (38, true), .pick (.t 40) (.c (.b true)) (.t 46)⟩,
  ⟨some 48, none, .pick (.t 38) (.t 47) (.c (.b false))⟩,
  ⟨some 9, none, .mv (.t 48)⟩])
  .ret))⟩
def ir13_122 : XF := ⟨36, 3, [(6, none)], (.seq (.reg [⟨some 6, none, .mv (.c .sln)⟩])
  (.seq (.seq (.reg [⟨some 9, none, .mv (.t 2)⟩,
  ⟨some 10, none, .bop .eql (.t 9) (.c (.i .i64 10))⟩])
  (.cond (.t 10) (.seq (.seq (.reg [⟨some 11, none, .mv (.t 1)⟩,
  ⟨some 12, none, .bop .lss (.t 11) (.c (.i .u64 100))⟩])
  (.cond (.t 12) (.seq (.reg [⟨some 13, none, .mv (.t 0)⟩,
  ⟨some 14, none, .mv (.t 1)⟩,
  ⟨some 15, none, .cvi .i64 (.t 14)⟩,
  ⟨some 16, none, .call 92 [(.t 15)]⟩,
  ⟨some 17, none, .app 5 1 (.t 13) (.t 16)⟩,
  ⟨some 6, none, .mv (.t 17)⟩])
  .ret)
  .skip))
  (.seq (.reg [⟨some 7, none, .box 125 24 (.c (.ag [(.i .u8 0), (.i .u8 0), (.i .u8 0), (.i .u8 0), (.i .u8 0), (.i .u8 0), (.i .u8 0), (.i .u8 0), (.i .u8 0), (.i .u8 0), (.i .u8 0), (.i .u8 0), (.i .u8 0), (.i .u8 0), (.i .u8 0), (.i .u8 0), (.i .u8 0), (.i .u8 0), (.i .u8 0), (.i .u8 0), (.i .u8 0), (.i .u8 0), (.i .u8 0), (.i .u8 0)]))⟩])
  (.seq (.reg [⟨some 18, none, .mv (.t 1)⟩,
  ⟨some 19, none, .call 93 [(.t 18)]⟩,
  ⟨some 8, none, .mv (.t 19)⟩])
  (.seq (.reg [⟨some 20, none, .mv (.t 8)⟩,
  ⟨some 21, none, .slcA 24 1 (.t 7) none (some (.t 20)) none⟩,
  ⟨some 22, none, .mv (.t 1)⟩,
  ⟨some 23, none, .call 94 [(.t 21), (.t 22)]⟩])
  (.seq (.reg [⟨some 24, none, .mv (.t 0)⟩,
  ⟨some 25, none, .mv (.t 8)⟩,
  ⟨some 26, none, .slcA 24 1 (.t 7) none (some (.t 25)) none⟩,
  ⟨some 27, none, .app 5 1 (.t 24) (.t 26)⟩,
  ⟨some 6, none, .mv (.t 27)⟩])
  .ret)))))
  .skip))
  (.seq (.reg [⟨some 29, none, .mv (.t 0)⟩,
  ⟨some 30, none, .mv (.t 1)⟩,
  ⟨some 31, none, .mv (.t 2)⟩,
  ⟨some 32, none, .call 95 [(.t 29), (.t 30), (.t 31), (.c (.b false)), (.c (.b true))]⟩,
  ⟨some 28, none, .mv (.t 32)⟩,
  ⟨some 33, none, .ex (.t 28) 0⟩,
  ⟨some 34, none, .ex (.t 28) 1⟩,
  ⟨some 0, none, .mv (.t 33)⟩])
  (.seq (.reg [⟨some 35, none, .mv (.t 0)⟩,
  ⟨some 6, none, .mv (.t 35)⟩])
  .ret))))⟩
def irTab13 : Trie XF := (.nd (.nd (.nd (.nd (.nd .lf none (.nd .lf (some ir13_47) .lf)) (some ir13_7) (.nd (.nd (.nd .lf (some ir13_71) .lf) (some ir13_39) .lf) (some ir13_23) .lf)) none (.nd (.nd (.nd (.nd .lf (some ir13_67) .lf) none (.nd .lf (some ir13_99) .lf)) (some ir13_19) (.nd .lf (some ir13_51) .lf)) (some ir13_11) (.nd .lf (some ir13_27) .lf))) none (.nd (.nd (.nd (.nd .lf (some ir13_33) .lf) none (.nd .lf (some ir13_49) .lf)) (some ir13_9) (.nd (.nd (.nd .lf (some ir13_73) .lf) none .lf) (some ir13_25) (.nd .lf none (.nd .lf (some ir13_121) .lf)))) none (.nd (.nd (.nd (.nd .lf (some ir13_69) .lf) none (.nd .lf (some ir13_101) .lf)) none (.nd .lf (some ir13_53) .lf)) none (.nd .lf none (.nd .lf (some ir13_61) .lf))))) none (.nd (.nd (.nd (.nd (.nd (.nd .lf (some ir13_64) .lf) (some ir13_32) .lf) (some ir13_16) .lf) none (.nd .lf (some ir13_24) .lf)) none (.nd (.nd (.nd (.nd .lf (some ir13_68) .lf) none (.nd .lf (some ir13_100) .lf)) none .lf) (some ir13_12) (.nd .lf (some ir13_28) (.nd (.nd .lf (some ir13_92) .lf) none .lf)))) none (.nd (.nd (.nd (.nd (.nd .lf (some ir13_66) .lf) (some ir13_34) .lf) none (.nd .lf (some ir13_50) .lf)) none (.nd .lf (some ir13_26) (.nd .lf none (.nd .lf (some ir13_122) .lf)))) none (.nd (.nd (.nd .lf none (.nd .lf (some ir13_102) .lf)) none .lf) none (.nd (.nd .lf (some ir13_46) .lf) none (.nd .lf (some ir13_62) .lf))))))
theorem irc13_7 : cFunc Tryz.prog Tryz.f7 = some ir13_7 := by kernel_rfl
theorem irc13_9 : cFunc Tryz.prog Tryz.f9 = some ir13_9 := by kernel_rfl
theorem irc13_11 : cFunc Tryz.prog Tryz.f11 = some ir13_11 := by kernel_rfl
theorem irc13_12 : cFunc Tryz.prog Tryz.f12 = some ir13_12 := by kernel_rfl
theorem irc13_16 : cFunc Tryz.prog Tryz.f16 = some ir13_16 := by kernel_rfl
theorem irc13_19 : cFunc Tryz.prog Tryz.f19 = some ir13_19 := by kernel_rfl
theorem irc13_23 : cFunc Tryz.prog Tryz.f23 = some ir13_23 := by kernel_rfl
theorem irc13_24 : cFunc Tryz.prog Tryz.f24 = some ir13_24 := by kernel_rfl
theorem irc13_25 : cFunc Tryz.prog Tryz.f25 = some ir13_25 := by kernel_rfl
theorem irc13_26 : cFunc Tryz.prog Tryz.f26 = some ir13_26 := by kernel_rfl
theorem irc13_27 : cFunc Tryz.prog Tryz.f27 = some ir13_27 := by kernel_rfl
theorem irc13_28 : cFunc Tryz.prog Tryz.f28 = some ir13_28 := by kernel_rfl
theorem irc13_32 : cFunc Tryz.prog Tryz.f32 = some ir13_32 := by kernel_rfl
theorem irc13_33 : cFunc Tryz.prog Tryz.f33 = some ir13_33 := by kernel_rfl
theorem irc13_34 : cFunc Tryz.prog Tryz.f34 = some ir13_34 := by kernel_rfl
theorem irc13_39 : cFunc Tryz.prog Tryz.f39 = some ir13_39 := by kernel_rfl
theorem irc13_46 : cFunc Tryz.prog Tryz.f46 = some ir13_46 := by kernel_rfl
theorem irc13_47 : cFunc Tryz.prog Tryz.f47 = some ir13_47 := by kernel_rfl
theorem irc13_49 : cFunc Tryz.prog Tryz.f49 = some ir13_49 := by kernel_rfl
theorem irc13_50 : cFunc Tryz.prog Tryz.f50 = some ir13_50 := by kernel_rfl
theorem irc13_51 : cFunc Tryz.prog Tryz.f51 = some ir13_51 := by kernel_rfl
theorem irc13_53 : cFunc Tryz.prog Tryz.f53 = some ir13_53 := by kernel_rfl
theorem irc13_61 : cFunc Tryz.prog Tryz.f61 = some ir13_61 := by kernel_rfl
theorem irc13_62 : cFunc Tryz.prog Tryz.f62 = some ir13_62 := by kernel_rfl
theorem irc13_64 : cFunc Tryz.prog Tryz.f64 = some ir13_64 := by kernel_rfl
theorem irc13_66 : cFunc Tryz.prog Tryz.f66 = some ir13_66 := by kernel_rfl
theorem irc13_67 : cFunc Tryz.prog Tryz.f67 = some ir13_67 := by kernel_rfl
theorem irc13_68 : cFunc Tryz.prog Tryz.f68 = some ir13_68 := by kernel_rfl
theorem irc13_69 : cFunc Tryz.prog Tryz.f69 = some ir13_69 := by kernel_rfl
theorem irc13_71 : cFunc Tryz.prog Tryz.f71 = some ir13_71 := by kernel_rfl
theorem irc13_73 : cFunc Tryz.prog Tryz.f73 = some ir13_73 := by kernel_rfl
theorem irc13_92 : cFunc Tryz.prog Tryz.f92 = some ir13_92 := by kernel_rfl
theorem irc13_99 : cFunc Tryz.prog Tryz.f99 = some ir13_99 := by kernel_rfl
theorem irc13_100 : cFunc Tryz.prog Tryz.f100 = some ir13_100 := by kernel_rfl
theorem irc13_101 : cFunc Tryz.prog Tryz.f101 = some ir13_101 := by kernel_rfl
theorem irc13_102 : cFunc Tryz.prog Tryz.f102 = some ir13_102 := by kernel_rfl
theorem irc13_121 : cFunc Tryz.prog Tryz.f121 = some ir13_121 := by kernel_rfl
theorem irc13_122 : cFunc Tryz.prog Tryz.f122 = some ir13_122 := by kernel_rfl
def irList13 : List (Nat × XF) := [(7, ir13_7), (9, ir13_9), (11, ir13_11), (12, ir13_12), (16, ir13_16), (19, ir13_19), (23, ir13_23), (24, ir13_24), (25, ir13_25), (26, ir13_26), (27, ir13_27), (28, ir13_28), (32, ir13_32), (33, ir13_33), (34, ir13_34), (39, ir13_39), (46, ir13_46), (47, ir13_47), (49, ir13_49), (50, ir13_50), (51, ir13_51), (53, ir13_53), (61, ir13_61), (62, ir13_62), (64, ir13_64), (66, ir13_66), (67, ir13_67), (68, ir13_68), (69, ir13_69), (71, ir13_71), (73, ir13_73), (92, ir13_92), (99, ir13_99), (100, ir13_100), (101, ir13_101), (102, ir13_102), (121, ir13_121), (122, ir13_122)]
theorem irTab_eq13 : irTab13 = ofList irList13 := by kernel_rfl
theorem irSmall13 : smallAll irList13 = true := by kernel_rfl
theorem irTab_ok13 : TabOk Tryz.prog irTab13 := tab_of irTab_eq13 irSmall13 fun p hp => by
  simp only [irList13, List.mem_cons, List.not_mem_nil, or_false] at hp
  rcases hp with rfl | rfl | rfl | rfl | rfl | rfl | rfl | rfl | rfl | rfl | rfl | rfl | rfl | rfl | rfl | rfl | rfl | rfl | rfl | rfl | rfl | rfl | rfl | rfl | rfl | rfl | rfl | rfl | rfl | rfl | rfl | rfl | rfl | rfl | rfl | rfl | rfl | rfl
  · exact ⟨_, Tryz.func7, irc13_7⟩
  · exact ⟨_, Tryz.func9, irc13_9⟩
  · exact ⟨_, Tryz.func11, irc13_11⟩
  · exact ⟨_, Tryz.func12, irc13_12⟩
  · exact ⟨_, Tryz.func16, irc13_16⟩
  · exact ⟨_, Tryz.func19, irc13_19⟩
  · exact ⟨_, Tryz.func23, irc13_23⟩
  · exact ⟨_, Tryz.func24, irc13_24⟩
  · exact ⟨_, Tryz.func25, irc13_25⟩
  · exact ⟨_, Tryz.func26, irc13_26⟩
  · exact ⟨_, Tryz.func27, irc13_27⟩
  · exact ⟨_, Tryz.func28, irc13_28⟩
  · exact ⟨_, Tryz.func32, irc13_32⟩
  · exact ⟨_, Tryz.func33, irc13_33⟩
  · exact ⟨_, Tryz.func34, irc13_34⟩
  · exact ⟨_, Tryz.func39, irc13_39⟩
  · exact ⟨_, Tryz.func46, irc13_46⟩
  · exact ⟨_, Tryz.func47, irc13_47⟩
  · exact ⟨_, Tryz.func49, irc13_49⟩
  · exact ⟨_, Tryz.func50, irc13_50⟩
  · exact ⟨_, Tryz.func51, irc13_51⟩
  · exact ⟨_, Tryz.func53, irc13_53⟩
  · exact ⟨_, Tryz.func61, irc13_61⟩
  · exact ⟨_, Tryz.func62, irc13_62⟩
  · exact ⟨_, Tryz.func64, irc13_64⟩
  · exact ⟨_, Tryz.func66, irc13_66⟩
  · exact ⟨_, Tryz.func67, irc13_67⟩
  · exact ⟨_, Tryz.func68, irc13_68⟩
  · exact ⟨_, Tryz.func69, irc13_69⟩
  · exact ⟨_, Tryz.func71, irc13_71⟩
  · exact ⟨_, Tryz.func73, irc13_73⟩
  · exact ⟨_, Tryz.func92, irc13_92⟩
  · exact ⟨_, Tryz.func99, irc13_99⟩
  · exact ⟨_, Tryz.func100, irc13_100⟩
  · exact ⟨_, Tryz.func101, irc13_101⟩
  · exact ⟨_, Tryz.func102, irc13_102⟩
  · exact ⟨_, Tryz.func121, irc13_121⟩
  · exact ⟨_, Tryz.func122, irc13_122⟩
theorem follows_mix13 : Tryz.prog.follows .mixedOrders = true := by kernel_rfl
theorem size_g13 : Tryz.prog.globals.size = 6 := by kernel_rfl
def letterVals13 : List Value := [.int .u8 97, .int .u8 122, .int .u8 65, .int .u8 90, .int .u8 48, .int .u8 57, .int .u8 95, .int .u8 95]
def told13 : List (Nat × List TV) := [(0, [.i .u8 97, .i .u8 122, .i .u8 65, .i .u8 90, .i .u8 48, .i .u8 57, .i .u8 95, .i .u8 95])]
def wkT13 : List (Nat × String × Nat) := []
def wkM13 (lay : Nat → List Kd) : Meth := ⟨tabM wkT13, fun _ _ => none, lay⟩
theorem wkM_ok13 {ρ : Cx} (hp : ρ.prog = Tryz.prog) : MethOk Tryz.prog ρ (wkM13 ρ.lay) := ⟨tabM_ok (l := wkT13) fun x hx =>  (by cases hx), fun _ _ _ h => (by cases h), rfl, hp⟩
def wkO13 : List (Nat × (List TV → SH → Option (TV × SH))) := [(45, bccOrc [65]), (29, bstOrc 5 [65])]
theorem irRun13 (lay : Nat → List Kd) (tys : Nat → Nat) : okv (run (wkM13 lay) irTab13 (listOrc wkO13) 100000 200 (.fn 9) [] (startL 6 told13 tys)) = true := by kernel_rfl
/-- The law's wakes, at any memory in which the variables that it reads are laid. -/
theorem wakes13 {ρ : Cx} (hp : ρ.prog = Tryz.prog) (hρ : ∀ j, scalV (ρ j)) (hl : (0, letterVals13) ∈ ρ.tl) : PureC Tryz.prog ρ 9 [] (.b true) := by
  have run : ∀ (w : World) (M : Mem), MemOk M w → ToldM ρ.tl M → Calls Tryz.prog 9 #[] w fun e w' => e = .returned (.bool true) ∧ Below w.heap.size w w' := fun w M hM hT => by
    refine (shut_of hρ (wkM_ok13 hp) follows_mix13 irTab_ok13 (orc := listOrc wkO13) (fun B => listOrc_ok fun p hp => ?_) (L := told13) (by rw [size_g13]; decide) (fun p hp => ?_) (fun p hp => ?_) (fun tys => by rw [size_g13]; exact irRun13 _ tys) hM hT).2
    · simp only [wkO13, List.mem_cons, List.not_mem_nil, or_false] at hp
      rcases hp with rfl | rfl
      · exact bcc_ok (by intro T hT; simp only [List.mem_cons, List.not_mem_nil, or_false] at hT; rcases hT with rfl <;> kernel_rfl)
      · exact bst_ok
    · simp only [told13, List.mem_cons, List.not_mem_nil, or_false] at hp
      rw [size_g13]
      rcases hp with rfl <;> decide
    · simp only [told13, List.mem_cons, List.not_mem_nil, or_false] at hp
      rcases hp with rfl
      · exact ⟨_, hl, by simp [letterVals13, VRs, VR, VR.VRs]⟩
  refine ⟨fun vs w => enter_of' Tryz.func9 (by kernel_rfl) (by kernel_rfl) vs w, fun w M vs hM hT hv => ?_⟩
  have hvs : vs = #[] := Array.toList_inj.1 hv
  subst hvs
  refine (run w M hM hT).mono ?_
  rintro e w' ⟨rfl, hb⟩
  exact ⟨_, M, rfl, fun _ _ q => q, fun _ _ q => .inl q, memOk_below hM hb, rfl, hb⟩
end Go.Proofs.YtpjocalboapglaaGreatDoor.Sx
