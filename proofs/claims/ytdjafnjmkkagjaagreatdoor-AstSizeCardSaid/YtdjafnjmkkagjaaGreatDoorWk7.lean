/-
  A law's wakes, run by the closed runner. Conditions: the variables that it reads are laid. The code below is printed by Gen.
-/
import Derived.Test.YtdjafnjmkkagjaaGreatDoorBu1
namespace Go.Proofs.YtdjafnjmkkagjaaGreatDoor.Sx
open Go.RowKit
set_option maxRecDepth 100000
def ir7_27 : XF := ⟨32, 0, [(0, none)], (.seq (.reg [⟨some 0, none, .mv (.c (.b false))⟩])
  (.seq (.reg [⟨some 3, none, .call 59 [(.c (.s [88]))]⟩,
  ⟨some 4, none, .bld [(.i .i8 0), (.i .i64 0), (.s []), (.s []), .sln] [(0, 1, (.c (.i .i8 6))), (1, 1, (.c (.i .i64 1)))]⟩,
  ⟨some 5, none, .bls 57 5 2 [(.i .i8 0), (.i .i64 0), (.s []), (.s []), .sln, (.i .i8 0), (.i .i64 0), (.s []), (.s []), .sln] [(0, 5, (.t 3)), (5, 5, (.t 4))]⟩,
  ⟨some 6, none, .bld [(.i .i8 0), (.i .i64 0), (.s []), (.s []), .sln] [(0, 1, (.c (.i .i8 11))), (2, 1, (.c (.s [62]))), (4, 1, (.t 5))]⟩,
  ⟨some 7, none, .bls 57 5 1 [(.i .i8 0), (.i .i64 0), (.s []), (.s []), .sln] [(0, 5, (.t 6))]⟩,
  ⟨some 8, none, .bld [(.i .i8 0), (.i .i64 0), (.s []), (.s []), .sln] [(0, 1, (.c (.i .i8 4))), (4, 1, (.t 7))]⟩,
  ⟨some 1, none, .box 57 5 (.c (.ag [(.i .i8 0), (.i .i64 0), (.s []), (.s []), .sln]))⟩,
  ⟨none, none, .st 5 (.t 1) (.t 8)⟩])
  (.seq (.par [⟨some 9, none, .call 59 [(.c (.s [88]))]⟩,
  ⟨some 10, none, .ld true 5 (.t 1)⟩,
  ⟨some 11, none, .call 59 [(.c (.s [88]))]⟩,
  ⟨some 12, none, .call 60 [(.t 9), (.t 10), (.t 11)]⟩,
  ⟨some 2, none, .box 57 5 (.c (.ag [(.i .i8 0), (.i .i64 0), (.s []), (.s []), .sln]))⟩,
  ⟨none, none, .st 5 (.t 2) (.t 12)⟩] [0, 0, 1, 7, 0, 31])
  (.seq (.reg [⟨some 13, none, .ld true 5 (.t 2)⟩,
  ⟨some 14, none, .call 35 [(.t 13)]⟩,
  ⟨some 15, none, .bop .eql (.t 14) (.c (.i .i64 0))⟩,
  ⟨some 16, none, .mv (.t 15)⟩,
  ⟨some 17, some (16, true), .ld true 5 (.t 2)⟩,
  ⟨some 18, some (16, true), .call 37 [(.t 17)]⟩,
  ⟨some 19, some (16, true), .bop .eql (.t 18) (.c (.s [109, 111, 100, 117, 108, 101, 32, 97, 46, 10, 102, 40, 88, 41, 32, 119, 104, 101, 110, 32, 40, 88, 32, 62, 32, 49, 41, 32, 45, 62, 32, 88, 46, 10]))⟩,
  ⟨some 20, none, .pick (.t 16) (.t 19) (.c (.b false))⟩,
  ⟨some 21, none, .mv (.t 20)⟩,
  ⟨some 22, some (21, true), .ld true 5 (.t 2)⟩,
  ⟨some 23, some (21, true), .call 29 [(.t 22)]⟩,
  ⟨some 24, some (21, true), .len 1 (.t 23)⟩,
  ⟨some 25, some (21, true), .bop .eql (.t 24) (.c (.i .i64 1))⟩,
  ⟨some 26, none, .pick (.t 21) (.t 25) (.c (.b false))⟩,
  ⟨some 27, none, .mv (.t 26)⟩,
  ⟨some 28, some (27, true), .bld [(.i .i8 0), (.i .i64 0), (.s []), (.s []), .sln] [(0, 1, (.c (.i .i8 8)))]⟩,
  ⟨some 29, some (27, true), .call 35 [(.t 28)]⟩,
  ⟨some 30, some (27, true), .bop .eql (.t 29) (.c (.i .i64 70))⟩,
  ⟨some 31, none, .pick (.t 27) (.t 30) (.c (.b false))⟩,
  ⟨some 0, none, .mv (.t 31)⟩])
  .ret))))⟩
def ir7_29 : XF := ⟨39, 1, [(2, none)], (.seq (.reg [⟨some 1, none, .box 57 5 (.t 0)⟩,
  ⟨some 2, none, .mv (.c .sln)⟩])
  (.seq (.seq (.reg [⟨some 5, none, .call 61 [(.t 1)]⟩,
  ⟨some 6, none, .call 62 [(.t 5)]⟩,
  ⟨some 7, none, .un .not (.t 6)⟩])
  (.cond (.t 7) (.seq (.reg [⟨some 2, none, .mv (.c .sln)⟩])
  .ret)
  .skip))
  (.seq (.reg [⟨some 3, none, .box 61 1 (.c .sln)⟩])
  (.seq (.seq (.reg [⟨some 8, none, .call 63 [(.t 1)]⟩])
  (.blk 0 (.rng 39 (.t 8) [9] (.reg [⟨some 4, none, .mv (.t 9)⟩]) (.blk 1 (.seq (.par [⟨some 10, none, .mv (.t 4)⟩,
  ⟨some 11, none, .nck (.t 10)⟩,
  ⟨some 12, none, .fa 0 (.t 11)⟩,
  ⟨some 13, none, .ld false 1 (.t 12)⟩,
  ⟨some 14, none, .bop .eql (.t 13) (.c (.i .i8 5))⟩,
  ⟨some 15, none, .mv (.t 14)⟩,
  ⟨some 16, some (15, true), .mv (.t 4)⟩,
  ⟨some 17, some (15, true), .nck (.t 16)⟩,
  ⟨some 18, some (15, true), .fa 2 (.t 17)⟩,
  ⟨some 19, some (15, true), .ld false 1 (.t 18)⟩,
  ⟨some 20, some (15, true), .bop .neq (.t 19) (.c (.s [95]))⟩,
  ⟨some 21, none, .pick (.t 15) (.t 20) (.c (.b false))⟩,
  ⟨some 22, none, .mv (.t 21)⟩,
  ⟨some 23, some (22, true), .ld false 1 (.t 3)⟩,
  ⟨some 24, some (22, true), .mv (.t 4)⟩,
  ⟨some 25, some (22, true), .nck (.t 24)⟩,
  ⟨some 26, some (22, true), .fa 2 (.t 25)⟩,
  ⟨some 27, some (22, true), .ld false 1 (.t 26)⟩,
  ⟨some 28, some (22, true), .call 64 [(.t 23), (.t 27)]⟩,
  ⟨some 29, some (22, true), .un .not (.t 28)⟩,
  ⟨some 30, none, .pick (.t 22) (.t 29) (.c (.b false))⟩] [0, 1, 3, 7, 15, 31, 63, 127, 255, 511, 1023, 2047, 4095, 8191, 8191, 24575, 57343, 122879, 262143, 524287, 1048575])
  (.cond (.t 30) (.par [⟨some 31, none, .ld false 1 (.t 3)⟩,
  ⟨some 32, none, .mv (.t 4)⟩,
  ⟨some 33, none, .nck (.t 32)⟩,
  ⟨some 34, none, .fa 2 (.t 33)⟩,
  ⟨some 35, none, .ld false 1 (.t 34)⟩,
  ⟨some 36, none, .bls 9 1 1 [(.s [])] [(0, 1, (.t 35))]⟩,
  ⟨some 37, none, .app 9 1 (.t 31) (.t 36)⟩,
  ⟨none, none, .st 1 (.t 3) (.t 37)⟩] [0, 0, 2, 6, 14, 30, 63, 127])
  .skip))))))
  (.seq (.reg [⟨some 38, none, .ld false 1 (.t 3)⟩,
  ⟨some 2, none, .mv (.t 38)⟩])
  .ret)))))⟩
def ir7_35 : XF := ⟨26, 1, [(2, none)], (.seq (.reg [⟨some 1, none, .box 57 5 (.t 0)⟩,
  ⟨some 2, none, .mv (.c (.i .i64 0))⟩])
  (.seq (.reg [⟨some 3, none, .box 108 1 (.c .fn)⟩,
  ⟨none, none, .st 1 (.t 3) (.c (.f (.func 70) [] []))⟩])
  (.seq (.reg [⟨some 5, none, .mkf (.func 75) [] [(.t 3)]⟩,
  ⟨some 4, none, .mv (.t 5)⟩])
  (.seq (.seq (.reg [⟨some 6, none, .call 61 [(.t 1)]⟩,
  ⟨some 7, none, .call 62 [(.t 6)]⟩,
  ⟨some 8, none, .un .not (.t 7)⟩,
  ⟨some 9, none, .mv (.t 8)⟩,
  ⟨some 10, some (9, false), .fa 0 (.t 1)⟩,
  ⟨some 11, some (9, false), .ld false 1 (.t 10)⟩,
  ⟨some 12, some (9, false), .bop .neq (.t 11) (.c (.i .i8 0))⟩,
  ⟨some 13, none, .pick (.t 9) (.c (.b true)) (.t 12)⟩,
  ⟨some 14, none, .mv (.t 13)⟩,
  ⟨some 15, some (14, false), .bld [(.b false), (.b false), (.b false), (.b false)] [(3, 1, (.c (.b true)))]⟩,
  ⟨some 16, some (14, false), .call 71 [(.t 15), (.t 1)]⟩,
  ⟨some 17, some (14, false), .un .not (.t 16)⟩,
  ⟨some 18, none, .pick (.t 14) (.c (.b true)) (.t 17)⟩,
  ⟨some 19, none, .mv (.t 18)⟩,
  ⟨some 20, some (19, false), .fa 4 (.t 1)⟩,
  ⟨some 21, some (19, false), .ld false 1 (.t 20)⟩,
  ⟨some 22, some (19, false), .mv (.t 4)⟩,
  ⟨some 23, some (19, false), .call 73 [(.t 21), (.t 22)]⟩,
  ⟨some 24, some (19, false), .un .not (.t 23)⟩,
  ⟨some 25, none, .pick (.t 19) (.c (.b true)) (.t 24)⟩])
  (.cond (.t 25) (.seq (.reg [⟨some 2, none, .mv (.c (.i .i64 70))⟩])
  .ret)
  .skip))
  (.seq (.reg [⟨some 2, none, .mv (.c (.i .i64 0))⟩])
  .ret)))))⟩
def ir7_37 : XF := ⟨43, 1, [(2, none)], (.seq (.reg [⟨some 1, none, .box 57 5 (.t 0)⟩,
  ⟨some 2, none, .mv (.c (.s []))⟩])
  (.seq (.seq (.reg [⟨some 8, none, .ld true 5 (.t 1)⟩,
  ⟨some 9, none, .call 35 [(.t 8)]⟩,
  ⟨some 10, none, .bop .neq (.t 9) (.c (.i .i64 0))⟩])
  (.cond (.t 10) (.seq (.reg [⟨some 2, none, .mv (.c (.s []))⟩])
  .ret)
  .skip))
  (.seq (.reg [⟨some 3, none, .boxB 120 2 (.c (.ag [.pn, .sln]))⟩])
  (.seq (.seq (.reg [⟨some 11, none, .fa 4 (.t 1)⟩,
  ⟨some 12, none, .ld false 1 (.t 11)⟩,
  ⟨some 13, none, .len 1 (.t 12)⟩,
  ⟨some 14, none, .mv (.c (.i .i64 0))⟩])
  (.blk 0 (.loop (.seq (.reg [⟨some 15, none, .bop .lss (.t 14) (.t 13)⟩])
  (.seq (.cond (.t 15) .skip
  (.exit 0))
  (.seq (.blk 1 (.seq (.reg [⟨some 16, none, .ia 5 (.t 12) (.t 14)⟩,
  ⟨some 17, none, .ld true 5 (.t 16)⟩,
  ⟨some 5, none, .box 57 5 (.c (.ag [(.i .i8 0), (.i .i64 0), (.s []), (.s []), .sln]))⟩,
  ⟨none, none, .st 5 (.t 5) (.t 17)⟩])
  (.seq (.reg [⟨some 18, none, .mki 9 (.c (.s [109, 111, 100, 117, 108, 101, 32]))⟩,
  ⟨some 19, none, .fa 2 (.t 5)⟩,
  ⟨some 20, none, .ld false 1 (.t 19)⟩,
  ⟨some 21, none, .mki 9 (.t 20)⟩,
  ⟨some 22, none, .mki 9 (.c (.s [46, 10]))⟩,
  ⟨some 23, none, .bls 20 1 3 [.ifn, .ifn, .ifn] [(0, 1, (.t 18)), (1, 1, (.t 21)), (2, 1, (.t 22))]⟩,
  ⟨some 24, none, .call 76 [(.t 3), (.t 23)]⟩])
  (.seq (.reg [⟨some 25, none, .fa 4 (.t 5)⟩,
  ⟨some 26, none, .ld false 1 (.t 25)⟩,
  ⟨some 27, none, .len 1 (.t 26)⟩,
  ⟨some 28, none, .mv (.c (.i .i64 0))⟩])
  (.blk 2 (.loop (.seq (.reg [⟨some 29, none, .bop .lss (.t 28) (.t 27)⟩])
  (.seq (.cond (.t 29) .skip
  (.exit 2))
  (.seq (.blk 3 (.seq (.reg [⟨some 30, none, .ia 5 (.t 26) (.t 28)⟩,
  ⟨some 31, none, .ld true 5 (.t 30)⟩,
  ⟨some 7, none, .box 57 5 (.c (.ag [(.i .i8 0), (.i .i64 0), (.s []), (.s []), .sln]))⟩,
  ⟨none, none, .st 5 (.t 7) (.t 31)⟩])
  (.seq (.reg [⟨some 32, none, .fa 4 (.t 7)⟩,
  ⟨some 33, none, .ld false 1 (.t 32)⟩,
  ⟨some 34, none, .mkf (.func 78) [] [(.t 3), (.t 7)]⟩,
  ⟨some 35, none, .call 77 [(.t 3), (.t 33), (.c (.s [59, 10])), (.t 34)]⟩])
  (.reg [⟨some 36, none, .mki 9 (.c (.s [46, 10]))⟩,
  ⟨some 37, none, .bls 20 1 1 [.ifn] [(0, 1, (.t 36))]⟩,
  ⟨some 38, none, .call 76 [(.t 3), (.t 37)]⟩]))))
  (.reg [⟨some 39, none, .bop .add (.t 28) (.c (.i .i64 1))⟩,
  ⟨some 28, none, .mv (.t 39)⟩]))))))))))
  (.reg [⟨some 40, none, .bop .add (.t 14) (.c (.i .i64 1))⟩,
  ⟨some 14, none, .mv (.t 40)⟩])))))))
  (.seq (.reg [⟨some 41, none, .fa 0 (.t 3)⟩,
  ⟨some 42, none, .call 81 [(.t 41)]⟩,
  ⟨some 2, none, .mv (.t 42)⟩])
  .ret)))))⟩
def ir7_59 : XF := ⟨5, 1, [(2, some (true, 5))], (.seq (.reg [⟨some 2, none, .box 57 5 (.c (.ag [(.i .i8 0), (.i .i64 0), (.s []), (.s []), .sln]))⟩])
  (.seq (.reg [⟨some 3, none, .mv (.t 0)⟩,
  ⟨some 4, none, .bld [(.i .i8 0), (.i .i64 0), (.s []), (.s []), .sln] [(0, 1, (.c (.i .i8 5))), (2, 1, (.t 3))]⟩,
  ⟨none, none, .st 5 (.t 2) (.t 4)⟩])
  .ret))⟩
def ir7_60 : XF := ⟨20, 3, [(6, some (true, 5))], (.seq (.reg [⟨some 3, none, .box 57 5 (.t 0)⟩,
  ⟨some 4, none, .box 57 5 (.t 1)⟩,
  ⟨some 5, none, .box 57 5 (.t 2)⟩,
  ⟨some 6, none, .box 57 5 (.c (.ag [(.i .i8 0), (.i .i64 0), (.s []), (.s []), .sln]))⟩])
  (.seq (.reg [⟨some 8, none, .ld true 5 (.t 3)⟩,
  ⟨some 9, none, .ld true 5 (.t 4)⟩,
  ⟨some 10, none, .ld true 5 (.t 5)⟩,
  ⟨some 11, none, .bls 57 5 3 [(.i .i8 0), (.i .i64 0), (.s []), (.s []), .sln, (.i .i8 0), (.i .i64 0), (.s []), (.s []), .sln, (.i .i8 0), (.i .i64 0), (.s []), (.s []), .sln] [(0, 5, (.t 8)), (5, 5, (.t 9)), (10, 5, (.t 10))]⟩,
  ⟨some 12, none, .bld [(.i .i8 0), (.i .i64 0), (.s []), (.s []), .sln] [(0, 1, (.c (.i .i8 3))), (1, 1, (.c (.i .i64 1))), (4, 1, (.t 11))]⟩,
  ⟨some 7, none, .box 57 5 (.c (.ag [(.i .i8 0), (.i .i64 0), (.s []), (.s []), .sln]))⟩,
  ⟨none, none, .st 5 (.t 7) (.t 12)⟩])
  (.seq (.reg [⟨some 13, none, .ld true 5 (.t 7)⟩,
  ⟨some 14, none, .bls 57 5 1 [(.i .i8 0), (.i .i64 0), (.s []), (.s []), .sln] [(0, 5, (.t 13))]⟩,
  ⟨some 15, none, .bld [(.i .i8 0), (.i .i64 0), (.s []), (.s []), .sln] [(0, 1, (.c (.i .i8 2))), (2, 1, (.c (.s [102]))), (1, 1, (.c (.i .i64 1))), (4, 1, (.t 14))]⟩,
  ⟨some 16, none, .bls 57 5 1 [(.i .i8 0), (.i .i64 0), (.s []), (.s []), .sln] [(0, 5, (.t 15))]⟩,
  ⟨some 17, none, .bld [(.i .i8 0), (.i .i64 0), (.s []), (.s []), .sln] [(0, 1, (.c (.i .i8 1))), (2, 1, (.c (.s [97]))), (4, 1, (.t 16))]⟩,
  ⟨some 18, none, .bls 57 5 1 [(.i .i8 0), (.i .i64 0), (.s []), (.s []), .sln] [(0, 5, (.t 17))]⟩,
  ⟨some 19, none, .bld [(.i .i8 0), (.i .i64 0), (.s []), (.s []), .sln] [(0, 1, (.c (.i .i8 0))), (4, 1, (.t 18))]⟩,
  ⟨none, none, .st 5 (.t 6) (.t 19)⟩])
  .ret)))⟩
def ir7_61 : XF := ⟨17, 1, [(2, some (true, 2))], (.seq (.reg [⟨some 2, none, .box 101 2 (.c (.ag [(.i .i64 0), (.i .i64 0)]))⟩])
  (.seq (.reg [⟨some 6, none, .bld [(.i .i64 0), (.i .i64 0)] []⟩,
  ⟨some 3, none, .box 101 2 (.c (.ag [(.i .i64 0), (.i .i64 0)]))⟩,
  ⟨none, none, .st 2 (.t 3) (.t 6)⟩])
  (.seq (.reg [⟨some 4, none, .box 124 1 (.c .fn)⟩])
  (.seq (.reg [⟨some 7, none, .mkf (.func 119) [] [(.t 3), (.t 4)]⟩,
  ⟨none, none, .st 1 (.t 4) (.t 7)⟩])
  (.seq (.reg [⟨some 8, none, .ld false 1 (.t 4)⟩,
  ⟨some 9, none, .mv (.t 0)⟩,
  ⟨some 10, none, .callv (.t 8) [(.t 9)]⟩])
  (.seq (.reg [⟨some 5, none, .box 157 1 (.c .fn)⟩])
  (.seq (.reg [⟨some 11, none, .mkf (.func 120) [] [(.t 5)]⟩,
  ⟨none, none, .st 1 (.t 5) (.t 11)⟩])
  (.seq (.reg [⟨some 12, none, .ld false 1 (.t 5)⟩,
  ⟨some 13, none, .mv (.t 0)⟩,
  ⟨some 14, none, .callv (.t 12) [(.t 13), (.c (.i .i64 65))]⟩,
  ⟨some 15, none, .fa 1 (.t 3)⟩,
  ⟨none, none, .st 1 (.t 15) (.t 14)⟩])
  (.seq (.reg [⟨some 16, none, .ld true 2 (.t 3)⟩,
  ⟨none, none, .st 2 (.t 2) (.t 16)⟩])
  .ret)))))))))⟩
def ir7_62 : XF := ⟨11, 1, [(2, none)], (.seq (.reg [⟨some 1, none, .box 101 2 (.t 0)⟩,
  ⟨some 2, none, .mv (.c (.b false))⟩])
  (.seq (.reg [⟨some 3, none, .fa 0 (.t 1)⟩,
  ⟨some 4, none, .ld false 1 (.t 3)⟩,
  ⟨some 5, none, .bop .leq (.t 4) (.c (.i .i64 4096))⟩,
  ⟨some 6, none, .mv (.t 5)⟩,
  ⟨some 7, some (6, true), .fa 1 (.t 1)⟩,
  ⟨some 8, some (6, true), .ld false 1 (.t 7)⟩,
  ⟨some 9, some (6, true), .bop .leq (.t 8) (.c (.i .i64 64))⟩,
  ⟨some 10, none, .pick (.t 6) (.t 9) (.c (.b false))⟩,
  ⟨some 2, none, .mv (.t 10)⟩])
  .ret))⟩
def ir7_63 : XF := ⟨4, 1, [(2, none)], (.seq (.reg [⟨some 1, none, .box 103 1 (.t 0)⟩,
  ⟨some 2, none, .mv (.c .fn)⟩])
  (.seq (.reg [⟨some 3, none, .mkf (.func 121) [] [(.t 1)]⟩,
  ⟨some 2, none, .mv (.t 3)⟩])
  .ret))⟩
def ir7_64 : XF := ⟨9, 2, [(4, none)], (.seq (.reg [⟨some 4, none, .mv (.c (.b false))⟩])
  (.seq (.reg [⟨some 5, none, .mv (.t 0)⟩,
  ⟨some 6, none, .mv (.t 1)⟩,
  ⟨some 7, none, .call 122 [(.t 5), (.t 6)]⟩,
  ⟨some 8, none, .bop .geq (.t 7) (.c (.i .i64 0))⟩,
  ⟨some 4, none, .mv (.t 8)⟩])
  .ret))⟩
def ir7_65 : XF := ⟨8, 1, [(2, none)], (.seq (.reg [⟨some 2, none, .mv (.c (.b false))⟩])
  (.seq (.reg [⟨some 4, none, .call 123 []⟩,
  ⟨some 3, none, .box 159 22 (.c (.ag [.fn, .fn, .fn, .fn, .fn, .fn, .fn, .fn, .fn, .fn, .fn, .fn, .fn, .fn, .fn, .fn, .fn, .fn, .fn, .fn, .fn, .fn]))⟩,
  ⟨none, none, .st 22 (.t 3) (.t 4)⟩])
  (.seq (.reg [⟨some 5, none, .call 124 [(.t 3), (.c (.f (.func 65) [] []))]⟩])
  (.seq (.reg [⟨some 6, none, .mv (.t 0)⟩,
  ⟨some 7, none, .call 125 [(.t 3), (.t 6)]⟩,
  ⟨some 2, none, .mv (.t 7)⟩])
  .ret))))⟩
def ir7_66 : XF := ⟨22, 1, [(2, none)], (.seq (.reg [⟨some 2, none, .mv (.c (.b false))⟩])
  (.seq (.reg [⟨some 5, none, .call 123 []⟩,
  ⟨some 3, none, .box 159 22 (.c (.ag [.fn, .fn, .fn, .fn, .fn, .fn, .fn, .fn, .fn, .fn, .fn, .fn, .fn, .fn, .fn, .fn, .fn, .fn, .fn, .fn, .fn, .fn]))⟩,
  ⟨none, none, .st 22 (.t 3) (.t 5)⟩])
  (.seq (.reg [⟨some 6, none, .call 124 [(.t 3), (.c (.f (.func 66) [] []))]⟩])
  (.seq (.reg [⟨some 4, none, .box 164 1 (.c .fn)⟩,
  ⟨none, none, .st 1 (.t 4) (.c (.f (.func 126) [] []))⟩])
  (.seq (.reg [⟨some 7, none, .call 127 [(.c (.f (.func 128) [] [])), (.c (.f (.func 66) [] []))]⟩,
  ⟨some 8, none, .iaA 22 1 (.t 3) (.c (.i .i8 11))⟩,
  ⟨none, none, .st 1 (.t 8) (.t 7)⟩])
  (.seq (.reg [⟨some 9, none, .iaA 22 1 (.t 3) (.c (.i .i8 13))⟩,
  ⟨none, none, .st 1 (.t 9) (.c (.f (.func 131) [] []))⟩])
  (.seq (.reg [⟨some 10, none, .mkf (.func 132) [] [(.t 4)]⟩,
  ⟨some 11, none, .iaA 22 1 (.t 3) (.c (.i .i8 14))⟩,
  ⟨none, none, .st 1 (.t 11) (.t 10)⟩])
  (.seq (.reg [⟨some 12, none, .mkf (.func 133) [] [(.t 4)]⟩,
  ⟨some 13, none, .iaA 22 1 (.t 3) (.c (.i .i8 15))⟩,
  ⟨none, none, .st 1 (.t 13) (.t 12)⟩])
  (.seq (.reg [⟨some 14, none, .mkf (.func 134) [] [(.t 4)]⟩,
  ⟨some 15, none, .iaA 22 1 (.t 3) (.c (.i .i8 16))⟩,
  ⟨none, none, .st 1 (.t 15) (.t 14)⟩])
  (.seq (.reg [⟨some 16, none, .iaA 22 1 (.t 3) (.c (.i .i8 17))⟩,
  ⟨none, none, .st 1 (.t 16) (.c (.f (.func 135) [] []))⟩])
  (.seq (.reg [⟨some 17, none, .iaA 22 1 (.t 3) (.c (.i .i8 18))⟩,
  ⟨none, none, .st 1 (.t 17) (.c (.f (.func 136) [] []))⟩])
  (.seq (.reg [⟨some 18, none, .iaA 22 1 (.t 3) (.c (.i .i8 19))⟩,
  ⟨none, none, .st 1 (.t 18) (.c (.f (.func 137) [] []))⟩])
  (.seq (.reg [⟨some 19, none, .iaA 22 1 (.t 3) (.c (.i .i8 20))⟩,
  ⟨none, none, .st 1 (.t 19) (.c (.f (.func 139) [] []))⟩])
  (.seq (.reg [⟨some 20, none, .mv (.t 0)⟩,
  ⟨some 21, none, .call 125 [(.t 3), (.t 20)]⟩,
  ⟨some 2, none, .mv (.t 21)⟩])
  .ret))))))))))))))⟩
def ir7_67 : XF := ⟨10, 1, [(2, none)], (.seq (.reg [⟨some 2, none, .mv (.c (.b false))⟩])
  (.seq (.reg [⟨some 4, none, .call 123 []⟩,
  ⟨some 3, none, .box 159 22 (.c (.ag [.fn, .fn, .fn, .fn, .fn, .fn, .fn, .fn, .fn, .fn, .fn, .fn, .fn, .fn, .fn, .fn, .fn, .fn, .fn, .fn, .fn, .fn]))⟩,
  ⟨none, none, .st 22 (.t 3) (.t 4)⟩])
  (.seq (.reg [⟨some 5, none, .call 124 [(.t 3), (.c (.f (.func 67) [] []))]⟩])
  (.seq (.reg [⟨some 6, none, .call 127 [(.c (.f (.func 140) [] [])), (.c (.f (.func 67) [] []))]⟩,
  ⟨some 7, none, .iaA 22 1 (.t 3) (.c (.i .i8 11))⟩,
  ⟨none, none, .st 1 (.t 7) (.t 6)⟩])
  (.seq (.reg [⟨some 8, none, .mv (.t 0)⟩,
  ⟨some 9, none, .call 125 [(.t 3), (.t 8)]⟩,
  ⟨some 2, none, .mv (.t 9)⟩])
  .ret)))))⟩
def ir7_68 : XF := ⟨20, 1, [(2, none)], (.seq (.reg [⟨some 2, none, .mv (.c (.b false))⟩])
  (.seq (.reg [⟨some 3, none, .mv (.t 0)⟩,
  ⟨some 4, none, .nck (.t 3)⟩,
  ⟨some 5, none, .fa 0 (.t 4)⟩,
  ⟨some 6, none, .ld false 1 (.t 5)⟩,
  ⟨some 7, none, .bop .eql (.t 6) (.c (.i .i8 4))⟩,
  ⟨some 8, none, .mv (.t 7)⟩,
  ⟨some 9, some (8, true), .bld [(.b false), (.b false), (.b false), (.b false)] [(3, 1, (.c (.b true)))]⟩,
  ⟨some 10, some (8, true), .mv (.t 0)⟩,
  ⟨some 11, some (8, true), .call 71 [(.t 9), (.t 10)]⟩,
  ⟨some 12, none, .pick (.t 8) (.t 11) (.c (.b false))⟩,
  ⟨some 13, none, .mv (.t 12)⟩,
  ⟨some 14, some (13, true), .mv (.t 0)⟩,
  ⟨some 15, some (13, true), .nck (.t 14)⟩,
  ⟨some 16, some (13, true), .fa 4 (.t 15)⟩,
  ⟨some 17, some (13, true), .ld false 1 (.t 16)⟩,
  ⟨some 18, some (13, true), .call 73 [(.t 17), (.c (.f (.func 69) [] []))]⟩,
  ⟨some 19, none, .pick (.t 13) (.t 18) (.c (.b false))⟩,
  ⟨some 2, none, .mv (.t 19)⟩])
  .ret))⟩
def ir7_69 : XF := ⟨11, 1, [(2, none)], (.seq (.reg [⟨some 2, none, .mv (.c (.b false))⟩])
  (.seq (.reg [⟨some 5, none, .bls 9 1 7 [(.s []), (.s []), (.s []), (.s []), (.s []), (.s []), (.s [])] [(0, 1, (.c (.s [105, 115, 95, 97, 116, 111, 109]))), (1, 1, (.c (.s [105, 115, 95, 105, 110, 116, 101, 103, 101, 114]))), (2, 1, (.c (.s [105, 115, 95, 112, 105, 100]))), (3, 1, (.c (.s [105, 115, 95, 114, 101, 102, 101, 114, 101, 110, 99, 101]))), (4, 1, (.c (.s [105, 115, 95, 116, 117, 112, 108, 101]))), (5, 1, (.c (.s [105, 115, 95, 108, 105, 115, 116]))), (6, 1, (.c (.s [105, 115, 95, 102, 117, 110, 99, 116, 105, 111, 110])))]⟩,
  ⟨some 3, none, .box 61 1 (.c .sln)⟩,
  ⟨none, none, .st 1 (.t 3) (.t 5)⟩])
  (.seq (.reg [⟨some 6, none, .call 127 [(.c (.f (.func 130) [] [])), (.c (.f (.func 67) [] []))]⟩,
  ⟨some 7, none, .mkf (.func 141) [] [(.t 3)]⟩,
  ⟨some 8, none, .bld [.fn, .fn, .fn, .fn, .fn, .fn, .fn, .fn, .fn, .fn, .fn, .fn, .fn, .fn, .fn, .fn, .fn, .fn, .fn, .fn, .fn, .fn] [(11, 1, (.t 6)), (12, 1, (.t 7))]⟩,
  ⟨some 4, none, .box 159 22 (.c (.ag [.fn, .fn, .fn, .fn, .fn, .fn, .fn, .fn, .fn, .fn, .fn, .fn, .fn, .fn, .fn, .fn, .fn, .fn, .fn, .fn, .fn, .fn]))⟩,
  ⟨none, none, .st 22 (.t 4) (.t 8)⟩])
  (.seq (.reg [⟨some 9, none, .mv (.t 0)⟩,
  ⟨some 10, none, .call 125 [(.t 4), (.t 9)]⟩,
  ⟨some 2, none, .mv (.t 10)⟩])
  .ret))))⟩
def ir7_70 : XF := ⟨54, 1, [(2, none)], (.seq (.reg [⟨some 2, none, .mv (.c (.b false))⟩])
  (.seq (.par [⟨some 3, none, .mv (.t 0)⟩,
  ⟨some 4, none, .nck (.t 3)⟩,
  ⟨some 5, none, .fa 0 (.t 4)⟩,
  ⟨some 6, none, .ld false 1 (.t 5)⟩,
  ⟨some 7, none, .bop .eql (.t 6) (.c (.i .i8 2))⟩,
  ⟨some 8, none, .mv (.t 7)⟩,
  ⟨some 9, some (8, true), .bld [(.b false), (.b false), (.b false), (.b false)] [(0, 1, (.c (.b true))), (1, 1, (.c (.b true))), (3, 1, (.c (.b true)))]⟩,
  ⟨some 10, some (8, true), .mv (.t 0)⟩,
  ⟨some 11, some (8, true), .call 71 [(.t 9), (.t 10)]⟩,
  ⟨some 12, none, .pick (.t 8) (.t 11) (.c (.b false))⟩,
  ⟨some 13, none, .mv (.t 12)⟩,
  ⟨some 14, some (13, true), .mv (.t 0)⟩,
  ⟨some 15, some (13, true), .nck (.t 14)⟩,
  ⟨some 16, some (13, true), .fa 2 (.t 15)⟩,
  ⟨some 17, some (13, true), .ld false 1 (.t 16)⟩,
  ⟨some 18, some (13, true), .call 72 [(.t 17)]⟩,
  ⟨some 19, none, .pick (.t 13) (.t 18) (.c (.b false))⟩,
  ⟨some 20, none, .mv (.t 19)⟩,
  ⟨some 21, some (20, true), .mv (.t 0)⟩,
  ⟨some 22, some (20, true), .nck (.t 21)⟩,
  ⟨some 23, some (20, true), .fa 1 (.t 22)⟩,
  ⟨some 24, some (20, true), .ld false 1 (.t 23)⟩,
  ⟨some 25, some (20, true), .bop .geq (.t 24) (.c (.i .i64 0))⟩,
  ⟨some 26, none, .pick (.t 20) (.t 25) (.c (.b false))⟩,
  ⟨some 27, none, .mv (.t 26)⟩,
  ⟨some 28, some (27, true), .mv (.t 0)⟩,
  ⟨some 29, some (27, true), .nck (.t 28)⟩,
  ⟨some 30, some (27, true), .fa 1 (.t 29)⟩,
  ⟨some 31, some (27, true), .ld false 1 (.t 30)⟩,
  ⟨some 32, some (27, true), .bop .leq (.t 31) (.c (.i .i64 8))⟩,
  ⟨some 33, none, .pick (.t 27) (.t 32) (.c (.b false))⟩,
  ⟨some 34, none, .mv (.t 33)⟩,
  ⟨some 35, some (34, true), .mv (.t 0)⟩,
  ⟨some 36, some (34, true), .nck (.t 35)⟩,
  ⟨some 37, some (34, true), .fa 4 (.t 36)⟩,
  ⟨some 38, some (34, true), .ld false 1 (.t 37)⟩,
  ⟨some 39, some (34, true), .len 1 (.t 38)⟩,
  ⟨some 40, some (34, true), .bop .gtr (.t 39) (.c (.i .i64 0))⟩,
  ⟨some 41, none, .pick (.t 34) (.t 40) (.c (.b false))⟩,
  ⟨some 42, none, .mv (.t 41)⟩,
  ⟨some 43, some (42, true), .mv (.t 0)⟩,
  ⟨some 44, some (42, true), .nck (.t 43)⟩,
  ⟨some 45, some (42, true), .fa 4 (.t 44)⟩,
  ⟨some 46, some (42, true), .ld false 1 (.t 45)⟩,
  ⟨some 47, some (42, true), .mv (.t 0)⟩,
  ⟨some 48, some (42, true), .nck (.t 47)⟩,
  ⟨some 49, some (42, true), .fa 1 (.t 48)⟩,
  ⟨some 50, some (42, true), .ld false 1 (.t 49)⟩,
  ⟨some 51, some (42, true), .call 74 [(.t 50)]⟩,
  ⟨some 52, some (42, true), .call 73 [(.t 46), (.t 51)]⟩,
  ⟨some 53, none, .pick (.t 42) (.t 52) (.c (.b false))⟩,
  ⟨some 2, none, .mv (.t 53)⟩] [0, 1, 3, 7, 15, 31, 63, 63, 255, 511, 1023, 2047, 4095, 8191, 16383, 32767, 65535, 131071, 262143, 524287, 1048575, 2097151, 4194303, 8388607, 16777215, 33554431, 67108863, 134217727, 268435455, 536870911, 1073741823, 2147483647, 4294967295, 8589934591, 17179869183, 34359738367, 68719476735, 137438953471, 274877906943, 549755813887, 1099511627775, 2199023255551, 4398046511103, 8796093022207, 1099511627775, 18691697672191, 53876069761023, 124244813938687, 264982302294015, 562949953421311, 1125899906842623, 2251799813685247])
  .ret))⟩
def ir7_71 : XF := ⟨48, 2, [(4, none)], (.seq (.reg [⟨some 2, none, .box 110 4 (.t 0)⟩,
  ⟨some 4, none, .mv (.c (.b false))⟩])
  (.seq (.reg [⟨some 5, none, .fa 0 (.t 2)⟩,
  ⟨some 6, none, .ld false 1 (.t 5)⟩,
  ⟨some 7, none, .mv (.t 6)⟩,
  ⟨some 8, some (7, false), .mv (.t 1)⟩,
  ⟨some 9, some (7, false), .nck (.t 8)⟩,
  ⟨some 10, some (7, false), .fa 1 (.t 9)⟩,
  ⟨some 11, some (7, false), .ld false 1 (.t 10)⟩,
  ⟨some 12, some (7, false), .bop .eql (.t 11) (.c (.i .i64 0))⟩,
  ⟨some 13, none, .pick (.t 7) (.c (.b true)) (.t 12)⟩,
  ⟨some 14, none, .mv (.t 13)⟩,
  ⟨some 15, some (14, true), .fa 1 (.t 2)⟩,
  ⟨some 16, some (14, true), .ld false 1 (.t 15)⟩,
  ⟨some 17, some (14, true), .mv (.t 16)⟩,
  ⟨some 18, some (17, false), .mv (.t 1)⟩,
  ⟨some 19, some (17, false), .nck (.t 18)⟩,
  ⟨some 20, some (17, false), .fa 2 (.t 19)⟩,
  ⟨some 21, some (17, false), .ld false 1 (.t 20)⟩,
  ⟨some 22, some (17, false), .bop .eql (.t 21) (.c (.s []))⟩,
  ⟨some 23, some (14, true), .pick (.t 17) (.c (.b true)) (.t 22)⟩,
  ⟨some 24, none, .pick (.t 14) (.t 23) (.c (.b false))⟩,
  ⟨some 25, none, .mv (.t 24)⟩,
  ⟨some 26, some (25, true), .fa 2 (.t 2)⟩,
  ⟨some 27, some (25, true), .ld false 1 (.t 26)⟩,
  ⟨some 28, some (25, true), .mv (.t 27)⟩,
  ⟨some 29, some (28, false), .mv (.t 1)⟩,
  ⟨some 30, some (28, false), .nck (.t 29)⟩,
  ⟨some 31, some (28, false), .fa 3 (.t 30)⟩,
  ⟨some 32, some (28, false), .ld false 1 (.t 31)⟩,
  ⟨some 33, some (28, false), .bop .eql (.t 32) (.c (.s []))⟩,
  ⟨some 34, some (25, true), .pick (.t 28) (.c (.b true)) (.t 33)⟩,
  ⟨some 35, none, .pick (.t 25) (.t 34) (.c (.b false))⟩,
  ⟨some 36, none, .mv (.t 35)⟩,
  ⟨some 37, some (36, true), .fa 3 (.t 2)⟩,
  ⟨some 38, some (36, true), .ld false 1 (.t 37)⟩,
  ⟨some 39, some (36, true), .mv (.t 38)⟩,
  ⟨some 40, some (39, false), .mv (.t 1)⟩,
  ⟨some 41, some (39, false), .nck (.t 40)⟩,
  ⟨some 42, some (39, false), .fa 4 (.t 41)⟩,
  ⟨some 43, some (39, false), .ld false 1 (.t 42)⟩,
  ⟨some 44, some (39, false), .len 1 (.t 43)⟩,
  ⟨some 45, some (39, false), .bop .eql (.t 44) (.c (.i .i64 0))⟩,
  ⟨some 46, some (36, true), .pick (.t 39) (.c (.b true)) (.t 45)⟩,
  ⟨some 47, none, .pick (.t 36) (.t 46) (.c (.b false))⟩,
  ⟨some 4, none, .mv (.t 47)⟩])
  .ret))⟩
def ir7_72 : XF := ⟨13, 1, [(2, none)], (.seq (.reg [⟨some 2, none, .mv (.c (.b false))⟩])
  (.seq (.reg [⟨some 4, none, .bls 9 1 13 [(.s []), (.s []), (.s []), (.s []), (.s []), (.s []), (.s []), (.s []), (.s []), (.s []), (.s []), (.s []), (.s [])] [(0, 1, (.c (.s [97, 102, 116, 101, 114]))), (1, 1, (.c (.s [99, 97, 115, 101]))), (2, 1, (.c (.s [99, 97, 116, 99, 104]))), (3, 1, (.c (.s [99, 111, 110, 102, 105, 103]))), (4, 1, (.c (.s [100, 105, 118]))), (5, 1, (.c (.s [101, 110, 100]))), (6, 1, (.c (.s [102, 117, 110]))), (7, 1, (.c (.s [109, 111, 100, 117, 108, 101]))), (8, 1, (.c (.s [111, 102]))), (9, 1, (.c (.s [114, 101, 99, 101, 105, 118, 101]))), (10, 1, (.c (.s [114, 101, 109]))), (11, 1, (.c (.s [116, 114, 121]))), (12, 1, (.c (.s [119, 104, 101, 110])))]⟩,
  ⟨some 3, none, .mv (.t 4)⟩])
  (.seq (.reg [⟨some 5, none, .mv (.t 0)⟩,
  ⟨some 6, none, .call 118 [(.t 5)]⟩,
  ⟨some 7, none, .mv (.t 6)⟩,
  ⟨some 8, some (7, true), .mv (.t 3)⟩,
  ⟨some 9, some (7, true), .mv (.t 0)⟩,
  ⟨some 10, some (7, true), .call 64 [(.t 8), (.t 9)]⟩,
  ⟨some 11, some (7, true), .un .not (.t 10)⟩,
  ⟨some 12, none, .pick (.t 7) (.t 11) (.c (.b false))⟩,
  ⟨some 2, none, .mv (.t 12)⟩])
  .ret)))⟩
def ir7_73 : XF := ⟨18, 2, [(4, none)], (.seq (.reg [⟨some 4, none, .mv (.c (.b false))⟩])
  (.seq (.seq (.reg [⟨some 6, none, .mv (.t 0)⟩,
  ⟨some 7, none, .len 1 (.t 6)⟩,
  ⟨some 8, none, .mv (.c (.i .i64 0))⟩])
  (.blk 0 (.loop (.seq (.reg [⟨some 9, none, .bop .lss (.t 8) (.t 7)⟩])
  (.seq (.cond (.t 9) .skip
  (.exit 0))
  (.seq (.blk 1 (.seq (.reg [⟨some 10, none, .mv (.t 8)⟩,
  ⟨some 5, none, .mv (.t 10)⟩])
  (.seq (.reg [⟨some 11, none, .mv (.t 1)⟩,
  ⟨some 12, none, .mv (.t 0)⟩,
  ⟨some 13, none, .mv (.t 5)⟩,
  ⟨some 14, none, .ia 5 (.t 12) (.t 13)⟩,
  ⟨some 15, none, .callv (.t 11) [(.t 14)]⟩,
  ⟨some 16, none, .un .not (.t 15)⟩])
  (.cond (.t 16) (.seq (.reg [⟨some 4, none, .mv (.c (.b false))⟩])
  .ret)
  .skip))))
  (.reg [⟨some 17, none, .bop .add (.t 8) (.c (.i .i64 1))⟩,
  ⟨some 8, none, .mv (.t 17)⟩])))))))
  (.seq (.reg [⟨some 4, none, .mv (.c (.b true))⟩])
  .ret)))⟩
def ir7_74 : XF := ⟨4, 1, [(2, none)], (.seq (.reg [⟨some 1, none, .box 3 1 (.t 0)⟩,
  ⟨some 2, none, .mv (.c .fn)⟩])
  (.seq (.reg [⟨some 3, none, .mkf (.func 142) [] [(.t 1)]⟩,
  ⟨some 2, none, .mv (.t 3)⟩])
  .ret))⟩
def ir7_75 : XF := ⟨29, 2, [(3, none)], (.seq (.reg [⟨some 3, none, .mv (.c (.b false))⟩])
  (.seq (.par [⟨some 4, none, .mv (.t 0)⟩,
  ⟨some 5, none, .nck (.t 4)⟩,
  ⟨some 6, none, .fa 0 (.t 5)⟩,
  ⟨some 7, none, .ld false 1 (.t 6)⟩,
  ⟨some 8, none, .bop .eql (.t 7) (.c (.i .i8 1))⟩,
  ⟨some 9, none, .mv (.t 8)⟩,
  ⟨some 10, some (9, true), .bld [(.b false), (.b false), (.b false), (.b false)] [(1, 1, (.c (.b true))), (3, 1, (.c (.b true)))]⟩,
  ⟨some 11, some (9, true), .mv (.t 0)⟩,
  ⟨some 12, some (9, true), .call 71 [(.t 10), (.t 11)]⟩,
  ⟨some 13, none, .pick (.t 9) (.t 12) (.c (.b false))⟩,
  ⟨some 14, none, .mv (.t 13)⟩,
  ⟨some 15, some (14, true), .mv (.t 0)⟩,
  ⟨some 16, some (14, true), .nck (.t 15)⟩,
  ⟨some 17, some (14, true), .fa 2 (.t 16)⟩,
  ⟨some 18, some (14, true), .ld false 1 (.t 17)⟩,
  ⟨some 19, some (14, true), .call 72 [(.t 18)]⟩,
  ⟨some 20, none, .pick (.t 14) (.t 19) (.c (.b false))⟩,
  ⟨some 21, none, .mv (.t 20)⟩,
  ⟨some 22, some (21, true), .mv (.t 0)⟩,
  ⟨some 23, some (21, true), .nck (.t 22)⟩,
  ⟨some 24, some (21, true), .fa 4 (.t 23)⟩,
  ⟨some 25, some (21, true), .ld false 1 (.t 24)⟩,
  ⟨some 26, some (21, true), .ld false 1 (.t 1)⟩,
  ⟨some 27, some (21, true), .call 73 [(.t 25), (.t 26)]⟩,
  ⟨some 28, none, .pick (.t 21) (.t 27) (.c (.b false))⟩,
  ⟨some 3, none, .mv (.t 28)⟩] [0, 1, 3, 7, 15, 31, 63, 63, 255, 511, 1023, 2047, 4095, 8191, 16383, 32767, 65535, 131071, 262143, 524287, 1048575, 2097151, 262143, 8388607, 16777215, 33554431])
  .ret))⟩
def ir7_76 : XF := ⟨39, 2, [], (.seq (.reg [⟨some 9, none, .mv (.t 1)⟩,
  ⟨some 10, none, .len 1 (.t 9)⟩,
  ⟨some 11, none, .mv (.c (.i .i64 0))⟩])
  (.blk 0 (.loop (.seq (.reg [⟨some 12, none, .bop .lss (.t 11) (.t 10)⟩])
  (.seq (.cond (.t 12) .skip
  (.exit 0))
  (.seq (.blk 1 (.seq (.reg [⟨some 13, none, .ia 1 (.t 9) (.t 11)⟩,
  ⟨some 14, none, .ld false 1 (.t 13)⟩,
  ⟨some 5, none, .mv (.t 14)⟩])
  (.seq (.reg [⟨some 15, none, .mv (.t 5)⟩])
  (.blk 2 (.seq (.reg [⟨some 16, none, .ta true 9 (.s []) (.t 15)⟩,
  ⟨some 17, none, .ex (.t 16) 1⟩,
  ⟨some 18, none, .ex (.t 16) 0⟩])
  (.cond (.t 17) (.seq (.reg [⟨some 6, none, .mv (.t 18)⟩])
  (.reg [⟨some 19, none, .mv (.t 0)⟩,
  ⟨some 20, none, .nck (.t 19)⟩,
  ⟨some 21, none, .fa 0 (.t 20)⟩,
  ⟨some 22, none, .mv (.t 6)⟩,
  ⟨some 23, none, .call 143 [(.t 21), (.t 22)]⟩]))
  (.seq (.reg [⟨some 24, none, .ta true 3 (.i .i64 0) (.t 15)⟩,
  ⟨some 25, none, .ex (.t 24) 1⟩,
  ⟨some 26, none, .ex (.t 24) 0⟩])
  (.cond (.t 25) (.seq (.reg [⟨some 7, none, .mv (.t 26)⟩])
  (.par [⟨some 27, none, .mv (.t 0)⟩,
  ⟨some 28, none, .nck (.t 27)⟩,
  ⟨some 29, none, .fa 0 (.t 28)⟩,
  ⟨some 30, none, .mv (.t 7)⟩,
  ⟨some 31, none, .call 144 [(.t 30)]⟩,
  ⟨some 32, none, .call 143 [(.t 29), (.t 31)]⟩] [0, 1, 3, 0, 8, 31]))
  (.seq (.reg [⟨some 33, none, .ta true 57 (.ag [(.i .i8 0), (.i .i64 0), (.s []), (.s []), .sln]) (.t 15)⟩,
  ⟨some 34, none, .ex (.t 33) 1⟩,
  ⟨some 35, none, .ex (.t 33) 0⟩])
  (.cond (.t 34) (.seq (.reg [⟨some 8, none, .box 57 5 (.c (.ag [(.i .i8 0), (.i .i64 0), (.s []), (.s []), .sln]))⟩,
  ⟨none, none, .st 5 (.t 8) (.t 35)⟩])
  (.reg [⟨some 36, none, .mv (.t 0)⟩,
  ⟨some 37, none, .call 145 [(.t 36), (.t 8)]⟩]))
  .skip))))))))))
  (.reg [⟨some 38, none, .bop .add (.t 11) (.c (.i .i64 1))⟩,
  ⟨some 11, none, .mv (.t 38)⟩])))))))⟩
def ir7_77 : XF := ⟨27, 4, [], (.seq (.reg [⟨some 9, none, .mv (.t 1)⟩,
  ⟨some 10, none, .len 1 (.t 9)⟩,
  ⟨some 11, none, .mv (.c (.i .i64 0))⟩])
  (.blk 0 (.loop (.seq (.reg [⟨some 12, none, .bop .lss (.t 11) (.t 10)⟩])
  (.seq (.cond (.t 12) .skip
  (.exit 0))
  (.seq (.blk 1 (.seq (.reg [⟨some 13, none, .mv (.t 11)⟩,
  ⟨some 8, none, .mv (.t 13)⟩])
  (.seq (.seq (.reg [⟨some 14, none, .mv (.t 8)⟩,
  ⟨some 15, none, .bop .gtr (.t 14) (.c (.i .i64 0))⟩])
  (.cond (.t 15) (.reg [⟨some 16, none, .mv (.t 0)⟩,
  ⟨some 17, none, .mv (.t 2)⟩,
  ⟨some 18, none, .mki 9 (.t 17)⟩,
  ⟨some 19, none, .bls 20 1 1 [.ifn] [(0, 1, (.t 18))]⟩,
  ⟨some 20, none, .call 76 [(.t 16), (.t 19)]⟩])
  .skip))
  (.reg [⟨some 21, none, .mv (.t 3)⟩,
  ⟨some 22, none, .mv (.t 1)⟩,
  ⟨some 23, none, .mv (.t 8)⟩,
  ⟨some 24, none, .ia 5 (.t 22) (.t 23)⟩,
  ⟨some 25, none, .callv (.t 21) [(.t 24)]⟩]))))
  (.reg [⟨some 26, none, .bop .add (.t 11) (.c (.i .i64 1))⟩,
  ⟨some 11, none, .mv (.t 26)⟩])))))))⟩
def ir7_78 : XF := ⟨21, 3, [], (.seq (.reg [⟨some 4, none, .fa 2 (.t 2)⟩,
  ⟨some 5, none, .ld false 1 (.t 4)⟩,
  ⟨some 6, none, .mki 9 (.t 5)⟩,
  ⟨some 7, none, .bls 20 1 1 [.ifn] [(0, 1, (.t 6))]⟩,
  ⟨some 8, none, .call 76 [(.t 1), (.t 7)]⟩])
  (.seq (.par [⟨some 9, none, .mv (.t 0)⟩,
  ⟨some 10, none, .nck (.t 9)⟩,
  ⟨some 11, none, .fa 4 (.t 10)⟩,
  ⟨some 12, none, .ld false 1 (.t 11)⟩,
  ⟨some 13, none, .mv (.t 0)⟩,
  ⟨some 14, none, .nck (.t 13)⟩,
  ⟨some 15, none, .fa 1 (.t 14)⟩,
  ⟨some 16, none, .ld false 1 (.t 15)⟩,
  ⟨some 17, none, .slc 5 (.t 12) none (some (.t 16)) none⟩,
  ⟨some 18, none, .call 79 [(.t 1), (.t 17)]⟩] [0, 1, 3, 7, 0, 16, 48, 112, 255, 511])
  (.reg [⟨some 19, none, .mv (.t 0)⟩,
  ⟨some 20, none, .call 80 [(.t 1), (.t 19)]⟩])))⟩
def ir7_79 : XF := ⟨17, 2, [], (.seq (.reg [⟨some 4, none, .mv (.t 0)⟩,
  ⟨some 5, none, .mki 9 (.c (.s [40]))⟩,
  ⟨some 6, none, .bls 20 1 1 [.ifn] [(0, 1, (.t 5))]⟩,
  ⟨some 7, none, .call 76 [(.t 4), (.t 6)]⟩])
  (.seq (.reg [⟨some 8, none, .mv (.t 0)⟩,
  ⟨some 9, none, .mv (.t 1)⟩,
  ⟨some 10, none, .mv (.t 0)⟩,
  ⟨some 11, none, .mkf (.func 145) [(.t 10)] []⟩,
  ⟨some 12, none, .call 77 [(.t 8), (.t 9), (.c (.s [44, 32])), (.t 11)]⟩])
  (.reg [⟨some 13, none, .mv (.t 0)⟩,
  ⟨some 14, none, .mki 9 (.c (.s [41]))⟩,
  ⟨some 15, none, .bls 20 1 1 [.ifn] [(0, 1, (.t 14))]⟩,
  ⟨some 16, none, .call 76 [(.t 13), (.t 15)]⟩])))⟩
def ir7_80 : XF := ⟨46, 2, [], (.seq (.seq (.par [⟨some 5, none, .mv (.t 1)⟩,
  ⟨some 6, none, .nck (.t 5)⟩,
  ⟨some 7, none, .fa 4 (.t 6)⟩,
  ⟨some 8, none, .ld false 1 (.t 7)⟩,
  ⟨some 9, none, .mv (.t 1)⟩,
  ⟨some 10, none, .nck (.t 9)⟩,
  ⟨some 11, none, .fa 1 (.t 10)⟩,
  ⟨some 12, none, .ld false 1 (.t 11)⟩,
  ⟨some 13, none, .ia 5 (.t 8) (.t 12)⟩,
  ⟨some 14, none, .fa 4 (.t 13)⟩,
  ⟨some 15, none, .ld false 1 (.t 14)⟩,
  ⟨some 4, none, .mv (.t 15)⟩] [0, 1, 3, 7, 0, 16, 48, 112, 255, 511, 1023, 2047])
  (.seq (.reg [⟨some 16, none, .mv (.t 4)⟩,
  ⟨some 17, none, .len 1 (.t 16)⟩,
  ⟨some 18, none, .bop .gtr (.t 17) (.c (.i .i64 0))⟩])
  (.cond (.t 18) (.seq (.reg [⟨some 19, none, .mv (.t 0)⟩,
  ⟨some 20, none, .mki 9 (.c (.s [32, 119, 104, 101, 110, 32]))⟩,
  ⟨some 21, none, .bls 20 1 1 [.ifn] [(0, 1, (.t 20))]⟩,
  ⟨some 22, none, .call 76 [(.t 19), (.t 21)]⟩])
  (.reg [⟨some 23, none, .mv (.t 0)⟩,
  ⟨some 24, none, .mv (.t 4)⟩,
  ⟨some 25, none, .mv (.t 0)⟩,
  ⟨some 26, none, .mkf (.func 145) [(.t 25)] []⟩,
  ⟨some 27, none, .call 77 [(.t 23), (.t 24), (.c (.s [44, 32])), (.t 26)]⟩]))
  .skip)))
  (.seq (.reg [⟨some 28, none, .mv (.t 0)⟩,
  ⟨some 29, none, .mki 9 (.c (.s [32, 45, 62, 32]))⟩,
  ⟨some 30, none, .bls 20 1 1 [.ifn] [(0, 1, (.t 29))]⟩,
  ⟨some 31, none, .call 76 [(.t 28), (.t 30)]⟩])
  (.par [⟨some 32, none, .mv (.t 0)⟩,
  ⟨some 33, none, .mv (.t 1)⟩,
  ⟨some 34, none, .nck (.t 33)⟩,
  ⟨some 35, none, .fa 4 (.t 34)⟩,
  ⟨some 36, none, .ld false 1 (.t 35)⟩,
  ⟨some 37, none, .mv (.t 1)⟩,
  ⟨some 38, none, .nck (.t 37)⟩,
  ⟨some 39, none, .fa 1 (.t 38)⟩,
  ⟨some 40, none, .ld false 1 (.t 39)⟩,
  ⟨some 41, none, .bop .add (.t 40) (.c (.i .i64 1))⟩,
  ⟨some 42, none, .slc 5 (.t 36) (some (.t 41)) none none⟩,
  ⟨some 43, none, .mv (.t 0)⟩,
  ⟨some 44, none, .mkf (.func 145) [(.t 43)] []⟩,
  ⟨some 45, none, .call 77 [(.t 32), (.t 42), (.c (.s [44, 32])), (.t 44)]⟩] [0, 0, 2, 6, 14, 0, 32, 96, 224, 480, 1022, 0, 2048, 8191])))⟩
def ir7_118 : XF := ⟨11, 1, [(2, none)], (.seq (.reg [⟨some 2, none, .mv (.c (.b false))⟩])
  (.seq (.par [⟨some 3, none, .mv (.t 0)⟩,
  ⟨some 4, none, .call 176 [(.t 3)]⟩,
  ⟨some 5, none, .mv (.t 4)⟩,
  ⟨some 6, some (5, true), .mv (.t 0)⟩,
  ⟨some 7, some (5, true), .ixS (.t 6) (.c (.i .i64 0))⟩,
  ⟨some 8, some (5, true), .slcA 4 2 (.c (.p 1 0)) none (some (.c (.i .i64 1))) none⟩,
  ⟨some 9, some (5, true), .call 177 [(.t 7), (.t 8)]⟩,
  ⟨some 10, none, .pick (.t 5) (.t 9) (.c (.b false))⟩,
  ⟨some 2, none, .mv (.t 10)⟩] [0, 1, 3, 7, 15, 7, 63, 127, 255])
  .ret))⟩
def ir7_119 : XF := ⟨29, 3, [], (.seq (.reg [⟨some 5, none, .fa 0 (.t 1)⟩,
  ⟨some 6, none, .ld false 1 (.t 5)⟩,
  ⟨some 7, none, .bop .add (.t 6) (.c (.i .i64 1))⟩,
  ⟨some 8, none, .fa 0 (.t 1)⟩,
  ⟨none, none, .st 1 (.t 8) (.t 7)⟩])
  (.seq (.reg [⟨some 9, none, .mv (.t 0)⟩,
  ⟨some 10, none, .nck (.t 9)⟩,
  ⟨some 11, none, .fa 4 (.t 10)⟩,
  ⟨some 12, none, .ld false 1 (.t 11)⟩,
  ⟨some 13, none, .len 1 (.t 12)⟩,
  ⟨some 14, none, .mv (.c (.i .i64 0))⟩])
  (.blk 0 (.loop (.seq (.reg [⟨some 15, none, .bop .lss (.t 14) (.t 13)⟩])
  (.seq (.cond (.t 15) .skip
  (.exit 0))
  (.seq (.blk 1 (.seq (.reg [⟨some 16, none, .mv (.t 14)⟩,
  ⟨some 4, none, .mv (.t 16)⟩])
  (.seq (.seq (.reg [⟨some 17, none, .fa 0 (.t 1)⟩,
  ⟨some 18, none, .ld false 1 (.t 17)⟩,
  ⟨some 19, none, .bop .gtr (.t 18) (.c (.i .i64 4096))⟩])
  (.cond (.t 19) .ret
  .skip))
  (.par [⟨some 20, none, .ld false 1 (.t 2)⟩,
  ⟨some 21, none, .mv (.t 0)⟩,
  ⟨some 22, none, .nck (.t 21)⟩,
  ⟨some 23, none, .fa 4 (.t 22)⟩,
  ⟨some 24, none, .ld false 1 (.t 23)⟩,
  ⟨some 25, none, .mv (.t 4)⟩,
  ⟨some 26, none, .ia 5 (.t 24) (.t 25)⟩,
  ⟨some 27, none, .callv (.t 20) [(.t 26)]⟩] [0, 0, 2, 6, 14, 0, 62, 127]))))
  (.reg [⟨some 28, none, .bop .add (.t 14) (.c (.i .i64 1))⟩,
  ⟨some 14, none, .mv (.t 28)⟩]))))))))⟩
def ir7_120 : XF := ⟨37, 3, [(5, none)], (.seq (.reg [⟨some 5, none, .mv (.c (.i .i64 0))⟩])
  (.seq (.reg [⟨some 6, none, .mv (.c (.i .i64 1))⟩])
  (.seq (.seq (.reg [⟨some 8, none, .mv (.t 0)⟩,
  ⟨some 9, none, .nck (.t 8)⟩,
  ⟨some 10, none, .fa 4 (.t 9)⟩,
  ⟨some 11, none, .ld false 1 (.t 10)⟩,
  ⟨some 12, none, .len 1 (.t 11)⟩,
  ⟨some 13, none, .mv (.c (.i .i64 0))⟩])
  (.blk 0 (.loop (.seq (.reg [⟨some 14, none, .bop .lss (.t 13) (.t 12)⟩])
  (.seq (.cond (.t 14) .skip
  (.exit 0))
  (.seq (.blk 1 (.seq (.reg [⟨some 15, none, .mv (.t 13)⟩,
  ⟨some 7, none, .mv (.t 15)⟩])
  (.seq (.reg [⟨some 16, none, .mv (.t 1)⟩,
  ⟨some 17, none, .bop .gtr (.t 16) (.c (.i .i64 1))⟩,
  ⟨some 18, none, .mv (.t 17)⟩,
  ⟨some 19, some (18, true), .mv (.t 6)⟩,
  ⟨some 20, some (18, true), .bop .leq (.t 19) (.c (.i .i64 64))⟩,
  ⟨some 21, none, .pick (.t 18) (.t 20) (.c (.b false))⟩])
  (.cond (.t 21) (.par [⟨some 22, none, .mv (.t 6)⟩,
  ⟨some 23, none, .ld false 1 (.t 2)⟩,
  ⟨some 24, none, .mv (.t 0)⟩,
  ⟨some 25, none, .nck (.t 24)⟩,
  ⟨some 26, none, .fa 4 (.t 25)⟩,
  ⟨some 27, none, .ld false 1 (.t 26)⟩,
  ⟨some 28, none, .mv (.t 7)⟩,
  ⟨some 29, none, .ia 5 (.t 27) (.t 28)⟩,
  ⟨some 30, none, .mv (.t 1)⟩,
  ⟨some 31, none, .bop .sub (.t 30) (.c (.i .i64 1))⟩,
  ⟨some 32, none, .callv (.t 23) [(.t 29), (.t 31)]⟩,
  ⟨some 33, none, .bop .add (.c (.i .i64 1)) (.t 32)⟩,
  ⟨some 34, none, .mm true (.t 22) (.t 33)⟩,
  ⟨some 6, none, .mv (.t 34)⟩] [0, 0, 0, 4, 12, 28, 0, 124, 0, 256, 1022, 2046, 4095, 8191])
  .skip))))
  (.reg [⟨some 35, none, .bop .add (.t 13) (.c (.i .i64 1))⟩,
  ⟨some 13, none, .mv (.t 35)⟩])))))))
  (.seq (.reg [⟨some 36, none, .mv (.t 6)⟩,
  ⟨some 5, none, .mv (.t 36)⟩])
  .ret))))⟩
def ir7_121 : XF := ⟨30, 2, [], (.seq (.reg [⟨some 2, none, .box 108 1 (.t 0)⟩])
  (.seq (.seq (.reg [⟨some 5, none, .ld false 1 (.t 2)⟩,
  ⟨some 6, none, .ld false 1 (.t 1)⟩,
  ⟨some 7, none, .callv (.t 5) [(.t 6)]⟩,
  ⟨some 8, none, .un .not (.t 7)⟩])
  (.cond (.t 8) .ret
  .skip))
  (.seq (.reg [⟨some 9, none, .ld false 1 (.t 1)⟩,
  ⟨some 10, none, .nck (.t 9)⟩,
  ⟨some 11, none, .fa 4 (.t 10)⟩,
  ⟨some 12, none, .ld false 1 (.t 11)⟩,
  ⟨some 13, none, .len 1 (.t 12)⟩,
  ⟨some 14, none, .mv (.c (.i .i64 0))⟩])
  (.blk 0 (.loop (.seq (.reg [⟨some 15, none, .bop .lss (.t 14) (.t 13)⟩])
  (.seq (.cond (.t 15) .skip
  (.exit 0))
  (.seq (.blk 1 (.seq (.reg [⟨some 16, none, .mv (.t 14)⟩,
  ⟨some 3, none, .mv (.t 16)⟩])
  (.seq (.reg [⟨some 17, none, .ld false 1 (.t 1)⟩,
  ⟨some 18, none, .nck (.t 17)⟩,
  ⟨some 19, none, .fa 4 (.t 18)⟩,
  ⟨some 20, none, .ld false 1 (.t 19)⟩,
  ⟨some 21, none, .mv (.t 3)⟩,
  ⟨some 22, none, .ia 5 (.t 20) (.t 21)⟩,
  ⟨some 23, none, .call 63 [(.t 22)]⟩])
  (.blk 2 (.rng 30 (.t 23) [24] (.reg [⟨some 4, none, .mv (.t 24)⟩]) (.blk 3 (.seq (.reg [⟨some 25, none, .ld false 1 (.t 2)⟩,
  ⟨some 26, none, .mv (.t 4)⟩,
  ⟨some 27, none, .callv (.t 25) [(.t 26)]⟩,
  ⟨some 28, none, .un .not (.t 27)⟩])
  (.cond (.t 28) .ret
  .skip))))))))
  (.reg [⟨some 29, none, .bop .add (.t 14) (.c (.i .i64 1))⟩,
  ⟨some 14, none, .mv (.t 29)⟩])))))))))⟩
def ir7_122 : XF := ⟨19, 2, [(4, none)], (.seq (.reg [⟨some 4, none, .mv (.c (.i .i64 0))⟩])
  (.seq (.seq (.reg [⟨some 6, none, .mv (.t 0)⟩,
  ⟨some 7, none, .len 1 (.t 6)⟩,
  ⟨some 8, none, .mv (.c (.i .i64 0))⟩])
  (.blk 0 (.loop (.seq (.reg [⟨some 9, none, .bop .lss (.t 8) (.t 7)⟩])
  (.seq (.cond (.t 9) .skip
  (.exit 0))
  (.seq (.blk 1 (.seq (.reg [⟨some 10, none, .mv (.t 8)⟩,
  ⟨some 5, none, .mv (.t 10)⟩])
  (.seq (.reg [⟨some 11, none, .mv (.t 1)⟩,
  ⟨some 12, none, .mv (.t 0)⟩,
  ⟨some 13, none, .mv (.t 5)⟩,
  ⟨some 14, none, .ia 1 (.t 12) (.t 13)⟩,
  ⟨some 15, none, .ld false 1 (.t 14)⟩,
  ⟨some 16, none, .bop .eql (.t 11) (.t 15)⟩])
  (.cond (.t 16) (.seq (.reg [⟨some 17, none, .mv (.t 5)⟩,
  ⟨some 4, none, .mv (.t 17)⟩])
  .ret)
  .skip))))
  (.reg [⟨some 18, none, .bop .add (.t 8) (.c (.i .i64 1))⟩,
  ⟨some 8, none, .mv (.t 18)⟩])))))))
  (.seq (.reg [⟨some 4, none, .mv (.c (.i .i64 (-1)))⟩])
  .ret)))⟩
def ir7_123 : XF := ⟨2, 0, [(0, some (true, 22))], (.seq (.reg [⟨some 0, none, .box 159 22 (.c (.ag [.fn, .fn, .fn, .fn, .fn, .fn, .fn, .fn, .fn, .fn, .fn, .fn, .fn, .fn, .fn, .fn, .fn, .fn, .fn, .fn, .fn, .fn]))⟩])
  (.seq (.reg [⟨some 1, none, .bld [.fn, .fn, .fn, .fn, .fn, .fn, .fn, .fn, .fn, .fn, .fn, .fn, .fn, .fn, .fn, .fn, .fn, .fn, .fn, .fn, .fn, .fn] [(5, 1, (.c (.f (.func 178) [] []))), (6, 1, (.c (.f (.func 180) [] []))), (7, 1, (.c (.f (.func 181) [] []))), (8, 1, (.c (.f (.func 182) [] []))), (21, 1, (.c .fn))]⟩,
  ⟨none, none, .st 22 (.t 0) (.t 1)⟩])
  .ret))⟩
def ir7_124 : XF := ⟨12, 2, [], (.seq (.reg [⟨some 3, none, .box 108 1 (.t 1)⟩])
  (.seq (.reg [⟨some 4, none, .mv (.t 0)⟩,
  ⟨some 5, none, .mkf (.func 183) [] [(.t 3)]⟩,
  ⟨some 6, none, .nck (.t 4)⟩,
  ⟨some 7, none, .iaA 22 1 (.t 6) (.c (.i .i8 10))⟩,
  ⟨none, none, .st 1 (.t 7) (.t 5)⟩])
  (.reg [⟨some 8, none, .mv (.t 0)⟩,
  ⟨some 9, none, .mkf (.func 184) [] [(.t 3)]⟩,
  ⟨some 10, none, .nck (.t 8)⟩,
  ⟨some 11, none, .iaA 22 1 (.t 10) (.c (.i .i8 9))⟩,
  ⟨none, none, .st 1 (.t 11) (.t 9)⟩])))⟩
def ir7_125 : XF := ⟨41, 2, [(4, none)], (.seq (.reg [⟨some 4, none, .mv (.c (.b false))⟩])
  (.seq (.par [⟨some 5, none, .mv (.t 1)⟩,
  ⟨some 6, none, .nck (.t 5)⟩,
  ⟨some 7, none, .fa 0 (.t 6)⟩,
  ⟨some 8, none, .ld false 1 (.t 7)⟩,
  ⟨some 9, none, .bop .geq (.t 8) (.c (.i .i8 0))⟩,
  ⟨some 10, none, .mv (.t 9)⟩,
  ⟨some 11, some (10, true), .mv (.t 1)⟩,
  ⟨some 12, some (10, true), .nck (.t 11)⟩,
  ⟨some 13, some (10, true), .fa 0 (.t 12)⟩,
  ⟨some 14, some (10, true), .ld false 1 (.t 13)⟩,
  ⟨some 15, some (10, true), .cvi .i64 (.t 14)⟩,
  ⟨some 16, some (10, true), .bop .lss (.t 15) (.c (.i .i64 22))⟩,
  ⟨some 17, none, .pick (.t 10) (.t 16) (.c (.b false))⟩,
  ⟨some 18, none, .mv (.t 17)⟩,
  ⟨some 19, some (18, true), .mv (.t 0)⟩,
  ⟨some 20, some (18, true), .mv (.t 1)⟩,
  ⟨some 21, some (18, true), .nck (.t 20)⟩,
  ⟨some 22, some (18, true), .fa 0 (.t 21)⟩,
  ⟨some 23, some (18, true), .ld false 1 (.t 22)⟩,
  ⟨some 24, some (18, true), .nck (.t 19)⟩,
  ⟨some 25, some (18, true), .iaA 22 1 (.t 24) (.t 23)⟩,
  ⟨some 26, some (18, true), .ld false 1 (.t 25)⟩,
  ⟨some 27, some (18, true), .eq 3 true true (.t 26) (.c .fn)⟩,
  ⟨some 28, none, .pick (.t 18) (.t 27) (.c (.b false))⟩,
  ⟨some 29, none, .mv (.t 28)⟩,
  ⟨some 30, some (29, true), .mv (.t 0)⟩,
  ⟨some 31, some (29, true), .mv (.t 1)⟩,
  ⟨some 32, some (29, true), .nck (.t 31)⟩,
  ⟨some 33, some (29, true), .fa 0 (.t 32)⟩,
  ⟨some 34, some (29, true), .ld false 1 (.t 33)⟩,
  ⟨some 35, some (29, true), .nck (.t 30)⟩,
  ⟨some 36, some (29, true), .iaA 22 1 (.t 35) (.t 34)⟩,
  ⟨some 37, some (29, true), .ld false 1 (.t 36)⟩,
  ⟨some 38, some (29, true), .mv (.t 1)⟩,
  ⟨some 39, some (29, true), .callv (.t 37) [(.t 38)]⟩,
  ⟨some 40, none, .pick (.t 29) (.t 39) (.c (.b false))⟩,
  ⟨some 4, none, .mv (.t 40)⟩] [0, 1, 3, 7, 15, 31, 63, 127, 255, 511, 1023, 2047, 4095, 8191, 16383, 16383, 49151, 114687, 245759, 32767, 1048575, 2097151, 4194303, 8388607, 16777215, 33554431, 33554431, 100663295, 234881023, 503316479, 67108863, 2147483647, 4294967295, 33554431, 17179869183, 34359738367, 68719476735])
  .ret))⟩
def ir7_127 : XF := ⟨6, 2, [(4, none)], (.seq (.reg [⟨some 2, none, .box 111 1 (.t 0)⟩,
  ⟨some 3, none, .box 108 1 (.t 1)⟩,
  ⟨some 4, none, .mv (.c .fn)⟩])
  (.seq (.reg [⟨some 5, none, .mkf (.func 185) [] [(.t 2), (.t 3)]⟩,
  ⟨some 4, none, .mv (.t 5)⟩])
  .ret))⟩
def ir7_130 : XF := ⟨11, 1, [(2, none)], (.seq (.reg [⟨some 2, none, .mv (.c (.b false))⟩])
  (.seq (.reg [⟨some 6, none, .mv (.t 0)⟩,
  ⟨some 7, none, .call 187 [(.t 6), (.c (.i .i64 0))]⟩,
  ⟨some 5, none, .mv (.t 7)⟩,
  ⟨some 8, none, .ex (.t 5) 0⟩,
  ⟨some 9, none, .ex (.t 5) 1⟩,
  ⟨some 3, none, .mv (.t 8)⟩,
  ⟨some 4, none, .mv (.t 9)⟩])
  (.seq (.reg [⟨some 10, none, .mv (.t 4)⟩,
  ⟨some 2, none, .mv (.t 10)⟩])
  .ret)))⟩
def ir7_142 : XF := ⟨64, 2, [(3, none)], (.seq (.reg [⟨some 3, none, .mv (.c (.b false))⟩])
  (.seq (.par [⟨some 4, none, .mv (.t 0)⟩,
  ⟨some 5, none, .nck (.t 4)⟩,
  ⟨some 6, none, .fa 0 (.t 5)⟩,
  ⟨some 7, none, .ld false 1 (.t 6)⟩,
  ⟨some 8, none, .bop .eql (.t 7) (.c (.i .i8 3))⟩,
  ⟨some 9, none, .mv (.t 8)⟩,
  ⟨some 10, some (9, true), .bld [(.b false), (.b false), (.b false), (.b false)] [(0, 1, (.c (.b true))), (3, 1, (.c (.b true)))]⟩,
  ⟨some 11, some (9, true), .mv (.t 0)⟩,
  ⟨some 12, some (9, true), .call 71 [(.t 10), (.t 11)]⟩,
  ⟨some 13, none, .pick (.t 9) (.t 12) (.c (.b false))⟩,
  ⟨some 14, none, .mv (.t 13)⟩,
  ⟨some 15, some (14, true), .mv (.t 0)⟩,
  ⟨some 16, some (14, true), .nck (.t 15)⟩,
  ⟨some 17, some (14, true), .fa 1 (.t 16)⟩,
  ⟨some 18, some (14, true), .ld false 1 (.t 17)⟩,
  ⟨some 19, some (14, true), .ld false 1 (.t 1)⟩,
  ⟨some 20, some (14, true), .bop .eql (.t 18) (.t 19)⟩,
  ⟨some 21, none, .pick (.t 14) (.t 20) (.c (.b false))⟩,
  ⟨some 22, none, .mv (.t 21)⟩,
  ⟨some 23, some (22, true), .ld false 1 (.t 1)⟩,
  ⟨some 24, some (22, true), .bop .geq (.t 23) (.c (.i .i64 0))⟩,
  ⟨some 25, none, .pick (.t 22) (.t 24) (.c (.b false))⟩,
  ⟨some 26, none, .mv (.t 25)⟩,
  ⟨some 27, some (26, true), .mv (.t 0)⟩,
  ⟨some 28, some (26, true), .nck (.t 27)⟩,
  ⟨some 29, some (26, true), .fa 4 (.t 28)⟩,
  ⟨some 30, some (26, true), .ld false 1 (.t 29)⟩,
  ⟨some 31, some (26, true), .len 1 (.t 30)⟩,
  ⟨some 32, some (26, true), .bop .sub (.t 31) (.c (.i .i64 2))⟩,
  ⟨some 33, some (26, true), .ld false 1 (.t 1)⟩,
  ⟨some 34, some (26, true), .bop .geq (.t 32) (.t 33)⟩,
  ⟨some 35, none, .pick (.t 26) (.t 34) (.c (.b false))⟩,
  ⟨some 36, none, .mv (.t 35)⟩,
  ⟨some 37, some (36, true), .mv (.t 0)⟩,
  ⟨some 38, some (36, true), .nck (.t 37)⟩,
  ⟨some 39, some (36, true), .fa 4 (.t 38)⟩,
  ⟨some 40, some (36, true), .ld false 1 (.t 39)⟩,
  ⟨some 41, some (36, true), .ld false 1 (.t 1)⟩,
  ⟨some 42, some (36, true), .slc 5 (.t 40) none (some (.t 41)) none⟩,
  ⟨some 43, some (36, true), .call 73 [(.t 42), (.c (.f (.func 65) [] []))]⟩,
  ⟨some 44, none, .pick (.t 36) (.t 43) (.c (.b false))⟩,
  ⟨some 45, none, .mv (.t 44)⟩,
  ⟨some 46, some (45, true), .mv (.t 0)⟩,
  ⟨some 47, some (45, true), .nck (.t 46)⟩,
  ⟨some 48, some (45, true), .fa 4 (.t 47)⟩,
  ⟨some 49, some (45, true), .ld false 1 (.t 48)⟩,
  ⟨some 50, some (45, true), .ld false 1 (.t 1)⟩,
  ⟨some 51, some (45, true), .ia 5 (.t 49) (.t 50)⟩,
  ⟨some 52, some (45, true), .call 68 [(.t 51)]⟩,
  ⟨some 53, none, .pick (.t 45) (.t 52) (.c (.b false))⟩,
  ⟨some 54, none, .mv (.t 53)⟩,
  ⟨some 55, some (54, true), .mv (.t 0)⟩,
  ⟨some 56, some (54, true), .nck (.t 55)⟩,
  ⟨some 57, some (54, true), .fa 4 (.t 56)⟩,
  ⟨some 58, some (54, true), .ld false 1 (.t 57)⟩,
  ⟨some 59, some (54, true), .ld false 1 (.t 1)⟩,
  ⟨some 60, some (54, true), .bop .add (.t 59) (.c (.i .i64 1))⟩,
  ⟨some 61, some (54, true), .slc 5 (.t 58) (some (.t 60)) none none⟩,
  ⟨some 62, some (54, true), .call 73 [(.t 61), (.c (.f (.func 66) [] []))]⟩,
  ⟨some 63, none, .pick (.t 54) (.t 62) (.c (.b false))⟩,
  ⟨some 3, none, .mv (.t 63)⟩] [0, 1, 3, 7, 15, 31, 63, 63, 255, 511, 1023, 2047, 4095, 8191, 16383, 2047, 65535, 131071, 262143, 524287, 1048575, 2097151, 4194303, 8388607, 16777215, 33554431, 67108863, 134217727, 268435455, 8388607, 1073741823, 2147483647, 4294967295, 8589934591, 17179869183, 34359738367, 68719476735, 8589934591, 274877906943, 549755813887, 1099511627775, 2199023255551, 4398046511103, 8796093022207, 17592186044415, 35184372088831, 4398046511103, 140737488355327, 281474976710655, 562949953421311, 1125899906842623, 2251799813685247, 4503599627370495, 9007199254740991, 18014398509481983, 2251799813685247, 38280596832649215, 144115188075855871, 288230376151711743, 576460752303423487, 1152921504606846975])
  .ret))⟩
def ir7_143 : XF := ⟨19, 2, [(4, none), (5, none)], (.seq (.reg [⟨some 4, none, .mv (.c (.i .i64 0))⟩,
  ⟨some 5, none, .mv (.c .ifn)⟩])
  (.seq (.reg [⟨some 6, none, .mv (.t 0)⟩,
  ⟨some 7, none, .call 188 [(.t 6)]⟩])
  (.seq (.reg [⟨some 8, none, .mv (.t 0)⟩,
  ⟨some 9, none, .mv (.t 0)⟩,
  ⟨some 10, none, .nck (.t 9)⟩,
  ⟨some 11, none, .fa 1 (.t 10)⟩,
  ⟨some 12, none, .ld false 1 (.t 11)⟩,
  ⟨some 13, none, .mv (.t 1)⟩,
  ⟨some 14, none, .app 5 1 (.t 12) (.t 13)⟩,
  ⟨some 15, none, .nck (.t 8)⟩,
  ⟨some 16, none, .fa 1 (.t 15)⟩,
  ⟨none, none, .st 1 (.t 16) (.t 14)⟩])
  (.seq (.reg [⟨some 17, none, .mv (.t 1)⟩,
  ⟨some 18, none, .len 0 (.t 17)⟩,
  ⟨some 4, none, .mv (.t 18)⟩,
  ⟨some 5, none, .mv (.c .ifn)⟩])
  .ret))))⟩
def ir7_144 : XF := ⟨5, 1, [(2, none)], (.seq (.reg [⟨some 2, none, .mv (.c (.s []))⟩])
  (.seq (.reg [⟨some 3, none, .mv (.t 0)⟩,
  ⟨some 4, none, .call 189 [(.t 3)]⟩,
  ⟨some 2, none, .mv (.t 4)⟩])
  .ret))⟩
def ir7_145 : XF := ⟨314, 2, [], (.seq (.reg [⟨some 7, none, .mv (.t 1)⟩,
  ⟨some 8, none, .nck (.t 7)⟩,
  ⟨some 9, none, .fa 0 (.t 8)⟩,
  ⟨some 10, none, .ld false 1 (.t 9)⟩])
  (.blk 0 (.seq (.seq (.reg [⟨some 12, none, .bop .eql (.t 10) (.c (.i .i8 5))⟩,
  ⟨some 11, none, .mv (.t 12)⟩])
  (.cond (.t 11) .skip
  (.reg [⟨some 13, none, .bop .eql (.t 10) (.c (.i .i8 7))⟩,
  ⟨some 11, none, .mv (.t 13)⟩])))
  (.cond (.t 11) (.reg [⟨some 14, none, .mv (.t 0)⟩,
  ⟨some 15, none, .mv (.t 1)⟩,
  ⟨some 16, none, .nck (.t 15)⟩,
  ⟨some 17, none, .fa 2 (.t 16)⟩,
  ⟨some 18, none, .ld false 1 (.t 17)⟩,
  ⟨some 19, none, .mki 9 (.t 18)⟩,
  ⟨some 20, none, .bls 20 1 1 [.ifn] [(0, 1, (.t 19))]⟩,
  ⟨some 21, none, .call 76 [(.t 14), (.t 20)]⟩])
  (.seq (.reg [⟨some 23, none, .bop .eql (.t 10) (.c (.i .i8 6))⟩,
  ⟨some 22, none, .mv (.t 23)⟩])
  (.cond (.t 22) (.reg [⟨some 24, none, .mv (.t 0)⟩,
  ⟨some 25, none, .mv (.t 1)⟩,
  ⟨some 26, none, .nck (.t 25)⟩,
  ⟨some 27, none, .fa 1 (.t 26)⟩,
  ⟨some 28, none, .ld false 1 (.t 27)⟩,
  ⟨some 29, none, .mki 3 (.t 28)⟩,
  ⟨some 30, none, .bls 20 1 1 [.ifn] [(0, 1, (.t 29))]⟩,
  ⟨some 31, none, .call 76 [(.t 24), (.t 30)]⟩])
  (.seq (.reg [⟨some 33, none, .bop .eql (.t 10) (.c (.i .i8 8))⟩,
  ⟨some 32, none, .mv (.t 33)⟩])
  (.cond (.t 32) (.reg [⟨some 34, none, .mv (.t 0)⟩,
  ⟨some 35, none, .mki 9 (.c (.s [91, 93]))⟩,
  ⟨some 36, none, .bls 20 1 1 [.ifn] [(0, 1, (.t 35))]⟩,
  ⟨some 37, none, .call 76 [(.t 34), (.t 36)]⟩])
  (.seq (.reg [⟨some 39, none, .bop .eql (.t 10) (.c (.i .i8 9))⟩,
  ⟨some 38, none, .mv (.t 39)⟩])
  (.cond (.t 38) (.par [⟨some 40, none, .mv (.t 0)⟩,
  ⟨some 41, none, .mki 9 (.c (.s [91]))⟩,
  ⟨some 42, none, .mv (.t 1)⟩,
  ⟨some 43, none, .nck (.t 42)⟩,
  ⟨some 44, none, .fa 4 (.t 43)⟩,
  ⟨some 45, none, .ld false 1 (.t 44)⟩,
  ⟨some 46, none, .ia 5 (.t 45) (.c (.i .i64 0))⟩,
  ⟨some 47, none, .ld true 5 (.t 46)⟩,
  ⟨some 48, none, .mki 57 (.t 47)⟩,
  ⟨some 49, none, .mki 9 (.c (.s [124]))⟩,
  ⟨some 50, none, .mv (.t 1)⟩,
  ⟨some 51, none, .nck (.t 50)⟩,
  ⟨some 52, none, .fa 4 (.t 51)⟩,
  ⟨some 53, none, .ld false 1 (.t 52)⟩,
  ⟨some 54, none, .ia 5 (.t 53) (.c (.i .i64 1))⟩,
  ⟨some 55, none, .ld true 5 (.t 54)⟩,
  ⟨some 56, none, .mki 57 (.t 55)⟩,
  ⟨some 57, none, .mki 9 (.c (.s [93]))⟩,
  ⟨some 58, none, .bls 20 1 5 [.ifn, .ifn, .ifn, .ifn, .ifn] [(0, 1, (.t 41)), (1, 1, (.t 48)), (2, 1, (.t 49)), (3, 1, (.t 56)), (4, 1, (.t 57))]⟩,
  ⟨some 59, none, .call 76 [(.t 40), (.t 58)]⟩] [0, 0, 0, 4, 12, 28, 60, 124, 252, 0, 0, 1024, 3072, 7168, 15360, 31744, 64512, 0, 262142, 524287])
  (.seq (.reg [⟨some 61, none, .bop .eql (.t 10) (.c (.i .i8 10))⟩,
  ⟨some 60, none, .mv (.t 61)⟩])
  (.cond (.t 60) (.seq (.reg [⟨some 62, none, .mv (.t 0)⟩,
  ⟨some 63, none, .mki 9 (.c (.s [123]))⟩,
  ⟨some 64, none, .bls 20 1 1 [.ifn] [(0, 1, (.t 63))]⟩,
  ⟨some 65, none, .call 76 [(.t 62), (.t 64)]⟩])
  (.seq (.reg [⟨some 66, none, .mv (.t 0)⟩,
  ⟨some 67, none, .mv (.t 1)⟩,
  ⟨some 68, none, .nck (.t 67)⟩,
  ⟨some 69, none, .fa 4 (.t 68)⟩,
  ⟨some 70, none, .ld false 1 (.t 69)⟩,
  ⟨some 71, none, .mv (.t 0)⟩,
  ⟨some 72, none, .mkf (.func 145) [(.t 71)] []⟩,
  ⟨some 73, none, .call 77 [(.t 66), (.t 70), (.c (.s [44, 32])), (.t 72)]⟩])
  (.reg [⟨some 74, none, .mv (.t 0)⟩,
  ⟨some 75, none, .mki 9 (.c (.s [125]))⟩,
  ⟨some 76, none, .bls 20 1 1 [.ifn] [(0, 1, (.t 75))]⟩,
  ⟨some 77, none, .call 76 [(.t 74), (.t 76)]⟩])))
  (.seq (.reg [⟨some 79, none, .bop .eql (.t 10) (.c (.i .i8 11))⟩,
  ⟨some 78, none, .mv (.t 79)⟩])
  (.cond (.t 78) (.par [⟨some 80, none, .mv (.t 0)⟩,
  ⟨some 81, none, .mki 9 (.c (.s [40]))⟩,
  ⟨some 82, none, .mv (.t 1)⟩,
  ⟨some 83, none, .nck (.t 82)⟩,
  ⟨some 84, none, .fa 4 (.t 83)⟩,
  ⟨some 85, none, .ld false 1 (.t 84)⟩,
  ⟨some 86, none, .ia 5 (.t 85) (.c (.i .i64 0))⟩,
  ⟨some 87, none, .ld true 5 (.t 86)⟩,
  ⟨some 88, none, .mki 57 (.t 87)⟩,
  ⟨some 89, none, .mv (.t 1)⟩,
  ⟨some 90, none, .nck (.t 89)⟩,
  ⟨some 91, none, .fa 2 (.t 90)⟩,
  ⟨some 92, none, .ld false 1 (.t 91)⟩,
  ⟨some 93, none, .bop .add (.c (.s [32])) (.t 92)⟩,
  ⟨some 94, none, .bop .add (.t 93) (.c (.s [32]))⟩,
  ⟨some 95, none, .mki 9 (.t 94)⟩,
  ⟨some 96, none, .mv (.t 1)⟩,
  ⟨some 97, none, .nck (.t 96)⟩,
  ⟨some 98, none, .fa 4 (.t 97)⟩,
  ⟨some 99, none, .ld false 1 (.t 98)⟩,
  ⟨some 100, none, .ia 5 (.t 99) (.c (.i .i64 1))⟩,
  ⟨some 101, none, .ld true 5 (.t 100)⟩,
  ⟨some 102, none, .mki 57 (.t 101)⟩,
  ⟨some 103, none, .mki 9 (.c (.s [41]))⟩,
  ⟨some 104, none, .bls 20 1 5 [.ifn, .ifn, .ifn, .ifn, .ifn] [(0, 1, (.t 81)), (1, 1, (.t 88)), (2, 1, (.t 95)), (3, 1, (.t 102)), (4, 1, (.t 103))]⟩,
  ⟨some 105, none, .call 76 [(.t 80), (.t 104)]⟩] [0, 0, 0, 4, 12, 28, 60, 124, 252, 0, 512, 1536, 3584, 7680, 15872, 32256, 0, 65536, 196608, 458752, 983040, 2031616, 4128768, 0, 16777214, 33554431])
  (.seq (.reg [⟨some 107, none, .bop .eql (.t 10) (.c (.i .i8 13))⟩,
  ⟨some 106, none, .mv (.t 107)⟩])
  (.cond (.t 106) (.par [⟨some 108, none, .mv (.t 0)⟩,
  ⟨some 109, none, .mki 9 (.c (.s [40]))⟩,
  ⟨some 110, none, .mv (.t 1)⟩,
  ⟨some 111, none, .nck (.t 110)⟩,
  ⟨some 112, none, .fa 4 (.t 111)⟩,
  ⟨some 113, none, .ld false 1 (.t 112)⟩,
  ⟨some 114, none, .ia 5 (.t 113) (.c (.i .i64 0))⟩,
  ⟨some 115, none, .ld true 5 (.t 114)⟩,
  ⟨some 116, none, .mki 57 (.t 115)⟩,
  ⟨some 117, none, .mki 9 (.c (.s [32, 61, 32]))⟩,
  ⟨some 118, none, .mv (.t 1)⟩,
  ⟨some 119, none, .nck (.t 118)⟩,
  ⟨some 120, none, .fa 4 (.t 119)⟩,
  ⟨some 121, none, .ld false 1 (.t 120)⟩,
  ⟨some 122, none, .ia 5 (.t 121) (.c (.i .i64 1))⟩,
  ⟨some 123, none, .ld true 5 (.t 122)⟩,
  ⟨some 124, none, .mki 57 (.t 123)⟩,
  ⟨some 125, none, .mki 9 (.c (.s [41]))⟩,
  ⟨some 126, none, .bls 20 1 5 [.ifn, .ifn, .ifn, .ifn, .ifn] [(0, 1, (.t 109)), (1, 1, (.t 116)), (2, 1, (.t 117)), (3, 1, (.t 124)), (4, 1, (.t 125))]⟩,
  ⟨some 127, none, .call 76 [(.t 108), (.t 126)]⟩] [0, 0, 0, 4, 12, 28, 60, 124, 252, 0, 0, 1024, 3072, 7168, 15360, 31744, 64512, 0, 262142, 524287])
  (.seq (.seq (.reg [⟨some 129, none, .bop .eql (.t 10) (.c (.i .i8 12))⟩,
  ⟨some 128, none, .mv (.t 129)⟩])
  (.cond (.t 128) .skip
  (.reg [⟨some 130, none, .bop .eql (.t 10) (.c (.i .i8 14))⟩,
  ⟨some 128, none, .mv (.t 130)⟩])))
  (.cond (.t 128) (.seq (.reg [⟨some 131, none, .mv (.t 0)⟩,
  ⟨some 132, none, .mv (.t 1)⟩,
  ⟨some 133, none, .nck (.t 132)⟩,
  ⟨some 134, none, .fa 2 (.t 133)⟩,
  ⟨some 135, none, .ld false 1 (.t 134)⟩,
  ⟨some 136, none, .mki 9 (.t 135)⟩,
  ⟨some 137, none, .bls 20 1 1 [.ifn] [(0, 1, (.t 136))]⟩,
  ⟨some 138, none, .call 76 [(.t 131), (.t 137)]⟩])
  (.reg [⟨some 139, none, .mv (.t 0)⟩,
  ⟨some 140, none, .mv (.t 1)⟩,
  ⟨some 141, none, .nck (.t 140)⟩,
  ⟨some 142, none, .fa 4 (.t 141)⟩,
  ⟨some 143, none, .ld false 1 (.t 142)⟩,
  ⟨some 144, none, .call 79 [(.t 139), (.t 143)]⟩]))
  (.seq (.reg [⟨some 146, none, .bop .eql (.t 10) (.c (.i .i8 15))⟩,
  ⟨some 145, none, .mv (.t 146)⟩])
  (.cond (.t 145) (.seq (.par [⟨some 147, none, .mv (.t 0)⟩,
  ⟨some 148, none, .mv (.t 1)⟩,
  ⟨some 149, none, .nck (.t 148)⟩,
  ⟨some 150, none, .fa 2 (.t 149)⟩,
  ⟨some 151, none, .ld false 1 (.t 150)⟩,
  ⟨some 152, none, .mki 9 (.t 151)⟩,
  ⟨some 153, none, .mki 9 (.c (.s [58]))⟩,
  ⟨some 154, none, .mv (.t 1)⟩,
  ⟨some 155, none, .nck (.t 154)⟩,
  ⟨some 156, none, .fa 3 (.t 155)⟩,
  ⟨some 157, none, .ld false 1 (.t 156)⟩,
  ⟨some 158, none, .mki 9 (.t 157)⟩,
  ⟨some 159, none, .bls 20 1 3 [.ifn, .ifn, .ifn] [(0, 1, (.t 152)), (1, 1, (.t 153)), (2, 1, (.t 158))]⟩,
  ⟨some 160, none, .call 76 [(.t 147), (.t 159)]⟩] [0, 0, 2, 6, 14, 30, 0, 0, 128, 384, 896, 1920, 4094, 8191])
  (.reg [⟨some 161, none, .mv (.t 0)⟩,
  ⟨some 162, none, .mv (.t 1)⟩,
  ⟨some 163, none, .nck (.t 162)⟩,
  ⟨some 164, none, .fa 4 (.t 163)⟩,
  ⟨some 165, none, .ld false 1 (.t 164)⟩,
  ⟨some 166, none, .call 79 [(.t 161), (.t 165)]⟩]))
  (.seq (.reg [⟨some 168, none, .bop .eql (.t 10) (.c (.i .i8 16))⟩,
  ⟨some 167, none, .mv (.t 168)⟩])
  (.cond (.t 167) (.seq (.reg [⟨some 169, none, .mv (.t 0)⟩,
  ⟨some 170, none, .mv (.t 1)⟩,
  ⟨some 171, none, .nck (.t 170)⟩,
  ⟨some 172, none, .fa 4 (.t 171)⟩,
  ⟨some 173, none, .ld false 1 (.t 172)⟩,
  ⟨some 174, none, .ia 5 (.t 173) (.c (.i .i64 0))⟩,
  ⟨some 175, none, .ld true 5 (.t 174)⟩,
  ⟨some 176, none, .mki 57 (.t 175)⟩,
  ⟨some 177, none, .bls 20 1 1 [.ifn] [(0, 1, (.t 176))]⟩,
  ⟨some 178, none, .call 76 [(.t 169), (.t 177)]⟩])
  (.reg [⟨some 179, none, .mv (.t 0)⟩,
  ⟨some 180, none, .mv (.t 1)⟩,
  ⟨some 181, none, .nck (.t 180)⟩,
  ⟨some 182, none, .fa 4 (.t 181)⟩,
  ⟨some 183, none, .ld false 1 (.t 182)⟩,
  ⟨some 184, none, .slc 5 (.t 183) (some (.c (.i .i64 1))) none none⟩,
  ⟨some 185, none, .call 79 [(.t 179), (.t 184)]⟩]))
  (.seq (.reg [⟨some 187, none, .bop .eql (.t 10) (.c (.i .i8 17))⟩,
  ⟨some 186, none, .mv (.t 187)⟩])
  (.cond (.t 186) (.par [⟨some 188, none, .mv (.t 0)⟩,
  ⟨some 189, none, .mki 9 (.c (.s [102, 117, 110, 32]))⟩,
  ⟨some 190, none, .mv (.t 1)⟩,
  ⟨some 191, none, .nck (.t 190)⟩,
  ⟨some 192, none, .fa 2 (.t 191)⟩,
  ⟨some 193, none, .ld false 1 (.t 192)⟩,
  ⟨some 194, none, .mki 9 (.t 193)⟩,
  ⟨some 195, none, .mki 9 (.c (.s [58]))⟩,
  ⟨some 196, none, .mv (.t 1)⟩,
  ⟨some 197, none, .nck (.t 196)⟩,
  ⟨some 198, none, .fa 3 (.t 197)⟩,
  ⟨some 199, none, .ld false 1 (.t 198)⟩,
  ⟨some 200, none, .mki 9 (.t 199)⟩,
  ⟨some 201, none, .mki 9 (.c (.s [47]))⟩,
  ⟨some 202, none, .mv (.t 1)⟩,
  ⟨some 203, none, .nck (.t 202)⟩,
  ⟨some 204, none, .fa 1 (.t 203)⟩,
  ⟨some 205, none, .ld false 1 (.t 204)⟩,
  ⟨some 206, none, .mki 3 (.t 205)⟩,
  ⟨some 207, none, .bls 20 1 6 [.ifn, .ifn, .ifn, .ifn, .ifn, .ifn] [(0, 1, (.t 189)), (1, 1, (.t 194)), (2, 1, (.t 195)), (3, 1, (.t 200)), (4, 1, (.t 201)), (5, 1, (.t 206))]⟩,
  ⟨some 208, none, .call 76 [(.t 188), (.t 207)]⟩] [0, 0, 0, 4, 12, 28, 60, 0, 0, 256, 768, 1792, 3840, 0, 0, 16384, 49152, 114688, 245760, 524286, 1048575])
  (.seq (.seq (.reg [⟨some 210, none, .bop .eql (.t 10) (.c (.i .i8 18))⟩,
  ⟨some 209, none, .mv (.t 210)⟩])
  (.cond (.t 209) .skip
  (.reg [⟨some 211, none, .bop .eql (.t 10) (.c (.i .i8 19))⟩,
  ⟨some 209, none, .mv (.t 211)⟩])))
  (.cond (.t 209) (.seq (.reg [⟨some 212, none, .mkm⟩,
  ⟨some 213, none, .bld [(.s []), (.s [])] [(0, 1, (.c (.s [99, 97, 115, 101, 32]))), (1, 1, (.c (.s [32, 111, 102, 32])))]⟩,
  ⟨none, none, .ins false (.t 212) (.c (.i .i8 18)) (.t 213)⟩,
  ⟨some 214, none, .bld [(.s []), (.s [])] [(0, 1, (.c (.s [116, 114, 121, 32]))), (1, 1, (.c (.s [32, 99, 97, 116, 99, 104, 32])))]⟩,
  ⟨none, none, .ins false (.t 212) (.c (.i .i8 19)) (.t 214)⟩,
  ⟨some 215, none, .mv (.t 212)⟩,
  ⟨some 216, none, .mv (.t 1)⟩,
  ⟨some 217, none, .nck (.t 216)⟩,
  ⟨some 218, none, .fa 0 (.t 217)⟩,
  ⟨some 219, none, .ld false 1 (.t 218)⟩,
  ⟨some 220, none, .lk false false (.ag [(.s []), (.s [])]) (.t 215) (.t 219)⟩,
  ⟨some 4, none, .box 220 2 (.c (.ag [(.s []), (.s [])]))⟩,
  ⟨none, none, .st 2 (.t 4) (.t 220)⟩])
  (.seq (.par [⟨some 221, none, .mv (.t 0)⟩,
  ⟨some 222, none, .iaA 2 1 (.t 4) (.c (.i .i64 0))⟩,
  ⟨some 223, none, .ld false 1 (.t 222)⟩,
  ⟨some 224, none, .mki 9 (.t 223)⟩,
  ⟨some 225, none, .mv (.t 1)⟩,
  ⟨some 226, none, .nck (.t 225)⟩,
  ⟨some 227, none, .fa 4 (.t 226)⟩,
  ⟨some 228, none, .ld false 1 (.t 227)⟩,
  ⟨some 229, none, .ia 5 (.t 228) (.c (.i .i64 0))⟩,
  ⟨some 230, none, .ld true 5 (.t 229)⟩,
  ⟨some 231, none, .mki 57 (.t 230)⟩,
  ⟨some 232, none, .iaA 2 1 (.t 4) (.c (.i .i64 1))⟩,
  ⟨some 233, none, .ld false 1 (.t 232)⟩,
  ⟨some 234, none, .mki 9 (.t 233)⟩,
  ⟨some 235, none, .bls 20 1 3 [.ifn, .ifn, .ifn] [(0, 1, (.t 224)), (1, 1, (.t 231)), (2, 1, (.t 234))]⟩,
  ⟨some 236, none, .call 76 [(.t 221), (.t 235)]⟩] [0, 0, 2, 6, 0, 16, 48, 112, 240, 496, 1008, 0, 2048, 6144, 16382, 32767])
  (.seq (.reg [⟨some 237, none, .mv (.t 0)⟩,
  ⟨some 238, none, .mv (.t 1)⟩,
  ⟨some 239, none, .nck (.t 238)⟩,
  ⟨some 240, none, .fa 4 (.t 239)⟩,
  ⟨some 241, none, .ld false 1 (.t 240)⟩,
  ⟨some 242, none, .slc 5 (.t 241) (some (.c (.i .i64 1))) none none⟩,
  ⟨some 243, none, .mv (.t 0)⟩,
  ⟨some 244, none, .mkf (.func 190) [(.t 243)] []⟩,
  ⟨some 245, none, .call 77 [(.t 237), (.t 242), (.c (.s [59, 32])), (.t 244)]⟩])
  (.reg [⟨some 246, none, .mv (.t 0)⟩,
  ⟨some 247, none, .mki 9 (.c (.s [32, 101, 110, 100]))⟩,
  ⟨some 248, none, .bls 20 1 1 [.ifn] [(0, 1, (.t 247))]⟩,
  ⟨some 249, none, .call 76 [(.t 246), (.t 248)]⟩]))))
  (.seq (.reg [⟨some 251, none, .bop .eql (.t 10) (.c (.i .i8 20))⟩,
  ⟨some 250, none, .mv (.t 251)⟩])
  (.cond (.t 250) (.seq (.reg [⟨some 252, none, .mv (.t 0)⟩,
  ⟨some 253, none, .mki 9 (.c (.s [114, 101, 99, 101, 105, 118, 101]))⟩,
  ⟨some 254, none, .bls 20 1 1 [.ifn] [(0, 1, (.t 253))]⟩,
  ⟨some 255, none, .call 76 [(.t 252), (.t 254)]⟩])
  (.seq (.par [⟨some 256, none, .mv (.t 1)⟩,
  ⟨some 257, none, .nck (.t 256)⟩,
  ⟨some 258, none, .fa 4 (.t 257)⟩,
  ⟨some 259, none, .ld false 1 (.t 258)⟩,
  ⟨some 260, none, .len 1 (.t 259)⟩,
  ⟨some 261, none, .mv (.t 1)⟩,
  ⟨some 262, none, .nck (.t 261)⟩,
  ⟨some 263, none, .fa 1 (.t 262)⟩,
  ⟨some 264, none, .ld false 1 (.t 263)⟩,
  ⟨some 265, none, .bop .sub (.t 260) (.t 264)⟩,
  ⟨some 5, none, .mv (.t 265)⟩] [0, 1, 3, 7, 15, 0, 32, 96, 224, 511, 1023])
  (.seq (.seq (.reg [⟨some 266, none, .mv (.t 5)⟩,
  ⟨some 267, none, .bop .gtr (.t 266) (.c (.i .i64 0))⟩])
  (.cond (.t 267) (.reg [⟨some 268, none, .mv (.t 0)⟩,
  ⟨some 269, none, .mki 9 (.c (.s [32]))⟩,
  ⟨some 270, none, .bls 20 1 1 [.ifn] [(0, 1, (.t 269))]⟩,
  ⟨some 271, none, .call 76 [(.t 268), (.t 270)]⟩])
  .skip))
  (.seq (.reg [⟨some 272, none, .mv (.t 0)⟩,
  ⟨some 273, none, .mv (.t 1)⟩,
  ⟨some 274, none, .nck (.t 273)⟩,
  ⟨some 275, none, .fa 4 (.t 274)⟩,
  ⟨some 276, none, .ld false 1 (.t 275)⟩,
  ⟨some 277, none, .mv (.t 5)⟩,
  ⟨some 278, none, .slc 5 (.t 276) none (some (.t 277)) none⟩,
  ⟨some 279, none, .mv (.t 0)⟩,
  ⟨some 280, none, .mkf (.func 190) [(.t 279)] []⟩,
  ⟨some 281, none, .call 77 [(.t 272), (.t 278), (.c (.s [59, 32])), (.t 280)]⟩])
  (.seq (.seq (.reg [⟨some 282, none, .mv (.t 1)⟩,
  ⟨some 283, none, .nck (.t 282)⟩,
  ⟨some 284, none, .fa 1 (.t 283)⟩,
  ⟨some 285, none, .ld false 1 (.t 284)⟩,
  ⟨some 286, none, .bop .eql (.t 285) (.c (.i .i64 1))⟩])
  (.cond (.t 286) (.seq (.reg [⟨some 287, none, .mv (.t 1)⟩,
  ⟨some 288, none, .nck (.t 287)⟩,
  ⟨some 289, none, .fa 4 (.t 288)⟩,
  ⟨some 290, none, .ld false 1 (.t 289)⟩,
  ⟨some 291, none, .mv (.t 5)⟩,
  ⟨some 292, none, .ia 5 (.t 290) (.t 291)⟩,
  ⟨some 293, none, .fa 4 (.t 292)⟩,
  ⟨some 294, none, .ld false 1 (.t 293)⟩,
  ⟨some 6, none, .mv (.t 294)⟩])
  (.seq (.reg [⟨some 295, none, .mv (.t 0)⟩,
  ⟨some 296, none, .mki 9 (.c (.s [32, 97, 102, 116, 101, 114, 32]))⟩,
  ⟨some 297, none, .mv (.t 6)⟩,
  ⟨some 298, none, .ia 5 (.t 297) (.c (.i .i64 0))⟩,
  ⟨some 299, none, .ld true 5 (.t 298)⟩,
  ⟨some 300, none, .mki 57 (.t 299)⟩,
  ⟨some 301, none, .mki 9 (.c (.s [32, 45, 62, 32]))⟩,
  ⟨some 302, none, .bls 20 1 3 [.ifn, .ifn, .ifn] [(0, 1, (.t 296)), (1, 1, (.t 300)), (2, 1, (.t 301))]⟩,
  ⟨some 303, none, .call 76 [(.t 295), (.t 302)]⟩])
  (.reg [⟨some 304, none, .mv (.t 0)⟩,
  ⟨some 305, none, .mv (.t 6)⟩,
  ⟨some 306, none, .slc 5 (.t 305) (some (.c (.i .i64 1))) none none⟩,
  ⟨some 307, none, .mv (.t 0)⟩,
  ⟨some 308, none, .mkf (.func 145) [(.t 307)] []⟩,
  ⟨some 309, none, .call 77 [(.t 304), (.t 306), (.c (.s [44, 32])), (.t 308)]⟩])))
  .skip))
  (.reg [⟨some 310, none, .mv (.t 0)⟩,
  ⟨some 311, none, .mki 9 (.c (.s [32, 101, 110, 100]))⟩,
  ⟨some 312, none, .bls 20 1 1 [.ifn] [(0, 1, (.t 311))]⟩,
  ⟨some 313, none, .call 76 [(.t 310), (.t 312)]⟩]))))))
  .skip))))))))))))))))))))))))))))⟩
def ir7_162 : XF := ⟨9, 1, [(2, none)], (.seq (.reg [⟨some 2, none, .mv (.c (.b false))⟩])
  (.seq (.reg [⟨some 3, none, .mv (.t 0)⟩,
  ⟨some 4, none, .bop .geq (.t 3) (.c (.i .i64 (-576460752303423488)))⟩,
  ⟨some 5, none, .mv (.t 4)⟩,
  ⟨some 6, some (5, true), .mv (.t 0)⟩,
  ⟨some 7, some (5, true), .bop .leq (.t 6) (.c (.i .i64 576460752303423487))⟩,
  ⟨some 8, none, .pick (.t 5) (.t 7) (.c (.b false))⟩,
  ⟨some 2, none, .mv (.t 8)⟩])
  .ret))⟩
def ir7_176 : XF := ⟨18, 1, [(2, none)], (.seq (.reg [⟨some 2, none, .mv (.c (.b false))⟩])
  (.seq (.reg [⟨some 3, none, .mv (.t 0)⟩,
  ⟨some 4, none, .len 0 (.t 3)⟩,
  ⟨some 5, none, .bop .geq (.t 4) (.c (.i .i64 1))⟩,
  ⟨some 6, none, .mv (.t 5)⟩,
  ⟨some 7, some (6, true), .mv (.t 0)⟩,
  ⟨some 8, some (6, true), .len 0 (.t 7)⟩,
  ⟨some 9, some (6, true), .bop .leq (.t 8) (.c (.i .i64 32))⟩,
  ⟨some 10, none, .pick (.t 6) (.t 9) (.c (.b false))⟩,
  ⟨some 11, none, .mv (.t 10)⟩,
  ⟨some 12, some (11, true), .mv (.t 0)⟩,
  ⟨some 13, some (11, true), .call 201 [(.t 12)]⟩,
  ⟨some 14, some (11, true), .mv (.t 0)⟩,
  ⟨some 15, some (11, true), .len 0 (.t 14)⟩,
  ⟨some 16, some (11, true), .bop .eql (.t 13) (.t 15)⟩,
  ⟨some 17, none, .pick (.t 11) (.t 16) (.c (.b false))⟩,
  ⟨some 2, none, .mv (.t 17)⟩])
  .ret))⟩
def ir7_177 : XF := ⟨24, 2, [(4, none)], (.seq (.reg [⟨some 4, none, .mv (.c (.b false))⟩])
  (.seq (.seq (.reg [⟨some 7, none, .mv (.t 1)⟩,
  ⟨some 8, none, .len 1 (.t 7)⟩,
  ⟨some 9, none, .mv (.c (.i .i64 0))⟩])
  (.blk 0 (.loop (.seq (.reg [⟨some 10, none, .bop .lss (.t 9) (.t 8)⟩])
  (.seq (.cond (.t 10) .skip
  (.exit 0))
  (.seq (.blk 1 (.seq (.reg [⟨some 11, none, .ia 2 (.t 7) (.t 9)⟩,
  ⟨some 12, none, .ld true 2 (.t 11)⟩,
  ⟨some 6, none, .box 211 2 (.c (.ag [(.i .u8 0), (.i .u8 0)]))⟩,
  ⟨none, none, .st 2 (.t 6) (.t 12)⟩])
  (.seq (.reg [⟨some 13, none, .iaA 2 1 (.t 6) (.c (.i .i64 0))⟩,
  ⟨some 14, none, .ld false 1 (.t 13)⟩,
  ⟨some 15, none, .mv (.t 0)⟩,
  ⟨some 16, none, .bop .leq (.t 14) (.t 15)⟩,
  ⟨some 17, none, .mv (.t 16)⟩,
  ⟨some 18, some (17, true), .mv (.t 0)⟩,
  ⟨some 19, some (17, true), .iaA 2 1 (.t 6) (.c (.i .i64 1))⟩,
  ⟨some 20, some (17, true), .ld false 1 (.t 19)⟩,
  ⟨some 21, some (17, true), .bop .leq (.t 18) (.t 20)⟩,
  ⟨some 22, none, .pick (.t 17) (.t 21) (.c (.b false))⟩])
  (.cond (.t 22) (.seq (.reg [⟨some 4, none, .mv (.c (.b true))⟩])
  .ret)
  .skip))))
  (.reg [⟨some 23, none, .bop .add (.t 9) (.c (.i .i64 1))⟩,
  ⟨some 9, none, .mv (.t 23)⟩])))))))
  (.seq (.reg [⟨some 4, none, .mv (.c (.b false))⟩])
  .ret)))⟩
def ir7_178 : XF := ⟨13, 1, [(2, none)], (.seq (.reg [⟨some 2, none, .mv (.c (.b false))⟩])
  (.seq (.reg [⟨some 3, none, .bld [(.b false), (.b false), (.b false), (.b false)] [(1, 1, (.c (.b true)))]⟩,
  ⟨some 4, none, .mv (.t 0)⟩,
  ⟨some 5, none, .call 71 [(.t 3), (.t 4)]⟩,
  ⟨some 6, none, .mv (.t 5)⟩,
  ⟨some 7, some (6, true), .mv (.t 0)⟩,
  ⟨some 8, some (6, true), .nck (.t 7)⟩,
  ⟨some 9, some (6, true), .fa 2 (.t 8)⟩,
  ⟨some 10, some (6, true), .ld false 1 (.t 9)⟩,
  ⟨some 11, some (6, true), .call 179 [(.t 10)]⟩,
  ⟨some 12, none, .pick (.t 6) (.t 11) (.c (.b false))⟩,
  ⟨some 2, none, .mv (.t 12)⟩])
  .ret))⟩
def ir7_179 : XF := ⟨28, 1, [(2, none)], (.seq (.reg [⟨some 2, none, .mv (.c (.b false))⟩])
  (.seq (.seq (.reg [⟨some 3, none, .mv (.t 0)⟩,
  ⟨some 4, none, .bop .eql (.t 3) (.c (.s []))⟩,
  ⟨some 5, none, .mv (.t 4)⟩,
  ⟨some 6, some (5, false), .mv (.t 0)⟩,
  ⟨some 7, some (5, false), .len 0 (.t 6)⟩,
  ⟨some 8, some (5, false), .bop .gtr (.t 7) (.c (.i .i64 32))⟩,
  ⟨some 9, none, .pick (.t 5) (.c (.b true)) (.t 8)⟩,
  ⟨some 10, none, .mv (.t 9)⟩,
  ⟨some 11, some (10, false), .mv (.t 0)⟩,
  ⟨some 12, some (10, false), .ixS (.t 11) (.c (.i .i64 0))⟩,
  ⟨some 13, some (10, false), .bop .neq (.t 12) (.c (.i .u8 95))⟩,
  ⟨some 14, some (10, false), .mv (.t 13)⟩,
  ⟨some 15, some (14, true), .mv (.t 0)⟩,
  ⟨some 16, some (14, true), .ixS (.t 15) (.c (.i .i64 0))⟩,
  ⟨some 17, some (14, true), .bop .lss (.t 16) (.c (.i .u8 65))⟩,
  ⟨some 18, some (14, true), .mv (.t 17)⟩,
  ⟨some 19, some (18, false), .mv (.t 0)⟩,
  ⟨some 20, some (18, false), .ixS (.t 19) (.c (.i .i64 0))⟩,
  ⟨some 21, some (18, false), .bop .gtr (.t 20) (.c (.i .u8 90))⟩,
  ⟨some 22, some (14, true), .pick (.t 18) (.c (.b true)) (.t 21)⟩,
  ⟨some 23, some (10, false), .pick (.t 14) (.t 22) (.c (.b false))⟩,
  ⟨some 24, none, .pick (.t 10) (.c (.b true)) (.t 23)⟩])
  (.cond (.t 24) (.seq (.reg [⟨some 2, none, .mv (.c (.b false))⟩])
  .ret)
  .skip))
  (.seq (.reg [⟨some 25, none, .mv (.t 0)⟩,
  ⟨some 26, none, .call 202 [(.t 25), (.c (.f (.func 203) [] []))]⟩,
  ⟨some 27, none, .un .not (.t 26)⟩,
  ⟨some 2, none, .mv (.t 27)⟩])
  .ret)))⟩
def ir7_180 : XF := ⟨13, 1, [(2, none)], (.seq (.reg [⟨some 2, none, .mv (.c (.b false))⟩])
  (.seq (.reg [⟨some 3, none, .bld [(.b false), (.b false), (.b false), (.b false)] [(0, 1, (.c (.b true)))]⟩,
  ⟨some 4, none, .mv (.t 0)⟩,
  ⟨some 5, none, .call 71 [(.t 3), (.t 4)]⟩,
  ⟨some 6, none, .mv (.t 5)⟩,
  ⟨some 7, some (6, true), .mv (.t 0)⟩,
  ⟨some 8, some (6, true), .nck (.t 7)⟩,
  ⟨some 9, some (6, true), .fa 1 (.t 8)⟩,
  ⟨some 10, some (6, true), .ld false 1 (.t 9)⟩,
  ⟨some 11, some (6, true), .call 162 [(.t 10)]⟩,
  ⟨some 12, none, .pick (.t 6) (.t 11) (.c (.b false))⟩,
  ⟨some 2, none, .mv (.t 12)⟩])
  .ret))⟩
def ir7_185 : XF := ⟨32, 3, [(4, none)], (.seq (.reg [⟨some 4, none, .mv (.c (.b false))⟩])
  (.seq (.par [⟨some 5, none, .bld [(.b false), (.b false), (.b false), (.b false)] [(1, 1, (.c (.b true))), (3, 1, (.c (.b true)))]⟩,
  ⟨some 6, none, .mv (.t 0)⟩,
  ⟨some 7, none, .call 71 [(.t 5), (.t 6)]⟩,
  ⟨some 8, none, .mv (.t 7)⟩,
  ⟨some 9, some (8, true), .ld false 1 (.t 1)⟩,
  ⟨some 10, some (8, true), .mv (.t 0)⟩,
  ⟨some 11, some (8, true), .nck (.t 10)⟩,
  ⟨some 12, some (8, true), .fa 2 (.t 11)⟩,
  ⟨some 13, some (8, true), .ld false 1 (.t 12)⟩,
  ⟨some 14, some (8, true), .callv (.t 9) [(.t 13)]⟩,
  ⟨some 15, none, .pick (.t 8) (.t 14) (.c (.b false))⟩,
  ⟨some 16, none, .mv (.t 15)⟩,
  ⟨some 17, some (16, true), .mv (.t 0)⟩,
  ⟨some 18, some (16, true), .nck (.t 17)⟩,
  ⟨some 19, some (16, true), .fa 4 (.t 18)⟩,
  ⟨some 20, some (16, true), .ld false 1 (.t 19)⟩,
  ⟨some 21, some (16, true), .len 1 (.t 20)⟩,
  ⟨some 22, some (16, true), .bop .eql (.t 21) (.c (.i .i64 2))⟩,
  ⟨some 23, none, .pick (.t 16) (.t 22) (.c (.b false))⟩,
  ⟨some 24, none, .mv (.t 23)⟩,
  ⟨some 25, some (24, true), .mv (.t 0)⟩,
  ⟨some 26, some (24, true), .nck (.t 25)⟩,
  ⟨some 27, some (24, true), .fa 4 (.t 26)⟩,
  ⟨some 28, some (24, true), .ld false 1 (.t 27)⟩,
  ⟨some 29, some (24, true), .ld false 1 (.t 2)⟩,
  ⟨some 30, some (24, true), .call 73 [(.t 28), (.t 29)]⟩,
  ⟨some 31, none, .pick (.t 24) (.t 30) (.c (.b false))⟩,
  ⟨some 4, none, .mv (.t 31)⟩] [0, 0, 3, 7, 15, 15, 47, 111, 239, 511, 1023, 2047, 4095, 8191, 16383, 32767, 65535, 131071, 262143, 524287, 1048575, 2097151, 4194303, 8388607, 1048575, 33554431, 67108863, 134217727])
  .ret))⟩
def ir7_187 : XF := ⟨30, 2, [(4, none), (5, none)], (.seq (.reg [⟨some 4, none, .mv (.c (.b false))⟩,
  ⟨some 5, none, .mv (.c (.b false))⟩])
  (.seq (.reg [⟨some 9, none, .mkm⟩,
  ⟨some 10, none, .bld [(.b false), (.b false), (.b false)] [(1, 1, (.c (.b true)))]⟩,
  ⟨none, none, .ins true (.t 9) (.c (.s [61, 58, 61])) (.t 10)⟩,
  ⟨some 11, none, .bld [(.b false), (.b false), (.b false)] [(0, 1, (.c (.b true))), (2, 1, (.c (.b true)))]⟩,
  ⟨none, none, .ins true (.t 9) (.c (.s [61, 47, 61])) (.t 11)⟩,
  ⟨some 12, none, .bld [(.b false), (.b false), (.b false)] [(0, 1, (.c (.b true)))]⟩,
  ⟨none, none, .ins true (.t 9) (.c (.s [60])) (.t 12)⟩,
  ⟨some 13, none, .bld [(.b false), (.b false), (.b false)] [(0, 1, (.c (.b true))), (1, 1, (.c (.b true)))]⟩,
  ⟨none, none, .ins true (.t 9) (.c (.s [61, 60])) (.t 13)⟩,
  ⟨some 14, none, .bld [(.b false), (.b false), (.b false)] [(2, 1, (.c (.b true)))]⟩,
  ⟨none, none, .ins true (.t 9) (.c (.s [62])) (.t 14)⟩,
  ⟨some 15, none, .bld [(.b false), (.b false), (.b false)] [(1, 1, (.c (.b true))), (2, 1, (.c (.b true)))]⟩,
  ⟨none, none, .ins true (.t 9) (.c (.s [62, 61])) (.t 15)⟩,
  ⟨some 16, none, .mv (.t 9)⟩,
  ⟨some 6, none, .mv (.t 16)⟩])
  (.seq (.reg [⟨some 18, none, .mv (.t 6)⟩,
  ⟨some 19, none, .mv (.t 0)⟩,
  ⟨some 20, none, .lk true true (.ag [(.b false), (.b false), (.b false)]) (.t 18) (.t 19)⟩,
  ⟨some 17, none, .mv (.t 20)⟩,
  ⟨some 21, none, .ex (.t 17) 0⟩,
  ⟨some 22, none, .ex (.t 17) 1⟩,
  ⟨some 7, none, .box 248 3 (.c (.ag [(.b false), (.b false), (.b false)]))⟩,
  ⟨none, none, .st 3 (.t 7) (.t 21)⟩,
  ⟨some 8, none, .mv (.t 22)⟩])
  (.seq (.reg [⟨some 23, none, .mv (.t 1)⟩,
  ⟨some 24, none, .mm true (.t 23) (.c (.i .i64 (-1)))⟩,
  ⟨some 25, none, .mm false (.t 24) (.c (.i .i64 1))⟩,
  ⟨some 26, none, .bop .add (.t 25) (.c (.i .i64 1))⟩,
  ⟨some 27, none, .iaA 3 1 (.t 7) (.t 26)⟩,
  ⟨some 28, none, .ld false 1 (.t 27)⟩,
  ⟨some 29, none, .mv (.t 8)⟩,
  ⟨some 4, none, .mv (.t 28)⟩,
  ⟨some 5, none, .mv (.t 29)⟩])
  .ret))))⟩
def ir7_189 : XF := ⟨5, 1, [(2, none)], (.seq (.reg [⟨some 2, none, .mv (.c (.s []))⟩])
  (.seq (.reg [⟨some 3, none, .mv (.t 0)⟩,
  ⟨some 4, none, .call 211 [(.t 3), (.c (.i .i64 10))]⟩,
  ⟨some 2, none, .mv (.t 4)⟩])
  .ret))⟩
def ir7_201 : XF := ⟨19, 1, [(2, none)], (.seq (.reg [⟨some 2, none, .mv (.c (.i .i64 0))⟩])
  (.seq (.seq (.reg [⟨some 4, none, .mv (.t 0)⟩,
  ⟨some 5, none, .len 0 (.t 4)⟩,
  ⟨some 6, none, .mv (.c (.i .i64 0))⟩])
  (.blk 0 (.loop (.seq (.reg [⟨some 7, none, .bop .lss (.t 6) (.t 5)⟩])
  (.seq (.cond (.t 7) .skip
  (.exit 0))
  (.seq (.blk 1 (.seq (.reg [⟨some 8, none, .mv (.t 6)⟩,
  ⟨some 3, none, .mv (.t 8)⟩])
  (.seq (.par [⟨some 9, none, .mv (.t 0)⟩,
  ⟨some 10, none, .mv (.t 3)⟩,
  ⟨some 11, none, .ixS (.t 9) (.t 10)⟩,
  ⟨some 12, none, .slcA 4 2 (.c (.p 1 0)) none none none⟩,
  ⟨some 13, none, .call 177 [(.t 11), (.t 12)]⟩,
  ⟨some 14, none, .un .not (.t 13)⟩] [0, 0, 3, 0, 15, 31])
  (.cond (.t 14) (.seq (.reg [⟨some 15, none, .mv (.t 3)⟩,
  ⟨some 2, none, .mv (.t 15)⟩])
  .ret)
  .skip))))
  (.reg [⟨some 16, none, .bop .add (.t 6) (.c (.i .i64 1))⟩,
  ⟨some 6, none, .mv (.t 16)⟩])))))))
  (.seq (.reg [⟨some 17, none, .mv (.t 0)⟩,
  ⟨some 18, none, .len 0 (.t 17)⟩,
  ⟨some 2, none, .mv (.t 18)⟩])
  .ret)))⟩
def ir7_202 : XF := ⟨9, 2, [(4, none)], (.seq (.reg [⟨some 4, none, .mv (.c (.b false))⟩])
  (.seq (.reg [⟨some 5, none, .mv (.t 0)⟩,
  ⟨some 6, none, .mv (.t 1)⟩,
  ⟨some 7, none, .call 214 [(.t 5), (.t 6)]⟩,
  ⟨some 8, none, .bop .geq (.t 7) (.c (.i .i64 0))⟩,
  ⟨some 4, none, .mv (.t 8)⟩])
  .ret))⟩
def ir7_203 : XF := ⟨29, 1, [(2, none)], (.seq (.reg [⟨some 2, none, .mv (.c (.b false))⟩])
  (.seq (.reg [⟨some 3, none, .mv (.t 0)⟩,
  ⟨some 4, none, .bop .neq (.t 3) (.c (.i .i32 95))⟩,
  ⟨some 5, none, .mv (.t 4)⟩,
  ⟨some 6, some (5, true), .mv (.t 0)⟩,
  ⟨some 7, some (5, true), .bop .lss (.t 6) (.c (.i .i32 48))⟩,
  ⟨some 8, some (5, true), .mv (.t 7)⟩,
  ⟨some 9, some (8, false), .mv (.t 0)⟩,
  ⟨some 10, some (8, false), .bop .gtr (.t 9) (.c (.i .i32 57))⟩,
  ⟨some 11, some (5, true), .pick (.t 8) (.c (.b true)) (.t 10)⟩,
  ⟨some 12, none, .pick (.t 5) (.t 11) (.c (.b false))⟩,
  ⟨some 13, none, .mv (.t 12)⟩,
  ⟨some 14, some (13, true), .mv (.t 0)⟩,
  ⟨some 15, some (13, true), .bop .lss (.t 14) (.c (.i .i32 65))⟩,
  ⟨some 16, some (13, true), .mv (.t 15)⟩,
  ⟨some 17, some (16, false), .mv (.t 0)⟩,
  ⟨some 18, some (16, false), .bop .gtr (.t 17) (.c (.i .i32 90))⟩,
  ⟨some 19, some (13, true), .pick (.t 16) (.c (.b true)) (.t 18)⟩,
  ⟨some 20, none, .pick (.t 13) (.t 19) (.c (.b false))⟩,
  ⟨some 21, none, .mv (.t 20)⟩,
  ⟨some 22, some (21, true), .mv (.t 0)⟩,
  ⟨some 23, some (21, true), .bop .lss (.t 22) (.c (.i .i32 97))⟩,
  ⟨some 24, some (21, true), .mv (.t 23)⟩,
  ⟨some 25, some (24, false), .mv (.t 0)⟩,
  ⟨some 26, some (24, false), .bop .gtr (.t 25) (.c (.i .i32 122))⟩,
  ⟨some 27, some (21, true), .pick (.t 24) (.c (.b true)) (.t 26)⟩,
  ⟨some 28, none, .pick (.t 21) (.t 27) (.c (.b false))⟩,
  ⟨some 2, none, .mv (.t 28)⟩])
  .ret))⟩
def ir7_211 : XF := ⟨54, 2, [(4, none)], (.seq (.reg [⟨some 4, none, .mv (.c (.s []))⟩])
  (.seq (.seq (.reg [⟨some 10, none, .mv (.t 1)⟩,
  ⟨some 11, none, .bop .eql (.t 10) (.c (.i .i64 10))⟩])
  (.cond (.t 11) (.seq (.seq (.reg [⟨some 12, none, .mv (.t 0)⟩,
  ⟨some 13, none, .bop .leq (.c (.i .i64 0)) (.t 12)⟩,
  ⟨some 14, none, .mv (.t 13)⟩,
  ⟨some 15, some (14, true), .mv (.t 0)⟩,
  ⟨some 16, some (14, true), .bop .lss (.t 15) (.c (.i .i64 100))⟩,
  ⟨some 17, none, .pick (.t 14) (.t 16) (.c (.b false))⟩])
  (.cond (.t 17) (.seq (.reg [⟨some 18, none, .mv (.t 0)⟩,
  ⟨some 19, none, .call 217 [(.t 18)]⟩,
  ⟨some 4, none, .mv (.t 19)⟩])
  .ret)
  .skip))
  (.seq (.reg [⟨some 5, none, .box 257 24 (.c (.ag [(.i .u8 0), (.i .u8 0), (.i .u8 0), (.i .u8 0), (.i .u8 0), (.i .u8 0), (.i .u8 0), (.i .u8 0), (.i .u8 0), (.i .u8 0), (.i .u8 0), (.i .u8 0), (.i .u8 0), (.i .u8 0), (.i .u8 0), (.i .u8 0), (.i .u8 0), (.i .u8 0), (.i .u8 0), (.i .u8 0), (.i .u8 0), (.i .u8 0), (.i .u8 0), (.i .u8 0)]))⟩])
  (.seq (.reg [⟨some 20, none, .mv (.t 0)⟩,
  ⟨some 21, none, .cvi .u64 (.t 20)⟩,
  ⟨some 6, none, .mv (.t 21)⟩])
  (.seq (.seq (.reg [⟨some 22, none, .mv (.t 0)⟩,
  ⟨some 23, none, .bop .lss (.t 22) (.c (.i .i64 0))⟩])
  (.cond (.t 23) (.reg [⟨some 24, none, .mv (.t 6)⟩,
  ⟨some 25, none, .un .neg (.t 24)⟩,
  ⟨some 6, none, .mv (.t 25)⟩])
  .skip))
  (.seq (.reg [⟨some 26, none, .mv (.t 6)⟩,
  ⟨some 27, none, .call 218 [(.t 26)]⟩,
  ⟨some 7, none, .mv (.t 27)⟩])
  (.seq (.reg [⟨some 28, none, .mv (.t 7)⟩,
  ⟨some 29, none, .bop .add (.c (.i .i64 1)) (.t 28)⟩,
  ⟨some 30, none, .slcA 24 1 (.t 5) (some (.c (.i .i64 1))) (some (.t 29)) none⟩,
  ⟨some 31, none, .mv (.t 6)⟩,
  ⟨some 32, none, .call 219 [(.t 30), (.t 31)]⟩])
  (.seq (.seq (.reg [⟨some 33, none, .mv (.t 0)⟩,
  ⟨some 34, none, .bop .lss (.t 33) (.c (.i .i64 0))⟩])
  (.cond (.t 34) (.seq (.reg [⟨some 35, none, .iaA 24 1 (.t 5) (.c (.i .i64 0))⟩,
  ⟨none, none, .st 1 (.t 35) (.c (.i .u8 45))⟩])
  (.seq (.reg [⟨some 36, none, .mv (.t 7)⟩,
  ⟨some 37, none, .bop .add (.c (.i .i64 1)) (.t 36)⟩,
  ⟨some 38, none, .slcA 24 1 (.t 5) none (some (.t 37)) none⟩,
  ⟨some 39, none, .bad⟩,
  ⟨some 4, none, .mv (.t 39)⟩])
  .ret))
  .skip))
  (.seq (.reg [⟨some 40, none, .mv (.t 7)⟩,
  ⟨some 41, none, .bop .add (.c (.i .i64 1)) (.t 40)⟩,
  ⟨some 42, none, .slcA 24 1 (.t 5) (some (.c (.i .i64 1))) (some (.t 41)) none⟩,
  ⟨some 43, none, .bad⟩,
  ⟨some 4, none, .mv (.t 43)⟩])
  .ret))))))))
  .skip))
  (.seq (.reg [⟨some 45, none, .mv (.t 0)⟩,
  ⟨some 46, none, .cvi .u64 (.t 45)⟩,
  ⟨some 47, none, .mv (.t 1)⟩,
  ⟨some 48, none, .mv (.t 0)⟩,
  ⟨some 49, none, .bop .lss (.t 48) (.c (.i .i64 0))⟩,
  ⟨some 50, none, .call 220 [(.c .sln), (.t 46), (.t 47), (.t 49), (.c (.b false))]⟩,
  ⟨some 44, none, .mv (.t 50)⟩,
  ⟨some 51, none, .ex (.t 44) 0⟩,
  ⟨some 52, none, .ex (.t 44) 1⟩,
  ⟨some 8, none, .mv (.t 51)⟩,
  ⟨some 9, none, .mv (.t 52)⟩])
  (.seq (.reg [⟨some 53, none, .mv (.t 9)⟩,
  ⟨some 4, none, .mv (.t 53)⟩])
  .ret))))⟩
def ir7_214 : XF := ⟨8, 2, [(4, none)], (.seq (.reg [⟨some 4, none, .mv (.c (.i .i64 0))⟩])
  (.seq (.reg [⟨some 5, none, .mv (.t 0)⟩,
  ⟨some 6, none, .mv (.t 1)⟩,
  ⟨some 7, none, .call 222 [(.t 5), (.t 6), (.c (.b true))]⟩,
  ⟨some 4, none, .mv (.t 7)⟩])
  .ret))⟩
def ir7_217 : XF := ⟨15, 1, [(2, none)], (.seq (.reg [⟨some 2, none, .mv (.c (.s []))⟩])
  (.seq (.seq (.reg [⟨some 3, none, .mv (.t 0)⟩,
  ⟨some 4, none, .bop .lss (.t 3) (.c (.i .i64 10))⟩])
  (.cond (.t 4) (.seq (.reg [⟨some 5, none, .mv (.t 0)⟩,
  ⟨some 6, none, .mv (.t 0)⟩,
  ⟨some 7, none, .bop .add (.t 6) (.c (.i .i64 1))⟩,
  ⟨some 8, none, .slcS (.c (.s [48, 49, 50, 51, 52, 53, 54, 55, 56, 57, 97, 98, 99, 100, 101, 102, 103, 104, 105, 106, 107, 108, 109, 110, 111, 112, 113, 114, 115, 116, 117, 118, 119, 120, 121, 122])) (some (.t 5)) (some (.t 7))⟩,
  ⟨some 2, none, .mv (.t 8)⟩])
  .ret)
  .skip))
  (.seq (.reg [⟨some 9, none, .mv (.t 0)⟩,
  ⟨some 10, none, .bop .mul (.t 9) (.c (.i .i64 2))⟩,
  ⟨some 11, none, .mv (.t 0)⟩,
  ⟨some 12, none, .bop .mul (.t 11) (.c (.i .i64 2))⟩,
  ⟨some 13, none, .bop .add (.t 12) (.c (.i .i64 2))⟩,
  ⟨some 14, none, .slcS (.c (.s [48, 48, 48, 49, 48, 50, 48, 51, 48, 52, 48, 53, 48, 54, 48, 55, 48, 56, 48, 57, 49, 48, 49, 49, 49, 50, 49, 51, 49, 52, 49, 53, 49, 54, 49, 55, 49, 56, 49, 57, 50, 48, 50, 49, 50, 50, 50, 51, 50, 52, 50, 53, 50, 54, 50, 55, 50, 56, 50, 57, 51, 48, 51, 49, 51, 50, 51, 51, 51, 52, 51, 53, 51, 54, 51, 55, 51, 56, 51, 57, 52, 48, 52, 49, 52, 50, 52, 51, 52, 52, 52, 53, 52, 54, 52, 55, 52, 56, 52, 57, 53, 48, 53, 49, 53, 50, 53, 51, 53, 52, 53, 53, 53, 54, 53, 55, 53, 56, 53, 57, 54, 48, 54, 49, 54, 50, 54, 51, 54, 52, 54, 53, 54, 54, 54, 55, 54, 56, 54, 57, 55, 48, 55, 49, 55, 50, 55, 51, 55, 52, 55, 53, 55, 54, 55, 55, 55, 56, 55, 57, 56, 48, 56, 49, 56, 50, 56, 51, 56, 52, 56, 53, 56, 54, 56, 55, 56, 56, 56, 57, 57, 48, 57, 49, 57, 50, 57, 51, 57, 52, 57, 53, 57, 54, 57, 55, 57, 56, 57, 57])) (some (.t 10)) (some (.t 13))⟩,
  ⟨some 2, none, .mv (.t 14)⟩])
  .ret)))⟩
def ir7_222 : XF := ⟨21, 3, [(6, none)], (.seq (.reg [⟨some 6, none, .mv (.c (.i .i64 0))⟩])
  (.seq (.seq (.reg [⟨some 9, none, .mv (.t 0)⟩,
  ⟨some 10, none, .rgS (.t 9)⟩])
  (.blk 0 (.loop (.seq (.reg [⟨some 11, none, .nxS (.t 10)⟩,
  ⟨some 12, none, .ex (.t 11) 0⟩])
  (.seq (.cond (.t 12) .skip
  (.exit 0))
  (.blk 1 (.seq (.reg [⟨some 13, none, .ex (.t 11) 1⟩,
  ⟨some 14, none, .ex (.t 11) 2⟩,
  ⟨some 7, none, .mv (.t 13)⟩,
  ⟨some 8, none, .mv (.t 14)⟩])
  (.seq (.reg [⟨some 15, none, .mv (.t 1)⟩,
  ⟨some 16, none, .mv (.t 8)⟩,
  ⟨some 17, none, .callv (.t 15) [(.t 16)]⟩,
  ⟨some 18, none, .mv (.t 2)⟩,
  ⟨some 19, none, .beq false (.t 17) (.t 18)⟩])
  (.cond (.t 19) (.seq (.reg [⟨some 20, none, .mv (.t 7)⟩,
  ⟨some 6, none, .mv (.t 20)⟩])
  .ret)
  .skip)))))))))
  (.seq (.reg [⟨some 6, none, .mv (.c (.i .i64 (-1)))⟩])
  .ret)))⟩
def irTab7 : Trie XF := (.nd (.nd (.nd (.nd (.nd (.nd (.nd (.nd .lf (some ir7_127) .lf) (some ir7_63) .lf) none .lf) none (.nd (.nd (.nd .lf (some ir7_143) .lf) (some ir7_79) .lf) none .lf)) none (.nd (.nd (.nd .lf (some ir7_71) .lf) none .lf) none (.nd .lf none (.nd .lf (some ir7_119) .lf)))) none (.nd (.nd (.nd (.nd .lf (some ir7_67) .lf) (some ir7_35) .lf) none (.nd (.nd .lf none (.nd .lf (some ir7_211) .lf)) none (.nd (.nd .lf (some ir7_179) .lf) none .lf))) none (.nd (.nd (.nd .lf (some ir7_75) (.nd .lf (some ir7_203) .lf)) none .lf) (some ir7_27) (.nd .lf (some ir7_59) (.nd (.nd .lf (some ir7_187) .lf) (some ir7_123) .lf))))) none (.nd (.nd (.nd (.nd (.nd .lf (some ir7_65) .lf) none .lf) none (.nd (.nd (.nd .lf (some ir7_145) .lf) none .lf) none (.nd (.nd .lf (some ir7_177) .lf) none .lf))) none (.nd (.nd (.nd .lf (some ir7_73) (.nd .lf (some ir7_201) .lf)) none .lf) none (.nd (.nd .lf none (.nd .lf (some ir7_217) .lf)) none (.nd (.nd .lf (some ir7_185) .lf) (some ir7_121) .lf)))) none (.nd (.nd (.nd (.nd .lf (some ir7_69) .lf) (some ir7_37) .lf) none .lf) none (.nd (.nd (.nd .lf (some ir7_77) .lf) none .lf) (some ir7_29) (.nd .lf (some ir7_61) (.nd (.nd .lf (some ir7_189) .lf) (some ir7_125) .lf)))))) none (.nd (.nd (.nd (.nd (.nd (.nd .lf (some ir7_64) .lf) none .lf) none (.nd (.nd (.nd .lf (some ir7_144) .lf) (some ir7_80) .lf) none (.nd (.nd .lf (some ir7_176) .lf) none .lf))) none (.nd (.nd (.nd .lf (some ir7_72) .lf) none .lf) none (.nd .lf none (.nd .lf (some ir7_120) .lf)))) none (.nd (.nd (.nd (.nd .lf (some ir7_68) .lf) none .lf) none (.nd .lf none (.nd (.nd .lf (some ir7_180) .lf) none .lf))) none (.nd (.nd (.nd .lf (some ir7_76) .lf) none .lf) none (.nd .lf (some ir7_60) (.nd .lf (some ir7_124) .lf))))) none (.nd (.nd (.nd (.nd (.nd (.nd .lf (some ir7_130) .lf) (some ir7_66) .lf) none (.nd (.nd .lf (some ir7_162) .lf) none .lf)) none (.nd .lf none (.nd (.nd .lf (some ir7_178) .lf) none .lf))) none (.nd (.nd (.nd .lf (some ir7_74) (.nd .lf (some ir7_202) .lf)) none .lf) none (.nd .lf none (.nd .lf (some ir7_122) .lf)))) none (.nd (.nd (.nd (.nd .lf (some ir7_70) .lf) none .lf) none (.nd (.nd .lf none (.nd .lf (some ir7_214) .lf)) none (.nd .lf (some ir7_118) .lf))) none (.nd (.nd (.nd (.nd .lf (some ir7_142) .lf) (some ir7_78) .lf) none .lf) none (.nd (.nd .lf none (.nd .lf (some ir7_222) .lf)) (some ir7_62) .lf))))))
theorem irc7_27 : cFunc Tryz.prog Tryz.f27 = some ir7_27 := by kernel_rfl
theorem irc7_29 : cFunc Tryz.prog Tryz.f29 = some ir7_29 := by kernel_rfl
theorem irc7_35 : cFunc Tryz.prog Tryz.f35 = some ir7_35 := by kernel_rfl
theorem irc7_37 : cFunc Tryz.prog Tryz.f37 = some ir7_37 := by kernel_rfl
theorem irc7_59 : cFunc Tryz.prog Tryz.f59 = some ir7_59 := by kernel_rfl
theorem irc7_60 : cFunc Tryz.prog Tryz.f60 = some ir7_60 := by kernel_rfl
theorem irc7_61 : cFunc Tryz.prog Tryz.f61 = some ir7_61 := by kernel_rfl
theorem irc7_62 : cFunc Tryz.prog Tryz.f62 = some ir7_62 := by kernel_rfl
theorem irc7_63 : cFunc Tryz.prog Tryz.f63 = some ir7_63 := by kernel_rfl
theorem irc7_64 : cFunc Tryz.prog Tryz.f64 = some ir7_64 := by kernel_rfl
theorem irc7_65 : cFunc Tryz.prog Tryz.f65 = some ir7_65 := by kernel_rfl
theorem irc7_66 : cFunc Tryz.prog Tryz.f66 = some ir7_66 := by kernel_rfl
theorem irc7_67 : cFunc Tryz.prog Tryz.f67 = some ir7_67 := by kernel_rfl
theorem irc7_68 : cFunc Tryz.prog Tryz.f68 = some ir7_68 := by kernel_rfl
theorem irc7_69 : cFunc Tryz.prog Tryz.f69 = some ir7_69 := by kernel_rfl
theorem irc7_70 : cFunc Tryz.prog Tryz.f70 = some ir7_70 := by kernel_rfl
theorem irc7_71 : cFunc Tryz.prog Tryz.f71 = some ir7_71 := by kernel_rfl
theorem irc7_72 : cFunc Tryz.prog Tryz.f72 = some ir7_72 := by kernel_rfl
theorem irc7_73 : cFunc Tryz.prog Tryz.f73 = some ir7_73 := by kernel_rfl
theorem irc7_74 : cFunc Tryz.prog Tryz.f74 = some ir7_74 := by kernel_rfl
theorem irc7_75 : cFunc Tryz.prog Tryz.f75 = some ir7_75 := by kernel_rfl
theorem irc7_76 : cFunc Tryz.prog Tryz.f76 = some ir7_76 := by kernel_rfl
theorem irc7_77 : cFunc Tryz.prog Tryz.f77 = some ir7_77 := by kernel_rfl
theorem irc7_78 : cFunc Tryz.prog Tryz.f78 = some ir7_78 := by kernel_rfl
theorem irc7_79 : cFunc Tryz.prog Tryz.f79 = some ir7_79 := by kernel_rfl
theorem irc7_80 : cFunc Tryz.prog Tryz.f80 = some ir7_80 := by kernel_rfl
theorem irc7_118 : cFunc Tryz.prog Tryz.f118 = some ir7_118 := by kernel_rfl
theorem irc7_119 : cFunc Tryz.prog Tryz.f119 = some ir7_119 := by kernel_rfl
theorem irc7_120 : cFunc Tryz.prog Tryz.f120 = some ir7_120 := by kernel_rfl
theorem irc7_121 : cFunc Tryz.prog Tryz.f121 = some ir7_121 := by kernel_rfl
theorem irc7_122 : cFunc Tryz.prog Tryz.f122 = some ir7_122 := by kernel_rfl
theorem irc7_123 : cFunc Tryz.prog Tryz.f123 = some ir7_123 := by kernel_rfl
theorem irc7_124 : cFunc Tryz.prog Tryz.f124 = some ir7_124 := by kernel_rfl
theorem irc7_125 : cFunc Tryz.prog Tryz.f125 = some ir7_125 := by kernel_rfl
theorem irc7_127 : cFunc Tryz.prog Tryz.f127 = some ir7_127 := by kernel_rfl
theorem irc7_130 : cFunc Tryz.prog Tryz.f130 = some ir7_130 := by kernel_rfl
theorem irc7_142 : cFunc Tryz.prog Tryz.f142 = some ir7_142 := by kernel_rfl
theorem irc7_143 : cFunc Tryz.prog Tryz.f143 = some ir7_143 := by kernel_rfl
theorem irc7_144 : cFunc Tryz.prog Tryz.f144 = some ir7_144 := by kernel_rfl
theorem irc7_145 : cFunc Tryz.prog Tryz.f145 = some ir7_145 := by kernel_rfl
theorem irc7_162 : cFunc Tryz.prog Tryz.f162 = some ir7_162 := by kernel_rfl
theorem irc7_176 : cFunc Tryz.prog Tryz.f176 = some ir7_176 := by kernel_rfl
theorem irc7_177 : cFunc Tryz.prog Tryz.f177 = some ir7_177 := by kernel_rfl
theorem irc7_178 : cFunc Tryz.prog Tryz.f178 = some ir7_178 := by kernel_rfl
theorem irc7_179 : cFunc Tryz.prog Tryz.f179 = some ir7_179 := by kernel_rfl
theorem irc7_180 : cFunc Tryz.prog Tryz.f180 = some ir7_180 := by kernel_rfl
theorem irc7_185 : cFunc Tryz.prog Tryz.f185 = some ir7_185 := by kernel_rfl
theorem irc7_187 : cFunc Tryz.prog Tryz.f187 = some ir7_187 := by kernel_rfl
theorem irc7_189 : cFunc Tryz.prog Tryz.f189 = some ir7_189 := by kernel_rfl
theorem irc7_201 : cFunc Tryz.prog Tryz.f201 = some ir7_201 := by kernel_rfl
theorem irc7_202 : cFunc Tryz.prog Tryz.f202 = some ir7_202 := by kernel_rfl
theorem irc7_203 : cFunc Tryz.prog Tryz.f203 = some ir7_203 := by kernel_rfl
theorem irc7_211 : cFunc Tryz.prog Tryz.f211 = some ir7_211 := by kernel_rfl
theorem irc7_214 : cFunc Tryz.prog Tryz.f214 = some ir7_214 := by kernel_rfl
theorem irc7_217 : cFunc Tryz.prog Tryz.f217 = some ir7_217 := by kernel_rfl
theorem irc7_222 : cFunc Tryz.prog Tryz.f222 = some ir7_222 := by kernel_rfl
def irList7 : List (Nat × XF) := [(27, ir7_27), (29, ir7_29), (35, ir7_35), (37, ir7_37), (59, ir7_59), (60, ir7_60), (61, ir7_61), (62, ir7_62), (63, ir7_63), (64, ir7_64), (65, ir7_65), (66, ir7_66), (67, ir7_67), (68, ir7_68), (69, ir7_69), (70, ir7_70), (71, ir7_71), (72, ir7_72), (73, ir7_73), (74, ir7_74), (75, ir7_75), (76, ir7_76), (77, ir7_77), (78, ir7_78), (79, ir7_79), (80, ir7_80), (118, ir7_118), (119, ir7_119), (120, ir7_120), (121, ir7_121), (122, ir7_122), (123, ir7_123), (124, ir7_124), (125, ir7_125), (127, ir7_127), (130, ir7_130), (142, ir7_142), (143, ir7_143), (144, ir7_144), (145, ir7_145), (162, ir7_162), (176, ir7_176), (177, ir7_177), (178, ir7_178), (179, ir7_179), (180, ir7_180), (185, ir7_185), (187, ir7_187), (189, ir7_189), (201, ir7_201), (202, ir7_202), (203, ir7_203), (211, ir7_211), (214, ir7_214), (217, ir7_217), (222, ir7_222)]
theorem irTab_eq7 : irTab7 = ofList irList7 := by kernel_rfl
theorem irSmall7 : smallAll irList7 = true := by kernel_rfl
theorem irTab_ok7 : TabOk Tryz.prog irTab7 := tab_of irTab_eq7 irSmall7 fun p hp => by
  simp only [irList7, List.mem_cons, List.not_mem_nil, or_false] at hp
  rcases hp with rfl | rfl | rfl | rfl | rfl | rfl | rfl | rfl | rfl | rfl | rfl | rfl | rfl | rfl | rfl | rfl | rfl | rfl | rfl | rfl | rfl | rfl | rfl | rfl | rfl | rfl | rfl | rfl | rfl | rfl | rfl | rfl | rfl | rfl | rfl | rfl | rfl | rfl | rfl | rfl | rfl | rfl | rfl | rfl | rfl | rfl | rfl | rfl | rfl | rfl | rfl | rfl | rfl | rfl | rfl | rfl
  · exact ⟨_, Tryz.func27, irc7_27⟩
  · exact ⟨_, Tryz.func29, irc7_29⟩
  · exact ⟨_, Tryz.func35, irc7_35⟩
  · exact ⟨_, Tryz.func37, irc7_37⟩
  · exact ⟨_, Tryz.func59, irc7_59⟩
  · exact ⟨_, Tryz.func60, irc7_60⟩
  · exact ⟨_, Tryz.func61, irc7_61⟩
  · exact ⟨_, Tryz.func62, irc7_62⟩
  · exact ⟨_, Tryz.func63, irc7_63⟩
  · exact ⟨_, Tryz.func64, irc7_64⟩
  · exact ⟨_, Tryz.func65, irc7_65⟩
  · exact ⟨_, Tryz.func66, irc7_66⟩
  · exact ⟨_, Tryz.func67, irc7_67⟩
  · exact ⟨_, Tryz.func68, irc7_68⟩
  · exact ⟨_, Tryz.func69, irc7_69⟩
  · exact ⟨_, Tryz.func70, irc7_70⟩
  · exact ⟨_, Tryz.func71, irc7_71⟩
  · exact ⟨_, Tryz.func72, irc7_72⟩
  · exact ⟨_, Tryz.func73, irc7_73⟩
  · exact ⟨_, Tryz.func74, irc7_74⟩
  · exact ⟨_, Tryz.func75, irc7_75⟩
  · exact ⟨_, Tryz.func76, irc7_76⟩
  · exact ⟨_, Tryz.func77, irc7_77⟩
  · exact ⟨_, Tryz.func78, irc7_78⟩
  · exact ⟨_, Tryz.func79, irc7_79⟩
  · exact ⟨_, Tryz.func80, irc7_80⟩
  · exact ⟨_, Tryz.func118, irc7_118⟩
  · exact ⟨_, Tryz.func119, irc7_119⟩
  · exact ⟨_, Tryz.func120, irc7_120⟩
  · exact ⟨_, Tryz.func121, irc7_121⟩
  · exact ⟨_, Tryz.func122, irc7_122⟩
  · exact ⟨_, Tryz.func123, irc7_123⟩
  · exact ⟨_, Tryz.func124, irc7_124⟩
  · exact ⟨_, Tryz.func125, irc7_125⟩
  · exact ⟨_, Tryz.func127, irc7_127⟩
  · exact ⟨_, Tryz.func130, irc7_130⟩
  · exact ⟨_, Tryz.func142, irc7_142⟩
  · exact ⟨_, Tryz.func143, irc7_143⟩
  · exact ⟨_, Tryz.func144, irc7_144⟩
  · exact ⟨_, Tryz.func145, irc7_145⟩
  · exact ⟨_, Tryz.func162, irc7_162⟩
  · exact ⟨_, Tryz.func176, irc7_176⟩
  · exact ⟨_, Tryz.func177, irc7_177⟩
  · exact ⟨_, Tryz.func178, irc7_178⟩
  · exact ⟨_, Tryz.func179, irc7_179⟩
  · exact ⟨_, Tryz.func180, irc7_180⟩
  · exact ⟨_, Tryz.func185, irc7_185⟩
  · exact ⟨_, Tryz.func187, irc7_187⟩
  · exact ⟨_, Tryz.func189, irc7_189⟩
  · exact ⟨_, Tryz.func201, irc7_201⟩
  · exact ⟨_, Tryz.func202, irc7_202⟩
  · exact ⟨_, Tryz.func203, irc7_203⟩
  · exact ⟨_, Tryz.func211, irc7_211⟩
  · exact ⟨_, Tryz.func214, irc7_214⟩
  · exact ⟨_, Tryz.func217, irc7_217⟩
  · exact ⟨_, Tryz.func222, irc7_222⟩
theorem follows_mix7 : Tryz.prog.follows .mixedOrders = true := by kernel_rfl
theorem size_g7 : Tryz.prog.globals.size = 5 := by kernel_rfl
def letterVals7 : List Value := [.int .u8 97, .int .u8 122, .int .u8 65, .int .u8 90, .int .u8 48, .int .u8 57, .int .u8 95, .int .u8 95]
def told7 : List (Nat × List TV) := [(1, [.i .u8 97, .i .u8 122, .i .u8 65, .i .u8 90, .i .u8 48, .i .u8 57, .i .u8 95, .i .u8 95])]
def wkT7 : List (Nat × String × Nat) := []
def wkM7 (lay : Nat → List Kd) : Meth := ⟨tabM wkT7, fun _ _ => none, lay⟩
theorem wkM_ok7 {ρ : Cx} (hp : ρ.prog = Tryz.prog) : MethOk Tryz.prog ρ (wkM7 ρ.lay) := ⟨tabM_ok (l := wkT7) fun x hx =>  (by cases hx), fun _ _ _ h => (by cases h), rfl, hp⟩
def wkO7 : List (Nat × (List TV → SH → Option (TV × SH))) := [(188, bccOrc [118, 119, 120]), (81, bstOrc 5 [118, 119, 120])]
theorem irRun7 (lay : Nat → List Kd) (tys : Nat → Nat) : okv (run (wkM7 lay) irTab7 (listOrc wkO7) 100000 200 (.fn 27) [] (startL 5 told7 tys)) = true := by kernel_rfl
/-- The law's wakes, at any memory in which the variables that it reads are laid. -/
theorem wakes7 {ρ : Cx} (hp : ρ.prog = Tryz.prog) (hρ : ∀ j, scalV (ρ j)) (hl : (1, letterVals7) ∈ ρ.tl) : PureC Tryz.prog ρ 27 [] (.b true) := by
  have run : ∀ (w : World) (M : Mem), MemOk M w → ToldM ρ.tl M → Calls Tryz.prog 27 #[] w fun e w' => e = .returned (.bool true) ∧ Below w.heap.size w w' := fun w M hM hT => by
    refine (shut_of hρ (wkM_ok7 hp) follows_mix7 irTab_ok7 (orc := listOrc wkO7) (fun B => listOrc_ok fun p hp => ?_) (L := told7) (by rw [size_g7]; decide) (fun p hp => ?_) (fun p hp => ?_) (fun tys => by rw [size_g7]; exact irRun7 _ tys) hM hT).2
    · simp only [wkO7, List.mem_cons, List.not_mem_nil, or_false] at hp
      rcases hp with rfl | rfl
      · exact bcc_ok (by intro T hT; simp only [List.mem_cons, List.not_mem_nil, or_false] at hT; rcases hT with rfl | rfl | rfl <;> kernel_rfl)
      · exact bst_ok
    · simp only [told7, List.mem_cons, List.not_mem_nil, or_false] at hp
      rw [size_g7]
      rcases hp with rfl <;> decide
    · simp only [told7, List.mem_cons, List.not_mem_nil, or_false] at hp
      rcases hp with rfl
      · exact ⟨_, hl, by simp [letterVals7, VRs, VR, VR.VRs]⟩
  refine ⟨fun vs w => enter_of' Tryz.func27 (by kernel_rfl) (by kernel_rfl) vs w, fun w M vs hM hT hv => ?_⟩
  have hvs : vs = #[] := Array.toList_inj.1 hv
  subst hvs
  refine (run w M hM hT).mono ?_
  rintro e w' ⟨rfl, hb⟩
  exact ⟨_, M, rfl, fun _ _ q => q, fun _ _ q => .inl q, memOk_below hM hb, rfl, hb⟩
end Go.Proofs.YtdjafnjmkkagjaaGreatDoor.Sx
