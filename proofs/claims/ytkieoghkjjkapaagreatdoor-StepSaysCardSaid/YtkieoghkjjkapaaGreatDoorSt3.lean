/-
  step.Pops, pleachref18.Pops, pleachlaw18.Great, pleachref10.Same at nothing, the law StepSays: over data. No condition.
-/
import Derived.Test.YtkieoghkjjkapaaGreatDoorSt2
namespace Go.Proofs.YtkieoghkjjkapaaGreatDoor.Oa.S1
open Go.RowKit Sx
set_option maxRecDepth 100000
set_option linter.unusedSimpArgs false
set_option linter.unusedVariables false
def ir3 : XF := ⟨33, 2, [(4, none)], (.seq (.reg [⟨some 2, none, .box 36 35 (.t 0)⟩,
  ⟨some 3, none, .box 41 14 (.t 1)⟩,
  ⟨some 4, none, .mv (.c (.b false))⟩])
  (.seq (.seq (.reg [⟨some 5, none, .ld true 35 (.t 2)⟩,
  ⟨some 6, none, .call 4 [(.t 5)]⟩,
  ⟨some 7, none, .mv (.t 6)⟩,
  ⟨some 8, some (7, false), .fa 1 (.t 3)⟩,
  ⟨some 9, some (7, false), .ld false 1 (.t 8)⟩,
  ⟨some 10, some (7, false), .bop .gtr (.t 9) (.c (.i .i64 1099511627776))⟩,
  ⟨some 11, none, .pick (.t 7) (.c (.b true)) (.t 10)⟩,
  ⟨some 12, none, .mv (.t 11)⟩,
  ⟨some 13, some (12, false), .fa 2 (.t 3)⟩,
  ⟨some 14, some (12, false), .ld false 1 (.t 13)⟩,
  ⟨some 15, some (12, false), .bop .gtr (.t 14) (.c (.i .i64 1099511627776))⟩,
  ⟨some 16, none, .pick (.t 12) (.c (.b true)) (.t 15)⟩])
  (.cond (.t 16) (.seq (.reg [⟨some 17, none, .call 5 []⟩,
  ⟨some 4, none, .mv (.t 17)⟩])
  .ret)
  .skip))
  (.seq (.par [⟨some 18, none, .ld true 35 (.t 2)⟩,
  ⟨some 19, none, .call 7 [(.t 18)]⟩,
  ⟨some 20, none, .ld true 35 (.t 2)⟩,
  ⟨some 21, none, .call 8 [(.t 20)]⟩,
  ⟨some 22, none, .call 6 [(.t 19), (.t 21)]⟩,
  ⟨some 23, none, .mv (.t 22)⟩,
  ⟨some 24, some (23, true), .ld true 14 (.t 3)⟩,
  ⟨some 25, some (23, true), .call 9 [(.t 24)]⟩,
  ⟨some 26, some (23, true), .ld true 14 (.t 3)⟩,
  ⟨some 27, some (23, true), .call 10 [(.t 26)]⟩,
  ⟨some 28, some (23, true), .bop .eql (.t 25) (.t 27)⟩,
  ⟨some 29, none, .pick (.t 23) (.t 28) (.c (.b false))⟩,
  ⟨some 30, none, .mv (.t 29)⟩,
  ⟨some 31, some (30, true), .call 5 []⟩,
  ⟨some 32, none, .pick (.t 30) (.t 31) (.c (.b false))⟩,
  ⟨some 4, none, .mv (.t 32)⟩] [0, 1, 0, 7, 15, 31, 63, 127, 63, 511, 1023, 2047, 4095, 8191, 16383, 32767])
  .ret)))⟩

theorem irc3 : cFunc Tryz.prog Tryz.f3 = some ir3 := by kernel_rfl
def ir4 : XF := ⟨53, 1, [(2, none)], (.seq (.reg [⟨some 1, none, .box 36 35 (.t 0)⟩,
  ⟨some 2, none, .mv (.c (.b false))⟩])
  (.seq (.reg [⟨some 3, none, .fa 3 (.t 1)⟩,
  ⟨some 4, none, .ld false 1 (.t 3)⟩,
  ⟨some 5, none, .len 1 (.t 4)⟩,
  ⟨some 6, none, .bop .gtr (.t 5) (.c (.i .i64 100))⟩,
  ⟨some 7, none, .mv (.t 6)⟩,
  ⟨some 8, some (7, false), .fa 4 (.t 1)⟩,
  ⟨some 9, some (7, false), .ld false 1 (.t 8)⟩,
  ⟨some 10, some (7, false), .len 1 (.t 9)⟩,
  ⟨some 11, some (7, false), .bop .gtr (.t 10) (.c (.i .i64 100))⟩,
  ⟨some 12, none, .pick (.t 7) (.c (.b true)) (.t 11)⟩,
  ⟨some 13, none, .mv (.t 12)⟩,
  ⟨some 14, some (13, false), .fa 6 (.t 1)⟩,
  ⟨some 15, some (13, false), .ld false 1 (.t 14)⟩,
  ⟨some 16, some (13, false), .len 1 (.t 15)⟩,
  ⟨some 17, some (13, false), .bop .gtr (.t 16) (.c (.i .i64 100))⟩,
  ⟨some 18, none, .pick (.t 13) (.c (.b true)) (.t 17)⟩,
  ⟨some 19, none, .mv (.t 18)⟩,
  ⟨some 20, some (19, false), .fa 5 (.t 1)⟩,
  ⟨some 21, some (19, false), .ld false 1 (.t 20)⟩,
  ⟨some 22, some (19, false), .len 1 (.t 21)⟩,
  ⟨some 23, some (19, false), .bop .gtr (.t 22) (.c (.i .i64 2000))⟩,
  ⟨some 24, none, .pick (.t 19) (.c (.b true)) (.t 23)⟩,
  ⟨some 25, none, .mv (.t 24)⟩,
  ⟨some 26, some (25, false), .fa 3 (.t 1)⟩,
  ⟨some 27, some (25, false), .ld false 1 (.t 26)⟩,
  ⟨some 28, some (25, false), .call 11 [(.t 27)]⟩,
  ⟨some 29, none, .pick (.t 25) (.c (.b true)) (.t 28)⟩,
  ⟨some 30, none, .mv (.t 29)⟩,
  ⟨some 31, some (30, false), .fa 5 (.t 1)⟩,
  ⟨some 32, some (30, false), .ld false 1 (.t 31)⟩,
  ⟨some 33, some (30, false), .call 12 [(.t 32)]⟩,
  ⟨some 34, none, .pick (.t 30) (.c (.b true)) (.t 33)⟩,
  ⟨some 35, none, .mv (.t 34)⟩,
  ⟨some 36, some (35, false), .fa 8 (.t 1)⟩,
  ⟨some 37, some (35, false), .fa 5 (.t 36)⟩,
  ⟨some 38, some (35, false), .ld true 5 (.t 37)⟩,
  ⟨some 39, some (35, false), .call 13 [(.t 38)]⟩,
  ⟨some 40, none, .pick (.t 35) (.c (.b true)) (.t 39)⟩,
  ⟨some 41, none, .mv (.t 40)⟩,
  ⟨some 42, some (41, false), .fa 8 (.t 1)⟩,
  ⟨some 43, some (41, false), .fa 10 (.t 42)⟩,
  ⟨some 44, some (41, false), .ld true 5 (.t 43)⟩,
  ⟨some 45, some (41, false), .call 13 [(.t 44)]⟩,
  ⟨some 46, none, .pick (.t 41) (.c (.b true)) (.t 45)⟩,
  ⟨some 47, none, .mv (.t 46)⟩,
  ⟨some 48, some (47, false), .fa 8 (.t 1)⟩,
  ⟨some 49, some (47, false), .fa 15 (.t 48)⟩,
  ⟨some 50, some (47, false), .ld true 5 (.t 49)⟩,
  ⟨some 51, some (47, false), .call 13 [(.t 50)]⟩,
  ⟨some 52, none, .pick (.t 47) (.c (.b true)) (.t 51)⟩,
  ⟨some 2, none, .mv (.t 52)⟩])
  .ret))⟩

theorem irc4 : cFunc Tryz.prog Tryz.f4 = some ir4 := by kernel_rfl
def ir9 : XF := ⟨32, 1, [(2, none)], (.seq (.reg [⟨some 1, none, .box 41 14 (.t 0)⟩,
  ⟨some 2, none, .mv (.c (.i .i64 0))⟩])
  (.seq (.seq (.reg [⟨some 3, none, .fa 0 (.t 1)⟩,
  ⟨some 4, none, .ld false 1 (.t 3)⟩])
  (.blk 0 (.seq (.blk 5 (.seq (.blk 4 (.seq (.blk 3 (.seq (.blk 2 (.seq (.blk 1 (.seq (.seq (.seq (.reg [⟨some 6, none, .bop .eql (.t 4) (.c (.i .i8 10))⟩,
  ⟨some 5, none, .mv (.t 6)⟩])
  (.cond (.t 5) (.exit 1)
  .skip))
  (.seq (.seq (.seq (.reg [⟨some 8, none, .bop .eql (.t 4) (.c (.i .i8 4))⟩,
  ⟨some 7, none, .mv (.t 8)⟩])
  (.cond (.t 7) .skip
  (.seq (.reg [⟨some 9, none, .bop .eql (.t 4) (.c (.i .i8 8))⟩,
  ⟨some 7, none, .mv (.t 9)⟩])
  (.cond (.t 7) .skip
  (.seq (.reg [⟨some 10, none, .bop .eql (.t 4) (.c (.i .i8 9))⟩,
  ⟨some 7, none, .mv (.t 10)⟩])
  (.cond (.t 7) .skip
  (.reg [⟨some 11, none, .bop .eql (.t 4) (.c (.i .i8 7))⟩,
  ⟨some 7, none, .mv (.t 11)⟩])))))))
  (.cond (.t 7) (.exit 2)
  .skip))
  (.seq (.seq (.seq (.reg [⟨some 13, none, .bop .eql (.t 4) (.c (.i .i8 5))⟩,
  ⟨some 12, none, .mv (.t 13)⟩])
  (.cond (.t 12) .skip
  (.reg [⟨some 14, none, .bop .eql (.t 4) (.c (.i .i8 6))⟩,
  ⟨some 12, none, .mv (.t 14)⟩])))
  (.cond (.t 12) (.exit 3)
  .skip))
  (.seq (.seq (.seq (.reg [⟨some 16, none, .bop .eql (.t 4) (.c (.i .i8 2))⟩,
  ⟨some 15, none, .mv (.t 16)⟩])
  (.cond (.t 15) .skip
  (.seq (.reg [⟨some 17, none, .bop .eql (.t 4) (.c (.i .i8 3))⟩,
  ⟨some 15, none, .mv (.t 17)⟩])
  (.cond (.t 15) .skip
  (.seq (.reg [⟨some 18, none, .bop .eql (.t 4) (.c (.i .i8 11))⟩,
  ⟨some 15, none, .mv (.t 18)⟩])
  (.cond (.t 15) .skip
  (.seq (.reg [⟨some 19, none, .bop .eql (.t 4) (.c (.i .i8 13))⟩,
  ⟨some 15, none, .mv (.t 19)⟩])
  (.cond (.t 15) .skip
  (.reg [⟨some 20, none, .bop .eql (.t 4) (.c (.i .i8 19))⟩,
  ⟨some 15, none, .mv (.t 20)⟩])))))))))
  (.cond (.t 15) (.exit 4)
  .skip))
  (.seq (.reg [⟨some 22, none, .bop .eql (.t 4) (.c (.i .i8 15))⟩,
  ⟨some 21, none, .mv (.t 22)⟩])
  (.cond (.t 21) (.exit 5)
  .skip))))))
  (.exit 0)))
  (.reg [⟨some 2, none, .mv (.c (.i .i64 1))⟩])))
  (.seq (.reg [⟨some 23, none, .mv (.t 2)⟩,
  ⟨some 24, none, .fa 1 (.t 1)⟩,
  ⟨some 25, none, .ld false 1 (.t 24)⟩,
  ⟨some 26, none, .mm false (.t 25) (.c (.i .i64 4611686018427387904))⟩,
  ⟨some 27, none, .bop .add (.t 23) (.t 26)⟩,
  ⟨some 2, none, .mv (.t 27)⟩])
  (.exit 0))))
  (.seq (.reg [⟨some 2, none, .mv (.c (.i .i64 2))⟩])
  (.exit 0))))
  (.seq (.reg [⟨some 2, none, .mv (.c (.i .i64 1))⟩])
  (.exit 0))))
  (.seq (.reg [⟨some 28, none, .fa 2 (.t 1)⟩,
  ⟨some 29, none, .ld false 1 (.t 28)⟩,
  ⟨some 2, none, .mv (.t 29)⟩])
  (.exit 0)))))
  (.seq (.reg [⟨some 30, none, .mv (.t 2)⟩,
  ⟨some 31, none, .mm true (.t 30) (.c (.i .i64 0))⟩,
  ⟨some 2, none, .mv (.t 31)⟩])
  .ret)))⟩

theorem irc9 : cFunc Tryz.prog Tryz.f9 = some ir9 := by kernel_rfl
def ir10 : XF := ⟨34, 1, [(2, none)], (.seq (.reg [⟨some 1, none, .box 41 14 (.t 0)⟩,
  ⟨some 2, none, .mv (.c (.i .i64 0))⟩])
  (.seq (.reg [⟨some 3, none, .mv (.c (.i .i64 0))⟩])
  (.seq (.seq (.reg [⟨some 4, none, .fa 0 (.t 1)⟩,
  ⟨some 5, none, .ld false 1 (.t 4)⟩])
  (.blk 0 (.seq (.seq (.reg [⟨some 7, none, .bop .eql (.t 5) (.c (.i .i8 4))⟩,
  ⟨some 6, none, .mv (.t 7)⟩])
  (.cond (.t 6) .skip
  (.seq (.reg [⟨some 8, none, .bop .eql (.t 5) (.c (.i .i8 8))⟩,
  ⟨some 6, none, .mv (.t 8)⟩])
  (.cond (.t 6) .skip
  (.seq (.reg [⟨some 9, none, .bop .eql (.t 5) (.c (.i .i8 9))⟩,
  ⟨some 6, none, .mv (.t 9)⟩])
  (.cond (.t 6) .skip
  (.reg [⟨some 10, none, .bop .eql (.t 5) (.c (.i .i8 7))⟩,
  ⟨some 6, none, .mv (.t 10)⟩])))))))
  (.cond (.t 6) (.reg [⟨some 11, none, .fa 1 (.t 1)⟩,
  ⟨some 12, none, .ld false 1 (.t 11)⟩,
  ⟨some 3, none, .mv (.t 12)⟩])
  (.seq (.seq (.reg [⟨some 14, none, .bop .eql (.t 5) (.c (.i .i8 5))⟩,
  ⟨some 13, none, .mv (.t 14)⟩])
  (.cond (.t 13) .skip
  (.reg [⟨some 15, none, .bop .eql (.t 5) (.c (.i .i8 6))⟩,
  ⟨some 13, none, .mv (.t 15)⟩])))
  (.cond (.t 13) (.reg [⟨some 3, none, .mv (.c (.i .i64 2))⟩])
  (.seq (.reg [⟨some 17, none, .bop .eql (.t 5) (.c (.i .i8 10))⟩,
  ⟨some 16, none, .mv (.t 17)⟩])
  (.cond (.t 16) (.reg [⟨some 18, none, .fa 1 (.t 1)⟩,
  ⟨some 19, none, .ld false 1 (.t 18)⟩,
  ⟨some 20, none, .mm false (.t 19) (.c (.i .i64 1099511627776))⟩,
  ⟨some 21, none, .bop .add (.t 20) (.c (.i .i64 1))⟩,
  ⟨some 3, none, .mv (.t 21)⟩])
  (.seq (.seq (.reg [⟨some 23, none, .bop .eql (.t 5) (.c (.i .i8 2))⟩,
  ⟨some 22, none, .mv (.t 23)⟩])
  (.cond (.t 22) .skip
  (.seq (.reg [⟨some 24, none, .bop .eql (.t 5) (.c (.i .i8 3))⟩,
  ⟨some 22, none, .mv (.t 24)⟩])
  (.cond (.t 22) .skip
  (.seq (.reg [⟨some 25, none, .bop .eql (.t 5) (.c (.i .i8 11))⟩,
  ⟨some 22, none, .mv (.t 25)⟩])
  (.cond (.t 22) .skip
  (.seq (.reg [⟨some 26, none, .bop .eql (.t 5) (.c (.i .i8 13))⟩,
  ⟨some 22, none, .mv (.t 26)⟩])
  (.cond (.t 22) .skip
  (.reg [⟨some 27, none, .bop .eql (.t 5) (.c (.i .i8 19))⟩,
  ⟨some 22, none, .mv (.t 27)⟩])))))))))
  (.cond (.t 22) (.reg [⟨some 3, none, .mv (.c (.i .i64 1))⟩])
  (.seq (.reg [⟨some 29, none, .bop .eql (.t 5) (.c (.i .i8 15))⟩,
  ⟨some 28, none, .mv (.t 29)⟩])
  (.cond (.t 28) (.reg [⟨some 30, none, .fa 2 (.t 1)⟩,
  ⟨some 31, none, .ld false 1 (.t 30)⟩,
  ⟨some 3, none, .mv (.t 31)⟩])
  .skip))))))))))))
  (.seq (.reg [⟨some 32, none, .mv (.t 3)⟩,
  ⟨some 33, none, .mm true (.t 32) (.c (.i .i64 0))⟩,
  ⟨some 2, none, .mv (.t 33)⟩])
  .ret))))⟩

theorem irc10 : cFunc Tryz.prog Tryz.f10 = some ir10 := by kernel_rfl
def lp6_0 : IC := (.seq (.seq (.reg [⟨some 11, none, .mv (.t 5)⟩,
  ⟨some 12, none, .mv (.t 0)⟩,
  ⟨some 13, none, .len 1 (.t 12)⟩,
  ⟨some 14, none, .bop .lss (.t 11) (.t 13)⟩])
  (.cond (.t 14) .skip
  (.exit 0)))
  (.seq (.blk 1 (.seq (.par [⟨some 17, none, .mv (.t 0)⟩,
  ⟨some 18, none, .mv (.t 5)⟩,
  ⟨some 19, none, .ia 6 (.t 17) (.t 18)⟩,
  ⟨some 20, none, .fa 0 (.t 19)⟩,
  ⟨some 21, none, .ld false 1 (.t 20)⟩,
  ⟨some 22, none, .mv (.t 1)⟩,
  ⟨some 23, none, .mv (.t 5)⟩,
  ⟨some 24, none, .ia 6 (.t 22) (.t 23)⟩,
  ⟨some 25, none, .fa 0 (.t 24)⟩,
  ⟨some 26, none, .ld false 1 (.t 25)⟩,
  ⟨some 27, none, .bop .neq (.t 21) (.t 26)⟩,
  ⟨some 28, none, .mv (.t 27)⟩,
  ⟨some 29, some (28, false), .mv (.t 0)⟩,
  ⟨some 30, some (28, false), .mv (.t 5)⟩,
  ⟨some 31, some (28, false), .ia 6 (.t 29) (.t 30)⟩,
  ⟨some 32, some (28, false), .fa 1 (.t 31)⟩,
  ⟨some 33, some (28, false), .ld true 5 (.t 32)⟩,
  ⟨some 34, some (28, false), .mv (.t 1)⟩,
  ⟨some 35, some (28, false), .mv (.t 5)⟩,
  ⟨some 36, some (28, false), .ia 6 (.t 34) (.t 35)⟩,
  ⟨some 37, some (28, false), .fa 1 (.t 36)⟩,
  ⟨some 38, some (28, false), .ld true 5 (.t 37)⟩,
  ⟨some 39, some (28, false), .call 19 [(.t 33), (.t 38)]⟩,
  ⟨some 40, some (28, false), .un .not (.t 39)⟩,
  ⟨some 41, none, .pick (.t 28) (.c (.b true)) (.t 40)⟩] [0, 0, 3, 7, 15, 0, 0, 96, 224, 480, 1023, 2047, 4095, 4095, 16383, 32767, 65535, 4095, 4095, 397311, 921599, 1970175, 4194303, 8388607, 16777215])
  (.cond (.t 41) (.seq (.reg [⟨some 4, none, .mv (.c (.b false))⟩])
  .ret)
  .skip)))
  (.reg [⟨some 15, none, .mv (.t 5)⟩,
  ⟨some 16, none, .bop .add (.t 15) (.c (.i .i64 1))⟩,
  ⟨some 5, none, .mv (.t 16)⟩])))
def ir6 : XF := ⟨42, 2, [(4, none)], (.seq (.reg [⟨some 4, none, .mv (.c (.b false))⟩])
  (.seq (.seq (.reg [⟨some 6, none, .mv (.t 0)⟩,
  ⟨some 7, none, .len 1 (.t 6)⟩,
  ⟨some 8, none, .mv (.t 1)⟩,
  ⟨some 9, none, .len 1 (.t 8)⟩,
  ⟨some 10, none, .bop .neq (.t 7) (.t 9)⟩])
  (.cond (.t 10) (.seq (.reg [⟨some 4, none, .mv (.c (.b false))⟩])
  .ret)
  .skip))
  (.seq (.seq (.reg [⟨some 5, none, .mv (.c (.i .i64 0))⟩])
  (.blk 0 (.loop lp6_0)))
  (.seq (.reg [⟨some 4, none, .mv (.c (.b true))⟩])
  .ret))))⟩

theorem irc6 : cFunc Tryz.prog Tryz.f6 = some ir6 := by kernel_rfl
def tabI : Trie XF := .lf
def tabL : List (Nat × XF) := []
theorem tabI_eq : tabI = ofList tabL := by kernel_rfl
theorem tabI_ok : TabOk Tryz.prog tabI := tab_of tabI_eq (by kernel_rfl) fun p hp => by
  simp only [tabL, List.mem_cons, List.not_mem_nil, or_false] at hp
abbrev cal : CallT := run mth tabI noOrc 1000 20
theorem pu_of {f : Nat} {fn : Func} {x : XF} (hfn : Tryz.prog.funcs[f]? = some fn) (hc : cFunc Tryz.prog fn = some x) {args : List TV} {pa : List PA} {v : TV} {obs : List Ob} (hx : funO 6 mth cal 1000 x args pa = some (v, obs)) (hv : v.flat = true) (ho : Owes Tryz.prog rho obs) : Pu f args v :=
  pu_of' tabI_ok hfn hc hx hv ho
theorem lp_more {x : IC} {ks : List Nat} {m : Nat} {e e2 e' : Trie TV} {t t2 t' : Trie TB} {n n' : Nat} {pa : List PA} {ex : EX} {obs : List Ob} (hx : bodyO 6 mth cal 1000 x ks m e t n pa = some (.nrm, e2, t2, obs)) (ho : Owes Tryz.prog rho obs) (hl : LoopC Tryz.prog rho x e2 t2 m ex e' t' n') : LoopC Tryz.prog rho x e t n ex e' t' n' :=
  lp_more' tabI_ok hx ho hl
theorem lp_end {x : IC} {ks : List Nat} {m : Nat} {e e2 : Trie TV} {t t2 : Trie TB} {n : Nat} {pa : List PA} {ex : EX} {obs : List Ob} (hx : bodyO 6 mth cal 1000 x ks m e t n pa = some (ex, e2, t2, obs)) (hne : ex ≠ .nrm) (ho : Owes Tryz.prog rho obs) : LoopC Tryz.prog rho x e t n ex e2 t2 m :=
  lp_end' tabI_ok hx hne ho
theorem gr_0 (kd : Int) (ls st : List Tr) (bs : List Bool) (nt : Nat) (t u v : Tr) : funO 6 mth cal 1000 ir4 [(.ag [(.i .i8 kd), .any, .any, (.es 27 (.r (rowsT ls))), (.es 4 (.r (rowsO bs))), (.es 27 (.r (rowsT st))), (.es 146 (.r (rowsU nt))), .any, .any, .any, .any, .any, .any, (.i .i8 t.k), (.i .i64 t.n), (.s (nats t.s)), (.s (nats t.t)), (.es 27 (.r (rowsT t.l))), (.i .i8 u.k), (.i .i64 u.n), (.s (nats u.s)), (.s (nats u.t)), (.es 27 (.r (rowsT u.l))), (.i .i8 v.k), (.i .i64 v.n), (.s (nats v.s)), (.s (nats v.t)), (.es 27 (.r (rowsT v.l))), .any, .any, .any, .any, .any, .any, .any])] [.br true] = some ((.b true), [.eqb (decide (100 < (List.length (rowsT ls) : Int))) true]) := by kernel_rfl
theorem gr_1 (kd : Int) (ls st : List Tr) (bs : List Bool) (nt : Nat) (t u v : Tr) : funO 6 mth cal 1000 ir4 [(.ag [(.i .i8 kd), .any, .any, (.es 27 (.r (rowsT ls))), (.es 4 (.r (rowsO bs))), (.es 27 (.r (rowsT st))), (.es 146 (.r (rowsU nt))), .any, .any, .any, .any, .any, .any, (.i .i8 t.k), (.i .i64 t.n), (.s (nats t.s)), (.s (nats t.t)), (.es 27 (.r (rowsT t.l))), (.i .i8 u.k), (.i .i64 u.n), (.s (nats u.s)), (.s (nats u.t)), (.es 27 (.r (rowsT u.l))), (.i .i8 v.k), (.i .i64 v.n), (.s (nats v.s)), (.s (nats v.t)), (.es 27 (.r (rowsT v.l))), .any, .any, .any, .any, .any, .any, .any])] [.br false, .br true] = some ((.b true), [.eqb (decide (100 < (List.length (rowsO bs) : Int))) true, .eqb (decide (100 < (List.length (rowsT ls) : Int))) false]) := by kernel_rfl
theorem gr_2 (kd : Int) (ls st : List Tr) (bs : List Bool) (nt : Nat) (t u v : Tr) : funO 6 mth cal 1000 ir4 [(.ag [(.i .i8 kd), .any, .any, (.es 27 (.r (rowsT ls))), (.es 4 (.r (rowsO bs))), (.es 27 (.r (rowsT st))), (.es 146 (.r (rowsU nt))), .any, .any, .any, .any, .any, .any, (.i .i8 t.k), (.i .i64 t.n), (.s (nats t.s)), (.s (nats t.t)), (.es 27 (.r (rowsT t.l))), (.i .i8 u.k), (.i .i64 u.n), (.s (nats u.s)), (.s (nats u.t)), (.es 27 (.r (rowsT u.l))), (.i .i8 v.k), (.i .i64 v.n), (.s (nats v.s)), (.s (nats v.t)), (.es 27 (.r (rowsT v.l))), .any, .any, .any, .any, .any, .any, .any])] [.br false, .br false, .br true] = some ((.b true), [.eqb (decide (100 < (List.length (rowsU nt) : Int))) true, .eqb (decide (100 < (List.length (rowsO bs) : Int))) false, .eqb (decide (100 < (List.length (rowsT ls) : Int))) false]) := by kernel_rfl
theorem gr_3 (kd : Int) (ls st : List Tr) (bs : List Bool) (nt : Nat) (t u v : Tr) : funO 6 mth cal 1000 ir4 [(.ag [(.i .i8 kd), .any, .any, (.es 27 (.r (rowsT ls))), (.es 4 (.r (rowsO bs))), (.es 27 (.r (rowsT st))), (.es 146 (.r (rowsU nt))), .any, .any, .any, .any, .any, .any, (.i .i8 t.k), (.i .i64 t.n), (.s (nats t.s)), (.s (nats t.t)), (.es 27 (.r (rowsT t.l))), (.i .i8 u.k), (.i .i64 u.n), (.s (nats u.s)), (.s (nats u.t)), (.es 27 (.r (rowsT u.l))), (.i .i8 v.k), (.i .i64 v.n), (.s (nats v.s)), (.s (nats v.t)), (.es 27 (.r (rowsT v.l))), .any, .any, .any, .any, .any, .any, .any])] [.br false, .br false, .br false, .br true] = some ((.b true), [.eqb (decide (2000 < (List.length (rowsT st) : Int))) true, .eqb (decide (100 < (List.length (rowsU nt) : Int))) false, .eqb (decide (100 < (List.length (rowsO bs) : Int))) false, .eqb (decide (100 < (List.length (rowsT ls) : Int))) false]) := by kernel_rfl
theorem gr_4 (kd : Int) (ls st : List Tr) (bs : List Bool) (nt : Nat) (t u v : Tr) : funO 6 mth cal 1000 ir4 [(.ag [(.i .i8 kd), .any, .any, (.es 27 (.r (rowsT ls))), (.es 4 (.r (rowsO bs))), (.es 27 (.r (rowsT st))), (.es 146 (.r (rowsU nt))), .any, .any, .any, .any, .any, .any, (.i .i8 t.k), (.i .i64 t.n), (.s (nats t.s)), (.s (nats t.t)), (.es 27 (.r (rowsT t.l))), (.i .i8 u.k), (.i .i64 u.n), (.s (nats u.s)), (.s (nats u.t)), (.es 27 (.r (rowsT u.l))), (.i .i8 v.k), (.i .i64 v.n), (.s (nats v.s)), (.s (nats v.t)), (.es 27 (.r (rowsT v.l))), .any, .any, .any, .any, .any, .any, .any])] [.br false, .br false, .br false, .br false, .cl [.as] (.b true)] = some ((.b true), [.call 11 [(.es 27 (.r (rowsT ls)))] (.b true), .eqb (freeL []) true, .eqb (TV.free (.es 27 (.r (rowsT ls)))) true, .eqb (decide (2000 < (List.length (rowsT st) : Int))) false, .eqb (decide (100 < (List.length (rowsU nt) : Int))) false, .eqb (decide (100 < (List.length (rowsO bs) : Int))) false, .eqb (decide (100 < (List.length (rowsT ls) : Int))) false]) := by kernel_rfl
theorem gr_5 (kd : Int) (ls st : List Tr) (bs : List Bool) (nt : Nat) (t u v : Tr) : funO 6 mth cal 1000 ir4 [(.ag [(.i .i8 kd), .any, .any, (.es 27 (.r (rowsT ls))), (.es 4 (.r (rowsO bs))), (.es 27 (.r (rowsT st))), (.es 146 (.r (rowsU nt))), .any, .any, .any, .any, .any, .any, (.i .i8 t.k), (.i .i64 t.n), (.s (nats t.s)), (.s (nats t.t)), (.es 27 (.r (rowsT t.l))), (.i .i8 u.k), (.i .i64 u.n), (.s (nats u.s)), (.s (nats u.t)), (.es 27 (.r (rowsT u.l))), (.i .i8 v.k), (.i .i64 v.n), (.s (nats v.s)), (.s (nats v.t)), (.es 27 (.r (rowsT v.l))), .any, .any, .any, .any, .any, .any, .any])] [.br false, .br false, .br false, .br false, .cl [.as] (.b false), .cl [.as] (.b true)] = some ((.b true), [.call 12 [(.es 27 (.r (rowsT st)))] (.b true), .eqb (freeL []) true, .eqb (TV.free (.es 27 (.r (rowsT st)))) true, .call 11 [(.es 27 (.r (rowsT ls)))] (.b false), .eqb (freeL []) true, .eqb (TV.free (.es 27 (.r (rowsT ls)))) true, .eqb (decide (2000 < (List.length (rowsT st) : Int))) false, .eqb (decide (100 < (List.length (rowsU nt) : Int))) false, .eqb (decide (100 < (List.length (rowsO bs) : Int))) false, .eqb (decide (100 < (List.length (rowsT ls) : Int))) false]) := by kernel_rfl
theorem gr_6 (kd : Int) (ls st : List Tr) (bs : List Bool) (nt : Nat) (t u v : Tr) : funO 6 mth cal 1000 ir4 [(.ag [(.i .i8 kd), .any, .any, (.es 27 (.r (rowsT ls))), (.es 4 (.r (rowsO bs))), (.es 27 (.r (rowsT st))), (.es 146 (.r (rowsU nt))), .any, .any, .any, .any, .any, .any, (.i .i8 t.k), (.i .i64 t.n), (.s (nats t.s)), (.s (nats t.t)), (.es 27 (.r (rowsT t.l))), (.i .i8 u.k), (.i .i64 u.n), (.s (nats u.s)), (.s (nats u.t)), (.es 27 (.r (rowsT u.l))), (.i .i8 v.k), (.i .i64 v.n), (.s (nats v.s)), (.s (nats v.t)), (.es 27 (.r (rowsT v.l))), .any, .any, .any, .any, .any, .any, .any])] [.br false, .br false, .br false, .br false, .cl [.as] (.b false), .cl [.as] (.b false), .cl [.as] (.b true)] = some ((.b true), [.call 13 [(.ag [(.i .i8 t.k), (.i .i64 t.n), (.s (nats t.s)), (.s (nats t.t)), (.es 27 (.r (rowsT t.l)))])] (.b true), .eqb (freeL []) true, .eqb (TV.free (.ag [(.i .i8 t.k), (.i .i64 t.n), (.s (nats t.s)), (.s (nats t.t)), (.es 27 (.r (rowsT t.l)))])) true, .call 12 [(.es 27 (.r (rowsT st)))] (.b false), .eqb (freeL []) true, .eqb (TV.free (.es 27 (.r (rowsT st)))) true, .call 11 [(.es 27 (.r (rowsT ls)))] (.b false), .eqb (freeL []) true, .eqb (TV.free (.es 27 (.r (rowsT ls)))) true, .eqb (decide (2000 < (List.length (rowsT st) : Int))) false, .eqb (decide (100 < (List.length (rowsU nt) : Int))) false, .eqb (decide (100 < (List.length (rowsO bs) : Int))) false, .eqb (decide (100 < (List.length (rowsT ls) : Int))) false]) := by kernel_rfl
theorem gr_7 (kd : Int) (ls st : List Tr) (bs : List Bool) (nt : Nat) (t u v : Tr) : funO 6 mth cal 1000 ir4 [(.ag [(.i .i8 kd), .any, .any, (.es 27 (.r (rowsT ls))), (.es 4 (.r (rowsO bs))), (.es 27 (.r (rowsT st))), (.es 146 (.r (rowsU nt))), .any, .any, .any, .any, .any, .any, (.i .i8 t.k), (.i .i64 t.n), (.s (nats t.s)), (.s (nats t.t)), (.es 27 (.r (rowsT t.l))), (.i .i8 u.k), (.i .i64 u.n), (.s (nats u.s)), (.s (nats u.t)), (.es 27 (.r (rowsT u.l))), (.i .i8 v.k), (.i .i64 v.n), (.s (nats v.s)), (.s (nats v.t)), (.es 27 (.r (rowsT v.l))), .any, .any, .any, .any, .any, .any, .any])] [.br false, .br false, .br false, .br false, .cl [.as] (.b false), .cl [.as] (.b false), .cl [.as] (.b false), .cl [.as] (.b true)] = some ((.b true), [.call 13 [(.ag [(.i .i8 u.k), (.i .i64 u.n), (.s (nats u.s)), (.s (nats u.t)), (.es 27 (.r (rowsT u.l)))])] (.b true), .eqb (freeL []) true, .eqb (TV.free (.ag [(.i .i8 u.k), (.i .i64 u.n), (.s (nats u.s)), (.s (nats u.t)), (.es 27 (.r (rowsT u.l)))])) true, .call 13 [(.ag [(.i .i8 t.k), (.i .i64 t.n), (.s (nats t.s)), (.s (nats t.t)), (.es 27 (.r (rowsT t.l)))])] (.b false), .eqb (freeL []) true, .eqb (TV.free (.ag [(.i .i8 t.k), (.i .i64 t.n), (.s (nats t.s)), (.s (nats t.t)), (.es 27 (.r (rowsT t.l)))])) true, .call 12 [(.es 27 (.r (rowsT st)))] (.b false), .eqb (freeL []) true, .eqb (TV.free (.es 27 (.r (rowsT st)))) true, .call 11 [(.es 27 (.r (rowsT ls)))] (.b false), .eqb (freeL []) true, .eqb (TV.free (.es 27 (.r (rowsT ls)))) true, .eqb (decide (2000 < (List.length (rowsT st) : Int))) false, .eqb (decide (100 < (List.length (rowsU nt) : Int))) false, .eqb (decide (100 < (List.length (rowsO bs) : Int))) false, .eqb (decide (100 < (List.length (rowsT ls) : Int))) false]) := by kernel_rfl
theorem gr_8 (kd : Int) (ls st : List Tr) (bs : List Bool) (nt : Nat) (t u v : Tr) (vGreat4 : Bool) : funO 6 mth cal 1000 ir4 [(.ag [(.i .i8 kd), .any, .any, (.es 27 (.r (rowsT ls))), (.es 4 (.r (rowsO bs))), (.es 27 (.r (rowsT st))), (.es 146 (.r (rowsU nt))), .any, .any, .any, .any, .any, .any, (.i .i8 t.k), (.i .i64 t.n), (.s (nats t.s)), (.s (nats t.t)), (.es 27 (.r (rowsT t.l))), (.i .i8 u.k), (.i .i64 u.n), (.s (nats u.s)), (.s (nats u.t)), (.es 27 (.r (rowsT u.l))), (.i .i8 v.k), (.i .i64 v.n), (.s (nats v.s)), (.s (nats v.t)), (.es 27 (.r (rowsT v.l))), .any, .any, .any, .any, .any, .any, .any])] [.br false, .br false, .br false, .br false, .cl [.as] (.b false), .cl [.as] (.b false), .cl [.as] (.b false), .cl [.as] (.b false), .cl [.as] (.b (vGreat4))] = some ((.b (vGreat4)), [.call 13 [(.ag [(.i .i8 v.k), (.i .i64 v.n), (.s (nats v.s)), (.s (nats v.t)), (.es 27 (.r (rowsT v.l)))])] (.b (vGreat4)), .eqb (freeL []) true, .eqb (TV.free (.ag [(.i .i8 v.k), (.i .i64 v.n), (.s (nats v.s)), (.s (nats v.t)), (.es 27 (.r (rowsT v.l)))])) true, .call 13 [(.ag [(.i .i8 u.k), (.i .i64 u.n), (.s (nats u.s)), (.s (nats u.t)), (.es 27 (.r (rowsT u.l)))])] (.b false), .eqb (freeL []) true, .eqb (TV.free (.ag [(.i .i8 u.k), (.i .i64 u.n), (.s (nats u.s)), (.s (nats u.t)), (.es 27 (.r (rowsT u.l)))])) true, .call 13 [(.ag [(.i .i8 t.k), (.i .i64 t.n), (.s (nats t.s)), (.s (nats t.t)), (.es 27 (.r (rowsT t.l)))])] (.b false), .eqb (freeL []) true, .eqb (TV.free (.ag [(.i .i8 t.k), (.i .i64 t.n), (.s (nats t.s)), (.s (nats t.t)), (.es 27 (.r (rowsT t.l)))])) true, .call 12 [(.es 27 (.r (rowsT st)))] (.b false), .eqb (freeL []) true, .eqb (TV.free (.es 27 (.r (rowsT st)))) true, .call 11 [(.es 27 (.r (rowsT ls)))] (.b false), .eqb (freeL []) true, .eqb (TV.free (.es 27 (.r (rowsT ls)))) true, .eqb (decide (2000 < (List.length (rowsT st) : Int))) false, .eqb (decide (100 < (List.length (rowsU nt) : Int))) false, .eqb (decide (100 < (List.length (rowsO bs) : Int))) false, .eqb (decide (100 < (List.length (rowsT ls) : Int))) false]) := by kernel_rfl
theorem gr (kd : Int) (ls st : List Tr) (bs : List Bool) (nt : Nat) (t u v : Tr) (vGreatAll0 : Bool) (vwide1 : Bool) (vGreat2 : Bool) (vGreat3 : Bool) (vGreat4 : Bool) (c0 : (decide (100 < (List.length (rowsT ls) : Int))) = false → (decide (100 < (List.length (rowsO bs) : Int))) = false → (decide (100 < (List.length (rowsU nt) : Int))) = false → (decide (2000 < (List.length (rowsT st) : Int))) = false → Pu 11 [(.es 27 (.r (rowsT ls)))] (.b (vGreatAll0))) (c1 : (decide (100 < (List.length (rowsT ls) : Int))) = false → (decide (100 < (List.length (rowsO bs) : Int))) = false → (decide (100 < (List.length (rowsU nt) : Int))) = false → (decide (2000 < (List.length (rowsT st) : Int))) = false → vGreatAll0 = false → Pu 12 [(.es 27 (.r (rowsT st)))] (.b (vwide1))) (c2 : (decide (100 < (List.length (rowsT ls) : Int))) = false → (decide (100 < (List.length (rowsO bs) : Int))) = false → (decide (100 < (List.length (rowsU nt) : Int))) = false → (decide (2000 < (List.length (rowsT st) : Int))) = false → vGreatAll0 = false → vwide1 = false → Pu 13 [(.ag [(.i .i8 t.k), (.i .i64 t.n), (.s (nats t.s)), (.s (nats t.t)), (.es 27 (.r (rowsT t.l)))])] (.b (vGreat2))) (c3 : (decide (100 < (List.length (rowsT ls) : Int))) = false → (decide (100 < (List.length (rowsO bs) : Int))) = false → (decide (100 < (List.length (rowsU nt) : Int))) = false → (decide (2000 < (List.length (rowsT st) : Int))) = false → vGreatAll0 = false → vwide1 = false → vGreat2 = false → Pu 13 [(.ag [(.i .i8 u.k), (.i .i64 u.n), (.s (nats u.s)), (.s (nats u.t)), (.es 27 (.r (rowsT u.l)))])] (.b (vGreat3))) (c4 : (decide (100 < (List.length (rowsT ls) : Int))) = false → (decide (100 < (List.length (rowsO bs) : Int))) = false → (decide (100 < (List.length (rowsU nt) : Int))) = false → (decide (2000 < (List.length (rowsT st) : Int))) = false → vGreatAll0 = false → vwide1 = false → vGreat2 = false → vGreat3 = false → Pu 13 [(.ag [(.i .i8 v.k), (.i .i64 v.n), (.s (nats v.s)), (.s (nats v.t)), (.es 27 (.r (rowsT v.l)))])] (.b (vGreat4))) : Pu 4 [(.ag [(.i .i8 kd), .any, .any, (.es 27 (.r (rowsT ls))), (.es 4 (.r (rowsO bs))), (.es 27 (.r (rowsT st))), (.es 146 (.r (rowsU nt))), .any, .any, .any, .any, .any, .any, (.i .i8 t.k), (.i .i64 t.n), (.s (nats t.s)), (.s (nats t.t)), (.es 27 (.r (rowsT t.l))), (.i .i8 u.k), (.i .i64 u.n), (.s (nats u.s)), (.s (nats u.t)), (.es 27 (.r (rowsT u.l))), (.i .i8 v.k), (.i .i64 v.n), (.s (nats v.s)), (.s (nats v.t)), (.es 27 (.r (rowsT v.l))), .any, .any, .any, .any, .any, .any, .any])] (.b (bif decide (100 < (List.length (rowsT ls) : Int)) then true else (bif decide (100 < (List.length (rowsO bs) : Int)) then true else (bif decide (100 < (List.length (rowsU nt) : Int)) then true else (bif decide (2000 < (List.length (rowsT st) : Int)) then true else (bif vGreatAll0 then true else (bif vwide1 then true else (bif vGreat2 then true else (bif vGreat3 then true else vGreat4))))))))) := by
  cases h0 : (decide (100 < (List.length (rowsT ls) : Int)))
  case false =>
    cases h1 : (decide (100 < (List.length (rowsO bs) : Int)))
    case false =>
      cases h2 : (decide (100 < (List.length (rowsU nt) : Int)))
      case false =>
        cases h3 : (decide (2000 < (List.length (rowsT st) : Int)))
        case false =>
          cases vGreatAll0
          case false =>
            cases vwide1
            case false =>
              cases vGreat2
              case false =>
                cases vGreat3
                case false =>
                  exact pu_of Tryz.func4 irc4 (gr_8 kd ls st bs nt t u v vGreat4) rfl ⟨(c4 h0 h1 h2 h3 rfl rfl rfl rfl), rfl, rfl, (c3 h0 h1 h2 h3 rfl rfl rfl), rfl, rfl, (c2 h0 h1 h2 h3 rfl rfl), rfl, rfl, (c1 h0 h1 h2 h3 rfl), rfl, rfl, (c0 h0 h1 h2 h3), rfl, rfl, h3, h2, h1, h0, trivial⟩
                case true =>
                  exact pu_of Tryz.func4 irc4 (gr_7 kd ls st bs nt t u v) rfl ⟨(c3 h0 h1 h2 h3 rfl rfl rfl), rfl, rfl, (c2 h0 h1 h2 h3 rfl rfl), rfl, rfl, (c1 h0 h1 h2 h3 rfl), rfl, rfl, (c0 h0 h1 h2 h3), rfl, rfl, h3, h2, h1, h0, trivial⟩
              case true =>
                exact pu_of Tryz.func4 irc4 (gr_6 kd ls st bs nt t u v) rfl ⟨(c2 h0 h1 h2 h3 rfl rfl), rfl, rfl, (c1 h0 h1 h2 h3 rfl), rfl, rfl, (c0 h0 h1 h2 h3), rfl, rfl, h3, h2, h1, h0, trivial⟩
            case true =>
              exact pu_of Tryz.func4 irc4 (gr_5 kd ls st bs nt t u v) rfl ⟨(c1 h0 h1 h2 h3 rfl), rfl, rfl, (c0 h0 h1 h2 h3), rfl, rfl, h3, h2, h1, h0, trivial⟩
          case true =>
            exact pu_of Tryz.func4 irc4 (gr_4 kd ls st bs nt t u v) rfl ⟨(c0 h0 h1 h2 h3), rfl, rfl, h3, h2, h1, h0, trivial⟩
        case true =>
          exact pu_of Tryz.func4 irc4 (gr_3 kd ls st bs nt t u v) rfl ⟨h3, h2, h1, h0, trivial⟩
      case true =>
        exact pu_of Tryz.func4 irc4 (gr_2 kd ls st bs nt t u v) rfl ⟨h2, h1, h0, trivial⟩
    case true =>
      exact pu_of Tryz.func4 irc4 (gr_1 kd ls st bs nt t u v) rfl ⟨h1, h0, trivial⟩
  case true =>
    exact pu_of Tryz.func4 irc4 (gr_0 kd ls st bs nt t u v) rfl ⟨h0, trivial⟩
theorem pa_0 (op a b : Int) : funO 6 mth cal 1000 ir9 [(.ag [(.i .i8 op), (.i .i64 a), (.i .i64 b), .any, .any, .any, .any, .any, .any, .any, .any, .any, .any, .any])] [.br true] = some ((.i .i64 (cond (Sx.ilt (1 + (cond (Sx.ilt 4611686018427387904 a) 4611686018427387904 a)) 0) 0 (1 + (cond (Sx.ilt 4611686018427387904 a) 4611686018427387904 a)))), [.eqb (Sx.inK .i64 (1 + (cond (Sx.ilt 4611686018427387904 a) 4611686018427387904 a))) true, .eqb (decide (op = 10)) true]) := by kernel_rfl
theorem pa_1 (op a b : Int) : funO 6 mth cal 1000 ir9 [(.ag [(.i .i8 op), (.i .i64 a), (.i .i64 b), .any, .any, .any, .any, .any, .any, .any, .any, .any, .any, .any])] [.br false, .br true] = some ((.i .i64 (cond (Sx.ilt (0 + (cond (Sx.ilt 4611686018427387904 a) 4611686018427387904 a)) 0) 0 (0 + (cond (Sx.ilt 4611686018427387904 a) 4611686018427387904 a)))), [.eqb (Sx.inK .i64 (0 + (cond (Sx.ilt 4611686018427387904 a) 4611686018427387904 a))) true, .eqb (decide (op = 4)) true, .eqb (decide (op = 10)) false]) := by kernel_rfl
theorem pa_2 (op a b : Int) : funO 6 mth cal 1000 ir9 [(.ag [(.i .i8 op), (.i .i64 a), (.i .i64 b), .any, .any, .any, .any, .any, .any, .any, .any, .any, .any, .any])] [.br false, .br false, .br true] = some ((.i .i64 (cond (Sx.ilt (0 + (cond (Sx.ilt 4611686018427387904 a) 4611686018427387904 a)) 0) 0 (0 + (cond (Sx.ilt 4611686018427387904 a) 4611686018427387904 a)))), [.eqb (Sx.inK .i64 (0 + (cond (Sx.ilt 4611686018427387904 a) 4611686018427387904 a))) true, .eqb (decide (op = 8)) true, .eqb (decide (op = 4)) false, .eqb (decide (op = 10)) false]) := by kernel_rfl
theorem pa_3 (op a b : Int) : funO 6 mth cal 1000 ir9 [(.ag [(.i .i8 op), (.i .i64 a), (.i .i64 b), .any, .any, .any, .any, .any, .any, .any, .any, .any, .any, .any])] [.br false, .br false, .br false, .br true] = some ((.i .i64 (cond (Sx.ilt (0 + (cond (Sx.ilt 4611686018427387904 a) 4611686018427387904 a)) 0) 0 (0 + (cond (Sx.ilt 4611686018427387904 a) 4611686018427387904 a)))), [.eqb (Sx.inK .i64 (0 + (cond (Sx.ilt 4611686018427387904 a) 4611686018427387904 a))) true, .eqb (decide (op = 9)) true, .eqb (decide (op = 8)) false, .eqb (decide (op = 4)) false, .eqb (decide (op = 10)) false]) := by kernel_rfl
theorem pa_4 (op a b : Int) : funO 6 mth cal 1000 ir9 [(.ag [(.i .i8 op), (.i .i64 a), (.i .i64 b), .any, .any, .any, .any, .any, .any, .any, .any, .any, .any, .any])] [.br false, .br false, .br false, .br false, .br true] = some ((.i .i64 (cond (Sx.ilt (0 + (cond (Sx.ilt 4611686018427387904 a) 4611686018427387904 a)) 0) 0 (0 + (cond (Sx.ilt 4611686018427387904 a) 4611686018427387904 a)))), [.eqb (Sx.inK .i64 (0 + (cond (Sx.ilt 4611686018427387904 a) 4611686018427387904 a))) true, .eqb (decide (op = 7)) true, .eqb (decide (op = 9)) false, .eqb (decide (op = 8)) false, .eqb (decide (op = 4)) false, .eqb (decide (op = 10)) false]) := by kernel_rfl
theorem pa_5 (op a b : Int) : funO 6 mth cal 1000 ir9 [(.ag [(.i .i8 op), (.i .i64 a), (.i .i64 b), .any, .any, .any, .any, .any, .any, .any, .any, .any, .any, .any])] [.br false, .br false, .br false, .br false, .br false, .br true] = some ((.i .i64 2), [.eqb (decide (op = 5)) true, .eqb (decide (op = 7)) false, .eqb (decide (op = 9)) false, .eqb (decide (op = 8)) false, .eqb (decide (op = 4)) false, .eqb (decide (op = 10)) false]) := by kernel_rfl
theorem pa_6 (op a b : Int) : funO 6 mth cal 1000 ir9 [(.ag [(.i .i8 op), (.i .i64 a), (.i .i64 b), .any, .any, .any, .any, .any, .any, .any, .any, .any, .any, .any])] [.br false, .br false, .br false, .br false, .br false, .br false, .br true] = some ((.i .i64 2), [.eqb (decide (op = 6)) true, .eqb (decide (op = 5)) false, .eqb (decide (op = 7)) false, .eqb (decide (op = 9)) false, .eqb (decide (op = 8)) false, .eqb (decide (op = 4)) false, .eqb (decide (op = 10)) false]) := by kernel_rfl
theorem pa_7 (op a b : Int) : funO 6 mth cal 1000 ir9 [(.ag [(.i .i8 op), (.i .i64 a), (.i .i64 b), .any, .any, .any, .any, .any, .any, .any, .any, .any, .any, .any])] [.br false, .br false, .br false, .br false, .br false, .br false, .br false, .br true] = some ((.i .i64 1), [.eqb (decide (op = 2)) true, .eqb (decide (op = 6)) false, .eqb (decide (op = 5)) false, .eqb (decide (op = 7)) false, .eqb (decide (op = 9)) false, .eqb (decide (op = 8)) false, .eqb (decide (op = 4)) false, .eqb (decide (op = 10)) false]) := by kernel_rfl
theorem pa_8 (op a b : Int) : funO 6 mth cal 1000 ir9 [(.ag [(.i .i8 op), (.i .i64 a), (.i .i64 b), .any, .any, .any, .any, .any, .any, .any, .any, .any, .any, .any])] [.br false, .br false, .br false, .br false, .br false, .br false, .br false, .br false, .br true] = some ((.i .i64 1), [.eqb (decide (op = 3)) true, .eqb (decide (op = 2)) false, .eqb (decide (op = 6)) false, .eqb (decide (op = 5)) false, .eqb (decide (op = 7)) false, .eqb (decide (op = 9)) false, .eqb (decide (op = 8)) false, .eqb (decide (op = 4)) false, .eqb (decide (op = 10)) false]) := by kernel_rfl
theorem pa_9 (op a b : Int) : funO 6 mth cal 1000 ir9 [(.ag [(.i .i8 op), (.i .i64 a), (.i .i64 b), .any, .any, .any, .any, .any, .any, .any, .any, .any, .any, .any])] [.br false, .br false, .br false, .br false, .br false, .br false, .br false, .br false, .br false, .br true] = some ((.i .i64 1), [.eqb (decide (op = 11)) true, .eqb (decide (op = 3)) false, .eqb (decide (op = 2)) false, .eqb (decide (op = 6)) false, .eqb (decide (op = 5)) false, .eqb (decide (op = 7)) false, .eqb (decide (op = 9)) false, .eqb (decide (op = 8)) false, .eqb (decide (op = 4)) false, .eqb (decide (op = 10)) false]) := by kernel_rfl
theorem pa_10 (op a b : Int) : funO 6 mth cal 1000 ir9 [(.ag [(.i .i8 op), (.i .i64 a), (.i .i64 b), .any, .any, .any, .any, .any, .any, .any, .any, .any, .any, .any])] [.br false, .br false, .br false, .br false, .br false, .br false, .br false, .br false, .br false, .br false, .br true] = some ((.i .i64 1), [.eqb (decide (op = 13)) true, .eqb (decide (op = 11)) false, .eqb (decide (op = 3)) false, .eqb (decide (op = 2)) false, .eqb (decide (op = 6)) false, .eqb (decide (op = 5)) false, .eqb (decide (op = 7)) false, .eqb (decide (op = 9)) false, .eqb (decide (op = 8)) false, .eqb (decide (op = 4)) false, .eqb (decide (op = 10)) false]) := by kernel_rfl
theorem pa_11 (op a b : Int) : funO 6 mth cal 1000 ir9 [(.ag [(.i .i8 op), (.i .i64 a), (.i .i64 b), .any, .any, .any, .any, .any, .any, .any, .any, .any, .any, .any])] [.br false, .br false, .br false, .br false, .br false, .br false, .br false, .br false, .br false, .br false, .br false, .br true] = some ((.i .i64 1), [.eqb (decide (op = 19)) true, .eqb (decide (op = 13)) false, .eqb (decide (op = 11)) false, .eqb (decide (op = 3)) false, .eqb (decide (op = 2)) false, .eqb (decide (op = 6)) false, .eqb (decide (op = 5)) false, .eqb (decide (op = 7)) false, .eqb (decide (op = 9)) false, .eqb (decide (op = 8)) false, .eqb (decide (op = 4)) false, .eqb (decide (op = 10)) false]) := by kernel_rfl
theorem pa_12 (op a b : Int) : funO 6 mth cal 1000 ir9 [(.ag [(.i .i8 op), (.i .i64 a), (.i .i64 b), .any, .any, .any, .any, .any, .any, .any, .any, .any, .any, .any])] [.br false, .br false, .br false, .br false, .br false, .br false, .br false, .br false, .br false, .br false, .br false, .br false, .br true] = some ((.i .i64 (cond (Sx.ilt b 0) 0 b)), [.eqb (decide (op = 15)) true, .eqb (decide (op = 19)) false, .eqb (decide (op = 13)) false, .eqb (decide (op = 11)) false, .eqb (decide (op = 3)) false, .eqb (decide (op = 2)) false, .eqb (decide (op = 6)) false, .eqb (decide (op = 5)) false, .eqb (decide (op = 7)) false, .eqb (decide (op = 9)) false, .eqb (decide (op = 8)) false, .eqb (decide (op = 4)) false, .eqb (decide (op = 10)) false]) := by kernel_rfl
theorem pa_13 (op a b : Int) : funO 6 mth cal 1000 ir9 [(.ag [(.i .i8 op), (.i .i64 a), (.i .i64 b), .any, .any, .any, .any, .any, .any, .any, .any, .any, .any, .any])] [.br false, .br false, .br false, .br false, .br false, .br false, .br false, .br false, .br false, .br false, .br false, .br false, .br false] = some ((.i .i64 0), [.eqb (decide (op = 15)) false, .eqb (decide (op = 19)) false, .eqb (decide (op = 13)) false, .eqb (decide (op = 11)) false, .eqb (decide (op = 3)) false, .eqb (decide (op = 2)) false, .eqb (decide (op = 6)) false, .eqb (decide (op = 5)) false, .eqb (decide (op = 7)) false, .eqb (decide (op = 9)) false, .eqb (decide (op = 8)) false, .eqb (decide (op = 4)) false, .eqb (decide (op = 10)) false]) := by kernel_rfl
theorem pa (op a b : Int) (s0 : (decide (op = 10)) = true → (Sx.inK .i64 (1 + (cond (Sx.ilt 4611686018427387904 a) 4611686018427387904 a))) = true) (s1 : (decide (op = 10)) = false → (decide (op = 4)) = true → (Sx.inK .i64 (0 + (cond (Sx.ilt 4611686018427387904 a) 4611686018427387904 a))) = true) (s2 : (decide (op = 10)) = false → (decide (op = 4)) = false → (decide (op = 8)) = true → (Sx.inK .i64 (0 + (cond (Sx.ilt 4611686018427387904 a) 4611686018427387904 a))) = true) (s3 : (decide (op = 10)) = false → (decide (op = 4)) = false → (decide (op = 8)) = false → (decide (op = 9)) = true → (Sx.inK .i64 (0 + (cond (Sx.ilt 4611686018427387904 a) 4611686018427387904 a))) = true) (s4 : (decide (op = 10)) = false → (decide (op = 4)) = false → (decide (op = 8)) = false → (decide (op = 9)) = false → (decide (op = 7)) = true → (Sx.inK .i64 (0 + (cond (Sx.ilt 4611686018427387904 a) 4611686018427387904 a))) = true) : Pu 9 [(.ag [(.i .i8 op), (.i .i64 a), (.i .i64 b), .any, .any, .any, .any, .any, .any, .any, .any, .any, .any, .any])] (.i .i64 (bif decide (op = 10) then (cond (Sx.ilt (1 + (cond (Sx.ilt 4611686018427387904 a) 4611686018427387904 a)) 0) 0 (1 + (cond (Sx.ilt 4611686018427387904 a) 4611686018427387904 a))) else (bif decide (op = 4) then (cond (Sx.ilt (0 + (cond (Sx.ilt 4611686018427387904 a) 4611686018427387904 a)) 0) 0 (0 + (cond (Sx.ilt 4611686018427387904 a) 4611686018427387904 a))) else (bif decide (op = 8) then (cond (Sx.ilt (0 + (cond (Sx.ilt 4611686018427387904 a) 4611686018427387904 a)) 0) 0 (0 + (cond (Sx.ilt 4611686018427387904 a) 4611686018427387904 a))) else (bif decide (op = 9) then (cond (Sx.ilt (0 + (cond (Sx.ilt 4611686018427387904 a) 4611686018427387904 a)) 0) 0 (0 + (cond (Sx.ilt 4611686018427387904 a) 4611686018427387904 a))) else (bif decide (op = 7) then (cond (Sx.ilt (0 + (cond (Sx.ilt 4611686018427387904 a) 4611686018427387904 a)) 0) 0 (0 + (cond (Sx.ilt 4611686018427387904 a) 4611686018427387904 a))) else (bif decide (op = 5) then 2 else (bif decide (op = 6) then 2 else (bif decide (op = 2) then 1 else (bif decide (op = 3) then 1 else (bif decide (op = 11) then 1 else (bif decide (op = 13) then 1 else (bif decide (op = 19) then 1 else (bif decide (op = 15) then (cond (Sx.ilt b 0) 0 b) else 0)))))))))))))) := by
  cases h0 : (decide (op = 10))
  case false =>
    cases h1 : (decide (op = 4))
    case false =>
      cases h2 : (decide (op = 8))
      case false =>
        cases h3 : (decide (op = 9))
        case false =>
          cases h4 : (decide (op = 7))
          case false =>
            cases h5 : (decide (op = 5))
            case false =>
              cases h6 : (decide (op = 6))
              case false =>
                cases h7 : (decide (op = 2))
                case false =>
                  cases h8 : (decide (op = 3))
                  case false =>
                    cases h9 : (decide (op = 11))
                    case false =>
                      cases h10 : (decide (op = 13))
                      case false =>
                        cases h11 : (decide (op = 19))
                        case false =>
                          cases h12 : (decide (op = 15))
                          case false =>
                            exact pu_of Tryz.func9 irc9 (pa_13 op a b) rfl ⟨h12, h11, h10, h9, h8, h7, h6, h5, h4, h3, h2, h1, h0, trivial⟩
                          case true =>
                            exact pu_of Tryz.func9 irc9 (pa_12 op a b) rfl ⟨h12, h11, h10, h9, h8, h7, h6, h5, h4, h3, h2, h1, h0, trivial⟩
                        case true =>
                          exact pu_of Tryz.func9 irc9 (pa_11 op a b) rfl ⟨h11, h10, h9, h8, h7, h6, h5, h4, h3, h2, h1, h0, trivial⟩
                      case true =>
                        exact pu_of Tryz.func9 irc9 (pa_10 op a b) rfl ⟨h10, h9, h8, h7, h6, h5, h4, h3, h2, h1, h0, trivial⟩
                    case true =>
                      exact pu_of Tryz.func9 irc9 (pa_9 op a b) rfl ⟨h9, h8, h7, h6, h5, h4, h3, h2, h1, h0, trivial⟩
                  case true =>
                    exact pu_of Tryz.func9 irc9 (pa_8 op a b) rfl ⟨h8, h7, h6, h5, h4, h3, h2, h1, h0, trivial⟩
                case true =>
                  exact pu_of Tryz.func9 irc9 (pa_7 op a b) rfl ⟨h7, h6, h5, h4, h3, h2, h1, h0, trivial⟩
              case true =>
                exact pu_of Tryz.func9 irc9 (pa_6 op a b) rfl ⟨h6, h5, h4, h3, h2, h1, h0, trivial⟩
            case true =>
              exact pu_of Tryz.func9 irc9 (pa_5 op a b) rfl ⟨h5, h4, h3, h2, h1, h0, trivial⟩
          case true =>
            exact pu_of Tryz.func9 irc9 (pa_4 op a b) rfl ⟨(s4 h0 h1 h2 h3 h4), h4, h3, h2, h1, h0, trivial⟩
        case true =>
          exact pu_of Tryz.func9 irc9 (pa_3 op a b) rfl ⟨(s3 h0 h1 h2 h3), h3, h2, h1, h0, trivial⟩
      case true =>
        exact pu_of Tryz.func9 irc9 (pa_2 op a b) rfl ⟨(s2 h0 h1 h2), h2, h1, h0, trivial⟩
    case true =>
      exact pu_of Tryz.func9 irc9 (pa_1 op a b) rfl ⟨(s1 h0 h1), h1, h0, trivial⟩
  case true =>
    exact pu_of Tryz.func9 irc9 (pa_0 op a b) rfl ⟨(s0 h0), h0, trivial⟩
theorem pb_0 (op a b : Int) : funO 6 mth cal 1000 ir10 [(.ag [(.i .i8 op), (.i .i64 a), (.i .i64 b), .any, .any, .any, .any, .any, .any, .any, .any, .any, .any, .any])] [.br true] = some ((.i .i64 (cond (Sx.ilt a 0) 0 a)), [.eqb (decide (op = 4)) true]) := by kernel_rfl
theorem pb_1 (op a b : Int) : funO 6 mth cal 1000 ir10 [(.ag [(.i .i8 op), (.i .i64 a), (.i .i64 b), .any, .any, .any, .any, .any, .any, .any, .any, .any, .any, .any])] [.br false, .br true] = some ((.i .i64 (cond (Sx.ilt a 0) 0 a)), [.eqb (decide (op = 8)) true, .eqb (decide (op = 4)) false]) := by kernel_rfl
theorem pb_2 (op a b : Int) : funO 6 mth cal 1000 ir10 [(.ag [(.i .i8 op), (.i .i64 a), (.i .i64 b), .any, .any, .any, .any, .any, .any, .any, .any, .any, .any, .any])] [.br false, .br false, .br true] = some ((.i .i64 (cond (Sx.ilt a 0) 0 a)), [.eqb (decide (op = 9)) true, .eqb (decide (op = 8)) false, .eqb (decide (op = 4)) false]) := by kernel_rfl
theorem pb_3 (op a b : Int) : funO 6 mth cal 1000 ir10 [(.ag [(.i .i8 op), (.i .i64 a), (.i .i64 b), .any, .any, .any, .any, .any, .any, .any, .any, .any, .any, .any])] [.br false, .br false, .br false, .br true] = some ((.i .i64 (cond (Sx.ilt a 0) 0 a)), [.eqb (decide (op = 7)) true, .eqb (decide (op = 9)) false, .eqb (decide (op = 8)) false, .eqb (decide (op = 4)) false]) := by kernel_rfl
theorem pb_4 (op a b : Int) : funO 6 mth cal 1000 ir10 [(.ag [(.i .i8 op), (.i .i64 a), (.i .i64 b), .any, .any, .any, .any, .any, .any, .any, .any, .any, .any, .any])] [.br false, .br false, .br false, .br false, .br true] = some ((.i .i64 2), [.eqb (decide (op = 5)) true, .eqb (decide (op = 7)) false, .eqb (decide (op = 9)) false, .eqb (decide (op = 8)) false, .eqb (decide (op = 4)) false]) := by kernel_rfl
theorem pb_5 (op a b : Int) : funO 6 mth cal 1000 ir10 [(.ag [(.i .i8 op), (.i .i64 a), (.i .i64 b), .any, .any, .any, .any, .any, .any, .any, .any, .any, .any, .any])] [.br false, .br false, .br false, .br false, .br false, .br true] = some ((.i .i64 2), [.eqb (decide (op = 6)) true, .eqb (decide (op = 5)) false, .eqb (decide (op = 7)) false, .eqb (decide (op = 9)) false, .eqb (decide (op = 8)) false, .eqb (decide (op = 4)) false]) := by kernel_rfl
theorem pb_6 (op a b : Int) : funO 6 mth cal 1000 ir10 [(.ag [(.i .i8 op), (.i .i64 a), (.i .i64 b), .any, .any, .any, .any, .any, .any, .any, .any, .any, .any, .any])] [.br false, .br false, .br false, .br false, .br false, .br false, .br true] = some ((.i .i64 (cond (Sx.ilt ((cond (Sx.ilt 1099511627776 a) 1099511627776 a) + 1) 0) 0 ((cond (Sx.ilt 1099511627776 a) 1099511627776 a) + 1))), [.eqb (Sx.inK .i64 ((cond (Sx.ilt 1099511627776 a) 1099511627776 a) + 1)) true, .eqb (decide (op = 10)) true, .eqb (decide (op = 6)) false, .eqb (decide (op = 5)) false, .eqb (decide (op = 7)) false, .eqb (decide (op = 9)) false, .eqb (decide (op = 8)) false, .eqb (decide (op = 4)) false]) := by kernel_rfl
theorem pb_7 (op a b : Int) : funO 6 mth cal 1000 ir10 [(.ag [(.i .i8 op), (.i .i64 a), (.i .i64 b), .any, .any, .any, .any, .any, .any, .any, .any, .any, .any, .any])] [.br false, .br false, .br false, .br false, .br false, .br false, .br false, .br true] = some ((.i .i64 1), [.eqb (decide (op = 2)) true, .eqb (decide (op = 10)) false, .eqb (decide (op = 6)) false, .eqb (decide (op = 5)) false, .eqb (decide (op = 7)) false, .eqb (decide (op = 9)) false, .eqb (decide (op = 8)) false, .eqb (decide (op = 4)) false]) := by kernel_rfl
theorem pb_8 (op a b : Int) : funO 6 mth cal 1000 ir10 [(.ag [(.i .i8 op), (.i .i64 a), (.i .i64 b), .any, .any, .any, .any, .any, .any, .any, .any, .any, .any, .any])] [.br false, .br false, .br false, .br false, .br false, .br false, .br false, .br false, .br true] = some ((.i .i64 1), [.eqb (decide (op = 3)) true, .eqb (decide (op = 2)) false, .eqb (decide (op = 10)) false, .eqb (decide (op = 6)) false, .eqb (decide (op = 5)) false, .eqb (decide (op = 7)) false, .eqb (decide (op = 9)) false, .eqb (decide (op = 8)) false, .eqb (decide (op = 4)) false]) := by kernel_rfl
theorem pb_9 (op a b : Int) : funO 6 mth cal 1000 ir10 [(.ag [(.i .i8 op), (.i .i64 a), (.i .i64 b), .any, .any, .any, .any, .any, .any, .any, .any, .any, .any, .any])] [.br false, .br false, .br false, .br false, .br false, .br false, .br false, .br false, .br false, .br true] = some ((.i .i64 1), [.eqb (decide (op = 11)) true, .eqb (decide (op = 3)) false, .eqb (decide (op = 2)) false, .eqb (decide (op = 10)) false, .eqb (decide (op = 6)) false, .eqb (decide (op = 5)) false, .eqb (decide (op = 7)) false, .eqb (decide (op = 9)) false, .eqb (decide (op = 8)) false, .eqb (decide (op = 4)) false]) := by kernel_rfl
theorem pb_10 (op a b : Int) : funO 6 mth cal 1000 ir10 [(.ag [(.i .i8 op), (.i .i64 a), (.i .i64 b), .any, .any, .any, .any, .any, .any, .any, .any, .any, .any, .any])] [.br false, .br false, .br false, .br false, .br false, .br false, .br false, .br false, .br false, .br false, .br true] = some ((.i .i64 1), [.eqb (decide (op = 13)) true, .eqb (decide (op = 11)) false, .eqb (decide (op = 3)) false, .eqb (decide (op = 2)) false, .eqb (decide (op = 10)) false, .eqb (decide (op = 6)) false, .eqb (decide (op = 5)) false, .eqb (decide (op = 7)) false, .eqb (decide (op = 9)) false, .eqb (decide (op = 8)) false, .eqb (decide (op = 4)) false]) := by kernel_rfl
theorem pb_11 (op a b : Int) : funO 6 mth cal 1000 ir10 [(.ag [(.i .i8 op), (.i .i64 a), (.i .i64 b), .any, .any, .any, .any, .any, .any, .any, .any, .any, .any, .any])] [.br false, .br false, .br false, .br false, .br false, .br false, .br false, .br false, .br false, .br false, .br false, .br true] = some ((.i .i64 1), [.eqb (decide (op = 19)) true, .eqb (decide (op = 13)) false, .eqb (decide (op = 11)) false, .eqb (decide (op = 3)) false, .eqb (decide (op = 2)) false, .eqb (decide (op = 10)) false, .eqb (decide (op = 6)) false, .eqb (decide (op = 5)) false, .eqb (decide (op = 7)) false, .eqb (decide (op = 9)) false, .eqb (decide (op = 8)) false, .eqb (decide (op = 4)) false]) := by kernel_rfl
theorem pb_12 (op a b : Int) : funO 6 mth cal 1000 ir10 [(.ag [(.i .i8 op), (.i .i64 a), (.i .i64 b), .any, .any, .any, .any, .any, .any, .any, .any, .any, .any, .any])] [.br false, .br false, .br false, .br false, .br false, .br false, .br false, .br false, .br false, .br false, .br false, .br false, .br true] = some ((.i .i64 (cond (Sx.ilt b 0) 0 b)), [.eqb (decide (op = 15)) true, .eqb (decide (op = 19)) false, .eqb (decide (op = 13)) false, .eqb (decide (op = 11)) false, .eqb (decide (op = 3)) false, .eqb (decide (op = 2)) false, .eqb (decide (op = 10)) false, .eqb (decide (op = 6)) false, .eqb (decide (op = 5)) false, .eqb (decide (op = 7)) false, .eqb (decide (op = 9)) false, .eqb (decide (op = 8)) false, .eqb (decide (op = 4)) false]) := by kernel_rfl
theorem pb_13 (op a b : Int) : funO 6 mth cal 1000 ir10 [(.ag [(.i .i8 op), (.i .i64 a), (.i .i64 b), .any, .any, .any, .any, .any, .any, .any, .any, .any, .any, .any])] [.br false, .br false, .br false, .br false, .br false, .br false, .br false, .br false, .br false, .br false, .br false, .br false, .br false] = some ((.i .i64 0), [.eqb (decide (op = 15)) false, .eqb (decide (op = 19)) false, .eqb (decide (op = 13)) false, .eqb (decide (op = 11)) false, .eqb (decide (op = 3)) false, .eqb (decide (op = 2)) false, .eqb (decide (op = 10)) false, .eqb (decide (op = 6)) false, .eqb (decide (op = 5)) false, .eqb (decide (op = 7)) false, .eqb (decide (op = 9)) false, .eqb (decide (op = 8)) false, .eqb (decide (op = 4)) false]) := by kernel_rfl
theorem pb (op a b : Int) (s0 : (decide (op = 4)) = false → (decide (op = 8)) = false → (decide (op = 9)) = false → (decide (op = 7)) = false → (decide (op = 5)) = false → (decide (op = 6)) = false → (decide (op = 10)) = true → (Sx.inK .i64 ((cond (Sx.ilt 1099511627776 a) 1099511627776 a) + 1)) = true) : Pu 10 [(.ag [(.i .i8 op), (.i .i64 a), (.i .i64 b), .any, .any, .any, .any, .any, .any, .any, .any, .any, .any, .any])] (.i .i64 (bif decide (op = 4) then (cond (Sx.ilt a 0) 0 a) else (bif decide (op = 8) then (cond (Sx.ilt a 0) 0 a) else (bif decide (op = 9) then (cond (Sx.ilt a 0) 0 a) else (bif decide (op = 7) then (cond (Sx.ilt a 0) 0 a) else (bif decide (op = 5) then 2 else (bif decide (op = 6) then 2 else (bif decide (op = 10) then (cond (Sx.ilt ((cond (Sx.ilt 1099511627776 a) 1099511627776 a) + 1) 0) 0 ((cond (Sx.ilt 1099511627776 a) 1099511627776 a) + 1)) else (bif decide (op = 2) then 1 else (bif decide (op = 3) then 1 else (bif decide (op = 11) then 1 else (bif decide (op = 13) then 1 else (bif decide (op = 19) then 1 else (bif decide (op = 15) then (cond (Sx.ilt b 0) 0 b) else 0)))))))))))))) := by
  cases h0 : (decide (op = 4))
  case false =>
    cases h1 : (decide (op = 8))
    case false =>
      cases h2 : (decide (op = 9))
      case false =>
        cases h3 : (decide (op = 7))
        case false =>
          cases h4 : (decide (op = 5))
          case false =>
            cases h5 : (decide (op = 6))
            case false =>
              cases h6 : (decide (op = 10))
              case false =>
                cases h7 : (decide (op = 2))
                case false =>
                  cases h8 : (decide (op = 3))
                  case false =>
                    cases h9 : (decide (op = 11))
                    case false =>
                      cases h10 : (decide (op = 13))
                      case false =>
                        cases h11 : (decide (op = 19))
                        case false =>
                          cases h12 : (decide (op = 15))
                          case false =>
                            exact pu_of Tryz.func10 irc10 (pb_13 op a b) rfl ⟨h12, h11, h10, h9, h8, h7, h6, h5, h4, h3, h2, h1, h0, trivial⟩
                          case true =>
                            exact pu_of Tryz.func10 irc10 (pb_12 op a b) rfl ⟨h12, h11, h10, h9, h8, h7, h6, h5, h4, h3, h2, h1, h0, trivial⟩
                        case true =>
                          exact pu_of Tryz.func10 irc10 (pb_11 op a b) rfl ⟨h11, h10, h9, h8, h7, h6, h5, h4, h3, h2, h1, h0, trivial⟩
                      case true =>
                        exact pu_of Tryz.func10 irc10 (pb_10 op a b) rfl ⟨h10, h9, h8, h7, h6, h5, h4, h3, h2, h1, h0, trivial⟩
                    case true =>
                      exact pu_of Tryz.func10 irc10 (pb_9 op a b) rfl ⟨h9, h8, h7, h6, h5, h4, h3, h2, h1, h0, trivial⟩
                  case true =>
                    exact pu_of Tryz.func10 irc10 (pb_8 op a b) rfl ⟨h8, h7, h6, h5, h4, h3, h2, h1, h0, trivial⟩
                case true =>
                  exact pu_of Tryz.func10 irc10 (pb_7 op a b) rfl ⟨h7, h6, h5, h4, h3, h2, h1, h0, trivial⟩
              case true =>
                exact pu_of Tryz.func10 irc10 (pb_6 op a b) rfl ⟨(s0 h0 h1 h2 h3 h4 h5 h6), h6, h5, h4, h3, h2, h1, h0, trivial⟩
            case true =>
              exact pu_of Tryz.func10 irc10 (pb_5 op a b) rfl ⟨h5, h4, h3, h2, h1, h0, trivial⟩
          case true =>
            exact pu_of Tryz.func10 irc10 (pb_4 op a b) rfl ⟨h4, h3, h2, h1, h0, trivial⟩
        case true =>
          exact pu_of Tryz.func10 irc10 (pb_3 op a b) rfl ⟨h3, h2, h1, h0, trivial⟩
      case true =>
        exact pu_of Tryz.func10 irc10 (pb_2 op a b) rfl ⟨h2, h1, h0, trivial⟩
    case true =>
      exact pu_of Tryz.func10 irc10 (pb_1 op a b) rfl ⟨h1, h0, trivial⟩
  case true =>
    exact pu_of Tryz.func10 irc10 (pb_0 op a b) rfl ⟨h0, trivial⟩
theorem ss_0 (kd : Int) (ls st : List Tr) (bs : List Bool) (nt : Nat) (t u v : Tr) (op a b : Int) (vwakes1 : Bool) : funO 6 mth cal 1000 ir3 [(.ag [(.i .i8 kd), .any, .any, (.es 27 (.r (rowsT ls))), (.es 4 (.r (rowsO bs))), (.es 27 (.r (rowsT st))), (.es 146 (.r (rowsU nt))), .any, .any, .any, .any, .any, .any, (.i .i8 t.k), (.i .i64 t.n), (.s (nats t.s)), (.s (nats t.t)), (.es 27 (.r (rowsT t.l))), (.i .i8 u.k), (.i .i64 u.n), (.s (nats u.s)), (.s (nats u.t)), (.es 27 (.r (rowsT u.l))), (.i .i8 v.k), (.i .i64 v.n), (.s (nats v.s)), (.s (nats v.t)), (.es 27 (.r (rowsT v.l))), .any, .any, .any, .any, .any, .any, .any]), (.ag [(.i .i8 op), (.i .i64 a), (.i .i64 b), .any, .any, .any, .any, .any, .any, .any, .any, .any, .any, .any])] [.cl [.as] (.b true), .cl [] (.b (vwakes1))] = some ((.b (vwakes1)), [.call 5 [] (.b (vwakes1)), .eqb (freeL []) true, .call 4 [(.ag [(.i .i8 kd), .any, .any, (.es 27 (.r (rowsT ls))), (.es 4 (.r (rowsO bs))), (.es 27 (.r (rowsT st))), (.es 146 (.r (rowsU nt))), .any, .any, .any, .any, .any, .any, (.i .i8 t.k), (.i .i64 t.n), (.s (nats t.s)), (.s (nats t.t)), (.es 27 (.r (rowsT t.l))), (.i .i8 u.k), (.i .i64 u.n), (.s (nats u.s)), (.s (nats u.t)), (.es 27 (.r (rowsT u.l))), (.i .i8 v.k), (.i .i64 v.n), (.s (nats v.s)), (.s (nats v.t)), (.es 27 (.r (rowsT v.l))), .any, .any, .any, .any, .any, .any, .any])] (.b true), .eqb (freeL []) true, .eqb (TV.free (.ag [(.i .i8 kd), .any, .any, (.es 27 (.r (rowsT ls))), (.es 4 (.r (rowsO bs))), (.es 27 (.r (rowsT st))), (.es 146 (.r (rowsU nt))), .any, .any, .any, .any, .any, .any, (.i .i8 t.k), (.i .i64 t.n), (.s (nats t.s)), (.s (nats t.t)), (.es 27 (.r (rowsT t.l))), (.i .i8 u.k), (.i .i64 u.n), (.s (nats u.s)), (.s (nats u.t)), (.es 27 (.r (rowsT u.l))), (.i .i8 v.k), (.i .i64 v.n), (.s (nats v.s)), (.s (nats v.t)), (.es 27 (.r (rowsT v.l))), .any, .any, .any, .any, .any, .any, .any])) true]) := by kernel_rfl
theorem ss_1 (kd : Int) (ls st : List Tr) (bs : List Bool) (nt : Nat) (t u v : Tr) (op a b : Int) (vwakes1 : Bool) : funO 6 mth cal 1000 ir3 [(.ag [(.i .i8 kd), .any, .any, (.es 27 (.r (rowsT ls))), (.es 4 (.r (rowsO bs))), (.es 27 (.r (rowsT st))), (.es 146 (.r (rowsU nt))), .any, .any, .any, .any, .any, .any, (.i .i8 t.k), (.i .i64 t.n), (.s (nats t.s)), (.s (nats t.t)), (.es 27 (.r (rowsT t.l))), (.i .i8 u.k), (.i .i64 u.n), (.s (nats u.s)), (.s (nats u.t)), (.es 27 (.r (rowsT u.l))), (.i .i8 v.k), (.i .i64 v.n), (.s (nats v.s)), (.s (nats v.t)), (.es 27 (.r (rowsT v.l))), .any, .any, .any, .any, .any, .any, .any]), (.ag [(.i .i8 op), (.i .i64 a), (.i .i64 b), .any, .any, .any, .any, .any, .any, .any, .any, .any, .any, .any])] [.cl [.as] (.b false), .br true, .cl [] (.b (vwakes1))] = some ((.b (vwakes1)), [.call 5 [] (.b (vwakes1)), .eqb (freeL []) true, .eqb (decide (1099511627776 < a)) true, .call 4 [(.ag [(.i .i8 kd), .any, .any, (.es 27 (.r (rowsT ls))), (.es 4 (.r (rowsO bs))), (.es 27 (.r (rowsT st))), (.es 146 (.r (rowsU nt))), .any, .any, .any, .any, .any, .any, (.i .i8 t.k), (.i .i64 t.n), (.s (nats t.s)), (.s (nats t.t)), (.es 27 (.r (rowsT t.l))), (.i .i8 u.k), (.i .i64 u.n), (.s (nats u.s)), (.s (nats u.t)), (.es 27 (.r (rowsT u.l))), (.i .i8 v.k), (.i .i64 v.n), (.s (nats v.s)), (.s (nats v.t)), (.es 27 (.r (rowsT v.l))), .any, .any, .any, .any, .any, .any, .any])] (.b false), .eqb (freeL []) true, .eqb (TV.free (.ag [(.i .i8 kd), .any, .any, (.es 27 (.r (rowsT ls))), (.es 4 (.r (rowsO bs))), (.es 27 (.r (rowsT st))), (.es 146 (.r (rowsU nt))), .any, .any, .any, .any, .any, .any, (.i .i8 t.k), (.i .i64 t.n), (.s (nats t.s)), (.s (nats t.t)), (.es 27 (.r (rowsT t.l))), (.i .i8 u.k), (.i .i64 u.n), (.s (nats u.s)), (.s (nats u.t)), (.es 27 (.r (rowsT u.l))), (.i .i8 v.k), (.i .i64 v.n), (.s (nats v.s)), (.s (nats v.t)), (.es 27 (.r (rowsT v.l))), .any, .any, .any, .any, .any, .any, .any])) true]) := by kernel_rfl
theorem ss_2 (kd : Int) (ls st : List Tr) (bs : List Bool) (nt : Nat) (t u v : Tr) (op a b : Int) (vwakes1 : Bool) : funO 6 mth cal 1000 ir3 [(.ag [(.i .i8 kd), .any, .any, (.es 27 (.r (rowsT ls))), (.es 4 (.r (rowsO bs))), (.es 27 (.r (rowsT st))), (.es 146 (.r (rowsU nt))), .any, .any, .any, .any, .any, .any, (.i .i8 t.k), (.i .i64 t.n), (.s (nats t.s)), (.s (nats t.t)), (.es 27 (.r (rowsT t.l))), (.i .i8 u.k), (.i .i64 u.n), (.s (nats u.s)), (.s (nats u.t)), (.es 27 (.r (rowsT u.l))), (.i .i8 v.k), (.i .i64 v.n), (.s (nats v.s)), (.s (nats v.t)), (.es 27 (.r (rowsT v.l))), .any, .any, .any, .any, .any, .any, .any]), (.ag [(.i .i8 op), (.i .i64 a), (.i .i64 b), .any, .any, .any, .any, .any, .any, .any, .any, .any, .any, .any])] [.cl [.as] (.b false), .br false, .br true, .cl [] (.b (vwakes1))] = some ((.b (vwakes1)), [.call 5 [] (.b (vwakes1)), .eqb (freeL []) true, .eqb (decide (1099511627776 < b)) true, .eqb (decide (1099511627776 < a)) false, .call 4 [(.ag [(.i .i8 kd), .any, .any, (.es 27 (.r (rowsT ls))), (.es 4 (.r (rowsO bs))), (.es 27 (.r (rowsT st))), (.es 146 (.r (rowsU nt))), .any, .any, .any, .any, .any, .any, (.i .i8 t.k), (.i .i64 t.n), (.s (nats t.s)), (.s (nats t.t)), (.es 27 (.r (rowsT t.l))), (.i .i8 u.k), (.i .i64 u.n), (.s (nats u.s)), (.s (nats u.t)), (.es 27 (.r (rowsT u.l))), (.i .i8 v.k), (.i .i64 v.n), (.s (nats v.s)), (.s (nats v.t)), (.es 27 (.r (rowsT v.l))), .any, .any, .any, .any, .any, .any, .any])] (.b false), .eqb (freeL []) true, .eqb (TV.free (.ag [(.i .i8 kd), .any, .any, (.es 27 (.r (rowsT ls))), (.es 4 (.r (rowsO bs))), (.es 27 (.r (rowsT st))), (.es 146 (.r (rowsU nt))), .any, .any, .any, .any, .any, .any, (.i .i8 t.k), (.i .i64 t.n), (.s (nats t.s)), (.s (nats t.t)), (.es 27 (.r (rowsT t.l))), (.i .i8 u.k), (.i .i64 u.n), (.s (nats u.s)), (.s (nats u.t)), (.es 27 (.r (rowsT u.l))), (.i .i8 v.k), (.i .i64 v.n), (.s (nats v.s)), (.s (nats v.t)), (.es 27 (.r (rowsT v.l))), .any, .any, .any, .any, .any, .any, .any])) true]) := by kernel_rfl
theorem ss_3 (kd : Int) (ls st : List Tr) (bs : List Bool) (nt : Nat) (t u v : Tr) (op a b : Int) (vBinds2 : List (List Dat)) (vBinds3 : List (List Dat)) (vPops5 : Int) (vPops6 : Int) (vwakes1 : Bool) : funO 6 mth cal 1000 ir3 [(.ag [(.i .i8 kd), .any, .any, (.es 27 (.r (rowsT ls))), (.es 4 (.r (rowsO bs))), (.es 27 (.r (rowsT st))), (.es 146 (.r (rowsU nt))), .any, .any, .any, .any, .any, .any, (.i .i8 t.k), (.i .i64 t.n), (.s (nats t.s)), (.s (nats t.t)), (.es 27 (.r (rowsT t.l))), (.i .i8 u.k), (.i .i64 u.n), (.s (nats u.s)), (.s (nats u.t)), (.es 27 (.r (rowsT u.l))), (.i .i8 v.k), (.i .i64 v.n), (.s (nats v.s)), (.s (nats v.t)), (.es 27 (.r (rowsT v.l))), .any, .any, .any, .any, .any, .any, .any]), (.ag [(.i .i8 op), (.i .i64 a), (.i .i64 b), .any, .any, .any, .any, .any, .any, .any, .any, .any, .any, .any])] [.cl [.as] (.b false), .br false, .br false, .cf [.as] (.es 70 (.r vBinds2)), .cf [.as] (.es 70 (.r vBinds3)), .cl [.as, .as] (.b true), .cl [.as] (.i .i64 vPops5), .cl [.as] (.i .i64 vPops6), .br true, .cl [] (.b (vwakes1))] = some ((.b (vwakes1)), [.call 5 [] (.b (vwakes1)), .eqb (freeL []) true, .eqb (decide (vPops5 = vPops6)) true, .call 10 [(.ag [(.i .i8 op), (.i .i64 a), (.i .i64 b), .any, .any, .any, .any, .any, .any, .any, .any, .any, .any, .any])] (.i .i64 vPops6), .eqb (freeL []) true, .eqb (TV.free (.ag [(.i .i8 op), (.i .i64 a), (.i .i64 b), .any, .any, .any, .any, .any, .any, .any, .any, .any, .any, .any])) true, .call 9 [(.ag [(.i .i8 op), (.i .i64 a), (.i .i64 b), .any, .any, .any, .any, .any, .any, .any, .any, .any, .any, .any])] (.i .i64 vPops5), .eqb (freeL []) true, .eqb (TV.free (.ag [(.i .i8 op), (.i .i64 a), (.i .i64 b), .any, .any, .any, .any, .any, .any, .any, .any, .any, .any, .any])) true, .call 6 [(.es 70 (.r vBinds2)), (.es 70 (.r vBinds3))] (.b true), .eqb (freeL []) true, .eqb (TV.free (.es 70 (.r vBinds3))) true, .eqb (TV.free (.es 70 (.r vBinds2))) true, .call 8 [(.ag [(.i .i8 kd), .any, .any, (.es 27 (.r (rowsT ls))), (.es 4 (.r (rowsO bs))), (.es 27 (.r (rowsT st))), (.es 146 (.r (rowsU nt))), .any, .any, .any, .any, .any, .any, (.i .i8 t.k), (.i .i64 t.n), (.s (nats t.s)), (.s (nats t.t)), (.es 27 (.r (rowsT t.l))), (.i .i8 u.k), (.i .i64 u.n), (.s (nats u.s)), (.s (nats u.t)), (.es 27 (.r (rowsT u.l))), (.i .i8 v.k), (.i .i64 v.n), (.s (nats v.s)), (.s (nats v.t)), (.es 27 (.r (rowsT v.l))), .any, .any, .any, .any, .any, .any, .any])] (.es 70 (.r vBinds3)), .eqb (freeL []) true, .eqb (TV.free (.ag [(.i .i8 kd), .any, .any, (.es 27 (.r (rowsT ls))), (.es 4 (.r (rowsO bs))), (.es 27 (.r (rowsT st))), (.es 146 (.r (rowsU nt))), .any, .any, .any, .any, .any, .any, (.i .i8 t.k), (.i .i64 t.n), (.s (nats t.s)), (.s (nats t.t)), (.es 27 (.r (rowsT t.l))), (.i .i8 u.k), (.i .i64 u.n), (.s (nats u.s)), (.s (nats u.t)), (.es 27 (.r (rowsT u.l))), (.i .i8 v.k), (.i .i64 v.n), (.s (nats v.s)), (.s (nats v.t)), (.es 27 (.r (rowsT v.l))), .any, .any, .any, .any, .any, .any, .any])) true, .call 7 [(.ag [(.i .i8 kd), .any, .any, (.es 27 (.r (rowsT ls))), (.es 4 (.r (rowsO bs))), (.es 27 (.r (rowsT st))), (.es 146 (.r (rowsU nt))), .any, .any, .any, .any, .any, .any, (.i .i8 t.k), (.i .i64 t.n), (.s (nats t.s)), (.s (nats t.t)), (.es 27 (.r (rowsT t.l))), (.i .i8 u.k), (.i .i64 u.n), (.s (nats u.s)), (.s (nats u.t)), (.es 27 (.r (rowsT u.l))), (.i .i8 v.k), (.i .i64 v.n), (.s (nats v.s)), (.s (nats v.t)), (.es 27 (.r (rowsT v.l))), .any, .any, .any, .any, .any, .any, .any])] (.es 70 (.r vBinds2)), .eqb (freeL []) true, .eqb (TV.free (.ag [(.i .i8 kd), .any, .any, (.es 27 (.r (rowsT ls))), (.es 4 (.r (rowsO bs))), (.es 27 (.r (rowsT st))), (.es 146 (.r (rowsU nt))), .any, .any, .any, .any, .any, .any, (.i .i8 t.k), (.i .i64 t.n), (.s (nats t.s)), (.s (nats t.t)), (.es 27 (.r (rowsT t.l))), (.i .i8 u.k), (.i .i64 u.n), (.s (nats u.s)), (.s (nats u.t)), (.es 27 (.r (rowsT u.l))), (.i .i8 v.k), (.i .i64 v.n), (.s (nats v.s)), (.s (nats v.t)), (.es 27 (.r (rowsT v.l))), .any, .any, .any, .any, .any, .any, .any])) true, .eqb (decide (1099511627776 < b)) false, .eqb (decide (1099511627776 < a)) false, .call 4 [(.ag [(.i .i8 kd), .any, .any, (.es 27 (.r (rowsT ls))), (.es 4 (.r (rowsO bs))), (.es 27 (.r (rowsT st))), (.es 146 (.r (rowsU nt))), .any, .any, .any, .any, .any, .any, (.i .i8 t.k), (.i .i64 t.n), (.s (nats t.s)), (.s (nats t.t)), (.es 27 (.r (rowsT t.l))), (.i .i8 u.k), (.i .i64 u.n), (.s (nats u.s)), (.s (nats u.t)), (.es 27 (.r (rowsT u.l))), (.i .i8 v.k), (.i .i64 v.n), (.s (nats v.s)), (.s (nats v.t)), (.es 27 (.r (rowsT v.l))), .any, .any, .any, .any, .any, .any, .any])] (.b false), .eqb (freeL []) true, .eqb (TV.free (.ag [(.i .i8 kd), .any, .any, (.es 27 (.r (rowsT ls))), (.es 4 (.r (rowsO bs))), (.es 27 (.r (rowsT st))), (.es 146 (.r (rowsU nt))), .any, .any, .any, .any, .any, .any, (.i .i8 t.k), (.i .i64 t.n), (.s (nats t.s)), (.s (nats t.t)), (.es 27 (.r (rowsT t.l))), (.i .i8 u.k), (.i .i64 u.n), (.s (nats u.s)), (.s (nats u.t)), (.es 27 (.r (rowsT u.l))), (.i .i8 v.k), (.i .i64 v.n), (.s (nats v.s)), (.s (nats v.t)), (.es 27 (.r (rowsT v.l))), .any, .any, .any, .any, .any, .any, .any])) true]) := by kernel_rfl
theorem ss_4 (kd : Int) (ls st : List Tr) (bs : List Bool) (nt : Nat) (t u v : Tr) (op a b : Int) (vBinds2 : List (List Dat)) (vBinds3 : List (List Dat)) (vPops5 : Int) (vPops6 : Int) : funO 6 mth cal 1000 ir3 [(.ag [(.i .i8 kd), .any, .any, (.es 27 (.r (rowsT ls))), (.es 4 (.r (rowsO bs))), (.es 27 (.r (rowsT st))), (.es 146 (.r (rowsU nt))), .any, .any, .any, .any, .any, .any, (.i .i8 t.k), (.i .i64 t.n), (.s (nats t.s)), (.s (nats t.t)), (.es 27 (.r (rowsT t.l))), (.i .i8 u.k), (.i .i64 u.n), (.s (nats u.s)), (.s (nats u.t)), (.es 27 (.r (rowsT u.l))), (.i .i8 v.k), (.i .i64 v.n), (.s (nats v.s)), (.s (nats v.t)), (.es 27 (.r (rowsT v.l))), .any, .any, .any, .any, .any, .any, .any]), (.ag [(.i .i8 op), (.i .i64 a), (.i .i64 b), .any, .any, .any, .any, .any, .any, .any, .any, .any, .any, .any])] [.cl [.as] (.b false), .br false, .br false, .cf [.as] (.es 70 (.r vBinds2)), .cf [.as] (.es 70 (.r vBinds3)), .cl [.as, .as] (.b true), .cl [.as] (.i .i64 vPops5), .cl [.as] (.i .i64 vPops6), .br false] = some ((.b false), [.eqb (decide (vPops5 = vPops6)) false, .call 10 [(.ag [(.i .i8 op), (.i .i64 a), (.i .i64 b), .any, .any, .any, .any, .any, .any, .any, .any, .any, .any, .any])] (.i .i64 vPops6), .eqb (freeL []) true, .eqb (TV.free (.ag [(.i .i8 op), (.i .i64 a), (.i .i64 b), .any, .any, .any, .any, .any, .any, .any, .any, .any, .any, .any])) true, .call 9 [(.ag [(.i .i8 op), (.i .i64 a), (.i .i64 b), .any, .any, .any, .any, .any, .any, .any, .any, .any, .any, .any])] (.i .i64 vPops5), .eqb (freeL []) true, .eqb (TV.free (.ag [(.i .i8 op), (.i .i64 a), (.i .i64 b), .any, .any, .any, .any, .any, .any, .any, .any, .any, .any, .any])) true, .call 6 [(.es 70 (.r vBinds2)), (.es 70 (.r vBinds3))] (.b true), .eqb (freeL []) true, .eqb (TV.free (.es 70 (.r vBinds3))) true, .eqb (TV.free (.es 70 (.r vBinds2))) true, .call 8 [(.ag [(.i .i8 kd), .any, .any, (.es 27 (.r (rowsT ls))), (.es 4 (.r (rowsO bs))), (.es 27 (.r (rowsT st))), (.es 146 (.r (rowsU nt))), .any, .any, .any, .any, .any, .any, (.i .i8 t.k), (.i .i64 t.n), (.s (nats t.s)), (.s (nats t.t)), (.es 27 (.r (rowsT t.l))), (.i .i8 u.k), (.i .i64 u.n), (.s (nats u.s)), (.s (nats u.t)), (.es 27 (.r (rowsT u.l))), (.i .i8 v.k), (.i .i64 v.n), (.s (nats v.s)), (.s (nats v.t)), (.es 27 (.r (rowsT v.l))), .any, .any, .any, .any, .any, .any, .any])] (.es 70 (.r vBinds3)), .eqb (freeL []) true, .eqb (TV.free (.ag [(.i .i8 kd), .any, .any, (.es 27 (.r (rowsT ls))), (.es 4 (.r (rowsO bs))), (.es 27 (.r (rowsT st))), (.es 146 (.r (rowsU nt))), .any, .any, .any, .any, .any, .any, (.i .i8 t.k), (.i .i64 t.n), (.s (nats t.s)), (.s (nats t.t)), (.es 27 (.r (rowsT t.l))), (.i .i8 u.k), (.i .i64 u.n), (.s (nats u.s)), (.s (nats u.t)), (.es 27 (.r (rowsT u.l))), (.i .i8 v.k), (.i .i64 v.n), (.s (nats v.s)), (.s (nats v.t)), (.es 27 (.r (rowsT v.l))), .any, .any, .any, .any, .any, .any, .any])) true, .call 7 [(.ag [(.i .i8 kd), .any, .any, (.es 27 (.r (rowsT ls))), (.es 4 (.r (rowsO bs))), (.es 27 (.r (rowsT st))), (.es 146 (.r (rowsU nt))), .any, .any, .any, .any, .any, .any, (.i .i8 t.k), (.i .i64 t.n), (.s (nats t.s)), (.s (nats t.t)), (.es 27 (.r (rowsT t.l))), (.i .i8 u.k), (.i .i64 u.n), (.s (nats u.s)), (.s (nats u.t)), (.es 27 (.r (rowsT u.l))), (.i .i8 v.k), (.i .i64 v.n), (.s (nats v.s)), (.s (nats v.t)), (.es 27 (.r (rowsT v.l))), .any, .any, .any, .any, .any, .any, .any])] (.es 70 (.r vBinds2)), .eqb (freeL []) true, .eqb (TV.free (.ag [(.i .i8 kd), .any, .any, (.es 27 (.r (rowsT ls))), (.es 4 (.r (rowsO bs))), (.es 27 (.r (rowsT st))), (.es 146 (.r (rowsU nt))), .any, .any, .any, .any, .any, .any, (.i .i8 t.k), (.i .i64 t.n), (.s (nats t.s)), (.s (nats t.t)), (.es 27 (.r (rowsT t.l))), (.i .i8 u.k), (.i .i64 u.n), (.s (nats u.s)), (.s (nats u.t)), (.es 27 (.r (rowsT u.l))), (.i .i8 v.k), (.i .i64 v.n), (.s (nats v.s)), (.s (nats v.t)), (.es 27 (.r (rowsT v.l))), .any, .any, .any, .any, .any, .any, .any])) true, .eqb (decide (1099511627776 < b)) false, .eqb (decide (1099511627776 < a)) false, .call 4 [(.ag [(.i .i8 kd), .any, .any, (.es 27 (.r (rowsT ls))), (.es 4 (.r (rowsO bs))), (.es 27 (.r (rowsT st))), (.es 146 (.r (rowsU nt))), .any, .any, .any, .any, .any, .any, (.i .i8 t.k), (.i .i64 t.n), (.s (nats t.s)), (.s (nats t.t)), (.es 27 (.r (rowsT t.l))), (.i .i8 u.k), (.i .i64 u.n), (.s (nats u.s)), (.s (nats u.t)), (.es 27 (.r (rowsT u.l))), (.i .i8 v.k), (.i .i64 v.n), (.s (nats v.s)), (.s (nats v.t)), (.es 27 (.r (rowsT v.l))), .any, .any, .any, .any, .any, .any, .any])] (.b false), .eqb (freeL []) true, .eqb (TV.free (.ag [(.i .i8 kd), .any, .any, (.es 27 (.r (rowsT ls))), (.es 4 (.r (rowsO bs))), (.es 27 (.r (rowsT st))), (.es 146 (.r (rowsU nt))), .any, .any, .any, .any, .any, .any, (.i .i8 t.k), (.i .i64 t.n), (.s (nats t.s)), (.s (nats t.t)), (.es 27 (.r (rowsT t.l))), (.i .i8 u.k), (.i .i64 u.n), (.s (nats u.s)), (.s (nats u.t)), (.es 27 (.r (rowsT u.l))), (.i .i8 v.k), (.i .i64 v.n), (.s (nats v.s)), (.s (nats v.t)), (.es 27 (.r (rowsT v.l))), .any, .any, .any, .any, .any, .any, .any])) true]) := by kernel_rfl
theorem ss_5 (kd : Int) (ls st : List Tr) (bs : List Bool) (nt : Nat) (t u v : Tr) (op a b : Int) (vBinds2 : List (List Dat)) (vBinds3 : List (List Dat)) : funO 6 mth cal 1000 ir3 [(.ag [(.i .i8 kd), .any, .any, (.es 27 (.r (rowsT ls))), (.es 4 (.r (rowsO bs))), (.es 27 (.r (rowsT st))), (.es 146 (.r (rowsU nt))), .any, .any, .any, .any, .any, .any, (.i .i8 t.k), (.i .i64 t.n), (.s (nats t.s)), (.s (nats t.t)), (.es 27 (.r (rowsT t.l))), (.i .i8 u.k), (.i .i64 u.n), (.s (nats u.s)), (.s (nats u.t)), (.es 27 (.r (rowsT u.l))), (.i .i8 v.k), (.i .i64 v.n), (.s (nats v.s)), (.s (nats v.t)), (.es 27 (.r (rowsT v.l))), .any, .any, .any, .any, .any, .any, .any]), (.ag [(.i .i8 op), (.i .i64 a), (.i .i64 b), .any, .any, .any, .any, .any, .any, .any, .any, .any, .any, .any])] [.cl [.as] (.b false), .br false, .br false, .cf [.as] (.es 70 (.r vBinds2)), .cf [.as] (.es 70 (.r vBinds3)), .cl [.as, .as] (.b false)] = some ((.b false), [.call 6 [(.es 70 (.r vBinds2)), (.es 70 (.r vBinds3))] (.b false), .eqb (freeL []) true, .eqb (TV.free (.es 70 (.r vBinds3))) true, .eqb (TV.free (.es 70 (.r vBinds2))) true, .call 8 [(.ag [(.i .i8 kd), .any, .any, (.es 27 (.r (rowsT ls))), (.es 4 (.r (rowsO bs))), (.es 27 (.r (rowsT st))), (.es 146 (.r (rowsU nt))), .any, .any, .any, .any, .any, .any, (.i .i8 t.k), (.i .i64 t.n), (.s (nats t.s)), (.s (nats t.t)), (.es 27 (.r (rowsT t.l))), (.i .i8 u.k), (.i .i64 u.n), (.s (nats u.s)), (.s (nats u.t)), (.es 27 (.r (rowsT u.l))), (.i .i8 v.k), (.i .i64 v.n), (.s (nats v.s)), (.s (nats v.t)), (.es 27 (.r (rowsT v.l))), .any, .any, .any, .any, .any, .any, .any])] (.es 70 (.r vBinds3)), .eqb (freeL []) true, .eqb (TV.free (.ag [(.i .i8 kd), .any, .any, (.es 27 (.r (rowsT ls))), (.es 4 (.r (rowsO bs))), (.es 27 (.r (rowsT st))), (.es 146 (.r (rowsU nt))), .any, .any, .any, .any, .any, .any, (.i .i8 t.k), (.i .i64 t.n), (.s (nats t.s)), (.s (nats t.t)), (.es 27 (.r (rowsT t.l))), (.i .i8 u.k), (.i .i64 u.n), (.s (nats u.s)), (.s (nats u.t)), (.es 27 (.r (rowsT u.l))), (.i .i8 v.k), (.i .i64 v.n), (.s (nats v.s)), (.s (nats v.t)), (.es 27 (.r (rowsT v.l))), .any, .any, .any, .any, .any, .any, .any])) true, .call 7 [(.ag [(.i .i8 kd), .any, .any, (.es 27 (.r (rowsT ls))), (.es 4 (.r (rowsO bs))), (.es 27 (.r (rowsT st))), (.es 146 (.r (rowsU nt))), .any, .any, .any, .any, .any, .any, (.i .i8 t.k), (.i .i64 t.n), (.s (nats t.s)), (.s (nats t.t)), (.es 27 (.r (rowsT t.l))), (.i .i8 u.k), (.i .i64 u.n), (.s (nats u.s)), (.s (nats u.t)), (.es 27 (.r (rowsT u.l))), (.i .i8 v.k), (.i .i64 v.n), (.s (nats v.s)), (.s (nats v.t)), (.es 27 (.r (rowsT v.l))), .any, .any, .any, .any, .any, .any, .any])] (.es 70 (.r vBinds2)), .eqb (freeL []) true, .eqb (TV.free (.ag [(.i .i8 kd), .any, .any, (.es 27 (.r (rowsT ls))), (.es 4 (.r (rowsO bs))), (.es 27 (.r (rowsT st))), (.es 146 (.r (rowsU nt))), .any, .any, .any, .any, .any, .any, (.i .i8 t.k), (.i .i64 t.n), (.s (nats t.s)), (.s (nats t.t)), (.es 27 (.r (rowsT t.l))), (.i .i8 u.k), (.i .i64 u.n), (.s (nats u.s)), (.s (nats u.t)), (.es 27 (.r (rowsT u.l))), (.i .i8 v.k), (.i .i64 v.n), (.s (nats v.s)), (.s (nats v.t)), (.es 27 (.r (rowsT v.l))), .any, .any, .any, .any, .any, .any, .any])) true, .eqb (decide (1099511627776 < b)) false, .eqb (decide (1099511627776 < a)) false, .call 4 [(.ag [(.i .i8 kd), .any, .any, (.es 27 (.r (rowsT ls))), (.es 4 (.r (rowsO bs))), (.es 27 (.r (rowsT st))), (.es 146 (.r (rowsU nt))), .any, .any, .any, .any, .any, .any, (.i .i8 t.k), (.i .i64 t.n), (.s (nats t.s)), (.s (nats t.t)), (.es 27 (.r (rowsT t.l))), (.i .i8 u.k), (.i .i64 u.n), (.s (nats u.s)), (.s (nats u.t)), (.es 27 (.r (rowsT u.l))), (.i .i8 v.k), (.i .i64 v.n), (.s (nats v.s)), (.s (nats v.t)), (.es 27 (.r (rowsT v.l))), .any, .any, .any, .any, .any, .any, .any])] (.b false), .eqb (freeL []) true, .eqb (TV.free (.ag [(.i .i8 kd), .any, .any, (.es 27 (.r (rowsT ls))), (.es 4 (.r (rowsO bs))), (.es 27 (.r (rowsT st))), (.es 146 (.r (rowsU nt))), .any, .any, .any, .any, .any, .any, (.i .i8 t.k), (.i .i64 t.n), (.s (nats t.s)), (.s (nats t.t)), (.es 27 (.r (rowsT t.l))), (.i .i8 u.k), (.i .i64 u.n), (.s (nats u.s)), (.s (nats u.t)), (.es 27 (.r (rowsT u.l))), (.i .i8 v.k), (.i .i64 v.n), (.s (nats v.s)), (.s (nats v.t)), (.es 27 (.r (rowsT v.l))), .any, .any, .any, .any, .any, .any, .any])) true]) := by kernel_rfl
theorem ss_p0 (kd : Int) (ls st : List Tr) (bs : List Bool) (nt : Nat) (t u v : Tr) (op a b : Int) (vwakes1 : Bool) (c0 : Pu 4 [(.ag [(.i .i8 kd), .any, .any, (.es 27 (.r (rowsT ls))), (.es 4 (.r (rowsO bs))), (.es 27 (.r (rowsT st))), (.es 146 (.r (rowsU nt))), .any, .any, .any, .any, .any, .any, (.i .i8 t.k), (.i .i64 t.n), (.s (nats t.s)), (.s (nats t.t)), (.es 27 (.r (rowsT t.l))), (.i .i8 u.k), (.i .i64 u.n), (.s (nats u.s)), (.s (nats u.t)), (.es 27 (.r (rowsT u.l))), (.i .i8 v.k), (.i .i64 v.n), (.s (nats v.s)), (.s (nats v.t)), (.es 27 (.r (rowsT v.l))), .any, .any, .any, .any, .any, .any, .any])] (.b true)) (c1 : Pu 5 [] (.b (vwakes1))) : Pu 3 [(.ag [(.i .i8 kd), .any, .any, (.es 27 (.r (rowsT ls))), (.es 4 (.r (rowsO bs))), (.es 27 (.r (rowsT st))), (.es 146 (.r (rowsU nt))), .any, .any, .any, .any, .any, .any, (.i .i8 t.k), (.i .i64 t.n), (.s (nats t.s)), (.s (nats t.t)), (.es 27 (.r (rowsT t.l))), (.i .i8 u.k), (.i .i64 u.n), (.s (nats u.s)), (.s (nats u.t)), (.es 27 (.r (rowsT u.l))), (.i .i8 v.k), (.i .i64 v.n), (.s (nats v.s)), (.s (nats v.t)), (.es 27 (.r (rowsT v.l))), .any, .any, .any, .any, .any, .any, .any]), (.ag [(.i .i8 op), (.i .i64 a), (.i .i64 b), .any, .any, .any, .any, .any, .any, .any, .any, .any, .any, .any])] (.b (vwakes1)) :=
  pu_of Tryz.func3 irc3 (ss_0 kd ls st bs nt t u v op a b vwakes1) rfl ⟨c1, rfl, c0, rfl, rfl, trivial⟩
theorem ss_p1 (kd : Int) (ls st : List Tr) (bs : List Bool) (nt : Nat) (t u v : Tr) (op a b : Int) (vwakes1 : Bool) (c0 : Pu 4 [(.ag [(.i .i8 kd), .any, .any, (.es 27 (.r (rowsT ls))), (.es 4 (.r (rowsO bs))), (.es 27 (.r (rowsT st))), (.es 146 (.r (rowsU nt))), .any, .any, .any, .any, .any, .any, (.i .i8 t.k), (.i .i64 t.n), (.s (nats t.s)), (.s (nats t.t)), (.es 27 (.r (rowsT t.l))), (.i .i8 u.k), (.i .i64 u.n), (.s (nats u.s)), (.s (nats u.t)), (.es 27 (.r (rowsT u.l))), (.i .i8 v.k), (.i .i64 v.n), (.s (nats v.s)), (.s (nats v.t)), (.es 27 (.r (rowsT v.l))), .any, .any, .any, .any, .any, .any, .any])] (.b false)) (h1 : (decide (1099511627776 < a)) = true) (c2 : Pu 5 [] (.b (vwakes1))) : Pu 3 [(.ag [(.i .i8 kd), .any, .any, (.es 27 (.r (rowsT ls))), (.es 4 (.r (rowsO bs))), (.es 27 (.r (rowsT st))), (.es 146 (.r (rowsU nt))), .any, .any, .any, .any, .any, .any, (.i .i8 t.k), (.i .i64 t.n), (.s (nats t.s)), (.s (nats t.t)), (.es 27 (.r (rowsT t.l))), (.i .i8 u.k), (.i .i64 u.n), (.s (nats u.s)), (.s (nats u.t)), (.es 27 (.r (rowsT u.l))), (.i .i8 v.k), (.i .i64 v.n), (.s (nats v.s)), (.s (nats v.t)), (.es 27 (.r (rowsT v.l))), .any, .any, .any, .any, .any, .any, .any]), (.ag [(.i .i8 op), (.i .i64 a), (.i .i64 b), .any, .any, .any, .any, .any, .any, .any, .any, .any, .any, .any])] (.b (vwakes1)) :=
  pu_of Tryz.func3 irc3 (ss_1 kd ls st bs nt t u v op a b vwakes1) rfl ⟨c2, rfl, h1, c0, rfl, rfl, trivial⟩
theorem ss_p2 (kd : Int) (ls st : List Tr) (bs : List Bool) (nt : Nat) (t u v : Tr) (op a b : Int) (vwakes1 : Bool) (c0 : Pu 4 [(.ag [(.i .i8 kd), .any, .any, (.es 27 (.r (rowsT ls))), (.es 4 (.r (rowsO bs))), (.es 27 (.r (rowsT st))), (.es 146 (.r (rowsU nt))), .any, .any, .any, .any, .any, .any, (.i .i8 t.k), (.i .i64 t.n), (.s (nats t.s)), (.s (nats t.t)), (.es 27 (.r (rowsT t.l))), (.i .i8 u.k), (.i .i64 u.n), (.s (nats u.s)), (.s (nats u.t)), (.es 27 (.r (rowsT u.l))), (.i .i8 v.k), (.i .i64 v.n), (.s (nats v.s)), (.s (nats v.t)), (.es 27 (.r (rowsT v.l))), .any, .any, .any, .any, .any, .any, .any])] (.b false)) (h1 : (decide (1099511627776 < a)) = false) (h2 : (decide (1099511627776 < b)) = true) (c3 : Pu 5 [] (.b (vwakes1))) : Pu 3 [(.ag [(.i .i8 kd), .any, .any, (.es 27 (.r (rowsT ls))), (.es 4 (.r (rowsO bs))), (.es 27 (.r (rowsT st))), (.es 146 (.r (rowsU nt))), .any, .any, .any, .any, .any, .any, (.i .i8 t.k), (.i .i64 t.n), (.s (nats t.s)), (.s (nats t.t)), (.es 27 (.r (rowsT t.l))), (.i .i8 u.k), (.i .i64 u.n), (.s (nats u.s)), (.s (nats u.t)), (.es 27 (.r (rowsT u.l))), (.i .i8 v.k), (.i .i64 v.n), (.s (nats v.s)), (.s (nats v.t)), (.es 27 (.r (rowsT v.l))), .any, .any, .any, .any, .any, .any, .any]), (.ag [(.i .i8 op), (.i .i64 a), (.i .i64 b), .any, .any, .any, .any, .any, .any, .any, .any, .any, .any, .any])] (.b (vwakes1)) :=
  pu_of Tryz.func3 irc3 (ss_2 kd ls st bs nt t u v op a b vwakes1) rfl ⟨c3, rfl, h2, h1, c0, rfl, rfl, trivial⟩
theorem ss_p3 (kd : Int) (ls st : List Tr) (bs : List Bool) (nt : Nat) (t u v : Tr) (op a b : Int) (vBinds2 : List (List Dat)) (vBinds3 : List (List Dat)) (vPops5 : Int) (vPops6 : Int) (vwakes1 : Bool) (c0 : Pu 4 [(.ag [(.i .i8 kd), .any, .any, (.es 27 (.r (rowsT ls))), (.es 4 (.r (rowsO bs))), (.es 27 (.r (rowsT st))), (.es 146 (.r (rowsU nt))), .any, .any, .any, .any, .any, .any, (.i .i8 t.k), (.i .i64 t.n), (.s (nats t.s)), (.s (nats t.t)), (.es 27 (.r (rowsT t.l))), (.i .i8 u.k), (.i .i64 u.n), (.s (nats u.s)), (.s (nats u.t)), (.es 27 (.r (rowsT u.l))), (.i .i8 v.k), (.i .i64 v.n), (.s (nats v.s)), (.s (nats v.t)), (.es 27 (.r (rowsT v.l))), .any, .any, .any, .any, .any, .any, .any])] (.b false)) (h1 : (decide (1099511627776 < a)) = false) (h2 : (decide (1099511627776 < b)) = false) (c3 : Pu 7 [(.ag [(.i .i8 kd), .any, .any, (.es 27 (.r (rowsT ls))), (.es 4 (.r (rowsO bs))), (.es 27 (.r (rowsT st))), (.es 146 (.r (rowsU nt))), .any, .any, .any, .any, .any, .any, (.i .i8 t.k), (.i .i64 t.n), (.s (nats t.s)), (.s (nats t.t)), (.es 27 (.r (rowsT t.l))), (.i .i8 u.k), (.i .i64 u.n), (.s (nats u.s)), (.s (nats u.t)), (.es 27 (.r (rowsT u.l))), (.i .i8 v.k), (.i .i64 v.n), (.s (nats v.s)), (.s (nats v.t)), (.es 27 (.r (rowsT v.l))), .any, .any, .any, .any, .any, .any, .any])] (.es 70 (.r vBinds2))) (c4 : Pu 8 [(.ag [(.i .i8 kd), .any, .any, (.es 27 (.r (rowsT ls))), (.es 4 (.r (rowsO bs))), (.es 27 (.r (rowsT st))), (.es 146 (.r (rowsU nt))), .any, .any, .any, .any, .any, .any, (.i .i8 t.k), (.i .i64 t.n), (.s (nats t.s)), (.s (nats t.t)), (.es 27 (.r (rowsT t.l))), (.i .i8 u.k), (.i .i64 u.n), (.s (nats u.s)), (.s (nats u.t)), (.es 27 (.r (rowsT u.l))), (.i .i8 v.k), (.i .i64 v.n), (.s (nats v.s)), (.s (nats v.t)), (.es 27 (.r (rowsT v.l))), .any, .any, .any, .any, .any, .any, .any])] (.es 70 (.r vBinds3))) (c5 : Pu 6 [(.es 70 (.r vBinds2)), (.es 70 (.r vBinds3))] (.b true)) (c6 : Pu 9 [(.ag [(.i .i8 op), (.i .i64 a), (.i .i64 b), .any, .any, .any, .any, .any, .any, .any, .any, .any, .any, .any])] (.i .i64 vPops5)) (c7 : Pu 10 [(.ag [(.i .i8 op), (.i .i64 a), (.i .i64 b), .any, .any, .any, .any, .any, .any, .any, .any, .any, .any, .any])] (.i .i64 vPops6)) (h8 : (decide (vPops5 = vPops6)) = true) (c9 : Pu 5 [] (.b (vwakes1))) : Pu 3 [(.ag [(.i .i8 kd), .any, .any, (.es 27 (.r (rowsT ls))), (.es 4 (.r (rowsO bs))), (.es 27 (.r (rowsT st))), (.es 146 (.r (rowsU nt))), .any, .any, .any, .any, .any, .any, (.i .i8 t.k), (.i .i64 t.n), (.s (nats t.s)), (.s (nats t.t)), (.es 27 (.r (rowsT t.l))), (.i .i8 u.k), (.i .i64 u.n), (.s (nats u.s)), (.s (nats u.t)), (.es 27 (.r (rowsT u.l))), (.i .i8 v.k), (.i .i64 v.n), (.s (nats v.s)), (.s (nats v.t)), (.es 27 (.r (rowsT v.l))), .any, .any, .any, .any, .any, .any, .any]), (.ag [(.i .i8 op), (.i .i64 a), (.i .i64 b), .any, .any, .any, .any, .any, .any, .any, .any, .any, .any, .any])] (.b (vwakes1)) :=
  pu_of Tryz.func3 irc3 (ss_3 kd ls st bs nt t u v op a b vBinds2 vBinds3 vPops5 vPops6 vwakes1) rfl ⟨c9, rfl, h8, c7, rfl, rfl, c6, rfl, rfl, c5, rfl, rfl, rfl, c4, rfl, rfl, c3, rfl, rfl, h2, h1, c0, rfl, rfl, trivial⟩
theorem ss_p4 (kd : Int) (ls st : List Tr) (bs : List Bool) (nt : Nat) (t u v : Tr) (op a b : Int) (vBinds2 : List (List Dat)) (vBinds3 : List (List Dat)) (vPops5 : Int) (vPops6 : Int) (c0 : Pu 4 [(.ag [(.i .i8 kd), .any, .any, (.es 27 (.r (rowsT ls))), (.es 4 (.r (rowsO bs))), (.es 27 (.r (rowsT st))), (.es 146 (.r (rowsU nt))), .any, .any, .any, .any, .any, .any, (.i .i8 t.k), (.i .i64 t.n), (.s (nats t.s)), (.s (nats t.t)), (.es 27 (.r (rowsT t.l))), (.i .i8 u.k), (.i .i64 u.n), (.s (nats u.s)), (.s (nats u.t)), (.es 27 (.r (rowsT u.l))), (.i .i8 v.k), (.i .i64 v.n), (.s (nats v.s)), (.s (nats v.t)), (.es 27 (.r (rowsT v.l))), .any, .any, .any, .any, .any, .any, .any])] (.b false)) (h1 : (decide (1099511627776 < a)) = false) (h2 : (decide (1099511627776 < b)) = false) (c3 : Pu 7 [(.ag [(.i .i8 kd), .any, .any, (.es 27 (.r (rowsT ls))), (.es 4 (.r (rowsO bs))), (.es 27 (.r (rowsT st))), (.es 146 (.r (rowsU nt))), .any, .any, .any, .any, .any, .any, (.i .i8 t.k), (.i .i64 t.n), (.s (nats t.s)), (.s (nats t.t)), (.es 27 (.r (rowsT t.l))), (.i .i8 u.k), (.i .i64 u.n), (.s (nats u.s)), (.s (nats u.t)), (.es 27 (.r (rowsT u.l))), (.i .i8 v.k), (.i .i64 v.n), (.s (nats v.s)), (.s (nats v.t)), (.es 27 (.r (rowsT v.l))), .any, .any, .any, .any, .any, .any, .any])] (.es 70 (.r vBinds2))) (c4 : Pu 8 [(.ag [(.i .i8 kd), .any, .any, (.es 27 (.r (rowsT ls))), (.es 4 (.r (rowsO bs))), (.es 27 (.r (rowsT st))), (.es 146 (.r (rowsU nt))), .any, .any, .any, .any, .any, .any, (.i .i8 t.k), (.i .i64 t.n), (.s (nats t.s)), (.s (nats t.t)), (.es 27 (.r (rowsT t.l))), (.i .i8 u.k), (.i .i64 u.n), (.s (nats u.s)), (.s (nats u.t)), (.es 27 (.r (rowsT u.l))), (.i .i8 v.k), (.i .i64 v.n), (.s (nats v.s)), (.s (nats v.t)), (.es 27 (.r (rowsT v.l))), .any, .any, .any, .any, .any, .any, .any])] (.es 70 (.r vBinds3))) (c5 : Pu 6 [(.es 70 (.r vBinds2)), (.es 70 (.r vBinds3))] (.b true)) (c6 : Pu 9 [(.ag [(.i .i8 op), (.i .i64 a), (.i .i64 b), .any, .any, .any, .any, .any, .any, .any, .any, .any, .any, .any])] (.i .i64 vPops5)) (c7 : Pu 10 [(.ag [(.i .i8 op), (.i .i64 a), (.i .i64 b), .any, .any, .any, .any, .any, .any, .any, .any, .any, .any, .any])] (.i .i64 vPops6)) (h8 : (decide (vPops5 = vPops6)) = false) : Pu 3 [(.ag [(.i .i8 kd), .any, .any, (.es 27 (.r (rowsT ls))), (.es 4 (.r (rowsO bs))), (.es 27 (.r (rowsT st))), (.es 146 (.r (rowsU nt))), .any, .any, .any, .any, .any, .any, (.i .i8 t.k), (.i .i64 t.n), (.s (nats t.s)), (.s (nats t.t)), (.es 27 (.r (rowsT t.l))), (.i .i8 u.k), (.i .i64 u.n), (.s (nats u.s)), (.s (nats u.t)), (.es 27 (.r (rowsT u.l))), (.i .i8 v.k), (.i .i64 v.n), (.s (nats v.s)), (.s (nats v.t)), (.es 27 (.r (rowsT v.l))), .any, .any, .any, .any, .any, .any, .any]), (.ag [(.i .i8 op), (.i .i64 a), (.i .i64 b), .any, .any, .any, .any, .any, .any, .any, .any, .any, .any, .any])] (.b false) :=
  pu_of Tryz.func3 irc3 (ss_4 kd ls st bs nt t u v op a b vBinds2 vBinds3 vPops5 vPops6) rfl ⟨h8, c7, rfl, rfl, c6, rfl, rfl, c5, rfl, rfl, rfl, c4, rfl, rfl, c3, rfl, rfl, h2, h1, c0, rfl, rfl, trivial⟩
theorem ss_p5 (kd : Int) (ls st : List Tr) (bs : List Bool) (nt : Nat) (t u v : Tr) (op a b : Int) (vBinds2 : List (List Dat)) (vBinds3 : List (List Dat)) (c0 : Pu 4 [(.ag [(.i .i8 kd), .any, .any, (.es 27 (.r (rowsT ls))), (.es 4 (.r (rowsO bs))), (.es 27 (.r (rowsT st))), (.es 146 (.r (rowsU nt))), .any, .any, .any, .any, .any, .any, (.i .i8 t.k), (.i .i64 t.n), (.s (nats t.s)), (.s (nats t.t)), (.es 27 (.r (rowsT t.l))), (.i .i8 u.k), (.i .i64 u.n), (.s (nats u.s)), (.s (nats u.t)), (.es 27 (.r (rowsT u.l))), (.i .i8 v.k), (.i .i64 v.n), (.s (nats v.s)), (.s (nats v.t)), (.es 27 (.r (rowsT v.l))), .any, .any, .any, .any, .any, .any, .any])] (.b false)) (h1 : (decide (1099511627776 < a)) = false) (h2 : (decide (1099511627776 < b)) = false) (c3 : Pu 7 [(.ag [(.i .i8 kd), .any, .any, (.es 27 (.r (rowsT ls))), (.es 4 (.r (rowsO bs))), (.es 27 (.r (rowsT st))), (.es 146 (.r (rowsU nt))), .any, .any, .any, .any, .any, .any, (.i .i8 t.k), (.i .i64 t.n), (.s (nats t.s)), (.s (nats t.t)), (.es 27 (.r (rowsT t.l))), (.i .i8 u.k), (.i .i64 u.n), (.s (nats u.s)), (.s (nats u.t)), (.es 27 (.r (rowsT u.l))), (.i .i8 v.k), (.i .i64 v.n), (.s (nats v.s)), (.s (nats v.t)), (.es 27 (.r (rowsT v.l))), .any, .any, .any, .any, .any, .any, .any])] (.es 70 (.r vBinds2))) (c4 : Pu 8 [(.ag [(.i .i8 kd), .any, .any, (.es 27 (.r (rowsT ls))), (.es 4 (.r (rowsO bs))), (.es 27 (.r (rowsT st))), (.es 146 (.r (rowsU nt))), .any, .any, .any, .any, .any, .any, (.i .i8 t.k), (.i .i64 t.n), (.s (nats t.s)), (.s (nats t.t)), (.es 27 (.r (rowsT t.l))), (.i .i8 u.k), (.i .i64 u.n), (.s (nats u.s)), (.s (nats u.t)), (.es 27 (.r (rowsT u.l))), (.i .i8 v.k), (.i .i64 v.n), (.s (nats v.s)), (.s (nats v.t)), (.es 27 (.r (rowsT v.l))), .any, .any, .any, .any, .any, .any, .any])] (.es 70 (.r vBinds3))) (c5 : Pu 6 [(.es 70 (.r vBinds2)), (.es 70 (.r vBinds3))] (.b false)) : Pu 3 [(.ag [(.i .i8 kd), .any, .any, (.es 27 (.r (rowsT ls))), (.es 4 (.r (rowsO bs))), (.es 27 (.r (rowsT st))), (.es 146 (.r (rowsU nt))), .any, .any, .any, .any, .any, .any, (.i .i8 t.k), (.i .i64 t.n), (.s (nats t.s)), (.s (nats t.t)), (.es 27 (.r (rowsT t.l))), (.i .i8 u.k), (.i .i64 u.n), (.s (nats u.s)), (.s (nats u.t)), (.es 27 (.r (rowsT u.l))), (.i .i8 v.k), (.i .i64 v.n), (.s (nats v.s)), (.s (nats v.t)), (.es 27 (.r (rowsT v.l))), .any, .any, .any, .any, .any, .any, .any]), (.ag [(.i .i8 op), (.i .i64 a), (.i .i64 b), .any, .any, .any, .any, .any, .any, .any, .any, .any, .any, .any])] (.b false) :=
  pu_of Tryz.func3 irc3 (ss_5 kd ls st bs nt t u v op a b vBinds2 vBinds3) rfl ⟨c5, rfl, rfl, rfl, c4, rfl, rfl, c3, rfl, rfl, h2, h1, c0, rfl, rfl, trivial⟩
theorem ilt_cases (a b : Int) : (Sx.ilt a b = true ∧ a < b) ∨ (Sx.ilt a b = false ∧ ¬ a < b) := by
  cases h : Sx.ilt a b
  · exact .inr ⟨rfl, fun q => by rw [ilt_eq] at h; simp at h; omega⟩
  · exact .inl ⟨rfl, by rw [ilt_eq] at h; simpa using h⟩
theorem cap_eq {a c : Int} (h : a ≤ c) : cond (Sx.ilt c a) c a = a := by
  rcases ilt_cases c a with ⟨q, h1⟩ | ⟨q, h1⟩
  · omega
  · rw [q]; rfl
theorem inK64_of {n : Int} (h : -9223372036854775808 ≤ n ∧ n ≤ 9223372036854775807) : Sx.inK .i64 n = true := by
  unfold Sx.inK IntKind.min IntKind.max
  simp [IntKind.signed, IntKind.bits]
  omega
theorem says_pu (hw : Pu 5 [] (.b true)) (kd : Int) (ls st : List Tr) (bs : List Bool) (nt : Nat) (t u v : Tr) (op a b : Int) (h1 : ∀ y, y ∈ ls → TrOk y) (h2 : ls.length ≤ BL) (h3 : ∀ y, y ∈ st → TrOk y) (h4 : st.length ≤ BL) (ht : TrOk t) (hu : TrOk u) (hv : TrOk v)
    (ha : -9223372036854775808 ≤ a ∧ a ≤ 9223372036854775807) : Pu 3 [Rdb.frT kd ls st bs nt t u v, Rdb.coT op a b] (.b true) := by
  have key : ∀ G, Pu 4 [Rdb.frT kd ls st bs nt t u v] (.b G) → (G = false → ls.length ≤ 100 ∧ bs.length ≤ 100) → Pu 3 [Rdb.frT kd ls st bs nt t u v, Rdb.coT op a b] (.b true) := by
    intro G g hG
    cases G
    case true => exact ss_p0 kd ls st bs nt t u v op a b true g hw
    obtain ⟨l1, l2⟩ := hG rfl
    cases q1 : decide (1099511627776 < a)
    case true => exact ss_p1 kd ls st bs nt t u v op a b true g q1 hw
    cases q2 : decide (1099511627776 < b)
    case true => exact ss_p2 kd ls st bs nt t u v op a b true g q1 q2 hw
    have ha2 : a ≤ 1099511627776 := by simpa using q1
    have e1 := cap_eq (a := a) (c := 4611686018427387904) (by omega)
    have e2 := cap_eq (a := a) (c := 1099511627776) ha2
    have s0 : Sx.inK .i64 (1 + cond (Sx.ilt 4611686018427387904 a) 4611686018427387904 a) = true := by rw [e1]; exact inK64_of (by omega)
    have s1 : Sx.inK .i64 (0 + cond (Sx.ilt 4611686018427387904 a) 4611686018427387904 a) = true := by rw [e1]; exact inK64_of (by omega)
    have s2 : Sx.inK .i64 (cond (Sx.ilt 1099511627776 a) 1099511627776 a + 1) = true := by rw [e2]; exact inK64_of (by omega)
    have p1 := pa op a b (fun _ => s0) (fun _ _ => s1) (fun _ _ _ => s1) (fun _ _ _ _ => s1) (fun _ _ _ _ _ => s1)
    have p2 := pb op a b (fun _ _ _ _ _ _ _ => s2)
    have hbl : (bdF kd bs ls).length ≤ BL := by
      unfold bdF
      split
      · exact Nat.le_trans (bdS_len bs ls 0) h2
      · exact Nat.zero_le _
    have hbm : ∀ b ∈ bdF kd bs ls, TrOk b.t ∧ b.s.size ≤ BL * 64 := fun b hb => by
      unfold bdF at hb
      split at hb
      · exact bdS_mem bs ls 0 h1 b hb
      · cases hb
    refine ss_p3 kd ls st bs nt t u v op a b _ _ _ _ true g q1 q2 (sbinds_pu kd ls st bs nt t u v h1 l1 l2) (rbinds_pu kd ls st bs nt t u v h1 l1 l2) (same_pu _ hbm hbl) p1 p2 ?_ hw
    rw [decide_eq_true_eq, e1, e2, Int.zero_add]
    by_cases h : op = 10
    · subst h
      rw [Int.add_comm a 1]
      rfl
    · rw [decide_eq_false h]
      rfl
  refine key _ (gr kd ls st bs nt t u v _ _ _ _ _ (fun _ _ _ _ => greatAll_pu ls h1 h2) (fun _ _ _ _ _ => wide_pu st h3 h4) (fun _ _ _ _ _ _ => great_pu t ht) (fun _ _ _ _ _ _ _ => great_pu u hu) (fun _ _ _ _ _ _ _ _ => great_pu v hv)) fun h => ?_
  cases q1 : decide (100 < (List.length (rowsT ls) : Int))
  case true => rw [q1] at h; cases h
  cases q2 : decide (100 < (List.length (rowsO bs) : Int))
  case true => rw [q1, q2] at h; cases h
  rw [rowsT_len] at q1
  rw [rowsO_len] at q2
  simp at q1 q2
  omega
end Go.Proofs.YtkieoghkjjkapaaGreatDoor.Oa.S1

