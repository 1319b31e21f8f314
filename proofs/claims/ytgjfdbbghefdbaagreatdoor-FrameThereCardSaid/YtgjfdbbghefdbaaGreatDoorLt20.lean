/-
  FrameThere is true, over data. Conditions: data in range.
-/
import Derived.Test.YtgjfdbbghefdbaaGreatDoorLt19
namespace Go.Proofs.YtgjfdbbghefdbaaGreatDoor.Lt
open Go.RowKit Sx Dd Fa Fa.B1 Fa.C1
-- SHORT 35:api.Frame
set_option maxRecDepth 100000
set_option linter.unusedVariables false
set_option linter.unusedSimpArgs false
namespace L2
def ir4 : XF := ⟨155, 3, [(6, none)], (.seq (.reg [⟨some 4, none, .box 43 35 (.t 1)⟩,
  ⟨some 5, none, .box 26 5 (.t 2)⟩,
  ⟨some 6, none, .mv (.c (.b false))⟩])
  (.seq (.seq (.reg [⟨some 14, none, .mv (.t 0)⟩,
  ⟨some 15, none, .call 5 [(.t 14)]⟩,
  ⟨some 16, none, .mv (.t 15)⟩,
  ⟨some 17, some (16, false), .ld true 35 (.t 4)⟩,
  ⟨some 18, some (16, false), .bls 43 35 1 [(.i .i8 0), (.i .i64 0), (.i .i64 0), .sln, .sln, .sln, .sln, (.i .i64 0), (.i .i8 0), (.i .i64 0), (.i .i64 0), (.i .i64 0), (.i .i64 0), (.i .i8 0), (.i .i64 0), (.s []), (.s []), .sln, (.i .i8 0), (.i .i64 0), (.s []), (.s []), .sln, (.i .i8 0), (.i .i64 0), (.s []), (.s []), .sln, .sln, (.i .i8 0), (.i .i64 0), (.i .i64 0), .sln, .sln, .sln] [(0, 35, (.t 17))]⟩,
  ⟨some 19, some (16, false), .call 5 [(.t 18)]⟩,
  ⟨some 20, none, .pick (.t 16) (.c (.b true)) (.t 19)⟩,
  ⟨some 21, none, .mv (.t 20)⟩,
  ⟨some 22, some (21, false), .ld true 5 (.t 5)⟩,
  ⟨some 23, some (21, false), .call 6 [(.t 22)]⟩,
  ⟨some 24, none, .pick (.t 21) (.c (.b true)) (.t 23)⟩])
  (.cond (.t 24) (.seq (.reg [⟨some 25, none, .call 7 []⟩,
  ⟨some 6, none, .mv (.t 25)⟩])
  .ret)
  .skip))
  (.seq (.reg [⟨some 27, none, .mv (.t 0)⟩,
  ⟨some 28, none, .ld true 35 (.t 4)⟩,
  ⟨some 29, none, .call 11 [(.t 27), (.t 28)]⟩,
  ⟨some 26, none, .mv (.t 29)⟩,
  ⟨some 30, none, .ex (.t 26) 0⟩,
  ⟨some 31, none, .ex (.t 26) 1⟩,
  ⟨some 7, none, .mv (.t 30)⟩,
  ⟨some 8, none, .mv (.t 31)⟩])
  (.seq (.seq (.reg [⟨some 32, none, .mv (.t 8)⟩,
  ⟨some 33, none, .bop .neq (.t 32) (.c (.i .i64 0))⟩])
  (.cond (.t 33) (.seq (.reg [⟨some 34, none, .mv (.t 0)⟩,
  ⟨some 35, none, .len 1 (.t 34)⟩,
  ⟨some 36, none, .bop .geq (.t 35) (.c (.i .i64 64))⟩,
  ⟨some 37, none, .mv (.t 36)⟩,
  ⟨some 38, some (37, true), .mv (.t 8)⟩,
  ⟨some 39, some (37, true), .bop .eql (.t 38) (.c (.i .i64 11))⟩,
  ⟨some 40, none, .pick (.t 37) (.t 39) (.c (.b false))⟩,
  ⟨some 41, none, .mv (.t 40)⟩,
  ⟨some 42, some (41, true), .mv (.t 7)⟩,
  ⟨some 43, some (41, true), .len 1 (.t 42)⟩,
  ⟨some 44, some (41, true), .bop .eql (.t 43) (.c (.i .i64 0))⟩,
  ⟨some 45, none, .pick (.t 41) (.t 44) (.c (.b false))⟩,
  ⟨some 46, none, .mv (.t 45)⟩,
  ⟨some 47, some (46, true), .call 7 []⟩,
  ⟨some 48, none, .pick (.t 46) (.t 47) (.c (.b false))⟩,
  ⟨some 6, none, .mv (.t 48)⟩])
  .ret)
  .skip))
  (.seq (.seq (.par [⟨some 49, none, .mv (.t 7)⟩,
  ⟨some 50, none, .len 1 (.t 49)⟩,
  ⟨some 51, none, .mv (.t 0)⟩,
  ⟨some 52, none, .len 1 (.t 51)⟩,
  ⟨some 53, none, .bop .add (.t 52) (.c (.i .i64 1))⟩,
  ⟨some 54, none, .bop .neq (.t 50) (.t 53)⟩,
  ⟨some 55, none, .mv (.t 54)⟩,
  ⟨some 56, some (55, false), .mv (.t 7)⟩,
  ⟨some 57, some (55, false), .mv (.t 0)⟩,
  ⟨some 58, some (55, false), .len 1 (.t 57)⟩,
  ⟨some 59, some (55, false), .ia 35 (.t 56) (.t 58)⟩,
  ⟨some 60, some (55, false), .ld true 35 (.t 59)⟩,
  ⟨some 61, some (55, false), .ld true 35 (.t 4)⟩,
  ⟨some 62, some (55, false), .call 9 [(.t 60), (.t 61)]⟩,
  ⟨some 63, some (55, false), .un .not (.t 62)⟩,
  ⟨some 64, none, .pick (.t 55) (.c (.b true)) (.t 63)⟩] [0, 1, 0, 4, 12, 31, 63, 127, 127, 383, 1023, 2047, 127, 8191, 16383, 32767])
  (.cond (.t 64) (.seq (.reg [⟨some 6, none, .mv (.c (.b false))⟩])
  .ret)
  .skip))
  (.seq (.reg [⟨some 66, none, .mv (.t 7)⟩,
  ⟨some 67, none, .ld true 5 (.t 5)⟩,
  ⟨some 68, none, .call 10 [(.t 66), (.t 67)]⟩,
  ⟨some 65, none, .mv (.t 68)⟩,
  ⟨some 69, none, .ex (.t 65) 0⟩,
  ⟨some 70, none, .ex (.t 65) 1⟩,
  ⟨some 71, none, .ex (.t 65) 2⟩,
  ⟨some 9, none, .mv (.t 69)⟩,
  ⟨some 10, none, .mv (.t 70)⟩,
  ⟨some 11, none, .mv (.t 71)⟩])
  (.seq (.seq (.reg [⟨some 72, none, .mv (.t 11)⟩,
  ⟨some 73, none, .mv (.t 0)⟩,
  ⟨some 74, none, .len 1 (.t 73)⟩,
  ⟨some 75, none, .bop .eql (.t 74) (.c (.i .i64 0))⟩,
  ⟨some 76, none, .beq true (.t 72) (.t 75)⟩,
  ⟨some 77, none, .mv (.t 76)⟩,
  ⟨some 78, some (77, false), .mv (.t 11)⟩,
  ⟨some 79, none, .pick (.t 77) (.c (.b true)) (.t 78)⟩])
  (.cond (.t 79) (.seq (.reg [⟨some 80, none, .mv (.t 11)⟩,
  ⟨some 81, none, .mv (.t 0)⟩,
  ⟨some 82, none, .len 1 (.t 81)⟩,
  ⟨some 83, none, .bop .eql (.t 82) (.c (.i .i64 0))⟩,
  ⟨some 84, none, .beq false (.t 80) (.t 83)⟩,
  ⟨some 85, none, .mv (.t 84)⟩,
  ⟨some 86, some (85, true), .call 7 []⟩,
  ⟨some 87, none, .pick (.t 85) (.t 86) (.c (.b false))⟩,
  ⟨some 6, none, .mv (.t 87)⟩])
  .ret)
  .skip))
  (.seq (.reg [⟨some 88, none, .mv (.t 0)⟩,
  ⟨some 89, none, .len 1 (.t 88)⟩,
  ⟨some 90, none, .bop .sub (.t 89) (.c (.i .i64 1))⟩,
  ⟨some 12, none, .mv (.t 90)⟩])
  (.seq (.seq (.reg [⟨some 91, none, .mv (.t 10)⟩,
  ⟨some 92, none, .mv (.t 0)⟩,
  ⟨some 93, none, .mv (.t 12)⟩,
  ⟨some 94, none, .ia 35 (.t 92) (.t 93)⟩,
  ⟨some 95, none, .fa 0 (.t 94)⟩,
  ⟨some 96, none, .ld false 1 (.t 95)⟩,
  ⟨some 97, none, .bop .neq (.t 96) (.c (.i .i8 0))⟩,
  ⟨some 98, none, .beq true (.t 91) (.t 97)⟩,
  ⟨some 99, none, .mv (.t 98)⟩,
  ⟨some 100, some (99, false), .mv (.t 9)⟩,
  ⟨some 101, some (99, false), .len 1 (.t 100)⟩,
  ⟨some 102, some (99, false), .mv (.t 0)⟩,
  ⟨some 103, some (99, false), .len 1 (.t 102)⟩,
  ⟨some 104, some (99, false), .bop .neq (.t 101) (.t 103)⟩,
  ⟨some 105, none, .pick (.t 99) (.c (.b true)) (.t 104)⟩])
  (.cond (.t 105) (.seq (.reg [⟨some 6, none, .mv (.c (.b false))⟩])
  .ret)
  .skip))
  (.seq (.seq (.reg [⟨some 106, none, .mv (.t 10)⟩,
  ⟨some 107, none, .un .not (.t 106)⟩])
  (.cond (.t 107) (.seq (.reg [⟨some 108, none, .mv (.t 9)⟩,
  ⟨some 109, none, .mv (.t 12)⟩,
  ⟨some 110, none, .ia 35 (.t 108) (.t 109)⟩,
  ⟨some 111, none, .fa 5 (.t 110)⟩,
  ⟨some 112, none, .ld false 1 (.t 111)⟩,
  ⟨some 113, none, .len 1 (.t 112)⟩,
  ⟨some 13, none, .mv (.t 113)⟩])
  (.seq (.seq (.par [⟨some 114, none, .mv (.t 13)⟩,
  ⟨some 115, none, .mv (.t 0)⟩,
  ⟨some 116, none, .mv (.t 12)⟩,
  ⟨some 117, none, .ia 35 (.t 115) (.t 116)⟩,
  ⟨some 118, none, .fa 5 (.t 117)⟩,
  ⟨some 119, none, .ld false 1 (.t 118)⟩,
  ⟨some 120, none, .len 1 (.t 119)⟩,
  ⟨some 121, none, .bop .add (.t 120) (.c (.i .i64 1))⟩,
  ⟨some 122, none, .bop .neq (.t 114) (.t 121)⟩,
  ⟨some 123, none, .mv (.t 122)⟩,
  ⟨some 124, some (123, false), .mv (.t 9)⟩,
  ⟨some 125, some (123, false), .mv (.t 12)⟩,
  ⟨some 126, some (123, false), .ia 35 (.t 124) (.t 125)⟩,
  ⟨some 127, some (123, false), .fa 5 (.t 126)⟩,
  ⟨some 128, some (123, false), .ld false 1 (.t 127)⟩,
  ⟨some 129, some (123, false), .mv (.t 13)⟩,
  ⟨some 130, some (123, false), .bop .sub (.t 129) (.c (.i .i64 1))⟩,
  ⟨some 131, some (123, false), .ia 5 (.t 128) (.t 130)⟩,
  ⟨some 132, some (123, false), .ld true 5 (.t 131)⟩,
  ⟨some 133, some (123, false), .ld true 5 (.t 5)⟩,
  ⟨some 134, some (123, false), .call 12 [(.t 132), (.t 133)]⟩,
  ⟨some 135, some (123, false), .un .not (.t 134)⟩,
  ⟨some 136, none, .pick (.t 123) (.c (.b true)) (.t 135)⟩] [0, 0, 0, 6, 14, 30, 62, 126, 255, 511, 1023, 1023, 4095, 8191, 16383, 1023, 33791, 131071, 262143, 1023, 1048575, 2097151, 4194303])
  (.cond (.t 136) (.seq (.reg [⟨some 6, none, .mv (.c (.b false))⟩])
  .ret)
  .skip))
  (.reg [⟨some 137, none, .mv (.t 9)⟩,
  ⟨some 138, none, .mv (.t 12)⟩,
  ⟨some 139, none, .mv (.t 9)⟩,
  ⟨some 140, none, .mv (.t 12)⟩,
  ⟨some 141, none, .ia 35 (.t 139) (.t 140)⟩,
  ⟨some 142, none, .fa 5 (.t 141)⟩,
  ⟨some 143, none, .ld false 1 (.t 142)⟩,
  ⟨some 144, none, .mv (.t 13)⟩,
  ⟨some 145, none, .bop .sub (.t 144) (.c (.i .i64 1))⟩,
  ⟨some 146, none, .slc 5 (.t 143) none (some (.t 145)) none⟩,
  ⟨some 147, none, .ia 35 (.t 137) (.t 138)⟩,
  ⟨some 148, none, .fa 5 (.t 147)⟩,
  ⟨none, none, .st 1 (.t 148) (.t 146)⟩])))
  .skip))
  (.seq (.reg [⟨some 149, none, .mv (.t 9)⟩,
  ⟨some 150, none, .mv (.t 0)⟩,
  ⟨some 151, none, .call 13 [(.t 149), (.t 150)]⟩,
  ⟨some 152, none, .mv (.t 151)⟩,
  ⟨some 153, some (152, true), .call 7 []⟩,
  ⟨some 154, none, .pick (.t 152) (.t 153) (.c (.b false))⟩,
  ⟨some 6, none, .mv (.t 154)⟩])
  .ret)))))))))))⟩

theorem irc4 : cFunc Tryz.prog Tryz.f4 = some ir4 := by kernel_rfl
def tabI : Trie XF := .lf
def tabL : List (Nat × XF) := []
theorem tabI_eq : tabI = ofList tabL := by kernel_rfl
theorem tabI_ok : TabOk Tryz.prog tabI := tab_of tabI_eq (by kernel_rfl) fun p hp => by
  simp only [tabL, List.mem_cons, List.not_mem_nil, or_false] at hp
abbrev cal : CallT := run mth tabI noOrc 1000 20
theorem pu_of {f : Nat} {fn : Func} {x : XF} (hfn : Tryz.prog.funcs[f]? = some fn) (hc : cFunc Tryz.prog fn = some x) {args : List TV} {pa : List PA} {v : TV} {obs : List Ob} (hx : funO 6 mth cal 1000 x args pa = some (v, obs)) (hv : v.flat = true) (ho : Owes Tryz.prog rho obs) : Pu f args v :=
  pu_of' tabI_ok hfn hc hx hv ho
theorem lp_more {x : IC} {ks : List Nat} {m : Nat} {e e2 e' : Trie TV} {t t2 t' : Trie TB} {n n' : Nat} {pa : List PA} {ex : EX} {obs : List Ob} (hx : bodyO 6 mth cal 1000 x ks m e t n pa = some (.nrm, e2, t2, obs)) (ho : Owes Tryz.prog rho obs) (hl : LoopC Tryz.prog rho x e2 t2 m ex e' t' n') : LoopC Tryz.prog rho x e t n ex e' t' n' :=
  lp_more' tabI_ok hx ho hl
theorem lp_end {x : IC} {ks : List Nat} {m : Nat} {e e2 : Trie TV} {t t2 : Trie TB} {n : Nat} {pa : List PA} {ex : EX} {obs : List Ob} (hx : bodyO 6 mth cal 1000 x ks m e t n pa = some (ex, e2, t2, obs)) (hne : ex ≠ .nrm) (ho : Owes Tryz.prog rho obs) : LoopC Tryz.prog rho x e t n ex e2 t2 m :=
  lp_end' tabI_ok hx hne ho
theorem ft_0 (d : Dat) (fr : List Dat) (k n : Int) (s t : List Nat) (a : Dat) (vwakes1 : Bool) : funO 6 mth cal 1000 ir4 [(.es 43 d), (agR 43 fr), (.ag [(.i .i8 k), (.i .i64 n), (.s s), (.s t), (.es 26 a)])] [.cl [.as] (.b true), .cl [] (.b (vwakes1))] = some ((.b (vwakes1)), [.call 7 [] (.b (vwakes1)), .eqb (freeL []) true, .call 5 [(.es 43 d)] (.b true), .eqb (freeL []) true, .eqb (TV.free (.es 43 d)) true]) := by kernel_rfl
theorem ft_1 (d : Dat) (fr : List Dat) (k n : Int) (s t : List Nat) (a : Dat) (vwakes1 : Bool) : funO 6 mth cal 1000 ir4 [(.es 43 d), (agR 43 fr), (.ag [(.i .i8 k), (.i .i64 n), (.s s), (.s t), (.es 26 a)])] [.cl [.as] (.b false), .cl [.sl 43] (.b true), .cl [] (.b (vwakes1))] = some ((.b (vwakes1)), [.call 7 [] (.b (vwakes1)), .eqb (freeL []) true, .call 5 [(.es 43 (.r [[.i (Dat.int (List.getD fr 0 .o)), .i (Dat.int (List.getD fr 1 .o)), .i (Dat.int (List.getD fr 2 .o)), (List.getD fr 3 .o), (List.getD fr 4 .o), (List.getD fr 5 .o), (List.getD fr 6 .o), .i (Dat.int (List.getD fr 7 .o)), .i (Dat.int (List.getD fr 8 .o)), .i (Dat.int (List.getD fr 9 .o)), .i (Dat.int (List.getD fr 10 .o)), .i (Dat.int (List.getD fr 11 .o)), .i (Dat.int (List.getD fr 12 .o)), .i (Dat.int (List.getD fr 13 .o)), .i (Dat.int (List.getD fr 14 .o)), .s (Dat.str (List.getD fr 15 .o)), .s (Dat.str (List.getD fr 16 .o)), (List.getD fr 17 .o), .i (Dat.int (List.getD fr 18 .o)), .i (Dat.int (List.getD fr 19 .o)), .s (Dat.str (List.getD fr 20 .o)), .s (Dat.str (List.getD fr 21 .o)), (List.getD fr 22 .o), .i (Dat.int (List.getD fr 23 .o)), .i (Dat.int (List.getD fr 24 .o)), .s (Dat.str (List.getD fr 25 .o)), .s (Dat.str (List.getD fr 26 .o)), (List.getD fr 27 .o), (List.getD fr 28 .o), .i (Dat.int (List.getD fr 29 .o)), .i (Dat.int (List.getD fr 30 .o)), .i (Dat.int (List.getD fr 31 .o)), (List.getD fr 32 .o), (List.getD fr 33 .o), (List.getD fr 34 .o)]]))] (.b true), .eqb (freeL []) true, .call 5 [(.es 43 d)] (.b false), .eqb (freeL []) true, .eqb (TV.free (.es 43 d)) true]) := by kernel_rfl
theorem ft_2 (d : Dat) (fr : List Dat) (k n : Int) (s t : List Nat) (a : Dat) (vwakes1 : Bool) : funO 6 mth cal 1000 ir4 [(.es 43 d), (agR 43 fr), (.ag [(.i .i8 k), (.i .i64 n), (.s s), (.s t), (.es 26 a)])] [.cl [.as] (.b false), .cl [.sl 43] (.b false), .cl [.as] (.b true), .cl [] (.b (vwakes1))] = some ((.b (vwakes1)), [.call 7 [] (.b (vwakes1)), .eqb (freeL []) true, .call 6 [(.ag [(.i .i8 k), (.i .i64 n), (.s s), (.s t), (.es 26 a)])] (.b true), .eqb (freeL []) true, .eqb (TV.free (.ag [(.i .i8 k), (.i .i64 n), (.s s), (.s t), (.es 26 a)])) true, .call 5 [(.es 43 (.r [[.i (Dat.int (List.getD fr 0 .o)), .i (Dat.int (List.getD fr 1 .o)), .i (Dat.int (List.getD fr 2 .o)), (List.getD fr 3 .o), (List.getD fr 4 .o), (List.getD fr 5 .o), (List.getD fr 6 .o), .i (Dat.int (List.getD fr 7 .o)), .i (Dat.int (List.getD fr 8 .o)), .i (Dat.int (List.getD fr 9 .o)), .i (Dat.int (List.getD fr 10 .o)), .i (Dat.int (List.getD fr 11 .o)), .i (Dat.int (List.getD fr 12 .o)), .i (Dat.int (List.getD fr 13 .o)), .i (Dat.int (List.getD fr 14 .o)), .s (Dat.str (List.getD fr 15 .o)), .s (Dat.str (List.getD fr 16 .o)), (List.getD fr 17 .o), .i (Dat.int (List.getD fr 18 .o)), .i (Dat.int (List.getD fr 19 .o)), .s (Dat.str (List.getD fr 20 .o)), .s (Dat.str (List.getD fr 21 .o)), (List.getD fr 22 .o), .i (Dat.int (List.getD fr 23 .o)), .i (Dat.int (List.getD fr 24 .o)), .s (Dat.str (List.getD fr 25 .o)), .s (Dat.str (List.getD fr 26 .o)), (List.getD fr 27 .o), (List.getD fr 28 .o), .i (Dat.int (List.getD fr 29 .o)), .i (Dat.int (List.getD fr 30 .o)), .i (Dat.int (List.getD fr 31 .o)), (List.getD fr 32 .o), (List.getD fr 33 .o), (List.getD fr 34 .o)]]))] (.b false), .eqb (freeL []) true, .call 5 [(.es 43 d)] (.b false), .eqb (freeL []) true, .eqb (TV.free (.es 43 d)) true]) := by kernel_rfl
theorem ft_3 (d : Dat) (fr : List Dat) (k n : Int) (s t : List Nat) (a : Dat) (vPush4 : List (List Dat)) (vPush5 : Int) (vwakes1 : Bool) : funO 6 mth cal 1000 ir4 [(.es 43 d), (agR 43 fr), (.ag [(.i .i8 k), (.i .i64 n), (.s s), (.s t), (.es 26 a)])] [.cl [.as] (.b false), .cl [.sl 43] (.b false), .cl [.as] (.b false), .cf [.as, .as] (.tu [(.es 43 (.r vPush4)), (.i .i64 vPush5)]), .br true, .br true, .br true, .br true, .cl [] (.b (vwakes1))] = some ((.b (vwakes1)), [.call 7 [] (.b (vwakes1)), .eqb (freeL []) true, .eqb (decide ((List.length vPush4 : Int) = 0)) true, .eqb (decide (vPush5 = 11)) true, .eqb (decide (64 ≤ (List.length (Dat.rows d) : Int))) true, .eqb (!decide (vPush5 = 0)) true, .call 11 [(.es 43 d), (agR 43 fr)] (.tu [(.es 43 (.r vPush4)), (.i .i64 vPush5)]), .eqb (freeL []) true, .eqb (TV.free (agR 43 fr)) true, .eqb (TV.free (.es 43 d)) true, .call 6 [(.ag [(.i .i8 k), (.i .i64 n), (.s s), (.s t), (.es 26 a)])] (.b false), .eqb (freeL []) true, .eqb (TV.free (.ag [(.i .i8 k), (.i .i64 n), (.s s), (.s t), (.es 26 a)])) true, .call 5 [(.es 43 (.r [[.i (Dat.int (List.getD fr 0 .o)), .i (Dat.int (List.getD fr 1 .o)), .i (Dat.int (List.getD fr 2 .o)), (List.getD fr 3 .o), (List.getD fr 4 .o), (List.getD fr 5 .o), (List.getD fr 6 .o), .i (Dat.int (List.getD fr 7 .o)), .i (Dat.int (List.getD fr 8 .o)), .i (Dat.int (List.getD fr 9 .o)), .i (Dat.int (List.getD fr 10 .o)), .i (Dat.int (List.getD fr 11 .o)), .i (Dat.int (List.getD fr 12 .o)), .i (Dat.int (List.getD fr 13 .o)), .i (Dat.int (List.getD fr 14 .o)), .s (Dat.str (List.getD fr 15 .o)), .s (Dat.str (List.getD fr 16 .o)), (List.getD fr 17 .o), .i (Dat.int (List.getD fr 18 .o)), .i (Dat.int (List.getD fr 19 .o)), .s (Dat.str (List.getD fr 20 .o)), .s (Dat.str (List.getD fr 21 .o)), (List.getD fr 22 .o), .i (Dat.int (List.getD fr 23 .o)), .i (Dat.int (List.getD fr 24 .o)), .s (Dat.str (List.getD fr 25 .o)), .s (Dat.str (List.getD fr 26 .o)), (List.getD fr 27 .o), (List.getD fr 28 .o), .i (Dat.int (List.getD fr 29 .o)), .i (Dat.int (List.getD fr 30 .o)), .i (Dat.int (List.getD fr 31 .o)), (List.getD fr 32 .o), (List.getD fr 33 .o), (List.getD fr 34 .o)]]))] (.b false), .eqb (freeL []) true, .call 5 [(.es 43 d)] (.b false), .eqb (freeL []) true, .eqb (TV.free (.es 43 d)) true]) := by kernel_rfl
theorem ft_28 (d : Dat) (fr : List Dat) (k n : Int) (s t : List Nat) (a : Dat) (vPush4 : List (List Dat)) (vPush5 : Int) (vBack7 : List (List Dat)) (vwakes1 : Bool) : funO 6 mth cal 1000 ir4 [(.es 43 d), (agR 43 fr), (.ag [(.i .i8 k), (.i .i64 n), (.s s), (.s t), (.es 26 a)])] [.cl [.as] (.b false), .cl [.sl 43] (.b false), .cl [.as] (.b false), .cf [.as, .as] (.tu [(.es 43 (.r vPush4)), (.i .i64 vPush5)]), .br false, .br false, .cl [.as, .as] (.b true), .cf [.as, .as] (.tu [(.es 43 (.r vBack7)), (.b true), (.b false)]), .kp, .br false, .kp, .br false, .br false, .cl [.as, .as] (.b true), .cl [] (.b (vwakes1))] = some ((.b (vwakes1)), [.call 7 [] (.b (vwakes1)), .eqb (freeL []) true, .call 13 [(.es 43 (.r vBack7)), (.es 43 d)] (.b true), .eqb (freeL []) true, .eqb (TV.free (.es 43 d)) true, .eqb (TV.free (.es 43 (.r vBack7))) true, .eqb (!decide ((List.length vBack7 : Int) = (List.length (Dat.rows d) : Int))) false, .eqb (!decide (true = !decide ((Dat.int (List.getD (List.getD (Dat.rows d) (Int.toNat ((List.length (Dat.rows d) : Int) - 1)) []) 0 .o)) = 0))) false, .eqb (Sx.inB ((List.length (Dat.rows d) : Int) - 1) (List.length (Dat.rows d))) true, .eqb (Sx.inK .i64 ((List.length (Dat.rows d) : Int) - 1)) true, .eqb (!decide (false = decide ((List.length (Dat.rows d) : Int) = 0))) false, .call 10 [(.es 43 (.r vPush4)), (.ag [(.i .i8 k), (.i .i64 n), (.s s), (.s t), (.es 26 a)])] (.tu [(.es 43 (.r vBack7)), (.b true), (.b false)]), .eqb (freeL []) true, .eqb (TV.free (.ag [(.i .i8 k), (.i .i64 n), (.s s), (.s t), (.es 26 a)])) true, .eqb (TV.free (.es 43 (.r vPush4))) true, .call 9 [(agR 43 (List.getD vPush4 (Int.toNat (List.length (Dat.rows d) : Int)) [])), (agR 43 fr)] (.b true), .eqb (freeL []) true, .eqb (TV.free (agR 43 fr)) true, .eqb (TV.free (agR 43 (List.getD vPush4 (Int.toNat (List.length (Dat.rows d) : Int)) []))) true, .eqb (Sx.inB (List.length (Dat.rows d) : Int) (List.length vPush4)) true, .eqb (!decide ((List.length vPush4 : Int) = ((List.length (Dat.rows d) : Int) + 1))) false, .eqb (Sx.inK .i64 ((List.length (Dat.rows d) : Int) + 1)) true, .eqb (!decide (vPush5 = 0)) false, .call 11 [(.es 43 d), (agR 43 fr)] (.tu [(.es 43 (.r vPush4)), (.i .i64 vPush5)]), .eqb (freeL []) true, .eqb (TV.free (agR 43 fr)) true, .eqb (TV.free (.es 43 d)) true, .call 6 [(.ag [(.i .i8 k), (.i .i64 n), (.s s), (.s t), (.es 26 a)])] (.b false), .eqb (freeL []) true, .eqb (TV.free (.ag [(.i .i8 k), (.i .i64 n), (.s s), (.s t), (.es 26 a)])) true, .call 5 [(.es 43 (.r [[.i (Dat.int (List.getD fr 0 .o)), .i (Dat.int (List.getD fr 1 .o)), .i (Dat.int (List.getD fr 2 .o)), (List.getD fr 3 .o), (List.getD fr 4 .o), (List.getD fr 5 .o), (List.getD fr 6 .o), .i (Dat.int (List.getD fr 7 .o)), .i (Dat.int (List.getD fr 8 .o)), .i (Dat.int (List.getD fr 9 .o)), .i (Dat.int (List.getD fr 10 .o)), .i (Dat.int (List.getD fr 11 .o)), .i (Dat.int (List.getD fr 12 .o)), .i (Dat.int (List.getD fr 13 .o)), .i (Dat.int (List.getD fr 14 .o)), .s (Dat.str (List.getD fr 15 .o)), .s (Dat.str (List.getD fr 16 .o)), (List.getD fr 17 .o), .i (Dat.int (List.getD fr 18 .o)), .i (Dat.int (List.getD fr 19 .o)), .s (Dat.str (List.getD fr 20 .o)), .s (Dat.str (List.getD fr 21 .o)), (List.getD fr 22 .o), .i (Dat.int (List.getD fr 23 .o)), .i (Dat.int (List.getD fr 24 .o)), .s (Dat.str (List.getD fr 25 .o)), .s (Dat.str (List.getD fr 26 .o)), (List.getD fr 27 .o), (List.getD fr 28 .o), .i (Dat.int (List.getD fr 29 .o)), .i (Dat.int (List.getD fr 30 .o)), .i (Dat.int (List.getD fr 31 .o)), (List.getD fr 32 .o), (List.getD fr 33 .o), (List.getD fr 34 .o)]]))] (.b false), .eqb (freeL []) true, .call 5 [(.es 43 d)] (.b false), .eqb (freeL []) true, .eqb (TV.free (.es 43 d)) true]) := by kernel_rfl
theorem ft_34 (d : Dat) (fr : List Dat) (k n : Int) (s t : List Nat) (a : Dat) (vPush4 : List (List Dat)) (vPush5 : Int) (vBack7 : List (List Dat)) (vwakes1 : Bool) : funO 6 mth cal 1000 ir4 [(.es 43 d), (agR 43 fr), (.ag [(.i .i8 k), (.i .i64 n), (.s s), (.s t), (.es 26 a)])] [.cl [.as] (.b false), .cl [.sl 43] (.b false), .cl [.as] (.b false), .cf [.as, .as] (.tu [(.es 43 (.r vPush4)), (.i .i64 vPush5)]), .br false, .br false, .cl [.as, .as] (.b true), .cf [.as, .as] (.tu [(.es 43 (.r vBack7)), (.b false), (.b true)]), .kp, .br false, .kp, .br true, .cl [] (.b (vwakes1))] = some ((.b (vwakes1)), [.call 7 [] (.b (vwakes1)), .eqb (freeL []) true, .eqb (decide (true = decide ((List.length (Dat.rows d) : Int) = 0))) true, .eqb (!decide (true = decide ((List.length (Dat.rows d) : Int) = 0))) false, .call 10 [(.es 43 (.r vPush4)), (.ag [(.i .i8 k), (.i .i64 n), (.s s), (.s t), (.es 26 a)])] (.tu [(.es 43 (.r vBack7)), (.b false), (.b true)]), .eqb (freeL []) true, .eqb (TV.free (.ag [(.i .i8 k), (.i .i64 n), (.s s), (.s t), (.es 26 a)])) true, .eqb (TV.free (.es 43 (.r vPush4))) true, .call 9 [(agR 43 (List.getD vPush4 (Int.toNat (List.length (Dat.rows d) : Int)) [])), (agR 43 fr)] (.b true), .eqb (freeL []) true, .eqb (TV.free (agR 43 fr)) true, .eqb (TV.free (agR 43 (List.getD vPush4 (Int.toNat (List.length (Dat.rows d) : Int)) []))) true, .eqb (Sx.inB (List.length (Dat.rows d) : Int) (List.length vPush4)) true, .eqb (!decide ((List.length vPush4 : Int) = ((List.length (Dat.rows d) : Int) + 1))) false, .eqb (Sx.inK .i64 ((List.length (Dat.rows d) : Int) + 1)) true, .eqb (!decide (vPush5 = 0)) false, .call 11 [(.es 43 d), (agR 43 fr)] (.tu [(.es 43 (.r vPush4)), (.i .i64 vPush5)]), .eqb (freeL []) true, .eqb (TV.free (agR 43 fr)) true, .eqb (TV.free (.es 43 d)) true, .call 6 [(.ag [(.i .i8 k), (.i .i64 n), (.s s), (.s t), (.es 26 a)])] (.b false), .eqb (freeL []) true, .eqb (TV.free (.ag [(.i .i8 k), (.i .i64 n), (.s s), (.s t), (.es 26 a)])) true, .call 5 [(.es 43 (.r [[.i (Dat.int (List.getD fr 0 .o)), .i (Dat.int (List.getD fr 1 .o)), .i (Dat.int (List.getD fr 2 .o)), (List.getD fr 3 .o), (List.getD fr 4 .o), (List.getD fr 5 .o), (List.getD fr 6 .o), .i (Dat.int (List.getD fr 7 .o)), .i (Dat.int (List.getD fr 8 .o)), .i (Dat.int (List.getD fr 9 .o)), .i (Dat.int (List.getD fr 10 .o)), .i (Dat.int (List.getD fr 11 .o)), .i (Dat.int (List.getD fr 12 .o)), .i (Dat.int (List.getD fr 13 .o)), .i (Dat.int (List.getD fr 14 .o)), .s (Dat.str (List.getD fr 15 .o)), .s (Dat.str (List.getD fr 16 .o)), (List.getD fr 17 .o), .i (Dat.int (List.getD fr 18 .o)), .i (Dat.int (List.getD fr 19 .o)), .s (Dat.str (List.getD fr 20 .o)), .s (Dat.str (List.getD fr 21 .o)), (List.getD fr 22 .o), .i (Dat.int (List.getD fr 23 .o)), .i (Dat.int (List.getD fr 24 .o)), .s (Dat.str (List.getD fr 25 .o)), .s (Dat.str (List.getD fr 26 .o)), (List.getD fr 27 .o), (List.getD fr 28 .o), .i (Dat.int (List.getD fr 29 .o)), .i (Dat.int (List.getD fr 30 .o)), .i (Dat.int (List.getD fr 31 .o)), (List.getD fr 32 .o), (List.getD fr 33 .o), (List.getD fr 34 .o)]]))] (.b false), .eqb (freeL []) true, .call 5 [(.es 43 d)] (.b false), .eqb (freeL []) true, .eqb (TV.free (.es 43 d)) true]) := by kernel_rfl
theorem ft_p0 (d : Dat) (fr : List Dat) (k n : Int) (s t : List Nat) (a : Dat) (vwakes1 : Bool) (c0 : Pu 5 [(.es 43 d)] (.b true)) (c1 : Pu 7 [] (.b (vwakes1))) : Pu 4 [(.es 43 d), (agR 43 fr), (.ag [(.i .i8 k), (.i .i64 n), (.s s), (.s t), (.es 26 a)])] (.b (vwakes1)) :=
  pu_of Tryz.func4 irc4 (ft_0 d fr k n s t a vwakes1) rfl ⟨c1, rfl, c0, rfl, rfl, trivial⟩
theorem ft_p1 (d : Dat) (fr : List Dat) (k n : Int) (s t : List Nat) (a : Dat) (vwakes1 : Bool) (c0 : Pu 5 [(.es 43 d)] (.b false)) (c1 : Pu 5 [(.es 43 (.r [[.i (Dat.int (List.getD fr 0 .o)), .i (Dat.int (List.getD fr 1 .o)), .i (Dat.int (List.getD fr 2 .o)), (List.getD fr 3 .o), (List.getD fr 4 .o), (List.getD fr 5 .o), (List.getD fr 6 .o), .i (Dat.int (List.getD fr 7 .o)), .i (Dat.int (List.getD fr 8 .o)), .i (Dat.int (List.getD fr 9 .o)), .i (Dat.int (List.getD fr 10 .o)), .i (Dat.int (List.getD fr 11 .o)), .i (Dat.int (List.getD fr 12 .o)), .i (Dat.int (List.getD fr 13 .o)), .i (Dat.int (List.getD fr 14 .o)), .s (Dat.str (List.getD fr 15 .o)), .s (Dat.str (List.getD fr 16 .o)), (List.getD fr 17 .o), .i (Dat.int (List.getD fr 18 .o)), .i (Dat.int (List.getD fr 19 .o)), .s (Dat.str (List.getD fr 20 .o)), .s (Dat.str (List.getD fr 21 .o)), (List.getD fr 22 .o), .i (Dat.int (List.getD fr 23 .o)), .i (Dat.int (List.getD fr 24 .o)), .s (Dat.str (List.getD fr 25 .o)), .s (Dat.str (List.getD fr 26 .o)), (List.getD fr 27 .o), (List.getD fr 28 .o), .i (Dat.int (List.getD fr 29 .o)), .i (Dat.int (List.getD fr 30 .o)), .i (Dat.int (List.getD fr 31 .o)), (List.getD fr 32 .o), (List.getD fr 33 .o), (List.getD fr 34 .o)]]))] (.b true)) (c2 : Pu 7 [] (.b (vwakes1))) : Pu 4 [(.es 43 d), (agR 43 fr), (.ag [(.i .i8 k), (.i .i64 n), (.s s), (.s t), (.es 26 a)])] (.b (vwakes1)) :=
  pu_of Tryz.func4 irc4 (ft_1 d fr k n s t a vwakes1) rfl ⟨c2, rfl, c1, rfl, c0, rfl, rfl, trivial⟩
theorem ft_p2 (d : Dat) (fr : List Dat) (k n : Int) (s t : List Nat) (a : Dat) (vwakes1 : Bool) (c0 : Pu 5 [(.es 43 d)] (.b false)) (c1 : Pu 5 [(.es 43 (.r [[.i (Dat.int (List.getD fr 0 .o)), .i (Dat.int (List.getD fr 1 .o)), .i (Dat.int (List.getD fr 2 .o)), (List.getD fr 3 .o), (List.getD fr 4 .o), (List.getD fr 5 .o), (List.getD fr 6 .o), .i (Dat.int (List.getD fr 7 .o)), .i (Dat.int (List.getD fr 8 .o)), .i (Dat.int (List.getD fr 9 .o)), .i (Dat.int (List.getD fr 10 .o)), .i (Dat.int (List.getD fr 11 .o)), .i (Dat.int (List.getD fr 12 .o)), .i (Dat.int (List.getD fr 13 .o)), .i (Dat.int (List.getD fr 14 .o)), .s (Dat.str (List.getD fr 15 .o)), .s (Dat.str (List.getD fr 16 .o)), (List.getD fr 17 .o), .i (Dat.int (List.getD fr 18 .o)), .i (Dat.int (List.getD fr 19 .o)), .s (Dat.str (List.getD fr 20 .o)), .s (Dat.str (List.getD fr 21 .o)), (List.getD fr 22 .o), .i (Dat.int (List.getD fr 23 .o)), .i (Dat.int (List.getD fr 24 .o)), .s (Dat.str (List.getD fr 25 .o)), .s (Dat.str (List.getD fr 26 .o)), (List.getD fr 27 .o), (List.getD fr 28 .o), .i (Dat.int (List.getD fr 29 .o)), .i (Dat.int (List.getD fr 30 .o)), .i (Dat.int (List.getD fr 31 .o)), (List.getD fr 32 .o), (List.getD fr 33 .o), (List.getD fr 34 .o)]]))] (.b false)) (c2 : Pu 6 [(.ag [(.i .i8 k), (.i .i64 n), (.s s), (.s t), (.es 26 a)])] (.b true)) (c3 : Pu 7 [] (.b (vwakes1))) : Pu 4 [(.es 43 d), (agR 43 fr), (.ag [(.i .i8 k), (.i .i64 n), (.s s), (.s t), (.es 26 a)])] (.b (vwakes1)) :=
  pu_of Tryz.func4 irc4 (ft_2 d fr k n s t a vwakes1) rfl ⟨c3, rfl, c2, rfl, rfl, c1, rfl, c0, rfl, rfl, trivial⟩
theorem ft_p3 (d : Dat) (fr : List Dat) (k n : Int) (s t : List Nat) (a : Dat) (vPush4 : List (List Dat)) (vPush5 : Int) (vwakes1 : Bool) (c0 : Pu 5 [(.es 43 d)] (.b false)) (c1 : Pu 5 [(.es 43 (.r [[.i (Dat.int (List.getD fr 0 .o)), .i (Dat.int (List.getD fr 1 .o)), .i (Dat.int (List.getD fr 2 .o)), (List.getD fr 3 .o), (List.getD fr 4 .o), (List.getD fr 5 .o), (List.getD fr 6 .o), .i (Dat.int (List.getD fr 7 .o)), .i (Dat.int (List.getD fr 8 .o)), .i (Dat.int (List.getD fr 9 .o)), .i (Dat.int (List.getD fr 10 .o)), .i (Dat.int (List.getD fr 11 .o)), .i (Dat.int (List.getD fr 12 .o)), .i (Dat.int (List.getD fr 13 .o)), .i (Dat.int (List.getD fr 14 .o)), .s (Dat.str (List.getD fr 15 .o)), .s (Dat.str (List.getD fr 16 .o)), (List.getD fr 17 .o), .i (Dat.int (List.getD fr 18 .o)), .i (Dat.int (List.getD fr 19 .o)), .s (Dat.str (List.getD fr 20 .o)), .s (Dat.str (List.getD fr 21 .o)), (List.getD fr 22 .o), .i (Dat.int (List.getD fr 23 .o)), .i (Dat.int (List.getD fr 24 .o)), .s (Dat.str (List.getD fr 25 .o)), .s (Dat.str (List.getD fr 26 .o)), (List.getD fr 27 .o), (List.getD fr 28 .o), .i (Dat.int (List.getD fr 29 .o)), .i (Dat.int (List.getD fr 30 .o)), .i (Dat.int (List.getD fr 31 .o)), (List.getD fr 32 .o), (List.getD fr 33 .o), (List.getD fr 34 .o)]]))] (.b false)) (c2 : Pu 6 [(.ag [(.i .i8 k), (.i .i64 n), (.s s), (.s t), (.es 26 a)])] (.b false)) (c3 : Pu 11 [(.es 43 d), (agR 43 fr)] (.tu [(.es 43 (.r vPush4)), (.i .i64 vPush5)])) (h4 : (!decide (vPush5 = 0)) = true) (h5 : (decide (64 ≤ (List.length (Dat.rows d) : Int))) = true) (h6 : (decide (vPush5 = 11)) = true) (h7 : (decide ((List.length vPush4 : Int) = 0)) = true) (c8 : Pu 7 [] (.b (vwakes1))) : Pu 4 [(.es 43 d), (agR 43 fr), (.ag [(.i .i8 k), (.i .i64 n), (.s s), (.s t), (.es 26 a)])] (.b (vwakes1)) :=
  pu_of Tryz.func4 irc4 (ft_3 d fr k n s t a vPush4 vPush5 vwakes1) rfl ⟨c8, rfl, h7, h6, h5, h4, c3, rfl, rfl, rfl, c2, rfl, rfl, c1, rfl, c0, rfl, rfl, trivial⟩
theorem ft_p28 (d : Dat) (fr : List Dat) (k n : Int) (s t : List Nat) (a : Dat) (vPush4 : List (List Dat)) (vPush5 : Int) (vBack7 : List (List Dat)) (vwakes1 : Bool) (c0 : Pu 5 [(.es 43 d)] (.b false)) (c1 : Pu 5 [(.es 43 (.r [[.i (Dat.int (List.getD fr 0 .o)), .i (Dat.int (List.getD fr 1 .o)), .i (Dat.int (List.getD fr 2 .o)), (List.getD fr 3 .o), (List.getD fr 4 .o), (List.getD fr 5 .o), (List.getD fr 6 .o), .i (Dat.int (List.getD fr 7 .o)), .i (Dat.int (List.getD fr 8 .o)), .i (Dat.int (List.getD fr 9 .o)), .i (Dat.int (List.getD fr 10 .o)), .i (Dat.int (List.getD fr 11 .o)), .i (Dat.int (List.getD fr 12 .o)), .i (Dat.int (List.getD fr 13 .o)), .i (Dat.int (List.getD fr 14 .o)), .s (Dat.str (List.getD fr 15 .o)), .s (Dat.str (List.getD fr 16 .o)), (List.getD fr 17 .o), .i (Dat.int (List.getD fr 18 .o)), .i (Dat.int (List.getD fr 19 .o)), .s (Dat.str (List.getD fr 20 .o)), .s (Dat.str (List.getD fr 21 .o)), (List.getD fr 22 .o), .i (Dat.int (List.getD fr 23 .o)), .i (Dat.int (List.getD fr 24 .o)), .s (Dat.str (List.getD fr 25 .o)), .s (Dat.str (List.getD fr 26 .o)), (List.getD fr 27 .o), (List.getD fr 28 .o), .i (Dat.int (List.getD fr 29 .o)), .i (Dat.int (List.getD fr 30 .o)), .i (Dat.int (List.getD fr 31 .o)), (List.getD fr 32 .o), (List.getD fr 33 .o), (List.getD fr 34 .o)]]))] (.b false)) (c2 : Pu 6 [(.ag [(.i .i8 k), (.i .i64 n), (.s s), (.s t), (.es 26 a)])] (.b false)) (c3 : Pu 11 [(.es 43 d), (agR 43 fr)] (.tu [(.es 43 (.r vPush4)), (.i .i64 vPush5)])) (h4 : (!decide (vPush5 = 0)) = false) (s5 : (Sx.inK .i64 ((List.length (Dat.rows d) : Int) + 1)) = true) (h6 : (!decide ((List.length vPush4 : Int) = ((List.length (Dat.rows d) : Int) + 1))) = false) (s7 : (Sx.inB (List.length (Dat.rows d) : Int) (List.length vPush4)) = true) (c8 : Pu 9 [(agR 43 (List.getD vPush4 (Int.toNat (List.length (Dat.rows d) : Int)) [])), (agR 43 fr)] (.b true)) (c9 : Pu 10 [(.es 43 (.r vPush4)), (.ag [(.i .i8 k), (.i .i64 n), (.s s), (.s t), (.es 26 a)])] (.tu [(.es 43 (.r vBack7)), (.b true), (.b false)])) (h10 : (!decide (false = decide ((List.length (Dat.rows d) : Int) = 0))) = false) (s11 : (Sx.inK .i64 ((List.length (Dat.rows d) : Int) - 1)) = true) (s12 : (Sx.inB ((List.length (Dat.rows d) : Int) - 1) (List.length (Dat.rows d))) = true) (h13 : (!decide (true = !decide ((Dat.int (List.getD (List.getD (Dat.rows d) (Int.toNat ((List.length (Dat.rows d) : Int) - 1)) []) 0 .o)) = 0))) = false) (h14 : (!decide ((List.length vBack7 : Int) = (List.length (Dat.rows d) : Int))) = false) (c15 : Pu 13 [(.es 43 (.r vBack7)), (.es 43 d)] (.b true)) (c16 : Pu 7 [] (.b (vwakes1))) : Pu 4 [(.es 43 d), (agR 43 fr), (.ag [(.i .i8 k), (.i .i64 n), (.s s), (.s t), (.es 26 a)])] (.b (vwakes1)) :=
  pu_of Tryz.func4 irc4 (ft_28 d fr k n s t a vPush4 vPush5 vBack7 vwakes1) rfl ⟨c16, rfl, c15, rfl, rfl, rfl, h14, h13, s12, s11, h10, c9, rfl, rfl, rfl, c8, rfl, rfl, rfl, s7, h6, s5, h4, c3, rfl, rfl, rfl, c2, rfl, rfl, c1, rfl, c0, rfl, rfl, trivial⟩
theorem ft_p34 (d : Dat) (fr : List Dat) (k n : Int) (s t : List Nat) (a : Dat) (vPush4 : List (List Dat)) (vPush5 : Int) (vBack7 : List (List Dat)) (vwakes1 : Bool) (c0 : Pu 5 [(.es 43 d)] (.b false)) (c1 : Pu 5 [(.es 43 (.r [[.i (Dat.int (List.getD fr 0 .o)), .i (Dat.int (List.getD fr 1 .o)), .i (Dat.int (List.getD fr 2 .o)), (List.getD fr 3 .o), (List.getD fr 4 .o), (List.getD fr 5 .o), (List.getD fr 6 .o), .i (Dat.int (List.getD fr 7 .o)), .i (Dat.int (List.getD fr 8 .o)), .i (Dat.int (List.getD fr 9 .o)), .i (Dat.int (List.getD fr 10 .o)), .i (Dat.int (List.getD fr 11 .o)), .i (Dat.int (List.getD fr 12 .o)), .i (Dat.int (List.getD fr 13 .o)), .i (Dat.int (List.getD fr 14 .o)), .s (Dat.str (List.getD fr 15 .o)), .s (Dat.str (List.getD fr 16 .o)), (List.getD fr 17 .o), .i (Dat.int (List.getD fr 18 .o)), .i (Dat.int (List.getD fr 19 .o)), .s (Dat.str (List.getD fr 20 .o)), .s (Dat.str (List.getD fr 21 .o)), (List.getD fr 22 .o), .i (Dat.int (List.getD fr 23 .o)), .i (Dat.int (List.getD fr 24 .o)), .s (Dat.str (List.getD fr 25 .o)), .s (Dat.str (List.getD fr 26 .o)), (List.getD fr 27 .o), (List.getD fr 28 .o), .i (Dat.int (List.getD fr 29 .o)), .i (Dat.int (List.getD fr 30 .o)), .i (Dat.int (List.getD fr 31 .o)), (List.getD fr 32 .o), (List.getD fr 33 .o), (List.getD fr 34 .o)]]))] (.b false)) (c2 : Pu 6 [(.ag [(.i .i8 k), (.i .i64 n), (.s s), (.s t), (.es 26 a)])] (.b false)) (c3 : Pu 11 [(.es 43 d), (agR 43 fr)] (.tu [(.es 43 (.r vPush4)), (.i .i64 vPush5)])) (h4 : (!decide (vPush5 = 0)) = false) (s5 : (Sx.inK .i64 ((List.length (Dat.rows d) : Int) + 1)) = true) (h6 : (!decide ((List.length vPush4 : Int) = ((List.length (Dat.rows d) : Int) + 1))) = false) (s7 : (Sx.inB (List.length (Dat.rows d) : Int) (List.length vPush4)) = true) (c8 : Pu 9 [(agR 43 (List.getD vPush4 (Int.toNat (List.length (Dat.rows d) : Int)) [])), (agR 43 fr)] (.b true)) (c9 : Pu 10 [(.es 43 (.r vPush4)), (.ag [(.i .i8 k), (.i .i64 n), (.s s), (.s t), (.es 26 a)])] (.tu [(.es 43 (.r vBack7)), (.b false), (.b true)])) (h10 : (!decide (true = decide ((List.length (Dat.rows d) : Int) = 0))) = false) (h11 : (decide (true = decide ((List.length (Dat.rows d) : Int) = 0))) = true) (c12 : Pu 7 [] (.b (vwakes1))) : Pu 4 [(.es 43 d), (agR 43 fr), (.ag [(.i .i8 k), (.i .i64 n), (.s s), (.s t), (.es 26 a)])] (.b (vwakes1)) :=
  pu_of Tryz.func4 irc4 (ft_34 d fr k n s t a vPush4 vPush5 vBack7 vwakes1) rfl ⟨c12, rfl, h11, h10, c9, rfl, rfl, rfl, c8, rfl, rfl, rfl, s7, h6, s5, h4, c3, rfl, rfl, rfl, c2, rfl, rfl, c1, rfl, c0, rfl, rfl, trivial⟩
end L2
open L2
/-- A cell of data as its kind reads it. -/
def norm : Kd → Dat → Dat
  | .i _, d => .i d.int
  | .s, d => .s d.str
  | .b, d => .b d.bool
  | _, d => d
/-- A frame's row, each cell as its kind reads it. -/
def xrow (row : List Dat) : List Dat := (List.range 35).map fun j => norm ((lay 43).getD j .o) (row.getD j .o)
theorem xrow_at (row : List Dat) {j : Nat} (hj : j < 35) : (xrow row)[j]? = some (norm ((lay 43).getD j .o) (row.getD j .o)) := by
  rw [xrow, List.getElem?_map, List.getElem?_range hj]
  rfl
theorem norm_dr {M : Mem} {k : Kd} {d : Dat} {v : Value} (h : DR lay M k d v) : DR lay M k (norm k d) v := by
  cases h with
  | i k d => exact .i k (.i d.int)
  | s d h => exact .s (.s d.str) h
  | b d => exact .b (.b d.bool)
  | fn d => exact .fn d
  | nil T d p c h => exact .nil T d p c h
  | sl T d b o c val h1 h2 h3 h4 => exact .sl T d b o c val h1 h2 h3 h4
theorem xrow_good {M : Mem} {row : List Dat} {cs : List Value} (h : Dd.Good lay M (lay 43) row cs) : Dd.Good lay M (lay 43) (xrow row) cs := by
  refine ⟨by rw [xrow]; simp; rfl, h.l2, fun j k u v hk hu hv => ?_⟩
  have hj : j < 35 := (List.getElem?_eq_some_iff.1 hk).1
  rw [xrow_at row hj] at hu
  cases hu
  have hk' : (lay 43).getD j .o = k := by rw [List.getD_eq_getElem?_getD, hk]; rfl
  rw [hk']
  have hr : j < row.length := by rw [h.l1]; exact hj
  exact norm_dr (h.dr j k _ v hk (by rw [List.getD_eq_getElem?_getD, List.getElem?_eq_getElem hr]; rfl) hv)
theorem norm_ok {k : Kd} {d : Dat} (h : Dok d) : Dok (norm k d) := by
  cases k with
  | i k => exact .mk _ h.int z2 z2 fun _ h => by cases h
  | s => exact .mk _ z1 h.str z2 fun _ h => by cases h
  | b => exact .mk _ z1 z2 z2 fun _ h => by cases h
  | sl T => exact h
  | fn => exact h
  | o => exact h
theorem xrow_ok {row : List Dat} (h : AllOk row) : AllOk (xrow row) := fun u hu => by
  rw [xrow] at hu
  obtain ⟨j, _, rfl⟩ := List.mem_map.1 hu
  exact norm_ok (h.at j)
theorem xrow_idem (row : List Dat) : xrow (xrow row) = xrow row := by rfl
theorem frame_good {M : Mem} {row : List Dat} {v : Value} (h : VR rho (bare M) (agR 43 row) v) (hl : row.length = 35) : ∃ cs : List Value, v = .agg cs.toArray ∧ Dd.Good lay M (lay 43) row cs := by
  obtain ⟨ts, rfl, h⟩ := h
  refine ⟨ts.toList, by simp, vrs_good (ρ := rho) hl (fun k hk => ?_) h⟩
  have key : (lay 43).all (fun k => match k with | .o => false | .fn => false | _ => true) = true := by decide +kernel
  have := List.all_eq_true.1 key k hk
  constructor
  · intro e; rw [e] at this; cases this
  · intro e; rw [e] at this; cases this
section
variable {d : Dat} (hs : ∀ row, row ∈ d.rows → Short row) {fr : List Dat} (hl : fr.length = 35) (hf : Short fr)
include hs hl hf
theorem push_pu (hn : d.rows.length < 64) : Pu 11 [.es 43 d, agR 43 fr] (.tu [.es 43 (.r (d.rows ++ [fr])), .i .i64 0]) := by
  refine ⟨enter_of Tryz.func11 (by kernel_rfl), fun w M vs hM hT hvs => ?_⟩
  obtain ⟨vs⟩ := vs
  obtain ⟨v, _, rfl, hv, v2, _, rfl, hv2, rfl⟩ := hvs
  obtain ⟨p, c, rfl, hd⟩ := es_slice hv
  obtain ⟨cs, rfl, hg⟩ := frame_good hv2 hl
  refine (push_in hM hd hn hs hg hf).mono ?_
  rintro e w' ⟨v', d', rfl, e1, e2, hb⟩
  obtain ⟨h1, h2, h3⟩ := memAll_ok hM hb
  exact ⟨_, _, rfl, h1, h2, h3, ⟨_, rfl, _, _, rfl, dr_data (d' := .r (d.rows ++ [fr])) e2 e1.symm, _, _, rfl, rfl, rfl⟩, hb⟩
omit hs hf in
theorem push_full (hn : 64 ≤ d.rows.length) : Pu 11 [.es 43 d, agR 43 fr] (.tu [.es 43 (.r []), .i .i64 11]) := by
  refine ⟨enter_of Tryz.func11 (by kernel_rfl), fun w M vs hM hT hvs => ?_⟩
  obtain ⟨vs⟩ := vs
  obtain ⟨v, _, rfl, hv, v2, _, rfl, hv2, rfl⟩ := hvs
  obtain ⟨p, c, rfl, hd⟩ := es_slice hv
  obtain ⟨cs, rfl, hg⟩ := frame_good hv2 hl
  refine (push_over hn hg.l2).mono ?_
  rintro e w' ⟨rfl, hb⟩
  exact ⟨_, M, rfl, fun _ _ q => q, fun _ _ q => .inl q, memOk_below hM hb, ⟨_, rfl, _, _, rfl, .nil _ (.r []) none 0 rfl, _, _, rfl, rfl, rfl⟩, hb⟩
end
theorem sames_in {d : Dat} (hd : Dok d) : Pu 13 [.es 43 (.r d.rows), .es 43 d] (.b true) :=
  ⟨(sameFrames_in hd).1, fun w M vs hM hT hv => (sameFrames_in hd).2 w M vs hM hT (by
    obtain ⟨v, q, e, h1, h2⟩ := hv
    exact ⟨v, q, e, dr_data (d' := d) h1 rfl, h2⟩)⟩
theorem pu_any {f : Nat} {args : List TV} {x : Bool} (h : Pu f args (.b x)) {W : World} (hT : ToldM rho.tl (memOf W)) {vs : Array Value} (hv : VRs rho (bare (memOf W)) args vs.toList) : Calls Tryz.prog f vs W fun e W' => e = .returned (.bool x) ∧ Below W.heap.size W W' := pu_b h hT hv
set_option maxHeartbeats 4000000 in
theorem there_any {W : World} {d : Dat} {v : Value} {frow : List Dat} {cs : List Value} {trow : List Dat} {ts : Array Value} (hT : ToldM rho.tl (memOf W)) (h : DR lay (memOf W) (.sl 43) d v) (hd : Dok d)
    (hf0 : Dd.Good lay (memOf W) (lay 43) frow cs) (hfo0 : AllOk frow) (ht : Dd.Good lay (memOf W) (lay 26) trow ts.toList) (hto : AllOk trow) :
    Calls Tryz.prog 4 #[v, .agg cs.toArray, .agg ts] W fun e W' => e = .returned (.bool true) ∧ Below W.heap.size W W' := by
  have hf := xrow_good hf0
  have hfo := xrow_ok hfo0
  have hid := xrow_idem frow
  generalize xrow frow = fr at hf hfo hid
  clear hf0 hfo0
  have hfl : fr.length = 35 := hf.l1
  have hargs : VRs rho (bare (memOf W)) [.es 43 d, agR 43 fr, tmV (trow.getD 0 .o).int (trow.getD 1 .o).int (trow.getD 2 .o).str (trow.getD 3 .o).str (trow.getD 4 .o)] [v, .agg cs.toArray, .agg ts] :=
    ⟨_, _, rfl, h, _, _, rfl, frame_vr hf, _, _, rfl, getD_good ht, rfl⟩
  have hone : Dok (.r [xrow fr]) := .mk _ z1 z2 (by show [xrow fr].length ≤ _; simp) fun row hr u hu => by
    have hr : row ∈ [xrow fr] := hr
    rw [List.mem_singleton.1 hr] at hu
    exact xrow_ok hfo u hu
  obtain ⟨b5, g5, s5⟩ := lgreat_in hd
  obtain ⟨bf, gf, sf⟩ := lgreat_in hone
  obtain ⟨b6, g6⟩ := great_in (hto.at 4) (trow.getD 0 .o).int (trow.getD 1 .o).int (trow.getD 2 .o).str (trow.getD 3 .o).str
  cases b5 with
  | true => exact pu_any (ft_p0 d fr _ _ _ _ _ (vwakes1 := true) g5 wakes_pu) hT hargs
  | false =>
  cases bf with
  | true => exact pu_any (ft_p1 d fr _ _ _ _ _ (vwakes1 := true) g5 gf wakes_pu) hT hargs
  | false =>
  cases b6 with
  | true => exact pu_any (ft_p2 d fr _ _ _ _ _ (vwakes1 := true) g5 gf g6 wakes_pu) hT hargs
  | false =>
  obtain ⟨hb, hs'⟩ := s5 rfl
  have hs : ∀ row, row ∈ d.rows → Short row := fun row hr => short_of (hs' row hr)
  have hsf : Short fr := by
    have := (sf rfl).2 (xrow fr) (by show xrow fr ∈ [xrow fr]; simp)
    rw [hid] at this
    exact short_of this
  rcases Nat.lt_or_ge d.rows.length 64 with hlt | hge
  · have hP := push_pu hs hfl hsf hlt
    obtain ⟨P, hPe⟩ : ∃ P : List (List Dat), P = d.rows ++ [fr] := ⟨_, rfl⟩
    rw [← hPe] at hP
    have hPl : P.length = d.rows.length + 1 := by rw [hPe, List.length_append]; rfl
    have hPg : P.getD d.rows.length [] = fr := by
      rw [hPe, List.getD_eq_getElem?_getD, List.getElem?_append_right (Nat.le_refl _), Nat.sub_self]
      rfl
    have hPs : ∀ row, row ∈ (Dat.r P).rows → Short row := fun row hr => by
      have hr : row ∈ P := hr
      rw [hPe] at hr
      rcases List.mem_append.1 hr with hr | hr
      · exact hs row hr
      · rw [List.mem_singleton.1 hr]; exact hsf
    have hSF : Pu 9 [agR 43 (P.getD (Int.toNat (d.rows.length : Int)) []), agR 43 fr] (.b true) := by
      rw [Int.toNat_natCast, hPg]
      exact sameFrame_in hfo
    rcases Nat.eq_zero_or_pos d.rows.length with h0 | h0
    · have hB := back_over (d := .r P) (k := (trow.getD 0 .o).int) (n := (trow.getD 1 .o).int) (s := (trow.getD 2 .o).str) (t := (trow.getD 3 .o).str) (a := trow.getD 4 .o) (by show P.length < 2; omega)
      refine pu_any (x := true) ?_ hT hargs
      apply ft_p34 d fr _ _ _ _ _ (vPush4 := P) (vPush5 := 0) (vBack7 := []) (vwakes1 := true)
      all_goals first
        | with_reducible exact g5
        | exact gf
        | with_reducible exact g6
        | exact hP
        | exact hB
        | exact hSF
        | exact wakes_pu
        | (with_reducible refine inK64_iff.2 ?_; omega)
        | (with_reducible refine inB_iff.2 ?_; omega)
        | rfl
        | (rw [decide_eq_true (show (P.length : Int) = (d.rows.length : Int) + 1 by omega)]; rfl)
        | (rw [decide_eq_true (show (d.rows.length : Int) = 0 by omega)]; rfl)
    · obtain ⟨row, hrow⟩ : ∃ row, d.rows[d.rows.length - 1]? = some row := ⟨_, List.getElem?_eq_getElem (by omega)⟩
      by_cases hk : (row.getD 0 .o).int = 0
      · obtain ⟨p, c, rfl⟩ := dr_sl h
        obtain ⟨q, hq⟩ : ∃ q, d.rows.length = q + 1 := ⟨d.rows.length - 1, by omega⟩
        rw [hq] at h hrow
        rw [hq]
        rw [hid] at gf
        exact there_code hT h hq hd (by omega) hs hf hfo hsf ht hto g5 gf g6 hrow hk
      · have hgq := getD_of hrow
        have hB := back_mach (d := .r P) (k := (trow.getD 0 .o).int) (n := (trow.getD 1 .o).int) (s := (trow.getD 2 .o).str) (t := (trow.getD 3 .o).str) (a := trow.getD 4 .o) (by show P.length ≤ 120; omega) hPs (by show 2 ≤ P.length; omega) (row := row) (by
          show P[P.length - 2]? = some row
          rw [hPl, show d.rows.length + 1 - 2 = d.rows.length - 1 by omega, hPe, List.getElem?_append_left (by omega)]
          exact hrow) hk
        have hBe : (Dat.r P).rows.take ((Dat.r P).rows.length - 1) = d.rows := by
          show P.take (P.length - 1) = d.rows
          rw [hPl, Nat.add_sub_cancel, hPe, List.take_append_of_le_length (Nat.le_refl _), List.take_of_length_le (Nat.le_refl _)]
        rw [hBe] at hB
        have eU : Int.toNat ((d.rows.length : Int) - 1) = d.rows.length - 1 := by omega
        have hSS : Pu 13 [.es 43 (.r d.rows), .es 43 d] (.b true) := sames_in hd
        refine pu_any (x := true) ?_ hT hargs
        apply ft_p28 d fr _ _ _ _ _ (vPush4 := P) (vPush5 := 0) (vBack7 := d.rows) (vwakes1 := true)
        all_goals first
          | with_reducible exact g5
          | exact gf
          | with_reducible exact g6
          | exact hP
          | exact hB
          | exact hSF
          | exact hSS
          | exact wakes_pu
          | (with_reducible refine inK64_iff.2 ?_; omega)
          | (with_reducible refine inB_iff.2 ?_; omega)
          | rfl
          | (rw [decide_eq_true (show (P.length : Int) = (d.rows.length : Int) + 1 by omega)]; rfl)
          | (rw [decide_eq_false (show ¬ (d.rows.length : Int) = 0 by omega)]; rfl)
          | (rw [eU]; simp only [hgq, hk]; simp; done)
          | (simp; done)
  · have hP := push_full (d := d) hfl hge
    refine pu_any (x := true) ?_ hT hargs
    apply ft_p3 d fr _ _ _ _ _ (vPush4 := []) (vPush5 := 11) (vwakes1 := true)
    all_goals first
      | with_reducible exact g5
      | exact gf
      | with_reducible exact g6
      | exact hP
      | exact wakes_pu
      | rfl
      | (refine decide_eq_true ?_; omega)
end Go.Proofs.YtgjfdbbghefdbaaGreatDoor.Lt

-- dead: st (.ep 43 5 (List.getD vBack7 (Int.toNat ((List.length (Dat.rows d) : Int) - 1)) []))
