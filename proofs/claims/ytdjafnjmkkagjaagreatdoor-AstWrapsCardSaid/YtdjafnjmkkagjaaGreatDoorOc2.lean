/-
  AstWraps, over data. No condition but that the tree be in range.
-/
import Derived.Test.YtdjafnjmkkagjaaGreatDoorOc1
namespace Go.Proofs.YtdjafnjmkkagjaaGreatDoor.Oa.C2
open Go.RowKit Sx B3 B4 B5 P1
set_option maxRecDepth 100000
set_option linter.unusedSimpArgs false
set_option linter.unusedVariables false
def ir8 : XF := ⟨85, 1, [(2, none)], (.seq (.reg [⟨some 1, none, .box 57 5 (.t 0)⟩,
  ⟨some 2, none, .mv (.c (.b false))⟩])
  (.seq (.seq (.reg [⟨some 10, none, .ld true 5 (.t 1)⟩,
  ⟨some 11, none, .call 26 [(.t 10)]⟩])
  (.cond (.t 11) (.seq (.reg [⟨some 12, none, .call 27 []⟩,
  ⟨some 2, none, .mv (.t 12)⟩])
  .ret)
  .skip))
  (.seq (.reg [⟨some 14, none, .ld true 5 (.t 1)⟩,
  ⟨some 15, none, .call 28 [(.t 14)]⟩,
  ⟨some 13, none, .mv (.t 15)⟩,
  ⟨some 16, none, .ex (.t 13) 0⟩,
  ⟨some 17, none, .ex (.t 13) 1⟩,
  ⟨some 3, none, .mv (.t 16)⟩,
  ⟨some 4, none, .mv (.t 17)⟩])
  (.seq (.seq (.reg [⟨some 18, none, .mv (.t 3)⟩,
  ⟨some 19, none, .bop .add (.t 18) (.c (.i .i64 6))⟩,
  ⟨some 20, none, .bop .gtr (.t 19) (.c (.i .i64 4096))⟩,
  ⟨some 21, none, .mv (.t 20)⟩,
  ⟨some 22, some (21, false), .mv (.t 4)⟩,
  ⟨some 23, some (21, false), .bop .add (.t 22) (.c (.i .i64 3))⟩,
  ⟨some 24, some (21, false), .bop .gtr (.t 23) (.c (.i .i64 64))⟩,
  ⟨some 25, none, .pick (.t 21) (.c (.b true)) (.t 24)⟩])
  (.cond (.t 25) (.seq (.reg [⟨some 26, none, .call 27 []⟩,
  ⟨some 2, none, .mv (.t 26)⟩])
  .ret)
  .skip))
  (.seq (.reg [⟨some 27, none, .ld true 5 (.t 1)⟩,
  ⟨some 28, none, .bld [(.i .i8 0), (.i .i64 0), (.s []), (.s []), .sln] [(0, 1, (.c (.i .i8 8)))]⟩,
  ⟨some 29, none, .bls 57 5 2 [(.i .i8 0), (.i .i64 0), (.s []), (.s []), .sln, (.i .i8 0), (.i .i64 0), (.s []), (.s []), .sln] [(0, 5, (.t 27)), (5, 5, (.t 28))]⟩,
  ⟨some 30, none, .bld [(.i .i8 0), (.i .i64 0), (.s []), (.s []), .sln] [(0, 1, (.c (.i .i8 10))), (4, 1, (.t 29))]⟩,
  ⟨some 5, none, .box 57 5 (.c (.ag [(.i .i8 0), (.i .i64 0), (.s []), (.s []), .sln]))⟩,
  ⟨none, none, .st 5 (.t 5) (.t 30)⟩])
  (.seq (.reg [⟨some 31, none, .ld true 5 (.t 1)⟩,
  ⟨some 32, none, .bld [(.i .i8 0), (.i .i64 0), (.s []), (.s []), .sln] [(0, 1, (.c (.i .i8 8)))]⟩,
  ⟨some 33, none, .bls 57 5 2 [(.i .i8 0), (.i .i64 0), (.s []), (.s []), .sln, (.i .i8 0), (.i .i64 0), (.s []), (.s []), .sln] [(0, 5, (.t 31)), (5, 5, (.t 32))]⟩,
  ⟨some 34, none, .bld [(.i .i8 0), (.i .i64 0), (.s []), (.s []), .sln] [(0, 1, (.c (.i .i8 9))), (4, 1, (.t 33))]⟩,
  ⟨some 6, none, .box 57 5 (.c (.ag [(.i .i8 0), (.i .i64 0), (.s []), (.s []), .sln]))⟩,
  ⟨none, none, .st 5 (.t 6) (.t 34)⟩])
  (.seq (.reg [⟨some 35, none, .bld [(.i .i8 0), (.i .i64 0), (.s []), (.s []), .sln] [(0, 1, (.c (.i .i8 8)))]⟩,
  ⟨some 36, none, .bld [(.i .i8 0), (.i .i64 0), (.s []), (.s []), .sln] [(0, 1, (.c (.i .i8 4)))]⟩,
  ⟨some 37, none, .ld true 5 (.t 1)⟩,
  ⟨some 38, none, .bls 57 5 3 [(.i .i8 0), (.i .i64 0), (.s []), (.s []), .sln, (.i .i8 0), (.i .i64 0), (.s []), (.s []), .sln, (.i .i8 0), (.i .i64 0), (.s []), (.s []), .sln] [(0, 5, (.t 35)), (5, 5, (.t 36)), (10, 5, (.t 37))]⟩,
  ⟨some 39, none, .bld [(.i .i8 0), (.i .i64 0), (.s []), (.s []), .sln] [(0, 1, (.c (.i .i8 3))), (1, 1, (.c (.i .i64 1))), (4, 1, (.t 38))]⟩,
  ⟨some 7, none, .box 57 5 (.c (.ag [(.i .i8 0), (.i .i64 0), (.s []), (.s []), .sln]))⟩,
  ⟨none, none, .st 5 (.t 7) (.t 39)⟩])
  (.seq (.reg [⟨some 40, none, .bld [(.i .i8 0), (.i .i64 0), (.s []), (.s []), .sln] [(0, 1, (.c (.i .i8 8)))]⟩,
  ⟨some 41, none, .ld true 5 (.t 7)⟩,
  ⟨some 42, none, .bls 57 5 2 [(.i .i8 0), (.i .i64 0), (.s []), (.s []), .sln, (.i .i8 0), (.i .i64 0), (.s []), (.s []), .sln] [(0, 5, (.t 40)), (5, 5, (.t 41))]⟩,
  ⟨some 43, none, .bld [(.i .i8 0), (.i .i64 0), (.s []), (.s []), .sln] [(0, 1, (.c (.i .i8 18))), (4, 1, (.t 42))]⟩,
  ⟨some 8, none, .box 57 5 (.c (.ag [(.i .i8 0), (.i .i64 0), (.s []), (.s []), .sln]))⟩,
  ⟨none, none, .st 5 (.t 8) (.t 43)⟩])
  (.seq (.reg [⟨some 44, none, .ld true 5 (.t 1)⟩,
  ⟨some 45, none, .call 31 [(.t 44)]⟩,
  ⟨some 9, none, .mv (.t 45)⟩])
  (.seq (.par [⟨some 46, none, .ld true 5 (.t 5)⟩,
  ⟨some 47, none, .call 31 [(.t 46)]⟩,
  ⟨some 48, none, .mv (.t 9)⟩,
  ⟨some 49, none, .beq false (.t 47) (.t 48)⟩,
  ⟨some 50, none, .mv (.t 49)⟩,
  ⟨some 51, some (50, true), .ld true 5 (.t 6)⟩,
  ⟨some 52, some (50, true), .call 31 [(.t 51)]⟩,
  ⟨some 53, some (50, true), .mv (.t 9)⟩,
  ⟨some 54, some (50, true), .beq false (.t 52) (.t 53)⟩,
  ⟨some 55, none, .pick (.t 50) (.t 54) (.c (.b false))⟩,
  ⟨some 56, none, .mv (.t 55)⟩,
  ⟨some 57, some (56, true), .ld true 5 (.t 8)⟩,
  ⟨some 58, some (56, true), .call 31 [(.t 57)]⟩,
  ⟨some 59, some (56, true), .mv (.t 9)⟩,
  ⟨some 60, some (56, true), .beq false (.t 58) (.t 59)⟩,
  ⟨some 61, none, .pick (.t 56) (.t 60) (.c (.b false))⟩,
  ⟨some 62, none, .mv (.t 61)⟩,
  ⟨some 63, some (62, true), .ld true 5 (.t 7)⟩,
  ⟨some 64, some (62, true), .call 36 [(.t 63), (.c (.i .i64 1))]⟩,
  ⟨some 65, some (62, true), .mv (.t 9)⟩,
  ⟨some 66, some (62, true), .beq false (.t 64) (.t 65)⟩,
  ⟨some 67, none, .pick (.t 62) (.t 66) (.c (.b false))⟩,
  ⟨some 68, none, .mv (.t 67)⟩,
  ⟨some 69, some (68, true), .ld true 5 (.t 5)⟩,
  ⟨some 70, some (68, true), .call 30 [(.t 69)]⟩,
  ⟨some 71, some (68, true), .ld true 5 (.t 1)⟩,
  ⟨some 72, some (68, true), .call 30 [(.t 71)]⟩,
  ⟨some 73, some (68, true), .beq false (.t 70) (.t 72)⟩,
  ⟨some 74, none, .pick (.t 68) (.t 73) (.c (.b false))⟩,
  ⟨some 75, none, .mv (.t 74)⟩,
  ⟨some 76, some (75, true), .ld true 5 (.t 6)⟩,
  ⟨some 77, some (75, true), .call 32 [(.t 76)]⟩,
  ⟨some 78, some (75, true), .ld true 5 (.t 1)⟩,
  ⟨some 79, some (75, true), .call 32 [(.t 78)]⟩,
  ⟨some 80, some (75, true), .beq false (.t 77) (.t 79)⟩,
  ⟨some 81, none, .pick (.t 75) (.t 80) (.c (.b false))⟩,
  ⟨some 82, none, .mv (.t 81)⟩,
  ⟨some 83, some (82, true), .call 27 []⟩,
  ⟨some 84, none, .pick (.t 82) (.t 83) (.c (.b false))⟩,
  ⟨some 2, none, .mv (.t 84)⟩] [0, 1, 0, 7, 15, 31, 63, 31, 255, 511, 1023, 2047, 4095, 2047, 16383, 32767, 65535, 131071, 262143, 131071, 1048575, 2097151, 4194303, 8388607, 16777215, 8388607, 67108863, 134217727, 268435455, 536870911, 1073741823, 2147483647, 1073741823, 8589934591, 17179869183, 34359738367, 68719476735, 137438953471, 274877906943, 549755813887])
  .ret))))))))))⟩

theorem irc8 : cFunc Tryz.prog Tryz.f8 = some ir8 := by kernel_rfl
def ir28 : XF := ⟨10, 1, [(2, none), (3, none)], (.seq (.reg [⟨some 1, none, .box 57 5 (.t 0)⟩,
  ⟨some 2, none, .mv (.c (.i .i64 0))⟩,
  ⟨some 3, none, .mv (.c (.i .i64 0))⟩])
  (.seq (.reg [⟨some 5, none, .call 61 [(.t 1)]⟩,
  ⟨some 4, none, .box 101 2 (.c (.ag [(.i .i64 0), (.i .i64 0)]))⟩,
  ⟨none, none, .st 2 (.t 4) (.t 5)⟩])
  (.seq (.par [⟨some 6, none, .fa 0 (.t 4)⟩,
  ⟨some 7, none, .ld false 1 (.t 6)⟩,
  ⟨some 8, none, .fa 1 (.t 4)⟩,
  ⟨some 9, none, .ld false 1 (.t 8)⟩,
  ⟨some 2, none, .mv (.t 7)⟩,
  ⟨some 3, none, .mv (.t 9)⟩] [0, 1, 0, 4, 3, 31])
  .ret)))⟩

theorem irc28 : cFunc Tryz.prog Tryz.f28 = some ir28 := by kernel_rfl
def tabI : Trie XF := .lf
def tabL : List (Nat × XF) := []
theorem tabI_eq : tabI = ofList tabL := by kernel_rfl
theorem tabI_ok : TabOk Tryz.prog tabI := tab_of tabI_eq (by kernel_rfl) fun p hp => by
  simp only [tabL, List.mem_cons, List.not_mem_nil, or_false] at hp
abbrev cal : CallT := run mth tabI noOrc 1000 20
theorem pu_of {f : Nat} {fn : Func} {x : XF} (hfn : Tryz.prog.funcs[f]? = some fn) (hc : cFunc Tryz.prog fn = some x) {args : List TV} {pa : List PA} {v : TV} {obs : List Ob} (hx : funO 5 mth cal 1000 x args pa = some (v, obs)) (hv : v.flat = true) (ho : Owes Tryz.prog rho obs) : Pu f args v :=
  pu_of' tabI_ok hfn hc hx hv ho
theorem lp_more {x : IC} {ks : List Nat} {m : Nat} {e e2 e' : Trie TV} {t t2 t' : Trie TB} {n n' : Nat} {pa : List PA} {ex : EX} {obs : List Ob} (hx : bodyO 5 mth cal 1000 x ks m e t n pa = some (.nrm, e2, t2, obs)) (ho : Owes Tryz.prog rho obs) (hl : LoopC Tryz.prog rho x e2 t2 m ex e' t' n') : LoopC Tryz.prog rho x e t n ex e' t' n' :=
  lp_more' tabI_ok hx ho hl
theorem lp_end {x : IC} {ks : List Nat} {m : Nat} {e e2 : Trie TV} {t t2 : Trie TB} {n : Nat} {pa : List PA} {ex : EX} {obs : List Ob} (hx : bodyO 5 mth cal 1000 x ks m e t n pa = some (ex, e2, t2, obs)) (hne : ex ≠ .nrm) (ho : Owes Tryz.prog rho obs) : LoopC Tryz.prog rho x e t n ex e2 t2 m :=
  lp_end' tabI_ok hx hne ho
theorem size0_0 (x : Tr) (vmeasure0 : Int) (vmeasure1 : Int) : funO 5 mth cal 1000 ir28 [(.ag [(.i .i8 x.k), (.i .i64 x.n), (.s (nats x.s)), (.s (nats x.t)), (.es 57 (.r (rowsT x.l)))])] [.cl [.ptr 57] (.ag [(.i .i64 vmeasure0), (.i .i64 vmeasure1)])] = some ((.tu [(.i .i64 vmeasure0), (.i .i64 vmeasure1)]), [.call 61 [(.ep 57 0 [.i x.k, .i x.n, .s (nats x.s), .s (nats x.t), (.r (rowsT x.l))])] (.ag [(.i .i64 vmeasure0), (.i .i64 vmeasure1)]), .eqb (freeL []) true]) := by kernel_rfl
theorem size0 (x : Tr) (vmeasure0 : Int) (vmeasure1 : Int) (c0 : Pu 61 [(.ep 57 0 [.i x.k, .i x.n, .s (nats x.s), .s (nats x.t), (.r (rowsT x.l))])] (.ag [(.i .i64 vmeasure0), (.i .i64 vmeasure1)])) : Pu 28 [(.ag [(.i .i8 x.k), (.i .i64 x.n), (.s (nats x.s)), (.s (nats x.t)), (.es 57 (.r (rowsT x.l)))])] (.tu [(.i .i64 vmeasure0), (.i .i64 vmeasure1)]) := by
  exact pu_of Tryz.func28 irc28 (size0_0 x vmeasure0 vmeasure1) rfl ⟨(c0), rfl, trivial⟩
theorem aw_0 (x : Tr) (vwakes1 : Bool) : funO 5 mth cal 1000 ir8 [(.ag [(.i .i8 x.k), (.i .i64 x.n), (.s (nats x.s)), (.s (nats x.t)), (.es 57 (.r (rowsT x.l)))])] [.cl [.as] (.b true), .cl [] (.b (vwakes1))] = some ((.b (vwakes1)), [.call 27 [] (.b (vwakes1)), .eqb (freeL []) true, .call 26 [(.ag [(.i .i8 x.k), (.i .i64 x.n), (.s (nats x.s)), (.s (nats x.t)), (.es 57 (.r (rowsT x.l)))])] (.b true), .eqb (freeL []) true, .eqb (TV.free (.ag [(.i .i8 x.k), (.i .i64 x.n), (.s (nats x.s)), (.s (nats x.t)), (.es 57 (.r (rowsT x.l)))])) true]) := by kernel_rfl
theorem aw_1 (x : Tr) (vSize2 : Int) (vSize3 : Int) (vwakes1 : Bool) : funO 5 mth cal 1000 ir8 [(.ag [(.i .i8 x.k), (.i .i64 x.n), (.s (nats x.s)), (.s (nats x.t)), (.es 57 (.r (rowsT x.l)))])] [.cl [.as] (.b false), .cl [.as] (.tu [(.i .i64 vSize2), (.i .i64 vSize3)]), .br true, .cl [] (.b (vwakes1))] = some ((.b (vwakes1)), [.call 27 [] (.b (vwakes1)), .eqb (freeL []) true, .eqb (decide (4096 < (vSize2 + 6))) true, .eqb (Sx.inK .i64 (vSize2 + 6)) true, .call 28 [(.ag [(.i .i8 x.k), (.i .i64 x.n), (.s (nats x.s)), (.s (nats x.t)), (.es 57 (.r (rowsT x.l)))])] (.tu [(.i .i64 vSize2), (.i .i64 vSize3)]), .eqb (freeL []) true, .eqb (TV.free (.ag [(.i .i8 x.k), (.i .i64 x.n), (.s (nats x.s)), (.s (nats x.t)), (.es 57 (.r (rowsT x.l)))])) true, .call 26 [(.ag [(.i .i8 x.k), (.i .i64 x.n), (.s (nats x.s)), (.s (nats x.t)), (.es 57 (.r (rowsT x.l)))])] (.b false), .eqb (freeL []) true, .eqb (TV.free (.ag [(.i .i8 x.k), (.i .i64 x.n), (.s (nats x.s)), (.s (nats x.t)), (.es 57 (.r (rowsT x.l)))])) true]) := by kernel_rfl
theorem aw_2 (x : Tr) (vSize2 : Int) (vSize3 : Int) (vwakes1 : Bool) : funO 5 mth cal 1000 ir8 [(.ag [(.i .i8 x.k), (.i .i64 x.n), (.s (nats x.s)), (.s (nats x.t)), (.es 57 (.r (rowsT x.l)))])] [.cl [.as] (.b false), .cl [.as] (.tu [(.i .i64 vSize2), (.i .i64 vSize3)]), .br false, .br true, .cl [] (.b (vwakes1))] = some ((.b (vwakes1)), [.call 27 [] (.b (vwakes1)), .eqb (freeL []) true, .eqb (decide (64 < (vSize3 + 3))) true, .eqb (Sx.inK .i64 (vSize3 + 3)) true, .eqb (decide (4096 < (vSize2 + 6))) false, .eqb (Sx.inK .i64 (vSize2 + 6)) true, .call 28 [(.ag [(.i .i8 x.k), (.i .i64 x.n), (.s (nats x.s)), (.s (nats x.t)), (.es 57 (.r (rowsT x.l)))])] (.tu [(.i .i64 vSize2), (.i .i64 vSize3)]), .eqb (freeL []) true, .eqb (TV.free (.ag [(.i .i8 x.k), (.i .i64 x.n), (.s (nats x.s)), (.s (nats x.t)), (.es 57 (.r (rowsT x.l)))])) true, .call 26 [(.ag [(.i .i8 x.k), (.i .i64 x.n), (.s (nats x.s)), (.s (nats x.t)), (.es 57 (.r (rowsT x.l)))])] (.b false), .eqb (freeL []) true, .eqb (TV.free (.ag [(.i .i8 x.k), (.i .i64 x.n), (.s (nats x.s)), (.s (nats x.t)), (.es 57 (.r (rowsT x.l)))])) true]) := by kernel_rfl
theorem aw_3 (x : Tr) (vSize2 : Int) (vSize3 : Int) (vExpr4 : Bool) (vExpr5 : Bool) (vExpr6 : Bool) (vExpr7 : Bool) (vClause8 : Bool) (vPattern9 : Bool) (vPattern10 : Bool) (vGuarded11 : Bool) (vGuarded12 : Bool) (vwakes1 : Bool) : funO 5 mth cal 1000 ir8 [(.ag [(.i .i8 x.k), (.i .i64 x.n), (.s (nats x.s)), (.s (nats x.t)), (.es 57 (.r (rowsT x.l)))])] [.cl [.as] (.b false), .cl [.as] (.tu [(.i .i64 vSize2), (.i .i64 vSize3)]), .br false, .br false, .cl [.as] (.b (vExpr4)), .cl [.agg 57] (.b (vExpr5)), .br true, .cl [.agg 57] (.b (vExpr6)), .br true, .cl [.agg 57] (.b (vExpr7)), .br true, .cl [.agg 57, .as] (.b (vClause8)), .br true, .cl [.agg 57] (.b (vPattern9)), .cl [.as] (.b (vPattern10)), .br true, .cl [.agg 57] (.b (vGuarded11)), .cl [.as] (.b (vGuarded12)), .br true, .cl [] (.b (vwakes1))] = some ((.b (vwakes1)), [.call 27 [] (.b (vwakes1)), .eqb (freeL []) true, .eqb (decide (vGuarded11 = vGuarded12)) true, .call 32 [(.ag [(.i .i8 x.k), (.i .i64 x.n), (.s (nats x.s)), (.s (nats x.t)), (.es 57 (.r (rowsT x.l)))])] (.b (vGuarded12)), .eqb (freeL []) true, .eqb (TV.free (.ag [(.i .i8 x.k), (.i .i64 x.n), (.s (nats x.s)), (.s (nats x.t)), (.es 57 (.r (rowsT x.l)))])) true, .call 32 [(.ag [(.i .i8 9), (.i .i64 0), (.s []), (.s []), (.es 57 (.r [[.i x.k, .i x.n, .s (nats x.s), .s (nats x.t), (.r (rowsT x.l))], [.i 8, .i 0, .s ([] : List Nat), .s ([] : List Nat), (.r [])]]))])] (.b (vGuarded11)), .eqb (freeL []) true, .eqb (freeL [(.i .i8 9), (.i .i64 0), (.s []), (.s []), (.es 57 (.r [[.i x.k, .i x.n, .s (nats x.s), .s (nats x.t), (.r (rowsT x.l))], [.i 8, .i 0, .s ([] : List Nat), .s ([] : List Nat), (.r [])]]))]) true, .eqb (decide (vPattern9 = vPattern10)) true, .call 30 [(.ag [(.i .i8 x.k), (.i .i64 x.n), (.s (nats x.s)), (.s (nats x.t)), (.es 57 (.r (rowsT x.l)))])] (.b (vPattern10)), .eqb (freeL []) true, .eqb (TV.free (.ag [(.i .i8 x.k), (.i .i64 x.n), (.s (nats x.s)), (.s (nats x.t)), (.es 57 (.r (rowsT x.l)))])) true, .call 30 [(.ag [(.i .i8 10), (.i .i64 0), (.s []), (.s []), (.es 57 (.r [[.i x.k, .i x.n, .s (nats x.s), .s (nats x.t), (.r (rowsT x.l))], [.i 8, .i 0, .s ([] : List Nat), .s ([] : List Nat), (.r [])]]))])] (.b (vPattern9)), .eqb (freeL []) true, .eqb (freeL [(.i .i8 10), (.i .i64 0), (.s []), (.s []), (.es 57 (.r [[.i x.k, .i x.n, .s (nats x.s), .s (nats x.t), (.r (rowsT x.l))], [.i 8, .i 0, .s ([] : List Nat), .s ([] : List Nat), (.r [])]]))]) true, .eqb (decide (vClause8 = vExpr4)) true, .call 36 [(.ag [(.i .i8 3), (.i .i64 1), (.s []), (.s []), (.es 57 (.r [[.i 8, .i 0, .s ([] : List Nat), .s ([] : List Nat), (.r [])], [.i 4, .i 0, .s ([] : List Nat), .s ([] : List Nat), (.r [])], [.i x.k, .i x.n, .s (nats x.s), .s (nats x.t), (.r (rowsT x.l))]]))]), (.i .i64 1)] (.b (vClause8)), .eqb (freeL []) true, .eqb (TV.free (.i .i64 1)) true, .eqb (freeL [(.i .i8 3), (.i .i64 1), (.s []), (.s []), (.es 57 (.r [[.i 8, .i 0, .s ([] : List Nat), .s ([] : List Nat), (.r [])], [.i 4, .i 0, .s ([] : List Nat), .s ([] : List Nat), (.r [])], [.i x.k, .i x.n, .s (nats x.s), .s (nats x.t), (.r (rowsT x.l))]]))]) true, .eqb (decide (vExpr7 = vExpr4)) true, .call 31 [(.ag [(.i .i8 18), (.i .i64 0), (.s []), (.s []), (.es 57 (.r [[.i 8, .i 0, .s ([] : List Nat), .s ([] : List Nat), (.r [])], [.i 3, .i 1, .s ([] : List Nat), .s ([] : List Nat), (.r [[.i 8, .i 0, .s ([] : List Nat), .s ([] : List Nat), (.r [])], [.i 4, .i 0, .s ([] : List Nat), .s ([] : List Nat), (.r [])], [.i x.k, .i x.n, .s (nats x.s), .s (nats x.t), (.r (rowsT x.l))]])]]))])] (.b (vExpr7)), .eqb (freeL []) true, .eqb (freeL [(.i .i8 18), (.i .i64 0), (.s []), (.s []), (.es 57 (.r [[.i 8, .i 0, .s ([] : List Nat), .s ([] : List Nat), (.r [])], [.i 3, .i 1, .s ([] : List Nat), .s ([] : List Nat), (.r [[.i 8, .i 0, .s ([] : List Nat), .s ([] : List Nat), (.r [])], [.i 4, .i 0, .s ([] : List Nat), .s ([] : List Nat), (.r [])], [.i x.k, .i x.n, .s (nats x.s), .s (nats x.t), (.r (rowsT x.l))]])]]))]) true, .eqb (decide (vExpr6 = vExpr4)) true, .call 31 [(.ag [(.i .i8 9), (.i .i64 0), (.s []), (.s []), (.es 57 (.r [[.i x.k, .i x.n, .s (nats x.s), .s (nats x.t), (.r (rowsT x.l))], [.i 8, .i 0, .s ([] : List Nat), .s ([] : List Nat), (.r [])]]))])] (.b (vExpr6)), .eqb (freeL []) true, .eqb (freeL [(.i .i8 9), (.i .i64 0), (.s []), (.s []), (.es 57 (.r [[.i x.k, .i x.n, .s (nats x.s), .s (nats x.t), (.r (rowsT x.l))], [.i 8, .i 0, .s ([] : List Nat), .s ([] : List Nat), (.r [])]]))]) true, .eqb (decide (vExpr5 = vExpr4)) true, .call 31 [(.ag [(.i .i8 10), (.i .i64 0), (.s []), (.s []), (.es 57 (.r [[.i x.k, .i x.n, .s (nats x.s), .s (nats x.t), (.r (rowsT x.l))], [.i 8, .i 0, .s ([] : List Nat), .s ([] : List Nat), (.r [])]]))])] (.b (vExpr5)), .eqb (freeL []) true, .eqb (freeL [(.i .i8 10), (.i .i64 0), (.s []), (.s []), (.es 57 (.r [[.i x.k, .i x.n, .s (nats x.s), .s (nats x.t), (.r (rowsT x.l))], [.i 8, .i 0, .s ([] : List Nat), .s ([] : List Nat), (.r [])]]))]) true, .call 31 [(.ag [(.i .i8 x.k), (.i .i64 x.n), (.s (nats x.s)), (.s (nats x.t)), (.es 57 (.r (rowsT x.l)))])] (.b (vExpr4)), .eqb (freeL []) true, .eqb (TV.free (.ag [(.i .i8 x.k), (.i .i64 x.n), (.s (nats x.s)), (.s (nats x.t)), (.es 57 (.r (rowsT x.l)))])) true, .eqb (decide (64 < (vSize3 + 3))) false, .eqb (Sx.inK .i64 (vSize3 + 3)) true, .eqb (decide (4096 < (vSize2 + 6))) false, .eqb (Sx.inK .i64 (vSize2 + 6)) true, .call 28 [(.ag [(.i .i8 x.k), (.i .i64 x.n), (.s (nats x.s)), (.s (nats x.t)), (.es 57 (.r (rowsT x.l)))])] (.tu [(.i .i64 vSize2), (.i .i64 vSize3)]), .eqb (freeL []) true, .eqb (TV.free (.ag [(.i .i8 x.k), (.i .i64 x.n), (.s (nats x.s)), (.s (nats x.t)), (.es 57 (.r (rowsT x.l)))])) true, .call 26 [(.ag [(.i .i8 x.k), (.i .i64 x.n), (.s (nats x.s)), (.s (nats x.t)), (.es 57 (.r (rowsT x.l)))])] (.b false), .eqb (freeL []) true, .eqb (TV.free (.ag [(.i .i8 x.k), (.i .i64 x.n), (.s (nats x.s)), (.s (nats x.t)), (.es 57 (.r (rowsT x.l)))])) true]) := by kernel_rfl
theorem aw_4 (x : Tr) (vSize2 : Int) (vSize3 : Int) (vExpr4 : Bool) (vExpr5 : Bool) (vExpr6 : Bool) (vExpr7 : Bool) (vClause8 : Bool) (vPattern9 : Bool) (vPattern10 : Bool) (vGuarded11 : Bool) (vGuarded12 : Bool) : funO 5 mth cal 1000 ir8 [(.ag [(.i .i8 x.k), (.i .i64 x.n), (.s (nats x.s)), (.s (nats x.t)), (.es 57 (.r (rowsT x.l)))])] [.cl [.as] (.b false), .cl [.as] (.tu [(.i .i64 vSize2), (.i .i64 vSize3)]), .br false, .br false, .cl [.as] (.b (vExpr4)), .cl [.agg 57] (.b (vExpr5)), .br true, .cl [.agg 57] (.b (vExpr6)), .br true, .cl [.agg 57] (.b (vExpr7)), .br true, .cl [.agg 57, .as] (.b (vClause8)), .br true, .cl [.agg 57] (.b (vPattern9)), .cl [.as] (.b (vPattern10)), .br true, .cl [.agg 57] (.b (vGuarded11)), .cl [.as] (.b (vGuarded12)), .br false] = some ((.b false), [.eqb (decide (vGuarded11 = vGuarded12)) false, .call 32 [(.ag [(.i .i8 x.k), (.i .i64 x.n), (.s (nats x.s)), (.s (nats x.t)), (.es 57 (.r (rowsT x.l)))])] (.b (vGuarded12)), .eqb (freeL []) true, .eqb (TV.free (.ag [(.i .i8 x.k), (.i .i64 x.n), (.s (nats x.s)), (.s (nats x.t)), (.es 57 (.r (rowsT x.l)))])) true, .call 32 [(.ag [(.i .i8 9), (.i .i64 0), (.s []), (.s []), (.es 57 (.r [[.i x.k, .i x.n, .s (nats x.s), .s (nats x.t), (.r (rowsT x.l))], [.i 8, .i 0, .s ([] : List Nat), .s ([] : List Nat), (.r [])]]))])] (.b (vGuarded11)), .eqb (freeL []) true, .eqb (freeL [(.i .i8 9), (.i .i64 0), (.s []), (.s []), (.es 57 (.r [[.i x.k, .i x.n, .s (nats x.s), .s (nats x.t), (.r (rowsT x.l))], [.i 8, .i 0, .s ([] : List Nat), .s ([] : List Nat), (.r [])]]))]) true, .eqb (decide (vPattern9 = vPattern10)) true, .call 30 [(.ag [(.i .i8 x.k), (.i .i64 x.n), (.s (nats x.s)), (.s (nats x.t)), (.es 57 (.r (rowsT x.l)))])] (.b (vPattern10)), .eqb (freeL []) true, .eqb (TV.free (.ag [(.i .i8 x.k), (.i .i64 x.n), (.s (nats x.s)), (.s (nats x.t)), (.es 57 (.r (rowsT x.l)))])) true, .call 30 [(.ag [(.i .i8 10), (.i .i64 0), (.s []), (.s []), (.es 57 (.r [[.i x.k, .i x.n, .s (nats x.s), .s (nats x.t), (.r (rowsT x.l))], [.i 8, .i 0, .s ([] : List Nat), .s ([] : List Nat), (.r [])]]))])] (.b (vPattern9)), .eqb (freeL []) true, .eqb (freeL [(.i .i8 10), (.i .i64 0), (.s []), (.s []), (.es 57 (.r [[.i x.k, .i x.n, .s (nats x.s), .s (nats x.t), (.r (rowsT x.l))], [.i 8, .i 0, .s ([] : List Nat), .s ([] : List Nat), (.r [])]]))]) true, .eqb (decide (vClause8 = vExpr4)) true, .call 36 [(.ag [(.i .i8 3), (.i .i64 1), (.s []), (.s []), (.es 57 (.r [[.i 8, .i 0, .s ([] : List Nat), .s ([] : List Nat), (.r [])], [.i 4, .i 0, .s ([] : List Nat), .s ([] : List Nat), (.r [])], [.i x.k, .i x.n, .s (nats x.s), .s (nats x.t), (.r (rowsT x.l))]]))]), (.i .i64 1)] (.b (vClause8)), .eqb (freeL []) true, .eqb (TV.free (.i .i64 1)) true, .eqb (freeL [(.i .i8 3), (.i .i64 1), (.s []), (.s []), (.es 57 (.r [[.i 8, .i 0, .s ([] : List Nat), .s ([] : List Nat), (.r [])], [.i 4, .i 0, .s ([] : List Nat), .s ([] : List Nat), (.r [])], [.i x.k, .i x.n, .s (nats x.s), .s (nats x.t), (.r (rowsT x.l))]]))]) true, .eqb (decide (vExpr7 = vExpr4)) true, .call 31 [(.ag [(.i .i8 18), (.i .i64 0), (.s []), (.s []), (.es 57 (.r [[.i 8, .i 0, .s ([] : List Nat), .s ([] : List Nat), (.r [])], [.i 3, .i 1, .s ([] : List Nat), .s ([] : List Nat), (.r [[.i 8, .i 0, .s ([] : List Nat), .s ([] : List Nat), (.r [])], [.i 4, .i 0, .s ([] : List Nat), .s ([] : List Nat), (.r [])], [.i x.k, .i x.n, .s (nats x.s), .s (nats x.t), (.r (rowsT x.l))]])]]))])] (.b (vExpr7)), .eqb (freeL []) true, .eqb (freeL [(.i .i8 18), (.i .i64 0), (.s []), (.s []), (.es 57 (.r [[.i 8, .i 0, .s ([] : List Nat), .s ([] : List Nat), (.r [])], [.i 3, .i 1, .s ([] : List Nat), .s ([] : List Nat), (.r [[.i 8, .i 0, .s ([] : List Nat), .s ([] : List Nat), (.r [])], [.i 4, .i 0, .s ([] : List Nat), .s ([] : List Nat), (.r [])], [.i x.k, .i x.n, .s (nats x.s), .s (nats x.t), (.r (rowsT x.l))]])]]))]) true, .eqb (decide (vExpr6 = vExpr4)) true, .call 31 [(.ag [(.i .i8 9), (.i .i64 0), (.s []), (.s []), (.es 57 (.r [[.i x.k, .i x.n, .s (nats x.s), .s (nats x.t), (.r (rowsT x.l))], [.i 8, .i 0, .s ([] : List Nat), .s ([] : List Nat), (.r [])]]))])] (.b (vExpr6)), .eqb (freeL []) true, .eqb (freeL [(.i .i8 9), (.i .i64 0), (.s []), (.s []), (.es 57 (.r [[.i x.k, .i x.n, .s (nats x.s), .s (nats x.t), (.r (rowsT x.l))], [.i 8, .i 0, .s ([] : List Nat), .s ([] : List Nat), (.r [])]]))]) true, .eqb (decide (vExpr5 = vExpr4)) true, .call 31 [(.ag [(.i .i8 10), (.i .i64 0), (.s []), (.s []), (.es 57 (.r [[.i x.k, .i x.n, .s (nats x.s), .s (nats x.t), (.r (rowsT x.l))], [.i 8, .i 0, .s ([] : List Nat), .s ([] : List Nat), (.r [])]]))])] (.b (vExpr5)), .eqb (freeL []) true, .eqb (freeL [(.i .i8 10), (.i .i64 0), (.s []), (.s []), (.es 57 (.r [[.i x.k, .i x.n, .s (nats x.s), .s (nats x.t), (.r (rowsT x.l))], [.i 8, .i 0, .s ([] : List Nat), .s ([] : List Nat), (.r [])]]))]) true, .call 31 [(.ag [(.i .i8 x.k), (.i .i64 x.n), (.s (nats x.s)), (.s (nats x.t)), (.es 57 (.r (rowsT x.l)))])] (.b (vExpr4)), .eqb (freeL []) true, .eqb (TV.free (.ag [(.i .i8 x.k), (.i .i64 x.n), (.s (nats x.s)), (.s (nats x.t)), (.es 57 (.r (rowsT x.l)))])) true, .eqb (decide (64 < (vSize3 + 3))) false, .eqb (Sx.inK .i64 (vSize3 + 3)) true, .eqb (decide (4096 < (vSize2 + 6))) false, .eqb (Sx.inK .i64 (vSize2 + 6)) true, .call 28 [(.ag [(.i .i8 x.k), (.i .i64 x.n), (.s (nats x.s)), (.s (nats x.t)), (.es 57 (.r (rowsT x.l)))])] (.tu [(.i .i64 vSize2), (.i .i64 vSize3)]), .eqb (freeL []) true, .eqb (TV.free (.ag [(.i .i8 x.k), (.i .i64 x.n), (.s (nats x.s)), (.s (nats x.t)), (.es 57 (.r (rowsT x.l)))])) true, .call 26 [(.ag [(.i .i8 x.k), (.i .i64 x.n), (.s (nats x.s)), (.s (nats x.t)), (.es 57 (.r (rowsT x.l)))])] (.b false), .eqb (freeL []) true, .eqb (TV.free (.ag [(.i .i8 x.k), (.i .i64 x.n), (.s (nats x.s)), (.s (nats x.t)), (.es 57 (.r (rowsT x.l)))])) true]) := by kernel_rfl
theorem aw_5 (x : Tr) (vSize2 : Int) (vSize3 : Int) (vExpr4 : Bool) (vExpr5 : Bool) (vExpr6 : Bool) (vExpr7 : Bool) (vClause8 : Bool) (vPattern9 : Bool) (vPattern10 : Bool) : funO 5 mth cal 1000 ir8 [(.ag [(.i .i8 x.k), (.i .i64 x.n), (.s (nats x.s)), (.s (nats x.t)), (.es 57 (.r (rowsT x.l)))])] [.cl [.as] (.b false), .cl [.as] (.tu [(.i .i64 vSize2), (.i .i64 vSize3)]), .br false, .br false, .cl [.as] (.b (vExpr4)), .cl [.agg 57] (.b (vExpr5)), .br true, .cl [.agg 57] (.b (vExpr6)), .br true, .cl [.agg 57] (.b (vExpr7)), .br true, .cl [.agg 57, .as] (.b (vClause8)), .br true, .cl [.agg 57] (.b (vPattern9)), .cl [.as] (.b (vPattern10)), .br false] = some ((.b false), [.eqb (decide (vPattern9 = vPattern10)) false, .call 30 [(.ag [(.i .i8 x.k), (.i .i64 x.n), (.s (nats x.s)), (.s (nats x.t)), (.es 57 (.r (rowsT x.l)))])] (.b (vPattern10)), .eqb (freeL []) true, .eqb (TV.free (.ag [(.i .i8 x.k), (.i .i64 x.n), (.s (nats x.s)), (.s (nats x.t)), (.es 57 (.r (rowsT x.l)))])) true, .call 30 [(.ag [(.i .i8 10), (.i .i64 0), (.s []), (.s []), (.es 57 (.r [[.i x.k, .i x.n, .s (nats x.s), .s (nats x.t), (.r (rowsT x.l))], [.i 8, .i 0, .s ([] : List Nat), .s ([] : List Nat), (.r [])]]))])] (.b (vPattern9)), .eqb (freeL []) true, .eqb (freeL [(.i .i8 10), (.i .i64 0), (.s []), (.s []), (.es 57 (.r [[.i x.k, .i x.n, .s (nats x.s), .s (nats x.t), (.r (rowsT x.l))], [.i 8, .i 0, .s ([] : List Nat), .s ([] : List Nat), (.r [])]]))]) true, .eqb (decide (vClause8 = vExpr4)) true, .call 36 [(.ag [(.i .i8 3), (.i .i64 1), (.s []), (.s []), (.es 57 (.r [[.i 8, .i 0, .s ([] : List Nat), .s ([] : List Nat), (.r [])], [.i 4, .i 0, .s ([] : List Nat), .s ([] : List Nat), (.r [])], [.i x.k, .i x.n, .s (nats x.s), .s (nats x.t), (.r (rowsT x.l))]]))]), (.i .i64 1)] (.b (vClause8)), .eqb (freeL []) true, .eqb (TV.free (.i .i64 1)) true, .eqb (freeL [(.i .i8 3), (.i .i64 1), (.s []), (.s []), (.es 57 (.r [[.i 8, .i 0, .s ([] : List Nat), .s ([] : List Nat), (.r [])], [.i 4, .i 0, .s ([] : List Nat), .s ([] : List Nat), (.r [])], [.i x.k, .i x.n, .s (nats x.s), .s (nats x.t), (.r (rowsT x.l))]]))]) true, .eqb (decide (vExpr7 = vExpr4)) true, .call 31 [(.ag [(.i .i8 18), (.i .i64 0), (.s []), (.s []), (.es 57 (.r [[.i 8, .i 0, .s ([] : List Nat), .s ([] : List Nat), (.r [])], [.i 3, .i 1, .s ([] : List Nat), .s ([] : List Nat), (.r [[.i 8, .i 0, .s ([] : List Nat), .s ([] : List Nat), (.r [])], [.i 4, .i 0, .s ([] : List Nat), .s ([] : List Nat), (.r [])], [.i x.k, .i x.n, .s (nats x.s), .s (nats x.t), (.r (rowsT x.l))]])]]))])] (.b (vExpr7)), .eqb (freeL []) true, .eqb (freeL [(.i .i8 18), (.i .i64 0), (.s []), (.s []), (.es 57 (.r [[.i 8, .i 0, .s ([] : List Nat), .s ([] : List Nat), (.r [])], [.i 3, .i 1, .s ([] : List Nat), .s ([] : List Nat), (.r [[.i 8, .i 0, .s ([] : List Nat), .s ([] : List Nat), (.r [])], [.i 4, .i 0, .s ([] : List Nat), .s ([] : List Nat), (.r [])], [.i x.k, .i x.n, .s (nats x.s), .s (nats x.t), (.r (rowsT x.l))]])]]))]) true, .eqb (decide (vExpr6 = vExpr4)) true, .call 31 [(.ag [(.i .i8 9), (.i .i64 0), (.s []), (.s []), (.es 57 (.r [[.i x.k, .i x.n, .s (nats x.s), .s (nats x.t), (.r (rowsT x.l))], [.i 8, .i 0, .s ([] : List Nat), .s ([] : List Nat), (.r [])]]))])] (.b (vExpr6)), .eqb (freeL []) true, .eqb (freeL [(.i .i8 9), (.i .i64 0), (.s []), (.s []), (.es 57 (.r [[.i x.k, .i x.n, .s (nats x.s), .s (nats x.t), (.r (rowsT x.l))], [.i 8, .i 0, .s ([] : List Nat), .s ([] : List Nat), (.r [])]]))]) true, .eqb (decide (vExpr5 = vExpr4)) true, .call 31 [(.ag [(.i .i8 10), (.i .i64 0), (.s []), (.s []), (.es 57 (.r [[.i x.k, .i x.n, .s (nats x.s), .s (nats x.t), (.r (rowsT x.l))], [.i 8, .i 0, .s ([] : List Nat), .s ([] : List Nat), (.r [])]]))])] (.b (vExpr5)), .eqb (freeL []) true, .eqb (freeL [(.i .i8 10), (.i .i64 0), (.s []), (.s []), (.es 57 (.r [[.i x.k, .i x.n, .s (nats x.s), .s (nats x.t), (.r (rowsT x.l))], [.i 8, .i 0, .s ([] : List Nat), .s ([] : List Nat), (.r [])]]))]) true, .call 31 [(.ag [(.i .i8 x.k), (.i .i64 x.n), (.s (nats x.s)), (.s (nats x.t)), (.es 57 (.r (rowsT x.l)))])] (.b (vExpr4)), .eqb (freeL []) true, .eqb (TV.free (.ag [(.i .i8 x.k), (.i .i64 x.n), (.s (nats x.s)), (.s (nats x.t)), (.es 57 (.r (rowsT x.l)))])) true, .eqb (decide (64 < (vSize3 + 3))) false, .eqb (Sx.inK .i64 (vSize3 + 3)) true, .eqb (decide (4096 < (vSize2 + 6))) false, .eqb (Sx.inK .i64 (vSize2 + 6)) true, .call 28 [(.ag [(.i .i8 x.k), (.i .i64 x.n), (.s (nats x.s)), (.s (nats x.t)), (.es 57 (.r (rowsT x.l)))])] (.tu [(.i .i64 vSize2), (.i .i64 vSize3)]), .eqb (freeL []) true, .eqb (TV.free (.ag [(.i .i8 x.k), (.i .i64 x.n), (.s (nats x.s)), (.s (nats x.t)), (.es 57 (.r (rowsT x.l)))])) true, .call 26 [(.ag [(.i .i8 x.k), (.i .i64 x.n), (.s (nats x.s)), (.s (nats x.t)), (.es 57 (.r (rowsT x.l)))])] (.b false), .eqb (freeL []) true, .eqb (TV.free (.ag [(.i .i8 x.k), (.i .i64 x.n), (.s (nats x.s)), (.s (nats x.t)), (.es 57 (.r (rowsT x.l)))])) true]) := by kernel_rfl
theorem aw_6 (x : Tr) (vSize2 : Int) (vSize3 : Int) (vExpr4 : Bool) (vExpr5 : Bool) (vExpr6 : Bool) (vExpr7 : Bool) (vClause8 : Bool) : funO 5 mth cal 1000 ir8 [(.ag [(.i .i8 x.k), (.i .i64 x.n), (.s (nats x.s)), (.s (nats x.t)), (.es 57 (.r (rowsT x.l)))])] [.cl [.as] (.b false), .cl [.as] (.tu [(.i .i64 vSize2), (.i .i64 vSize3)]), .br false, .br false, .cl [.as] (.b (vExpr4)), .cl [.agg 57] (.b (vExpr5)), .br true, .cl [.agg 57] (.b (vExpr6)), .br true, .cl [.agg 57] (.b (vExpr7)), .br true, .cl [.agg 57, .as] (.b (vClause8)), .br false] = some ((.b false), [.eqb (decide (vClause8 = vExpr4)) false, .call 36 [(.ag [(.i .i8 3), (.i .i64 1), (.s []), (.s []), (.es 57 (.r [[.i 8, .i 0, .s ([] : List Nat), .s ([] : List Nat), (.r [])], [.i 4, .i 0, .s ([] : List Nat), .s ([] : List Nat), (.r [])], [.i x.k, .i x.n, .s (nats x.s), .s (nats x.t), (.r (rowsT x.l))]]))]), (.i .i64 1)] (.b (vClause8)), .eqb (freeL []) true, .eqb (TV.free (.i .i64 1)) true, .eqb (freeL [(.i .i8 3), (.i .i64 1), (.s []), (.s []), (.es 57 (.r [[.i 8, .i 0, .s ([] : List Nat), .s ([] : List Nat), (.r [])], [.i 4, .i 0, .s ([] : List Nat), .s ([] : List Nat), (.r [])], [.i x.k, .i x.n, .s (nats x.s), .s (nats x.t), (.r (rowsT x.l))]]))]) true, .eqb (decide (vExpr7 = vExpr4)) true, .call 31 [(.ag [(.i .i8 18), (.i .i64 0), (.s []), (.s []), (.es 57 (.r [[.i 8, .i 0, .s ([] : List Nat), .s ([] : List Nat), (.r [])], [.i 3, .i 1, .s ([] : List Nat), .s ([] : List Nat), (.r [[.i 8, .i 0, .s ([] : List Nat), .s ([] : List Nat), (.r [])], [.i 4, .i 0, .s ([] : List Nat), .s ([] : List Nat), (.r [])], [.i x.k, .i x.n, .s (nats x.s), .s (nats x.t), (.r (rowsT x.l))]])]]))])] (.b (vExpr7)), .eqb (freeL []) true, .eqb (freeL [(.i .i8 18), (.i .i64 0), (.s []), (.s []), (.es 57 (.r [[.i 8, .i 0, .s ([] : List Nat), .s ([] : List Nat), (.r [])], [.i 3, .i 1, .s ([] : List Nat), .s ([] : List Nat), (.r [[.i 8, .i 0, .s ([] : List Nat), .s ([] : List Nat), (.r [])], [.i 4, .i 0, .s ([] : List Nat), .s ([] : List Nat), (.r [])], [.i x.k, .i x.n, .s (nats x.s), .s (nats x.t), (.r (rowsT x.l))]])]]))]) true, .eqb (decide (vExpr6 = vExpr4)) true, .call 31 [(.ag [(.i .i8 9), (.i .i64 0), (.s []), (.s []), (.es 57 (.r [[.i x.k, .i x.n, .s (nats x.s), .s (nats x.t), (.r (rowsT x.l))], [.i 8, .i 0, .s ([] : List Nat), .s ([] : List Nat), (.r [])]]))])] (.b (vExpr6)), .eqb (freeL []) true, .eqb (freeL [(.i .i8 9), (.i .i64 0), (.s []), (.s []), (.es 57 (.r [[.i x.k, .i x.n, .s (nats x.s), .s (nats x.t), (.r (rowsT x.l))], [.i 8, .i 0, .s ([] : List Nat), .s ([] : List Nat), (.r [])]]))]) true, .eqb (decide (vExpr5 = vExpr4)) true, .call 31 [(.ag [(.i .i8 10), (.i .i64 0), (.s []), (.s []), (.es 57 (.r [[.i x.k, .i x.n, .s (nats x.s), .s (nats x.t), (.r (rowsT x.l))], [.i 8, .i 0, .s ([] : List Nat), .s ([] : List Nat), (.r [])]]))])] (.b (vExpr5)), .eqb (freeL []) true, .eqb (freeL [(.i .i8 10), (.i .i64 0), (.s []), (.s []), (.es 57 (.r [[.i x.k, .i x.n, .s (nats x.s), .s (nats x.t), (.r (rowsT x.l))], [.i 8, .i 0, .s ([] : List Nat), .s ([] : List Nat), (.r [])]]))]) true, .call 31 [(.ag [(.i .i8 x.k), (.i .i64 x.n), (.s (nats x.s)), (.s (nats x.t)), (.es 57 (.r (rowsT x.l)))])] (.b (vExpr4)), .eqb (freeL []) true, .eqb (TV.free (.ag [(.i .i8 x.k), (.i .i64 x.n), (.s (nats x.s)), (.s (nats x.t)), (.es 57 (.r (rowsT x.l)))])) true, .eqb (decide (64 < (vSize3 + 3))) false, .eqb (Sx.inK .i64 (vSize3 + 3)) true, .eqb (decide (4096 < (vSize2 + 6))) false, .eqb (Sx.inK .i64 (vSize2 + 6)) true, .call 28 [(.ag [(.i .i8 x.k), (.i .i64 x.n), (.s (nats x.s)), (.s (nats x.t)), (.es 57 (.r (rowsT x.l)))])] (.tu [(.i .i64 vSize2), (.i .i64 vSize3)]), .eqb (freeL []) true, .eqb (TV.free (.ag [(.i .i8 x.k), (.i .i64 x.n), (.s (nats x.s)), (.s (nats x.t)), (.es 57 (.r (rowsT x.l)))])) true, .call 26 [(.ag [(.i .i8 x.k), (.i .i64 x.n), (.s (nats x.s)), (.s (nats x.t)), (.es 57 (.r (rowsT x.l)))])] (.b false), .eqb (freeL []) true, .eqb (TV.free (.ag [(.i .i8 x.k), (.i .i64 x.n), (.s (nats x.s)), (.s (nats x.t)), (.es 57 (.r (rowsT x.l)))])) true]) := by kernel_rfl
theorem aw_7 (x : Tr) (vSize2 : Int) (vSize3 : Int) (vExpr4 : Bool) (vExpr5 : Bool) (vExpr6 : Bool) (vExpr7 : Bool) : funO 5 mth cal 1000 ir8 [(.ag [(.i .i8 x.k), (.i .i64 x.n), (.s (nats x.s)), (.s (nats x.t)), (.es 57 (.r (rowsT x.l)))])] [.cl [.as] (.b false), .cl [.as] (.tu [(.i .i64 vSize2), (.i .i64 vSize3)]), .br false, .br false, .cl [.as] (.b (vExpr4)), .cl [.agg 57] (.b (vExpr5)), .br true, .cl [.agg 57] (.b (vExpr6)), .br true, .cl [.agg 57] (.b (vExpr7)), .br false] = some ((.b false), [.eqb (decide (vExpr7 = vExpr4)) false, .call 31 [(.ag [(.i .i8 18), (.i .i64 0), (.s []), (.s []), (.es 57 (.r [[.i 8, .i 0, .s ([] : List Nat), .s ([] : List Nat), (.r [])], [.i 3, .i 1, .s ([] : List Nat), .s ([] : List Nat), (.r [[.i 8, .i 0, .s ([] : List Nat), .s ([] : List Nat), (.r [])], [.i 4, .i 0, .s ([] : List Nat), .s ([] : List Nat), (.r [])], [.i x.k, .i x.n, .s (nats x.s), .s (nats x.t), (.r (rowsT x.l))]])]]))])] (.b (vExpr7)), .eqb (freeL []) true, .eqb (freeL [(.i .i8 18), (.i .i64 0), (.s []), (.s []), (.es 57 (.r [[.i 8, .i 0, .s ([] : List Nat), .s ([] : List Nat), (.r [])], [.i 3, .i 1, .s ([] : List Nat), .s ([] : List Nat), (.r [[.i 8, .i 0, .s ([] : List Nat), .s ([] : List Nat), (.r [])], [.i 4, .i 0, .s ([] : List Nat), .s ([] : List Nat), (.r [])], [.i x.k, .i x.n, .s (nats x.s), .s (nats x.t), (.r (rowsT x.l))]])]]))]) true, .eqb (decide (vExpr6 = vExpr4)) true, .call 31 [(.ag [(.i .i8 9), (.i .i64 0), (.s []), (.s []), (.es 57 (.r [[.i x.k, .i x.n, .s (nats x.s), .s (nats x.t), (.r (rowsT x.l))], [.i 8, .i 0, .s ([] : List Nat), .s ([] : List Nat), (.r [])]]))])] (.b (vExpr6)), .eqb (freeL []) true, .eqb (freeL [(.i .i8 9), (.i .i64 0), (.s []), (.s []), (.es 57 (.r [[.i x.k, .i x.n, .s (nats x.s), .s (nats x.t), (.r (rowsT x.l))], [.i 8, .i 0, .s ([] : List Nat), .s ([] : List Nat), (.r [])]]))]) true, .eqb (decide (vExpr5 = vExpr4)) true, .call 31 [(.ag [(.i .i8 10), (.i .i64 0), (.s []), (.s []), (.es 57 (.r [[.i x.k, .i x.n, .s (nats x.s), .s (nats x.t), (.r (rowsT x.l))], [.i 8, .i 0, .s ([] : List Nat), .s ([] : List Nat), (.r [])]]))])] (.b (vExpr5)), .eqb (freeL []) true, .eqb (freeL [(.i .i8 10), (.i .i64 0), (.s []), (.s []), (.es 57 (.r [[.i x.k, .i x.n, .s (nats x.s), .s (nats x.t), (.r (rowsT x.l))], [.i 8, .i 0, .s ([] : List Nat), .s ([] : List Nat), (.r [])]]))]) true, .call 31 [(.ag [(.i .i8 x.k), (.i .i64 x.n), (.s (nats x.s)), (.s (nats x.t)), (.es 57 (.r (rowsT x.l)))])] (.b (vExpr4)), .eqb (freeL []) true, .eqb (TV.free (.ag [(.i .i8 x.k), (.i .i64 x.n), (.s (nats x.s)), (.s (nats x.t)), (.es 57 (.r (rowsT x.l)))])) true, .eqb (decide (64 < (vSize3 + 3))) false, .eqb (Sx.inK .i64 (vSize3 + 3)) true, .eqb (decide (4096 < (vSize2 + 6))) false, .eqb (Sx.inK .i64 (vSize2 + 6)) true, .call 28 [(.ag [(.i .i8 x.k), (.i .i64 x.n), (.s (nats x.s)), (.s (nats x.t)), (.es 57 (.r (rowsT x.l)))])] (.tu [(.i .i64 vSize2), (.i .i64 vSize3)]), .eqb (freeL []) true, .eqb (TV.free (.ag [(.i .i8 x.k), (.i .i64 x.n), (.s (nats x.s)), (.s (nats x.t)), (.es 57 (.r (rowsT x.l)))])) true, .call 26 [(.ag [(.i .i8 x.k), (.i .i64 x.n), (.s (nats x.s)), (.s (nats x.t)), (.es 57 (.r (rowsT x.l)))])] (.b false), .eqb (freeL []) true, .eqb (TV.free (.ag [(.i .i8 x.k), (.i .i64 x.n), (.s (nats x.s)), (.s (nats x.t)), (.es 57 (.r (rowsT x.l)))])) true]) := by kernel_rfl
theorem aw_8 (x : Tr) (vSize2 : Int) (vSize3 : Int) (vExpr4 : Bool) (vExpr5 : Bool) (vExpr6 : Bool) : funO 5 mth cal 1000 ir8 [(.ag [(.i .i8 x.k), (.i .i64 x.n), (.s (nats x.s)), (.s (nats x.t)), (.es 57 (.r (rowsT x.l)))])] [.cl [.as] (.b false), .cl [.as] (.tu [(.i .i64 vSize2), (.i .i64 vSize3)]), .br false, .br false, .cl [.as] (.b (vExpr4)), .cl [.agg 57] (.b (vExpr5)), .br true, .cl [.agg 57] (.b (vExpr6)), .br false] = some ((.b false), [.eqb (decide (vExpr6 = vExpr4)) false, .call 31 [(.ag [(.i .i8 9), (.i .i64 0), (.s []), (.s []), (.es 57 (.r [[.i x.k, .i x.n, .s (nats x.s), .s (nats x.t), (.r (rowsT x.l))], [.i 8, .i 0, .s ([] : List Nat), .s ([] : List Nat), (.r [])]]))])] (.b (vExpr6)), .eqb (freeL []) true, .eqb (freeL [(.i .i8 9), (.i .i64 0), (.s []), (.s []), (.es 57 (.r [[.i x.k, .i x.n, .s (nats x.s), .s (nats x.t), (.r (rowsT x.l))], [.i 8, .i 0, .s ([] : List Nat), .s ([] : List Nat), (.r [])]]))]) true, .eqb (decide (vExpr5 = vExpr4)) true, .call 31 [(.ag [(.i .i8 10), (.i .i64 0), (.s []), (.s []), (.es 57 (.r [[.i x.k, .i x.n, .s (nats x.s), .s (nats x.t), (.r (rowsT x.l))], [.i 8, .i 0, .s ([] : List Nat), .s ([] : List Nat), (.r [])]]))])] (.b (vExpr5)), .eqb (freeL []) true, .eqb (freeL [(.i .i8 10), (.i .i64 0), (.s []), (.s []), (.es 57 (.r [[.i x.k, .i x.n, .s (nats x.s), .s (nats x.t), (.r (rowsT x.l))], [.i 8, .i 0, .s ([] : List Nat), .s ([] : List Nat), (.r [])]]))]) true, .call 31 [(.ag [(.i .i8 x.k), (.i .i64 x.n), (.s (nats x.s)), (.s (nats x.t)), (.es 57 (.r (rowsT x.l)))])] (.b (vExpr4)), .eqb (freeL []) true, .eqb (TV.free (.ag [(.i .i8 x.k), (.i .i64 x.n), (.s (nats x.s)), (.s (nats x.t)), (.es 57 (.r (rowsT x.l)))])) true, .eqb (decide (64 < (vSize3 + 3))) false, .eqb (Sx.inK .i64 (vSize3 + 3)) true, .eqb (decide (4096 < (vSize2 + 6))) false, .eqb (Sx.inK .i64 (vSize2 + 6)) true, .call 28 [(.ag [(.i .i8 x.k), (.i .i64 x.n), (.s (nats x.s)), (.s (nats x.t)), (.es 57 (.r (rowsT x.l)))])] (.tu [(.i .i64 vSize2), (.i .i64 vSize3)]), .eqb (freeL []) true, .eqb (TV.free (.ag [(.i .i8 x.k), (.i .i64 x.n), (.s (nats x.s)), (.s (nats x.t)), (.es 57 (.r (rowsT x.l)))])) true, .call 26 [(.ag [(.i .i8 x.k), (.i .i64 x.n), (.s (nats x.s)), (.s (nats x.t)), (.es 57 (.r (rowsT x.l)))])] (.b false), .eqb (freeL []) true, .eqb (TV.free (.ag [(.i .i8 x.k), (.i .i64 x.n), (.s (nats x.s)), (.s (nats x.t)), (.es 57 (.r (rowsT x.l)))])) true]) := by kernel_rfl
theorem aw_9 (x : Tr) (vSize2 : Int) (vSize3 : Int) (vExpr4 : Bool) (vExpr5 : Bool) : funO 5 mth cal 1000 ir8 [(.ag [(.i .i8 x.k), (.i .i64 x.n), (.s (nats x.s)), (.s (nats x.t)), (.es 57 (.r (rowsT x.l)))])] [.cl [.as] (.b false), .cl [.as] (.tu [(.i .i64 vSize2), (.i .i64 vSize3)]), .br false, .br false, .cl [.as] (.b (vExpr4)), .cl [.agg 57] (.b (vExpr5)), .br false] = some ((.b false), [.eqb (decide (vExpr5 = vExpr4)) false, .call 31 [(.ag [(.i .i8 10), (.i .i64 0), (.s []), (.s []), (.es 57 (.r [[.i x.k, .i x.n, .s (nats x.s), .s (nats x.t), (.r (rowsT x.l))], [.i 8, .i 0, .s ([] : List Nat), .s ([] : List Nat), (.r [])]]))])] (.b (vExpr5)), .eqb (freeL []) true, .eqb (freeL [(.i .i8 10), (.i .i64 0), (.s []), (.s []), (.es 57 (.r [[.i x.k, .i x.n, .s (nats x.s), .s (nats x.t), (.r (rowsT x.l))], [.i 8, .i 0, .s ([] : List Nat), .s ([] : List Nat), (.r [])]]))]) true, .call 31 [(.ag [(.i .i8 x.k), (.i .i64 x.n), (.s (nats x.s)), (.s (nats x.t)), (.es 57 (.r (rowsT x.l)))])] (.b (vExpr4)), .eqb (freeL []) true, .eqb (TV.free (.ag [(.i .i8 x.k), (.i .i64 x.n), (.s (nats x.s)), (.s (nats x.t)), (.es 57 (.r (rowsT x.l)))])) true, .eqb (decide (64 < (vSize3 + 3))) false, .eqb (Sx.inK .i64 (vSize3 + 3)) true, .eqb (decide (4096 < (vSize2 + 6))) false, .eqb (Sx.inK .i64 (vSize2 + 6)) true, .call 28 [(.ag [(.i .i8 x.k), (.i .i64 x.n), (.s (nats x.s)), (.s (nats x.t)), (.es 57 (.r (rowsT x.l)))])] (.tu [(.i .i64 vSize2), (.i .i64 vSize3)]), .eqb (freeL []) true, .eqb (TV.free (.ag [(.i .i8 x.k), (.i .i64 x.n), (.s (nats x.s)), (.s (nats x.t)), (.es 57 (.r (rowsT x.l)))])) true, .call 26 [(.ag [(.i .i8 x.k), (.i .i64 x.n), (.s (nats x.s)), (.s (nats x.t)), (.es 57 (.r (rowsT x.l)))])] (.b false), .eqb (freeL []) true, .eqb (TV.free (.ag [(.i .i8 x.k), (.i .i64 x.n), (.s (nats x.s)), (.s (nats x.t)), (.es 57 (.r (rowsT x.l)))])) true]) := by kernel_rfl
theorem aw (x : Tr) (vGreat0 : Bool) (vwakes1 : Bool) (vSize2 : Int) (vSize3 : Int) (vExpr4 : Bool) (vExpr5 : Bool) (vExpr6 : Bool) (vExpr7 : Bool) (vClause8 : Bool) (vPattern9 : Bool) (vPattern10 : Bool) (vGuarded11 : Bool) (vGuarded12 : Bool) (c0 : Pu 26 [(.ag [(.i .i8 x.k), (.i .i64 x.n), (.s (nats x.s)), (.s (nats x.t)), (.es 57 (.r (rowsT x.l)))])] (.b (vGreat0))) (c1 : vGreat0 = true → Pu 27 [] (.b (vwakes1))) (c2 : vGreat0 = false → Pu 28 [(.ag [(.i .i8 x.k), (.i .i64 x.n), (.s (nats x.s)), (.s (nats x.t)), (.es 57 (.r (rowsT x.l)))])] (.tu [(.i .i64 vSize2), (.i .i64 vSize3)])) (s3 : vGreat0 = false → (Sx.inK .i64 (vSize2 + 6)) = true) (c4 : vGreat0 = false → (decide (4096 < (vSize2 + 6))) = true → Pu 27 [] (.b (vwakes1))) (s5 : vGreat0 = false → (decide (4096 < (vSize2 + 6))) = false → (Sx.inK .i64 (vSize3 + 3)) = true) (c6 : vGreat0 = false → (decide (4096 < (vSize2 + 6))) = false → (decide (64 < (vSize3 + 3))) = true → Pu 27 [] (.b (vwakes1))) (c7 : vGreat0 = false → (decide (4096 < (vSize2 + 6))) = false → (decide (64 < (vSize3 + 3))) = false → Pu 31 [(.ag [(.i .i8 x.k), (.i .i64 x.n), (.s (nats x.s)), (.s (nats x.t)), (.es 57 (.r (rowsT x.l)))])] (.b (vExpr4))) (c8 : vGreat0 = false → (decide (4096 < (vSize2 + 6))) = false → (decide (64 < (vSize3 + 3))) = false → Pu 31 [(.ag [(.i .i8 10), (.i .i64 0), (.s []), (.s []), (.es 57 (.r [[.i x.k, .i x.n, .s (nats x.s), .s (nats x.t), (.r (rowsT x.l))], [.i 8, .i 0, .s ([] : List Nat), .s ([] : List Nat), (.r [])]]))])] (.b (vExpr5))) (c9 : vGreat0 = false → (decide (4096 < (vSize2 + 6))) = false → (decide (64 < (vSize3 + 3))) = false → (decide (vExpr5 = vExpr4)) = true → Pu 31 [(.ag [(.i .i8 9), (.i .i64 0), (.s []), (.s []), (.es 57 (.r [[.i x.k, .i x.n, .s (nats x.s), .s (nats x.t), (.r (rowsT x.l))], [.i 8, .i 0, .s ([] : List Nat), .s ([] : List Nat), (.r [])]]))])] (.b (vExpr6))) (c10 : vGreat0 = false → (decide (4096 < (vSize2 + 6))) = false → (decide (64 < (vSize3 + 3))) = false → (decide (vExpr5 = vExpr4)) = true → (decide (vExpr6 = vExpr4)) = true → Pu 31 [(.ag [(.i .i8 18), (.i .i64 0), (.s []), (.s []), (.es 57 (.r [[.i 8, .i 0, .s ([] : List Nat), .s ([] : List Nat), (.r [])], [.i 3, .i 1, .s ([] : List Nat), .s ([] : List Nat), (.r [[.i 8, .i 0, .s ([] : List Nat), .s ([] : List Nat), (.r [])], [.i 4, .i 0, .s ([] : List Nat), .s ([] : List Nat), (.r [])], [.i x.k, .i x.n, .s (nats x.s), .s (nats x.t), (.r (rowsT x.l))]])]]))])] (.b (vExpr7))) (c11 : vGreat0 = false → (decide (4096 < (vSize2 + 6))) = false → (decide (64 < (vSize3 + 3))) = false → (decide (vExpr5 = vExpr4)) = true → (decide (vExpr6 = vExpr4)) = true → (decide (vExpr7 = vExpr4)) = true → Pu 36 [(.ag [(.i .i8 3), (.i .i64 1), (.s []), (.s []), (.es 57 (.r [[.i 8, .i 0, .s ([] : List Nat), .s ([] : List Nat), (.r [])], [.i 4, .i 0, .s ([] : List Nat), .s ([] : List Nat), (.r [])], [.i x.k, .i x.n, .s (nats x.s), .s (nats x.t), (.r (rowsT x.l))]]))]), (.i .i64 1)] (.b (vClause8))) (c12 : vGreat0 = false → (decide (4096 < (vSize2 + 6))) = false → (decide (64 < (vSize3 + 3))) = false → (decide (vExpr5 = vExpr4)) = true → (decide (vExpr6 = vExpr4)) = true → (decide (vExpr7 = vExpr4)) = true → (decide (vClause8 = vExpr4)) = true → Pu 30 [(.ag [(.i .i8 10), (.i .i64 0), (.s []), (.s []), (.es 57 (.r [[.i x.k, .i x.n, .s (nats x.s), .s (nats x.t), (.r (rowsT x.l))], [.i 8, .i 0, .s ([] : List Nat), .s ([] : List Nat), (.r [])]]))])] (.b (vPattern9))) (c13 : vGreat0 = false → (decide (4096 < (vSize2 + 6))) = false → (decide (64 < (vSize3 + 3))) = false → (decide (vExpr5 = vExpr4)) = true → (decide (vExpr6 = vExpr4)) = true → (decide (vExpr7 = vExpr4)) = true → (decide (vClause8 = vExpr4)) = true → Pu 30 [(.ag [(.i .i8 x.k), (.i .i64 x.n), (.s (nats x.s)), (.s (nats x.t)), (.es 57 (.r (rowsT x.l)))])] (.b (vPattern10))) (c14 : vGreat0 = false → (decide (4096 < (vSize2 + 6))) = false → (decide (64 < (vSize3 + 3))) = false → (decide (vExpr5 = vExpr4)) = true → (decide (vExpr6 = vExpr4)) = true → (decide (vExpr7 = vExpr4)) = true → (decide (vClause8 = vExpr4)) = true → (decide (vPattern9 = vPattern10)) = true → Pu 32 [(.ag [(.i .i8 9), (.i .i64 0), (.s []), (.s []), (.es 57 (.r [[.i x.k, .i x.n, .s (nats x.s), .s (nats x.t), (.r (rowsT x.l))], [.i 8, .i 0, .s ([] : List Nat), .s ([] : List Nat), (.r [])]]))])] (.b (vGuarded11))) (c15 : vGreat0 = false → (decide (4096 < (vSize2 + 6))) = false → (decide (64 < (vSize3 + 3))) = false → (decide (vExpr5 = vExpr4)) = true → (decide (vExpr6 = vExpr4)) = true → (decide (vExpr7 = vExpr4)) = true → (decide (vClause8 = vExpr4)) = true → (decide (vPattern9 = vPattern10)) = true → Pu 32 [(.ag [(.i .i8 x.k), (.i .i64 x.n), (.s (nats x.s)), (.s (nats x.t)), (.es 57 (.r (rowsT x.l)))])] (.b (vGuarded12))) (c16 : vGreat0 = false → (decide (4096 < (vSize2 + 6))) = false → (decide (64 < (vSize3 + 3))) = false → (decide (vExpr5 = vExpr4)) = true → (decide (vExpr6 = vExpr4)) = true → (decide (vExpr7 = vExpr4)) = true → (decide (vClause8 = vExpr4)) = true → (decide (vPattern9 = vPattern10)) = true → (decide (vGuarded11 = vGuarded12)) = true → Pu 27 [] (.b (vwakes1))) : Pu 8 [(.ag [(.i .i8 x.k), (.i .i64 x.n), (.s (nats x.s)), (.s (nats x.t)), (.es 57 (.r (rowsT x.l)))])] (.b (bif vGreat0 then vwakes1 else (bif decide (4096 < (vSize2 + 6)) then vwakes1 else (bif decide (64 < (vSize3 + 3)) then vwakes1 else (bif decide (vExpr5 = vExpr4) then (bif decide (vExpr6 = vExpr4) then (bif decide (vExpr7 = vExpr4) then (bif decide (vClause8 = vExpr4) then (bif decide (vPattern9 = vPattern10) then (bif decide (vGuarded11 = vGuarded12) then vwakes1 else false) else false) else false) else false) else false) else false))))) := by
  cases vGreat0
  case false =>
    cases h1 : (decide (4096 < (vSize2 + 6)))
    case false =>
      cases h2 : (decide (64 < (vSize3 + 3)))
      case false =>
        cases h3 : (decide (vExpr5 = vExpr4))
        case false =>
          exact pu_of Tryz.func8 irc8 (aw_9 x vSize2 vSize3 vExpr4 vExpr5) rfl ⟨h3, (c8 rfl h1 h2), rfl, rfl, (c7 rfl h1 h2), rfl, rfl, h2, (s5 rfl h1), h1, (s3 rfl), (c2 rfl), rfl, rfl, (c0), rfl, rfl, trivial⟩
        case true =>
          cases h4 : (decide (vExpr6 = vExpr4))
          case false =>
            exact pu_of Tryz.func8 irc8 (aw_8 x vSize2 vSize3 vExpr4 vExpr5 vExpr6) rfl ⟨h4, (c9 rfl h1 h2 h3), rfl, rfl, h3, (c8 rfl h1 h2), rfl, rfl, (c7 rfl h1 h2), rfl, rfl, h2, (s5 rfl h1), h1, (s3 rfl), (c2 rfl), rfl, rfl, (c0), rfl, rfl, trivial⟩
          case true =>
            cases h5 : (decide (vExpr7 = vExpr4))
            case false =>
              exact pu_of Tryz.func8 irc8 (aw_7 x vSize2 vSize3 vExpr4 vExpr5 vExpr6 vExpr7) rfl ⟨h5, (c10 rfl h1 h2 h3 h4), rfl, rfl, h4, (c9 rfl h1 h2 h3), rfl, rfl, h3, (c8 rfl h1 h2), rfl, rfl, (c7 rfl h1 h2), rfl, rfl, h2, (s5 rfl h1), h1, (s3 rfl), (c2 rfl), rfl, rfl, (c0), rfl, rfl, trivial⟩
            case true =>
              cases h6 : (decide (vClause8 = vExpr4))
              case false =>
                exact pu_of Tryz.func8 irc8 (aw_6 x vSize2 vSize3 vExpr4 vExpr5 vExpr6 vExpr7 vClause8) rfl ⟨h6, (c11 rfl h1 h2 h3 h4 h5), rfl, rfl, rfl, h5, (c10 rfl h1 h2 h3 h4), rfl, rfl, h4, (c9 rfl h1 h2 h3), rfl, rfl, h3, (c8 rfl h1 h2), rfl, rfl, (c7 rfl h1 h2), rfl, rfl, h2, (s5 rfl h1), h1, (s3 rfl), (c2 rfl), rfl, rfl, (c0), rfl, rfl, trivial⟩
              case true =>
                cases h7 : (decide (vPattern9 = vPattern10))
                case false =>
                  exact pu_of Tryz.func8 irc8 (aw_5 x vSize2 vSize3 vExpr4 vExpr5 vExpr6 vExpr7 vClause8 vPattern9 vPattern10) rfl ⟨h7, (c13 rfl h1 h2 h3 h4 h5 h6), rfl, rfl, (c12 rfl h1 h2 h3 h4 h5 h6), rfl, rfl, h6, (c11 rfl h1 h2 h3 h4 h5), rfl, rfl, rfl, h5, (c10 rfl h1 h2 h3 h4), rfl, rfl, h4, (c9 rfl h1 h2 h3), rfl, rfl, h3, (c8 rfl h1 h2), rfl, rfl, (c7 rfl h1 h2), rfl, rfl, h2, (s5 rfl h1), h1, (s3 rfl), (c2 rfl), rfl, rfl, (c0), rfl, rfl, trivial⟩
                case true =>
                  cases h8 : (decide (vGuarded11 = vGuarded12))
                  case false =>
                    exact pu_of Tryz.func8 irc8 (aw_4 x vSize2 vSize3 vExpr4 vExpr5 vExpr6 vExpr7 vClause8 vPattern9 vPattern10 vGuarded11 vGuarded12) rfl ⟨h8, (c15 rfl h1 h2 h3 h4 h5 h6 h7), rfl, rfl, (c14 rfl h1 h2 h3 h4 h5 h6 h7), rfl, rfl, h7, (c13 rfl h1 h2 h3 h4 h5 h6), rfl, rfl, (c12 rfl h1 h2 h3 h4 h5 h6), rfl, rfl, h6, (c11 rfl h1 h2 h3 h4 h5), rfl, rfl, rfl, h5, (c10 rfl h1 h2 h3 h4), rfl, rfl, h4, (c9 rfl h1 h2 h3), rfl, rfl, h3, (c8 rfl h1 h2), rfl, rfl, (c7 rfl h1 h2), rfl, rfl, h2, (s5 rfl h1), h1, (s3 rfl), (c2 rfl), rfl, rfl, (c0), rfl, rfl, trivial⟩
                  case true =>
                    exact pu_of Tryz.func8 irc8 (aw_3 x vSize2 vSize3 vExpr4 vExpr5 vExpr6 vExpr7 vClause8 vPattern9 vPattern10 vGuarded11 vGuarded12 vwakes1) rfl ⟨(c16 rfl h1 h2 h3 h4 h5 h6 h7 h8), rfl, h8, (c15 rfl h1 h2 h3 h4 h5 h6 h7), rfl, rfl, (c14 rfl h1 h2 h3 h4 h5 h6 h7), rfl, rfl, h7, (c13 rfl h1 h2 h3 h4 h5 h6), rfl, rfl, (c12 rfl h1 h2 h3 h4 h5 h6), rfl, rfl, h6, (c11 rfl h1 h2 h3 h4 h5), rfl, rfl, rfl, h5, (c10 rfl h1 h2 h3 h4), rfl, rfl, h4, (c9 rfl h1 h2 h3), rfl, rfl, h3, (c8 rfl h1 h2), rfl, rfl, (c7 rfl h1 h2), rfl, rfl, h2, (s5 rfl h1), h1, (s3 rfl), (c2 rfl), rfl, rfl, (c0), rfl, rfl, trivial⟩
      case true =>
        exact pu_of Tryz.func8 irc8 (aw_2 x vSize2 vSize3 vwakes1) rfl ⟨(c6 rfl h1 h2), rfl, h2, (s5 rfl h1), h1, (s3 rfl), (c2 rfl), rfl, rfl, (c0), rfl, rfl, trivial⟩
    case true =>
      exact pu_of Tryz.func8 irc8 (aw_1 x vSize2 vSize3 vwakes1) rfl ⟨(c4 rfl h1), rfl, h1, (s3 rfl), (c2 rfl), rfl, rfl, (c0), rfl, rfl, trivial⟩
  case true =>
    exact pu_of Tryz.func8 irc8 (aw_0 x vwakes1) rfl ⟨(c1 rfl), rfl, (c0), rfl, rfl, trivial⟩
theorem Size_pu (x : Tr) (hx : TrOk x) : Pu 28 [agV x] (.tu [.i .i64 (x.sz 4097), .i .i64 (x.dp 65)]) := size0 x _ _ (measure_pu hx)
def nilT : Tr := .mk 8 0 ⟨#[]⟩ ⟨#[]⟩ []
def grdT : Tr := .mk 4 0 ⟨#[]⟩ ⟨#[]⟩ []
def tupT (x : Tr) : Tr := .mk 10 0 ⟨#[]⟩ ⟨#[]⟩ [x, nilT]
def lstT (x : Tr) : Tr := .mk 9 0 ⟨#[]⟩ ⟨#[]⟩ [x, nilT]
def oneT (x : Tr) : Tr := .mk 3 1 ⟨#[]⟩ ⟨#[]⟩ [nilT, grdT, x]
def kasT (x : Tr) : Tr := .mk 18 0 ⟨#[]⟩ ⟨#[]⟩ [nilT, oneT x]
theorem nats0 : nats ⟨#[]⟩ = [] := rfl
theorem nil_row : rowT nilT = [.i 8, .i 0, .s [], .s [], .r []] := rfl
theorem grd_row : rowT grdT = [.i 4, .i 0, .s [], .s [], .r []] := rfl
theorem one_row (x : Tr) : rowT (oneT x) = [.i 3, .i 1, .s [], .s [], .r [rowT nilT, rowT grdT, rowV x]] := by
  rw [← row_eq x]; rfl
theorem tup_ag (x : Tr) : agV (tupT x) = .ag [.i .i8 10, .i .i64 0, .s [], .s [], .es 57 (.r [rowV x, rowT nilT])] := by rw [← row_eq x]; rfl
theorem lst_ag (x : Tr) : agV (lstT x) = .ag [.i .i8 9, .i .i64 0, .s [], .s [], .es 57 (.r [rowV x, rowT nilT])] := by rw [← row_eq x]; rfl
theorem one_ag (x : Tr) : agV (oneT x) = .ag [.i .i8 3, .i .i64 1, .s [], .s [], .es 57 (.r [rowT nilT, rowT grdT, rowV x])] := by rw [← row_eq x]; rfl
theorem kas_ag (x : Tr) : agV (kasT x) = .ag [.i .i8 18, .i .i64 0, .s [], .s [], .es 57 (.r [rowT nilT, [.i 3, .i 1, .s [], .s [], .r [rowT nilT, rowT grdT, rowV x]]])] := by rw [← one_row x]; rfl
theorem ok_own (k n : Int) (l : List Tr) (hk : -128 ≤ k ∧ k ≤ 127) (hn : 0 ≤ n ∧ n ≤ 127) (hl : l.length ≤ 9) (h : ∀ y, y ∈ l → TrOk y) : TrOk (.mk k n ⟨#[]⟩ ⟨#[]⟩ l) := by
  refine .mk _ ⟨?_, ?_, by show 0 ≤ _; exact Nat.zero_le _, by show 0 ≤ _; exact Nat.zero_le _⟩ (by show l.length ≤ BL; unfold BL; omega) h
  · show (Lit.int .i8 k).wf = true
    simp [Lit.wf, IntKind.min, IntKind.max, IntKind.signed, IntKind.bits]; omega
  · show (Lit.int .i64 n).wf = true
    simp [Lit.wf, IntKind.min, IntKind.max, IntKind.signed, IntKind.bits]; omega
theorem nil_ok : TrOk nilT := ok_own _ _ _ (by omega) (by omega) (by simp) (by simp)
theorem grd_ok : TrOk grdT := ok_own _ _ _ (by omega) (by omega) (by simp) (by simp)
theorem tup_ok {x : Tr} (hx : TrOk x) : TrOk (tupT x) := ok_own _ _ _ (by omega) (by omega) (by simp) (by simp [nil_ok, hx])
theorem lst_ok {x : Tr} (hx : TrOk x) : TrOk (lstT x) := ok_own _ _ _ (by omega) (by omega) (by simp) (by simp [nil_ok, hx])
theorem one_ok {x : Tr} (hx : TrOk x) : TrOk (oneT x) := ok_own _ _ _ (by omega) (by omega) (by simp) (by simp [nil_ok, grd_ok, hx])
theorem kas_ok {x : Tr} (hx : TrOk x) : TrOk (kasT x) := ok_own _ _ _ (by omega) (by omega) (by simp) (by simp [nil_ok, one_ok hx])
theorem nn_nil : nn nilT = 1 ∧ hh nilT = 1 := ⟨rfl, rfl⟩
theorem nn_grd : nn grdT = 1 ∧ hh grdT = 1 := ⟨rfl, rfl⟩
theorem nn_tup (x : Tr) : nn (tupT x) = nn x + 2 ∧ hh (tupT x) = hh x + 1 := by
  have := nn_pos x
  simp only [tupT, nn, nnl, hh, hhl, nilT]
  omega
theorem nn_lst (x : Tr) : nn (lstT x) = nn x + 2 ∧ hh (lstT x) = hh x + 1 := by
  have := nn_pos x
  simp only [lstT, nn, nnl, hh, hhl, nilT]
  omega
theorem nn_one (x : Tr) : nn (oneT x) = nn x + 3 ∧ hh (oneT x) = hh x + 1 := by
  have := nn_pos x
  simp only [oneT, nn, nnl, hh, hhl, nilT, grdT]
  omega
theorem nn_kas (x : Tr) : nn (kasT x) = nn x + 5 ∧ hh (kasT x) = hh x + 2 := by
  have := nn_pos x
  simp only [kasT, oneT, nn, nnl, hh, hhl, nilT, grdT]
  omega
theorem pat_nil : pat nilT = true := rfl
theorem gdd_nil : gdd nilT = true := rfl
theorem ex_nil : ex nilT = true := pat_ex _ pat_nil
theorem gd_grd : gd grdT = true := rfl
theorem ex_tup (x : Tr) : ex (tupT x) = ex x := by
  rw [ex_eq]
  show patK 10 (tupT x) ([ex x, ex nilT].all id) = _
  rw [ex_nil]
  simp [patK, tupT, Tr.n, Tr.s, Tr.t, nats0]
theorem ex_lst (x : Tr) : ex (lstT x) = ex x := by
  rw [ex_eq]
  show patK 9 (lstT x) ([ex x, ex nilT].all id) = _
  rw [ex_nil]
  simp [patK, lstT, Tr.n, Tr.s, Tr.t, Tr.l, nats0]
theorem pat_tup (x : Tr) : pat (tupT x) = pat x := by
  rw [B3.pat_eq]
  show patK 10 (tupT x) ([x, nilT].all pat) = _
  simp [patK, tupT, Tr.n, Tr.s, Tr.t, nats0, pat_nil]
theorem gdd_lst (x : Tr) : gdd (lstT x) = gdd x := by
  rw [gdd_eq]
  show patK 9 (lstT x) ([x, nilT].all gdd) = _
  simp [patK, lstT, Tr.n, Tr.s, Tr.t, Tr.l, nats0, gdd_nil]
theorem cl_one (x : Tr) : cl 1 (oneT x) = ex x := by
  rw [cl_eq]
  have e1 : sub ((oneT x).l.map pat) 0 (1 - 0) = [pat nilT] := rfl
  have e2 : ((oneT x).l.map gd).getD (Int.toNat 1) false = gd grdT := rfl
  have e3 : sub ((oneT x).l.map ex) (1 + 1) (len (oneT x) - (1 + 1)) = [ex x] := rfl
  unfold clV
  rw [e1, e2, e3, pat_nil, gd_grd]
  simp [oneT, Tr.k, Tr.n, Tr.s, Tr.t, nats0, len, Tr.l]
theorem ex_kas (x : Tr) : ex (kasT x) = ex x := by
  rw [ex_eq]
  have e1 : ((kasT x).l.map ex).getD 0 false = ex nilT := rfl
  have e2 : sub ((kasT x).l.map (cl 1)) 1 (len (kasT x) - 1) = [cl 1 (oneT x)] := rfl
  show exV 18 _ _ _ _ = _
  unfold exV
  simp only [e1, e2, ex_nil, cl_one]
  simp [kasT, Tr.n, Tr.s, Tr.t, nats0, len, Tr.l]
theorem room {x : Tr} (h1 : decide (4096 < x.sz 4097 + 6) = false) (h2 : decide (64 < x.dp 65 + 3) = false) : nn x ≤ 4090 ∧ hh x ≤ 61 := by
  rw [sz_nn x 4097 (by omega)] at h1
  rw [dp_hh x 65 (by omega)] at h2
  simp only [decide_eq_false_iff_not] at h1 h2
  omega
theorem fits_of {x : Tr} (h : nn x ≤ 4096) (h' : hh x ≤ 64) : fitsB x = true := (fits_iff x).2 ⟨h, h'⟩
theorem inK_small {n : Int} (h : -1000 ≤ n) (h' : n ≤ 100000) : Sx.inK .i64 n = true := by
  unfold Sx.inK IntKind.min IntKind.max
  simp [IntKind.signed, IntKind.bits]
  omega
theorem wraps_pu (x : Tr) (hx : TrOk x) : Pu 8 [agV x] (.b true) := by
  have hb := sz_bound x 4097 (by omega)
  have hd := dp_bound x 65 (by omega)
  have q : ∃ b, Pu 8 [agV x] (.b b) ∧ b = true := by
    apply Exists.intro
    apply And.intro
    · apply aw x (decide (8192 ≤ x.sz 8192)) true (x.sz 4097) (x.dp 65) (fitsB x && ex x) (fitsB (tupT x) && ex (tupT x)) (fitsB (lstT x) && ex (lstT x)) (fitsB (kasT x) && ex (kasT x)) (fitsB (oneT x) && (decide ((0 : Int) ≤ 1) && cl 1 (oneT x))) (fitsB (tupT x) && pat (tupT x)) (fitsB x && pat x) (fitsB (lstT x) && gdd (lstT x)) (fitsB x && gdd x)
      all_goals intros
      all_goals first
        | exact C1.great_pu x hx
        | exact C1.wakes_pu
        | exact Size_pu x hx
        | exact Expr_pu x hx
        | exact Pattern_pu x hx
        | exact Guarded_pu x hx
        | exact tup_ag x ▸ Expr_pu _ (tup_ok hx)
        | exact lst_ag x ▸ Expr_pu _ (lst_ok hx)
        | exact kas_ag x ▸ Expr_pu _ (kas_ok hx)
        | exact one_ag x ▸ Clause_pu _ 1 (one_ok hx)
        | exact tup_ag x ▸ Pattern_pu _ (tup_ok hx)
        | exact lst_ag x ▸ Guarded_pu _ (lst_ok hx)
        | (apply inK_small <;> omega)
    · rw [ex_tup, ex_lst, ex_kas, cl_one, pat_tup, gdd_lst]
      cases h1 : decide (4096 < x.sz 4097 + 6) with
      | true => cases decide (8192 ≤ x.sz 8192) <;> rfl
      | false =>
        cases h2 : decide (64 < x.dp 65 + 3) with
        | true => cases decide (8192 ≤ x.sz 8192) <;> rfl
        | false =>
          obtain ⟨r1, r2⟩ := room h1 h2
          have t := nn_tup x
          have l := nn_lst x
          have o := nn_one x
          have k := nn_kas x
          rw [fits_of (x := x) (by omega) (by omega), fits_of (x := tupT x) (by omega) (by omega), fits_of (x := lstT x) (by omega) (by omega), fits_of (x := oneT x) (by omega) (by omega), fits_of (x := kasT x) (by omega) (by omega)]
          simp
  obtain ⟨b, q, rfl⟩ := q
  exact q
end Go.Proofs.YtdjafnjmkkagjaaGreatDoor.Oa.C2

