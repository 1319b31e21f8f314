/-
  AstSize, over data. No condition but that the tree be in range.
-/
import Derived.Test.YtdjafnjmkkagjaaGreatDoorOv1
namespace Go.Proofs.YtdjafnjmkkagjaaGreatDoor.Oa.C3
open Go.RowKit Sx P1 V1
set_option maxRecDepth 100000
set_option linter.unusedSimpArgs false
set_option linter.unusedVariables false
/-- The entries of a map that holds some rows' texts. -/
def ents : List (List Dat) → Nat → List (TV × TV × Nat)
  | [], _ => []
  | r :: q, n => (.s (Dat.str (List.getD r 0 .o)), .b true, n) :: ents q (n + 1)
abbrev mp0 (R : List (List Dat)) (n : Nat) : List (TV × TV × Nat) := ents (R.take n) 0
def lp6_0 : IC := (.seq (.reg [⟨some 44, none, .bop .lss (.t 43) (.t 42)⟩])
  (.seq (.cond (.t 44) .skip
  (.exit 0))
  (.seq (.blk 1 (.seq (.reg [⟨some 45, none, .ia 1 (.t 41) (.t 43)⟩,
  ⟨some 46, none, .ld false 1 (.t 45)⟩,
  ⟨some 10, none, .mv (.t 46)⟩])
  (.seq (.seq (.reg [⟨some 47, none, .mv (.t 10)⟩,
  ⟨some 48, none, .bop .eql (.t 47) (.c (.s [95]))⟩,
  ⟨some 49, none, .mv (.t 48)⟩,
  ⟨some 50, some (49, false), .mv (.t 8)⟩,
  ⟨some 51, some (49, false), .mv (.t 10)⟩,
  ⟨some 52, some (49, false), .lk true false (.b false) (.t 50) (.t 51)⟩,
  ⟨some 53, none, .pick (.t 49) (.c (.b true)) (.t 52)⟩])
  (.cond (.t 53) (.seq (.reg [⟨some 2, none, .mv (.c (.b false))⟩])
  .ret)
  .skip))
  (.reg [⟨some 54, none, .mv (.t 8)⟩,
  ⟨some 55, none, .mv (.t 10)⟩,
  ⟨none, none, .ins true (.t 54) (.t 55) (.c (.b true))⟩]))))
  (.reg [⟨some 56, none, .bop .add (.t 43) (.c (.i .i64 1))⟩,
  ⟨some 43, none, .mv (.t 56)⟩]))))
def lp6_2 : IC := (.seq (.reg [⟨some 80, none, .bop .lss (.t 79) (.t 78)⟩])
  (.seq (.cond (.t 80) .skip
  (.exit 4))
  (.seq (.blk 5 (.seq (.reg [⟨some 81, none, .ia 1 (.t 77) (.t 79)⟩,
  ⟨some 82, none, .ld false 1 (.t 81)⟩,
  ⟨some 16, none, .mv (.t 82)⟩])
  (.seq (.reg [⟨some 83, none, .mv (.t 8)⟩,
  ⟨some 84, none, .mv (.t 16)⟩,
  ⟨some 85, none, .lk true false (.b false) (.t 83) (.t 84)⟩,
  ⟨some 86, none, .un .not (.t 85)⟩])
  (.cond (.t 86) (.seq (.reg [⟨some 2, none, .mv (.c (.b false))⟩])
  .ret)
  .skip))))
  (.reg [⟨some 87, none, .bop .add (.t 79) (.c (.i .i64 1))⟩,
  ⟨some 79, none, .mv (.t 87)⟩]))))
def lp6_1 : IC := (.seq (.reg [⟨some 61, none, .bop .lss (.t 60) (.t 59)⟩])
  (.seq (.cond (.t 61) .skip
  (.exit 2))
  (.seq (.blk 3 (.seq (.reg [⟨some 62, none, .ia 5 (.t 58) (.t 60)⟩,
  ⟨some 63, none, .ld true 5 (.t 62)⟩,
  ⟨some 12, none, .box 57 5 (.c (.ag [(.i .i8 0), (.i .i64 0), (.s []), (.s []), .sln]))⟩,
  ⟨none, none, .st 5 (.t 12) (.t 63)⟩])
  (.seq (.reg [⟨some 65, none, .ld true 5 (.t 12)⟩,
  ⟨some 66, none, .call 28 [(.t 65)]⟩,
  ⟨some 64, none, .mv (.t 66)⟩,
  ⟨some 67, none, .ex (.t 64) 0⟩,
  ⟨some 68, none, .ex (.t 64) 1⟩,
  ⟨some 13, none, .mv (.t 67)⟩,
  ⟨some 14, none, .mv (.t 68)⟩])
  (.seq (.reg [⟨some 69, none, .mv (.t 5)⟩,
  ⟨some 70, none, .mv (.t 13)⟩,
  ⟨some 71, none, .bop .add (.t 69) (.t 70)⟩,
  ⟨some 5, none, .mv (.t 71)⟩])
  (.seq (.reg [⟨some 72, none, .mv (.t 6)⟩,
  ⟨some 73, none, .mv (.t 14)⟩,
  ⟨some 74, none, .bop .add (.t 73) (.c (.i .i64 1))⟩,
  ⟨some 75, none, .mm true (.t 72) (.t 74)⟩,
  ⟨some 6, none, .mv (.t 75)⟩])
  (.seq (.reg [⟨some 76, none, .ld true 5 (.t 12)⟩,
  ⟨some 77, none, .call 29 [(.t 76)]⟩,
  ⟨some 78, none, .len 1 (.t 77)⟩,
  ⟨some 79, none, .mv (.c (.i .i64 0))⟩])
  (.blk 4 (.loop lp6_2))))))))
  (.reg [⟨some 88, none, .bop .add (.t 60) (.c (.i .i64 1))⟩,
  ⟨some 60, none, .mv (.t 88)⟩]))))
def ir6 : XF := ⟨100, 1, [(2, none)], (.seq (.reg [⟨some 1, none, .box 57 5 (.t 0)⟩,
  ⟨some 2, none, .mv (.c (.b false))⟩])
  (.seq (.seq (.reg [⟨some 17, none, .ld true 5 (.t 1)⟩,
  ⟨some 18, none, .call 26 [(.t 17)]⟩])
  (.cond (.t 18) (.seq (.reg [⟨some 19, none, .call 27 []⟩,
  ⟨some 2, none, .mv (.t 19)⟩])
  .ret)
  .skip))
  (.seq (.reg [⟨some 21, none, .ld true 5 (.t 1)⟩,
  ⟨some 22, none, .call 28 [(.t 21)]⟩,
  ⟨some 20, none, .mv (.t 22)⟩,
  ⟨some 23, none, .ex (.t 20) 0⟩,
  ⟨some 24, none, .ex (.t 20) 1⟩,
  ⟨some 3, none, .mv (.t 23)⟩,
  ⟨some 4, none, .mv (.t 24)⟩])
  (.seq (.seq (.reg [⟨some 25, none, .mv (.t 3)⟩,
  ⟨some 26, none, .bop .gtr (.t 25) (.c (.i .i64 4096))⟩,
  ⟨some 27, none, .mv (.t 26)⟩,
  ⟨some 28, some (27, false), .mv (.t 4)⟩,
  ⟨some 29, some (27, false), .bop .gtr (.t 28) (.c (.i .i64 64))⟩,
  ⟨some 30, none, .pick (.t 27) (.c (.b true)) (.t 29)⟩])
  (.cond (.t 30) (.seq (.reg [⟨some 31, none, .ld true 5 (.t 1)⟩,
  ⟨some 32, none, .call 29 [(.t 31)]⟩,
  ⟨some 33, none, .len 1 (.t 32)⟩,
  ⟨some 34, none, .bop .eql (.t 33) (.c (.i .i64 0))⟩,
  ⟨some 35, none, .mv (.t 34)⟩,
  ⟨some 36, some (35, true), .call 27 []⟩,
  ⟨some 37, none, .pick (.t 35) (.t 36) (.c (.b false))⟩,
  ⟨some 2, none, .mv (.t 37)⟩])
  .ret)
  .skip))
  (.seq (.reg [⟨some 5, none, .mv (.c (.i .i64 1))⟩,
  ⟨some 6, none, .mv (.c (.i .i64 1))⟩])
  (.seq (.reg [⟨some 38, none, .ld true 5 (.t 1)⟩,
  ⟨some 39, none, .call 29 [(.t 38)]⟩,
  ⟨some 7, none, .mv (.t 39)⟩])
  (.seq (.reg [⟨some 40, none, .mkm⟩,
  ⟨some 8, none, .mv (.t 40)⟩])
  (.seq (.seq (.reg [⟨some 41, none, .mv (.t 7)⟩,
  ⟨some 42, none, .len 1 (.t 41)⟩,
  ⟨some 43, none, .mv (.c (.i .i64 0))⟩])
  (.blk 0 (.loop lp6_0)))
  (.seq (.seq (.reg [⟨some 57, none, .fa 4 (.t 1)⟩,
  ⟨some 58, none, .ld false 1 (.t 57)⟩,
  ⟨some 59, none, .len 1 (.t 58)⟩,
  ⟨some 60, none, .mv (.c (.i .i64 0))⟩])
  (.blk 2 (.loop lp6_1)))
  (.seq (.reg [⟨some 89, none, .mv (.t 5)⟩,
  ⟨some 90, none, .mv (.t 3)⟩,
  ⟨some 91, none, .bop .eql (.t 89) (.t 90)⟩,
  ⟨some 92, none, .mv (.t 91)⟩,
  ⟨some 93, some (92, true), .mv (.t 6)⟩,
  ⟨some 94, some (92, true), .mv (.t 4)⟩,
  ⟨some 95, some (92, true), .bop .eql (.t 93) (.t 94)⟩,
  ⟨some 96, none, .pick (.t 92) (.t 95) (.c (.b false))⟩,
  ⟨some 97, none, .mv (.t 96)⟩,
  ⟨some 98, some (97, true), .call 27 []⟩,
  ⟨some 99, none, .pick (.t 97) (.t 98) (.c (.b false))⟩,
  ⟨some 2, none, .mv (.t 99)⟩])
  .ret))))))))))⟩

theorem irc6 : cFunc Tryz.prog Tryz.f6 = some ir6 := by kernel_rfl
def ir28 : XF := ⟨10, 1, [(2, none), (3, none)], (.seq (.reg [⟨some 1, none, .box 57 5 (.t 0)⟩,
  ⟨some 2, none, .mv (.c (.i .i64 0))⟩,
  ⟨some 3, none, .mv (.c (.i .i64 0))⟩])
  (.seq (.reg [⟨some 5, none, .call 61 [(.t 1)]⟩,
  ⟨some 4, none, .box 101 2 (.c (.ag [(.i .i64 0), (.i .i64 0)]))⟩,
  ⟨none, none, .st 2 (.t 4) (.t 5)⟩])
  (.seq (.par [⟨some 6, none, .fa 0 (.t 4)⟩,
  ⟨some 7, none, .ld false 1 (.t 6)⟩,
  ⟨some 8, none, .fa 1 (.t 4)⟩,
  ⟨some 9, none, .ld false 1 (.t 8)⟩,
  ⟨some 2, none, .mv (.t 7)⟩,
  ⟨some 3, none, .mv (.t 9)⟩] [0, 1, 0, 4, 3, 31])
  .ret)))⟩

theorem irc28 : cFunc Tryz.prog Tryz.f28 = some ir28 := by kernel_rfl
def tabI : Trie XF := .lf
def tabL : List (Nat × XF) := []
theorem tabI_eq : tabI = ofList tabL := by kernel_rfl
theorem tabI_ok : TabOk Tryz.prog tabI := tab_of tabI_eq (by kernel_rfl) fun p hp => by
  simp only [tabL, List.mem_cons, List.not_mem_nil, or_false] at hp
abbrev cal : CallT := run mth tabI noOrc 1000 20
theorem pu_of {f : Nat} {fn : Func} {x : XF} (hfn : Tryz.prog.funcs[f]? = some fn) (hc : cFunc Tryz.prog fn = some x) {args : List TV} {pa : List PA} {v : TV} {obs : List Ob} (hx : funO 5 mth cal 1000 x args pa = some (v, obs)) (hv : v.flat = true) (ho : Owes Tryz.prog rho obs) : Pu f args v :=
  pu_of' tabI_ok hfn hc hx hv ho
theorem lp_more {x : IC} {ks : List Nat} {m : Nat} {e e2 e' : Trie TV} {t t2 t' : Trie TB} {n n' : Nat} {pa : List PA} {ex : EX} {obs : List Ob} (hx : bodyO 5 mth cal 1000 x ks m e t n pa = some (.nrm, e2, t2, obs)) (ho : Owes Tryz.prog rho obs) (hl : LoopC Tryz.prog rho x e2 t2 m ex e' t' n') : LoopC Tryz.prog rho x e t n ex e' t' n' :=
  lp_more' tabI_ok hx ho hl
theorem lp_end {x : IC} {ks : List Nat} {m : Nat} {e e2 : Trie TV} {t t2 : Trie TB} {n : Nat} {pa : List PA} {ex : EX} {obs : List Ob} (hx : bodyO 5 mth cal 1000 x ks m e t n pa = some (ex, e2, t2, obs)) (hne : ex ≠ .nrm) (ho : Owes Tryz.prog rho obs) : LoopC Tryz.prog rho x e t n ex e2 t2 m :=
  lp_end' tabI_ok hx hne ho
theorem size0_0 (x : Tr) (vmeasure0 : Int) (vmeasure1 : Int) : funO 5 mth cal 1000 ir28 [(.ag [(.i .i8 x.k), (.i .i64 x.n), (.s (nats x.s)), (.s (nats x.t)), (.es 57 (.r (rowsT x.l)))])] [.cl [.ptr 57] (.ag [(.i .i64 vmeasure0), (.i .i64 vmeasure1)])] = some ((.tu [(.i .i64 vmeasure0), (.i .i64 vmeasure1)]), [.call 61 [(.ep 57 0 [.i x.k, .i x.n, .s (nats x.s), .s (nats x.t), (.r (rowsT x.l))])] (.ag [(.i .i64 vmeasure0), (.i .i64 vmeasure1)]), .eqb (freeL []) true]) := by kernel_rfl
theorem size0 (x : Tr) (vmeasure0 : Int) (vmeasure1 : Int) (c0 : Pu 61 [(.ep 57 0 [.i x.k, .i x.n, .s (nats x.s), .s (nats x.t), (.r (rowsT x.l))])] (.ag [(.i .i64 vmeasure0), (.i .i64 vmeasure1)])) : Pu 28 [(.ag [(.i .i8 x.k), (.i .i64 x.n), (.s (nats x.s)), (.s (nats x.t)), (.es 57 (.r (rowsT x.l)))])] (.tu [(.i .i64 vmeasure0), (.i .i64 vmeasure1)]) := by
  exact pu_of Tryz.func28 irc28 (size0_0 x vmeasure0 vmeasure1) rfl ⟨(c0), rfl, trivial⟩
theorem Size_pu (x : Tr) (hx : TrOk x) : Pu 28 [agV x] (.tu [.i .i64 (x.sz 4097), .i .i64 (x.dp 65)]) := size0 x _ _ (measure_pu hx)
theorem as0_0 (x : Tr) (vwakes1 : Bool) : funO 5 mth cal 1000 ir6 [(.ag [(.i .i8 x.k), (.i .i64 x.n), (.s (nats x.s)), (.s (nats x.t)), (.es 57 (.r (rowsT x.l)))])] [.cl [.as] (.b true), .cl [] (.b (vwakes1))] = some ((.b (vwakes1)), [.call 27 [] (.b (vwakes1)), .eqb (freeL []) true, .call 26 [(.ag [(.i .i8 x.k), (.i .i64 x.n), (.s (nats x.s)), (.s (nats x.t)), (.es 57 (.r (rowsT x.l)))])] (.b true), .eqb (freeL []) true, .eqb (TV.free (.ag [(.i .i8 x.k), (.i .i64 x.n), (.s (nats x.s)), (.s (nats x.t)), (.es 57 (.r (rowsT x.l)))])) true]) := by kernel_rfl
theorem as0_1 (x : Tr) (vSize2 : Int) (vSize3 : Int) (vVars4 : List (List Dat)) (vwakes1 : Bool) : funO 5 mth cal 1000 ir6 [(.ag [(.i .i8 x.k), (.i .i64 x.n), (.s (nats x.s)), (.s (nats x.t)), (.es 57 (.r (rowsT x.l)))])] [.cl [.as] (.b false), .cl [.as] (.tu [(.i .i64 vSize2), (.i .i64 vSize3)]), .br true, .cf [.as] (.es 9 (.r vVars4)), .br true, .cl [] (.b (vwakes1))] = some ((.b (vwakes1)), [.call 27 [] (.b (vwakes1)), .eqb (freeL []) true, .eqb (decide ((List.length vVars4 : Int) = 0)) true, .call 29 [(.ag [(.i .i8 x.k), (.i .i64 x.n), (.s (nats x.s)), (.s (nats x.t)), (.es 57 (.r (rowsT x.l)))])] (.es 9 (.r vVars4)), .eqb (freeL []) true, .eqb (TV.free (.ag [(.i .i8 x.k), (.i .i64 x.n), (.s (nats x.s)), (.s (nats x.t)), (.es 57 (.r (rowsT x.l)))])) true, .eqb (decide (4096 < vSize2)) true, .call 28 [(.ag [(.i .i8 x.k), (.i .i64 x.n), (.s (nats x.s)), (.s (nats x.t)), (.es 57 (.r (rowsT x.l)))])] (.tu [(.i .i64 vSize2), (.i .i64 vSize3)]), .eqb (freeL []) true, .eqb (TV.free (.ag [(.i .i8 x.k), (.i .i64 x.n), (.s (nats x.s)), (.s (nats x.t)), (.es 57 (.r (rowsT x.l)))])) true, .call 26 [(.ag [(.i .i8 x.k), (.i .i64 x.n), (.s (nats x.s)), (.s (nats x.t)), (.es 57 (.r (rowsT x.l)))])] (.b false), .eqb (freeL []) true, .eqb (TV.free (.ag [(.i .i8 x.k), (.i .i64 x.n), (.s (nats x.s)), (.s (nats x.t)), (.es 57 (.r (rowsT x.l)))])) true]) := by kernel_rfl
theorem as0_2 (x : Tr) (vSize2 : Int) (vSize3 : Int) (vVars4 : List (List Dat)) : funO 5 mth cal 1000 ir6 [(.ag [(.i .i8 x.k), (.i .i64 x.n), (.s (nats x.s)), (.s (nats x.t)), (.es 57 (.r (rowsT x.l)))])] [.cl [.as] (.b false), .cl [.as] (.tu [(.i .i64 vSize2), (.i .i64 vSize3)]), .br true, .cf [.as] (.es 9 (.r vVars4)), .br false] = some ((.b false), [.eqb (decide ((List.length vVars4 : Int) = 0)) false, .call 29 [(.ag [(.i .i8 x.k), (.i .i64 x.n), (.s (nats x.s)), (.s (nats x.t)), (.es 57 (.r (rowsT x.l)))])] (.es 9 (.r vVars4)), .eqb (freeL []) true, .eqb (TV.free (.ag [(.i .i8 x.k), (.i .i64 x.n), (.s (nats x.s)), (.s (nats x.t)), (.es 57 (.r (rowsT x.l)))])) true, .eqb (decide (4096 < vSize2)) true, .call 28 [(.ag [(.i .i8 x.k), (.i .i64 x.n), (.s (nats x.s)), (.s (nats x.t)), (.es 57 (.r (rowsT x.l)))])] (.tu [(.i .i64 vSize2), (.i .i64 vSize3)]), .eqb (freeL []) true, .eqb (TV.free (.ag [(.i .i8 x.k), (.i .i64 x.n), (.s (nats x.s)), (.s (nats x.t)), (.es 57 (.r (rowsT x.l)))])) true, .call 26 [(.ag [(.i .i8 x.k), (.i .i64 x.n), (.s (nats x.s)), (.s (nats x.t)), (.es 57 (.r (rowsT x.l)))])] (.b false), .eqb (freeL []) true, .eqb (TV.free (.ag [(.i .i8 x.k), (.i .i64 x.n), (.s (nats x.s)), (.s (nats x.t)), (.es 57 (.r (rowsT x.l)))])) true]) := by kernel_rfl
theorem as0_3 (x : Tr) (vSize2 : Int) (vSize3 : Int) (vVars4 : List (List Dat)) (vwakes1 : Bool) : funO 5 mth cal 1000 ir6 [(.ag [(.i .i8 x.k), (.i .i64 x.n), (.s (nats x.s)), (.s (nats x.t)), (.es 57 (.r (rowsT x.l)))])] [.cl [.as] (.b false), .cl [.as] (.tu [(.i .i64 vSize2), (.i .i64 vSize3)]), .br false, .br true, .cf [.as] (.es 9 (.r vVars4)), .br true, .cl [] (.b (vwakes1))] = some ((.b (vwakes1)), [.call 27 [] (.b (vwakes1)), .eqb (freeL []) true, .eqb (decide ((List.length vVars4 : Int) = 0)) true, .call 29 [(.ag [(.i .i8 x.k), (.i .i64 x.n), (.s (nats x.s)), (.s (nats x.t)), (.es 57 (.r (rowsT x.l)))])] (.es 9 (.r vVars4)), .eqb (freeL []) true, .eqb (TV.free (.ag [(.i .i8 x.k), (.i .i64 x.n), (.s (nats x.s)), (.s (nats x.t)), (.es 57 (.r (rowsT x.l)))])) true, .eqb (decide (64 < vSize3)) true, .eqb (decide (4096 < vSize2)) false, .call 28 [(.ag [(.i .i8 x.k), (.i .i64 x.n), (.s (nats x.s)), (.s (nats x.t)), (.es 57 (.r (rowsT x.l)))])] (.tu [(.i .i64 vSize2), (.i .i64 vSize3)]), .eqb (freeL []) true, .eqb (TV.free (.ag [(.i .i8 x.k), (.i .i64 x.n), (.s (nats x.s)), (.s (nats x.t)), (.es 57 (.r (rowsT x.l)))])) true, .call 26 [(.ag [(.i .i8 x.k), (.i .i64 x.n), (.s (nats x.s)), (.s (nats x.t)), (.es 57 (.r (rowsT x.l)))])] (.b false), .eqb (freeL []) true, .eqb (TV.free (.ag [(.i .i8 x.k), (.i .i64 x.n), (.s (nats x.s)), (.s (nats x.t)), (.es 57 (.r (rowsT x.l)))])) true]) := by kernel_rfl
theorem as0_4 (x : Tr) (vSize2 : Int) (vSize3 : Int) (vVars4 : List (List Dat)) : funO 5 mth cal 1000 ir6 [(.ag [(.i .i8 x.k), (.i .i64 x.n), (.s (nats x.s)), (.s (nats x.t)), (.es 57 (.r (rowsT x.l)))])] [.cl [.as] (.b false), .cl [.as] (.tu [(.i .i64 vSize2), (.i .i64 vSize3)]), .br false, .br true, .cf [.as] (.es 9 (.r vVars4)), .br false] = some ((.b false), [.eqb (decide ((List.length vVars4 : Int) = 0)) false, .call 29 [(.ag [(.i .i8 x.k), (.i .i64 x.n), (.s (nats x.s)), (.s (nats x.t)), (.es 57 (.r (rowsT x.l)))])] (.es 9 (.r vVars4)), .eqb (freeL []) true, .eqb (TV.free (.ag [(.i .i8 x.k), (.i .i64 x.n), (.s (nats x.s)), (.s (nats x.t)), (.es 57 (.r (rowsT x.l)))])) true, .eqb (decide (64 < vSize3)) true, .eqb (decide (4096 < vSize2)) false, .call 28 [(.ag [(.i .i8 x.k), (.i .i64 x.n), (.s (nats x.s)), (.s (nats x.t)), (.es 57 (.r (rowsT x.l)))])] (.tu [(.i .i64 vSize2), (.i .i64 vSize3)]), .eqb (freeL []) true, .eqb (TV.free (.ag [(.i .i8 x.k), (.i .i64 x.n), (.s (nats x.s)), (.s (nats x.t)), (.es 57 (.r (rowsT x.l)))])) true, .call 26 [(.ag [(.i .i8 x.k), (.i .i64 x.n), (.s (nats x.s)), (.s (nats x.t)), (.es 57 (.r (rowsT x.l)))])] (.b false), .eqb (freeL []) true, .eqb (TV.free (.ag [(.i .i8 x.k), (.i .i64 x.n), (.s (nats x.s)), (.s (nats x.t)), (.es 57 (.r (rowsT x.l)))])) true]) := by kernel_rfl
theorem as0_5 (x : Tr) (vSize2 : Int) (vSize3 : Int) (vVars4 : List (List Dat)) (j0 : Int) (n1 : Int) (d1 : Int) (j1 : Int) (vwakes1 : Bool) : funO 5 mth cal 1000 ir6 [(.ag [(.i .i8 x.k), (.i .i64 x.n), (.s (nats x.s)), (.s (nats x.t)), (.es 57 (.r (rowsT x.l)))])] [.cl [.as] (.b false), .cl [.as] (.tu [(.i .i64 vSize2), (.i .i64 vSize3)]), .br false, .br false, .cf [.as] (.es 9 (.r vVars4)), .lp [2, 1, 3, 4, 5, 6, 8, 41, 42, 43] 7 (.exit 0) (mkE [(2, (.b false)), (1, (.p 5 0)), (3, (.i .i64 vSize2)), (4, (.i .i64 vSize3)), (5, (.i .i64 1)), (6, (.i .i64 1)), (8, (.m 6)), (41, (.es 9 (.r vVars4))), (42, (.i .i64 (List.length vVars4 : Int))), (43, (.i .i64 j0))]) (mkT [(5, .cells [(.i .i8 x.k), (.i .i64 x.n), (.s (nats x.s)), (.s (nats x.t)), (.es 57 (.r (rowsT x.l)))] 57 false), (6, .mp (ents vVars4 0) (List.length vVars4))]) 7, .lp [2, 1, 3, 4, 5, 6, 8, 58, 59, 60] 7 (.exit 2) (mkE [(2, (.b false)), (1, (.p 5 0)), (3, (.i .i64 vSize2)), (4, (.i .i64 vSize3)), (5, (.i .i64 n1)), (6, (.i .i64 d1)), (8, (.m 6)), (58, (.es 57 (.r (rowsT x.l)))), (59, (.i .i64 (List.length (rowsT x.l) : Int))), (60, (.i .i64 j1))]) (mkT [(5, .cells [(.i .i8 x.k), (.i .i64 x.n), (.s (nats x.s)), (.s (nats x.t)), (.es 57 (.r (rowsT x.l)))] 57 false), (6, .mp (ents vVars4 0) (List.length vVars4))]) 7, .br true, .br true, .cl [] (.b (vwakes1))] = some ((.b (vwakes1)), [.call 27 [] (.b (vwakes1)), .eqb (freeL []) true, .eqb (decide (d1 = vSize3)) true, .eqb (decide (n1 = vSize2)) true, .loop lp6_1 (mkE [(2, (.b false)), (1, (.p 5 0)), (3, (.i .i64 vSize2)), (4, (.i .i64 vSize3)), (5, (.i .i64 1)), (6, (.i .i64 1)), (8, (.m 6)), (58, (.es 57 (.r (rowsT x.l)))), (59, (.i .i64 (List.length (rowsT x.l) : Int))), (60, (.i .i64 0))]) (mkT [(5, .cells [(.i .i8 x.k), (.i .i64 x.n), (.s (nats x.s)), (.s (nats x.t)), (.es 57 (.r (rowsT x.l)))] 57 false), (6, .mp (ents vVars4 0) (List.length vVars4))]) 7 (.exit 2) (mkE [(2, (.b false)), (1, (.p 5 0)), (3, (.i .i64 vSize2)), (4, (.i .i64 vSize3)), (5, (.i .i64 n1)), (6, (.i .i64 d1)), (8, (.m 6)), (58, (.es 57 (.r (rowsT x.l)))), (59, (.i .i64 (List.length (rowsT x.l) : Int))), (60, (.i .i64 j1))]) (mkT [(5, .cells [(.i .i8 x.k), (.i .i64 x.n), (.s (nats x.s)), (.s (nats x.t)), (.es 57 (.r (rowsT x.l)))] 57 false), (6, .mp (ents vVars4 0) (List.length vVars4))]) 7, .eqb (Sx.underK 7 (mkE [(2, (.b false)), (1, (.p 5 0)), (3, (.i .i64 vSize2)), (4, (.i .i64 vSize3)), (5, (.i .i64 1)), (6, (.i .i64 1)), (8, (.m 6)), (58, (.es 57 (.r (rowsT x.l)))), (59, (.i .i64 (List.length (rowsT x.l) : Int))), (60, (.i .i64 0))]) [2, 1, 3, 4, 5, 6, 8, 58, 59, 60]) true, .eqb (Sx.underT 7 (mkT [(5, .cells [(.i .i8 x.k), (.i .i64 x.n), (.s (nats x.s)), (.s (nats x.t)), (.es 57 (.r (rowsT x.l)))] 57 false), (6, .mp (ents vVars4 0) (List.length vVars4))])) true, .loop lp6_0 (mkE [(2, (.b false)), (1, (.p 5 0)), (3, (.i .i64 vSize2)), (4, (.i .i64 vSize3)), (5, (.i .i64 1)), (6, (.i .i64 1)), (8, (.m 6)), (41, (.es 9 (.r vVars4))), (42, (.i .i64 (List.length vVars4 : Int))), (43, (.i .i64 0))]) (mkT [(5, .cells [(.i .i8 x.k), (.i .i64 x.n), (.s (nats x.s)), (.s (nats x.t)), (.es 57 (.r (rowsT x.l)))] 57 false), (6, .mp [] 0)]) 7 (.exit 0) (mkE [(2, (.b false)), (1, (.p 5 0)), (3, (.i .i64 vSize2)), (4, (.i .i64 vSize3)), (5, (.i .i64 1)), (6, (.i .i64 1)), (8, (.m 6)), (41, (.es 9 (.r vVars4))), (42, (.i .i64 (List.length vVars4 : Int))), (43, (.i .i64 j0))]) (mkT [(5, .cells [(.i .i8 x.k), (.i .i64 x.n), (.s (nats x.s)), (.s (nats x.t)), (.es 57 (.r (rowsT x.l)))] 57 false), (6, .mp (ents vVars4 0) (List.length vVars4))]) 7, .eqb (Sx.underK 7 (mkE [(2, (.b false)), (1, (.p 5 0)), (3, (.i .i64 vSize2)), (4, (.i .i64 vSize3)), (5, (.i .i64 1)), (6, (.i .i64 1)), (8, (.m 6)), (41, (.es 9 (.r vVars4))), (42, (.i .i64 (List.length vVars4 : Int))), (43, (.i .i64 0))]) [2, 1, 3, 4, 5, 6, 8, 41, 42, 43]) true, .eqb (Sx.underT 7 (mkT [(5, .cells [(.i .i8 x.k), (.i .i64 x.n), (.s (nats x.s)), (.s (nats x.t)), (.es 57 (.r (rowsT x.l)))] 57 false), (6, .mp [] 0)])) true, .call 29 [(.ag [(.i .i8 x.k), (.i .i64 x.n), (.s (nats x.s)), (.s (nats x.t)), (.es 57 (.r (rowsT x.l)))])] (.es 9 (.r vVars4)), .eqb (freeL []) true, .eqb (TV.free (.ag [(.i .i8 x.k), (.i .i64 x.n), (.s (nats x.s)), (.s (nats x.t)), (.es 57 (.r (rowsT x.l)))])) true, .eqb (decide (64 < vSize3)) false, .eqb (decide (4096 < vSize2)) false, .call 28 [(.ag [(.i .i8 x.k), (.i .i64 x.n), (.s (nats x.s)), (.s (nats x.t)), (.es 57 (.r (rowsT x.l)))])] (.tu [(.i .i64 vSize2), (.i .i64 vSize3)]), .eqb (freeL []) true, .eqb (TV.free (.ag [(.i .i8 x.k), (.i .i64 x.n), (.s (nats x.s)), (.s (nats x.t)), (.es 57 (.r (rowsT x.l)))])) true, .call 26 [(.ag [(.i .i8 x.k), (.i .i64 x.n), (.s (nats x.s)), (.s (nats x.t)), (.es 57 (.r (rowsT x.l)))])] (.b false), .eqb (freeL []) true, .eqb (TV.free (.ag [(.i .i8 x.k), (.i .i64 x.n), (.s (nats x.s)), (.s (nats x.t)), (.es 57 (.r (rowsT x.l)))])) true]) := by kernel_rfl
theorem as0_6 (x : Tr) (vSize2 : Int) (vSize3 : Int) (vVars4 : List (List Dat)) (j0 : Int) (n1 : Int) (d1 : Int) (j1 : Int) : funO 5 mth cal 1000 ir6 [(.ag [(.i .i8 x.k), (.i .i64 x.n), (.s (nats x.s)), (.s (nats x.t)), (.es 57 (.r (rowsT x.l)))])] [.cl [.as] (.b false), .cl [.as] (.tu [(.i .i64 vSize2), (.i .i64 vSize3)]), .br false, .br false, .cf [.as] (.es 9 (.r vVars4)), .lp [2, 1, 3, 4, 5, 6, 8, 41, 42, 43] 7 (.exit 0) (mkE [(2, (.b false)), (1, (.p 5 0)), (3, (.i .i64 vSize2)), (4, (.i .i64 vSize3)), (5, (.i .i64 1)), (6, (.i .i64 1)), (8, (.m 6)), (41, (.es 9 (.r vVars4))), (42, (.i .i64 (List.length vVars4 : Int))), (43, (.i .i64 j0))]) (mkT [(5, .cells [(.i .i8 x.k), (.i .i64 x.n), (.s (nats x.s)), (.s (nats x.t)), (.es 57 (.r (rowsT x.l)))] 57 false), (6, .mp (ents vVars4 0) (List.length vVars4))]) 7, .lp [2, 1, 3, 4, 5, 6, 8, 58, 59, 60] 7 (.exit 2) (mkE [(2, (.b false)), (1, (.p 5 0)), (3, (.i .i64 vSize2)), (4, (.i .i64 vSize3)), (5, (.i .i64 n1)), (6, (.i .i64 d1)), (8, (.m 6)), (58, (.es 57 (.r (rowsT x.l)))), (59, (.i .i64 (List.length (rowsT x.l) : Int))), (60, (.i .i64 j1))]) (mkT [(5, .cells [(.i .i8 x.k), (.i .i64 x.n), (.s (nats x.s)), (.s (nats x.t)), (.es 57 (.r (rowsT x.l)))] 57 false), (6, .mp (ents vVars4 0) (List.length vVars4))]) 7, .br true, .br false] = some ((.b false), [.eqb (decide (d1 = vSize3)) false, .eqb (decide (n1 = vSize2)) true, .loop lp6_1 (mkE [(2, (.b false)), (1, (.p 5 0)), (3, (.i .i64 vSize2)), (4, (.i .i64 vSize3)), (5, (.i .i64 1)), (6, (.i .i64 1)), (8, (.m 6)), (58, (.es 57 (.r (rowsT x.l)))), (59, (.i .i64 (List.length (rowsT x.l) : Int))), (60, (.i .i64 0))]) (mkT [(5, .cells [(.i .i8 x.k), (.i .i64 x.n), (.s (nats x.s)), (.s (nats x.t)), (.es 57 (.r (rowsT x.l)))] 57 false), (6, .mp (ents vVars4 0) (List.length vVars4))]) 7 (.exit 2) (mkE [(2, (.b false)), (1, (.p 5 0)), (3, (.i .i64 vSize2)), (4, (.i .i64 vSize3)), (5, (.i .i64 n1)), (6, (.i .i64 d1)), (8, (.m 6)), (58, (.es 57 (.r (rowsT x.l)))), (59, (.i .i64 (List.length (rowsT x.l) : Int))), (60, (.i .i64 j1))]) (mkT [(5, .cells [(.i .i8 x.k), (.i .i64 x.n), (.s (nats x.s)), (.s (nats x.t)), (.es 57 (.r (rowsT x.l)))] 57 false), (6, .mp (ents vVars4 0) (List.length vVars4))]) 7, .eqb (Sx.underK 7 (mkE [(2, (.b false)), (1, (.p 5 0)), (3, (.i .i64 vSize2)), (4, (.i .i64 vSize3)), (5, (.i .i64 1)), (6, (.i .i64 1)), (8, (.m 6)), (58, (.es 57 (.r (rowsT x.l)))), (59, (.i .i64 (List.length (rowsT x.l) : Int))), (60, (.i .i64 0))]) [2, 1, 3, 4, 5, 6, 8, 58, 59, 60]) true, .eqb (Sx.underT 7 (mkT [(5, .cells [(.i .i8 x.k), (.i .i64 x.n), (.s (nats x.s)), (.s (nats x.t)), (.es 57 (.r (rowsT x.l)))] 57 false), (6, .mp (ents vVars4 0) (List.length vVars4))])) true, .loop lp6_0 (mkE [(2, (.b false)), (1, (.p 5 0)), (3, (.i .i64 vSize2)), (4, (.i .i64 vSize3)), (5, (.i .i64 1)), (6, (.i .i64 1)), (8, (.m 6)), (41, (.es 9 (.r vVars4))), (42, (.i .i64 (List.length vVars4 : Int))), (43, (.i .i64 0))]) (mkT [(5, .cells [(.i .i8 x.k), (.i .i64 x.n), (.s (nats x.s)), (.s (nats x.t)), (.es 57 (.r (rowsT x.l)))] 57 false), (6, .mp [] 0)]) 7 (.exit 0) (mkE [(2, (.b false)), (1, (.p 5 0)), (3, (.i .i64 vSize2)), (4, (.i .i64 vSize3)), (5, (.i .i64 1)), (6, (.i .i64 1)), (8, (.m 6)), (41, (.es 9 (.r vVars4))), (42, (.i .i64 (List.length vVars4 : Int))), (43, (.i .i64 j0))]) (mkT [(5, .cells [(.i .i8 x.k), (.i .i64 x.n), (.s (nats x.s)), (.s (nats x.t)), (.es 57 (.r (rowsT x.l)))] 57 false), (6, .mp (ents vVars4 0) (List.length vVars4))]) 7, .eqb (Sx.underK 7 (mkE [(2, (.b false)), (1, (.p 5 0)), (3, (.i .i64 vSize2)), (4, (.i .i64 vSize3)), (5, (.i .i64 1)), (6, (.i .i64 1)), (8, (.m 6)), (41, (.es 9 (.r vVars4))), (42, (.i .i64 (List.length vVars4 : Int))), (43, (.i .i64 0))]) [2, 1, 3, 4, 5, 6, 8, 41, 42, 43]) true, .eqb (Sx.underT 7 (mkT [(5, .cells [(.i .i8 x.k), (.i .i64 x.n), (.s (nats x.s)), (.s (nats x.t)), (.es 57 (.r (rowsT x.l)))] 57 false), (6, .mp [] 0)])) true, .call 29 [(.ag [(.i .i8 x.k), (.i .i64 x.n), (.s (nats x.s)), (.s (nats x.t)), (.es 57 (.r (rowsT x.l)))])] (.es 9 (.r vVars4)), .eqb (freeL []) true, .eqb (TV.free (.ag [(.i .i8 x.k), (.i .i64 x.n), (.s (nats x.s)), (.s (nats x.t)), (.es 57 (.r (rowsT x.l)))])) true, .eqb (decide (64 < vSize3)) false, .eqb (decide (4096 < vSize2)) false, .call 28 [(.ag [(.i .i8 x.k), (.i .i64 x.n), (.s (nats x.s)), (.s (nats x.t)), (.es 57 (.r (rowsT x.l)))])] (.tu [(.i .i64 vSize2), (.i .i64 vSize3)]), .eqb (freeL []) true, .eqb (TV.free (.ag [(.i .i8 x.k), (.i .i64 x.n), (.s (nats x.s)), (.s (nats x.t)), (.es 57 (.r (rowsT x.l)))])) true, .call 26 [(.ag [(.i .i8 x.k), (.i .i64 x.n), (.s (nats x.s)), (.s (nats x.t)), (.es 57 (.r (rowsT x.l)))])] (.b false), .eqb (freeL []) true, .eqb (TV.free (.ag [(.i .i8 x.k), (.i .i64 x.n), (.s (nats x.s)), (.s (nats x.t)), (.es 57 (.r (rowsT x.l)))])) true]) := by kernel_rfl
theorem as0_7 (x : Tr) (vSize2 : Int) (vSize3 : Int) (vVars4 : List (List Dat)) (j0 : Int) (n1 : Int) (d1 : Int) (j1 : Int) : funO 5 mth cal 1000 ir6 [(.ag [(.i .i8 x.k), (.i .i64 x.n), (.s (nats x.s)), (.s (nats x.t)), (.es 57 (.r (rowsT x.l)))])] [.cl [.as] (.b false), .cl [.as] (.tu [(.i .i64 vSize2), (.i .i64 vSize3)]), .br false, .br false, .cf [.as] (.es 9 (.r vVars4)), .lp [2, 1, 3, 4, 5, 6, 8, 41, 42, 43] 7 (.exit 0) (mkE [(2, (.b false)), (1, (.p 5 0)), (3, (.i .i64 vSize2)), (4, (.i .i64 vSize3)), (5, (.i .i64 1)), (6, (.i .i64 1)), (8, (.m 6)), (41, (.es 9 (.r vVars4))), (42, (.i .i64 (List.length vVars4 : Int))), (43, (.i .i64 j0))]) (mkT [(5, .cells [(.i .i8 x.k), (.i .i64 x.n), (.s (nats x.s)), (.s (nats x.t)), (.es 57 (.r (rowsT x.l)))] 57 false), (6, .mp (ents vVars4 0) (List.length vVars4))]) 7, .lp [2, 1, 3, 4, 5, 6, 8, 58, 59, 60] 7 (.exit 2) (mkE [(2, (.b false)), (1, (.p 5 0)), (3, (.i .i64 vSize2)), (4, (.i .i64 vSize3)), (5, (.i .i64 n1)), (6, (.i .i64 d1)), (8, (.m 6)), (58, (.es 57 (.r (rowsT x.l)))), (59, (.i .i64 (List.length (rowsT x.l) : Int))), (60, (.i .i64 j1))]) (mkT [(5, .cells [(.i .i8 x.k), (.i .i64 x.n), (.s (nats x.s)), (.s (nats x.t)), (.es 57 (.r (rowsT x.l)))] 57 false), (6, .mp (ents vVars4 0) (List.length vVars4))]) 7, .br false] = some ((.b false), [.eqb (decide (n1 = vSize2)) false, .loop lp6_1 (mkE [(2, (.b false)), (1, (.p 5 0)), (3, (.i .i64 vSize2)), (4, (.i .i64 vSize3)), (5, (.i .i64 1)), (6, (.i .i64 1)), (8, (.m 6)), (58, (.es 57 (.r (rowsT x.l)))), (59, (.i .i64 (List.length (rowsT x.l) : Int))), (60, (.i .i64 0))]) (mkT [(5, .cells [(.i .i8 x.k), (.i .i64 x.n), (.s (nats x.s)), (.s (nats x.t)), (.es 57 (.r (rowsT x.l)))] 57 false), (6, .mp (ents vVars4 0) (List.length vVars4))]) 7 (.exit 2) (mkE [(2, (.b false)), (1, (.p 5 0)), (3, (.i .i64 vSize2)), (4, (.i .i64 vSize3)), (5, (.i .i64 n1)), (6, (.i .i64 d1)), (8, (.m 6)), (58, (.es 57 (.r (rowsT x.l)))), (59, (.i .i64 (List.length (rowsT x.l) : Int))), (60, (.i .i64 j1))]) (mkT [(5, .cells [(.i .i8 x.k), (.i .i64 x.n), (.s (nats x.s)), (.s (nats x.t)), (.es 57 (.r (rowsT x.l)))] 57 false), (6, .mp (ents vVars4 0) (List.length vVars4))]) 7, .eqb (Sx.underK 7 (mkE [(2, (.b false)), (1, (.p 5 0)), (3, (.i .i64 vSize2)), (4, (.i .i64 vSize3)), (5, (.i .i64 1)), (6, (.i .i64 1)), (8, (.m 6)), (58, (.es 57 (.r (rowsT x.l)))), (59, (.i .i64 (List.length (rowsT x.l) : Int))), (60, (.i .i64 0))]) [2, 1, 3, 4, 5, 6, 8, 58, 59, 60]) true, .eqb (Sx.underT 7 (mkT [(5, .cells [(.i .i8 x.k), (.i .i64 x.n), (.s (nats x.s)), (.s (nats x.t)), (.es 57 (.r (rowsT x.l)))] 57 false), (6, .mp (ents vVars4 0) (List.length vVars4))])) true, .loop lp6_0 (mkE [(2, (.b false)), (1, (.p 5 0)), (3, (.i .i64 vSize2)), (4, (.i .i64 vSize3)), (5, (.i .i64 1)), (6, (.i .i64 1)), (8, (.m 6)), (41, (.es 9 (.r vVars4))), (42, (.i .i64 (List.length vVars4 : Int))), (43, (.i .i64 0))]) (mkT [(5, .cells [(.i .i8 x.k), (.i .i64 x.n), (.s (nats x.s)), (.s (nats x.t)), (.es 57 (.r (rowsT x.l)))] 57 false), (6, .mp [] 0)]) 7 (.exit 0) (mkE [(2, (.b false)), (1, (.p 5 0)), (3, (.i .i64 vSize2)), (4, (.i .i64 vSize3)), (5, (.i .i64 1)), (6, (.i .i64 1)), (8, (.m 6)), (41, (.es 9 (.r vVars4))), (42, (.i .i64 (List.length vVars4 : Int))), (43, (.i .i64 j0))]) (mkT [(5, .cells [(.i .i8 x.k), (.i .i64 x.n), (.s (nats x.s)), (.s (nats x.t)), (.es 57 (.r (rowsT x.l)))] 57 false), (6, .mp (ents vVars4 0) (List.length vVars4))]) 7, .eqb (Sx.underK 7 (mkE [(2, (.b false)), (1, (.p 5 0)), (3, (.i .i64 vSize2)), (4, (.i .i64 vSize3)), (5, (.i .i64 1)), (6, (.i .i64 1)), (8, (.m 6)), (41, (.es 9 (.r vVars4))), (42, (.i .i64 (List.length vVars4 : Int))), (43, (.i .i64 0))]) [2, 1, 3, 4, 5, 6, 8, 41, 42, 43]) true, .eqb (Sx.underT 7 (mkT [(5, .cells [(.i .i8 x.k), (.i .i64 x.n), (.s (nats x.s)), (.s (nats x.t)), (.es 57 (.r (rowsT x.l)))] 57 false), (6, .mp [] 0)])) true, .call 29 [(.ag [(.i .i8 x.k), (.i .i64 x.n), (.s (nats x.s)), (.s (nats x.t)), (.es 57 (.r (rowsT x.l)))])] (.es 9 (.r vVars4)), .eqb (freeL []) true, .eqb (TV.free (.ag [(.i .i8 x.k), (.i .i64 x.n), (.s (nats x.s)), (.s (nats x.t)), (.es 57 (.r (rowsT x.l)))])) true, .eqb (decide (64 < vSize3)) false, .eqb (decide (4096 < vSize2)) false, .call 28 [(.ag [(.i .i8 x.k), (.i .i64 x.n), (.s (nats x.s)), (.s (nats x.t)), (.es 57 (.r (rowsT x.l)))])] (.tu [(.i .i64 vSize2), (.i .i64 vSize3)]), .eqb (freeL []) true, .eqb (TV.free (.ag [(.i .i8 x.k), (.i .i64 x.n), (.s (nats x.s)), (.s (nats x.t)), (.es 57 (.r (rowsT x.l)))])) true, .call 26 [(.ag [(.i .i8 x.k), (.i .i64 x.n), (.s (nats x.s)), (.s (nats x.t)), (.es 57 (.r (rowsT x.l)))])] (.b false), .eqb (freeL []) true, .eqb (TV.free (.ag [(.i .i8 x.k), (.i .i64 x.n), (.s (nats x.s)), (.s (nats x.t)), (.es 57 (.r (rowsT x.l)))])) true]) := by kernel_rfl
theorem as0 (x : Tr) (vGreat0 : Bool) (vwakes1 : Bool) (vSize2 : Int) (vSize3 : Int) (vVars4 : List (List Dat)) (j0 : Int) (n1 : Int) (d1 : Int) (j1 : Int) (c0 : Pu 26 [(.ag [(.i .i8 x.k), (.i .i64 x.n), (.s (nats x.s)), (.s (nats x.t)), (.es 57 (.r (rowsT x.l)))])] (.b (vGreat0))) (c1 : vGreat0 = true → Pu 27 [] (.b (vwakes1))) (c2 : vGreat0 = false → Pu 28 [(.ag [(.i .i8 x.k), (.i .i64 x.n), (.s (nats x.s)), (.s (nats x.t)), (.es 57 (.r (rowsT x.l)))])] (.tu [(.i .i64 vSize2), (.i .i64 vSize3)])) (c3 : vGreat0 = false → (decide (4096 < vSize2)) = true → Pu 29 [(.ag [(.i .i8 x.k), (.i .i64 x.n), (.s (nats x.s)), (.s (nats x.t)), (.es 57 (.r (rowsT x.l)))])] (.es 9 (.r vVars4))) (c4 : vGreat0 = false → (decide (4096 < vSize2)) = true → (decide ((List.length vVars4 : Int) = 0)) = true → Pu 27 [] (.b (vwakes1))) (c5 : vGreat0 = false → (decide (4096 < vSize2)) = false → (decide (64 < vSize3)) = true → Pu 29 [(.ag [(.i .i8 x.k), (.i .i64 x.n), (.s (nats x.s)), (.s (nats x.t)), (.es 57 (.r (rowsT x.l)))])] (.es 9 (.r vVars4))) (c6 : vGreat0 = false → (decide (4096 < vSize2)) = false → (decide (64 < vSize3)) = true → (decide ((List.length vVars4 : Int) = 0)) = true → Pu 27 [] (.b (vwakes1))) (c7 : vGreat0 = false → (decide (4096 < vSize2)) = false → (decide (64 < vSize3)) = false → Pu 29 [(.ag [(.i .i8 x.k), (.i .i64 x.n), (.s (nats x.s)), (.s (nats x.t)), (.es 57 (.r (rowsT x.l)))])] (.es 9 (.r vVars4))) (l8 : vGreat0 = false → (decide (4096 < vSize2)) = false → (decide (64 < vSize3)) = false → LoopC Tryz.prog rho lp6_0 (mkE [(2, (.b false)), (1, (.p 5 0)), (3, (.i .i64 vSize2)), (4, (.i .i64 vSize3)), (5, (.i .i64 1)), (6, (.i .i64 1)), (8, (.m 6)), (41, (.es 9 (.r vVars4))), (42, (.i .i64 (List.length vVars4 : Int))), (43, (.i .i64 0))]) (mkT [(5, .cells [(.i .i8 x.k), (.i .i64 x.n), (.s (nats x.s)), (.s (nats x.t)), (.es 57 (.r (rowsT x.l)))] 57 false), (6, .mp [] 0)]) 7 (.exit 0) (mkE [(2, (.b false)), (1, (.p 5 0)), (3, (.i .i64 vSize2)), (4, (.i .i64 vSize3)), (5, (.i .i64 1)), (6, (.i .i64 1)), (8, (.m 6)), (41, (.es 9 (.r vVars4))), (42, (.i .i64 (List.length vVars4 : Int))), (43, (.i .i64 j0))]) (mkT [(5, .cells [(.i .i8 x.k), (.i .i64 x.n), (.s (nats x.s)), (.s (nats x.t)), (.es 57 (.r (rowsT x.l)))] 57 false), (6, .mp (ents vVars4 0) (List.length vVars4))]) 7) (s9 : vGreat0 = false → (decide (4096 < vSize2)) = false → (decide (64 < vSize3)) = false → (Sx.underT 7 (mkT [(5, .cells [(.i .i8 x.k), (.i .i64 x.n), (.s (nats x.s)), (.s (nats x.t)), (.es 57 (.r (rowsT x.l)))] 57 false), (6, .mp (ents vVars4 0) (List.length vVars4))])) = true) (l10 : vGreat0 = false → (decide (4096 < vSize2)) = false → (decide (64 < vSize3)) = false → LoopC Tryz.prog rho lp6_1 (mkE [(2, (.b false)), (1, (.p 5 0)), (3, (.i .i64 vSize2)), (4, (.i .i64 vSize3)), (5, (.i .i64 1)), (6, (.i .i64 1)), (8, (.m 6)), (58, (.es 57 (.r (rowsT x.l)))), (59, (.i .i64 (List.length (rowsT x.l) : Int))), (60, (.i .i64 0))]) (mkT [(5, .cells [(.i .i8 x.k), (.i .i64 x.n), (.s (nats x.s)), (.s (nats x.t)), (.es 57 (.r (rowsT x.l)))] 57 false), (6, .mp (ents vVars4 0) (List.length vVars4))]) 7 (.exit 2) (mkE [(2, (.b false)), (1, (.p 5 0)), (3, (.i .i64 vSize2)), (4, (.i .i64 vSize3)), (5, (.i .i64 n1)), (6, (.i .i64 d1)), (8, (.m 6)), (58, (.es 57 (.r (rowsT x.l)))), (59, (.i .i64 (List.length (rowsT x.l) : Int))), (60, (.i .i64 j1))]) (mkT [(5, .cells [(.i .i8 x.k), (.i .i64 x.n), (.s (nats x.s)), (.s (nats x.t)), (.es 57 (.r (rowsT x.l)))] 57 false), (6, .mp (ents vVars4 0) (List.length vVars4))]) 7) (c11 : vGreat0 = false → (decide (4096 < vSize2)) = false → (decide (64 < vSize3)) = false → (decide (n1 = vSize2)) = true → (decide (d1 = vSize3)) = true → Pu 27 [] (.b (vwakes1))) : Pu 6 [(.ag [(.i .i8 x.k), (.i .i64 x.n), (.s (nats x.s)), (.s (nats x.t)), (.es 57 (.r (rowsT x.l)))])] (.b (bif vGreat0 then vwakes1 else (bif decide (4096 < vSize2) then (bif decide ((List.length vVars4 : Int) = 0) then vwakes1 else false) else (bif decide (64 < vSize3) then (bif decide ((List.length vVars4 : Int) = 0) then vwakes1 else false) else (bif decide (n1 = vSize2) then (bif decide (d1 = vSize3) then vwakes1 else false) else false))))) := by
  cases vGreat0
  case false =>
    cases h1 : (decide (4096 < vSize2))
    case false =>
      cases h2 : (decide (64 < vSize3))
      case false =>
        cases h3 : (decide (n1 = vSize2))
        case false =>
          exact pu_of Tryz.func6 irc6 (as0_7 x vSize2 vSize3 vVars4 j0 n1 d1 j1) rfl ⟨h3, (l10 rfl h1 h2), (of_eqb (by kernel_rfl)), (s9 rfl h1 h2), (l8 rfl h1 h2), (of_eqb (by kernel_rfl)), (of_eqb (by kernel_rfl)), (c7 rfl h1 h2), rfl, rfl, h2, h1, (c2 rfl), rfl, rfl, (c0), rfl, rfl, trivial⟩
        case true =>
          cases h4 : (decide (d1 = vSize3))
          case false =>
            exact pu_of Tryz.func6 irc6 (as0_6 x vSize2 vSize3 vVars4 j0 n1 d1 j1) rfl ⟨h4, h3, (l10 rfl h1 h2), (of_eqb (by kernel_rfl)), (s9 rfl h1 h2), (l8 rfl h1 h2), (of_eqb (by kernel_rfl)), (of_eqb (by kernel_rfl)), (c7 rfl h1 h2), rfl, rfl, h2, h1, (c2 rfl), rfl, rfl, (c0), rfl, rfl, trivial⟩
          case true =>
            exact pu_of Tryz.func6 irc6 (as0_5 x vSize2 vSize3 vVars4 j0 n1 d1 j1 vwakes1) rfl ⟨(c11 rfl h1 h2 h3 h4), rfl, h4, h3, (l10 rfl h1 h2), (of_eqb (by kernel_rfl)), (s9 rfl h1 h2), (l8 rfl h1 h2), (of_eqb (by kernel_rfl)), (of_eqb (by kernel_rfl)), (c7 rfl h1 h2), rfl, rfl, h2, h1, (c2 rfl), rfl, rfl, (c0), rfl, rfl, trivial⟩
      case true =>
        cases h3 : (decide ((List.length vVars4 : Int) = 0))
        case false =>
          exact pu_of Tryz.func6 irc6 (as0_4 x vSize2 vSize3 vVars4) rfl ⟨h3, (c5 rfl h1 h2), rfl, rfl, h2, h1, (c2 rfl), rfl, rfl, (c0), rfl, rfl, trivial⟩
        case true =>
          exact pu_of Tryz.func6 irc6 (as0_3 x vSize2 vSize3 vVars4 vwakes1) rfl ⟨(c6 rfl h1 h2 h3), rfl, h3, (c5 rfl h1 h2), rfl, rfl, h2, h1, (c2 rfl), rfl, rfl, (c0), rfl, rfl, trivial⟩
    case true =>
      cases h2 : (decide ((List.length vVars4 : Int) = 0))
      case false =>
        exact pu_of Tryz.func6 irc6 (as0_2 x vSize2 vSize3 vVars4) rfl ⟨h2, (c3 rfl h1), rfl, rfl, h1, (c2 rfl), rfl, rfl, (c0), rfl, rfl, trivial⟩
      case true =>
        exact pu_of Tryz.func6 irc6 (as0_1 x vSize2 vSize3 vVars4 vwakes1) rfl ⟨(c4 rfl h1 h2), rfl, h2, (c3 rfl h1), rfl, rfl, h1, (c2 rfl), rfl, rfl, (c0), rfl, rfl, trivial⟩
  case true =>
    exact pu_of Tryz.func6 irc6 (as0_0 x vwakes1) rfl ⟨(c1 rfl), rfl, (c0), rfl, rfl, trivial⟩
theorem L0_0r (x : Tr) (a b : Int) (R : List (List Dat)) (n : Nat) : bodyO 5 mth cal 1000 lp6_0 [2, 1, 3, 4, 5, 6, 8, 41, 42, 43] 7 (mkE [(2, (.b false)), (1, (.p 5 0)), (3, (.i .i64 a)), (4, (.i .i64 b)), (5, (.i .i64 1)), (6, (.i .i64 1)), (8, (.m 6)), (41, (.es 9 (.r R))), (42, (.i .i64 (List.length R : Int))), (43, (.i .i64 (n : Int)))]) (mkT [(5, .cells [(.i .i8 x.k), (.i .i64 x.n), (.s (nats x.s)), (.s (nats x.t)), (.es 57 (.r (rowsT x.l)))] 57 false), (6, .mp (mp0 R n) n)]) 7 [.br true, .br true] = some (.ret, (mkE [(2, (.b false)), (1, (.p 5 0)), (3, (.i .i64 a)), (4, (.i .i64 b)), (5, (.i .i64 1)), (6, (.i .i64 1)), (8, (.m 6)), (41, (.es 9 (.r R))), (42, (.i .i64 (List.length R : Int))), (43, (.i .i64 (n : Int)))]), (mkT [(5, .cells [(.i .i8 x.k), (.i .i64 x.n), (.s (nats x.s)), (.s (nats x.t)), (.es 57 (.r (rowsT x.l)))] 57 false), (6, .mp (mp0 R n) n)]), [.eqb (Sx.underK 7 (mkE [(2, (.b false)), (1, (.p 5 0)), (3, (.i .i64 a)), (4, (.i .i64 b)), (5, (.i .i64 1)), (6, (.i .i64 1)), (8, (.m 6)), (41, (.es 9 (.r R))), (42, (.i .i64 (List.length R : Int))), (43, (.i .i64 (n : Int)))]) [2, 1, 3, 4, 5, 6, 8, 41, 42, 43]) true, .eqb (Sx.underT 7 (mkT [(5, .cells [(.i .i8 x.k), (.i .i64 x.n), (.s (nats x.s)), (.s (nats x.t)), (.es 57 (.r (rowsT x.l)))] 57 false), (6, .mp (mp0 R n) n)])) true, .eqb (decide ((Dat.str (List.getD (List.getD R (Int.toNat (n : Int)) []) 0 .o)) = ([95] : List Nat))) true, .eqb (Sx.inB (n : Int) (List.length R)) true, .eqb (decide ((n : Int) < (List.length R : Int))) true]) := by kernel_rfl
theorem L0_0 (x : Tr) (a b : Int) (R : List (List Dat)) (n : Nat) (h0 : (decide ((n : Int) < (List.length R : Int))) = true) (h1 : (decide ((Dat.str (List.getD (List.getD R (Int.toNat (n : Int)) []) 0 .o)) = ([95] : List Nat))) = true) (s0 : (Sx.underT 7 (mkT [(5, .cells [(.i .i8 x.k), (.i .i64 x.n), (.s (nats x.s)), (.s (nats x.t)), (.es 57 (.r (rowsT x.l)))] 57 false), (6, .mp (mp0 R n) n)])) = true) (s1 : (Sx.inB (n : Int) (List.length R)) = true) : LoopC Tryz.prog rho lp6_0 (mkE [(2, (.b false)), (1, (.p 5 0)), (3, (.i .i64 a)), (4, (.i .i64 b)), (5, (.i .i64 1)), (6, (.i .i64 1)), (8, (.m 6)), (41, (.es 9 (.r R))), (42, (.i .i64 (List.length R : Int))), (43, (.i .i64 (n : Int)))]) (mkT [(5, .cells [(.i .i8 x.k), (.i .i64 x.n), (.s (nats x.s)), (.s (nats x.t)), (.es 57 (.r (rowsT x.l)))] 57 false), (6, .mp (mp0 R n) n)]) 7 .ret (mkE [(2, (.b false)), (1, (.p 5 0)), (3, (.i .i64 a)), (4, (.i .i64 b)), (5, (.i .i64 1)), (6, (.i .i64 1)), (8, (.m 6)), (41, (.es 9 (.r R))), (42, (.i .i64 (List.length R : Int))), (43, (.i .i64 (n : Int)))]) (mkT [(5, .cells [(.i .i8 x.k), (.i .i64 x.n), (.s (nats x.s)), (.s (nats x.t)), (.es 57 (.r (rowsT x.l)))] 57 false), (6, .mp (mp0 R n) n)]) 7 :=
  lp_end (L0_0r x a b R n) (by simp) ⟨(of_eqb (by kernel_rfl)), s0, h1, s1, h0, trivial⟩
theorem L0_1r (x : Tr) (a b : Int) (R : List (List Dat)) (n : Nat) (ix0 : Nat) : bodyO 5 mth cal 1000 lp6_0 [2, 1, 3, 4, 5, 6, 8, 41, 42, 43] 7 (mkE [(2, (.b false)), (1, (.p 5 0)), (3, (.i .i64 a)), (4, (.i .i64 b)), (5, (.i .i64 1)), (6, (.i .i64 1)), (8, (.m 6)), (41, (.es 9 (.r R))), (42, (.i .i64 (List.length R : Int))), (43, (.i .i64 (n : Int)))]) (mkT [(5, .cells [(.i .i8 x.k), (.i .i64 x.n), (.s (nats x.s)), (.s (nats x.t)), (.es 57 (.r (rowsT x.l)))] 57 false), (6, .mp (mp0 R n) n)]) 7 [.br true, .br false, .mf (some (ix0, (.b true)))] = some (.ret, (mkE [(2, (.b false)), (1, (.p 5 0)), (3, (.i .i64 a)), (4, (.i .i64 b)), (5, (.i .i64 1)), (6, (.i .i64 1)), (8, (.m 6)), (41, (.es 9 (.r R))), (42, (.i .i64 (List.length R : Int))), (43, (.i .i64 (n : Int)))]), (mkT [(5, .cells [(.i .i8 x.k), (.i .i64 x.n), (.s (nats x.s)), (.s (nats x.t)), (.es 57 (.r (rowsT x.l)))] 57 false), (6, .mp (mp0 R n) n)]), [.eqb (Sx.underK 7 (mkE [(2, (.b false)), (1, (.p 5 0)), (3, (.i .i64 a)), (4, (.i .i64 b)), (5, (.i .i64 1)), (6, (.i .i64 1)), (8, (.m 6)), (41, (.es 9 (.r R))), (42, (.i .i64 (List.length R : Int))), (43, (.i .i64 (n : Int)))]) [2, 1, 3, 4, 5, 6, 8, 41, 42, 43]) true, .eqb (Sx.underT 7 (mkT [(5, .cells [(.i .i8 x.k), (.i .i64 x.n), (.s (nats x.s)), (.s (nats x.t)), (.es 57 (.r (rowsT x.l)))] 57 false), (6, .mp (mp0 R n) n)])) true, .pr (Sx.findK true (.s (Dat.str (List.getD (List.getD R (Int.toNat (n : Int)) []) 0 .o))) (mp0 R n) 0 = some (some (ix0, (.b true)))), .eqb (decide ((Dat.str (List.getD (List.getD R (Int.toNat (n : Int)) []) 0 .o)) = ([95] : List Nat))) false, .eqb (Sx.inB (n : Int) (List.length R)) true, .eqb (decide ((n : Int) < (List.length R : Int))) true]) := by kernel_rfl
theorem L0_1 (x : Tr) (a b : Int) (R : List (List Dat)) (n : Nat) (ix0 : Nat) (h0 : (decide ((n : Int) < (List.length R : Int))) = true) (h1 : (decide ((Dat.str (List.getD (List.getD R (Int.toNat (n : Int)) []) 0 .o)) = ([95] : List Nat))) = false) (s0 : (Sx.underT 7 (mkT [(5, .cells [(.i .i8 x.k), (.i .i64 x.n), (.s (nats x.s)), (.s (nats x.t)), (.es 57 (.r (rowsT x.l)))] 57 false), (6, .mp (mp0 R n) n)])) = true) (s1 : (Sx.findK true (.s (Dat.str (List.getD (List.getD R (Int.toNat (n : Int)) []) 0 .o))) (mp0 R n) 0 = some (some (ix0, (.b true))))) (s2 : (Sx.inB (n : Int) (List.length R)) = true) : LoopC Tryz.prog rho lp6_0 (mkE [(2, (.b false)), (1, (.p 5 0)), (3, (.i .i64 a)), (4, (.i .i64 b)), (5, (.i .i64 1)), (6, (.i .i64 1)), (8, (.m 6)), (41, (.es 9 (.r R))), (42, (.i .i64 (List.length R : Int))), (43, (.i .i64 (n : Int)))]) (mkT [(5, .cells [(.i .i8 x.k), (.i .i64 x.n), (.s (nats x.s)), (.s (nats x.t)), (.es 57 (.r (rowsT x.l)))] 57 false), (6, .mp (mp0 R n) n)]) 7 .ret (mkE [(2, (.b false)), (1, (.p 5 0)), (3, (.i .i64 a)), (4, (.i .i64 b)), (5, (.i .i64 1)), (6, (.i .i64 1)), (8, (.m 6)), (41, (.es 9 (.r R))), (42, (.i .i64 (List.length R : Int))), (43, (.i .i64 (n : Int)))]) (mkT [(5, .cells [(.i .i8 x.k), (.i .i64 x.n), (.s (nats x.s)), (.s (nats x.t)), (.es 57 (.r (rowsT x.l)))] 57 false), (6, .mp (mp0 R n) n)]) 7 :=
  lp_end (L0_1r x a b R n ix0) (by simp) ⟨(of_eqb (by kernel_rfl)), s0, s1, h1, s2, h0, trivial⟩
theorem L0_2r (x : Tr) (a b : Int) (R : List (List Dat)) (n : Nat) : bodyO 5 mth cal 1000 lp6_0 [2, 1, 3, 4, 5, 6, 8, 41, 42, 43] 7 (mkE [(2, (.b false)), (1, (.p 5 0)), (3, (.i .i64 a)), (4, (.i .i64 b)), (5, (.i .i64 1)), (6, (.i .i64 1)), (8, (.m 6)), (41, (.es 9 (.r R))), (42, (.i .i64 (List.length R : Int))), (43, (.i .i64 (n : Int)))]) (mkT [(5, .cells [(.i .i8 x.k), (.i .i64 x.n), (.s (nats x.s)), (.s (nats x.t)), (.es 57 (.r (rowsT x.l)))] 57 false), (6, .mp (mp0 R n) n)]) 7 [.br true, .br false, .mf none, .mf none] = some (.nrm, (mkE [(2, (.b false)), (1, (.p 5 0)), (3, (.i .i64 a)), (4, (.i .i64 b)), (5, (.i .i64 1)), (6, (.i .i64 1)), (8, (.m 6)), (41, (.es 9 (.r R))), (42, (.i .i64 (List.length R : Int))), (43, (.i .i64 ((n : Int) + 1)))]), (mkT [(5, .cells [(.i .i8 x.k), (.i .i64 x.n), (.s (nats x.s)), (.s (nats x.t)), (.es 57 (.r (rowsT x.l)))] 57 false), (6, .mp ((mp0 R n) ++ [((.s (Dat.str (List.getD (List.getD R (Int.toNat (n : Int)) []) 0 .o))), (.b true), n)]) (n + 1))]), [.eqb (Sx.underK 7 (mkE [(2, (.b false)), (1, (.p 5 0)), (3, (.i .i64 a)), (4, (.i .i64 b)), (5, (.i .i64 1)), (6, (.i .i64 1)), (8, (.m 6)), (41, (.es 9 (.r R))), (42, (.i .i64 (List.length R : Int))), (43, (.i .i64 ((n : Int) + 1)))]) [2, 1, 3, 4, 5, 6, 8, 41, 42, 43]) true, .eqb (Sx.underT 7 (mkT [(5, .cells [(.i .i8 x.k), (.i .i64 x.n), (.s (nats x.s)), (.s (nats x.t)), (.es 57 (.r (rowsT x.l)))] 57 false), (6, .mp ((mp0 R n) ++ [((.s (Dat.str (List.getD (List.getD R (Int.toNat (n : Int)) []) 0 .o))), (.b true), n)]) (n + 1))])) true, .eqb (Sx.inK .i64 ((n : Int) + 1)) true, .pr (Sx.findK true (.s (Dat.str (List.getD (List.getD R (Int.toNat (n : Int)) []) 0 .o))) (mp0 R n) 0 = some none), .pr (Sx.findK true (.s (Dat.str (List.getD (List.getD R (Int.toNat (n : Int)) []) 0 .o))) (mp0 R n) 0 = some none), .eqb (decide ((Dat.str (List.getD (List.getD R (Int.toNat (n : Int)) []) 0 .o)) = ([95] : List Nat))) false, .eqb (Sx.inB (n : Int) (List.length R)) true, .eqb (decide ((n : Int) < (List.length R : Int))) true]) := by kernel_rfl
theorem L0_2 (x : Tr) (a b : Int) (R : List (List Dat)) (n : Nat) (h0 : (decide ((n : Int) < (List.length R : Int))) = true) (h1 : (decide ((Dat.str (List.getD (List.getD R (Int.toNat (n : Int)) []) 0 .o)) = ([95] : List Nat))) = false) (s0 : (Sx.underT 7 (mkT [(5, .cells [(.i .i8 x.k), (.i .i64 x.n), (.s (nats x.s)), (.s (nats x.t)), (.es 57 (.r (rowsT x.l)))] 57 false), (6, .mp ((mp0 R n) ++ [((.s (Dat.str (List.getD (List.getD R (Int.toNat (n : Int)) []) 0 .o))), (.b true), n)]) (n + 1))])) = true) (s1 : (Sx.inK .i64 ((n : Int) + 1)) = true) (s2 : (Sx.findK true (.s (Dat.str (List.getD (List.getD R (Int.toNat (n : Int)) []) 0 .o))) (mp0 R n) 0 = some none)) (s3 : (Sx.inB (n : Int) (List.length R)) = true) {EX : EX} {EE : Trie TV} {ET : Trie TB} {EN : Nat} (more : LoopC Tryz.prog rho lp6_0 (mkE [(2, (.b false)), (1, (.p 5 0)), (3, (.i .i64 a)), (4, (.i .i64 b)), (5, (.i .i64 1)), (6, (.i .i64 1)), (8, (.m 6)), (41, (.es 9 (.r R))), (42, (.i .i64 (List.length R : Int))), (43, (.i .i64 ((n : Int) + 1)))]) (mkT [(5, .cells [(.i .i8 x.k), (.i .i64 x.n), (.s (nats x.s)), (.s (nats x.t)), (.es 57 (.r (rowsT x.l)))] 57 false), (6, .mp ((mp0 R n) ++ [((.s (Dat.str (List.getD (List.getD R (Int.toNat (n : Int)) []) 0 .o))), (.b true), n)]) (n + 1))]) 7 EX EE ET EN) : LoopC Tryz.prog rho lp6_0 (mkE [(2, (.b false)), (1, (.p 5 0)), (3, (.i .i64 a)), (4, (.i .i64 b)), (5, (.i .i64 1)), (6, (.i .i64 1)), (8, (.m 6)), (41, (.es 9 (.r R))), (42, (.i .i64 (List.length R : Int))), (43, (.i .i64 (n : Int)))]) (mkT [(5, .cells [(.i .i8 x.k), (.i .i64 x.n), (.s (nats x.s)), (.s (nats x.t)), (.es 57 (.r (rowsT x.l)))] 57 false), (6, .mp (mp0 R n) n)]) 7 EX EE ET EN :=
  lp_more (L0_2r x a b R n) ⟨(of_eqb (by kernel_rfl)), s0, s1, s2, s2, h1, s3, h0, trivial⟩ more
theorem L0_3r (x : Tr) (a b : Int) (R : List (List Dat)) (n : Nat) : bodyO 5 mth cal 1000 lp6_0 [2, 1, 3, 4, 5, 6, 8, 41, 42, 43] 7 (mkE [(2, (.b false)), (1, (.p 5 0)), (3, (.i .i64 a)), (4, (.i .i64 b)), (5, (.i .i64 1)), (6, (.i .i64 1)), (8, (.m 6)), (41, (.es 9 (.r R))), (42, (.i .i64 (List.length R : Int))), (43, (.i .i64 (n : Int)))]) (mkT [(5, .cells [(.i .i8 x.k), (.i .i64 x.n), (.s (nats x.s)), (.s (nats x.t)), (.es 57 (.r (rowsT x.l)))] 57 false), (6, .mp (mp0 R n) n)]) 7 [.br false] = some ((.exit 0), (mkE [(2, (.b false)), (1, (.p 5 0)), (3, (.i .i64 a)), (4, (.i .i64 b)), (5, (.i .i64 1)), (6, (.i .i64 1)), (8, (.m 6)), (41, (.es 9 (.r R))), (42, (.i .i64 (List.length R : Int))), (43, (.i .i64 (n : Int)))]), (mkT [(5, .cells [(.i .i8 x.k), (.i .i64 x.n), (.s (nats x.s)), (.s (nats x.t)), (.es 57 (.r (rowsT x.l)))] 57 false), (6, .mp (mp0 R n) n)]), [.eqb (Sx.underK 7 (mkE [(2, (.b false)), (1, (.p 5 0)), (3, (.i .i64 a)), (4, (.i .i64 b)), (5, (.i .i64 1)), (6, (.i .i64 1)), (8, (.m 6)), (41, (.es 9 (.r R))), (42, (.i .i64 (List.length R : Int))), (43, (.i .i64 (n : Int)))]) [2, 1, 3, 4, 5, 6, 8, 41, 42, 43]) true, .eqb (Sx.underT 7 (mkT [(5, .cells [(.i .i8 x.k), (.i .i64 x.n), (.s (nats x.s)), (.s (nats x.t)), (.es 57 (.r (rowsT x.l)))] 57 false), (6, .mp (mp0 R n) n)])) true, .eqb (decide ((n : Int) < (List.length R : Int))) false]) := by kernel_rfl
theorem L0_3 (x : Tr) (a b : Int) (R : List (List Dat)) (n : Nat) (h0 : (decide ((n : Int) < (List.length R : Int))) = false) (s0 : (Sx.underT 7 (mkT [(5, .cells [(.i .i8 x.k), (.i .i64 x.n), (.s (nats x.s)), (.s (nats x.t)), (.es 57 (.r (rowsT x.l)))] 57 false), (6, .mp (mp0 R n) n)])) = true) : LoopC Tryz.prog rho lp6_0 (mkE [(2, (.b false)), (1, (.p 5 0)), (3, (.i .i64 a)), (4, (.i .i64 b)), (5, (.i .i64 1)), (6, (.i .i64 1)), (8, (.m 6)), (41, (.es 9 (.r R))), (42, (.i .i64 (List.length R : Int))), (43, (.i .i64 (n : Int)))]) (mkT [(5, .cells [(.i .i8 x.k), (.i .i64 x.n), (.s (nats x.s)), (.s (nats x.t)), (.es 57 (.r (rowsT x.l)))] 57 false), (6, .mp (mp0 R n) n)]) 7 (.exit 0) (mkE [(2, (.b false)), (1, (.p 5 0)), (3, (.i .i64 a)), (4, (.i .i64 b)), (5, (.i .i64 1)), (6, (.i .i64 1)), (8, (.m 6)), (41, (.es 9 (.r R))), (42, (.i .i64 (List.length R : Int))), (43, (.i .i64 (n : Int)))]) (mkT [(5, .cells [(.i .i8 x.k), (.i .i64 x.n), (.s (nats x.s)), (.s (nats x.t)), (.es 57 (.r (rowsT x.l)))] 57 false), (6, .mp (mp0 R n) n)]) 7 :=
  lp_end (L0_3r x a b R n) (by simp) ⟨(of_eqb (by kernel_rfl)), s0, h0, trivial⟩
theorem L1_0r (x : Tr) (a b c d : Int) (R : List (List Dat)) (k : Int) (vSize0 : Int) (vSize1 : Int) (vVars2 : List (List Dat)) (j : Int) : bodyO 5 mth cal 1000 lp6_1 [2, 1, 3, 4, 5, 6, 8, 58, 59, 60] 7 (mkE [(2, (.b false)), (1, (.p 5 0)), (3, (.i .i64 a)), (4, (.i .i64 b)), (5, (.i .i64 c)), (6, (.i .i64 d)), (8, (.m 6)), (58, (.es 57 (.r (rowsT x.l)))), (59, (.i .i64 (List.length (rowsT x.l) : Int))), (60, (.i .i64 k))]) (mkT [(5, .cells [(.i .i8 x.k), (.i .i64 x.n), (.s (nats x.s)), (.s (nats x.t)), (.es 57 (.r (rowsT x.l)))] 57 false), (6, .mp (ents R 0) (List.length R))]) 7 [.br true, .cl [.as] (.tu [(.i .i64 vSize0), (.i .i64 vSize1)]), .cf [.as] (.es 9 (.r vVars2)), .lp [2, 1, 3, 4, 5, 6, 8, 58, 59, 60, 77, 78, 79] 8 (.exit 4) (mkE [(2, (.b false)), (1, (.p 5 0)), (3, (.i .i64 a)), (4, (.i .i64 b)), (5, (.i .i64 (c + vSize0))), (6, (.i .i64 (cond (Sx.ilt d (vSize1 + 1)) (vSize1 + 1) d))), (8, (.m 6)), (58, (.es 57 (.r (rowsT x.l)))), (59, (.i .i64 (List.length (rowsT x.l) : Int))), (60, (.i .i64 k)), (77, (.es 9 (.r vVars2))), (78, (.i .i64 (List.length vVars2 : Int))), (79, (.i .i64 j))]) (mkT [(5, .cells [(.i .i8 x.k), (.i .i64 x.n), (.s (nats x.s)), (.s (nats x.t)), (.es 57 (.r (rowsT x.l)))] 57 false), (6, .mp (ents R 0) (List.length R)), (7, .cells [(.i .i8 (Dat.int (List.getD (List.getD (rowsT x.l) (Int.toNat k) []) 0 .o))), (.i .i64 (Dat.int (List.getD (List.getD (rowsT x.l) (Int.toNat k) []) 1 .o))), (.s (Dat.str (List.getD (List.getD (rowsT x.l) (Int.toNat k) []) 2 .o))), (.s (Dat.str (List.getD (List.getD (rowsT x.l) (Int.toNat k) []) 3 .o))), (.es 57 (List.getD (List.getD (rowsT x.l) (Int.toNat k) []) 4 .o))] 57 false)]) 8] = some (.nrm, (mkE [(2, (.b false)), (1, (.p 5 0)), (3, (.i .i64 a)), (4, (.i .i64 b)), (5, (.i .i64 (c + vSize0))), (6, (.i .i64 (cond (Sx.ilt d (vSize1 + 1)) (vSize1 + 1) d))), (8, (.m 6)), (58, (.es 57 (.r (rowsT x.l)))), (59, (.i .i64 (List.length (rowsT x.l) : Int))), (60, (.i .i64 (k + 1)))]), (mkT [(5, .cells [(.i .i8 x.k), (.i .i64 x.n), (.s (nats x.s)), (.s (nats x.t)), (.es 57 (.r (rowsT x.l)))] 57 false), (6, .mp (ents R 0) (List.length R))]), [.eqb (Sx.underK 7 (mkE [(2, (.b false)), (1, (.p 5 0)), (3, (.i .i64 a)), (4, (.i .i64 b)), (5, (.i .i64 (c + vSize0))), (6, (.i .i64 (cond (Sx.ilt d (vSize1 + 1)) (vSize1 + 1) d))), (8, (.m 6)), (58, (.es 57 (.r (rowsT x.l)))), (59, (.i .i64 (List.length (rowsT x.l) : Int))), (60, (.i .i64 (k + 1)))]) [2, 1, 3, 4, 5, 6, 8, 58, 59, 60]) true, .eqb (Sx.underT 7 (mkT [(5, .cells [(.i .i8 x.k), (.i .i64 x.n), (.s (nats x.s)), (.s (nats x.t)), (.es 57 (.r (rowsT x.l)))] 57 false), (6, .mp (ents R 0) (List.length R))])) true, .eqb (Sx.inK .i64 (k + 1)) true, .loop lp6_2 (mkE [(2, (.b false)), (1, (.p 5 0)), (3, (.i .i64 a)), (4, (.i .i64 b)), (5, (.i .i64 (c + vSize0))), (6, (.i .i64 (cond (Sx.ilt d (vSize1 + 1)) (vSize1 + 1) d))), (8, (.m 6)), (58, (.es 57 (.r (rowsT x.l)))), (59, (.i .i64 (List.length (rowsT x.l) : Int))), (60, (.i .i64 k)), (77, (.es 9 (.r vVars2))), (78, (.i .i64 (List.length vVars2 : Int))), (79, (.i .i64 0))]) (mkT [(5, .cells [(.i .i8 x.k), (.i .i64 x.n), (.s (nats x.s)), (.s (nats x.t)), (.es 57 (.r (rowsT x.l)))] 57 false), (6, .mp (ents R 0) (List.length R)), (7, .cells [(.i .i8 (Dat.int (List.getD (List.getD (rowsT x.l) (Int.toNat k) []) 0 .o))), (.i .i64 (Dat.int (List.getD (List.getD (rowsT x.l) (Int.toNat k) []) 1 .o))), (.s (Dat.str (List.getD (List.getD (rowsT x.l) (Int.toNat k) []) 2 .o))), (.s (Dat.str (List.getD (List.getD (rowsT x.l) (Int.toNat k) []) 3 .o))), (.es 57 (List.getD (List.getD (rowsT x.l) (Int.toNat k) []) 4 .o))] 57 false)]) 8 (.exit 4) (mkE [(2, (.b false)), (1, (.p 5 0)), (3, (.i .i64 a)), (4, (.i .i64 b)), (5, (.i .i64 (c + vSize0))), (6, (.i .i64 (cond (Sx.ilt d (vSize1 + 1)) (vSize1 + 1) d))), (8, (.m 6)), (58, (.es 57 (.r (rowsT x.l)))), (59, (.i .i64 (List.length (rowsT x.l) : Int))), (60, (.i .i64 k)), (77, (.es 9 (.r vVars2))), (78, (.i .i64 (List.length vVars2 : Int))), (79, (.i .i64 j))]) (mkT [(5, .cells [(.i .i8 x.k), (.i .i64 x.n), (.s (nats x.s)), (.s (nats x.t)), (.es 57 (.r (rowsT x.l)))] 57 false), (6, .mp (ents R 0) (List.length R)), (7, .cells [(.i .i8 (Dat.int (List.getD (List.getD (rowsT x.l) (Int.toNat k) []) 0 .o))), (.i .i64 (Dat.int (List.getD (List.getD (rowsT x.l) (Int.toNat k) []) 1 .o))), (.s (Dat.str (List.getD (List.getD (rowsT x.l) (Int.toNat k) []) 2 .o))), (.s (Dat.str (List.getD (List.getD (rowsT x.l) (Int.toNat k) []) 3 .o))), (.es 57 (List.getD (List.getD (rowsT x.l) (Int.toNat k) []) 4 .o))] 57 false)]) 8, .eqb (Sx.underK 8 (mkE [(2, (.b false)), (1, (.p 5 0)), (3, (.i .i64 a)), (4, (.i .i64 b)), (5, (.i .i64 (c + vSize0))), (6, (.i .i64 (cond (Sx.ilt d (vSize1 + 1)) (vSize1 + 1) d))), (8, (.m 6)), (58, (.es 57 (.r (rowsT x.l)))), (59, (.i .i64 (List.length (rowsT x.l) : Int))), (60, (.i .i64 k)), (77, (.es 9 (.r vVars2))), (78, (.i .i64 (List.length vVars2 : Int))), (79, (.i .i64 0))]) [2, 1, 3, 4, 5, 6, 8, 58, 59, 60, 77, 78, 79]) true, .eqb (Sx.underT 8 (mkT [(5, .cells [(.i .i8 x.k), (.i .i64 x.n), (.s (nats x.s)), (.s (nats x.t)), (.es 57 (.r (rowsT x.l)))] 57 false), (6, .mp (ents R 0) (List.length R)), (7, .cells [(.i .i8 (Dat.int (List.getD (List.getD (rowsT x.l) (Int.toNat k) []) 0 .o))), (.i .i64 (Dat.int (List.getD (List.getD (rowsT x.l) (Int.toNat k) []) 1 .o))), (.s (Dat.str (List.getD (List.getD (rowsT x.l) (Int.toNat k) []) 2 .o))), (.s (Dat.str (List.getD (List.getD (rowsT x.l) (Int.toNat k) []) 3 .o))), (.es 57 (List.getD (List.getD (rowsT x.l) (Int.toNat k) []) 4 .o))] 57 false)])) true, .call 29 [(.ag [(.i .i8 (Dat.int (List.getD (List.getD (rowsT x.l) (Int.toNat k) []) 0 .o))), (.i .i64 (Dat.int (List.getD (List.getD (rowsT x.l) (Int.toNat k) []) 1 .o))), (.s (Dat.str (List.getD (List.getD (rowsT x.l) (Int.toNat k) []) 2 .o))), (.s (Dat.str (List.getD (List.getD (rowsT x.l) (Int.toNat k) []) 3 .o))), (.es 57 (List.getD (List.getD (rowsT x.l) (Int.toNat k) []) 4 .o))])] (.es 9 (.r vVars2)), .eqb (freeL []) true, .eqb (TV.free (.ag [(.i .i8 (Dat.int (List.getD (List.getD (rowsT x.l) (Int.toNat k) []) 0 .o))), (.i .i64 (Dat.int (List.getD (List.getD (rowsT x.l) (Int.toNat k) []) 1 .o))), (.s (Dat.str (List.getD (List.getD (rowsT x.l) (Int.toNat k) []) 2 .o))), (.s (Dat.str (List.getD (List.getD (rowsT x.l) (Int.toNat k) []) 3 .o))), (.es 57 (List.getD (List.getD (rowsT x.l) (Int.toNat k) []) 4 .o))])) true, .eqb (Sx.inK .i64 (vSize1 + 1)) true, .eqb (Sx.inK .i64 (c + vSize0)) true, .call 28 [(.ag [(.i .i8 (Dat.int (List.getD (List.getD (rowsT x.l) (Int.toNat k) []) 0 .o))), (.i .i64 (Dat.int (List.getD (List.getD (rowsT x.l) (Int.toNat k) []) 1 .o))), (.s (Dat.str (List.getD (List.getD (rowsT x.l) (Int.toNat k) []) 2 .o))), (.s (Dat.str (List.getD (List.getD (rowsT x.l) (Int.toNat k) []) 3 .o))), (.es 57 (List.getD (List.getD (rowsT x.l) (Int.toNat k) []) 4 .o))])] (.tu [(.i .i64 vSize0), (.i .i64 vSize1)]), .eqb (freeL []) true, .eqb (TV.free (.ag [(.i .i8 (Dat.int (List.getD (List.getD (rowsT x.l) (Int.toNat k) []) 0 .o))), (.i .i64 (Dat.int (List.getD (List.getD (rowsT x.l) (Int.toNat k) []) 1 .o))), (.s (Dat.str (List.getD (List.getD (rowsT x.l) (Int.toNat k) []) 2 .o))), (.s (Dat.str (List.getD (List.getD (rowsT x.l) (Int.toNat k) []) 3 .o))), (.es 57 (List.getD (List.getD (rowsT x.l) (Int.toNat k) []) 4 .o))])) true, .eqb (Sx.inB k (List.length (rowsT x.l))) true, .eqb (decide (k < (List.length (rowsT x.l) : Int))) true]) := by kernel_rfl
theorem L1_0 (x : Tr) (a b c d : Int) (R : List (List Dat)) (k : Int) (vSize0 : Int) (vSize1 : Int) (vVars2 : List (List Dat)) (j : Int) (h0 : (decide (k < (List.length (rowsT x.l) : Int))) = true) (s0 : (Sx.underT 7 (mkT [(5, .cells [(.i .i8 x.k), (.i .i64 x.n), (.s (nats x.s)), (.s (nats x.t)), (.es 57 (.r (rowsT x.l)))] 57 false), (6, .mp (ents R 0) (List.length R))])) = true) (s1 : (Sx.inK .i64 (k + 1)) = true) (l2 : LoopC Tryz.prog rho lp6_2 (mkE [(2, (.b false)), (1, (.p 5 0)), (3, (.i .i64 a)), (4, (.i .i64 b)), (5, (.i .i64 (c + vSize0))), (6, (.i .i64 (cond (Sx.ilt d (vSize1 + 1)) (vSize1 + 1) d))), (8, (.m 6)), (58, (.es 57 (.r (rowsT x.l)))), (59, (.i .i64 (List.length (rowsT x.l) : Int))), (60, (.i .i64 k)), (77, (.es 9 (.r vVars2))), (78, (.i .i64 (List.length vVars2 : Int))), (79, (.i .i64 0))]) (mkT [(5, .cells [(.i .i8 x.k), (.i .i64 x.n), (.s (nats x.s)), (.s (nats x.t)), (.es 57 (.r (rowsT x.l)))] 57 false), (6, .mp (ents R 0) (List.length R)), (7, .cells [(.i .i8 (Dat.int (List.getD (List.getD (rowsT x.l) (Int.toNat k) []) 0 .o))), (.i .i64 (Dat.int (List.getD (List.getD (rowsT x.l) (Int.toNat k) []) 1 .o))), (.s (Dat.str (List.getD (List.getD (rowsT x.l) (Int.toNat k) []) 2 .o))), (.s (Dat.str (List.getD (List.getD (rowsT x.l) (Int.toNat k) []) 3 .o))), (.es 57 (List.getD (List.getD (rowsT x.l) (Int.toNat k) []) 4 .o))] 57 false)]) 8 (.exit 4) (mkE [(2, (.b false)), (1, (.p 5 0)), (3, (.i .i64 a)), (4, (.i .i64 b)), (5, (.i .i64 (c + vSize0))), (6, (.i .i64 (cond (Sx.ilt d (vSize1 + 1)) (vSize1 + 1) d))), (8, (.m 6)), (58, (.es 57 (.r (rowsT x.l)))), (59, (.i .i64 (List.length (rowsT x.l) : Int))), (60, (.i .i64 k)), (77, (.es 9 (.r vVars2))), (78, (.i .i64 (List.length vVars2 : Int))), (79, (.i .i64 j))]) (mkT [(5, .cells [(.i .i8 x.k), (.i .i64 x.n), (.s (nats x.s)), (.s (nats x.t)), (.es 57 (.r (rowsT x.l)))] 57 false), (6, .mp (ents R 0) (List.length R)), (7, .cells [(.i .i8 (Dat.int (List.getD (List.getD (rowsT x.l) (Int.toNat k) []) 0 .o))), (.i .i64 (Dat.int (List.getD (List.getD (rowsT x.l) (Int.toNat k) []) 1 .o))), (.s (Dat.str (List.getD (List.getD (rowsT x.l) (Int.toNat k) []) 2 .o))), (.s (Dat.str (List.getD (List.getD (rowsT x.l) (Int.toNat k) []) 3 .o))), (.es 57 (List.getD (List.getD (rowsT x.l) (Int.toNat k) []) 4 .o))] 57 false)]) 8) (s3 : (Sx.underT 8 (mkT [(5, .cells [(.i .i8 x.k), (.i .i64 x.n), (.s (nats x.s)), (.s (nats x.t)), (.es 57 (.r (rowsT x.l)))] 57 false), (6, .mp (ents R 0) (List.length R)), (7, .cells [(.i .i8 (Dat.int (List.getD (List.getD (rowsT x.l) (Int.toNat k) []) 0 .o))), (.i .i64 (Dat.int (List.getD (List.getD (rowsT x.l) (Int.toNat k) []) 1 .o))), (.s (Dat.str (List.getD (List.getD (rowsT x.l) (Int.toNat k) []) 2 .o))), (.s (Dat.str (List.getD (List.getD (rowsT x.l) (Int.toNat k) []) 3 .o))), (.es 57 (List.getD (List.getD (rowsT x.l) (Int.toNat k) []) 4 .o))] 57 false)])) = true) (c4 : Pu 29 [(.ag [(.i .i8 (Dat.int (List.getD (List.getD (rowsT x.l) (Int.toNat k) []) 0 .o))), (.i .i64 (Dat.int (List.getD (List.getD (rowsT x.l) (Int.toNat k) []) 1 .o))), (.s (Dat.str (List.getD (List.getD (rowsT x.l) (Int.toNat k) []) 2 .o))), (.s (Dat.str (List.getD (List.getD (rowsT x.l) (Int.toNat k) []) 3 .o))), (.es 57 (List.getD (List.getD (rowsT x.l) (Int.toNat k) []) 4 .o))])] (.es 9 (.r vVars2))) (s5 : (Sx.inK .i64 (vSize1 + 1)) = true) (s6 : (Sx.inK .i64 (c + vSize0)) = true) (c7 : Pu 28 [(.ag [(.i .i8 (Dat.int (List.getD (List.getD (rowsT x.l) (Int.toNat k) []) 0 .o))), (.i .i64 (Dat.int (List.getD (List.getD (rowsT x.l) (Int.toNat k) []) 1 .o))), (.s (Dat.str (List.getD (List.getD (rowsT x.l) (Int.toNat k) []) 2 .o))), (.s (Dat.str (List.getD (List.getD (rowsT x.l) (Int.toNat k) []) 3 .o))), (.es 57 (List.getD (List.getD (rowsT x.l) (Int.toNat k) []) 4 .o))])] (.tu [(.i .i64 vSize0), (.i .i64 vSize1)])) (s8 : (Sx.inB k (List.length (rowsT x.l))) = true) {EX : EX} {EE : Trie TV} {ET : Trie TB} {EN : Nat} (more : LoopC Tryz.prog rho lp6_1 (mkE [(2, (.b false)), (1, (.p 5 0)), (3, (.i .i64 a)), (4, (.i .i64 b)), (5, (.i .i64 (c + vSize0))), (6, (.i .i64 (cond (Sx.ilt d (vSize1 + 1)) (vSize1 + 1) d))), (8, (.m 6)), (58, (.es 57 (.r (rowsT x.l)))), (59, (.i .i64 (List.length (rowsT x.l) : Int))), (60, (.i .i64 (k + 1)))]) (mkT [(5, .cells [(.i .i8 x.k), (.i .i64 x.n), (.s (nats x.s)), (.s (nats x.t)), (.es 57 (.r (rowsT x.l)))] 57 false), (6, .mp (ents R 0) (List.length R))]) 7 EX EE ET EN) : LoopC Tryz.prog rho lp6_1 (mkE [(2, (.b false)), (1, (.p 5 0)), (3, (.i .i64 a)), (4, (.i .i64 b)), (5, (.i .i64 c)), (6, (.i .i64 d)), (8, (.m 6)), (58, (.es 57 (.r (rowsT x.l)))), (59, (.i .i64 (List.length (rowsT x.l) : Int))), (60, (.i .i64 k))]) (mkT [(5, .cells [(.i .i8 x.k), (.i .i64 x.n), (.s (nats x.s)), (.s (nats x.t)), (.es 57 (.r (rowsT x.l)))] 57 false), (6, .mp (ents R 0) (List.length R))]) 7 EX EE ET EN :=
  lp_more (L1_0r x a b c d R k vSize0 vSize1 vVars2 j) ⟨(of_eqb (by kernel_rfl)), s0, s1, l2, (of_eqb (by kernel_rfl)), s3, c4, rfl, rfl, s5, s6, c7, rfl, rfl, s8, h0, trivial⟩ more
theorem L1_1r (x : Tr) (a b c d : Int) (R : List (List Dat)) (k : Int) : bodyO 5 mth cal 1000 lp6_1 [2, 1, 3, 4, 5, 6, 8, 58, 59, 60] 7 (mkE [(2, (.b false)), (1, (.p 5 0)), (3, (.i .i64 a)), (4, (.i .i64 b)), (5, (.i .i64 c)), (6, (.i .i64 d)), (8, (.m 6)), (58, (.es 57 (.r (rowsT x.l)))), (59, (.i .i64 (List.length (rowsT x.l) : Int))), (60, (.i .i64 k))]) (mkT [(5, .cells [(.i .i8 x.k), (.i .i64 x.n), (.s (nats x.s)), (.s (nats x.t)), (.es 57 (.r (rowsT x.l)))] 57 false), (6, .mp (ents R 0) (List.length R))]) 7 [.br false] = some ((.exit 2), (mkE [(2, (.b false)), (1, (.p 5 0)), (3, (.i .i64 a)), (4, (.i .i64 b)), (5, (.i .i64 c)), (6, (.i .i64 d)), (8, (.m 6)), (58, (.es 57 (.r (rowsT x.l)))), (59, (.i .i64 (List.length (rowsT x.l) : Int))), (60, (.i .i64 k))]), (mkT [(5, .cells [(.i .i8 x.k), (.i .i64 x.n), (.s (nats x.s)), (.s (nats x.t)), (.es 57 (.r (rowsT x.l)))] 57 false), (6, .mp (ents R 0) (List.length R))]), [.eqb (Sx.underK 7 (mkE [(2, (.b false)), (1, (.p 5 0)), (3, (.i .i64 a)), (4, (.i .i64 b)), (5, (.i .i64 c)), (6, (.i .i64 d)), (8, (.m 6)), (58, (.es 57 (.r (rowsT x.l)))), (59, (.i .i64 (List.length (rowsT x.l) : Int))), (60, (.i .i64 k))]) [2, 1, 3, 4, 5, 6, 8, 58, 59, 60]) true, .eqb (Sx.underT 7 (mkT [(5, .cells [(.i .i8 x.k), (.i .i64 x.n), (.s (nats x.s)), (.s (nats x.t)), (.es 57 (.r (rowsT x.l)))] 57 false), (6, .mp (ents R 0) (List.length R))])) true, .eqb (decide (k < (List.length (rowsT x.l) : Int))) false]) := by kernel_rfl
theorem L1_1 (x : Tr) (a b c d : Int) (R : List (List Dat)) (k : Int) (h0 : (decide (k < (List.length (rowsT x.l) : Int))) = false) (s0 : (Sx.underT 7 (mkT [(5, .cells [(.i .i8 x.k), (.i .i64 x.n), (.s (nats x.s)), (.s (nats x.t)), (.es 57 (.r (rowsT x.l)))] 57 false), (6, .mp (ents R 0) (List.length R))])) = true) : LoopC Tryz.prog rho lp6_1 (mkE [(2, (.b false)), (1, (.p 5 0)), (3, (.i .i64 a)), (4, (.i .i64 b)), (5, (.i .i64 c)), (6, (.i .i64 d)), (8, (.m 6)), (58, (.es 57 (.r (rowsT x.l)))), (59, (.i .i64 (List.length (rowsT x.l) : Int))), (60, (.i .i64 k))]) (mkT [(5, .cells [(.i .i8 x.k), (.i .i64 x.n), (.s (nats x.s)), (.s (nats x.t)), (.es 57 (.r (rowsT x.l)))] 57 false), (6, .mp (ents R 0) (List.length R))]) 7 (.exit 2) (mkE [(2, (.b false)), (1, (.p 5 0)), (3, (.i .i64 a)), (4, (.i .i64 b)), (5, (.i .i64 c)), (6, (.i .i64 d)), (8, (.m 6)), (58, (.es 57 (.r (rowsT x.l)))), (59, (.i .i64 (List.length (rowsT x.l) : Int))), (60, (.i .i64 k))]) (mkT [(5, .cells [(.i .i8 x.k), (.i .i64 x.n), (.s (nats x.s)), (.s (nats x.t)), (.es 57 (.r (rowsT x.l)))] 57 false), (6, .mp (ents R 0) (List.length R))]) 7 :=
  lp_end (L1_1r x a b c d R k) (by simp) ⟨(of_eqb (by kernel_rfl)), s0, h0, trivial⟩
theorem L2_0r (x y : Tr) (a b c d e : Int) (R Q : List (List Dat)) (k : Int) (ix0 : Nat) : bodyO 5 mth cal 1000 lp6_2 [2, 1, 3, 4, 5, 6, 8, 58, 59, 60, 77, 78, 79] 8 (mkE [(2, (.b false)), (1, (.p 5 0)), (3, (.i .i64 a)), (4, (.i .i64 b)), (5, (.i .i64 c)), (6, (.i .i64 d)), (8, (.m 6)), (58, (.es 57 (.r (rowsT x.l)))), (59, (.i .i64 (List.length (rowsT x.l) : Int))), (60, (.i .i64 e)), (77, (.es 9 (.r Q))), (78, (.i .i64 (List.length Q : Int))), (79, (.i .i64 k))]) (mkT [(5, .cells [(.i .i8 x.k), (.i .i64 x.n), (.s (nats x.s)), (.s (nats x.t)), (.es 57 (.r (rowsT x.l)))] 57 false), (6, .mp (ents R 0) (List.length R)), (7, .cells [(.i .i8 y.k), (.i .i64 y.n), (.s (nats y.s)), (.s (nats y.t)), (.es 57 (.r (rowsT y.l)))] 57 false)]) 8 [.br true, .mf (some (ix0, (.b true)))] = some (.nrm, (mkE [(2, (.b false)), (1, (.p 5 0)), (3, (.i .i64 a)), (4, (.i .i64 b)), (5, (.i .i64 c)), (6, (.i .i64 d)), (8, (.m 6)), (58, (.es 57 (.r (rowsT x.l)))), (59, (.i .i64 (List.length (rowsT x.l) : Int))), (60, (.i .i64 e)), (77, (.es 9 (.r Q))), (78, (.i .i64 (List.length Q : Int))), (79, (.i .i64 (k + 1)))]), (mkT [(5, .cells [(.i .i8 x.k), (.i .i64 x.n), (.s (nats x.s)), (.s (nats x.t)), (.es 57 (.r (rowsT x.l)))] 57 false), (6, .mp (ents R 0) (List.length R)), (7, .cells [(.i .i8 y.k), (.i .i64 y.n), (.s (nats y.s)), (.s (nats y.t)), (.es 57 (.r (rowsT y.l)))] 57 false)]), [.eqb (Sx.underK 8 (mkE [(2, (.b false)), (1, (.p 5 0)), (3, (.i .i64 a)), (4, (.i .i64 b)), (5, (.i .i64 c)), (6, (.i .i64 d)), (8, (.m 6)), (58, (.es 57 (.r (rowsT x.l)))), (59, (.i .i64 (List.length (rowsT x.l) : Int))), (60, (.i .i64 e)), (77, (.es 9 (.r Q))), (78, (.i .i64 (List.length Q : Int))), (79, (.i .i64 (k + 1)))]) [2, 1, 3, 4, 5, 6, 8, 58, 59, 60, 77, 78, 79]) true, .eqb (Sx.underT 8 (mkT [(5, .cells [(.i .i8 x.k), (.i .i64 x.n), (.s (nats x.s)), (.s (nats x.t)), (.es 57 (.r (rowsT x.l)))] 57 false), (6, .mp (ents R 0) (List.length R)), (7, .cells [(.i .i8 y.k), (.i .i64 y.n), (.s (nats y.s)), (.s (nats y.t)), (.es 57 (.r (rowsT y.l)))] 57 false)])) true, .eqb (Sx.inK .i64 (k + 1)) true, .pr (Sx.findK true (.s (Dat.str (List.getD (List.getD Q (Int.toNat k) []) 0 .o))) (ents R 0) 0 = some (some (ix0, (.b true)))), .eqb (Sx.inB k (List.length Q)) true, .eqb (decide (k < (List.length Q : Int))) true]) := by kernel_rfl
theorem L2_0 (x y : Tr) (a b c d e : Int) (R Q : List (List Dat)) (k : Int) (ix0 : Nat) (h0 : (decide (k < (List.length Q : Int))) = true) (s0 : (Sx.underT 8 (mkT [(5, .cells [(.i .i8 x.k), (.i .i64 x.n), (.s (nats x.s)), (.s (nats x.t)), (.es 57 (.r (rowsT x.l)))] 57 false), (6, .mp (ents R 0) (List.length R)), (7, .cells [(.i .i8 y.k), (.i .i64 y.n), (.s (nats y.s)), (.s (nats y.t)), (.es 57 (.r (rowsT y.l)))] 57 false)])) = true) (s1 : (Sx.inK .i64 (k + 1)) = true) (s2 : (Sx.findK true (.s (Dat.str (List.getD (List.getD Q (Int.toNat k) []) 0 .o))) (ents R 0) 0 = some (some (ix0, (.b true))))) (s3 : (Sx.inB k (List.length Q)) = true) {EX : EX} {EE : Trie TV} {ET : Trie TB} {EN : Nat} (more : LoopC Tryz.prog rho lp6_2 (mkE [(2, (.b false)), (1, (.p 5 0)), (3, (.i .i64 a)), (4, (.i .i64 b)), (5, (.i .i64 c)), (6, (.i .i64 d)), (8, (.m 6)), (58, (.es 57 (.r (rowsT x.l)))), (59, (.i .i64 (List.length (rowsT x.l) : Int))), (60, (.i .i64 e)), (77, (.es 9 (.r Q))), (78, (.i .i64 (List.length Q : Int))), (79, (.i .i64 (k + 1)))]) (mkT [(5, .cells [(.i .i8 x.k), (.i .i64 x.n), (.s (nats x.s)), (.s (nats x.t)), (.es 57 (.r (rowsT x.l)))] 57 false), (6, .mp (ents R 0) (List.length R)), (7, .cells [(.i .i8 y.k), (.i .i64 y.n), (.s (nats y.s)), (.s (nats y.t)), (.es 57 (.r (rowsT y.l)))] 57 false)]) 8 EX EE ET EN) : LoopC Tryz.prog rho lp6_2 (mkE [(2, (.b false)), (1, (.p 5 0)), (3, (.i .i64 a)), (4, (.i .i64 b)), (5, (.i .i64 c)), (6, (.i .i64 d)), (8, (.m 6)), (58, (.es 57 (.r (rowsT x.l)))), (59, (.i .i64 (List.length (rowsT x.l) : Int))), (60, (.i .i64 e)), (77, (.es 9 (.r Q))), (78, (.i .i64 (List.length Q : Int))), (79, (.i .i64 k))]) (mkT [(5, .cells [(.i .i8 x.k), (.i .i64 x.n), (.s (nats x.s)), (.s (nats x.t)), (.es 57 (.r (rowsT x.l)))] 57 false), (6, .mp (ents R 0) (List.length R)), (7, .cells [(.i .i8 y.k), (.i .i64 y.n), (.s (nats y.s)), (.s (nats y.t)), (.es 57 (.r (rowsT y.l)))] 57 false)]) 8 EX EE ET EN :=
  lp_more (L2_0r x y a b c d e R Q k ix0) ⟨(of_eqb (by kernel_rfl)), s0, s1, s2, s3, h0, trivial⟩ more
theorem L2_1r (x y : Tr) (a b c d e : Int) (R Q : List (List Dat)) (k : Int) : bodyO 5 mth cal 1000 lp6_2 [2, 1, 3, 4, 5, 6, 8, 58, 59, 60, 77, 78, 79] 8 (mkE [(2, (.b false)), (1, (.p 5 0)), (3, (.i .i64 a)), (4, (.i .i64 b)), (5, (.i .i64 c)), (6, (.i .i64 d)), (8, (.m 6)), (58, (.es 57 (.r (rowsT x.l)))), (59, (.i .i64 (List.length (rowsT x.l) : Int))), (60, (.i .i64 e)), (77, (.es 9 (.r Q))), (78, (.i .i64 (List.length Q : Int))), (79, (.i .i64 k))]) (mkT [(5, .cells [(.i .i8 x.k), (.i .i64 x.n), (.s (nats x.s)), (.s (nats x.t)), (.es 57 (.r (rowsT x.l)))] 57 false), (6, .mp (ents R 0) (List.length R)), (7, .cells [(.i .i8 y.k), (.i .i64 y.n), (.s (nats y.s)), (.s (nats y.t)), (.es 57 (.r (rowsT y.l)))] 57 false)]) 8 [.br true, .mf none] = some (.ret, (mkE [(2, (.b false)), (1, (.p 5 0)), (3, (.i .i64 a)), (4, (.i .i64 b)), (5, (.i .i64 c)), (6, (.i .i64 d)), (8, (.m 6)), (58, (.es 57 (.r (rowsT x.l)))), (59, (.i .i64 (List.length (rowsT x.l) : Int))), (60, (.i .i64 e)), (77, (.es 9 (.r Q))), (78, (.i .i64 (List.length Q : Int))), (79, (.i .i64 k))]), (mkT [(5, .cells [(.i .i8 x.k), (.i .i64 x.n), (.s (nats x.s)), (.s (nats x.t)), (.es 57 (.r (rowsT x.l)))] 57 false), (6, .mp (ents R 0) (List.length R)), (7, .cells [(.i .i8 y.k), (.i .i64 y.n), (.s (nats y.s)), (.s (nats y.t)), (.es 57 (.r (rowsT y.l)))] 57 false)]), [.eqb (Sx.underK 8 (mkE [(2, (.b false)), (1, (.p 5 0)), (3, (.i .i64 a)), (4, (.i .i64 b)), (5, (.i .i64 c)), (6, (.i .i64 d)), (8, (.m 6)), (58, (.es 57 (.r (rowsT x.l)))), (59, (.i .i64 (List.length (rowsT x.l) : Int))), (60, (.i .i64 e)), (77, (.es 9 (.r Q))), (78, (.i .i64 (List.length Q : Int))), (79, (.i .i64 k))]) [2, 1, 3, 4, 5, 6, 8, 58, 59, 60, 77, 78, 79]) true, .eqb (Sx.underT 8 (mkT [(5, .cells [(.i .i8 x.k), (.i .i64 x.n), (.s (nats x.s)), (.s (nats x.t)), (.es 57 (.r (rowsT x.l)))] 57 false), (6, .mp (ents R 0) (List.length R)), (7, .cells [(.i .i8 y.k), (.i .i64 y.n), (.s (nats y.s)), (.s (nats y.t)), (.es 57 (.r (rowsT y.l)))] 57 false)])) true, .pr (Sx.findK true (.s (Dat.str (List.getD (List.getD Q (Int.toNat k) []) 0 .o))) (ents R 0) 0 = some none), .eqb (Sx.inB k (List.length Q)) true, .eqb (decide (k < (List.length Q : Int))) true]) := by kernel_rfl
theorem L2_1 (x y : Tr) (a b c d e : Int) (R Q : List (List Dat)) (k : Int) (h0 : (decide (k < (List.length Q : Int))) = true) (s0 : (Sx.underT 8 (mkT [(5, .cells [(.i .i8 x.k), (.i .i64 x.n), (.s (nats x.s)), (.s (nats x.t)), (.es 57 (.r (rowsT x.l)))] 57 false), (6, .mp (ents R 0) (List.length R)), (7, .cells [(.i .i8 y.k), (.i .i64 y.n), (.s (nats y.s)), (.s (nats y.t)), (.es 57 (.r (rowsT y.l)))] 57 false)])) = true) (s1 : (Sx.findK true (.s (Dat.str (List.getD (List.getD Q (Int.toNat k) []) 0 .o))) (ents R 0) 0 = some none)) (s2 : (Sx.inB k (List.length Q)) = true) : LoopC Tryz.prog rho lp6_2 (mkE [(2, (.b false)), (1, (.p 5 0)), (3, (.i .i64 a)), (4, (.i .i64 b)), (5, (.i .i64 c)), (6, (.i .i64 d)), (8, (.m 6)), (58, (.es 57 (.r (rowsT x.l)))), (59, (.i .i64 (List.length (rowsT x.l) : Int))), (60, (.i .i64 e)), (77, (.es 9 (.r Q))), (78, (.i .i64 (List.length Q : Int))), (79, (.i .i64 k))]) (mkT [(5, .cells [(.i .i8 x.k), (.i .i64 x.n), (.s (nats x.s)), (.s (nats x.t)), (.es 57 (.r (rowsT x.l)))] 57 false), (6, .mp (ents R 0) (List.length R)), (7, .cells [(.i .i8 y.k), (.i .i64 y.n), (.s (nats y.s)), (.s (nats y.t)), (.es 57 (.r (rowsT y.l)))] 57 false)]) 8 .ret (mkE [(2, (.b false)), (1, (.p 5 0)), (3, (.i .i64 a)), (4, (.i .i64 b)), (5, (.i .i64 c)), (6, (.i .i64 d)), (8, (.m 6)), (58, (.es 57 (.r (rowsT x.l)))), (59, (.i .i64 (List.length (rowsT x.l) : Int))), (60, (.i .i64 e)), (77, (.es 9 (.r Q))), (78, (.i .i64 (List.length Q : Int))), (79, (.i .i64 k))]) (mkT [(5, .cells [(.i .i8 x.k), (.i .i64 x.n), (.s (nats x.s)), (.s (nats x.t)), (.es 57 (.r (rowsT x.l)))] 57 false), (6, .mp (ents R 0) (List.length R)), (7, .cells [(.i .i8 y.k), (.i .i64 y.n), (.s (nats y.s)), (.s (nats y.t)), (.es 57 (.r (rowsT y.l)))] 57 false)]) 8 :=
  lp_end (L2_1r x y a b c d e R Q k) (by simp) ⟨(of_eqb (by kernel_rfl)), s0, s1, s2, h0, trivial⟩
theorem L2_2r (x y : Tr) (a b c d e : Int) (R Q : List (List Dat)) (k : Int) : bodyO 5 mth cal 1000 lp6_2 [2, 1, 3, 4, 5, 6, 8, 58, 59, 60, 77, 78, 79] 8 (mkE [(2, (.b false)), (1, (.p 5 0)), (3, (.i .i64 a)), (4, (.i .i64 b)), (5, (.i .i64 c)), (6, (.i .i64 d)), (8, (.m 6)), (58, (.es 57 (.r (rowsT x.l)))), (59, (.i .i64 (List.length (rowsT x.l) : Int))), (60, (.i .i64 e)), (77, (.es 9 (.r Q))), (78, (.i .i64 (List.length Q : Int))), (79, (.i .i64 k))]) (mkT [(5, .cells [(.i .i8 x.k), (.i .i64 x.n), (.s (nats x.s)), (.s (nats x.t)), (.es 57 (.r (rowsT x.l)))] 57 false), (6, .mp (ents R 0) (List.length R)), (7, .cells [(.i .i8 y.k), (.i .i64 y.n), (.s (nats y.s)), (.s (nats y.t)), (.es 57 (.r (rowsT y.l)))] 57 false)]) 8 [.br false] = some ((.exit 4), (mkE [(2, (.b false)), (1, (.p 5 0)), (3, (.i .i64 a)), (4, (.i .i64 b)), (5, (.i .i64 c)), (6, (.i .i64 d)), (8, (.m 6)), (58, (.es 57 (.r (rowsT x.l)))), (59, (.i .i64 (List.length (rowsT x.l) : Int))), (60, (.i .i64 e)), (77, (.es 9 (.r Q))), (78, (.i .i64 (List.length Q : Int))), (79, (.i .i64 k))]), (mkT [(5, .cells [(.i .i8 x.k), (.i .i64 x.n), (.s (nats x.s)), (.s (nats x.t)), (.es 57 (.r (rowsT x.l)))] 57 false), (6, .mp (ents R 0) (List.length R)), (7, .cells [(.i .i8 y.k), (.i .i64 y.n), (.s (nats y.s)), (.s (nats y.t)), (.es 57 (.r (rowsT y.l)))] 57 false)]), [.eqb (Sx.underK 8 (mkE [(2, (.b false)), (1, (.p 5 0)), (3, (.i .i64 a)), (4, (.i .i64 b)), (5, (.i .i64 c)), (6, (.i .i64 d)), (8, (.m 6)), (58, (.es 57 (.r (rowsT x.l)))), (59, (.i .i64 (List.length (rowsT x.l) : Int))), (60, (.i .i64 e)), (77, (.es 9 (.r Q))), (78, (.i .i64 (List.length Q : Int))), (79, (.i .i64 k))]) [2, 1, 3, 4, 5, 6, 8, 58, 59, 60, 77, 78, 79]) true, .eqb (Sx.underT 8 (mkT [(5, .cells [(.i .i8 x.k), (.i .i64 x.n), (.s (nats x.s)), (.s (nats x.t)), (.es 57 (.r (rowsT x.l)))] 57 false), (6, .mp (ents R 0) (List.length R)), (7, .cells [(.i .i8 y.k), (.i .i64 y.n), (.s (nats y.s)), (.s (nats y.t)), (.es 57 (.r (rowsT y.l)))] 57 false)])) true, .eqb (decide (k < (List.length Q : Int))) false]) := by kernel_rfl
theorem L2_2 (x y : Tr) (a b c d e : Int) (R Q : List (List Dat)) (k : Int) (h0 : (decide (k < (List.length Q : Int))) = false) (s0 : (Sx.underT 8 (mkT [(5, .cells [(.i .i8 x.k), (.i .i64 x.n), (.s (nats x.s)), (.s (nats x.t)), (.es 57 (.r (rowsT x.l)))] 57 false), (6, .mp (ents R 0) (List.length R)), (7, .cells [(.i .i8 y.k), (.i .i64 y.n), (.s (nats y.s)), (.s (nats y.t)), (.es 57 (.r (rowsT y.l)))] 57 false)])) = true) : LoopC Tryz.prog rho lp6_2 (mkE [(2, (.b false)), (1, (.p 5 0)), (3, (.i .i64 a)), (4, (.i .i64 b)), (5, (.i .i64 c)), (6, (.i .i64 d)), (8, (.m 6)), (58, (.es 57 (.r (rowsT x.l)))), (59, (.i .i64 (List.length (rowsT x.l) : Int))), (60, (.i .i64 e)), (77, (.es 9 (.r Q))), (78, (.i .i64 (List.length Q : Int))), (79, (.i .i64 k))]) (mkT [(5, .cells [(.i .i8 x.k), (.i .i64 x.n), (.s (nats x.s)), (.s (nats x.t)), (.es 57 (.r (rowsT x.l)))] 57 false), (6, .mp (ents R 0) (List.length R)), (7, .cells [(.i .i8 y.k), (.i .i64 y.n), (.s (nats y.s)), (.s (nats y.t)), (.es 57 (.r (rowsT y.l)))] 57 false)]) 8 (.exit 4) (mkE [(2, (.b false)), (1, (.p 5 0)), (3, (.i .i64 a)), (4, (.i .i64 b)), (5, (.i .i64 c)), (6, (.i .i64 d)), (8, (.m 6)), (58, (.es 57 (.r (rowsT x.l)))), (59, (.i .i64 (List.length (rowsT x.l) : Int))), (60, (.i .i64 e)), (77, (.es 9 (.r Q))), (78, (.i .i64 (List.length Q : Int))), (79, (.i .i64 k))]) (mkT [(5, .cells [(.i .i8 x.k), (.i .i64 x.n), (.s (nats x.s)), (.s (nats x.t)), (.es 57 (.r (rowsT x.l)))] 57 false), (6, .mp (ents R 0) (List.length R)), (7, .cells [(.i .i8 y.k), (.i .i64 y.n), (.s (nats y.s)), (.s (nats y.t)), (.es 57 (.r (rowsT y.l)))] 57 false)]) 8 :=
  lp_end (L2_2r x y a b c d e R Q k) (by simp) ⟨(of_eqb (by kernel_rfl)), s0, h0, trivial⟩
theorem ents_snoc : ∀ (R : List (List Dat)) (r : List Dat) (n : Nat), ents (R ++ [r]) n = ents R n ++ [(.s (Dat.str (List.getD r 0 .o)), .b true, n + R.length)]
  | [], r, n => rfl
  | q :: R, r, n => by
    show _ :: ents (R ++ [r]) (n + 1) = _ :: (ents R (n + 1) ++ _)
    rw [ents_snoc R r (n + 1)]
    simp [Nat.add_comm, Nat.add_left_comm]
theorem find_no {s : List Nat} : ∀ {R : List (List Dat)} {n i : Nat}, (∀ r, r ∈ R → s ≠ Dat.str (List.getD r 0 .o)) → Sx.findK true (.s s) (ents R n) i = some none
  | [], _, _, _ => rfl
  | r :: R, n, i, h => by
    unfold ents Sx.findK Sx.keyEq
    simp only [lEq_dec]
    rw [decide_eq_false (h r (by simp))]
    exact find_no fun q hq => h q (List.mem_cons_of_mem _ hq)
theorem find_yes {s : List Nat} : ∀ {R : List (List Dat)} {n i : Nat}, (∃ r, r ∈ R ∧ s = Dat.str (List.getD r 0 .o)) → ∃ ix, Sx.findK true (.s s) (ents R n) i = some (some (ix, .b true))
  | [], _, _, h => by obtain ⟨r, h, _⟩ := h; cases h
  | r :: R, n, i, h => by
    unfold ents Sx.findK Sx.keyEq
    simp only [lEq_dec]
    by_cases e : s = Dat.str (List.getD r 0 .o)
    · rw [decide_eq_true e]
      exact ⟨i, rfl⟩
    · rw [decide_eq_false e]
      obtain ⟨q, h1, h2⟩ := h
      rcases List.mem_cons.1 h1 with rfl | h1
      · exact absurd h2 e
      · exact find_yes ⟨q, h1, h2⟩
theorem mp_succ {S : List ByteArray} {n : Nat} (h : n < S.length) : mp0 (strR S) (n + 1) = mp0 (strR S) n ++ [(.s (Dat.str (List.getD (List.getD (strR S) (Int.toNat (n : Int)) []) 0 .o)), .b true, n)] := by
  have hl : n < (strR S).length := by rw [strR_len]; exact h
  unfold mp0
  rw [List.take_succ_eq_append_getElem hl, ents_snoc]
  have e : List.getD (strR S) (Int.toNat (n : Int)) [] = (strR S)[n] := by simp [List.getD_eq_getElem?_getD, hl]
  rw [e]
  simp [Nat.min_eq_left (Nat.le_of_lt hl)]
theorem mp_all (R : List (List Dat)) : mp0 R R.length = ents R 0 := by unfold mp0; rw [List.take_length]
theorem nnl_app (a b : List Tr) : nnl (a ++ b) = nnl a + nnl b := by
  induction a with
  | nil => simp [nnl]
  | cons y r ih => rw [List.cons_append, nnl, nnl, ih]; omega
theorem hhl_app (a b : List Tr) : hhl (a ++ b) = max (hhl a) (hhl b) := by
  induction a with
  | nil => have := nnl_pos b; simp only [List.nil_append, hhl]; omega
  | cons y r ih => rw [List.cons_append, hhl, hhl, ih]; omega
theorem fits_sz {x : Tr} (h : fitsB x = true) : x.sz 4097 = nn x ∧ x.dp 65 = hh x := by
  rw [fits_iff] at h
  rw [sz_nn x 4097 (by omega), dp_hh x 65 (by omega)]
  omega
abbrev cl1 (x : Tr) : TB := .cells [.i .i8 x.k, .i .i64 x.n, .s (nats x.s), .s (nats x.t), .es 57 (.r (rowsT x.l))] 57 false
abbrev T1 (x : Tr) (E : List (TV × TV × Nat)) (n : Nat) : Trie TB := mkT [(5, cl1 x), (6, .mp E n)]
abbrev E0 (a b : Int) (R : List (List Dat)) (n : Int) : Trie TV := mkE [(2, .b false), (1, .p 5 0), (3, .i .i64 a), (4, .i .i64 b), (5, .i .i64 1), (6, .i .i64 1), (8, .m 6), (41, .es 9 (.r R)), (42, .i .i64 (List.length R : Int)), (43, .i .i64 n)]
abbrev E1 (x : Tr) (a b c d : Int) (k : Int) : Trie TV := mkE [(2, .b false), (1, .p 5 0), (3, .i .i64 a), (4, .i .i64 b), (5, .i .i64 c), (6, .i .i64 d), (8, .m 6), (58, .es 57 (.r (rowsT x.l))), (59, .i .i64 (List.length (rowsT x.l) : Int)), (60, .i .i64 k)]
abbrev E2 (x : Tr) (a b c d e : Int) (Q : List (List Dat)) (k : Int) : Trie TV := mkE [(2, .b false), (1, .p 5 0), (3, .i .i64 a), (4, .i .i64 b), (5, .i .i64 c), (6, .i .i64 d), (8, .m 6), (58, .es 57 (.r (rowsT x.l))), (59, .i .i64 (List.length (rowsT x.l) : Int)), (60, .i .i64 e), (77, .es 9 (.r Q)), (78, .i .i64 (List.length Q : Int)), (79, .i .i64 k)]
theorem und_ents {m : Nat} : ∀ (R : List (List Dat)) (n : Nat), Sx.underM m (ents R n) = true
  | [], _ => rfl
  | r :: q, n => by
    show cond (TV.under m (.s _)) (cond (TV.under m (.b true)) (Sx.underM m (ents q (n + 1))) false) false = true
    rw [und_ents q (n + 1)]; rfl
theorem und_app {m : Nat} : ∀ (a b : List (TV × TV × Nat)), Sx.underM m a = true → Sx.underM m b = true → Sx.underM m (a ++ b) = true
  | [], _, _, h => h
  | x :: a, b, h, h2 => by
    obtain ⟨f1, f2⟩ := cond_and (by simpa only [Sx.underM] using h)
    obtain ⟨f3, f4⟩ := cond_and f2
    show cond (x.1.under m) (cond (x.2.1.under m) (Sx.underM m (a ++ b)) false) false = true
    rw [f1, f3, und_app a b f4 h2]; rfl
theorem und1 {x : Tr} {E : List (TV × TV × Nat)} {n : Nat} (h : Sx.underM 7 E = true) : Sx.underT 7 (T1 x E n) = true := underT_mkT fun p hp => by
  simp only [List.mem_cons, List.not_mem_nil, or_false] at hp
  rcases hp with rfl | rfl
  · rfl
  · exact h
theorem und2 {x y : Tr} {E : List (TV × TV × Nat)} {n : Nat} (h : Sx.underM 8 E = true) : Sx.underT 8 (mkT [(5, cl1 x), (6, .mp E n), (7, cl1 y)]) = true := underT_mkT fun p hp => by
  simp only [List.mem_cons, List.not_mem_nil, or_false] at hp
  rcases hp with rfl | rfl | rfl
  · rfl
  · exact h
  · rfl
theorem L0_run {x : Tr} {a b : Int} {S : List ByteArray} (h1 : S.Nodup) (h2 : ∀ s, s ∈ S → nats s ≠ [95]) (h3 : S.length ≤ 4096) : ∀ m n : Nat, n + m = S.length →
    LoopC Tryz.prog rho lp6_0 (E0 a b (strR S) n) (T1 x (mp0 (strR S) n) n) 7 (.exit 0) (E0 a b (strR S) (S.length : Int)) (T1 x (ents (strR S) 0) (strR S).length) 7 := by
  intro m
  induction m with
  | zero =>
    intro n hn
    obtain rfl : n = (strR S).length := by rw [strR_len]; omega
    have q := L0_3 x a b (strR S) (strR S).length (by simp) (und1 (und_ents _ _))
    rw [mp_all] at q ⊢
    rw [show (S.length : Int) = ((strR S).length : Int) from by rw [strR_len]]
    exact q
  | succ m ih =>
    intro n hn
    have hlt : n < S.length := by omega
    have more := ih (n + 1) (by omega)
    rw [mp_succ hlt] at more
    refine L0_2 x a b (strR S) n (by rw [strR_len]; simp; omega) ?_ (und1 (und_app _ _ (und_ents _ _) rfl)) (C1.h_k (by omega) (by omega)) ?_ (by rw [strR_len]; unfold Sx.inB; simp; omega) more
    · rw [strR_at hlt]
      exact decide_eq_false (h2 _ (List.getElem_mem hlt))
    · refine find_no fun r hr => ?_
      rw [strR_at hlt]
      obtain ⟨i, hi, rfl⟩ := List.getElem_of_mem hr
      have hi' : i < n := by
        have := hi
        rw [List.length_take] at this
        omega
      have e : ((strR S).take n)[i] = [.s (nats (S[i]'(by omega)))] := by simp [strR]
      rw [e]
      intro q
      have q : nats S[n] = nats (S[i]'(by omega)) := q
      have := (List.getElem_inj h1).1 (nats_inj q)
      omega
theorem L2_run {x y : Tr} {a b c d e : Int} {R : List (List Dat)} {Q : List ByteArray} (h : ∀ s, s ∈ Q → ∃ r, r ∈ R ∧ nats s = Dat.str (List.getD r 0 .o)) (hQ : Q.length ≤ 4096) : ∀ m n : Nat, n + m = Q.length →
    LoopC Tryz.prog rho lp6_2 (E2 x a b c d e (strR Q) n) (mkT [(5, cl1 x), (6, .mp (ents R 0) R.length), (7, cl1 y)]) 8 (.exit 4) (E2 x a b c d e (strR Q) (Q.length : Int)) (mkT [(5, cl1 x), (6, .mp (ents R 0) R.length), (7, cl1 y)]) 8 := by
  intro m
  induction m with
  | zero =>
    intro n hn
    obtain rfl : n = Q.length := by omega
    exact L2_2 x y a b c d e R (strR Q) Q.length (by rw [strR_len]; simp) (und2 (und_ents _ _))
  | succ m ih =>
    intro n hn
    have hlt : n < Q.length := by omega
    obtain ⟨ix, hf⟩ := find_yes (n := 0) (i := 0) (h _ (List.getElem_mem hlt))
    refine L2_0 x y a b c d e R (strR Q) n ix (by rw [strR_len]; simp; omega) (und2 (und_ents _ _)) (C1.h_k (by omega) (by omega)) ?_ (by rw [strR_len]; unfold Sx.inB; simp; omega) (ih (n + 1) (by omega))
    rw [strR_at hlt]
    exact hf
theorem maxE (d e : Int) : cond (Sx.ilt d e) e d = max d e := by
  have : Sx.ilt d e = decide (d < e) := ilt_eq d e
  rw [this]
  by_cases h : d < e
  · simp [h]; omega
  · simp [h]; omega
theorem L1_run {x : Tr} {a b : Int} (hx : TrOk x) (hf : fitsB x = true) : ∀ m k : Nat, k + m = x.l.length →
    LoopC Tryz.prog rho lp6_1 (E1 x a b (1 + nnl (x.l.take k)) (1 + hhl (x.l.take k)) k) (T1 x (ents (strR (vT x)) 0) (strR (vT x)).length) 7 (.exit 2) (E1 x a b (nn x) (hh x) x.l.length) (T1 x (ents (strR (vT x)) 0) (strR (vT x)).length) 7 := by
  intro m
  induction m with
  | zero =>
    intro k hk
    obtain rfl : k = x.l.length := by omega
    rw [List.take_length, ← nn_eq, ← hh_eq]
    exact L1_1 x a b _ _ _ _ (C1.h_out rfl) (und1 (und_ents _ _))
  | succ m ih =>
    intro k hk
    have hlt : k < x.l.length := by omega
    have hm := List.getElem_mem hlt
    have hk' := fits_kid hm hf
    obtain ⟨z1, z2⟩ := fits_sz hk'
    have b1 := (fits_iff x).1 hf
    have b2 := (fits_iff _).1 hk'
    have ex := nn_eq x
    have ehx := hh_eq x
    have p0 := nn_pos x.l[k]
    have c1 := nnl_pos (x.l.take k)
    have c2 := nnl_pos (x.l.drop k)
    have c3 := nnl_app (x.l.take k) (x.l.drop k)
    have c4 := hhl_app (x.l.take k) (x.l.drop k)
    rw [List.take_append_drop] at c3 c4
    have t1 : nnl (x.l.take (k + 1)) = nnl (x.l.take k) + nn x.l[k] := by
      rw [List.take_succ_eq_append_getElem hlt, nnl_app]; simp [nnl]
    have t2 : hhl (x.l.take (k + 1)) = max (hhl (x.l.take k)) (hh x.l[k]) := by
      rw [List.take_succ_eq_append_getElem hlt, hhl_app]; simp only [hhl]; omega
    have more := ih (k + 1) (by omega)
    rw [t1, t2] at more
    have q := L2_run (x := x) (y := x.l[k]) (a := a) (b := b) (c := 1 + nnl (x.l.take k) + nn x.l[k]) (d := 1 + max (hhl (x.l.take k)) (hh x.l[k])) (e := (k : Int)) (R := strR (vT x)) (Q := vT x.l[k])
      (fun s hs => ⟨[.s (nats s)], List.mem_map.2 ⟨s, vT_kid hf hm hs, rfl⟩, rfl⟩) (vT_len _) _ 0 (Nat.zero_add _)
    have e1 : (1 : Int) + (nnl (x.l.take k) + nn x.l[k]) = 1 + nnl (x.l.take k) + nn x.l[k] := by omega
    have e2 : cond (Sx.ilt (1 + hhl (x.l.take k)) (hh x.l[k] + 1)) (hh x.l[k] + 1) (1 + hhl (x.l.take k)) = 1 + max (hhl (x.l.take k)) (hh x.l[k]) := by rw [maxE]; omega
    rw [e1] at more
    rw [← e2] at q more
    have sz := Size_pu _ (hx.kid hm)
    rw [z1, z2] at sz
    refine L1_0 x a b _ _ (strR (vT x)) k (nn x.l[k]) (hh x.l[k]) (strR (vT x.l[k])) ((vT x.l[k]).length : Int) (C1.h_in hlt) (und1 (und_ents _ _)) (C1.h_k' hx.len hlt) ?_ ?_ ?_ (C1.inK_small (by omega) (by omega)) (C1.inK_small (by omega) (by omega)) ?_ (C1.h_b hlt) more
    · rw [C1.at_row hlt]; exact q
    · rw [C1.at_row hlt]; exact und2 (und_ents _ _)
    · rw [C1.at_row hlt]; exact vars_pu _ (hx.kid hm)
    · rw [C1.at_row hlt]; exact sz
theorem fits_of2 {x : Tr} (h1 : decide (4096 < x.sz 4097) = false) (h2 : decide (64 < x.dp 65) = false) : fitsB x = true := by
  unfold fitsB
  simp only [decide_eq_false_iff_not] at h1 h2
  rw [decide_eq_true (by omega : x.sz 4097 ≤ 4096), decide_eq_true (by omega : x.dp 65 ≤ 64)]; rfl
theorem size_law (x : Tr) (hx : TrOk x) : Pu 6 [agV x] (.b true) := by
  have q : ∃ b, Pu 6 [agV x] (.b b) ∧ b = true := by
    apply Exists.intro
    apply And.intro
    · apply as0 x (decide (8192 ≤ x.sz 8192)) true (x.sz 4097) (x.dp 65) (strR (vT x)) ((vT x).length : Int) (nn x) (hh x) (x.l.length : Int)
      all_goals intros
      all_goals first
        | exact und1 (und_ents _ _)
        | exact C1.great_pu x hx
        | exact C1.wakes_pu
        | exact Size_pu x hx
        | exact vars_pu x hx
        | exact L0_run (vT_once x) (fun s hs => vT_und hs) (vT_len x) _ 0 (Nat.zero_add _)
        | (rename_i h1 h2; exact L1_run hx (fits_of2 h1 h2) _ 0 (Nat.zero_add _))
    · cases h1 : decide (4096 < x.sz 4097) with
      | true =>
        have hb : fitsB x = false := by unfold fitsB; rw [show decide (x.sz 4097 ≤ 4096) = false from decide_eq_false (by have := of_decide_eq_true h1; omega)]; rfl
        rw [vT_big hb]
        cases decide (8192 ≤ x.sz 8192) <;> rfl
      | false =>
        cases h2 : decide (64 < x.dp 65) with
        | true =>
          have hb : fitsB x = false := by unfold fitsB; rw [show decide (x.dp 65 ≤ 64) = false from decide_eq_false (by have := of_decide_eq_true h2; omega), Bool.and_false]
          rw [vT_big hb]
          cases decide (8192 ≤ x.sz 8192) <;> rfl
        | false =>
          obtain ⟨z1, z2⟩ := fits_sz (fits_of2 h1 h2)
          rw [z1, z2]
          simp
  obtain ⟨b, q, rfl⟩ := q
  exact q
end Go.Proofs.YtdjafnjmkkagjaaGreatDoor.Oa.C3

