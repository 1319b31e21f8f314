/-
  ast.each; ints.Arith, ints.Compare, ast.compares: what they tell of data. Conditions: as said.
-/
import Derived.Test.YtdjafnjmkkagjaaGreatDoorOa1
namespace Go.Proofs.YtdjafnjmkkagjaaGreatDoor.Oa.B1
open Go.RowKit Sx
set_option maxRecDepth 100000
def lp73_0 : IC := (.seq (.reg [⟨some 9, none, .bop .lss (.t 8) (.t 7)⟩])
  (.seq (.cond (.t 9) .skip
  (.exit 0))
  (.seq (.blk 1 (.seq (.reg [⟨some 10, none, .mv (.t 8)⟩,
  ⟨some 5, none, .mv (.t 10)⟩])
  (.seq (.reg [⟨some 11, none, .mv (.t 1)⟩,
  ⟨some 12, none, .mv (.t 0)⟩,
  ⟨some 13, none, .mv (.t 5)⟩,
  ⟨some 14, none, .ia 5 (.t 12) (.t 13)⟩,
  ⟨some 15, none, .callv (.t 11) [(.t 14)]⟩,
  ⟨some 16, none, .un .not (.t 15)⟩])
  (.cond (.t 16) (.seq (.reg [⟨some 4, none, .mv (.c (.b false))⟩])
  .ret)
  .skip))))
  (.reg [⟨some 17, none, .bop .add (.t 8) (.c (.i .i64 1))⟩,
  ⟨some 8, none, .mv (.t 17)⟩]))))
def ir73 : XF := ⟨18, 2, [(4, none)], (.seq (.reg [⟨some 4, none, .mv (.c (.b false))⟩])
  (.seq (.seq (.reg [⟨some 6, none, .mv (.t 0)⟩,
  ⟨some 7, none, .len 1 (.t 6)⟩,
  ⟨some 8, none, .mv (.c (.i .i64 0))⟩])
  (.blk 0 (.loop lp73_0)))
  (.seq (.reg [⟨some 4, none, .mv (.c (.b true))⟩])
  .ret)))⟩

theorem irc73 : cFunc Tryz.prog Tryz.f73 = some ir73 := by kernel_rfl
def ir129 : XF := ⟨12, 1, [(2, none)], (.seq (.reg [⟨some 2, none, .mv (.c (.b false))⟩])
  (.seq (.reg [⟨some 6, none, .call 186 []⟩,
  ⟨some 7, none, .mv (.t 0)⟩,
  ⟨some 8, none, .lk true true .fn (.t 6) (.t 7)⟩,
  ⟨some 5, none, .mv (.t 8)⟩,
  ⟨some 9, none, .ex (.t 5) 0⟩,
  ⟨some 10, none, .ex (.t 5) 1⟩,
  ⟨some 3, none, .mv (.t 9)⟩,
  ⟨some 4, none, .mv (.t 10)⟩])
  (.seq (.reg [⟨some 11, none, .mv (.t 4)⟩,
  ⟨some 2, none, .mv (.t 11)⟩])
  .ret)))⟩

theorem irc129 : cFunc Tryz.prog Tryz.f129 = some ir129 := by kernel_rfl
def ir186 : XF := ⟨5, 0, [(0, none)], (.seq (.reg [⟨some 0, none, .mv (.c .mn)⟩])
  (.seq (.reg [⟨some 1, none, .mkm⟩,
  ⟨none, none, .ins true (.t 1) (.c (.s [43])) (.c (.f (.func 204) [] []))⟩,
  ⟨none, none, .ins true (.t 1) (.c (.s [45])) (.c (.f (.func 205) [] []))⟩,
  ⟨none, none, .ins true (.t 1) (.c (.s [42])) (.c (.f (.func 206) [] []))⟩,
  ⟨some 2, none, .call 207 [(.c (.f (.func 208) [] []))]⟩,
  ⟨none, none, .ins true (.t 1) (.c (.s [100, 105, 118])) (.t 2)⟩,
  ⟨some 3, none, .call 207 [(.c (.f (.func 209) [] []))]⟩,
  ⟨none, none, .ins true (.t 1) (.c (.s [114, 101, 109])) (.t 3)⟩,
  ⟨some 4, none, .mv (.t 1)⟩,
  ⟨some 0, none, .mv (.t 4)⟩])
  .ret))⟩

theorem irc186 : cFunc Tryz.prog Tryz.f186 = some ir186 := by kernel_rfl
def ir207 : XF := ⟨4, 1, [(2, none)], (.seq (.reg [⟨some 1, none, .box 247 1 (.t 0)⟩,
  ⟨some 2, none, .mv (.c .fn)⟩])
  (.seq (.reg [⟨some 3, none, .mkf (.func 216) [] [(.t 1)]⟩,
  ⟨some 2, none, .mv (.t 3)⟩])
  .ret))⟩

theorem irc207 : cFunc Tryz.prog Tryz.f207 = some ir207 := by kernel_rfl
def ir187 : XF := ⟨30, 2, [(4, none), (5, none)], (.seq (.reg [⟨some 4, none, .mv (.c (.b false))⟩,
  ⟨some 5, none, .mv (.c (.b false))⟩])
  (.seq (.reg [⟨some 9, none, .mkm⟩,
  ⟨some 10, none, .bld [(.b false), (.b false), (.b false)] [(1, 1, (.c (.b true)))]⟩,
  ⟨none, none, .ins true (.t 9) (.c (.s [61, 58, 61])) (.t 10)⟩,
  ⟨some 11, none, .bld [(.b false), (.b false), (.b false)] [(0, 1, (.c (.b true))), (2, 1, (.c (.b true)))]⟩,
  ⟨none, none, .ins true (.t 9) (.c (.s [61, 47, 61])) (.t 11)⟩,
  ⟨some 12, none, .bld [(.b false), (.b false), (.b false)] [(0, 1, (.c (.b true)))]⟩,
  ⟨none, none, .ins true (.t 9) (.c (.s [60])) (.t 12)⟩,
  ⟨some 13, none, .bld [(.b false), (.b false), (.b false)] [(0, 1, (.c (.b true))), (1, 1, (.c (.b true)))]⟩,
  ⟨none, none, .ins true (.t 9) (.c (.s [61, 60])) (.t 13)⟩,
  ⟨some 14, none, .bld [(.b false), (.b false), (.b false)] [(2, 1, (.c (.b true)))]⟩,
  ⟨none, none, .ins true (.t 9) (.c (.s [62])) (.t 14)⟩,
  ⟨some 15, none, .bld [(.b false), (.b false), (.b false)] [(1, 1, (.c (.b true))), (2, 1, (.c (.b true)))]⟩,
  ⟨none, none, .ins true (.t 9) (.c (.s [62, 61])) (.t 15)⟩,
  ⟨some 16, none, .mv (.t 9)⟩,
  ⟨some 6, none, .mv (.t 16)⟩])
  (.seq (.reg [⟨some 18, none, .mv (.t 6)⟩,
  ⟨some 19, none, .mv (.t 0)⟩,
  ⟨some 20, none, .lk true true (.ag [(.b false), (.b false), (.b false)]) (.t 18) (.t 19)⟩,
  ⟨some 17, none, .mv (.t 20)⟩,
  ⟨some 21, none, .ex (.t 17) 0⟩,
  ⟨some 22, none, .ex (.t 17) 1⟩,
  ⟨some 7, none, .box 248 3 (.c (.ag [(.b false), (.b false), (.b false)]))⟩,
  ⟨none, none, .st 3 (.t 7) (.t 21)⟩,
  ⟨some 8, none, .mv (.t 22)⟩])
  (.seq (.reg [⟨some 23, none, .mv (.t 1)⟩,
  ⟨some 24, none, .mm true (.t 23) (.c (.i .i64 (-1)))⟩,
  ⟨some 25, none, .mm false (.t 24) (.c (.i .i64 1))⟩,
  ⟨some 26, none, .bop .add (.t 25) (.c (.i .i64 1))⟩,
  ⟨some 27, none, .iaA 3 1 (.t 7) (.t 26)⟩,
  ⟨some 28, none, .ld false 1 (.t 27)⟩,
  ⟨some 29, none, .mv (.t 8)⟩,
  ⟨some 4, none, .mv (.t 28)⟩,
  ⟨some 5, none, .mv (.t 29)⟩])
  .ret))))⟩

theorem irc187 : cFunc Tryz.prog Tryz.f187 = some ir187 := by kernel_rfl
def ir130 : XF := ⟨11, 1, [(2, none)], (.seq (.reg [⟨some 2, none, .mv (.c (.b false))⟩])
  (.seq (.reg [⟨some 6, none, .mv (.t 0)⟩,
  ⟨some 7, none, .call 187 [(.t 6), (.c (.i .i64 0))]⟩,
  ⟨some 5, none, .mv (.t 7)⟩,
  ⟨some 8, none, .ex (.t 5) 0⟩,
  ⟨some 9, none, .ex (.t 5) 1⟩,
  ⟨some 3, none, .mv (.t 8)⟩,
  ⟨some 4, none, .mv (.t 9)⟩])
  (.seq (.reg [⟨some 10, none, .mv (.t 4)⟩,
  ⟨some 2, none, .mv (.t 10)⟩])
  .ret)))⟩

theorem irc130 : cFunc Tryz.prog Tryz.f130 = some ir130 := by kernel_rfl
def ir162 : XF := ⟨9, 1, [(2, none)], (.seq (.reg [⟨some 2, none, .mv (.c (.b false))⟩])
  (.seq (.reg [⟨some 3, none, .mv (.t 0)⟩,
  ⟨some 4, none, .bop .geq (.t 3) (.c (.i .i64 (-576460752303423488)))⟩,
  ⟨some 5, none, .mv (.t 4)⟩,
  ⟨some 6, some (5, true), .mv (.t 0)⟩,
  ⟨some 7, some (5, true), .bop .leq (.t 6) (.c (.i .i64 576460752303423487))⟩,
  ⟨some 8, none, .pick (.t 5) (.t 7) (.c (.b false))⟩,
  ⟨some 2, none, .mv (.t 8)⟩])
  .ret))⟩

theorem irc162 : cFunc Tryz.prog Tryz.f162 = some ir162 := by kernel_rfl
def tabI : Trie XF := (.nd (.nd (.nd (.nd (.nd .lf none (.nd (.nd .lf none (.nd .lf (some ir207) .lf)) none .lf)) none .lf) none .lf) none .lf) none (.nd .lf none (.nd (.nd .lf none (.nd .lf none (.nd .lf none (.nd (.nd .lf (some ir186) .lf) none .lf)))) none .lf)))
def tabL : List (Nat × XF) := [(186, ir186), (207, ir207)]
theorem tabI_eq : tabI = ofList tabL := by kernel_rfl
theorem tabI_ok : TabOk Tryz.prog tabI := tab_of tabI_eq (by kernel_rfl) fun p hp => by
  simp only [tabL, List.mem_cons, List.not_mem_nil, or_false] at hp
  rcases hp with rfl | rfl
  · exact ⟨_, Tryz.func186, irc186⟩
  · exact ⟨_, Tryz.func207, irc207⟩
abbrev cal : CallT := run mth tabI noOrc 1000 20
theorem pu_of {f : Nat} {fn : Func} {x : XF} (hfn : Tryz.prog.funcs[f]? = some fn) (hc : cFunc Tryz.prog fn = some x) {args : List TV} {pa : List PA} {v : TV} {obs : List Ob} (hx : funO 5 mth cal 1000 x args pa = some (v, obs)) (hv : v.flat = true) (ho : Owes Tryz.prog rho obs) : Pu f args v :=
  pu_of' tabI_ok hfn hc hx hv ho
theorem lp_more {x : IC} {ks : List Nat} {m : Nat} {e e2 e' : Trie TV} {t t2 t' : Trie TB} {n n' : Nat} {pa : List PA} {ex : EX} {obs : List Ob} (hx : bodyO 5 mth cal 1000 x ks m e t n pa = some (.nrm, e2, t2, obs)) (ho : Owes Tryz.prog rho obs) (hl : LoopC Tryz.prog rho x e2 t2 m ex e' t' n') : LoopC Tryz.prog rho x e t n ex e' t' n' :=
  lp_more' tabI_ok hx ho hl
theorem lp_end {x : IC} {ks : List Nat} {m : Nat} {e e2 : Trie TV} {t t2 : Trie TB} {n : Nat} {pa : List PA} {ex : EX} {obs : List Ob} (hx : bodyO 5 mth cal 1000 x ks m e t n pa = some (ex, e2, t2, obs)) (hne : ex ≠ .nrm) (ho : Owes Tryz.prog rho obs) : LoopC Tryz.prog rho x e t n ex e2 t2 m :=
  lp_end' tabI_ok hx hne ho
theorem arith_0 (s : ByteArray) : funO 5 mth cal 1000 ir129 [(.s (nats s))] [.go, .go, .go, .br true] = some ((.b true), [.eqb (decide ((nats s) = ([43] : List Nat))) true]) := by kernel_rfl
theorem arith_1 (s : ByteArray) : funO 5 mth cal 1000 ir129 [(.s (nats s))] [.go, .go, .go, .br false, .br true] = some ((.b true), [.eqb (decide ((nats s) = ([45] : List Nat))) true, .eqb (decide ((nats s) = ([43] : List Nat))) false]) := by kernel_rfl
theorem arith_2 (s : ByteArray) : funO 5 mth cal 1000 ir129 [(.s (nats s))] [.go, .go, .go, .br false, .br false, .br true] = some ((.b true), [.eqb (decide ((nats s) = ([42] : List Nat))) true, .eqb (decide ((nats s) = ([45] : List Nat))) false, .eqb (decide ((nats s) = ([43] : List Nat))) false]) := by kernel_rfl
theorem arith_3 (s : ByteArray) : funO 5 mth cal 1000 ir129 [(.s (nats s))] [.go, .go, .go, .br false, .br false, .br false, .br true] = some ((.b true), [.eqb (decide ((nats s) = ([100, 105, 118] : List Nat))) true, .eqb (decide ((nats s) = ([42] : List Nat))) false, .eqb (decide ((nats s) = ([45] : List Nat))) false, .eqb (decide ((nats s) = ([43] : List Nat))) false]) := by kernel_rfl
theorem arith_4 (s : ByteArray) : funO 5 mth cal 1000 ir129 [(.s (nats s))] [.go, .go, .go, .br false, .br false, .br false, .br false, .br true] = some ((.b true), [.eqb (decide ((nats s) = ([114, 101, 109] : List Nat))) true, .eqb (decide ((nats s) = ([100, 105, 118] : List Nat))) false, .eqb (decide ((nats s) = ([42] : List Nat))) false, .eqb (decide ((nats s) = ([45] : List Nat))) false, .eqb (decide ((nats s) = ([43] : List Nat))) false]) := by kernel_rfl
theorem arith_5 (s : ByteArray) : funO 5 mth cal 1000 ir129 [(.s (nats s))] [.go, .go, .go, .br false, .br false, .br false, .br false, .br false] = some ((.b false), [.eqb (decide ((nats s) = ([114, 101, 109] : List Nat))) false, .eqb (decide ((nats s) = ([100, 105, 118] : List Nat))) false, .eqb (decide ((nats s) = ([42] : List Nat))) false, .eqb (decide ((nats s) = ([45] : List Nat))) false, .eqb (decide ((nats s) = ([43] : List Nat))) false]) := by kernel_rfl
theorem arith (s : ByteArray) : Pu 129 [(.s (nats s))] (.b (bif decide ((nats s) = ([43] : List Nat)) then true else (bif decide ((nats s) = ([45] : List Nat)) then true else (bif decide ((nats s) = ([42] : List Nat)) then true else (bif decide ((nats s) = ([100, 105, 118] : List Nat)) then true else (bif decide ((nats s) = ([114, 101, 109] : List Nat)) then true else false)))))) := by
  cases h0 : (decide ((nats s) = ([43] : List Nat)))
  case false =>
    cases h1 : (decide ((nats s) = ([45] : List Nat)))
    case false =>
      cases h2 : (decide ((nats s) = ([42] : List Nat)))
      case false =>
        cases h3 : (decide ((nats s) = ([100, 105, 118] : List Nat)))
        case false =>
          cases h4 : (decide ((nats s) = ([114, 101, 109] : List Nat)))
          case false =>
            exact pu_of Tryz.func129 irc129 (arith_5 s) rfl ⟨h4, h3, h2, h1, h0, trivial⟩
          case true =>
            exact pu_of Tryz.func129 irc129 (arith_4 s) rfl ⟨h4, h3, h2, h1, h0, trivial⟩
        case true =>
          exact pu_of Tryz.func129 irc129 (arith_3 s) rfl ⟨h3, h2, h1, h0, trivial⟩
      case true =>
        exact pu_of Tryz.func129 irc129 (arith_2 s) rfl ⟨h2, h1, h0, trivial⟩
    case true =>
      exact pu_of Tryz.func129 irc129 (arith_1 s) rfl ⟨h1, h0, trivial⟩
  case true =>
    exact pu_of Tryz.func129 irc129 (arith_0 s) rfl ⟨h0, trivial⟩
theorem cmp0_0 (s : ByteArray) : funO 5 mth cal 1000 ir187 [(.s (nats s)), (.i .i64 0)] [.br true] = some ((.tu [(.b true), (.b true)]), [.eqb (Sx.inK .i64 1) true, .eqb (decide ((nats s) = ([61, 58, 61] : List Nat))) true]) := by kernel_rfl
theorem cmp0_1 (s : ByteArray) : funO 5 mth cal 1000 ir187 [(.s (nats s)), (.i .i64 0)] [.br false, .br true] = some ((.tu [(.b false), (.b true)]), [.eqb (Sx.inK .i64 1) true, .eqb (decide ((nats s) = ([61, 47, 61] : List Nat))) true, .eqb (decide ((nats s) = ([61, 58, 61] : List Nat))) false]) := by kernel_rfl
theorem cmp0_2 (s : ByteArray) : funO 5 mth cal 1000 ir187 [(.s (nats s)), (.i .i64 0)] [.br false, .br false, .br true] = some ((.tu [(.b false), (.b true)]), [.eqb (Sx.inK .i64 1) true, .eqb (decide ((nats s) = ([60] : List Nat))) true, .eqb (decide ((nats s) = ([61, 47, 61] : List Nat))) false, .eqb (decide ((nats s) = ([61, 58, 61] : List Nat))) false]) := by kernel_rfl
theorem cmp0_3 (s : ByteArray) : funO 5 mth cal 1000 ir187 [(.s (nats s)), (.i .i64 0)] [.br false, .br false, .br false, .br true] = some ((.tu [(.b true), (.b true)]), [.eqb (Sx.inK .i64 1) true, .eqb (decide ((nats s) = ([61, 60] : List Nat))) true, .eqb (decide ((nats s) = ([60] : List Nat))) false, .eqb (decide ((nats s) = ([61, 47, 61] : List Nat))) false, .eqb (decide ((nats s) = ([61, 58, 61] : List Nat))) false]) := by kernel_rfl
theorem cmp0_4 (s : ByteArray) : funO 5 mth cal 1000 ir187 [(.s (nats s)), (.i .i64 0)] [.br false, .br false, .br false, .br false, .br true] = some ((.tu [(.b false), (.b true)]), [.eqb (Sx.inK .i64 1) true, .eqb (decide ((nats s) = ([62] : List Nat))) true, .eqb (decide ((nats s) = ([61, 60] : List Nat))) false, .eqb (decide ((nats s) = ([60] : List Nat))) false, .eqb (decide ((nats s) = ([61, 47, 61] : List Nat))) false, .eqb (decide ((nats s) = ([61, 58, 61] : List Nat))) false]) := by kernel_rfl
theorem cmp0_5 (s : ByteArray) : funO 5 mth cal 1000 ir187 [(.s (nats s)), (.i .i64 0)] [.br false, .br false, .br false, .br false, .br false, .br true] = some ((.tu [(.b true), (.b true)]), [.eqb (Sx.inK .i64 1) true, .eqb (decide ((nats s) = ([62, 61] : List Nat))) true, .eqb (decide ((nats s) = ([62] : List Nat))) false, .eqb (decide ((nats s) = ([61, 60] : List Nat))) false, .eqb (decide ((nats s) = ([60] : List Nat))) false, .eqb (decide ((nats s) = ([61, 47, 61] : List Nat))) false, .eqb (decide ((nats s) = ([61, 58, 61] : List Nat))) false]) := by kernel_rfl
theorem cmp0_6 (s : ByteArray) : funO 5 mth cal 1000 ir187 [(.s (nats s)), (.i .i64 0)] [.br false, .br false, .br false, .br false, .br false, .br false] = some ((.tu [(.b false), (.b false)]), [.eqb (Sx.inK .i64 1) true, .eqb (decide ((nats s) = ([62, 61] : List Nat))) false, .eqb (decide ((nats s) = ([62] : List Nat))) false, .eqb (decide ((nats s) = ([61, 60] : List Nat))) false, .eqb (decide ((nats s) = ([60] : List Nat))) false, .eqb (decide ((nats s) = ([61, 47, 61] : List Nat))) false, .eqb (decide ((nats s) = ([61, 58, 61] : List Nat))) false]) := by kernel_rfl
theorem cmp0 (s : ByteArray) : Pu 187 [(.s (nats s)), (.i .i64 0)] (.tu [(.b (bif decide ((nats s) = ([61, 58, 61] : List Nat)) then true else (bif decide ((nats s) = ([61, 47, 61] : List Nat)) then false else (bif decide ((nats s) = ([60] : List Nat)) then false else (bif decide ((nats s) = ([61, 60] : List Nat)) then true else (bif decide ((nats s) = ([62] : List Nat)) then false else (bif decide ((nats s) = ([62, 61] : List Nat)) then true else false))))))), (.b (bif decide ((nats s) = ([61, 58, 61] : List Nat)) then true else (bif decide ((nats s) = ([61, 47, 61] : List Nat)) then true else (bif decide ((nats s) = ([60] : List Nat)) then true else (bif decide ((nats s) = ([61, 60] : List Nat)) then true else (bif decide ((nats s) = ([62] : List Nat)) then true else (bif decide ((nats s) = ([62, 61] : List Nat)) then true else false)))))))]) := by
  cases h0 : (decide ((nats s) = ([61, 58, 61] : List Nat)))
  case false =>
    cases h1 : (decide ((nats s) = ([61, 47, 61] : List Nat)))
    case false =>
      cases h2 : (decide ((nats s) = ([60] : List Nat)))
      case false =>
        cases h3 : (decide ((nats s) = ([61, 60] : List Nat)))
        case false =>
          cases h4 : (decide ((nats s) = ([62] : List Nat)))
          case false =>
            cases h5 : (decide ((nats s) = ([62, 61] : List Nat)))
            case false =>
              exact pu_of Tryz.func187 irc187 (cmp0_6 s) rfl ⟨(of_eqb (by decide)), h5, h4, h3, h2, h1, h0, trivial⟩
            case true =>
              exact pu_of Tryz.func187 irc187 (cmp0_5 s) rfl ⟨(of_eqb (by decide)), h5, h4, h3, h2, h1, h0, trivial⟩
          case true =>
            exact pu_of Tryz.func187 irc187 (cmp0_4 s) rfl ⟨(of_eqb (by decide)), h4, h3, h2, h1, h0, trivial⟩
        case true =>
          exact pu_of Tryz.func187 irc187 (cmp0_3 s) rfl ⟨(of_eqb (by decide)), h3, h2, h1, h0, trivial⟩
      case true =>
        exact pu_of Tryz.func187 irc187 (cmp0_2 s) rfl ⟨(of_eqb (by decide)), h2, h1, h0, trivial⟩
    case true =>
      exact pu_of Tryz.func187 irc187 (cmp0_1 s) rfl ⟨(of_eqb (by decide)), h1, h0, trivial⟩
  case true =>
    exact pu_of Tryz.func187 irc187 (cmp0_0 s) rfl ⟨(of_eqb (by decide)), h0, trivial⟩
theorem cmps_0 (s : ByteArray) (vCompare0 : Bool) (vCompare1 : Bool) : funO 5 mth cal 1000 ir130 [(.s (nats s))] [.cl [.as, .as] (.tu [(.b (vCompare0)), (.b (vCompare1))])] = some ((.b (vCompare1)), [.call 187 [(.s (nats s)), (.i .i64 0)] (.tu [(.b (vCompare0)), (.b (vCompare1))]), .eqb (freeL []) true, .eqb (TV.free (.i .i64 0)) true, .eqb (TV.free (.s (nats s))) true]) := by kernel_rfl
theorem cmps (s : ByteArray) (vCompare0 : Bool) (vCompare1 : Bool) (c0 : Pu 187 [(.s (nats s)), (.i .i64 0)] (.tu [(.b (vCompare0)), (.b (vCompare1))])) : Pu 130 [(.s (nats s))] (.b (vCompare1)) := by
  exact pu_of Tryz.func130 irc130 (cmps_0 s vCompare0 vCompare1) rfl ⟨(c0), rfl, rfl, rfl, trivial⟩
theorem imay_0 (n : Int) : funO 5 mth cal 1000 ir162 [(.i .i64 n)] [.br true, .kp] = some ((.b (decide (n ≤ 576460752303423487))), [.eqb (decide ((-576460752303423488) ≤ n)) true]) := by kernel_rfl
theorem imay_1 (n : Int) : funO 5 mth cal 1000 ir162 [(.i .i64 n)] [.br false] = some ((.b false), [.eqb (decide ((-576460752303423488) ≤ n)) false]) := by kernel_rfl
theorem imay (n : Int) : Pu 162 [(.i .i64 n)] (.b (bif decide ((-576460752303423488) ≤ n) then decide (n ≤ 576460752303423487) else false)) := by
  cases h0 : (decide ((-576460752303423488) ≤ n))
  case false =>
    exact pu_of Tryz.func162 irc162 (imay_1 n) rfl ⟨h0, trivial⟩
  case true =>
    exact pu_of Tryz.func162 irc162 (imay_0 n) rfl ⟨h0, trivial⟩
theorem eachL_0r (l : List (List Dat)) (G : Nat) (FI CA : List TV) (k : Int) : bodyO 5 mth cal 1000 lp73_0 [0, 1, 4, 7, 8] 5 (mkE [(0, (.es 57 (.r l))), (1, (.f (.func G) FI CA)), (4, (.b false)), (7, (.i .i64 (List.length l : Int))), (8, (.i .i64 k))]) (mkT []) 5 [.br true, .cl [] (.b true)] = some (.nrm, (mkE [(0, (.es 57 (.r l))), (1, (.f (.func G) FI CA)), (4, (.b false)), (7, (.i .i64 (List.length l : Int))), (8, (.i .i64 (k + 1)))]), (mkT []), [.eqb (Sx.underK 5 (mkE [(0, (.es 57 (.r l))), (1, (.f (.func G) FI CA)), (4, (.b false)), (7, (.i .i64 (List.length l : Int))), (8, (.i .i64 (k + 1)))]) [0, 1, 4, 7, 8]) true, .eqb (Sx.underT 5 (mkT [])) true, .eqb (Sx.inK .i64 (k + 1)) true, .call G (FI ++ ([(.ep 57 0 (List.getD l (Int.toNat k) []))] ++ CA)) (.b true), .eqb (freeL (FI ++ ([(.ep 57 0 (List.getD l (Int.toNat k) []))] ++ CA))) true, .eqb (Sx.inB k (List.length l)) true, .eqb (decide (k < (List.length l : Int))) true]) := by kernel_rfl
theorem eachL_0 (l : List (List Dat)) (G : Nat) (FI CA : List TV) (k : Int) (h0 : (decide (k < (List.length l : Int))) = true) (s0 : (Sx.underK 5 (mkE [(0, (.es 57 (.r l))), (1, (.f (.func G) FI CA)), (4, (.b false)), (7, (.i .i64 (List.length l : Int))), (8, (.i .i64 (k + 1)))]) [0, 1, 4, 7, 8]) = true) (s1 : (Sx.inK .i64 (k + 1)) = true) (c2 : Pu G (FI ++ ([(.ep 57 0 (List.getD l (Int.toNat k) []))] ++ CA)) (.b true)) (s3 : (freeL (FI ++ ([(.ep 57 0 (List.getD l (Int.toNat k) []))] ++ CA))) = true) (s4 : (Sx.inB k (List.length l)) = true) {EX : EX} {EE : Trie TV} {ET : Trie TB} {EN : Nat} (more : LoopC Tryz.prog rho lp73_0 (mkE [(0, (.es 57 (.r l))), (1, (.f (.func G) FI CA)), (4, (.b false)), (7, (.i .i64 (List.length l : Int))), (8, (.i .i64 (k + 1)))]) (mkT []) 5 EX EE ET EN) : LoopC Tryz.prog rho lp73_0 (mkE [(0, (.es 57 (.r l))), (1, (.f (.func G) FI CA)), (4, (.b false)), (7, (.i .i64 (List.length l : Int))), (8, (.i .i64 k))]) (mkT []) 5 EX EE ET EN :=
  lp_more (eachL_0r l G FI CA k) ⟨s0, (of_eqb (by kernel_rfl)), s1, c2, s3, s4, h0, trivial⟩ more
theorem eachL_1r (l : List (List Dat)) (G : Nat) (FI CA : List TV) (k : Int) : bodyO 5 mth cal 1000 lp73_0 [0, 1, 4, 7, 8] 5 (mkE [(0, (.es 57 (.r l))), (1, (.f (.func G) FI CA)), (4, (.b false)), (7, (.i .i64 (List.length l : Int))), (8, (.i .i64 k))]) (mkT []) 5 [.br true, .cl [] (.b false)] = some (.ret, (mkE [(0, (.es 57 (.r l))), (1, (.f (.func G) FI CA)), (4, (.b false)), (7, (.i .i64 (List.length l : Int))), (8, (.i .i64 k))]), (mkT []), [.eqb (Sx.underK 5 (mkE [(0, (.es 57 (.r l))), (1, (.f (.func G) FI CA)), (4, (.b false)), (7, (.i .i64 (List.length l : Int))), (8, (.i .i64 k))]) [0, 1, 4, 7, 8]) true, .eqb (Sx.underT 5 (mkT [])) true, .call G (FI ++ ([(.ep 57 0 (List.getD l (Int.toNat k) []))] ++ CA)) (.b false), .eqb (freeL (FI ++ ([(.ep 57 0 (List.getD l (Int.toNat k) []))] ++ CA))) true, .eqb (Sx.inB k (List.length l)) true, .eqb (decide (k < (List.length l : Int))) true]) := by kernel_rfl
theorem eachL_1 (l : List (List Dat)) (G : Nat) (FI CA : List TV) (k : Int) (h0 : (decide (k < (List.length l : Int))) = true) (s0 : (Sx.underK 5 (mkE [(0, (.es 57 (.r l))), (1, (.f (.func G) FI CA)), (4, (.b false)), (7, (.i .i64 (List.length l : Int))), (8, (.i .i64 k))]) [0, 1, 4, 7, 8]) = true) (c1 : Pu G (FI ++ ([(.ep 57 0 (List.getD l (Int.toNat k) []))] ++ CA)) (.b false)) (s2 : (freeL (FI ++ ([(.ep 57 0 (List.getD l (Int.toNat k) []))] ++ CA))) = true) (s3 : (Sx.inB k (List.length l)) = true) : LoopC Tryz.prog rho lp73_0 (mkE [(0, (.es 57 (.r l))), (1, (.f (.func G) FI CA)), (4, (.b false)), (7, (.i .i64 (List.length l : Int))), (8, (.i .i64 k))]) (mkT []) 5 .ret (mkE [(0, (.es 57 (.r l))), (1, (.f (.func G) FI CA)), (4, (.b false)), (7, (.i .i64 (List.length l : Int))), (8, (.i .i64 k))]) (mkT []) 5 :=
  lp_end (eachL_1r l G FI CA k) (by simp) ⟨s0, (of_eqb (by kernel_rfl)), c1, s2, s3, h0, trivial⟩
theorem eachL_2r (l : List (List Dat)) (G : Nat) (FI CA : List TV) (k : Int) : bodyO 5 mth cal 1000 lp73_0 [0, 1, 4, 7, 8] 5 (mkE [(0, (.es 57 (.r l))), (1, (.f (.func G) FI CA)), (4, (.b false)), (7, (.i .i64 (List.length l : Int))), (8, (.i .i64 k))]) (mkT []) 5 [.br false] = some ((.exit 0), (mkE [(0, (.es 57 (.r l))), (1, (.f (.func G) FI CA)), (4, (.b false)), (7, (.i .i64 (List.length l : Int))), (8, (.i .i64 k))]), (mkT []), [.eqb (Sx.underK 5 (mkE [(0, (.es 57 (.r l))), (1, (.f (.func G) FI CA)), (4, (.b false)), (7, (.i .i64 (List.length l : Int))), (8, (.i .i64 k))]) [0, 1, 4, 7, 8]) true, .eqb (Sx.underT 5 (mkT [])) true, .eqb (decide (k < (List.length l : Int))) false]) := by kernel_rfl
theorem eachL_2 (l : List (List Dat)) (G : Nat) (FI CA : List TV) (k : Int) (h0 : (decide (k < (List.length l : Int))) = false) (s0 : (Sx.underK 5 (mkE [(0, (.es 57 (.r l))), (1, (.f (.func G) FI CA)), (4, (.b false)), (7, (.i .i64 (List.length l : Int))), (8, (.i .i64 k))]) [0, 1, 4, 7, 8]) = true) : LoopC Tryz.prog rho lp73_0 (mkE [(0, (.es 57 (.r l))), (1, (.f (.func G) FI CA)), (4, (.b false)), (7, (.i .i64 (List.length l : Int))), (8, (.i .i64 k))]) (mkT []) 5 (.exit 0) (mkE [(0, (.es 57 (.r l))), (1, (.f (.func G) FI CA)), (4, (.b false)), (7, (.i .i64 (List.length l : Int))), (8, (.i .i64 k))]) (mkT []) 5 :=
  lp_end (eachL_2r l G FI CA k) (by simp) ⟨s0, (of_eqb (by kernel_rfl)), h0, trivial⟩
theorem eachA_0 (l : List (List Dat)) (G : Nat) (FI CA : List TV) (j : Int) : funO 5 mth cal 1000 ir73 [(.es 57 (.r l)), (.f (.func G) FI CA)] [.lp [0, 1, 4, 7, 8] 5 (.exit 0) (mkE [(0, (.es 57 (.r l))), (1, (.f (.func G) FI CA)), (4, (.b false)), (7, (.i .i64 (List.length l : Int))), (8, (.i .i64 j))]) (mkT []) 5] = some ((.b true), [.loop lp73_0 (mkE [(0, (.es 57 (.r l))), (1, (.f (.func G) FI CA)), (4, (.b false)), (7, (.i .i64 (List.length l : Int))), (8, (.i .i64 0))]) (mkT []) 5 (.exit 0) (mkE [(0, (.es 57 (.r l))), (1, (.f (.func G) FI CA)), (4, (.b false)), (7, (.i .i64 (List.length l : Int))), (8, (.i .i64 j))]) (mkT []) 5, .eqb (Sx.underK 5 (mkE [(0, (.es 57 (.r l))), (1, (.f (.func G) FI CA)), (4, (.b false)), (7, (.i .i64 (List.length l : Int))), (8, (.i .i64 0))]) [0, 1, 4, 7, 8]) true, .eqb (Sx.underT 5 (mkT [])) true]) := by kernel_rfl
theorem eachA (l : List (List Dat)) (G : Nat) (FI CA : List TV) (j : Int) (s0 : (Sx.underK 5 (mkE [(0, (.es 57 (.r l))), (1, (.f (.func G) FI CA)), (4, (.b false)), (7, (.i .i64 (List.length l : Int))), (8, (.i .i64 0))]) [0, 1, 4, 7, 8]) = true) (l1 : LoopC Tryz.prog rho lp73_0 (mkE [(0, (.es 57 (.r l))), (1, (.f (.func G) FI CA)), (4, (.b false)), (7, (.i .i64 (List.length l : Int))), (8, (.i .i64 0))]) (mkT []) 5 (.exit 0) (mkE [(0, (.es 57 (.r l))), (1, (.f (.func G) FI CA)), (4, (.b false)), (7, (.i .i64 (List.length l : Int))), (8, (.i .i64 j))]) (mkT []) 5) : Pu 73 [(.es 57 (.r l)), (.f (.func G) FI CA)] (.b true) := by
  exact pu_of Tryz.func73 irc73 (eachA_0 l G FI CA j) rfl ⟨(l1), (s0), (of_eqb (by kernel_rfl)), trivial⟩
theorem eachB_0 (l : List (List Dat)) (G : Nat) (FI CA : List TV) (j : Int) : funO 5 mth cal 1000 ir73 [(.es 57 (.r l)), (.f (.func G) FI CA)] [.lp [0, 1, 4, 7, 8] 5 .ret (mkE [(0, (.es 57 (.r l))), (1, (.f (.func G) FI CA)), (4, (.b false)), (7, (.i .i64 (List.length l : Int))), (8, (.i .i64 j))]) (mkT []) 5] = some ((.b false), [.loop lp73_0 (mkE [(0, (.es 57 (.r l))), (1, (.f (.func G) FI CA)), (4, (.b false)), (7, (.i .i64 (List.length l : Int))), (8, (.i .i64 0))]) (mkT []) 5 .ret (mkE [(0, (.es 57 (.r l))), (1, (.f (.func G) FI CA)), (4, (.b false)), (7, (.i .i64 (List.length l : Int))), (8, (.i .i64 j))]) (mkT []) 5, .eqb (Sx.underK 5 (mkE [(0, (.es 57 (.r l))), (1, (.f (.func G) FI CA)), (4, (.b false)), (7, (.i .i64 (List.length l : Int))), (8, (.i .i64 0))]) [0, 1, 4, 7, 8]) true, .eqb (Sx.underT 5 (mkT [])) true]) := by kernel_rfl
theorem eachB (l : List (List Dat)) (G : Nat) (FI CA : List TV) (j : Int) (s0 : (Sx.underK 5 (mkE [(0, (.es 57 (.r l))), (1, (.f (.func G) FI CA)), (4, (.b false)), (7, (.i .i64 (List.length l : Int))), (8, (.i .i64 0))]) [0, 1, 4, 7, 8]) = true) (l1 : LoopC Tryz.prog rho lp73_0 (mkE [(0, (.es 57 (.r l))), (1, (.f (.func G) FI CA)), (4, (.b false)), (7, (.i .i64 (List.length l : Int))), (8, (.i .i64 0))]) (mkT []) 5 .ret (mkE [(0, (.es 57 (.r l))), (1, (.f (.func G) FI CA)), (4, (.b false)), (7, (.i .i64 (List.length l : Int))), (8, (.i .i64 j))]) (mkT []) 5) : Pu 73 [(.es 57 (.r l)), (.f (.func G) FI CA)] (.b false) := by
  exact pu_of Tryz.func73 irc73 (eachB_0 l G FI CA j) rfl ⟨(l1), (s0), (of_eqb (by kernel_rfl)), trivial⟩

section
variable {l : List (List Dat)} {G : Nat} {FI CA : List TV} {P : List Dat → Bool} (hF : freeL FI = true) (hC : freeL CA = true) (hlen : l.length ≤ BL) (h : ∀ row, row ∈ l → Pu G (FI ++ ([.ep 57 0 row] ++ CA)) (.b (P row)))
include hF hC hlen h
abbrev EL (l : List (List Dat)) (G : Nat) (FI CA : List TV) (k : Int) : Trie TV := mkE [(0, (.es 57 (.r l))), (1, (.f (.func G) FI CA)), (4, (.b false)), (7, (.i .i64 (List.length l : Int))), (8, (.i .i64 k))]
omit hlen h in
theorem el_under (k : Int) : Sx.underK 5 (EL l G FI CA k) [0, 1, 4, 7, 8] = true := by
  have e : Sx.underK 5 (EL l G FI CA k) [0, 1, 4, 7, 8] = cond (cond (underL 5 FI) (underL 5 CA) false) true false := by kernel_rfl
  rw [e, underL_of_free hF, underL_of_free hC]; rfl
omit hlen h in
theorem el_free (row : List Dat) : freeL (FI ++ ([.ep 57 0 row] ++ CA)) = true := freeL_append hF (freeL_append rfl hC)
theorem each_run : ∀ n k : Nat, k + n = l.length →
    (((l.drop k).all P = true → LoopC Tryz.prog rho lp73_0 (EL l G FI CA k) (mkT []) 5 (.exit 0) (EL l G FI CA (l.length : Int)) (mkT []) 5) ∧
    ((l.drop k).all P = false → ∃ j : Int, LoopC Tryz.prog rho lp73_0 (EL l G FI CA k) (mkT []) 5 .ret (EL l G FI CA j) (mkT []) 5)) := by
  intro n
  induction n with
  | zero =>
    intro k hk
    obtain rfl : k = l.length := by omega
    rw [List.drop_length]
    exact ⟨fun _ => eachL_2 l G FI CA _ (by simp) (el_under hF hC _), fun q => by simp at q⟩
  | succ n ih =>
    intro k hk
    have hlt : k < l.length := by omega
    have hc : Pu G (FI ++ ([.ep 57 0 (List.getD l (Int.toNat k) [])] ++ CA)) (.b (P l[k])) := by
      have e : List.getD l (Int.toNat k) [] = l[k] := by simp [List.getD_eq_getElem?_getD, hlt]
      rw [e]; exact h _ (List.getElem_mem hlt)
    have hB : Sx.inB (k : Int) l.length = true := by unfold Sx.inB; simp; omega
    have h0 : decide ((k : Int) < (l.length : Int)) = true := by simp; omega
    have hK : Sx.inK .i64 ((k : Int) + 1) = true := by
      have : (k : Int) + 1 ≤ 2199023255552 := by have := hlen; unfold BL at this; omega
      unfold Sx.inK IntKind.min IntKind.max
      simp [IntKind.signed, IntKind.bits]
      omega
    rw [List.drop_eq_getElem_cons hlt, List.all_cons]
    obtain ⟨i1, i2⟩ := ih (k + 1) (by omega)
    cases hp : P l[k] with
    | true =>
      rw [hp] at hc
      refine ⟨fun q => eachL_0 l G FI CA k h0 (el_under hF hC _) hK hc (el_free hF hC _) hB (i1 (by simpa using q)), fun q => ?_⟩
      obtain ⟨j, hj⟩ := i2 (by simpa using q)
      exact ⟨j, eachL_0 l G FI CA k h0 (el_under hF hC _) hK hc (el_free hF hC _) hB hj⟩
    | false =>
      rw [hp] at hc
      exact ⟨fun q => by simp at q, fun _ => ⟨k, eachL_1 l G FI CA k h0 (el_under hF hC _) hc (el_free hF hC _) hB⟩⟩
/-- Does something hold of all rows? -/
theorem each_pu : Pu 73 [.es 57 (.r l), .f (.func G) FI CA] (.b (l.all P)) := by
  obtain ⟨i1, i2⟩ := each_run hF hC hlen h l.length 0 (by omega)
  rw [List.drop_zero] at i1 i2
  cases hp : l.all P with
  | true => exact eachA l G FI CA l.length (el_under hF hC _) (i1 hp)
  | false =>
    obtain ⟨j, hj⟩ := i2 hp
    exact eachB l G FI CA j (el_under hF hC _) hj
end
end Go.Proofs.YtdjafnjmkkagjaaGreatDoor.Oa.B1

