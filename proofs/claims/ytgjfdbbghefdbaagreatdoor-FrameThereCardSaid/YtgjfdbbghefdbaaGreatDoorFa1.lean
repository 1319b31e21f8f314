/-
  The open runs' frame for stacks of frames: kinds of rows, what is told, contracts. No condition.
-/
import Derived.Test.YtgjfdbbghefdbaaGreatDoorDd1
import Derived.Test.YtgjfdbbghefdbaaGreatDoorWk15
import Derived.Test.YtgjfdbbghefdbaaGreatDoorChecked
namespace Go.Proofs.YtgjfdbbghefdbaaGreatDoor.Fa
open Go.RowKit Sx Dd
set_option maxRecDepth 100000
/-- The kinds of rows, by their types' numbers. -/
def lay : Nat → List Kd
  | 43 => [.i .i8, .i .i64, .i .i64, .sl 26, .sl 4, .sl 26, .sl 63, .i .i64, .i .i8, .i .i64, .i .i64, .i .i64, .i .i64, .i .i8, .i .i64, .s, .s, .sl 26, .i .i8, .i .i64, .s, .s, .sl 26, .i .i8, .i .i64, .s, .s, .sl 26, .sl 89, .i .i8, .i .i64, .i .i64, .sl 87, .sl 3, .sl 3]
  | 26 => [.i .i8, .i .i64, .s, .s, .sl 26]
  | 63 => [.i .i64, .i .i64]
  | 89 => [.i .i8, .i .i64, .s, .s, .sl 26, .i .i8, .i .i8, .i .i64, .s, .s, .sl 26, .sl 38, .i .i64]
  | 87 => [.i .i8, .i .i64, .s, .s, .sl 26, .i .i8, .i .i8, .i .i64, .s, .s, .sl 26, .sl 38]
  | 38 => [.i .i8, .i .i64, .i .i64, .sl 87]
  | 3 => [.i .i64]
  | 4 => [.b]
  | _ => []
def Es : List Nat := [43, 26, 63, 89, 87, 38, 3, 4]
theorem lay_ok : LayOk Tryz.prog lay Es := fun E hE => by
  simp only [Es, List.mem_cons, List.not_mem_nil, or_false] at hE
  rcases hE with rfl | rfl | rfl | rfl | rfl | rfl | rfl | rfl
  all_goals exact ⟨by kernel_rfl, by kernel_rfl, by decide +kernel, by decide⟩
theorem es_ok : ∀ E, E ∈ Es → (lay E).all (inEs Es) = true := fun E hE => by
  simp only [Es, List.mem_cons, List.not_mem_nil, or_false] at hE
  rcases hE with rfl | rfl | rfl | rfl | rfl | rfl | rfl | rfl <;> decide
def mth : Meth := ⟨fun _ _ => none, fun _ _ => none, lay⟩
noncomputable def rho : Cx := ⟨fun _ => .bool true, lay, [(0, letterVals15)], Tryz.prog⟩
theorem rho_ok : ∀ j, scalV (rho j) := fun _ => trivial
theorem mth_ok : MethOk Tryz.prog rho mth := ⟨fun _ _ _ h => (by cases h), fun _ _ _ h => (by cases h), rfl, rfl⟩
theorem mix_ok : Tryz.prog.follows .mixedOrders = true := by kernel_rfl
abbrev Pu (f : Nat) (args : List TV) (v : TV) : Prop := PureC Tryz.prog rho f args v
theorem wakes_pu : Pu 7 [] (.b true) := wakes15 rfl rho_ok (.head _)
theorem of_eqb {x d : Bool} (h : x = d) : ObOk Tryz.prog rho (.eqb x d) := h
theorem size_g : Tryz.prog.globals.size = 6 := by kernel_rfl
theorem pu_of' {tab : Trie XF} (htab : TabOk Tryz.prog tab) {f : Nat} {fn : Func} {x : XF} (hfn : Tryz.prog.funcs[f]? = some fn) (hc : cFunc Tryz.prog fn = some x) {args : List TV} {pa : List PA} {v : TV} {obs : List Ob} (hx : funO 6 mth (run mth tab noOrc 1000 20) 1000 x args pa = some (v, obs)) (hv : v.flat = true) (ho : Owes Tryz.prog rho obs) : Pu f args v := by
  rw [← size_g] at hx
  exact pure_of rho_ok (calls_ok rho_ok mth_ok mix_ok htab 1000 20) mth_ok mix_ok hfn hc hx hv ho
theorem fresh_of' {tab : Trie XF} (htab : TabOk Tryz.prog tab) {f : Nat} {fn : Func} {x : XF} (hfn : Tryz.prog.funcs[f]? = some fn) (hc : cFunc Tryz.prog fn = some x) {args : List TV} {ks : List AK} {pa : List PA} {v : TV} {obs : List Ob} (hx : funR 6 mth (run mth tab noOrc 1000 20) 1000 x args ks pa = some (v, obs)) (ho : Owes Tryz.prog rho obs) : Pu f args v := by
  rw [← size_g] at hx
  exact fresh_of rho_ok (calls_ok rho_ok mth_ok mix_ok htab 1000 20) mth_ok mix_ok hfn hc hx ho
theorem lp_more' {tab : Trie XF} (htab : TabOk Tryz.prog tab) {x : IC} {ks : List Nat} {m : Nat} {e e2 e' : Trie TV} {t t2 t' : Trie TB} {n n' : Nat} {pa : List PA} {ex : EX} {obs : List Ob} (hx : bodyO 6 mth (run mth tab noOrc 1000 20) 1000 x ks m e t n pa = some (.nrm, e2, t2, obs)) (ho : Owes Tryz.prog rho obs) (hl : LoopC Tryz.prog rho x e2 t2 m ex e' t' n') : LoopC Tryz.prog rho x e t n ex e' t' n' := by
  rw [← size_g] at hx
  exact loop_more rho_ok (calls_ok rho_ok mth_ok mix_ok htab 1000 20) mth_ok mix_ok hx ho hl
theorem lp_end' {tab : Trie XF} (htab : TabOk Tryz.prog tab) {x : IC} {ks : List Nat} {m : Nat} {e e2 : Trie TV} {t t2 : Trie TB} {n : Nat} {pa : List PA} {ex : EX} {obs : List Ob} (hx : bodyO 6 mth (run mth tab noOrc 1000 20) 1000 x ks m e t n pa = some (ex, e2, t2, obs)) (hne : ex ≠ .nrm) (ho : Owes Tryz.prog rho obs) : LoopC Tryz.prog rho x e t n ex e2 t2 m := by
  rw [← size_g] at hx
  exact loop_end rho_ok (calls_ok rho_ok mth_ok mix_ok htab 1000 20) mth_ok mix_ok hx hne ho


/-- A struct by value, out of a row. -/
abbrev agR (T : Nat) (row : List Dat) : TV := .ag (kdTVs (lay T) row 0 (lay T).length)
theorem inK64_iff {n : Int} : Sx.inK .i64 n = true ↔ -9223372036854775808 ≤ n ∧ n ≤ 9223372036854775807 := by
  unfold Sx.inK IntKind.min IntKind.max
  simp [IntKind.signed, IntKind.bits]
theorem inB_iff {j : Int} {n : Nat} : Sx.inB j n = true ↔ 0 ≤ j ∧ j < n := by unfold Sx.inB; simp
theorem mem_at {rows : List (List Dat)} {k : Nat} (h : k < rows.length) : List.getD rows (Int.toNat (k : Int)) [] ∈ rows := by
  rw [Int.toNat_natCast, List.getD_eq_getElem?_getD, List.getElem?_eq_getElem h]
  exact List.getElem_mem h
/-- A loop that counts up, and leaves at the end. -/
theorem loop_up {lp : IC} {E : Int → Trie TV} {T : Trie TB} {nx : Nat} {ex : EX} {N : Nat} (hN : N ≤ 140737488355328)
    (step : ∀ k : Nat, k < N → decide ((k : Int) < (N : Int)) = true → Sx.inK .i64 ((k : Int) + 1) = true → Sx.inB (k : Int) N = true → LoopC Tryz.prog rho lp (E ((k : Int) + 1)) T nx ex (E N) T nx → LoopC Tryz.prog rho lp (E k) T nx ex (E N) T nx)
    (fin : decide ((N : Int) < (N : Int)) = false → LoopC Tryz.prog rho lp (E N) T nx ex (E N) T nx) : LoopC Tryz.prog rho lp (E 0) T nx ex (E N) T nx := by
  have key : ∀ n k : Nat, k + n = N → LoopC Tryz.prog rho lp (E k) T nx ex (E N) T nx := by
    intro n
    induction n with
    | zero =>
      intro k hk
      obtain rfl : k = N := by omega
      exact fin (by simp)
    | succ n ih =>
      intro k hk
      exact step k (by omega) (by simp; omega) (inK64_iff.2 (by omega)) (inB_iff.2 (by omega)) (ih (k + 1) (by omega))
  exact key N 0 (by omega)
end Go.Proofs.YtgjfdbbghefdbaaGreatDoor.Fa

