/-
  frame.Atom; stacks' fronts; a handler taken off. Conditions: as said.
-/
import Derived.Test.YtgjfdbbghefdbaaGreatDoorLt13
namespace Go.Proofs.YtgjfdbbghefdbaaGreatDoor.Lt
open Go.RowKit Sx Dd Fa Fa.C1
set_option maxRecDepth 100000
namespace A1
def ir19 : XF := ⟨16, 1, [(2, some (true, 5))], (.seq (.reg [⟨some 2, none, .box 26 5 (.c (.ag [(.i .i8 0), (.i .i64 0), (.s []), (.s []), .sln]))⟩])
  (.seq (.reg [⟨some 4, none, .call 30 []⟩,
  ⟨some 3, none, .box 83 4 (.c (.ag [(.s []), (.s []), (.s []), (.s [])]))⟩,
  ⟨none, none, .st 4 (.t 3) (.t 4)⟩])
  (.seq (.seq (.reg [⟨some 5, none, .mv (.t 0)⟩,
  ⟨some 6, none, .bop .lss (.t 5) (.c (.i .i8 0))⟩,
  ⟨some 7, none, .mv (.t 6)⟩,
  ⟨some 8, some (7, false), .mv (.t 0)⟩,
  ⟨some 9, some (7, false), .cvi .i64 (.t 8)⟩,
  ⟨some 10, some (7, false), .bop .geq (.t 9) (.c (.i .i64 4))⟩,
  ⟨some 11, none, .pick (.t 7) (.c (.b true)) (.t 10)⟩])
  (.cond (.t 11) (.reg [⟨some 0, none, .mv (.c (.i .i8 0))⟩])
  .skip))
  (.seq (.reg [⟨some 12, none, .mv (.t 0)⟩,
  ⟨some 13, none, .iaA 4 1 (.t 3) (.t 12)⟩,
  ⟨some 14, none, .ld false 1 (.t 13)⟩,
  ⟨some 15, none, .bld [(.i .i8 0), (.i .i64 0), (.s []), (.s []), .sln] [(0, 1, (.c (.i .i8 1))), (2, 1, (.t 14))]⟩,
  ⟨none, none, .st 5 (.t 2) (.t 15)⟩])
  .ret))))⟩

theorem irc19 : cFunc Tryz.prog Tryz.f19 = some ir19 := by kernel_rfl
def ir30 : XF := ⟨2, 0, [(0, some (true, 4))], (.seq (.reg [⟨some 0, none, .box 83 4 (.c (.ag [(.s []), (.s []), (.s []), (.s [])]))⟩])
  (.seq (.reg [⟨some 1, none, .bld [(.s []), (.s []), (.s []), (.s [])] [(0, 1, (.c (.s [110, 111, 110, 101]))), (1, 1, (.c (.s [101, 114, 114, 111, 114]))), (2, 1, (.c (.s [101, 120, 105, 116]))), (3, 1, (.c (.s [116, 104, 114, 111, 119])))]⟩,
  ⟨none, none, .st 4 (.t 0) (.t 1)⟩])
  .ret))⟩

theorem irc30 : cFunc Tryz.prog Tryz.f30 = some ir30 := by kernel_rfl
def tabI : Trie XF := (.nd .lf none (.nd .lf none (.nd .lf none (.nd .lf none (.nd .lf (some ir30) .lf)))))
def tabL : List (Nat × XF) := [(30, ir30)]
theorem tabI_eq : tabI = ofList tabL := by kernel_rfl
theorem tabI_ok : TabOk Tryz.prog tabI := tab_of tabI_eq (by kernel_rfl) fun p hp => by
  simp only [tabL, List.mem_cons, List.not_mem_nil, or_false] at hp
  rcases hp with rfl
  · exact ⟨_, Tryz.func30, irc30⟩
abbrev cal : CallT := run mth tabI noOrc 1000 20
theorem pu_of {f : Nat} {fn : Func} {x : XF} (hfn : Tryz.prog.funcs[f]? = some fn) (hc : cFunc Tryz.prog fn = some x) {args : List TV} {pa : List PA} {v : TV} {obs : List Ob} (hx : funO 6 mth cal 1000 x args pa = some (v, obs)) (hv : v.flat = true) (ho : Owes Tryz.prog rho obs) : Pu f args v :=
  pu_of' tabI_ok hfn hc hx hv ho
theorem lp_more {x : IC} {ks : List Nat} {m : Nat} {e e2 e' : Trie TV} {t t2 t' : Trie TB} {n n' : Nat} {pa : List PA} {ex : EX} {obs : List Ob} (hx : bodyO 6 mth cal 1000 x ks m e t n pa = some (.nrm, e2, t2, obs)) (ho : Owes Tryz.prog rho obs) (hl : LoopC Tryz.prog rho x e2 t2 m ex e' t' n') : LoopC Tryz.prog rho x e t n ex e' t' n' :=
  lp_more' tabI_ok hx ho hl
theorem lp_end {x : IC} {ks : List Nat} {m : Nat} {e e2 : Trie TV} {t t2 : Trie TB} {n : Nat} {pa : List PA} {ex : EX} {obs : List Ob} (hx : bodyO 6 mth cal 1000 x ks m e t n pa = some (ex, e2, t2, obs)) (hne : ex ≠ .nrm) (ho : Owes Tryz.prog rho obs) : LoopC Tryz.prog rho x e t n ex e2 t2 m :=
  lp_end' tabI_ok hx hne ho
theorem fresh_of {f : Nat} {fn : Func} {x : XF} (hfn : Tryz.prog.funcs[f]? = some fn) (hc : cFunc Tryz.prog fn = some x) {args : List TV} {ks : List AK} {pa : List PA} {v : TV} {obs : List Ob} (hx : funR 6 mth cal 1000 x args ks pa = some (v, obs)) (ho : Owes Tryz.prog rho obs) : Pu f args v :=
  fresh_of' tabI_ok hfn hc hx ho
theorem at0_0  : funR 6 mth cal 1000 ir19 [(.i .i8 0)] [.agg 26] [.go, .br false, .br false] = some ((.ag [(.i .i8 1), (.i .i64 0), (.s [110, 111, 110, 101]), (.s []), (.es 26 (.r []))]), [.eqb (freeL []) true, .eqb (freeL [(.i .i8 1), (.i .i64 0), (.s [110, 111, 110, 101]), (.s []), (.es 26 (.r []))]) true, .eqb (decide (4 ≤ 0)) false, .eqb (Sx.inK .i64 0) true, .eqb (decide (0 < 0)) false]) := by kernel_rfl
theorem at0_p0  : Pu 19 [(.i .i8 0)] (.ag [(.i .i8 1), (.i .i64 0), (.s [110, 111, 110, 101]), (.s []), (.es 26 (.r []))]) :=
  fresh_of Tryz.func19 irc19 (at0_0) ⟨rfl, rfl, (of_eqb (by decide)), (of_eqb (by decide)), (of_eqb (by decide)), trivial⟩
theorem at1_0  : funR 6 mth cal 1000 ir19 [(.i .i8 1)] [.agg 26] [.go, .br false, .br false] = some ((.ag [(.i .i8 1), (.i .i64 0), (.s [101, 114, 114, 111, 114]), (.s []), (.es 26 (.r []))]), [.eqb (freeL []) true, .eqb (freeL [(.i .i8 1), (.i .i64 0), (.s [101, 114, 114, 111, 114]), (.s []), (.es 26 (.r []))]) true, .eqb (decide (4 ≤ 1)) false, .eqb (Sx.inK .i64 1) true, .eqb (decide (1 < 0)) false]) := by kernel_rfl
theorem at1_p0  : Pu 19 [(.i .i8 1)] (.ag [(.i .i8 1), (.i .i64 0), (.s [101, 114, 114, 111, 114]), (.s []), (.es 26 (.r []))]) :=
  fresh_of Tryz.func19 irc19 (at1_0) ⟨rfl, rfl, (of_eqb (by decide)), (of_eqb (by decide)), (of_eqb (by decide)), trivial⟩
theorem at2_0  : funR 6 mth cal 1000 ir19 [(.i .i8 2)] [.agg 26] [.go, .br false, .br false] = some ((.ag [(.i .i8 1), (.i .i64 0), (.s [101, 120, 105, 116]), (.s []), (.es 26 (.r []))]), [.eqb (freeL []) true, .eqb (freeL [(.i .i8 1), (.i .i64 0), (.s [101, 120, 105, 116]), (.s []), (.es 26 (.r []))]) true, .eqb (decide (4 ≤ 2)) false, .eqb (Sx.inK .i64 2) true, .eqb (decide (2 < 0)) false]) := by kernel_rfl
theorem at2_p0  : Pu 19 [(.i .i8 2)] (.ag [(.i .i8 1), (.i .i64 0), (.s [101, 120, 105, 116]), (.s []), (.es 26 (.r []))]) :=
  fresh_of Tryz.func19 irc19 (at2_0) ⟨rfl, rfl, (of_eqb (by decide)), (of_eqb (by decide)), (of_eqb (by decide)), trivial⟩
theorem at3_0  : funR 6 mth cal 1000 ir19 [(.i .i8 3)] [.agg 26] [.go, .br false, .br false] = some ((.ag [(.i .i8 1), (.i .i64 0), (.s [116, 104, 114, 111, 119]), (.s []), (.es 26 (.r []))]), [.eqb (freeL []) true, .eqb (freeL [(.i .i8 1), (.i .i64 0), (.s [116, 104, 114, 111, 119]), (.s []), (.es 26 (.r []))]) true, .eqb (decide (4 ≤ 3)) false, .eqb (Sx.inK .i64 3) true, .eqb (decide (3 < 0)) false]) := by kernel_rfl
theorem at3_p0  : Pu 19 [(.i .i8 3)] (.ag [(.i .i8 1), (.i .i64 0), (.s [116, 104, 114, 111, 119]), (.s []), (.es 26 (.r []))]) :=
  fresh_of Tryz.func19 irc19 (at3_0) ⟨rfl, rfl, (of_eqb (by decide)), (of_eqb (by decide)), (of_eqb (by decide)), trivial⟩
theorem atx_0 (n : Int) : funR 6 mth cal 1000 ir19 [(.i .i8 n)] [.agg 26] [.go, .br true] = some ((.ag [(.i .i8 1), (.i .i64 0), (.s [110, 111, 110, 101]), (.s []), (.es 26 (.r []))]), [.eqb (freeL []) true, .eqb (freeL [(.i .i8 1), (.i .i64 0), (.s [110, 111, 110, 101]), (.s []), (.es 26 (.r []))]) true, .eqb (decide (n < 0)) true]) := by kernel_rfl
theorem atx_1 (n : Int) : funR 6 mth cal 1000 ir19 [(.i .i8 n)] [.agg 26] [.go, .br false, .br true] = some ((.ag [(.i .i8 1), (.i .i64 0), (.s [110, 111, 110, 101]), (.s []), (.es 26 (.r []))]), [.eqb (freeL []) true, .eqb (freeL [(.i .i8 1), (.i .i64 0), (.s [110, 111, 110, 101]), (.s []), (.es 26 (.r []))]) true, .eqb (decide (4 ≤ n)) true, .eqb (Sx.inK .i64 n) true, .eqb (decide (n < 0)) false]) := by kernel_rfl
theorem atx_p0 (n : Int) (h0 : (decide (n < 0)) = true) : Pu 19 [(.i .i8 n)] (.ag [(.i .i8 1), (.i .i64 0), (.s [110, 111, 110, 101]), (.s []), (.es 26 (.r []))]) :=
  fresh_of Tryz.func19 irc19 (atx_0 n) ⟨rfl, rfl, h0, trivial⟩
theorem atx_p1 (n : Int) (h0 : (decide (n < 0)) = false) (s1 : (Sx.inK .i64 n) = true) (h2 : (decide (4 ≤ n)) = true) : Pu 19 [(.i .i8 n)] (.ag [(.i .i8 1), (.i .i64 0), (.s [110, 111, 110, 101]), (.s []), (.es 26 (.r []))]) :=
  fresh_of Tryz.func19 irc19 (atx_1 n) ⟨rfl, rfl, h2, s1, h0, trivial⟩
end A1
open A1
/-- A class's atom. -/
def atomOf (n : Int) : List Nat := if n = 1 then [101, 114, 114, 111, 114] else if n = 2 then [101, 120, 105, 116] else if n = 3 then [116, 104, 114, 111, 119] else [110, 111, 110, 101]
theorem atom_pu (n : Int) (h1 : -9223372036854775808 ≤ n) (h2 : n ≤ 9223372036854775807) : Pu 19 [.i .i8 n] (.ag [.i .i8 1, .i .i64 0, .s (atomOf n), .s [], .es 26 (.r [])]) := by
  have hr : n = 0 ∨ n = 1 ∨ n = 2 ∨ n = 3 ∨ n < 0 ∨ 4 ≤ n := by omega
  rcases hr with rfl | rfl | rfl | rfl | h | h
  · exact at0_p0
  · exact at1_p0
  · exact at2_p0
  · exact at3_p0
  · have : atomOf n = [110, 111, 110, 101] := by unfold atomOf; rw [if_neg (by omega), if_neg (by omega), if_neg (by omega)]
    rw [this]
    exact atx_p0 n (decide_eq_true h)
  · have : atomOf n = [110, 111, 110, 101] := by unfold atomOf; rw [if_neg (by omega), if_neg (by omega), if_neg (by omega)]
    rw [this]
    exact atx_p1 n (decide_eq_false (by omega)) (inK64_iff.2 ⟨h1, h2⟩) (decide_eq_true h)
theorem atomOf_ok (n : Int) : okS (atomOf n) = true := by unfold atomOf; (repeat' split) <;> rfl
theorem atom_any {M : Mem} {w : World} (hM : MemOk M w) (hT : ToldM rho.tl M) (n : Int) (h1 : -9223372036854775808 ≤ n) (h2 : n ≤ 9223372036854775807) : Calls Tryz.prog 19 #[.int .i8 n] w fun e w' => ∃ p c, e = .returned (.agg #[.int .i8 1, .int .i64 0, .string (bytesOf (atomOf n)), .string (bytesOf []), .slice p 0 c]) ∧ Below w.heap.size w w' := by
  refine ((atom_pu n h1 h2).2 w M #[.int .i8 n] hM hT ⟨_, _, rfl, rfl, rfl⟩).mono ?_
  rintro e w' ⟨x, M', rfl, _, _, _, hv, hb⟩
  obtain ⟨a, rfl, ha⟩ := hv
  obtain ⟨_, _, ea, rfl, _, _, rfl, rfl, _, _, rfl, ⟨rfl, _⟩, _, _, rfl, ⟨rfl, _⟩, v5, _, rfl, h5, rfl⟩ := ha
  obtain ⟨l⟩ := a
  cases ea
  obtain ⟨p, c, rfl⟩ : ∃ p c, v5 = .slice p 0 c := by
    obtain ⟨p, c, e⟩ := dr_sl h5
    exact ⟨p, c, e⟩
  exact ⟨p, c, rfl, hb⟩
theorem StRow.front {w : World} {M : Mem} {B n k k' : Nat} {rows : List (List Dat)} {f : Nat → Value} {g : Nat → Nat} (h : StRow w M B n k rows f g) (hk : k' ≤ k) : StRow w M B n k' rows f g := by
  obtain ⟨h1, h2, h3, h4⟩ := h
  refine ⟨h1, h2, ?_, fun i hi => h4 i (by omega)⟩
  have key : ∀ m, k' + m ≤ k → g k' ≤ g (k' + m) := by
    intro m
    induction m with
    | zero => intro _; exact Nat.le_refl _
    | succ m ih => intro hm; exact Nat.le_trans (ih (by omega)) (h4 (k' + m) (by omega)).1
  have := key (k - k') (by omega)
  rw [show k' + (k - k') = k by omega] at this
  exact Nat.le_trans this h3
theorem OwnSl.take {w : World} {M : Mem} {lo hi T n m c : Nat} {p : Option Addr} {d : Dat} (h : OwnSl w M lo hi T d (.slice p n c)) (hm : m ≤ n) : OwnSl w M lo hi T (.r (d.rows.take m)) (.slice p m c) := by
  obtain ⟨xs, ⟨h1, h2⟩, h3, h4⟩ := h
  have hn : d.rows.length = n := by
    rcases h2 with ⟨e, e2⟩ | ⟨g, cap, cur, e, _⟩
    · cases e; exact e2
    · cases e; rfl
  have hl : (Dat.r (d.rows.take m)).rows.length = m := by show (d.rows.take m).length = m; rw [List.length_take]; omega
  refine ⟨xs.take (m * (lay T).length), ⟨?_, ?_⟩, fun g hg => h3 g (by cases p with | none => cases hg | some a => exact hg), fun i row hi => ?_⟩
  · rw [hl, List.length_take, h1, hn]
    exact Nat.min_eq_left (Nat.mul_le_mul_right _ hm)
  · rcases h2 with ⟨e, e2⟩ | ⟨g, cap, cur, e, q1, q2, q3, q4, q5, q6⟩
    · cases e
      obtain rfl : m = 0 := by omega
      exact .inl ⟨rfl, hl⟩
    · cases e
      refine .inr ⟨g, _, cur, (by rw [hl]), q1, q2, by rw [hl]; omega, q4, q5, ?_⟩
      · rw [hl, ← q6, List.take_take, Nat.min_eq_left (Nat.mul_le_mul_right _ hm)]
  · have hi : (d.rows.take m)[i]? = some row := hi
    have hik : i < m := by
      have := (List.getElem?_eq_some_iff.1 hi).1
      rw [List.length_take] at this
      omega
    rw [List.getElem?_take_of_lt hik] at hi
    have := h4 i row hi
    have hmul : (i + 1) * (lay T).length ≤ m * (lay T).length := Nat.mul_le_mul_right _ hik
    rw [Nat.add_mul, Nat.one_mul] at hmul
    have e : ((xs.take (m * (lay T).length)).drop (i * (lay T).length)).take (lay T).length = (xs.drop (i * (lay T).length)).take (lay T).length := by
      rw [List.drop_take, List.take_take, Nat.min_eq_left (by omega)]
    rw [e]
    exact this
theorem cut_at (f : Nat → Value) (k : Nat) {j : Nat} (hj : j < 35) : (cut f k).getD j undef = f (k * 35 + j) := by
  rw [cut, List.getD_eq_getElem?_getD, List.getElem?_map, List.getElem?_range hj]
  rfl
/-- A handler is taken off the last frame. -/
theorem StRow.tries {w : World} {M : Mem} {B n q : Nat} {rows : List (List Dat)} {f : Nat → Value} {g : Nat → Nat} (h : StRow w M B n (q + 1) rows f g) {row : List Dat} (hr : rows[q]? = some row) {p6 : Option Addr} {n6 m6 c6 : Nat} (hv : f (q * 35 + 6) = .slice p6 n6 c6) (hm : m6 ≤ n6) :
    StRow (w.setCell ⟨B, q * 35 + 6, none⟩ (.slice p6 m6 c6)) M B n (q + 1) (rows.set q (row.set 6 (.r ((row.getD 6 .o).rows.take m6)))) (fun x => if x = q * 35 + 6 then .slice p6 m6 c6 else f x) g := by
  obtain ⟨h1, h2, h3, h4⟩ := h
  have hsz : ∀ b, b ≠ B → (w.setCell ⟨B, q * 35 + 6, none⟩ (.slice p6 m6 c6)).heap[b]? = w.heap[b]? := fun b hb => by
    obtain ⟨C, e, _⟩ := h1
    obtain ⟨_, _, s2, _⟩ := Sx.setCell_at (o := q * 35 + 6) e (.slice p6 m6 c6)
    exact s2 b hb
  have hss : (w.setCell ⟨B, q * 35 + 6, none⟩ (.slice p6 m6 c6)).heap.size = w.heap.size := by
    obtain ⟨C, e, _⟩ := h1
    obtain ⟨_, s1, _, _⟩ := Sx.setCell_at (o := q * 35 + 6) e (.slice p6 m6 c6)
    exact s1
  have hlen : q < rows.length := (List.getElem?_eq_some_iff.1 hr).1
  refine ⟨h1.set _ _, h2, by rw [hss]; exact h3, fun i hi => ?_⟩
  obtain ⟨a1, a2, r, a3, a4⟩ := h4 i hi
  have a5 := a4.grown a2 (fun k _ hk => hsz k hk)
  by_cases he : i = q
  · subst he
    rw [hr] at a3
    cases a3
    refine ⟨a1, a2, row.set 6 (.r ((row.getD 6 .o).rows.take m6)), by simp [hlen], by simp [a5.l1], cut_length _ _, fun j kd hn hk => ?_, ?_⟩
    · have hj : j < 35 := (List.getElem?_eq_some_iff.1 hk).1
      have := a5.same j kd hn hk
      rw [cut_at f i hj] at this
      rw [cut_at _ i hj, if_neg (by omega), List.getD_eq_getElem?_getD, List.getElem?_set_ne (by omega), ← List.getD_eq_getElem?_getD]
      exact this
    · obtain ⟨b1, b2, b3, b4, b5, b6, l1, l2, l3, l4, l5, l6, l7, o1, o2, o3, o4, o5, o6, o7⟩ := a5.own
      have e6 := cut_at f i (j := 6) (by omega)
      rw [e6, hv] at o4
      have o4' := o4.take hm
      have hd : ∀ j, j ≠ 6 → (row.set 6 (Dat.r ((row.getD 6 .o).rows.take m6))).getD j .o = row.getD j .o := fun j hj => by
        rw [List.getD_eq_getElem?_getD, List.getElem?_set_ne (Ne.symm hj), ← List.getD_eq_getElem?_getD]
      have hd6 : (row.set 6 (Dat.r ((row.getD 6 .o).rows.take m6))).getD 6 .o = .r ((row.getD 6 .o).rows.take m6) := by
        rw [List.getD_eq_getElem?_getD, List.getElem?_set_self (by rw [a5.l1]; omega)]
        rfl
      have hc : ∀ j, j < 35 → j ≠ 6 → (cut (fun x => if x = i * 35 + 6 then .slice p6 m6 c6 else f x) i).getD j undef = (cut f i).getD j undef := fun j hj hne => by
        rw [cut_at _ i hj, cut_at f i hj, if_neg (by omega)]
      have hc6 : (cut (fun x => if x = i * 35 + 6 then .slice p6 m6 c6 else f x) i).getD 6 undef = .slice p6 m6 c6 := by
        rw [cut_at _ i (by omega), if_pos rfl]
      rw [hd 3 (by omega), hd 4 (by omega), hd 5 (by omega), hd6, hd 28 (by omega), hd 33 (by omega), hd 34 (by omega), hc 3 (by omega) (by omega), hc 4 (by omega) (by omega), hc 5 (by omega) (by omega), hc6, hc 28 (by omega) (by omega), hc 33 (by omega) (by omega), hc 34 (by omega) (by omega)]
      exact ⟨b1, b2, b3, b4, b5, b6, l1, l2, l3, l4, l5, l6, l7, o1, o2, o3, o4', o5, o6, o7⟩
  · refine ⟨a1, a2, r, by rw [List.getElem?_set_ne (Ne.symm he)]; exact a3, ?_⟩
    have hc : cut (fun x => if x = q * 35 + 6 then .slice p6 m6 c6 else f x) i = cut f i := List.map_congr_left fun j hj => by
      have hj := List.mem_range.1 hj
      show (if i * 35 + j = q * 35 + 6 then _ else f (i * 35 + j)) = _
      rw [if_neg (by omega)]
    rw [hc]
    exact a5
end Go.Proofs.YtgjfdbbghefdbaaGreatDoor.Lt

-- dead: iaA (.p 8 0) (.i .i8 n)
