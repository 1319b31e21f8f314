/-
  pleachref01.Arith, product, Do at + - *. Conditions: the numbers may be.
  pleachref03.number, words, compare, Compare. Conditions: the trees lie as 'TrV' says, and may be where 'compare' is asked.
  pleachref03.made, Tuple, Cons. Conditions: the parts lie as 'Kids' says, at most 2^20 of them.
-/
import Derived.Test.YtlhobpknflobgaaGreatDoorGv3
import Derived.Test.YtlhobpknflobgaaGreatDoorS19
import Derived.Test.YtlhobpknflobgaaGreatDoorS06
import Derived.Test.YtlhobpknflobgaaGreatDoorGv1
namespace Go.Proofs.YtlhobpknflobgaaGreatDoor
open Go.RowKit

set_option maxHeartbeats 1000000 in
theorem rarith_any (w : World) (s : ByteArray) (h : arS s = true) : Calls Tryz.prog 157 #[.string s] w fun e w' => e = .returned (.bool true) ∧ w = w' := by
  have h0 : arS s = (s.toList == [43] || (s.toList == [45] || s.toList == [42])) := rfl
  rw [h0] at h
  clear h0
  cases h1 : (s.toList == [43])
  case true =>
    clear h
    go_enter Tryz.func157, Tryz.ntmps157
    go_wp2
    go_ret
    exact ⟨rfl, rfl⟩
  cases h2 : (s.toList == [45])
  case true =>
    clear h
    go_enter Tryz.func157, Tryz.ntmps157
    go_wp2
    go_ret
    exact ⟨rfl, rfl⟩
  have h3 : (s.toList == [42]) = true := by rw [h1, h2] at h; simpa using h
  clear h
  go_enter Tryz.func157, Tryz.ntmps157
  go_wp2
  go_ret
  exact ⟨rfl, rfl⟩

theorem may_zero : mayI 0 = true := by decide
theorem w64 (x : Int) : wrap64 x = IntKind.i64.wrap x := by unfold wrap64; rw [IntKind.wrap_i64]
theorem prod_law {a b n q r : Int} (ha : mayI a = true) (hb : mayI b = true) (hb0 : b ≠ 0) (hn : n = wrap64 (a * b)) (hq : q = wrap64 (n.tdiv b)) (hr : r = n.tmod b) : ((q == a) && ((r == 0) && mayI n)) = mayI (a * b) ∧ (mayI (a * b) = true → n = a * b) := by
  have a1 := may_nat ha
  have b1 := may_nat hb
  have key : mayI (a * b) = true → n = a * b := by
    intro h
    have h1 := may_nat h
    rw [hn, w64, IntKind.wrap_i64]
    omega
  refine ⟨?_, key⟩
  cases h : mayI (a * b)
  · rw [Bool.eq_false_iff]
    intro hc
    simp only [Bool.and_eq_true, beq_iff_eq] at hc
    obtain ⟨h1, h2, h3⟩ := hc
    have n1 := may_nat h3
    have hd : n.tdiv b * b + n.tmod b = n := Int.tdiv_mul_add_tmod n b
    have hle : (n.tdiv b).natAbs ≤ n.natAbs := by rw [Int.natAbs_tdiv]; exact Nat.div_le_self _ _
    have hq2 : q = n.tdiv b := by rw [hq, w64, IntKind.wrap_i64]; omega
    rw [← hr, h2, ← hq2, h1, Int.add_zero] at hd
    rw [hd, h3] at h
    cases h
  · have hk := key h
    have h1 := may_nat h
    have e1 : n.tdiv b = a := by rw [hk]; exact Int.mul_tdiv_cancel _ hb0
    have e2 : n.tmod b = 0 := by rw [hk]; exact Int.mul_tmod_left _ _
    have e3 : q = a := by rw [hq, e1, w64, IntKind.wrap_i64]; omega
    rw [e3, hr, e2, hk, h]
    simp
def PdPost (a b : Int) (w : World) (e : Ending) (w' : World) : Prop := ∃ (n : Int) (ok : Bool), e = .returned (.tuple #[.int .i64 n, .bool ok]) ∧ w = w' ∧ (ok && mayI n) = mayI (a * b) ∧ (mayI (a * b) = true → n = a * b)
set_option maxHeartbeats 2000000 in
theorem product_any (w : World) {a b : Int} (ha : mayI a = true) (hb : mayI b = true) : Calls Tryz.prog 158 #[.int .i64 a, .int .i64 b] w (PdPost a b w) := by
  by_cases ha0 : a = 0
  · subst ha0
    have h1 : ((0 : Int) == 0) = true := rfl
    clear ha hb
    go_enter Tryz.func158, Tryz.ntmps158
    go_wp2
    go_ret2
    exact ⟨0, true, rfl, rfl, by rw [Int.zero_mul]; rfl, fun _ => by rw [Int.zero_mul]⟩
  by_cases hb0 : b = 0
  · subst hb0
    have h1 : (a == 0) = false := by simpa using ha0
    clear ha hb ha0
    go_enter Tryz.func158, Tryz.ntmps158
    go_wp2
    go_ret2
    exact ⟨0, true, rfl, rfl, by rw [Int.mul_zero]; rfl, fun _ => by rw [Int.mul_zero]⟩
  have h1 : (a == 0) = false := by simpa using ha0
  have h2 : (b == 0) = false := by simpa using hb0
  obtain ⟨n, hn⟩ : ∃ n, wrap64 (a * b) = n := ⟨_, rfl⟩
  have HL := Lib.hid (prod_law (n := n) (q := wrap64 (n.tdiv b)) (r := n.tmod b) ha hb hb0 hn.symm rfl rfl)
  clear ha hb
  go_enter Tryz.func158, Tryz.ntmps158
  go_upto_region 4 with fail
  rw [hn]
  clear hn
  cases hq : (wrap64 (n.tdiv b) == a)
  case false =>
    rw [hq] at HL
    go_wp2
    go_ret2
    exact ⟨n, false, rfl, rfl, HL.out.1, HL.out.2⟩
  rw [hq, Bool.true_and] at HL
  cases hr : (n.tmod b == 0)
  case false =>
    rw [hr] at HL
    go_wp2
    go_ret2
    exact ⟨n, false, rfl, rfl, HL.out.1, HL.out.2⟩
  rw [hr, Bool.true_and] at HL
  go_wp2_with (go_at_call 134; refine (rintsMay_any _ _).mono ?_; rintro e w1 ⟨rfl, rfl⟩)
  go_ret2
  exact ⟨n, mayI n, rfl, rfl, by rw [Bool.and_self]; exact HL.out.1, HL.out.2⟩

/-- What Do tells at + - *. -/
def RdPost (s : ByteArray) (a b : Int) (w : World) (e : Ending) (w' : World) : Prop := ∃ n er : Int, e = .returned (.tuple #[.int .i64 n, .int .i64 er]) ∧ w = w' ∧ ((mayI (doS s a b) = true ∧ n = doS s a b ∧ er = 0) ∨ (mayI (doS s a b) = false ∧ n = 0 ∧ er = 11))
set_option maxHeartbeats 4000000 in
theorem rdo_any (w : World) {s : ByteArray} {a b : Int} (h : arS s = true) (ha : mayI a = true) (hb : mayI b = true) : Calls Tryz.prog 119 #[.string s, .int .i64 a, .int .i64 b] w (RdPost s a b w) := by
  have HAR := Lib.hid (fun W => rarith_any W s h)
  have HA := Lib.hid ha
  have HB := Lib.hid hb
  have hcase : (s.toList == [43]) = true ∨ ((s.toList == [43]) = false ∧ (s.toList == [45]) = true) ∨ ((s.toList == [43]) = false ∧ (s.toList == [45]) = false ∧ (s.toList == [42]) = true) := by
    have h0 : arS s = (s.toList == [43] || (s.toList == [45] || s.toList == [42])) := rfl
    rw [h0] at h
    generalize (s.toList == [43]) = x at *
    generalize (s.toList == [45]) = y at *
    generalize (s.toList == [42]) = z at *
    cases x <;> cases y <;> simp_all
  have a1 := may_nat ha
  have b1 := may_nat hb
  have tok1 : True := trivial
  have tok2 : True := trivial
  rcases hcase with s1 | ⟨s1, s2⟩ | ⟨s1, s2, s3⟩
  · have hd : doS s a b = a + b := by unfold doS; rw [if_pos s1]
    have HD := Lib.hid hd
    have h1 : -576460752303423488 ≤ a := a1.1
    have h2 : a ≤ 576460752303423487 := a1.2
    have h3 : -576460752303423488 ≤ b := b1.1
    have h4 : b ≤ 576460752303423487 := b1.2
    clear h ha hb hd a1 b1
    cases hm : mayI (a + b)
    all_goals
      have HM := Lib.hid hm
      clear hm
      go_enter Tryz.func119, Tryz.ntmps119
      go_wp2_with (first | (go_at_call 157; refine (HAR.out _).mono ?_; rintro e w1 ⟨rfl, rfl⟩) | (go_at_call 134; have _t := tok1; refine (rintsMay_any _ _).mono ?_; rintro e w2 ⟨rfl, rfl⟩; rw [HA.out]; clear tok1) | (go_at_call 134; have _t := tok2; refine (rintsMay_any _ _).mono ?_; rintro e w3 ⟨rfl, rfl⟩; rw [HB.out]; clear tok2) | (go_at_call 134; refine (rintsMay_any _ _).mono ?_; rintro e w4 ⟨rfl, rfl⟩; rw [HM.out]))
      go_ret2
    · exact ⟨_, _, rfl, rfl, .inr ⟨by rw [HD.out]; exact HM.out, rfl, rfl⟩⟩
    · exact ⟨_, _, rfl, rfl, .inl ⟨by rw [HD.out]; exact HM.out, by rw [HD.out] <;> rfl, rfl⟩⟩
  · have hd : doS s a b = a - b := by unfold doS; rw [if_neg (by rw [s1]; simp), if_pos s2]
    have HD := Lib.hid hd
    have h1 : -576460752303423488 ≤ a := a1.1
    have h2 : a ≤ 576460752303423487 := a1.2
    have h3 : -576460752303423488 ≤ b := b1.1
    have h4 : b ≤ 576460752303423487 := b1.2
    clear h ha hb hd a1 b1
    cases hm : mayI (a - b)
    all_goals
      have HM := Lib.hid hm
      clear hm
      go_enter Tryz.func119, Tryz.ntmps119
      go_wp2_with (first | (go_at_call 157; refine (HAR.out _).mono ?_; rintro e w1 ⟨rfl, rfl⟩) | (go_at_call 134; have _t := tok1; refine (rintsMay_any _ _).mono ?_; rintro e w2 ⟨rfl, rfl⟩; rw [HA.out]; clear tok1) | (go_at_call 134; have _t := tok2; refine (rintsMay_any _ _).mono ?_; rintro e w3 ⟨rfl, rfl⟩; rw [HB.out]; clear tok2) | (go_at_call 134; refine (rintsMay_any _ _).mono ?_; rintro e w4 ⟨rfl, rfl⟩; rw [HM.out]))
      go_ret2
    · exact ⟨_, _, rfl, rfl, .inr ⟨by rw [HD.out]; exact HM.out, rfl, rfl⟩⟩
    · exact ⟨_, _, rfl, rfl, .inl ⟨by rw [HD.out]; exact HM.out, by rw [HD.out] <;> rfl, rfl⟩⟩
  · have hd : doS s a b = a * b := by unfold doS; rw [if_neg (by rw [s1]; simp), if_neg (by rw [s2]; simp)]
    have HD := Lib.hid hd
    have cP := fun (W : World) => product_any W ha hb
    clear h ha hb hd a1 b1
    obtain ⟨m, hm⟩ : ∃ m, mayI (a * b) = m := ⟨_, rfl⟩
    have HM0 := Lib.hid hm
    clear hm
    go_enter Tryz.func119, Tryz.ntmps119
    go_upto_region 17 with (first | (go_at_call 157; refine (HAR.out _).mono ?_; rintro e w1 ⟨rfl, rfl⟩) | (go_at_call 134; have _t := tok1; refine (rintsMay_any _ _).mono ?_; rintro e w2 ⟨rfl, rfl⟩; rw [HA.out]; clear tok1) | (go_at_call 134; have _t := tok2; refine (rintsMay_any _ _).mono ?_; rintro e w3 ⟨rfl, rfl⟩; rw [HB.out]; clear tok2) | (go_at_call 158; refine (cP _).mono ?_; rintro e w4 ⟨n, ok, rfl, rfl, hok, hn⟩; have HOK := Lib.hid hok; have HN := Lib.hid hn; clear hok hn))
    cases ok
    · go_wp2
      go_ret2
      exact ⟨_, _, rfl, rfl, .inr ⟨by rw [HD.out, ← HOK.out]; rfl, rfl, rfl⟩⟩
    · cases hm : mayI n
      all_goals
        have HM := Lib.hid hm
        clear hm
        go_wp2_with (go_at_call 134; refine (rintsMay_any _ _).mono ?_; rintro e w4 ⟨rfl, rfl⟩; rw [HM.out])
        go_ret2
      · exact ⟨_, _, rfl, rfl, .inr ⟨by rw [HD.out, ← HOK.out, HM.out]; rfl, rfl, rfl⟩⟩
      · have h1 : mayI (a * b) = true := by rw [← HOK.out, HM.out]; rfl
        exact ⟨_, _, rfl, rfl, .inl ⟨by rw [HD.out]; exact h1, by rw [HD.out, ← HN.out h1] <;> rfl, rfl⟩⟩
end Go.Proofs.YtlhobpknflobgaaGreatDoor
namespace Go.Proofs.YtlhobpknflobgaaGreatDoor
open Go.RowKit

set_option maxHeartbeats 400000 in
theorem rnumber_any (w : World) (a b : Int) : Calls Tryz.prog 196 #[.int .i64 a, .int .i64 b] w fun e w' => e = .returned (.int .i64 (cmpI a b)) ∧ w = w' := by
  by_cases h1 : a < b
  · go_enter Tryz.func196, Tryz.ntmps196
    go_wp2
    go_ret
    exact ⟨ret_i64 (by unfold cmpI; omega), rfl⟩
  · by_cases h2 : b < a
    all_goals
      go_enter Tryz.func196, Tryz.ntmps196
      go_wp2
      go_ret
      exact ⟨ret_i64 (by unfold cmpI; omega), rfl⟩
set_option maxHeartbeats 400000 in
theorem rwords_any (w : World) (a b : ByteArray) : Calls Tryz.prog 197 #[.string a, .string b] w fun e w' => e = .returned (.int .i64 (cmpS a b)) ∧ w = w' := by
  unfold cmpS
  cases h1 : Op.bytesLess a.toList b.toList
  · cases h2 : (a.toList == b.toList)
    all_goals
      go_enter Tryz.func197, Tryz.ntmps197
      go_wp2
      go_ret
      exact ⟨ret_i64 (by simp), rfl⟩
  · go_enter Tryz.func197, Tryz.ntmps197
    go_wp2
    go_ret
    exact ⟨ret_i64 (by simp), rfl⟩

theorem one_len {x : Tr} (h : oneB x = true) (h5 : x.k ≠ 5) : (x.l.length : Int) = if x.k = 7 then 2 else 0 := by
  unfold oneB bareB at h
  repeat' split at h
  all_goals first | (simp_all; done) | (simp_all; omega)
theorem bool_len {x y : Tr} (hx : oneB x = true) (hy : oneB y = true) (hk : x.k = y.k) (h5 : x.k ≠ 5) : x.l.length = y.l.length := by
  have h1 := one_len hx h5
  have h2 := one_len hy (hk ▸ h5)
  rw [← hk] at h2
  omega
theorem ok_one {x : Tr} (h : x.ok = true) : oneB x = true := by
  rw [ok_eq, Bool.and_eq_true] at h
  exact h.1
theorem wrap_i8 {k : Int} (h : (Lit.int .i8 k).wf = true) : IntKind.i64.wrap k = k := by
  have h1 : IntKind.i8.min = -128 := by decide
  have h2 : IntKind.i8.max = 127 := by decide
  simp only [Lit.wf, h1, h2, Bool.and_eq_true, decide_eq_true_eq] at h
  rw [IntKind.wrap_i64]
  omega
theorem cmpI_self (a : Int) : cmpI a a = 0 := cmpI_zero.2 rfl
/-- What is left of an order, behind the words. -/
def restO (x y : Tr) (k : Nat) (c : Int) : Int := if c = 0 then Tr.ord.ordl (x.l.drop k) (y.l.drop k) else c

def RcPost (x y : Tr) (w : World) (e : Ending) (w' : World) : Prop := e = .returned (.int .i64 (x.ord y)) ∧ Below w.heap.size w w'
set_option maxHeartbeats 8000000 in
set_option maxRecDepth 100000 in
theorem rcmp_any {F G : Nat → Prop} (x : Tr) : ∀ (y : Tr) (w : World) (sv tv : Value), TrV F w x sv → TrV G w y tv → x.ok = true → y.ok = true →
    Calls Tryz.prog 159 #[.agg #[.int .i8 x.k, .int .i64 x.n, .string x.s, .string x.t, sv], .agg #[.int .i8 y.k, .int .i64 y.n, .string y.s, .string y.t, tv]] w (RcPost x y w) := by
  induction x using Tr.ind with
  | h x ih =>
    intro y w sv tv hx hy hox hoy
    obtain ⟨p, c, rfl⟩ := hx.kids.slice
    obtain ⟨p2, c2, rfl⟩ := hy.kids.slice
    obtain ⟨n1, n2, hb1, hz1⟩ := two_new w (.cells #[.int .i8 x.k, .int .i64 x.n, .string x.s, .string x.t, .slice p x.l.length c] 29) (.cells #[.int .i8 y.k, .int .i64 y.n, .string y.s, .string y.t, .slice p2 y.l.length c2] 29)
    have hx1 := hx.below hb1
    have hy1 := hy.below hb1
    have hlen : x.l.length ≤ 2199023255552 := hx.kids.len
    have hlen2 : y.l.length ≤ 2199023255552 := hy.kids.len
    have hwx : IntKind.i64.wrap x.k = x.k := by
      exact wrap_i8 hx.wf.k
    have hwy : IntKind.i64.wrap y.k = y.k := by
      exact wrap_i8 hy.wf.k
    obtain ⟨a0, a1, a2, a3, a4⟩ := node_heap n1
    obtain ⟨b0, b1, b2, b3, b4⟩ := node_heap n2
    simp only [Nat.zero_add] at a1 a2 a3 a4 b1 b2 b3 b4
    have HO := Lib.hid (ord_eq x y)
    have IH := Lib.hid ih
    have HOX := Lib.hid hox
    have HOY := Lib.hid hoy
    have HX := Lib.hid hx1
    have HY := Lib.hid hy1
    clear ih hx hy n1 n2 hox hoy hz1 hx1 hy1
    by_cases hk : x.k = y.k
    case neg =>
      have g0 : (x.k != y.k) = true := by simpa using hk
      have HV : Hid (x.ord y = cmpI x.k y.k) := by unfold Hid; rw [HO.out, if_neg hk]
      clear hk
      go_enter Tryz.func159, Tryz.ntmps159
      go_wp2_with (go_at_call 196; refine (rnumber_any _ _ _).mono ?_; rintro e w3 ⟨rfl, rfl⟩)
      go_ret
      exact ⟨by rw [HV.out]; rfl, hb1⟩
    have g0 : (x.k != y.k) = false := by simpa using hk
    have hlk := bool_len (ok_one HOX.out) (ok_one HOY.out) hk
    rw [if_pos hk] at HO
    clear hwx hwy
    by_cases hll : x.l.length = y.l.length
    case neg =>
      have h5 : x.k = 5 := Classical.byContradiction fun h => hll (hlk h)
      have g5 : (x.k == 5) = true := by simpa using h5
      have g4 : ((x.l.length : Int) != (y.l.length : Int)) = true := by rw [bne_iff_ne]; omega
      have HV : Hid (x.ord y = cmpI x.l.length y.l.length) := by
        unfold Hid
        rw [HO.out, orI, if_neg (fun h => hll (by have := cmpI_zero.1 h; omega))]
      clear hk hlk h5 hll
      go_enter Tryz.func159, Tryz.ntmps159
      go_wp2_with (go_at_call 196; refine (rnumber_any _ _ _).mono ?_; rintro e w3 ⟨rfl, rfl⟩)
      go_ret
      exact ⟨by rw [HV.out]; rfl, hb1⟩
    have g4 : ((x.l.length : Int) != (y.l.length : Int)) = false := by rw [bne_eq_false_iff_eq]; omega
    have HLL := Lib.hid hll
    have hl1 : x.l.length ≤ y.l.length := by omega
    have HO2 : Hid (x.ord y = orI [cmpS x.s y.s, cmpS x.t y.t, cmpI x.n y.n, Tr.ord.ordl x.l y.l]) := by
      unfold Hid
      rw [HO.out, orI, if_pos (by rw [hll]; exact cmpI_self _)]
    clear hk hlk hll HO
    by_cases hs : cmpS x.s y.s = 0
    case neg =>
      have gs : (cmpS x.s y.s != 0) = true := by simpa using hs
      have HV : Hid (x.ord y = cmpS x.s y.s) := by unfold Hid; rw [HO2.out, orI, if_neg hs]
      clear hs
      by_cases h5 : x.k = 5
      case' pos => have g5 : (x.k == 5) = true := by simpa using h5
      case' neg => have g5 : (x.k == 5) = false := by simpa using h5
      all_goals
        clear h5
        go_enter Tryz.func159, Tryz.ntmps159
        go_wp2_with (go_at_call 197; refine (rwords_any _ _ _).mono ?_; rintro e w3 ⟨rfl, rfl⟩)
        go_ret
        exact ⟨by rw [HV.out]; rfl, hb1⟩
    have HS := Lib.hid hs
    have HO3 : Hid (x.ord y = orI [cmpS x.t y.t, cmpI x.n y.n, Tr.ord.ordl x.l y.l]) := by unfold Hid; rw [HO2.out, orI, if_pos hs]
    clear HO2 hs
    have tok1 : True := trivial
    by_cases ht : cmpS x.t y.t = 0
    case neg =>
      have gt : (cmpS x.t y.t != 0) = true := by simpa using ht
      have HV : Hid (x.ord y = cmpS x.t y.t) := by unfold Hid; rw [HO3.out, orI, if_neg ht]
      clear ht
      by_cases h5 : x.k = 5
      case' pos => have g5 : (x.k == 5) = true := by simpa using h5
      case' neg => have g5 : (x.k == 5) = false := by simpa using h5
      all_goals
        clear h5
        go_enter Tryz.func159, Tryz.ntmps159
        go_wp2_with (first
          | (go_at_call 197; have _t := tok1; refine (rwords_any _ x.s y.s).mono ?_; rintro e w3 ⟨rfl, rfl⟩; rw [HS.out]; clear tok1)
          | (go_at_call 197; refine (rwords_any _ _ _).mono ?_; rintro e w3 ⟨rfl, rfl⟩))
        go_ret
        exact ⟨by rw [HV.out]; rfl, hb1⟩
    have HT := Lib.hid ht
    have HR : Hid (x.ord y = restO x y 0 (cmpI x.n y.n)) := by
      unfold Hid restO
      rw [HO3.out, orI, if_pos ht, orI]
      by_cases h : cmpI x.n y.n = 0
      · rw [if_pos h, if_pos h, orI]
        by_cases h2 : Tr.ord.ordl x.l y.l = 0
        · rw [if_pos h2]; exact h2.symm
        · rw [if_neg h2]; rfl
      · rw [if_neg h, if_neg h]
    clear HO3 ht
    have tok2 : True := trivial
    by_cases h5 : x.k = 5
    case' pos => have g5 : (x.k == 5) = true := by simpa using h5
    case' neg => have g5 : (x.k == 5) = false := by simpa using h5
    all_goals
      clear h5
      go_enter Tryz.func159, Tryz.ntmps159
      go_wp2_with (first
        | (go_at_call 197; have _t := tok1; refine (rwords_any _ x.s y.s).mono ?_; rintro e w3 ⟨rfl, rfl⟩; rw [HS.out]; clear tok1)
        | (go_at_call 197; have _t := tok2; refine (rwords_any _ x.t y.t).mono ?_; rintro e w3 ⟨rfl, rfl⟩; rw [HT.out]; clear tok2)
        | (go_at_call 196; refine (rnumber_any _ _ _).mono ?_; rintro e w3 ⟨rfl, rfl⟩))
      generalize (w.alloc (.cells #[.int .i8 x.k, .int .i64 x.n, .string x.s, .string x.t, .slice p x.l.length c] 29)).alloc (.cells #[.int .i8 y.k, .int .i64 y.n, .string y.s, .string y.t, .slice p2 y.l.length c2] 29) = w1 at hb1 a0 a1 a2 a3 a4 b0 b1 b2 b3 b4 HX HY ⊢
      clear a0 a1 a2 a3 b0 b1 b2 b3 g0 g4 g5
      have HA4 := Lib.hid a4
      have HB4 := Lib.hid b4
      clear a4 b4
      go_loopw [5, 6] (fun cv i wr => ∃ (k : Nat) (d : Int), k ≤ x.l.length ∧ i = .int .i64 k ∧ cv = .int .i64 d ∧ restO x y k d = restO x y 0 (cmpI x.n y.n) ∧ Below w1.heap.size w1 wr) (fun _ i _ => x.l.length - (intOf i).toNat)
      case atStart => exact ⟨0, _, Nat.zero_le _, rfl, rfl, rfl, Below.refl _ _⟩
      case round =>
        obtain ⟨k, d, hk, rfl, rfl, hrest, hbr⟩ := hrel
        have HRS := Lib.hid hrest
        clear hrest
        have a4 := (hbr.cell (p := ⟨w.heap.size, 4, none⟩) (cell_block HA4.out)).trans HA4.out
        have b4 := (hbr.cell (p := ⟨w.heap.size + 1, 4, none⟩) (cell_block HB4.out)).trans HB4.out
        have hB := hb1.trans (hbr.mono hb1.size)
        by_cases hlt : k < x.l.length
        · by_cases hd : d = 0
          · subst hd
            have hlt2 : k < y.l.length := Nat.lt_of_lt_of_le hlt hl1
            obtain ⟨g, o, kv, rfl, _, hnode, hkid⟩ := (HX.out.below hbr).kids.at hlt
            obtain ⟨g2, o2, kv2, rfl, _, hnode2, hkid2⟩ := (HY.out.below hbr).kids.at hlt2
            have hbd : Below wr.heap.size wr (wr.drewN 1) := below_drewN (Below.refl _ _) 1
            have cK := IH.out x.l[k] (List.getElem_mem hlt) y.l[k] (wr.drewN 1) kv kv2 (hkid.below hbd) (hkid2.below hbd) (ok_kid HOX.out (List.getElem_mem hlt)) (ok_kid HOY.out (List.getElem_mem hlt2))
            have hst : restO x y k 0 = restO x y (k + 1) (x.l[k].ord y.l[k]) := by
              unfold restO
              rw [if_pos rfl, ordl_take hlt hlt2]
            have HST := Lib.hid (hst.symm.trans HRS.out)
            obtain ⟨c0, c1, c2', c3, c4⟩ := hnode
            obtain ⟨d0, d1, d2, d3, d4⟩ := hnode2
            have hlt3 : (k : Int) < y.l.length := by omega
            clear hkid hkid2 hst
            generalize x.l[k] = u at *
            generalize y.l[k] = v at *
            obtain ⟨q, hq⟩ : ∃ q, u.ord v = q := ⟨_, rfl⟩
            unfold RcPost at cK
            rw [hq] at cK HST
            clear hq
            go_upto_region 15 with fail
            go_still_tail 10, (by kernel_rfl)
            change wpList _ _ _ _ _ (wr.drewN 1)
            generalize wr.drewN 1 = w4 at hbd cK ⊢
            go_wp2_with (go_at_call 159; refine cK.mono ?_; rintro e w5 ⟨rfl, hb5⟩)
            go_roundw
            case rel => exact ⟨k + 1, _, hlt, by go_num, rfl, HST.out, hbr.trans ((hbd.trans (hb5.mono hbd.size)).mono hbr.size)⟩
            case measure => simp [intOf]; omega
          · have hd2 : (d == 0) = false := by simpa using hd
            have HE : Hid (x.ord y = d) := by unfold Hid; rw [HR.out, ← HRS.out]; unfold restO; rw [if_neg hd]
            clear hd
            go_wp2
            go_ret
            exact ⟨by rw [HE.out]; rfl, hB⟩
        · have HE : Hid (x.ord y = d) := by
            unfold Hid
            rw [HR.out, ← HRS.out]
            unfold restO
            by_cases hd : d = 0
            · rw [if_pos hd, ordl_end (by omega) (by have := HLL.out; omega) (.inl (by omega)), hd, HLL.out]; exact cmpI_self _
            · rw [if_neg hd]
          go_wp2
          go_ret
          exact ⟨by rw [HE.out]; rfl, hB⟩
set_option maxHeartbeats 4000000 in
set_option maxRecDepth 100000 in
theorem rCompare_any {F G : Nat → Prop} {x y : Tr} {w : World} {sv tv : Value} (hx : TrV F w x sv) (hy : TrV G w y tv) :
    Calls Tryz.prog 122 #[.agg #[.int .i8 x.k, .int .i64 x.n, .string x.s, .string x.t, sv], .agg #[.int .i8 y.k, .int .i64 y.n, .string y.s, .string y.t, tv]] w fun e w' => e = .returned (.int .i64 (cmpT x y)) ∧ Below w.heap.size w w' := by
  obtain ⟨p, c, rfl⟩ := hx.kids.slice
  obtain ⟨p2, c2, rfl⟩ := hy.kids.slice
  obtain ⟨n1, n2, hb1, hz1⟩ := two_new w (.cells #[.int .i8 x.k, .int .i64 x.n, .string x.s, .string x.t, .slice p x.l.length c] 29) (.cells #[.int .i8 y.k, .int .i64 y.n, .string y.s, .string y.t, .slice p2 y.l.length c2] 29)
  have HX := Lib.hid (hx.below hb1)
  have HY := Lib.hid (hy.below hb1)
  have HU := Lib.hid (show cmpT x y = if chkT x = 0 ∧ chkT y = 0 then x.ord y else 0 from rfl)
  clear hx hy hz1
  go_enter Tryz.func122, Tryz.ntmps122
  go_upto_region 1 with fail
  change Code.wp _ _ _ _ ((w.alloc (.cells #[.int .i8 x.k, .int .i64 x.n, .string x.s, .string x.t, .slice p x.l.length c] 29)).alloc (.cells #[.int .i8 y.k, .int .i64 y.n, .string y.s, .string y.t, .slice p2 y.l.length c2] 29))
  generalize (w.alloc (.cells #[.int .i8 x.k, .int .i64 x.n, .string x.s, .string x.t, .slice p x.l.length c] 29)).alloc (.cells #[.int .i8 y.k, .int .i64 y.n, .string y.s, .string y.t, .slice p2 y.l.length c2] 29) = w1 at hb1 n1 n2 HX HY ⊢
  have HXC := Lib.hid (fun (V : World) (hv : Below w1.heap.size w1 V) => Lib.hid (show V.cell? ⟨w.heap.size, 0, none⟩ = some (.int .i8 x.k) ∧ V.cell? ⟨w.heap.size, 1, none⟩ = some (.int .i64 x.n) ∧ V.cell? ⟨w.heap.size, 2, none⟩ = some (.string x.s) ∧ V.cell? ⟨w.heap.size, 3, none⟩ = some (.string x.t) ∧ V.cell? ⟨w.heap.size, 4, none⟩ = some (.slice p x.l.length c) from by
    have h1 := (hv.block _ (Array.getElem?_eq_some_iff.1 n1).1).trans n1
    exact ⟨(arr_cell h1).trans rfl, (arr_cell h1).trans rfl, (arr_cell h1).trans rfl, (arr_cell h1).trans rfl, (arr_cell h1).trans rfl⟩))
  have HYC := Lib.hid (fun (V : World) (hv : Below w1.heap.size w1 V) => Lib.hid (show V.cell? ⟨w.heap.size + 1, 0, none⟩ = some (.int .i8 y.k) ∧ V.cell? ⟨w.heap.size + 1, 1, none⟩ = some (.int .i64 y.n) ∧ V.cell? ⟨w.heap.size + 1, 2, none⟩ = some (.string y.s) ∧ V.cell? ⟨w.heap.size + 1, 3, none⟩ = some (.string y.t) ∧ V.cell? ⟨w.heap.size + 1, 4, none⟩ = some (.slice p2 y.l.length c2) from by
    have h1 := (hv.block _ (Array.getElem?_eq_some_iff.1 n2).1).trans n2
    exact ⟨(arr_cell h1).trans rfl, (arr_cell h1).trans rfl, (arr_cell h1).trans rfl, (arr_cell h1).trans rfl, (arr_cell h1).trans rfl⟩))
  obtain ⟨a0, a1, a2, a3, a4⟩ := (HXC.out _ (Below.refl _ _)).out
  have cX := rcheck_any HX.out
  have cY := fun (V : World) (hv : Below w1.heap.size w1 V) => rcheck_any (HY.out.below hv)
  have tok1 : True := trivial
  clear n1 n2
  by_cases h0 : chkT x = 0
  case neg =>
    have g0 : (chkT x != 0) = true := by simpa using h0
    have HV : Hid (cmpT x y = 0) := by unfold Hid; rw [HU.out, if_neg (by simp [h0])]
    clear h0
    go_wp2_with (go_at_call 13; refine cX.mono ?_; rintro e w2 ⟨rfl, hb2⟩)
    go_ret
    exact ⟨by rw [HV.out]; rfl, hb1.trans (hb2.mono hb1.size)⟩
  have H0 := Lib.hid h0
  rw [h0] at cX
  by_cases h1 : chkT y = 0
  case neg =>
    have g0 : (chkT y != 0) = true := by simpa using h1
    have HV : Hid (cmpT x y = 0) := by unfold Hid; rw [HU.out, if_neg (by simp [h1])]
    clear h0 h1
    go_wp2_with (first
      | (go_at_call 13; have _t := tok1; refine cX.mono ?_; rintro e w2 ⟨rfl, hb2⟩; obtain ⟨b0, b1, b2, b3, b4⟩ := (HYC.out _ hb2).out; clear tok1)
      | (go_at_call 13; refine (cY _ hb2).mono ?_; rintro e w3 ⟨rfl, hb3⟩))
    go_ret
    exact ⟨by rw [HV.out]; rfl, hb1.trans ((hb2.trans (hb3.mono hb2.size)).mono hb1.size)⟩
  have HV : Hid (cmpT x y = x.ord y) := by unfold Hid; rw [HU.out, if_pos ⟨h0, h1⟩]
  have HOX := Lib.hid (chk_iff.1 h0).1
  have HOY := Lib.hid (chk_iff.1 h1).1
  rw [h1] at cY
  clear h0 h1
  go_wp2_with (first
    | (go_at_call 13; have _t := tok1; refine cX.mono ?_; rintro e w2 ⟨rfl, hb2⟩; obtain ⟨b0, b1, b2, b3, b4⟩ := (HYC.out _ hb2).out; clear tok1)
    | (go_at_call 13; refine (cY _ hb2).mono ?_; rintro e w3 ⟨rfl, hb3⟩; have hB3 := hb2.trans (hb3.mono hb2.size); obtain ⟨c0, c1, c2, c3, c4⟩ := (HXC.out _ hB3).out; obtain ⟨d0, d1, d2, d3, d4⟩ := (HYC.out _ hB3).out; have cC := rcmp_any x y w3 _ _ (HX.out.below hB3) (HY.out.below hB3) HOX.out HOY.out)
    | (go_at_call 159; refine cC.mono ?_; rintro e w4 ⟨rfl, hb4⟩))
  go_ret
  exact ⟨by rw [HV.out]; rfl, hb1.trans ((hB3.trans (hb4.mono hB3.size)).mono hb1.size)⟩
end Go.Proofs.YtlhobpknflobgaaGreatDoor
namespace Go.Proofs.YtlhobpknflobgaaGreatDoor
open Go.RowKit

theorem sz_min (x : Tr) (m : Int) (h : 1 ≤ m) : x.sz m = min m x.nn := by
  have h1 := sz_bound x m h
  by_cases hn : (x.nn : Int) ≤ m
  · have := sz_of x m hn; omega
  · by_cases hs : x.sz m < m
    · have := sz_nn x m h hs; omega
    · omega
theorem made_none {l : List Tr} : (∃ x ∈ l, chkT x = 30) → ∀ n, madeSum l n = none := by
  induction l with
  | nil => rintro ⟨x, hx, _⟩; simp at hx
  | cons x r ih =>
    rintro ⟨y, hy, h⟩ n
    rw [madeSum]
    by_cases hx : chkT x = 30
    · rw [if_pos hx]
    · rw [if_neg hx]
      rcases List.mem_cons.1 hy with rfl | hy
      · exact absurd h hx
      · exact ih ⟨y, hy, h⟩ _
theorem made_some {l : List Tr} : (∀ x ∈ l, chkT x ≠ 30) → ∀ n : Int, 0 ≤ n → ∃ m, madeSum l n = some m ∧ (256 < m ↔ 256 < n + Tr.nn.nnl l) := by
  induction l with
  | nil => exact fun _ n _ => ⟨n, rfl, by rw [Tr.nn.nnl]; omega⟩
  | cons x r ih =>
    intro h n hn
    rw [madeSum, if_neg (h x (by simp))]
    have hz := sz_min x 257 (by omega)
    obtain ⟨m, h1, h2⟩ := ih (fun y hy => h y (List.mem_cons_of_mem _ hy)) (n + x.sz 257) (by omega)
    refine ⟨m, h1, h2.trans ?_⟩
    rw [Tr.nn.nnl]
    omega
theorem madeS_ref (k : Int) (l : List Tr) : madeS k l = if (l.any fun x => chkT x == 30) = true then (zeroT, 30) else if 256 < (.mk k 0 ⟨#[]⟩ ⟨#[]⟩ l : Tr).sz 257 then (zeroT, 11) else ((.mk k 0 ⟨#[]⟩ ⟨#[]⟩ l : Tr), 0) := by
  unfold madeS
  cases h : (l.any fun x => chkT x == 30)
  · rw [if_neg (by simp)]
    have h1 : ∀ x ∈ l, chkT x ≠ 30 := fun x hx => by
      have := List.any_eq_false.1 h x hx
      simpa using this
    obtain ⟨m, h2, h3⟩ := made_some h1 1 (by omega)
    have hz := sz_min (.mk k 0 ⟨#[]⟩ ⟨#[]⟩ l : Tr) 257 (by omega)
    have hn : (.mk k 0 ⟨#[]⟩ ⟨#[]⟩ l : Tr).nn = Tr.nn.nnl l + 1 := nn_eq _
    have h4 : 256 < m ↔ 256 < (.mk k 0 ⟨#[]⟩ ⟨#[]⟩ l : Tr).sz 257 := h3.trans (by omega)
    rw [h2]
    show (if 256 < m then _ else _) = _
    by_cases h5 : 256 < m
    · rw [if_pos h5, if_pos (h4.1 h5)]
    · rw [if_neg h5, if_neg (fun h => h5 (h4.2 h))]
  · obtain ⟨x, hx, h1⟩ := List.any_eq_true.1 h
    rw [if_pos rfl, made_none ⟨x, hx, by simpa using h1⟩]

set_option maxHeartbeats 8000000 in
set_option maxRecDepth 100000 in
theorem rmade_any {F : Nat → Prop} {w : World} {l : List Tr} {v : Value} {k : Int} (hk : (Lit.int .i8 k).wf = true) (hF : ∀ g, w.heap.size ≤ g → F g) (hl : Kids F w v l) (hn : l.length ≤ 1048576) :
    Calls Tryz.prog 156 #[.int .i8 k, v] w (MadeSays F (madeS k l) w) := by
  obtain ⟨p, c, rfl⟩ := hl.slice
  have hnw : (w.alloc (.cells (cells5 zeroT (.slice none 0 0)) 29)).heap[w.heap.size]? = some (.cells (cells5 zeroT (.slice none 0 0)) 29 (0, 0)) := heap_new w _
  have hb1 := alloc_below w (.cells (cells5 zeroT (.slice none 0 0)) 29)
  have HK := Lib.hid ((hl.mono (F' := fun g => F g ∧ g < w.heap.size) fun g hg h => ⟨hg, h⟩).under hb1)
  have HF := Lib.hid hF
  have HW := Lib.hid hk
  have HM := Lib.hid (madeS_ref k l)
  clear hk hF hl
  generalize madeS k l = ms at HM ⊢
  go_enter Tryz.func156, Tryz.ntmps156
  go_upto_region 1 with fail
  change Code.wp _ _ _ _ (w.alloc (.cells (cells5 zeroT (.slice none 0 0)) 29))
  generalize w.alloc (.cells (cells5 zeroT (.slice none 0 0)) 29) = w1 at hnw hb1 HK ⊢
  have hz1 : w.heap.size < w1.heap.size := (Array.getElem?_eq_some_iff.1 hnw).1
  have HNW := Lib.hid hnw
  have HZ := Lib.hid hz1
  clear hnw hz1
  go_wp2
  go_loopw [6] (fun i wr => ∃ j : Nat, j ≤ l.length ∧ i = .int .i64 j ∧ (l.take j).any (fun x => chkT x == 30) = false ∧ Below w1.heap.size w1 wr) (fun i _ => l.length - (intOf i).toNat)
  case atStart => exact ⟨0, Nat.zero_le _, rfl, rfl, Below.refl _ _⟩
  case round =>
    obtain ⟨j, hj, rfl, hall, hbr⟩ := hrel
    have HA := Lib.hid hall
    have hB := hb1.trans (hbr.mono hb1.size)
    have hnr := (hbr.block _ HZ.out).trans HNW.out
    clear hall
    by_cases hlt : j < l.length
    · obtain ⟨g, o, xv, rfl, hFg, ⟨a0, a1, a2, a3, a4⟩, hkid⟩ := (HK.out.under hbr).at hlt
      obtain ⟨p3, c3, rfl⟩ := hkid.kids.slice
      have cC := rcheck_any hkid
      have HN6 := Lib.hid hnr
      clear hkid hnr
      cases h30 : (chkT l[j] == 30)
      · have HNX : Hid ((l.take (j + 1)).any (fun x => chkT x == 30) = false) := Lib.hid (any_take (P := fun x : Tr => chkT x == 30) hlt HA.out h30)
        generalize chkT l[j] = q at cC h30
        go_wp2_with (go_at_call 13; refine cC.mono ?_; rintro e w7 ⟨rfl, hb7⟩)
        go_roundw
        case rel => exact ⟨j + 1, hlt, by go_num, HNX.out, hbr.trans (hb7.mono hbr.size)⟩
        case measure => simp [intOf]; omega
      · have HE : Hid (ms = (zeroT, 30)) := by
          unfold Hid; rw [HM.out, if_pos]
          exact any_at (P := fun x : Tr => chkT x == 30) hlt h30
        generalize chkT l[j] = q at cC h30
        go_upto_region 5 with (go_at_call 13; refine cC.mono ?_; rintro e w7 ⟨rfl, hb7⟩)
        have hn7 := (hb7.block _ (Array.getElem?_eq_some_iff.1 HN6.out).1).trans HN6.out
        have hr8 := setRow_heap' (cells := cells5 zeroT (.slice none 0 0)) hn7
        have hB7 : Below w.heap.size w w7 := hB.trans (hb7.mono hB.size)
        have hB8 := below_setRow (g := w.heap.size) (cells := cells5 zeroT (.slice none 0 0)) hB7 (Nat.le_refl _)
        clear cC a0 a1 a2 a3 a4
        go_wp2_with (refine wpList_store_row rfl 29 _ _ rfl w.heap.size (cells5 zeroT (.slice none 0 0)) (by kernel_rfl) (by kernel_rfl) 29 (cells5 zeroT (.slice none 0 0)) hn7 (size28 _ _) (by kernel_rfl) (by kernel_rfl) ?_)
        exact bodyPost_ret (v := .tuple #[.agg (cells5 zeroT (.slice none 0 0)), .int .i64 30]) (results_term Tryz.results156 _ _ _ _ _ rfl hr8) rfl ⟨zeroT, _, 30, rfl, zero_trv _ _, hB8, HE.out.symm⟩
    · have hno : (l.any fun x => chkT x == 30) = false := by have := HA.out; rwa [List.take_of_length_le (by omega)] at this
      have HM2 : Hid (ms = if 256 < (.mk k 0 ⟨#[]⟩ ⟨#[]⟩ l : Tr).sz 257 then (zeroT, 11) else ((.mk k 0 ⟨#[]⟩ ⟨#[]⟩ l : Tr), 0)) := by unfold Hid; rw [HM.out, hno, if_neg (by simp)]
      clear hno
      go_upto_region 7 with fail
      change Code.wp _ _ _ _ (wr.alloc (.cells #[.int .i8 k, .int .i64 0, .string ⟨#[]⟩, .string ⟨#[]⟩, .slice none 0 0] 29))
      have hnk := heap_new wr (.cells #[.int .i8 k, .int .i64 0, .string ⟨#[]⟩, .string ⟨#[]⟩, .slice none 0 0] 29)
      have hbk := alloc_below wr (.cells #[.int .i8 k, .int .i64 0, .string ⟨#[]⟩, .string ⟨#[]⟩, .slice none 0 0] 29)
      have hsz : wr.heap.size < (wr.alloc (.cells #[.int .i8 k, .int .i64 0, .string ⟨#[]⟩, .string ⟨#[]⟩, .slice none 0 0] 29)).heap.size := (Array.getElem?_eq_some_iff.1 hnk).1
      have hsrc := (HK.out.under hbr).under hbk
      have hwr : w.heap.size < wr.heap.size := by have := HZ.out; have := hbr.size; omega
      have hn7 := (hbk.block _ hwr).trans hnr
      have hB7 := hB.trans (hbk.mono hB.size)
      generalize wr.alloc (.cells #[.int .i8 k, .int .i64 0, .string ⟨#[]⟩, .string ⟨#[]⟩, .slice none 0 0] 29) = w7 at hnk hsz hsrc hn7 hB7 ⊢
      obtain ⟨b, hbb⟩ : ∃ b, wr.heap.size = b := ⟨_, rfl⟩
      rw [hbb] at hnk hsz hwr ⊢
      clear hbb hbk hnr
      have k4 : w7.cell? ⟨b, 4, none⟩ = some (.slice none 0 0) := (arr_cell hnk).trans rfl
      have HNK := Lib.hid hnk
      have HN7 := Lib.hid hn7
      clear hnk hn7
      go_upto_region 8 with (at_builtin; refine wpList_append_nil_terms rfl (.tmp 24) (.tmp 25) rfl (fun g => F g ∧ g ≠ w.heap.size ∧ g ≠ b) rfl p l.length c l rfl hsrc hn (fun g hg => ⟨hg.1, by omega, by omega⟩) (fun g hg => ⟨HF.out g (by omega), by omega, by omega⟩) ?_; intro v8 w8 hk8 hb8; obtain ⟨q8, c8, rfl⟩ := hk8.slice; have hn8 := (hb8.block _ hsz).trans HNK.out; have m4 : w8.cell? ⟨b, 4, none⟩ = some (.slice none 0 0) := (arr_cell hn8).trans rfl; have f4 : w8.frozen? ⟨b, 4, none⟩ = false := arr_free hn8; have HK8 := Lib.hid hk8; have HN8 := Lib.hid hn8; clear hk8 hn8)
      have hB8 := hB7.trans (hb8.mono hB7.size)
      have hn9 : (w8.setCell ⟨b, 4, none⟩ (.slice q8 l.length c8)).heap[b]? = some (.cells (cells5 (.mk k 0 ⟨#[]⟩ ⟨#[]⟩ l : Tr) (.slice q8 l.length c8)) 29 (0, 0)) := (arr_set (i := 4) (u := .slice q8 l.length c8) HN8.out).trans rfl
      have hB9 : Below w.heap.size w (w8.setCell ⟨b, 4, none⟩ (.slice q8 l.length c8)) := hB8.setCell (p := ⟨b, 4, none⟩) (Nat.le_of_lt hwr) _
      have hk9 : Kids (fun g => F g ∧ g ≠ w.heap.size) (w8.setCell ⟨b, 4, none⟩ (.slice q8 l.length c8)) (.slice q8 l.length c8) l := (HK8.out.keep (w' := w8.setCell ⟨b, 4, none⟩ (.slice q8 l.length c8)) fun g hg _ => Below.heap_setCell _ _ _ _ hg.2.2).mono fun g hg _ => ⟨hg.1, hg.2.1⟩
      have hy9 : TrV (fun g => F g ∧ g ≠ w.heap.size) (w8.setCell ⟨b, 4, none⟩ (.slice q8 l.length c8)) (.mk k 0 ⟨#[]⟩ ⟨#[]⟩ l : Tr) (.slice q8 l.length c8) := ⟨⟨HW.out, (by show (Lit.int .i64 0).wf = true; decide), Nat.zero_le _, Nat.zero_le _⟩, hk9⟩
      have hn69 : (w8.setCell ⟨b, 4, none⟩ (.slice q8 l.length c8)).heap[w.heap.size]? = some (.cells (cells5 zeroT (.slice none 0 0)) 29 (0, 0)) := (Below.heap_setCell _ _ _ _ (by show w.heap.size ≠ b; omega)).trans ((hb8.block _ (Array.getElem?_eq_some_iff.1 HN7.out).1).trans HN7.out)
      clear m4 f4 k4
      generalize w8.setCell ⟨b, 4, none⟩ (.slice q8 l.length c8) = w9 at hn9 hB9 hy9 hn69 hk9 ⊢
      have cZ := rsize_any hy9
      have d0 : w9.cell? ⟨b, 0, none⟩ = some (.int .i8 k) := (arr_cell hn9).trans rfl
      have d1 : w9.cell? ⟨b, 1, none⟩ = some (.int .i64 0) := (arr_cell hn9).trans rfl
      have d2 : w9.cell? ⟨b, 2, none⟩ = some (.string ⟨#[]⟩) := (arr_cell hn9).trans rfl
      have d3 : w9.cell? ⟨b, 3, none⟩ = some (.string ⟨#[]⟩) := (arr_cell hn9).trans rfl
      have d4 : w9.cell? ⟨b, 4, none⟩ = some (.slice q8 l.length c8) := (arr_cell hn9).trans rfl
      have HN9 := Lib.hid hn9
      have HY9 := Lib.hid hy9
      have HN69 := Lib.hid hn69
      obtain ⟨z, hz⟩ : ∃ z, (.mk k 0 ⟨#[]⟩ ⟨#[]⟩ l : Tr).sz 257 = z := ⟨_, rfl⟩
      rw [hz] at cZ HM2
      clear hz hn9 hy9 hn69 hk9
      by_cases hbig : 256 < z
      · have HE : Hid (ms = (zeroT, 11)) := by unfold Hid; rw [HM2.out, if_pos hbig]
        go_upto_region 9 with (go_at_call 195; refine cZ.mono ?_; rintro e w10 ⟨rfl, hb10⟩)
        have hn10 := (hb10.block _ (Array.getElem?_eq_some_iff.1 HN69.out).1).trans HN69.out
        have hr11 := setRow_heap' (cells := cells5 zeroT (.slice none 0 0)) hn10
        have hB10 := hB9.trans (hb10.mono hB9.size)
        have hB11 := below_setRow (g := w.heap.size) (cells := cells5 zeroT (.slice none 0 0)) hB10 (Nat.le_refl _)
        clear cZ d0 d1 d2 d3 d4
        go_wp2_with (refine wpList_store_row rfl 29 _ _ rfl w.heap.size (cells5 zeroT (.slice none 0 0)) (by kernel_rfl) (by kernel_rfl) 29 (cells5 zeroT (.slice none 0 0)) hn10 (size28 _ _) (by kernel_rfl) (by kernel_rfl) ?_)
        exact bodyPost_ret (v := .tuple #[.agg (cells5 zeroT (.slice none 0 0)), .int .i64 11]) (results_term Tryz.results156 _ _ _ _ _ rfl hr11) rfl ⟨zeroT, _, 11, rfl, zero_trv _ _, hB11, HE.out.symm⟩
      · have HE : Hid (ms = ((.mk k 0 ⟨#[]⟩ ⟨#[]⟩ l : Tr), 0)) := by unfold Hid; rw [HM2.out, if_neg hbig]
        go_upto_region 10 with (go_at_call 195; refine cZ.mono ?_; rintro e w10 ⟨rfl, hb10⟩)
        have hn10 := (hb10.block _ (Array.getElem?_eq_some_iff.1 HN69.out).1).trans HN69.out
        have hb9 := (hb10.block _ (Array.getElem?_eq_some_iff.1 HN9.out).1).trans HN9.out
        have e0 : w10.cell? ⟨b, 0, none⟩ = some (.int .i8 k) := (arr_cell hb9).trans rfl
        have e1 : w10.cell? ⟨b, 1, none⟩ = some (.int .i64 0) := (arr_cell hb9).trans rfl
        have e2 : w10.cell? ⟨b, 2, none⟩ = some (.string ⟨#[]⟩) := (arr_cell hb9).trans rfl
        have e3 : w10.cell? ⟨b, 3, none⟩ = some (.string ⟨#[]⟩) := (arr_cell hb9).trans rfl
        have e4 : w10.cell? ⟨b, 4, none⟩ = some (.slice q8 l.length c8) := (arr_cell hb9).trans rfl
        have hr11 := setRow_heap' (cells := cells5 (.mk k 0 ⟨#[]⟩ ⟨#[]⟩ l : Tr) (.slice q8 l.length c8)) hn10
        have hB10 := hB9.trans (hb10.mono hB9.size)
        have hB11 := below_setRow (g := w.heap.size) (cells := cells5 (.mk k 0 ⟨#[]⟩ ⟨#[]⟩ l : Tr) (.slice q8 l.length c8)) hB10 (Nat.le_refl _)
        have hy11 := (HY9.out.below hb10).move (P' := F) (w' := w10.setRow w.heap.size (cells5 (.mk k 0 ⟨#[]⟩ ⟨#[]⟩ l : Tr) (.slice q8 l.length c8))) (fun g hg _ => setRow_ne hg.2) (fun g hg _ => hg.1)
        clear cZ d0 d1 d2 d3 d4 hb9
        go_wp2_with (refine wpList_store_row rfl 29 _ _ rfl w.heap.size (cells5 (.mk k 0 ⟨#[]⟩ ⟨#[]⟩ l : Tr) (.slice q8 l.length c8)) (by kernel_rfl) (by kernel_rfl) 29 (cells5 zeroT (.slice none 0 0)) hn10 (size28 _ _) (by kernel_rfl) (by kernel_rfl) ?_)
        exact bodyPost_ret (v := .tuple #[.agg (cells5 (.mk k 0 ⟨#[]⟩ ⟨#[]⟩ l : Tr) (.slice q8 l.length c8)), .int .i64 0]) (results_term Tryz.results156 _ _ _ _ _ rfl hr11) rfl ⟨(.mk k 0 ⟨#[]⟩ ⟨#[]⟩ l : Tr), _, 0, rfl, hy11, hB11, HE.out.symm⟩

set_option maxHeartbeats 4000000 in
set_option maxRecDepth 100000 in
theorem rtuple_any {F : Nat → Prop} {w : World} {l : List Tr} {v : Value} (hF : ∀ g, w.heap.size ≤ g → F g) (hl : Kids F w v l) (hn : l.length ≤ 1048576) :
    Calls Tryz.prog 117 #[v] w (MadeSays F (madeS 5 l) w) := by
  obtain ⟨p, c, rfl⟩ := hl.slice
  have hnw : (w.alloc (.cells (cells5 zeroT (.slice none 0 0)) 29)).heap[w.heap.size]? = some (.cells (cells5 zeroT (.slice none 0 0)) 29 (0, 0)) := heap_new w _
  have hb1 := alloc_below w (.cells (cells5 zeroT (.slice none 0 0)) 29)
  have hz1 : w.heap.size < (w.alloc (.cells (cells5 zeroT (.slice none 0 0)) 29)).heap.size := by simp
  have cM := rmade_any (F := fun g => F g ∧ g ≠ w.heap.size) (k := 5) (by decide) (fun g hg => ⟨hF g (by omega), by omega⟩) ((hl.mono (F' := fun g => F g ∧ g ≠ w.heap.size) fun g hg h => ⟨hg, by omega⟩).under hb1) hn
  generalize madeS 5 l = ms at cM ⊢
  have HF := Lib.hid hF
  have HZ := Lib.hid hz1
  clear hF hl hz1
  go_enter Tryz.func117, Tryz.ntmps117
  go_upto_region 1 with fail
  change Code.wp _ _ _ _ (w.alloc (.cells (cells5 zeroT (.slice none 0 0)) 29))
  generalize w.alloc (.cells (cells5 zeroT (.slice none 0 0)) 29) = w1 at hnw hb1 cM HZ ⊢
  go_wp2_with (first
    | (go_at_call 156; refine cM.mono ?_; rintro e w5 ⟨y, yv, er, rfl, hy5, hb5, hq⟩; obtain ⟨q5, c5, rfl⟩ := hy5.kids.slice; have hn5 := (hb5.block _ HZ.out).trans hnw; have HQ := Lib.hid hq; clear hq)
    | (refine wpList_store_row rfl 29 _ _ rfl w.heap.size (cells5 y (.slice q5 y.l.length c5)) (by kernel_rfl) (by kernel_rfl) 29 (cells5 zeroT (.slice none 0 0)) hn5 (size28 _ _) (by kernel_rfl) (by kernel_rfl) ?_))
  have hr9 := setRow_heap' (cells := cells5 y (.slice q5 y.l.length c5)) hn5
  have hB5 := hb1.trans (hb5.mono hb1.size)
  have hB9 := below_setRow (g := w.heap.size) (cells := cells5 y (.slice q5 y.l.length c5)) hB5 (Nat.le_refl _)
  have hy9 := hy5.move (P' := F) (w' := w5.setRow w.heap.size (cells5 y (.slice q5 y.l.length c5))) (fun g hg _ => setRow_ne hg.2) (fun g hg _ => hg.1)
  exact bodyPost_ret (v := .tuple #[.agg (cells5 y (.slice q5 y.l.length c5)), .int .i64 er]) (results_term Tryz.results117 _ _ _ _ _ rfl hr9) rfl ⟨y, _, er, rfl, hy9, hB9, HQ.out⟩

set_option maxHeartbeats 4000000 in
set_option maxRecDepth 100000 in
theorem rcons_any {F : Nat → Prop} {w : World} {x y : Tr} {sv tv : Value} (hF : ∀ g, w.heap.size ≤ g → F g) (hx : TrV F w x sv) (hy : TrV F w y tv) :
    Calls Tryz.prog 118 #[.agg #[.int .i8 x.k, .int .i64 x.n, .string x.s, .string x.t, sv], .agg #[.int .i8 y.k, .int .i64 y.n, .string y.s, .string y.t, tv]] w (MadeSays F (madeS 7 [x, y]) w) := by
  obtain ⟨p1, c1, rfl⟩ := hx.kids.slice
  obtain ⟨p2, c2, rfl⟩ := hy.kids.slice
  obtain ⟨n1, n2, hb1, hz1⟩ := two_new w (.cells #[.int .i8 x.k, .int .i64 x.n, .string x.s, .string x.t, .slice p1 x.l.length c1] 29) (.cells #[.int .i8 y.k, .int .i64 y.n, .string y.s, .string y.t, .slice p2 y.l.length c2] 29)
  have hx0 : TrV (fun g => F g ∧ g < w.heap.size) w x _ := hx.mono fun g hg h => ⟨hg, h⟩
  have hy0 : TrV (fun g => F g ∧ g < w.heap.size) w y _ := hy.mono fun g hg h => ⟨hg, h⟩
  have HX := Lib.hid (hx0.below hb1)
  have HY := Lib.hid (hy0.below hb1)
  have HF := Lib.hid hF
  have HZ := Lib.hid hz1
  have HMS := Lib.hid (show madeS 7 [x, y] = madeS 7 [x, y] from rfl)
  clear hx hy hx0 hy0 hF hz1
  go_enter Tryz.func118, Tryz.ntmps118
  go_upto_region 1 with fail
  have hn3 := heap_new ((w.alloc (.cells #[.int .i8 x.k, .int .i64 x.n, .string x.s, .string x.t, .slice p1 x.l.length c1] 29)).alloc (.cells #[.int .i8 y.k, .int .i64 y.n, .string y.s, .string y.t, .slice p2 y.l.length c2] 29)) (.cells (cells5 zeroT (.slice none 0 0)) 29)
  have hb3 := alloc_below ((w.alloc (.cells #[.int .i8 x.k, .int .i64 x.n, .string x.s, .string x.t, .slice p1 x.l.length c1] 29)).alloc (.cells #[.int .i8 y.k, .int .i64 y.n, .string y.s, .string y.t, .slice p2 y.l.length c2] 29)) (.cells (cells5 zeroT (.slice none 0 0)) 29)
  change Code.wp _ _ _ _ (((w.alloc (.cells #[.int .i8 x.k, .int .i64 x.n, .string x.s, .string x.t, .slice p1 x.l.length c1] 29)).alloc (.cells #[.int .i8 y.k, .int .i64 y.n, .string y.s, .string y.t, .slice p2 y.l.length c2] 29)).alloc (.cells (cells5 zeroT (.slice none 0 0)) 29))
  have hn3' : (((w.alloc (.cells #[.int .i8 x.k, .int .i64 x.n, .string x.s, .string x.t, .slice p1 x.l.length c1] 29)).alloc (.cells #[.int .i8 y.k, .int .i64 y.n, .string y.s, .string y.t, .slice p2 y.l.length c2] 29)).alloc (.cells (cells5 zeroT (.slice none 0 0)) 29)).heap[w.heap.size + 1 + 1]? = some (.cells (cells5 zeroT (.slice none 0 0)) 29 (0, 0)) := by
    have h := hn3
    rw [HZ.out] at h
    exact h
  have hm1 := (hb3.block _ (show w.heap.size < ((w.alloc (.cells #[.int .i8 x.k, .int .i64 x.n, .string x.s, .string x.t, .slice p1 x.l.length c1] 29)).alloc (.cells #[.int .i8 y.k, .int .i64 y.n, .string y.s, .string y.t, .slice p2 y.l.length c2] 29)).heap.size by rw [HZ.out]; omega)).trans n1
  have hm2 := (hb3.block _ (show w.heap.size + 1 < ((w.alloc (.cells #[.int .i8 x.k, .int .i64 x.n, .string x.s, .string x.t, .slice p1 x.l.length c1] 29)).alloc (.cells #[.int .i8 y.k, .int .i64 y.n, .string y.s, .string y.t, .slice p2 y.l.length c2] 29)).heap.size by rw [HZ.out]; omega)).trans n2
  have hB3 := hb1.trans (hb3.mono hb1.size)
  have HX3 := Lib.hid (HX.out.below hb3)
  have HY3 := Lib.hid (HY.out.below hb3)
  clear n1 n2 hn3 hb1 hb3 HX HY HZ
  generalize ((w.alloc (.cells #[.int .i8 x.k, .int .i64 x.n, .string x.s, .string x.t, .slice p1 x.l.length c1] 29)).alloc (.cells #[.int .i8 y.k, .int .i64 y.n, .string y.s, .string y.t, .slice p2 y.l.length c2] 29)).alloc (.cells (cells5 zeroT (.slice none 0 0)) 29) = w3 at hn3' hm1 hm2 hB3 HX3 HY3 ⊢
  obtain ⟨a0, a1, a2, a3, a4⟩ := node_heap hm1
  obtain ⟨b0, b1, b2, b3, b4⟩ := node_heap hm2
  simp only [Nat.zero_add] at a1 a2 a3 a4 b1 b2 b3 b4
  have hz3 := (Array.getElem?_eq_some_iff.1 hn3').1
  have HZ3 := Lib.hid hz3
  have hn4 : (w3.alloc (.cells #[.int .i8 x.k, .int .i64 x.n, .string x.s, .string x.t, .slice p1 x.l.length c1, .int .i8 y.k, .int .i64 y.n, .string y.s, .string y.t, .slice p2 y.l.length c2] 29)).heap[w3.heap.size]? = some (.cells #[.int .i8 x.k, .int .i64 x.n, .string x.s, .string x.t, .slice p1 x.l.length c1, .int .i8 y.k, .int .i64 y.n, .string y.s, .string y.t, .slice p2 y.l.length c2] 29 (0, 0)) := heap_new w3 _
  have hb4 := alloc_below w3 (.cells #[.int .i8 x.k, .int .i64 x.n, .string x.s, .string x.t, .slice p1 x.l.length c1, .int .i8 y.k, .int .i64 y.n, .string y.s, .string y.t, .slice p2 y.l.length c2] 29)
  have hc : ∀ o u, (#[.int .i8 x.k, .int .i64 x.n, .string x.s, .string x.t, .slice p1 x.l.length c1, .int .i8 y.k, .int .i64 y.n, .string y.s, .string y.t, .slice p2 y.l.length c2] : Array Value)[o]? = some u → (w3.alloc (.cells #[.int .i8 x.k, .int .i64 x.n, .string x.s, .string x.t, .slice p1 x.l.length c1, .int .i8 y.k, .int .i64 y.n, .string y.s, .string y.t, .slice p2 y.l.length c2] 29)).cell? ⟨w3.heap.size, o, none⟩ = some u := fun o u h => (arr_cell hn4).trans h
  have hk4 : Kids (fun g => F g ∧ g ≠ w.heap.size + 1 + 1) _ (.slice (some ⟨w3.heap.size, 0, none⟩) 2 2) [x, y] := kids_two ⟨hc 0 _ rfl, hc 1 _ rfl, hc 2 _ rfl, hc 3 _ rfl, hc 4 _ rfl⟩ ⟨hc 5 _ rfl, hc 6 _ rfl, hc 7 _ rfl, hc 8 _ rfl, hc 9 _ rfl⟩ ((HX3.out.below hb4).mono fun g hg _ => ⟨hg.1, by omega⟩) ((HY3.out.below hb4).mono fun g hg _ => ⟨hg.1, by omega⟩) ⟨HF.out _ (by omega), by omega⟩
  have hs4 : w3.heap.size < (w3.alloc (.cells #[.int .i8 x.k, .int .i64 x.n, .string x.s, .string x.t, .slice p1 x.l.length c1, .int .i8 y.k, .int .i64 y.n, .string y.s, .string y.t, .slice p2 y.l.length c2] 29)).heap.size := by simp
  have cM := rmade_any (k := 7) (by decide) (fun g hg => ⟨HF.out g (by omega), by omega⟩) hk4 (by simp)
  have hn34 := (hb4.block _ hz3).trans hn3'
  have hB4 := hB3.trans (hb4.mono hB3.size)
  have HS4 := Lib.hid (Nat.lt_trans hz3 hs4)
  obtain ⟨ms, hms⟩ : ∃ ms, madeS 7 [x, y] = ms := ⟨_, rfl⟩
  rw [hms] at cM
  have HMS2 := Lib.hid hms
  clear hms
  clear hm1 hm2 hn4 hc hk4 hs4 hn3' hz3 HMS hb4
  go_wp2_with (first
    | (go_at_call 156; refine Calls.mono cM ?_; rintro e w5 ⟨z, zv, er, rfl, hz5, hb5, hq⟩; obtain ⟨q5, c5, rfl⟩ := hz5.kids.slice; have hn5 := (hb5.block _ HS4.out).trans hn34; have HQ := Lib.hid hq; clear hq)
    | (refine wpList_store_row rfl 29 _ _ rfl (w.heap.size + 1 + 1) (cells5 z (.slice q5 z.l.length c5)) (by kernel_rfl) (by kernel_rfl) 29 (cells5 zeroT (.slice none 0 0)) hn5 (size28 _ _) (by kernel_rfl) (by kernel_rfl) ?_))
  have hr9 := setRow_heap' (cells := cells5 z (.slice q5 z.l.length c5)) hn5
  have hB5 := hB4.trans (hb5.mono hB4.size)
  have hB9 := below_setRow (g := w.heap.size + 1 + 1) (cells := cells5 z (.slice q5 z.l.length c5)) hB5 (by omega)
  have hy9 := hz5.move (P' := F) (w' := w5.setRow (w.heap.size + 1 + 1) (cells5 z (.slice q5 z.l.length c5))) (fun g hg _ => setRow_ne hg.2) (fun g hg _ => hg.1)
  exact bodyPost_ret (v := .tuple #[.agg (cells5 z (.slice q5 z.l.length c5)), .int .i64 er]) (results_term Tryz.results118 _ _ _ _ _ rfl hr9) rfl ⟨z, _, er, rfl, hy9, hB9, HQ.out.trans HMS2.out.symm⟩
end Go.Proofs.YtlhobpknflobgaaGreatDoor
