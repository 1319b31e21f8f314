/-
  The order of terms: cmp.Compare, cmp.Or, term.order, rows, Compare. Conditions: the terms lie as 'TrV' says.
  term.order, Compare. Conditions: the terms lie as 'TrV' says.
-/
import Derived.Test.YtlhobpknflobgaaGreatDoorS05
namespace Go.Proofs.YtlhobpknflobgaaGreatDoor
open Go.RowKit

def cmpI (a b : Int) : Int := if a < b then -1 else if b < a then 1 else 0
def cmpS (a b : ByteArray) : Int := if Op.bytesLess a.toList b.toList then -1 else if a.toList == b.toList then 0 else 1
theorem cmpI_zero {a b : Int} : cmpI a b = 0 ↔ a = b := by unfold cmpI; split <;> (try split) <;> omega
set_option maxHeartbeats 400000 in
theorem cmp8_any (w : World) (a b : Int) : Calls Tryz.prog 174 #[.int .i8 a, .int .i8 b] w fun e w' => e = .returned (.int .i64 (cmpI a b)) ∧ w = w' := by
  by_cases h1 : a < b
  · go_enter Tryz.func174, Tryz.ntmps174
    go_wp2
    go_ret
    exact ⟨ret_i64 (by unfold cmpI; omega), rfl⟩
  · by_cases h2 : b < a
    all_goals
      go_enter Tryz.func174, Tryz.ntmps174
      go_wp2
      go_ret
      exact ⟨ret_i64 (by unfold cmpI; omega), rfl⟩
set_option maxHeartbeats 400000 in
theorem cmp64_any (w : World) (a b : Int) : Calls Tryz.prog 176 #[.int .i64 a, .int .i64 b] w fun e w' => e = .returned (.int .i64 (cmpI a b)) ∧ w = w' := by
  by_cases h1 : a < b
  · go_enter Tryz.func176, Tryz.ntmps176
    go_wp2
    go_ret
    exact ⟨ret_i64 (by unfold cmpI; omega), rfl⟩
  · by_cases h2 : b < a
    all_goals
      go_enter Tryz.func176, Tryz.ntmps176
      go_wp2
      go_ret
      exact ⟨ret_i64 (by unfold cmpI; omega), rfl⟩
set_option maxHeartbeats 400000 in
theorem cmpS_any (w : World) (a b : ByteArray) : Calls Tryz.prog 177 #[.string a, .string b] w fun e w' => e = .returned (.int .i64 (cmpS a b)) ∧ w = w' := by
  unfold cmpS
  cases h1 : Op.bytesLess a.toList b.toList
  · cases h2 : (a.toList == b.toList)
    all_goals
      go_enter Tryz.func177, Tryz.ntmps177
      go_wp2
      go_ret
      exact ⟨ret_i64 (by simp), rfl⟩
  · go_enter Tryz.func177, Tryz.ntmps177
    go_wp2
    go_ret
    exact ⟨ret_i64 (by simp), rfl⟩

/-- The first that is not 0. -/
def orI : List Int → Int
  | [] => 0
  | x :: r => if x = 0 then orI r else x
def OrAt (w : World) (b : Nat) (l : List Int) : Prop := ∀ k (h : k < l.length), w.cell? ⟨b, k, none⟩ = some (.int .i64 l[k])
theorem orI_drop {l : List Int} {k : Nat} (h : k < l.length) : orI (l.drop k) = if l[k] = 0 then orI (l.drop (k + 1)) else l[k] := by rw [List.drop_eq_getElem_cons h, orI]
set_option maxHeartbeats 1000000 in
theorem or_any {w : World} {b c : Nat} {l : List Int} (h : OrAt w b l) (hl : l.length ≤ 100) : Calls Tryz.prog 175 #[.slice (some ⟨b, 0, none⟩) l.length c] w fun e w' => e = .returned (.int .i64 (orI l)) ∧ w = w' := by
  have H := Lib.hid h
  clear h
  go_enter Tryz.func175, Tryz.ntmps175
  go_wp2
  go_loopw [8] (fun i wr => ∃ k : Nat, k ≤ l.length ∧ i = .int .i64 k ∧ orI (l.drop k) = orI l ∧ w = wr) (fun i _ => l.length - (intOf i).toNat)
  case atStart => exact ⟨0, Nat.zero_le _, rfl, rfl, rfl⟩
  case round =>
    obtain ⟨k, hk, rfl, hrest, rfl⟩ := hrel
    by_cases hlt : k < l.length
    · have hc := H.out k hlt
      rw [orI_drop hlt] at hrest
      generalize l[k] = n at hc hrest
      cases hn : (n == 0)
      · have hn' : ¬ n = 0 := by simpa using hn
        have hn2 : (n != 0) = true := by simpa using hn'
        rw [if_neg hn'] at hrest
        have HN := Lib.hid hrest
        clear hrest hn hn'
        go_wp2
        go_ret
        exact ⟨by rw [← HN.out]; rfl, rfl⟩
      · have hn' : n = 0 := by simpa using hn
        rw [if_pos hn'] at hrest
        have HN := Lib.hid hrest
        subst hn'
        clear hrest hn
        go_wp2
        go_roundw
        case rel => exact ⟨k + 1, hlt, by go_num, HN.out, by first | rfl | trivial⟩
        case measure => simp [intOf]; omega
    · rw [List.drop_eq_nil_of_le (by omega), orI] at hrest
      have HN := Lib.hid hrest
      clear hrest
      go_wp2
      go_ret
      exact ⟨by rw [← HN.out]; rfl, rfl⟩

/-- The order of terms that may be. -/
def Tr.ord : Tr → Tr → Int
  | .mk k n s t l, y => if k = y.k then orI [cmpI l.length y.l.length, cmpS s y.s, cmpS t y.t, cmpI n y.n, ordl l y.l] else cmpI k y.k
where ordl : List Tr → List Tr → Int
  | [], [] => 0
  | [], _ :: _ => -1
  | _ :: _, [] => 1
  | x :: r, y :: q => if x.ord y = 0 then ordl r q else x.ord y
theorem ord_eq (x y : Tr) : x.ord y = if x.k = y.k then orI [cmpI x.l.length y.l.length, cmpS x.s y.s, cmpS x.t y.t, cmpI x.n y.n, Tr.ord.ordl x.l y.l] else cmpI x.k y.k := by cases x; rfl
theorem ordl_take {l m : List Tr} {k : Nat} (h1 : k < l.length) (h2 : k < m.length) : Tr.ord.ordl (l.drop k) (m.drop k) = if l[k].ord m[k] = 0 then Tr.ord.ordl (l.drop (k + 1)) (m.drop (k + 1)) else l[k].ord m[k] := by
  rw [List.drop_eq_getElem_cons h1, List.drop_eq_getElem_cons h2, Tr.ord.ordl]
theorem ordl_end {l m : List Tr} {k : Nat} (h1 : k ≤ l.length) (h2 : k ≤ m.length) (h : k = l.length ∨ k = m.length) : Tr.ord.ordl (l.drop k) (m.drop k) = cmpI l.length m.length := by
  unfold cmpI
  rcases h with h | h
  · rw [List.drop_eq_nil_of_le (show l.length ≤ k by omega)]
    by_cases h3 : k < m.length
    · rw [List.drop_eq_getElem_cons h3, Tr.ord.ordl, if_pos (by omega)]
    · rw [List.drop_eq_nil_of_le (by omega), Tr.ord.ordl, if_neg (by omega), if_neg (by omega)]
  · rw [List.drop_eq_nil_of_le (show m.length ≤ k by omega)]
    by_cases h3 : k < l.length
    · rw [List.drop_eq_getElem_cons h3, Tr.ord.ordl, if_neg (by omega), if_pos (by omega)]
    · rw [List.drop_eq_nil_of_le (by omega), Tr.ord.ordl, if_neg (by omega), if_neg (by omega)]

/-- What order's contract says of a part, for rows. -/
def OrdSays (F G : Nat → Prop) (x : Tr) : Prop := ∀ (y : Tr) (w : World) (sv tv : Value), TrV F w x sv → TrV G w y tv →
    Calls Tryz.prog 147 #[.agg #[.int .i8 x.k, .int .i64 x.n, .string x.s, .string x.t, sv], .agg #[.int .i8 y.k, .int .i64 y.n, .string y.s, .string y.t, tv]] w fun e w' => e = .returned (.int .i64 (x.ord y)) ∧ Below w.heap.size w w'

set_option maxHeartbeats 2000000 in
set_option maxRecDepth 100000 in
theorem rows_any {F G : Nat → Prop} {l m : List Tr} {w : World} {v u : Value} (hl : Kids F w v l) (hm : Kids G w u m) (ih : ∀ x ∈ l, OrdSays F G x) :
    Calls Tryz.prog 178 #[v, u, .func (Fn.func 147) #[] #[]] w fun e w' => e = .returned (.int .i64 (Tr.ord.ordl l m)) ∧ Below w.heap.size w w' := by
  obtain ⟨p, c, rfl⟩ := hl.slice
  obtain ⟨p2, c2, rfl⟩ := hm.slice
  have hlen : l.length ≤ 2199023255552 := hl.len
  have hlen2 : m.length ≤ 2199023255552 := hm.len
  have IH := Lib.hid ih
  have HL := Lib.hid hl
  have HM := Lib.hid hm
  clear ih hl hm
  rcases Nat.lt_or_ge m.length l.length with hc | hc
  all_goals
    go_enter Tryz.func178, Tryz.ntmps178
    go_wp2
    go_loopw [14] (fun i wr => ∃ k : Nat, k ≤ l.length ∧ k ≤ m.length ∧ i = .int .i64 k ∧ Tr.ord.ordl (l.drop k) (m.drop k) = Tr.ord.ordl l m ∧ Below w.heap.size w wr) (fun i _ => l.length - (intOf i).toNat)
    case atStart => exact ⟨0, Nat.zero_le _, Nat.zero_le _, rfl, rfl, Below.refl _ _⟩
    case round =>
      obtain ⟨k, hk, hk2, rfl, hrest, hbr⟩ := hrel
      by_cases hlt : k < l.length ∧ k < m.length
      · obtain ⟨hlt1, hlt2⟩ := hlt
        obtain ⟨g, o, kv, rfl, _, hnode, hkid⟩ := (HL.out.under hbr).at hlt1
        obtain ⟨g2, o2, kv2, rfl, _, hnode2, hkid2⟩ := (HM.out.under hbr).at hlt2
        have hbd : Below wr.heap.size wr (wr.drewN 1) := below_drewN (Below.refl _ _) 1
        have cK := IH.out l[k] (List.getElem_mem hlt1) m[k] (wr.drewN 1) kv kv2 (hkid.below hbd) (hkid2.below hbd)
        rw [ordl_take hlt1 hlt2] at hrest
        obtain ⟨c0, c1, c2', c3, c4⟩ := hnode
        obtain ⟨d0, d1, d2, d3, d4⟩ := hnode2
        generalize l[k] = u at *
        generalize m[k] = v at *
        generalize u.ord v = q at *
        clear hkid hkid2
        cases hq : (q == 0)
        · have hq1 : ¬ q = 0 := by simpa using hq
          have hq2 : (q != 0) = true := by simpa using hq1
          rw [if_neg hq1] at hrest
          have HN := Lib.hid hrest
          clear hrest hq hq1
          go_wp2
          go_still_tail 9, (by kernel_rfl)
          change wpList _ _ _ _ _ (wr.drewN 1)
          generalize wr.drewN 1 = w4 at hbd cK ⊢
          go_wp2_with (go_at_call 147; refine cK.mono ?_; rintro e w5 ⟨rfl, hb5⟩)
          go_ret
          exact ⟨by rw [← HN.out]; rfl, hbr.trans ((hbd.trans (hb5.mono hbd.size)).mono hbr.size)⟩
        · have hq1 : q = 0 := by simpa using hq
          rw [if_pos hq1] at hrest
          have HN := Lib.hid hrest
          subst hq1
          clear hrest hq
          go_wp2
          go_still_tail 9, (by kernel_rfl)
          change wpList _ _ _ _ _ (wr.drewN 1)
          generalize wr.drewN 1 = w4 at hbd cK ⊢
          go_wp2_with (go_at_call 147; refine cK.mono ?_; rintro e w5 ⟨rfl, hb5⟩)
          go_roundw
          case rel => exact ⟨k + 1, hlt1, hlt2, by go_num, HN.out, hbr.trans ((hbd.trans (hb5.mono hbd.size)).mono hbr.size)⟩
          case measure => simp [intOf]; omega
      · rw [ordl_end hk hk2 (by omega)] at hrest
        have hno : ¬ k < l.length ∨ ¬ k < m.length := by omega
        have HN := Lib.hid hrest
        have hge : l.length ≤ k ∨ m.length ≤ k := by omega
        clear hrest hlt
        rcases hge with hge | hge
        all_goals
          first
            | omega
            | (go_wp2_with (go_at_call 176; refine (cmp64_any _ _ _).mono ?_; rintro e w5 ⟨rfl, rfl⟩)
               go_ret
               exact ⟨by rw [← HN.out]; rfl, hbr⟩)
end Go.Proofs.YtlhobpknflobgaaGreatDoor
namespace Go.Proofs.YtlhobpknflobgaaGreatDoor
open Go.RowKit

theorem orAt5 (w : World) (a b c d e : Int) (T : TypeId) : OrAt (w.alloc (.cells #[.int .i64 a, .int .i64 b, .int .i64 c, .int .i64 d, .int .i64 e] T)) w.heap.size [a, b, c, d, e] := by
  obtain ⟨h0, h1, h2, h3, h4⟩ := box5 w (.int .i64 a) (.int .i64 b) (.int .i64 c) (.int .i64 d) (.int .i64 e) T
  intro k hk
  match k, hk with
  | 0, _ => exact h0
  | 1, _ => exact h1
  | 2, _ => exact h2
  | 3, _ => exact h3
  | 4, _ => exact h4

set_option maxHeartbeats 4000000 in
set_option maxRecDepth 100000 in
theorem order_any {F G : Nat → Prop} (x : Tr) : OrdSays F G x := by
  induction x using Tr.ind with
  | h x ih =>
    intro y w sv tv hx hy
    obtain ⟨p, c, rfl⟩ := hx.kids.slice
    obtain ⟨p2, c2, rfl⟩ := hy.kids.slice
    obtain ⟨n1, n2, hb1, hz1⟩ := two_new w (.cells #[.int .i8 x.k, .int .i64 x.n, .string x.s, .string x.t, .slice p x.l.length c] 29) (.cells #[.int .i8 y.k, .int .i64 y.n, .string y.s, .string y.t, .slice p2 y.l.length c2] 29)
    have hx1 := hx.below hb1
    have hy1 := hy.below hb1
    have hlen : x.l.length ≤ 2199023255552 := hx.kids.len
    have hlen2 : y.l.length ≤ 2199023255552 := hy.kids.len
    obtain ⟨a0, a1, a2, a3, a4⟩ := node_heap n1
    obtain ⟨b0, b1, b2, b3, b4⟩ := node_heap n2
    simp only [Nat.zero_add] at a1 a2 a3 a4 b1 b2 b3 b4
    have hrel0 := ord_eq x y
    have IH := Lib.hid ih
    clear ih hx hy n1 n2
    cases e0 : (x.k == y.k)
    · have g0 : (x.k != y.k) = true := by simpa using e0
      rw [if_neg (by simpa using e0)] at hrel0
      have HR := Lib.hid hrel0
      clear hrel0 e0
      go_enter Tryz.func147, Tryz.ntmps147
      go_wp2_with (go_at_call 174; refine (cmp8_any _ _ _).mono ?_; rintro e w5 ⟨rfl, rfl⟩)
      go_ret
      exact ⟨by rw [HR.out]; rfl, hb1⟩
    have g0 : (x.k != y.k) = false := by simpa using e0
    rw [if_pos (by simpa using e0)] at hrel0
    have HR := Lib.hid hrel0
    clear hrel0 e0
    go_enter Tryz.func147, Tryz.ntmps147
    go_upto_region 3 with fail
    generalize (w.alloc (.cells #[.int .i8 x.k, .int .i64 x.n, .string x.s, .string x.t, .slice p x.l.length c] 29)).alloc (.cells #[.int .i8 y.k, .int .i64 y.n, .string y.s, .string y.t, .slice p2 y.l.length c2] 29) = w1 at hb1 hz1 hx1 hy1 a0 a1 a2 a3 a4 b0 b1 b2 b3 b4 ⊢
    have hmv : ∀ W : World, Below w1.heap.size w1 W → W.cell? ⟨w.heap.size, 1, none⟩ = some (.int .i64 x.n) ∧ W.cell? ⟨w.heap.size, 2, none⟩ = some (.string x.s) ∧ W.cell? ⟨w.heap.size, 3, none⟩ = some (.string x.t) ∧ W.cell? ⟨w.heap.size, 4, none⟩ = some (.slice p x.l.length c) ∧
        W.cell? ⟨w.heap.size + 1, 1, none⟩ = some (.int .i64 y.n) ∧ W.cell? ⟨w.heap.size + 1, 2, none⟩ = some (.string y.s) ∧ W.cell? ⟨w.heap.size + 1, 3, none⟩ = some (.string y.t) ∧ W.cell? ⟨w.heap.size + 1, 4, none⟩ = some (.slice p2 y.l.length c2) := fun W hb =>
      ⟨(hb.cell (p := ⟨w.heap.size, 1, none⟩) (cell_block a1)).trans a1, (hb.cell (p := ⟨w.heap.size, 2, none⟩) (cell_block a1)).trans a2, (hb.cell (p := ⟨w.heap.size, 3, none⟩) (cell_block a1)).trans a3, (hb.cell (p := ⟨w.heap.size, 4, none⟩) (cell_block a1)).trans a4,
        (hb.cell (p := ⟨w.heap.size + 1, 1, none⟩) (cell_block b1)).trans b1, (hb.cell (p := ⟨w.heap.size + 1, 2, none⟩) (cell_block b1)).trans b2, (hb.cell (p := ⟨w.heap.size + 1, 3, none⟩) (cell_block b1)).trans b3, (hb.cell (p := ⟨w.heap.size + 1, 4, none⟩) (cell_block b1)).trans b4⟩
    have hS0 := hmv w1 (Below.refl _ _)
    have hd : Below w1.heap.size w1 w1.drew := below_drewN (Below.refl _ _) 1
    have cR := fun W hb => rows_any (F := F) (G := G) (hx1.kids.under (w' := W) hb) (hy1.kids.under hb) IH.out
    clear a0 a1 a2 a3 a4 b0 b1 b2 b3 b4 g0 hx1 hy1
    go_region_held3 (fun W => W.cell? ⟨w.heap.size, 1, none⟩ = some (.int .i64 x.n) ∧ W.cell? ⟨w.heap.size, 2, none⟩ = some (.string x.s) ∧ W.cell? ⟨w.heap.size, 3, none⟩ = some (.string x.t) ∧ W.cell? ⟨w.heap.size, 4, none⟩ = some (.slice p x.l.length c) ∧ W.cell? ⟨w.heap.size + 1, 1, none⟩ = some (.int .i64 y.n) ∧ W.cell? ⟨w.heap.size + 1, 2, none⟩ = some (.string y.s) ∧ W.cell? ⟨w.heap.size + 1, 3, none⟩ = some (.string y.t) ∧ W.cell? ⟨w.heap.size + 1, 4, none⟩ = some (.slice p2 y.l.length c2)) (first | exact hS0 | exact hS1 | exact hmv _ (hB5.alloc hB5.size _)) (first
      | (go_at_call 176; refine (cmp64_any _ _ _).mono ?_; rintro e w' ⟨rfl, rfl⟩)
      | (go_at_call 177; refine (cmpS_any _ _ _).mono ?_; rintro e w' ⟨rfl, rfl⟩)
      | (go_at_call 178; refine (cR _ hd).mono ?_; rintro e w5 ⟨rfl, hb5⟩; have hB5 := hd.trans (hb5.mono hd.size); have hS1 := hmv _ hB5)
      | (go_at_call 175; refine (or_any (orAt5 w5 _ _ _ _ _ _) (by simp)).mono ?_; rintro e w' ⟨rfl, rfl⟩))
    go_wp2
    go_ret
    exact ⟨by rw [HR.out]; rfl, hb1.trans ((hB5.alloc hB5.size _).mono hb1.size)⟩

/-- What Compare tells. -/
def cmpT (x y : Tr) : Int := if chkT x = 0 ∧ chkT y = 0 then x.ord y else 0
set_option maxHeartbeats 2000000 in
set_option maxRecDepth 100000 in
theorem compare_any {F G : Nat → Prop} {x y : Tr} {w : World} {sv tv : Value} (hL : Letters w) (hx : TrV F w x sv) (hy : TrV G w y tv) :
    Calls Tryz.prog 102 #[.agg #[.int .i8 x.k, .int .i64 x.n, .string x.s, .string x.t, sv], .agg #[.int .i8 y.k, .int .i64 y.n, .string y.s, .string y.t, tv]] w fun e w' => e = .returned (.int .i64 (cmpT x y)) ∧ Below w.heap.size w w' := by
  obtain ⟨p, c, rfl⟩ := hx.kids.slice
  obtain ⟨p2, c2, rfl⟩ := hy.kids.slice
  obtain ⟨n1, n2, hb1, hz1⟩ := two_new w (.cells #[.int .i8 x.k, .int .i64 x.n, .string x.s, .string x.t, .slice p x.l.length c] 29) (.cells #[.int .i8 y.k, .int .i64 y.n, .string y.s, .string y.t, .slice p2 y.l.length c2] 29)
  have hL1 := hL.under hb1
  have hx1 := hx.below hb1
  have hy1 := hy.below hb1
  obtain ⟨a0, a1, a2, a3, a4⟩ := node_heap n1
  obtain ⟨b0, b1, b2, b3, b4⟩ := node_heap n2
  simp only [Nat.zero_add] at a1 a2 a3 a4 b1 b2 b3 b4
  have hU : cmpT x y = if chkT x = 0 ∧ chkT y = 0 then x.ord y else 0 := rfl
  have HU := Lib.hid hU
  clear hx hy n1 n2 hL hU
  cases e0 : (chkT x == 0)
  · have g0 : (chkT x != 0) = true := by simpa using e0
    have HV : Hid (cmpT x y = 0) := by unfold Hid; rw [HU.out, if_neg (by simp at e0; simp [e0])]
    have E0 := Lib.hid g0
    clear e0 g0
    go_enter Tryz.func102, Tryz.ntmps102
    go_upto_region 1 with fail
    generalize (w.alloc (.cells #[.int .i8 x.k, .int .i64 x.n, .string x.s, .string x.t, .slice p x.l.length c] 29)).alloc (.cells #[.int .i8 y.k, .int .i64 y.n, .string y.s, .string y.t, .slice p2 y.l.length c2] 29) = w1 at hb1 hz1 hx1 hy1 hL1 a0 a1 a2 a3 a4 b0 b1 b2 b3 b4 ⊢
    have hza : w.heap.size < w1.heap.size := by omega
    have hzb : w.heap.size + 1 < w1.heap.size := by omega
    have HZ := Lib.hid hz1
    clear hz1
    go_wp2_with (go_at_call 79; refine (tcheck_any hL1 hx1).mono ?_; rintro e w5 ⟨rfl, hb5⟩; have hB5 := hb5; obtain ⟨hc5, _⟩ := bcell hB5; have g0 := E0.out)
    go_ret
    exact ⟨by rw [HV.out]; rfl, hb1.trans (hB5.mono hb1.size)⟩
  have g0 : (chkT x != 0) = false := by simpa using e0
  cases e1 : (chkT y == 0)
  · have g1 : (chkT y != 0) = true := by simpa using e1
    have HV : Hid (cmpT x y = 0) := by unfold Hid; rw [HU.out, if_neg (by simp at e1; simp [e1])]
    clear e0 e1
    go_enter Tryz.func102, Tryz.ntmps102
    go_upto_region 1 with fail
    generalize (w.alloc (.cells #[.int .i8 x.k, .int .i64 x.n, .string x.s, .string x.t, .slice p x.l.length c] 29)).alloc (.cells #[.int .i8 y.k, .int .i64 y.n, .string y.s, .string y.t, .slice p2 y.l.length c2] 29) = w1 at hb1 hz1 hx1 hy1 hL1 a0 a1 a2 a3 a4 b0 b1 b2 b3 b4 ⊢
    have hza : w.heap.size < w1.heap.size := by omega
    have hzb : w.heap.size + 1 < w1.heap.size := by omega
    have HZ := Lib.hid hz1
    clear hz1
    go_wp2_with (first | (go_at_call 79; have _t := hB5; refine (tcheck_any (hL1.under hB5) (hy1.below hB5)).mono ?_; rintro e w6 ⟨rfl, hb6⟩; have hB6 := hB5.trans (hb6.mono hB5.size); obtain ⟨hc6, _⟩ := bcell hB6) | (go_at_call 79; refine (tcheck_any hL1 hx1).mono ?_; rintro e w5 ⟨rfl, hb5⟩; have hB5 := hb5; obtain ⟨hc5, _⟩ := bcell hB5))
    go_ret
    exact ⟨by rw [HV.out]; rfl, hb1.trans (hB6.mono hb1.size)⟩
  have g1 : (chkT y != 0) = false := by simpa using e1
  have HV : Hid (cmpT x y = x.ord y) := by unfold Hid; rw [HU.out, if_pos ⟨by simpa using e0, by simpa using e1⟩]
  clear e0 e1
  go_enter Tryz.func102, Tryz.ntmps102
  go_upto_region 1 with fail
  generalize (w.alloc (.cells #[.int .i8 x.k, .int .i64 x.n, .string x.s, .string x.t, .slice p x.l.length c] 29)).alloc (.cells #[.int .i8 y.k, .int .i64 y.n, .string y.s, .string y.t, .slice p2 y.l.length c2] 29) = w1 at hb1 hz1 hx1 hy1 hL1 a0 a1 a2 a3 a4 b0 b1 b2 b3 b4 ⊢
  have hza : w.heap.size < w1.heap.size := by omega
  have hzb : w.heap.size + 1 < w1.heap.size := by omega
  have HZ := Lib.hid hz1
  clear hz1
  go_wp2_with (first | (go_at_call 79; have _t := hB5; refine (tcheck_any (hL1.under hB5) (hy1.below hB5)).mono ?_; rintro e w6 ⟨rfl, hb6⟩; have hB6 := hB5.trans (hb6.mono hB5.size); obtain ⟨hc6, _⟩ := bcell hB6) | (go_at_call 79; refine (tcheck_any hL1 hx1).mono ?_; rintro e w5 ⟨rfl, hb5⟩; have hB5 := hb5; obtain ⟨hc5, _⟩ := bcell hB5) | (go_at_call 147; refine (order_any x y _ _ _ (hx1.below hB6) (hy1.below hB6)).mono ?_; rintro e w7 ⟨rfl, hb7⟩))
  go_ret
  exact ⟨by rw [HV.out]; rfl, hb1.trans ((hB6.trans (hb7.mono hB6.size)).mono hb1.size)⟩
end Go.Proofs.YtlhobpknflobgaaGreatDoor
