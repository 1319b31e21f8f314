/-
  The order of terms: cmp.Compare, cmp.Or, term.order, rows, Compare. Conditions: the terms lie as 'TrV' says.
-/
import Derived.Test.YtjnmdbfijdnaiaaGreatDoorClos3
namespace Go.Proofs.YtjnmdbfijdnaiaaGreatDoor
open Go.RowKit

def cmpI (a b : Int) : Int := if a < b then -1 else if b < a then 1 else 0
def cmpS (a b : ByteArray) : Int := if Op.bytesLess a.toList b.toList then -1 else if a.toList == b.toList then 0 else 1
theorem cmpI_zero {a b : Int} : cmpI a b = 0 ↔ a = b := by unfold cmpI; split <;> (try split) <;> omega
set_option maxHeartbeats 400000 in
theorem cmp8_any (w : World) (a b : Int) : Calls Tryz.prog 108 #[.int .i8 a, .int .i8 b] w fun e w' => e = .returned (.int .i64 (cmpI a b)) ∧ w = w' := by
  by_cases h1 : a < b
  · go_enter Tryz.func108, Tryz.ntmps108
    go_wp2
    go_ret
    exact ⟨ret_i64 (by unfold cmpI; omega), rfl⟩
  · by_cases h2 : b < a
    all_goals
      go_enter Tryz.func108, Tryz.ntmps108
      go_wp2
      go_ret
      exact ⟨ret_i64 (by unfold cmpI; omega), rfl⟩
set_option maxHeartbeats 400000 in
theorem cmp64_any (w : World) (a b : Int) : Calls Tryz.prog 110 #[.int .i64 a, .int .i64 b] w fun e w' => e = .returned (.int .i64 (cmpI a b)) ∧ w = w' := by
  by_cases h1 : a < b
  · go_enter Tryz.func110, Tryz.ntmps110
    go_wp2
    go_ret
    exact ⟨ret_i64 (by unfold cmpI; omega), rfl⟩
  · by_cases h2 : b < a
    all_goals
      go_enter Tryz.func110, Tryz.ntmps110
      go_wp2
      go_ret
      exact ⟨ret_i64 (by unfold cmpI; omega), rfl⟩
set_option maxHeartbeats 400000 in
theorem cmpS_any (w : World) (a b : ByteArray) : Calls Tryz.prog 111 #[.string a, .string b] w fun e w' => e = .returned (.int .i64 (cmpS a b)) ∧ w = w' := by
  unfold cmpS
  cases h1 : Op.bytesLess a.toList b.toList
  · cases h2 : (a.toList == b.toList)
    all_goals
      go_enter Tryz.func111, Tryz.ntmps111
      go_wp2
      go_ret
      exact ⟨ret_i64 (by simp), rfl⟩
  · go_enter Tryz.func111, Tryz.ntmps111
    go_wp2
    go_ret
    exact ⟨ret_i64 (by simp), rfl⟩

/-- The first that is not 0. -/
def orI : List Int → Int
  | [] => 0
  | x :: r => if x = 0 then orI r else x
def OrAt (w : World) (b : Nat) (l : List Int) : Prop := ∀ k (h : k < l.length), w.cell? ⟨b, k, none⟩ = some (.int .i64 l[k])
theorem orI_drop {l : List Int} {k : Nat} (h : k < l.length) : orI (l.drop k) = if l[k] = 0 then orI (l.drop (k + 1)) else l[k] := by rw [List.drop_eq_getElem_cons h, orI]
set_option maxHeartbeats 1000000 in
theorem or_any {w : World} {b c : Nat} {l : List Int} (h : OrAt w b l) (hl : l.length ≤ 100) : Calls Tryz.prog 109 #[.slice (some ⟨b, 0, none⟩) l.length c] w fun e w' => e = .returned (.int .i64 (orI l)) ∧ w = w' := by
  have H := Lib.hid h
  clear h
  go_enter Tryz.func109, Tryz.ntmps109
  go_wp2
  go_loopw [8] (fun i wr => ∃ k : Nat, k ≤ l.length ∧ i = .int .i64 k ∧ orI (l.drop k) = orI l ∧ w = wr) (fun i _ => l.length - (intOf i).toNat)
  case atStart => exact ⟨0, Nat.zero_le _, rfl, rfl, rfl⟩
  case round =>
    obtain ⟨k, hk, rfl, hrest, rfl⟩ := hrel
    by_cases hlt : k < l.length
    · have hc := H.out k hlt
      rw [orI_drop hlt] at hrest
      generalize l[k] = n at hc hrest
      cases hn : (n == 0)
      · have hn' : ¬ n = 0 := by simpa using hn
        have hn2 : (n != 0) = true := by simpa using hn'
        rw [if_neg hn'] at hrest
        have HN := Lib.hid hrest
        clear hrest hn hn'
        go_wp2
        go_ret
        exact ⟨by rw [← HN.out]; rfl, rfl⟩
      · have hn' : n = 0 := by simpa using hn
        rw [if_pos hn'] at hrest
        have HN := Lib.hid hrest
        subst hn'
        clear hrest hn
        go_wp2
        go_roundw
        case rel => exact ⟨k + 1, hlt, by go_num, HN.out, by first | rfl | trivial⟩
        case measure => simp [intOf]; omega
    · rw [List.drop_eq_nil_of_le (by omega), orI] at hrest
      have HN := Lib.hid hrest
      clear hrest
      go_wp2
      go_ret
      exact ⟨by rw [← HN.out]; rfl, rfl⟩

/-- The order of terms that may be. -/
def Tr.ord : Tr → Tr → Int
  | .mk k n s t l, y => if k = y.k then orI [cmpI l.length y.l.length, cmpS s y.s, cmpS t y.t, cmpI n y.n, ordl l y.l] else cmpI k y.k
where ordl : List Tr → List Tr → Int
  | [], [] => 0
  | [], _ :: _ => -1
  | _ :: _, [] => 1
  | x :: r, y :: q => if x.ord y = 0 then ordl r q else x.ord y
theorem ord_eq (x y : Tr) : x.ord y = if x.k = y.k then orI [cmpI x.l.length y.l.length, cmpS x.s y.s, cmpS x.t y.t, cmpI x.n y.n, Tr.ord.ordl x.l y.l] else cmpI x.k y.k := by cases x; rfl
theorem ordl_take {l m : List Tr} {k : Nat} (h1 : k < l.length) (h2 : k < m.length) : Tr.ord.ordl (l.drop k) (m.drop k) = if l[k].ord m[k] = 0 then Tr.ord.ordl (l.drop (k + 1)) (m.drop (k + 1)) else l[k].ord m[k] := by
  rw [List.drop_eq_getElem_cons h1, List.drop_eq_getElem_cons h2, Tr.ord.ordl]
theorem ordl_end {l m : List Tr} {k : Nat} (h1 : k ≤ l.length) (h2 : k ≤ m.length) (h : k = l.length ∨ k = m.length) : Tr.ord.ordl (l.drop k) (m.drop k) = cmpI l.length m.length := by
  unfold cmpI
  rcases h with h | h
  · rw [List.drop_eq_nil_of_le (show l.length ≤ k by omega)]
    by_cases h3 : k < m.length
    · rw [List.drop_eq_getElem_cons h3, Tr.ord.ordl, if_pos (by omega)]
    · rw [List.drop_eq_nil_of_le (by omega), Tr.ord.ordl, if_neg (by omega), if_neg (by omega)]
  · rw [List.drop_eq_nil_of_le (show m.length ≤ k by omega)]
    by_cases h3 : k < l.length
    · rw [List.drop_eq_getElem_cons h3, Tr.ord.ordl, if_neg (by omega), if_pos (by omega)]
    · rw [List.drop_eq_nil_of_le (by omega), Tr.ord.ordl, if_neg (by omega), if_neg (by omega)]

/-- What order's contract says of a part, for rows. -/
def OrdSays (F G : Nat → Prop) (x : Tr) : Prop := ∀ (y : Tr) (w : World) (sv tv : Value), TrV F w x sv → TrV G w y tv →
    Calls Tryz.prog 105 #[.agg #[.int .i8 x.k, .int .i64 x.n, .string x.s, .string x.t, sv], .agg #[.int .i8 y.k, .int .i64 y.n, .string y.s, .string y.t, tv]] w fun e w' => e = .returned (.int .i64 (x.ord y)) ∧ Below w.heap.size w w'

set_option maxHeartbeats 2000000 in
set_option maxRecDepth 100000 in
theorem rows_any {F G : Nat → Prop} {l m : List Tr} {w : World} {v u : Value} (hl : Kids F w v l) (hm : Kids G w u m) (ih : ∀ x ∈ l, OrdSays F G x) :
    Calls Tryz.prog 112 #[v, u, .func (Fn.func 105) #[] #[]] w fun e w' => e = .returned (.int .i64 (Tr.ord.ordl l m)) ∧ Below w.heap.size w w' := by
  obtain ⟨p, c, rfl⟩ := hl.slice
  obtain ⟨p2, c2, rfl⟩ := hm.slice
  have hlen : l.length ≤ 2199023255552 := hl.len
  have hlen2 : m.length ≤ 2199023255552 := hm.len
  have IH := Lib.hid ih
  have HL := Lib.hid hl
  have HM := Lib.hid hm
  clear ih hl hm
  rcases Nat.lt_or_ge m.length l.length with hc | hc
  all_goals
    go_enter Tryz.func112, Tryz.ntmps112
    go_wp2
    go_loopw [14] (fun i wr => ∃ k : Nat, k ≤ l.length ∧ k ≤ m.length ∧ i = .int .i64 k ∧ Tr.ord.ordl (l.drop k) (m.drop k) = Tr.ord.ordl l m ∧ Below w.heap.size w wr) (fun i _ => l.length - (intOf i).toNat)
    case atStart => exact ⟨0, Nat.zero_le _, Nat.zero_le _, rfl, rfl, Below.refl _ _⟩
    case round =>
      obtain ⟨k, hk, hk2, rfl, hrest, hbr⟩ := hrel
      by_cases hlt : k < l.length ∧ k < m.length
      · obtain ⟨hlt1, hlt2⟩ := hlt
        obtain ⟨g, o, kv, rfl, _, hnode, hkid⟩ := (HL.out.under hbr).at hlt1
        obtain ⟨g2, o2, kv2, rfl, _, hnode2, hkid2⟩ := (HM.out.under hbr).at hlt2
        have hbd : Below wr.heap.size wr (wr.drewN 1) := below_drewN (Below.refl _ _) 1
        have cK := IH.out l[k] (List.getElem_mem hlt1) m[k] (wr.drewN 1) kv kv2 (hkid.below hbd) (hkid2.below hbd)
        rw [ordl_take hlt1 hlt2] at hrest
        obtain ⟨c0, c1, c2', c3, c4⟩ := hnode
        obtain ⟨d0, d1, d2, d3, d4⟩ := hnode2
        generalize l[k] = u at *
        generalize m[k] = v at *
        generalize u.ord v = q at *
        clear hkid hkid2
        cases hq : (q == 0)
        · have hq1 : ¬ q = 0 := by simpa using hq
          have hq2 : (q != 0) = true := by simpa using hq1
          rw [if_neg hq1] at hrest
          have HN := Lib.hid hrest
          clear hrest hq hq1
          go_wp2
          go_still_tail 9, (by kernel_rfl)
          change wpList _ _ _ _ _ (wr.drewN 1)
          generalize wr.drewN 1 = w4 at hbd cK ⊢
          go_wp2_with (go_at_call 105; refine cK.mono ?_; rintro e w5 ⟨rfl, hb5⟩)
          go_ret
          exact ⟨by rw [← HN.out]; rfl, hbr.trans ((hbd.trans (hb5.mono hbd.size)).mono hbr.size)⟩
        · have hq1 : q = 0 := by simpa using hq
          rw [if_pos hq1] at hrest
          have HN := Lib.hid hrest
          subst hq1
          clear hrest hq
          go_wp2
          go_still_tail 9, (by kernel_rfl)
          change wpList _ _ _ _ _ (wr.drewN 1)
          generalize wr.drewN 1 = w4 at hbd cK ⊢
          go_wp2_with (go_at_call 105; refine cK.mono ?_; rintro e w5 ⟨rfl, hb5⟩)
          go_roundw
          case rel => exact ⟨k + 1, hlt1, hlt2, by go_num, HN.out, hbr.trans ((hbd.trans (hb5.mono hbd.size)).mono hbr.size)⟩
          case measure => simp [intOf]; omega
      · rw [ordl_end hk hk2 (by omega)] at hrest
        have hno : ¬ k < l.length ∨ ¬ k < m.length := by omega
        have HN := Lib.hid hrest
        have hge : l.length ≤ k ∨ m.length ≤ k := by omega
        clear hrest hlt
        rcases hge with hge | hge
        all_goals
          first
            | omega
            | (go_wp2_with (go_at_call 110; refine (cmp64_any _ _ _).mono ?_; rintro e w5 ⟨rfl, rfl⟩)
               go_ret
               exact ⟨by rw [← HN.out]; rfl, hbr⟩)
end Go.Proofs.YtjnmdbfijdnaiaaGreatDoor
