/-
  How great trees are: pleachref03.size, pleachref07.nodes. Conditions: the tree lies as 'TrV' says.
-/
import Derived.Test.YtjnmdbfijdnaiaaGreatDoorTr
namespace Go.Proofs.YtjnmdbfijdnaiaaGreatDoor
open Go.RowKit

theorem szl_take {l : List Tr} {k : Nat} {m a : Int} (hk : k < l.length) (ha : a < m) : Tr.sz.szl (l.drop k) m a = Tr.sz.szl (l.drop (k + 1)) m (a + l[k].sz (m - a)) := by
  rw [List.drop_eq_getElem_cons hk, Tr.sz.szl, if_pos ha]

/-- A node's box. -/
theorem node_box (w : World) (T : TypeId) (k n : Int) (s t : ByteArray) (sv : Value) :
    Below w.heap.size w (w.alloc (.cells #[.int .i8 k, .int .i64 n, .string s, .string t, sv] T)) ∧ (w.alloc (.cells #[.int .i8 k, .int .i64 n, .string s, .string t, sv] T)).heap.size = w.heap.size + 1 ∧
      NodeAt (w.alloc (.cells #[.int .i8 k, .int .i64 n, .string s, .string t, sv] T)) w.heap.size 0 (.mk k n s t []) sv := by
  refine ⟨(Below.refl _ _).alloc (Nat.le_refl _) _, by simp, ?_, ?_, ?_, ?_, ?_⟩ <;> (rw [World.cell?_alloc_at _ _ _ _ (by simp)]; rfl)

/-- A loop over a tree's parts that counts. -/
def SzRel (x : Tr) (m : Int) (w1 : World) (n i : Value) (wr : World) : Prop :=
  ∃ k : Nat, k ≤ x.l.length ∧ i = .int .i64 k ∧ ∃ a : Int, n = .int .i64 a ∧ 1 ≤ a ∧ a ≤ m ∧ Tr.sz.szl (x.l.drop k) m a = x.sz m ∧ Below w1.heap.size w1 wr

set_option maxHeartbeats 1000000 in
set_option maxRecDepth 100000 in
theorem size_any {F : Nat → Prop} (x : Tr) : ∀ (w : World) (sv : Value) (m : Int), TrV F w x sv → 1 ≤ m → m ≤ 1099511627776 →
    Calls Tryz.prog 21 #[.agg #[.int .i8 x.k, .int .i64 x.n, .string x.s, .string x.t, sv], .int .i64 m] w fun e w' => e = .returned (.int .i64 (x.sz m)) ∧ Below w.heap.size w w' := by
  induction x using Tr.ind with
  | h x ih =>
    intro w sv m hx hm hm2
    obtain ⟨p, c, rfl⟩ := hx.kids.slice
    obtain ⟨hb1, hz1, hn1⟩ := node_box w 28 x.k x.n x.s x.t (.slice p x.l.length c)
    have hx1 := hx.below hb1
    have hlen := hx.kids.len
    have hlen' : x.l.length ≤ 2199023255552 := hlen
    have h4 := hn1.l
    have hrel0 : x.sz m = Tr.sz.szl x.l m 1 := by cases x; rfl
    have IH := Lib.hid ih
    have HR := Lib.hid hrel0
    clear hn1 ih hrel0 hx hlen
    go_enter Tryz.func21, Tryz.ntmps21
    go_wp2
    generalize w.alloc (.cells #[.int .i8 x.k, .int .i64 x.n, .string x.s, .string x.t, .slice p x.l.length c] 28) = w1 at hb1 hz1 h4 hx1 ⊢
    go_loopw [5, 6] (fun n i wr => SzRel x m w1 n i wr) (fun _ i _ => x.l.length - (intOf i).toNat)
    case atStart => exact ⟨0, Nat.zero_le _, rfl, 1, rfl, Int.le_refl _, hm, HR.out.symm, Below.refl _ _⟩
    case round =>
      obtain ⟨k, hk, rfl, a, rfl, ha1, ha2, hrest, hbr⟩ := hrel
      have hxr := hx1.below hbr
      have hbw := hb1.trans (hbr.mono (by omega))
      have h4r := (hbr.cell (p := ⟨w.heap.size, 0 + 4, none⟩) (by show w.heap.size < _; omega)).trans h4
      simp only [Nat.zero_add] at h4r
      by_cases hlt : k < x.l.length
      · by_cases ham : a < m
        · obtain ⟨g, o, kv, rfl, hg, hnode, hkid⟩ := hxr.kids.at hlt
          have cK := fun W hb => IH.out x.l[k] (List.getElem_mem hlt) W kv (m - a) (hkid.below (w' := W) hb) (by omega) (by omega)
          have hszk := sz_bound x.l[k] (m - a) (by omega)
          have hnext := szl_take hlt ham
          obtain ⟨e0, e1, e2, e3, e4⟩ := hnode
          generalize x.l[k] = y at *
          have HN := Lib.hid (hnext.symm.trans hrest)
          clear hnext hrest hkid hxr h4 hx1
          go_wp2_with (go_at_call 21; refine (cK _ (Below.refl _ _)).mono ?_; rintro e w2 ⟨rfl, hb2⟩)
          go_roundw
          case rel => exact ⟨k + 1, hlt, by go_num, _, rfl, by omega, by omega, HN.out, hbr.trans (hb2.mono hbr.size)⟩
          case measure => simp [intOf]; omega
        · rw [szl_stop _ (by omega)] at hrest
          subst hrest
          clear h4 hx1 hxr
          go_wp2
          go_ret
          exact ⟨rfl, hbw⟩
      · rw [List.drop_eq_nil_of_le (by omega), Tr.sz.szl] at hrest
        subst hrest
        clear h4 hx1 hxr
        by_cases ham : x.sz m < m
        all_goals
          go_wp2
          go_ret
          exact ⟨rfl, hbw⟩
set_option maxHeartbeats 1000000 in
set_option maxRecDepth 100000 in
theorem nodes_any {F : Nat → Prop} (x : Tr) : ∀ (w : World) (sv : Value) (m : Int), TrV F w x sv → 1 ≤ m → m ≤ 1099511627776 →
    Calls Tryz.prog 20 #[.agg #[.int .i8 x.k, .int .i64 x.n, .string x.s, .string x.t, sv], .int .i64 m] w fun e w' => e = .returned (.int .i64 (x.sz m)) ∧ Below w.heap.size w w' := by
  induction x using Tr.ind with
  | h x ih =>
    intro w sv m hx hm hm2
    obtain ⟨p, c, rfl⟩ := hx.kids.slice
    obtain ⟨hb1, hz1, hn1⟩ := node_box w 25 x.k x.n x.s x.t (.slice p x.l.length c)
    have hx1 := hx.below hb1
    have hlen := hx.kids.len
    have hlen' : x.l.length ≤ 2199023255552 := hlen
    have h4 := hn1.l
    have hrel0 : x.sz m = Tr.sz.szl x.l m 1 := by cases x; rfl
    have IH := Lib.hid ih
    have HR := Lib.hid hrel0
    clear hn1 ih hrel0 hx hlen
    go_enter Tryz.func20, Tryz.ntmps20
    go_wp2
    generalize w.alloc (.cells #[.int .i8 x.k, .int .i64 x.n, .string x.s, .string x.t, .slice p x.l.length c] 25) = w1 at hb1 hz1 h4 hx1 ⊢
    go_loopw [5, 6] (fun n i wr => SzRel x m w1 n i wr) (fun _ i _ => x.l.length - (intOf i).toNat)
    case atStart => exact ⟨0, Nat.zero_le _, rfl, 1, rfl, Int.le_refl _, hm, HR.out.symm, Below.refl _ _⟩
    case round =>
      obtain ⟨k, hk, rfl, a, rfl, ha1, ha2, hrest, hbr⟩ := hrel
      have hxr := hx1.below hbr
      have hbw := hb1.trans (hbr.mono (by omega))
      have h4r := (hbr.cell (p := ⟨w.heap.size, 0 + 4, none⟩) (by show w.heap.size < _; omega)).trans h4
      simp only [Nat.zero_add] at h4r
      by_cases hlt : k < x.l.length
      · by_cases ham : a < m
        · obtain ⟨g, o, kv, rfl, hg, hnode, hkid⟩ := hxr.kids.at hlt
          have cK := fun W hb => IH.out x.l[k] (List.getElem_mem hlt) W kv (m - a) (hkid.below (w' := W) hb) (by omega) (by omega)
          have hszk := sz_bound x.l[k] (m - a) (by omega)
          have hnext := szl_take hlt ham
          obtain ⟨e0, e1, e2, e3, e4⟩ := hnode
          generalize x.l[k] = y at *
          have HN := Lib.hid (hnext.symm.trans hrest)
          clear hnext hrest hkid hxr h4 hx1
          go_wp2_with (go_at_call 20; refine (cK _ (Below.refl _ _)).mono ?_; rintro e w2 ⟨rfl, hb2⟩)
          go_roundw
          case rel => exact ⟨k + 1, hlt, by go_num, _, rfl, by omega, by omega, HN.out, hbr.trans (hb2.mono hbr.size)⟩
          case measure => simp [intOf]; omega
        · rw [szl_stop _ (by omega)] at hrest
          subst hrest
          clear h4 hx1 hxr
          go_wp2
          go_ret
          exact ⟨rfl, hbw⟩
      · rw [List.drop_eq_nil_of_le (by omega), Tr.sz.szl] at hrest
        subst hrest
        clear h4 hx1 hxr
        by_cases ham : x.sz m < m
        all_goals
          go_wp2
          go_ret
          exact ⟨rfl, hbw⟩
/-- How deep a tree is, at most so deep. -/
def Tr.dp : Tr → Int → Int
  | .mk _ _ _ _ l, m => if 1 < m then dpl l m 1 else 1
where dpl : List Tr → Int → Int → Int
  | [], _, n => n
  | x :: r, m, n => dpl r m (max n (1 + x.dp (m - 1)))
theorem dpl_take {l : List Tr} {k : Nat} {m a : Int} (hk : k < l.length) : Tr.dp.dpl (l.drop k) m a = Tr.dp.dpl (l.drop (k + 1)) m (max a (1 + l[k].dp (m - 1))) := by
  rw [List.drop_eq_getElem_cons hk, Tr.dp.dpl]
theorem dp_bound (x : Tr) : ∀ m : Int, 1 ≤ m → 1 ≤ x.dp m ∧ x.dp m ≤ m := by
  induction x using Tr.ind with
  | h x ih =>
    intro m hm
    cases x with
    | mk k n s t l =>
      rw [Tr.dp]
      split
      · have key : ∀ (r : List Tr), (∀ y ∈ r, y ∈ l) → ∀ a : Int, 1 ≤ a → a ≤ m → a ≤ Tr.dp.dpl r m a ∧ Tr.dp.dpl r m a ≤ m := by
          intro r
          induction r with
          | nil => exact fun _ a _ h => ⟨Int.le_refl _, h⟩
          | cons y r ihr =>
            intro hr a h1 h2
            rw [Tr.dp.dpl]
            have h3 := ih y (hr y (by simp)) (m - 1) (by omega)
            have h4 := ihr (fun z hz => hr z (List.mem_cons_of_mem _ hz)) (max a (1 + y.dp (m - 1))) (by omega) (by omega)
            omega
        exact key l (fun _ h => h) 1 (Int.le_refl _) hm
      · omega
theorem dpl_bound {l : List Tr} {m : Int} (hm : 1 < m) : ∀ a : Int, 1 ≤ a → a ≤ m → a ≤ Tr.dp.dpl l m a ∧ Tr.dp.dpl l m a ≤ m := by
  induction l with
  | nil => exact fun a _ h => ⟨Int.le_refl _, h⟩
  | cons y r ih =>
    intro a h1 h2
    rw [Tr.dp.dpl]
    have h3 := dp_bound y (m - 1) (by omega)
    have h4 := ih (max a (1 + y.dp (m - 1))) (by omega) (by omega)
    omega

def DpRel (x : Tr) (m : Int) (w1 : World) (n i : Value) (wr : World) : Prop :=
  ∃ k : Nat, k ≤ x.l.length ∧ i = .int .i64 k ∧ ∃ a : Int, n = .int .i64 a ∧ 1 ≤ a ∧ a ≤ m ∧ (if 1 < m then Tr.dp.dpl (x.l.drop k) m a else a) = x.dp m ∧ Below w1.heap.size w1 wr

set_option maxHeartbeats 1000000 in
set_option maxRecDepth 100000 in
theorem deep_any {F : Nat → Prop} (x : Tr) : ∀ (w : World) (sv : Value) (m : Int), TrV F w x sv → 1 ≤ m → m ≤ 1099511627776 →
    Calls Tryz.prog 83 #[.agg #[.int .i8 x.k, .int .i64 x.n, .string x.s, .string x.t, sv], .int .i64 m] w fun e w' => e = .returned (.int .i64 (x.dp m)) ∧ Below w.heap.size w w' := by
  induction x using Tr.ind with
  | h x ih =>
    intro w sv m hx hm hm2
    obtain ⟨p, c, rfl⟩ := hx.kids.slice
    obtain ⟨hb1, hz1, hn1⟩ := node_box w 25 x.k x.n x.s x.t (.slice p x.l.length c)
    have hx1 := hx.below hb1
    have hlen := hx.kids.len
    have hlen' : x.l.length ≤ 2199023255552 := hlen
    have h4 := hn1.l
    have hrel0 : x.dp m = if 1 < m then Tr.dp.dpl x.l m 1 else 1 := by cases x; rfl
    have IH := Lib.hid ih
    have HR := Lib.hid hrel0
    clear hn1 ih hrel0 hx hlen
    go_enter Tryz.func83, Tryz.ntmps83
    go_wp2
    generalize w.alloc (.cells #[.int .i8 x.k, .int .i64 x.n, .string x.s, .string x.t, .slice p x.l.length c] 25) = w1 at hb1 hz1 h4 hx1 ⊢
    go_loopw [5, 6] (fun n i wr => DpRel x m w1 n i wr) (fun _ i _ => x.l.length - (intOf i).toNat)
    case atStart => exact ⟨0, Nat.zero_le _, rfl, 1, rfl, Int.le_refl _, hm, HR.out.symm, Below.refl _ _⟩
    case round =>
      obtain ⟨k, hk, rfl, a, rfl, ha1, ha2, hrest, hbr⟩ := hrel
      have hxr := hx1.below hbr
      have hbw := hb1.trans (hbr.mono (by omega))
      have h4r := (hbr.cell (p := ⟨w.heap.size, 0 + 4, none⟩) (by show w.heap.size < _; omega)).trans h4
      simp only [Nat.zero_add] at h4r
      by_cases hlt : k < x.l.length
      · by_cases ham : 1 < m
        · rw [if_pos ham] at hrest
          obtain ⟨g, o, kv, rfl, hg, hnode, hkid⟩ := hxr.kids.at hlt
          have cK := fun W hb => IH.out x.l[k] (List.getElem_mem hlt) W kv (m - 1) (hkid.below (w' := W) hb) (by omega) (by omega)
          have hszk := dp_bound x.l[k] (m - 1) (by omega)
          have hnext := dpl_take (m := m) (a := a) hlt
          obtain ⟨e0, e1, e2, e3, e4⟩ := hnode
          generalize x.l[k] = y at *
          have HN := Lib.hid (hnext.symm.trans hrest)
          clear hnext hrest hkid hxr h4 hx1
          go_wp2_with (go_at_call 83; refine (cK _ (Below.refl _ _)).mono ?_; rintro e w2 ⟨rfl, hb2⟩)
          go_roundw
          case rel => exact ⟨k + 1, hlt, by go_num, _, rfl, by omega, by omega, by rw [if_pos ham, ← HN.out]; congr 1; split <;> omega, hbr.trans (hb2.mono hbr.size)⟩
          case measure => simp [intOf]; omega
        · rw [if_neg ham] at hrest
          subst hrest
          clear h4 hx1 hxr
          go_wp2
          go_ret
          exact ⟨rfl, hbw⟩
      · rw [List.drop_eq_nil_of_le (by omega), Tr.dp.dpl, ite_self] at hrest
        subst hrest
        clear h4 hx1 hxr
        by_cases ham : 1 < m
        all_goals
          go_wp2
          go_ret
          exact ⟨rfl, hbw⟩
end Go.Proofs.YtjnmdbfijdnaiaaGreatDoor
