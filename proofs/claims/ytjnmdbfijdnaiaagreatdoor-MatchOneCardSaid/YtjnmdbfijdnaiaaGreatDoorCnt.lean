/-
  May a term be: pleachref03.count, Check, Size. Conditions: the term lies as 'TrV' says.
-/
import Derived.Test.YtjnmdbfijdnaiaaGreatDoorTerm3
namespace Go.Proofs.YtjnmdbfijdnaiaaGreatDoor
open Go.RowKit

/-- w' is w but for the blocks of T, and for new blocks. -/
structure Turn (T : Nat → Prop) (w w' : World) : Prop where
  os : w'.os = w.os
  tape : w'.tape = w.tape
  output : w'.output = w.output
  size : w.heap.size ≤ w'.heap.size
  block : ∀ k, k < w.heap.size → ¬ T k → w'.heap[k]? = w.heap[k]?

theorem Turn.refl (T : Nat → Prop) (w : World) : Turn T w w := ⟨rfl, rfl, rfl, Nat.le_refl _, fun _ _ _ => rfl⟩
theorem Turn.trans {T : Nat → Prop} {a b c : World} (h : Turn T a b) (k : Turn T b c) : Turn T a c :=
  ⟨k.os.trans h.os, k.tape.trans h.tape, k.output.trans h.output, Nat.le_trans h.size k.size, fun i hi hT => (k.block i (Nat.lt_of_lt_of_le hi h.size) hT).trans (h.block i hi hT)⟩
theorem Turn.mono {T T' : Nat → Prop} {a b : World} (h : Turn T a b) (hT : ∀ k, k < a.heap.size → T k → T' k) : Turn T' a b :=
  ⟨h.os, h.tape, h.output, h.size, fun i hi hn => h.block i hi fun ht => hn (hT i hi ht)⟩
theorem Turn.of_below {T : Nat → Prop} {w w' : World} (h : Below w.heap.size w w') : Turn T w w' := ⟨h.os, h.tape, h.output, h.size, fun k hk _ => h.block k hk⟩
theorem Turn.setCell (w : World) (p : Addr) (u : Value) : Turn (· = p.block) w (w.setCell p u) :=
  ⟨rfl, rfl, rfl, by simp [World.setCell], fun k _ hne => Below.heap_setCell _ _ _ _ hne⟩
theorem Turn.alloc (T : Nat → Prop) (w : World) (o : Obj) : Turn T w (w.alloc o) := Turn.of_below ((Below.refl _ w).alloc (Nat.le_refl _) o)
theorem Turn.below {T : Nat → Prop} {w w' : World} (h : Turn T w w') {B : Nat} (hB : B ≤ w.heap.size) (hT : ∀ k, k < B → ¬ T k) : Below B w w' :=
  ⟨h.os, h.tape, h.output, h.size, fun k hk => h.block k (Nat.lt_of_lt_of_le hk hB) (hT k hk)⟩
theorem Turn.cell {T : Nat → Prop} {w w' : World} (h : Turn T w w') {g o : Nat} {v : Value} (hc : w.cell? ⟨g, o, none⟩ = some v) (hT : ¬ T g) : w'.cell? ⟨g, o, none⟩ = some v :=
  (World.cell?_of_block (a := ⟨g, o, none⟩) (h.block g (cell_block hc) hT)).trans hc
theorem Kids.turn {F : Nat → Prop} {w w' : World} {v : Value} {l : List Tr} (h : Kids F w v l) {T : Nat → Prop} (ht : Turn T w w') (hT : ∀ g, F g → ¬ T g) : Kids F w' v l := h.keep fun g hg hlt => ht.block g hlt (hT g hg)
theorem TrV.turn {F : Nat → Prop} {w w' : World} {x : Tr} {v : Value} (h : TrV F w x v) {T : Nat → Prop} (ht : Turn T w w') (hT : ∀ g, F g → ¬ T g) : TrV F w' x v := ⟨h.wf, h.kids.turn ht hT⟩
theorem NodeAt.turn {w w' : World} {g o : Nat} {x : Tr} {sv : Value} (h : NodeAt w g o x sv) {T : Nat → Prop} (ht : Turn T w w') (hT : ¬ T g) : NodeAt w' g o x sv := h.keep (ht.block g h.lt hT)

/-- How many nodes a term has, at most so many; and whether all of these may be. -/
def Tr.cnt : Tr → Int → Int × Bool
  | .mk k n s t l, m => if oneB (.mk k n s t l) then cntl l m 1 else (1, false)
where cntl : List Tr → Int → Int → Int × Bool
  | [], _, n => (n, true)
  | x :: r, m, n => if m ≤ n then (n, true) else if (x.cnt (m - n)).2 then cntl r m (n + (x.cnt (m - n)).1) else (n, false)
theorem cnt_eq (x : Tr) (m : Int) : x.cnt m = if oneB x then Tr.cnt.cntl x.l m 1 else (1, false) := by cases x; rfl
theorem cntl_stop (l : List Tr) {m n : Int} (h : m ≤ n) : Tr.cnt.cntl l m n = (n, true) := by
  cases l with
  | nil => rfl
  | cons x r => rw [Tr.cnt.cntl, if_pos h]
theorem cntl_take {l : List Tr} {k : Nat} {m a : Int} (hk : k < l.length) (ha : a < m) : Tr.cnt.cntl (l.drop k) m a = if (l[k].cnt (m - a)).2 then Tr.cnt.cntl (l.drop (k + 1)) m (a + (l[k].cnt (m - a)).1) else (a, false) := by
  rw [List.drop_eq_getElem_cons hk, Tr.cnt.cntl, if_neg (by omega)]
theorem cnt_bound (x : Tr) : ∀ m : Int, 1 ≤ m → 1 ≤ (x.cnt m).1 ∧ (x.cnt m).1 ≤ m := by
  induction x using Tr.ind with
  | h x ih =>
    intro m hm
    rw [cnt_eq]
    have key : ∀ (r : List Tr), (∀ y ∈ r, y ∈ x.l) → ∀ a : Int, 1 ≤ a → a ≤ m → a ≤ (Tr.cnt.cntl r m a).1 ∧ (Tr.cnt.cntl r m a).1 ≤ m := by
      intro r
      induction r with
      | nil => exact fun _ a _ h => ⟨Int.le_refl _, h⟩
      | cons y r ihr =>
        intro hr a h1 h2
        rw [Tr.cnt.cntl]
        split
        · exact ⟨Int.le_refl _, h2⟩
        · split
          · have h3 := ih y (hr y (by simp)) (m - a) (by omega)
            have h4 := ihr (fun z hz => hr z (List.mem_cons_of_mem _ hz)) (a + (y.cnt (m - a)).1) (by omega) (by omega)
            omega
          · exact ⟨Int.le_refl _, h2⟩
    split
    · exact key x.l (fun _ h => h) 1 (Int.le_refl _) hm
    · exact ⟨Int.le_refl _, hm⟩

def CntRel (x : Tr) (m : Int) (w1 : World) (n i : Value) (wr : World) : Prop :=
  ∃ k : Nat, k ≤ x.l.length ∧ i = .int .i64 k ∧ ∃ a : Int, n = .int .i64 a ∧ 1 ≤ a ∧ a ≤ m ∧ Tr.cnt.cntl (x.l.drop k) m a = x.cnt m ∧ Below w1.heap.size w1 wr

theorem ret_pair {a a' : Int} {b b' : Bool} (h : (a, b) = (a', b')) : Ending.returned (.tuple #[.int .i64 a, .bool b]) = .returned (.tuple #[.int .i64 a', .bool b']) := by cases h; rfl

set_option maxHeartbeats 1000000 in
set_option maxRecDepth 100000 in
theorem count_any {F : Nat → Prop} (x : Tr) : ∀ (w : World) (sv : Value) (m : Int), TrV F w x sv → 1 ≤ m → m ≤ 1099511627776 →
    Calls Tryz.prog 47 #[.agg #[.int .i8 x.k, .int .i64 x.n, .string x.s, .string x.t, sv], .int .i64 m] w fun e w' => e = .returned (.tuple #[.int .i64 (x.cnt m).1, .bool (x.cnt m).2]) ∧ Below w.heap.size w w' := by
  induction x using Tr.ind with
  | h x ih =>
    intro w sv m hx hm hm2
    obtain ⟨p, c, rfl⟩ := hx.kids.slice
    obtain ⟨hb1, hz1, hn1⟩ := node_box w 28 x.k x.n x.s x.t (.slice p x.l.length c)
    have hx1 := hx.below hb1
    have hlen := hx.kids.len
    have hlen' : x.l.length ≤ 2199023255552 := hlen
    have h4 := hn1.l
    have cO := fun W => rone_any W x p c hx.wf
    have hrel0 := cnt_eq x m
    have IH := Lib.hid ih
    clear hn1 ih hx hlen
    cases ho : oneB x
    · rw [ho] at cO hrel0
      have HR := Lib.hid hrel0
      clear hrel0 ho
      go_enter Tryz.func47, Tryz.ntmps47
      go_wp2_with (go_at_call 68; refine (cO _).mono ?_; rintro e w2 ⟨rfl, hb2⟩)
      go_ret2
      exact ⟨by rw [HR.out]; rfl, hb1.trans (hb2.mono hb1.size)⟩
    rw [ho, if_pos rfl] at hrel0
    rw [ho] at cO
    have HR := Lib.hid hrel0
    clear hrel0 ho
    go_enter Tryz.func47, Tryz.ntmps47
    go_wp2_with (go_at_call 68; refine (cO _).mono ?_; rintro e w2 ⟨rfl, hb2⟩)
    have h4 := (hb2.cell (p := ⟨w.heap.size, 0 + 4, none⟩) (by show w.heap.size < _; omega)).trans h4
    have hx2 := hx1.below hb2
    have hb3 := hb1.trans (hb2.mono hb1.size)
    have hz3 : w.heap.size < w2.heap.size := by have := hb2.size; omega
    clear hb1 hb2 hx1 hz1
    go_loopw [6, 7] (fun n i wr => CntRel x m w2 n i wr) (fun _ i _ => x.l.length - (intOf i).toNat)
    case atStart => exact ⟨0, Nat.zero_le _, rfl, 1, rfl, Int.le_refl _, hm, HR.out.symm, Below.refl _ _⟩
    case round =>
      obtain ⟨k, hk, rfl, a, rfl, ha1, ha2, hrest, hbr⟩ := hrel
      have hxr := hx2.below hbr
      have hbw := hb3.trans (hbr.mono hb3.size)
      have h4r := (hbr.cell (p := ⟨w.heap.size, 0 + 4, none⟩) hz3).trans h4
      simp only [Nat.zero_add] at h4r
      by_cases hlt : k < x.l.length
      · by_cases ham : a < m
        · obtain ⟨g, o, kv, rfl, hg, hnode, hkid⟩ := hxr.kids.at hlt
          have cK := fun W hb => IH.out x.l[k] (List.getElem_mem hlt) W kv (m - a) (hkid.below (w' := W) hb) (by omega) (by omega)
          have hszk := cnt_bound x.l[k] (m - a) (by omega)
          have hnext := cntl_take hlt ham
          obtain ⟨e0, e1, e2, e3, e4⟩ := hnode
          generalize x.l[k] = y at *
          rw [hrest] at hnext
          generalize y.cnt (m - a) = q at *
          obtain ⟨qn, qb⟩ := q
          simp only at hnext hszk
          have HN := Lib.hid hnext
          clear hnext hrest hkid hxr h4 hx2
          cases qb
          · go_wp2_with (go_at_call 47; refine (cK _ (Below.refl _ _)).mono ?_; rintro e w3 ⟨rfl, hb3⟩)
            go_ret2
            exact ⟨by rw [HN.out]; rfl, hbw.trans (hb3.mono hbw.size)⟩
          · go_wp2_with (go_at_call 47; refine (cK _ (Below.refl _ _)).mono ?_; rintro e w3 ⟨rfl, hb3⟩)
            go_roundw
            case rel => exact ⟨k + 1, hlt, by go_num, _, rfl, by omega, by omega, by rw [HN.out]; rfl, hbr.trans (hb3.mono hbr.size)⟩
            case measure => simp [intOf]; omega
        · rw [cntl_stop _ (by omega)] at hrest
          have HN := Lib.hid hrest
          clear hrest h4 hx2 hxr
          go_wp2
          go_ret2
          exact ⟨by rw [← HN.out]; rfl, hbw⟩
      · rw [List.drop_eq_nil_of_le (by omega), Tr.cnt.cntl] at hrest
        have HN := Lib.hid hrest
        clear hrest h4 hx2 hxr
        go_wp2
        go_ret2
        exact ⟨by rw [← HN.out]; rfl, hbw⟩

/-- A check's answer. -/
def chkT (x : Tr) : Int := if (x.cnt 257).2 then (if 256 < (x.cnt 257).1 then 11 else 0) else 30
set_option maxHeartbeats 1000000 in
theorem rcheck_any {F : Nat → Prop} {x : Tr} {w : World} {sv : Value} (hx : TrV F w x sv) :
    Calls Tryz.prog 25 #[.agg #[.int .i8 x.k, .int .i64 x.n, .string x.s, .string x.t, sv]] w fun e w' => e = .returned (.int .i64 (chkT x)) ∧ Below w.heap.size w w' := by
  obtain ⟨p, c, rfl⟩ := hx.kids.slice
  have cK := fun W hb => count_any x W _ 257 (hx.below (w' := W) hb) (by omega) (by omega)
  clear hx
  unfold chkT
  generalize x.cnt 257 = q at cK
  obtain ⟨qn, qb⟩ := q
  simp only at cK
  cases qb
  · go_enter Tryz.func25, Tryz.ntmps25
    go_wp2_with (go_at_call 47; refine (cK _ (alloc_below _ _)).mono ?_; rintro e w2 ⟨rfl, hb2⟩)
    go_ret
    exact ⟨rfl, (alloc_below _ _).trans (hb2.mono (by simp))⟩
  · by_cases h : 256 < qn
    all_goals
      go_enter Tryz.func25, Tryz.ntmps25
      go_wp2_with (go_at_call 47; refine (cK _ (alloc_below _ _)).mono ?_; rintro e w2 ⟨rfl, hb2⟩)
      go_ret
      exact ⟨ret_i64 (by simp only), (alloc_below _ _).trans (hb2.mono (by simp))⟩
set_option maxHeartbeats 1000000 in
theorem rsize_any {F : Nat → Prop} {x : Tr} {w : World} {sv : Value} (hx : TrV F w x sv) :
    Calls Tryz.prog 43 #[.agg #[.int .i8 x.k, .int .i64 x.n, .string x.s, .string x.t, sv]] w fun e w' => e = .returned (.int .i64 (x.sz 257)) ∧ Below w.heap.size w w' := by
  obtain ⟨p, c, rfl⟩ := hx.kids.slice
  have cK := fun W hb => size_any x W _ 257 (hx.below (w' := W) hb) (by omega) (by omega)
  have hb := sz_bound x 257 (by omega)
  clear hx
  generalize x.sz 257 = q at cK hb
  go_enter Tryz.func43, Tryz.ntmps43
  go_wp2_with (go_at_call 21; refine (cK _ (alloc_below _ _)).mono ?_; rintro e w2 ⟨rfl, hb2⟩)
  go_ret
  exact ⟨ret_i64 (by first | rfl | omega | (split <;> omega)), (alloc_below _ _).trans (hb2.mono (by simp))⟩
end Go.Proofs.YtjnmdbfijdnaiaaGreatDoor
