/-
  May a term be: pleachref03.count, Check, Size. Conditions: the term lies as 'TrV' says.
  term.Size and its closure; term.Check and its closure. Conditions: the term lies as 'TrV' says.
  term.Check and its closure. Conditions: the term lies as 'TrV' says.
  term.Check; pleachref03.Same. Conditions: the terms lie as 'TrV' says.
-/
import Derived.Test.YtlhobpknflobgaaGreatDoorS04
import Derived.Laws.EntriesVeiled
import Derived.OneCell
import Derived.Deep.RegionHeld3
namespace Go.Proofs.YtlhobpknflobgaaGreatDoor
open Go.RowKit

/-- w' is w but for the blocks of T, and for new blocks. -/
structure Turn (T : Nat → Prop) (w w' : World) : Prop where
  os : w'.os = w.os
  tape : w'.tape = w.tape
  output : w'.output = w.output
  size : w.heap.size ≤ w'.heap.size
  block : ∀ k, k < w.heap.size → ¬ T k → w'.heap[k]? = w.heap[k]?

theorem Turn.refl (T : Nat → Prop) (w : World) : Turn T w w := ⟨rfl, rfl, rfl, Nat.le_refl _, fun _ _ _ => rfl⟩
theorem Turn.trans {T : Nat → Prop} {a b c : World} (h : Turn T a b) (k : Turn T b c) : Turn T a c :=
  ⟨k.os.trans h.os, k.tape.trans h.tape, k.output.trans h.output, Nat.le_trans h.size k.size, fun i hi hT => (k.block i (Nat.lt_of_lt_of_le hi h.size) hT).trans (h.block i hi hT)⟩
theorem Turn.mono {T T' : Nat → Prop} {a b : World} (h : Turn T a b) (hT : ∀ k, k < a.heap.size → T k → T' k) : Turn T' a b :=
  ⟨h.os, h.tape, h.output, h.size, fun i hi hn => h.block i hi fun ht => hn (hT i hi ht)⟩
theorem Turn.of_below {T : Nat → Prop} {w w' : World} (h : Below w.heap.size w w') : Turn T w w' := ⟨h.os, h.tape, h.output, h.size, fun k hk _ => h.block k hk⟩
theorem Turn.setCell (w : World) (p : Addr) (u : Value) : Turn (· = p.block) w (w.setCell p u) :=
  ⟨rfl, rfl, rfl, by simp [World.setCell], fun k _ hne => Below.heap_setCell _ _ _ _ hne⟩
theorem Turn.alloc (T : Nat → Prop) (w : World) (o : Obj) : Turn T w (w.alloc o) := Turn.of_below ((Below.refl _ w).alloc (Nat.le_refl _) o)
theorem Turn.below {T : Nat → Prop} {w w' : World} (h : Turn T w w') {B : Nat} (hB : B ≤ w.heap.size) (hT : ∀ k, k < B → ¬ T k) : Below B w w' :=
  ⟨h.os, h.tape, h.output, h.size, fun k hk => h.block k (Nat.lt_of_lt_of_le hk hB) (hT k hk)⟩
theorem Turn.cell {T : Nat → Prop} {w w' : World} (h : Turn T w w') {g o : Nat} {v : Value} (hc : w.cell? ⟨g, o, none⟩ = some v) (hT : ¬ T g) : w'.cell? ⟨g, o, none⟩ = some v :=
  (World.cell?_of_block (a := ⟨g, o, none⟩) (h.block g (cell_block hc) hT)).trans hc
theorem Kids.turn {F : Nat → Prop} {w w' : World} {v : Value} {l : List Tr} (h : Kids F w v l) {T : Nat → Prop} (ht : Turn T w w') (hT : ∀ g, F g → ¬ T g) : Kids F w' v l := h.keep fun g hg hlt => ht.block g hlt (hT g hg)
theorem TrV.turn {F : Nat → Prop} {w w' : World} {x : Tr} {v : Value} (h : TrV F w x v) {T : Nat → Prop} (ht : Turn T w w') (hT : ∀ g, F g → ¬ T g) : TrV F w' x v := ⟨h.wf, h.kids.turn ht hT⟩
theorem NodeAt.turn {w w' : World} {g o : Nat} {x : Tr} {sv : Value} (h : NodeAt w g o x sv) {T : Nat → Prop} (ht : Turn T w w') (hT : ¬ T g) : NodeAt w' g o x sv := h.keep (ht.block g h.lt hT)

/-- How many nodes a term has, at most so many; and whether all of these may be. -/
def Tr.cnt : Tr → Int → Int × Bool
  | .mk k n s t l, m => if oneB (.mk k n s t l) then cntl l m 1 else (1, false)
where cntl : List Tr → Int → Int → Int × Bool
  | [], _, n => (n, true)
  | x :: r, m, n => if m ≤ n then (n, true) else if (x.cnt (m - n)).2 then cntl r m (n + (x.cnt (m - n)).1) else (n, false)
theorem cnt_eq (x : Tr) (m : Int) : x.cnt m = if oneB x then Tr.cnt.cntl x.l m 1 else (1, false) := by cases x; rfl
theorem cntl_stop (l : List Tr) {m n : Int} (h : m ≤ n) : Tr.cnt.cntl l m n = (n, true) := by
  cases l with
  | nil => rfl
  | cons x r => rw [Tr.cnt.cntl, if_pos h]
theorem cntl_take {l : List Tr} {k : Nat} {m a : Int} (hk : k < l.length) (ha : a < m) : Tr.cnt.cntl (l.drop k) m a = if (l[k].cnt (m - a)).2 then Tr.cnt.cntl (l.drop (k + 1)) m (a + (l[k].cnt (m - a)).1) else (a, false) := by
  rw [List.drop_eq_getElem_cons hk, Tr.cnt.cntl, if_neg (by omega)]
theorem cnt_bound (x : Tr) : ∀ m : Int, 1 ≤ m → 1 ≤ (x.cnt m).1 ∧ (x.cnt m).1 ≤ m := by
  induction x using Tr.ind with
  | h x ih =>
    intro m hm
    rw [cnt_eq]
    have key : ∀ (r : List Tr), (∀ y ∈ r, y ∈ x.l) → ∀ a : Int, 1 ≤ a → a ≤ m → a ≤ (Tr.cnt.cntl r m a).1 ∧ (Tr.cnt.cntl r m a).1 ≤ m := by
      intro r
      induction r with
      | nil => exact fun _ a _ h => ⟨Int.le_refl _, h⟩
      | cons y r ihr =>
        intro hr a h1 h2
        rw [Tr.cnt.cntl]
        split
        · exact ⟨Int.le_refl _, h2⟩
        · split
          · have h3 := ih y (hr y (by simp)) (m - a) (by omega)
            have h4 := ihr (fun z hz => hr z (List.mem_cons_of_mem _ hz)) (a + (y.cnt (m - a)).1) (by omega) (by omega)
            omega
          · exact ⟨Int.le_refl _, h2⟩
    split
    · exact key x.l (fun _ h => h) 1 (Int.le_refl _) hm
    · exact ⟨Int.le_refl _, hm⟩

def CntRel (x : Tr) (m : Int) (w1 : World) (n i : Value) (wr : World) : Prop :=
  ∃ k : Nat, k ≤ x.l.length ∧ i = .int .i64 k ∧ ∃ a : Int, n = .int .i64 a ∧ 1 ≤ a ∧ a ≤ m ∧ Tr.cnt.cntl (x.l.drop k) m a = x.cnt m ∧ Below w1.heap.size w1 wr

theorem ret_pair {a a' : Int} {b b' : Bool} (h : (a, b) = (a', b')) : Ending.returned (.tuple #[.int .i64 a, .bool b]) = .returned (.tuple #[.int .i64 a', .bool b']) := by cases h; rfl

set_option maxHeartbeats 1000000 in
set_option maxRecDepth 100000 in
theorem count_any {F : Nat → Prop} (x : Tr) : ∀ (w : World) (sv : Value) (m : Int), TrV F w x sv → 1 ≤ m → m ≤ 1099511627776 →
    Calls Tryz.prog 49 #[.agg #[.int .i8 x.k, .int .i64 x.n, .string x.s, .string x.t, sv], .int .i64 m] w fun e w' => e = .returned (.tuple #[.int .i64 (x.cnt m).1, .bool (x.cnt m).2]) ∧ Below w.heap.size w w' := by
  induction x using Tr.ind with
  | h x ih =>
    intro w sv m hx hm hm2
    obtain ⟨p, c, rfl⟩ := hx.kids.slice
    obtain ⟨hb1, hz1, hn1⟩ := node_box w 29 x.k x.n x.s x.t (.slice p x.l.length c)
    have hx1 := hx.below hb1
    have hlen := hx.kids.len
    have hlen' : x.l.length ≤ 2199023255552 := hlen
    have h4 := hn1.l
    have cO := fun W => rone_any W x p c hx.wf
    have hrel0 := cnt_eq x m
    have IH := Lib.hid ih
    clear hn1 ih hx hlen
    cases ho : oneB x
    · rw [ho] at cO hrel0
      have HR := Lib.hid hrel0
      clear hrel0 ho
      go_enter Tryz.func49, Tryz.ntmps49
      go_wp2_with (go_at_call 91; refine (cO _).mono ?_; rintro e w2 ⟨rfl, hb2⟩)
      go_ret2
      exact ⟨by rw [HR.out]; rfl, hb1.trans (hb2.mono hb1.size)⟩
    rw [ho, if_pos rfl] at hrel0
    rw [ho] at cO
    have HR := Lib.hid hrel0
    clear hrel0 ho
    go_enter Tryz.func49, Tryz.ntmps49
    go_wp2_with (go_at_call 91; refine (cO _).mono ?_; rintro e w2 ⟨rfl, hb2⟩)
    have h4 := (hb2.cell (p := ⟨w.heap.size, 0 + 4, none⟩) (by show w.heap.size < _; omega)).trans h4
    have hx2 := hx1.below hb2
    have hb3 := hb1.trans (hb2.mono hb1.size)
    have hz3 : w.heap.size < w2.heap.size := by have := hb2.size; omega
    clear hb1 hb2 hx1 hz1
    go_loopw [6, 7] (fun n i wr => CntRel x m w2 n i wr) (fun _ i _ => x.l.length - (intOf i).toNat)
    case atStart => exact ⟨0, Nat.zero_le _, rfl, 1, rfl, Int.le_refl _, hm, HR.out.symm, Below.refl _ _⟩
    case round =>
      obtain ⟨k, hk, rfl, a, rfl, ha1, ha2, hrest, hbr⟩ := hrel
      have hxr := hx2.below hbr
      have hbw := hb3.trans (hbr.mono hb3.size)
      have h4r := (hbr.cell (p := ⟨w.heap.size, 0 + 4, none⟩) hz3).trans h4
      simp only [Nat.zero_add] at h4r
      by_cases hlt : k < x.l.length
      · by_cases ham : a < m
        · obtain ⟨g, o, kv, rfl, hg, hnode, hkid⟩ := hxr.kids.at hlt
          have cK := fun W hb => IH.out x.l[k] (List.getElem_mem hlt) W kv (m - a) (hkid.below (w' := W) hb) (by omega) (by omega)
          have hszk := cnt_bound x.l[k] (m - a) (by omega)
          have hnext := cntl_take hlt ham
          obtain ⟨e0, e1, e2, e3, e4⟩ := hnode
          generalize x.l[k] = y at *
          rw [hrest] at hnext
          generalize y.cnt (m - a) = q at *
          obtain ⟨qn, qb⟩ := q
          simp only at hnext hszk
          have HN := Lib.hid hnext
          clear hnext hrest hkid hxr h4 hx2
          cases qb
          · go_wp2_with (go_at_call 49; refine (cK _ (Below.refl _ _)).mono ?_; rintro e w3 ⟨rfl, hb3⟩)
            go_ret2
            exact ⟨by rw [HN.out]; rfl, hbw.trans (hb3.mono hbw.size)⟩
          · go_wp2_with (go_at_call 49; refine (cK _ (Below.refl _ _)).mono ?_; rintro e w3 ⟨rfl, hb3⟩)
            go_roundw
            case rel => exact ⟨k + 1, hlt, by go_num, _, rfl, by omega, by omega, by rw [HN.out]; rfl, hbr.trans (hb3.mono hbr.size)⟩
            case measure => simp [intOf]; omega
        · rw [cntl_stop _ (by omega)] at hrest
          have HN := Lib.hid hrest
          clear hrest h4 hx2 hxr
          go_wp2
          go_ret2
          exact ⟨by rw [← HN.out]; rfl, hbw⟩
      · rw [List.drop_eq_nil_of_le (by omega), Tr.cnt.cntl] at hrest
        have HN := Lib.hid hrest
        clear hrest h4 hx2 hxr
        go_wp2
        go_ret2
        exact ⟨by rw [← HN.out]; rfl, hbw⟩

/-- A check's answer. -/
def chkT (x : Tr) : Int := if (x.cnt 257).2 then (if 256 < (x.cnt 257).1 then 11 else 0) else 30
set_option maxHeartbeats 1000000 in
theorem rcheck_any {F : Nat → Prop} {x : Tr} {w : World} {sv : Value} (hx : TrV F w x sv) :
    Calls Tryz.prog 13 #[.agg #[.int .i8 x.k, .int .i64 x.n, .string x.s, .string x.t, sv]] w fun e w' => e = .returned (.int .i64 (chkT x)) ∧ Below w.heap.size w w' := by
  obtain ⟨p, c, rfl⟩ := hx.kids.slice
  have cK := fun W hb => count_any x W _ 257 (hx.below (w' := W) hb) (by omega) (by omega)
  clear hx
  unfold chkT
  generalize x.cnt 257 = q at cK
  obtain ⟨qn, qb⟩ := q
  simp only at cK
  cases qb
  · go_enter Tryz.func13, Tryz.ntmps13
    go_wp2_with (go_at_call 49; refine (cK _ (alloc_below _ _)).mono ?_; rintro e w2 ⟨rfl, hb2⟩)
    go_ret
    exact ⟨rfl, (alloc_below _ _).trans (hb2.mono (by simp))⟩
  · by_cases h : 256 < qn
    all_goals
      go_enter Tryz.func13, Tryz.ntmps13
      go_wp2_with (go_at_call 49; refine (cK _ (alloc_below _ _)).mono ?_; rintro e w2 ⟨rfl, hb2⟩)
      go_ret
      exact ⟨ret_i64 (by simp only), (alloc_below _ _).trans (hb2.mono (by simp))⟩
set_option maxHeartbeats 1000000 in
theorem rsize_any {F : Nat → Prop} {x : Tr} {w : World} {sv : Value} (hx : TrV F w x sv) :
    Calls Tryz.prog 195 #[.agg #[.int .i8 x.k, .int .i64 x.n, .string x.s, .string x.t, sv]] w fun e w' => e = .returned (.int .i64 (x.sz 257)) ∧ Below w.heap.size w w' := by
  obtain ⟨p, c, rfl⟩ := hx.kids.slice
  have cK := fun W hb => size_any x W _ 257 (hx.below (w' := W) hb) (by omega) (by omega)
  have hb := sz_bound x 257 (by omega)
  clear hx
  generalize x.sz 257 = q at cK hb
  go_enter Tryz.func195, Tryz.ntmps195
  go_wp2_with (go_at_call 85; refine (cK _ (alloc_below _ _)).mono ?_; rintro e w2 ⟨rfl, hb2⟩)
  go_ret
  exact ⟨ret_i64 (by first | rfl | omega | (split <;> omega)), (alloc_below _ _).trans (hb2.mono (by simp))⟩
end Go.Proofs.YtlhobpknflobgaaGreatDoor
namespace Go.Proofs.YtlhobpknflobgaaGreatDoor
open Go.RowKit

theorem one_set {w : World} {b : Nat} {v u : Value} {T : TypeId} (h : w.heap[b]? = some (.cells #[v] T (0, 0))) : (w.setCell ⟨b, 0, none⟩ u).heap[b]? = some (.cells #[u] T (0, 0)) := by
  simp only [World.setCell, Array.getElem?_modify, if_true, h]; rfl
theorem one_cell {w : World} {b : Nat} {v : Value} {T : TypeId} (h : w.heap[b]? = some (.cells #[v] T (0, 0))) : w.cell? ⟨b, 0, none⟩ = some v := by simp [World.cell?, h]
theorem one_free {w : World} {b : Nat} {v : Value} {T : TypeId} (h : w.heap[b]? = some (.cells #[v] T (0, 0))) : w.frozen? ⟨b, 0, none⟩ = false := by simp [World.frozen?, h]

theorem heap_new (w : World) (o : Obj) : (w.alloc o).heap[w.heap.size]? = some o := (MapKept.heap_alloc w o).1
theorem heap_old (w : World) (o : Obj) {i : Nat} (h : i < w.heap.size) : (w.alloc o).heap[i]? = w.heap[i]? := Below.heap_alloc _ _ _ h
theorem three_new (w : World) (o1 o2 o3 : Obj) : (((w.alloc o1).alloc o2).alloc o3).heap[w.heap.size]? = some o1 ∧ (((w.alloc o1).alloc o2).alloc o3).heap[w.heap.size + 1]? = some o2 ∧ (((w.alloc o1).alloc o2).alloc o3).heap[w.heap.size + 1 + 1]? = some o3 ∧
    Below w.heap.size w (((w.alloc o1).alloc o2).alloc o3) ∧ (((w.alloc o1).alloc o2).alloc o3).heap.size = w.heap.size + 3 := by
  have e1 : (w.alloc o1).heap.size = w.heap.size + 1 := by simp
  have e2 : ((w.alloc o1).alloc o2).heap.size = w.heap.size + 1 + 1 := by simp
  refine ⟨?_, ?_, ?_, (((Below.refl _ _).alloc (Nat.le_refl _) _).alloc (by simp) _).alloc (by simp; omega) _, by simp⟩
  · rw [heap_old _ _ (by omega), heap_old _ _ (by omega), heap_new]
  · rw [heap_old _ _ (by omega), ← e1, heap_new]
  · rw [← e2, heap_new]
theorem four_new (w : World) (o1 o2 o3 o4 : Obj) : ((((w.alloc o1).alloc o2).alloc o3).alloc o4).heap[w.heap.size]? = some o1 ∧ ((((w.alloc o1).alloc o2).alloc o3).alloc o4).heap[w.heap.size + 1]? = some o2 ∧ ((((w.alloc o1).alloc o2).alloc o3).alloc o4).heap[w.heap.size + 1 + 1]? = some o3 ∧ ((((w.alloc o1).alloc o2).alloc o3).alloc o4).heap[w.heap.size + 1 + 1 + 1]? = some o4 ∧
    Below w.heap.size w ((((w.alloc o1).alloc o2).alloc o3).alloc o4) ∧ ((((w.alloc o1).alloc o2).alloc o3).alloc o4).heap.size = w.heap.size + 4 := by
  obtain ⟨h1, h2, h3, hb, hs⟩ := three_new w o1 o2 o3
  have e3 : (((w.alloc o1).alloc o2).alloc o3).heap.size = w.heap.size + 1 + 1 + 1 := by simp
  refine ⟨?_, ?_, ?_, ?_, hb.alloc (by omega) _, by simp⟩
  · rw [heap_old _ _ (by omega), h1]
  · rw [heap_old _ _ (by omega), h2]
  · rw [heap_old _ _ (by omega), h3]
  · rw [← e3, heap_new]
theorem node_heap {w : World} {b : Nat} {x : Tr} {sv : Value} {T : TypeId} (h : w.heap[b]? = some (.cells #[.int .i8 x.k, .int .i64 x.n, .string x.s, .string x.t, sv] T (0, 0))) : NodeAt w b 0 x sv := by
  constructor <;> simp [World.cell?, h]

set_option maxHeartbeats 2000000 in
set_option maxRecDepth 100000 in
theorem sizeC_any {F : Nat → Prop} {bn bw : Nat} (hF : ∀ k, F k → k ≠ bn) (hne : bw ≠ bn) (x : Tr) : ∀ (W : World) (g o : Nat) (sv : Value) (a : Int), NodeAt W g o x sv → g ≠ bn → TrV F W x sv →
    W.heap[bn]? = some (.cells #[.int .i64 a] 3 (0, 0)) → W.cell? ⟨bw, 0, none⟩ = some (.func (Fn.func 211) #[] #[.pointer (some ⟨bn, 0, none⟩), .pointer (some ⟨bw, 0, none⟩)]) → 0 ≤ a → a ≤ 256 →
    Calls Tryz.prog 211 #[.pointer (some ⟨g, o, none⟩), .pointer (some ⟨bn, 0, none⟩), .pointer (some ⟨bw, 0, none⟩)] W fun e w' => e = .returned (.tuple #[]) ∧ w'.heap[bn]? = some (.cells #[.int .i64 (a + x.sz (257 - a))] 3 (0, 0)) ∧ Turn (· = bn) W w' := by
  induction x using Tr.ind with
  | h x ih =>
    intro W g o sv a hnode hgn hx hbn hbw ha0 ha1
    obtain ⟨p, c, rfl⟩ := hx.kids.slice
    have hlen : x.l.length ≤ 2199023255552 := hx.kids.len
    have hrel0 : x.sz (257 - a) = Tr.sz.szl x.l (257 - a) 1 := by cases x; rfl
    have h4 := hnode.l
    have hcn := one_cell hbn
    have hfn := one_free hbn
    have ht1 := Turn.setCell W ⟨bn, 0, none⟩ (.int .i64 (a + 1))
    have hbn1 := one_set (u := .int .i64 (a + 1)) hbn
    have h41 := ht1.cell h4 hgn
    have hbw1 := ht1.cell hbw hne
    have hx1 := hx.turn ht1 hF
    have IH := Lib.hid ih
    have HR := Lib.hid hrel0
    clear ih hrel0 hx hnode hbn
    go_enter Tryz.func211, Tryz.ntmps211
    go_wp2_with fail
    generalize W.setCell ⟨bn, 0, none⟩ (.int .i64 (a + 1)) = w1 at ht1 hbn1 h41 hbw1 hx1 ⊢
    clear h4 hcn hfn hbw
    go_loopw [12] (fun i wr => ∃ k : Nat, k ≤ x.l.length ∧ i = .int .i64 k ∧ ∃ s : Int, 1 ≤ s ∧ s ≤ 257 - a ∧ wr.heap[bn]? = some (.cells #[.int .i64 (a + s)] 3 (0, 0)) ∧ Tr.sz.szl (x.l.drop k) (257 - a) s = x.sz (257 - a) ∧ Turn (· = bn) w1 wr) (fun i _ => x.l.length - (intOf i).toNat)
    case atStart => exact ⟨0, Nat.zero_le _, rfl, 1, by omega, by omega, hbn1, HR.out.symm, Turn.refl _ _⟩
    case round =>
      obtain ⟨k, hk, rfl, s, hs1, hs2, hbr, hrest, htr⟩ := hrel
      have htw := ht1.trans htr
      have hxr := hx1.turn htr hF
      have h4r := htr.cell h41 hgn
      have hbwr := htr.cell hbw1 hne
      by_cases hlt : k < x.l.length
      · have hcr := one_cell hbr
        by_cases hms : a + s ≤ 256
        · obtain ⟨g2, o2, kv, rfl, hg2, hnode2, hkid⟩ := hxr.kids.at hlt
          have hg2n : g2 ≠ bn := hF g2 hg2
          have hszk := sz_bound x.l[k] (257 - a - s) (by omega)
          have hnext := szl_take hlt (show s < 257 - a by omega)
          have htd : Turn (· = bn) wr (wr.drewN 1) := Turn.of_below (below_drewN (Below.refl _ _) 1)
          have hbd : (wr.drewN 1).heap[bn]? = some (.cells #[.int .i64 (a + s)] 3 (0, 0)) := hbr
          have cK := IH.out x.l[k] (List.getElem_mem hlt) (wr.drewN 1) g2 (o2 + k * 5) kv (a + s) (hnode2.turn htd hg2n) hg2n (hkid.turn htd hF) hbd (htd.cell hbwr hne) (by omega) (by omega)
          rw [show (257 : Int) - (a + s) = 257 - a - s from by omega] at cK
          generalize x.l[k] = y at *
          have HN := Lib.hid (hnext.symm.trans hrest)
          clear hnext hrest hkid hxr hnode2 hx1 hbd
          go_wp2
          go_still_tail 7, (by kernel_rfl)
          change wpList _ _ _ _ _ (wr.drewN 1)
          generalize wr.drewN 1 = w4 at htd cK ⊢
          go_wp2_with (go_at_call 211; refine cK.mono ?_; rintro e w5 ⟨rfl, hb5, ht5⟩)
          go_roundw
          case rel => exact ⟨k + 1, hlt, by go_num, s + y.sz (257 - a - s), by omega, by omega, by rw [← Int.add_assoc]; exact hb5, HN.out, (htr.trans htd).trans ht5⟩
          case measure => simp [intOf]; omega
        · rw [szl_stop _ (by omega)] at hrest
          clear hxr hx1 HR
          have HN := Lib.hid hrest
          clear hrest
          have hms2 : 256 < a + s := by omega
          clear hms
          go_wp2
          refine bodyPost_ret (v := .tuple #[]) (by simp [results, Tryz.results211]) rfl ?_
          exact ⟨rfl, by rw [← HN.out]; exact hbr, htw⟩
      · rw [List.drop_eq_nil_of_le (by omega), Tr.sz.szl] at hrest
        subst hrest
        clear hxr hx1
        go_wp2
        go_end0
        exact ⟨rfl, hbr, htw⟩

set_option maxHeartbeats 1000000 in
set_option maxRecDepth 100000 in
theorem tsize_any {F : Nat → Prop} {x : Tr} {w : World} {sv : Value} (hx : TrV F w x sv) :
    Calls Tryz.prog 187 #[.agg #[.int .i8 x.k, .int .i64 x.n, .string x.s, .string x.t, sv]] w fun e w' => e = .returned (.int .i64 (x.sz 257)) ∧ Below w.heap.size w w' := by
  obtain ⟨p, c, rfl⟩ := hx.kids.slice
  have hx0 : TrV (fun k => k < w.heap.size) w x (.slice p x.l.length c) := ⟨hx.wf, hx.kids.mono fun _ _ h => h⟩
  have hsz := sz_bound x 257 (by omega)
  clear hx
  go_enter Tryz.func187, Tryz.ntmps187
  go_wp2_with fail
  obtain ⟨n1, n2, n3, hb, hs⟩ := three_new w (.cells #[.int .i8 x.k, .int .i64 x.n, .string x.s, .string x.t, .slice p x.l.length c] 29) (.cells #[.int .i64 0] 3) (.cells #[.func (Fn.func 211) #[] #[.pointer (some ⟨w.heap.size + 1, 0, none⟩), .pointer (some ⟨w.heap.size + 1 + 1, 0, none⟩)]] 130)
  generalize ((w.alloc (.cells #[.int .i8 x.k, .int .i64 x.n, .string x.s, .string x.t, .slice p x.l.length c] 29)).alloc (.cells #[.int .i64 0] 3)).alloc (.cells #[.func (Fn.func 211) #[] #[.pointer (some ⟨w.heap.size + 1, 0, none⟩), .pointer (some ⟨w.heap.size + 1 + 1, 0, none⟩)]] 130) = w3 at n1 n2 n3 hb hs ⊢
  refine (sizeC_any (F := fun k => k < w.heap.size) (bn := w.heap.size + 1) (bw := w.heap.size + 1 + 1) (fun k hk => by omega) (by omega) x w3 w.heap.size 0 _ 0 (node_heap n1) (by omega) (hx0.below hb) n2 (one_cell n3) (by omega) (by omega)).mono ?_
  rintro e w5 ⟨rfl, hb5, ht5⟩
  rw [show (0 : Int) + x.sz (257 - 0) = x.sz 257 from by simp] at hb5
  have hc5 := one_cell hb5
  have hB := hb.trans (ht5.below (B := w.heap.size) (by omega) fun k hk e => by omega)
  go_wp2
  go_ret
  exact ⟨rfl, hB⟩
end Go.Proofs.YtlhobpknflobgaaGreatDoor
namespace Go.Proofs.YtlhobpknflobgaaGreatDoor
open Go.RowKit

theorem Letters.turn {w w' : World} (h : Letters w) {T : Nat → Prop} (ht : Turn T w w') (hT : ¬ T 0) : Letters w' :=
  ⟨ht.cell h.c0 hT, ht.cell h.c1 hT, ht.cell h.c2 hT, ht.cell h.c3 hT, ht.cell h.c4 hT, ht.cell h.c5 hT, ht.cell h.c6 hT, ht.cell h.c7 hT⟩

/-- What the two counters hold behind a part. -/
structure CkPost (bn bo : Nat) (a : Int) (q : Int × Bool) (w w' : World) : Prop where
  n : ∃ n' : Int, w'.heap[bn]? = some (.cells #[.int .i64 n'] 3 (0, 0)) ∧ (q.2 = true → n' = a + q.1)
  ok : w'.heap[bo]? = some (.cells #[.bool q.2] 4 (0, 0))
  turn : Turn (fun k => k = bn ∨ k = bo) w w'
/-- What holds at the loop's head. -/
def CkSt (x : Tr) (a : Int) (k : Nat) (b : Bool) (n' : Int) : Prop :=
  if b then ∃ s : Int, n' = a + s ∧ 1 ≤ s ∧ s ≤ 257 - a ∧ Tr.cnt.cntl (x.l.drop k) (257 - a) s = x.cnt (257 - a) else (x.cnt (257 - a)).2 = false

theorem ckPost_of {bn bo : Nat} {a n' : Int} {q : Int × Bool} {w w' : World} {b : Bool} (h1 : w'.heap[bn]? = some (.cells #[.int .i64 n'] 3 (0, 0))) (h2 : w'.heap[bo]? = some (.cells #[.bool b] 4 (0, 0))) (hb : q.2 = b) (hn : b = true → n' = a + q.1) (ht : Turn (fun k => k = bn ∨ k = bo) w w') : CkPost bn bo a q w w' := by
  subst hb
  exact ⟨⟨n', h1, hn⟩, h2, ht⟩

set_option maxHeartbeats 4000000 in
set_option maxRecDepth 100000 in
theorem checkC_any {F : Nat → Prop} {bn bo bw : Nat} (hF : ∀ k, F k → ¬ (k = bn ∨ k = bo)) (hw : ¬ (bw = bn ∨ bw = bo)) (hno : bo ≠ bn) (h0 : ¬ (0 = bn ∨ 0 = bo)) (x : Tr) : ∀ (W : World) (g o : Nat) (sv : Value) (a : Int), Letters W → NodeAt W g o x sv → ¬ (g = bn ∨ g = bo) → TrV F W x sv →
    W.heap[bn]? = some (.cells #[.int .i64 a] 3 (0, 0)) → W.heap[bo]? = some (.cells #[.bool true] 4 (0, 0)) → W.cell? ⟨bw, 0, none⟩ = some (.func (Fn.func 124) #[] #[.pointer (some ⟨bn, 0, none⟩), .pointer (some ⟨bo, 0, none⟩), .pointer (some ⟨bw, 0, none⟩)]) → 0 ≤ a → a ≤ 256 →
    Calls Tryz.prog 124 #[.pointer (some ⟨g, o, none⟩), .pointer (some ⟨bn, 0, none⟩), .pointer (some ⟨bo, 0, none⟩), .pointer (some ⟨bw, 0, none⟩)] W fun e w' => e = .returned (.tuple #[]) ∧ CkPost bn bo a (x.cnt (257 - a)) W w' := by
  induction x using Tr.ind with
  | h x ih =>
    intro W g o sv a hL hnode hgn hx hbn hbo hbw ha0 ha1
    obtain ⟨p, c, rfl⟩ := hx.kids.slice
    have hlen : x.l.length ≤ 2199023255552 := hx.kids.len
    have hrel0 := cnt_eq x (257 - a)
    have hcn := one_cell hbn
    have hfn := one_free hbn
    have hco := one_cell hbo
    have ht1 : Turn (fun k => k = bn ∨ k = bo) W (W.setCell ⟨bn, 0, none⟩ (.int .i64 (a + 1))) := (Turn.setCell W ⟨bn, 0, none⟩ (.int .i64 (a + 1))).mono fun k _ e => .inl e
    have hbn1 := one_set (u := .int .i64 (a + 1)) hbn
    have hbo1 : (W.setCell ⟨bn, 0, none⟩ (.int .i64 (a + 1))).heap[bo]? = some (.cells #[.bool true] 4 (0, 0)) := (Below.heap_setCell _ _ _ _ hno).trans hbo
    have hL1 := hL.turn ht1 h0
    have hnode1 := hnode.turn ht1 hgn
    have hbw1 := ht1.cell hbw hw
    have hx1 := hx.turn ht1 hF
    have IH := Lib.hid ih
    have HR := Lib.hid hrel0
    have cO := one_any hL1 hnode1 hx.wf hlen
    clear ih hrel0 hx hnode hbn hbo hL hbw
    go_enter Tryz.func124, Tryz.ntmps124
    go_wp2_with fail
    have hco1 := one_cell hbo1
    generalize W.setCell ⟨bn, 0, none⟩ (.int .i64 (a + 1)) = w1 at ht1 hbn1 hbo1 hL1 hbw1 hx1 cO hnode1 hco1 ⊢
    clear hcn hfn hco
    refine cO.mono ?_
    rintro e w2 ⟨rfl, hb2⟩
    have hT2 : Turn (fun k => k = bn ∨ k = bo) w1 w2 := Turn.of_below hb2
    have hbn2 : w2.heap[bn]? = _ := (hb2.block bn (cell_block (one_cell hbn1))).trans hbn1
    have hbo2 : w2.heap[bo]? = _ := (hb2.block bo (cell_block hco1)).trans hbo1
    have hco2 := one_cell hbo2
    have hfo2 := one_free hbo2
    have ht3 : Turn (fun k => k = bn ∨ k = bo) w2 (w2.setCell ⟨bo, 0, none⟩ (.bool (oneB x))) := (Turn.setCell w2 ⟨bo, 0, none⟩ (.bool (oneB x))).mono fun k _ e => .inr e
    have hbo3 := one_set (u := .bool (oneB x)) hbo2
    have hbn3 : (w2.setCell ⟨bo, 0, none⟩ (.bool (oneB x))).heap[bn]? = some (.cells #[.int .i64 (a + 1)] 3 (0, 0)) := (Below.heap_setCell _ _ _ _ (Ne.symm hno)).trans hbn2
    have htw := (ht1.trans hT2).trans ht3
    have hL3 := (hL1.turn hT2 h0).turn ht3 h0
    have h43 := ((hnode1.turn hT2 hgn).turn ht3 hgn).l
    have hbw3 := ht3.cell (hT2.cell hbw1 hw) hw
    have hx3 := (hx1.turn hT2 hF).turn ht3 hF
    clear ht1 hT2 ht3 hbn1 hbo1 hL1 hbw1 hx1 cO hnode1 hco1 hbn2 hbo2 hb2
    go_wp2_with fail
    generalize w2.setCell ⟨bo, 0, none⟩ (.bool (oneB x)) = w3 at hbo3 hbn3 htw hL3 h43 hbw3 hx3 ⊢
    clear hco2 hfo2
    have hst0 : CkSt x a 0 (oneB x) (a + 1) := by
      unfold CkSt
      have hr := HR.out
      cases ho : oneB x
      · rw [ho] at hr; rw [if_neg (by simp), hr]; rfl
      · rw [ho] at hr; rw [if_pos rfl]; exact ⟨1, rfl, by omega, by omega, by rw [hr, if_pos rfl]; rfl⟩
    generalize oneB x = ob at hbo3 hst0
    go_loopw [18] (fun i wr => ∃ k : Nat, k ≤ x.l.length ∧ i = .int .i64 k ∧ ∃ (b : Bool) (n' : Int), wr.heap[bn]? = some (.cells #[.int .i64 n'] 3 (0, 0)) ∧ wr.heap[bo]? = some (.cells #[.bool b] 4 (0, 0)) ∧ CkSt x a k b n' ∧ Turn (fun k => k = bn ∨ k = bo) w3 wr) (fun i _ => x.l.length - (intOf i).toNat)
    case atStart => exact ⟨0, Nat.zero_le _, rfl, ob, a + 1, hbn3, hbo3, hst0, Turn.refl _ _⟩
    case round =>
      obtain ⟨k, hk, rfl, b, n', hbnr, hbor, hst, htr⟩ := hrel
      have htwr := htw.trans htr
      have hxr := hx3.turn htr hF
      have hLr := hL3.turn htr h0
      have h4r := htr.cell h43 hgn
      have hbwr := htr.cell hbw3 hw
      have hcor := one_cell hbor
      have hcnr := one_cell hbnr
      clear hbo3 hbn3 hst0 hx3 h43 hbw3 hL3
      by_cases hlt : k < x.l.length
      · cases b
        · -- a part may not be: the closure ends
          have hend := ckPost_of (a := a) (q := x.cnt (257 - a)) hbnr hbor hst (fun h => by cases h) htwr
          have HE := Lib.hid hend
          clear hend hst hbnr hbor hxr hLr hbwr
          by_cases h256 : 256 < n'
          all_goals
            go_wp2
            refine bodyPost_ret (v := .tuple #[]) (by simp [results, Tryz.results124]) rfl ?_
            exact ⟨rfl, HE.out⟩
        · obtain ⟨s, rfl, hs1, hs2, hrest⟩ : ∃ s : Int, n' = a + s ∧ 1 ≤ s ∧ s ≤ 257 - a ∧ Tr.cnt.cntl (x.l.drop k) (257 - a) s = x.cnt (257 - a) := hst
          by_cases h256 : 256 < a + s
          · rw [cntl_stop _ (by omega)] at hrest
            have hend := ckPost_of (a := a) (q := x.cnt (257 - a)) hbnr hbor (by rw [← hrest]) (fun _ => by rw [← hrest]) htwr
            have HE := Lib.hid hend
            clear hend hrest hbnr hbor hxr hLr hbwr
            go_wp2
            refine bodyPost_ret (v := .tuple #[]) (by simp [results, Tryz.results124]) rfl ?_
            exact ⟨rfl, HE.out⟩
          · obtain ⟨g2, o2, kv, rfl, hg2, hnode2, hkid⟩ := hxr.kids.at hlt
            have hg2n := hF g2 hg2
            have hqb := cnt_bound x.l[k] (257 - a - s) (by omega)
            have hnext := cntl_take hlt (show s < 257 - a by omega)
            have htd : Turn (fun k => k = bn ∨ k = bo) wr (wr.drewN 1) := Turn.of_below (below_drewN (Below.refl _ _) 1)
            have hbd : (wr.drewN 1).heap[bn]? = some (.cells #[.int .i64 (a + s)] 3 (0, 0)) := hbnr
            have hbd2 : (wr.drewN 1).heap[bo]? = some (.cells #[.bool true] 4 (0, 0)) := hbor
            have cK := IH.out x.l[k] (List.getElem_mem hlt) (wr.drewN 1) g2 (o2 + k * 5) kv (a + s) (hLr.turn htd h0) (hnode2.turn htd hg2n) hg2n (hkid.turn htd hF) hbd hbd2 (htd.cell hbwr hw) (by omega) (by omega)
            rw [show (257 : Int) - (a + s) = 257 - a - s from by omega] at cK
            rw [hrest] at hnext
            have hstn : ∀ n'' : Int, ((x.l[k].cnt (257 - a - s)).2 = true → n'' = a + s + (x.l[k].cnt (257 - a - s)).1) → CkSt x a (k + 1) (x.l[k].cnt (257 - a - s)).2 n'' := by
              intro n'' hn''
              unfold CkSt
              cases hq : (x.l[k].cnt (257 - a - s)).2
              · rw [if_neg (by simp), hnext, hq]; rfl
              · rw [if_pos rfl]
                rw [hq, if_pos rfl] at hnext
                exact ⟨s + (x.l[k].cnt (257 - a - s)).1, by rw [hn'' hq]; omega, by omega, by omega, hnext.symm⟩
            have HST := Lib.hid hstn
            clear hstn hnext hrest hkid hxr hnode2 hbd hbd2 hbnr hbor hLr hqb
            generalize x.l[k].cnt (257 - a - s) = q at *
            go_wp2
            go_still_tail 7, (by kernel_rfl)
            change wpList _ _ _ _ _ (wr.drewN 1)
            generalize wr.drewN 1 = w4 at htd cK ⊢
            go_wp2_with (go_at_call 124; refine cK.mono ?_; rintro e w5 ⟨rfl, ⟨n'', hn5, hq5⟩, ho5, ht5⟩)
            go_roundw
            case rel => exact ⟨k + 1, hlt, by go_num, q.2, n'', hn5, ho5, HST.out n'' hq5, (htr.trans htd).trans ht5⟩
            case measure => simp [intOf]; omega
      · have hend : CkPost bn bo a (x.cnt (257 - a)) W wr := by
          cases b
          · exact ckPost_of hbnr hbor hst (fun h => by cases h) htwr
          · obtain ⟨s, rfl, hs1, hs2, hrest⟩ : ∃ s : Int, n' = a + s ∧ 1 ≤ s ∧ s ≤ 257 - a ∧ Tr.cnt.cntl (x.l.drop k) (257 - a) s = x.cnt (257 - a) := hst
            rw [List.drop_eq_nil_of_le (by omega), Tr.cnt.cntl] at hrest
            exact ckPost_of hbnr hbor (by rw [← hrest]) (fun _ => by rw [← hrest]) htwr
        have HE := Lib.hid hend
        clear hend hst hbnr hbor hxr hLr hbwr
        go_wp2
        go_end0
        exact ⟨rfl, HE.out⟩
end Go.Proofs.YtlhobpknflobgaaGreatDoor
namespace Go.Proofs.YtlhobpknflobgaaGreatDoor
open Go.RowKit

set_option maxHeartbeats 2000000 in
set_option maxRecDepth 100000 in
theorem tcheck_any {F : Nat → Prop} {x : Tr} {w : World} {sv : Value} (hL : Letters w) (hx : TrV F w x sv) :
    Calls Tryz.prog 79 #[.agg #[.int .i8 x.k, .int .i64 x.n, .string x.s, .string x.t, sv]] w fun e w' => e = .returned (.int .i64 (chkT x)) ∧ Below w.heap.size w w' := by
  obtain ⟨p, c, rfl⟩ := hx.kids.slice
  have hx0 : TrV (fun k => k < w.heap.size) w x (.slice p x.l.length c) := ⟨hx.wf, hx.kids.mono fun _ _ h => h⟩
  have hl0 := hL.lt
  clear hx
  go_enter Tryz.func79, Tryz.ntmps79
  go_wp2_with fail
  obtain ⟨n1, n2, n3, n4, hb, hs⟩ := four_new w (.cells #[.int .i8 x.k, .int .i64 x.n, .string x.s, .string x.t, .slice p x.l.length c] 29) (.cells #[.int .i64 0] 3) (.cells #[.bool true] 4) (.cells #[.func (Fn.func 124) #[] #[.pointer (some ⟨w.heap.size + 1, 0, none⟩), .pointer (some ⟨w.heap.size + 1 + 1, 0, none⟩), .pointer (some ⟨w.heap.size + 1 + 1 + 1, 0, none⟩)]] 130)
  generalize (((w.alloc (.cells #[.int .i8 x.k, .int .i64 x.n, .string x.s, .string x.t, .slice p x.l.length c] 29)).alloc (.cells #[.int .i64 0] 3)).alloc (.cells #[.bool true] 4)).alloc (.cells #[.func (Fn.func 124) #[] #[.pointer (some ⟨w.heap.size + 1, 0, none⟩), .pointer (some ⟨w.heap.size + 1 + 1, 0, none⟩), .pointer (some ⟨w.heap.size + 1 + 1 + 1, 0, none⟩)]] 130) = w3 at n1 n2 n3 n4 hb hs ⊢
  refine (checkC_any (F := fun k => k < w.heap.size) (bn := w.heap.size + 1) (bo := w.heap.size + 1 + 1) (bw := w.heap.size + 1 + 1 + 1) (fun k hk => by omega) (by omega) (by omega) (by omega) x w3 w.heap.size 0 _ 0 (hL.under hb) (node_heap n1) (by omega) (hx0.below hb) n2 n3 (one_cell n4) (by omega) (by omega)).mono ?_
  rintro e w5 ⟨rfl, ⟨n', hn5, hq5⟩, ho5, ht5⟩
  rw [show (257 : Int) - 0 = 257 from rfl] at hq5 ho5
  have hc5 := one_cell hn5
  have hc6 := one_cell ho5
  have hB := hb.trans (ht5.below (B := w.heap.size) (by omega) fun k hk e => by omega)
  clear hn5 ho5 n1 n2 n3 n4 hb hs ht5 hL hx0
  have hchk : chkT x = if (x.cnt 257).2 then (if 256 < n' then 11 else 0) else 30 := by
    unfold chkT
    cases hq : (x.cnt 257).2
    · rfl
    · have := hq5 hq
      rw [if_pos rfl, if_pos rfl, show (x.cnt 257).1 = n' by omega]
  have HC := Lib.hid hchk
  clear hq5 hchk
  generalize (x.cnt 257).2 = qb at hc6 HC
  cases qb
  · go_wp2
    go_ret
    exact ⟨by rw [HC.out]; rfl, hB⟩
  · by_cases h : 256 < n'
    · have HC2 : Hid (chkT x = 11) := by unfold Hid; rw [HC.out, if_pos rfl, if_pos h]
      go_wp2
      go_ret
      exact ⟨by rw [HC2.out]; rfl, hB⟩
    · have HC2 : Hid (chkT x = 0) := by unfold Hid; rw [HC.out, if_pos rfl, if_neg h]
      go_wp2
      go_ret
      exact ⟨by rw [HC2.out]; rfl, hB⟩

/-- Are two trees the same? -/
def Tr.same : Tr → Tr → Bool
  | .mk k n s t l, y => k == y.k && (n == y.n && (s.toList == y.s.toList && (t.toList == y.t.toList && ((l.length : Int) == (y.l.length : Int) && samel l y.l))))
where samel : List Tr → List Tr → Bool
  | x :: r, y :: q => x.same y && samel r q
  | _, _ => true
theorem same_eq (x y : Tr) : x.same y = (x.k == y.k && (x.n == y.n && (x.s.toList == y.s.toList && (x.t.toList == y.t.toList && ((x.l.length : Int) == (y.l.length : Int) && Tr.same.samel x.l y.l))))) := by cases x; rfl
theorem samel_take {l m : List Tr} {k : Nat} (h1 : k < l.length) (h2 : k < m.length) : Tr.same.samel (l.drop k) (m.drop k) = (l[k].same m[k] && Tr.same.samel (l.drop (k + 1)) (m.drop (k + 1))) := by
  rw [List.drop_eq_getElem_cons h1, List.drop_eq_getElem_cons h2, Tr.same.samel]
theorem two_new (w : World) (o1 o2 : Obj) : ((w.alloc o1).alloc o2).heap[w.heap.size]? = some o1 ∧ ((w.alloc o1).alloc o2).heap[w.heap.size + 1]? = some o2 ∧ Below w.heap.size w ((w.alloc o1).alloc o2) ∧ ((w.alloc o1).alloc o2).heap.size = w.heap.size + 2 := by
  have e1 : (w.alloc o1).heap.size = w.heap.size + 1 := by simp
  refine ⟨?_, ?_, ((Below.refl _ _).alloc (Nat.le_refl _) _).alloc (by simp) _, by simp⟩
  · rw [heap_old _ _ (by omega), heap_new]
  · rw [← e1, heap_new]

set_option maxHeartbeats 4000000 in
set_option maxRecDepth 100000 in
theorem rsame_any {F G : Nat → Prop} (x : Tr) : ∀ (y : Tr) (w : World) (sv tv : Value), TrV F w x sv → TrV G w y tv →
    Calls Tryz.prog 25 #[.agg #[.int .i8 x.k, .int .i64 x.n, .string x.s, .string x.t, sv], .agg #[.int .i8 y.k, .int .i64 y.n, .string y.s, .string y.t, tv]] w fun e w' => e = .returned (.bool (x.same y)) ∧ Below w.heap.size w w' := by
  induction x using Tr.ind with
  | h x ih =>
    intro y w sv tv hx hy
    obtain ⟨p, c, rfl⟩ := hx.kids.slice
    obtain ⟨p2, c2, rfl⟩ := hy.kids.slice
    obtain ⟨n1, n2, hb1, hz1⟩ := two_new w (.cells #[.int .i8 x.k, .int .i64 x.n, .string x.s, .string x.t, .slice p x.l.length c] 29) (.cells #[.int .i8 y.k, .int .i64 y.n, .string y.s, .string y.t, .slice p2 y.l.length c2] 29)
    have hx1 := hx.below hb1
    have hy1 := hy.below hb1
    have hlen : x.l.length ≤ 2199023255552 := hx.kids.len
    have hlen2 : y.l.length ≤ 2199023255552 := hy.kids.len
    obtain ⟨a0, a1, a2, a3, a4⟩ := node_heap n1
    obtain ⟨b0, b1, b2, b3, b4⟩ := node_heap n2
    simp only [Nat.zero_add] at a1 a2 a3 a4 b1 b2 b3 b4
    have hrel0 := same_eq x y
    have IH := Lib.hid ih
    have HR := Lib.hid hrel0
    clear ih hrel0 hx hy n1 n2
    cases e0 : (x.k == y.k)
    · have g0 : (x.k != y.k) = true := by simpa using e0
      have HV : Hid (x.same y = false) := by unfold Hid; rw [HR.out, e0]; rfl
      clear e0
      go_enter Tryz.func25, Tryz.ntmps25
      go_wp2
      go_ret
      exact ⟨by rw [HV.out]; rfl, hb1⟩
    have g0 : (x.k != y.k) = false := by simpa using e0
    cases e1 : (x.n == y.n)
    · have g1 : (x.n != y.n) = true := by simpa using e1
      have HV : Hid (x.same y = false) := by unfold Hid; rw [HR.out, e0, e1]; rfl
      clear e0 e1
      go_enter Tryz.func25, Tryz.ntmps25
      go_wp2
      go_ret
      exact ⟨by rw [HV.out]; rfl, hb1⟩
    have g1 : (x.n != y.n) = false := by simpa using e1
    cases e2 : (x.s.toList == y.s.toList)
    · have HV : Hid (x.same y = false) := by unfold Hid; rw [HR.out, e0, e1, e2]; rfl
      clear e0 e1
      go_enter Tryz.func25, Tryz.ntmps25
      go_wp2
      go_ret
      exact ⟨by rw [HV.out]; rfl, hb1⟩
    cases e3 : (x.t.toList == y.t.toList)
    · have HV : Hid (x.same y = false) := by unfold Hid; rw [HR.out, e0, e1, e2, e3]; rfl
      clear e0 e1
      go_enter Tryz.func25, Tryz.ntmps25
      go_wp2
      go_ret
      exact ⟨by rw [HV.out]; rfl, hb1⟩
    cases e4 : ((x.l.length : Int) == (y.l.length : Int))
    · have g4 : ((x.l.length : Int) != (y.l.length : Int)) = true := by simpa using e4
      have HV : Hid (x.same y = false) := by unfold Hid; rw [HR.out, e0, e1, e2, e3, e4]; rfl
      clear e0 e1 e4
      go_enter Tryz.func25, Tryz.ntmps25
      go_wp2
      go_ret
      exact ⟨by rw [HV.out]; rfl, hb1⟩
    have g4 : ((x.l.length : Int) != (y.l.length : Int)) = false := by simpa using e4
    have hll : x.l.length = y.l.length := by have := beq_iff_eq.1 e4; omega
    have HLL := Lib.hid hll
    have hl1 : x.l.length ≤ y.l.length := by omega
    have hl2 : y.l.length ≤ x.l.length := by omega
    have HV : Hid (x.same y = Tr.same.samel x.l y.l) := by unfold Hid; rw [HR.out, e0, e1, e2, e3, e4]; rfl
    clear e0 e1 e4 hll HR
    go_enter Tryz.func25, Tryz.ntmps25
    go_wp2
    generalize (w.alloc (.cells #[.int .i8 x.k, .int .i64 x.n, .string x.s, .string x.t, .slice p x.l.length c] 29)).alloc (.cells #[.int .i8 y.k, .int .i64 y.n, .string y.s, .string y.t, .slice p2 y.l.length c2] 29) = w1 at hb1 hz1 hx1 hy1 a0 a1 a2 a3 a4 b0 b1 b2 b3 b4 ⊢
    clear a0 a1 a2 a3 b0 b1 b2 b3 g0 g1 e2 e3
    go_loopw [5] (fun i wr => ∃ k : Nat, k ≤ x.l.length ∧ i = .int .i64 k ∧ Tr.same.samel (x.l.drop k) (y.l.drop k) = Tr.same.samel x.l y.l ∧ Below w1.heap.size w1 wr) (fun i _ => x.l.length - (intOf i).toNat)
    case atStart => exact ⟨0, Nat.zero_le _, rfl, rfl, Below.refl _ _⟩
    case round =>
      obtain ⟨k, hk, rfl, hrest, hbr⟩ := hrel
      have hxr := hx1.below hbr
      have hyr := hy1.below hbr
      have hbw := hb1.trans (hbr.mono (by omega))
      have a4r := (hbr.cell (p := ⟨w.heap.size, 4, none⟩) (by show w.heap.size < _; omega)).trans a4
      have b4r := (hbr.cell (p := ⟨w.heap.size + 1, 4, none⟩) (by show w.heap.size + 1 < _; omega)).trans b4
      by_cases hlt : k < x.l.length
      · have hlt2 : k < y.l.length := by omega
        obtain ⟨g, o, kv, rfl, _, hnode, hkid⟩ := hxr.kids.at hlt
        obtain ⟨g2, o2, kv2, rfl, _, hnode2, hkid2⟩ := hyr.kids.at hlt2
        have hbd : Below wr.heap.size wr (wr.drewN 1) := below_drewN (Below.refl _ _) 1
        have cK := IH.out x.l[k] (List.getElem_mem hlt) y.l[k] (wr.drewN 1) kv kv2 (hkid.below hbd) (hkid2.below hbd)
        rw [samel_take hlt hlt2] at hrest
        obtain ⟨c0, c1, c2', c3, c4⟩ := hnode
        obtain ⟨d0, d1, d2, d3, d4⟩ := hnode2
        generalize x.l[k] = u at *
        generalize y.l[k] = v at *
        generalize u.same v = q at *
        have HN := Lib.hid hrest
        clear hrest hkid hkid2 hxr hyr hx1 hy1 a4 b4
        cases q
        all_goals
          go_wp2
          go_still_tail 10, (by kernel_rfl)
          change wpList _ _ _ _ _ (wr.drewN 1)
          generalize wr.drewN 1 = w4 at hbd cK ⊢
          go_wp2_with (go_at_call 25; refine cK.mono ?_; rintro e w5 ⟨rfl, hb5⟩)
        · go_ret
          exact ⟨by rw [HV.out, ← HN.out]; rfl, hbw.trans ((hbd.trans (hb5.mono hbd.size)).mono hbw.size)⟩
        · go_roundw
          case rel => exact ⟨k + 1, hlt, by go_num, by rw [← HN.out]; rfl, hbr.trans ((hbd.trans (hb5.mono hbd.size)).mono hbr.size)⟩
          case measure => simp [intOf]; omega
      · rw [List.drop_eq_nil_of_le (by omega)] at hrest
        have hrest' : Tr.same.samel x.l y.l = true := by rw [← hrest]; rfl
        have HN := Lib.hid hrest'
        clear hrest hrest' hxr hyr hx1 hy1 a4 b4
        go_wp2
        go_ret
        exact ⟨by rw [HV.out, HN.out]; rfl, hbw⟩
end Go.Proofs.YtlhobpknflobgaaGreatDoor
