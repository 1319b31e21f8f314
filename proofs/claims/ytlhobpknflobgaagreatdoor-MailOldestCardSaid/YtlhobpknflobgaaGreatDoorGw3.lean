/-
  guard.holds: does a test hold? Conditions: the test lies as 'TrV' says and may be; the names lie as 'Binds' says.
-/
import Derived.Test.YtlhobpknflobgaaGreatDoorGw1
import Derived.Test.YtlhobpknflobgaaGreatDoorGw2
import Derived.Deep.MidRow
namespace Go.Proofs.YtlhobpknflobgaaGreatDoor
open Go.RowKit

/-- The two terms of a test, as a row. -/
def row10 (Y : List (Tr × Value)) : Array Value := (Y.flatMap tcells ++ (List.replicate (2 - Y.length) (tcells (zeroT, .slice none 0 0))).flatten).toArray
theorem there_of {w : World} {b o n : Nat} {A : Array Value} {t : TypeId} (h : w.heap[b]? = some (.cells A t (0, 0))) (hn : o + n ≤ A.size) : w.there b o n := fun j hj => ⟨by rw [arr_cell h]; simp; omega, arr_free h⟩
theorem below_setCells {B b : Nat} (hB : B ≤ b) : ∀ (vs : List Value) (o : Nat) {a w : World}, Below B a w → Below B a (w.setCells b o vs)
  | [], _, _, _, h => h
  | v :: r, o, _, _, h => below_setCells hB r (o + 1) (h.setCell (p := ⟨b, o, none⟩) hB v)
theorem setCells_ne {b i : Nat} (h : i ≠ b) : ∀ (vs : List Value) (o : Nat) (w : World), (w.setCells b o vs).heap[i]? = w.heap[i]?
  | [], _, _ => rfl
  | _ :: r, o, _ => (setCells_ne h r (o + 1) _).trans (Below.heap_setCell _ _ _ _ (show i ≠ (⟨b, o, none⟩ : Addr).block from h))
theorem set10_0 {w : World} {b : Nat} {t : TypeId} {y : Tr} {yv : Value} (h : w.heap[b]? = some (.cells (row10 []) t (0, 0))) : (w.setCells b 0 (cells5 y yv).toList).heap[b]? = some (.cells (row10 [(y, yv)]) t (0, 0)) :=
  (arr_set (i := 4) (arr_set (i := 3) (arr_set (i := 2) (arr_set (i := 1) (arr_set (i := 0) h))))).trans rfl
theorem set10_1 {w : World} {b : Nat} {t : TypeId} {q : Tr × Value} {y : Tr} {yv : Value} (h : w.heap[b]? = some (.cells (row10 [q]) t (0, 0))) : (w.setCells b 5 (cells5 y yv).toList).heap[b]? = some (.cells (row10 [q, (y, yv)]) t (0, 0)) :=
  (arr_set (i := 9) (arr_set (i := 8) (arr_set (i := 7) (arr_set (i := 6) (arr_set (i := 5) h))))).trans rfl
theorem there10_0 {w : World} {b : Nat} {t : TypeId} (h : w.heap[b]? = some (.cells (row10 []) t (0, 0))) (y : Tr) (yv : Value) : w.there b 0 (cells5 y yv).size := there_of h (by show 0 + 5 ≤ 10; decide)
theorem there10_1 {w : World} {b : Nat} {t : TypeId} {q : Tr × Value} (h : w.heap[b]? = some (.cells (row10 [q]) t (0, 0))) (y : Tr) (yv : Value) : w.there b 5 (cells5 y yv).size := there_of h (by show 5 + 5 ≤ 10; decide)
theorem knL_len (s : ByteArray) : (knL s).length ≤ 100 := by
  unfold knL
  repeat' split
  all_goals decide
def hold1 (s : ByteArray) (l : List Bd) (xa : Tr) : Bool := match xa.gval l with | some a => (knL s).any fun u => a.k == u | none => false
def hold2 (s : ByteArray) (l : List Bd) (xa xb : Tr) : Bool := match xa.gval l with | some a => (match xb.gval l with | some b => icB s (cmpT a b) | none => false) | none => false
/-- Does a test hold that may be? -/
def holdS (l : List Bd) (x : Tr) : Bool := if x.k = 12 then hold1 x.s l (x.l.getD 0 zeroT) else hold2 x.s l (x.l.getD 0 zeroT) (x.l.getD 1 zeroT)
def HdR (w : World) (i : Value) (wr : World) (k : Int) (Y : List (Tr × Value)) : Prop := i = .int .i64 k ∧ (∀ q ∈ Y, TrV (fun g => g ≠ w.heap.size) wr q.1 q.2) ∧ wr.heap[w.heap.size]? = some (.cells (row10 Y) 109 (0, 0))
def HdRel1 (l : List Bd) (xa : Tr) (w : World) (i : Value) (wr : World) : Prop := Below w.heap.size w wr ∧ (HdR w i wr 0 [] ∨ ∃ y yv, xa.gval l = some y ∧ HdR w i wr 1 [(y, yv)])
def HdRel2 (l : List Bd) (xa xb : Tr) (w : World) (i : Value) (wr : World) : Prop := Below w.heap.size w wr ∧ (HdR w i wr 0 [] ∨ (∃ y yv, xa.gval l = some y ∧ HdR w i wr 1 [(y, yv)]) ∨ ∃ y yv z zv, xa.gval l = some y ∧ xb.gval l = some z ∧ HdR w i wr 2 [(y, yv), (z, zv)])

set_option maxHeartbeats 8000000 in
set_option maxRecDepth 100000 in
theorem holds1_any {l : List Bd} {x xa : Tr} {F : Nat → Prop} {w : World} {g o : Nat} {sv v : Value} (hL : Letters w) (hn : NodeAt w g o x sv) (hx : TrV F w x sv) (hl : Binds F w v l) (hxl : x.l = [xa]) (hk : x.k = 12) (hks : kndS x.s = true) (hg : ∀ y ∈ x.l, y.grd = true) (hm : gmayB l = true) (hnn : x.nn ≤ 1048576) :
    Calls Tryz.prog 56 #[.pointer (some ⟨g, o, none⟩), v] w fun e w' => e = .returned (.bool (hold1 x.s l xa)) ∧ Below w.heap.size w w' := by
  have HKS := Lib.hid hks
  clear hks
  obtain ⟨p1, c1, rfl⟩ := hx.kids.slice
  obtain ⟨pl, cl, rfl⟩ := hl.slice
  have hn1 := heap_new w (.cells (row10 []) 109)
  have hb1 := alloc_below w (.cells (row10 []) 109)
  have hwn := hn.keep (hb1.block _ hn.lt)
  have HNN := Lib.hid (show ∀ y ∈ x.l, y.nn ≤ 1048576 from fun y hy => by have := nn_kid hy; omega)
  have HG := Lib.hid hg
  have HM := Lib.hid hm
  have HL := Lib.hid hL
  have HB := Lib.hid (hl.mono (F' := fun g => g ≠ w.heap.size) fun g hg h => by omega)
  have HK : Hid (∀ W, Below w.heap.size w W → Kids (fun g => g ≠ w.heap.size) W (.slice p1 x.l.length c1) [xa]) := by
    unfold Hid
    intro W hb
    have h1 := (hx.kids.mono (F' := fun g => g ≠ w.heap.size) fun g hg h => by omega).under hb
    rw [hxl] at h1
    rw [hxl]
    exact h1
  have HN := Lib.hid (fun W (hb : Below w.heap.size w W) => hn.keep (hb.block _ hn.lt))
  rw [hxl] at HNN HG HK
  have hk' := hwn.k
  rw [hk] at hk'
  have h4 := hwn.l
  rw [hxl] at h4
  have hks := hwn.s
  have HKK := Lib.hid hk
  have HXL := Lib.hid hxl
  simp only [hxl] at HN
  clear hn hx hl hg hm hL hnn hxl hk hwn
  go_enter Tryz.func56, Tryz.ntmps56
  go_upto_region 2 with fail
  change Code.wp _ _ _ _ (w.alloc (.cells (row10 []) 109))
  generalize w.alloc (.cells (row10 []) 109) = w1 at hn1 hb1 hk' h4 hks ⊢
  have hlt : w.heap.size < w1.heap.size := (Array.getElem?_eq_some_iff.1 hn1).1
  have HN1 := Lib.hid hn1
  have HLT := Lib.hid hlt
  clear hn1 hlt
  go_wp2_with fail
  clear hk' h4 hks
  go_loopw [15] (fun i wr => HdRel1 l xa w i wr) (fun i _ => 3 - (intOf i).toNat)
  case atStart => exact ⟨hb1, .inl ⟨rfl, fun q hq => by simp at hq, HN1.out⟩⟩
  case round =>
    obtain ⟨hB, hcase⟩ := hrel
    have hnd := HN.out wr hB
    have hc4 := hnd.l
    have hcs := hnd.s
    have hck := hnd.k
    rw [HKK.out] at hck
    have hkids := HK.out wr hB
    rcases hcase with ⟨rfl, _, hnr⟩ | ⟨y, yv, hyv, rfl, hty, hnr⟩
    · obtain ⟨g1, o1, qv, rfl, _, hnode, hkid⟩ := hkids.at (i := 0) (by simp)
      change NodeAt wr g1 (o1 + 0 * 5) xa qv at hnode
      change TrV _ wr xa qv at hkid
      simp only [Nat.zero_mul, Nat.add_zero] at hnode
      have hwz : w.heap.size < wr.heap.size := (Array.getElem?_eq_some_iff.1 hnr).1
      have cV := gvalue_any (F := fun g => g ≠ w.heap.size) (HL.out.under hB) (fun k hk => by omega) hnode hkid (HB.out.under hB) (HG.out _ (by simp)) HM.out (HNN.out _ (by simp))
      obtain ⟨oo, hoo⟩ : ∃ oo, xa.gval l = oo := ⟨_, rfl⟩
      rw [hoo] at cV
      have HOO := Lib.hid hoo
      have HWZ := Lib.hid hwz
      have HNR := Lib.hid hnr
      clear hnode hkid hoo hwz hnr hkids hnd
      go_upto_region 7 with (first
        | (go_at_call 61; refine cV.mono ?_; rintro e w5 ⟨y, yv, ev, rfl, hy5, hb5, hc5⟩; obtain ⟨p5, c5, rfl⟩ := hy5.kids.slice; have hn5 := (hb5.block _ HWZ.out).trans HNR.out; have ht5 := there10_0 hn5 y (.slice p5 y.l.length c5); have HC5 := Lib.hid hc5; clear hc5)
        | (refine wpList_store_mid rfl 29 _ _ rfl w.heap.size 0 (cells5 y (.slice p5 y.l.length c5)) (by kernel_rfl) (by kernel_rfl) ?ha0 (size28 _ _) (by kernel_rfl) ?hb0; case ha0 => exact ht5))
      have hn6 := set10_0 (y := y) (yv := .slice p5 y.l.length c5) hn5
      have hB5 := hB.trans (hb5.mono hB.size)
      have hB6 := below_setCells (b := w.heap.size) (Nat.le_refl _) (cells5 y (.slice p5 y.l.length c5)).toList 0 hB5
      have hy6 := hy5.move (P' := fun g => g ≠ w.heap.size) (w' := w5.setCells w.heap.size 0 (cells5 y (.slice p5 y.l.length c5)).toList) (fun g hg _ => setCells_ne hg _ _ _) (fun g hg _ => hg)
      generalize w5.setCells w.heap.size 0 (cells5 y (.slice p5 y.l.length c5)).toList = w6 at hn6 hB6 hy6 ⊢
      clear ht5 hn5 hy5
      rcases HC5.out with ⟨hev, hv⟩ | ⟨⟨kk, hj⟩, hv⟩
      · subst hev
        have HV := Lib.hid (HOO.out.trans hv)
        clear hv
        go_wp2_with fail
        go_roundw
        case rel => exact ⟨hB6, .inr ⟨y, _, HV.out, rfl, fun q hq => by simp only [List.mem_singleton] at hq; subst hq; exact hy6, hn6⟩⟩
        case measure => simp [intOf]
      · obtain ⟨bj, gj, cj, rfl, _, _, _⟩ := hj
        have HE := Lib.hid (show hold1 x.s l xa = false by unfold hold1; rw [HOO.out.trans hv])
        clear hv
        go_wp2_with fail
        go_ret
        exact ⟨by rw [HE.out]; rfl, hB6⟩
    · have HYV := Lib.hid hyv
      have hc0 : wr.cell? ⟨w.heap.size, 0, none⟩ = some (.int .i8 y.k) := (arr_cell hnr).trans rfl
      have hmv : ∀ V : World, Below wr.heap.size wr V → V.cell? ⟨g, o + 2, none⟩ = some (.string x.s) ∧ V.cell? ⟨w.heap.size, 0, none⟩ = some (.int .i8 y.k) := fun V hv =>
        ⟨(hv.cell (p := ⟨g, o + 2, none⟩) (cell_block hcs)).trans hcs, (hv.cell (p := ⟨w.heap.size, 0, none⟩) (cell_block hc0)).trans hc0⟩
      have hS0 := hmv wr (Below.refl _ _)
      have hd : Below wr.heap.size wr wr.drew := below_drewN (Below.refl _ _) 1
      have hkl := knL_len x.s
      have HKL := Lib.hid hkl
      have HE := Lib.hid (show hold1 x.s l xa = (knL x.s).any fun u => y.k == u by unfold hold1; rw [HYV.out])
      clear hyv hty hnr hkids hnd hkl
      go_upto_region 11 with fail
      refine wp_region_held_drew (S := fun V => V.cell? ⟨g, o + 2, none⟩ = some (.string x.s) ∧ V.cell? ⟨w.heap.size, 0, none⟩ = some (.int .i8 y.k)) (by kernel_rfl) ?_ (fun hHeld => ?_)
      · (try dsimp only); (first | exact hS0 | exact hS2 | exact hS3)
      refine wpAnyH_take (i := 1) (v := ?_) rfl (by kernel_rfl) (by kernel_rfl) (by kernel_rfl) (fun _ _ _ h => h) (Or.inl ⟨by rfl, ?_⟩) (by assumption) ?_
      rotate_left 1
      (intro w hSw; (try dsimp only at hSw); go_simp; try with_reducible rfl)
      (try simp only [List.getElem_toArray, List.getElem_cons_succ, List.getElem_cons_zero, Act.put, List.setIfInBounds_toArray, List.set_cons_zero, List.set_cons_succ])
      refine wpAnyH_take (i := 2) (v := ?_) rfl (by kernel_rfl) (by kernel_rfl) (by kernel_rfl) (fun _ _ _ h => h) (Or.inl ⟨by rfl, ?_⟩) (by assumption) ?_
      rotate_left 1
      (intro w hSw; (try dsimp only at hSw); go_simp; try with_reducible rfl)
      (try simp only [List.getElem_toArray, List.getElem_cons_succ, List.getElem_cons_zero, Act.put, List.setIfInBounds_toArray, List.set_cons_zero, List.set_cons_succ])
      refine wpAnyH_take (i := 3) (v := ?_) rfl (by kernel_rfl) (by kernel_rfl) (by kernel_rfl) (fun _ _ _ h => h) (Or.inl ⟨by rfl, ?_⟩) (by assumption) ?_
      rotate_left 1
      (intro w hSw; (try dsimp only at hSw); go_simp; try with_reducible rfl)
      (try simp only [List.getElem_toArray, List.getElem_cons_succ, List.getElem_cons_zero, Act.put, List.setIfInBounds_toArray, List.set_cons_zero, List.set_cons_succ])
      refine wpAnyH_take (i := 4) (v := ?_) rfl (by kernel_rfl) (by kernel_rfl) (by kernel_rfl) (fun _ _ _ h => h) (Or.inl ⟨by rfl, ?_⟩) (by assumption) ?_
      rotate_left 1
      (intro w hSw; (try dsimp only at hSw); go_simp; try with_reducible rfl)
      (try simp only [List.getElem_toArray, List.getElem_cons_succ, List.getElem_cons_zero, Act.put, List.setIfInBounds_toArray, List.set_cons_zero, List.set_cons_succ])
      refine wpAnyH_take (i := 6) (v := ?_) rfl (by kernel_rfl) (by kernel_rfl) (by kernel_rfl) (fun _ _ _ h => h) (Or.inl ⟨by rfl, ?_⟩) (by assumption) ?_
      rotate_left 1
      (intro w hSw; (try dsimp only at hSw); go_simp; try with_reducible rfl)
      (try simp only [List.getElem_toArray, List.getElem_cons_succ, List.getElem_cons_zero, Act.put, List.setIfInBounds_toArray, List.set_cons_zero, List.set_cons_succ])
      refine wpAnyH_take (i := 7) (v := ?_) rfl (by kernel_rfl) (by kernel_rfl) (by kernel_rfl) (fun _ _ _ h => h) (Or.inl ⟨by rfl, ?_⟩) (by assumption) ?_
      rotate_left 1
      (intro w hSw; (try dsimp only at hSw); go_simp; try with_reducible rfl)
      (try simp only [List.getElem_toArray, List.getElem_cons_succ, List.getElem_cons_zero, Act.put, List.setIfInBounds_toArray, List.set_cons_zero, List.set_cons_succ])
      refine wpAnyH_take (i := 8) (v := ?_) rfl (by kernel_rfl) (by kernel_rfl) (by kernel_rfl) (fun _ _ _ h => h) (Or.inl ⟨by rfl, ?_⟩) (by assumption) ?_
      rotate_left 1
      (intro w hSw; (try dsimp only at hSw); go_simp; try with_reducible rfl)
      (try simp only [List.getElem_toArray, List.getElem_cons_succ, List.getElem_cons_zero, Act.put, List.setIfInBounds_toArray, List.set_cons_zero, List.set_cons_succ])
      refine wpAnyH_ready (rs := [0]) (by kernel_rfl) (by simp) ?_
      refine AllReadyH.cons rfl (fun K hK => ?_) AllReadyH.nil
      go_simp
      go_wp2_with (first | (go_at_call 100; refine (kinds_any _).mono ?_; rintro e w7 ⟨m, es, clock, rfl, hm7, hb7, hfind⟩; obtain ⟨i7, b7, hf7, ha7⟩ := hfind _ HKS.out; have hB7 := hd.trans (hb7.mono hd.size); have hS2 := hmv _ hB7; have HF7 := Lib.hid hf7; have HM7 := Lib.hid hm7; have HA7 := Lib.hid ha7; clear hf7 hfind hm7 ha7) | (go_at_call 99; refine (contains8_any HA7.out HKL.out _).mono ?_; rintro e w8 ⟨rfl, h8⟩; subst h8; have hS3 := hS2))
      refine hK.out _ _ ?_ (fun hHeld => ?_)
      · (try dsimp only); (first | exact hS0 | exact hS2 | exact hS3)
      clear hK K
      (try simp only [List.getElem_toArray, List.getElem_cons_zero, Act.put, List.setIfInBounds_toArray, List.set_cons_zero, List.set_cons_succ])
      refine wpAnyH_ready (rs := [5]) (by kernel_rfl) (by simp) ?_
      refine AllReadyH.cons rfl (fun K hK => ?_) AllReadyH.nil
      (refine step_lookup1_hit rfl (.tmp 39) (.tmp 43) 112 rfl _ _ Tryz.underlying112 Tryz.underlying9 _ _ _ rfl HM7.out _ rfl _ _ HF7.out ?_)
      refine hK.out _ _ ?_ (fun hHeld => ?_)
      · (try dsimp only); (first | exact hS0 | exact hS2 | exact hS3)
      clear hK K
      (try simp only [List.getElem_toArray, List.getElem_cons_succ, List.getElem_cons_zero, Act.put])
      refine wpAnyH_ready (rs := [9]) (by kernel_rfl) (by simp) ?_
      refine AllReadyH.cons rfl (fun K hK => ?_) AllReadyH.nil
      go_simp
      go_wp2_with (first | (go_at_call 100; refine (kinds_any _).mono ?_; rintro e w7 ⟨m, es, clock, rfl, hm7, hb7, hfind⟩; obtain ⟨i7, b7, hf7, ha7⟩ := hfind _ HKS.out; have hB7 := hd.trans (hb7.mono hd.size); have hS2 := hmv _ hB7; have HF7 := Lib.hid hf7; have HM7 := Lib.hid hm7; have HA7 := Lib.hid ha7; clear hf7 hfind hm7 ha7) | (go_at_call 99; refine (contains8_any HA7.out HKL.out _).mono ?_; rintro e w8 ⟨rfl, h8⟩; subst h8; have hS3 := hS2))
      refine hK.out _ _ ?_ (fun hHeld => ?_)
      · (try dsimp only); (first | exact hS0 | exact hS2 | exact hS3)
      clear hK K
      (try simp only [List.getElem_toArray, List.getElem_cons_succ, List.getElem_cons_zero, Act.put, List.setIfInBounds_toArray, List.set_cons_zero, List.set_cons_succ])
      refine wpAnyH_take (i := 10) (v := ?_) rfl (by kernel_rfl) (by kernel_rfl) (by kernel_rfl) (fun _ _ _ h => h) (Or.inl ⟨by rfl, ?_⟩) (by assumption) ?_
      rotate_left 1
      (intro w hSw; (try dsimp only at hSw); go_simp; try with_reducible rfl)
      (try simp only [List.getElem_toArray, List.getElem_cons_succ, List.getElem_cons_zero, Act.put, List.setIfInBounds_toArray, List.set_cons_zero, List.set_cons_succ])
      refine wpAnyH_done (by kernel_rfl) ?_ _
      go_wp2_with fail
      go_ret
      exact ⟨by rw [HE.out]; rfl, hB.trans (hB7.mono hB.size)⟩

end Go.Proofs.YtlhobpknflobgaaGreatDoor
