/-
  term.made, Tuple, Cons: terms made of parts. Conditions: the parts lie as 'Kids' says, the letters as 'Letters' says.
-/
import Derived.Test.YtlhobpknflobgaaGreatDoorS19
import Derived.Test.YtlhobpknflobgaaGreatDoorS22
import Derived.Test.YtlhobpknflobgaaGreatDoorS20
namespace Go.Proofs.YtlhobpknflobgaaGreatDoor
open Go.RowKit

theorem run_append_empty {P : Program} {w : World} (t ty e : TypeId) (i : TypeInfo) (ht : P.underlying t = some (.slice e)) (hi : P.info? e = some i) (p q : Option Addr) (n c c2 : Nat) (hn : n ≤ c) :
    (Builtin.append_ #[t, t] ty #[.slice p n c, .slice q 0 c2]).run P w = .ok (.slice p n c) w := by
  cases q with
  | none => cases p <;> simp [Builtin.append_, run_underlying ht, sizeOf, typeInfo, hi, Builtin.lenOf, Builtin.firstCells, hn, storeCells]
  | some a =>
    have hf := run_firstCells_some (P := P) w i.size 0 a 0 c2 [] (by simp) (by simp)
    cases p <;> simp [Builtin.append_, run_underlying ht, sizeOf, typeInfo, hi, Builtin.lenOf, hf, hn, storeCells]
theorem flat5t_len (L : List (Tr × Value)) : (L.flatMap tcells).length = L.length * 5 := by
  induction L with
  | nil => rfl
  | cons q r ih => simp only [List.flatMap_cons, List.length_append, ih, List.length_cons]; simp [tcells]; omega
set_option maxRecDepth 10000 in
theorem run_append_nil_terms {w : World} (ty : TypeId) {F H : Nat → Prop} (p : Option Addr) (n c : Nat) (l : List Tr) (hsrc : Kids F w (.slice p n c) l) (hlen : l.length ≤ 1048576) (hFH : ∀ g, F g → H g) (hH : ∀ g, w.heap.size ≤ g → H g) :
    ∃ v' w', (Builtin.append_ #[27, 27] ty #[.slice none 0 0, .slice p n c]).run Tryz.prog w = .ok v' w' ∧ Kids H w' v' l ∧ Below w.heap.size w w' := by
  obtain ⟨i0, hi, hz0, hz1, hz2⟩ := info_parts infoTerm
  obtain ⟨p', c', he, hcap, _, _⟩ := hsrc.open_
  cases he
  by_cases h0 : l.length = 0
  · obtain rfl : l = [] := List.eq_nil_of_length_eq_zero h0
    exact ⟨.slice none 0 0, w, run_append_empty (P := Tryz.prog) (w := w) 27 ty 29 i0 Tryz.underlying27 hi none p 0 0 c (Nat.le_refl _), Kids.nil _ _, Below.refl _ _⟩
  · obtain ⟨g, o, sv, rfl, _⟩ := hsrc.at (i := 0) (by omega)
    obtain ⟨Ls, hLm, hLt, hLc⟩ := hsrc.cells
    have hLl : Ls.length = l.length := by rw [← hLm, List.length_map]
    obtain ⟨v', w', hr, hown, hg, _⟩ := run_append_own (P := Tryz.prog) w w.heap.size 27 ty 29 i0 _ 5 72 Tryz.underlying27 hi hz0 hz1 hz2 rfl (by decide) (.slice none 0 0) 0 [] (World.ownsRow_nil ..) ⟨g, o, none⟩ l.length c (Ls.flatMap tcells) (by rw [flat5t_len, hLl]) (hLc _ rfl)
      (fun u hu => by obtain ⟨q, hq, hu⟩ := List.mem_flatMap.1 hu; exact tcells_plain (hLt q hq) u hu) (by unfold maxLen; omega) (by omega) (Nat.le_refl _)
    have hB : Below w.heap.size w w' := (Below.refl _ _).grown hg (Nat.le_refl _) (fun j hj => by cases hj)
    refine ⟨v', w', hr, ?_, hB⟩
    have h1 := kids_row (F := H) (L := Ls) (T := 29) (w := w') (base := w.heap.size) (v := v') (by simpa [hLl] using hown) hH (fun q hq => (hLt q hq).move (fun g hg hl => hB.block g hl) fun g hg _ => hFH g hg) (by unfold BL; omega)
    rwa [hLm] at h1
theorem wpList_append_nil_terms {w : World} {ops : Array Oper} {rest : List Oper} {o : Oper} {a : Act} {Q : Exit → Act → World → Prop} (hgd : o.guard = none) (s x : Operand)
    (ho : o.op = .call { callee := .builtin .append, args := #[s, x], argTypes := #[27, 27] }) {F : Nat → Prop} (H : Nat → Prop)
    (hs : a.eval s = .slice none 0 0) (p : Option Addr) (n c : Nat) (l : List Tr) (hx : a.eval x = .slice p n c) (hsrc : Kids F w (.slice p n c) l) (hlen : l.length ≤ 1048576) (hFH : ∀ g, F g → H g) (hH : ∀ g, w.heap.size ≤ g → H g)
    (h : ∀ v' w', Kids H w' v' l → Below w.heap.size w w' → wpList Tryz.prog ops Q rest (a.put o.dst v') w') : wpList Tryz.prog ops Q (o :: rest) a w := by
  refine wpList_plain hgd fun K hK => ?_
  obtain ⟨v', w', hr, k1, k2⟩ := run_append_nil_terms o.type p n c l hsrc hlen hFH hH
  unfold Oper.wp
  simp [execOp, ho, resolve, invoke, builtin, hs, hx, hr, Result.andThen]
  exact hK _ _ (h v' w' k1 k2)

/-- How many nodes the parts have, with so many; none: one of them is no term. -/
def madeSum : List Tr → Int → Option Int
  | [], n => some n
  | x :: r, n => if chkT x = 30 then none else madeSum r (n + x.sz 257)
def madeS (k : Int) (l : List Tr) : Tr × Int := match madeSum l 1 with
  | none => (zeroT, 30)
  | some n => if 256 < n then (zeroT, 11) else (.mk k 0 ⟨#[]⟩ ⟨#[]⟩ l, 0)
def MadeSays (F : Nat → Prop) (q : Tr × Int) (w : World) (e : Ending) (w' : World) : Prop :=
  ∃ (y : Tr) (yv : Value) (er : Int), e = .returned (.tuple #[.agg (cells5 y yv), .int .i64 er]) ∧ TrV F w' y yv ∧ Below w.heap.size w w' ∧ (y, er) = q
def MdRel (l : List Tr) (w1 : World) (n i : Value) (wr : World) : Prop :=
  ∃ j : Nat, j ≤ l.length ∧ i = .int .i64 j ∧ ∃ m : Int, n = .int .i64 m ∧ 1 ≤ m ∧ m ≤ 1 + 257 * j ∧ madeSum (l.drop j) m = madeSum l 1 ∧ Below w1.heap.size w1 wr

set_option maxHeartbeats 8000000 in
set_option maxRecDepth 100000 in
theorem made_any {F : Nat → Prop} {w : World} {l : List Tr} {v : Value} {k : Int} (hL : Letters w) (hk : (Lit.int .i8 k).wf = true) (hF : ∀ g, w.heap.size ≤ g → F g) (hl : Kids F w v l) (hn : l.length ≤ 1048576) :
    Calls Tryz.prog 152 #[.int .i8 k, v] w (MadeSays F (madeS k l) w) := by
  obtain ⟨p, c, rfl⟩ := hl.slice
  have hnw : (w.alloc (.cells (cells5 zeroT (.slice none 0 0)) 29)).heap[w.heap.size]? = some (.cells (cells5 zeroT (.slice none 0 0)) 29 (0, 0)) := heap_new w _
  have hb1 := alloc_below w (.cells (cells5 zeroT (.slice none 0 0)) 29)
  have HK := Lib.hid ((hl.mono (F' := fun g => F g ∧ g < w.heap.size) fun g hg h => ⟨hg, h⟩).under hb1)
  have HF := Lib.hid hF
  have HL := Lib.hid (hL.under hb1)
  have HW := Lib.hid hk
  have HM := Lib.hid (show madeS k l = (match madeSum l 1 with | none => (zeroT, 30) | some n => if 256 < n then (zeroT, 11) else (.mk k 0 ⟨#[]⟩ ⟨#[]⟩ l, 0)) from rfl)
  clear hL hk hF hl
  generalize madeS k l = ms at HM ⊢
  go_enter Tryz.func152, Tryz.ntmps152
  go_upto_region 1 with fail
  change Code.wp _ _ _ _ (w.alloc (.cells (cells5 zeroT (.slice none 0 0)) 29))
  generalize w.alloc (.cells (cells5 zeroT (.slice none 0 0)) 29) = w1 at hnw hb1 HK HL ⊢
  have hz1 : w.heap.size < w1.heap.size := (Array.getElem?_eq_some_iff.1 hnw).1
  have HNW := Lib.hid hnw
  have HZ := Lib.hid hz1
  have hres : ∀ (W W' : World) (y : Tr) (yv : Value) (er : Int), Below w1.heap.size w1 W → TrV F W y yv → (∀ g, F g → g ≠ w.heap.size → g < W.heap.size → W'.heap[g]? = W.heap[g]?) → True := fun _ _ _ _ _ _ _ _ => trivial
  clear hnw hz1 hres
  go_wp2
  go_loopw [6, 12] (fun n i wr => MdRel l w1 n i wr) (fun _ i _ => l.length - (intOf i).toNat)
  case atStart => exact ⟨0, Nat.zero_le _, rfl, 1, rfl, by omega, by omega, rfl, Below.refl _ _⟩
  case round =>
    obtain ⟨j, hj, rfl, m, rfl, hm1, hm2, hsum, hbr⟩ := hrel
    have HS := Lib.hid hsum
    have hB := hb1.trans (hbr.mono hb1.size)
    have hnr := (hbr.block _ HZ.out).trans HNW.out
    clear hsum
    by_cases hlt : j < l.length
    · obtain ⟨g, o, xv, rfl, hFg, ⟨a0, a1, a2, a3, a4⟩, hkid⟩ := (HK.out.under hbr).at hlt
      obtain ⟨p3, c3, rfl⟩ := hkid.kids.slice
      have hsm : madeSum (l.drop j) m = if chkT l[j] = 30 then none else madeSum (l.drop (j + 1)) (m + l[j].sz 257) := by rw [List.drop_eq_getElem_cons hlt, madeSum]
      rw [HS.out] at hsm
      generalize l[j] = x at a0 a1 a2 a3 a4 hkid hsm
      have hn5 : (wr.alloc (.cells (cells5 zeroT (.slice none 0 0)) 29)).heap[wr.heap.size]? = some (.cells (cells5 zeroT (.slice none 0 0)) 29 (0, 0)) := heap_new wr _
      have hr6 := setRow_heap' (cells := cells5 x (.slice p3 x.l.length c3)) hn5
      have hb6 := below_setRow (g := wr.heap.size) (cells := cells5 x (.slice p3 x.l.length c3)) (alloc_below wr (.cells (cells5 zeroT (.slice none 0 0)) 29)) (Nat.le_refl _)
      go_upto_region 5 with (refine wpList_store_row rfl 29 _ _ rfl wr.heap.size (cells5 x (.slice p3 x.l.length c3)) (by kernel_rfl) (by kernel_rfl) 29 (cells5 zeroT (.slice none 0 0)) hn5 (size28 _ _) (by kernel_rfl) (by kernel_rfl) ?_)
      change Code.wp _ _ _ _ ((wr.alloc (.cells (cells5 zeroT (.slice none 0 0)) 29)).setRow wr.heap.size (cells5 x (.slice p3 x.l.length c3)))
      generalize (wr.alloc (.cells (cells5 zeroT (.slice none 0 0)) 29)).setRow wr.heap.size (cells5 x (.slice p3 x.l.length c3)) = w6 at hr6 hb6 ⊢
      have hbr6 := hbr.trans (hb6.mono hbr.size)
      obtain ⟨d0, d1, d2, d3, d4⟩ := node_heap (x := x) hr6
      simp only [Nat.zero_add] at d1 d2 d3 d4
      have hD : ∀ W : World, Below w6.heap.size w6 W → W.cell? ⟨wr.heap.size, 0, none⟩ = some (.int .i8 x.k) ∧ W.cell? ⟨wr.heap.size, 1, none⟩ = some (.int .i64 x.n) ∧ W.cell? ⟨wr.heap.size, 2, none⟩ = some (.string x.s) ∧ W.cell? ⟨wr.heap.size, 3, none⟩ = some (.string x.t) ∧ W.cell? ⟨wr.heap.size, 4, none⟩ = some (.slice p3 x.l.length c3) := by
        intro W hb
        have f : ∀ g o u, w6.cell? ⟨g, o, none⟩ = some u → W.cell? ⟨g, o, none⟩ = some u := fun g o u h => (hb.cell (p := ⟨g, o, none⟩) (cell_block h)).trans h
        exact ⟨f _ _ _ d0, f _ _ _ d1, f _ _ _ d2, f _ _ _ d3, f _ _ _ d4⟩
      have HD := Lib.hid hD
      have cC := tcheck_any (HL.out.under hbr6) (hkid.below hb6)
      have cZ := fun (W : World) (hb : Below w6.heap.size w6 W) => tsize_any ((hkid.below hb6).below hb)
      have hzb := sz_bound x 257 (by omega)
      have HSM := Lib.hid hsm
      have HN6 := Lib.hid ((hb6.block _ (Array.getElem?_eq_some_iff.1 hnr).1).trans hnr)
      clear hn5 hr6 hkid a0 a1 a2 a3 a4 hsm hD hnr
      by_cases h30 : chkT x = 30
      · have HE : Hid (ms = (zeroT, 30)) := by unfold Hid; rw [HM.out, HSM.out, if_pos h30]
        rw [h30] at cC
        clear h30 cZ
        go_upto_region 6 with (go_at_call 79; refine cC.mono ?_; rintro e w7 ⟨rfl, hb7⟩)
        have hn7 := (hb7.block _ (Array.getElem?_eq_some_iff.1 HN6.out).1).trans HN6.out
        have hr8 := setRow_heap' (cells := cells5 zeroT (.slice none 0 0)) hn7
        have hB7 : Below w.heap.size w w7 := hb1.trans ((hbr6.trans (hb7.mono hbr6.size)).mono hb1.size)
        have hB8 := below_setRow (g := w.heap.size) (cells := cells5 zeroT (.slice none 0 0)) hB7 (Nat.le_refl _)
        clear cC d0 d1 d2 d3 d4
        go_wp2_with (refine wpList_store_row rfl 29 _ _ rfl w.heap.size (cells5 zeroT (.slice none 0 0)) (by kernel_rfl) (by kernel_rfl) 29 (cells5 zeroT (.slice none 0 0)) hn7 (size28 _ _) (by kernel_rfl) (by kernel_rfl) ?_)
        exact bodyPost_ret (v := .tuple #[.agg (cells5 zeroT (.slice none 0 0)), .int .i64 30]) (results_term Tryz.results152 _ _ _ _ _ rfl hr8) rfl ⟨zeroT, _, 30, rfl, zero_trv _ _, hB8, HE.out.symm⟩
      · have hc30 : (chkT x == 30) = false := by simpa using h30
        have HNX : Hid (madeSum (l.drop (j + 1)) (m + x.sz 257) = madeSum l 1) := by unfold Hid; rw [HSM.out, if_neg h30]
        clear h30
        generalize chkT x = q at cC hc30
        generalize x.sz 257 = z at cZ hzb HNX
        go_wp2_with (first
          | (go_at_call 79; refine cC.mono ?_; rintro e w7 ⟨rfl, hb7⟩; obtain ⟨e0, e1, e2, e3, e4⟩ := HD.out _ hb7)
          | (go_at_call 187; refine (cZ _ hb7).mono ?_; rintro e w8 ⟨rfl, hb8⟩))
        go_roundw
        case rel => exact ⟨j + 1, hlt, by go_num, _, rfl, by omega, by omega, HNX.out, hbr6.trans ((hb7.trans (hb8.mono hb7.size)).mono hbr6.size)⟩
        case measure => simp [intOf]; omega
    · have hms : madeSum l 1 = some m := by rw [← HS.out, List.drop_eq_nil_of_le (by omega), madeSum]
      have HMS := Lib.hid hms
      clear hms
      by_cases hbig : 256 < m
      · have HE : Hid (ms = (zeroT, 11)) := by unfold Hid; rw [HM.out, HMS.out]; exact if_pos hbig
        have hr8 := setRow_heap' (cells := cells5 zeroT (.slice none 0 0)) hnr
        have hB8 := below_setRow (g := w.heap.size) (cells := cells5 zeroT (.slice none 0 0)) hB (Nat.le_refl _)
        go_wp2_with (refine wpList_store_row rfl 29 _ _ rfl w.heap.size (cells5 zeroT (.slice none 0 0)) (by kernel_rfl) (by kernel_rfl) 29 (cells5 zeroT (.slice none 0 0)) hnr (size28 _ _) (by kernel_rfl) (by kernel_rfl) ?_)
        exact bodyPost_ret (v := .tuple #[.agg (cells5 zeroT (.slice none 0 0)), .int .i64 11]) (results_term Tryz.results152 _ _ _ _ _ rfl hr8) rfl ⟨zeroT, _, 11, rfl, zero_trv _ _, hB8, HE.out.symm⟩
      · have HE : Hid (ms = (.mk k 0 ⟨#[]⟩ ⟨#[]⟩ l, 0)) := by unfold Hid; rw [HM.out, HMS.out]; exact if_neg hbig
        have hsrc := HK.out.under hbr
        have hzr : w.heap.size < wr.heap.size := by have := HZ.out; have := hbr.size; omega
        go_wp2_with (first
          | (at_builtin; refine wpList_append_nil_terms rfl (.const (.slice none 0 0)) (.tmp 31) rfl (fun g => F g ∧ g ≠ w.heap.size) rfl p l.length c l rfl hsrc hn (fun g hg => ⟨hg.1, by omega⟩) (fun g hg => ⟨HF.out g (by omega), by omega⟩) ?_; intro v8 w8 hk8 hb8; obtain ⟨q8, c8, rfl⟩ := hk8.slice; have hn8 := (hb8.block _ (Array.getElem?_eq_some_iff.1 hnr).1).trans hnr)
          | (refine wpList_store_row rfl 29 _ _ rfl w.heap.size (cells5 (.mk k 0 ⟨#[]⟩ ⟨#[]⟩ l) (.slice q8 l.length c8)) (by kernel_rfl) (by kernel_rfl) 29 (cells5 zeroT (.slice none 0 0)) hn8 (size28 _ _) (by kernel_rfl) (by kernel_rfl) ?_))
        have hr9 := setRow_heap' (cells := cells5 (.mk k 0 ⟨#[]⟩ ⟨#[]⟩ l) (.slice q8 l.length c8)) hn8
        have hB8 := hB.trans (hb8.mono hB.size)
        have hB9 := below_setRow (g := w.heap.size) (cells := cells5 (.mk k 0 ⟨#[]⟩ ⟨#[]⟩ l) (.slice q8 l.length c8)) hB8 (Nat.le_refl _)
        have hy8 : TrV (fun g => F g ∧ g ≠ w.heap.size) w8 (.mk k 0 ⟨#[]⟩ ⟨#[]⟩ l) (.slice q8 l.length c8) := ⟨⟨HW.out, (by show (Lit.int .i64 0).wf = true; decide), Nat.zero_le _, Nat.zero_le _⟩, hk8⟩
        have hy9 := hy8.move (P' := F) (w' := w8.setRow w.heap.size (cells5 (.mk k 0 ⟨#[]⟩ ⟨#[]⟩ l) (.slice q8 l.length c8))) (fun g hg _ => setRow_ne hg.2) (fun g hg _ => hg.1)
        exact bodyPost_ret (v := .tuple #[.agg (cells5 (.mk k 0 ⟨#[]⟩ ⟨#[]⟩ l) (.slice q8 l.length c8)), .int .i64 0]) (results_term Tryz.results152 _ _ _ _ _ rfl hr9) rfl ⟨.mk k 0 ⟨#[]⟩ ⟨#[]⟩ l, _, 0, rfl, hy9, hB9, HE.out.symm⟩

set_option maxHeartbeats 4000000 in
set_option maxRecDepth 100000 in
theorem tuple_any {F : Nat → Prop} {w : World} {l : List Tr} {v : Value} (hL : Letters w) (hF : ∀ g, w.heap.size ≤ g → F g) (hl : Kids F w v l) (hn : l.length ≤ 1048576) :
    Calls Tryz.prog 111 #[v] w (MadeSays F (madeS 5 l) w) := by
  obtain ⟨p, c, rfl⟩ := hl.slice
  have hnw : (w.alloc (.cells (cells5 zeroT (.slice none 0 0)) 29)).heap[w.heap.size]? = some (.cells (cells5 zeroT (.slice none 0 0)) 29 (0, 0)) := heap_new w _
  have hb1 := alloc_below w (.cells (cells5 zeroT (.slice none 0 0)) 29)
  have hz1 : w.heap.size < (w.alloc (.cells (cells5 zeroT (.slice none 0 0)) 29)).heap.size := by simp
  have cM := made_any (F := fun g => F g ∧ g ≠ w.heap.size) (k := 5) (hL.under hb1) (by decide) (fun g hg => ⟨hF g (by omega), by omega⟩) ((hl.mono (F' := fun g => F g ∧ g ≠ w.heap.size) fun g hg h => ⟨hg, by omega⟩).under hb1) hn
  generalize madeS 5 l = ms at cM ⊢
  have HF := Lib.hid hF
  have HZ := Lib.hid hz1
  clear hL hF hl hz1
  go_enter Tryz.func111, Tryz.ntmps111
  go_upto_region 1 with fail
  change Code.wp _ _ _ _ (w.alloc (.cells (cells5 zeroT (.slice none 0 0)) 29))
  generalize w.alloc (.cells (cells5 zeroT (.slice none 0 0)) 29) = w1 at hnw hb1 cM HZ ⊢
  go_wp2_with (first
    | (go_at_call 152; refine cM.mono ?_; rintro e w5 ⟨y, yv, er, rfl, hy5, hb5, hq⟩; obtain ⟨q5, c5, rfl⟩ := hy5.kids.slice; have hn5 := (hb5.block _ HZ.out).trans hnw; have HQ := Lib.hid hq; clear hq)
    | (refine wpList_store_row rfl 29 _ _ rfl w.heap.size (cells5 y (.slice q5 y.l.length c5)) (by kernel_rfl) (by kernel_rfl) 29 (cells5 zeroT (.slice none 0 0)) hn5 (size28 _ _) (by kernel_rfl) (by kernel_rfl) ?_))
  have hr9 := setRow_heap' (cells := cells5 y (.slice q5 y.l.length c5)) hn5
  have hB5 := hb1.trans (hb5.mono hb1.size)
  have hB9 := below_setRow (g := w.heap.size) (cells := cells5 y (.slice q5 y.l.length c5)) hB5 (Nat.le_refl _)
  have hy9 := hy5.move (P' := F) (w' := w5.setRow w.heap.size (cells5 y (.slice q5 y.l.length c5))) (fun g hg _ => setRow_ne hg.2) (fun g hg _ => hg.1)
  exact bodyPost_ret (v := .tuple #[.agg (cells5 y (.slice q5 y.l.length c5)), .int .i64 er]) (results_term Tryz.results111 _ _ _ _ _ rfl hr9) rfl ⟨y, _, er, rfl, hy9, hB9, HQ.out⟩

set_option maxHeartbeats 4000000 in
set_option maxRecDepth 100000 in
theorem cons_any {F : Nat → Prop} {w : World} {x y : Tr} {sv tv : Value} (hL : Letters w) (hF : ∀ g, w.heap.size ≤ g → F g) (hx : TrV F w x sv) (hy : TrV F w y tv) :
    Calls Tryz.prog 112 #[.agg #[.int .i8 x.k, .int .i64 x.n, .string x.s, .string x.t, sv], .agg #[.int .i8 y.k, .int .i64 y.n, .string y.s, .string y.t, tv]] w (MadeSays F (madeS 7 [x, y]) w) := by
  obtain ⟨p1, c1, rfl⟩ := hx.kids.slice
  obtain ⟨p2, c2, rfl⟩ := hy.kids.slice
  obtain ⟨n1, n2, hb1, hz1⟩ := two_new w (.cells #[.int .i8 x.k, .int .i64 x.n, .string x.s, .string x.t, .slice p1 x.l.length c1] 29) (.cells #[.int .i8 y.k, .int .i64 y.n, .string y.s, .string y.t, .slice p2 y.l.length c2] 29)
  have hx0 : TrV (fun g => F g ∧ g < w.heap.size) w x _ := hx.mono fun g hg h => ⟨hg, h⟩
  have hy0 : TrV (fun g => F g ∧ g < w.heap.size) w y _ := hy.mono fun g hg h => ⟨hg, h⟩
  have HX := Lib.hid (hx0.below hb1)
  have HY := Lib.hid (hy0.below hb1)
  have HL := Lib.hid (hL.under hb1)
  have HF := Lib.hid hF
  have HZ := Lib.hid hz1
  have HMS := Lib.hid (show madeS 7 [x, y] = madeS 7 [x, y] from rfl)
  clear hx hy hx0 hy0 hL hF hz1
  go_enter Tryz.func112, Tryz.ntmps112
  go_upto_region 1 with fail
  have hn3 := heap_new ((w.alloc (.cells #[.int .i8 x.k, .int .i64 x.n, .string x.s, .string x.t, .slice p1 x.l.length c1] 29)).alloc (.cells #[.int .i8 y.k, .int .i64 y.n, .string y.s, .string y.t, .slice p2 y.l.length c2] 29)) (.cells (cells5 zeroT (.slice none 0 0)) 29)
  have hb3 := alloc_below ((w.alloc (.cells #[.int .i8 x.k, .int .i64 x.n, .string x.s, .string x.t, .slice p1 x.l.length c1] 29)).alloc (.cells #[.int .i8 y.k, .int .i64 y.n, .string y.s, .string y.t, .slice p2 y.l.length c2] 29)) (.cells (cells5 zeroT (.slice none 0 0)) 29)
  change Code.wp _ _ _ _ (((w.alloc (.cells #[.int .i8 x.k, .int .i64 x.n, .string x.s, .string x.t, .slice p1 x.l.length c1] 29)).alloc (.cells #[.int .i8 y.k, .int .i64 y.n, .string y.s, .string y.t, .slice p2 y.l.length c2] 29)).alloc (.cells (cells5 zeroT (.slice none 0 0)) 29))
  have hn3' : (((w.alloc (.cells #[.int .i8 x.k, .int .i64 x.n, .string x.s, .string x.t, .slice p1 x.l.length c1] 29)).alloc (.cells #[.int .i8 y.k, .int .i64 y.n, .string y.s, .string y.t, .slice p2 y.l.length c2] 29)).alloc (.cells (cells5 zeroT (.slice none 0 0)) 29)).heap[w.heap.size + 1 + 1]? = some (.cells (cells5 zeroT (.slice none 0 0)) 29 (0, 0)) := by
    have h := hn3
    rw [HZ.out] at h
    exact h
  have hm1 := (hb3.block _ (show w.heap.size < ((w.alloc (.cells #[.int .i8 x.k, .int .i64 x.n, .string x.s, .string x.t, .slice p1 x.l.length c1] 29)).alloc (.cells #[.int .i8 y.k, .int .i64 y.n, .string y.s, .string y.t, .slice p2 y.l.length c2] 29)).heap.size by rw [HZ.out]; omega)).trans n1
  have hm2 := (hb3.block _ (show w.heap.size + 1 < ((w.alloc (.cells #[.int .i8 x.k, .int .i64 x.n, .string x.s, .string x.t, .slice p1 x.l.length c1] 29)).alloc (.cells #[.int .i8 y.k, .int .i64 y.n, .string y.s, .string y.t, .slice p2 y.l.length c2] 29)).heap.size by rw [HZ.out]; omega)).trans n2
  have hB3 := hb1.trans (hb3.mono hb1.size)
  have HX3 := Lib.hid (HX.out.below hb3)
  have HY3 := Lib.hid (HY.out.below hb3)
  have HL3 := Lib.hid (HL.out.under hb3)
  clear n1 n2 hn3 hb1 hb3 HX HY HL HZ
  generalize ((w.alloc (.cells #[.int .i8 x.k, .int .i64 x.n, .string x.s, .string x.t, .slice p1 x.l.length c1] 29)).alloc (.cells #[.int .i8 y.k, .int .i64 y.n, .string y.s, .string y.t, .slice p2 y.l.length c2] 29)).alloc (.cells (cells5 zeroT (.slice none 0 0)) 29) = w3 at hn3' hm1 hm2 hB3 HX3 HY3 HL3 ⊢
  obtain ⟨a0, a1, a2, a3, a4⟩ := node_heap hm1
  obtain ⟨b0, b1, b2, b3, b4⟩ := node_heap hm2
  simp only [Nat.zero_add] at a1 a2 a3 a4 b1 b2 b3 b4
  have hz3 := (Array.getElem?_eq_some_iff.1 hn3').1
  have HZ3 := Lib.hid hz3
  have hn4 : (w3.alloc (.cells #[.int .i8 x.k, .int .i64 x.n, .string x.s, .string x.t, .slice p1 x.l.length c1, .int .i8 y.k, .int .i64 y.n, .string y.s, .string y.t, .slice p2 y.l.length c2] 29)).heap[w3.heap.size]? = some (.cells #[.int .i8 x.k, .int .i64 x.n, .string x.s, .string x.t, .slice p1 x.l.length c1, .int .i8 y.k, .int .i64 y.n, .string y.s, .string y.t, .slice p2 y.l.length c2] 29 (0, 0)) := heap_new w3 _
  have hb4 := alloc_below w3 (.cells #[.int .i8 x.k, .int .i64 x.n, .string x.s, .string x.t, .slice p1 x.l.length c1, .int .i8 y.k, .int .i64 y.n, .string y.s, .string y.t, .slice p2 y.l.length c2] 29)
  have hc : ∀ o u, (#[.int .i8 x.k, .int .i64 x.n, .string x.s, .string x.t, .slice p1 x.l.length c1, .int .i8 y.k, .int .i64 y.n, .string y.s, .string y.t, .slice p2 y.l.length c2] : Array Value)[o]? = some u → (w3.alloc (.cells #[.int .i8 x.k, .int .i64 x.n, .string x.s, .string x.t, .slice p1 x.l.length c1, .int .i8 y.k, .int .i64 y.n, .string y.s, .string y.t, .slice p2 y.l.length c2] 29)).cell? ⟨w3.heap.size, o, none⟩ = some u := fun o u h => (arr_cell hn4).trans h
  have hk4 : Kids (fun g => F g ∧ g ≠ w.heap.size + 1 + 1) _ (.slice (some ⟨w3.heap.size, 0, none⟩) 2 2) [x, y] := kids_two ⟨hc 0 _ rfl, hc 1 _ rfl, hc 2 _ rfl, hc 3 _ rfl, hc 4 _ rfl⟩ ⟨hc 5 _ rfl, hc 6 _ rfl, hc 7 _ rfl, hc 8 _ rfl, hc 9 _ rfl⟩ ((HX3.out.below hb4).mono fun g hg _ => ⟨hg.1, by omega⟩) ((HY3.out.below hb4).mono fun g hg _ => ⟨hg.1, by omega⟩) ⟨HF.out _ (by omega), by omega⟩
  have hs4 : w3.heap.size < (w3.alloc (.cells #[.int .i8 x.k, .int .i64 x.n, .string x.s, .string x.t, .slice p1 x.l.length c1, .int .i8 y.k, .int .i64 y.n, .string y.s, .string y.t, .slice p2 y.l.length c2] 29)).heap.size := by simp
  have cM := made_any (k := 7) (HL3.out.under hb4) (by decide) (fun g hg => ⟨HF.out g (by omega), by omega⟩) hk4 (by simp)
  have hn34 := (hb4.block _ hz3).trans hn3'
  have hB4 := hB3.trans (hb4.mono hB3.size)
  have HS4 := Lib.hid (Nat.lt_trans hz3 hs4)
  obtain ⟨ms, hms⟩ : ∃ ms, madeS 7 [x, y] = ms := ⟨_, rfl⟩
  rw [hms] at cM
  have HMS2 := Lib.hid hms
  clear hms
  clear hm1 hm2 hn4 hc hk4 hs4 hn3' hz3 HMS hb4
  go_wp2_with (first
    | (go_at_call 152; refine Calls.mono cM ?_; rintro e w5 ⟨z, zv, er, rfl, hz5, hb5, hq⟩; obtain ⟨q5, c5, rfl⟩ := hz5.kids.slice; have hn5 := (hb5.block _ HS4.out).trans hn34; have HQ := Lib.hid hq; clear hq)
    | (refine wpList_store_row rfl 29 _ _ rfl (w.heap.size + 1 + 1) (cells5 z (.slice q5 z.l.length c5)) (by kernel_rfl) (by kernel_rfl) 29 (cells5 zeroT (.slice none 0 0)) hn5 (size28 _ _) (by kernel_rfl) (by kernel_rfl) ?_))
  have hr9 := setRow_heap' (cells := cells5 z (.slice q5 z.l.length c5)) hn5
  have hB5 := hB4.trans (hb5.mono hB4.size)
  have hB9 := below_setRow (g := w.heap.size + 1 + 1) (cells := cells5 z (.slice q5 z.l.length c5)) hB5 (by omega)
  have hy9 := hz5.move (P' := F) (w' := w5.setRow (w.heap.size + 1 + 1) (cells5 z (.slice q5 z.l.length c5))) (fun g hg _ => setRow_ne hg.2) (fun g hg _ => hg.1)
  exact bodyPost_ret (v := .tuple #[.agg (cells5 z (.slice q5 z.l.length c5)), .int .i64 er]) (results_term Tryz.results112 _ _ _ _ _ rfl hr9) rfl ⟨z, _, er, rfl, hy9, hB9, HQ.out.trans HMS2.out.symm⟩
end Go.Proofs.YtlhobpknflobgaaGreatDoor
