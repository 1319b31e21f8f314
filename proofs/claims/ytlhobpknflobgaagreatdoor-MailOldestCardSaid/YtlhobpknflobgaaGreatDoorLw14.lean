/-
  pleachlaw17.MailOldest holds. Conditions: the items lie as 'Items' says, the clauses as 'Kids' says, the names as 'Binds' says; the table of letters is as it was laid.
-/
import Derived.Test.YtlhobpknflobgaaGreatDoorOl2
import Derived.Test.YtlhobpknflobgaaGreatDoorM11
import Derived.IntWalk
namespace Go.Proofs.YtlhobpknflobgaaGreatDoor
open Go.RowKit

theorem place_in (place : Int) (n : Nat) (hn : n ≤ 20) : ∃ p : Nat, p ≤ n ∧ (wrap64 (place.tmod ((n : Int) + 1) + ((n : Int) + 1))).tmod ((n : Int) + 1) = (p : Int) := by
  have h1 : place.tmod ((n : Int) + 1) < (n : Int) + 1 := Int.tmod_lt_of_pos _ (by omega)
  have h2 : -((n : Int) + 1) < place.tmod ((n : Int) + 1) := Int.lt_tmod_of_pos _ (by omega)
  have hw : wrap64 (place.tmod ((n : Int) + 1) + ((n : Int) + 1)) = place.tmod ((n : Int) + 1) + ((n : Int) + 1) := IntWalk.wrap64_in _ (by omega)
  rw [hw]
  have h3 : 0 ≤ (place.tmod ((n : Int) + 1) + ((n : Int) + 1)).tmod ((n : Int) + 1) := Int.tmod_nonneg _ (by omega)
  have h4 : (place.tmod ((n : Int) + 1) + ((n : Int) + 1)).tmod ((n : Int) + 1) < (n : Int) + 1 := Int.tmod_lt_of_pos _ (by omega)
  exact ⟨((place.tmod ((n : Int) + 1) + ((n : Int) + 1)).tmod ((n : Int) + 1)).toNat, by omega, by omega⟩
set_option maxHeartbeats 16000000 in
set_option maxRecDepth 100000 in
theorem mailOldest_any {w : World} {l : List It} {cs : List Tr} {ns : List Bd} {more : Tr} {place : Int} {lv cv nv mv : Value} (hL : Letters w) (hl : Items (fun _ => True) w lv l) (hc : Kids (fun _ => True) w cv cs) (hn : Binds (fun _ => True) w nv ns) (hm : TrV (fun _ => True) w more mv) (hp : IntKind.i64.wrap place = place) :
    Calls Tryz.prog 8 #[lv, cv, nv, .agg #[.int .i8 more.k, .int .i64 more.n, .string more.s, .string more.t, mv], .int .i64 place] w fun e w' => e = .returned (.bool true) ∧ Below w.heap.size w w' := by
  obtain ⟨pi, ci, rfl⟩ := hl.slice
  obtain ⟨pc, cc, rfl⟩ := hc.slice
  obtain ⟨pn, cn, rfl⟩ := hn.slice
  obtain ⟨pm, cm, rfl⟩ := hm.kids.slice
  have hb1 := alloc_below w (.cells #[.int .i8 more.k, .int .i64 more.n, .string more.s, .string more.t, .slice pm more.l.length cm] 25)
  have n1 := heap_new w (.cells #[.int .i8 more.k, .int .i64 more.n, .string more.s, .string more.t, .slice pm more.l.length cm] 25)
  have HL := Lib.hid (hL.under hb1)
  have HI := Lib.hid (hl.under hb1)
  have HC := Lib.hid (hc.under hb1)
  have HN := Lib.hid (hn.under hb1)
  have HM := Lib.hid (hm.below hb1)
  have HP := Lib.hid hp
  clear hL hl hc hn hm hp
  go_enter Tryz.func8, Tryz.ntmps8
  go_upto_region 1 with fail
  change Code.wp _ _ _ _ (w.alloc (.cells #[.int .i8 more.k, .int .i64 more.n, .string more.s, .string more.t, .slice pm more.l.length cm] 25))
  generalize w.alloc (.cells #[.int .i8 more.k, .int .i64 more.n, .string more.s, .string more.t, .slice pm more.l.length cm] 25) = w1 at n1 hb1 HL HI HC HN HM ⊢
  have HMC := Lib.hid (fun (V : World) (hv : Below w1.heap.size w1 V) => Lib.hid (show V.cell? ⟨w.heap.size, 0, none⟩ = some (.int .i8 more.k) ∧ V.cell? ⟨w.heap.size, 1, none⟩ = some (.int .i64 more.n) ∧ V.cell? ⟨w.heap.size, 2, none⟩ = some (.string more.s) ∧ V.cell? ⟨w.heap.size, 3, none⟩ = some (.string more.t) ∧ V.cell? ⟨w.heap.size, 4, none⟩ = some (.slice pm more.l.length cm) from by
    have h1 := (hv.block _ (Array.getElem?_eq_some_iff.1 n1).1).trans n1
    exact ⟨(arr_cell h1).trans rfl, (arr_cell h1).trans rfl, (arr_cell h1).trans rfl, (arr_cell h1).trans rfl, (arr_cell h1).trans rfl⟩))
  have cI := great17_any HI.out
  have cC := fun (V : World) (hv : Below w1.heap.size w1 V) => clauses17_any (HC.out.under hv)
  have cM := fun (V : World) (hv : Below w1.heap.size w1 V) => greatN_any (HM.out.below hv)
  have cN := fun (V : World) (hv : Below w1.heap.size w1 V) => greatL_any (HN.out.under hv)
  have cW := fun (V : World) (hv : Below w1.heap.size w1 V) => wakes17_any (HL.out.under hv)
  clear n1
  have hgi : (decide (200 < l.length) || l.any fun b => decide (1024 ≤ b.t.sz 1024)) = false → l.length ≤ 200 := fun h => by
    simp only [Bool.or_eq_false_iff, decide_eq_false_iff_not] at h; omega
  generalize (decide (200 < l.length) || l.any fun b => decide (1024 ≤ b.t.sz 1024)) = g1 at cI hgi
  cases g1
  case' true =>
    go_wp2_with (first
      | (go_at_call 30; refine cI.mono ?_; rintro e w2 ⟨rfl, hb2⟩)
      | (go_at_call 33; refine (cW _ hb2).mono ?_; rintro e w19 ⟨rfl, hb19⟩))
    go_ret
    exact ⟨rfl, hb1.trans ((hb2.trans (hb19.mono hb2.size)).mono hb1.size)⟩
  cases h17 : gr17 cs
  case' true =>
    rw [h17] at cC
    clear h17
    go_wp2_with (first
      | (go_at_call 30; refine cI.mono ?_; rintro e w2 ⟨rfl, hb2⟩)
      | (go_at_call 31; refine (cC _ hb2).mono ?_; rintro e w3 ⟨rfl, hb3⟩; have hB3 := hb2.trans (hb3.mono hb2.size); obtain ⟨a0, a1, a2, a3, a4⟩ := (HMC.out _ hB3).out)
      | (go_at_call 33; refine (cW _ hB3).mono ?_; rintro e w19 ⟨rfl, hb19⟩))
    go_ret
    exact ⟨rfl, hb1.trans ((hB3.trans (hb19.mono hB3.size)).mono hb1.size)⟩
  rw [h17] at cC
  generalize decide (8192 ≤ more.sz 8192) = g3 at cM
  cases g3
  case' true =>
    clear h17
    go_wp2_with (first
      | (go_at_call 30; refine cI.mono ?_; rintro e w2 ⟨rfl, hb2⟩)
      | (go_at_call 31; refine (cC _ hb2).mono ?_; rintro e w3 ⟨rfl, hb3⟩; have hB3 := hb2.trans (hb3.mono hb2.size); obtain ⟨a0, a1, a2, a3, a4⟩ := (HMC.out _ hB3).out)
      | (go_at_call 11; refine (cM _ hB3).mono ?_; rintro e w4 ⟨rfl, hb4⟩; have hB4 := hB3.trans (hb4.mono hB3.size))
      | (go_at_call 33; refine (cW _ hB4).mono ?_; rintro e w19 ⟨rfl, hb19⟩))
    go_ret
    exact ⟨rfl, hb1.trans ((hB4.trans (hb19.mono hB4.size)).mono hb1.size)⟩
  generalize greatB ns = g4 at cN
  cases g4
  case' true =>
    clear h17
    go_wp2_with (first
      | (go_at_call 30; refine cI.mono ?_; rintro e w2 ⟨rfl, hb2⟩)
      | (go_at_call 31; refine (cC _ hb2).mono ?_; rintro e w3 ⟨rfl, hb3⟩; have hB3 := hb2.trans (hb3.mono hb2.size); obtain ⟨a0, a1, a2, a3, a4⟩ := (HMC.out _ hB3).out)
      | (go_at_call 11; refine (cM _ hB3).mono ?_; rintro e w4 ⟨rfl, hb4⟩; have hB4 := hB3.trans (hb4.mono hB3.size))
      | (go_at_call 32; refine (cN _ hB4).mono ?_; rintro e w5 ⟨rfl, hb5⟩; have hB5 := hB4.trans (hb5.mono hB4.size))
      | (go_at_call 33; refine (cW _ hB5).mono ?_; rintro e w19 ⟨rfl, hb19⟩))
    go_ret
    exact ⟨rfl, hb1.trans ((hB5.trans (hb19.mono hB5.size)).mono hb1.size)⟩
  have hli := hgi rfl
  have hlc := gr17_len h17
  have hci : l.length ≤ ci := HI.out.room.2
  clear hgi h17
  have cS := fun (V : World) (hv : Below w1.heap.size w1 V) => select17_any (HL.out.under hv) (HI.out.under hv) (HC.out.under hv) (HN.out.under hv)
  go_upto_region 4 with (first
    | (go_at_call 30; refine cI.mono ?_; rintro e w2 ⟨rfl, hb2⟩)
    | (go_at_call 31; refine (cC _ hb2).mono ?_; rintro e w3 ⟨rfl, hb3⟩; have hB3 := hb2.trans (hb3.mono hb2.size); obtain ⟨a0, a1, a2, a3, a4⟩ := (HMC.out _ hB3).out)
    | (go_at_call 11; refine (cM _ hB3).mono ?_; rintro e w4 ⟨rfl, hb4⟩; have hB4 := hB3.trans (hb4.mono hB3.size))
    | (go_at_call 32; refine (cN _ hB4).mono ?_; rintro e w5 ⟨rfl, hb5⟩; have hB5 := hB4.trans (hb5.mono hB4.size))
    | (go_at_call 34; refine (cS _ hB5).mono ?_; rintro e w6 ⟨v6, l6, at_, kk, ok, er6, rfl, hl6, hb6, hq6⟩; have hB6 := hB5.trans (hb6.mono hB5.size); have HQ6 := Lib.hid hq6; have HL6 := Lib.hid hl6; clear hq6 hl6))
  clear cI cC cM cN cS a0 a1 a2 a3 a4 hb2 hb3 hb4 hb5 hB3 hB4 hB5 hb6
  by_cases he : er6 = 0
  case neg =>
    have he4 : (er6 != 0) = true := by simpa using he
    clear he
    go_wp2_with ((go_at_call 33; refine (cW _ hB6).mono ?_; rintro e w19 ⟨rfl, hb19⟩))
    go_ret
    exact ⟨rfl, hb1.trans ((hB6.trans (hb19.mono hB6.size)).mono hb1.size)⟩
  subst he
  have HB6 := Lib.hid hB6
  clear hB6
  go_wp2_with fail
  go_loopw [16] (fun i wr => ∃ a : Nat, a ≤ l.length ∧ i = .int .i64 a ∧ Below w1.heap.size w1 wr) (fun i _ => l.length - (intOf i).toNat)
  case atStart => exact ⟨0, Nat.zero_le _, rfl, HB6.out⟩
  case round =>
    obtain ⟨a, ha, rfl, hbr⟩ := hrel
    have HBR := Lib.hid hbr
    clear hbr
    by_cases hlt : a < l.length
    · go_wp2_with fail
      rename World => W3
      go_loopw [17] (fun j wy => ∃ b : Nat, b ≤ cs.length ∧ j = .int .i64 b ∧ Below w1.heap.size w1 wy) (fun j _ => cs.length - (intOf j).toNat)
      case atStart => exact ⟨0, Nat.zero_le _, rfl, HBR.out⟩
      case round =>
        obtain ⟨b, hb, rfl, hby⟩ := hrel
        have HBY := Lib.hid hby
        clear hby
        by_cases hlb : b < cs.length
        · obtain ⟨gi, oi, _, rfl, _⟩ := HI.out.at hlt
          obtain ⟨gc, oc, _, rfl, _⟩ := HC.out.at hlb
          have hcc : cs.length ≤ cc := by obtain ⟨_, _, he, h1, _⟩ := HC.out.open_; cases he; exact h1
          obtain ⟨a1, b1, m1, tk, hsel, ht1, ht2⟩ := oldest_one HQ6.out hlt hlb
          have hbd : Below wr.heap.size wr wr.drew := below_drewN (Below.refl _ _) 1
          have hBd := HBY.out.trans (hbd.mono HBY.out.size)
          have cO := select17_any (HL.out.under hBd) ((HI.out.under hBd).one hlt) ((HC.out.under hBd).one hlb) (HN.out.under hBd)
          rw [hsel, addr_add, addr_add] at cO
          have HT1 := Lib.hid ht1
          have HT2 := Lib.hid ht2
          have hla : (a : Int) < l.length := by omega
          have hlb2 : (b : Int) < cs.length := by omega
          have hwa : IntKind.i64.wrap ((a : Int) + 1) = (a : Int) + 1 := IntWalk.i64_in _ (by omega)
          have hwb : IntKind.i64.wrap ((b : Int) + 1) = (b : Int) + 1 := IntWalk.i64_in _ (by omega)
          have ka1 : (0 : Int) ≤ (a : Int) + 1 := by omega
          have ka2 : (a : Int) + 1 ≤ (ci : Int) := by omega
          have ka3 : ¬ ci = a := by omega
          have kb1 : (0 : Int) ≤ (b : Int) + 1 := by omega
          have kb2 : (b : Int) + 1 ≤ (cc : Int) := by omega
          have kb3 : ¬ cc = b := by omega
          clear hsel ht1 ht2
          go_upto_region 12 with fail
          refine wp_region_held_drew (S := fun _ => True) (by kernel_rfl) ?_ (fun hHeld => ?_)
          · (try dsimp only); (try exact trivial)
          refine wpAnyH_take (i := 0) (v := ?_) rfl (by kernel_rfl) (by kernel_rfl) (by kernel_rfl) (fun _ _ _ h => h) (Or.inl ⟨by rfl, ?_⟩) (by assumption) ?_
          rotate_left 1
          (intro w hSw; (try dsimp only at hSw); go_simp; try with_reducible rfl)
          (try simp only [List.getElem_toArray, List.getElem_cons_zero, Act.put, List.setIfInBounds_toArray, List.set_cons_zero, List.set_cons_succ])
          refine wpAnyH_take (i := 1) (v := ?_) rfl (by kernel_rfl) (by kernel_rfl) (by kernel_rfl) (fun _ _ _ h => h) (Or.inl ⟨by rfl, ?_⟩) (by assumption) ?_
          rotate_left 1
          (intro w hSw; (try dsimp only at hSw); go_simp; try with_reducible rfl)
          (try simp only [List.getElem_toArray, List.getElem_cons_succ, List.getElem_cons_zero, Act.put, List.setIfInBounds_toArray, List.set_cons_zero, List.set_cons_succ])
          refine wpAnyH_take (i := 2) (v := ?_) rfl (by kernel_rfl) (by kernel_rfl) (by kernel_rfl) (fun _ _ _ h => h) (Or.inl ⟨by rfl, ?_⟩) (by assumption) ?_
          rotate_left 1
          (intro w hSw; (try dsimp only at hSw); go_simp; try with_reducible rfl)
          (try simp only [List.getElem_toArray, List.getElem_cons_succ, List.getElem_cons_zero, Act.put, List.setIfInBounds_toArray, List.set_cons_zero, List.set_cons_succ])
          refine wpAnyH_take (i := 3) (v := ?_) rfl (by kernel_rfl) (by kernel_rfl) (by kernel_rfl) (fun _ _ _ h => h) (Or.inl ⟨by rfl, ?_⟩) (by assumption) ?_
          rotate_left 1
          (intro w hSw; (try dsimp only at hSw); go_simp; try with_reducible rfl)
          (try simp only [List.getElem_toArray, List.getElem_cons_succ, List.getElem_cons_zero, Act.put, List.setIfInBounds_toArray, List.set_cons_zero, List.set_cons_succ])
          refine wpAnyH_take (i := 4) (v := ?_) rfl (by kernel_rfl) (by kernel_rfl) (by kernel_rfl) (fun _ _ _ h => h) (Or.inl ⟨by rfl, ?_⟩) (by assumption) ?_
          rotate_left 1
          (intro w hSw; (try dsimp only at hSw); go_simp; try with_reducible rfl)
          (try simp only [List.getElem_toArray, List.getElem_cons_succ, List.getElem_cons_zero, Act.put, List.setIfInBounds_toArray, List.set_cons_zero, List.set_cons_succ])
          refine wpAnyH_take (i := 5) (v := ?_) rfl (by kernel_rfl) (by kernel_rfl) (by kernel_rfl) (fun _ _ _ h => h) (Or.inl ⟨by rfl, ?_⟩) (by assumption) ?_
          rotate_left 1
          (intro w hSw; (try dsimp only at hSw); go_simp; try with_reducible rfl)
          (try simp only [List.getElem_toArray, List.getElem_cons_succ, List.getElem_cons_zero, Act.put, List.setIfInBounds_toArray, List.set_cons_zero, List.set_cons_succ])
          refine wpAnyH_take (i := 6) (v := ?_) rfl (by kernel_rfl) (by kernel_rfl) (by kernel_rfl) (fun _ _ _ h => h) (Or.inl ⟨by rfl, ?_⟩) (by assumption) ?_
          rotate_left 1
          (intro w hSw; (try dsimp only at hSw); go_simp; try with_reducible rfl)
          (try simp only [List.getElem_toArray, List.getElem_cons_succ, List.getElem_cons_zero, Act.put, List.setIfInBounds_toArray, List.set_cons_zero, List.set_cons_succ])
          refine wpAnyH_take (i := 7) (v := ?_) rfl (by kernel_rfl) (by kernel_rfl) (by kernel_rfl) (fun _ _ _ h => h) (Or.inl ⟨by rfl, ?_⟩) (by assumption) ?_
          rotate_left 1
          (intro w hSw; (try dsimp only at hSw); go_simp; try with_reducible rfl)
          (try simp only [List.getElem_toArray, List.getElem_cons_succ, List.getElem_cons_zero, Act.put, List.setIfInBounds_toArray, List.set_cons_zero, List.set_cons_succ])
          refine wpAnyH_take (i := 8) (v := ?_) rfl (by kernel_rfl) (by kernel_rfl) (by kernel_rfl) (fun _ _ _ h => h) (Or.inl ⟨by rfl, ?_⟩) (by assumption) ?_
          rotate_left 1
          (intro w hSw; (try dsimp only at hSw); go_simp; try with_reducible rfl)
          (try simp only [List.getElem_toArray, List.getElem_cons_succ, List.getElem_cons_zero, Act.put, List.setIfInBounds_toArray, List.set_cons_zero, List.set_cons_succ])
          refine wpAnyH_take (i := 9) (v := ?_) rfl (by kernel_rfl) (by kernel_rfl) (by kernel_rfl) (fun _ _ _ h => h) (Or.inl ⟨by rfl, ?_⟩) (by assumption) ?_
          rotate_left 1
          (intro w hSw; (try dsimp only at hSw); go_simp; try with_reducible rfl)
          (try simp only [List.getElem_toArray, List.getElem_cons_succ, List.getElem_cons_zero, Act.put, List.setIfInBounds_toArray, List.set_cons_zero, List.set_cons_succ])
          refine wpAnyH_take (i := 10) (v := ?_) rfl (by kernel_rfl) (by kernel_rfl) (by kernel_rfl) (fun _ _ _ h => h) (Or.inl ⟨by rfl, ?_⟩) (by assumption) ?_
          rotate_left 1
          (intro w hSw; (try dsimp only at hSw); go_simp; try with_reducible rfl)
          (try simp only [List.getElem_toArray, List.getElem_cons_succ, List.getElem_cons_zero, Act.put, List.setIfInBounds_toArray, List.set_cons_zero, List.set_cons_succ])
          refine wpAnyH_ready (rs := [11]) (by kernel_rfl) (by simp) ?_
          refine AllReadyH.cons rfl (fun K hK => ?_) AllReadyH.nil
          go_simp
          go_wp2_with (go_loud (go_at_call 34; refine cO.mono ?_; rintro e w7 ⟨v7, l7, i7, j7, ok7, er7, rfl, hl7, hb7, hq7⟩))
          refine hK.out _ _ ?_ (fun hHeld => ?_)
          · (try dsimp only); (try exact trivial)
          clear hK K
          (try simp only [List.getElem_toArray, List.getElem_cons_succ, List.getElem_cons_zero, Act.put, List.setIfInBounds_toArray, List.set_cons_zero, List.set_cons_succ])
          refine wpAnyH_take (i := 12) (v := ?_) rfl (by kernel_rfl) (by kernel_rfl) (by kernel_rfl) (fun _ _ _ h => h) (Or.inl ⟨by rfl, ?_⟩) (by assumption) ?_
          rotate_left 1
          (intro w hSw; (try dsimp only at hSw); go_simp; try with_reducible rfl)
          (try simp only [List.getElem_toArray, List.getElem_cons_succ, List.getElem_cons_zero, Act.put, List.setIfInBounds_toArray, List.set_cons_zero, List.set_cons_succ])
          refine wpAnyH_take (i := 13) (v := ?_) rfl (by kernel_rfl) (by kernel_rfl) (by kernel_rfl) (fun _ _ _ h => h) (Or.inl ⟨by rfl, ?_⟩) (by assumption) ?_
          rotate_left 1
          (intro w hSw; (try dsimp only at hSw); go_simp; try with_reducible rfl)
          (try simp only [List.getElem_toArray, List.getElem_cons_succ, List.getElem_cons_zero, Act.put, List.setIfInBounds_toArray, List.set_cons_zero, List.set_cons_succ])
          refine wpAnyH_take (i := 14) (v := ?_) rfl (by kernel_rfl) (by kernel_rfl) (by kernel_rfl) (fun _ _ _ h => h) (Or.inl ⟨by rfl, ?_⟩) (by assumption) ?_
          rotate_left 1
          (intro w hSw; (try dsimp only at hSw); go_simp; try with_reducible rfl)
          (try simp only [List.getElem_toArray, List.getElem_cons_succ, List.getElem_cons_zero, Act.put, List.setIfInBounds_toArray, List.set_cons_zero, List.set_cons_succ])
          refine wpAnyH_take (i := 15) (v := ?_) rfl (by kernel_rfl) (by kernel_rfl) (by kernel_rfl) (fun _ _ _ h => h) (Or.inl ⟨by rfl, ?_⟩) (by assumption) ?_
          rotate_left 1
          (intro w hSw; (try dsimp only at hSw); go_simp; try with_reducible rfl)
          (try simp only [List.getElem_toArray, List.getElem_cons_succ, List.getElem_cons_zero, Act.put, List.setIfInBounds_toArray, List.set_cons_zero, List.set_cons_succ])
          refine wpAnyH_take (i := 16) (v := ?_) rfl (by kernel_rfl) (by kernel_rfl) (by kernel_rfl) (fun _ _ _ h => h) (Or.inl ⟨by rfl, ?_⟩) (by assumption) ?_
          rotate_left 1
          (intro w hSw; (try dsimp only at hSw); go_simp; try with_reducible rfl)
          (try simp only [List.getElem_toArray, List.getElem_cons_succ, List.getElem_cons_zero, Act.put, List.setIfInBounds_toArray, List.set_cons_zero, List.set_cons_succ])
          refine wpAnyH_take (i := 17) (v := ?_) rfl (by kernel_rfl) (by kernel_rfl) (by kernel_rfl) (fun _ _ _ h => h) (Or.inl ⟨by rfl, ?_⟩) (by assumption) ?_
          rotate_left 1
          (intro w hSw; (try dsimp only at hSw); go_simp; try with_reducible rfl)
          (try simp only [List.getElem_toArray, List.getElem_cons_succ, List.getElem_cons_zero, Act.put, List.setIfInBounds_toArray, List.set_cons_zero, List.set_cons_succ])
          refine wpAnyH_take (i := 18) (v := ?_) rfl (by kernel_rfl) (by kernel_rfl) (by kernel_rfl) (fun _ _ _ h => h) (Or.inl ⟨by rfl, ?_⟩) (by assumption) ?_
          rotate_left 1
          (intro w hSw; (try dsimp only at hSw); go_simp; try with_reducible rfl)
          (try simp only [List.getElem_toArray, List.getElem_cons_succ, List.getElem_cons_zero, Act.put, List.setIfInBounds_toArray, List.set_cons_zero, List.set_cons_succ])
          refine wpAnyH_take (i := 19) (v := ?_) rfl (by kernel_rfl) (by kernel_rfl) (by kernel_rfl) (fun _ _ _ h => h) (Or.inl ⟨by rfl, ?_⟩) (by assumption) ?_
          rotate_left 1
          (intro w hSw; (try dsimp only at hSw); go_simp; try with_reducible rfl)
          (try simp only [List.getElem_toArray, List.getElem_cons_succ, List.getElem_cons_zero, Act.put, List.setIfInBounds_toArray, List.set_cons_zero, List.set_cons_succ])
          refine wpAnyH_take (i := 20) (v := ?_) rfl (by kernel_rfl) (by kernel_rfl) (by kernel_rfl) (fun _ _ _ h => h) (Or.inl ⟨by rfl, ?_⟩) (by assumption) ?_
          rotate_left 1
          (intro w hSw; (try dsimp only at hSw); go_simp; try with_reducible rfl)
          (try simp only [List.getElem_toArray, List.getElem_cons_succ, List.getElem_cons_zero, Act.put, List.setIfInBounds_toArray, List.set_cons_zero, List.set_cons_succ])
          refine wpAnyH_take (i := 21) (v := ?_) rfl (by kernel_rfl) (by kernel_rfl) (by kernel_rfl) (fun _ _ _ h => h) (Or.inl ⟨by rfl, ?_⟩) (by assumption) ?_
          rotate_left 1
          (intro w hSw; (try dsimp only at hSw); go_simp; try with_reducible rfl)
          (try simp only [List.getElem_toArray, List.getElem_cons_succ, List.getElem_cons_zero, Act.put, List.setIfInBounds_toArray, List.set_cons_zero, List.set_cons_succ])
          refine wpAnyH_take (i := 22) (v := ?_) rfl (by kernel_rfl) (by kernel_rfl) (by kernel_rfl) (fun _ _ _ h => h) (Or.inl ⟨by rfl, ?_⟩) (by assumption) ?_
          rotate_left 1
          (intro w hSw; (try dsimp only at hSw); go_simp; try with_reducible rfl)
          (try simp only [List.getElem_toArray, List.getElem_cons_succ, List.getElem_cons_zero, Act.put, List.setIfInBounds_toArray, List.set_cons_zero, List.set_cons_succ])
          refine wpAnyH_done (by kernel_rfl) ?_ _
          cases hq7
          have HB7 := Lib.hid (hBd.trans (hb7.mono hBd.size))
          clear hwb cO hbd hBd hb7 hl7 ka1 ka2 ka3 kb1 kb2 kb3 hwa hlb2 hla
          cases tk
          case true =>
            obtain ⟨rfl, hn1, hn2⟩ := HT1.out rfl
            by_cases hat : (a : Int) = at_
            · have hn3 := hn2 hat
              subst hat
              clear hn2
              by_cases hkk : (b : Int) = kk
              · subst hkk
                go_wp2_with fail
                go_roundw
                case rel => exact ⟨b + 1, hlb, by go_num, HB7.out⟩
                case measure => simp [intOf]; omega
              · have hkk' : ((b : Int) == kk) = false := by simpa using hkk
                clear hkk
                go_wp2_with fail
                go_roundw
                case rel => exact ⟨b + 1, hlb, by go_num, HB7.out⟩
                case measure => simp [intOf]; omega
            · have hat' : ((a : Int) == at_) = false := by simpa using hat
              clear hat hn2
              go_wp2_with fail
              go_roundw
              case rel => exact ⟨b + 1, hlb, by go_num, HB7.out⟩
              case measure => simp [intOf]; omega
          case false =>
            cases ok
            · clear HT1 HT2
              go_wp2_with fail
              go_roundw
              case rel => exact ⟨b + 1, hlb, by go_num, HB7.out⟩
              case measure => simp [intOf]; omega
            · by_cases hat : (a : Int) = at_
              · subst hat
                by_cases hkk : (b : Int) = kk
                · exact absurd (HT2.out rfl rfl hkk) (by simp)
                · have hkk' : ((b : Int) == kk) = false := by simpa using hkk
                  clear hkk HT1 HT2
                  go_wp2_with fail
                  go_roundw
                  case rel => exact ⟨b + 1, hlb, by go_num, HB7.out⟩
                  case measure => simp [intOf]; omega
              · have hat' : ((a : Int) == at_) = false := by simpa using hat
                clear hat HT1 HT2
                go_wp2_with fail
                go_roundw
                case rel => exact ⟨b + 1, hlb, by go_num, HB7.out⟩
                case measure => simp [intOf]; omega
        · have hwa : IntKind.i64.wrap ((a : Int) + 1) = (a : Int) + 1 := IntWalk.i64_in _ (by omega)
          go_wp2_with fail
          go_roundw
          case rel => exact ⟨a + 1, hlt, by go_num, HBY.out⟩
          case measure => simp [intOf]; omega
    · have hal := alloc_below wr (.cells #[.int .i8 more.k, .int .i64 more.n, .string more.s, .string more.t, .slice pm more.l.length cm] 25)
      have hn15 := heap_new wr (.cells #[.int .i8 more.k, .int .i64 more.n, .string more.s, .string more.t, .slice pm more.l.length cm] 25)
      have hB15 := HBR.out.trans (hal.mono HBR.out.size)
      have cS2 := select17_any (HL.out.under hB15) (HI.out.under hB15) (kids_one (F := fun _ => True) (node_heap hn15) (HM.out.below hB15) trivial) (HN.out.under hB15)
      obtain ⟨a0, a1, a2, a3, a4⟩ := (HMC.out _ HBR.out).out
      clear hn15 hal
      go_upto_region 16 with (go_at_call 34; refine cS2.mono ?_; rintro e w9 ⟨v9, l9, i9, j9, ok9, er9, rfl, hl9, hb9, hq9⟩; have hB9 := hB15.trans (hb9.mono hB15.size); have HQ9 := Lib.hid hq9; clear hq9 hl9)
      clear cS2 a0 a1 a2 a3 a4 hb9 hB15
      by_cases he : er9 = 0
      case neg =>
        have he9 : (er9 != 0) = true := by simpa using he
        clear he
        go_wp2_with ((go_at_call 33; refine (cW _ hB9).mono ?_; rintro e w19 ⟨rfl, hb19⟩))
        go_ret
        exact ⟨rfl, hb1.trans ((hB9.trans (hb19.mono hB9.size)).mono hb1.size)⟩
      subst he
      cases ok9
      case' true =>
        go_wp2_with ((go_at_call 33; refine (cW _ hB9).mono ?_; rintro e w19 ⟨rfl, hb19⟩))
        go_ret
        exact ⟨rfl, hb1.trans ((hB9.trans (hb19.mono hB9.size)).mono hb1.size)⟩
      have HB9 := Lib.hid hB9
      clear hB9
      have hz : ((cs.length : Int) + 1 == 0) = false := by simp; omega
      have hz2 : ¬ ((cs.length : Int) + 1 = 0) := by omega
      have hw1 : IntKind.i64.wrap ((cs.length : Int) + 1) = (cs.length : Int) + 1 := IntWalk.i64_in _ (by omega)
      go_upto_region 20 with fail
      obtain ⟨p, hp1, hp2⟩ := place_in place cs.length hlc
      rw [hp2]
      have HP1 := Lib.hid hp1
      have hcN : Kids (fun g => g < w9.heap.size) w9 (.slice pc cs.length cc) cs := (HC.out.under HB9.out).mono fun _ _ h => h
      have hmN : TrV (fun g => g < w9.heap.size) w9 more (.slice pm more.l.length cm) := (HM.out.below HB9.out).mono fun _ _ h => h
      obtain ⟨L1, hL1, hs1⟩ := (hcN.take hp1).nsrc
      have hl1 : L1.length = p := by rw [← List.length_map (f := (·.1)), hL1, List.length_take]; omega
      have hcc : cs.length ≤ cc := by obtain ⟨_, _, he, h1, _⟩ := HC.out.open_; cases he; exact h1
      have hkc : (p : Int) ≤ (cc : Int) := by omega
      have hkc2 : p ≤ cc := by omega
      have hk0 : (0 : Int) ≤ (p : Int) := by omega
      have hlA : ([] : List (Tr × Value)).length + L1.length ≤ 1048576 := by simp; omega
      have HCN := Lib.hid hcN
      have HMN := Lib.hid hmN
      have HL1 := Lib.hid hL1
      clear hcN hmN hL1 hp2 hz hz2 hw1
      go_upto_region 22 with (at_builtin; refine wpList_append_nrow rfl (.tmp 161) (.tmp 164) rfl w9.heap.size (.slice none 0 0) [] rfl (NRow.nil _ _) pc p cc L1 rfl hs1 hlA (Nat.le_refl _) ?_; intro v21 w21 hrow21 hb21)
      rw [List.nil_append] at hrow21
      obtain ⟨q21, c21, rfl⟩ := hrow21.slice
      have hB21 := HB9.out.trans (hb21.mono HB9.out.size)
      obtain ⟨a0, a1, a2, a3, a4⟩ := (HMC.out _ hB21).out
      have hal := alloc_below w21 (.cells #[.int .i8 more.k, .int .i64 more.n, .string more.s, .string more.t, .slice pm more.l.length cm] 25)
      have hn22 := heap_new w21 (.cells #[.int .i8 more.k, .int .i64 more.n, .string more.s, .string more.t, .slice pm more.l.length cm] 25)
      have hb22 := hb21.trans (hal.mono hb21.size)
      have hrow22 := hrow21.under hal
      have hsz22 : w9.heap.size ≤ (w21.alloc (.cells #[.int .i8 more.k, .int .i64 more.n, .string more.s, .string more.t, .slice pm more.l.length cm] 25)).heap.size := hb22.size
      have hs2 := NSrc.one (base := w9.heap.size) hn22 (HMN.out.below hb22)
      have hlB : L1.length + [(more, Value.slice pm more.l.length cm)].length ≤ 1048576 := by simp; omega
      have HB22 := Lib.hid hb22
      clear hn22 hal hb22 hrow21 hs1 hlA
      go_upto_region 23 with (at_builtin; refine wpList_append_nrow rfl (.tmp 166) (.tmp 168) rfl w9.heap.size (.slice q21 L1.length c21) L1 rfl hrow22 (some ⟨w21.heap.size, 0, none⟩) 1 1 [(more, .slice pm more.l.length cm)] rfl hs2 hlB hsz22 ?_; intro v23 w23 hrow23 hb23)
      obtain ⟨q23, c23, rfl⟩ := hrow23.slice
      have hB23 := HB22.out.trans hb23
      clear hrow22 hs2 hlB hsz22 a0 a1 a2 a3 a4 hb23 hB21 hb21 hkc hkc2
      rcases Nat.lt_or_ge p cs.length with hpl | hpl
      · obtain ⟨gc, oc, _, rfl, _⟩ := HC.out.at hpl
        obtain ⟨L3, hL3, hs3⟩ := ((HCN.out.under hB23).drop HP1.out).nsrc
        rw [addr_add] at hs3
        have hl3 : L3.length = cs.length - p := by rw [← List.length_map (f := (·.1)), hL3, List.length_drop]
        have hpc : (p : Int) ≤ (cs.length : Int) := by omega
        have hpn : ¬ cc = p := by omega
        have hsz23 : w9.heap.size ≤ w23.heap.size := hB23.size
        have hlC : (L1 ++ [(more, Value.slice pm more.l.length cm)]).length + L3.length ≤ 1048576 := by rw [List.length_append, hl1]; simp; omega
        have hlD : ((L1 ++ [(more, Value.slice pm more.l.length cm)]) ++ L3).length ≤ BL := by rw [List.length_append]; unfold BL; omega
        have e24 : ((L1 ++ [(more, Value.slice pm more.l.length cm)]) ++ L3).map (fun q => q.1) = cs.take p ++ more :: cs.drop p := by rw [List.map_append, List.map_append, HL1.out, hL3]; simp
        have H24 := Lib.hid (And.intro hlD e24)
        clear hlD e24 hL3
        go_upto_region 24 with (at_builtin; refine wpList_append_nrow rfl (.tmp 170) (.tmp 173) rfl w9.heap.size (.slice q23 (L1 ++ [(more, Value.slice pm more.l.length cm)]).length c23) (L1 ++ [(more, Value.slice pm more.l.length cm)]) rfl hrow23 (some ⟨gc, oc + p * 5, none⟩) (cs.length - p) (cc - p) L3 rfl hs3 hlC hsz23 ?_; intro v24 w24 hrow24 hb24)
        have hB24 := HB9.out.trans ((hB23.trans hb24).mono HB9.out.size)
        have hk24 := hrow24.kids H24.out.1
        rw [H24.out.2] at hk24
        obtain ⟨k3, m3, hk3, kb0, kb1, kb2⟩ := oldest_more HQ6.out HQ9.out HP1.out
        have cS3 := select17_any (HL.out.under hB24) (HI.out.under hB24) hk24 (HN.out.under hB24)
        rw [hk3] at cS3
        clear hk3 hk24 hrow24 H24 hb24
        go_upto_region 25 with (go_at_call 34; refine cS3.mono ?_; rintro e w25 ⟨v25, l25, i25, j25, ok25, er25, rfl, hl25, hb25, hq25⟩; have hB25 := hB24.trans (hb25.mono hB24.size))
        cases hq25
        clear cS3 hl25 hb25
        have hwk : IntKind.i64.wrap (k3 - 1) = k3 - 1 := IntWalk.i64_in _ (by omega)
        rcases kb2 with ⟨hg, rfl⟩ | ⟨hg, rfl⟩
        all_goals
          cases ok
          all_goals
            go_wp2_with (go_at_call 33; refine (cW _ hB25).mono ?_; rintro e w19 ⟨rfl, hb19⟩)
            go_ret
            exact ⟨rfl, hb1.trans ((hB25.trans (hb19.mono hB25.size)).mono hb1.size)⟩
      · obtain rfl : p = cs.length := by omega
        have hL3 : ([] : List (Tr × Value)).map (·.1) = cs.drop cs.length := by simp
        rcases pc with _ | ad
        · have hs3 := NSrc.empty w9.heap.size w23 none
          have hsz23 : w9.heap.size ≤ w23.heap.size := hB23.size
          have hlC : (L1 ++ [(more, Value.slice pm more.l.length cm)]).length + ([] : List (Tr × Value)).length ≤ 1048576 := by rw [List.length_append, hl1]; simp; omega
          have hlD : ((L1 ++ [(more, Value.slice pm more.l.length cm)]) ++ ([] : List (Tr × Value))).length ≤ BL := by rw [List.length_append]; unfold BL; omega
          have e24 : ((L1 ++ [(more, Value.slice pm more.l.length cm)]) ++ ([] : List (Tr × Value))).map (fun q => q.1) = cs.take cs.length ++ more :: cs.drop cs.length := by rw [List.map_append, List.map_append, HL1.out, hL3]; simp
          have H24 := Lib.hid (And.intro hlD e24)
          clear hlD e24 hL3
          go_upto_region 24 with (at_builtin; refine wpList_append_nrow rfl (.tmp 170) (.tmp 173) rfl w9.heap.size (.slice q23 (L1 ++ [(more, Value.slice pm more.l.length cm)]).length c23) (L1 ++ [(more, Value.slice pm more.l.length cm)]) rfl hrow23 none 0 _ [] rfl hs3 hlC hsz23 ?_; intro v24 w24 hrow24 hb24)
          have hB24 := HB9.out.trans ((hB23.trans hb24).mono HB9.out.size)
          have hk24 := hrow24.kids H24.out.1
          rw [H24.out.2] at hk24
          obtain ⟨k3, m3, hk3, kb0, kb1, kb2⟩ := oldest_more HQ6.out HQ9.out HP1.out
          have cS3 := select17_any (HL.out.under hB24) (HI.out.under hB24) hk24 (HN.out.under hB24)
          rw [hk3] at cS3
          clear hk3 hk24 hrow24 H24 hb24
          go_upto_region 25 with (go_at_call 34; refine cS3.mono ?_; rintro e w25 ⟨v25, l25, i25, j25, ok25, er25, rfl, hl25, hb25, hq25⟩; have hB25 := hB24.trans (hb25.mono hB24.size))
          cases hq25
          clear cS3 hl25 hb25
          have hwk : IntKind.i64.wrap (k3 - 1) = k3 - 1 := IntWalk.i64_in _ (by omega)
          rcases kb2 with ⟨hg, rfl⟩ | ⟨hg, rfl⟩
          all_goals
            cases ok
            all_goals
              go_wp2_with (go_at_call 33; refine (cW _ hB25).mono ?_; rintro e w19 ⟨rfl, hb19⟩)
              go_ret
              exact ⟨rfl, hb1.trans ((hB25.trans (hb19.mono hB25.size)).mono hb1.size)⟩
        · have hs3 := fun z => NSrc.empty w9.heap.size w23 z
          have hsz23 : w9.heap.size ≤ w23.heap.size := hB23.size
          have hlC : (L1 ++ [(more, Value.slice pm more.l.length cm)]).length + ([] : List (Tr × Value)).length ≤ 1048576 := by rw [List.length_append, hl1]; simp; omega
          have hlD : ((L1 ++ [(more, Value.slice pm more.l.length cm)]) ++ ([] : List (Tr × Value))).length ≤ BL := by rw [List.length_append]; unfold BL; omega
          have e24 : ((L1 ++ [(more, Value.slice pm more.l.length cm)]) ++ ([] : List (Tr × Value))).map (fun q => q.1) = cs.take cs.length ++ more :: cs.drop cs.length := by rw [List.map_append, List.map_append, HL1.out, hL3]; simp
          have H24 := Lib.hid (And.intro hlD e24)
          clear hlD e24 hL3
          go_upto_region 24 with (at_builtin; refine wpList_append_nrow rfl (.tmp 170) (.tmp 173) rfl w9.heap.size (.slice q23 (L1 ++ [(more, Value.slice pm more.l.length cm)]).length c23) (L1 ++ [(more, Value.slice pm more.l.length cm)]) rfl hrow23 _ 0 _ [] rfl (hs3 _) hlC hsz23 ?_; intro v24 w24 hrow24 hb24)
          have hB24 := HB9.out.trans ((hB23.trans hb24).mono HB9.out.size)
          have hk24 := hrow24.kids H24.out.1
          rw [H24.out.2] at hk24
          obtain ⟨k3, m3, hk3, kb0, kb1, kb2⟩ := oldest_more HQ6.out HQ9.out HP1.out
          have cS3 := select17_any (HL.out.under hB24) (HI.out.under hB24) hk24 (HN.out.under hB24)
          rw [hk3] at cS3
          clear hk3 hk24 hrow24 H24 hb24
          go_upto_region 25 with (go_at_call 34; refine cS3.mono ?_; rintro e w25 ⟨v25, l25, i25, j25, ok25, er25, rfl, hl25, hb25, hq25⟩; have hB25 := hB24.trans (hb25.mono hB24.size))
          cases hq25
          clear cS3 hl25 hb25
          have hwk : IntKind.i64.wrap (k3 - 1) = k3 - 1 := IntWalk.i64_in _ (by omega)
          rcases kb2 with ⟨hg, rfl⟩ | ⟨hg, rfl⟩
          all_goals
            cases ok
            all_goals
              go_wp2_with (go_at_call 33; refine (cW _ hB25).mono ?_; rintro e w19 ⟨rfl, hb19⟩)
              all_goals go_ret
              all_goals exact ⟨rfl, hb1.trans ((hB25.trans (hb19.mono hB25.size)).mono hb1.size)⟩
end Go.Proofs.YtlhobpknflobgaaGreatDoor
