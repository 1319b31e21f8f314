/-
  pleachlaw17.MailSelects holds. Conditions: the items lie as 'Items' says, the clauses as 'Kids' says, the names as 'Binds' says; the table of letters is as it was laid.
-/
import Derived.Test.YtlhobpknflobgaaGreatDoorSl1
import Derived.Test.YtlhobpknflobgaaGreatDoorM11
namespace Go.Proofs.YtlhobpknflobgaaGreatDoor
open Go.RowKit

theorem sameB_self : ∀ l : List Bd, sameB l l = true
  | [] => rfl
  | b :: r => by rw [sameB, sameB_self r, same_self]; simp
set_option maxHeartbeats 8000000 in
set_option maxRecDepth 100000 in
theorem mailSelects_any {w : World} {l : List It} {cs : List Tr} {ns : List Bd} {lv cv nv : Value} (hL : Letters w) (hl : Items (fun _ => True) w lv l) (hc : Kids (fun _ => True) w cv cs) (hn : Binds (fun _ => True) w nv ns) :
    Calls Tryz.prog 7 #[lv, cv, nv] w fun e w' => e = .returned (.bool true) ∧ Below w.heap.size w w' := by
  obtain ⟨p, c, rfl⟩ := hl.slice
  obtain ⟨p2, c2, rfl⟩ := hc.slice
  obtain ⟨p3, c3, rfl⟩ := hn.slice
  have HL := Lib.hid hL
  have HI := Lib.hid hl
  have HC := Lib.hid hc
  have HN := Lib.hid hn
  have cI := great17_any hl
  have cC := fun (V : World) (hv : Below w.heap.size w V) => clauses17_any (hc.under hv)
  have cN := fun (V : World) (hv : Below w.heap.size w V) => greatL_any (hn.under hv)
  have cW := fun (V : World) (hv : Below w.heap.size w V) => wakes17_any (hL.under hv)
  clear hL hl hc hn
  generalize (decide (200 < l.length) || l.any fun b => decide (1024 ≤ b.t.sz 1024)) = g1 at cI
  generalize gr17 cs = g2 at cC
  generalize greatB ns = g3 at cN
  cases g1
  case' true =>
    go_enter Tryz.func7, Tryz.ntmps7
    go_wp2_with (first | (go_at_call 30; refine cI.mono ?_; rintro e w2 ⟨rfl, hb2⟩; have hBW := hb2) | (go_at_call 33; refine (cW _ hBW).mono ?_; rintro e w19 ⟨rfl, hb19⟩))
    go_ret
    exact ⟨rfl, hBW.trans (hb19.mono hBW.size)⟩
  cases g2
  case' true =>
    go_enter Tryz.func7, Tryz.ntmps7
    go_wp2_with (first | (go_at_call 30; refine cI.mono ?_; rintro e w2 ⟨rfl, hb2⟩; have hBW := hb2) | (go_at_call 31; refine (cC _ hb2).mono ?_; rintro e w3 ⟨rfl, hb3⟩; have hB3 := hb2.trans (hb3.mono hb2.size); have hBW := hB3) | (go_at_call 33; refine (cW _ hBW).mono ?_; rintro e w19 ⟨rfl, hb19⟩))
    go_ret
    exact ⟨rfl, hBW.trans (hb19.mono hBW.size)⟩
  cases g3
  case' true =>
    go_enter Tryz.func7, Tryz.ntmps7
    go_wp2_with (first | (go_at_call 30; refine cI.mono ?_; rintro e w2 ⟨rfl, hb2⟩; have hBW := hb2) | (go_at_call 31; refine (cC _ hb2).mono ?_; rintro e w3 ⟨rfl, hb3⟩; have hB3 := hb2.trans (hb3.mono hb2.size); have hBW := hB3) | (go_at_call 32; refine (cN _ hB3).mono ?_; rintro e w4 ⟨rfl, hb4⟩; have hB4 := hB3.trans (hb4.mono hB3.size); have hBW := hB4) | (go_at_call 33; refine (cW _ hBW).mono ?_; rintro e w19 ⟨rfl, hb19⟩))
    go_ret
    exact ⟨rfl, hBW.trans (hb19.mono hBW.size)⟩
  have cS := fun (V : World) (hv : Below w.heap.size w V) => select17_any (HL.out.under hv) (HI.out.under hv) (HC.out.under hv) (HN.out.under hv)
  have cR := fun (V : World) (hv : Below w.heap.size w V) => rselect_any (HL.out.under hv) (HI.out.under hv) (HC.out.under hv) (HN.out.under hv)
  go_enter Tryz.func7, Tryz.ntmps7
  go_upto_region 5 with (first
    | (go_at_call 30; refine cI.mono ?_; rintro e w2 ⟨rfl, hb2⟩; have hBW := hb2)
    | (go_at_call 31; refine (cC _ hb2).mono ?_; rintro e w3 ⟨rfl, hb3⟩; have hB3 := hb2.trans (hb3.mono hb2.size); have hBW := hB3)
    | (go_at_call 32; refine (cN _ hB3).mono ?_; rintro e w4 ⟨rfl, hb4⟩; have hB4 := hB3.trans (hb4.mono hB3.size); have hBW := hB4)
    | (go_at_call 34; refine (cS _ hB4).mono ?_; rintro e w5 ⟨v5, l5, i5, j5, ok5, er5, rfl, hl5, hb5, hq5⟩; have hB5 := hB4.trans (hb5.mono hB4.size); have HQ5 := Lib.hid hq5; have HL5 := Lib.hid hl5; clear hq5 hl5)
    | (go_at_call 35; refine (cR _ hB5).mono ?_; rintro e w6 ⟨v6, l6, i6, j6, ok6, er6, rfl, hl6, hb6, hq6⟩; have hB6 := hB5.trans (hb6.mono hB5.size); have HQ6 := Lib.hid hq6; have HL6 := Lib.hid hl6; clear hq6 hl6))
  have hq := HQ5.out.symm.trans HQ6.out
  simp only [Prod.mk.injEq] at hq
  obtain ⟨rfl, rfl, rfl, rfl, rfl⟩ := hq
  have cB := bsame_any (HL5.out.under hb6) HL6.out
  rw [sameB_self] at cB
  clear cI cC cN cS cR
  cases ok5
  all_goals
    go_wp2_with (first
      | (go_at_call 36; refine cB.mono ?_; rintro e w7 ⟨rfl, hb7⟩; have hBW := hB6.trans (hb7.mono hB6.size))
      | (go_at_call 33; refine (cW _ hBW).mono ?_; rintro e w19 ⟨rfl, hb19⟩))
    go_ret
    exact ⟨rfl, hBW.trans (hb19.mono hBW.size)⟩
end Go.Proofs.YtlhobpknflobgaaGreatDoor
