/-
  pleachlaw11.GuardFirst holds. Conditions: the term lies as 'TrV' says, the names as 'Binds' says, the word can be read; the table of letters is as it was laid.
-/
import Derived.Test.YtlhobpknflobgaaGreatDoorT03
namespace Go.Proofs.YtlhobpknflobgaaGreatDoor
open Go.RowKit

theorem size_name {s : ByteArray} (h : nameA s = true) : s.size ≤ 32 := ((nameA_iff s).1 h).1.2.1
theorem vN_trv {F : Nat → Prop} (w : World) {s : ByteArray} (h : s.size ≤ 32) : TrV F w (vN s) (.slice none 0 0) := ⟨wf_small _ _ _ _ _ (by decide) (by decide) (by omega) (by decide), Kids.nil _ _⟩
/-- What stands behind a call of Value. -/
def FsMid (q : Tr × Int) (w6 : World) (s8 s9 : Value) (wx : World) : Prop := ∃ (b8 : Nat) (y : Tr) (yv : Value) (er : Int), s8 = .pointer (some ⟨b8, 0, none⟩) ∧ s9 = .int .i64 er ∧ wx.heap[b8]? = some (.cells (cells5 y yv) 29 (0, 0)) ∧ TrV (fun _ => True) wx y yv ∧ (y, er) = q ∧ Below w6.heap.size w6 wx

def FsFind (ob : Option Tr) (ok : Bool) (w : World) (e : Ending) (w' : World) : Prop := ∃ x sv, e = .returned (.tuple #[.agg #[.int .i8 x.k, .int .i64 x.n, .string x.s, .string x.t, sv], .bool ok]) ∧ TrV (fun _ => True) w' x sv ∧ x = ob.getD zeroT ∧ Below w.heap.size w w'

set_option maxHeartbeats 16000000 in
set_option maxRecDepth 100000 in
theorem guardFirst_any {w : World} {l : List Bd} {s : ByteArray} {t : Tr} {v sv : Value} (hL : Letters w) (hl : Binds (fun _ => True) w v l) (hs : s.size ≤ 140737488355328) (hx : TrV (fun _ => True) w t sv) :
    Calls Tryz.prog 6 #[v, .string s, .agg #[.int .i8 t.k, .int .i64 t.n, .string t.s, .string t.t, sv]] w fun e w' => e = .returned (.bool true) ∧ Below w.heap.size w w' := by
  obtain ⟨pt, ct, rfl⟩ := hx.kids.slice
  obtain ⟨pl, cl, rfl⟩ := hl.slice
  have hb1 := alloc_below w (.cells #[.int .i8 t.k, .int .i64 t.n, .string t.s, .string t.t, .slice pt t.l.length ct] 29)
  have n1 := heap_new w (.cells #[.int .i8 t.k, .int .i64 t.n, .string t.s, .string t.t, .slice pt t.l.length ct] 29)
  have HL := Lib.hid hL
  have HT := Lib.hid (hx.below hb1)
  have HS := Lib.hid (hl.under hb1)
  clear hx hl hL
  go_enter Tryz.func6, Tryz.ntmps6
  go_upto_region 1 with fail
  change Code.wp _ _ _ _ (w.alloc (.cells #[.int .i8 t.k, .int .i64 t.n, .string t.s, .string t.t, .slice pt t.l.length ct] 29))
  generalize w.alloc (.cells #[.int .i8 t.k, .int .i64 t.n, .string t.s, .string t.t, .slice pt t.l.length ct] 29) = w1 at n1 hb1 HT HS ⊢
  have HTC := Lib.hid (fun (V : World) (hv : Below w1.heap.size w1 V) => Lib.hid (show V.cell? ⟨w.heap.size, 0, none⟩ = some (.int .i8 t.k) ∧ V.cell? ⟨w.heap.size, 1, none⟩ = some (.int .i64 t.n) ∧ V.cell? ⟨w.heap.size, 2, none⟩ = some (.string t.s) ∧ V.cell? ⟨w.heap.size, 3, none⟩ = some (.string t.t) ∧ V.cell? ⟨w.heap.size, 4, none⟩ = some (.slice pt t.l.length ct) from by
    have h1 := (hv.block _ (Array.getElem?_eq_some_iff.1 n1).1).trans n1
    exact ⟨(arr_cell h1).trans rfl, (arr_cell h1).trans rfl, (arr_cell h1).trans rfl, (arr_cell h1).trans rfl, (arr_cell h1).trans rfl⟩))
  have HN1 := Lib.hid n1
  have cG := great11_any HS.out
  have cC := fun (V : World) (hv : Below w1.heap.size w1 V) => rcheck_any (HT.out.below hv)
  have cM := fun (V : World) (hv : Below w1.heap.size w1 V) => rmay11_any (HS.out.under hv)
  clear n1
  cases hg : gr11 l
  case' true =>
    rw [hg] at cG
    clear hg
    go_wp2_with (first
      | (go_at_call 12; refine cG.mono ?_; rintro e w2 ⟨rfl, hb2⟩; obtain ⟨d0, d1, d2, d3, d4⟩ := (HTC.out _ hb2).out)
      | (go_at_call 16; refine (wakes11_any (HL.out.under (hb1.trans (hb2.mono hb1.size)))).mono ?_; rintro e w9 ⟨rfl, hb9⟩))
    go_ret
    exact ⟨rfl, hb1.trans ((hb2.trans (hb9.mono hb2.size)).mono hb1.size)⟩
  rw [hg] at cG
  have hlen40 := gr11_len hg
  by_cases hc : chkT t = 0
  case' neg =>
    have hc0 : (chkT t != 0) = true := by simpa using hc
    clear hg hc
    go_wp2_with (first
      | (go_at_call 12; refine cG.mono ?_; rintro e w2 ⟨rfl, hb2⟩; obtain ⟨d0, d1, d2, d3, d4⟩ := (HTC.out _ hb2).out)
      | (go_at_call 13; refine (cC _ hb2).mono ?_; rintro e w3 ⟨rfl, hb3⟩; have hB3 := hb2.trans (hb3.mono hb2.size))
      | (go_at_call 16; refine (wakes11_any (HL.out.under (hb1.trans (hB3.mono hb1.size)))).mono ?_; rintro e w9 ⟨rfl, hb9⟩))
    go_ret
    exact ⟨rfl, hb1.trans ((hB3.trans (hb9.mono hB3.size)).mono hb1.size)⟩
  rw [hc] at cC
  obtain ⟨nm, hnm⟩ : ∃ b, nameA s = b := ⟨_, rfl⟩
  have HNM := Lib.hid hnm
  cases nm
  case' false =>
    clear hg hc hnm
    go_wp2_with (first
      | (go_at_call 12; refine cG.mono ?_; rintro e w2 ⟨rfl, hb2⟩; obtain ⟨d0, d1, d2, d3, d4⟩ := (HTC.out _ hb2).out)
      | (go_at_call 13; refine (cC _ hb2).mono ?_; rintro e w3 ⟨rfl, hb3⟩; have hB3 := hb2.trans (hb3.mono hb2.size))
      | (go_at_call 29; refine (nname_any _ _ hs).mono ?_; rintro e w4 ⟨rfl, rfl⟩; rw [HNM.out])
      | (go_at_call 16; refine (wakes11_any (HL.out.under (hb1.trans (hB3.mono hb1.size)))).mono ?_; rintro e w9 ⟨rfl, hb9⟩))
    go_ret
    exact ⟨rfl, hb1.trans ((hB3.trans (hb9.mono hB3.size)).mono hb1.size)⟩
  obtain ⟨un, hun⟩ : ∃ b, undB s = b := ⟨_, rfl⟩
  have hun2 : (s.toList == [95]) = un := hun
  have HUN := Lib.hid hun
  clear hun
  cases un
  case' true =>
    clear hg hc hnm
    go_wp2_with (first
      | (go_at_call 12; refine cG.mono ?_; rintro e w2 ⟨rfl, hb2⟩; obtain ⟨d0, d1, d2, d3, d4⟩ := (HTC.out _ hb2).out)
      | (go_at_call 13; refine (cC _ hb2).mono ?_; rintro e w3 ⟨rfl, hb3⟩; have hB3 := hb2.trans (hb3.mono hb2.size))
      | (go_at_call 29; refine (nname_any _ _ hs).mono ?_; rintro e w4 ⟨rfl, rfl⟩; rw [HNM.out])
      | (go_at_call 16; refine (wakes11_any (HL.out.under (hb1.trans (hB3.mono hb1.size)))).mono ?_; rintro e w9 ⟨rfl, hb9⟩))
    go_ret
    exact ⟨rfl, hb1.trans ((hB3.trans (hb9.mono hB3.size)).mono hb1.size)⟩
  cases hm : gmayB l
  case' false =>
    rw [hm] at cM
    clear hg hc hnm hm
    go_wp2_with (first
      | (go_at_call 12; refine cG.mono ?_; rintro e w2 ⟨rfl, hb2⟩; obtain ⟨d0, d1, d2, d3, d4⟩ := (HTC.out _ hb2).out)
      | (go_at_call 13; refine (cC _ hb2).mono ?_; rintro e w3 ⟨rfl, hb3⟩; have hB3 := hb2.trans (hb3.mono hb2.size))
      | (go_at_call 29; refine (nname_any _ _ hs).mono ?_; rintro e w4 ⟨rfl, rfl⟩; rw [HNM.out])
      | (go_at_call 15; refine (cM _ hB3).mono ?_; rintro e w5 ⟨rfl, hb5⟩; have hB5 := hB3.trans (hb5.mono hB3.size))
      | (go_at_call 16; refine (wakes11_any (HL.out.under (hb1.trans (hB5.mono hb1.size)))).mono ?_; rintro e w9 ⟨rfl, hb9⟩))
    go_ret
    exact ⟨rfl, hb1.trans ((hB5.trans (hb9.mono hB5.size)).mono hb1.size)⟩
  rw [hm] at cM
  have hs32 := size_name hnm
  have HF1 := Lib.hid (first_ahead (l := l) hnm HUN.out hc hm)
  have HF2 := Lib.hid (first_behind (l := l) hnm HUN.out hc hm)
  have HF3 := Lib.hid (first_there (l := l) hnm HUN.out hm)
  clear hg hc hnm hm
  go_upto_region 4 with (first
    | (go_at_call 12; refine cG.mono ?_; rintro e w2 ⟨rfl, hb2⟩; obtain ⟨d0, d1, d2, d3, d4⟩ := (HTC.out _ hb2).out)
    | (go_at_call 13; refine (cC _ hb2).mono ?_; rintro e w3 ⟨rfl, hb3⟩; have hB3 := hb2.trans (hb3.mono hb2.size))
    | (go_at_call 29; refine (nname_any _ _ hs).mono ?_; rintro e w4 ⟨rfl, rfl⟩; rw [HNM.out])
    | (go_at_call 15; refine (cM _ hB3).mono ?_; rintro e w5 ⟨rfl, hb5⟩; have hB5 := hB3.trans (hb5.mono hB3.size)))
  change Code.wp _ _ _ _ (w5.alloc (.cells #[.int .i8 5, .int .i64 0, .string s, .string ⟨#[]⟩, .slice none 0 0] 25))
  have hbN := alloc_below w5 (.cells #[.int .i8 5, .int .i64 0, .string s, .string ⟨#[]⟩, .slice none 0 0] 25)
  have nN := heap_new w5 (.cells #[.int .i8 5, .int .i64 0, .string s, .string ⟨#[]⟩, .slice none 0 0] 25)
  have hB6 := hB5.trans (hbN.mono hB5.size)
  clear cG cC cM d0 d1 d2 d3 d4 hbN
  generalize w5.alloc (.cells #[.int .i8 5, .int .i64 0, .string s, .string ⟨#[]⟩, .slice none 0 0] 25) = w6 at nN hB6 ⊢
  obtain ⟨bN, hbN⟩ : ∃ b, w5.heap.size = b := ⟨_, rfl⟩
  rw [hbN] at nN ⊢
  clear hbN
  have HB6 := Lib.hid (hb1.trans (hB6.mono hb1.size))
  have n1 := (hB6.block _ (Array.getElem?_eq_some_iff.1 HN1.out).1).trans HN1.out
  have hmv : ∀ V : World, Below w6.heap.size w6 V → V.cell? ⟨bN, 0, none⟩ = some (.int .i8 5) ∧ V.cell? ⟨bN, 1, none⟩ = some (.int .i64 0) ∧ V.cell? ⟨bN, 2, none⟩ = some (.string s) ∧ V.cell? ⟨bN, 3, none⟩ = some (.string ⟨#[]⟩) ∧ V.cell? ⟨bN, 4, none⟩ = some (.slice none 0 0) ∧ V.cell? ⟨w.heap.size, 0, none⟩ = some (.int .i8 t.k) ∧ V.cell? ⟨w.heap.size, 1, none⟩ = some (.int .i64 t.n) ∧ V.cell? ⟨w.heap.size, 2, none⟩ = some (.string t.s) ∧ V.cell? ⟨w.heap.size, 3, none⟩ = some (.string t.t) ∧ V.cell? ⟨w.heap.size, 4, none⟩ = some (.slice pt t.l.length ct) := by
    intro V hv
    have h1 := (hv.block _ (Array.getElem?_eq_some_iff.1 nN).1).trans nN
    have h2 := (hv.block _ (Array.getElem?_eq_some_iff.1 n1).1).trans n1
    exact ⟨(arr_cell h1).trans rfl, (arr_cell h1).trans rfl, (arr_cell h1).trans rfl, (arr_cell h1).trans rfl, (arr_cell h1).trans rfl, (arr_cell h2).trans rfl, (arr_cell h2).trans rfl, (arr_cell h2).trans rfl, (arr_cell h2).trans rfl, (arr_cell h2).trans rfl⟩
  have hsz : s.size ≤ BL * 64 := by unfold BL; omega
  have HSZ := Lib.hid hsz
  have hlenA : ([((⟨s, t⟩ : Bd), Value.slice pt t.l.length ct)] : List (Bd × Value)).length + l.length ≤ 1048576 := by simp; omega
  obtain ⟨Ls, hLs, hsrc⟩ := Binds.src (((HS.out.under hB6).mono (F' := fun g => g < w6.heap.size) fun g _ h => h))
  have hLl : Ls.length = l.length := by rw [← hLs, List.length_map]
  have HLs := Lib.hid hLs
  have hlenA : ([((⟨s, t⟩ : Bd), Value.slice pt t.l.length ct)] : List (Bd × Value)).length + Ls.length ≤ 1048576 := by simp; omega
  have hlenC : ([((⟨s, t⟩ : Bd), Value.slice pt t.l.length ct)] ++ Ls : List (Bd × Value)).length ≤ BL := by simp [BL]; omega
  have ht : TrV (fun g => g < w6.heap.size) w6 t (Value.slice pt t.l.length ct) := (HT.out.below hB6).mono fun g _ h => h
  have HN := Lib.hid (fun (F : Nat → Prop) (V : World) => vN_trv (F := F) V hs32)
  have HMV := Lib.hid hmv
  clear hLs
  go_cut [8, 9] (fun s8 s9 wx => FsMid (valS (vN s) (([((⟨s, t⟩ : Bd), Value.slice pt t.l.length ct)] ++ Ls).map (·.1))) w6 s8 s9 wx)
  case first =>
    have hB : Below w6.heap.size w6 w6.drew := below_drewN (Below.refl _ _) 1
    refine wp_region_held_drew (S := fun V => V.cell? ⟨bN, 0, none⟩ = some (.int .i8 5) ∧ V.cell? ⟨bN, 1, none⟩ = some (.int .i64 0) ∧ V.cell? ⟨bN, 2, none⟩ = some (.string s) ∧ V.cell? ⟨bN, 3, none⟩ = some (.string ⟨#[]⟩) ∧ V.cell? ⟨bN, 4, none⟩ = some (.slice none 0 0) ∧ V.cell? ⟨w.heap.size, 0, none⟩ = some (.int .i8 t.k) ∧ V.cell? ⟨w.heap.size, 1, none⟩ = some (.int .i64 t.n) ∧ V.cell? ⟨w.heap.size, 2, none⟩ = some (.string t.s) ∧ V.cell? ⟨w.heap.size, 3, none⟩ = some (.string t.t) ∧ V.cell? ⟨w.heap.size, 4, none⟩ = some (.slice pt t.l.length ct)) (by kernel_rfl) ?_ (fun hHeld => ?_)
    · (try dsimp only); exact hmv _ hB
    have hsrc := hsrc.under hB
    have ht := ht.below hB
    change wpAnyH _ _ _ _ _ _ _ _ (w6.drew)
    generalize w6.drew = V0 at hB hHeld hsrc ht ⊢
    refine wpAnyH_take (i := 0) (v := ?_) rfl (by kernel_rfl) (by kernel_rfl) (by kernel_rfl) (fun _ _ _ h => h) (Or.inl ⟨by rfl, ?_⟩) (by assumption) ?_
    rotate_left 1
    (intro w hSw; (try dsimp only at hSw); go_simp; try with_reducible rfl)
    (try simp only [List.getElem_toArray, List.getElem_cons_zero, Act.put, List.setIfInBounds_toArray, List.set_cons_zero, List.set_cons_succ])
    refine wpAnyH_take (i := 1) (v := ?_) rfl (by kernel_rfl) (by kernel_rfl) (by kernel_rfl) (fun _ _ _ h => h) (Or.inl ⟨by rfl, ?_⟩) (by assumption) ?_
    rotate_left 1
    (intro w hSw; (try dsimp only at hSw); go_simp; try with_reducible rfl)
    (try simp only [List.getElem_toArray, List.getElem_cons_succ, List.getElem_cons_zero, Act.put, List.setIfInBounds_toArray, List.set_cons_zero, List.set_cons_succ])
    refine wpAnyH_take (i := 2) (v := ?_) rfl (by kernel_rfl) (by kernel_rfl) (by kernel_rfl) (fun _ _ _ h => h) (Or.inl ⟨by rfl, ?_⟩) (by assumption) ?_
    rotate_left 1
    (intro w hSw; (try dsimp only at hSw); go_simp; try with_reducible rfl)
    (try simp only [List.getElem_toArray, List.getElem_cons_succ, List.getElem_cons_zero, Act.put, List.setIfInBounds_toArray, List.set_cons_zero, List.set_cons_succ])
    refine wpAnyH_take (i := 3) (v := ?_) rfl (by kernel_rfl) (by kernel_rfl) (by kernel_rfl) (fun _ _ _ h => h) (Or.inl ⟨by rfl, ?_⟩) (by assumption) ?_
    rotate_left 1
    (intro w hSw; (try dsimp only at hSw); go_simp; try with_reducible rfl)
    (try simp only [List.getElem_toArray, List.getElem_cons_succ, List.getElem_cons_zero, Act.put, List.setIfInBounds_toArray, List.set_cons_zero, List.set_cons_succ])
    refine wpAnyH_take (i := 5) (v := ?_) rfl (by kernel_rfl) (by kernel_rfl) (by kernel_rfl) (fun _ _ _ h => h) (Or.inl ⟨by rfl, ?_⟩) (by assumption) ?_
    rotate_left 1
    (intro w hSw; (try dsimp only at hSw); go_simp; try with_reducible rfl)
    (try simp only [List.getElem_toArray, List.getElem_cons_succ, List.getElem_cons_zero, Act.put, List.setIfInBounds_toArray, List.set_cons_zero, List.set_cons_succ])
    refine wpAnyH_ready (rs := [4, 11]) (by kernel_rfl) (by simp) ?_
    refine (AllReadyH.cons rfl (fun K hK => ?_) (AllReadyH.cons rfl (fun K hK => ?_) AllReadyH.nil))
    · go_simp
      have hst := alloc_below V0 (.cells #[.string s, .int .i8 t.k, .int .i64 t.n, .string t.s, .string t.t, .slice pt t.l.length ct] 40)
      have hrow := BRow.one (base := w6.heap.size) (d := ⟨s, t⟩) (heap_new V0 (.cells #[.string s, .int .i8 t.k, .int .i64 t.n, .string t.s, .string t.t, .slice pt t.l.length ct] 40)) (ht.below hst) hsz hB.size
      have hsrc := hsrc.under hst
      have ht := ht.below hst
      have hB := hB.trans (hst.mono hB.size)
      refine hK.out _ _ ?_ (fun hHeld => ?_)
      · (try dsimp only); exact hmv _ hB
      clear hK K hst
      (try simp only [List.getElem_toArray, List.getElem_cons_succ, List.getElem_cons_zero, Act.put, List.setIfInBounds_toArray, List.set_cons_zero, List.set_cons_succ])
      change wpAnyH _ _ _ _ _ _ _ _ (V0.alloc (.cells #[.string s, .int .i8 t.k, .int .i64 t.n, .string t.s, .string t.t, .slice pt t.l.length ct] 40))
      generalize V0.alloc (.cells #[.string s, .int .i8 t.k, .int .i64 t.n, .string t.s, .string t.t, .slice pt t.l.length ct] 40) = V1 at hB hHeld hsrc ht hrow ⊢
      refine wpAnyH_ready (rs := [6, 11]) (by kernel_rfl) (by simp) ?_
      refine (AllReadyH.cons rfl (fun K hK => ?_) (AllReadyH.cons rfl (fun K hK => ?_) AllReadyH.nil))
      · refine step_append_brow rfl _ _ rfl w6.heap.size (Value.slice (some ⟨V0.heap.size, 0, none⟩) 1 1) [((⟨s, t⟩ : Bd), Value.slice pt t.l.length ct)] rfl hrow pl l.length cl Ls rfl hsrc hlenA hB.size ?_
        intro vrV2 V2 hrow hgrow hown hst0
        have hB := hB.trans hst0
        refine hK.out _ _ ?_ (fun hHeld => ?_)
        · (try dsimp only); exact hmv _ hB
        clear hK K
        (try simp only [List.getElem_toArray, List.getElem_cons_succ, List.getElem_cons_zero, Act.put])
        refine wpAnyH_ready (rs := [7, 11]) (by kernel_rfl) (by simp) ?_
        refine (AllReadyH.cons rfl (fun K hK => ?_) (AllReadyH.cons rfl (fun K hK => ?_) AllReadyH.nil))
        · have hbn := hrow.bindsF (F := fun _ => True) (fun _ _ => trivial) (fun _ _ => trivial) hlenC
          have cV := gVal_any (F := fun _ => True) (x := vN s) (sv := .slice none 0 0) (HL.out.under (HB6.out.trans (hB.mono HB6.out.size))) (fun _ _ => trivial) (HN.out _ _) hbn
          go_simp
          go_wp2_with (go_at_call 21; refine cV.mono ?_; rintro e V3 ⟨y, yv, er, rfl, hy, hst, hq⟩; obtain ⟨py, cy, rfl⟩ := hy.kids.slice)
          have hB := hB.trans (hst.mono hB.size)
          refine hK.out _ _ ?_ (fun hHeld => ?_)
          · (try dsimp only); exact hmv _ hB
          clear hK K hst
          (try simp only [List.getElem_toArray, List.getElem_cons_succ, List.getElem_cons_zero, Act.put, List.setIfInBounds_toArray, List.set_cons_zero, List.set_cons_succ])
          refine wpAnyH_take (i := 8) (v := ?_) rfl (by kernel_rfl) (by kernel_rfl) (by kernel_rfl) (fun _ _ _ h => h) (Or.inl ⟨by rfl, ?_⟩) (by assumption) ?_
          rotate_left 1
          (intro w hSw; (try dsimp only at hSw); go_simp; try with_reducible rfl)
          (try simp only [List.getElem_toArray, List.getElem_cons_succ, List.getElem_cons_zero, Act.put, List.setIfInBounds_toArray, List.set_cons_zero, List.set_cons_succ])
          refine wpAnyH_take (i := 9) (v := ?_) rfl (by kernel_rfl) (by kernel_rfl) (by kernel_rfl) (fun _ _ _ h => h) (Or.inl ⟨by rfl, ?_⟩) (by assumption) ?_
          rotate_left 1
          (intro w hSw; (try dsimp only at hSw); go_simp; try with_reducible rfl)
          (try simp only [List.getElem_toArray, List.getElem_cons_succ, List.getElem_cons_zero, Act.put, List.setIfInBounds_toArray, List.set_cons_zero, List.set_cons_succ])
          refine wpAnyH_take (i := 10) (v := ?_) rfl (by kernel_rfl) (by kernel_rfl) (by kernel_rfl) (fun _ _ _ h => h) (Or.inl ⟨by rfl, ?_⟩) (by assumption) ?_
          rotate_left 1
          (intro w hSw; (try dsimp only at hSw); go_simp; try with_reducible rfl)
          (try simp only [List.getElem_toArray, List.getElem_cons_succ, List.getElem_cons_zero, Act.put, List.setIfInBounds_toArray, List.set_cons_zero, List.set_cons_succ])
          refine wpAnyH_ready (rs := [11]) (by kernel_rfl) (by simp) ?_
          refine (AllReadyH.cons rfl (fun K hK => ?_) AllReadyH.nil)
          go_simp
          have hst := alloc_below V3 (.cells (cells5 zeroT (.slice none 0 0)) 29)
          have hge5 : w6.heap.size ≤ V3.heap.size := hB.size
          have hy := hy.mono (P' := fun g => g ≠ V3.heap.size) (fun g _ hl => Nat.ne_of_lt hl)
          have hn5 := heap_new V3 (.cells (cells5 zeroT (.slice none 0 0)) 29)
          have hy := hy.below hst
          have hB := hB.trans (hst.mono hB.size)
          refine hK.out _ _ ?_ (fun hHeld => ?_)
          · (try dsimp only); exact hmv _ hB
          clear hK K hst
          (try simp only [List.getElem_toArray, List.getElem_cons_succ, List.getElem_cons_zero, Act.put, List.setIfInBounds_toArray, List.set_cons_zero, List.set_cons_succ])
          change wpAnyH _ _ _ _ _ _ _ _ (V3.alloc (.cells (cells5 zeroT (.slice none 0 0)) 29))
          generalize V3.alloc (.cells (cells5 zeroT (.slice none 0 0)) 29) = V4 at hB hHeld hy hn5 ⊢
          refine wpAnyH_ready (rs := [12]) (by kernel_rfl) (by simp) ?_
          refine (AllReadyH.cons rfl (fun K hK => ?_) AllReadyH.nil)
          have hB := below_setRow (g := V3.heap.size) (cells := (cells5 y (.slice py y.l.length cy))) hB hge5
          have hn6 := setRow_heap' (cells := (cells5 y (.slice py y.l.length cy))) hn5
          have hy6 := hy.move (P' := fun _ => True) (fun g hg _ => setRow_ne (cells := (cells5 y (.slice py y.l.length cy))) hg) (fun _ _ _ => trivial)
          refine step_store_row rfl 29 _ _ rfl (V3.heap.size) (cells5 y (.slice py y.l.length cy)) (by kernel_rfl) (by kernel_rfl) 29 (cells5 zeroT (.slice none 0 0)) hn5 (size28 _ _) (by kernel_rfl) (by kernel_rfl) ?_
          refine hK.out _ _ ?_ (fun hHeld => ?_)
          · (try dsimp only); exact hmv _ hB
          clear hK K
          (try simp only [List.getElem_toArray, List.getElem_cons_succ, List.getElem_cons_zero, Act.put])
          refine wpAnyH_take (i := 13) (v := ?_) rfl (by kernel_rfl) (by kernel_rfl) (by kernel_rfl) (fun _ _ _ h => h) (Or.inl ⟨by rfl, ?_⟩) (by assumption) ?_
          rotate_left 1
          (intro w hSw; (try dsimp only at hSw); go_simp; try with_reducible rfl)
          (try simp only [List.getElem_toArray, List.getElem_cons_succ, List.getElem_cons_zero, Act.put, List.setIfInBounds_toArray, List.set_cons_zero, List.set_cons_succ])
          refine wpAnyH_done (by kernel_rfl) ?_ _
          go_wp2_with fail
          go_meet
          exact ⟨_, _, _, _, rfl, rfl, hn6, hy6, hq, hB⟩
        · go_simp
          have hst := alloc_below V2 (.cells (cells5 zeroT (.slice none 0 0)) 29)
          have hge5 : w6.heap.size ≤ V2.heap.size := hB.size
          have hne5 : ∀ g, (vrV2).ownBlock = some g → g ≠ V2.heap.size := fun g hg => Nat.ne_of_lt (hrow.own.lt g hg).2
          have hn5 := heap_new V2 (.cells (cells5 zeroT (.slice none 0 0)) 29)
          have hrow := hrow.under hst
          have hB := hB.trans (hst.mono hB.size)
          refine hK.out _ _ ?_ (fun hHeld => ?_)
          · (try dsimp only); exact hmv _ hB
          clear hK K hst
          (try simp only [List.getElem_toArray, List.getElem_cons_succ, List.getElem_cons_zero, Act.put, List.setIfInBounds_toArray, List.set_cons_zero, List.set_cons_succ])
          change wpAnyH _ _ _ _ _ _ _ _ (V2.alloc (.cells (cells5 zeroT (.slice none 0 0)) 29))
          generalize V2.alloc (.cells (cells5 zeroT (.slice none 0 0)) 29) = V6 at hB hHeld hrow hn5 ⊢
          refine wpAnyH_ready (rs := [7]) (by kernel_rfl) (by simp) ?_
          refine (AllReadyH.cons rfl (fun K hK => ?_) AllReadyH.nil)
          have hb5lt := (Array.getElem?_eq_some_iff.1 hn5).1
          have hbn := hrow.bindsF (F := fun g => g ≠ V2.heap.size) (fun g hg => by have := hge5; omega) hne5 hlenC
          have cV := gVal_any (F := fun g => g ≠ V2.heap.size) (x := vN s) (sv := .slice none 0 0) (HL.out.under (HB6.out.trans (hB.mono HB6.out.size))) (fun g hg => by omega) (HN.out _ _) hbn
          go_simp
          go_wp2_with (go_at_call 21; refine cV.mono ?_; rintro e V7 ⟨y, yv, er, rfl, hy, hst, hq⟩; obtain ⟨py, cy, rfl⟩ := hy.kids.slice)
          have hn5 := (hst.block _ (Array.getElem?_eq_some_iff.1 hn5).1).trans hn5
          have hB := hB.trans (hst.mono hB.size)
          refine hK.out _ _ ?_ (fun hHeld => ?_)
          · (try dsimp only); exact hmv _ hB
          clear hK K hst
          (try simp only [List.getElem_toArray, List.getElem_cons_succ, List.getElem_cons_zero, Act.put, List.setIfInBounds_toArray, List.set_cons_zero, List.set_cons_succ])
          refine wpAnyH_take (i := 8) (v := ?_) rfl (by kernel_rfl) (by kernel_rfl) (by kernel_rfl) (fun _ _ _ h => h) (Or.inl ⟨by rfl, ?_⟩) (by assumption) ?_
          rotate_left 1
          (intro w hSw; (try dsimp only at hSw); go_simp; try with_reducible rfl)
          (try simp only [List.getElem_toArray, List.getElem_cons_succ, List.getElem_cons_zero, Act.put, List.setIfInBounds_toArray, List.set_cons_zero, List.set_cons_succ])
          refine wpAnyH_take (i := 9) (v := ?_) rfl (by kernel_rfl) (by kernel_rfl) (by kernel_rfl) (fun _ _ _ h => h) (Or.inl ⟨by rfl, ?_⟩) (by assumption) ?_
          rotate_left 1
          (intro w hSw; (try dsimp only at hSw); go_simp; try with_reducible rfl)
          (try simp only [List.getElem_toArray, List.getElem_cons_succ, List.getElem_cons_zero, Act.put, List.setIfInBounds_toArray, List.set_cons_zero, List.set_cons_succ])
          refine wpAnyH_take (i := 10) (v := ?_) rfl (by kernel_rfl) (by kernel_rfl) (by kernel_rfl) (fun _ _ _ h => h) (Or.inl ⟨by rfl, ?_⟩) (by assumption) ?_
          rotate_left 1
          (intro w hSw; (try dsimp only at hSw); go_simp; try with_reducible rfl)
          (try simp only [List.getElem_toArray, List.getElem_cons_succ, List.getElem_cons_zero, Act.put, List.setIfInBounds_toArray, List.set_cons_zero, List.set_cons_succ])
          refine wpAnyH_ready (rs := [12]) (by kernel_rfl) (by simp) ?_
          refine (AllReadyH.cons rfl (fun K hK => ?_) AllReadyH.nil)
          have hB := below_setRow (g := V2.heap.size) (cells := (cells5 y (.slice py y.l.length cy))) hB hge5
          have hn6 := setRow_heap' (cells := (cells5 y (.slice py y.l.length cy))) hn5
          have hy6 := hy.move (P' := fun _ => True) (fun g hg _ => setRow_ne (cells := (cells5 y (.slice py y.l.length cy))) hg) (fun _ _ _ => trivial)
          refine step_store_row rfl 29 _ _ rfl (V2.heap.size) (cells5 y (.slice py y.l.length cy)) (by kernel_rfl) (by kernel_rfl) 29 (cells5 zeroT (.slice none 0 0)) hn5 (size28 _ _) (by kernel_rfl) (by kernel_rfl) ?_
          refine hK.out _ _ ?_ (fun hHeld => ?_)
          · (try dsimp only); exact hmv _ hB
          clear hK K
          (try simp only [List.getElem_toArray, List.getElem_cons_succ, List.getElem_cons_zero, Act.put])
          refine wpAnyH_take (i := 13) (v := ?_) rfl (by kernel_rfl) (by kernel_rfl) (by kernel_rfl) (fun _ _ _ h => h) (Or.inl ⟨by rfl, ?_⟩) (by assumption) ?_
          rotate_left 1
          (intro w hSw; (try dsimp only at hSw); go_simp; try with_reducible rfl)
          (try simp only [List.getElem_toArray, List.getElem_cons_succ, List.getElem_cons_zero, Act.put, List.setIfInBounds_toArray, List.set_cons_zero, List.set_cons_succ])
          refine wpAnyH_done (by kernel_rfl) ?_ _
          go_wp2_with fail
          go_meet
          exact ⟨_, _, _, _, rfl, rfl, hn6, hy6, hq, hB⟩
      · go_simp
        have hst := alloc_below V1 (.cells (cells5 zeroT (.slice none 0 0)) 29)
        have hge5 : w6.heap.size ≤ V1.heap.size := hB.size
        have hne5 : ∀ g, ((Value.slice (some ⟨V0.heap.size, 0, none⟩) 1 1)).ownBlock = some g → g ≠ V1.heap.size := fun g hg => Nat.ne_of_lt (hrow.own.lt g hg).2
        have hn5 := heap_new V1 (.cells (cells5 zeroT (.slice none 0 0)) 29)
        have hsrc := hsrc.under hst
        have ht := ht.below hst
        have hrow := hrow.under hst
        have hB := hB.trans (hst.mono hB.size)
        refine hK.out _ _ ?_ (fun hHeld => ?_)
        · (try dsimp only); exact hmv _ hB
        clear hK K hst
        (try simp only [List.getElem_toArray, List.getElem_cons_succ, List.getElem_cons_zero, Act.put, List.setIfInBounds_toArray, List.set_cons_zero, List.set_cons_succ])
        change wpAnyH _ _ _ _ _ _ _ _ (V1.alloc (.cells (cells5 zeroT (.slice none 0 0)) 29))
        generalize V1.alloc (.cells (cells5 zeroT (.slice none 0 0)) 29) = V9 at hB hHeld hsrc ht hrow hn5 ⊢
        refine wpAnyH_ready (rs := [6]) (by kernel_rfl) (by simp) ?_
        refine (AllReadyH.cons rfl (fun K hK => ?_) AllReadyH.nil)
        have hlt5V10 := (Array.getElem?_eq_some_iff.1 hn5).1
        refine step_append_brow rfl _ _ rfl w6.heap.size (Value.slice (some ⟨V0.heap.size, 0, none⟩) 1 1) [((⟨s, t⟩ : Bd), Value.slice pt t.l.length ct)] rfl hrow pl l.length cl Ls rfl hsrc hlenA hB.size ?_
        intro vrV10 V10 hrow hgrow hown hst0
        have hn5 := (hgrow.block _ (Array.getElem?_eq_some_iff.1 hn5).1 (fun e0 => hne5 _ e0.symm rfl)).trans hn5
        have hne5 : ∀ g, vrV10.ownBlock = some g → g ≠ V1.heap.size := fun g hg => hown.elim (fun h => hne5 g (h ▸ hg)) (fun h => by have h1 := h g hg; have h2 : V1.heap.size < V9.heap.size := hlt5V10; omega)
        have hB := hB.trans hst0
        refine hK.out _ _ ?_ (fun hHeld => ?_)
        · (try dsimp only); exact hmv _ hB
        clear hK K
        (try simp only [List.getElem_toArray, List.getElem_cons_succ, List.getElem_cons_zero, Act.put])
        refine wpAnyH_ready (rs := [7]) (by kernel_rfl) (by simp) ?_
        refine (AllReadyH.cons rfl (fun K hK => ?_) AllReadyH.nil)
        have hb5lt := (Array.getElem?_eq_some_iff.1 hn5).1
        have hbn := hrow.bindsF (F := fun g => g ≠ V1.heap.size) (fun g hg => by have := hge5; omega) hne5 hlenC
        have cV := gVal_any (F := fun g => g ≠ V1.heap.size) (x := vN s) (sv := .slice none 0 0) (HL.out.under (HB6.out.trans (hB.mono HB6.out.size))) (fun g hg => by omega) (HN.out _ _) hbn
        go_simp
        go_wp2_with (go_at_call 21; refine cV.mono ?_; rintro e V11 ⟨y, yv, er, rfl, hy, hst, hq⟩; obtain ⟨py, cy, rfl⟩ := hy.kids.slice)
        have hn5 := (hst.block _ (Array.getElem?_eq_some_iff.1 hn5).1).trans hn5
        have hB := hB.trans (hst.mono hB.size)
        refine hK.out _ _ ?_ (fun hHeld => ?_)
        · (try dsimp only); exact hmv _ hB
        clear hK K hst
        (try simp only [List.getElem_toArray, List.getElem_cons_succ, List.getElem_cons_zero, Act.put, List.setIfInBounds_toArray, List.set_cons_zero, List.set_cons_succ])
        refine wpAnyH_take (i := 8) (v := ?_) rfl (by kernel_rfl) (by kernel_rfl) (by kernel_rfl) (fun _ _ _ h => h) (Or.inl ⟨by rfl, ?_⟩) (by assumption) ?_
        rotate_left 1
        (intro w hSw; (try dsimp only at hSw); go_simp; try with_reducible rfl)
        (try simp only [List.getElem_toArray, List.getElem_cons_succ, List.getElem_cons_zero, Act.put, List.setIfInBounds_toArray, List.set_cons_zero, List.set_cons_succ])
        refine wpAnyH_take (i := 9) (v := ?_) rfl (by kernel_rfl) (by kernel_rfl) (by kernel_rfl) (fun _ _ _ h => h) (Or.inl ⟨by rfl, ?_⟩) (by assumption) ?_
        rotate_left 1
        (intro w hSw; (try dsimp only at hSw); go_simp; try with_reducible rfl)
        (try simp only [List.getElem_toArray, List.getElem_cons_succ, List.getElem_cons_zero, Act.put, List.setIfInBounds_toArray, List.set_cons_zero, List.set_cons_succ])
        refine wpAnyH_take (i := 10) (v := ?_) rfl (by kernel_rfl) (by kernel_rfl) (by kernel_rfl) (fun _ _ _ h => h) (Or.inl ⟨by rfl, ?_⟩) (by assumption) ?_
        rotate_left 1
        (intro w hSw; (try dsimp only at hSw); go_simp; try with_reducible rfl)
        (try simp only [List.getElem_toArray, List.getElem_cons_succ, List.getElem_cons_zero, Act.put, List.setIfInBounds_toArray, List.set_cons_zero, List.set_cons_succ])
        refine wpAnyH_ready (rs := [12]) (by kernel_rfl) (by simp) ?_
        refine (AllReadyH.cons rfl (fun K hK => ?_) AllReadyH.nil)
        have hB := below_setRow (g := V1.heap.size) (cells := (cells5 y (.slice py y.l.length cy))) hB hge5
        have hn6 := setRow_heap' (cells := (cells5 y (.slice py y.l.length cy))) hn5
        have hy6 := hy.move (P' := fun _ => True) (fun g hg _ => setRow_ne (cells := (cells5 y (.slice py y.l.length cy))) hg) (fun _ _ _ => trivial)
        refine step_store_row rfl 29 _ _ rfl (V1.heap.size) (cells5 y (.slice py y.l.length cy)) (by kernel_rfl) (by kernel_rfl) 29 (cells5 zeroT (.slice none 0 0)) hn5 (size28 _ _) (by kernel_rfl) (by kernel_rfl) ?_
        refine hK.out _ _ ?_ (fun hHeld => ?_)
        · (try dsimp only); exact hmv _ hB
        clear hK K
        (try simp only [List.getElem_toArray, List.getElem_cons_succ, List.getElem_cons_zero, Act.put])
        refine wpAnyH_take (i := 13) (v := ?_) rfl (by kernel_rfl) (by kernel_rfl) (by kernel_rfl) (fun _ _ _ h => h) (Or.inl ⟨by rfl, ?_⟩) (by assumption) ?_
        rotate_left 1
        (intro w hSw; (try dsimp only at hSw); go_simp; try with_reducible rfl)
        (try simp only [List.getElem_toArray, List.getElem_cons_succ, List.getElem_cons_zero, Act.put, List.setIfInBounds_toArray, List.set_cons_zero, List.set_cons_succ])
        refine wpAnyH_done (by kernel_rfl) ?_ _
        go_wp2_with fail
        go_meet
        exact ⟨_, _, _, _, rfl, rfl, hn6, hy6, hq, hB⟩
    · go_simp
      have hst := alloc_below V0 (.cells (cells5 zeroT (.slice none 0 0)) 29)
      have hge5 : w6.heap.size ≤ V0.heap.size := hB.size
      have hn5 := heap_new V0 (.cells (cells5 zeroT (.slice none 0 0)) 29)
      have hsrc := hsrc.under hst
      have ht := ht.below hst
      have hB := hB.trans (hst.mono hB.size)
      refine hK.out _ _ ?_ (fun hHeld => ?_)
      · (try dsimp only); exact hmv _ hB
      clear hK K hst
      (try simp only [List.getElem_toArray, List.getElem_cons_succ, List.getElem_cons_zero, Act.put, List.setIfInBounds_toArray, List.set_cons_zero, List.set_cons_succ])
      change wpAnyH _ _ _ _ _ _ _ _ (V0.alloc (.cells (cells5 zeroT (.slice none 0 0)) 29))
      generalize V0.alloc (.cells (cells5 zeroT (.slice none 0 0)) 29) = V13 at hB hHeld hsrc ht hn5 ⊢
      refine wpAnyH_ready (rs := [4]) (by kernel_rfl) (by simp) ?_
      refine (AllReadyH.cons rfl (fun K hK => ?_) AllReadyH.nil)
      go_simp
      have hst := alloc_below V13 (.cells #[.string s, .int .i8 t.k, .int .i64 t.n, .string t.s, .string t.t, .slice pt t.l.length ct] 40)
      have hne5 : ∀ g, (Value.slice (some ⟨V13.heap.size, 0, none⟩) 1 1).ownBlock = some g → g ≠ V0.heap.size := fun g hg => by cases hg; exact Nat.ne_of_gt (Array.getElem?_eq_some_iff.1 hn5).1
      have hrow := BRow.one (base := w6.heap.size) (d := ⟨s, t⟩) (heap_new V13 (.cells #[.string s, .int .i8 t.k, .int .i64 t.n, .string t.s, .string t.t, .slice pt t.l.length ct] 40)) (ht.below hst) hsz hB.size
      have hsrc := hsrc.under hst
      have ht := ht.below hst
      have hn5 := (hst.block _ (Array.getElem?_eq_some_iff.1 hn5).1).trans hn5
      have hB := hB.trans (hst.mono hB.size)
      refine hK.out _ _ ?_ (fun hHeld => ?_)
      · (try dsimp only); exact hmv _ hB
      clear hK K hst
      (try simp only [List.getElem_toArray, List.getElem_cons_succ, List.getElem_cons_zero, Act.put, List.setIfInBounds_toArray, List.set_cons_zero, List.set_cons_succ])
      change wpAnyH _ _ _ _ _ _ _ _ (V13.alloc (.cells #[.string s, .int .i8 t.k, .int .i64 t.n, .string t.s, .string t.t, .slice pt t.l.length ct] 40))
      generalize V13.alloc (.cells #[.string s, .int .i8 t.k, .int .i64 t.n, .string t.s, .string t.t, .slice pt t.l.length ct] 40) = V14 at hB hHeld hsrc ht hn5 hrow ⊢
      refine wpAnyH_ready (rs := [6]) (by kernel_rfl) (by simp) ?_
      refine (AllReadyH.cons rfl (fun K hK => ?_) AllReadyH.nil)
      have hlt5V15 := (Array.getElem?_eq_some_iff.1 hn5).1
      refine step_append_brow rfl _ _ rfl w6.heap.size (Value.slice (some ⟨V13.heap.size, 0, none⟩) 1 1) [((⟨s, t⟩ : Bd), Value.slice pt t.l.length ct)] rfl hrow pl l.length cl Ls rfl hsrc hlenA hB.size ?_
      intro vrV15 V15 hrow hgrow hown hst0
      have hn5 := (hgrow.block _ (Array.getElem?_eq_some_iff.1 hn5).1 (fun e0 => hne5 _ e0.symm rfl)).trans hn5
      have hne5 : ∀ g, vrV15.ownBlock = some g → g ≠ V0.heap.size := fun g hg => hown.elim (fun h => hne5 g (h ▸ hg)) (fun h => by have h1 := h g hg; have h2 : V0.heap.size < V14.heap.size := hlt5V15; omega)
      have hB := hB.trans hst0
      refine hK.out _ _ ?_ (fun hHeld => ?_)
      · (try dsimp only); exact hmv _ hB
      clear hK K
      (try simp only [List.getElem_toArray, List.getElem_cons_succ, List.getElem_cons_zero, Act.put])
      refine wpAnyH_ready (rs := [7]) (by kernel_rfl) (by simp) ?_
      refine (AllReadyH.cons rfl (fun K hK => ?_) AllReadyH.nil)
      have hb5lt := (Array.getElem?_eq_some_iff.1 hn5).1
      have hbn := hrow.bindsF (F := fun g => g ≠ V0.heap.size) (fun g hg => by have := hge5; omega) hne5 hlenC
      have cV := gVal_any (F := fun g => g ≠ V0.heap.size) (x := vN s) (sv := .slice none 0 0) (HL.out.under (HB6.out.trans (hB.mono HB6.out.size))) (fun g hg => by omega) (HN.out _ _) hbn
      go_simp
      go_wp2_with (go_at_call 21; refine cV.mono ?_; rintro e V16 ⟨y, yv, er, rfl, hy, hst, hq⟩; obtain ⟨py, cy, rfl⟩ := hy.kids.slice)
      have hn5 := (hst.block _ (Array.getElem?_eq_some_iff.1 hn5).1).trans hn5
      have hB := hB.trans (hst.mono hB.size)
      refine hK.out _ _ ?_ (fun hHeld => ?_)
      · (try dsimp only); exact hmv _ hB
      clear hK K hst
      (try simp only [List.getElem_toArray, List.getElem_cons_succ, List.getElem_cons_zero, Act.put, List.setIfInBounds_toArray, List.set_cons_zero, List.set_cons_succ])
      refine wpAnyH_take (i := 8) (v := ?_) rfl (by kernel_rfl) (by kernel_rfl) (by kernel_rfl) (fun _ _ _ h => h) (Or.inl ⟨by rfl, ?_⟩) (by assumption) ?_
      rotate_left 1
      (intro w hSw; (try dsimp only at hSw); go_simp; try with_reducible rfl)
      (try simp only [List.getElem_toArray, List.getElem_cons_succ, List.getElem_cons_zero, Act.put, List.setIfInBounds_toArray, List.set_cons_zero, List.set_cons_succ])
      refine wpAnyH_take (i := 9) (v := ?_) rfl (by kernel_rfl) (by kernel_rfl) (by kernel_rfl) (fun _ _ _ h => h) (Or.inl ⟨by rfl, ?_⟩) (by assumption) ?_
      rotate_left 1
      (intro w hSw; (try dsimp only at hSw); go_simp; try with_reducible rfl)
      (try simp only [List.getElem_toArray, List.getElem_cons_succ, List.getElem_cons_zero, Act.put, List.setIfInBounds_toArray, List.set_cons_zero, List.set_cons_succ])
      refine wpAnyH_take (i := 10) (v := ?_) rfl (by kernel_rfl) (by kernel_rfl) (by kernel_rfl) (fun _ _ _ h => h) (Or.inl ⟨by rfl, ?_⟩) (by assumption) ?_
      rotate_left 1
      (intro w hSw; (try dsimp only at hSw); go_simp; try with_reducible rfl)
      (try simp only [List.getElem_toArray, List.getElem_cons_succ, List.getElem_cons_zero, Act.put, List.setIfInBounds_toArray, List.set_cons_zero, List.set_cons_succ])
      refine wpAnyH_ready (rs := [12]) (by kernel_rfl) (by simp) ?_
      refine (AllReadyH.cons rfl (fun K hK => ?_) AllReadyH.nil)
      have hB := below_setRow (g := V0.heap.size) (cells := (cells5 y (.slice py y.l.length cy))) hB hge5
      have hn6 := setRow_heap' (cells := (cells5 y (.slice py y.l.length cy))) hn5
      have hy6 := hy.move (P' := fun _ => True) (fun g hg _ => setRow_ne (cells := (cells5 y (.slice py y.l.length cy))) hg) (fun _ _ _ => trivial)
      refine step_store_row rfl 29 _ _ rfl (V0.heap.size) (cells5 y (.slice py y.l.length cy)) (by kernel_rfl) (by kernel_rfl) 29 (cells5 zeroT (.slice none 0 0)) hn5 (size28 _ _) (by kernel_rfl) (by kernel_rfl) ?_
      refine hK.out _ _ ?_ (fun hHeld => ?_)
      · (try dsimp only); exact hmv _ hB
      clear hK K
      (try simp only [List.getElem_toArray, List.getElem_cons_succ, List.getElem_cons_zero, Act.put])
      refine wpAnyH_take (i := 13) (v := ?_) rfl (by kernel_rfl) (by kernel_rfl) (by kernel_rfl) (fun _ _ _ h => h) (Or.inl ⟨by rfl, ?_⟩) (by assumption) ?_
      rotate_left 1
      (intro w hSw; (try dsimp only at hSw); go_simp; try with_reducible rfl)
      (try simp only [List.getElem_toArray, List.getElem_cons_succ, List.getElem_cons_zero, Act.put, List.setIfInBounds_toArray, List.set_cons_zero, List.set_cons_succ])
      refine wpAnyH_done (by kernel_rfl) ?_ _
      go_wp2_with fail
      go_meet
      exact ⟨_, _, _, _, rfl, rfl, hn6, hy6, hq, hB⟩
  case rest =>
  obtain ⟨b8, y8, yv8, e8, rfl, rfl, hn8, hy8, hq8, hBc⟩ := hcut
  have hq9 := hq8.trans (show valS (vN s) (([((⟨s, t⟩ : Bd), Value.slice pt t.l.length ct)] ++ Ls).map (·.1)) = (t, 0) by rw [List.map_append, HLs.out]; exact HF1.out)
  obtain ⟨hy1, rfl⟩ := Prod.mk.inj hq9
  obtain rfl : t = y8 := hy1.symm
  have hB10 := hB6.trans (hBc.mono hB6.size)
  obtain ⟨p8, c8, rfl⟩ := hy8.kids.slice
  have f0 : wc.cell? ⟨b8, 0, none⟩ = some (.int .i8 t.k) := (arr_cell hn8).trans rfl
  have f1 : wc.cell? ⟨b8, 1, none⟩ = some (.int .i64 t.n) := (arr_cell hn8).trans rfl
  have f2 : wc.cell? ⟨b8, 2, none⟩ = some (.string t.s) := (arr_cell hn8).trans rfl
  have f3 : wc.cell? ⟨b8, 3, none⟩ = some (.string t.t) := (arr_cell hn8).trans rfl
  have f4 : wc.cell? ⟨b8, 4, none⟩ = some (.slice p8 t.l.length c8) := (arr_cell hn8).trans rfl
  obtain ⟨d0, d1, d2, d3, d4⟩ := (HTC.out _ hB10).out
  have cS := rsame_any t t wc _ _ hy8 (HT.out.below hB10)
  rw [same_self] at cS
  obtain ⟨ob, hob⟩ : ∃ ob, bfind l s = ob := ⟨_, rfl⟩
  obtain ⟨ok, hok⟩ : ∃ b, ob.isSome = b := ⟨_, rfl⟩
  have cF : ∀ W : World, Below w1.heap.size w1 W → Calls Tryz.prog 23 #[.slice pl l.length cl, .string s] W (FsFind ob ok W) := by
    intro W hW
    refine (gfind_any (s := s) (HS.out.under hW)).mono ?_
    rintro e w' ⟨x, sv, rfl, h1, h2, h3⟩
    rw [hob] at h2
    exact ⟨x, sv, by rw [hob, hok], h1, h2, h3⟩
  have HOB := Lib.hid hob
  have HOK := Lib.hid hok
  clear hq8 hq9 hy1 hob hok hn8 hmv hlenA hlenC ht hsrc hsz nN n1
  go_upto_region 8 with (first
    | (go_at_call 25; refine cS.mono ?_; rintro e w7 ⟨rfl, hb7⟩; have hB7 := hB10.trans (hb7.mono hB10.size))
    | (go_at_call 23; refine (cF _ hB7).mono ?_; rintro e w8 ⟨x10, xv10, rfl, hx10, hxe, hb8⟩; obtain ⟨p10, c10, rfl⟩ := hx10.kids.slice; have hz10 := heap_new w8 (.cells (cells5 zeroT (.slice none 0 0)) 29); have hB8 := hB7.trans (hb8.mono hB7.size); have HXE := Lib.hid hxe; clear hxe)
    | (refine wpList_store_row rfl 29 _ _ rfl w8.heap.size (cells5 x10 (.slice p10 x10.l.length c10)) (by kernel_rfl) (by kernel_rfl) 29 (cells5 zeroT (.slice none 0 0)) hz10 (size28 _ _) (by kernel_rfl) (by kernel_rfl) ?_))
  have hb89 := below_setRow (g := w8.heap.size) (cells := cells5 x10 (.slice p10 x10.l.length c10)) (alloc_below w8 (.cells (cells5 zeroT (.slice none 0 0)) 29)) (Nat.le_refl _)
  have n10 := setRow_heap' (cells := cells5 x10 (.slice p10 x10.l.length c10)) hz10
  change Code.wp _ _ _ _ ((w8.alloc (.cells (cells5 zeroT (.slice none 0 0)) 29)).setRow w8.heap.size (cells5 x10 (.slice p10 x10.l.length c10)))
  have hx10 := hx10.below hb89
  have hB9 := hB8.trans (hb89.mono hB8.size)
  clear hz10 cS f0 f1 f2 f3 f4 d0 d1 d2 d3 d4
  generalize (w8.alloc (.cells (cells5 zeroT (.slice none 0 0)) 29)).setRow w8.heap.size (cells5 x10 (.slice p10 x10.l.length c10)) = w9 at n10 hx10 hB9 hb89 ⊢
  obtain ⟨b10, hb10⟩ : ∃ b, w8.heap.size = b := ⟨_, rfl⟩
  rw [hb10] at n10 ⊢
  clear hb10
  have N10 := Lib.hid n10
  have X10 := Lib.hid hx10
  have h68 : Below w6.heap.size w6 w8 := (hBc.trans (hb7.mono hBc.size)).trans (hb8.mono (Nat.le_trans hBc.size hb7.size))
  have h69 : Below w6.heap.size w6 w9 := h68.trans (hb89.mono h68.size)
  have HH69 := Lib.hid h69
  have HMV9 := Lib.hid (fun (V : World) (hv : Below w9.heap.size w9 V) => HMV.out V (h69.trans (hv.mono h69.size)))
  have hmv := HMV9.out
  have HB6 := Lib.hid (hb1.trans (hB9.mono hb1.size))
  obtain ⟨Ls, hLs, hsrc⟩ := Binds.src (((HS.out.under hB9).mono (F' := fun g => g < w9.heap.size) fun g _ h => h))
  have hLl : Ls.length = l.length := by rw [← hLs, List.length_map]
  have HLs := Lib.hid hLs
  have hsz := HSZ.out
  have hlenA : ([] : List (Bd × Value)).length + Ls.length ≤ 1048576 := by simp; omega
  have hlenB : ([] ++ Ls : List (Bd × Value)).length + ([((⟨s, t⟩ : Bd), Value.slice pt t.l.length ct)] : List (Bd × Value)).length ≤ 1048576 := by simp; omega
  have hlenC : (([] ++ Ls) ++ [((⟨s, t⟩ : Bd), Value.slice pt t.l.length ct)] : List (Bd × Value)).length ≤ BL := by simp [BL]; omega
  have ht : TrV (fun g => g < w9.heap.size) w9 t (Value.slice pt t.l.length ct) := (HT.out.below hB9).mono fun g _ h => h
  clear hLs n10 hx10 hy8 hb7 hb8 hb89 h68 h69
  go_cut [12, 13] (fun s12 s13 wx => FsMid (valS (vN s) ((([] ++ Ls : List (Bd × Value)) ++ [((⟨s, t⟩ : Bd), Value.slice pt t.l.length ct)]).map (·.1))) w9 s12 s13 wx)
  case first =>
    have hB : Below w9.heap.size w9 w9.drew := below_drewN (Below.refl _ _) 1
    refine wp_region_held_drew (S := fun V => V.cell? ⟨bN, 0, none⟩ = some (.int .i8 5) ∧ V.cell? ⟨bN, 1, none⟩ = some (.int .i64 0) ∧ V.cell? ⟨bN, 2, none⟩ = some (.string s) ∧ V.cell? ⟨bN, 3, none⟩ = some (.string ⟨#[]⟩) ∧ V.cell? ⟨bN, 4, none⟩ = some (.slice none 0 0) ∧ V.cell? ⟨w.heap.size, 0, none⟩ = some (.int .i8 t.k) ∧ V.cell? ⟨w.heap.size, 1, none⟩ = some (.int .i64 t.n) ∧ V.cell? ⟨w.heap.size, 2, none⟩ = some (.string t.s) ∧ V.cell? ⟨w.heap.size, 3, none⟩ = some (.string t.t) ∧ V.cell? ⟨w.heap.size, 4, none⟩ = some (.slice pt t.l.length ct)) (by kernel_rfl) ?_ (fun hHeld => ?_)
    · (try dsimp only); exact hmv _ hB
    have hsrc := hsrc.under hB
    have ht := ht.below hB
    change wpAnyH _ _ _ _ _ _ _ _ (w9.drew)
    generalize w9.drew = U0 at hB hHeld hsrc ht ⊢
    refine wpAnyH_take (i := 0) (v := ?_) rfl (by kernel_rfl) (by kernel_rfl) (by kernel_rfl) (fun _ _ _ h => h) (Or.inl ⟨by rfl, ?_⟩) (by assumption) ?_
    rotate_left 1
    (intro w hSw; (try dsimp only at hSw); go_simp; try with_reducible rfl)
    (try simp only [List.getElem_toArray, List.getElem_cons_zero, Act.put, List.setIfInBounds_toArray, List.set_cons_zero, List.set_cons_succ])
    refine wpAnyH_take (i := 2) (v := ?_) rfl (by kernel_rfl) (by kernel_rfl) (by kernel_rfl) (fun _ _ _ h => h) (Or.inl ⟨by rfl, ?_⟩) (by assumption) ?_
    rotate_left 1
    (intro w hSw; (try dsimp only at hSw); go_simp; try with_reducible rfl)
    (try simp only [List.getElem_toArray, List.getElem_cons_succ, List.getElem_cons_zero, Act.put, List.setIfInBounds_toArray, List.set_cons_zero, List.set_cons_succ])
    refine wpAnyH_take (i := 4) (v := ?_) rfl (by kernel_rfl) (by kernel_rfl) (by kernel_rfl) (fun _ _ _ h => h) (Or.inl ⟨by rfl, ?_⟩) (by assumption) ?_
    rotate_left 1
    (intro w hSw; (try dsimp only at hSw); go_simp; try with_reducible rfl)
    (try simp only [List.getElem_toArray, List.getElem_cons_succ, List.getElem_cons_zero, Act.put, List.setIfInBounds_toArray, List.set_cons_zero, List.set_cons_succ])
    refine wpAnyH_take (i := 5) (v := ?_) rfl (by kernel_rfl) (by kernel_rfl) (by kernel_rfl) (fun _ _ _ h => h) (Or.inl ⟨by rfl, ?_⟩) (by assumption) ?_
    rotate_left 1
    (intro w hSw; (try dsimp only at hSw); go_simp; try with_reducible rfl)
    (try simp only [List.getElem_toArray, List.getElem_cons_succ, List.getElem_cons_zero, Act.put, List.setIfInBounds_toArray, List.set_cons_zero, List.set_cons_succ])
    refine wpAnyH_take (i := 6) (v := ?_) rfl (by kernel_rfl) (by kernel_rfl) (by kernel_rfl) (fun _ _ _ h => h) (Or.inl ⟨by rfl, ?_⟩) (by assumption) ?_
    rotate_left 1
    (intro w hSw; (try dsimp only at hSw); go_simp; try with_reducible rfl)
    (try simp only [List.getElem_toArray, List.getElem_cons_succ, List.getElem_cons_zero, Act.put, List.setIfInBounds_toArray, List.set_cons_zero, List.set_cons_succ])
    refine wpAnyH_ready (rs := [1, 7, 13]) (by kernel_rfl) (by simp) ?_
    refine (AllReadyH.cons rfl (fun K hK => ?_) (AllReadyH.cons rfl (fun K hK => ?_) (AllReadyH.cons rfl (fun K hK => ?_) AllReadyH.nil)))
    · go_simp
      have hst := alloc_below U0 (.cells #[] 40)
      have hrow := BRow.zero (base := w9.heap.size) (heap_new U0 (.cells #[] 40)) hB.size
      have hsrc := hsrc.under hst
      have ht := ht.below hst
      have hB := hB.trans (hst.mono hB.size)
      refine hK.out _ _ ?_ (fun hHeld => ?_)
      · (try dsimp only); exact hmv _ hB
      clear hK K hst
      (try simp only [List.getElem_toArray, List.getElem_cons_succ, List.getElem_cons_zero, Act.put, List.setIfInBounds_toArray, List.set_cons_zero, List.set_cons_succ])
      change wpAnyH _ _ _ _ _ _ _ _ (U0.alloc (.cells #[] 40))
      generalize U0.alloc (.cells #[] 40) = U1 at hB hHeld hsrc ht hrow ⊢
      refine wpAnyH_ready (rs := [3, 7, 13]) (by kernel_rfl) (by simp) ?_
      refine (AllReadyH.cons rfl (fun K hK => ?_) (AllReadyH.cons rfl (fun K hK => ?_) (AllReadyH.cons rfl (fun K hK => ?_) AllReadyH.nil)))
      · refine step_append_brow rfl _ _ rfl w9.heap.size (Value.slice (some ⟨U0.heap.size, 0, none⟩) 0 0) [] rfl hrow pl l.length cl Ls rfl hsrc hlenA hB.size ?_
        intro vrU2 U2 hrow hgrow hown hst0
        have hB := hB.trans hst0
        have ht : TrV (fun g => g < w9.heap.size) U2 t (Value.slice pt t.l.length ct) := ⟨ht.wf, ht.kids.keep fun g hg _ => hst0.block g hg⟩
        refine hK.out _ _ ?_ (fun hHeld => ?_)
        · (try dsimp only); exact hmv _ hB
        clear hK K
        (try simp only [List.getElem_toArray, List.getElem_cons_succ, List.getElem_cons_zero, Act.put])
        refine wpAnyH_ready (rs := [7, 13]) (by kernel_rfl) (by simp) ?_
        refine (AllReadyH.cons rfl (fun K hK => ?_) (AllReadyH.cons rfl (fun K hK => ?_) AllReadyH.nil))
        · go_simp
          have hst := alloc_below U2 (.cells #[.string s, .int .i8 t.k, .int .i64 t.n, .string t.s, .string t.t, .slice pt t.l.length ct] 40)
          have hn7 := heap_new U2 (.cells #[.string s, .int .i8 t.k, .int .i64 t.n, .string t.s, .string t.t, .slice pt t.l.length ct] 40)
          have hne7 : ∀ g, (vrU2).ownBlock = some g → g ≠ U2.heap.size := fun g hg => Nat.ne_of_lt (hrow.own.lt g hg).2
          have ht := ht.below hst
          have hrow := hrow.under hst
          have hB := hB.trans (hst.mono hB.size)
          refine hK.out _ _ ?_ (fun hHeld => ?_)
          · (try dsimp only); exact hmv _ hB
          clear hK K hst
          (try simp only [List.getElem_toArray, List.getElem_cons_succ, List.getElem_cons_zero, Act.put, List.setIfInBounds_toArray, List.set_cons_zero, List.set_cons_succ])
          change wpAnyH _ _ _ _ _ _ _ _ (U2.alloc (.cells #[.string s, .int .i8 t.k, .int .i64 t.n, .string t.s, .string t.t, .slice pt t.l.length ct] 40))
          generalize U2.alloc (.cells #[.string s, .int .i8 t.k, .int .i64 t.n, .string t.s, .string t.t, .slice pt t.l.length ct] 40) = U3 at hB hHeld ht hrow hn7 ⊢
          refine wpAnyH_ready (rs := [8, 13]) (by kernel_rfl) (by simp) ?_
          refine (AllReadyH.cons rfl (fun K hK => ?_) (AllReadyH.cons rfl (fun K hK => ?_) AllReadyH.nil))
          · have hlt7U4 := (Array.getElem?_eq_some_iff.1 hn7).1
            refine step_append_brow rfl _ _ rfl w9.heap.size vrU2 ([] ++ Ls) rfl hrow (some ⟨U2.heap.size, 0, none⟩) 1 1 [((⟨s, t⟩ : Bd), Value.slice pt t.l.length ct)] rfl (BSrc.one (d := ⟨s, t⟩) hn7 ht hsz) hlenB hB.size ?_
            intro vrU4 U4 hrow hgrow hown hst0
            have hn7 := (hgrow.block _ (Array.getElem?_eq_some_iff.1 hn7).1 (fun e0 => hne7 _ e0.symm rfl)).trans hn7
            have hne7 : ∀ g, vrU4.ownBlock = some g → g ≠ U2.heap.size := fun g hg => hown.elim (fun h => hne7 g (h ▸ hg)) (fun h => by have h1 := h g hg; have h2 : U2.heap.size < U3.heap.size := hlt7U4; omega)
            have hB := hB.trans hst0
            refine hK.out _ _ ?_ (fun hHeld => ?_)
            · (try dsimp only); exact hmv _ hB
            clear hK K
            (try simp only [List.getElem_toArray, List.getElem_cons_succ, List.getElem_cons_zero, Act.put])
            refine wpAnyH_ready (rs := [9, 13]) (by kernel_rfl) (by simp) ?_
            refine (AllReadyH.cons rfl (fun K hK => ?_) (AllReadyH.cons rfl (fun K hK => ?_) AllReadyH.nil))
            · have hbn := hrow.bindsF (F := fun _ => True) (fun _ _ => trivial) (fun _ _ => trivial) hlenC
              have cV := gVal_any (F := fun _ => True) (x := vN s) (sv := .slice none 0 0) (HL.out.under (HB6.out.trans (hB.mono HB6.out.size))) (fun _ _ => trivial) (HN.out _ _) hbn
              go_simp
              go_wp2_with (go_at_call 21; refine cV.mono ?_; rintro e U5 ⟨y, yv, er, rfl, hy, hst, hq⟩; obtain ⟨py, cy, rfl⟩ := hy.kids.slice)
              have hB := hB.trans (hst.mono hB.size)
              refine hK.out _ _ ?_ (fun hHeld => ?_)
              · (try dsimp only); exact hmv _ hB
              clear hK K hst
              (try simp only [List.getElem_toArray, List.getElem_cons_succ, List.getElem_cons_zero, Act.put, List.setIfInBounds_toArray, List.set_cons_zero, List.set_cons_succ])
              refine wpAnyH_take (i := 10) (v := ?_) rfl (by kernel_rfl) (by kernel_rfl) (by kernel_rfl) (fun _ _ _ h => h) (Or.inl ⟨by rfl, ?_⟩) (by assumption) ?_
              rotate_left 1
              (intro w hSw; (try dsimp only at hSw); go_simp; try with_reducible rfl)
              (try simp only [List.getElem_toArray, List.getElem_cons_succ, List.getElem_cons_zero, Act.put, List.setIfInBounds_toArray, List.set_cons_zero, List.set_cons_succ])
              refine wpAnyH_take (i := 11) (v := ?_) rfl (by kernel_rfl) (by kernel_rfl) (by kernel_rfl) (fun _ _ _ h => h) (Or.inl ⟨by rfl, ?_⟩) (by assumption) ?_
              rotate_left 1
              (intro w hSw; (try dsimp only at hSw); go_simp; try with_reducible rfl)
              (try simp only [List.getElem_toArray, List.getElem_cons_succ, List.getElem_cons_zero, Act.put, List.setIfInBounds_toArray, List.set_cons_zero, List.set_cons_succ])
              refine wpAnyH_take (i := 12) (v := ?_) rfl (by kernel_rfl) (by kernel_rfl) (by kernel_rfl) (fun _ _ _ h => h) (Or.inl ⟨by rfl, ?_⟩) (by assumption) ?_
              rotate_left 1
              (intro w hSw; (try dsimp only at hSw); go_simp; try with_reducible rfl)
              (try simp only [List.getElem_toArray, List.getElem_cons_succ, List.getElem_cons_zero, Act.put, List.setIfInBounds_toArray, List.set_cons_zero, List.set_cons_succ])
              refine wpAnyH_ready (rs := [13]) (by kernel_rfl) (by simp) ?_
              refine (AllReadyH.cons rfl (fun K hK => ?_) AllReadyH.nil)
              go_simp
              have hst := alloc_below U5 (.cells (cells5 zeroT (.slice none 0 0)) 29)
              have hge5 : w9.heap.size ≤ U5.heap.size := hB.size
              have hy := hy.mono (P' := fun g => g ≠ U5.heap.size) (fun g _ hl => Nat.ne_of_lt hl)
              have hn5 := heap_new U5 (.cells (cells5 zeroT (.slice none 0 0)) 29)
              have hy := hy.below hst
              have hB := hB.trans (hst.mono hB.size)
              refine hK.out _ _ ?_ (fun hHeld => ?_)
              · (try dsimp only); exact hmv _ hB
              clear hK K hst
              (try simp only [List.getElem_toArray, List.getElem_cons_succ, List.getElem_cons_zero, Act.put, List.setIfInBounds_toArray, List.set_cons_zero, List.set_cons_succ])
              change wpAnyH _ _ _ _ _ _ _ _ (U5.alloc (.cells (cells5 zeroT (.slice none 0 0)) 29))
              generalize U5.alloc (.cells (cells5 zeroT (.slice none 0 0)) 29) = U6 at hB hHeld hy hn5 ⊢
              refine wpAnyH_ready (rs := [14]) (by kernel_rfl) (by simp) ?_
              refine (AllReadyH.cons rfl (fun K hK => ?_) AllReadyH.nil)
              have hB := below_setRow (g := U5.heap.size) (cells := (cells5 y (.slice py y.l.length cy))) hB hge5
              have hn6 := setRow_heap' (cells := (cells5 y (.slice py y.l.length cy))) hn5
              have hy6 := hy.move (P' := fun _ => True) (fun g hg _ => setRow_ne (cells := (cells5 y (.slice py y.l.length cy))) hg) (fun _ _ _ => trivial)
              refine step_store_row rfl 29 _ _ rfl (U5.heap.size) (cells5 y (.slice py y.l.length cy)) (by kernel_rfl) (by kernel_rfl) 29 (cells5 zeroT (.slice none 0 0)) hn5 (size28 _ _) (by kernel_rfl) (by kernel_rfl) ?_
              refine hK.out _ _ ?_ (fun hHeld => ?_)
              · (try dsimp only); exact hmv _ hB
              clear hK K
              (try simp only [List.getElem_toArray, List.getElem_cons_succ, List.getElem_cons_zero, Act.put])
              refine wpAnyH_take (i := 15) (v := ?_) rfl (by kernel_rfl) (by kernel_rfl) (by kernel_rfl) (fun _ _ _ h => h) (Or.inl ⟨by rfl, ?_⟩) (by assumption) ?_
              rotate_left 1
              (intro w hSw; (try dsimp only at hSw); go_simp; try with_reducible rfl)
              (try simp only [List.getElem_toArray, List.getElem_cons_succ, List.getElem_cons_zero, Act.put, List.setIfInBounds_toArray, List.set_cons_zero, List.set_cons_succ])
              refine wpAnyH_done (by kernel_rfl) ?_ _
              go_wp2_with fail
              go_meet
              exact ⟨_, _, _, _, rfl, rfl, hn6, hy6, hq, hB⟩
            · go_simp
              have hst := alloc_below U4 (.cells (cells5 zeroT (.slice none 0 0)) 29)
              have hge5 : w9.heap.size ≤ U4.heap.size := hB.size
              have hne5 : ∀ g, (vrU4).ownBlock = some g → g ≠ U4.heap.size := fun g hg => Nat.ne_of_lt (hrow.own.lt g hg).2
              have hn5 := heap_new U4 (.cells (cells5 zeroT (.slice none 0 0)) 29)
              have hrow := hrow.under hst
              have hB := hB.trans (hst.mono hB.size)
              refine hK.out _ _ ?_ (fun hHeld => ?_)
              · (try dsimp only); exact hmv _ hB
              clear hK K hst
              (try simp only [List.getElem_toArray, List.getElem_cons_succ, List.getElem_cons_zero, Act.put, List.setIfInBounds_toArray, List.set_cons_zero, List.set_cons_succ])
              change wpAnyH _ _ _ _ _ _ _ _ (U4.alloc (.cells (cells5 zeroT (.slice none 0 0)) 29))
              generalize U4.alloc (.cells (cells5 zeroT (.slice none 0 0)) 29) = U8 at hB hHeld hrow hn5 ⊢
              refine wpAnyH_ready (rs := [9]) (by kernel_rfl) (by simp) ?_
              refine (AllReadyH.cons rfl (fun K hK => ?_) AllReadyH.nil)
              have hb5lt := (Array.getElem?_eq_some_iff.1 hn5).1
              have hbn := hrow.bindsF (F := fun g => g ≠ U4.heap.size) (fun g hg => by have := hge5; omega) hne5 hlenC
              have cV := gVal_any (F := fun g => g ≠ U4.heap.size) (x := vN s) (sv := .slice none 0 0) (HL.out.under (HB6.out.trans (hB.mono HB6.out.size))) (fun g hg => by omega) (HN.out _ _) hbn
              go_simp
              go_wp2_with (go_at_call 21; refine cV.mono ?_; rintro e U9 ⟨y, yv, er, rfl, hy, hst, hq⟩; obtain ⟨py, cy, rfl⟩ := hy.kids.slice)
              have hn5 := (hst.block _ (Array.getElem?_eq_some_iff.1 hn5).1).trans hn5
              have hB := hB.trans (hst.mono hB.size)
              refine hK.out _ _ ?_ (fun hHeld => ?_)
              · (try dsimp only); exact hmv _ hB
              clear hK K hst
              (try simp only [List.getElem_toArray, List.getElem_cons_succ, List.getElem_cons_zero, Act.put, List.setIfInBounds_toArray, List.set_cons_zero, List.set_cons_succ])
              refine wpAnyH_take (i := 10) (v := ?_) rfl (by kernel_rfl) (by kernel_rfl) (by kernel_rfl) (fun _ _ _ h => h) (Or.inl ⟨by rfl, ?_⟩) (by assumption) ?_
              rotate_left 1
              (intro w hSw; (try dsimp only at hSw); go_simp; try with_reducible rfl)
              (try simp only [List.getElem_toArray, List.getElem_cons_succ, List.getElem_cons_zero, Act.put, List.setIfInBounds_toArray, List.set_cons_zero, List.set_cons_succ])
              refine wpAnyH_take (i := 11) (v := ?_) rfl (by kernel_rfl) (by kernel_rfl) (by kernel_rfl) (fun _ _ _ h => h) (Or.inl ⟨by rfl, ?_⟩) (by assumption) ?_
              rotate_left 1
              (intro w hSw; (try dsimp only at hSw); go_simp; try with_reducible rfl)
              (try simp only [List.getElem_toArray, List.getElem_cons_succ, List.getElem_cons_zero, Act.put, List.setIfInBounds_toArray, List.set_cons_zero, List.set_cons_succ])
              refine wpAnyH_take (i := 12) (v := ?_) rfl (by kernel_rfl) (by kernel_rfl) (by kernel_rfl) (fun _ _ _ h => h) (Or.inl ⟨by rfl, ?_⟩) (by assumption) ?_
              rotate_left 1
              (intro w hSw; (try dsimp only at hSw); go_simp; try with_reducible rfl)
              (try simp only [List.getElem_toArray, List.getElem_cons_succ, List.getElem_cons_zero, Act.put, List.setIfInBounds_toArray, List.set_cons_zero, List.set_cons_succ])
              refine wpAnyH_ready (rs := [14]) (by kernel_rfl) (by simp) ?_
              refine (AllReadyH.cons rfl (fun K hK => ?_) AllReadyH.nil)
              have hB := below_setRow (g := U4.heap.size) (cells := (cells5 y (.slice py y.l.length cy))) hB hge5
              have hn6 := setRow_heap' (cells := (cells5 y (.slice py y.l.length cy))) hn5
              have hy6 := hy.move (P' := fun _ => True) (fun g hg _ => setRow_ne (cells := (cells5 y (.slice py y.l.length cy))) hg) (fun _ _ _ => trivial)
              refine step_store_row rfl 29 _ _ rfl (U4.heap.size) (cells5 y (.slice py y.l.length cy)) (by kernel_rfl) (by kernel_rfl) 29 (cells5 zeroT (.slice none 0 0)) hn5 (size28 _ _) (by kernel_rfl) (by kernel_rfl) ?_
              refine hK.out _ _ ?_ (fun hHeld => ?_)
              · (try dsimp only); exact hmv _ hB
              clear hK K
              (try simp only [List.getElem_toArray, List.getElem_cons_succ, List.getElem_cons_zero, Act.put])
              refine wpAnyH_take (i := 15) (v := ?_) rfl (by kernel_rfl) (by kernel_rfl) (by kernel_rfl) (fun _ _ _ h => h) (Or.inl ⟨by rfl, ?_⟩) (by assumption) ?_
              rotate_left 1
              (intro w hSw; (try dsimp only at hSw); go_simp; try with_reducible rfl)
              (try simp only [List.getElem_toArray, List.getElem_cons_succ, List.getElem_cons_zero, Act.put, List.setIfInBounds_toArray, List.set_cons_zero, List.set_cons_succ])
              refine wpAnyH_done (by kernel_rfl) ?_ _
              go_wp2_with fail
              go_meet
              exact ⟨_, _, _, _, rfl, rfl, hn6, hy6, hq, hB⟩
          · go_simp
            have hst := alloc_below U3 (.cells (cells5 zeroT (.slice none 0 0)) 29)
            have hge5 : w9.heap.size ≤ U3.heap.size := hB.size
            have hne5 : ∀ g, (vrU2).ownBlock = some g → g ≠ U3.heap.size := fun g hg => Nat.ne_of_lt (hrow.own.lt g hg).2
            have hn5 := heap_new U3 (.cells (cells5 zeroT (.slice none 0 0)) 29)
            have ht := ht.below hst
            have hrow := hrow.under hst
            have hn7 := (hst.block _ (Array.getElem?_eq_some_iff.1 hn7).1).trans hn7
            have hB := hB.trans (hst.mono hB.size)
            refine hK.out _ _ ?_ (fun hHeld => ?_)
            · (try dsimp only); exact hmv _ hB
            clear hK K hst
            (try simp only [List.getElem_toArray, List.getElem_cons_succ, List.getElem_cons_zero, Act.put, List.setIfInBounds_toArray, List.set_cons_zero, List.set_cons_succ])
            change wpAnyH _ _ _ _ _ _ _ _ (U3.alloc (.cells (cells5 zeroT (.slice none 0 0)) 29))
            generalize U3.alloc (.cells (cells5 zeroT (.slice none 0 0)) 29) = U11 at hB hHeld ht hrow hn7 hn5 ⊢
            refine wpAnyH_ready (rs := [8]) (by kernel_rfl) (by simp) ?_
            refine (AllReadyH.cons rfl (fun K hK => ?_) AllReadyH.nil)
            have hlt7U12 := (Array.getElem?_eq_some_iff.1 hn7).1
            have hlt5U12 := (Array.getElem?_eq_some_iff.1 hn5).1
            refine step_append_brow rfl _ _ rfl w9.heap.size vrU2 ([] ++ Ls) rfl hrow (some ⟨U2.heap.size, 0, none⟩) 1 1 [((⟨s, t⟩ : Bd), Value.slice pt t.l.length ct)] rfl (BSrc.one (d := ⟨s, t⟩) hn7 ht hsz) hlenB hB.size ?_
            intro vrU12 U12 hrow hgrow hown hst0
            have hn5 := (hgrow.block _ (Array.getElem?_eq_some_iff.1 hn5).1 (fun e0 => hne5 _ e0.symm rfl)).trans hn5
            have hne5 : ∀ g, vrU12.ownBlock = some g → g ≠ U3.heap.size := fun g hg => hown.elim (fun h => hne5 g (h ▸ hg)) (fun h => by have h1 := h g hg; have h2 : U3.heap.size < U11.heap.size := hlt5U12; omega)
            have hn7 := (hgrow.block _ (Array.getElem?_eq_some_iff.1 hn7).1 (fun e0 => hne7 _ e0.symm rfl)).trans hn7
            have hne7 : ∀ g, vrU12.ownBlock = some g → g ≠ U2.heap.size := fun g hg => hown.elim (fun h => hne7 g (h ▸ hg)) (fun h => by have h1 := h g hg; have h2 : U2.heap.size < U11.heap.size := hlt7U12; omega)
            have hB := hB.trans hst0
            refine hK.out _ _ ?_ (fun hHeld => ?_)
            · (try dsimp only); exact hmv _ hB
            clear hK K
            (try simp only [List.getElem_toArray, List.getElem_cons_succ, List.getElem_cons_zero, Act.put])
            refine wpAnyH_ready (rs := [9]) (by kernel_rfl) (by simp) ?_
            refine (AllReadyH.cons rfl (fun K hK => ?_) AllReadyH.nil)
            have hb5lt := (Array.getElem?_eq_some_iff.1 hn5).1
            have hbn := hrow.bindsF (F := fun g => g ≠ U3.heap.size) (fun g hg => by have := hge5; omega) hne5 hlenC
            have cV := gVal_any (F := fun g => g ≠ U3.heap.size) (x := vN s) (sv := .slice none 0 0) (HL.out.under (HB6.out.trans (hB.mono HB6.out.size))) (fun g hg => by omega) (HN.out _ _) hbn
            go_simp
            go_wp2_with (go_at_call 21; refine cV.mono ?_; rintro e U13 ⟨y, yv, er, rfl, hy, hst, hq⟩; obtain ⟨py, cy, rfl⟩ := hy.kids.slice)
            have hn5 := (hst.block _ (Array.getElem?_eq_some_iff.1 hn5).1).trans hn5
            have hB := hB.trans (hst.mono hB.size)
            refine hK.out _ _ ?_ (fun hHeld => ?_)
            · (try dsimp only); exact hmv _ hB
            clear hK K hst
            (try simp only [List.getElem_toArray, List.getElem_cons_succ, List.getElem_cons_zero, Act.put, List.setIfInBounds_toArray, List.set_cons_zero, List.set_cons_succ])
            refine wpAnyH_take (i := 10) (v := ?_) rfl (by kernel_rfl) (by kernel_rfl) (by kernel_rfl) (fun _ _ _ h => h) (Or.inl ⟨by rfl, ?_⟩) (by assumption) ?_
            rotate_left 1
            (intro w hSw; (try dsimp only at hSw); go_simp; try with_reducible rfl)
            (try simp only [List.getElem_toArray, List.getElem_cons_succ, List.getElem_cons_zero, Act.put, List.setIfInBounds_toArray, List.set_cons_zero, List.set_cons_succ])
            refine wpAnyH_take (i := 11) (v := ?_) rfl (by kernel_rfl) (by kernel_rfl) (by kernel_rfl) (fun _ _ _ h => h) (Or.inl ⟨by rfl, ?_⟩) (by assumption) ?_
            rotate_left 1
            (intro w hSw; (try dsimp only at hSw); go_simp; try with_reducible rfl)
            (try simp only [List.getElem_toArray, List.getElem_cons_succ, List.getElem_cons_zero, Act.put, List.setIfInBounds_toArray, List.set_cons_zero, List.set_cons_succ])
            refine wpAnyH_take (i := 12) (v := ?_) rfl (by kernel_rfl) (by kernel_rfl) (by kernel_rfl) (fun _ _ _ h => h) (Or.inl ⟨by rfl, ?_⟩) (by assumption) ?_
            rotate_left 1
            (intro w hSw; (try dsimp only at hSw); go_simp; try with_reducible rfl)
            (try simp only [List.getElem_toArray, List.getElem_cons_succ, List.getElem_cons_zero, Act.put, List.setIfInBounds_toArray, List.set_cons_zero, List.set_cons_succ])
            refine wpAnyH_ready (rs := [14]) (by kernel_rfl) (by simp) ?_
            refine (AllReadyH.cons rfl (fun K hK => ?_) AllReadyH.nil)
            have hB := below_setRow (g := U3.heap.size) (cells := (cells5 y (.slice py y.l.length cy))) hB hge5
            have hn6 := setRow_heap' (cells := (cells5 y (.slice py y.l.length cy))) hn5
            have hy6 := hy.move (P' := fun _ => True) (fun g hg _ => setRow_ne (cells := (cells5 y (.slice py y.l.length cy))) hg) (fun _ _ _ => trivial)
            refine step_store_row rfl 29 _ _ rfl (U3.heap.size) (cells5 y (.slice py y.l.length cy)) (by kernel_rfl) (by kernel_rfl) 29 (cells5 zeroT (.slice none 0 0)) hn5 (size28 _ _) (by kernel_rfl) (by kernel_rfl) ?_
            refine hK.out _ _ ?_ (fun hHeld => ?_)
            · (try dsimp only); exact hmv _ hB
            clear hK K
            (try simp only [List.getElem_toArray, List.getElem_cons_succ, List.getElem_cons_zero, Act.put])
            refine wpAnyH_take (i := 15) (v := ?_) rfl (by kernel_rfl) (by kernel_rfl) (by kernel_rfl) (fun _ _ _ h => h) (Or.inl ⟨by rfl, ?_⟩) (by assumption) ?_
            rotate_left 1
            (intro w hSw; (try dsimp only at hSw); go_simp; try with_reducible rfl)
            (try simp only [List.getElem_toArray, List.getElem_cons_succ, List.getElem_cons_zero, Act.put, List.setIfInBounds_toArray, List.set_cons_zero, List.set_cons_succ])
            refine wpAnyH_done (by kernel_rfl) ?_ _
            go_wp2_with fail
            go_meet
            exact ⟨_, _, _, _, rfl, rfl, hn6, hy6, hq, hB⟩
        · go_simp
          have hst := alloc_below U2 (.cells (cells5 zeroT (.slice none 0 0)) 29)
          have hge5 : w9.heap.size ≤ U2.heap.size := hB.size
          have hne5 : ∀ g, (vrU2).ownBlock = some g → g ≠ U2.heap.size := fun g hg => Nat.ne_of_lt (hrow.own.lt g hg).2
          have hn5 := heap_new U2 (.cells (cells5 zeroT (.slice none 0 0)) 29)
          have ht := ht.below hst
          have hrow := hrow.under hst
          have hB := hB.trans (hst.mono hB.size)
          refine hK.out _ _ ?_ (fun hHeld => ?_)
          · (try dsimp only); exact hmv _ hB
          clear hK K hst
          (try simp only [List.getElem_toArray, List.getElem_cons_succ, List.getElem_cons_zero, Act.put, List.setIfInBounds_toArray, List.set_cons_zero, List.set_cons_succ])
          change wpAnyH _ _ _ _ _ _ _ _ (U2.alloc (.cells (cells5 zeroT (.slice none 0 0)) 29))
          generalize U2.alloc (.cells (cells5 zeroT (.slice none 0 0)) 29) = U15 at hB hHeld ht hrow hn5 ⊢
          refine wpAnyH_ready (rs := [7]) (by kernel_rfl) (by simp) ?_
          refine (AllReadyH.cons rfl (fun K hK => ?_) AllReadyH.nil)
          go_simp
          have hst := alloc_below U15 (.cells #[.string s, .int .i8 t.k, .int .i64 t.n, .string t.s, .string t.t, .slice pt t.l.length ct] 40)
          have hn7 := heap_new U15 (.cells #[.string s, .int .i8 t.k, .int .i64 t.n, .string t.s, .string t.t, .slice pt t.l.length ct] 40)
          have hne7 : ∀ g, (vrU2).ownBlock = some g → g ≠ U15.heap.size := fun g hg => Nat.ne_of_lt (hrow.own.lt g hg).2
          have ht := ht.below hst
          have hrow := hrow.under hst
          have hn5 := (hst.block _ (Array.getElem?_eq_some_iff.1 hn5).1).trans hn5
          have hB := hB.trans (hst.mono hB.size)
          refine hK.out _ _ ?_ (fun hHeld => ?_)
          · (try dsimp only); exact hmv _ hB
          clear hK K hst
          (try simp only [List.getElem_toArray, List.getElem_cons_succ, List.getElem_cons_zero, Act.put, List.setIfInBounds_toArray, List.set_cons_zero, List.set_cons_succ])
          change wpAnyH _ _ _ _ _ _ _ _ (U15.alloc (.cells #[.string s, .int .i8 t.k, .int .i64 t.n, .string t.s, .string t.t, .slice pt t.l.length ct] 40))
          generalize U15.alloc (.cells #[.string s, .int .i8 t.k, .int .i64 t.n, .string t.s, .string t.t, .slice pt t.l.length ct] 40) = U16 at hB hHeld ht hrow hn5 hn7 ⊢
          refine wpAnyH_ready (rs := [8]) (by kernel_rfl) (by simp) ?_
          refine (AllReadyH.cons rfl (fun K hK => ?_) AllReadyH.nil)
          have hlt7U17 := (Array.getElem?_eq_some_iff.1 hn7).1
          have hlt5U17 := (Array.getElem?_eq_some_iff.1 hn5).1
          refine step_append_brow rfl _ _ rfl w9.heap.size vrU2 ([] ++ Ls) rfl hrow (some ⟨U15.heap.size, 0, none⟩) 1 1 [((⟨s, t⟩ : Bd), Value.slice pt t.l.length ct)] rfl (BSrc.one (d := ⟨s, t⟩) hn7 ht hsz) hlenB hB.size ?_
          intro vrU17 U17 hrow hgrow hown hst0
          have hn5 := (hgrow.block _ (Array.getElem?_eq_some_iff.1 hn5).1 (fun e0 => hne5 _ e0.symm rfl)).trans hn5
          have hne5 : ∀ g, vrU17.ownBlock = some g → g ≠ U2.heap.size := fun g hg => hown.elim (fun h => hne5 g (h ▸ hg)) (fun h => by have h1 := h g hg; have h2 : U2.heap.size < U16.heap.size := hlt5U17; omega)
          have hn7 := (hgrow.block _ (Array.getElem?_eq_some_iff.1 hn7).1 (fun e0 => hne7 _ e0.symm rfl)).trans hn7
          have hne7 : ∀ g, vrU17.ownBlock = some g → g ≠ U15.heap.size := fun g hg => hown.elim (fun h => hne7 g (h ▸ hg)) (fun h => by have h1 := h g hg; have h2 : U15.heap.size < U16.heap.size := hlt7U17; omega)
          have hB := hB.trans hst0
          refine hK.out _ _ ?_ (fun hHeld => ?_)
          · (try dsimp only); exact hmv _ hB
          clear hK K
          (try simp only [List.getElem_toArray, List.getElem_cons_succ, List.getElem_cons_zero, Act.put])
          refine wpAnyH_ready (rs := [9]) (by kernel_rfl) (by simp) ?_
          refine (AllReadyH.cons rfl (fun K hK => ?_) AllReadyH.nil)
          have hb5lt := (Array.getElem?_eq_some_iff.1 hn5).1
          have hbn := hrow.bindsF (F := fun g => g ≠ U2.heap.size) (fun g hg => by have := hge5; omega) hne5 hlenC
          have cV := gVal_any (F := fun g => g ≠ U2.heap.size) (x := vN s) (sv := .slice none 0 0) (HL.out.under (HB6.out.trans (hB.mono HB6.out.size))) (fun g hg => by omega) (HN.out _ _) hbn
          go_simp
          go_wp2_with (go_at_call 21; refine cV.mono ?_; rintro e U18 ⟨y, yv, er, rfl, hy, hst, hq⟩; obtain ⟨py, cy, rfl⟩ := hy.kids.slice)
          have hn5 := (hst.block _ (Array.getElem?_eq_some_iff.1 hn5).1).trans hn5
          have hB := hB.trans (hst.mono hB.size)
          refine hK.out _ _ ?_ (fun hHeld => ?_)
          · (try dsimp only); exact hmv _ hB
          clear hK K hst
          (try simp only [List.getElem_toArray, List.getElem_cons_succ, List.getElem_cons_zero, Act.put, List.setIfInBounds_toArray, List.set_cons_zero, List.set_cons_succ])
          refine wpAnyH_take (i := 10) (v := ?_) rfl (by kernel_rfl) (by kernel_rfl) (by kernel_rfl) (fun _ _ _ h => h) (Or.inl ⟨by rfl, ?_⟩) (by assumption) ?_
          rotate_left 1
          (intro w hSw; (try dsimp only at hSw); go_simp; try with_reducible rfl)
          (try simp only [List.getElem_toArray, List.getElem_cons_succ, List.getElem_cons_zero, Act.put, List.setIfInBounds_toArray, List.set_cons_zero, List.set_cons_succ])
          refine wpAnyH_take (i := 11) (v := ?_) rfl (by kernel_rfl) (by kernel_rfl) (by kernel_rfl) (fun _ _ _ h => h) (Or.inl ⟨by rfl, ?_⟩) (by assumption) ?_
          rotate_left 1
          (intro w hSw; (try dsimp only at hSw); go_simp; try with_reducible rfl)
          (try simp only [List.getElem_toArray, List.getElem_cons_succ, List.getElem_cons_zero, Act.put, List.setIfInBounds_toArray, List.set_cons_zero, List.set_cons_succ])
          refine wpAnyH_take (i := 12) (v := ?_) rfl (by kernel_rfl) (by kernel_rfl) (by kernel_rfl) (fun _ _ _ h => h) (Or.inl ⟨by rfl, ?_⟩) (by assumption) ?_
          rotate_left 1
          (intro w hSw; (try dsimp only at hSw); go_simp; try with_reducible rfl)
          (try simp only [List.getElem_toArray, List.getElem_cons_succ, List.getElem_cons_zero, Act.put, List.setIfInBounds_toArray, List.set_cons_zero, List.set_cons_succ])
          refine wpAnyH_ready (rs := [14]) (by kernel_rfl) (by simp) ?_
          refine (AllReadyH.cons rfl (fun K hK => ?_) AllReadyH.nil)
          have hB := below_setRow (g := U2.heap.size) (cells := (cells5 y (.slice py y.l.length cy))) hB hge5
          have hn6 := setRow_heap' (cells := (cells5 y (.slice py y.l.length cy))) hn5
          have hy6 := hy.move (P' := fun _ => True) (fun g hg _ => setRow_ne (cells := (cells5 y (.slice py y.l.length cy))) hg) (fun _ _ _ => trivial)
          refine step_store_row rfl 29 _ _ rfl (U2.heap.size) (cells5 y (.slice py y.l.length cy)) (by kernel_rfl) (by kernel_rfl) 29 (cells5 zeroT (.slice none 0 0)) hn5 (size28 _ _) (by kernel_rfl) (by kernel_rfl) ?_
          refine hK.out _ _ ?_ (fun hHeld => ?_)
          · (try dsimp only); exact hmv _ hB
          clear hK K
          (try simp only [List.getElem_toArray, List.getElem_cons_succ, List.getElem_cons_zero, Act.put])
          refine wpAnyH_take (i := 15) (v := ?_) rfl (by kernel_rfl) (by kernel_rfl) (by kernel_rfl) (fun _ _ _ h => h) (Or.inl ⟨by rfl, ?_⟩) (by assumption) ?_
          rotate_left 1
          (intro w hSw; (try dsimp only at hSw); go_simp; try with_reducible rfl)
          (try simp only [List.getElem_toArray, List.getElem_cons_succ, List.getElem_cons_zero, Act.put, List.setIfInBounds_toArray, List.set_cons_zero, List.set_cons_succ])
          refine wpAnyH_done (by kernel_rfl) ?_ _
          go_wp2_with fail
          go_meet
          exact ⟨_, _, _, _, rfl, rfl, hn6, hy6, hq, hB⟩
      · go_simp
        have hst := alloc_below U1 (.cells #[.string s, .int .i8 t.k, .int .i64 t.n, .string t.s, .string t.t, .slice pt t.l.length ct] 40)
        have hn7 := heap_new U1 (.cells #[.string s, .int .i8 t.k, .int .i64 t.n, .string t.s, .string t.t, .slice pt t.l.length ct] 40)
        have hne7 : ∀ g, ((Value.slice (some ⟨U0.heap.size, 0, none⟩) 0 0)).ownBlock = some g → g ≠ U1.heap.size := fun g hg => Nat.ne_of_lt (hrow.own.lt g hg).2
        have hsrc := hsrc.under hst
        have ht := ht.below hst
        have hrow := hrow.under hst
        have hB := hB.trans (hst.mono hB.size)
        refine hK.out _ _ ?_ (fun hHeld => ?_)
        · (try dsimp only); exact hmv _ hB
        clear hK K hst
        (try simp only [List.getElem_toArray, List.getElem_cons_succ, List.getElem_cons_zero, Act.put, List.setIfInBounds_toArray, List.set_cons_zero, List.set_cons_succ])
        change wpAnyH _ _ _ _ _ _ _ _ (U1.alloc (.cells #[.string s, .int .i8 t.k, .int .i64 t.n, .string t.s, .string t.t, .slice pt t.l.length ct] 40))
        generalize U1.alloc (.cells #[.string s, .int .i8 t.k, .int .i64 t.n, .string t.s, .string t.t, .slice pt t.l.length ct] 40) = U20 at hB hHeld hsrc ht hrow hn7 ⊢
        refine wpAnyH_ready (rs := [3, 13]) (by kernel_rfl) (by simp) ?_
        refine (AllReadyH.cons rfl (fun K hK => ?_) (AllReadyH.cons rfl (fun K hK => ?_) AllReadyH.nil))
        · have hlt7U21 := (Array.getElem?_eq_some_iff.1 hn7).1
          refine step_append_brow rfl _ _ rfl w9.heap.size (Value.slice (some ⟨U0.heap.size, 0, none⟩) 0 0) [] rfl hrow pl l.length cl Ls rfl hsrc hlenA hB.size ?_
          intro vrU21 U21 hrow hgrow hown hst0
          have hn7 := (hgrow.block _ (Array.getElem?_eq_some_iff.1 hn7).1 (fun e0 => hne7 _ e0.symm rfl)).trans hn7
          have hne7 : ∀ g, vrU21.ownBlock = some g → g ≠ U1.heap.size := fun g hg => hown.elim (fun h => hne7 g (h ▸ hg)) (fun h => by have h1 := h g hg; have h2 : U1.heap.size < U20.heap.size := hlt7U21; omega)
          have hB := hB.trans hst0
          have ht : TrV (fun g => g < w9.heap.size) U21 t (Value.slice pt t.l.length ct) := ⟨ht.wf, ht.kids.keep fun g hg _ => hst0.block g hg⟩
          refine hK.out _ _ ?_ (fun hHeld => ?_)
          · (try dsimp only); exact hmv _ hB
          clear hK K
          (try simp only [List.getElem_toArray, List.getElem_cons_succ, List.getElem_cons_zero, Act.put])
          refine wpAnyH_ready (rs := [8, 13]) (by kernel_rfl) (by simp) ?_
          refine (AllReadyH.cons rfl (fun K hK => ?_) (AllReadyH.cons rfl (fun K hK => ?_) AllReadyH.nil))
          · have hlt7U22 := (Array.getElem?_eq_some_iff.1 hn7).1
            refine step_append_brow rfl _ _ rfl w9.heap.size vrU21 ([] ++ Ls) rfl hrow (some ⟨U1.heap.size, 0, none⟩) 1 1 [((⟨s, t⟩ : Bd), Value.slice pt t.l.length ct)] rfl (BSrc.one (d := ⟨s, t⟩) hn7 ht hsz) hlenB hB.size ?_
            intro vrU22 U22 hrow hgrow hown hst0
            have hn7 := (hgrow.block _ (Array.getElem?_eq_some_iff.1 hn7).1 (fun e0 => hne7 _ e0.symm rfl)).trans hn7
            have hne7 : ∀ g, vrU22.ownBlock = some g → g ≠ U1.heap.size := fun g hg => hown.elim (fun h => hne7 g (h ▸ hg)) (fun h => by have h1 := h g hg; have h2 : U1.heap.size < U21.heap.size := hlt7U22; omega)
            have hB := hB.trans hst0
            refine hK.out _ _ ?_ (fun hHeld => ?_)
            · (try dsimp only); exact hmv _ hB
            clear hK K
            (try simp only [List.getElem_toArray, List.getElem_cons_succ, List.getElem_cons_zero, Act.put])
            refine wpAnyH_ready (rs := [9, 13]) (by kernel_rfl) (by simp) ?_
            refine (AllReadyH.cons rfl (fun K hK => ?_) (AllReadyH.cons rfl (fun K hK => ?_) AllReadyH.nil))
            · have hbn := hrow.bindsF (F := fun _ => True) (fun _ _ => trivial) (fun _ _ => trivial) hlenC
              have cV := gVal_any (F := fun _ => True) (x := vN s) (sv := .slice none 0 0) (HL.out.under (HB6.out.trans (hB.mono HB6.out.size))) (fun _ _ => trivial) (HN.out _ _) hbn
              go_simp
              go_wp2_with (go_at_call 21; refine cV.mono ?_; rintro e U23 ⟨y, yv, er, rfl, hy, hst, hq⟩; obtain ⟨py, cy, rfl⟩ := hy.kids.slice)
              have hB := hB.trans (hst.mono hB.size)
              refine hK.out _ _ ?_ (fun hHeld => ?_)
              · (try dsimp only); exact hmv _ hB
              clear hK K hst
              (try simp only [List.getElem_toArray, List.getElem_cons_succ, List.getElem_cons_zero, Act.put, List.setIfInBounds_toArray, List.set_cons_zero, List.set_cons_succ])
              refine wpAnyH_take (i := 10) (v := ?_) rfl (by kernel_rfl) (by kernel_rfl) (by kernel_rfl) (fun _ _ _ h => h) (Or.inl ⟨by rfl, ?_⟩) (by assumption) ?_
              rotate_left 1
              (intro w hSw; (try dsimp only at hSw); go_simp; try with_reducible rfl)
              (try simp only [List.getElem_toArray, List.getElem_cons_succ, List.getElem_cons_zero, Act.put, List.setIfInBounds_toArray, List.set_cons_zero, List.set_cons_succ])
              refine wpAnyH_take (i := 11) (v := ?_) rfl (by kernel_rfl) (by kernel_rfl) (by kernel_rfl) (fun _ _ _ h => h) (Or.inl ⟨by rfl, ?_⟩) (by assumption) ?_
              rotate_left 1
              (intro w hSw; (try dsimp only at hSw); go_simp; try with_reducible rfl)
              (try simp only [List.getElem_toArray, List.getElem_cons_succ, List.getElem_cons_zero, Act.put, List.setIfInBounds_toArray, List.set_cons_zero, List.set_cons_succ])
              refine wpAnyH_take (i := 12) (v := ?_) rfl (by kernel_rfl) (by kernel_rfl) (by kernel_rfl) (fun _ _ _ h => h) (Or.inl ⟨by rfl, ?_⟩) (by assumption) ?_
              rotate_left 1
              (intro w hSw; (try dsimp only at hSw); go_simp; try with_reducible rfl)
              (try simp only [List.getElem_toArray, List.getElem_cons_succ, List.getElem_cons_zero, Act.put, List.setIfInBounds_toArray, List.set_cons_zero, List.set_cons_succ])
              refine wpAnyH_ready (rs := [13]) (by kernel_rfl) (by simp) ?_
              refine (AllReadyH.cons rfl (fun K hK => ?_) AllReadyH.nil)
              go_simp
              have hst := alloc_below U23 (.cells (cells5 zeroT (.slice none 0 0)) 29)
              have hge5 : w9.heap.size ≤ U23.heap.size := hB.size
              have hy := hy.mono (P' := fun g => g ≠ U23.heap.size) (fun g _ hl => Nat.ne_of_lt hl)
              have hn5 := heap_new U23 (.cells (cells5 zeroT (.slice none 0 0)) 29)
              have hy := hy.below hst
              have hB := hB.trans (hst.mono hB.size)
              refine hK.out _ _ ?_ (fun hHeld => ?_)
              · (try dsimp only); exact hmv _ hB
              clear hK K hst
              (try simp only [List.getElem_toArray, List.getElem_cons_succ, List.getElem_cons_zero, Act.put, List.setIfInBounds_toArray, List.set_cons_zero, List.set_cons_succ])
              change wpAnyH _ _ _ _ _ _ _ _ (U23.alloc (.cells (cells5 zeroT (.slice none 0 0)) 29))
              generalize U23.alloc (.cells (cells5 zeroT (.slice none 0 0)) 29) = U24 at hB hHeld hy hn5 ⊢
              refine wpAnyH_ready (rs := [14]) (by kernel_rfl) (by simp) ?_
              refine (AllReadyH.cons rfl (fun K hK => ?_) AllReadyH.nil)
              have hB := below_setRow (g := U23.heap.size) (cells := (cells5 y (.slice py y.l.length cy))) hB hge5
              have hn6 := setRow_heap' (cells := (cells5 y (.slice py y.l.length cy))) hn5
              have hy6 := hy.move (P' := fun _ => True) (fun g hg _ => setRow_ne (cells := (cells5 y (.slice py y.l.length cy))) hg) (fun _ _ _ => trivial)
              refine step_store_row rfl 29 _ _ rfl (U23.heap.size) (cells5 y (.slice py y.l.length cy)) (by kernel_rfl) (by kernel_rfl) 29 (cells5 zeroT (.slice none 0 0)) hn5 (size28 _ _) (by kernel_rfl) (by kernel_rfl) ?_
              refine hK.out _ _ ?_ (fun hHeld => ?_)
              · (try dsimp only); exact hmv _ hB
              clear hK K
              (try simp only [List.getElem_toArray, List.getElem_cons_succ, List.getElem_cons_zero, Act.put])
              refine wpAnyH_take (i := 15) (v := ?_) rfl (by kernel_rfl) (by kernel_rfl) (by kernel_rfl) (fun _ _ _ h => h) (Or.inl ⟨by rfl, ?_⟩) (by assumption) ?_
              rotate_left 1
              (intro w hSw; (try dsimp only at hSw); go_simp; try with_reducible rfl)
              (try simp only [List.getElem_toArray, List.getElem_cons_succ, List.getElem_cons_zero, Act.put, List.setIfInBounds_toArray, List.set_cons_zero, List.set_cons_succ])
              refine wpAnyH_done (by kernel_rfl) ?_ _
              go_wp2_with fail
              go_meet
              exact ⟨_, _, _, _, rfl, rfl, hn6, hy6, hq, hB⟩
            · go_simp
              have hst := alloc_below U22 (.cells (cells5 zeroT (.slice none 0 0)) 29)
              have hge5 : w9.heap.size ≤ U22.heap.size := hB.size
              have hne5 : ∀ g, (vrU22).ownBlock = some g → g ≠ U22.heap.size := fun g hg => Nat.ne_of_lt (hrow.own.lt g hg).2
              have hn5 := heap_new U22 (.cells (cells5 zeroT (.slice none 0 0)) 29)
              have hrow := hrow.under hst
              have hB := hB.trans (hst.mono hB.size)
              refine hK.out _ _ ?_ (fun hHeld => ?_)
              · (try dsimp only); exact hmv _ hB
              clear hK K hst
              (try simp only [List.getElem_toArray, List.getElem_cons_succ, List.getElem_cons_zero, Act.put, List.setIfInBounds_toArray, List.set_cons_zero, List.set_cons_succ])
              change wpAnyH _ _ _ _ _ _ _ _ (U22.alloc (.cells (cells5 zeroT (.slice none 0 0)) 29))
              generalize U22.alloc (.cells (cells5 zeroT (.slice none 0 0)) 29) = U26 at hB hHeld hrow hn5 ⊢
              refine wpAnyH_ready (rs := [9]) (by kernel_rfl) (by simp) ?_
              refine (AllReadyH.cons rfl (fun K hK => ?_) AllReadyH.nil)
              have hb5lt := (Array.getElem?_eq_some_iff.1 hn5).1
              have hbn := hrow.bindsF (F := fun g => g ≠ U22.heap.size) (fun g hg => by have := hge5; omega) hne5 hlenC
              have cV := gVal_any (F := fun g => g ≠ U22.heap.size) (x := vN s) (sv := .slice none 0 0) (HL.out.under (HB6.out.trans (hB.mono HB6.out.size))) (fun g hg => by omega) (HN.out _ _) hbn
              go_simp
              go_wp2_with (go_at_call 21; refine cV.mono ?_; rintro e U27 ⟨y, yv, er, rfl, hy, hst, hq⟩; obtain ⟨py, cy, rfl⟩ := hy.kids.slice)
              have hn5 := (hst.block _ (Array.getElem?_eq_some_iff.1 hn5).1).trans hn5
              have hB := hB.trans (hst.mono hB.size)
              refine hK.out _ _ ?_ (fun hHeld => ?_)
              · (try dsimp only); exact hmv _ hB
              clear hK K hst
              (try simp only [List.getElem_toArray, List.getElem_cons_succ, List.getElem_cons_zero, Act.put, List.setIfInBounds_toArray, List.set_cons_zero, List.set_cons_succ])
              refine wpAnyH_take (i := 10) (v := ?_) rfl (by kernel_rfl) (by kernel_rfl) (by kernel_rfl) (fun _ _ _ h => h) (Or.inl ⟨by rfl, ?_⟩) (by assumption) ?_
              rotate_left 1
              (intro w hSw; (try dsimp only at hSw); go_simp; try with_reducible rfl)
              (try simp only [List.getElem_toArray, List.getElem_cons_succ, List.getElem_cons_zero, Act.put, List.setIfInBounds_toArray, List.set_cons_zero, List.set_cons_succ])
              refine wpAnyH_take (i := 11) (v := ?_) rfl (by kernel_rfl) (by kernel_rfl) (by kernel_rfl) (fun _ _ _ h => h) (Or.inl ⟨by rfl, ?_⟩) (by assumption) ?_
              rotate_left 1
              (intro w hSw; (try dsimp only at hSw); go_simp; try with_reducible rfl)
              (try simp only [List.getElem_toArray, List.getElem_cons_succ, List.getElem_cons_zero, Act.put, List.setIfInBounds_toArray, List.set_cons_zero, List.set_cons_succ])
              refine wpAnyH_take (i := 12) (v := ?_) rfl (by kernel_rfl) (by kernel_rfl) (by kernel_rfl) (fun _ _ _ h => h) (Or.inl ⟨by rfl, ?_⟩) (by assumption) ?_
              rotate_left 1
              (intro w hSw; (try dsimp only at hSw); go_simp; try with_reducible rfl)
              (try simp only [List.getElem_toArray, List.getElem_cons_succ, List.getElem_cons_zero, Act.put, List.setIfInBounds_toArray, List.set_cons_zero, List.set_cons_succ])
              refine wpAnyH_ready (rs := [14]) (by kernel_rfl) (by simp) ?_
              refine (AllReadyH.cons rfl (fun K hK => ?_) AllReadyH.nil)
              have hB := below_setRow (g := U22.heap.size) (cells := (cells5 y (.slice py y.l.length cy))) hB hge5
              have hn6 := setRow_heap' (cells := (cells5 y (.slice py y.l.length cy))) hn5
              have hy6 := hy.move (P' := fun _ => True) (fun g hg _ => setRow_ne (cells := (cells5 y (.slice py y.l.length cy))) hg) (fun _ _ _ => trivial)
              refine step_store_row rfl 29 _ _ rfl (U22.heap.size) (cells5 y (.slice py y.l.length cy)) (by kernel_rfl) (by kernel_rfl) 29 (cells5 zeroT (.slice none 0 0)) hn5 (size28 _ _) (by kernel_rfl) (by kernel_rfl) ?_
              refine hK.out _ _ ?_ (fun hHeld => ?_)
              · (try dsimp only); exact hmv _ hB
              clear hK K
              (try simp only [List.getElem_toArray, List.getElem_cons_succ, List.getElem_cons_zero, Act.put])
              refine wpAnyH_take (i := 15) (v := ?_) rfl (by kernel_rfl) (by kernel_rfl) (by kernel_rfl) (fun _ _ _ h => h) (Or.inl ⟨by rfl, ?_⟩) (by assumption) ?_
              rotate_left 1
              (intro w hSw; (try dsimp only at hSw); go_simp; try with_reducible rfl)
              (try simp only [List.getElem_toArray, List.getElem_cons_succ, List.getElem_cons_zero, Act.put, List.setIfInBounds_toArray, List.set_cons_zero, List.set_cons_succ])
              refine wpAnyH_done (by kernel_rfl) ?_ _
              go_wp2_with fail
              go_meet
              exact ⟨_, _, _, _, rfl, rfl, hn6, hy6, hq, hB⟩
          · go_simp
            have hst := alloc_below U21 (.cells (cells5 zeroT (.slice none 0 0)) 29)
            have hge5 : w9.heap.size ≤ U21.heap.size := hB.size
            have hne5 : ∀ g, (vrU21).ownBlock = some g → g ≠ U21.heap.size := fun g hg => Nat.ne_of_lt (hrow.own.lt g hg).2
            have hn5 := heap_new U21 (.cells (cells5 zeroT (.slice none 0 0)) 29)
            have ht := ht.below hst
            have hrow := hrow.under hst
            have hn7 := (hst.block _ (Array.getElem?_eq_some_iff.1 hn7).1).trans hn7
            have hB := hB.trans (hst.mono hB.size)
            refine hK.out _ _ ?_ (fun hHeld => ?_)
            · (try dsimp only); exact hmv _ hB
            clear hK K hst
            (try simp only [List.getElem_toArray, List.getElem_cons_succ, List.getElem_cons_zero, Act.put, List.setIfInBounds_toArray, List.set_cons_zero, List.set_cons_succ])
            change wpAnyH _ _ _ _ _ _ _ _ (U21.alloc (.cells (cells5 zeroT (.slice none 0 0)) 29))
            generalize U21.alloc (.cells (cells5 zeroT (.slice none 0 0)) 29) = U29 at hB hHeld ht hrow hn7 hn5 ⊢
            refine wpAnyH_ready (rs := [8]) (by kernel_rfl) (by simp) ?_
            refine (AllReadyH.cons rfl (fun K hK => ?_) AllReadyH.nil)
            have hlt7U30 := (Array.getElem?_eq_some_iff.1 hn7).1
            have hlt5U30 := (Array.getElem?_eq_some_iff.1 hn5).1
            refine step_append_brow rfl _ _ rfl w9.heap.size vrU21 ([] ++ Ls) rfl hrow (some ⟨U1.heap.size, 0, none⟩) 1 1 [((⟨s, t⟩ : Bd), Value.slice pt t.l.length ct)] rfl (BSrc.one (d := ⟨s, t⟩) hn7 ht hsz) hlenB hB.size ?_
            intro vrU30 U30 hrow hgrow hown hst0
            have hn5 := (hgrow.block _ (Array.getElem?_eq_some_iff.1 hn5).1 (fun e0 => hne5 _ e0.symm rfl)).trans hn5
            have hne5 : ∀ g, vrU30.ownBlock = some g → g ≠ U21.heap.size := fun g hg => hown.elim (fun h => hne5 g (h ▸ hg)) (fun h => by have h1 := h g hg; have h2 : U21.heap.size < U29.heap.size := hlt5U30; omega)
            have hn7 := (hgrow.block _ (Array.getElem?_eq_some_iff.1 hn7).1 (fun e0 => hne7 _ e0.symm rfl)).trans hn7
            have hne7 : ∀ g, vrU30.ownBlock = some g → g ≠ U1.heap.size := fun g hg => hown.elim (fun h => hne7 g (h ▸ hg)) (fun h => by have h1 := h g hg; have h2 : U1.heap.size < U29.heap.size := hlt7U30; omega)
            have hB := hB.trans hst0
            refine hK.out _ _ ?_ (fun hHeld => ?_)
            · (try dsimp only); exact hmv _ hB
            clear hK K
            (try simp only [List.getElem_toArray, List.getElem_cons_succ, List.getElem_cons_zero, Act.put])
            refine wpAnyH_ready (rs := [9]) (by kernel_rfl) (by simp) ?_
            refine (AllReadyH.cons rfl (fun K hK => ?_) AllReadyH.nil)
            have hb5lt := (Array.getElem?_eq_some_iff.1 hn5).1
            have hbn := hrow.bindsF (F := fun g => g ≠ U21.heap.size) (fun g hg => by have := hge5; omega) hne5 hlenC
            have cV := gVal_any (F := fun g => g ≠ U21.heap.size) (x := vN s) (sv := .slice none 0 0) (HL.out.under (HB6.out.trans (hB.mono HB6.out.size))) (fun g hg => by omega) (HN.out _ _) hbn
            go_simp
            go_wp2_with (go_at_call 21; refine cV.mono ?_; rintro e U31 ⟨y, yv, er, rfl, hy, hst, hq⟩; obtain ⟨py, cy, rfl⟩ := hy.kids.slice)
            have hn5 := (hst.block _ (Array.getElem?_eq_some_iff.1 hn5).1).trans hn5
            have hB := hB.trans (hst.mono hB.size)
            refine hK.out _ _ ?_ (fun hHeld => ?_)
            · (try dsimp only); exact hmv _ hB
            clear hK K hst
            (try simp only [List.getElem_toArray, List.getElem_cons_succ, List.getElem_cons_zero, Act.put, List.setIfInBounds_toArray, List.set_cons_zero, List.set_cons_succ])
            refine wpAnyH_take (i := 10) (v := ?_) rfl (by kernel_rfl) (by kernel_rfl) (by kernel_rfl) (fun _ _ _ h => h) (Or.inl ⟨by rfl, ?_⟩) (by assumption) ?_
            rotate_left 1
            (intro w hSw; (try dsimp only at hSw); go_simp; try with_reducible rfl)
            (try simp only [List.getElem_toArray, List.getElem_cons_succ, List.getElem_cons_zero, Act.put, List.setIfInBounds_toArray, List.set_cons_zero, List.set_cons_succ])
            refine wpAnyH_take (i := 11) (v := ?_) rfl (by kernel_rfl) (by kernel_rfl) (by kernel_rfl) (fun _ _ _ h => h) (Or.inl ⟨by rfl, ?_⟩) (by assumption) ?_
            rotate_left 1
            (intro w hSw; (try dsimp only at hSw); go_simp; try with_reducible rfl)
            (try simp only [List.getElem_toArray, List.getElem_cons_succ, List.getElem_cons_zero, Act.put, List.setIfInBounds_toArray, List.set_cons_zero, List.set_cons_succ])
            refine wpAnyH_take (i := 12) (v := ?_) rfl (by kernel_rfl) (by kernel_rfl) (by kernel_rfl) (fun _ _ _ h => h) (Or.inl ⟨by rfl, ?_⟩) (by assumption) ?_
            rotate_left 1
            (intro w hSw; (try dsimp only at hSw); go_simp; try with_reducible rfl)
            (try simp only [List.getElem_toArray, List.getElem_cons_succ, List.getElem_cons_zero, Act.put, List.setIfInBounds_toArray, List.set_cons_zero, List.set_cons_succ])
            refine wpAnyH_ready (rs := [14]) (by kernel_rfl) (by simp) ?_
            refine (AllReadyH.cons rfl (fun K hK => ?_) AllReadyH.nil)
            have hB := below_setRow (g := U21.heap.size) (cells := (cells5 y (.slice py y.l.length cy))) hB hge5
            have hn6 := setRow_heap' (cells := (cells5 y (.slice py y.l.length cy))) hn5
            have hy6 := hy.move (P' := fun _ => True) (fun g hg _ => setRow_ne (cells := (cells5 y (.slice py y.l.length cy))) hg) (fun _ _ _ => trivial)
            refine step_store_row rfl 29 _ _ rfl (U21.heap.size) (cells5 y (.slice py y.l.length cy)) (by kernel_rfl) (by kernel_rfl) 29 (cells5 zeroT (.slice none 0 0)) hn5 (size28 _ _) (by kernel_rfl) (by kernel_rfl) ?_
            refine hK.out _ _ ?_ (fun hHeld => ?_)
            · (try dsimp only); exact hmv _ hB
            clear hK K
            (try simp only [List.getElem_toArray, List.getElem_cons_succ, List.getElem_cons_zero, Act.put])
            refine wpAnyH_take (i := 15) (v := ?_) rfl (by kernel_rfl) (by kernel_rfl) (by kernel_rfl) (fun _ _ _ h => h) (Or.inl ⟨by rfl, ?_⟩) (by assumption) ?_
            rotate_left 1
            (intro w hSw; (try dsimp only at hSw); go_simp; try with_reducible rfl)
            (try simp only [List.getElem_toArray, List.getElem_cons_succ, List.getElem_cons_zero, Act.put, List.setIfInBounds_toArray, List.set_cons_zero, List.set_cons_succ])
            refine wpAnyH_done (by kernel_rfl) ?_ _
            go_wp2_with fail
            go_meet
            exact ⟨_, _, _, _, rfl, rfl, hn6, hy6, hq, hB⟩
        · go_simp
          have hst := alloc_below U20 (.cells (cells5 zeroT (.slice none 0 0)) 29)
          have hge5 : w9.heap.size ≤ U20.heap.size := hB.size
          have hne5 : ∀ g, ((Value.slice (some ⟨U0.heap.size, 0, none⟩) 0 0)).ownBlock = some g → g ≠ U20.heap.size := fun g hg => Nat.ne_of_lt (hrow.own.lt g hg).2
          have hn5 := heap_new U20 (.cells (cells5 zeroT (.slice none 0 0)) 29)
          have hsrc := hsrc.under hst
          have ht := ht.below hst
          have hrow := hrow.under hst
          have hn7 := (hst.block _ (Array.getElem?_eq_some_iff.1 hn7).1).trans hn7
          have hB := hB.trans (hst.mono hB.size)
          refine hK.out _ _ ?_ (fun hHeld => ?_)
          · (try dsimp only); exact hmv _ hB
          clear hK K hst
          (try simp only [List.getElem_toArray, List.getElem_cons_succ, List.getElem_cons_zero, Act.put, List.setIfInBounds_toArray, List.set_cons_zero, List.set_cons_succ])
          change wpAnyH _ _ _ _ _ _ _ _ (U20.alloc (.cells (cells5 zeroT (.slice none 0 0)) 29))
          generalize U20.alloc (.cells (cells5 zeroT (.slice none 0 0)) 29) = U33 at hB hHeld hsrc ht hrow hn7 hn5 ⊢
          refine wpAnyH_ready (rs := [3]) (by kernel_rfl) (by simp) ?_
          refine (AllReadyH.cons rfl (fun K hK => ?_) AllReadyH.nil)
          have hlt7U34 := (Array.getElem?_eq_some_iff.1 hn7).1
          have hlt5U34 := (Array.getElem?_eq_some_iff.1 hn5).1
          refine step_append_brow rfl _ _ rfl w9.heap.size (Value.slice (some ⟨U0.heap.size, 0, none⟩) 0 0) [] rfl hrow pl l.length cl Ls rfl hsrc hlenA hB.size ?_
          intro vrU34 U34 hrow hgrow hown hst0
          have hn5 := (hgrow.block _ (Array.getElem?_eq_some_iff.1 hn5).1 (fun e0 => hne5 _ e0.symm rfl)).trans hn5
          have hne5 : ∀ g, vrU34.ownBlock = some g → g ≠ U20.heap.size := fun g hg => hown.elim (fun h => hne5 g (h ▸ hg)) (fun h => by have h1 := h g hg; have h2 : U20.heap.size < U33.heap.size := hlt5U34; omega)
          have hn7 := (hgrow.block _ (Array.getElem?_eq_some_iff.1 hn7).1 (fun e0 => hne7 _ e0.symm rfl)).trans hn7
          have hne7 : ∀ g, vrU34.ownBlock = some g → g ≠ U1.heap.size := fun g hg => hown.elim (fun h => hne7 g (h ▸ hg)) (fun h => by have h1 := h g hg; have h2 : U1.heap.size < U33.heap.size := hlt7U34; omega)
          have hB := hB.trans hst0
          have ht : TrV (fun g => g < w9.heap.size) U34 t (Value.slice pt t.l.length ct) := ⟨ht.wf, ht.kids.keep fun g hg _ => hst0.block g hg⟩
          refine hK.out _ _ ?_ (fun hHeld => ?_)
          · (try dsimp only); exact hmv _ hB
          clear hK K
          (try simp only [List.getElem_toArray, List.getElem_cons_succ, List.getElem_cons_zero, Act.put])
          refine wpAnyH_ready (rs := [8]) (by kernel_rfl) (by simp) ?_
          refine (AllReadyH.cons rfl (fun K hK => ?_) AllReadyH.nil)
          have hlt7U35 := (Array.getElem?_eq_some_iff.1 hn7).1
          have hlt5U35 := (Array.getElem?_eq_some_iff.1 hn5).1
          refine step_append_brow rfl _ _ rfl w9.heap.size vrU34 ([] ++ Ls) rfl hrow (some ⟨U1.heap.size, 0, none⟩) 1 1 [((⟨s, t⟩ : Bd), Value.slice pt t.l.length ct)] rfl (BSrc.one (d := ⟨s, t⟩) hn7 ht hsz) hlenB hB.size ?_
          intro vrU35 U35 hrow hgrow hown hst0
          have hn5 := (hgrow.block _ (Array.getElem?_eq_some_iff.1 hn5).1 (fun e0 => hne5 _ e0.symm rfl)).trans hn5
          have hne5 : ∀ g, vrU35.ownBlock = some g → g ≠ U20.heap.size := fun g hg => hown.elim (fun h => hne5 g (h ▸ hg)) (fun h => by have h1 := h g hg; have h2 : U20.heap.size < U34.heap.size := hlt5U35; omega)
          have hn7 := (hgrow.block _ (Array.getElem?_eq_some_iff.1 hn7).1 (fun e0 => hne7 _ e0.symm rfl)).trans hn7
          have hne7 : ∀ g, vrU35.ownBlock = some g → g ≠ U1.heap.size := fun g hg => hown.elim (fun h => hne7 g (h ▸ hg)) (fun h => by have h1 := h g hg; have h2 : U1.heap.size < U34.heap.size := hlt7U35; omega)
          have hB := hB.trans hst0
          refine hK.out _ _ ?_ (fun hHeld => ?_)
          · (try dsimp only); exact hmv _ hB
          clear hK K
          (try simp only [List.getElem_toArray, List.getElem_cons_succ, List.getElem_cons_zero, Act.put])
          refine wpAnyH_ready (rs := [9]) (by kernel_rfl) (by simp) ?_
          refine (AllReadyH.cons rfl (fun K hK => ?_) AllReadyH.nil)
          have hb5lt := (Array.getElem?_eq_some_iff.1 hn5).1
          have hbn := hrow.bindsF (F := fun g => g ≠ U20.heap.size) (fun g hg => by have := hge5; omega) hne5 hlenC
          have cV := gVal_any (F := fun g => g ≠ U20.heap.size) (x := vN s) (sv := .slice none 0 0) (HL.out.under (HB6.out.trans (hB.mono HB6.out.size))) (fun g hg => by omega) (HN.out _ _) hbn
          go_simp
          go_wp2_with (go_at_call 21; refine cV.mono ?_; rintro e U36 ⟨y, yv, er, rfl, hy, hst, hq⟩; obtain ⟨py, cy, rfl⟩ := hy.kids.slice)
          have hn5 := (hst.block _ (Array.getElem?_eq_some_iff.1 hn5).1).trans hn5
          have hB := hB.trans (hst.mono hB.size)
          refine hK.out _ _ ?_ (fun hHeld => ?_)
          · (try dsimp only); exact hmv _ hB
          clear hK K hst
          (try simp only [List.getElem_toArray, List.getElem_cons_succ, List.getElem_cons_zero, Act.put, List.setIfInBounds_toArray, List.set_cons_zero, List.set_cons_succ])
          refine wpAnyH_take (i := 10) (v := ?_) rfl (by kernel_rfl) (by kernel_rfl) (by kernel_rfl) (fun _ _ _ h => h) (Or.inl ⟨by rfl, ?_⟩) (by assumption) ?_
          rotate_left 1
          (intro w hSw; (try dsimp only at hSw); go_simp; try with_reducible rfl)
          (try simp only [List.getElem_toArray, List.getElem_cons_succ, List.getElem_cons_zero, Act.put, List.setIfInBounds_toArray, List.set_cons_zero, List.set_cons_succ])
          refine wpAnyH_take (i := 11) (v := ?_) rfl (by kernel_rfl) (by kernel_rfl) (by kernel_rfl) (fun _ _ _ h => h) (Or.inl ⟨by rfl, ?_⟩) (by assumption) ?_
          rotate_left 1
          (intro w hSw; (try dsimp only at hSw); go_simp; try with_reducible rfl)
          (try simp only [List.getElem_toArray, List.getElem_cons_succ, List.getElem_cons_zero, Act.put, List.setIfInBounds_toArray, List.set_cons_zero, List.set_cons_succ])
          refine wpAnyH_take (i := 12) (v := ?_) rfl (by kernel_rfl) (by kernel_rfl) (by kernel_rfl) (fun _ _ _ h => h) (Or.inl ⟨by rfl, ?_⟩) (by assumption) ?_
          rotate_left 1
          (intro w hSw; (try dsimp only at hSw); go_simp; try with_reducible rfl)
          (try simp only [List.getElem_toArray, List.getElem_cons_succ, List.getElem_cons_zero, Act.put, List.setIfInBounds_toArray, List.set_cons_zero, List.set_cons_succ])
          refine wpAnyH_ready (rs := [14]) (by kernel_rfl) (by simp) ?_
          refine (AllReadyH.cons rfl (fun K hK => ?_) AllReadyH.nil)
          have hB := below_setRow (g := U20.heap.size) (cells := (cells5 y (.slice py y.l.length cy))) hB hge5
          have hn6 := setRow_heap' (cells := (cells5 y (.slice py y.l.length cy))) hn5
          have hy6 := hy.move (P' := fun _ => True) (fun g hg _ => setRow_ne (cells := (cells5 y (.slice py y.l.length cy))) hg) (fun _ _ _ => trivial)
          refine step_store_row rfl 29 _ _ rfl (U20.heap.size) (cells5 y (.slice py y.l.length cy)) (by kernel_rfl) (by kernel_rfl) 29 (cells5 zeroT (.slice none 0 0)) hn5 (size28 _ _) (by kernel_rfl) (by kernel_rfl) ?_
          refine hK.out _ _ ?_ (fun hHeld => ?_)
          · (try dsimp only); exact hmv _ hB
          clear hK K
          (try simp only [List.getElem_toArray, List.getElem_cons_succ, List.getElem_cons_zero, Act.put])
          refine wpAnyH_take (i := 15) (v := ?_) rfl (by kernel_rfl) (by kernel_rfl) (by kernel_rfl) (fun _ _ _ h => h) (Or.inl ⟨by rfl, ?_⟩) (by assumption) ?_
          rotate_left 1
          (intro w hSw; (try dsimp only at hSw); go_simp; try with_reducible rfl)
          (try simp only [List.getElem_toArray, List.getElem_cons_succ, List.getElem_cons_zero, Act.put, List.setIfInBounds_toArray, List.set_cons_zero, List.set_cons_succ])
          refine wpAnyH_done (by kernel_rfl) ?_ _
          go_wp2_with fail
          go_meet
          exact ⟨_, _, _, _, rfl, rfl, hn6, hy6, hq, hB⟩
      · go_simp
        have hst := alloc_below U1 (.cells (cells5 zeroT (.slice none 0 0)) 29)
        have hge5 : w9.heap.size ≤ U1.heap.size := hB.size
        have hne5 : ∀ g, ((Value.slice (some ⟨U0.heap.size, 0, none⟩) 0 0)).ownBlock = some g → g ≠ U1.heap.size := fun g hg => Nat.ne_of_lt (hrow.own.lt g hg).2
        have hn5 := heap_new U1 (.cells (cells5 zeroT (.slice none 0 0)) 29)
        have hsrc := hsrc.under hst
        have ht := ht.below hst
        have hrow := hrow.under hst
        have hB := hB.trans (hst.mono hB.size)
        refine hK.out _ _ ?_ (fun hHeld => ?_)
        · (try dsimp only); exact hmv _ hB
        clear hK K hst
        (try simp only [List.getElem_toArray, List.getElem_cons_succ, List.getElem_cons_zero, Act.put, List.setIfInBounds_toArray, List.set_cons_zero, List.set_cons_succ])
        change wpAnyH _ _ _ _ _ _ _ _ (U1.alloc (.cells (cells5 zeroT (.slice none 0 0)) 29))
        generalize U1.alloc (.cells (cells5 zeroT (.slice none 0 0)) 29) = U38 at hB hHeld hsrc ht hrow hn5 ⊢
        refine wpAnyH_ready (rs := [3, 7]) (by kernel_rfl) (by simp) ?_
        refine (AllReadyH.cons rfl (fun K hK => ?_) (AllReadyH.cons rfl (fun K hK => ?_) AllReadyH.nil))
        · have hlt5U39 := (Array.getElem?_eq_some_iff.1 hn5).1
          refine step_append_brow rfl _ _ rfl w9.heap.size (Value.slice (some ⟨U0.heap.size, 0, none⟩) 0 0) [] rfl hrow pl l.length cl Ls rfl hsrc hlenA hB.size ?_
          intro vrU39 U39 hrow hgrow hown hst0
          have hn5 := (hgrow.block _ (Array.getElem?_eq_some_iff.1 hn5).1 (fun e0 => hne5 _ e0.symm rfl)).trans hn5
          have hne5 : ∀ g, vrU39.ownBlock = some g → g ≠ U1.heap.size := fun g hg => hown.elim (fun h => hne5 g (h ▸ hg)) (fun h => by have h1 := h g hg; have h2 : U1.heap.size < U38.heap.size := hlt5U39; omega)
          have hB := hB.trans hst0
          have ht : TrV (fun g => g < w9.heap.size) U39 t (Value.slice pt t.l.length ct) := ⟨ht.wf, ht.kids.keep fun g hg _ => hst0.block g hg⟩
          refine hK.out _ _ ?_ (fun hHeld => ?_)
          · (try dsimp only); exact hmv _ hB
          clear hK K
          (try simp only [List.getElem_toArray, List.getElem_cons_succ, List.getElem_cons_zero, Act.put])
          refine wpAnyH_ready (rs := [7]) (by kernel_rfl) (by simp) ?_
          refine (AllReadyH.cons rfl (fun K hK => ?_) AllReadyH.nil)
          go_simp
          have hst := alloc_below U39 (.cells #[.string s, .int .i8 t.k, .int .i64 t.n, .string t.s, .string t.t, .slice pt t.l.length ct] 40)
          have hn7 := heap_new U39 (.cells #[.string s, .int .i8 t.k, .int .i64 t.n, .string t.s, .string t.t, .slice pt t.l.length ct] 40)
          have hne7 : ∀ g, (vrU39).ownBlock = some g → g ≠ U39.heap.size := fun g hg => Nat.ne_of_lt (hrow.own.lt g hg).2
          have ht := ht.below hst
          have hrow := hrow.under hst
          have hn5 := (hst.block _ (Array.getElem?_eq_some_iff.1 hn5).1).trans hn5
          have hB := hB.trans (hst.mono hB.size)
          refine hK.out _ _ ?_ (fun hHeld => ?_)
          · (try dsimp only); exact hmv _ hB
          clear hK K hst
          (try simp only [List.getElem_toArray, List.getElem_cons_succ, List.getElem_cons_zero, Act.put, List.setIfInBounds_toArray, List.set_cons_zero, List.set_cons_succ])
          change wpAnyH _ _ _ _ _ _ _ _ (U39.alloc (.cells #[.string s, .int .i8 t.k, .int .i64 t.n, .string t.s, .string t.t, .slice pt t.l.length ct] 40))
          generalize U39.alloc (.cells #[.string s, .int .i8 t.k, .int .i64 t.n, .string t.s, .string t.t, .slice pt t.l.length ct] 40) = U40 at hB hHeld ht hrow hn5 hn7 ⊢
          refine wpAnyH_ready (rs := [8]) (by kernel_rfl) (by simp) ?_
          refine (AllReadyH.cons rfl (fun K hK => ?_) AllReadyH.nil)
          have hlt7U41 := (Array.getElem?_eq_some_iff.1 hn7).1
          have hlt5U41 := (Array.getElem?_eq_some_iff.1 hn5).1
          refine step_append_brow rfl _ _ rfl w9.heap.size vrU39 ([] ++ Ls) rfl hrow (some ⟨U39.heap.size, 0, none⟩) 1 1 [((⟨s, t⟩ : Bd), Value.slice pt t.l.length ct)] rfl (BSrc.one (d := ⟨s, t⟩) hn7 ht hsz) hlenB hB.size ?_
          intro vrU41 U41 hrow hgrow hown hst0
          have hn5 := (hgrow.block _ (Array.getElem?_eq_some_iff.1 hn5).1 (fun e0 => hne5 _ e0.symm rfl)).trans hn5
          have hne5 : ∀ g, vrU41.ownBlock = some g → g ≠ U1.heap.size := fun g hg => hown.elim (fun h => hne5 g (h ▸ hg)) (fun h => by have h1 := h g hg; have h2 : U1.heap.size < U40.heap.size := hlt5U41; omega)
          have hn7 := (hgrow.block _ (Array.getElem?_eq_some_iff.1 hn7).1 (fun e0 => hne7 _ e0.symm rfl)).trans hn7
          have hne7 : ∀ g, vrU41.ownBlock = some g → g ≠ U39.heap.size := fun g hg => hown.elim (fun h => hne7 g (h ▸ hg)) (fun h => by have h1 := h g hg; have h2 : U39.heap.size < U40.heap.size := hlt7U41; omega)
          have hB := hB.trans hst0
          refine hK.out _ _ ?_ (fun hHeld => ?_)
          · (try dsimp only); exact hmv _ hB
          clear hK K
          (try simp only [List.getElem_toArray, List.getElem_cons_succ, List.getElem_cons_zero, Act.put])
          refine wpAnyH_ready (rs := [9]) (by kernel_rfl) (by simp) ?_
          refine (AllReadyH.cons rfl (fun K hK => ?_) AllReadyH.nil)
          have hb5lt := (Array.getElem?_eq_some_iff.1 hn5).1
          have hbn := hrow.bindsF (F := fun g => g ≠ U1.heap.size) (fun g hg => by have := hge5; omega) hne5 hlenC
          have cV := gVal_any (F := fun g => g ≠ U1.heap.size) (x := vN s) (sv := .slice none 0 0) (HL.out.under (HB6.out.trans (hB.mono HB6.out.size))) (fun g hg => by omega) (HN.out _ _) hbn
          go_simp
          go_wp2_with (go_at_call 21; refine cV.mono ?_; rintro e U42 ⟨y, yv, er, rfl, hy, hst, hq⟩; obtain ⟨py, cy, rfl⟩ := hy.kids.slice)
          have hn5 := (hst.block _ (Array.getElem?_eq_some_iff.1 hn5).1).trans hn5
          have hB := hB.trans (hst.mono hB.size)
          refine hK.out _ _ ?_ (fun hHeld => ?_)
          · (try dsimp only); exact hmv _ hB
          clear hK K hst
          (try simp only [List.getElem_toArray, List.getElem_cons_succ, List.getElem_cons_zero, Act.put, List.setIfInBounds_toArray, List.set_cons_zero, List.set_cons_succ])
          refine wpAnyH_take (i := 10) (v := ?_) rfl (by kernel_rfl) (by kernel_rfl) (by kernel_rfl) (fun _ _ _ h => h) (Or.inl ⟨by rfl, ?_⟩) (by assumption) ?_
          rotate_left 1
          (intro w hSw; (try dsimp only at hSw); go_simp; try with_reducible rfl)
          (try simp only [List.getElem_toArray, List.getElem_cons_succ, List.getElem_cons_zero, Act.put, List.setIfInBounds_toArray, List.set_cons_zero, List.set_cons_succ])
          refine wpAnyH_take (i := 11) (v := ?_) rfl (by kernel_rfl) (by kernel_rfl) (by kernel_rfl) (fun _ _ _ h => h) (Or.inl ⟨by rfl, ?_⟩) (by assumption) ?_
          rotate_left 1
          (intro w hSw; (try dsimp only at hSw); go_simp; try with_reducible rfl)
          (try simp only [List.getElem_toArray, List.getElem_cons_succ, List.getElem_cons_zero, Act.put, List.setIfInBounds_toArray, List.set_cons_zero, List.set_cons_succ])
          refine wpAnyH_take (i := 12) (v := ?_) rfl (by kernel_rfl) (by kernel_rfl) (by kernel_rfl) (fun _ _ _ h => h) (Or.inl ⟨by rfl, ?_⟩) (by assumption) ?_
          rotate_left 1
          (intro w hSw; (try dsimp only at hSw); go_simp; try with_reducible rfl)
          (try simp only [List.getElem_toArray, List.getElem_cons_succ, List.getElem_cons_zero, Act.put, List.setIfInBounds_toArray, List.set_cons_zero, List.set_cons_succ])
          refine wpAnyH_ready (rs := [14]) (by kernel_rfl) (by simp) ?_
          refine (AllReadyH.cons rfl (fun K hK => ?_) AllReadyH.nil)
          have hB := below_setRow (g := U1.heap.size) (cells := (cells5 y (.slice py y.l.length cy))) hB hge5
          have hn6 := setRow_heap' (cells := (cells5 y (.slice py y.l.length cy))) hn5
          have hy6 := hy.move (P' := fun _ => True) (fun g hg _ => setRow_ne (cells := (cells5 y (.slice py y.l.length cy))) hg) (fun _ _ _ => trivial)
          refine step_store_row rfl 29 _ _ rfl (U1.heap.size) (cells5 y (.slice py y.l.length cy)) (by kernel_rfl) (by kernel_rfl) 29 (cells5 zeroT (.slice none 0 0)) hn5 (size28 _ _) (by kernel_rfl) (by kernel_rfl) ?_
          refine hK.out _ _ ?_ (fun hHeld => ?_)
          · (try dsimp only); exact hmv _ hB
          clear hK K
          (try simp only [List.getElem_toArray, List.getElem_cons_succ, List.getElem_cons_zero, Act.put])
          refine wpAnyH_take (i := 15) (v := ?_) rfl (by kernel_rfl) (by kernel_rfl) (by kernel_rfl) (fun _ _ _ h => h) (Or.inl ⟨by rfl, ?_⟩) (by assumption) ?_
          rotate_left 1
          (intro w hSw; (try dsimp only at hSw); go_simp; try with_reducible rfl)
          (try simp only [List.getElem_toArray, List.getElem_cons_succ, List.getElem_cons_zero, Act.put, List.setIfInBounds_toArray, List.set_cons_zero, List.set_cons_succ])
          refine wpAnyH_done (by kernel_rfl) ?_ _
          go_wp2_with fail
          go_meet
          exact ⟨_, _, _, _, rfl, rfl, hn6, hy6, hq, hB⟩
        · go_simp
          have hst := alloc_below U38 (.cells #[.string s, .int .i8 t.k, .int .i64 t.n, .string t.s, .string t.t, .slice pt t.l.length ct] 40)
          have hn7 := heap_new U38 (.cells #[.string s, .int .i8 t.k, .int .i64 t.n, .string t.s, .string t.t, .slice pt t.l.length ct] 40)
          have hne7 : ∀ g, ((Value.slice (some ⟨U0.heap.size, 0, none⟩) 0 0)).ownBlock = some g → g ≠ U38.heap.size := fun g hg => Nat.ne_of_lt (hrow.own.lt g hg).2
          have hsrc := hsrc.under hst
          have ht := ht.below hst
          have hrow := hrow.under hst
          have hn5 := (hst.block _ (Array.getElem?_eq_some_iff.1 hn5).1).trans hn5
          have hB := hB.trans (hst.mono hB.size)
          refine hK.out _ _ ?_ (fun hHeld => ?_)
          · (try dsimp only); exact hmv _ hB
          clear hK K hst
          (try simp only [List.getElem_toArray, List.getElem_cons_succ, List.getElem_cons_zero, Act.put, List.setIfInBounds_toArray, List.set_cons_zero, List.set_cons_succ])
          change wpAnyH _ _ _ _ _ _ _ _ (U38.alloc (.cells #[.string s, .int .i8 t.k, .int .i64 t.n, .string t.s, .string t.t, .slice pt t.l.length ct] 40))
          generalize U38.alloc (.cells #[.string s, .int .i8 t.k, .int .i64 t.n, .string t.s, .string t.t, .slice pt t.l.length ct] 40) = U44 at hB hHeld hsrc ht hrow hn5 hn7 ⊢
          refine wpAnyH_ready (rs := [3]) (by kernel_rfl) (by simp) ?_
          refine (AllReadyH.cons rfl (fun K hK => ?_) AllReadyH.nil)
          have hlt7U45 := (Array.getElem?_eq_some_iff.1 hn7).1
          have hlt5U45 := (Array.getElem?_eq_some_iff.1 hn5).1
          refine step_append_brow rfl _ _ rfl w9.heap.size (Value.slice (some ⟨U0.heap.size, 0, none⟩) 0 0) [] rfl hrow pl l.length cl Ls rfl hsrc hlenA hB.size ?_
          intro vrU45 U45 hrow hgrow hown hst0
          have hn5 := (hgrow.block _ (Array.getElem?_eq_some_iff.1 hn5).1 (fun e0 => hne5 _ e0.symm rfl)).trans hn5
          have hne5 : ∀ g, vrU45.ownBlock = some g → g ≠ U1.heap.size := fun g hg => hown.elim (fun h => hne5 g (h ▸ hg)) (fun h => by have h1 := h g hg; have h2 : U1.heap.size < U44.heap.size := hlt5U45; omega)
          have hn7 := (hgrow.block _ (Array.getElem?_eq_some_iff.1 hn7).1 (fun e0 => hne7 _ e0.symm rfl)).trans hn7
          have hne7 : ∀ g, vrU45.ownBlock = some g → g ≠ U38.heap.size := fun g hg => hown.elim (fun h => hne7 g (h ▸ hg)) (fun h => by have h1 := h g hg; have h2 : U38.heap.size < U44.heap.size := hlt7U45; omega)
          have hB := hB.trans hst0
          have ht : TrV (fun g => g < w9.heap.size) U45 t (Value.slice pt t.l.length ct) := ⟨ht.wf, ht.kids.keep fun g hg _ => hst0.block g hg⟩
          refine hK.out _ _ ?_ (fun hHeld => ?_)
          · (try dsimp only); exact hmv _ hB
          clear hK K
          (try simp only [List.getElem_toArray, List.getElem_cons_succ, List.getElem_cons_zero, Act.put])
          refine wpAnyH_ready (rs := [8]) (by kernel_rfl) (by simp) ?_
          refine (AllReadyH.cons rfl (fun K hK => ?_) AllReadyH.nil)
          have hlt7U46 := (Array.getElem?_eq_some_iff.1 hn7).1
          have hlt5U46 := (Array.getElem?_eq_some_iff.1 hn5).1
          refine step_append_brow rfl _ _ rfl w9.heap.size vrU45 ([] ++ Ls) rfl hrow (some ⟨U38.heap.size, 0, none⟩) 1 1 [((⟨s, t⟩ : Bd), Value.slice pt t.l.length ct)] rfl (BSrc.one (d := ⟨s, t⟩) hn7 ht hsz) hlenB hB.size ?_
          intro vrU46 U46 hrow hgrow hown hst0
          have hn5 := (hgrow.block _ (Array.getElem?_eq_some_iff.1 hn5).1 (fun e0 => hne5 _ e0.symm rfl)).trans hn5
          have hne5 : ∀ g, vrU46.ownBlock = some g → g ≠ U1.heap.size := fun g hg => hown.elim (fun h => hne5 g (h ▸ hg)) (fun h => by have h1 := h g hg; have h2 : U1.heap.size < U45.heap.size := hlt5U46; omega)
          have hn7 := (hgrow.block _ (Array.getElem?_eq_some_iff.1 hn7).1 (fun e0 => hne7 _ e0.symm rfl)).trans hn7
          have hne7 : ∀ g, vrU46.ownBlock = some g → g ≠ U38.heap.size := fun g hg => hown.elim (fun h => hne7 g (h ▸ hg)) (fun h => by have h1 := h g hg; have h2 : U38.heap.size < U45.heap.size := hlt7U46; omega)
          have hB := hB.trans hst0
          refine hK.out _ _ ?_ (fun hHeld => ?_)
          · (try dsimp only); exact hmv _ hB
          clear hK K
          (try simp only [List.getElem_toArray, List.getElem_cons_succ, List.getElem_cons_zero, Act.put])
          refine wpAnyH_ready (rs := [9]) (by kernel_rfl) (by simp) ?_
          refine (AllReadyH.cons rfl (fun K hK => ?_) AllReadyH.nil)
          have hb5lt := (Array.getElem?_eq_some_iff.1 hn5).1
          have hbn := hrow.bindsF (F := fun g => g ≠ U1.heap.size) (fun g hg => by have := hge5; omega) hne5 hlenC
          have cV := gVal_any (F := fun g => g ≠ U1.heap.size) (x := vN s) (sv := .slice none 0 0) (HL.out.under (HB6.out.trans (hB.mono HB6.out.size))) (fun g hg => by omega) (HN.out _ _) hbn
          go_simp
          go_wp2_with (go_at_call 21; refine cV.mono ?_; rintro e U47 ⟨y, yv, er, rfl, hy, hst, hq⟩; obtain ⟨py, cy, rfl⟩ := hy.kids.slice)
          have hn5 := (hst.block _ (Array.getElem?_eq_some_iff.1 hn5).1).trans hn5
          have hB := hB.trans (hst.mono hB.size)
          refine hK.out _ _ ?_ (fun hHeld => ?_)
          · (try dsimp only); exact hmv _ hB
          clear hK K hst
          (try simp only [List.getElem_toArray, List.getElem_cons_succ, List.getElem_cons_zero, Act.put, List.setIfInBounds_toArray, List.set_cons_zero, List.set_cons_succ])
          refine wpAnyH_take (i := 10) (v := ?_) rfl (by kernel_rfl) (by kernel_rfl) (by kernel_rfl) (fun _ _ _ h => h) (Or.inl ⟨by rfl, ?_⟩) (by assumption) ?_
          rotate_left 1
          (intro w hSw; (try dsimp only at hSw); go_simp; try with_reducible rfl)
          (try simp only [List.getElem_toArray, List.getElem_cons_succ, List.getElem_cons_zero, Act.put, List.setIfInBounds_toArray, List.set_cons_zero, List.set_cons_succ])
          refine wpAnyH_take (i := 11) (v := ?_) rfl (by kernel_rfl) (by kernel_rfl) (by kernel_rfl) (fun _ _ _ h => h) (Or.inl ⟨by rfl, ?_⟩) (by assumption) ?_
          rotate_left 1
          (intro w hSw; (try dsimp only at hSw); go_simp; try with_reducible rfl)
          (try simp only [List.getElem_toArray, List.getElem_cons_succ, List.getElem_cons_zero, Act.put, List.setIfInBounds_toArray, List.set_cons_zero, List.set_cons_succ])
          refine wpAnyH_take (i := 12) (v := ?_) rfl (by kernel_rfl) (by kernel_rfl) (by kernel_rfl) (fun _ _ _ h => h) (Or.inl ⟨by rfl, ?_⟩) (by assumption) ?_
          rotate_left 1
          (intro w hSw; (try dsimp only at hSw); go_simp; try with_reducible rfl)
          (try simp only [List.getElem_toArray, List.getElem_cons_succ, List.getElem_cons_zero, Act.put, List.setIfInBounds_toArray, List.set_cons_zero, List.set_cons_succ])
          refine wpAnyH_ready (rs := [14]) (by kernel_rfl) (by simp) ?_
          refine (AllReadyH.cons rfl (fun K hK => ?_) AllReadyH.nil)
          have hB := below_setRow (g := U1.heap.size) (cells := (cells5 y (.slice py y.l.length cy))) hB hge5
          have hn6 := setRow_heap' (cells := (cells5 y (.slice py y.l.length cy))) hn5
          have hy6 := hy.move (P' := fun _ => True) (fun g hg _ => setRow_ne (cells := (cells5 y (.slice py y.l.length cy))) hg) (fun _ _ _ => trivial)
          refine step_store_row rfl 29 _ _ rfl (U1.heap.size) (cells5 y (.slice py y.l.length cy)) (by kernel_rfl) (by kernel_rfl) 29 (cells5 zeroT (.slice none 0 0)) hn5 (size28 _ _) (by kernel_rfl) (by kernel_rfl) ?_
          refine hK.out _ _ ?_ (fun hHeld => ?_)
          · (try dsimp only); exact hmv _ hB
          clear hK K
          (try simp only [List.getElem_toArray, List.getElem_cons_succ, List.getElem_cons_zero, Act.put])
          refine wpAnyH_take (i := 15) (v := ?_) rfl (by kernel_rfl) (by kernel_rfl) (by kernel_rfl) (fun _ _ _ h => h) (Or.inl ⟨by rfl, ?_⟩) (by assumption) ?_
          rotate_left 1
          (intro w hSw; (try dsimp only at hSw); go_simp; try with_reducible rfl)
          (try simp only [List.getElem_toArray, List.getElem_cons_succ, List.getElem_cons_zero, Act.put, List.setIfInBounds_toArray, List.set_cons_zero, List.set_cons_succ])
          refine wpAnyH_done (by kernel_rfl) ?_ _
          go_wp2_with fail
          go_meet
          exact ⟨_, _, _, _, rfl, rfl, hn6, hy6, hq, hB⟩
    · go_simp
      have hst := alloc_below U0 (.cells #[.string s, .int .i8 t.k, .int .i64 t.n, .string t.s, .string t.t, .slice pt t.l.length ct] 40)
      have hn7 := heap_new U0 (.cells #[.string s, .int .i8 t.k, .int .i64 t.n, .string t.s, .string t.t, .slice pt t.l.length ct] 40)
      have hsrc := hsrc.under hst
      have ht := ht.below hst
      have hB := hB.trans (hst.mono hB.size)
      refine hK.out _ _ ?_ (fun hHeld => ?_)
      · (try dsimp only); exact hmv _ hB
      clear hK K hst
      (try simp only [List.getElem_toArray, List.getElem_cons_succ, List.getElem_cons_zero, Act.put, List.setIfInBounds_toArray, List.set_cons_zero, List.set_cons_succ])
      change wpAnyH _ _ _ _ _ _ _ _ (U0.alloc (.cells #[.string s, .int .i8 t.k, .int .i64 t.n, .string t.s, .string t.t, .slice pt t.l.length ct] 40))
      generalize U0.alloc (.cells #[.string s, .int .i8 t.k, .int .i64 t.n, .string t.s, .string t.t, .slice pt t.l.length ct] 40) = U49 at hB hHeld hsrc ht hn7 ⊢
      refine wpAnyH_ready (rs := [1, 13]) (by kernel_rfl) (by simp) ?_
      refine (AllReadyH.cons rfl (fun K hK => ?_) (AllReadyH.cons rfl (fun K hK => ?_) AllReadyH.nil))
      · go_simp
        have hst := alloc_below U49 (.cells #[] 40)
        have hne7 : ∀ g, (Value.slice (some ⟨U49.heap.size, 0, none⟩) 0 0).ownBlock = some g → g ≠ U0.heap.size := fun g hg => by cases hg; exact Nat.ne_of_gt (Array.getElem?_eq_some_iff.1 hn7).1
        have hrow := BRow.zero (base := w9.heap.size) (heap_new U49 (.cells #[] 40)) hB.size
        have hsrc := hsrc.under hst
        have ht := ht.below hst
        have hn7 := (hst.block _ (Array.getElem?_eq_some_iff.1 hn7).1).trans hn7
        have hB := hB.trans (hst.mono hB.size)
        refine hK.out _ _ ?_ (fun hHeld => ?_)
        · (try dsimp only); exact hmv _ hB
        clear hK K hst
        (try simp only [List.getElem_toArray, List.getElem_cons_succ, List.getElem_cons_zero, Act.put, List.setIfInBounds_toArray, List.set_cons_zero, List.set_cons_succ])
        change wpAnyH _ _ _ _ _ _ _ _ (U49.alloc (.cells #[] 40))
        generalize U49.alloc (.cells #[] 40) = U50 at hB hHeld hsrc ht hn7 hrow ⊢
        refine wpAnyH_ready (rs := [3, 13]) (by kernel_rfl) (by simp) ?_
        refine (AllReadyH.cons rfl (fun K hK => ?_) (AllReadyH.cons rfl (fun K hK => ?_) AllReadyH.nil))
        · have hlt7U51 := (Array.getElem?_eq_some_iff.1 hn7).1
          refine step_append_brow rfl _ _ rfl w9.heap.size (Value.slice (some ⟨U49.heap.size, 0, none⟩) 0 0) [] rfl hrow pl l.length cl Ls rfl hsrc hlenA hB.size ?_
          intro vrU51 U51 hrow hgrow hown hst0
          have hn7 := (hgrow.block _ (Array.getElem?_eq_some_iff.1 hn7).1 (fun e0 => hne7 _ e0.symm rfl)).trans hn7
          have hne7 : ∀ g, vrU51.ownBlock = some g → g ≠ U0.heap.size := fun g hg => hown.elim (fun h => hne7 g (h ▸ hg)) (fun h => by have h1 := h g hg; have h2 : U0.heap.size < U50.heap.size := hlt7U51; omega)
          have hB := hB.trans hst0
          have ht : TrV (fun g => g < w9.heap.size) U51 t (Value.slice pt t.l.length ct) := ⟨ht.wf, ht.kids.keep fun g hg _ => hst0.block g hg⟩
          refine hK.out _ _ ?_ (fun hHeld => ?_)
          · (try dsimp only); exact hmv _ hB
          clear hK K
          (try simp only [List.getElem_toArray, List.getElem_cons_succ, List.getElem_cons_zero, Act.put])
          refine wpAnyH_ready (rs := [8, 13]) (by kernel_rfl) (by simp) ?_
          refine (AllReadyH.cons rfl (fun K hK => ?_) (AllReadyH.cons rfl (fun K hK => ?_) AllReadyH.nil))
          · have hlt7U52 := (Array.getElem?_eq_some_iff.1 hn7).1
            refine step_append_brow rfl _ _ rfl w9.heap.size vrU51 ([] ++ Ls) rfl hrow (some ⟨U0.heap.size, 0, none⟩) 1 1 [((⟨s, t⟩ : Bd), Value.slice pt t.l.length ct)] rfl (BSrc.one (d := ⟨s, t⟩) hn7 ht hsz) hlenB hB.size ?_
            intro vrU52 U52 hrow hgrow hown hst0
            have hn7 := (hgrow.block _ (Array.getElem?_eq_some_iff.1 hn7).1 (fun e0 => hne7 _ e0.symm rfl)).trans hn7
            have hne7 : ∀ g, vrU52.ownBlock = some g → g ≠ U0.heap.size := fun g hg => hown.elim (fun h => hne7 g (h ▸ hg)) (fun h => by have h1 := h g hg; have h2 : U0.heap.size < U51.heap.size := hlt7U52; omega)
            have hB := hB.trans hst0
            refine hK.out _ _ ?_ (fun hHeld => ?_)
            · (try dsimp only); exact hmv _ hB
            clear hK K
            (try simp only [List.getElem_toArray, List.getElem_cons_succ, List.getElem_cons_zero, Act.put])
            refine wpAnyH_ready (rs := [9, 13]) (by kernel_rfl) (by simp) ?_
            refine (AllReadyH.cons rfl (fun K hK => ?_) (AllReadyH.cons rfl (fun K hK => ?_) AllReadyH.nil))
            · have hbn := hrow.bindsF (F := fun _ => True) (fun _ _ => trivial) (fun _ _ => trivial) hlenC
              have cV := gVal_any (F := fun _ => True) (x := vN s) (sv := .slice none 0 0) (HL.out.under (HB6.out.trans (hB.mono HB6.out.size))) (fun _ _ => trivial) (HN.out _ _) hbn
              go_simp
              go_wp2_with (go_at_call 21; refine cV.mono ?_; rintro e U53 ⟨y, yv, er, rfl, hy, hst, hq⟩; obtain ⟨py, cy, rfl⟩ := hy.kids.slice)
              have hB := hB.trans (hst.mono hB.size)
              refine hK.out _ _ ?_ (fun hHeld => ?_)
              · (try dsimp only); exact hmv _ hB
              clear hK K hst
              (try simp only [List.getElem_toArray, List.getElem_cons_succ, List.getElem_cons_zero, Act.put, List.setIfInBounds_toArray, List.set_cons_zero, List.set_cons_succ])
              refine wpAnyH_take (i := 10) (v := ?_) rfl (by kernel_rfl) (by kernel_rfl) (by kernel_rfl) (fun _ _ _ h => h) (Or.inl ⟨by rfl, ?_⟩) (by assumption) ?_
              rotate_left 1
              (intro w hSw; (try dsimp only at hSw); go_simp; try with_reducible rfl)
              (try simp only [List.getElem_toArray, List.getElem_cons_succ, List.getElem_cons_zero, Act.put, List.setIfInBounds_toArray, List.set_cons_zero, List.set_cons_succ])
              refine wpAnyH_take (i := 11) (v := ?_) rfl (by kernel_rfl) (by kernel_rfl) (by kernel_rfl) (fun _ _ _ h => h) (Or.inl ⟨by rfl, ?_⟩) (by assumption) ?_
              rotate_left 1
              (intro w hSw; (try dsimp only at hSw); go_simp; try with_reducible rfl)
              (try simp only [List.getElem_toArray, List.getElem_cons_succ, List.getElem_cons_zero, Act.put, List.setIfInBounds_toArray, List.set_cons_zero, List.set_cons_succ])
              refine wpAnyH_take (i := 12) (v := ?_) rfl (by kernel_rfl) (by kernel_rfl) (by kernel_rfl) (fun _ _ _ h => h) (Or.inl ⟨by rfl, ?_⟩) (by assumption) ?_
              rotate_left 1
              (intro w hSw; (try dsimp only at hSw); go_simp; try with_reducible rfl)
              (try simp only [List.getElem_toArray, List.getElem_cons_succ, List.getElem_cons_zero, Act.put, List.setIfInBounds_toArray, List.set_cons_zero, List.set_cons_succ])
              refine wpAnyH_ready (rs := [13]) (by kernel_rfl) (by simp) ?_
              refine (AllReadyH.cons rfl (fun K hK => ?_) AllReadyH.nil)
              go_simp
              have hst := alloc_below U53 (.cells (cells5 zeroT (.slice none 0 0)) 29)
              have hge5 : w9.heap.size ≤ U53.heap.size := hB.size
              have hy := hy.mono (P' := fun g => g ≠ U53.heap.size) (fun g _ hl => Nat.ne_of_lt hl)
              have hn5 := heap_new U53 (.cells (cells5 zeroT (.slice none 0 0)) 29)
              have hy := hy.below hst
              have hB := hB.trans (hst.mono hB.size)
              refine hK.out _ _ ?_ (fun hHeld => ?_)
              · (try dsimp only); exact hmv _ hB
              clear hK K hst
              (try simp only [List.getElem_toArray, List.getElem_cons_succ, List.getElem_cons_zero, Act.put, List.setIfInBounds_toArray, List.set_cons_zero, List.set_cons_succ])
              change wpAnyH _ _ _ _ _ _ _ _ (U53.alloc (.cells (cells5 zeroT (.slice none 0 0)) 29))
              generalize U53.alloc (.cells (cells5 zeroT (.slice none 0 0)) 29) = U54 at hB hHeld hy hn5 ⊢
              refine wpAnyH_ready (rs := [14]) (by kernel_rfl) (by simp) ?_
              refine (AllReadyH.cons rfl (fun K hK => ?_) AllReadyH.nil)
              have hB := below_setRow (g := U53.heap.size) (cells := (cells5 y (.slice py y.l.length cy))) hB hge5
              have hn6 := setRow_heap' (cells := (cells5 y (.slice py y.l.length cy))) hn5
              have hy6 := hy.move (P' := fun _ => True) (fun g hg _ => setRow_ne (cells := (cells5 y (.slice py y.l.length cy))) hg) (fun _ _ _ => trivial)
              refine step_store_row rfl 29 _ _ rfl (U53.heap.size) (cells5 y (.slice py y.l.length cy)) (by kernel_rfl) (by kernel_rfl) 29 (cells5 zeroT (.slice none 0 0)) hn5 (size28 _ _) (by kernel_rfl) (by kernel_rfl) ?_
              refine hK.out _ _ ?_ (fun hHeld => ?_)
              · (try dsimp only); exact hmv _ hB
              clear hK K
              (try simp only [List.getElem_toArray, List.getElem_cons_succ, List.getElem_cons_zero, Act.put])
              refine wpAnyH_take (i := 15) (v := ?_) rfl (by kernel_rfl) (by kernel_rfl) (by kernel_rfl) (fun _ _ _ h => h) (Or.inl ⟨by rfl, ?_⟩) (by assumption) ?_
              rotate_left 1
              (intro w hSw; (try dsimp only at hSw); go_simp; try with_reducible rfl)
              (try simp only [List.getElem_toArray, List.getElem_cons_succ, List.getElem_cons_zero, Act.put, List.setIfInBounds_toArray, List.set_cons_zero, List.set_cons_succ])
              refine wpAnyH_done (by kernel_rfl) ?_ _
              go_wp2_with fail
              go_meet
              exact ⟨_, _, _, _, rfl, rfl, hn6, hy6, hq, hB⟩
            · go_simp
              have hst := alloc_below U52 (.cells (cells5 zeroT (.slice none 0 0)) 29)
              have hge5 : w9.heap.size ≤ U52.heap.size := hB.size
              have hne5 : ∀ g, (vrU52).ownBlock = some g → g ≠ U52.heap.size := fun g hg => Nat.ne_of_lt (hrow.own.lt g hg).2
              have hn5 := heap_new U52 (.cells (cells5 zeroT (.slice none 0 0)) 29)
              have hrow := hrow.under hst
              have hB := hB.trans (hst.mono hB.size)
              refine hK.out _ _ ?_ (fun hHeld => ?_)
              · (try dsimp only); exact hmv _ hB
              clear hK K hst
              (try simp only [List.getElem_toArray, List.getElem_cons_succ, List.getElem_cons_zero, Act.put, List.setIfInBounds_toArray, List.set_cons_zero, List.set_cons_succ])
              change wpAnyH _ _ _ _ _ _ _ _ (U52.alloc (.cells (cells5 zeroT (.slice none 0 0)) 29))
              generalize U52.alloc (.cells (cells5 zeroT (.slice none 0 0)) 29) = U56 at hB hHeld hrow hn5 ⊢
              refine wpAnyH_ready (rs := [9]) (by kernel_rfl) (by simp) ?_
              refine (AllReadyH.cons rfl (fun K hK => ?_) AllReadyH.nil)
              have hb5lt := (Array.getElem?_eq_some_iff.1 hn5).1
              have hbn := hrow.bindsF (F := fun g => g ≠ U52.heap.size) (fun g hg => by have := hge5; omega) hne5 hlenC
              have cV := gVal_any (F := fun g => g ≠ U52.heap.size) (x := vN s) (sv := .slice none 0 0) (HL.out.under (HB6.out.trans (hB.mono HB6.out.size))) (fun g hg => by omega) (HN.out _ _) hbn
              go_simp
              go_wp2_with (go_at_call 21; refine cV.mono ?_; rintro e U57 ⟨y, yv, er, rfl, hy, hst, hq⟩; obtain ⟨py, cy, rfl⟩ := hy.kids.slice)
              have hn5 := (hst.block _ (Array.getElem?_eq_some_iff.1 hn5).1).trans hn5
              have hB := hB.trans (hst.mono hB.size)
              refine hK.out _ _ ?_ (fun hHeld => ?_)
              · (try dsimp only); exact hmv _ hB
              clear hK K hst
              (try simp only [List.getElem_toArray, List.getElem_cons_succ, List.getElem_cons_zero, Act.put, List.setIfInBounds_toArray, List.set_cons_zero, List.set_cons_succ])
              refine wpAnyH_take (i := 10) (v := ?_) rfl (by kernel_rfl) (by kernel_rfl) (by kernel_rfl) (fun _ _ _ h => h) (Or.inl ⟨by rfl, ?_⟩) (by assumption) ?_
              rotate_left 1
              (intro w hSw; (try dsimp only at hSw); go_simp; try with_reducible rfl)
              (try simp only [List.getElem_toArray, List.getElem_cons_succ, List.getElem_cons_zero, Act.put, List.setIfInBounds_toArray, List.set_cons_zero, List.set_cons_succ])
              refine wpAnyH_take (i := 11) (v := ?_) rfl (by kernel_rfl) (by kernel_rfl) (by kernel_rfl) (fun _ _ _ h => h) (Or.inl ⟨by rfl, ?_⟩) (by assumption) ?_
              rotate_left 1
              (intro w hSw; (try dsimp only at hSw); go_simp; try with_reducible rfl)
              (try simp only [List.getElem_toArray, List.getElem_cons_succ, List.getElem_cons_zero, Act.put, List.setIfInBounds_toArray, List.set_cons_zero, List.set_cons_succ])
              refine wpAnyH_take (i := 12) (v := ?_) rfl (by kernel_rfl) (by kernel_rfl) (by kernel_rfl) (fun _ _ _ h => h) (Or.inl ⟨by rfl, ?_⟩) (by assumption) ?_
              rotate_left 1
              (intro w hSw; (try dsimp only at hSw); go_simp; try with_reducible rfl)
              (try simp only [List.getElem_toArray, List.getElem_cons_succ, List.getElem_cons_zero, Act.put, List.setIfInBounds_toArray, List.set_cons_zero, List.set_cons_succ])
              refine wpAnyH_ready (rs := [14]) (by kernel_rfl) (by simp) ?_
              refine (AllReadyH.cons rfl (fun K hK => ?_) AllReadyH.nil)
              have hB := below_setRow (g := U52.heap.size) (cells := (cells5 y (.slice py y.l.length cy))) hB hge5
              have hn6 := setRow_heap' (cells := (cells5 y (.slice py y.l.length cy))) hn5
              have hy6 := hy.move (P' := fun _ => True) (fun g hg _ => setRow_ne (cells := (cells5 y (.slice py y.l.length cy))) hg) (fun _ _ _ => trivial)
              refine step_store_row rfl 29 _ _ rfl (U52.heap.size) (cells5 y (.slice py y.l.length cy)) (by kernel_rfl) (by kernel_rfl) 29 (cells5 zeroT (.slice none 0 0)) hn5 (size28 _ _) (by kernel_rfl) (by kernel_rfl) ?_
              refine hK.out _ _ ?_ (fun hHeld => ?_)
              · (try dsimp only); exact hmv _ hB
              clear hK K
              (try simp only [List.getElem_toArray, List.getElem_cons_succ, List.getElem_cons_zero, Act.put])
              refine wpAnyH_take (i := 15) (v := ?_) rfl (by kernel_rfl) (by kernel_rfl) (by kernel_rfl) (fun _ _ _ h => h) (Or.inl ⟨by rfl, ?_⟩) (by assumption) ?_
              rotate_left 1
              (intro w hSw; (try dsimp only at hSw); go_simp; try with_reducible rfl)
              (try simp only [List.getElem_toArray, List.getElem_cons_succ, List.getElem_cons_zero, Act.put, List.setIfInBounds_toArray, List.set_cons_zero, List.set_cons_succ])
              refine wpAnyH_done (by kernel_rfl) ?_ _
              go_wp2_with fail
              go_meet
              exact ⟨_, _, _, _, rfl, rfl, hn6, hy6, hq, hB⟩
          · go_simp
            have hst := alloc_below U51 (.cells (cells5 zeroT (.slice none 0 0)) 29)
            have hge5 : w9.heap.size ≤ U51.heap.size := hB.size
            have hne5 : ∀ g, (vrU51).ownBlock = some g → g ≠ U51.heap.size := fun g hg => Nat.ne_of_lt (hrow.own.lt g hg).2
            have hn5 := heap_new U51 (.cells (cells5 zeroT (.slice none 0 0)) 29)
            have ht := ht.below hst
            have hn7 := (hst.block _ (Array.getElem?_eq_some_iff.1 hn7).1).trans hn7
            have hrow := hrow.under hst
            have hB := hB.trans (hst.mono hB.size)
            refine hK.out _ _ ?_ (fun hHeld => ?_)
            · (try dsimp only); exact hmv _ hB
            clear hK K hst
            (try simp only [List.getElem_toArray, List.getElem_cons_succ, List.getElem_cons_zero, Act.put, List.setIfInBounds_toArray, List.set_cons_zero, List.set_cons_succ])
            change wpAnyH _ _ _ _ _ _ _ _ (U51.alloc (.cells (cells5 zeroT (.slice none 0 0)) 29))
            generalize U51.alloc (.cells (cells5 zeroT (.slice none 0 0)) 29) = U59 at hB hHeld ht hn7 hrow hn5 ⊢
            refine wpAnyH_ready (rs := [8]) (by kernel_rfl) (by simp) ?_
            refine (AllReadyH.cons rfl (fun K hK => ?_) AllReadyH.nil)
            have hlt7U60 := (Array.getElem?_eq_some_iff.1 hn7).1
            have hlt5U60 := (Array.getElem?_eq_some_iff.1 hn5).1
            refine step_append_brow rfl _ _ rfl w9.heap.size vrU51 ([] ++ Ls) rfl hrow (some ⟨U0.heap.size, 0, none⟩) 1 1 [((⟨s, t⟩ : Bd), Value.slice pt t.l.length ct)] rfl (BSrc.one (d := ⟨s, t⟩) hn7 ht hsz) hlenB hB.size ?_
            intro vrU60 U60 hrow hgrow hown hst0
            have hn5 := (hgrow.block _ (Array.getElem?_eq_some_iff.1 hn5).1 (fun e0 => hne5 _ e0.symm rfl)).trans hn5
            have hne5 : ∀ g, vrU60.ownBlock = some g → g ≠ U51.heap.size := fun g hg => hown.elim (fun h => hne5 g (h ▸ hg)) (fun h => by have h1 := h g hg; have h2 : U51.heap.size < U59.heap.size := hlt5U60; omega)
            have hn7 := (hgrow.block _ (Array.getElem?_eq_some_iff.1 hn7).1 (fun e0 => hne7 _ e0.symm rfl)).trans hn7
            have hne7 : ∀ g, vrU60.ownBlock = some g → g ≠ U0.heap.size := fun g hg => hown.elim (fun h => hne7 g (h ▸ hg)) (fun h => by have h1 := h g hg; have h2 : U0.heap.size < U59.heap.size := hlt7U60; omega)
            have hB := hB.trans hst0
            refine hK.out _ _ ?_ (fun hHeld => ?_)
            · (try dsimp only); exact hmv _ hB
            clear hK K
            (try simp only [List.getElem_toArray, List.getElem_cons_succ, List.getElem_cons_zero, Act.put])
            refine wpAnyH_ready (rs := [9]) (by kernel_rfl) (by simp) ?_
            refine (AllReadyH.cons rfl (fun K hK => ?_) AllReadyH.nil)
            have hb5lt := (Array.getElem?_eq_some_iff.1 hn5).1
            have hbn := hrow.bindsF (F := fun g => g ≠ U51.heap.size) (fun g hg => by have := hge5; omega) hne5 hlenC
            have cV := gVal_any (F := fun g => g ≠ U51.heap.size) (x := vN s) (sv := .slice none 0 0) (HL.out.under (HB6.out.trans (hB.mono HB6.out.size))) (fun g hg => by omega) (HN.out _ _) hbn
            go_simp
            go_wp2_with (go_at_call 21; refine cV.mono ?_; rintro e U61 ⟨y, yv, er, rfl, hy, hst, hq⟩; obtain ⟨py, cy, rfl⟩ := hy.kids.slice)
            have hn5 := (hst.block _ (Array.getElem?_eq_some_iff.1 hn5).1).trans hn5
            have hB := hB.trans (hst.mono hB.size)
            refine hK.out _ _ ?_ (fun hHeld => ?_)
            · (try dsimp only); exact hmv _ hB
            clear hK K hst
            (try simp only [List.getElem_toArray, List.getElem_cons_succ, List.getElem_cons_zero, Act.put, List.setIfInBounds_toArray, List.set_cons_zero, List.set_cons_succ])
            refine wpAnyH_take (i := 10) (v := ?_) rfl (by kernel_rfl) (by kernel_rfl) (by kernel_rfl) (fun _ _ _ h => h) (Or.inl ⟨by rfl, ?_⟩) (by assumption) ?_
            rotate_left 1
            (intro w hSw; (try dsimp only at hSw); go_simp; try with_reducible rfl)
            (try simp only [List.getElem_toArray, List.getElem_cons_succ, List.getElem_cons_zero, Act.put, List.setIfInBounds_toArray, List.set_cons_zero, List.set_cons_succ])
            refine wpAnyH_take (i := 11) (v := ?_) rfl (by kernel_rfl) (by kernel_rfl) (by kernel_rfl) (fun _ _ _ h => h) (Or.inl ⟨by rfl, ?_⟩) (by assumption) ?_
            rotate_left 1
            (intro w hSw; (try dsimp only at hSw); go_simp; try with_reducible rfl)
            (try simp only [List.getElem_toArray, List.getElem_cons_succ, List.getElem_cons_zero, Act.put, List.setIfInBounds_toArray, List.set_cons_zero, List.set_cons_succ])
            refine wpAnyH_take (i := 12) (v := ?_) rfl (by kernel_rfl) (by kernel_rfl) (by kernel_rfl) (fun _ _ _ h => h) (Or.inl ⟨by rfl, ?_⟩) (by assumption) ?_
            rotate_left 1
            (intro w hSw; (try dsimp only at hSw); go_simp; try with_reducible rfl)
            (try simp only [List.getElem_toArray, List.getElem_cons_succ, List.getElem_cons_zero, Act.put, List.setIfInBounds_toArray, List.set_cons_zero, List.set_cons_succ])
            refine wpAnyH_ready (rs := [14]) (by kernel_rfl) (by simp) ?_
            refine (AllReadyH.cons rfl (fun K hK => ?_) AllReadyH.nil)
            have hB := below_setRow (g := U51.heap.size) (cells := (cells5 y (.slice py y.l.length cy))) hB hge5
            have hn6 := setRow_heap' (cells := (cells5 y (.slice py y.l.length cy))) hn5
            have hy6 := hy.move (P' := fun _ => True) (fun g hg _ => setRow_ne (cells := (cells5 y (.slice py y.l.length cy))) hg) (fun _ _ _ => trivial)
            refine step_store_row rfl 29 _ _ rfl (U51.heap.size) (cells5 y (.slice py y.l.length cy)) (by kernel_rfl) (by kernel_rfl) 29 (cells5 zeroT (.slice none 0 0)) hn5 (size28 _ _) (by kernel_rfl) (by kernel_rfl) ?_
            refine hK.out _ _ ?_ (fun hHeld => ?_)
            · (try dsimp only); exact hmv _ hB
            clear hK K
            (try simp only [List.getElem_toArray, List.getElem_cons_succ, List.getElem_cons_zero, Act.put])
            refine wpAnyH_take (i := 15) (v := ?_) rfl (by kernel_rfl) (by kernel_rfl) (by kernel_rfl) (fun _ _ _ h => h) (Or.inl ⟨by rfl, ?_⟩) (by assumption) ?_
            rotate_left 1
            (intro w hSw; (try dsimp only at hSw); go_simp; try with_reducible rfl)
            (try simp only [List.getElem_toArray, List.getElem_cons_succ, List.getElem_cons_zero, Act.put, List.setIfInBounds_toArray, List.set_cons_zero, List.set_cons_succ])
            refine wpAnyH_done (by kernel_rfl) ?_ _
            go_wp2_with fail
            go_meet
            exact ⟨_, _, _, _, rfl, rfl, hn6, hy6, hq, hB⟩
        · go_simp
          have hst := alloc_below U50 (.cells (cells5 zeroT (.slice none 0 0)) 29)
          have hge5 : w9.heap.size ≤ U50.heap.size := hB.size
          have hne5 : ∀ g, ((Value.slice (some ⟨U49.heap.size, 0, none⟩) 0 0)).ownBlock = some g → g ≠ U50.heap.size := fun g hg => Nat.ne_of_lt (hrow.own.lt g hg).2
          have hn5 := heap_new U50 (.cells (cells5 zeroT (.slice none 0 0)) 29)
          have hsrc := hsrc.under hst
          have ht := ht.below hst
          have hn7 := (hst.block _ (Array.getElem?_eq_some_iff.1 hn7).1).trans hn7
          have hrow := hrow.under hst
          have hB := hB.trans (hst.mono hB.size)
          refine hK.out _ _ ?_ (fun hHeld => ?_)
          · (try dsimp only); exact hmv _ hB
          clear hK K hst
          (try simp only [List.getElem_toArray, List.getElem_cons_succ, List.getElem_cons_zero, Act.put, List.setIfInBounds_toArray, List.set_cons_zero, List.set_cons_succ])
          change wpAnyH _ _ _ _ _ _ _ _ (U50.alloc (.cells (cells5 zeroT (.slice none 0 0)) 29))
          generalize U50.alloc (.cells (cells5 zeroT (.slice none 0 0)) 29) = U63 at hB hHeld hsrc ht hn7 hrow hn5 ⊢
          refine wpAnyH_ready (rs := [3]) (by kernel_rfl) (by simp) ?_
          refine (AllReadyH.cons rfl (fun K hK => ?_) AllReadyH.nil)
          have hlt7U64 := (Array.getElem?_eq_some_iff.1 hn7).1
          have hlt5U64 := (Array.getElem?_eq_some_iff.1 hn5).1
          refine step_append_brow rfl _ _ rfl w9.heap.size (Value.slice (some ⟨U49.heap.size, 0, none⟩) 0 0) [] rfl hrow pl l.length cl Ls rfl hsrc hlenA hB.size ?_
          intro vrU64 U64 hrow hgrow hown hst0
          have hn5 := (hgrow.block _ (Array.getElem?_eq_some_iff.1 hn5).1 (fun e0 => hne5 _ e0.symm rfl)).trans hn5
          have hne5 : ∀ g, vrU64.ownBlock = some g → g ≠ U50.heap.size := fun g hg => hown.elim (fun h => hne5 g (h ▸ hg)) (fun h => by have h1 := h g hg; have h2 : U50.heap.size < U63.heap.size := hlt5U64; omega)
          have hn7 := (hgrow.block _ (Array.getElem?_eq_some_iff.1 hn7).1 (fun e0 => hne7 _ e0.symm rfl)).trans hn7
          have hne7 : ∀ g, vrU64.ownBlock = some g → g ≠ U0.heap.size := fun g hg => hown.elim (fun h => hne7 g (h ▸ hg)) (fun h => by have h1 := h g hg; have h2 : U0.heap.size < U63.heap.size := hlt7U64; omega)
          have hB := hB.trans hst0
          have ht : TrV (fun g => g < w9.heap.size) U64 t (Value.slice pt t.l.length ct) := ⟨ht.wf, ht.kids.keep fun g hg _ => hst0.block g hg⟩
          refine hK.out _ _ ?_ (fun hHeld => ?_)
          · (try dsimp only); exact hmv _ hB
          clear hK K
          (try simp only [List.getElem_toArray, List.getElem_cons_succ, List.getElem_cons_zero, Act.put])
          refine wpAnyH_ready (rs := [8]) (by kernel_rfl) (by simp) ?_
          refine (AllReadyH.cons rfl (fun K hK => ?_) AllReadyH.nil)
          have hlt7U65 := (Array.getElem?_eq_some_iff.1 hn7).1
          have hlt5U65 := (Array.getElem?_eq_some_iff.1 hn5).1
          refine step_append_brow rfl _ _ rfl w9.heap.size vrU64 ([] ++ Ls) rfl hrow (some ⟨U0.heap.size, 0, none⟩) 1 1 [((⟨s, t⟩ : Bd), Value.slice pt t.l.length ct)] rfl (BSrc.one (d := ⟨s, t⟩) hn7 ht hsz) hlenB hB.size ?_
          intro vrU65 U65 hrow hgrow hown hst0
          have hn5 := (hgrow.block _ (Array.getElem?_eq_some_iff.1 hn5).1 (fun e0 => hne5 _ e0.symm rfl)).trans hn5
          have hne5 : ∀ g, vrU65.ownBlock = some g → g ≠ U50.heap.size := fun g hg => hown.elim (fun h => hne5 g (h ▸ hg)) (fun h => by have h1 := h g hg; have h2 : U50.heap.size < U64.heap.size := hlt5U65; omega)
          have hn7 := (hgrow.block _ (Array.getElem?_eq_some_iff.1 hn7).1 (fun e0 => hne7 _ e0.symm rfl)).trans hn7
          have hne7 : ∀ g, vrU65.ownBlock = some g → g ≠ U0.heap.size := fun g hg => hown.elim (fun h => hne7 g (h ▸ hg)) (fun h => by have h1 := h g hg; have h2 : U0.heap.size < U64.heap.size := hlt7U65; omega)
          have hB := hB.trans hst0
          refine hK.out _ _ ?_ (fun hHeld => ?_)
          · (try dsimp only); exact hmv _ hB
          clear hK K
          (try simp only [List.getElem_toArray, List.getElem_cons_succ, List.getElem_cons_zero, Act.put])
          refine wpAnyH_ready (rs := [9]) (by kernel_rfl) (by simp) ?_
          refine (AllReadyH.cons rfl (fun K hK => ?_) AllReadyH.nil)
          have hb5lt := (Array.getElem?_eq_some_iff.1 hn5).1
          have hbn := hrow.bindsF (F := fun g => g ≠ U50.heap.size) (fun g hg => by have := hge5; omega) hne5 hlenC
          have cV := gVal_any (F := fun g => g ≠ U50.heap.size) (x := vN s) (sv := .slice none 0 0) (HL.out.under (HB6.out.trans (hB.mono HB6.out.size))) (fun g hg => by omega) (HN.out _ _) hbn
          go_simp
          go_wp2_with (go_at_call 21; refine cV.mono ?_; rintro e U66 ⟨y, yv, er, rfl, hy, hst, hq⟩; obtain ⟨py, cy, rfl⟩ := hy.kids.slice)
          have hn5 := (hst.block _ (Array.getElem?_eq_some_iff.1 hn5).1).trans hn5
          have hB := hB.trans (hst.mono hB.size)
          refine hK.out _ _ ?_ (fun hHeld => ?_)
          · (try dsimp only); exact hmv _ hB
          clear hK K hst
          (try simp only [List.getElem_toArray, List.getElem_cons_succ, List.getElem_cons_zero, Act.put, List.setIfInBounds_toArray, List.set_cons_zero, List.set_cons_succ])
          refine wpAnyH_take (i := 10) (v := ?_) rfl (by kernel_rfl) (by kernel_rfl) (by kernel_rfl) (fun _ _ _ h => h) (Or.inl ⟨by rfl, ?_⟩) (by assumption) ?_
          rotate_left 1
          (intro w hSw; (try dsimp only at hSw); go_simp; try with_reducible rfl)
          (try simp only [List.getElem_toArray, List.getElem_cons_succ, List.getElem_cons_zero, Act.put, List.setIfInBounds_toArray, List.set_cons_zero, List.set_cons_succ])
          refine wpAnyH_take (i := 11) (v := ?_) rfl (by kernel_rfl) (by kernel_rfl) (by kernel_rfl) (fun _ _ _ h => h) (Or.inl ⟨by rfl, ?_⟩) (by assumption) ?_
          rotate_left 1
          (intro w hSw; (try dsimp only at hSw); go_simp; try with_reducible rfl)
          (try simp only [List.getElem_toArray, List.getElem_cons_succ, List.getElem_cons_zero, Act.put, List.setIfInBounds_toArray, List.set_cons_zero, List.set_cons_succ])
          refine wpAnyH_take (i := 12) (v := ?_) rfl (by kernel_rfl) (by kernel_rfl) (by kernel_rfl) (fun _ _ _ h => h) (Or.inl ⟨by rfl, ?_⟩) (by assumption) ?_
          rotate_left 1
          (intro w hSw; (try dsimp only at hSw); go_simp; try with_reducible rfl)
          (try simp only [List.getElem_toArray, List.getElem_cons_succ, List.getElem_cons_zero, Act.put, List.setIfInBounds_toArray, List.set_cons_zero, List.set_cons_succ])
          refine wpAnyH_ready (rs := [14]) (by kernel_rfl) (by simp) ?_
          refine (AllReadyH.cons rfl (fun K hK => ?_) AllReadyH.nil)
          have hB := below_setRow (g := U50.heap.size) (cells := (cells5 y (.slice py y.l.length cy))) hB hge5
          have hn6 := setRow_heap' (cells := (cells5 y (.slice py y.l.length cy))) hn5
          have hy6 := hy.move (P' := fun _ => True) (fun g hg _ => setRow_ne (cells := (cells5 y (.slice py y.l.length cy))) hg) (fun _ _ _ => trivial)
          refine step_store_row rfl 29 _ _ rfl (U50.heap.size) (cells5 y (.slice py y.l.length cy)) (by kernel_rfl) (by kernel_rfl) 29 (cells5 zeroT (.slice none 0 0)) hn5 (size28 _ _) (by kernel_rfl) (by kernel_rfl) ?_
          refine hK.out _ _ ?_ (fun hHeld => ?_)
          · (try dsimp only); exact hmv _ hB
          clear hK K
          (try simp only [List.getElem_toArray, List.getElem_cons_succ, List.getElem_cons_zero, Act.put])
          refine wpAnyH_take (i := 15) (v := ?_) rfl (by kernel_rfl) (by kernel_rfl) (by kernel_rfl) (fun _ _ _ h => h) (Or.inl ⟨by rfl, ?_⟩) (by assumption) ?_
          rotate_left 1
          (intro w hSw; (try dsimp only at hSw); go_simp; try with_reducible rfl)
          (try simp only [List.getElem_toArray, List.getElem_cons_succ, List.getElem_cons_zero, Act.put, List.setIfInBounds_toArray, List.set_cons_zero, List.set_cons_succ])
          refine wpAnyH_done (by kernel_rfl) ?_ _
          go_wp2_with fail
          go_meet
          exact ⟨_, _, _, _, rfl, rfl, hn6, hy6, hq, hB⟩
      · go_simp
        have hst := alloc_below U49 (.cells (cells5 zeroT (.slice none 0 0)) 29)
        have hge5 : w9.heap.size ≤ U49.heap.size := hB.size
        have hn5 := heap_new U49 (.cells (cells5 zeroT (.slice none 0 0)) 29)
        have hsrc := hsrc.under hst
        have ht := ht.below hst
        have hn7 := (hst.block _ (Array.getElem?_eq_some_iff.1 hn7).1).trans hn7
        have hB := hB.trans (hst.mono hB.size)
        refine hK.out _ _ ?_ (fun hHeld => ?_)
        · (try dsimp only); exact hmv _ hB
        clear hK K hst
        (try simp only [List.getElem_toArray, List.getElem_cons_succ, List.getElem_cons_zero, Act.put, List.setIfInBounds_toArray, List.set_cons_zero, List.set_cons_succ])
        change wpAnyH _ _ _ _ _ _ _ _ (U49.alloc (.cells (cells5 zeroT (.slice none 0 0)) 29))
        generalize U49.alloc (.cells (cells5 zeroT (.slice none 0 0)) 29) = U68 at hB hHeld hsrc ht hn7 hn5 ⊢
        refine wpAnyH_ready (rs := [1]) (by kernel_rfl) (by simp) ?_
        refine (AllReadyH.cons rfl (fun K hK => ?_) AllReadyH.nil)
        go_simp
        have hst := alloc_below U68 (.cells #[] 40)
        have hne5 : ∀ g, (Value.slice (some ⟨U68.heap.size, 0, none⟩) 0 0).ownBlock = some g → g ≠ U49.heap.size := fun g hg => by cases hg; exact Nat.ne_of_gt (Array.getElem?_eq_some_iff.1 hn5).1
        have hne7 : ∀ g, (Value.slice (some ⟨U68.heap.size, 0, none⟩) 0 0).ownBlock = some g → g ≠ U0.heap.size := fun g hg => by cases hg; exact Nat.ne_of_gt (Array.getElem?_eq_some_iff.1 hn7).1
        have hrow := BRow.zero (base := w9.heap.size) (heap_new U68 (.cells #[] 40)) hB.size
        have hsrc := hsrc.under hst
        have ht := ht.below hst
        have hn7 := (hst.block _ (Array.getElem?_eq_some_iff.1 hn7).1).trans hn7
        have hn5 := (hst.block _ (Array.getElem?_eq_some_iff.1 hn5).1).trans hn5
        have hB := hB.trans (hst.mono hB.size)
        refine hK.out _ _ ?_ (fun hHeld => ?_)
        · (try dsimp only); exact hmv _ hB
        clear hK K hst
        (try simp only [List.getElem_toArray, List.getElem_cons_succ, List.getElem_cons_zero, Act.put, List.setIfInBounds_toArray, List.set_cons_zero, List.set_cons_succ])
        change wpAnyH _ _ _ _ _ _ _ _ (U68.alloc (.cells #[] 40))
        generalize U68.alloc (.cells #[] 40) = U69 at hB hHeld hsrc ht hn7 hn5 hrow ⊢
        refine wpAnyH_ready (rs := [3]) (by kernel_rfl) (by simp) ?_
        refine (AllReadyH.cons rfl (fun K hK => ?_) AllReadyH.nil)
        have hlt7U70 := (Array.getElem?_eq_some_iff.1 hn7).1
        have hlt5U70 := (Array.getElem?_eq_some_iff.1 hn5).1
        refine step_append_brow rfl _ _ rfl w9.heap.size (Value.slice (some ⟨U68.heap.size, 0, none⟩) 0 0) [] rfl hrow pl l.length cl Ls rfl hsrc hlenA hB.size ?_
        intro vrU70 U70 hrow hgrow hown hst0
        have hn5 := (hgrow.block _ (Array.getElem?_eq_some_iff.1 hn5).1 (fun e0 => hne5 _ e0.symm rfl)).trans hn5
        have hne5 : ∀ g, vrU70.ownBlock = some g → g ≠ U49.heap.size := fun g hg => hown.elim (fun h => hne5 g (h ▸ hg)) (fun h => by have h1 := h g hg; have h2 : U49.heap.size < U69.heap.size := hlt5U70; omega)
        have hn7 := (hgrow.block _ (Array.getElem?_eq_some_iff.1 hn7).1 (fun e0 => hne7 _ e0.symm rfl)).trans hn7
        have hne7 : ∀ g, vrU70.ownBlock = some g → g ≠ U0.heap.size := fun g hg => hown.elim (fun h => hne7 g (h ▸ hg)) (fun h => by have h1 := h g hg; have h2 : U0.heap.size < U69.heap.size := hlt7U70; omega)
        have hB := hB.trans hst0
        have ht : TrV (fun g => g < w9.heap.size) U70 t (Value.slice pt t.l.length ct) := ⟨ht.wf, ht.kids.keep fun g hg _ => hst0.block g hg⟩
        refine hK.out _ _ ?_ (fun hHeld => ?_)
        · (try dsimp only); exact hmv _ hB
        clear hK K
        (try simp only [List.getElem_toArray, List.getElem_cons_succ, List.getElem_cons_zero, Act.put])
        refine wpAnyH_ready (rs := [8]) (by kernel_rfl) (by simp) ?_
        refine (AllReadyH.cons rfl (fun K hK => ?_) AllReadyH.nil)
        have hlt7U71 := (Array.getElem?_eq_some_iff.1 hn7).1
        have hlt5U71 := (Array.getElem?_eq_some_iff.1 hn5).1
        refine step_append_brow rfl _ _ rfl w9.heap.size vrU70 ([] ++ Ls) rfl hrow (some ⟨U0.heap.size, 0, none⟩) 1 1 [((⟨s, t⟩ : Bd), Value.slice pt t.l.length ct)] rfl (BSrc.one (d := ⟨s, t⟩) hn7 ht hsz) hlenB hB.size ?_
        intro vrU71 U71 hrow hgrow hown hst0
        have hn5 := (hgrow.block _ (Array.getElem?_eq_some_iff.1 hn5).1 (fun e0 => hne5 _ e0.symm rfl)).trans hn5
        have hne5 : ∀ g, vrU71.ownBlock = some g → g ≠ U49.heap.size := fun g hg => hown.elim (fun h => hne5 g (h ▸ hg)) (fun h => by have h1 := h g hg; have h2 : U49.heap.size < U70.heap.size := hlt5U71; omega)
        have hn7 := (hgrow.block _ (Array.getElem?_eq_some_iff.1 hn7).1 (fun e0 => hne7 _ e0.symm rfl)).trans hn7
        have hne7 : ∀ g, vrU71.ownBlock = some g → g ≠ U0.heap.size := fun g hg => hown.elim (fun h => hne7 g (h ▸ hg)) (fun h => by have h1 := h g hg; have h2 : U0.heap.size < U70.heap.size := hlt7U71; omega)
        have hB := hB.trans hst0
        refine hK.out _ _ ?_ (fun hHeld => ?_)
        · (try dsimp only); exact hmv _ hB
        clear hK K
        (try simp only [List.getElem_toArray, List.getElem_cons_succ, List.getElem_cons_zero, Act.put])
        refine wpAnyH_ready (rs := [9]) (by kernel_rfl) (by simp) ?_
        refine (AllReadyH.cons rfl (fun K hK => ?_) AllReadyH.nil)
        have hb5lt := (Array.getElem?_eq_some_iff.1 hn5).1
        have hbn := hrow.bindsF (F := fun g => g ≠ U49.heap.size) (fun g hg => by have := hge5; omega) hne5 hlenC
        have cV := gVal_any (F := fun g => g ≠ U49.heap.size) (x := vN s) (sv := .slice none 0 0) (HL.out.under (HB6.out.trans (hB.mono HB6.out.size))) (fun g hg => by omega) (HN.out _ _) hbn
        go_simp
        go_wp2_with (go_at_call 21; refine cV.mono ?_; rintro e U72 ⟨y, yv, er, rfl, hy, hst, hq⟩; obtain ⟨py, cy, rfl⟩ := hy.kids.slice)
        have hn5 := (hst.block _ (Array.getElem?_eq_some_iff.1 hn5).1).trans hn5
        have hB := hB.trans (hst.mono hB.size)
        refine hK.out _ _ ?_ (fun hHeld => ?_)
        · (try dsimp only); exact hmv _ hB
        clear hK K hst
        (try simp only [List.getElem_toArray, List.getElem_cons_succ, List.getElem_cons_zero, Act.put, List.setIfInBounds_toArray, List.set_cons_zero, List.set_cons_succ])
        refine wpAnyH_take (i := 10) (v := ?_) rfl (by kernel_rfl) (by kernel_rfl) (by kernel_rfl) (fun _ _ _ h => h) (Or.inl ⟨by rfl, ?_⟩) (by assumption) ?_
        rotate_left 1
        (intro w hSw; (try dsimp only at hSw); go_simp; try with_reducible rfl)
        (try simp only [List.getElem_toArray, List.getElem_cons_succ, List.getElem_cons_zero, Act.put, List.setIfInBounds_toArray, List.set_cons_zero, List.set_cons_succ])
        refine wpAnyH_take (i := 11) (v := ?_) rfl (by kernel_rfl) (by kernel_rfl) (by kernel_rfl) (fun _ _ _ h => h) (Or.inl ⟨by rfl, ?_⟩) (by assumption) ?_
        rotate_left 1
        (intro w hSw; (try dsimp only at hSw); go_simp; try with_reducible rfl)
        (try simp only [List.getElem_toArray, List.getElem_cons_succ, List.getElem_cons_zero, Act.put, List.setIfInBounds_toArray, List.set_cons_zero, List.set_cons_succ])
        refine wpAnyH_take (i := 12) (v := ?_) rfl (by kernel_rfl) (by kernel_rfl) (by kernel_rfl) (fun _ _ _ h => h) (Or.inl ⟨by rfl, ?_⟩) (by assumption) ?_
        rotate_left 1
        (intro w hSw; (try dsimp only at hSw); go_simp; try with_reducible rfl)
        (try simp only [List.getElem_toArray, List.getElem_cons_succ, List.getElem_cons_zero, Act.put, List.setIfInBounds_toArray, List.set_cons_zero, List.set_cons_succ])
        refine wpAnyH_ready (rs := [14]) (by kernel_rfl) (by simp) ?_
        refine (AllReadyH.cons rfl (fun K hK => ?_) AllReadyH.nil)
        have hB := below_setRow (g := U49.heap.size) (cells := (cells5 y (.slice py y.l.length cy))) hB hge5
        have hn6 := setRow_heap' (cells := (cells5 y (.slice py y.l.length cy))) hn5
        have hy6 := hy.move (P' := fun _ => True) (fun g hg _ => setRow_ne (cells := (cells5 y (.slice py y.l.length cy))) hg) (fun _ _ _ => trivial)
        refine step_store_row rfl 29 _ _ rfl (U49.heap.size) (cells5 y (.slice py y.l.length cy)) (by kernel_rfl) (by kernel_rfl) 29 (cells5 zeroT (.slice none 0 0)) hn5 (size28 _ _) (by kernel_rfl) (by kernel_rfl) ?_
        refine hK.out _ _ ?_ (fun hHeld => ?_)
        · (try dsimp only); exact hmv _ hB
        clear hK K
        (try simp only [List.getElem_toArray, List.getElem_cons_succ, List.getElem_cons_zero, Act.put])
        refine wpAnyH_take (i := 15) (v := ?_) rfl (by kernel_rfl) (by kernel_rfl) (by kernel_rfl) (fun _ _ _ h => h) (Or.inl ⟨by rfl, ?_⟩) (by assumption) ?_
        rotate_left 1
        (intro w hSw; (try dsimp only at hSw); go_simp; try with_reducible rfl)
        (try simp only [List.getElem_toArray, List.getElem_cons_succ, List.getElem_cons_zero, Act.put, List.setIfInBounds_toArray, List.set_cons_zero, List.set_cons_succ])
        refine wpAnyH_done (by kernel_rfl) ?_ _
        go_wp2_with fail
        go_meet
        exact ⟨_, _, _, _, rfl, rfl, hn6, hy6, hq, hB⟩
    · go_simp
      have hst := alloc_below U0 (.cells (cells5 zeroT (.slice none 0 0)) 29)
      have hge5 : w9.heap.size ≤ U0.heap.size := hB.size
      have hn5 := heap_new U0 (.cells (cells5 zeroT (.slice none 0 0)) 29)
      have hsrc := hsrc.under hst
      have ht := ht.below hst
      have hB := hB.trans (hst.mono hB.size)
      refine hK.out _ _ ?_ (fun hHeld => ?_)
      · (try dsimp only); exact hmv _ hB
      clear hK K hst
      (try simp only [List.getElem_toArray, List.getElem_cons_succ, List.getElem_cons_zero, Act.put, List.setIfInBounds_toArray, List.set_cons_zero, List.set_cons_succ])
      change wpAnyH _ _ _ _ _ _ _ _ (U0.alloc (.cells (cells5 zeroT (.slice none 0 0)) 29))
      generalize U0.alloc (.cells (cells5 zeroT (.slice none 0 0)) 29) = U74 at hB hHeld hsrc ht hn5 ⊢
      refine wpAnyH_ready (rs := [1, 7]) (by kernel_rfl) (by simp) ?_
      refine (AllReadyH.cons rfl (fun K hK => ?_) (AllReadyH.cons rfl (fun K hK => ?_) AllReadyH.nil))
      · go_simp
        have hst := alloc_below U74 (.cells #[] 40)
        have hne5 : ∀ g, (Value.slice (some ⟨U74.heap.size, 0, none⟩) 0 0).ownBlock = some g → g ≠ U0.heap.size := fun g hg => by cases hg; exact Nat.ne_of_gt (Array.getElem?_eq_some_iff.1 hn5).1
        have hrow := BRow.zero (base := w9.heap.size) (heap_new U74 (.cells #[] 40)) hB.size
        have hsrc := hsrc.under hst
        have ht := ht.below hst
        have hn5 := (hst.block _ (Array.getElem?_eq_some_iff.1 hn5).1).trans hn5
        have hB := hB.trans (hst.mono hB.size)
        refine hK.out _ _ ?_ (fun hHeld => ?_)
        · (try dsimp only); exact hmv _ hB
        clear hK K hst
        (try simp only [List.getElem_toArray, List.getElem_cons_succ, List.getElem_cons_zero, Act.put, List.setIfInBounds_toArray, List.set_cons_zero, List.set_cons_succ])
        change wpAnyH _ _ _ _ _ _ _ _ (U74.alloc (.cells #[] 40))
        generalize U74.alloc (.cells #[] 40) = U75 at hB hHeld hsrc ht hn5 hrow ⊢
        refine wpAnyH_ready (rs := [3, 7]) (by kernel_rfl) (by simp) ?_
        refine (AllReadyH.cons rfl (fun K hK => ?_) (AllReadyH.cons rfl (fun K hK => ?_) AllReadyH.nil))
        · have hlt5U76 := (Array.getElem?_eq_some_iff.1 hn5).1
          refine step_append_brow rfl _ _ rfl w9.heap.size (Value.slice (some ⟨U74.heap.size, 0, none⟩) 0 0) [] rfl hrow pl l.length cl Ls rfl hsrc hlenA hB.size ?_
          intro vrU76 U76 hrow hgrow hown hst0
          have hn5 := (hgrow.block _ (Array.getElem?_eq_some_iff.1 hn5).1 (fun e0 => hne5 _ e0.symm rfl)).trans hn5
          have hne5 : ∀ g, vrU76.ownBlock = some g → g ≠ U0.heap.size := fun g hg => hown.elim (fun h => hne5 g (h ▸ hg)) (fun h => by have h1 := h g hg; have h2 : U0.heap.size < U75.heap.size := hlt5U76; omega)
          have hB := hB.trans hst0
          have ht : TrV (fun g => g < w9.heap.size) U76 t (Value.slice pt t.l.length ct) := ⟨ht.wf, ht.kids.keep fun g hg _ => hst0.block g hg⟩
          refine hK.out _ _ ?_ (fun hHeld => ?_)
          · (try dsimp only); exact hmv _ hB
          clear hK K
          (try simp only [List.getElem_toArray, List.getElem_cons_succ, List.getElem_cons_zero, Act.put])
          refine wpAnyH_ready (rs := [7]) (by kernel_rfl) (by simp) ?_
          refine (AllReadyH.cons rfl (fun K hK => ?_) AllReadyH.nil)
          go_simp
          have hst := alloc_below U76 (.cells #[.string s, .int .i8 t.k, .int .i64 t.n, .string t.s, .string t.t, .slice pt t.l.length ct] 40)
          have hn7 := heap_new U76 (.cells #[.string s, .int .i8 t.k, .int .i64 t.n, .string t.s, .string t.t, .slice pt t.l.length ct] 40)
          have hne7 : ∀ g, (vrU76).ownBlock = some g → g ≠ U76.heap.size := fun g hg => Nat.ne_of_lt (hrow.own.lt g hg).2
          have ht := ht.below hst
          have hn5 := (hst.block _ (Array.getElem?_eq_some_iff.1 hn5).1).trans hn5
          have hrow := hrow.under hst
          have hB := hB.trans (hst.mono hB.size)
          refine hK.out _ _ ?_ (fun hHeld => ?_)
          · (try dsimp only); exact hmv _ hB
          clear hK K hst
          (try simp only [List.getElem_toArray, List.getElem_cons_succ, List.getElem_cons_zero, Act.put, List.setIfInBounds_toArray, List.set_cons_zero, List.set_cons_succ])
          change wpAnyH _ _ _ _ _ _ _ _ (U76.alloc (.cells #[.string s, .int .i8 t.k, .int .i64 t.n, .string t.s, .string t.t, .slice pt t.l.length ct] 40))
          generalize U76.alloc (.cells #[.string s, .int .i8 t.k, .int .i64 t.n, .string t.s, .string t.t, .slice pt t.l.length ct] 40) = U77 at hB hHeld ht hn5 hrow hn7 ⊢
          refine wpAnyH_ready (rs := [8]) (by kernel_rfl) (by simp) ?_
          refine (AllReadyH.cons rfl (fun K hK => ?_) AllReadyH.nil)
          have hlt7U78 := (Array.getElem?_eq_some_iff.1 hn7).1
          have hlt5U78 := (Array.getElem?_eq_some_iff.1 hn5).1
          refine step_append_brow rfl _ _ rfl w9.heap.size vrU76 ([] ++ Ls) rfl hrow (some ⟨U76.heap.size, 0, none⟩) 1 1 [((⟨s, t⟩ : Bd), Value.slice pt t.l.length ct)] rfl (BSrc.one (d := ⟨s, t⟩) hn7 ht hsz) hlenB hB.size ?_
          intro vrU78 U78 hrow hgrow hown hst0
          have hn5 := (hgrow.block _ (Array.getElem?_eq_some_iff.1 hn5).1 (fun e0 => hne5 _ e0.symm rfl)).trans hn5
          have hne5 : ∀ g, vrU78.ownBlock = some g → g ≠ U0.heap.size := fun g hg => hown.elim (fun h => hne5 g (h ▸ hg)) (fun h => by have h1 := h g hg; have h2 : U0.heap.size < U77.heap.size := hlt5U78; omega)
          have hn7 := (hgrow.block _ (Array.getElem?_eq_some_iff.1 hn7).1 (fun e0 => hne7 _ e0.symm rfl)).trans hn7
          have hne7 : ∀ g, vrU78.ownBlock = some g → g ≠ U76.heap.size := fun g hg => hown.elim (fun h => hne7 g (h ▸ hg)) (fun h => by have h1 := h g hg; have h2 : U76.heap.size < U77.heap.size := hlt7U78; omega)
          have hB := hB.trans hst0
          refine hK.out _ _ ?_ (fun hHeld => ?_)
          · (try dsimp only); exact hmv _ hB
          clear hK K
          (try simp only [List.getElem_toArray, List.getElem_cons_succ, List.getElem_cons_zero, Act.put])
          refine wpAnyH_ready (rs := [9]) (by kernel_rfl) (by simp) ?_
          refine (AllReadyH.cons rfl (fun K hK => ?_) AllReadyH.nil)
          have hb5lt := (Array.getElem?_eq_some_iff.1 hn5).1
          have hbn := hrow.bindsF (F := fun g => g ≠ U0.heap.size) (fun g hg => by have := hge5; omega) hne5 hlenC
          have cV := gVal_any (F := fun g => g ≠ U0.heap.size) (x := vN s) (sv := .slice none 0 0) (HL.out.under (HB6.out.trans (hB.mono HB6.out.size))) (fun g hg => by omega) (HN.out _ _) hbn
          go_simp
          go_wp2_with (go_at_call 21; refine cV.mono ?_; rintro e U79 ⟨y, yv, er, rfl, hy, hst, hq⟩; obtain ⟨py, cy, rfl⟩ := hy.kids.slice)
          have hn5 := (hst.block _ (Array.getElem?_eq_some_iff.1 hn5).1).trans hn5
          have hB := hB.trans (hst.mono hB.size)
          refine hK.out _ _ ?_ (fun hHeld => ?_)
          · (try dsimp only); exact hmv _ hB
          clear hK K hst
          (try simp only [List.getElem_toArray, List.getElem_cons_succ, List.getElem_cons_zero, Act.put, List.setIfInBounds_toArray, List.set_cons_zero, List.set_cons_succ])
          refine wpAnyH_take (i := 10) (v := ?_) rfl (by kernel_rfl) (by kernel_rfl) (by kernel_rfl) (fun _ _ _ h => h) (Or.inl ⟨by rfl, ?_⟩) (by assumption) ?_
          rotate_left 1
          (intro w hSw; (try dsimp only at hSw); go_simp; try with_reducible rfl)
          (try simp only [List.getElem_toArray, List.getElem_cons_succ, List.getElem_cons_zero, Act.put, List.setIfInBounds_toArray, List.set_cons_zero, List.set_cons_succ])
          refine wpAnyH_take (i := 11) (v := ?_) rfl (by kernel_rfl) (by kernel_rfl) (by kernel_rfl) (fun _ _ _ h => h) (Or.inl ⟨by rfl, ?_⟩) (by assumption) ?_
          rotate_left 1
          (intro w hSw; (try dsimp only at hSw); go_simp; try with_reducible rfl)
          (try simp only [List.getElem_toArray, List.getElem_cons_succ, List.getElem_cons_zero, Act.put, List.setIfInBounds_toArray, List.set_cons_zero, List.set_cons_succ])
          refine wpAnyH_take (i := 12) (v := ?_) rfl (by kernel_rfl) (by kernel_rfl) (by kernel_rfl) (fun _ _ _ h => h) (Or.inl ⟨by rfl, ?_⟩) (by assumption) ?_
          rotate_left 1
          (intro w hSw; (try dsimp only at hSw); go_simp; try with_reducible rfl)
          (try simp only [List.getElem_toArray, List.getElem_cons_succ, List.getElem_cons_zero, Act.put, List.setIfInBounds_toArray, List.set_cons_zero, List.set_cons_succ])
          refine wpAnyH_ready (rs := [14]) (by kernel_rfl) (by simp) ?_
          refine (AllReadyH.cons rfl (fun K hK => ?_) AllReadyH.nil)
          have hB := below_setRow (g := U0.heap.size) (cells := (cells5 y (.slice py y.l.length cy))) hB hge5
          have hn6 := setRow_heap' (cells := (cells5 y (.slice py y.l.length cy))) hn5
          have hy6 := hy.move (P' := fun _ => True) (fun g hg _ => setRow_ne (cells := (cells5 y (.slice py y.l.length cy))) hg) (fun _ _ _ => trivial)
          refine step_store_row rfl 29 _ _ rfl (U0.heap.size) (cells5 y (.slice py y.l.length cy)) (by kernel_rfl) (by kernel_rfl) 29 (cells5 zeroT (.slice none 0 0)) hn5 (size28 _ _) (by kernel_rfl) (by kernel_rfl) ?_
          refine hK.out _ _ ?_ (fun hHeld => ?_)
          · (try dsimp only); exact hmv _ hB
          clear hK K
          (try simp only [List.getElem_toArray, List.getElem_cons_succ, List.getElem_cons_zero, Act.put])
          refine wpAnyH_take (i := 15) (v := ?_) rfl (by kernel_rfl) (by kernel_rfl) (by kernel_rfl) (fun _ _ _ h => h) (Or.inl ⟨by rfl, ?_⟩) (by assumption) ?_
          rotate_left 1
          (intro w hSw; (try dsimp only at hSw); go_simp; try with_reducible rfl)
          (try simp only [List.getElem_toArray, List.getElem_cons_succ, List.getElem_cons_zero, Act.put, List.setIfInBounds_toArray, List.set_cons_zero, List.set_cons_succ])
          refine wpAnyH_done (by kernel_rfl) ?_ _
          go_wp2_with fail
          go_meet
          exact ⟨_, _, _, _, rfl, rfl, hn6, hy6, hq, hB⟩
        · go_simp
          have hst := alloc_below U75 (.cells #[.string s, .int .i8 t.k, .int .i64 t.n, .string t.s, .string t.t, .slice pt t.l.length ct] 40)
          have hn7 := heap_new U75 (.cells #[.string s, .int .i8 t.k, .int .i64 t.n, .string t.s, .string t.t, .slice pt t.l.length ct] 40)
          have hne7 : ∀ g, ((Value.slice (some ⟨U74.heap.size, 0, none⟩) 0 0)).ownBlock = some g → g ≠ U75.heap.size := fun g hg => Nat.ne_of_lt (hrow.own.lt g hg).2
          have hsrc := hsrc.under hst
          have ht := ht.below hst
          have hn5 := (hst.block _ (Array.getElem?_eq_some_iff.1 hn5).1).trans hn5
          have hrow := hrow.under hst
          have hB := hB.trans (hst.mono hB.size)
          refine hK.out _ _ ?_ (fun hHeld => ?_)
          · (try dsimp only); exact hmv _ hB
          clear hK K hst
          (try simp only [List.getElem_toArray, List.getElem_cons_succ, List.getElem_cons_zero, Act.put, List.setIfInBounds_toArray, List.set_cons_zero, List.set_cons_succ])
          change wpAnyH _ _ _ _ _ _ _ _ (U75.alloc (.cells #[.string s, .int .i8 t.k, .int .i64 t.n, .string t.s, .string t.t, .slice pt t.l.length ct] 40))
          generalize U75.alloc (.cells #[.string s, .int .i8 t.k, .int .i64 t.n, .string t.s, .string t.t, .slice pt t.l.length ct] 40) = U81 at hB hHeld hsrc ht hn5 hrow hn7 ⊢
          refine wpAnyH_ready (rs := [3]) (by kernel_rfl) (by simp) ?_
          refine (AllReadyH.cons rfl (fun K hK => ?_) AllReadyH.nil)
          have hlt7U82 := (Array.getElem?_eq_some_iff.1 hn7).1
          have hlt5U82 := (Array.getElem?_eq_some_iff.1 hn5).1
          refine step_append_brow rfl _ _ rfl w9.heap.size (Value.slice (some ⟨U74.heap.size, 0, none⟩) 0 0) [] rfl hrow pl l.length cl Ls rfl hsrc hlenA hB.size ?_
          intro vrU82 U82 hrow hgrow hown hst0
          have hn5 := (hgrow.block _ (Array.getElem?_eq_some_iff.1 hn5).1 (fun e0 => hne5 _ e0.symm rfl)).trans hn5
          have hne5 : ∀ g, vrU82.ownBlock = some g → g ≠ U0.heap.size := fun g hg => hown.elim (fun h => hne5 g (h ▸ hg)) (fun h => by have h1 := h g hg; have h2 : U0.heap.size < U81.heap.size := hlt5U82; omega)
          have hn7 := (hgrow.block _ (Array.getElem?_eq_some_iff.1 hn7).1 (fun e0 => hne7 _ e0.symm rfl)).trans hn7
          have hne7 : ∀ g, vrU82.ownBlock = some g → g ≠ U75.heap.size := fun g hg => hown.elim (fun h => hne7 g (h ▸ hg)) (fun h => by have h1 := h g hg; have h2 : U75.heap.size < U81.heap.size := hlt7U82; omega)
          have hB := hB.trans hst0
          have ht : TrV (fun g => g < w9.heap.size) U82 t (Value.slice pt t.l.length ct) := ⟨ht.wf, ht.kids.keep fun g hg _ => hst0.block g hg⟩
          refine hK.out _ _ ?_ (fun hHeld => ?_)
          · (try dsimp only); exact hmv _ hB
          clear hK K
          (try simp only [List.getElem_toArray, List.getElem_cons_succ, List.getElem_cons_zero, Act.put])
          refine wpAnyH_ready (rs := [8]) (by kernel_rfl) (by simp) ?_
          refine (AllReadyH.cons rfl (fun K hK => ?_) AllReadyH.nil)
          have hlt7U83 := (Array.getElem?_eq_some_iff.1 hn7).1
          have hlt5U83 := (Array.getElem?_eq_some_iff.1 hn5).1
          refine step_append_brow rfl _ _ rfl w9.heap.size vrU82 ([] ++ Ls) rfl hrow (some ⟨U75.heap.size, 0, none⟩) 1 1 [((⟨s, t⟩ : Bd), Value.slice pt t.l.length ct)] rfl (BSrc.one (d := ⟨s, t⟩) hn7 ht hsz) hlenB hB.size ?_
          intro vrU83 U83 hrow hgrow hown hst0
          have hn5 := (hgrow.block _ (Array.getElem?_eq_some_iff.1 hn5).1 (fun e0 => hne5 _ e0.symm rfl)).trans hn5
          have hne5 : ∀ g, vrU83.ownBlock = some g → g ≠ U0.heap.size := fun g hg => hown.elim (fun h => hne5 g (h ▸ hg)) (fun h => by have h1 := h g hg; have h2 : U0.heap.size < U82.heap.size := hlt5U83; omega)
          have hn7 := (hgrow.block _ (Array.getElem?_eq_some_iff.1 hn7).1 (fun e0 => hne7 _ e0.symm rfl)).trans hn7
          have hne7 : ∀ g, vrU83.ownBlock = some g → g ≠ U75.heap.size := fun g hg => hown.elim (fun h => hne7 g (h ▸ hg)) (fun h => by have h1 := h g hg; have h2 : U75.heap.size < U82.heap.size := hlt7U83; omega)
          have hB := hB.trans hst0
          refine hK.out _ _ ?_ (fun hHeld => ?_)
          · (try dsimp only); exact hmv _ hB
          clear hK K
          (try simp only [List.getElem_toArray, List.getElem_cons_succ, List.getElem_cons_zero, Act.put])
          refine wpAnyH_ready (rs := [9]) (by kernel_rfl) (by simp) ?_
          refine (AllReadyH.cons rfl (fun K hK => ?_) AllReadyH.nil)
          have hb5lt := (Array.getElem?_eq_some_iff.1 hn5).1
          have hbn := hrow.bindsF (F := fun g => g ≠ U0.heap.size) (fun g hg => by have := hge5; omega) hne5 hlenC
          have cV := gVal_any (F := fun g => g ≠ U0.heap.size) (x := vN s) (sv := .slice none 0 0) (HL.out.under (HB6.out.trans (hB.mono HB6.out.size))) (fun g hg => by omega) (HN.out _ _) hbn
          go_simp
          go_wp2_with (go_at_call 21; refine cV.mono ?_; rintro e U84 ⟨y, yv, er, rfl, hy, hst, hq⟩; obtain ⟨py, cy, rfl⟩ := hy.kids.slice)
          have hn5 := (hst.block _ (Array.getElem?_eq_some_iff.1 hn5).1).trans hn5
          have hB := hB.trans (hst.mono hB.size)
          refine hK.out _ _ ?_ (fun hHeld => ?_)
          · (try dsimp only); exact hmv _ hB
          clear hK K hst
          (try simp only [List.getElem_toArray, List.getElem_cons_succ, List.getElem_cons_zero, Act.put, List.setIfInBounds_toArray, List.set_cons_zero, List.set_cons_succ])
          refine wpAnyH_take (i := 10) (v := ?_) rfl (by kernel_rfl) (by kernel_rfl) (by kernel_rfl) (fun _ _ _ h => h) (Or.inl ⟨by rfl, ?_⟩) (by assumption) ?_
          rotate_left 1
          (intro w hSw; (try dsimp only at hSw); go_simp; try with_reducible rfl)
          (try simp only [List.getElem_toArray, List.getElem_cons_succ, List.getElem_cons_zero, Act.put, List.setIfInBounds_toArray, List.set_cons_zero, List.set_cons_succ])
          refine wpAnyH_take (i := 11) (v := ?_) rfl (by kernel_rfl) (by kernel_rfl) (by kernel_rfl) (fun _ _ _ h => h) (Or.inl ⟨by rfl, ?_⟩) (by assumption) ?_
          rotate_left 1
          (intro w hSw; (try dsimp only at hSw); go_simp; try with_reducible rfl)
          (try simp only [List.getElem_toArray, List.getElem_cons_succ, List.getElem_cons_zero, Act.put, List.setIfInBounds_toArray, List.set_cons_zero, List.set_cons_succ])
          refine wpAnyH_take (i := 12) (v := ?_) rfl (by kernel_rfl) (by kernel_rfl) (by kernel_rfl) (fun _ _ _ h => h) (Or.inl ⟨by rfl, ?_⟩) (by assumption) ?_
          rotate_left 1
          (intro w hSw; (try dsimp only at hSw); go_simp; try with_reducible rfl)
          (try simp only [List.getElem_toArray, List.getElem_cons_succ, List.getElem_cons_zero, Act.put, List.setIfInBounds_toArray, List.set_cons_zero, List.set_cons_succ])
          refine wpAnyH_ready (rs := [14]) (by kernel_rfl) (by simp) ?_
          refine (AllReadyH.cons rfl (fun K hK => ?_) AllReadyH.nil)
          have hB := below_setRow (g := U0.heap.size) (cells := (cells5 y (.slice py y.l.length cy))) hB hge5
          have hn6 := setRow_heap' (cells := (cells5 y (.slice py y.l.length cy))) hn5
          have hy6 := hy.move (P' := fun _ => True) (fun g hg _ => setRow_ne (cells := (cells5 y (.slice py y.l.length cy))) hg) (fun _ _ _ => trivial)
          refine step_store_row rfl 29 _ _ rfl (U0.heap.size) (cells5 y (.slice py y.l.length cy)) (by kernel_rfl) (by kernel_rfl) 29 (cells5 zeroT (.slice none 0 0)) hn5 (size28 _ _) (by kernel_rfl) (by kernel_rfl) ?_
          refine hK.out _ _ ?_ (fun hHeld => ?_)
          · (try dsimp only); exact hmv _ hB
          clear hK K
          (try simp only [List.getElem_toArray, List.getElem_cons_succ, List.getElem_cons_zero, Act.put])
          refine wpAnyH_take (i := 15) (v := ?_) rfl (by kernel_rfl) (by kernel_rfl) (by kernel_rfl) (fun _ _ _ h => h) (Or.inl ⟨by rfl, ?_⟩) (by assumption) ?_
          rotate_left 1
          (intro w hSw; (try dsimp only at hSw); go_simp; try with_reducible rfl)
          (try simp only [List.getElem_toArray, List.getElem_cons_succ, List.getElem_cons_zero, Act.put, List.setIfInBounds_toArray, List.set_cons_zero, List.set_cons_succ])
          refine wpAnyH_done (by kernel_rfl) ?_ _
          go_wp2_with fail
          go_meet
          exact ⟨_, _, _, _, rfl, rfl, hn6, hy6, hq, hB⟩
      · go_simp
        have hst := alloc_below U74 (.cells #[.string s, .int .i8 t.k, .int .i64 t.n, .string t.s, .string t.t, .slice pt t.l.length ct] 40)
        have hn7 := heap_new U74 (.cells #[.string s, .int .i8 t.k, .int .i64 t.n, .string t.s, .string t.t, .slice pt t.l.length ct] 40)
        have hsrc := hsrc.under hst
        have ht := ht.below hst
        have hn5 := (hst.block _ (Array.getElem?_eq_some_iff.1 hn5).1).trans hn5
        have hB := hB.trans (hst.mono hB.size)
        refine hK.out _ _ ?_ (fun hHeld => ?_)
        · (try dsimp only); exact hmv _ hB
        clear hK K hst
        (try simp only [List.getElem_toArray, List.getElem_cons_succ, List.getElem_cons_zero, Act.put, List.setIfInBounds_toArray, List.set_cons_zero, List.set_cons_succ])
        change wpAnyH _ _ _ _ _ _ _ _ (U74.alloc (.cells #[.string s, .int .i8 t.k, .int .i64 t.n, .string t.s, .string t.t, .slice pt t.l.length ct] 40))
        generalize U74.alloc (.cells #[.string s, .int .i8 t.k, .int .i64 t.n, .string t.s, .string t.t, .slice pt t.l.length ct] 40) = U86 at hB hHeld hsrc ht hn5 hn7 ⊢
        refine wpAnyH_ready (rs := [1]) (by kernel_rfl) (by simp) ?_
        refine (AllReadyH.cons rfl (fun K hK => ?_) AllReadyH.nil)
        go_simp
        have hst := alloc_below U86 (.cells #[] 40)
        have hne5 : ∀ g, (Value.slice (some ⟨U86.heap.size, 0, none⟩) 0 0).ownBlock = some g → g ≠ U0.heap.size := fun g hg => by cases hg; exact Nat.ne_of_gt (Array.getElem?_eq_some_iff.1 hn5).1
        have hne7 : ∀ g, (Value.slice (some ⟨U86.heap.size, 0, none⟩) 0 0).ownBlock = some g → g ≠ U74.heap.size := fun g hg => by cases hg; exact Nat.ne_of_gt (Array.getElem?_eq_some_iff.1 hn7).1
        have hrow := BRow.zero (base := w9.heap.size) (heap_new U86 (.cells #[] 40)) hB.size
        have hsrc := hsrc.under hst
        have ht := ht.below hst
        have hn5 := (hst.block _ (Array.getElem?_eq_some_iff.1 hn5).1).trans hn5
        have hn7 := (hst.block _ (Array.getElem?_eq_some_iff.1 hn7).1).trans hn7
        have hB := hB.trans (hst.mono hB.size)
        refine hK.out _ _ ?_ (fun hHeld => ?_)
        · (try dsimp only); exact hmv _ hB
        clear hK K hst
        (try simp only [List.getElem_toArray, List.getElem_cons_succ, List.getElem_cons_zero, Act.put, List.setIfInBounds_toArray, List.set_cons_zero, List.set_cons_succ])
        change wpAnyH _ _ _ _ _ _ _ _ (U86.alloc (.cells #[] 40))
        generalize U86.alloc (.cells #[] 40) = U87 at hB hHeld hsrc ht hn5 hn7 hrow ⊢
        refine wpAnyH_ready (rs := [3]) (by kernel_rfl) (by simp) ?_
        refine (AllReadyH.cons rfl (fun K hK => ?_) AllReadyH.nil)
        have hlt7U88 := (Array.getElem?_eq_some_iff.1 hn7).1
        have hlt5U88 := (Array.getElem?_eq_some_iff.1 hn5).1
        refine step_append_brow rfl _ _ rfl w9.heap.size (Value.slice (some ⟨U86.heap.size, 0, none⟩) 0 0) [] rfl hrow pl l.length cl Ls rfl hsrc hlenA hB.size ?_
        intro vrU88 U88 hrow hgrow hown hst0
        have hn5 := (hgrow.block _ (Array.getElem?_eq_some_iff.1 hn5).1 (fun e0 => hne5 _ e0.symm rfl)).trans hn5
        have hne5 : ∀ g, vrU88.ownBlock = some g → g ≠ U0.heap.size := fun g hg => hown.elim (fun h => hne5 g (h ▸ hg)) (fun h => by have h1 := h g hg; have h2 : U0.heap.size < U87.heap.size := hlt5U88; omega)
        have hn7 := (hgrow.block _ (Array.getElem?_eq_some_iff.1 hn7).1 (fun e0 => hne7 _ e0.symm rfl)).trans hn7
        have hne7 : ∀ g, vrU88.ownBlock = some g → g ≠ U74.heap.size := fun g hg => hown.elim (fun h => hne7 g (h ▸ hg)) (fun h => by have h1 := h g hg; have h2 : U74.heap.size < U87.heap.size := hlt7U88; omega)
        have hB := hB.trans hst0
        have ht : TrV (fun g => g < w9.heap.size) U88 t (Value.slice pt t.l.length ct) := ⟨ht.wf, ht.kids.keep fun g hg _ => hst0.block g hg⟩
        refine hK.out _ _ ?_ (fun hHeld => ?_)
        · (try dsimp only); exact hmv _ hB
        clear hK K
        (try simp only [List.getElem_toArray, List.getElem_cons_succ, List.getElem_cons_zero, Act.put])
        refine wpAnyH_ready (rs := [8]) (by kernel_rfl) (by simp) ?_
        refine (AllReadyH.cons rfl (fun K hK => ?_) AllReadyH.nil)
        have hlt7U89 := (Array.getElem?_eq_some_iff.1 hn7).1
        have hlt5U89 := (Array.getElem?_eq_some_iff.1 hn5).1
        refine step_append_brow rfl _ _ rfl w9.heap.size vrU88 ([] ++ Ls) rfl hrow (some ⟨U74.heap.size, 0, none⟩) 1 1 [((⟨s, t⟩ : Bd), Value.slice pt t.l.length ct)] rfl (BSrc.one (d := ⟨s, t⟩) hn7 ht hsz) hlenB hB.size ?_
        intro vrU89 U89 hrow hgrow hown hst0
        have hn5 := (hgrow.block _ (Array.getElem?_eq_some_iff.1 hn5).1 (fun e0 => hne5 _ e0.symm rfl)).trans hn5
        have hne5 : ∀ g, vrU89.ownBlock = some g → g ≠ U0.heap.size := fun g hg => hown.elim (fun h => hne5 g (h ▸ hg)) (fun h => by have h1 := h g hg; have h2 : U0.heap.size < U88.heap.size := hlt5U89; omega)
        have hn7 := (hgrow.block _ (Array.getElem?_eq_some_iff.1 hn7).1 (fun e0 => hne7 _ e0.symm rfl)).trans hn7
        have hne7 : ∀ g, vrU89.ownBlock = some g → g ≠ U74.heap.size := fun g hg => hown.elim (fun h => hne7 g (h ▸ hg)) (fun h => by have h1 := h g hg; have h2 : U74.heap.size < U88.heap.size := hlt7U89; omega)
        have hB := hB.trans hst0
        refine hK.out _ _ ?_ (fun hHeld => ?_)
        · (try dsimp only); exact hmv _ hB
        clear hK K
        (try simp only [List.getElem_toArray, List.getElem_cons_succ, List.getElem_cons_zero, Act.put])
        refine wpAnyH_ready (rs := [9]) (by kernel_rfl) (by simp) ?_
        refine (AllReadyH.cons rfl (fun K hK => ?_) AllReadyH.nil)
        have hb5lt := (Array.getElem?_eq_some_iff.1 hn5).1
        have hbn := hrow.bindsF (F := fun g => g ≠ U0.heap.size) (fun g hg => by have := hge5; omega) hne5 hlenC
        have cV := gVal_any (F := fun g => g ≠ U0.heap.size) (x := vN s) (sv := .slice none 0 0) (HL.out.under (HB6.out.trans (hB.mono HB6.out.size))) (fun g hg => by omega) (HN.out _ _) hbn
        go_simp
        go_wp2_with (go_at_call 21; refine cV.mono ?_; rintro e U90 ⟨y, yv, er, rfl, hy, hst, hq⟩; obtain ⟨py, cy, rfl⟩ := hy.kids.slice)
        have hn5 := (hst.block _ (Array.getElem?_eq_some_iff.1 hn5).1).trans hn5
        have hB := hB.trans (hst.mono hB.size)
        refine hK.out _ _ ?_ (fun hHeld => ?_)
        · (try dsimp only); exact hmv _ hB
        clear hK K hst
        (try simp only [List.getElem_toArray, List.getElem_cons_succ, List.getElem_cons_zero, Act.put, List.setIfInBounds_toArray, List.set_cons_zero, List.set_cons_succ])
        refine wpAnyH_take (i := 10) (v := ?_) rfl (by kernel_rfl) (by kernel_rfl) (by kernel_rfl) (fun _ _ _ h => h) (Or.inl ⟨by rfl, ?_⟩) (by assumption) ?_
        rotate_left 1
        (intro w hSw; (try dsimp only at hSw); go_simp; try with_reducible rfl)
        (try simp only [List.getElem_toArray, List.getElem_cons_succ, List.getElem_cons_zero, Act.put, List.setIfInBounds_toArray, List.set_cons_zero, List.set_cons_succ])
        refine wpAnyH_take (i := 11) (v := ?_) rfl (by kernel_rfl) (by kernel_rfl) (by kernel_rfl) (fun _ _ _ h => h) (Or.inl ⟨by rfl, ?_⟩) (by assumption) ?_
        rotate_left 1
        (intro w hSw; (try dsimp only at hSw); go_simp; try with_reducible rfl)
        (try simp only [List.getElem_toArray, List.getElem_cons_succ, List.getElem_cons_zero, Act.put, List.setIfInBounds_toArray, List.set_cons_zero, List.set_cons_succ])
        refine wpAnyH_take (i := 12) (v := ?_) rfl (by kernel_rfl) (by kernel_rfl) (by kernel_rfl) (fun _ _ _ h => h) (Or.inl ⟨by rfl, ?_⟩) (by assumption) ?_
        rotate_left 1
        (intro w hSw; (try dsimp only at hSw); go_simp; try with_reducible rfl)
        (try simp only [List.getElem_toArray, List.getElem_cons_succ, List.getElem_cons_zero, Act.put, List.setIfInBounds_toArray, List.set_cons_zero, List.set_cons_succ])
        refine wpAnyH_ready (rs := [14]) (by kernel_rfl) (by simp) ?_
        refine (AllReadyH.cons rfl (fun K hK => ?_) AllReadyH.nil)
        have hB := below_setRow (g := U0.heap.size) (cells := (cells5 y (.slice py y.l.length cy))) hB hge5
        have hn6 := setRow_heap' (cells := (cells5 y (.slice py y.l.length cy))) hn5
        have hy6 := hy.move (P' := fun _ => True) (fun g hg _ => setRow_ne (cells := (cells5 y (.slice py y.l.length cy))) hg) (fun _ _ _ => trivial)
        refine step_store_row rfl 29 _ _ rfl (U0.heap.size) (cells5 y (.slice py y.l.length cy)) (by kernel_rfl) (by kernel_rfl) 29 (cells5 zeroT (.slice none 0 0)) hn5 (size28 _ _) (by kernel_rfl) (by kernel_rfl) ?_
        refine hK.out _ _ ?_ (fun hHeld => ?_)
        · (try dsimp only); exact hmv _ hB
        clear hK K
        (try simp only [List.getElem_toArray, List.getElem_cons_succ, List.getElem_cons_zero, Act.put])
        refine wpAnyH_take (i := 15) (v := ?_) rfl (by kernel_rfl) (by kernel_rfl) (by kernel_rfl) (fun _ _ _ h => h) (Or.inl ⟨by rfl, ?_⟩) (by assumption) ?_
        rotate_left 1
        (intro w hSw; (try dsimp only at hSw); go_simp; try with_reducible rfl)
        (try simp only [List.getElem_toArray, List.getElem_cons_succ, List.getElem_cons_zero, Act.put, List.setIfInBounds_toArray, List.set_cons_zero, List.set_cons_succ])
        refine wpAnyH_done (by kernel_rfl) ?_ _
        go_wp2_with fail
        go_meet
        exact ⟨_, _, _, _, rfl, rfl, hn6, hy6, hq, hB⟩
  case rest =>
  obtain ⟨b12, y12, yv12, e12, rfl, rfl, hn12, hy12, hq12, hBd⟩ := hcut
  have hq13 := hq12.trans (show valS (vN s) ((([] ++ Ls : List (Bd × Value)) ++ [((⟨s, t⟩ : Bd), Value.slice pt t.l.length ct)]).map (·.1)) = (ob.getD t, 0) by rw [List.map_append, List.nil_append, HLs.out, ← HOB.out]; exact HF2.out)
  obtain ⟨hy1, rfl⟩ := Prod.mk.inj hq13
  have hB13 := hB9.trans (hBd.mono hB9.size)
  obtain ⟨p12, c12, rfl⟩ := hy12.kids.slice
  have f0 : wc.cell? ⟨b12, 0, none⟩ = some (.int .i8 y12.k) := (arr_cell hn12).trans rfl
  have f1 : wc.cell? ⟨b12, 1, none⟩ = some (.int .i64 y12.n) := (arr_cell hn12).trans rfl
  have f2 : wc.cell? ⟨b12, 2, none⟩ = some (.string y12.s) := (arr_cell hn12).trans rfl
  have f3 : wc.cell? ⟨b12, 3, none⟩ = some (.string y12.t) := (arr_cell hn12).trans rfl
  have f4 : wc.cell? ⟨b12, 4, none⟩ = some (.slice p12 y12.l.length c12) := (arr_cell hn12).trans rfl
  have hn10 := (hBd.block _ (Array.getElem?_eq_some_iff.1 N10.out).1).trans N10.out
  have g0 : wc.cell? ⟨b10, 0, none⟩ = some (.int .i8 x10.k) := (arr_cell hn10).trans rfl
  have g1 : wc.cell? ⟨b10, 1, none⟩ = some (.int .i64 x10.n) := (arr_cell hn10).trans rfl
  have g2 : wc.cell? ⟨b10, 2, none⟩ = some (.string x10.s) := (arr_cell hn10).trans rfl
  have g3 : wc.cell? ⟨b10, 3, none⟩ = some (.string x10.t) := (arr_cell hn10).trans rfl
  have g4 : wc.cell? ⟨b10, 4, none⟩ = some (.slice p10 x10.l.length c10) := (arr_cell hn10).trans rfl
  obtain ⟨d0, d1, d2, d3, d4⟩ := (HTC.out _ hB13).out
  have cT := rsame_any y12 t wc _ _ hy12 (HT.out.below hB13)
  have cX := rsame_any y12 x10 wc _ _ hy12 (X10.out.below hBd)
  have h613 : Below w6.heap.size w6 wc := HH69.out.trans (hBd.mono HH69.out.size)
  have kV := fun (V : World) (hv : Below wc.heap.size wc V) => gVal_any (F := fun _ => True) (x := vN s) (sv := .slice none 0 0) (HL.out.under (HB6.out.trans ((hBd.trans (hv.mono hBd.size)).mono HB6.out.size))) (fun _ _ => trivial) (HN.out _ V) (HS.out.under (hB13.trans (hv.mono hB13.size)))
  have HMV13 := Lib.hid (fun (V : World) (hv : Below wc.heap.size wc V) => Lib.hid (HMV.out V (h613.trans (hv.mono h613.size))))
  have cW := fun (V : World) (hv : Below w1.heap.size w1 V) => wakes11_any (HL.out.under (hb1.trans (hv.mono hb1.size)))
  have hse1 : ob = none → y12.same t = true := by
    intro h
    rw [hy1, h]
    exact same_self _
  have hse2 : ∀ z, ob = some z → y12.same x10 = true := by
    intro z h
    rw [hy1, HXE.out, h]
    exact same_self _
  have HF4 : Hid ((valS (vN s) l).2 = if ob.isSome then 0 else 93) := by rw [← HOB.out]; exact HF3.out
  clear hq12 hq13 hn12 hn10 hmv hlenA hlenB hlenC ht hsrc hsz h613 hy1
  cases ob with
  | none =>
    obtain rfl : false = ok := HOK.out
    rw [hse1 rfl] at cT
    clear hse1 hse2 cX g0 g1 g2 g3 g4
    go_upto_region 12 with (first
      | (go_at_call 25; refine cT.mono ?_; rintro e w14 ⟨rfl, hb14⟩; obtain ⟨k0, k1, k2, k3, k4, _⟩ := (HMV13.out _ hb14).out)
      | (go_at_call 21; refine (kV _ hb14).mono ?_; rintro e w15 ⟨y15, yv15, e15, rfl, hy15, hb15, hq15⟩; obtain ⟨p15, c15, rfl⟩ := hy15.kids.slice; have hz15 := heap_new w15 (.cells (cells5 zeroT (.slice none 0 0)) 29); have he15 := (congrArg Prod.snd hq15).trans HF4.out; obtain rfl : e15 = 93 := he15; clear hq15)
      | (refine wpList_store_row rfl 29 _ _ rfl w15.heap.size (cells5 y15 (.slice p15 y15.l.length c15)) (by kernel_rfl) (by kernel_rfl) 29 (cells5 zeroT (.slice none 0 0)) hz15 (size28 _ _) (by kernel_rfl) (by kernel_rfl) ?_))
    have hb56 := below_setRow (g := w15.heap.size) (cells := cells5 y15 (.slice p15 y15.l.length c15)) (alloc_below w15 (.cells (cells5 zeroT (.slice none 0 0)) 29)) (Nat.le_refl _)
    change Code.wp _ _ _ _ ((w15.alloc (.cells (cells5 zeroT (.slice none 0 0)) 29)).setRow w15.heap.size (cells5 y15 (.slice p15 y15.l.length c15)))
    have hB14 := hB13.trans (hb14.mono hB13.size)
    have hB15 := hB14.trans (hb15.mono hB14.size)
    have hB16 := hB15.trans (hb56.mono hB15.size)
    clear hb56 hz15 k0 k1 k2 k3 k4
    generalize (w15.alloc (.cells (cells5 zeroT (.slice none 0 0)) 29)).setRow w15.heap.size (cells5 y15 (.slice p15 y15.l.length c15)) = w16 at hB16 ⊢
    go_wp2_with (go_at_call 16; refine (cW _ hB16).mono ?_; rintro e w17 ⟨rfl, hb17⟩)
    go_ret
    exact ⟨rfl, hb1.trans ((hB16.trans (hb17.mono hB16.size)).mono hb1.size)⟩
  | some z =>
    obtain rfl : true = ok := HOK.out
    rw [hse2 z rfl] at cX
    clear hse1 hse2 cT d0 d1 d2 d3 d4
    go_upto_region 12 with (first
      | (go_at_call 25; refine cX.mono ?_; rintro e w14 ⟨rfl, hb14⟩; obtain ⟨k0, k1, k2, k3, k4, _⟩ := (HMV13.out _ hb14).out)
      | (go_at_call 21; refine (kV _ hb14).mono ?_; rintro e w15 ⟨y15, yv15, e15, rfl, hy15, hb15, hq15⟩; obtain ⟨p15, c15, rfl⟩ := hy15.kids.slice; have hz15 := heap_new w15 (.cells (cells5 zeroT (.slice none 0 0)) 29); have he15 := (congrArg Prod.snd hq15).trans HF4.out; obtain rfl : e15 = 0 := he15; clear hq15)
      | (refine wpList_store_row rfl 29 _ _ rfl w15.heap.size (cells5 y15 (.slice p15 y15.l.length c15)) (by kernel_rfl) (by kernel_rfl) 29 (cells5 zeroT (.slice none 0 0)) hz15 (size28 _ _) (by kernel_rfl) (by kernel_rfl) ?_))
    have hb56 := below_setRow (g := w15.heap.size) (cells := cells5 y15 (.slice p15 y15.l.length c15)) (alloc_below w15 (.cells (cells5 zeroT (.slice none 0 0)) 29)) (Nat.le_refl _)
    change Code.wp _ _ _ _ ((w15.alloc (.cells (cells5 zeroT (.slice none 0 0)) 29)).setRow w15.heap.size (cells5 y15 (.slice p15 y15.l.length c15)))
    have hB14 := hB13.trans (hb14.mono hB13.size)
    have hB15 := hB14.trans (hb15.mono hB14.size)
    have hB16 := hB15.trans (hb56.mono hB15.size)
    clear hb56 hz15 k0 k1 k2 k3 k4
    generalize (w15.alloc (.cells (cells5 zeroT (.slice none 0 0)) 29)).setRow w15.heap.size (cells5 y15 (.slice p15 y15.l.length c15)) = w16 at hB16 ⊢
    go_wp2_with (go_at_call 16; refine (cW _ hB16).mono ?_; rintro e w17 ⟨rfl, hb17⟩)
    go_ret
    exact ⟨rfl, hb1.trans ((hB16.trans (hb17.mono hB16.size)).mono hb1.size)⟩
end Go.Proofs.YtlhobpknflobgaaGreatDoor
