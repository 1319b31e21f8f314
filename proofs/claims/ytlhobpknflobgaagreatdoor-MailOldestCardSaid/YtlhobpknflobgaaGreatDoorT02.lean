/-
  pleachref07.guarded, test, guard; Guarded, Test, Guard. Conditions: the tree lies as 'TrV' says.
  pleachref01.Compare, pleachref07.Kind, test, guard, Guarded, Test, Guard. Conditions: the tree lies as 'TrV' says.
-/
import Derived.Test.YtlhobpknflobgaaGreatDoorGd5
namespace Go.Proofs.YtlhobpknflobgaaGreatDoor
open Go.RowKit

theorem grdl_take {l : List Tr} {k : Nat} (h1 : k < l.length) : Tr.grd.grdl (l.drop k) = (l[k].grd && Tr.grd.grdl (l.drop (k + 1))) := by
  rw [List.drop_eq_getElem_cons h1, Tr.grd.grdl]
/-- A cell stays. -/
theorem keep5 {w w' : World} {b : Nat} {v0 v1 v2 v3 v4 : Value} (hb : Below w.heap.size w w') (e0 : w.cell? ⟨b, 0, none⟩ = some v0) (e1 : w.cell? ⟨b, 1, none⟩ = some v1) (e2 : w.cell? ⟨b, 2, none⟩ = some v2) (e3 : w.cell? ⟨b, 3, none⟩ = some v3) (e4 : w.cell? ⟨b, 4, none⟩ = some v4) :
    w'.cell? ⟨b, 0, none⟩ = some v0 ∧ w'.cell? ⟨b, 1, none⟩ = some v1 ∧ w'.cell? ⟨b, 2, none⟩ = some v2 ∧ w'.cell? ⟨b, 3, none⟩ = some v3 ∧ w'.cell? ⟨b, 4, none⟩ = some v4 :=
  ⟨(hb.cell (p := ⟨b, 0, none⟩) (cell_block e0)).trans e0, (hb.cell (p := ⟨b, 1, none⟩) (cell_block e1)).trans e1, (hb.cell (p := ⟨b, 2, none⟩) (cell_block e2)).trans e2, (hb.cell (p := ⟨b, 3, none⟩) (cell_block e3)).trans e3, (hb.cell (p := ⟨b, 4, none⟩) (cell_block e4)).trans e4⟩

/-- The ways through 'guarded' at a tree that is no leaf. -/
def GRoute (x : Tr) : Prop :=
  ((x.k == 10) = true ∧ bareB x false false false true = false ∧ x.grd = false) ∨
  ((x.k == 10) = false ∧ (x.k == 9) = true ∧ bareB x false false false true = false ∧ x.grd = false) ∨
  ((x.k == 10) = false ∧ (x.k == 9) = true ∧ bareB x false false false true = true ∧ ((x.l.length : Int) != 2) = true ∧ x.grd = false) ∨
  ((x.k == 10) = false ∧ (x.k == 9) = false ∧ (x.k == 11) = true ∧ bareB x false true false true = false ∧ x.grd = false) ∨
  ((x.k == 10) = false ∧ (x.k == 9) = false ∧ (x.k == 11) = true ∧ bareB x false true false true = true ∧ ((x.l.length : Int) != 2) = true ∧ x.grd = false) ∨
  ((x.k == 10) = false ∧ (x.k == 9) = false ∧ (x.k == 11) = true ∧ bareB x false true false true = true ∧ ((x.l.length : Int) != 2) = false ∧ (!(x.s.toList == [43])) = true ∧ (!(x.s.toList == [45])) = true ∧ (!(x.s.toList == [42])) = true ∧ x.grd = false) ∨
  ((x.k == 10) = true ∧ bareB x false false false true = true ∧ x.grd = Tr.grd.grdl x.l) ∨
  ((x.k == 10) = false ∧ (x.k == 9) = true ∧ bareB x false false false true = true ∧ ((x.l.length : Int) != 2) = false ∧ x.grd = Tr.grd.grdl x.l) ∨
  ((x.k == 10) = false ∧ (x.k == 9) = false ∧ (x.k == 11) = true ∧ bareB x false true false true = true ∧ ((x.l.length : Int) != 2) = false ∧ (!(x.s.toList == [43])) = false ∧ x.grd = Tr.grd.grdl x.l) ∨
  ((x.k == 10) = false ∧ (x.k == 9) = false ∧ (x.k == 11) = true ∧ bareB x false true false true = true ∧ ((x.l.length : Int) != 2) = false ∧ (!(x.s.toList == [43])) = true ∧ (!(x.s.toList == [45])) = false ∧ x.grd = Tr.grd.grdl x.l) ∨
  ((x.k == 10) = false ∧ (x.k == 9) = false ∧ (x.k == 11) = true ∧ bareB x false true false true = true ∧ ((x.l.length : Int) != 2) = false ∧ (!(x.s.toList == [43])) = true ∧ (!(x.s.toList == [45])) = true ∧ (!(x.s.toList == [42])) = false ∧ x.grd = Tr.grd.grdl x.l)
theorem grd_route (x : Tr) (hl : leafB x = false) : ((x.k == 10) = false ∧ (x.k == 9) = false ∧ (x.k == 11) = false ∧ x.grd = false) ∨ GRoute x := by
  unfold GRoute
  have hpe := grd_eq x
  have hop : grdO x = (((x.k == 10 || (x.k == 9 && (x.l.length : Int) == 2)) && bareB x false false false true) || (x.k == 11 && (bareB x false true false true && (arS x.s && (x.l.length : Int) == 2)))) := rfl
  have har : arS x.s = (x.s.toList == [43] || (x.s.toList == [45] || x.s.toList == [42])) := rfl
  rw [hl, hop, har] at hpe
  rw [show ((x.l.length : Int) != 2) = !((x.l.length : Int) == 2) from rfl]
  have e1 : (x.k == 10) = true → (x.k == 9) = false ∧ (x.k == 11) = false := fun h => by simp only [beq_iff_eq] at h; exact ⟨by simp [h], by simp [h]⟩
  have e2 : (x.k == 9) = true → (x.k == 11) = false := fun h => by simp only [beq_iff_eq] at h; simp [h]
  generalize (x.k == 10) = a at *
  generalize (x.k == 9) = b at *
  generalize (x.k == 11) = c at *
  generalize ((x.l.length : Int) == 2) = d at *
  generalize (x.s.toList == [43]) = f at *
  generalize (x.s.toList == [45]) = g at *
  generalize (x.s.toList == [42]) = h at *
  generalize bareB x false false false true = i at *
  generalize bareB x false true false true = j at *
  generalize x.grd = m at *
  generalize Tr.grd.grdl x.l = n at *
  clear hop har hl
  subst hpe
  cases a
  · cases b
    · cases c
      · exact .inl ⟨rfl, rfl, rfl, by simp⟩
      · clear e1 e2
        cases j
        · simp
        · cases d
          · simp
          · cases f <;> cases g <;> cases h <;> simp
    · obtain rfl := e2 rfl
      clear e1 e2
      cases i <;> cases d <;> simp
  · obtain ⟨rfl, rfl⟩ := e1 rfl
    clear e1 e2
    cases i <;> simp

set_option maxHeartbeats 8000000 in
set_option maxRecDepth 100000 in
theorem nguarded_any {F : Nat → Prop} (x : Tr) : ∀ (w : World) (sv : Value), TrV F w x sv →
    Calls Tryz.prog 116 #[.agg #[.int .i8 x.k, .int .i64 x.n, .string x.s, .string x.t, sv]] w fun e w' => e = .returned (.bool x.grd) ∧ Below w.heap.size w w' := by
  induction x using Tr.ind with
  | h x ih =>
    intro w sv hx
    obtain ⟨p, c, rfl⟩ := hx.kids.slice
    obtain ⟨e0, e1, e2, e3, e4⟩ := box5 w (.int .i8 x.k) (.int .i64 x.n) (.string x.s) (.string x.t) (.slice p x.l.length c) 25
    have hb0 := alloc_below w (.cells #[.int .i8 x.k, .int .i64 x.n, .string x.s, .string x.t, .slice p x.l.length c] 25)
    have hx0 := hx.below hb0
    have hlen : x.l.length ≤ 2199023255552 := hx.kids.len
    have cL := fun W => leaf_any W x p c hx.wf
    have IH := Lib.hid ih
    clear ih hx
    cases hleaf : leafB x
    case true =>
      rw [hleaf] at cL
      have HP := Lib.hid (show x.grd = true by rw [grd_eq, hleaf]; rfl)
      clear hleaf
      go_enter Tryz.func116, Tryz.ntmps116
      go_wp2_with (go_at_call 155; refine (cL _).mono ?_; rintro e w1 ⟨rfl, hb1⟩; obtain ⟨f0, f1, f2, f3, f4⟩ := keep5 hb1 e0 e1 e2 e3 e4)
      go_ret
      exact ⟨by rw [HP.out]; rfl, hb0.trans (hb1.mono hb0.size)⟩
    have hroute := grd_route x hleaf
    rw [hleaf] at cL
    clear hleaf
    rcases hroute with ⟨s10, s9, s11, hp⟩ | hroute
    · have HP := Lib.hid hp
      clear hp
      go_enter Tryz.func116, Tryz.ntmps116
      go_wp2_with (go_at_call 155; refine (cL _).mono ?_; rintro e w1 ⟨rfl, hb1⟩; obtain ⟨f0, f1, f2, f3, f4⟩ := keep5 hb1 e0 e1 e2 e3 e4)
      go_ret
      exact ⟨by rw [HP.out]; rfl, hb0.trans (hb1.mono hb0.size)⟩
    unfold GRoute at hroute
    rcases hroute with ⟨s10, hbr, hp⟩ | ⟨s10, s9, hbr, hp⟩ | ⟨s10, s9, hbr, s2, hp⟩ | ⟨s10, s9, s11, hbr, hp⟩ | ⟨s10, s9, s11, hbr, s2, hp⟩ | ⟨s10, s9, s11, hbr, s2, s43, s45, s42, hp⟩ | ⟨s10, hbr, hp⟩ | ⟨s10, s9, hbr, s2, hp⟩ | ⟨s10, s9, s11, hbr, s2, s43, hp⟩ | ⟨s10, s9, s11, hbr, s2, s43, s45, hp⟩ | ⟨s10, s9, s11, hbr, s2, s43, s45, s42, hp⟩
    all_goals
      have HP := Lib.hid hp
      have HBR := Lib.hid hbr
      clear hp hbr
      go_enter Tryz.func116, Tryz.ntmps116
      go_wp2_with (first | (go_at_call 155; refine (cL _).mono ?_; rintro e w1 ⟨rfl, hb1⟩; obtain ⟨f0, f1, f2, f3, f4⟩ := keep5 hb1 e0 e1 e2 e3 e4) | (go_at_call 92; refine (rbareN_any _ x p c _ _ _ _).mono ?_; rintro e w2 ⟨rfl, hb2⟩; rw [HBR.out]; obtain ⟨k0, k1, k2, k3, k4⟩ := keep5 hb2 f0 f1 f2 f3 f4))
      have hB2 : Below w.heap.size w w2 := hb0.trans ((hb1.trans (hb2.mono hb1.size)).mono hb0.size)
      have hx2 := (hx0.below hb1).below hb2
    any_goals
      go_ret
      exact ⟨by rw [HP.out]; rfl, hB2⟩
    all_goals
      clear hb0 hx0 hb1 hb2 s10 f0 f1 f2 f3 f4 k0 k1 k2 k3
      go_loopw [3] (fun i wr => ∃ k : Nat, k ≤ x.l.length ∧ i = .int .i64 k ∧ Tr.grd.grdl (x.l.drop k) = Tr.grd.grdl x.l ∧ Below w2.heap.size w2 wr) (fun i _ => x.l.length - (intOf i).toNat)
      case atStart => exact ⟨0, Nat.zero_le _, rfl, rfl, Below.refl _ _⟩
      case round =>
        obtain ⟨k, hk, rfl, hrest, hbr⟩ := hrel
        have hxr := hx2.below hbr
        have hbw := hB2.trans (hbr.mono hB2.size)
        have e4r := (hbr.cell (p := ⟨w.heap.size, 4, none⟩) (cell_block k4)).trans k4
        by_cases hlt : k < x.l.length
        · obtain ⟨g, o, kv, rfl, _, hnode, hkid⟩ := hxr.kids.at hlt
          have cK := IH.out x.l[k] (List.getElem_mem hlt) wr kv hkid
          rw [grdl_take hlt] at hrest
          obtain ⟨c0, c1, c2', c3, c4⟩ := hnode
          generalize x.l[k] = u at *
          generalize u.grd = q at *
          have HN := Lib.hid hrest
          clear hrest hkid hxr hx2 k4
          cases q
          · go_wp2_with (go_at_call 116; refine cK.mono ?_; rintro e w5 ⟨rfl, hb5⟩)
            go_ret
            exact ⟨by rw [HP.out, ← HN.out]; rfl, hbw.trans (hb5.mono hbw.size)⟩
          · go_wp2_with (go_at_call 116; refine cK.mono ?_; rintro e w5 ⟨rfl, hb5⟩)
            go_roundw
            case rel => exact ⟨k + 1, hlt, by go_num, by rw [← HN.out]; rfl, hbr.trans (hb5.mono hbr.size)⟩
            case measure => simp [intOf]; omega
        · rw [List.drop_eq_nil_of_le (by omega), Tr.grd.grdl] at hrest
          have HN := Lib.hid hrest
          clear hrest hxr hx2 k4
          go_wp2
          go_ret
          exact ⟨by rw [HP.out, ← HN.out]; rfl, hbw⟩
end Go.Proofs.YtlhobpknflobgaaGreatDoor
namespace Go.Proofs.YtlhobpknflobgaaGreatDoor
open Go.RowKit

theorem pick0 (c : Int) : icPick (some (false, true, false)) c = (c == 0) := by
  unfold icPick
  rcases Int.lt_trichotomy c 0 with h | h | h
  · have h1 : ¬ c = 0 := by omega
    have h2 : ¬ 0 < c := by omega
    have h3 : ¬ 0 ≤ c := by omega
    have h4 : c ≤ 0 := by omega
    simp [*]
  · simp [h]
  · have h1 : ¬ c = 0 := by omega
    have h2 : ¬ c < 0 := by omega
    have h3 : 0 ≤ c := by omega
    have h4 : ¬ c ≤ 0 := by omega
    simp [*]
theorem pick1 (c : Int) : icPick (some (true, false, true)) c = (c != 0) := by
  unfold icPick
  rcases Int.lt_trichotomy c 0 with h | h | h
  · have h1 : ¬ c = 0 := by omega
    have h2 : ¬ 0 < c := by omega
    have h3 : ¬ 0 ≤ c := by omega
    have h4 : c ≤ 0 := by omega
    simp [*]
  · simp [h]
  · have h1 : ¬ c = 0 := by omega
    have h2 : ¬ c < 0 := by omega
    have h3 : 0 ≤ c := by omega
    have h4 : ¬ c ≤ 0 := by omega
    simp [*]
theorem pick2 (c : Int) : icPick (some (true, false, false)) c = (decide (c < 0)) := by
  unfold icPick
  rcases Int.lt_trichotomy c 0 with h | h | h
  · have h1 : ¬ c = 0 := by omega
    have h2 : ¬ 0 < c := by omega
    have h3 : ¬ 0 ≤ c := by omega
    have h4 : c ≤ 0 := by omega
    simp [*]
  · simp [h]
  · have h1 : ¬ c = 0 := by omega
    have h2 : ¬ c < 0 := by omega
    have h3 : 0 ≤ c := by omega
    have h4 : ¬ c ≤ 0 := by omega
    simp [*]
theorem pick3 (c : Int) : icPick (some (true, true, false)) c = (decide (c ≤ 0)) := by
  unfold icPick
  rcases Int.lt_trichotomy c 0 with h | h | h
  · have h1 : ¬ c = 0 := by omega
    have h2 : ¬ 0 < c := by omega
    have h3 : ¬ 0 ≤ c := by omega
    have h4 : c ≤ 0 := by omega
    simp [*]
  · simp [h]
  · have h1 : ¬ c = 0 := by omega
    have h2 : ¬ c < 0 := by omega
    have h3 : 0 ≤ c := by omega
    have h4 : ¬ c ≤ 0 := by omega
    simp [*]
theorem pick4 (c : Int) : icPick (some (false, false, true)) c = (decide (0 < c)) := by
  unfold icPick
  rcases Int.lt_trichotomy c 0 with h | h | h
  · have h1 : ¬ c = 0 := by omega
    have h2 : ¬ 0 < c := by omega
    have h3 : ¬ 0 ≤ c := by omega
    have h4 : c ≤ 0 := by omega
    simp [*]
  · simp [h]
  · have h1 : ¬ c = 0 := by omega
    have h2 : ¬ c < 0 := by omega
    have h3 : 0 ≤ c := by omega
    have h4 : ¬ c ≤ 0 := by omega
    simp [*]
theorem pick5 (c : Int) : icPick (some (false, true, true)) c = (decide (0 ≤ c)) := by
  unfold icPick
  rcases Int.lt_trichotomy c 0 with h | h | h
  · have h1 : ¬ c = 0 := by omega
    have h2 : ¬ 0 < c := by omega
    have h3 : ¬ 0 ≤ c := by omega
    have h4 : c ≤ 0 := by omega
    simp [*]
  · simp [h]
  · have h1 : ¬ c = 0 := by omega
    have h2 : ¬ c < 0 := by omega
    have h3 : 0 ≤ c := by omega
    have h4 : ¬ c ≤ 0 := by omega
    simp [*]
set_option maxHeartbeats 1000000 in
theorem rcompare_any (w : World) (s : ByteArray) (c : Int) :
    Calls Tryz.prog 121 #[.string s, .int .i64 c] w fun e w' => e = .returned (.tuple #[.bool (icB s c), .bool (icOk s)]) ∧ w = w' := by
  have HC : Hid (icB s c = icPick (icR s) c) := Lib.hid rfl
  have HO : Hid (icOk s = (icR s).isSome) := Lib.hid rfl
  have HR : Hid (icR s = if s.toList == [61, 58, 61] then some (false, true, false) else if s.toList == [61, 47, 61] then some (true, false, true) else if s.toList == [60] then some (true, false, false)
    else if s.toList == [61, 60] then some (true, true, false) else if s.toList == [62] then some (false, false, true) else if s.toList == [62, 61] then some (false, true, true) else none) := Lib.hid rfl
  cases h0 : (s.toList == [61, 58, 61])
  case true =>
    have HR2 : Hid (icR s = some (false, true, false)) := by unfold Hid; rw [HR.out, if_pos h0]
    have HB : Hid (icB s c = (c == 0)) := by unfold Hid; rw [HC.out, HR2.out]; exact pick0 c
    have HP : Hid (icOk s = true) := by unfold Hid; rw [HO.out, HR2.out]; rfl
    go_enter Tryz.func121, Tryz.ntmps121
    go_wp2
    go_ret2
    exact ⟨by rw [HB.out, HP.out] <;> rfl, rfl⟩
  cases h1 : (s.toList == [61, 47, 61])
  case true =>
    have HR2 : Hid (icR s = some (true, false, true)) := by unfold Hid; rw [HR.out, if_neg (by rw [h0]; simp), if_pos h1]
    have HB : Hid (icB s c = (c != 0)) := by unfold Hid; rw [HC.out, HR2.out]; exact pick1 c
    have HP : Hid (icOk s = true) := by unfold Hid; rw [HO.out, HR2.out]; rfl
    go_enter Tryz.func121, Tryz.ntmps121
    go_wp2
    go_ret2
    exact ⟨by rw [HB.out, HP.out] <;> rfl, rfl⟩
  cases h2 : (s.toList == [60])
  case true =>
    have HR2 : Hid (icR s = some (true, false, false)) := by unfold Hid; rw [HR.out, if_neg (by rw [h0]; simp), if_neg (by rw [h1]; simp), if_pos h2]
    have HB : Hid (icB s c = (decide (c < 0))) := by unfold Hid; rw [HC.out, HR2.out]; exact pick2 c
    have HP : Hid (icOk s = true) := by unfold Hid; rw [HO.out, HR2.out]; rfl
    go_enter Tryz.func121, Tryz.ntmps121
    go_wp2
    go_ret2
    exact ⟨by rw [HB.out, HP.out] <;> rfl, rfl⟩
  cases h3 : (s.toList == [61, 60])
  case true =>
    have HR2 : Hid (icR s = some (true, true, false)) := by unfold Hid; rw [HR.out, if_neg (by rw [h0]; simp), if_neg (by rw [h1]; simp), if_neg (by rw [h2]; simp), if_pos h3]
    have HB : Hid (icB s c = (decide (c ≤ 0))) := by unfold Hid; rw [HC.out, HR2.out]; exact pick3 c
    have HP : Hid (icOk s = true) := by unfold Hid; rw [HO.out, HR2.out]; rfl
    go_enter Tryz.func121, Tryz.ntmps121
    go_wp2
    go_ret2
    exact ⟨by rw [HB.out, HP.out] <;> rfl, rfl⟩
  cases h4 : (s.toList == [62])
  case true =>
    have HR2 : Hid (icR s = some (false, false, true)) := by unfold Hid; rw [HR.out, if_neg (by rw [h0]; simp), if_neg (by rw [h1]; simp), if_neg (by rw [h2]; simp), if_neg (by rw [h3]; simp), if_pos h4]
    have HB : Hid (icB s c = (decide (0 < c))) := by unfold Hid; rw [HC.out, HR2.out]; exact pick4 c
    have HP : Hid (icOk s = true) := by unfold Hid; rw [HO.out, HR2.out]; rfl
    go_enter Tryz.func121, Tryz.ntmps121
    go_wp2
    go_ret2
    exact ⟨by rw [HB.out, HP.out] <;> rfl, rfl⟩
  cases h5 : (s.toList == [62, 61])
  case true =>
    have HR2 : Hid (icR s = some (false, true, true)) := by unfold Hid; rw [HR.out, if_neg (by rw [h0]; simp), if_neg (by rw [h1]; simp), if_neg (by rw [h2]; simp), if_neg (by rw [h3]; simp), if_neg (by rw [h4]; simp), if_pos h5]
    have HB : Hid (icB s c = (decide (0 ≤ c))) := by unfold Hid; rw [HC.out, HR2.out]; exact pick5 c
    have HP : Hid (icOk s = true) := by unfold Hid; rw [HO.out, HR2.out]; rfl
    go_enter Tryz.func121, Tryz.ntmps121
    go_wp2
    go_ret2
    exact ⟨by rw [HB.out, HP.out] <;> rfl, rfl⟩
  have HR2 : Hid (icR s = none) := by unfold Hid; rw [HR.out, if_neg (by rw [h0]; simp), if_neg (by rw [h1]; simp), if_neg (by rw [h2]; simp), if_neg (by rw [h3]; simp), if_neg (by rw [h4]; simp), if_neg (by rw [h5]; simp)]
  have HB : Hid (icB s c = false) := by unfold Hid; rw [HC.out, HR2.out]; rfl
  have HP : Hid (icOk s = false) := by unfold Hid; rw [HO.out, HR2.out]; rfl
  go_enter Tryz.func121, Tryz.ntmps121
  go_wp2
  go_ret2
  exact ⟨by rw [HB.out, HP.out] <;> rfl, rfl⟩

set_option maxHeartbeats 1000000 in
theorem rkind_any (w : World) (s : ByteArray) : Calls Tryz.prog 136 #[.string s] w fun e w' => e = .returned (.bool (kndS s)) ∧ w = w' := by
  have HK : Hid (kndS s = (s.toList == [105, 115, 95, 97, 116, 111, 109] || s.toList == [105, 115, 95, 105, 110, 116, 101, 103, 101, 114] || s.toList == [105, 115, 95, 112, 105, 100] || s.toList == [105, 115, 95, 114, 101, 102, 101, 114, 101, 110, 99, 101] || s.toList == [105, 115, 95, 116, 117, 112, 108, 101] || s.toList == [105, 115, 95, 108, 105, 115, 116] || s.toList == [105, 115, 95, 102, 117, 110, 99, 116, 105, 111, 110])) := Lib.hid (show (kinds7.any fun u => s.toList == u) = _ by simp [kinds7, Bool.or_assoc])
  cases h0 : (s.toList == [105, 115, 95, 97, 116, 111, 109])
  case true =>
    have HP : Hid (kndS s = true) := by unfold Hid; rw [HK.out, h0]; simp
    go_enter Tryz.func136, Tryz.ntmps136
    go_wp2
    go_ret
    exact ⟨by rw [HP.out] <;> rfl, rfl⟩
  cases h1 : (s.toList == [105, 115, 95, 105, 110, 116, 101, 103, 101, 114])
  case true =>
    have HP : Hid (kndS s = true) := by unfold Hid; rw [HK.out, h0, h1]; simp
    go_enter Tryz.func136, Tryz.ntmps136
    go_wp2
    go_ret
    exact ⟨by rw [HP.out] <;> rfl, rfl⟩
  cases h2 : (s.toList == [105, 115, 95, 112, 105, 100])
  case true =>
    have HP : Hid (kndS s = true) := by unfold Hid; rw [HK.out, h0, h1, h2]; simp
    go_enter Tryz.func136, Tryz.ntmps136
    go_wp2
    go_ret
    exact ⟨by rw [HP.out] <;> rfl, rfl⟩
  cases h3 : (s.toList == [105, 115, 95, 114, 101, 102, 101, 114, 101, 110, 99, 101])
  case true =>
    have HP : Hid (kndS s = true) := by unfold Hid; rw [HK.out, h0, h1, h2, h3]; simp
    go_enter Tryz.func136, Tryz.ntmps136
    go_wp2
    go_ret
    exact ⟨by rw [HP.out] <;> rfl, rfl⟩
  cases h4 : (s.toList == [105, 115, 95, 116, 117, 112, 108, 101])
  case true =>
    have HP : Hid (kndS s = true) := by unfold Hid; rw [HK.out, h0, h1, h2, h3, h4]; simp
    go_enter Tryz.func136, Tryz.ntmps136
    go_wp2
    go_ret
    exact ⟨by rw [HP.out] <;> rfl, rfl⟩
  cases h5 : (s.toList == [105, 115, 95, 108, 105, 115, 116])
  case true =>
    have HP : Hid (kndS s = true) := by unfold Hid; rw [HK.out, h0, h1, h2, h3, h4, h5]; simp
    go_enter Tryz.func136, Tryz.ntmps136
    go_wp2
    go_ret
    exact ⟨by rw [HP.out] <;> rfl, rfl⟩
  cases h6 : (s.toList == [105, 115, 95, 102, 117, 110, 99, 116, 105, 111, 110])
  case true =>
    have HP : Hid (kndS s = true) := by unfold Hid; rw [HK.out, h0, h1, h2, h3, h4, h5, h6]; rfl
    go_enter Tryz.func136, Tryz.ntmps136
    go_wp2
    go_ret
    exact ⟨by rw [HP.out] <;> rfl, rfl⟩
  have HP : Hid (kndS s = false) := by unfold Hid; rw [HK.out, h0, h1, h2, h3, h4, h5, h6]; rfl
  go_enter Tryz.func136, Tryz.ntmps136
  go_wp2
  go_ret
  exact ⟨by rw [HP.out] <;> rfl, rfl⟩

/-- The ways through 'test'. -/
theorem two_all {l : List Tr} (h : l.length = 2) (h0 : 0 < l.length) (h1 : 1 < l.length) : l.all Tr.grd = ((l[0]'h0).grd && (l[1]'h1).grd) := by
  match l, h with
  | [a, b], _ => simp
theorem one_all {l : List Tr} (h : l.length = 1) (h0 : 0 < l.length) : l.all Tr.grd = (l[0]'h0).grd := by
  match l, h with
  | [a], _ => simp
def TRoute (x : Tr) : Prop :=
  ((x.k == 11) = false ∧ (x.k == 12) = false ∧ tstB x = false) ∨
  ((x.k == 11) = true ∧ icOk x.s = false ∧ tstB x = false) ∨
  ((x.k == 11) = true ∧ icOk x.s = true ∧ bareB x false true false true = false ∧ tstB x = false) ∨
  ((x.k == 11) = true ∧ icOk x.s = true ∧ bareB x false true false true = true ∧ ((x.l.length : Int) == 2) = false ∧ tstB x = false) ∨
  ((x.k == 11) = false ∧ (x.k == 12) = true ∧ kndS x.s = false ∧ tstB x = false) ∨
  ((x.k == 11) = false ∧ (x.k == 12) = true ∧ kndS x.s = true ∧ bareB x false true false true = false ∧ tstB x = false) ∨
  ((x.k == 11) = false ∧ (x.k == 12) = true ∧ kndS x.s = true ∧ bareB x false true false true = true ∧ ((x.l.length : Int) == 1) = false ∧ tstB x = false)
def TRoute2 (x : Tr) : Prop := (x.k == 11) = true ∧ icOk x.s = true ∧ bareB x false true false true = true ∧ x.l.length = 2 ∧ tstB x = x.l.all Tr.grd
def TRoute1 (x : Tr) : Prop := (x.k == 11) = false ∧ (x.k == 12) = true ∧ kndS x.s = true ∧ bareB x false true false true = true ∧ x.l.length = 1 ∧ tstB x = x.l.all Tr.grd
theorem tst_route (x : Tr) : TRoute x ∨ TRoute2 x ∨ TRoute1 x := by
  unfold TRoute TRoute2 TRoute1
  have hpe : tstB x = ((x.k == 11 && (bareB x false true false true && (icOk x.s && ((x.l.length : Int) == 2 && x.l.all Tr.grd)))) || (x.k == 12 && (bareB x false true false true && (kndS x.s && ((x.l.length : Int) == 1 && x.l.all Tr.grd))))) := rfl
  have e1 : (x.k == 11) = true → (x.k == 12) = false := fun h => by simp only [beq_iff_eq] at h; simp [h]
  have e2 : ((x.l.length : Int) == 2) = true → x.l.length = 2 := fun h => by simp only [beq_iff_eq] at h; omega
  have e3 : ((x.l.length : Int) == 1) = true → x.l.length = 1 := fun h => by simp only [beq_iff_eq] at h; omega
  generalize (x.k == 11) = a at *
  generalize (x.k == 12) = b at *
  generalize ((x.l.length : Int) == 2) = c at *
  generalize ((x.l.length : Int) == 1) = d at *
  generalize bareB x false true false true = f at *
  generalize icOk x.s = g at *
  generalize kndS x.s = h at *
  generalize tstB x = i at *
  generalize x.l.all Tr.grd = j at *
  subst hpe
  cases a
  · cases b
    · simp
    · cases h
      · simp
      · cases f
        · simp
        · cases d
          · simp
          · simp [e3 rfl]
  · obtain rfl := e1 rfl
    cases g
    · simp
    · cases f
      · simp
      · cases c
        · simp
        · simp [e2 rfl]

set_option maxHeartbeats 8000000 in
set_option maxRecDepth 100000 in
theorem ntest_any {F : Nat → Prop} {x : Tr} {w : World} {sv : Value} (hx : TrV F w x sv) :
    Calls Tryz.prog 93 #[.agg #[.int .i8 x.k, .int .i64 x.n, .string x.s, .string x.t, sv]] w fun e w' => e = .returned (.bool (tstB x)) ∧ Below w.heap.size w w' := by
  obtain ⟨p, c, rfl⟩ := hx.kids.slice
  obtain ⟨e0, e1, e2, e3, e4⟩ := box5 w (.int .i8 x.k) (.int .i64 x.n) (.string x.s) (.string x.t) (.slice p x.l.length c) 25
  have hb0 := alloc_below w (.cells #[.int .i8 x.k, .int .i64 x.n, .string x.s, .string x.t, .slice p x.l.length c] 25)
  have hx0 := hx.below hb0
  have hlen : x.l.length ≤ 2199023255552 := hx.kids.len
  have HX := Lib.hid hx0
  clear hx hx0
  rcases tst_route x with hr | hr
  · unfold TRoute at hr
    rcases hr with ⟨s11, s12, hp⟩ | ⟨s11, hic, hp⟩ | ⟨s11, hic, hbr, hp⟩ | ⟨s11, hic, hbr, s2, hp⟩ | ⟨s11, s12, hkn, hp⟩ | ⟨s11, s12, hkn, hbr, hp⟩ | ⟨s11, s12, hkn, hbr, s2, hp⟩
    all_goals
      have HP := Lib.hid hp
      (try have HIC := Lib.hid hic)
      (try have HBR := Lib.hid hbr)
      (try have HKN := Lib.hid hkn)
      clear hp
      (try clear hic)
      (try clear hbr)
      (try clear hkn)
      go_enter Tryz.func93, Tryz.ntmps93
      go_wp2_with (first | (go_at_call 121; refine (rcompare_any _ _ _).mono ?_; rintro e w4 ⟨rfl, rfl⟩; rw [HIC.out]) | (go_at_call 136; refine (rkind_any _ _).mono ?_; rintro e w4 ⟨rfl, rfl⟩; rw [HKN.out]) | (go_at_call 92; refine (rbareN_any _ x p c _ _ _ _).mono ?_; rintro e w2 ⟨rfl, hb2⟩; rw [HBR.out]; obtain ⟨k0, k1, k2, k3, k4⟩ := keep5 hb2 e0 e1 e2 e3 e4))
      go_ret
      first
        | exact ⟨by rw [HP.out]; rfl, hb0.trans (hb2.mono hb0.size)⟩
        | exact ⟨by rw [HP.out]; rfl, hb0⟩
  rcases hr with hr | hr
  · obtain ⟨s11, hic, hbr, h2, hp⟩ := hr
    have hk0 : 0 < x.l.length := by omega
    have hk1 : 1 < x.l.length := by omega
    rw [two_all h2 hk0 hk1] at hp
    have HP := Lib.hid hp
    have HIC := Lib.hid hic
    have HBR := Lib.hid hbr
    have s2 : ((x.l.length : Int) == 2) = true := by rw [h2]; rfl
    have hk2 : ¬ x.l = [] := by intro h; rw [h] at hk0; simp at hk0
    have h0l : (0 : Int) < x.l.length := by omega
    have h1l : (1 : Int) < x.l.length := by omega
    clear hp hic hbr h2
    obtain ⟨xa, hxa⟩ : ∃ y, x.l[0] = y := ⟨_, rfl⟩
    obtain ⟨xb, hxb⟩ : ∃ y, x.l[1] = y := ⟨_, rfl⟩
    have hnd : ∀ W : World, Below (w.alloc (.cells #[.int .i8 x.k, .int .i64 x.n, .string x.s, .string x.t, .slice p x.l.length c] 25)).heap.size (w.alloc (.cells #[.int .i8 x.k, .int .i64 x.n, .string x.s, .string x.t, .slice p x.l.length c] 25)) W → ∃ g o kv kw, p = some ⟨g, o, none⟩ ∧ NodeAt W g o xa kv ∧ NodeAt W g (o + 5) xb kw ∧ TrV F W xa kv ∧ TrV F W xb kw := by
      intro W hW
      have hxr := HX.out.below hW
      obtain ⟨g, q, kv0, rfl, _, hn0, hv0⟩ := hxr.kids.at hk0
      obtain ⟨g', q', kv1, hp', _, hn1, hv1⟩ := hxr.kids.at hk1
      cases hp'
      rw [hxa] at hn0 hv0
      rw [hxb] at hn1 hv1
      exact ⟨g, q, kv0, kv1, rfl, by simpa using hn0, by simpa using hn1, hv0, hv1⟩
    rw [hxa, hxb] at HP
    have HND := Lib.hid hnd
    obtain ⟨g, o, kva, kvb, rfl, _⟩ := hnd _ (Below.refl _ _)
    clear hnd hxa hxb
    cases ha : xa.grd
    all_goals
      have HA := Lib.hid ha
      clear ha
      go_enter Tryz.func93, Tryz.ntmps93
      go_wp2_with (first
        | (go_at_call 121; refine (rcompare_any _ _ _).mono ?_; rintro e w4 ⟨rfl, rfl⟩; rw [HIC.out])
        | (go_at_call 92; refine (rbareN_any _ x _ c _ _ _ _).mono ?_; rintro e w2 ⟨rfl, hb2⟩; rw [HBR.out]; obtain ⟨k0, k1, k2, k3, k4⟩ := keep5 hb2 e0 e1 e2 e3 e4; obtain ⟨_, _, kv, kw, hpq, ⟨c0, c1', c2', c3, c4⟩, ⟨d0, d1, d2, d3, d4⟩, hva, hvb⟩ := HND.out _ hb2; cases hpq; have cA := nguarded_any xa w2 _ hva; rw [HA.out] at cA; have HVB := Lib.hid hvb; have tok : True := trivial; clear hva hvb)
        | (go_at_call 116; have _t := tok; refine cA.mono ?_; rintro e w5 ⟨rfl, hb5⟩; have cB := nguarded_any xb w5 _ (HVB.out.below hb5); have d0 := (hb5.cell (p := ⟨g, o + 5, none⟩) (cell_block d0)).trans d0; have d1 := (hb5.cell (p := ⟨g, o + 5 + 1, none⟩) (cell_block d1)).trans d1; have d2 := (hb5.cell (p := ⟨g, o + 5 + 2, none⟩) (cell_block d2)).trans d2; have d3 := (hb5.cell (p := ⟨g, o + 5 + 3, none⟩) (cell_block d3)).trans d3; have d4 := (hb5.cell (p := ⟨g, o + 5 + 4, none⟩) (cell_block d4)).trans d4; have k4 := (hb5.cell (p := ⟨w.heap.size, 4, none⟩) (cell_block k4)).trans k4; clear tok)
        | (go_at_call 116; refine cB.mono ?_; rintro e w6 ⟨rfl, hb6⟩))
      go_ret
      have hB5 := hb0.trans ((hb2.trans (hb5.mono hb2.size)).mono hb0.size)
      first
        | exact ⟨by rw [HP.out, HA.out]; simp, hB5.trans (hb6.mono hB5.size)⟩
        | exact ⟨by rw [HP.out, HA.out]; rfl, hB5⟩
  · obtain ⟨s11, s12, hkn, hbr, h2, hp⟩ := hr
    have hk0 : 0 < x.l.length := by omega
    rw [one_all h2 hk0] at hp
    have HP := Lib.hid hp
    have HKN := Lib.hid hkn
    have HBR := Lib.hid hbr
    have s2 : ((x.l.length : Int) == 1) = true := by rw [h2]; rfl
    have hk2 : ¬ x.l = [] := by intro h; rw [h] at hk0; simp at hk0
    have h0l : (0 : Int) < x.l.length := by omega
    clear hp hkn hbr h2
    obtain ⟨xa, hxa⟩ : ∃ y, x.l[0] = y := ⟨_, rfl⟩
    have hnd : ∀ W : World, Below (w.alloc (.cells #[.int .i8 x.k, .int .i64 x.n, .string x.s, .string x.t, .slice p x.l.length c] 25)).heap.size (w.alloc (.cells #[.int .i8 x.k, .int .i64 x.n, .string x.s, .string x.t, .slice p x.l.length c] 25)) W → ∃ g o kv, p = some ⟨g, o, none⟩ ∧ NodeAt W g o xa kv ∧ TrV F W xa kv := by
      intro W hW
      have hxr := HX.out.below hW
      obtain ⟨g, q, kv0, rfl, _, hn0, hv0⟩ := hxr.kids.at hk0
      rw [hxa] at hn0 hv0
      exact ⟨g, q, kv0, rfl, by simpa using hn0, hv0⟩
    rw [hxa] at HP
    have HND := Lib.hid hnd
    obtain ⟨g, o, kva, rfl, _⟩ := hnd _ (Below.refl _ _)
    clear hnd hxa
    go_enter Tryz.func93, Tryz.ntmps93
    go_wp2_with (first
      | (go_at_call 136; refine (rkind_any _ _).mono ?_; rintro e w4 ⟨rfl, rfl⟩; rw [HKN.out])
      | (go_at_call 92; refine (rbareN_any _ x _ c _ _ _ _).mono ?_; rintro e w2 ⟨rfl, hb2⟩; rw [HBR.out]; obtain ⟨k0, k1, k2, k3, k4⟩ := keep5 hb2 e0 e1 e2 e3 e4; obtain ⟨_, _, kv, hpq, ⟨c0, c1', c2', c3, c4⟩, hva⟩ := HND.out _ hb2; cases hpq; have cA := nguarded_any xa w2 _ hva; clear hva)
      | (go_at_call 116; refine cA.mono ?_; rintro e w5 ⟨rfl, hb5⟩))
    go_ret
    exact ⟨by rw [HP.out]; rfl, hb0.trans ((hb2.trans (hb5.mono hb2.size)).mono hb0.size)⟩

set_option maxHeartbeats 4000000 in
set_option maxRecDepth 100000 in
theorem nguard_any {F : Nat → Prop} {x : Tr} {w : World} {sv : Value} (hx : TrV F w x sv) :
    Calls Tryz.prog 51 #[.agg #[.int .i8 x.k, .int .i64 x.n, .string x.s, .string x.t, sv]] w fun e w' => e = .returned (.bool (gdI x)) ∧ Below w.heap.size w w' := by
  obtain ⟨p, c, rfl⟩ := hx.kids.slice
  obtain ⟨e0, e1, e2, e3, e4⟩ := box5 w (.int .i8 x.k) (.int .i64 x.n) (.string x.s) (.string x.t) (.slice p x.l.length c) 25
  have hb0 := alloc_below w (.cells #[.int .i8 x.k, .int .i64 x.n, .string x.s, .string x.t, .slice p x.l.length c] 25)
  have hx0 := hx.below hb0
  have hlen : x.l.length ≤ 2199023255552 := hx.kids.len
  have HV := Lib.hid (show gdI x = (x.k == 4 && (bareB x false false false true && x.l.all tstB)) from rfl)
  have HX := Lib.hid hx0
  clear hx hx0
  cases h4 : (x.k == 4)
  case false =>
    have s4 : (x.k != 4) = true := by rw [bne, h4]; rfl
    have HP : Hid (gdI x = false) := by unfold Hid; rw [HV.out, h4]; rfl
    clear h4
    go_enter Tryz.func51, Tryz.ntmps51
    go_wp2_with fail
    go_ret
    exact ⟨by rw [HP.out]; rfl, hb0⟩
  have s4 : (x.k != 4) = false := by rw [bne, h4]; rfl
  cases hbr : bareB x false false false true
  case false =>
    have HBR := Lib.hid hbr
    have HP : Hid (gdI x = false) := by unfold Hid; rw [HV.out, hbr]; simp
    clear h4 hbr
    go_enter Tryz.func51, Tryz.ntmps51
    go_wp2_with (go_at_call 92; refine (rbareN_any _ x p c _ _ _ _).mono ?_; rintro e w2 ⟨rfl, hb2⟩; rw [HBR.out]; have e4' := (hb2.cell (p := ⟨w.heap.size, 4, none⟩) (cell_block e4)).trans e4)
    go_ret
    exact ⟨by rw [HP.out]; rfl, hb0.trans (hb2.mono hb0.size)⟩
  have HBR := Lib.hid hbr
  have HP : Hid (gdI x = x.l.all tstB) := by unfold Hid; rw [HV.out, hbr, h4]; rfl
  clear h4 hbr
  go_enter Tryz.func51, Tryz.ntmps51
  go_wp2_with (go_at_call 92; refine (rbareN_any _ x p c _ _ _ _).mono ?_; rintro e w2 ⟨rfl, hb2⟩; rw [HBR.out]; have e4' := (hb2.cell (p := ⟨w.heap.size, 4, none⟩) (cell_block e4)).trans e4)
  have hB2 : Below w.heap.size w w2 := hb0.trans (hb2.mono hb0.size)
  have HX2 := Lib.hid (HX.out.below hb2)
  clear e0 e1 e2 e3 e4 s4 hb0 hb2 HX
  go_loopw [3] (fun i wr => ∃ k : Nat, k ≤ x.l.length ∧ i = .int .i64 k ∧ (x.l.take k).all tstB = true ∧ Below w2.heap.size w2 wr) (fun i _ => x.l.length - (intOf i).toNat)
  case atStart => exact ⟨0, Nat.zero_le _, rfl, rfl, Below.refl _ _⟩
  case round =>
    obtain ⟨k, hk, rfl, hall, hbr⟩ := hrel
    have hxr := HX2.out.below hbr
    have hbw := hB2.trans (hbr.mono hB2.size)
    have e4r := (hbr.cell (p := ⟨w.heap.size, 4, none⟩) (cell_block e4')).trans e4'
    by_cases hlt : k < x.l.length
    · obtain ⟨g, o, kv, rfl, _, hnode, hkid⟩ := hxr.kids.at hlt
      have cK := ntest_any hkid
      obtain ⟨c0, c1, c2', c3, c4⟩ := hnode
      have HALL := Lib.hid hall
      cases hq : tstB x.l[k]
      · rw [hq] at cK
        have HN : Hid (x.l.all tstB = false) := by
          unfold Hid; rw [List.all_eq_false]; exact ⟨x.l[k], List.getElem_mem hlt, by rw [hq]; simp⟩
        clear hkid hxr hall hq e4'
        go_wp2_with (go_at_call 93; refine cK.mono ?_; rintro e w5 ⟨rfl, hb5⟩)
        go_ret
        exact ⟨by rw [HP.out, HN.out]; rfl, hbw.trans (hb5.mono hbw.size)⟩
      · rw [hq] at cK
        have HN : Hid ((x.l.take (k + 1)).all tstB = true) := by unfold Hid; rw [List.take_succ_eq_append_getElem hlt, List.all_append, HALL.out]; simp [hq]
        clear hkid hxr hall hq e4'
        go_wp2_with (go_at_call 93; refine cK.mono ?_; rintro e w5 ⟨rfl, hb5⟩)
        go_roundw
        case rel => exact ⟨k + 1, hlt, by go_num, HN.out, hbr.trans (hb5.mono hbr.size)⟩
        case measure => simp [intOf]; omega
    · rw [List.take_of_length_le (by omega)] at hall
      have HN := Lib.hid hall
      clear hall hxr e4'
      go_wp2
      go_ret
      exact ⟨by rw [HP.out, HN.out]; rfl, hbw⟩

set_option maxHeartbeats 1000000 in
set_option maxRecDepth 100000 in
theorem nGuardedF_any {F : Nat → Prop} {x : Tr} {w : World} {sv : Value} (hx : TrV F w x sv) :
    Calls Tryz.prog 63 #[.agg #[.int .i8 x.k, .int .i64 x.n, .string x.s, .string x.t, sv]] w fun e w' => e = .returned (.bool (grdB x)) ∧ Below w.heap.size w w' := by
  obtain ⟨p, c, rfl⟩ := hx.kids.slice
  obtain ⟨e0, e1, e2, e3, e4⟩ := box5 w (.int .i8 x.k) (.int .i64 x.n) (.string x.s) (.string x.t) (.slice p x.l.length c) 25
  have hb0 := alloc_below w (.cells #[.int .i8 x.k, .int .i64 x.n, .string x.s, .string x.t, .slice p x.l.length c] 25)
  have hx0 := hx.below hb0
  have cF := nfits_any hx0
  have cP := fun (W : World) hb => nguarded_any x W _ (hx0.below (w' := W) hb)
  have HV := Lib.hid (show grdB x = (fitsB x && x.grd) from rfl)
  clear hx hx0
  cases hf : fitsB x
  all_goals
    rw [hf] at cF HV
    clear hf
    go_enter Tryz.func63, Tryz.ntmps63
    go_wp2_with (first
      | (go_at_call 50; refine cF.mono ?_; rintro e w1 ⟨rfl, hb1⟩; obtain ⟨k0, k1, k2, k3, k4⟩ := keep5 hb1 e0 e1 e2 e3 e4)
      | (go_at_call 116; refine (cP _ hb1).mono ?_; rintro e w2 ⟨rfl, hb2⟩))
  · go_ret
    exact ⟨by rw [HV.out]; rfl, hb0.trans (hb1.mono hb0.size)⟩
  · go_ret
    exact ⟨by rw [HV.out]; simp, hb0.trans ((hb1.trans (hb2.mono hb1.size)).mono hb0.size)⟩
set_option maxHeartbeats 1000000 in
set_option maxRecDepth 100000 in
theorem nTestF_any {F : Nat → Prop} {x : Tr} {w : World} {sv : Value} (hx : TrV F w x sv) :
    Calls Tryz.prog 67 #[.agg #[.int .i8 x.k, .int .i64 x.n, .string x.s, .string x.t, sv]] w fun e w' => e = .returned (.bool (tstC x)) ∧ Below w.heap.size w w' := by
  obtain ⟨p, c, rfl⟩ := hx.kids.slice
  obtain ⟨e0, e1, e2, e3, e4⟩ := box5 w (.int .i8 x.k) (.int .i64 x.n) (.string x.s) (.string x.t) (.slice p x.l.length c) 25
  have hb0 := alloc_below w (.cells #[.int .i8 x.k, .int .i64 x.n, .string x.s, .string x.t, .slice p x.l.length c] 25)
  have hx0 := hx.below hb0
  have cF := nfits_any hx0
  have cP := fun (W : World) hb => ntest_any (hx0.below (w' := W) hb)
  have HV := Lib.hid (show tstC x = (fitsB x && tstB x) from rfl)
  clear hx hx0
  cases hf : fitsB x
  all_goals
    rw [hf] at cF HV
    clear hf
    go_enter Tryz.func67, Tryz.ntmps67
    go_wp2_with (first
      | (go_at_call 50; refine cF.mono ?_; rintro e w1 ⟨rfl, hb1⟩; obtain ⟨k0, k1, k2, k3, k4⟩ := keep5 hb1 e0 e1 e2 e3 e4)
      | (go_at_call 93; refine (cP _ hb1).mono ?_; rintro e w2 ⟨rfl, hb2⟩))
  · go_ret
    exact ⟨by rw [HV.out]; rfl, hb0.trans (hb1.mono hb0.size)⟩
  · go_ret
    exact ⟨by rw [HV.out]; simp, hb0.trans ((hb1.trans (hb2.mono hb1.size)).mono hb0.size)⟩
set_option maxHeartbeats 1000000 in
set_option maxRecDepth 100000 in
theorem nGuardF_any {F : Nat → Prop} {x : Tr} {w : World} {sv : Value} (hx : TrV F w x sv) :
    Calls Tryz.prog 14 #[.agg #[.int .i8 x.k, .int .i64 x.n, .string x.s, .string x.t, sv]] w fun e w' => e = .returned (.bool (gdB x)) ∧ Below w.heap.size w w' := by
  obtain ⟨p, c, rfl⟩ := hx.kids.slice
  obtain ⟨e0, e1, e2, e3, e4⟩ := box5 w (.int .i8 x.k) (.int .i64 x.n) (.string x.s) (.string x.t) (.slice p x.l.length c) 25
  have hb0 := alloc_below w (.cells #[.int .i8 x.k, .int .i64 x.n, .string x.s, .string x.t, .slice p x.l.length c] 25)
  have hx0 := hx.below hb0
  have cF := nfits_any hx0
  have cP := fun (W : World) hb => nguard_any (hx0.below (w' := W) hb)
  have HV := Lib.hid (show gdB x = (fitsB x && gdI x) from rfl)
  clear hx hx0
  cases hf : fitsB x
  all_goals
    rw [hf] at cF HV
    clear hf
    go_enter Tryz.func14, Tryz.ntmps14
    go_wp2_with (first
      | (go_at_call 50; refine cF.mono ?_; rintro e w1 ⟨rfl, hb1⟩; obtain ⟨k0, k1, k2, k3, k4⟩ := keep5 hb1 e0 e1 e2 e3 e4)
      | (go_at_call 51; refine (cP _ hb1).mono ?_; rintro e w2 ⟨rfl, hb2⟩))
  · go_ret
    exact ⟨by rw [HV.out]; rfl, hb0.trans (hb1.mono hb0.size)⟩
  · go_ret
    exact ⟨by rw [HV.out]; simp, hb0.trans ((hb1.trans (hb2.mono hb1.size)).mono hb0.size)⟩
end Go.Proofs.YtlhobpknflobgaaGreatDoor
