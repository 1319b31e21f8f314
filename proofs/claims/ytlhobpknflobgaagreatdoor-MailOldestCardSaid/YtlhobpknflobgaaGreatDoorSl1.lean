/-
  pleachref17.Clause, Select; pleachlaw17.clauses; mail.Select. Conditions: the items lie as 'Items' says, the trees as 'Kids' says, the names as 'Binds' says.
-/
import Derived.Test.YtlhobpknflobgaaGreatDoorT05
import Derived.Test.YtlhobpknflobgaaGreatDoorM11
namespace Go.Proofs.YtlhobpknflobgaaGreatDoor
open Go.RowKit

set_option maxHeartbeats 4000000 in
set_option maxRecDepth 100000 in
theorem rclause17_any {F : Nat → Prop} {w : World} {x : Tr} {sv : Value} (hx : TrV F w x sv) :
    Calls Tryz.prog 83 #[.agg #[.int .i8 x.k, .int .i64 x.n, .string x.s, .string x.t, sv]] w fun e w' => e = .returned (.bool (clB gdB x)) ∧ Below w.heap.size w w' := by
  obtain ⟨p, c, rfl⟩ := hx.kids.slice
  obtain ⟨e0, e1, e2, e3, e4⟩ := box5 w (.int .i8 x.k) (.int .i64 x.n) (.string x.s) (.string x.t) (.slice p x.l.length c) 25
  have hb0 := alloc_below w (.cells #[.int .i8 x.k, .int .i64 x.n, .string x.s, .string x.t, .slice p x.l.length c] 25)
  have HX := Lib.hid (hx.below hb0)
  have hlen : x.l.length ≤ 2199023255552 := hx.kids.len
  have HV := Lib.hid (show clB gdB x = ((x.k == 3 && x.n == 1 && decide (2 ≤ x.l.length)) && (patB (x.l.getD 0 zeroT) && gdB (x.l.getD 1 zeroT))) from rfl)
  clear hx
  cases h3 : (x.k == 3)
  case false =>
    have HP : Hid (clB gdB x = false) := by unfold Hid; rw [HV.out, h3]; rfl
    go_enter Tryz.func83, Tryz.ntmps83
    go_wp2
    go_ret
    exact ⟨by rw [HP.out]; rfl, hb0⟩
  cases h1 : (x.n == 1)
  case false =>
    have HP : Hid (clB gdB x = false) := by unfold Hid; rw [HV.out, h3, h1]; rfl
    go_enter Tryz.func83, Tryz.ntmps83
    go_wp2
    go_ret
    exact ⟨by rw [HP.out]; rfl, hb0⟩
  by_cases hl : 2 ≤ x.l.length
  case neg =>
    have s2 : decide ((2 : Int) ≤ (x.l.length : Int)) = false := decide_eq_false (by omega)
    have HP : Hid (clB gdB x = false) := by unfold Hid; rw [HV.out, h3, h1, decide_eq_false hl]; rfl
    clear hl
    go_enter Tryz.func83, Tryz.ntmps83
    go_wp2
    go_ret
    exact ⟨by rw [HP.out]; rfl, hb0⟩
  have s2 : decide ((2 : Int) ≤ (x.l.length : Int)) = true := decide_eq_true (by omega)
  have hk0 : 0 < x.l.length := by omega
  have hk1 : 1 < x.l.length := by omega
  have hk2 : ¬ x.l = [] := by intro h; rw [h] at hk0; simp at hk0
  have h0l : (0 : Int) < x.l.length := by omega
  have h1l : (1 : Int) < x.l.length := by omega
  have HV2 : Hid (clB gdB x = (patB x.l[0] && gdB x.l[1])) := by
    unfold Hid
    rw [HV.out, h3, h1, decide_eq_true hl, show x.l.getD 0 zeroT = x.l[0] by simp [hk0], show x.l.getD 1 zeroT = x.l[1] by simp [hk1]]
    rfl
  clear hl
  obtain ⟨xa, hxa⟩ : ∃ y, x.l[0] = y := ⟨_, rfl⟩
  obtain ⟨xb, hxb⟩ : ∃ y, x.l[1] = y := ⟨_, rfl⟩
  have hnd : ∀ W : World, Below (w.alloc (.cells #[.int .i8 x.k, .int .i64 x.n, .string x.s, .string x.t, .slice p x.l.length c] 25)).heap.size (w.alloc (.cells #[.int .i8 x.k, .int .i64 x.n, .string x.s, .string x.t, .slice p x.l.length c] 25)) W → ∃ g o kv kw, p = some ⟨g, o, none⟩ ∧ NodeAt W g o xa kv ∧ NodeAt W g (o + 5) xb kw ∧ TrV F W xa kv ∧ TrV F W xb kw := by
    intro W hW
    have hxr := HX.out.below hW
    obtain ⟨g, q, kv0, rfl, _, hn0, hv0⟩ := hxr.kids.at hk0
    obtain ⟨g', q', kv1, hp', _, hn1, hv1⟩ := hxr.kids.at hk1
    cases hp'
    rw [hxa] at hn0 hv0
    rw [hxb] at hn1 hv1
    exact ⟨g, q, kv0, kv1, rfl, by simpa using hn0, by simpa using hn1, hv0, hv1⟩
  rw [hxa, hxb] at HV2
  have HND := Lib.hid hnd
  obtain ⟨g, o, kva, kvb, rfl, ⟨c0, c1', c2', c3, c4⟩, ⟨d0, d1, d2, d3, d4⟩, hva, hvb⟩ := hnd _ (Below.refl _ _)
  have cA := npattern_any hva
  have cB := fun (V : World) (hv : Below (w.alloc (.cells #[.int .i8 x.k, .int .i64 x.n, .string x.s, .string x.t, .slice (some ⟨g, o, none⟩) x.l.length c] 25)).heap.size (w.alloc (.cells #[.int .i8 x.k, .int .i64 x.n, .string x.s, .string x.t, .slice (some ⟨g, o, none⟩) x.l.length c] 25)) V) => nGuardF_any (hvb.below hv)
  obtain ⟨pa, ca, rfl⟩ := hva.kids.slice
  obtain ⟨pb, cb, rfl⟩ := hvb.kids.slice
  clear hnd hxa hxb HND hva hvb
  cases ha : patB xa
  case false =>
    rw [ha] at cA HV2
    clear ha cB
    go_enter Tryz.func83, Tryz.ntmps83
    go_wp2_with (go_at_call 130; refine cA.mono ?_; rintro e w2 ⟨rfl, hb2⟩)
    go_ret
    exact ⟨by rw [HV2.out]; rfl, hb0.trans (hb2.mono hb0.size)⟩
  rw [ha] at cA HV2
  clear ha
  go_enter Tryz.func83, Tryz.ntmps83
  go_wp2_with (first
    | (go_at_call 130; refine cA.mono ?_; rintro e w2 ⟨rfl, hb2⟩; have e4 := (hb2.cell (p := ⟨w.heap.size, 4, none⟩) (cell_block e4)).trans e4; obtain ⟨d0, d1, d2, d3, d4⟩ := (show NodeAt _ g (o + 5) xb _ from ⟨d0, d1, d2, d3, d4⟩).keep (hb2.block _ (cell_block d0)))
    | (go_at_call 14; refine (cB _ hb2).mono ?_; rintro e w3 ⟨rfl, hb3⟩))
  go_ret
  exact ⟨by rw [HV2.out]; simp, hb0.trans ((hb2.trans (hb3.mono hb2.size)).mono hb0.size)⟩

/-- Too many clauses, or too great? -/
def gr17 (l : List Tr) : Bool := decide (20 < l.length) || l.any fun x => decide (8192 ≤ x.sz 8192)
set_option maxHeartbeats 2000000 in
set_option maxRecDepth 100000 in
theorem clauses17_any {F : Nat → Prop} {w : World} {v : Value} {l : List Tr} (hl : Kids F w v l) :
    Calls Tryz.prog 31 #[v] w fun e w' => e = .returned (.bool (gr17 l)) ∧ Below w.heap.size w w' := by
  have hlen : l.length ≤ 2199023255552 := hl.len
  obtain ⟨p, c, rfl⟩ := hl.slice
  have HL := Lib.hid hl
  have HV := Lib.hid (show gr17 l = (decide (20 < l.length) || l.any fun x => decide (8192 ≤ x.sz 8192)) from rfl)
  clear hl
  by_cases h : 20 < l.length
  case pos =>
    have HP : Hid (gr17 l = true) := by unfold Hid; rw [HV.out, decide_eq_true h]; rfl
    have h2 : (20 : Int) < (l.length : Int) := by omega
    clear h
    go_enter Tryz.func31, Tryz.ntmps31
    go_wp2
    go_ret
    exact ⟨by rw [HP.out]; rfl, Below.refl _ _⟩
  have HV2 : Hid (gr17 l = l.any fun x => decide (8192 ≤ x.sz 8192)) := by unfold Hid; rw [HV.out, decide_eq_false h]; rfl
  have h2 : ¬ (20 : Int) < (l.length : Int) := by omega
  clear h
  go_enter Tryz.func31, Tryz.ntmps31
  go_wp2
  go_loopw [3] (fun i wr => ∃ k : Nat, k ≤ l.length ∧ i = .int .i64 k ∧ (l.take k).any (fun x => decide (8192 ≤ x.sz 8192)) = false ∧ Below w.heap.size w wr) (fun i _ => l.length - (intOf i).toNat)
  case atStart => exact ⟨0, Nat.zero_le _, rfl, rfl, Below.refl _ _⟩
  case round =>
    obtain ⟨k, hk, rfl, hall, hbr⟩ := hrel
    by_cases hlt : k < l.length
    · obtain ⟨g, o, kv, rfl, _, hnode, hkid⟩ := (HL.out.under hbr).at hlt
      have cK := greatN_any hkid
      obtain ⟨c0, c1, c2', c3, c4⟩ := hnode
      have HALL := Lib.hid hall
      cases hq : decide (8192 ≤ l[k].sz 8192)
      · rw [hq] at cK
        have HN : Hid ((l.take (k + 1)).any (fun x => decide (8192 ≤ x.sz 8192)) = false) := Lib.hid (any_take (P := fun x : Tr => decide (8192 ≤ x.sz 8192)) hlt hall hq)
        clear hkid hall hq
        go_wp2_with (go_at_call 11; refine cK.mono ?_; rintro e w5 ⟨rfl, hb5⟩)
        go_roundw
        case rel => exact ⟨k + 1, hlt, by go_num, HN.out, hbr.trans (hb5.mono hbr.size)⟩
        case measure => simp [intOf]; omega
      · rw [hq] at cK
        have HN : Hid (gr17 l = true) := by unfold Hid; rw [HV2.out]; exact any_at (P := fun x : Tr => decide (8192 ≤ x.sz 8192)) hlt hq
        clear hkid hall hq
        go_wp2_with (go_at_call 11; refine cK.mono ?_; rintro e w5 ⟨rfl, hb5⟩)
        go_ret
        exact ⟨by rw [HN.out]; rfl, hbr.trans (hb5.mono hbr.size)⟩
    · rw [List.take_of_length_le (by omega)] at hall
      have HN : Hid (gr17 l = false) := by unfold Hid; rw [HV2.out, hall]
      clear hall
      go_wp2
      go_ret
      exact ⟨by rw [HN.out]; rfl, hbr⟩
theorem gr17_len {l : List Tr} (h : gr17 l = false) : l.length ≤ 20 := by
  unfold gr17 at h
  simp only [Bool.or_eq_false_iff, decide_eq_false_iff_not] at h
  omega

/-- mail.Select at any clauses. -/
theorem select17_any {l : List It} {cs : List Tr} {ns : List Bd} {w : World} {lv cv nv : Value} (lt : Letters w) (hl : Items (fun _ => True) w lv l) (hc : Kids (fun _ => True) w cv cs) (hn : Binds (fun _ => True) w nv ns) :
    Calls Tryz.prog 34 #[lv, cv, nv] w (SelPost (selS gdB hldS l cs ns) w) :=
  select_any ⟨lt, hl, hc, hn, fun _ _ _ _ _ hW hx => guard_any (lt.under hW) hx, fun _ _ _ _ _ _ _ hW hx hb => gHolds_any (lt.under hW) hx hb⟩

/-- What the document's answer asks of a clause. -/
def hitR (c t : Tr) (ns : List Bd) : Option (List Bd) := match (c.l.getD 0 zeroT).go t ns with
  | some m => if hldS (c.l.getD 1 zeroT) m then some m else none
  | none => none
theorem hit_eq {c t : Tr} {ns : List Bd} (hp : patB (c.l.getD 0 zeroT) = true) (ht : chkT t = 0) (hm : mayB ns = true) : hitC hldS c t ns = hitR c t ns := by
  have e : allS [c.l.getD 0 zeroT] [t] ns = goR (c.l.getD 0 zeroT) t ns := by
    rw [allS_one]
    unfold matchS
    rw [hp, ht, hm]
    rfl
  unfold hitC hitR
  rw [e]
  unfold goR
  cases (c.l.getD 0 zeroT).go t ns <;> simp
theorem sel_bad {l : List It} {cs : List Tr} {ns : List Bd} (h : badS gdB l cs ns = true) : selS gdB hldS l cs ns = (0, 0, [], false, 2) := by unfold selS; rw [if_pos h]
theorem may_chk {ns : List Bd} (h : mayB ns = true) : (∀ b ∈ ns, chkT b.t = 0) ∧ ns.length ≤ 64 := by
  unfold mayB at h
  simp only [Bool.and_eq_true, decide_eq_true_eq, Bool.not_eq_true', List.any_eq_false] at h
  refine ⟨fun b hb => ?_, h.1⟩
  have := h.2 b hb
  unfold badB at this
  simp at this
  exact this.2.2
theorem pat_fits {x : Tr} (h : patB x = true) : x.pat = true ∧ x.nn ≤ 4096 := by
  unfold patB at h
  simp only [Bool.and_eq_true] at h
  exact ⟨h.2, fits_nn h.1⟩

set_option maxHeartbeats 16000000 in
set_option maxRecDepth 100000 in
theorem rselect_any {l : List It} {cs : List Tr} {ns : List Bd} {w : World} {lv cv nv : Value} (lt : Letters w) (hl : Items (fun _ => True) w lv l) (hc : Kids (fun _ => True) w cv cs) (hn : Binds (fun _ => True) w nv ns) :
    Calls Tryz.prog 35 #[lv, cv, nv] w (SelPost (selS gdB hldS l cs ns) w) := by
  obtain ⟨p, c, rfl⟩ := hl.slice
  obtain ⟨p2, c2, rfl⟩ := hc.slice
  obtain ⟨p3, c3, rfl⟩ := hn.slice
  have hlen : l.length ≤ 2199023255552 := hl.len
  have hlen2 : cs.length ≤ 2199023255552 := hc.len
  have HLT := Lib.hid lt
  have HI := Lib.hid hl
  have HC := Lib.hid hc
  have HN := Lib.hid hn
  have cM := rbmay_any hn
  have HBS := Lib.hid (show badS gdB l cs ns = (cs.any (fun c => !clB gdB c) || (l.any (fun x => !(chkT x.t == 0)) || !mayB ns)) from rfl)
  clear lt hl hc hn
  cases hm : mayB ns
  case false =>
    rw [hm] at cM
    have HB : Hid (selS gdB hldS l cs ns = (0, 0, [], false, 2)) := by unfold Hid; refine sel_bad ?_; rw [HBS.out, hm]; simp
    clear hm
    go_enter Tryz.func35, Tryz.ntmps35
    go_wp2_with (go_at_call 82; refine cM.mono ?_; rintro e w2 ⟨rfl, hb2⟩)
    refine bodyPost_ret (results_tmp5 Tryz.results35 _ _ _) rfl ?_
    exact ⟨_, [], _, _, _, _, rfl, Binds.nil _ _, hb2, HB.out⟩
  rw [hm] at cM
  have HM := Lib.hid hm
  clear hm
  go_enter Tryz.func35, Tryz.ntmps35
  go_wp2_with (go_at_call 82; refine cM.mono ?_; rintro e w2 ⟨rfl, hb2⟩)
  have HB2 := Lib.hid hb2
  clear cM hb2
  go_loopw [11] (fun i wr => ∃ k : Nat, k ≤ cs.length ∧ i = .int .i64 k ∧ (cs.take k).any (fun c => !clB gdB c) = false ∧ Below w.heap.size w wr) (fun i _ => cs.length - (intOf i).toNat)
  case atStart => exact ⟨0, Nat.zero_le _, rfl, rfl, HB2.out⟩
  case round =>
    obtain ⟨k, hk, rfl, hall, hbr⟩ := hrel
    have HALL := Lib.hid hall
    clear hall
    by_cases hlt : k < cs.length
    · obtain ⟨g, o, kv, rfl, _, hnode, hkid⟩ := (HC.out.under hbr).at hlt
      have cK := rclause17_any hkid
      obtain ⟨pk, ck, rfl⟩ := hkid.kids.slice
      obtain ⟨d0, d1, d2, d3, d4⟩ := hnode
      clear hkid
      cases hq : clB gdB cs[k]
      · rw [hq] at cK
        have HB : Hid (selS gdB hldS l cs ns = (0, 0, [], false, 2)) := by
          unfold Hid; refine sel_bad ?_
          rw [HBS.out, any_at (P := fun c : Tr => !clB gdB c) hlt (by rw [hq]; rfl)]; rfl
        clear hq
        go_wp2_with (go_at_call 83; refine cK.mono ?_; rintro e w5 ⟨rfl, hb5⟩)
        refine bodyPost_ret (results_tmp5 Tryz.results35 _ _ _) rfl ?_
        exact ⟨_, [], _, _, _, _, rfl, Binds.nil _ _, hbr.trans (hb5.mono hbr.size), HB.out⟩
      · rw [hq] at cK
        have HX : Hid ((cs.take (k + 1)).any (fun c => !clB gdB c) = false) := Lib.hid (any_take (P := fun c : Tr => !clB gdB c) hlt HALL.out (by rw [hq]; rfl))
        clear hq
        go_wp2_with (go_at_call 83; refine cK.mono ?_; rintro e w5 ⟨rfl, hb5⟩)
        go_roundw
        case rel => exact ⟨k + 1, hlt, by go_num, HX.out, hbr.trans (hb5.mono hbr.size)⟩
        case measure => simp [intOf]; omega
    have HCL : Hid (cs.any (fun c => !clB gdB c) = false) := by unfold Hid; have := HALL.out; rwa [List.take_of_length_le (by omega)] at this
    have HBR := Lib.hid hbr
    clear HALL hbr
    go_wp2_with fail
    clear hlt
    rename World => W3
    go_loopw [12] (fun i wr => ∃ k : Nat, k ≤ l.length ∧ i = .int .i64 k ∧ (l.take k).any (fun x => !(chkT x.t == 0)) = false ∧ Below w.heap.size w wr) (fun i _ => l.length - (intOf i).toNat)
    case atStart => exact ⟨0, Nat.zero_le _, rfl, rfl, HBR.out⟩
    case round =>
      obtain ⟨k, hk, rfl, hall, hbr⟩ := hrel
      have HALL := Lib.hid hall
      clear hall
      by_cases hlt : k < l.length
      · obtain ⟨g, o, kv, rfl, _, hnode, _, hkid⟩ := (HI.out.under hbr).at hlt
        have cK := rcheck_any hkid
        obtain ⟨pk, ck, rfl⟩ := hkid.kids.slice
        obtain ⟨d0, d1, d2, d3, d4⟩ := hnode
        clear hkid
        by_cases hq : chkT l[k].t = 0
        · have HX : Hid ((l.take (k + 1)).any (fun x => !(chkT x.t == 0)) = false) := Lib.hid (any_take (P := fun x : It => !(chkT x.t == 0)) hlt HALL.out (by rw [hq]; rfl))
          rw [hq] at cK
          clear hq
          go_wp2_with (go_at_call 13; refine cK.mono ?_; rintro e w5 ⟨rfl, hb5⟩)
          go_roundw
          case rel => exact ⟨k + 1, hlt, by go_num, HX.out, hbr.trans (hb5.mono hbr.size)⟩
          case measure => simp [intOf]; omega
        · have hq2 : (chkT l[k].t != 0) = true := by simpa using hq
          have HB : Hid (selS gdB hldS l cs ns = (0, 0, [], false, 2)) := by
            unfold Hid; refine sel_bad ?_
            rw [HBS.out, any_at (P := fun x : It => !(chkT x.t == 0)) hlt (by simpa using hq)]; simp
          generalize chkT l[k].t = q at cK hq2
          clear hq
          go_wp2_with (go_at_call 13; refine cK.mono ?_; rintro e w5 ⟨rfl, hb5⟩)
          refine bodyPost_ret (results_tmp5 Tryz.results35 _ _ _) rfl ?_
          exact ⟨_, [], _, _, _, _, rfl, Binds.nil _ _, hbr.trans (hb5.mono hbr.size), HB.out⟩
      have HIT : Hid (l.any (fun x => !(chkT x.t == 0)) = false) := by unfold Hid; have := HALL.out; rwa [List.take_of_length_le (by omega)] at this
      have HBR := Lib.hid hbr
      have HNB : Hid (selS gdB hldS l cs ns = match takeI hldS cs ns l 0 with | some (i, j, m) => (i, j, m, true, 0) | none => (0, 0, ns, false, 0)) := by
        unfold Hid selS
        rw [if_neg (by rw [HBS.out, HCL.out, HIT.out, HM.out]; simp)]
        cases takeI hldS cs ns l 0 <;> rfl
      clear HALL hbr
      go_wp2_with fail
      clear hlt
      rename World => W4
      go_loopw [13] (fun i wr => ∃ k : Nat, k ≤ l.length ∧ i = .int .i64 k ∧ takeI hldS cs ns (l.drop k) k = takeI hldS cs ns l 0 ∧ Below w.heap.size w wr) (fun i _ => l.length - (intOf i).toNat)
      case atStart => exact ⟨0, Nat.zero_le _, rfl, rfl, HBR.out⟩
      case round =>
        obtain ⟨k, hk, rfl, hrest, hbr⟩ := hrel
        have HREST := Lib.hid hrest
        have HBR := Lib.hid hbr
        clear hrest hbr
        by_cases hlt : k < l.length
        · have hR := HREST.out
          rw [takeI_drop hlt] at hR
          have HR := Lib.hid hR
          have HCK : Hid (chkT l[k].t = 0) := by
            unfold Hid
            have := List.any_eq_false.1 HIT.out _ (List.getElem_mem hlt)
            simpa using this
          clear hR
          go_wp2
          rename World => W5
          go_loopw [14] (fun j wy => ∃ n : Nat, n ≤ cs.length ∧ j = .int .i64 n ∧ takeC hldS l[k].t ns (cs.drop n) n = takeC hldS l[k].t ns cs 0 ∧ Below w.heap.size w wy) (fun j _ => cs.length - (intOf j).toNat)
          case atStart => exact ⟨0, Nat.zero_le _, rfl, rfl, HBR.out⟩
          case round =>
            obtain ⟨n, hn, rfl, hrest, hby⟩ := hrel
            have HRC := Lib.hid hrest
            have HBY := Lib.hid hby
            clear hrest hby
            by_cases hln : n < cs.length
            · have hR := HRC.out
              rw [takeC_drop hln] at hR
              have HR2 := Lib.hid hR
              have hcl : clB gdB cs[n] = true := by
                have := List.any_eq_false.1 HCL.out _ (List.getElem_mem hln)
                simpa using this
              unfold clB at hcl
              simp only [Bool.and_eq_true, decide_eq_true_eq] at hcl
              obtain ⟨⟨_, hc2⟩, hpt, _⟩ := hcl
              have hht := hit_eq hpt HCK.out HM.out
              have HHT := Lib.hid hht
              have hpf := pat_fits hpt
              have hmc := may_chk HM.out
              have hq0 : 0 < cs[n].l.length := by omega
              have hq1 : 1 < cs[n].l.length := by omega
              have hg0 : cs[n].l.getD 0 zeroT = cs[n].l[0] := by simp [hq0]
              have hg1 : cs[n].l.getD 1 zeroT = cs[n].l[1] := by simp [hq1]
              rw [hg0] at hpf
              obtain ⟨g, o, kv, rfl, _, ⟨a0, a1, a2, a3, a4⟩, _, hkid⟩ := (HI.out.under HBY.out).at hlt
              obtain ⟨g2, o2, kv2, rfl, _, ⟨d0, d1, d2, d3, d4⟩, hck⟩ := (HC.out.under HBY.out).at hln
              obtain ⟨p4, c4, rfl⟩ := hkid.kids.slice
              obtain ⟨p5, c5, rfl⟩ := hck.kids.slice
              obtain ⟨g6, o6, kv6, rfl, _, hn6, hv6⟩ := hck.kids.at hq0
              obtain ⟨g7, o7, kv7, hp7, _, hn7, hv7⟩ := hck.kids.at hq1
              cases hp7
              obtain ⟨p6, c6, rfl⟩ := hv6.kids.slice
              obtain ⟨p7, c7, rfl⟩ := hv7.kids.slice
              have hbd : Below wr.heap.size wr wr.drew := below_drewN (Below.refl _ _) 1
              have cG := goes_any (F := fun _ => True) cs[n].l[0] l[k].t ns wr.drew _ _ (.slice p3 ns.length c3) ⟨(HLT.out.under HBY.out).under hbd, fun _ _ => trivial, hv6.below hbd, hkid.below hbd, (HN.out.under HBY.out).under hbd, hpf.1, HCK.out, hmc.1, by have := hmc.2; omega⟩
              have HH := Lib.hid (fun (V : World) (v : Value) (m : List Bd) (hv : Below wr.heap.size wr V) (hm : Binds (fun _ => True) V v m) => rHolds_any (hv7.below hv) hm)
              have hhr : hitR cs[n] l[k].t ns = match cs[n].l[0].go l[k].t ns with | some m => if hldS cs[n].l[1] m then some m else none | none => none := by unfold hitR; rw [hg0, hg1]
              have HHR := Lib.hid (hht.trans hhr)
              have HN7 := Lib.hid hn7
              obtain ⟨e0, e1, e2, e3, e4⟩ := hn6
              simp only [Nat.zero_mul, Nat.add_zero] at e0 e1 e2 e3 e4
              have h0l : (0 : Int) < cs[n].l.length := by omega
              have h1l : (1 : Int) < cs[n].l.length := by omega
              have hk2 : ¬ cs[n].l = [] := by intro h; rw [h] at hq0; simp at hq0
              obtain ⟨og, hog⟩ : ∃ og, cs[n].l[0].go l[k].t ns = og := ⟨_, rfl⟩
              rw [hog] at cG HHR
              have hmv : ∀ V : World, Below wr.heap.size wr V → V.cell? ⟨g2, o2 + n * 5 + 4, none⟩ = some (.slice (some ⟨g6, o6, none⟩) cs[n].l.length c5) ∧ V.cell? ⟨g6, o6, none⟩ = some (.int .i8 cs[n].l[0].k) ∧ V.cell? ⟨g6, o6 + 1, none⟩ = some (.int .i64 cs[n].l[0].n) ∧ V.cell? ⟨g6, o6 + 2, none⟩ = some (.string cs[n].l[0].s) ∧ V.cell? ⟨g6, o6 + 3, none⟩ = some (.string cs[n].l[0].t) ∧ V.cell? ⟨g6, o6 + 4, none⟩ = some (.slice p6 cs[n].l[0].l.length c6) ∧ V.cell? ⟨g, o + k * 6, none⟩ = some (.int .i8 l[k].t.k) ∧ V.cell? ⟨g, o + k * 6 + 1, none⟩ = some (.int .i64 l[k].t.n) ∧ V.cell? ⟨g, o + k * 6 + 2, none⟩ = some (.string l[k].t.s) ∧ V.cell? ⟨g, o + k * 6 + 3, none⟩ = some (.string l[k].t.t) ∧ V.cell? ⟨g, o + k * 6 + 4, none⟩ = some (.slice p4 l[k].t.l.length c4) := fun V hv =>
                have f : ∀ b i u, wr.cell? ⟨b, i, none⟩ = some u → V.cell? ⟨b, i, none⟩ = some u := fun b i u h => (hv.cell (p := ⟨b, i, none⟩) (cell_block h)).trans h
                ⟨f _ _ _ d4, f _ _ _ e0, f _ _ _ e1, f _ _ _ e2, f _ _ _ e3, f _ _ _ e4, f _ _ _ a0, f _ _ _ a1, f _ _ _ a2, f _ _ _ a3, f _ _ _ a4⟩
              have hS0 := hmv wr (Below.refl _ _)
              have HD4 := Lib.hid d4
              have hln2 : (n : Int) < cs.length := by omega
              have hlt2 : (k : Int) < l.length := by omega
              have hn0 : (0 : Int) ≤ (n : Int) := by omega
              have hk0 : (0 : Int) ≤ (k : Int) := by omega
              clear hR hht hpf hmc hg0 hg1 hhr hkid hck hv6 hv7 hn7 hpt hog a0 a1 a2 a3 a4 d0 d1 d2 d3 d4 e0 e1 e2 e3 e4
              go_upto_region 19 with fail
              refine wp_region_held_drew (S := fun V => V.cell? ⟨g2, o2 + n * 5 + 4, none⟩ = some (.slice (some ⟨g6, o6, none⟩) cs[n].l.length c5) ∧ V.cell? ⟨g6, o6, none⟩ = some (.int .i8 cs[n].l[0].k) ∧ V.cell? ⟨g6, o6 + 1, none⟩ = some (.int .i64 cs[n].l[0].n) ∧ V.cell? ⟨g6, o6 + 2, none⟩ = some (.string cs[n].l[0].s) ∧ V.cell? ⟨g6, o6 + 3, none⟩ = some (.string cs[n].l[0].t) ∧ V.cell? ⟨g6, o6 + 4, none⟩ = some (.slice p6 cs[n].l[0].l.length c6) ∧ V.cell? ⟨g, o + k * 6, none⟩ = some (.int .i8 l[k].t.k) ∧ V.cell? ⟨g, o + k * 6 + 1, none⟩ = some (.int .i64 l[k].t.n) ∧ V.cell? ⟨g, o + k * 6 + 2, none⟩ = some (.string l[k].t.s) ∧ V.cell? ⟨g, o + k * 6 + 3, none⟩ = some (.string l[k].t.t) ∧ V.cell? ⟨g, o + k * 6 + 4, none⟩ = some (.slice p4 l[k].t.l.length c4)) (by kernel_rfl) ?_ (fun hHeld => ?_)
              · (try dsimp only); (first | exact hS0 | exact hS2)
              refine wpAnyH_take (i := 0) (v := ?_) rfl (by kernel_rfl) (by kernel_rfl) (by kernel_rfl) (fun _ _ _ h => h) (Or.inl ⟨by rfl, ?_⟩) (by assumption) ?_
              rotate_left 1
              (intro w hSw; (try dsimp only at hSw); go_simp; try with_reducible rfl)
              (try simp only [List.getElem_toArray, List.getElem_cons_zero, Act.put, List.setIfInBounds_toArray, List.set_cons_zero, List.set_cons_succ])
              refine wpAnyH_take (i := 1) (v := ?_) rfl (by kernel_rfl) (by kernel_rfl) (by kernel_rfl) (fun _ _ _ h => h) (Or.inl ⟨by rfl, ?_⟩) (by assumption) ?_
              rotate_left 1
              (intro w hSw; (try dsimp only at hSw); go_simp; try with_reducible rfl)
              (try simp only [List.getElem_toArray, List.getElem_cons_succ, List.getElem_cons_zero, Act.put, List.setIfInBounds_toArray, List.set_cons_zero, List.set_cons_succ])
              refine wpAnyH_take (i := 2) (v := ?_) rfl (by kernel_rfl) (by kernel_rfl) (by kernel_rfl) (fun _ _ _ h => h) (Or.inl ⟨by rfl, ?_⟩) (by assumption) ?_
              rotate_left 1
              (intro w hSw; (try dsimp only at hSw); go_simp; try with_reducible rfl)
              (try simp only [List.getElem_toArray, List.getElem_cons_succ, List.getElem_cons_zero, Act.put, List.setIfInBounds_toArray, List.set_cons_zero, List.set_cons_succ])
              refine wpAnyH_take (i := 3) (v := ?_) rfl (by kernel_rfl) (by kernel_rfl) (by kernel_rfl) (fun _ _ _ h => h) (Or.inl ⟨by rfl, ?_⟩) (by assumption) ?_
              rotate_left 1
              (intro w hSw; (try dsimp only at hSw); go_simp; try with_reducible rfl)
              (try simp only [List.getElem_toArray, List.getElem_cons_succ, List.getElem_cons_zero, Act.put, List.setIfInBounds_toArray, List.set_cons_zero, List.set_cons_succ])
              refine wpAnyH_take (i := 4) (v := ?_) rfl (by kernel_rfl) (by kernel_rfl) (by kernel_rfl) (fun _ _ _ h => h) (Or.inl ⟨by rfl, ?_⟩) (by assumption) ?_
              rotate_left 1
              (intro w hSw; (try dsimp only at hSw); go_simp; try with_reducible rfl)
              (try simp only [List.getElem_toArray, List.getElem_cons_succ, List.getElem_cons_zero, Act.put, List.setIfInBounds_toArray, List.set_cons_zero, List.set_cons_succ])
              refine wpAnyH_take (i := 5) (v := ?_) rfl (by kernel_rfl) (by kernel_rfl) (by kernel_rfl) (fun _ _ _ h => h) (Or.inl ⟨by rfl, ?_⟩) (by assumption) ?_
              rotate_left 1
              (intro w hSw; (try dsimp only at hSw); go_simp; try with_reducible rfl)
              (try simp only [List.getElem_toArray, List.getElem_cons_succ, List.getElem_cons_zero, Act.put, List.setIfInBounds_toArray, List.set_cons_zero, List.set_cons_succ])
              refine wpAnyH_take (i := 6) (v := ?_) rfl (by kernel_rfl) (by kernel_rfl) (by kernel_rfl) (fun _ _ _ h => h) (Or.inl ⟨by rfl, ?_⟩) (by assumption) ?_
              rotate_left 1
              (intro w hSw; (try dsimp only at hSw); go_simp; try with_reducible rfl)
              (try simp only [List.getElem_toArray, List.getElem_cons_succ, List.getElem_cons_zero, Act.put, List.setIfInBounds_toArray, List.set_cons_zero, List.set_cons_succ])
              refine wpAnyH_take (i := 7) (v := ?_) rfl (by kernel_rfl) (by kernel_rfl) (by kernel_rfl) (fun _ _ _ h => h) (Or.inl ⟨by rfl, ?_⟩) (by assumption) ?_
              rotate_left 1
              (intro w hSw; (try dsimp only at hSw); go_simp; try with_reducible rfl)
              (try simp only [List.getElem_toArray, List.getElem_cons_succ, List.getElem_cons_zero, Act.put, List.setIfInBounds_toArray, List.set_cons_zero, List.set_cons_succ])
              refine wpAnyH_take (i := 8) (v := ?_) rfl (by kernel_rfl) (by kernel_rfl) (by kernel_rfl) (fun _ _ _ h => h) (Or.inl ⟨by rfl, ?_⟩) (by assumption) ?_
              rotate_left 1
              (intro w hSw; (try dsimp only at hSw); go_simp; try with_reducible rfl)
              (try simp only [List.getElem_toArray, List.getElem_cons_succ, List.getElem_cons_zero, Act.put, List.setIfInBounds_toArray, List.set_cons_zero, List.set_cons_succ])
              refine wpAnyH_take (i := 9) (v := ?_) rfl (by kernel_rfl) (by kernel_rfl) (by kernel_rfl) (fun _ _ _ h => h) (Or.inl ⟨by rfl, ?_⟩) (by assumption) ?_
              rotate_left 1
              (intro w hSw; (try dsimp only at hSw); go_simp; try with_reducible rfl)
              (try simp only [List.getElem_toArray, List.getElem_cons_succ, List.getElem_cons_zero, Act.put, List.setIfInBounds_toArray, List.set_cons_zero, List.set_cons_succ])
              refine wpAnyH_take (i := 10) (v := ?_) rfl (by kernel_rfl) (by kernel_rfl) (by kernel_rfl) (fun _ _ _ h => h) (Or.inl ⟨by rfl, ?_⟩) (by assumption) ?_
              rotate_left 1
              (intro w hSw; (try dsimp only at hSw); go_simp; try with_reducible rfl)
              (try simp only [List.getElem_toArray, List.getElem_cons_succ, List.getElem_cons_zero, Act.put, List.setIfInBounds_toArray, List.set_cons_zero, List.set_cons_succ])
              refine wpAnyH_take (i := 11) (v := ?_) rfl (by kernel_rfl) (by kernel_rfl) (by kernel_rfl) (fun _ _ _ h => h) (Or.inl ⟨by rfl, ?_⟩) (by assumption) ?_
              rotate_left 1
              (intro w hSw; (try dsimp only at hSw); go_simp; try with_reducible rfl)
              (try simp only [List.getElem_toArray, List.getElem_cons_succ, List.getElem_cons_zero, Act.put, List.setIfInBounds_toArray, List.set_cons_zero, List.set_cons_succ])
              refine wpAnyH_take (i := 12) (v := ?_) rfl (by kernel_rfl) (by kernel_rfl) (by kernel_rfl) (fun _ _ _ h => h) (Or.inl ⟨by rfl, ?_⟩) (by assumption) ?_
              rotate_left 1
              (intro w hSw; (try dsimp only at hSw); go_simp; try with_reducible rfl)
              (try simp only [List.getElem_toArray, List.getElem_cons_succ, List.getElem_cons_zero, Act.put, List.setIfInBounds_toArray, List.set_cons_zero, List.set_cons_succ])
              refine wpAnyH_ready (rs := [13]) (by kernel_rfl) (by simp) ?_
              refine AllReadyH.cons rfl (fun K hK => ?_) AllReadyH.nil
              go_simp
              go_wp2_with (go_at_call 84; refine cG.mono ?_; rintro e w6 ⟨v6, l6, ok6, rfl, hl6, hb6, _, _, hq6⟩; have hb46 := hbd.trans (hb6.mono hbd.size); have hS2 := hmv _ hb46; have HQ6 := Lib.hid hq6; have HL6 := Lib.hid hl6; clear hq6 hl6)
              refine hK.out _ _ ?_ (fun hHeld => ?_)
              · (try dsimp only); (first | exact hS0 | exact hS2)
              clear hK K
              (try simp only [List.getElem_toArray, List.getElem_cons_succ, List.getElem_cons_zero, Act.put, List.setIfInBounds_toArray, List.set_cons_zero, List.set_cons_succ])
              refine wpAnyH_take (i := 14) (v := ?_) rfl (by kernel_rfl) (by kernel_rfl) (by kernel_rfl) (fun _ _ _ h => h) (Or.inl ⟨by rfl, ?_⟩) (by assumption) ?_
              rotate_left 1
              (intro w hSw; (try dsimp only at hSw); go_simp; try with_reducible rfl)
              (try simp only [List.getElem_toArray, List.getElem_cons_succ, List.getElem_cons_zero, Act.put, List.setIfInBounds_toArray, List.set_cons_zero, List.set_cons_succ])
              refine wpAnyH_take (i := 15) (v := ?_) rfl (by kernel_rfl) (by kernel_rfl) (by kernel_rfl) (fun _ _ _ h => h) (Or.inl ⟨by rfl, ?_⟩) (by assumption) ?_
              rotate_left 1
              (intro w hSw; (try dsimp only at hSw); go_simp; try with_reducible rfl)
              (try simp only [List.getElem_toArray, List.getElem_cons_succ, List.getElem_cons_zero, Act.put, List.setIfInBounds_toArray, List.set_cons_zero, List.set_cons_succ])
              refine wpAnyH_take (i := 16) (v := ?_) rfl (by kernel_rfl) (by kernel_rfl) (by kernel_rfl) (fun _ _ _ h => h) (Or.inl ⟨by rfl, ?_⟩) (by assumption) ?_
              rotate_left 1
              (intro w hSw; (try dsimp only at hSw); go_simp; try with_reducible rfl)
              (try simp only [List.getElem_toArray, List.getElem_cons_succ, List.getElem_cons_zero, Act.put, List.setIfInBounds_toArray, List.set_cons_zero, List.set_cons_succ])
              refine wpAnyH_take (i := 17) (v := ?_) rfl (by kernel_rfl) (by kernel_rfl) (by kernel_rfl) (fun _ _ _ h => h) (Or.inl ⟨by rfl, ?_⟩) (by assumption) ?_
              rotate_left 1
              (intro w hSw; (try dsimp only at hSw); go_simp; try with_reducible rfl)
              (try simp only [List.getElem_toArray, List.getElem_cons_succ, List.getElem_cons_zero, Act.put, List.setIfInBounds_toArray, List.set_cons_zero, List.set_cons_succ])
              refine wpAnyH_take (i := 18) (v := ?_) rfl (by kernel_rfl) (by kernel_rfl) (by kernel_rfl) (fun _ _ _ h => h) (Or.inl ⟨by rfl, ?_⟩) (by assumption) ?_
              rotate_left 1
              (intro w hSw; (try dsimp only at hSw); go_simp; try with_reducible rfl)
              (try simp only [List.getElem_toArray, List.getElem_cons_succ, List.getElem_cons_zero, Act.put, List.setIfInBounds_toArray, List.set_cons_zero, List.set_cons_succ])
              refine wpAnyH_done (by kernel_rfl) ?_ _
              clear hmv hS0 hS2 cG
              have hB6 := HBY.out.trans (hb46.mono HBY.out.size)
              cases ok6
              · have HX : Hid (takeC hldS l[k].t ns (cs.drop (n + 1)) (n + 1) = takeC hldS l[k].t ns cs 0) := by
                  unfold Hid; have h := HR2.out; rw [HHR.out, HQ6.out] at h; exact h
                clear h0l h1l hk2
                go_wp2_with fail
                go_roundw
                case rel => exact ⟨n + 1, hln, by go_num, HX.out, hB6⟩
                case measure => simp [intOf]; omega
              · have cH := HH.out w6 v6 l6 hb46 HL6.out
                have d4 := (hb46.cell (p := ⟨g2, o2 + n * 5 + 4, none⟩) (cell_block HD4.out)).trans HD4.out
                obtain ⟨f0, f1, f2, f3, f4⟩ := HN7.out.keep (hb46.block _ HN7.out.lt)
                simp only [Nat.one_mul] at f0 f1 f2 f3 f4
                obtain ⟨hq, hhq⟩ : ∃ q, hldS cs[n].l[1] l6 = q := ⟨_, rfl⟩
                rw [hhq] at cH
                have HHQ := Lib.hid hhq
                clear hhq
                cases hq
                · have HX : Hid (takeC hldS l[k].t ns (cs.drop (n + 1)) (n + 1) = takeC hldS l[k].t ns cs 0) := by
                    unfold Hid; have h := HR2.out; rw [HHR.out, HQ6.out] at h; simp only [if_true] at h; rw [HHQ.out] at h; exact h
                  go_wp2_with (go_at_call 27; refine cH.mono ?_; rintro e w7 ⟨rfl, hb7⟩)
                  go_roundw
                  case rel => exact ⟨n + 1, hln, by go_num, HX.out, hB6.trans (hb7.mono hB6.size)⟩
                  case measure => simp [intOf]; omega
                · have HX : Hid (takeI hldS cs ns l 0 = some (k, n, l6)) := by
                    unfold Hid
                    have h := HR2.out
                    rw [HHR.out, HQ6.out] at h
                    simp only [if_true] at h
                    rw [HHQ.out] at h
                    have h1 := HR.out
                    rw [← h] at h1
                    exact h1.symm
                  have HFIN : Hid (selS gdB hldS l cs ns = ((k : Int), (n : Int), l6, true, 0)) := by unfold Hid; rw [HNB.out, HX.out]
                  go_wp2_with (go_at_call 27; refine cH.mono ?_; rintro e w7 ⟨rfl, hb7⟩)
                  (try rw [Exit.noGoto_ret])
                  refine bodyPost_ret (results_tmp5 Tryz.results35 _ _ _) rfl ?_
                  exact ⟨_, l6, _, _, true, 0, rfl, HL6.out.under hb7, hB6.trans (hb7.mono hB6.size), HFIN.out⟩
            · have HX : Hid (takeI hldS cs ns (l.drop (k + 1)) (k + 1) = takeI hldS cs ns l 0) := by
                unfold Hid
                have h := HRC.out
                rw [List.drop_eq_nil_of_le (by omega), takeC] at h
                have h1 := HR.out
                rw [← h] at h1
                exact h1
              go_wp2_with fail
              go_roundw
              case rel => exact ⟨k + 1, hlt, by go_num, HX.out, HBY.out⟩
              case measure => simp [intOf]; omega
        · have HFIN : Hid (selS gdB hldS l cs ns = (0, 0, ns, false, 0)) := by
            unfold Hid
            have h := HREST.out
            rw [List.drop_eq_nil_of_le (by omega), takeI] at h
            rw [HNB.out, ← h]
          go_wp2_with fail
          refine bodyPost_ret (results_tmp5 Tryz.results35 _ _ _) rfl ?_
          exact ⟨_, ns, _, _, false, 0, rfl, HN.out.under HBR.out, HBR.out, HFIN.out⟩
end Go.Proofs.YtlhobpknflobgaaGreatDoor
