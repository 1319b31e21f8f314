/-
  mail.Select. Conditions: the trees lie as 'TrV' says, the items as 'Items', the names as 'Binds'; what ast.Guard and guard.Holds answer at the clauses' guards.
-/
import Derived.Test.YtlhobpknflobgaaGreatDoorGm3
namespace Go.Proofs.YtlhobpknflobgaaGreatDoor
open Go.RowKit

/-- What a clause tells of a term. -/
def hitC (gH : Tr → List Bd → Bool) (c : Tr) (t : Tr) (ns : List Bd) : Option (List Bd) :=
  if (allS [c.l.getD 0 zeroT] [t] ns).2.1 && gH (c.l.getD 1 zeroT) (allS [c.l.getD 0 zeroT] [t] ns).1 then some (allS [c.l.getD 0 zeroT] [t] ns).1 else none
def takeC (gH : Tr → List Bd → Bool) (t : Tr) (ns : List Bd) : List Tr → Nat → Option (Nat × List Bd)
  | [], _ => none
  | c :: r, j => match hitC gH c t ns with
    | some m => some (j, m)
    | none => takeC gH t ns r (j + 1)
def takeI (gH : Tr → List Bd → Bool) (cs : List Tr) (ns : List Bd) : List It → Nat → Option (Nat × Nat × List Bd)
  | [], _ => none
  | x :: r, i => match takeC gH x.t ns cs 0 with
    | some (j, m) => some (i, j, m)
    | none => takeI gH cs ns r (i + 1)
def badS (gB : Tr → Bool) (l : List It) (cs : List Tr) (ns : List Bd) : Bool := cs.any (fun c => !clB gB c) || (l.any (fun x => !(chkT x.t == 0)) || !mayB ns)
/-- What Select tells. -/
def selS (gB : Tr → Bool) (gH : Tr → List Bd → Bool) (l : List It) (cs : List Tr) (ns : List Bd) : Int × Int × List Bd × Bool × Int :=
  if badS gB l cs ns then (0, 0, [], false, 2) else match takeI gH cs ns l 0 with
    | some (i, j, m) => (i, j, m, true, 0)
    | none => (0, 0, ns, false, 0)
theorem takeC_drop {gH : Tr → List Bd → Bool} {t : Tr} {ns : List Bd} {cs : List Tr} {j : Nat} (h : j < cs.length) : takeC gH t ns (cs.drop j) j = match hitC gH cs[j] t ns with | some m => some (j, m) | none => takeC gH t ns (cs.drop (j + 1)) (j + 1) := by
  rw [List.drop_eq_getElem_cons h, takeC]
theorem takeI_drop {gH : Tr → List Bd → Bool} {cs : List Tr} {ns : List Bd} {l : List It} {i : Nat} (h : i < l.length) : takeI gH cs ns (l.drop i) i = match takeC gH l[i].t ns cs 0 with | some (j, m) => some (i, j, m) | none => takeI gH cs ns (l.drop (i + 1)) (i + 1) := by
  rw [List.drop_eq_getElem_cons h, takeI]

def SelPost (q : Int × Int × List Bd × Bool × Int) (w : World) (e : Ending) (w' : World) : Prop :=
  ∃ v' l' i j ok er, e = .returned (.tuple #[.int .i64 i, .int .i64 j, v', .bool ok, .int .i64 er]) ∧ Binds (fun _ => True) w' v' l' ∧ Below w.heap.size w w' ∧ q = (i, j, l', ok, er)
theorem results_tmp5 {fn : Func} {a b c d e : Tmp} (h : fn.results = #[.tmp a, .tmp b, .tmp c, .tmp d, .tmp e]) (tmps : Array Value) (P : Program) (w : World) :
    (results fn tmps).run P w = .ok (.tuple #[tmps.getD a undef, tmps.getD b undef, tmps.getD c undef, tmps.getD d undef, tmps.getD e undef]) w := by
  simp [results, h]

/-- guard.Holds answers gH for the second part of a clause, in any world behind w. -/
def HoldsSays (gH : Tr → List Bd → Bool) (w : World) (x : Tr) : Prop := ∀ (h : 1 < x.l.length) (W : World) (tv v : Value) (m : List Bd), Below w.heap.size w W → TrV (fun _ => True) W x.l[1] tv → Binds (fun _ => True) W v m → Calls Tryz.prog 18 #[.agg #[.int .i8 x.l[1].k, .int .i64 x.l[1].n, .string x.l[1].s, .string x.l[1].t, tv], v] W fun e w' => e = .returned (.bool (gH x.l[1] m)) ∧ Below W.heap.size W w'
theorem HoldsSays.under {gH : Tr → List Bd → Bool} {w w' : World} {x : Tr} (h : HoldsSays gH w x) (hb : Below w.heap.size w w') : HoldsSays gH w' x := fun hh W tv v m hW => h hh W tv v m (hb.trans (hW.mono hb.size))

structure SelHyp (gB : Tr → Bool) (gH : Tr → List Bd → Bool) (l : List It) (cs : List Tr) (ns : List Bd) (w : World) (lv cv nv : Value) : Prop where
  lt : Letters w
  hl : Items (fun _ => True) w lv l
  hc : Kids (fun _ => True) w cv cs
  hn : Binds (fun _ => True) w nv ns
  hG : ∀ c ∈ cs, GuardSays (fun _ => True) gB w c
  hH : ∀ c ∈ cs, HoldsSays gH w c

set_option maxHeartbeats 8000000 in
set_option maxRecDepth 100000 in
theorem select_any {gB : Tr → Bool} {gH : Tr → List Bd → Bool} {l : List It} {cs : List Tr} {ns : List Bd} {w : World} {lv cv nv : Value} (h : SelHyp gB gH l cs ns w lv cv nv) :
    Calls Tryz.prog 34 #[lv, cv, nv] w (SelPost (selS gB gH l cs ns) w) := by
  obtain ⟨p, c, rfl⟩ := h.hl.slice
  obtain ⟨p2, c2, rfl⟩ := h.hc.slice
  obtain ⟨p3, c3, rfl⟩ := h.hn.slice
  have hlen : l.length ≤ 2199023255552 := h.hl.len
  have hlen2 : cs.length ≤ 2199023255552 := h.hc.len
  have cN := pickN_any (P := fun c => !clB gB c) h.hc (fun x hx W sv hb hxv => sel1_any (h.lt.under hb) hxv ((h.hG x hx).under hb))
  have cI := fun (W : World) (hb : Below w.heap.size w W) => pickC_any (P := fun x : It => !(chkT x.t == 0)) (h.hl.under hb) (fun x hx W' sv hb' hxv => sel2_any (h.lt.under (hb.trans (hb'.mono hb.size))) hxv)
  have cM := fun (W : World) (hb : Below w.heap.size w W) => bmay_any (h.lt.under hb) (h.hn.under hb)
  have e1 := idx_any (fun c => !clB gB c) cs
  have e2 := idx_any (fun x : It => !(chkT x.t == 0)) l
  unfold pickV at cN cI
  rw [e1] at cN
  rw [e2] at cI
  clear e1 e2
  generalize (if 0 ≤ idxB (fun c => !clB gB c) cs then idxB (fun c => !clB gB c) cs else 0) = z1 at cN
  generalize (if 0 ≤ idxB (fun x : It => !(chkT x.t == 0)) l then idxB (fun x : It => !(chkT x.t == 0)) l else 0) = z2 at cI
  have H := Lib.hid h
  clear h
  have HB : Hid (badS gB l cs ns = (cs.any (fun c => !clB gB c) || (l.any (fun x => !(chkT x.t == 0)) || !mayB ns))) := Lib.hid rfl
  generalize hq1 : cs.any (fun c => !clB gB c) = q1 at cN HB
  generalize hq2 : l.any (fun x => !(chkT x.t == 0)) = q2 at cI HB
  generalize mayB ns = q3 at cM HB
  have HQ1 := Lib.hid hq1
  clear hq1 hq2
  cases q1
  case' true =>
    have HN : Hid (selS gB gH l cs ns = (0, 0, [], false, 2)) := by unfold Hid selS; rw [HB.out]; rfl
    go_enter Tryz.func34, Tryz.ntmps34
    go_wp2
    go_step3
    go_wp2_with (first
      | (go_at_call 74; refine cN.mono ?_; rintro e w5 ⟨rfl, hb5⟩)
      | (go_at_call 77; refine (cI _ hb5).mono ?_; rintro e w6 ⟨rfl, hb6⟩; have hB6 := hb5.trans (hb6.mono hb5.size)))
    try rw [Exit.noGoto_ret]
    refine bodyPost_ret (results_tmp5 Tryz.results34 _ _ _) rfl ?_
    exact ⟨_, [], 0, 0, false, 2, rfl, Binds.nil _ _, hB6, HN.out⟩
  cases q2
  case' true =>
    have HN : Hid (selS gB gH l cs ns = (0, 0, [], false, 2)) := by unfold Hid selS; rw [HB.out]; rfl
    go_enter Tryz.func34, Tryz.ntmps34
    go_wp2
    go_step3
    go_wp2_with (first
      | (go_at_call 74; refine cN.mono ?_; rintro e w5 ⟨rfl, hb5⟩)
      | (go_at_call 77; refine (cI _ hb5).mono ?_; rintro e w6 ⟨rfl, hb6⟩; have hB6 := hb5.trans (hb6.mono hb5.size)))
    try rw [Exit.noGoto_ret]
    refine bodyPost_ret (results_tmp5 Tryz.results34 _ _ _) rfl ?_
    exact ⟨_, [], 0, 0, false, 2, rfl, Binds.nil _ _, hB6, HN.out⟩
  cases q3
  case' false =>
    have HN : Hid (selS gB gH l cs ns = (0, 0, [], false, 2)) := by unfold Hid selS; rw [HB.out]; rfl
    go_enter Tryz.func34, Tryz.ntmps34
    go_wp2
    go_step3
    go_wp2_with (first
      | (go_at_call 74; refine cN.mono ?_; rintro e w5 ⟨rfl, hb5⟩)
      | (go_at_call 77; refine (cI _ hb5).mono ?_; rintro e w6 ⟨rfl, hb6⟩; have hB6 := hb5.trans (hb6.mono hb5.size))
      | (go_at_call 80; refine (cM _ hB6).mono ?_; rintro e w7 ⟨rfl, hb7⟩; have hB7 := hB6.trans (hb7.mono hB6.size)))
    try rw [Exit.noGoto_ret]
    refine bodyPost_ret (results_tmp5 Tryz.results34 _ _ _) rfl ?_
    exact ⟨_, [], 0, 0, false, 2, rfl, Binds.nil _ _, hB7, HN.out⟩
  have HN : Hid (selS gB gH l cs ns = match takeI gH cs ns l 0 with
    | some (i, j, m) => (i, j, m, true, 0)
    | none => (0, 0, ns, false, 0)) := by unfold Hid selS; rw [HB.out]; rfl
  go_enter Tryz.func34, Tryz.ntmps34
  go_wp2
  go_step3
  go_wp2_with (first
    | (go_at_call 74; refine cN.mono ?_; rintro e w5 ⟨rfl, hb5⟩)
    | (go_at_call 77; refine (cI _ hb5).mono ?_; rintro e w6 ⟨rfl, hb6⟩; have hB6 := hb5.trans (hb6.mono hb5.size))
    | (go_at_call 80; refine (cM _ hB6).mono ?_; rintro e w7 ⟨rfl, hb7⟩; have hB7 := hB6.trans (hb7.mono hB6.size)))
  clear cN cI cM
  go_step3
  go_wp2
  go_loopw [6, 7, 8, 9, 44] (fun s6 s7 s8 s9 i wr => ∃ k : Nat, k ≤ l.length ∧ i = .int .i64 k ∧ s6 = .int .i64 0 ∧ s7 = .int .i64 0 ∧ s8 = .slice p3 ns.length c3 ∧ s9 = .bool false ∧ takeI gH cs ns (l.drop k) k = takeI gH cs ns l 0 ∧ Below w.heap.size w wr) (fun _ _ _ _ i _ => l.length - (intOf i).toNat)
  case atStart => exact ⟨0, Nat.zero_le _, rfl, rfl, rfl, rfl, rfl, rfl, hB7⟩
  case round =>
    obtain ⟨k, hk, rfl, rfl, rfl, rfl, rfl, hrest, hbr⟩ := hrel
    by_cases hlt : k < l.length
    · obtain ⟨g, o, kv, rfl, _, ⟨a0, a1, a2, a3, a4⟩, a5, hkid⟩ := (H.out.hl.under hbr).at hlt
      obtain ⟨p4, c4, rfl⟩ := hkid.kids.slice
      rw [takeI_drop hlt] at hrest
      have HREST := Lib.hid hrest
      have hb3 := alloc_below wr (.cells #[.int .i8 l[k].t.k, .int .i64 l[k].t.n, .string l[k].t.s, .string l[k].t.t, .slice p4 l[k].t.l.length c4, .bool l[k].o] 65)
      have hi3 := item_heap (heap_new wr (.cells #[.int .i8 l[k].t.k, .int .i64 l[k].t.n, .string l[k].t.s, .string l[k].t.t, .slice p4 l[k].t.l.length c4, .bool l[k].o] 65))
      have hkid3 := hkid.below hb3
      have hB3 := hbr.trans (hb3.mono hbr.size)
      clear hrest hkid
      go_upto_region 9 with fail
      generalize wr.alloc (.cells #[.int .i8 l[k].t.k, .int .i64 l[k].t.n, .string l[k].t.s, .string l[k].t.t, .slice p4 l[k].t.l.length c4, .bool l[k].o] 65) = w3 at hb3 hi3 hkid3 hB3 ⊢
      generalize hxt : l[k].t = xt at hi3 hkid3 HREST
      generalize l[k].o = xo at *
      generalize wr.heap.size = bi at *
      clear a0 a1 a2 a3 a4 a5 hxt hb3 hbr
      obtain ⟨hni3, _⟩ := hi3
      go_wp2
      rename World => W3
      go_loopw [6, 7, 8, 9, 51] (fun s6 s7 s8 s9 i wy => ∃ j : Nat, j ≤ cs.length ∧ i = .int .i64 j ∧ s6 = .int .i64 0 ∧ s7 = .int .i64 0 ∧ s8 = .slice p3 ns.length c3 ∧ s9 = .bool false ∧ takeC gH xt ns (cs.drop j) j = takeC gH xt ns cs 0 ∧ Below W3.heap.size W3 wy) (fun _ _ _ _ i _ => cs.length - (intOf i).toNat)
      case atStart => exact ⟨0, Nat.zero_le _, rfl, rfl, rfl, rfl, rfl, rfl, Below.refl _ _⟩
      case round =>
        obtain ⟨j, hj, rfl, rfl, rfl, rfl, rfl, hrest2, hby⟩ := hrel
        have hBy := hB3.trans (hby.mono hB3.size)
        by_cases hlj : j < cs.length
        · obtain ⟨g2, o2, kv2, rfl, _, ⟨d0, d1, d2, d3, d4⟩, hck⟩ := (H.out.hc.under hBy).at hlj
          have hcl : clB gB cs[j] = true := by
            have h1 := List.any_eq_false.1 HQ1.out cs[j] (List.getElem_mem hlj)
            simpa using h1
          unfold clB at hcl
          simp only [Bool.and_eq_true, decide_eq_true_eq] at hcl
          obtain ⟨⟨_, hc2⟩, _⟩ := hcl
          have cH := fun (W : World) (hb : Below w.heap.size w W) => (H.out.hH cs[j] (List.getElem_mem hlj)).under hb
          rw [takeC_drop hlj] at hrest2
          obtain ⟨p5, c5, rfl⟩ := hck.kids.slice
          have hb4 := alloc_below wr (.cells #[.int .i8 cs[j].k, .int .i64 cs[j].n, .string cs[j].s, .string cs[j].t, .slice p5 cs[j].l.length c5] 25)
          have hn4 := node_heap (heap_new wr (.cells #[.int .i8 cs[j].k, .int .i64 cs[j].n, .string cs[j].s, .string cs[j].t, .slice p5 cs[j].l.length c5] 25))
          have hck4 := hck.below hb4
          have hB4 := hBy.trans (hb4.mono hBy.size)
          have hB34 := hby.trans (hb4.mono hby.size)
          have hni4 := hni3.keep ((hby.trans (hb4.mono hby.size)).block _ hni3.lt)
          have hki4 := hkid3.below (hby.trans (hb4.mono hby.size))
          clear hck
          go_upto_region 12 with fail
          generalize wr.alloc (.cells #[.int .i8 cs[j].k, .int .i64 cs[j].n, .string cs[j].s, .string cs[j].t, .slice p5 cs[j].l.length c5] 25) = w4 at hb4 hn4 hck4 hB4 hB34 hni4 hki4 ⊢
          generalize wr.heap.size = bn at *
          generalize cs[j] = cj at *
          clear d0 d1 d2 d3 d4
          obtain ⟨g5, o5, kv5, rfl, _, hnode5, hkid5⟩ := hck4.kids.at (i := 0) (by omega)
          obtain ⟨g6, o6, kv6, hpe, _, hnode6, hkid6⟩ := hck4.kids.at (i := 1) (by omega)
          cases hpe
          have g0 : cj.l.getD 0 zeroT = cj.l[0] := by rw [List.getD_eq_getElem?_getD, List.getElem?_eq_getElem (by omega)]; rfl
          have g1 : cj.l.getD 1 zeroT = cj.l[1] := by rw [List.getD_eq_getElem?_getD, List.getElem?_eq_getElem (by omega)]; rfl
          have hclen : cj.l.length ≤ 2199023255552 := hck4.kids.len
          have HIT : Hid (∀ l5 ok5 er5, allS [cj.l[0]] [xt] ns = (l5, ok5, er5) → hitC gH cj xt ns = if ok5 && gH cj.l[1] l5 then some l5 else none) := by
            intro l5 ok5 er5 hq
            unfold hitC
            rw [g0, g1, hq]
          obtain ⟨p6, c6, rfl⟩ := hkid5.kids.slice
          obtain ⟨p7, c7, rfl⟩ := hkid6.kids.slice
          have hbd : Below w4.heap.size w4 w4.drew := below_drewN (Below.refl _ _) 1
          have hB4d := hB4.trans (hbd.mono hB4.size)
          have cMt := mmatch_any (F := fun _ => True) (p := cj.l[0]) (x := xt) (l := ns) (w := w4.drew) ⟨H.out.lt.under hB4d, fun _ _ => trivial, hkid5.below hbd, hki4.below hbd, H.out.hn.under hB4d⟩
          have hcl0 : 0 < cj.l.length := by omega
          have hcl1 : 1 < cj.l.length := by omega
          have hcn : ¬ cj.l = [] := by intro e; rw [e] at hcl0; exact absurd hcl0 (by decide)
          have hcl0i : (0 : Int) < (cj.l.length : Int) := by omega
          have hcl1i : (1 : Int) < (cj.l.length : Int) := by omega
          have HN4 := Lib.hid hn4
          have HN6 := Lib.hid hnode6
          have HK6 := Lib.hid hkid6
          have cH := fun (W : World) (v : Value) (m : List Bd) (hb : Below w4.heap.size w4 W) (hm : Binds (fun _ => True) W v m) => cH w4 hB4 hcl1 W (.slice p7 cj.l[1].l.length c7) v m hb (hkid6.below hb) hm
          have HB4 := Lib.hid hB4
          have HR2 := Lib.hid hrest2
          obtain ⟨a0, a1, a2, a3, a4⟩ := hn4
          obtain ⟨b0, b1, b2, b3, b4⟩ := hnode5
          obtain ⟨f0, f1, f2, f3, f4⟩ := hni4
          simp only [Nat.zero_add] at a1 a2 a3 a4 f1 f2 f3 f4
          simp only [Nat.zero_mul, Nat.add_zero] at b0 b1 b2 b3 b4
          clear hrest2 hck4 hkid5 hkid6 hnode6 g0 g1 hki4
          generalize cj.l[0] = y0 at *
          generalize cj.l[1] = y1 at *
          have hS : ∀ W : World, Below w4.heap.size w4 W → W.cell? ⟨bn, 4, none⟩ = some (.slice (some ⟨g5, o5, none⟩) cj.l.length c5) ∧ W.cell? ⟨g5, o5, none⟩ = some (.int .i8 y0.k) ∧ W.cell? ⟨g5, o5 + 1, none⟩ = some (.int .i64 y0.n) ∧ W.cell? ⟨g5, o5 + 2, none⟩ = some (.string y0.s) ∧ W.cell? ⟨g5, o5 + 3, none⟩ = some (.string y0.t) ∧ W.cell? ⟨g5, o5 + 4, none⟩ = some (.slice p6 y0.l.length c6) ∧ W.cell? ⟨bi, 0, none⟩ = some (.int .i8 xt.k) ∧ W.cell? ⟨bi, 1, none⟩ = some (.int .i64 xt.n) ∧ W.cell? ⟨bi, 2, none⟩ = some (.string xt.s) ∧ W.cell? ⟨bi, 3, none⟩ = some (.string xt.t) ∧ W.cell? ⟨bi, 4, none⟩ = some (.slice p4 xt.l.length c4) := by
            intro W hb
            have f : ∀ g o u, w4.cell? ⟨g, o, none⟩ = some u → W.cell? ⟨g, o, none⟩ = some u := fun g o u h => (hb.cell (p := ⟨g, o, none⟩) (cell_block h)).trans h
            exact ⟨f _ _ _ a4, f _ _ _ b0, f _ _ _ b1, f _ _ _ b2, f _ _ _ b3, f _ _ _ b4, f _ _ _ f0, f _ _ _ f1, f _ _ _ f2, f _ _ _ f3, f _ _ _ f4⟩
          have hS0 := hS w4 (Below.refl _ _)
          clear a0 a1 a2 a3 a4 b0 b1 b2 b3 b4 f0 f1 f2 f3 f4
          go_region_held3 (fun W => W.cell? ⟨bn, 4, none⟩ = some (.slice (some ⟨g5, o5, none⟩) cj.l.length c5) ∧ W.cell? ⟨g5, o5, none⟩ = some (.int .i8 y0.k) ∧ W.cell? ⟨g5, o5 + 1, none⟩ = some (.int .i64 y0.n) ∧ W.cell? ⟨g5, o5 + 2, none⟩ = some (.string y0.s) ∧ W.cell? ⟨g5, o5 + 3, none⟩ = some (.string y0.t) ∧ W.cell? ⟨g5, o5 + 4, none⟩ = some (.slice p6 y0.l.length c6) ∧ W.cell? ⟨bi, 0, none⟩ = some (.int .i8 xt.k) ∧ W.cell? ⟨bi, 1, none⟩ = some (.int .i64 xt.n) ∧ W.cell? ⟨bi, 2, none⟩ = some (.string xt.s) ∧ W.cell? ⟨bi, 3, none⟩ = some (.string xt.t) ∧ W.cell? ⟨bi, 4, none⟩ = some (.slice p4 xt.l.length c4)) (first | exact hS0 | exact hS1) (first
            | (go_at_call 81; refine cMt.mono ?_; rintro e w9 ⟨v9, l9, ok9, er9, rfl, hl9, hb9, hq9⟩
               have hB9 := hbd.trans (hb9.mono hbd.size)
               have hS1 := hS w9 hB9
               obtain ⟨p9, c9, rfl⟩ := hl9.slice))
          have hn9 := HN6.out.keep (hB9.block _ HN6.out.lt)
          obtain ⟨e0, e1, e2, e3, e4⟩ := hn9
          simp only [Nat.one_mul] at e0 e1 e2 e3 e4
          have hbn := hS1.1
          have hc9 : (l9.length : Int) ≤ (c9 : Int) := by
            obtain ⟨p', c', he, h1, _⟩ := hl9
            cases he
            omega
          have HL9 := Lib.hid hl9
          have cH9 := cH w9 _ l9 hB9 hl9
          have hit := HIT.out l9 ok9 er9 hq9
          have HB39 := Lib.hid (hB34.trans (hB9.mono hB34.size))
          have HBW9 := Lib.hid (HB4.out.trans (hB9.mono HB4.out.size))
          have hlen9 : l9.length ≤ 2199023255552 := hl9.len
          clear hS hS0 hS1 hl9 cH cMt HIT hq9
          cases ok9
          case' false =>
            have hnx : takeC gH xt ns (cs.drop (j + 1)) (j + 1) = takeC gH xt ns cs 0 := by rw [← HR2.out, hit]; rfl
            have HNX := Lib.hid hnx
            clear hnx hit cH9
            go_wp2_with fail
            go_roundw
            case rel => exact ⟨j + 1, hlj, by go_num, rfl, rfl, rfl, rfl, HNX.out, HB39.out⟩
            case measure => simp [intOf]; omega
          generalize gH y1 l9 = qh at cH9 hit
          cases qh
          case' false =>
            have hnx : takeC gH xt ns (cs.drop (j + 1)) (j + 1) = takeC gH xt ns cs 0 := by rw [← HR2.out, hit]; rfl
            have HNX := Lib.hid hnx
            clear hnx hit
            go_wp2_with (go_at_call 18; refine cH9.mono ?_; rintro e w10 ⟨rfl, hb10⟩)
            go_roundw
            case rel => exact ⟨j + 1, hlj, by go_num, rfl, rfl, rfl, rfl, HNX.out, HB39.out.trans (hb10.mono HB39.out.size)⟩
            case measure => simp [intOf]; omega
          have hfin : selS gB gH l cs ns = ((k : Int), (j : Int), l9, true, 0) := by
            have h1 : takeC gH xt ns cs 0 = some (j, l9) := by rw [← HR2.out, hit]; rfl
            rw [HN.out, ← HREST.out, h1]
          have HFIN := Lib.hid hfin
          clear hfin hit
          go_upto_region 15 with (go_at_call 18; refine cH9.mono ?_; rintro e w10 ⟨rfl, hb10⟩)
          go_quiet (fail)
          go_wp2_with fail
          try rw [Exit.noGoto_ret]
          refine bodyPost_ret (results_tmp5 Tryz.results34 _ _ _) rfl ?_
          have hB10 := HBW9.out.trans (hb10.mono HBW9.out.size)
          have hl10 : Binds (fun _ => True) w10 (.slice p9 l9.length l9.length) l9 := by
            obtain ⟨p', c', he, h1, h2, h3, h4⟩ := HL9.out.under hb10
            cases he
            exact ⟨_, _, rfl, Nat.le_refl _, h2, h3, fun e => by have := h4 e; omega⟩
          exact ⟨_, l9, _, _, true, 0, rfl, hl10.under (below_drewN (Below.refl _ _) _), below_drewN hB10 _, HFIN.out⟩
        · rw [List.drop_eq_nil_of_le (by omega), takeC] at hrest2
          have hR := HREST.out
          rw [← hrest2] at hR
          have HR := Lib.hid hR
          clear hR hrest2 HREST
          go_wp2
          go_roundw
          case rel => exact ⟨k + 1, hlt, by go_num, rfl, rfl, rfl, rfl, HR.out, hBy⟩
          case measure => simp [intOf]; omega
    · rw [List.drop_eq_nil_of_le (by omega), takeI] at hrest
      have HN2 : Hid (selS gB gH l cs ns = (0, 0, ns, false, 0)) := by unfold Hid; rw [HN.out, ← hrest]
      clear hrest
      go_wp2
      refine bodyPost_ret (results_tmp5 Tryz.results34 _ _ _) rfl ?_
      exact ⟨_, ns, 0, 0, false, 0, rfl, H.out.hn.under hbr, hbr, HN2.out⟩
end Go.Proofs.YtlhobpknflobgaaGreatDoor
