/-
  match.All, match.Match. Conditions: the trees lie as 'Kids' says, the names as 'Binds'; at most 200 patterns.
  match.Match; pleachref10.Same. Conditions: the trees lie as 'TrV' says, the names as 'Binds'.
-/
import Derived.Test.YtlhobpknflobgaaGreatDoorS15
namespace Go.Proofs.YtlhobpknflobgaaGreatDoor
open Go.RowKit

def badAll (p t : List Tr) (l : List Bd) : Bool := ((p.length : Int) != (t.length : Int)) || (!mayB l || (p.any (fun x => !patB x) || t.any fun x => !(chkT x == 0)))
/-- What All tells. -/
def allS (p t : List Tr) (l : List Bd) : List Bd × Bool × Int := if badAll p t l then ([], false, 2) else match Tr.go.gol p t l with
  | some l' => (l', true, 0)
  | none => (l, false, 0)
def AllPost (F : Nat → Prop) (q : List Bd × Bool × Int) (w : World) (e : Ending) (w' : World) : Prop :=
  ∃ v' l' ok er, e = .returned (.tuple #[v', .bool ok, .int .i64 er]) ∧ Binds F w' v' l' ∧ Below w.heap.size w w' ∧ q = (l', ok, er)
theorem pat_nn {p : Tr} (h : patB p = true) : p.nn ≤ 4096 := by
  unfold patB fitsB at h
  simp only [Bool.and_eq_true, decide_eq_true_eq] at h
  have := sz_nn p 4097 (by omega) (by omega)
  omega
theorem patl_nn : ∀ {l : List Tr}, l.any (fun x => !patB x) = false → Tr.nn.nnl l ≤ l.length * 4096
  | [], _ => by simp [Tr.nn.nnl]
  | x :: r, h => by
    simp only [List.any_cons, Bool.or_eq_false_iff] at h
    have h1 := pat_nn (p := x) (by simpa using h.1)
    have h2 := patl_nn h.2
    rw [Tr.nn.nnl, List.length_cons]
    omega
theorem any_not {α : Type} {P : α → Bool} {l : List α} (h : l.any (fun x => !P x) = false) : ∀ x ∈ l, P x = true := by
  intro x hx
  have := List.any_eq_false.1 h x hx
  simpa using this
/-- What All is given. -/
structure AllHyp (F : Nat → Prop) (p t : List Tr) (l : List Bd) (w : World) (pv tv v : Value) : Prop where
  lt : Letters w
  fr : ∀ k, w.heap.size ≤ k → F k
  hp : Kids F w pv p
  ht : Kids F w tv t
  hl : Binds F w v l
  len : p.length ≤ 200
def ARel (F : Nat → Prop) (p t : List Tr) (l : List Bd) (w : World) (v i : Value) (wr : World) : Prop :=
  ∃ k : Nat, k ≤ p.length ∧ i = .int .i64 k ∧ ∃ l', Binds F wr v l' ∧ Below w.heap.size w wr ∧ (∀ b ∈ l', chkT b.t = 0) ∧ l'.length + Tr.nn.nnl (p.drop k) ≤ l.length + Tr.nn.nnl p ∧ Tr.go.gol (p.drop k) (t.drop k) l' = Tr.go.gol p t l

set_option maxHeartbeats 8000000 in
set_option maxRecDepth 100000 in
theorem mall_any {F : Nat → Prop} {p t : List Tr} {l : List Bd} {w : World} {pv tv v : Value} (h : AllHyp F p t l w pv tv v) :
    Calls Tryz.prog 128 #[pv, tv, v] w (AllPost F (allS p t l) w) := by
  have hlenp : p.length ≤ 2199023255552 := h.hp.len
  have hlent : t.length ≤ 2199023255552 := h.ht.len
  obtain ⟨p1, c1, rfl⟩ := h.hp.slice
  obtain ⟨p2, c2, rfl⟩ := h.ht.slice
  obtain ⟨pl, cl, rfl⟩ := h.hl.slice
  have cM := bmay_any h.lt h.hl
  have cN := fun (W : World) (hb : Below w.heap.size w W) => containsN_any (P := fun x => !patB x) (h.hp.under hb) fun x _ W' sv hb' hx => all1_any ((h.lt.under hb).under hb') hx
  have cT := fun (W : World) (hb : Below w.heap.size w W) => containsT_any (P := fun x => !(chkT x == 0)) (h.ht.under hb) fun x _ W' sv hb' hx => all2_any ((h.lt.under hb).under hb') hx
  have hnil : ∀ W, Below w.heap.size w W → badAll p t l = true → AllPost F (allS p t l) w (.returned (.tuple #[.slice none 0 0, .bool false, .int .i64 2])) W := fun W hb hbad =>
    ⟨_, [], _, _, rfl, Binds.nil F W, hb, by unfold allS; rw [if_pos hbad]⟩
  have H := Lib.hid h
  have hbad : badAll p t l = (((p.length : Int) != (t.length : Int)) || (!mayB l || (p.any (fun x => !patB x) || t.any fun x => !(chkT x == 0)))) := rfl
  clear h
  cases e1 : ((p.length : Int) != (t.length : Int))
  rotate_left 1
  · have HN := Lib.hid hnil
    have HB : Hid (badAll p t l = true) := by unfold Hid; rw [hbad, e1]; rfl
    clear hnil hbad cM cN cT
    go_enter Tryz.func128, Tryz.ntmps128
    go_wp2_with fail
    go_ret3
    exact HN.out _ (Below.refl _ _) HB.out
  cases e2 : mayB l
  · rw [e2] at cM
    have HN := Lib.hid hnil
    have HB : Hid (badAll p t l = true) := by unfold Hid; rw [hbad, e1, e2]; rfl
    clear hnil hbad cN cT e2
    go_enter Tryz.func128, Tryz.ntmps128
    go_wp2_with (first | (go_at_call 80; refine cM.mono ?_; rintro e w5 ⟨rfl, hb5⟩))
    go_ret3
    exact HN.out _ hb5 HB.out
  rw [e2] at cM
  cases e3 : p.any (fun x => !patB x)
  rotate_left 1
  · have HN := Lib.hid hnil
    have HB : Hid (badAll p t l = true) := by unfold Hid; rw [hbad, e1, e2, e3]; rfl
    rw [e3] at cN
    clear hnil hbad cT e2 e3
    go_enter Tryz.func128, Tryz.ntmps128
    go_wp2_with (first
      | (go_at_call 80; refine cM.mono ?_; rintro e w5 ⟨rfl, hb5⟩)
      | (go_at_call 165; refine (cN _ hb5).mono ?_; rintro e w6 ⟨rfl, hb6⟩; have hB6 := hb5.trans (hb6.mono hb5.size)))
    go_ret3
    exact HN.out _ hB6 HB.out
  rw [e3] at cN
  cases e4 : t.any (fun x => !(chkT x == 0))
  rotate_left 1
  · have HN := Lib.hid hnil
    have HB : Hid (badAll p t l = true) := by unfold Hid; rw [hbad, e1, e2, e3, e4]; rfl
    rw [e4] at cT
    clear hnil hbad e2 e3 e4
    go_enter Tryz.func128, Tryz.ntmps128
    go_wp2_with (first
      | (go_at_call 80; refine cM.mono ?_; rintro e w5 ⟨rfl, hb5⟩)
      | (go_at_call 165; refine (cN _ hb5).mono ?_; rintro e w6 ⟨rfl, hb6⟩; have hB6 := hb5.trans (hb6.mono hb5.size))
      | (go_at_call 167; refine (cT _ hB6).mono ?_; rintro e w7 ⟨rfl, hb7⟩; have hB7 := hB6.trans (hb7.mono hB6.size)))
    go_ret3
    exact HN.out _ hB7 HB.out
  rw [e4] at cT
  have hll : p.length = t.length := by
    have : ((p.length : Int) != (t.length : Int)) = false := e1
    simp at this; omega
  have hgood : allS p t l = match Tr.go.gol p t l with
      | some l' => (l', true, 0)
      | none => (l, false, 0) := by unfold allS; rw [hbad, e1, e2, e3, e4]; rfl
  have hpats := any_not e3
  have hchks : ∀ x ∈ t, chkT x = 0 := fun x hx => by have := any_not (P := fun x => chkT x == 0) e4 x hx; simpa using this
  have hmay : l.length ≤ 64 ∧ ∀ b ∈ l, chkT b.t = 0 := by
    unfold mayB at e2
    simp only [Bool.and_eq_true, decide_eq_true_eq, Bool.not_eq_true'] at e2
    refine ⟨e2.1, fun b hb => ?_⟩
    have := List.any_eq_false.1 e2.2 b hb
    unfold badB at this
    simp at this
    exact this.2.2
  have hnn : l.length + Tr.nn.nnl p ≤ 1048576 := by have := patl_nn e3; have := H.out.len; omega
  have HP := Lib.hid hpats
  have HK := Lib.hid hchks
  have HM := Lib.hid hmay
  have HNN := Lib.hid hnn
  have HG := Lib.hid hgood
  have HLL := Lib.hid hll
  clear hpats hchks hmay hnn hgood hll hbad hnil e2 e3 e4
  go_enter Tryz.func128, Tryz.ntmps128
  go_wp2_with (first
    | (go_at_call 80; refine cM.mono ?_; rintro e w5 ⟨rfl, hb5⟩)
    | (go_at_call 165; refine (cN _ hb5).mono ?_; rintro e w6 ⟨rfl, hb6⟩; have hB6 := hb5.trans (hb6.mono hb5.size))
    | (go_at_call 167; refine (cT _ hB6).mono ?_; rintro e w7 ⟨rfl, hb7⟩; have hB7 := hB6.trans (hb7.mono hB6.size)))
  clear cM cN cT hb5 hb6 hB6 hb7 e1
  go_loopw [10, 35] (fun v2 i wr => ARel F p t l w v2 i wr) (fun _ i _ => p.length - (intOf i).toNat)
  case atStart => exact ⟨0, Nat.zero_le _, rfl, l, H.out.hl.under hB7, hB7, HM.out.2, Nat.le_refl _, rfl⟩
  case round =>
    obtain ⟨k, hk, rfl, l', hl', hB, hcl, hnl, hgo⟩ := hrel
    have HCL := Lib.hid hcl
    have HNL := Lib.hid hnl
    have HGO := Lib.hid hgo
    clear hcl hnl hgo
    obtain ⟨pl2, cl2, rfl⟩ := hl'.slice
    by_cases hlt : k < p.length
    · have hltt : k < t.length := by have := HLL.out; omega
      obtain ⟨g, o, qv, rfl, _, hnode, hkid⟩ := (H.out.hp.under hB).at hlt
      obtain ⟨g2, o2, yv, rfl, _, hnodex, hkidx⟩ := (H.out.ht.under hB).at hltt
      obtain ⟨p3, c3, rfl⟩ := hkid.kids.slice
      obtain ⟨p4, c4, rfl⟩ := hkidx.kids.slice
      have hd : Below wr.heap.size wr wr.drew := below_drewN (Below.refl _ _) 1
      have hBd := hB.trans (hd.mono hB.size)
      have hlen1 : l'.length + p[k].nn ≤ 1048576 := by
        have h1 := HNL.out
        rw [nnl_drop hlt] at h1
        have := HNN.out
        omega
      have cK := mone_any p[k] t[k] l' wr.drew _ _ _ ⟨H.out.lt.under hBd, fun k hk => H.out.fr k (by have := hBd.size; omega), hkid.below hd, hkidx.below hd, hl'.under hd, by
        have := HP.out p[k] (List.getElem_mem hlt)
        unfold patB at this
        simp only [Bool.and_eq_true] at this
        exact this.2, HK.out _ (List.getElem_mem hltt), HCL.out, hlen1⟩
      have hmv : ∀ W : World, Below wr.heap.size wr W → NodeAt W g (o + k * 5) p[k] (.slice p3 p[k].l.length c3) ∧ NodeAt W g2 (o2 + k * 5) t[k] (.slice p4 t[k].l.length c4) := fun W hb => ⟨hnode.keep (hb.block g hnode.lt), hnodex.keep (hb.block g2 hnodex.lt)⟩
      have hS : ∀ W : World, Below wr.heap.size wr W → W.cell? ⟨g, o + k * 5, none⟩ = some (.int .i8 p[k].k) ∧ W.cell? ⟨g, o + k * 5 + 1, none⟩ = some (.int .i64 p[k].n) ∧ W.cell? ⟨g, o + k * 5 + 2, none⟩ = some (.string p[k].s) ∧ W.cell? ⟨g, o + k * 5 + 3, none⟩ = some (.string p[k].t) ∧ W.cell? ⟨g, o + k * 5 + 4, none⟩ = some (.slice p3 p[k].l.length c3) ∧
          W.cell? ⟨g2, o2 + k * 5, none⟩ = some (.int .i8 t[k].k) ∧ W.cell? ⟨g2, o2 + k * 5 + 1, none⟩ = some (.int .i64 t[k].n) ∧ W.cell? ⟨g2, o2 + k * 5 + 2, none⟩ = some (.string t[k].s) ∧ W.cell? ⟨g2, o2 + k * 5 + 3, none⟩ = some (.string t[k].t) ∧ W.cell? ⟨g2, o2 + k * 5 + 4, none⟩ = some (.slice p4 t[k].l.length c4) := by
        intro W hb
        obtain ⟨⟨x0, x1, x2, x3, x4⟩, ⟨y0, y1, y2, y3, y4⟩⟩ := hmv W hb
        exact ⟨x0, x1, x2, x3, x4, y0, y1, y2, y3, y4⟩
      have hS0 := hS wr (Below.refl _ _)
      clear hnode hnodex hkid hkidx hl' hmv hlen1
      go_upto_region 8 with fail
      go_region_held3 (fun W => W.cell? ⟨g, o + k * 5, none⟩ = some (.int .i8 p[k].k) ∧ W.cell? ⟨g, o + k * 5 + 1, none⟩ = some (.int .i64 p[k].n) ∧ W.cell? ⟨g, o + k * 5 + 2, none⟩ = some (.string p[k].s) ∧ W.cell? ⟨g, o + k * 5 + 3, none⟩ = some (.string p[k].t) ∧ W.cell? ⟨g, o + k * 5 + 4, none⟩ = some (.slice p3 p[k].l.length c3) ∧
          W.cell? ⟨g2, o2 + k * 5, none⟩ = some (.int .i8 t[k].k) ∧ W.cell? ⟨g2, o2 + k * 5 + 1, none⟩ = some (.int .i64 t[k].n) ∧ W.cell? ⟨g2, o2 + k * 5 + 2, none⟩ = some (.string t[k].s) ∧ W.cell? ⟨g2, o2 + k * 5 + 3, none⟩ = some (.string t[k].t) ∧ W.cell? ⟨g2, o2 + k * 5 + 4, none⟩ = some (.slice p4 t[k].l.length c4)) (first | exact hS0 | exact hS1) (first
        | (go_at_call 169; refine cK.mono ?_; rintro e w9 ⟨v9, l9, ok9, rfl, hl9, hb9, hc9, hn9, hr9⟩; obtain ⟨p9, c9, rfl⟩ := hl9.slice; have hS1 := hS _ (hd.trans (hb9.mono hd.size))))
      have hB9 := hBd.trans (hb9.mono hBd.size)
      have hnext := HGO.out
      rw [gol_take hlt hltt, hr9] at hnext
      cases ok9
      · have HF : Hid (allS p t l = (l, false, 0)) := by unfold Hid; rw [HG.out, ← hnext]; rfl
        clear hnext
        go_wp2
        go_ret3
        exact ⟨_, l, _, _, rfl, H.out.hl.under hB9, hB9, HF.out⟩
      · have HF := Lib.hid (show Tr.go.gol (p.drop (k + 1)) (t.drop (k + 1)) l9 = Tr.go.gol p t l from hnext)
        clear hnext
        go_wp2
        go_roundw
        case rel =>
          refine ⟨k + 1, hlt, by go_num, l9, hl9, hB9, hc9, ?_, HF.out⟩
          have h1 := HNL.out
          rw [nnl_drop hlt] at h1
          omega
        case measure => simp [intOf]; omega
    · have hfin := HGO.out
      rw [gol_end (by omega)] at hfin
      have HF : Hid (allS p t l = (l', true, 0)) := by unfold Hid; rw [HG.out, ← hfin]
      clear hfin
      go_wp2
      go_ret3
      exact ⟨_, l', _, _, rfl, hl', hB, HF.out⟩
end Go.Proofs.YtlhobpknflobgaaGreatDoor
namespace Go.Proofs.YtlhobpknflobgaaGreatDoor
open Go.RowKit

theorem kids_one {F : Nat → Prop} {w : World} {g : Nat} {x : Tr} {sv : Value} (hn : NodeAt w g 0 x sv) (hx : TrV F w x sv) (hg : F g) : Kids F w (.slice (some ⟨g, 0, none⟩) 1 1) [x] :=
  .mk _ 1 [x] (fun _ => sv) (Nat.le_refl _) (by simp [BL]) (fun i hi => by have : i = 0 := by simpa using hi
                                                                           subst this; exact hx.wf)
    (fun i hi => by have : i = 0 := by simpa using hi
                    subst this; exact ⟨g, 0, rfl, hg, hn⟩)
    (fun i hi => by have : i = 0 := by simpa using hi
                    subst this; exact hx.kids)
structure MatchHyp (F : Nat → Prop) (p x : Tr) (l : List Bd) (w : World) (pv xv v : Value) : Prop where
  lt : Letters w
  fr : ∀ k, w.heap.size ≤ k → F k
  hp : TrV F w p pv
  hx : TrV F w x xv
  hl : Binds F w v l
theorem AllPost.of {F : Nat → Prop} {q : List Bd × Bool × Int} {w w1 w' : World} {e : Ending} (hb : Below w.heap.size w w1) (h : AllPost F q w1 e w') : AllPost F q w e w' := by
  obtain ⟨v', l', ok, er, h1, h2, h3, h4⟩ := h
  exact ⟨v', l', ok, er, h1, h2, hb.trans (h3.mono hb.size), h4⟩

set_option maxHeartbeats 2000000 in
set_option maxRecDepth 100000 in
theorem mmatch_any {F : Nat → Prop} {p x : Tr} {l : List Bd} {w : World} {pv xv v : Value} (h : MatchHyp F p x l w pv xv v) :
    Calls Tryz.prog 81 #[.agg #[.int .i8 p.k, .int .i64 p.n, .string p.s, .string p.t, pv], .agg #[.int .i8 x.k, .int .i64 x.n, .string x.s, .string x.t, xv], v] w (AllPost F (allS [p] [x] l) w) := by
  obtain ⟨p1, c1, rfl⟩ := h.hp.kids.slice
  obtain ⟨p2, c2, rfl⟩ := h.hx.kids.slice
  obtain ⟨pl, cl, rfl⟩ := h.hl.slice
  obtain ⟨n1, n2, hb1, hz1⟩ := two_new w (.cells #[.int .i8 p.k, .int .i64 p.n, .string p.s, .string p.t, .slice p1 p.l.length c1] 25) (.cells #[.int .i8 x.k, .int .i64 x.n, .string x.s, .string x.t, .slice p2 x.l.length c2] 29)
  obtain ⟨a0, a1, a2, a3, a4⟩ := node_heap n1
  obtain ⟨b0, b1, b2, b3, b4⟩ := node_heap n2
  simp only [Nat.zero_add] at a1 a2 a3 a4 b1 b2 b3 b4
  clear n1 n2
  have H := Lib.hid h
  clear h
  go_enter Tryz.func81, Tryz.ntmps81
  go_upto_region 1 with fail
  generalize (w.alloc (.cells #[.int .i8 p.k, .int .i64 p.n, .string p.s, .string p.t, .slice p1 p.l.length c1] 25)).alloc (.cells #[.int .i8 x.k, .int .i64 x.n, .string x.s, .string x.t, .slice p2 x.l.length c2] 29) = w1 at hb1 hz1 a0 a1 a2 a3 a4 b0 b1 b2 b3 b4 ⊢
  obtain ⟨n3, n4, hb3, hz3⟩ := two_new w1 (.cells #[.int .i8 p.k, .int .i64 p.n, .string p.s, .string p.t, .slice p1 p.l.length c1] 25) (.cells #[.int .i8 x.k, .int .i64 x.n, .string x.s, .string x.t, .slice p2 x.l.length c2] 29)
  have hB := hb1.trans (hb3.mono hb1.size)
  have hp3 := kids_one (F := F) (node_heap n3) (H.out.hp.below hB) (H.out.fr _ (by omega))
  have hx3 := kids_one (F := F) (node_heap n4) (H.out.hx.below hB) (H.out.fr _ (by omega))
  have cA := mall_any (F := F) (p := [p]) (t := [x]) (l := l) ⟨H.out.lt.under hB, fun k hk => H.out.fr k (by have := hB.size; omega), hp3, hx3, H.out.hl.under hB, by simp⟩
  have hb31 := alloc_below w1 (.cells #[.int .i8 p.k, .int .i64 p.n, .string p.s, .string p.t, .slice p1 p.l.length c1] 25)
  have f : ∀ o u, w1.cell? ⟨w.heap.size + 1, o, none⟩ = some u → (w1.alloc (.cells #[.int .i8 p.k, .int .i64 p.n, .string p.s, .string p.t, .slice p1 p.l.length c1] 25)).cell? ⟨w.heap.size + 1, o, none⟩ = some u := fun o u h => (hb31.cell (p := ⟨w.heap.size + 1, o, none⟩) (cell_block h)).trans h
  have b0 := f _ _ b0
  have b1 := f _ _ b1
  have b2 := f _ _ b2
  have b3 := f _ _ b3
  have b4 := f _ _ b4
  clear hp3 hx3 n3 n4 hz1 hz3 f
  go_wp2_with (go_at_call 128; refine cA.mono ?_; rintro e w5 ⟨v5, l5, ok5, er5, rfl, hl5, hb5, hq5⟩; obtain ⟨p5, c5, rfl⟩ := hl5.slice)
  go_ret3
  exact ⟨_, l5, ok5, er5, rfl, hl5, hB.trans (hb5.mono hB.size), hq5⟩

/-- Are two rows of binds the same? -/
def sameB : List Bd → List Bd → Bool
  | [], [] => true
  | a :: r, b :: q => (a.s.toList == b.s.toList && a.t.same b.t) && sameB r q
  | _, _ => false
theorem sameB_drop {l m : List Bd} {k : Nat} (h1 : k < l.length) (h2 : k < m.length) : sameB (l.drop k) (m.drop k) = ((l[k].s.toList == m[k].s.toList && l[k].t.same m[k].t) && sameB (l.drop (k + 1)) (m.drop (k + 1))) := by
  rw [List.drop_eq_getElem_cons h1, List.drop_eq_getElem_cons h2, sameB]
theorem sameB_len : ∀ {l m : List Bd}, sameB l m = true → l.length = m.length
  | [], [], _ => rfl
  | a :: r, b :: q, h => by
    rw [sameB, Bool.and_eq_true] at h
    simp [sameB_len h.2]
  | [], _ :: _, h => by simp [sameB] at h
  | _ :: _, [], h => by simp [sameB] at h

set_option maxHeartbeats 4000000 in
set_option maxRecDepth 100000 in
theorem bsame_any {F G : Nat → Prop} {l m : List Bd} {w : World} {v u : Value} (hl : Binds F w v l) (hm : Binds G w u m) :
    Calls Tryz.prog 36 #[v, u] w fun e w' => e = .returned (.bool (sameB l m)) ∧ Below w.heap.size w w' := by
  have hlen : l.length ≤ 2199023255552 := hl.len
  have hlen2 : m.length ≤ 2199023255552 := hm.len
  obtain ⟨p, c, rfl⟩ := hl.slice
  obtain ⟨p2, c2, rfl⟩ := hm.slice
  have HL := Lib.hid hl
  have HM := Lib.hid hm
  clear hl hm
  cases e1 : ((l.length : Int) != (m.length : Int))
  rotate_left 1
  · have hs : sameB l m = false := by
      cases h : sameB l m
      · rfl
      · have := sameB_len h; simp at e1; omega
    have HS := Lib.hid hs
    clear hs
    go_enter Tryz.func36, Tryz.ntmps36
    go_wp2_with fail
    go_ret
    exact ⟨by rw [HS.out]; rfl, Below.refl _ _⟩
  have hll : l.length = m.length := by simp at e1; omega
  have HLL := Lib.hid hll
  clear hll
  go_enter Tryz.func36, Tryz.ntmps36
  go_wp2_with fail
  clear e1
  go_loopw [5] (fun i wr => ∃ k : Nat, k ≤ l.length ∧ i = .int .i64 k ∧ sameB (l.drop k) (m.drop k) = sameB l m ∧ Below w.heap.size w wr) (fun i _ => l.length - (intOf i).toNat)
  case atStart => exact ⟨0, Nat.zero_le _, rfl, rfl, Below.refl _ _⟩
  case round =>
    obtain ⟨k, hk, rfl, hrest, hbr⟩ := hrel
    by_cases hlt : k < l.length
    · have hlt2 : k < m.length := by have := HLL.out; omega
      obtain ⟨g, o, kv, rfl, _, hs0, hsz, hnode, hkid⟩ := (HL.out.under hbr).at hlt
      obtain ⟨g2, o2, kv2, rfl, _, hs2, hsz2, hnode2, hkid2⟩ := (HM.out.under hbr).at hlt2
      obtain ⟨p3, c3, rfl⟩ := hkid.kids.slice
      obtain ⟨p4, c4, rfl⟩ := hkid2.kids.slice
      rw [sameB_drop hlt hlt2] at hrest
      have hd : Below wr.heap.size wr wr.drew := below_drewN (Below.refl _ _) 1
      have cS := rsame_any l[k].t m[k].t wr.drew _ _ (hkid.below hd) (hkid2.below hd)
      clear hkid hkid2
      cases eS : (l[k].s.toList == m[k].s.toList)
      · rw [eS] at hrest
        have HR := Lib.hid (show sameB l m = false from hrest.symm)
        obtain ⟨a0, a1, a2, a3, a4⟩ := hnode
        obtain ⟨b0, b1, b2, b3, b4⟩ := hnode2
        clear hrest cS
        go_upto_region 6 with fail
        go_quiet (fail)
        go_wp2
        go_ret
        exact ⟨by rw [HR.out]; rfl, by first | exact hbr.drew | exact below_drewN hbr _⟩
      · rw [eS] at hrest
        have hS : ∀ W : World, Below wr.heap.size wr W → W.cell? ⟨g, o + k * 6, none⟩ = some (.string l[k].s) ∧ W.cell? ⟨g2, o2 + k * 6, none⟩ = some (.string m[k].s) ∧
            W.cell? ⟨g, o + k * 6 + 1, none⟩ = some (.int .i8 l[k].t.k) ∧ W.cell? ⟨g, o + k * 6 + 1 + 1, none⟩ = some (.int .i64 l[k].t.n) ∧ W.cell? ⟨g, o + k * 6 + 1 + 2, none⟩ = some (.string l[k].t.s) ∧ W.cell? ⟨g, o + k * 6 + 1 + 3, none⟩ = some (.string l[k].t.t) ∧ W.cell? ⟨g, o + k * 6 + 1 + 4, none⟩ = some (.slice p3 l[k].t.l.length c3) ∧
            W.cell? ⟨g2, o2 + k * 6 + 1, none⟩ = some (.int .i8 m[k].t.k) ∧ W.cell? ⟨g2, o2 + k * 6 + 1 + 1, none⟩ = some (.int .i64 m[k].t.n) ∧ W.cell? ⟨g2, o2 + k * 6 + 1 + 2, none⟩ = some (.string m[k].t.s) ∧ W.cell? ⟨g2, o2 + k * 6 + 1 + 3, none⟩ = some (.string m[k].t.t) ∧ W.cell? ⟨g2, o2 + k * 6 + 1 + 4, none⟩ = some (.slice p4 m[k].t.l.length c4) := by
          intro W hb
          obtain ⟨x0, x1, x2, x3, x4⟩ := hnode.keep (hb.block g hnode.lt)
          obtain ⟨y0, y1, y2, y3, y4⟩ := hnode2.keep (hb.block g2 hnode2.lt)
          exact ⟨(hb.cell (p := ⟨g, o + k * 6, none⟩) (cell_block hs0)).trans hs0, (hb.cell (p := ⟨g2, o2 + k * 6, none⟩) (cell_block hs2)).trans hs2, x0, x1, x2, x3, x4, y0, y1, y2, y3, y4⟩
        have hS0 := hS wr (Below.refl _ _)
        clear hs0 hs2 hnode hnode2
        generalize l[k].t.same m[k].t = ss at cS hrest
        have HR := Lib.hid hrest
        clear hrest
        go_upto_region 6 with fail
        go_region_held3 (fun W => W.cell? ⟨g, o + k * 6, none⟩ = some (.string l[k].s) ∧ W.cell? ⟨g2, o2 + k * 6, none⟩ = some (.string m[k].s) ∧
            W.cell? ⟨g, o + k * 6 + 1, none⟩ = some (.int .i8 l[k].t.k) ∧ W.cell? ⟨g, o + k * 6 + 1 + 1, none⟩ = some (.int .i64 l[k].t.n) ∧ W.cell? ⟨g, o + k * 6 + 1 + 2, none⟩ = some (.string l[k].t.s) ∧ W.cell? ⟨g, o + k * 6 + 1 + 3, none⟩ = some (.string l[k].t.t) ∧ W.cell? ⟨g, o + k * 6 + 1 + 4, none⟩ = some (.slice p3 l[k].t.l.length c3) ∧
            W.cell? ⟨g2, o2 + k * 6 + 1, none⟩ = some (.int .i8 m[k].t.k) ∧ W.cell? ⟨g2, o2 + k * 6 + 1 + 1, none⟩ = some (.int .i64 m[k].t.n) ∧ W.cell? ⟨g2, o2 + k * 6 + 1 + 2, none⟩ = some (.string m[k].t.s) ∧ W.cell? ⟨g2, o2 + k * 6 + 1 + 3, none⟩ = some (.string m[k].t.t) ∧ W.cell? ⟨g2, o2 + k * 6 + 1 + 4, none⟩ = some (.slice p4 m[k].t.l.length c4)) (first | exact hS0 | exact hS1) (first
          | (go_at_call 25; refine cS.mono ?_; rintro e w9 ⟨rfl, hb9⟩; have hS1 := hS _ (hd.trans (hb9.mono hd.size))))
        have hB9 := hbr.trans ((hd.trans (hb9.mono hd.size)).mono hbr.size)
        cases ss
        · have HF := Lib.hid (show sameB l m = false from HR.out.symm)
          go_wp2
          go_ret
          exact ⟨by rw [HF.out]; rfl, hB9⟩
        · have HF := Lib.hid (show sameB (l.drop (k + 1)) (m.drop (k + 1)) = sameB l m from HR.out)
          go_wp2
          go_roundw
          case rel => exact ⟨k + 1, hlt, by go_num, HF.out, hB9⟩
          case measure => simp [intOf]; omega
    · rw [List.drop_eq_nil_of_le (by omega), List.drop_eq_nil_of_le (by have := HLL.out; omega)] at hrest
      have HR := Lib.hid (show sameB l m = true from hrest.symm)
      clear hrest
      go_wp2
      go_ret
      exact ⟨by rw [HR.out]; rfl, hbr⟩
end Go.Proofs.YtlhobpknflobgaaGreatDoor
