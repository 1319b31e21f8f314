/-
  match.All, match.Match. Conditions: the trees lie as 'Kids' says, the names as 'Binds'; at most 200 patterns.
-/
import Derived.Test.YtjnmdbfijdnaiaaGreatDoorMt4
namespace Go.Proofs.YtjnmdbfijdnaiaaGreatDoor
open Go.RowKit

def badAll (p t : List Tr) (l : List Bd) : Bool := ((p.length : Int) != (t.length : Int)) || (!mayB l || (p.any (fun x => !patB x) || t.any fun x => !(chkT x == 0)))
/-- What All tells. -/
def allS (p t : List Tr) (l : List Bd) : List Bd × Bool × Int := if badAll p t l then ([], false, 2) else match Tr.go.gol p t l with
  | some l' => (l', true, 0)
  | none => (l, false, 0)
def AllPost (F : Nat → Prop) (q : List Bd × Bool × Int) (w : World) (e : Ending) (w' : World) : Prop :=
  ∃ v' l' ok er, e = .returned (.tuple #[v', .bool ok, .int .i64 er]) ∧ Binds F w' v' l' ∧ Below w.heap.size w w' ∧ q = (l', ok, er)
theorem pat_nn {p : Tr} (h : patB p = true) : p.nn ≤ 4096 := by
  unfold patB fitsB at h
  simp only [Bool.and_eq_true, decide_eq_true_eq] at h
  have := sz_nn p 4097 (by omega) (by omega)
  omega
theorem patl_nn : ∀ {l : List Tr}, l.any (fun x => !patB x) = false → Tr.nn.nnl l ≤ l.length * 4096
  | [], _ => by simp [Tr.nn.nnl]
  | x :: r, h => by
    simp only [List.any_cons, Bool.or_eq_false_iff] at h
    have h1 := pat_nn (p := x) (by simpa using h.1)
    have h2 := patl_nn h.2
    rw [Tr.nn.nnl, List.length_cons]
    omega
theorem any_not {α : Type} {P : α → Bool} {l : List α} (h : l.any (fun x => !P x) = false) : ∀ x ∈ l, P x = true := by
  intro x hx
  have := List.any_eq_false.1 h x hx
  simpa using this
/-- What All is given. -/
structure AllHyp (F : Nat → Prop) (p t : List Tr) (l : List Bd) (w : World) (pv tv v : Value) : Prop where
  lt : Letters w
  fr : ∀ k, w.heap.size ≤ k → F k
  hp : Kids F w pv p
  ht : Kids F w tv t
  hl : Binds F w v l
  len : p.length ≤ 200
def ARel (F : Nat → Prop) (p t : List Tr) (l : List Bd) (w : World) (v i : Value) (wr : World) : Prop :=
  ∃ k : Nat, k ≤ p.length ∧ i = .int .i64 k ∧ ∃ l', Binds F wr v l' ∧ Below w.heap.size w wr ∧ (∀ b ∈ l', chkT b.t = 0) ∧ l'.length + Tr.nn.nnl (p.drop k) ≤ l.length + Tr.nn.nnl p ∧ Tr.go.gol (p.drop k) (t.drop k) l' = Tr.go.gol p t l

set_option maxHeartbeats 8000000 in
set_option maxRecDepth 100000 in
theorem mall_any {F : Nat → Prop} {p t : List Tr} {l : List Bd} {w : World} {pv tv v : Value} (h : AllHyp F p t l w pv tv v) :
    Calls Tryz.prog 15 #[pv, tv, v] w (AllPost F (allS p t l) w) := by
  have hlenp : p.length ≤ 2199023255552 := h.hp.len
  have hlent : t.length ≤ 2199023255552 := h.ht.len
  obtain ⟨p1, c1, rfl⟩ := h.hp.slice
  obtain ⟨p2, c2, rfl⟩ := h.ht.slice
  obtain ⟨pl, cl, rfl⟩ := h.hl.slice
  have cM := bmay_any h.lt h.hl
  have cN := fun (W : World) (hb : Below w.heap.size w W) => containsN_any (P := fun x => !patB x) (h.hp.under hb) fun x _ W' sv hb' hx => all1_any ((h.lt.under hb).under hb') hx
  have cT := fun (W : World) (hb : Below w.heap.size w W) => containsT_any (P := fun x => !(chkT x == 0)) (h.ht.under hb) fun x _ W' sv hb' hx => all2_any ((h.lt.under hb).under hb') hx
  have hnil : ∀ W, Below w.heap.size w W → badAll p t l = true → AllPost F (allS p t l) w (.returned (.tuple #[.slice none 0 0, .bool false, .int .i64 2])) W := fun W hb hbad =>
    ⟨_, [], _, _, rfl, Binds.nil F W, hb, by unfold allS; rw [if_pos hbad]⟩
  have H := Lib.hid h
  have hbad : badAll p t l = (((p.length : Int) != (t.length : Int)) || (!mayB l || (p.any (fun x => !patB x) || t.any fun x => !(chkT x == 0)))) := rfl
  clear h
  cases e1 : ((p.length : Int) != (t.length : Int))
  rotate_left 1
  · have HN := Lib.hid hnil
    have HB : Hid (badAll p t l = true) := by unfold Hid; rw [hbad, e1]; rfl
    clear hnil hbad cM cN cT
    go_enter Tryz.func15, Tryz.ntmps15
    go_wp2_with fail
    go_ret3
    exact HN.out _ (Below.refl _ _) HB.out
  cases e2 : mayB l
  · rw [e2] at cM
    have HN := Lib.hid hnil
    have HB : Hid (badAll p t l = true) := by unfold Hid; rw [hbad, e1, e2]; rfl
    clear hnil hbad cN cT e2
    go_enter Tryz.func15, Tryz.ntmps15
    go_wp2_with (first | (go_at_call 12; refine cM.mono ?_; rintro e w5 ⟨rfl, hb5⟩))
    go_ret3
    exact HN.out _ hb5 HB.out
  rw [e2] at cM
  cases e3 : p.any (fun x => !patB x)
  rotate_left 1
  · have HN := Lib.hid hnil
    have HB : Hid (badAll p t l = true) := by unfold Hid; rw [hbad, e1, e2, e3]; rfl
    rw [e3] at cN
    clear hnil hbad cT e2 e3
    go_enter Tryz.func15, Tryz.ntmps15
    go_wp2_with (first
      | (go_at_call 12; refine cM.mono ?_; rintro e w5 ⟨rfl, hb5⟩)
      | (go_at_call 32; refine (cN _ hb5).mono ?_; rintro e w6 ⟨rfl, hb6⟩; have hB6 := hb5.trans (hb6.mono hb5.size)))
    go_ret3
    exact HN.out _ hB6 HB.out
  rw [e3] at cN
  cases e4 : t.any (fun x => !(chkT x == 0))
  rotate_left 1
  · have HN := Lib.hid hnil
    have HB : Hid (badAll p t l = true) := by unfold Hid; rw [hbad, e1, e2, e3, e4]; rfl
    rw [e4] at cT
    clear hnil hbad e2 e3 e4
    go_enter Tryz.func15, Tryz.ntmps15
    go_wp2_with (first
      | (go_at_call 12; refine cM.mono ?_; rintro e w5 ⟨rfl, hb5⟩)
      | (go_at_call 32; refine (cN _ hb5).mono ?_; rintro e w6 ⟨rfl, hb6⟩; have hB6 := hb5.trans (hb6.mono hb5.size))
      | (go_at_call 35; refine (cT _ hB6).mono ?_; rintro e w7 ⟨rfl, hb7⟩; have hB7 := hB6.trans (hb7.mono hB6.size)))
    go_ret3
    exact HN.out _ hB7 HB.out
  rw [e4] at cT
  have hll : p.length = t.length := by
    have : ((p.length : Int) != (t.length : Int)) = false := e1
    simp at this; omega
  have hgood : allS p t l = match Tr.go.gol p t l with
      | some l' => (l', true, 0)
      | none => (l, false, 0) := by unfold allS; rw [hbad, e1, e2, e3, e4]; rfl
  have hpats := any_not e3
  have hchks : ∀ x ∈ t, chkT x = 0 := fun x hx => by have := any_not (P := fun x => chkT x == 0) e4 x hx; simpa using this
  have hmay : l.length ≤ 64 ∧ ∀ b ∈ l, chkT b.t = 0 := by
    unfold mayB at e2
    simp only [Bool.and_eq_true, decide_eq_true_eq, Bool.not_eq_true'] at e2
    refine ⟨e2.1, fun b hb => ?_⟩
    have := List.any_eq_false.1 e2.2 b hb
    unfold badB at this
    simp at this
    exact this.2.2
  have hnn : l.length + Tr.nn.nnl p ≤ 1048576 := by have := patl_nn e3; have := H.out.len; omega
  have HP := Lib.hid hpats
  have HK := Lib.hid hchks
  have HM := Lib.hid hmay
  have HNN := Lib.hid hnn
  have HG := Lib.hid hgood
  have HLL := Lib.hid hll
  clear hpats hchks hmay hnn hgood hll hbad hnil e2 e3 e4
  go_enter Tryz.func15, Tryz.ntmps15
  go_wp2_with (first
    | (go_at_call 12; refine cM.mono ?_; rintro e w5 ⟨rfl, hb5⟩)
    | (go_at_call 32; refine (cN _ hb5).mono ?_; rintro e w6 ⟨rfl, hb6⟩; have hB6 := hb5.trans (hb6.mono hb5.size))
    | (go_at_call 35; refine (cT _ hB6).mono ?_; rintro e w7 ⟨rfl, hb7⟩; have hB7 := hB6.trans (hb7.mono hB6.size)))
  clear cM cN cT hb5 hb6 hB6 hb7 e1
  go_loopw [10, 35] (fun v2 i wr => ARel F p t l w v2 i wr) (fun _ i _ => p.length - (intOf i).toNat)
  case atStart => exact ⟨0, Nat.zero_le _, rfl, l, H.out.hl.under hB7, hB7, HM.out.2, Nat.le_refl _, rfl⟩
  case round =>
    obtain ⟨k, hk, rfl, l', hl', hB, hcl, hnl, hgo⟩ := hrel
    have HCL := Lib.hid hcl
    have HNL := Lib.hid hnl
    have HGO := Lib.hid hgo
    clear hcl hnl hgo
    obtain ⟨pl2, cl2, rfl⟩ := hl'.slice
    by_cases hlt : k < p.length
    · have hltt : k < t.length := by have := HLL.out; omega
      obtain ⟨g, o, qv, rfl, _, hnode, hkid⟩ := (H.out.hp.under hB).at hlt
      obtain ⟨g2, o2, yv, rfl, _, hnodex, hkidx⟩ := (H.out.ht.under hB).at hltt
      obtain ⟨p3, c3, rfl⟩ := hkid.kids.slice
      obtain ⟨p4, c4, rfl⟩ := hkidx.kids.slice
      have hd : Below wr.heap.size wr wr.drew := below_drewN (Below.refl _ _) 1
      have hBd := hB.trans (hd.mono hB.size)
      have hlen1 : l'.length + p[k].nn ≤ 1048576 := by
        have h1 := HNL.out
        rw [nnl_drop hlt] at h1
        have := HNN.out
        omega
      have cK := mone_any p[k] t[k] l' wr.drew _ _ _ ⟨H.out.lt.under hBd, fun k hk => H.out.fr k (by have := hBd.size; omega), hkid.below hd, hkidx.below hd, hl'.under hd, by
        have := HP.out p[k] (List.getElem_mem hlt)
        unfold patB at this
        simp only [Bool.and_eq_true] at this
        exact this.2, HK.out _ (List.getElem_mem hltt), HCL.out, hlen1⟩
      have hmv : ∀ W : World, Below wr.heap.size wr W → NodeAt W g (o + k * 5) p[k] (.slice p3 p[k].l.length c3) ∧ NodeAt W g2 (o2 + k * 5) t[k] (.slice p4 t[k].l.length c4) := fun W hb => ⟨hnode.keep (hb.block g hnode.lt), hnodex.keep (hb.block g2 hnodex.lt)⟩
      have hS : ∀ W : World, Below wr.heap.size wr W → W.cell? ⟨g, o + k * 5, none⟩ = some (.int .i8 p[k].k) ∧ W.cell? ⟨g, o + k * 5 + 1, none⟩ = some (.int .i64 p[k].n) ∧ W.cell? ⟨g, o + k * 5 + 2, none⟩ = some (.string p[k].s) ∧ W.cell? ⟨g, o + k * 5 + 3, none⟩ = some (.string p[k].t) ∧ W.cell? ⟨g, o + k * 5 + 4, none⟩ = some (.slice p3 p[k].l.length c3) ∧
          W.cell? ⟨g2, o2 + k * 5, none⟩ = some (.int .i8 t[k].k) ∧ W.cell? ⟨g2, o2 + k * 5 + 1, none⟩ = some (.int .i64 t[k].n) ∧ W.cell? ⟨g2, o2 + k * 5 + 2, none⟩ = some (.string t[k].s) ∧ W.cell? ⟨g2, o2 + k * 5 + 3, none⟩ = some (.string t[k].t) ∧ W.cell? ⟨g2, o2 + k * 5 + 4, none⟩ = some (.slice p4 t[k].l.length c4) := by
        intro W hb
        obtain ⟨⟨x0, x1, x2, x3, x4⟩, ⟨y0, y1, y2, y3, y4⟩⟩ := hmv W hb
        exact ⟨x0, x1, x2, x3, x4, y0, y1, y2, y3, y4⟩
      have hS0 := hS wr (Below.refl _ _)
      clear hnode hnodex hkid hkidx hl' hmv hlen1
      go_upto_region 8 with fail
      go_region_held3 (fun W => W.cell? ⟨g, o + k * 5, none⟩ = some (.int .i8 p[k].k) ∧ W.cell? ⟨g, o + k * 5 + 1, none⟩ = some (.int .i64 p[k].n) ∧ W.cell? ⟨g, o + k * 5 + 2, none⟩ = some (.string p[k].s) ∧ W.cell? ⟨g, o + k * 5 + 3, none⟩ = some (.string p[k].t) ∧ W.cell? ⟨g, o + k * 5 + 4, none⟩ = some (.slice p3 p[k].l.length c3) ∧
          W.cell? ⟨g2, o2 + k * 5, none⟩ = some (.int .i8 t[k].k) ∧ W.cell? ⟨g2, o2 + k * 5 + 1, none⟩ = some (.int .i64 t[k].n) ∧ W.cell? ⟨g2, o2 + k * 5 + 2, none⟩ = some (.string t[k].s) ∧ W.cell? ⟨g2, o2 + k * 5 + 3, none⟩ = some (.string t[k].t) ∧ W.cell? ⟨g2, o2 + k * 5 + 4, none⟩ = some (.slice p4 t[k].l.length c4)) (first | exact hS0 | exact hS1) (first
        | (go_at_call 37; refine cK.mono ?_; rintro e w9 ⟨v9, l9, ok9, rfl, hl9, hb9, hc9, hn9, hr9⟩; obtain ⟨p9, c9, rfl⟩ := hl9.slice; have hS1 := hS _ (hd.trans (hb9.mono hd.size))))
      have hB9 := hBd.trans (hb9.mono hBd.size)
      have hnext := HGO.out
      rw [gol_take hlt hltt, hr9] at hnext
      cases ok9
      · have HF : Hid (allS p t l = (l, false, 0)) := by unfold Hid; rw [HG.out, ← hnext]; rfl
        clear hnext
        go_wp2
        go_ret3
        exact ⟨_, l, _, _, rfl, H.out.hl.under hB9, hB9, HF.out⟩
      · have HF := Lib.hid (show Tr.go.gol (p.drop (k + 1)) (t.drop (k + 1)) l9 = Tr.go.gol p t l from hnext)
        clear hnext
        go_wp2
        go_roundw
        case rel =>
          refine ⟨k + 1, hlt, by go_num, l9, hl9, hB9, hc9, ?_, HF.out⟩
          have h1 := HNL.out
          rw [nnl_drop hlt] at h1
          omega
        case measure => simp [intOf]; omega
    · have hfin := HGO.out
      rw [gol_end (by omega)] at hfin
      have HF : Hid (allS p t l = (l', true, 0)) := by unfold Hid; rw [HG.out, ← hfin]
      clear hfin
      go_wp2
      go_ret3
      exact ⟨_, l', _, _, rfl, hl', hB, HF.out⟩
end Go.Proofs.YtjnmdbfijdnaiaaGreatDoor
