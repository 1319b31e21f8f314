/-
  pleachref10.Match, All. Conditions: the trees lie as 'TrV', 'Kids' say, the names as 'Binds'; at most 200 patterns.
  pleachref10.All. Conditions: the trees lie as 'Kids' says, the names as 'Binds'; at most 200 patterns.
-/
import Derived.Test.YtmnjcbjfkaoeaaaGreatDoorS17
namespace Go.Proofs.YtmnjcbjfkaoeaaaGreatDoor
open Go.RowKit

def goR (p x : Tr) (l : List Bd) : List Bd × Bool × Int := match p.go x l with
  | some l' => (l', true, 0)
  | none => (l, false, 0)
def matchS (p x : Tr) (l : List Bd) : List Bd × Bool × Int := if (!patB p || (!(chkT x == 0) || !mayB l)) = true then ([], false, 2) else goR p x l
theorem allS_one (p x : Tr) (l : List Bd) : allS [p] [x] l = matchS p x l := by
  have hb : badAll [p] [x] l = (!patB p || (!(chkT x == 0) || !mayB l)) := by
    unfold badAll
    simp only [List.any_cons, List.any_nil, List.length_singleton, Bool.or_false]
    cases mayB l <;> cases patB p <;> cases (chkT x == 0) <;> rfl
  unfold allS matchS
  rw [hb]
  split
  · rfl
  · unfold goR
    rw [Tr.go.gol]
    cases p.go x l with
    | none => rfl
    | some b => rfl

end Go.Proofs.YtmnjcbjfkaoeaaaGreatDoor
namespace Go.Proofs.YtmnjcbjfkaoeaaaGreatDoor
open Go.RowKit

theorem any_take {α : Type} {P : α → Bool} {l : List α} {k : Nat} (hk : k < l.length) (h : (l.take k).any P = false) (hp : P l[k] = false) : (l.take (k + 1)).any P = false := by
  rw [List.take_succ_eq_append_getElem hk, List.any_append, h]; simp [hp]
theorem any_at {α : Type} {P : α → Bool} {l : List α} {k : Nat} (hk : k < l.length) (hp : P l[k] = true) : l.any P = true := List.any_eq_true.2 ⟨l[k], List.getElem_mem hk, hp⟩
theorem may_parts {l : List Bd} (h : mayB l = true) : l.length ≤ 64 ∧ ∀ b ∈ l, chkT b.t = 0 := by
  unfold mayB at h
  simp only [Bool.and_eq_true, decide_eq_true_eq, Bool.not_eq_true'] at h
  refine ⟨h.1, fun b hb => ?_⟩
  have := List.any_eq_false.1 h.2 b hb
  unfold badB at this
  simp at this
  exact this.2.2

set_option maxHeartbeats 8000000 in
set_option maxRecDepth 100000 in
theorem rall_any {F : Nat → Prop} {p t : List Tr} {l : List Bd} {w : World} {pv tv v : Value} (h : AllHyp F p t l w pv tv v) :
    Calls Tryz.prog 17 #[pv, tv, v] w (AllPost F (allS p t l) w) := by
  have hlenp : p.length ≤ 2199023255552 := h.hp.len
  have hlent : t.length ≤ 2199023255552 := h.ht.len
  obtain ⟨p1, c1, rfl⟩ := h.hp.slice
  obtain ⟨p2, c2, rfl⟩ := h.ht.slice
  obtain ⟨pl, cl, rfl⟩ := h.hl.slice
  have cM := rbmay_any h.hl
  have hnil : ∀ W, Below w.heap.size w W → badAll p t l = true → AllPost F (allS p t l) w (.returned (.tuple #[.slice none 0 0, .bool false, .int .i64 2])) W := fun W hb hbad =>
    ⟨_, [], _, _, rfl, Binds.nil F W, hb, by unfold allS; rw [if_pos hbad]⟩
  have H := Lib.hid h
  have HN := Lib.hid hnil
  have hbad : badAll p t l = (((p.length : Int) != (t.length : Int)) || (!mayB l || (p.any (fun x => !patB x) || t.any fun x => !(chkT x == 0)))) := rfl
  clear h hnil
  cases e1 : ((p.length : Int) != (t.length : Int))
  rotate_left 1
  · have HB : Hid (badAll p t l = true) := by unfold Hid; rw [hbad, e1]; rfl
    clear hbad cM
    go_enter Tryz.func17, Tryz.ntmps17
    go_wp2_with fail
    go_ret3
    exact HN.out _ (Below.refl _ _) HB.out
  cases e2 : mayB l
  · rw [e2] at cM
    have HB : Hid (badAll p t l = true) := by unfold Hid; rw [hbad, e1, e2]; rfl
    clear hbad e2
    go_enter Tryz.func17, Tryz.ntmps17
    go_wp2_with (first | (go_at_call 68; refine cM.mono ?_; rintro e w5 ⟨rfl, hb5⟩))
    go_ret3
    exact HN.out _ hb5 HB.out
  rw [e2] at cM
  have hll : p.length = t.length := by simp at e1; omega
  have HLL := Lib.hid hll
  have HM := Lib.hid (may_parts e2)
  rw [e1, e2] at hbad
  have HBAD : Hid (badAll p t l = (p.any (fun x => !patB x) || t.any fun x => !(chkT x == 0))) := hbad
  clear hbad e2 hll
  go_enter Tryz.func17, Tryz.ntmps17
  go_wp2_with (first | (go_at_call 68; refine cM.mono ?_; rintro e w5 ⟨rfl, hb5⟩))
  clear cM e1
  go_loopw [9] (fun i wr => ∃ k : Nat, k ≤ p.length ∧ i = .int .i64 k ∧ (p.take k).any (fun x => !patB x) = false ∧ (t.take k).any (fun x => !(chkT x == 0)) = false ∧ Below w.heap.size w wr) (fun i _ => p.length - (intOf i).toNat)
  case atStart => exact ⟨0, Nat.zero_le _, rfl, rfl, rfl, hb5⟩
  case round =>
    obtain ⟨k, hk, rfl, hpk, htk, hB⟩ := hrel
    have HPK := Lib.hid hpk
    have HTK := Lib.hid htk
    clear hpk htk
    by_cases hlt : k < p.length
    · have hltt : k < t.length := by have := HLL.out; omega
      obtain ⟨g, o, qv, rfl, _, hnode, hkid⟩ := (H.out.hp.under hB).at hlt
      obtain ⟨g2, o2, yv, rfl, _, hnodex, hkidx⟩ := (H.out.ht.under hB).at hltt
      obtain ⟨p3, c3, rfl⟩ := hkid.kids.slice
      obtain ⟨p4, c4, rfl⟩ := hkidx.kids.slice
      have cP := npattern_any hkid
      have cC := fun (W : World) (hb : Below wr.heap.size wr W) => rcheck_any (hkidx.below hb)
      have hmv : ∀ W : World, Below wr.heap.size wr W → NodeAt W g2 (o2 + k * 5) t[k] (.slice p4 t[k].l.length c4) := fun W hb => hnodex.keep (hb.block g2 hnodex.lt)
      obtain ⟨x0, x1, x2, x3, x4⟩ := hnode
      clear hkid hkidx hnodex
      cases e3 : patB p[k]
      · rw [e3] at cP
        have HB : Hid (badAll p t l = true) := by unfold Hid; rw [HBAD.out, any_at hlt (by rw [e3]; rfl)]; rfl
        clear e3 hmv cC
        go_wp2_with (go_at_call 69; refine cP.mono ?_; rintro e w6 ⟨rfl, hb6⟩)
        go_ret3
        exact HN.out _ (hB.trans (hb6.mono hB.size)) HB.out
      rw [e3] at cP
      cases e4 : (chkT t[k] == 0)
      · have HB : Hid (badAll p t l = true) := by unfold Hid; rw [HBAD.out, any_at (l := t) (P := fun x => !(chkT x == 0)) hltt (by rw [e4]; rfl)]; simp
        have g4 : (chkT t[k] != 0) = true := by simpa using e4
        clear e3 e4
        generalize chkT t[k] = q at cC g4
        go_wp2_with (first
          | (go_at_call 69; refine cP.mono ?_; rintro e w6 ⟨rfl, hb6⟩; obtain ⟨y0, y1, y2, y3, y4⟩ := hmv _ hb6)
          | (go_at_call 23; refine (cC _ hb6).mono ?_; rintro e w7 ⟨rfl, hb7⟩; have hB7 := hb6.trans (hb7.mono hb6.size)))
        go_ret3
        exact HN.out _ (hB.trans (hB7.mono hB.size)) HB.out
      · have h0 : chkT t[k] = 0 := by simpa using e4
        rw [h0] at cC
        have HP1 := Lib.hid (any_take (P := fun x => !patB x) hlt HPK.out (by rw [e3]; rfl))
        have HT1 := Lib.hid (any_take (P := fun x => !(chkT x == 0)) hltt HTK.out (by rw [e4]; rfl))
        clear e3 e4 h0
        go_wp2_with (first
          | (go_at_call 69; refine cP.mono ?_; rintro e w6 ⟨rfl, hb6⟩; obtain ⟨y0, y1, y2, y3, y4⟩ := hmv _ hb6)
          | (go_at_call 23; refine (cC _ hb6).mono ?_; rintro e w7 ⟨rfl, hb7⟩; have hB7 := hb6.trans (hb7.mono hb6.size)))
        go_roundw
        case rel => exact ⟨k + 1, hlt, by go_num, HP1.out, HT1.out, hB.trans (hB7.mono hB.size)⟩
        case measure => simp [intOf]; omega
    · have hpk := HPK.out
      have htk := HTK.out
      rw [List.take_of_length_le (by omega)] at hpk
      rw [List.take_of_length_le (by have := HLL.out; omega)] at htk
      have hgood : allS p t l = match Tr.go.gol p t l with
          | some l' => (l', true, 0)
          | none => (l, false, 0) := by unfold allS; rw [HBAD.out, hpk, htk]; rfl
      have HG := Lib.hid hgood
      have HP := Lib.hid (any_not hpk)
      have hchks : ∀ x ∈ t, chkT x = 0 := fun x hx => by have := any_not (P := fun x => chkT x == 0) htk x hx; simpa using this
      have HK := Lib.hid hchks
      have hnn : l.length + Tr.nn.nnl p ≤ 1048576 := by have := patl_nn hpk; have := H.out.len; have := HM.out.1; omega
      have HNN := Lib.hid hnn
      clear hpk htk hgood hchks hnn HPK HTK
      go_wp2_with fail
      go_loopw [10, 11] (fun v2 i wr => ARel F p t l w v2 i wr) (fun _ i _ => p.length - (intOf i).toNat)
      case atStart => exact ⟨0, Nat.zero_le _, rfl, l, H.out.hl.under hB, hB, HM.out.2, Nat.le_refl _, rfl⟩
      case round =>
        obtain ⟨k, hk, rfl, l', hl', hB, hcl, hnl, hgo⟩ := hrel
        have HCL := Lib.hid hcl
        have HNL := Lib.hid hnl
        have HGO := Lib.hid hgo
        clear hcl hnl hgo
        obtain ⟨pl2, cl2, rfl⟩ := hl'.slice
        by_cases hlt : k < p.length
        · have hltt : k < t.length := by have := HLL.out; omega
          obtain ⟨g, o, qv, rfl, _, hnode, hkid⟩ := (H.out.hp.under hB).at hlt
          obtain ⟨g2, o2, yv, rfl, _, hnodex, hkidx⟩ := (H.out.ht.under hB).at hltt
          obtain ⟨p3, c3, rfl⟩ := hkid.kids.slice
          obtain ⟨p4, c4, rfl⟩ := hkidx.kids.slice
          have hd : Below wr.heap.size wr wr.drew := below_drewN (Below.refl _ _) 1
          have hBd := hB.trans (hd.mono hB.size)
          have hlen1 : l'.length + p[k].nn ≤ 1048576 := by
            have h1 := HNL.out
            rw [nnl_drop hlt] at h1
            have := HNN.out
            omega
          have cK := goes_any p[k] t[k] l' wr.drew _ _ _ ⟨H.out.lt.under hBd, fun k hk => H.out.fr k (by have := hBd.size; omega), hkid.below hd, hkidx.below hd, hl'.under hd, by
            have := HP.out p[k] (List.getElem_mem hlt)
            unfold patB at this
            simp only [Bool.and_eq_true] at this
            exact this.2, HK.out _ (List.getElem_mem hltt), HCL.out, hlen1⟩
          have hmv : ∀ W : World, Below wr.heap.size wr W → NodeAt W g (o + k * 5) p[k] (.slice p3 p[k].l.length c3) ∧ NodeAt W g2 (o2 + k * 5) t[k] (.slice p4 t[k].l.length c4) := fun W hb => ⟨hnode.keep (hb.block g hnode.lt), hnodex.keep (hb.block g2 hnodex.lt)⟩
          have hS : ∀ W : World, Below wr.heap.size wr W → W.cell? ⟨g, o + k * 5, none⟩ = some (.int .i8 p[k].k) ∧ W.cell? ⟨g, o + k * 5 + 1, none⟩ = some (.int .i64 p[k].n) ∧ W.cell? ⟨g, o + k * 5 + 2, none⟩ = some (.string p[k].s) ∧ W.cell? ⟨g, o + k * 5 + 3, none⟩ = some (.string p[k].t) ∧ W.cell? ⟨g, o + k * 5 + 4, none⟩ = some (.slice p3 p[k].l.length c3) ∧
              W.cell? ⟨g2, o2 + k * 5, none⟩ = some (.int .i8 t[k].k) ∧ W.cell? ⟨g2, o2 + k * 5 + 1, none⟩ = some (.int .i64 t[k].n) ∧ W.cell? ⟨g2, o2 + k * 5 + 2, none⟩ = some (.string t[k].s) ∧ W.cell? ⟨g2, o2 + k * 5 + 3, none⟩ = some (.string t[k].t) ∧ W.cell? ⟨g2, o2 + k * 5 + 4, none⟩ = some (.slice p4 t[k].l.length c4) := by
            intro W hb
            obtain ⟨⟨x0, x1, x2, x3, x4⟩, ⟨y0, y1, y2, y3, y4⟩⟩ := hmv W hb
            exact ⟨x0, x1, x2, x3, x4, y0, y1, y2, y3, y4⟩
          have hS0 := hS wr (Below.refl _ _)
          clear hnode hnodex hkid hkidx hl' hmv hlen1
          go_upto_region 12 with fail
          go_region_held3 (fun W => W.cell? ⟨g, o + k * 5, none⟩ = some (.int .i8 p[k].k) ∧ W.cell? ⟨g, o + k * 5 + 1, none⟩ = some (.int .i64 p[k].n) ∧ W.cell? ⟨g, o + k * 5 + 2, none⟩ = some (.string p[k].s) ∧ W.cell? ⟨g, o + k * 5 + 3, none⟩ = some (.string p[k].t) ∧ W.cell? ⟨g, o + k * 5 + 4, none⟩ = some (.slice p3 p[k].l.length c3) ∧
              W.cell? ⟨g2, o2 + k * 5, none⟩ = some (.int .i8 t[k].k) ∧ W.cell? ⟨g2, o2 + k * 5 + 1, none⟩ = some (.int .i64 t[k].n) ∧ W.cell? ⟨g2, o2 + k * 5 + 2, none⟩ = some (.string t[k].s) ∧ W.cell? ⟨g2, o2 + k * 5 + 3, none⟩ = some (.string t[k].t) ∧ W.cell? ⟨g2, o2 + k * 5 + 4, none⟩ = some (.slice p4 t[k].l.length c4)) (first | exact hS0 | exact hS1) (first
            | (go_at_call 70; refine cK.mono ?_; rintro e w9 ⟨v9, l9, ok9, rfl, hl9, hb9, hc9, hn9, hr9⟩; obtain ⟨p9, c9, rfl⟩ := hl9.slice; have hS1 := hS _ (hd.trans (hb9.mono hd.size))))
          have hB9 := hBd.trans (hb9.mono hBd.size)
          have hnext := HGO.out
          rw [gol_take hlt hltt, hr9] at hnext
          cases ok9
          · have HF : Hid (allS p t l = (l, false, 0)) := by unfold Hid; rw [HG.out, ← hnext]; rfl
            clear hnext
            go_wp2
            go_ret3
            exact ⟨_, l, _, _, rfl, H.out.hl.under hB9, hB9, HF.out⟩
          · have HF := Lib.hid (show Tr.go.gol (p.drop (k + 1)) (t.drop (k + 1)) l9 = Tr.go.gol p t l from hnext)
            clear hnext
            go_wp2
            go_roundw
            case rel =>
              refine ⟨k + 1, hlt, by go_num, l9, hl9, hB9, hc9, ?_, HF.out⟩
              have h1 := HNL.out
              rw [nnl_drop hlt] at h1
              omega
            case measure => simp [intOf]; omega
        · have hfin := HGO.out
          rw [gol_end (by omega)] at hfin
          have HF : Hid (allS p t l = (l', true, 0)) := by unfold Hid; rw [HG.out, ← hfin]
          clear hfin
          go_wp2
          go_ret3
          exact ⟨_, l', _, _, rfl, hl', hB, HF.out⟩
end Go.Proofs.YtmnjcbjfkaoeaaaGreatDoor
