/-
  match.whole$1, under what match.one says of the parts. Conditions: the trees lie as 'TrV' says, the names as 'Binds'; the pattern and the term may be.
-/
import Derived.Test.YtlhobpknflobgaaGreatDoorS13
import Derived.WalkMore
namespace Go.Proofs.YtlhobpknflobgaaGreatDoor
open Go.RowKit

/-- A match's end, told by what it comes to. -/
def ResPost (F : Nat → Prop) (l : List Bd) (n : Nat) (r : Option (List Bd)) (w : World) (e : Ending) (w' : World) : Prop :=
  ∃ v' l' ok, e = .returned (.tuple #[v', .bool ok]) ∧ Binds F w' v' l' ∧ Below w.heap.size w w' ∧ (∀ b ∈ l', chkT b.t = 0) ∧ l'.length ≤ l.length + n ∧ r = (if ok then some l' else none)
theorem ResPost.of {F : Nat → Prop} {l : List Bd} {n : Nat} {r : Option (List Bd)} {w w1 w' : World} {e : Ending} (hb : Below w.heap.size w w1) (h : ResPost F l n r w1 e w') : ResPost F l n r w e w' := by
  obtain ⟨v', l', ok, h1, h2, h3, h4⟩ := h
  exact ⟨v', l', ok, h1, h2, hb.trans (h3.mono hb.size), h4⟩
def OneSays (F : Nat → Prop) (p : Tr) : Prop := ∀ (x : Tr) (l : List Bd) (w : World) (pv xv v : Value), GoHyp F p x l w pv xv v →
    Calls Tryz.prog 169 #[.agg #[.int .i8 p.k, .int .i64 p.n, .string p.s, .string p.t, pv], .agg #[.int .i8 x.k, .int .i64 x.n, .string x.s, .string x.t, xv], v] w (ResPost F l p.nn (p.go x l) w)
/-- Part by part. -/
def wholeS (kk : Int) (p x : Tr) (b : List Bd) : Option (List Bd) := if x.k = kk ∧ x.l.length = p.l.length then Tr.go.gol p.l x.l b else none
/-- The parts behind k, with what came of those ahead. -/
def WSt (kk : Int) (p x : Tr) (l : List Bd) (k : Nat) (l' : List Bd) (ok : Bool) : Prop :=
  (ok = true → x.l.length = p.l.length ∧ Tr.go.gol (p.l.drop k) (x.l.drop k) l' = wholeS kk p x l) ∧ (ok = false → wholeS kk p x l = none)
/-- What the round knows. -/
def WRel (F : Nat → Prop) (p x : Tr) (l : List Bd) (kk : Int) (w1 : World) (v2 okv i : Value) (wr : World) : Prop :=
  ∃ k : Nat, k ≤ p.l.length ∧ i = .int .i64 k ∧ ∃ l' ok, okv = .bool ok ∧ Binds F wr v2 l' ∧ Below w1.heap.size w1 wr ∧ (∀ b ∈ l', chkT b.t = 0) ∧ l'.length + Tr.nn.nnl (p.l.drop k) ≤ l.length + Tr.nn.nnl p.l ∧ WSt kk p x l k l' ok
theorem wst_next {kk : Int} {p x : Tr} {l l' l2 : List Bd} {k : Nat} {ok : Bool} (h : WSt kk p x l k l' true) (hk : k < p.l.length) (hkx : k < x.l.length) (hg : p.l[k].go x.l[k] l' = if ok then some l2 else none) : WSt kk p x l (k + 1) l2 ok := by
  obtain ⟨h1, h2⟩ := h.1 rfl
  rw [gol_take hk hkx, hg] at h2
  refine ⟨fun e => ?_, fun e => ?_⟩
  · subst e; exact ⟨h1, h2⟩
  · subst e; exact h2.symm
theorem wst_end {kk : Int} {p x : Tr} {l l' : List Bd} {k : Nat} {ok : Bool} (h : WSt kk p x l k l' ok) (hk : p.l.length ≤ k) : wholeS kk p x l = if ok then some l' else none := by
  cases ok
  · exact h.2 rfl
  · have := (h.1 rfl).2
    rw [gol_end hk] at this
    exact this.symm
theorem GoHyp.at {F : Nat → Prop} {p x : Tr} {l l' : List Bd} {w w4 : World} {pv xv v v2 pv2 xv2 : Value} (h : GoHyp F p x l w pv xv v) (hb : Below w.heap.size w w4) {k : Nat} (hk : k < p.l.length) (hkx : k < x.l.length) (hpl : Tr.pat.patl p.l = true)
    (hp : TrV F w4 p.l[k] pv2) (hx : TrV F w4 x.l[k] xv2) (hl : Binds F w4 v2 l') (hc : ∀ b ∈ l', chkT b.t = 0) (hn : l'.length + Tr.nn.nnl (p.l.drop k) ≤ l.length + Tr.nn.nnl p.l) : GoHyp F p.l[k] x.l[k] l' w4 pv2 xv2 v2 where
  lt := h.lt.under hb
  fr := fun k hk => h.fr k (by have := hb.size; omega)
  hp := hp
  hx := hx
  hl := hl
  pat := patl_mem hpl _ (List.getElem_mem hk)
  chk := chk_kids h.chk _ (List.getElem_mem hkx)
  chl := hc
  len := by
    have h1 := h.len
    rw [nn_eq] at h1
    rw [nnl_drop hk] at hn
    omega

set_option maxHeartbeats 4000000 in
set_option maxRecDepth 100000 in
theorem mwhole1_any {F : Nat → Prop} {p x : Tr} {l : List Bd} {w : World} {pv xv v : Value} {bk : Nat} {kk : Int} (ih : ∀ q ∈ p.l, OneSays F q) (h : GoHyp F p x l w pv xv v) (hpl : Tr.pat.patl p.l = true) (hk : w.cell? ⟨bk, 0, none⟩ = some (.int .i8 kk)) :
    Calls Tryz.prog 218 #[.agg #[.int .i8 p.k, .int .i64 p.n, .string p.s, .string p.t, pv], .agg #[.int .i8 x.k, .int .i64 x.n, .string x.s, .string x.t, xv], v, .pointer (some ⟨bk, 0, none⟩)] w (ResPost F l p.nn (wholeS kk p x l) w) := by
  have hlen : p.l.length ≤ 2199023255552 := h.hp.kids.len
  have hlen2 : x.l.length ≤ 2199023255552 := h.hx.kids.len
  obtain ⟨p1, c1, rfl⟩ := h.hp.kids.slice
  obtain ⟨p2, c2, rfl⟩ := h.hx.kids.slice
  obtain ⟨pl, cl, rfl⟩ := h.hl.slice
  obtain ⟨n1, n2, hb1, hz1⟩ := two_new w (.cells #[.int .i8 p.k, .int .i64 p.n, .string p.s, .string p.t, .slice p1 p.l.length c1] 25) (.cells #[.int .i8 x.k, .int .i64 x.n, .string x.s, .string x.t, .slice p2 x.l.length c2] 29)
  obtain ⟨a0, a1, a2, a3, a4⟩ := node_heap n1
  obtain ⟨b0, b1, b2, b3, b4⟩ := node_heap n2
  simp only [Nat.zero_add] at a1 a2 a3 a4 b1 b2 b3 b4
  have hk1 := (hb1.cell (p := ⟨bk, 0, none⟩) (cell_block hk)).trans hk
  clear n1 n2 hk
  have H := Lib.hid h
  have IH := Lib.hid ih
  have HPL := Lib.hid hpl
  clear h ih hpl
  have hst : ∀ ok : Bool, (x.k == kk && ((x.l.length : Int) == (p.l.length : Int))) = ok → WSt kk p x l 0 l ok := by
    intro ok hok
    unfold WSt wholeS
    refine ⟨fun h => ?_, fun h => ?_⟩
    · rw [h] at hok
      simp only [Bool.and_eq_true, beq_iff_eq] at hok
      rw [if_pos ⟨hok.1, by omega⟩]
      exact ⟨by omega, rfl⟩
    · rw [h] at hok
      rw [if_neg]
      rintro ⟨h1, h2⟩
      rw [h1, h2] at hok
      simp at hok
  go_enter Tryz.func218, Tryz.ntmps218
  go_upto_region 1 with fail
  generalize (w.alloc (.cells #[.int .i8 p.k, .int .i64 p.n, .string p.s, .string p.t, .slice p1 p.l.length c1] 25)).alloc (.cells #[.int .i8 x.k, .int .i64 x.n, .string x.s, .string x.t, .slice p2 x.l.length c2] 29) = w1 at hb1 hz1 a0 a1 a2 a3 a4 b0 b1 b2 b3 b4 hk1 ⊢
  cases e1 : (x.k == kk)
  rotate_left 1
  cases e2 : ((x.l.length : Int) == (p.l.length : Int))
  case' false =>
    have HS := hst false (by rw [e1]; rfl)
    have d1 : decide (x.k = kk) = false := by simpa using e1
  case' true.false =>
    have HS := hst false (by rw [e1, e2]; rfl)
    have d1 : decide (x.k = kk) = true := by simpa using e1
    have d2 : decide ((x.l.length : Int) = (p.l.length : Int)) = false := by simpa using e2
  case' true.true =>
    have HS := hst true (by rw [e1, e2]; rfl)
    have d1 : decide (x.k = kk) = true := by simpa using e1
    have d2 : decide ((x.l.length : Int) = (p.l.length : Int)) = true := by simpa using e2
  all_goals
    clear hst
    go_step3
    go_wp2
    go_step3
    go_wp2
    clear d1 a0 a1 a2 a3 b0 b1 b2 b3 hk1
    try clear d2
    try clear e2
    clear e1
    go_loopw [2, 9, 28] (fun v2 okv i wr => WRel F p x l kk w1 v2 okv i wr) (fun _ _ i _ => p.l.length - (intOf i).toNat)
    case atStart => exact ⟨0, Nat.zero_le _, rfl, l, _, rfl, H.out.hl.under hb1, Below.refl _ _, H.out.chl, Nat.le_refl _, HS⟩
    case round =>
      obtain ⟨k, hk, rfl, l', ok, rfl, hl', hbr, hcl, hnl, hst⟩ := hrel
      obtain ⟨pl2, cl2, rfl⟩ := hl'.slice
      have HNL := Lib.hid hnl
      have HCL := Lib.hid hcl
      have hB := hb1.trans (hbr.mono hb1.size)
      clear hnl hcl
      by_cases hlt : k < p.l.length
      · have b4r := (hbr.cell (p := ⟨w.heap.size + 1, 4, none⟩) (show w.heap.size + 1 < w1.heap.size by omega)).trans b4
        obtain ⟨g, o, qv, rfl, _, hnode, hkid⟩ := (H.out.hp.kids.under hB).at hlt
        obtain ⟨p3, c3, rfl⟩ := hkid.kids.slice
        obtain ⟨a0, a1, a2, a3, a4'⟩ := hnode
        have hb3 := alloc_below wr (.cells #[.int .i8 p.l[k].k, .int .i64 p.l[k].n, .string p.l[k].s, .string p.l[k].t, .slice p3 p.l[k].l.length c3] 25)
        have hB3 := hB.trans (hb3.mono hB.size)
        cases ok
        · go_wp2
          go_ret2
          refine ⟨_, l', false, rfl, hl'.under hb3, hB3, HCL.out, ?_, hst.2 rfl⟩
          have := HNL.out
          rw [nn_eq]; omega
        · have hll := (hst.1 rfl).1
          have hltx : k < x.l.length := by omega
          obtain ⟨g2, o2, yv, rfl, _, hnodex, hkidx⟩ := (H.out.hx.kids.under hB3).at hltx
          obtain ⟨p4, c4, rfl⟩ := hkidx.kids.slice
          obtain ⟨q0, q1, q2, q3, q4⟩ := box5 wr (.int .i8 p.l[k].k) (.int .i64 p.l[k].n) (.string p.l[k].s) (.string p.l[k].t) (.slice p3 p.l[k].l.length c3) 25
          have hkid3 := hkid.below hb3
          have b43 := (hb3.cell (p := ⟨w.heap.size + 1, 4, none⟩) (cell_block b4r)).trans b4r
          have hl3 := hl'.under hb3
          clear hll hkid hl'
          go_upto_region 6 with fail
          generalize wr.alloc (.cells #[.int .i8 p.l[k].k, .int .i64 p.l[k].n, .string p.l[k].s, .string p.l[k].t, .slice p3 p.l[k].l.length c3] 25) = w3 at hb3 hB3 hnodex hkidx q0 q1 q2 q3 q4 hkid3 b43 hl3 ⊢
          obtain ⟨y0, y1, y2, y3, y4⟩ := hnodex
          have hd3 : Below w3.heap.size w3 w3.drew := below_drewN (Below.refl _ _) 1
          have hBd := hB3.trans (hd3.mono hB3.size)
          have cK := IH.out p.l[k] (List.getElem_mem hlt) x.l[k] l' w3.drew _ _ _ (H.out.at hBd hlt hltx HPL.out (hkid3.below hd3) (hkidx.below hd3) (hl3.under hd3) HCL.out HNL.out)
          clear hkid3 hkidx hl3
          go_region_with (go_at_call 169; refine cK.mono ?_; rintro e w5 ⟨v5, l5, ok5, rfl, hl5, hb5, hc5, hn5, hr5⟩)
          all_goals
            obtain ⟨pl5, cl5, rfl⟩ := hl5.slice
            go_wp2
            go_roundw
            case rel =>
              refine ⟨k + 1, hlt, by go_num, l5, ok5, rfl, hl5, (hbr.trans (hb3.mono hbr.size)).trans ((hd3.trans (hb5.mono hd3.size)).mono (hbr.trans (hb3.mono hbr.size)).size), hc5, ?_, wst_next hst hlt hltx hr5⟩
              have h1 := HNL.out
              rw [nnl_drop hlt] at h1
              omega
            case measure => simp [intOf]; omega
      · go_wp2
        go_ret2
        refine ⟨_, l', ok, rfl, hl', hB, HCL.out, ?_, wst_end hst (by omega)⟩
        have := HNL.out
        rw [nn_eq]; omega
end Go.Proofs.YtlhobpknflobgaaGreatDoor
