/-
  term.Check and its closure. Conditions: the term lies as 'TrV' says.
-/
import Derived.Test.YtjnmdbfijdnaiaaGreatDoorClos
namespace Go.Proofs.YtjnmdbfijdnaiaaGreatDoor
open Go.RowKit

theorem Letters.turn {w w' : World} (h : Letters w) {T : Nat → Prop} (ht : Turn T w w') (hT : ¬ T 0) : Letters w' :=
  ⟨ht.cell h.c0 hT, ht.cell h.c1 hT, ht.cell h.c2 hT, ht.cell h.c3 hT, ht.cell h.c4 hT, ht.cell h.c5 hT, ht.cell h.c6 hT, ht.cell h.c7 hT⟩

/-- What the two counters hold behind a part. -/
structure CkPost (bn bo : Nat) (a : Int) (q : Int × Bool) (w w' : World) : Prop where
  n : ∃ n' : Int, w'.heap[bn]? = some (.cells #[.int .i64 n'] 3 (0, 0)) ∧ (q.2 = true → n' = a + q.1)
  ok : w'.heap[bo]? = some (.cells #[.bool q.2] 4 (0, 0))
  turn : Turn (fun k => k = bn ∨ k = bo) w w'
/-- What holds at the loop's head. -/
def CkSt (x : Tr) (a : Int) (k : Nat) (b : Bool) (n' : Int) : Prop :=
  if b then ∃ s : Int, n' = a + s ∧ 1 ≤ s ∧ s ≤ 257 - a ∧ Tr.cnt.cntl (x.l.drop k) (257 - a) s = x.cnt (257 - a) else (x.cnt (257 - a)).2 = false

theorem ckPost_of {bn bo : Nat} {a n' : Int} {q : Int × Bool} {w w' : World} {b : Bool} (h1 : w'.heap[bn]? = some (.cells #[.int .i64 n'] 3 (0, 0))) (h2 : w'.heap[bo]? = some (.cells #[.bool b] 4 (0, 0))) (hb : q.2 = b) (hn : b = true → n' = a + q.1) (ht : Turn (fun k => k = bn ∨ k = bo) w w') : CkPost bn bo a q w w' := by
  subst hb
  exact ⟨⟨n', h1, hn⟩, h2, ht⟩

set_option maxHeartbeats 4000000 in
set_option maxRecDepth 100000 in
theorem checkC_any {F : Nat → Prop} {bn bo bw : Nat} (hF : ∀ k, F k → ¬ (k = bn ∨ k = bo)) (hw : ¬ (bw = bn ∨ bw = bo)) (hno : bo ≠ bn) (h0 : ¬ (0 = bn ∨ 0 = bo)) (x : Tr) : ∀ (W : World) (g o : Nat) (sv : Value) (a : Int), Letters W → NodeAt W g o x sv → ¬ (g = bn ∨ g = bo) → TrV F W x sv →
    W.heap[bn]? = some (.cells #[.int .i64 a] 3 (0, 0)) → W.heap[bo]? = some (.cells #[.bool true] 4 (0, 0)) → W.cell? ⟨bw, 0, none⟩ = some (.func (Fn.func 50) #[] #[.pointer (some ⟨bn, 0, none⟩), .pointer (some ⟨bo, 0, none⟩), .pointer (some ⟨bw, 0, none⟩)]) → 0 ≤ a → a ≤ 256 →
    Calls Tryz.prog 50 #[.pointer (some ⟨g, o, none⟩), .pointer (some ⟨bn, 0, none⟩), .pointer (some ⟨bo, 0, none⟩), .pointer (some ⟨bw, 0, none⟩)] W fun e w' => e = .returned (.tuple #[]) ∧ CkPost bn bo a (x.cnt (257 - a)) W w' := by
  induction x using Tr.ind with
  | h x ih =>
    intro W g o sv a hL hnode hgn hx hbn hbo hbw ha0 ha1
    obtain ⟨p, c, rfl⟩ := hx.kids.slice
    have hlen : x.l.length ≤ 2199023255552 := hx.kids.len
    have hrel0 := cnt_eq x (257 - a)
    have hcn := one_cell hbn
    have hfn := one_free hbn
    have hco := one_cell hbo
    have ht1 : Turn (fun k => k = bn ∨ k = bo) W (W.setCell ⟨bn, 0, none⟩ (.int .i64 (a + 1))) := (Turn.setCell W ⟨bn, 0, none⟩ (.int .i64 (a + 1))).mono fun k _ e => .inl e
    have hbn1 := one_set (u := .int .i64 (a + 1)) hbn
    have hbo1 : (W.setCell ⟨bn, 0, none⟩ (.int .i64 (a + 1))).heap[bo]? = some (.cells #[.bool true] 4 (0, 0)) := (Below.heap_setCell _ _ _ _ hno).trans hbo
    have hL1 := hL.turn ht1 h0
    have hnode1 := hnode.turn ht1 hgn
    have hbw1 := ht1.cell hbw hw
    have hx1 := hx.turn ht1 hF
    have IH := Lib.hid ih
    have HR := Lib.hid hrel0
    have cO := one_any hL1 hnode1 hx.wf hlen
    clear ih hrel0 hx hnode hbn hbo hL hbw
    go_enter Tryz.func50, Tryz.ntmps50
    go_wp2_with fail
    have hco1 := one_cell hbo1
    generalize W.setCell ⟨bn, 0, none⟩ (.int .i64 (a + 1)) = w1 at ht1 hbn1 hbo1 hL1 hbw1 hx1 cO hnode1 hco1 ⊢
    clear hcn hfn hco
    refine cO.mono ?_
    rintro e w2 ⟨rfl, hb2⟩
    have hT2 : Turn (fun k => k = bn ∨ k = bo) w1 w2 := Turn.of_below hb2
    have hbn2 : w2.heap[bn]? = _ := (hb2.block bn (cell_block (one_cell hbn1))).trans hbn1
    have hbo2 : w2.heap[bo]? = _ := (hb2.block bo (cell_block hco1)).trans hbo1
    have hco2 := one_cell hbo2
    have hfo2 := one_free hbo2
    have ht3 : Turn (fun k => k = bn ∨ k = bo) w2 (w2.setCell ⟨bo, 0, none⟩ (.bool (oneB x))) := (Turn.setCell w2 ⟨bo, 0, none⟩ (.bool (oneB x))).mono fun k _ e => .inr e
    have hbo3 := one_set (u := .bool (oneB x)) hbo2
    have hbn3 : (w2.setCell ⟨bo, 0, none⟩ (.bool (oneB x))).heap[bn]? = some (.cells #[.int .i64 (a + 1)] 3 (0, 0)) := (Below.heap_setCell _ _ _ _ (Ne.symm hno)).trans hbn2
    have htw := (ht1.trans hT2).trans ht3
    have hL3 := (hL1.turn hT2 h0).turn ht3 h0
    have h43 := ((hnode1.turn hT2 hgn).turn ht3 hgn).l
    have hbw3 := ht3.cell (hT2.cell hbw1 hw) hw
    have hx3 := (hx1.turn hT2 hF).turn ht3 hF
    clear ht1 hT2 ht3 hbn1 hbo1 hL1 hbw1 hx1 cO hnode1 hco1 hbn2 hbo2 hb2
    go_wp2_with fail
    generalize w2.setCell ⟨bo, 0, none⟩ (.bool (oneB x)) = w3 at hbo3 hbn3 htw hL3 h43 hbw3 hx3 ⊢
    clear hco2 hfo2
    have hst0 : CkSt x a 0 (oneB x) (a + 1) := by
      unfold CkSt
      have hr := HR.out
      cases ho : oneB x
      · rw [ho] at hr; rw [if_neg (by simp), hr]; rfl
      · rw [ho] at hr; rw [if_pos rfl]; exact ⟨1, rfl, by omega, by omega, by rw [hr, if_pos rfl]; rfl⟩
    generalize oneB x = ob at hbo3 hst0
    go_loopw [18] (fun i wr => ∃ k : Nat, k ≤ x.l.length ∧ i = .int .i64 k ∧ ∃ (b : Bool) (n' : Int), wr.heap[bn]? = some (.cells #[.int .i64 n'] 3 (0, 0)) ∧ wr.heap[bo]? = some (.cells #[.bool b] 4 (0, 0)) ∧ CkSt x a k b n' ∧ Turn (fun k => k = bn ∨ k = bo) w3 wr) (fun i _ => x.l.length - (intOf i).toNat)
    case atStart => exact ⟨0, Nat.zero_le _, rfl, ob, a + 1, hbn3, hbo3, hst0, Turn.refl _ _⟩
    case round =>
      obtain ⟨k, hk, rfl, b, n', hbnr, hbor, hst, htr⟩ := hrel
      have htwr := htw.trans htr
      have hxr := hx3.turn htr hF
      have hLr := hL3.turn htr h0
      have h4r := htr.cell h43 hgn
      have hbwr := htr.cell hbw3 hw
      have hcor := one_cell hbor
      have hcnr := one_cell hbnr
      clear hbo3 hbn3 hst0 hx3 h43 hbw3 hL3
      by_cases hlt : k < x.l.length
      · cases b
        · -- a part may not be: the closure ends
          have hend := ckPost_of (a := a) (q := x.cnt (257 - a)) hbnr hbor hst (fun h => by cases h) htwr
          have HE := Lib.hid hend
          clear hend hst hbnr hbor hxr hLr hbwr
          by_cases h256 : 256 < n'
          all_goals
            go_wp2
            refine bodyPost_ret (v := .tuple #[]) (by simp [results, Tryz.results50]) rfl ?_
            exact ⟨rfl, HE.out⟩
        · obtain ⟨s, rfl, hs1, hs2, hrest⟩ : ∃ s : Int, n' = a + s ∧ 1 ≤ s ∧ s ≤ 257 - a ∧ Tr.cnt.cntl (x.l.drop k) (257 - a) s = x.cnt (257 - a) := hst
          by_cases h256 : 256 < a + s
          · rw [cntl_stop _ (by omega)] at hrest
            have hend := ckPost_of (a := a) (q := x.cnt (257 - a)) hbnr hbor (by rw [← hrest]) (fun _ => by rw [← hrest]) htwr
            have HE := Lib.hid hend
            clear hend hrest hbnr hbor hxr hLr hbwr
            go_wp2
            refine bodyPost_ret (v := .tuple #[]) (by simp [results, Tryz.results50]) rfl ?_
            exact ⟨rfl, HE.out⟩
          · obtain ⟨g2, o2, kv, rfl, hg2, hnode2, hkid⟩ := hxr.kids.at hlt
            have hg2n := hF g2 hg2
            have hqb := cnt_bound x.l[k] (257 - a - s) (by omega)
            have hnext := cntl_take hlt (show s < 257 - a by omega)
            have htd : Turn (fun k => k = bn ∨ k = bo) wr (wr.drewN 1) := Turn.of_below (below_drewN (Below.refl _ _) 1)
            have hbd : (wr.drewN 1).heap[bn]? = some (.cells #[.int .i64 (a + s)] 3 (0, 0)) := hbnr
            have hbd2 : (wr.drewN 1).heap[bo]? = some (.cells #[.bool true] 4 (0, 0)) := hbor
            have cK := IH.out x.l[k] (List.getElem_mem hlt) (wr.drewN 1) g2 (o2 + k * 5) kv (a + s) (hLr.turn htd h0) (hnode2.turn htd hg2n) hg2n (hkid.turn htd hF) hbd hbd2 (htd.cell hbwr hw) (by omega) (by omega)
            rw [show (257 : Int) - (a + s) = 257 - a - s from by omega] at cK
            rw [hrest] at hnext
            have hstn : ∀ n'' : Int, ((x.l[k].cnt (257 - a - s)).2 = true → n'' = a + s + (x.l[k].cnt (257 - a - s)).1) → CkSt x a (k + 1) (x.l[k].cnt (257 - a - s)).2 n'' := by
              intro n'' hn''
              unfold CkSt
              cases hq : (x.l[k].cnt (257 - a - s)).2
              · rw [if_neg (by simp), hnext, hq]; rfl
              · rw [if_pos rfl]
                rw [hq, if_pos rfl] at hnext
                exact ⟨s + (x.l[k].cnt (257 - a - s)).1, by rw [hn'' hq]; omega, by omega, by omega, hnext.symm⟩
            have HST := Lib.hid hstn
            clear hstn hnext hrest hkid hxr hnode2 hbd hbd2 hbnr hbor hLr hqb
            generalize x.l[k].cnt (257 - a - s) = q at *
            go_wp2
            go_still_tail 7, (by kernel_rfl)
            change wpList _ _ _ _ _ (wr.drewN 1)
            generalize wr.drewN 1 = w4 at htd cK ⊢
            go_wp2_with (go_at_call 50; refine cK.mono ?_; rintro e w5 ⟨rfl, ⟨n'', hn5, hq5⟩, ho5, ht5⟩)
            go_roundw
            case rel => exact ⟨k + 1, hlt, by go_num, q.2, n'', hn5, ho5, HST.out n'' hq5, (htr.trans htd).trans ht5⟩
            case measure => simp [intOf]; omega
      · have hend : CkPost bn bo a (x.cnt (257 - a)) W wr := by
          cases b
          · exact ckPost_of hbnr hbor hst (fun h => by cases h) htwr
          · obtain ⟨s, rfl, hs1, hs2, hrest⟩ : ∃ s : Int, n' = a + s ∧ 1 ≤ s ∧ s ≤ 257 - a ∧ Tr.cnt.cntl (x.l.drop k) (257 - a) s = x.cnt (257 - a) := hst
            rw [List.drop_eq_nil_of_le (by omega), Tr.cnt.cntl] at hrest
            exact ckPost_of hbnr hbor (by rw [← hrest]) (fun _ => by rw [← hrest]) htwr
        have HE := Lib.hid hend
        clear hend hst hbnr hbor hxr hLr hbwr
        go_wp2
        go_end0
        exact ⟨rfl, HE.out⟩
end Go.Proofs.YtjnmdbfijdnaiaaGreatDoor
