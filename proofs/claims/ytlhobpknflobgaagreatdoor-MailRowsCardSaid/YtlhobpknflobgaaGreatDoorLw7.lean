/-
  pleachlaw17.MailTaken holds. Conditions: the items lie as 'Items' says, the term as 'TrV' says; the table of letters is as it was laid.
-/
import Derived.Test.YtlhobpknflobgaaGreatDoorMt7
namespace Go.Proofs.YtlhobpknflobgaaGreatDoor
open Go.RowKit

/-- A tree's five cells in a block of their own. -/
def Five (w : World) (b : Nat) (x : Tr) (sv : Value) : Prop := w.cell? ⟨b, 0, none⟩ = some (.int .i8 x.k) ∧ w.cell? ⟨b, 1, none⟩ = some (.int .i64 x.n) ∧ w.cell? ⟨b, 2, none⟩ = some (.string x.s) ∧ w.cell? ⟨b, 3, none⟩ = some (.string x.t) ∧ w.cell? ⟨b, 4, none⟩ = some sv
theorem five {w : World} {b : Nat} {x : Tr} {sv : Value} (h : NodeAt w b 0 x sv) : Five w b x sv := by
  obtain ⟨a0, a1, a2, a3, a4⟩ := h
  simp only [Nat.zero_add] at a1 a2 a3 a4
  exact ⟨a0, a1, a2, a3, a4⟩
theorem pick_no {k : Int} (h : ¬ 0 ≤ k) : pickV k = .tuple #[.int .i64 0, .bool false] := by unfold pickV; rw [if_neg h, decide_eq_false h]
theorem pick_yes {k : Int} (h : 0 ≤ k) : pickV k = .tuple #[.int .i64 k, .bool true] := by unfold pickV; rw [if_pos h, decide_eq_true h]
/-- What taking out knows of the place. -/
def TkAt (l m : List It) (x : It) (a er : Int) : Prop := (¬ inR l a ∧ m = [] ∧ x = zeroI ∧ er = 4) ∨ ∃ k : Nat, ∃ h : k < l.length, a = k ∧ m = l.take k ++ l.drop (k + 1) ∧ x = l[k] ∧ er = 0
theorem TkAt.no {l m : List It} {x : It} {a er : Int} (h : TkAt l m x a er) (he : er ≠ 0) : er = 4 := by
  rcases h with ⟨_, _, _, h⟩ | ⟨_, _, _, _, _, h⟩
  · exact h
  · exact absurd h he
theorem TkAt.yes {l m : List It} {x : It} {a : Int} (h : TkAt l m x a 0) : ∃ k : Nat, k < l.length ∧ a = k ∧ m.length + 1 = l.length ∧ m = m.take k ++ m.drop k ∧ (m.take k ++ [x]) ++ m.drop k = l := by
  rcases h with ⟨_, _, _, h⟩ | ⟨k, hk, h1, rfl, rfl, _⟩
  · exact absurd h (by decide)
  · refine ⟨k, hk, h1, by simp; omega, (List.take_append_drop ..).symm, back_at hk⟩
theorem first_at {tag : ByteArray} {t : Tr} {l : List It} (h : 0 ≤ idxB (askB tag t true) l) : ∃ j : Nat, ∃ hj : j < l.length, idxB (askB tag t true) l = j ∧ l[j].o = true := by
  rcases idx_cases (askB tag t true) l with ⟨e, _⟩ | ⟨j, hj, e, _, _⟩
  · rw [e] at h; omega
  · exact ⟨j, hj, e, first_ours hj e⟩

set_option maxHeartbeats 16000000 in
set_option maxRecDepth 100000 in
theorem mailTaken_any {w : World} {l : List It} {a : Int} {tag : ByteArray} {t : Tr} {v tv : Value} (hL : Letters w) (hl : Items (fun _ => True) w v l) (ha : IntKind.i64.wrap a = a) (ht : TrV (fun _ => True) w t tv) :
    Calls Tryz.prog 10 #[v, .int .i64 a, .string tag, .agg #[.int .i8 t.k, .int .i64 t.n, .string t.s, .string t.t, tv]] w fun e w' => e = .returned (.bool true) ∧ Below w.heap.size w w' := by
  have hlen : l.length ≤ 2199023255552 := hl.len
  obtain ⟨p, c, rfl⟩ := hl.slice
  obtain ⟨p2, c2, rfl⟩ := ht.kids.slice
  obtain ⟨i0, hi, hi0, hi1, hi2⟩ := info_parts infoItem
  have hb1 := alloc_below w (.cells #[.int .i8 t.k, .int .i64 t.n, .string t.s, .string t.t, .slice p2 t.l.length c2] 29)
  have m2 := node_heap (heap_new w (.cells #[.int .i8 t.k, .int .i64 t.n, .string t.s, .string t.t, .slice p2 t.l.length c2] 29))
  have HL := Lib.hid (hL.under hb1)
  have HI := Lib.hid (hl.under hb1)
  have HT := Lib.hid (ht.below hb1)
  have HA := Lib.hid ha
  clear hL hl ht ha
  go_enter Tryz.func10, Tryz.ntmps10
  go_upto_region 1 with fail
  generalize w.alloc (.cells #[.int .i8 t.k, .int .i64 t.n, .string t.s, .string t.t, .slice p2 t.l.length c2] 29) = w1 at hb1 HL HI HT m2 ⊢
  have hz := m2.lt
  have HM := Lib.hid (fun (W : World) (hb : Below w1.heap.size w1 W) => five (m2.keep (hb.block _ hz)))
  have cG := great17_any HI.out
  have cT := fun (W : World) (hb : Below w1.heap.size w1 W) => greatT_any (HT.out.below hb)
  have cW := fun (W : World) (hb : Below w1.heap.size w1 W) => wakes17_any (HL.out.under hb)
  generalize hg1 : (decide (200 < l.length) || l.any fun b => decide (1024 ≤ b.t.sz 1024)) = g1 at cG
  generalize decide (1024 ≤ t.sz 1024) = g2 at cT
  have HWK := Lib.hid (fun (W W' : World) (e : Ending) (hB : Below w1.heap.size w1 W) (h : e = .returned (.bool true) ∧ Below W.heap.size W W') => (⟨h.1, hb1.trans ((hB.trans (h.2.mono hB.size)).mono hb1.size)⟩ : e = .returned (.bool true) ∧ Below w.heap.size w W'))
  clear m2 hz
  cases g1
  rotate_left 1
  · clear cT hg1
    go_wp2_with (first
      | (go_at_call 30; refine cG.mono ?_; rintro e w5 ⟨rfl, hb5⟩)
      | (go_at_call 33; refine (cW _ hb5).mono ?_; rintro e w6 ⟨rfl, hb6⟩))
    go_ret
    exact HWK.out _ _ _ hb5 ⟨rfl, hb6⟩
  have hl200 : l.length ≤ 200 := by
    simp only [Bool.or_eq_false_iff, decide_eq_false_iff_not] at hg1
    omega
  clear hg1
  cases g2
  rotate_left 1
  · go_wp2_with (first
      | (go_at_call 30; refine cG.mono ?_; rintro e w5 ⟨rfl, hb5⟩; obtain ⟨t0, t1, t2, t3, t4⟩ := HM.out _ hb5)
      | (go_at_call 37; refine (cT _ hb5).mono ?_; rintro e w7 ⟨rfl, hb7⟩; have hB7 := hb5.trans (hb7.mono hb5.size))
      | (go_at_call 33; refine (cW _ hB7).mono ?_; rintro e w6 ⟨rfl, hb6⟩))
    go_ret
    exact HWK.out _ _ _ hB7 ⟨rfl, hb6⟩
  go_upto_region 4 with (first
    | (go_at_call 30; refine cG.mono ?_; rintro e w5 ⟨rfl, hb5⟩; obtain ⟨t0, t1, t2, t3, t4⟩ := HM.out _ hb5)
    | (go_at_call 37; refine (cT _ hb5).mono ?_; rintro e w7 ⟨rfl, hb7⟩; have hB7 := hb5.trans (hb7.mono hb5.size); have cK := take17_any HA.out (by omega) (HI.out.under hB7))
    | (go_at_call 38; refine cK.mono ?_; rintro e w9 ⟨v9, x9, sv9, er9, m9, rfl, hm9, hx9, hb9, hq9⟩; obtain ⟨p9, c9, rfl⟩ := hm9.slice; obtain ⟨p8, c8, rfl⟩ := hx9.kids.slice; have hn9 : (w9.alloc (.cells (cells6 zeroI (.slice none 0 0)) 65)).heap[w9.heap.size]? = some (.cells (cells6 zeroI (.slice none 0 0)) 65 (0, 0)) := heap_new w9 _)
    | (refine wpList_store_row rfl 65 _ _ rfl w9.heap.size (cells6 x9 (.slice p8 x9.t.l.length c8)) (by kernel_rfl) (by kernel_rfl) 65 (cells6 zeroI (.slice none 0 0)) hn9 (size69 _ _) (by kernel_rfl) (by kernel_rfl) ?_))
  have hr10 := setRow_heap' (cells := cells6 x9 (.slice p8 x9.t.l.length c8)) hn9
  have hb910 := below_setRow (g := w9.heap.size) (cells := cells6 x9 (.slice p8 x9.t.l.length c8)) (alloc_below w9 (.cells (cells6 zeroI (.slice none 0 0)) 65)) (Nat.le_refl _)
  change Code.wp _ _ _ _ ((w9.alloc (.cells (cells6 zeroI (.slice none 0 0)) 65)).setRow w9.heap.size (cells6 x9 (.slice p8 x9.t.l.length c8)))
  generalize (w9.alloc (.cells (cells6 zeroI (.slice none 0 0)) 65)).setRow w9.heap.size (cells6 x9 (.slice p8 x9.t.l.length c8)) = w10 at hr10 hb910 ⊢
  have hB9 := hB7.trans (hb9.mono hB7.size)
  have hB10 := hB9.trans (hb910.mono hB9.size)
  have hm10 : Items (fun g => g < w10.heap.size) w10 (.slice p9 m9.length c9) m9 := (hm9.under hb910).mono fun g _ h => h
  have hx10 : TrV (fun g => g < w10.heap.size) w10 x9.t (.slice p8 x9.t.l.length c8) := by have h := hx9.below hb910; exact ⟨h.wf, h.kids.mono fun g _ h => h⟩
  have HQ : Hid (TkAt l m9 x9 a er9) := Lib.hid hq9
  have HX10 := Lib.hid hx10
  have HM10 := Lib.hid hm10
  clear cG cT cK hb5 hb7 hn9 hm9 hx9 hq9 hb9 hb910 hm10 hx10 t0 t1 t2 t3 t4
  by_cases he : er9 = 0
  case' neg =>
    obtain rfl := HQ.out.no he
    clear he
    go_upto_region 13 with fail
    obtain ⟨w12, hw12⟩ : ∃ W, W = w10 := ⟨w10, rfl⟩
    have hB12 := hB10
    rw [← hw12] at hB12 ⊢
    clear hw12 hr10
  case' pos =>
    subst he
    obtain ⟨k, hk, rfl, hml, hmk, hback⟩ := HQ.out.yes
    have hkn : k ≤ m9.length := by omega
    have h5 : ((m9.length : Int) != (l.length : Int) - 1) = false := by simp; omega
    have h6 : ¬ m9.length < k := by omega
    have h7 : ¬ (m9.length : Int) < (k : Int) := by omega
    have e1 : (m9.take k).length = k := by rw [List.length_take]; omega
    have e2 : (m9.drop k).length = m9.length - k := List.length_drop
    have hcap := HM10.out.room.2
    have hs1 : Items (fun g => g < w10.heap.size) w10 (.slice p9 k c9) (m9.take k) := by
      have h2 : Items (fun g => g < w10.heap.size) w10 (.slice p9 m9.length c9) (m9.take k ++ m9.drop k) := by rw [List.take_append_drop]; exact HM10.out
      have := h2.front c9 (by omega) (fun e => by subst e; exact HM10.out.none.2)
      rwa [e1] at this
    have hkc : (k : Int) ≤ (c9 : Int) := by omega
    have hkc2 : k ≤ c9 := by omega
    have hk0 : (0 : Int) ≤ (k : Int) := by omega
    have hml2 : m9.length ≤ 200 := by omega
    have HE := Lib.hid (And.intro e1 (And.intro e2 (And.intro hml hback)))
    have hzx := (six_facts hr10).1
    have hlA : ([] : List (It × Value)).length + (m9.take k).length ≤ 1048576 := by rw [e1]; simp; omega
    clear e1 e2 hml hmk hback
    go_upto_region 9 with (at_builtin; refine wpList_append_items rfl (.tmp 51) (.tmp 54) rfl w10.heap.size (.slice none 0 0) [] rfl (IRow.nil _ _) p9 k c9 (m9.take k) rfl hs1 hlA (Nat.le_refl _) ?_; intro v21 w21 L21 hrow21 hLm21 hb21)
    rw [List.nil_append] at hrow21
    obtain ⟨q21, c21, rfl⟩ := hrow21.slice
    have hl21 : L21.length ≤ 200 := by have := congrArg List.length hLm21; rw [List.length_map, HE.out.1] at this; omega
    have hr21 := (hb21.block _ hzx).trans hr10
    obtain ⟨_, ⟨s0, s1, s2, s3, s4, s5⟩, _⟩ := six_facts hr21
    have hb5a := alloc_below w21 (.cells (icells (x9, .slice p8 x9.t.l.length c8)).toArray 65)
    have hrow22 := hrow21.under hb5a
    have hown22 := hrow22.own
    have HR22 := Lib.hid hrow22
    have hsz22 : w10.heap.size ≤ (w21.alloc (.cells (icells (x9, .slice p8 x9.t.l.length c8)).toArray 65)).heap.size := by have := hb21.size; simp; omega
    have HXP := Lib.hid (HX10.out.below hb21)
    have HLM := Lib.hid hLm21
    clear hrow21 hrow22 hs1 hr10 hr21 hLm21
    go_upto_region 10 with (at_builtin; refine wpList_append_own _ rfl (.tmp 56) (.tmp 58) 55 rfl w10.heap.size 65 i0 _ 6 80 Tryz.underlying55 hi hi0 hi1 hi2 rfl (by decide) _ L21.length (L21.flatMap icells) rfl hown22 ⟨w21.heap.size, 0, none⟩ 1 1 (icells (x9, .slice p8 x9.t.l.length c8)) rfl rfl (cells_at_new w21 (icells (x9, .slice p8 x9.t.l.length c8)) 65) (icells_plain (q := (x9, .slice p8 x9.t.l.length c8)) HXP.out) (by unfold maxLen; omega) (by omega) hsz22 ?_; intro v23 w23 hown23 hgrow23 hnil23)
    have hb23 : Below w10.heap.size (w21.alloc (.cells (icells (x9, .slice p8 x9.t.l.length c8)).toArray 65)) w23 := (Below.refl _ _).grown hgrow23 hsz22 (row_base HR22.out.own)
    have hrow23 := HR22.out.push (b := x9) (HXP.out.below hb5a) hown23 hb23
    have hbx : Below w10.heap.size w10 w23 := (hb21.trans (hb5a.mono hb21.size)).trans hb23
    have hmap23 : (L21 ++ [(x9, Value.slice p8 x9.t.l.length c8)]).map (·.1) = m9.take k ++ [x9] := by rw [List.map_append, HLM.out]; rfl
    have hl23 : (L21 ++ [(x9, Value.slice p8 x9.t.l.length c8)]).length ≤ 201 := by rw [List.length_append]; simp; omega
    generalize L21 ++ [(x9, Value.slice p8 x9.t.l.length c8)] = L23 at hrow23 hmap23 hl23
    obtain ⟨q23, c23, rfl⟩ := hrow23.slice
    have HMAP := Lib.hid hmap23
    have HB23 := Lib.hid hbx
    have hsz23 : w10.heap.size ≤ w23.heap.size := hbx.size
    have hlB : L23.length + (m9.drop k).length ≤ 1048576 := by rw [HE.out.2.1]; omega
    have HFIN := Lib.hid (fun (v24 : Value) (w24 : World) (L24 : List (It × Value)) (hrow : IRow w10.heap.size w24 v24 (L23 ++ L24)) (hLm : L24.map (·.1) = m9.drop k) (hb : Below w10.heap.size w23 w24) =>
      (show Items (fun _ => True) w24 v24 l ∧ Below w1.heap.size w1 w24 by
        have h1 := hrow.items (by have h2 := congrArg List.length hLm; rw [List.length_map] at h2; rw [List.length_append]; unfold BL; omega)
        rw [List.map_append, HMAP.out, hLm, HE.out.2.2.2] at h1
        exact ⟨h1, hB10.trans ((HB23.out.trans hb).mono hB10.size)⟩))
    clear hmap23 hown22 hown23 hgrow23 hnil23 hb5a hsz22 hb21 hb23 hbx s0 s1 s2 s3 s4 s5
    have hck : c9 = k ∨ c9 ≠ k := by omega
    cases hck
  case' inl hck =>
    have hs2 : Items (fun g => g < w10.heap.size) w23 (.slice p9 0 0) (m9.drop k) := by
      rw [List.drop_eq_nil_of_le (by omega)]
      exact ⟨_, 0, rfl, Nat.le_refl _, Nat.zero_le _, fun i hi => absurd hi (by simp), fun _ => rfl⟩
    have HROW := Lib.hid hrow23
    subst hck
    clear hrow23
    go_upto_region 11 with (at_builtin; refine wpList_append_items rfl (.tmp 60) (.tmp 63) rfl w10.heap.size _ L23 rfl HROW.out p9 0 0 _ rfl hs2 hlB hsz23 ?_; intro v24 w24 L24 hrow24 hLm24 hb24)
    obtain ⟨hit24, hB24⟩ := HFIN.out _ _ _ hrow24 hLm24 hb24
    obtain ⟨q24, c24, hv24⟩ := hit24.slice
    subst hv24
    have cS := mailsame_any hit24 (HI.out.under hB24)
    rw [sameI_self] at cS
    have HIT := Lib.hid hit24
    clear hrow24 hLm24 hb24 hs2 hit24
    go_upto_region 13 with (first
      | (go_at_call 47; refine cS.mono ?_; rintro e w25 ⟨rfl, hb25⟩; have cR := rsame17_any (HIT.out.under hb25) ((HI.out.under hB24).under hb25); rw [sameI_self] at cR)
      | (go_at_call 42; refine cR.mono ?_; rintro e w12 ⟨rfl, hb12⟩))
    have hB12 := (hB24.trans (hb25.mono hB24.size)).trans (hb12.mono (hB24.trans (hb25.mono hB24.size)).size)
    clear hb25 hb12 cS cR hB24
  case' inr hck =>
    obtain ⟨ad, rfl⟩ : ∃ ad, p9 = some ad := by
      cases p9 with
      | none => have := HM10.out.none; exact absurd (show c9 = k by omega) hck
      | some ad => exact ⟨ad, rfl⟩
    have hs2 : Items (fun g => g < w10.heap.size) w23 (.slice (some (ad.add (k * 6))) (m9.length - k) (c9 - k)) (m9.drop k) := by
      have h2 : Items (fun g => g < w10.heap.size) w10 (.slice (some ad) m9.length c9) (m9.take k ++ m9.drop k) := by rw [List.take_append_drop]; exact HM10.out
      have h3 := h2.back.under HB23.out
      rwa [HE.out.1, HE.out.2.1] at h3
    have HROW := Lib.hid hrow23
    have hck2 : ¬ c9 = k := hck
    have hck3 : ¬ k = c9 := fun h => hck h.symm
    have hck4 : ¬ (k : Int) = (c9 : Int) := by omega
    have hck5 : ¬ (c9 : Int) = (k : Int) := by omega
    have hck6 : k < c9 := by omega
    clear hrow23 hck
    go_upto_region 11 with (at_builtin; refine wpList_append_items rfl (.tmp 60) (.tmp 63) rfl w10.heap.size _ L23 rfl HROW.out _ _ _ _ rfl hs2 hlB hsz23 ?_; intro v24 w24 L24 hrow24 hLm24 hb24)
    obtain ⟨hit24, hB24⟩ := HFIN.out _ _ _ hrow24 hLm24 hb24
    obtain ⟨q24, c24, hv24⟩ := hit24.slice
    subst hv24
    have cS := mailsame_any hit24 (HI.out.under hB24)
    rw [sameI_self] at cS
    have HIT := Lib.hid hit24
    clear hrow24 hLm24 hb24 hs2 hit24
    go_upto_region 13 with (first
      | (go_at_call 47; refine cS.mono ?_; rintro e w25 ⟨rfl, hb25⟩; have cR := rsame17_any (HIT.out.under hb25) ((HI.out.under hB24).under hb25); rw [sameI_self] at cR)
      | (go_at_call 42; refine cR.mono ?_; rintro e w12 ⟨rfl, hb12⟩))
    have hB12 := (hB24.trans (hb25.mono hB24.size)).trans (hb12.mono (hB24.trans (hb25.mono hB24.size)).size)
    clear hb25 hb12 cS cR hB24
  all_goals
    obtain ⟨t0, t1, t2, t3, t4⟩ := HM.out _ hB12
    have cWo := without_any (tag := tag) (by omega) (HI.out.under hB12) (HT.out.below hB12)
    have hu := with_users tag t l
    have hle := with_le tag t l
    have hours := with_ours tag t l
    have hgone := with_gone tag t l
    have HU := Lib.hid hu
    have HOU := Lib.hid hours
    have HGO := Lib.hid hgone
    clear hu hours hgone
    go_upto_region 14 with (go_at_call 43; refine cWo.mono ?_; rintro e w13 ⟨v13, rfl, hv13, hb13⟩; obtain ⟨p13, c13, rfl⟩ := hv13.slice)
    have hB13 := hB12.trans (hb13.mono hB12.size)
    clear cWo t0 t1 t2 t3 t4 hb13
    generalize withB tag t l = wl at hv13 HU hle HOU HGO ⊢
    obtain ⟨t0, t1, t2, t3, t4⟩ := HM.out _ hB13
    have cF1 := first17_any (tag := tag) (ours := true) hv13 (HT.out.below hB13)
    rw [pick_no (by simpa using HGO.out)] at cF1
    have HV13 := Lib.hid hv13
    clear hv13
    go_upto_region 15 with (go_at_call 40; refine cF1.mono ?_; rintro e w14 ⟨rfl, hb14⟩)
    have hB14 := hB13.trans (hb14.mono hB13.size)
    have HV14 := Lib.hid (HV13.out.under hb14)
    clear cF1 t0 t1 t2 t3 t4 hb14
    obtain ⟨t0, t1, t2, t3, t4⟩ := HM.out _ hB14
    have cF2 := first17_any (tag := tag) (ours := true) (HI.out.under hB14) (HT.out.below hB14)
    have hne : (((usersB l : Nat) : Int) != ((usersB l : Nat) : Int)) = false := by simp
    have tok : True := trivial
    by_cases hj : 0 ≤ idxB (askB tag t true) l
    · obtain ⟨j, hj', hjk, hjo⟩ := first_at hj
      have hlt : wl.length < l.length := by have h := HOU.out; rw [decide_eq_true hj] at h; simpa using h
      rw [pick_yes hj, hjk] at cF2
      obtain ⟨g, o, kv, rfl, _, _, ho, _⟩ := HI.out.at hj'
      rw [hjo] at ho
      have HO := Lib.hid ho
      clear hj hjk hjo ho
      go_upto_region 17 with (go_at_call 40; refine cF2.mono ?_; rintro e w15 ⟨rfl, hb15⟩)
      have hB15 := hB14.trans (hb15.mono hB14.size)
      generalize hgn : ((l.length : Int) - (wl.length : Int)) = gn
      have hgn0 : 0 < gn := by omega
      have cU1 := users_any (HV14.out.under hb15)
      rw [HU.out] at cU1
      clear hgn cF2 t0 t1 t2 t3 t4 hb15
      have hj8 : ¬ (l.length : Int) ≤ (j : Int) := by omega
      have hj9 : ¬ l.length ≤ j := by omega
      go_wp2_with (first
        | (go_at_call 45; have _t := tok; refine cU1.mono ?_; rintro e w16 ⟨rfl, hb16⟩; have hB16 := hB15.trans (hb16.mono hB15.size); have cU2 := users_any (HI.out.under hB16); clear tok)
        | (go_at_call 45; refine cU2.mono ?_; rintro e w17 ⟨rfl, hb17⟩; have hB17 := hB16.trans (hb17.mono hB16.size); have ho17 := (hB17.cell (p := ⟨g, o + j * 6 + 5, none⟩) (cell_block HO.out)).trans HO.out)
        | (go_at_call 33; refine (cW _ hB17).mono ?_; rintro e w18 ⟨rfl, hb18⟩))
      go_ret
      exact HWK.out _ _ _ hB17 ⟨rfl, hb18⟩
    · have hlt : wl.length = l.length := by have h := HOU.out; rw [decide_eq_false hj] at h; have := of_decide_eq_false h; omega
      rw [pick_no hj] at cF2
      have HLT := Lib.hid hlt
      clear hj hlt
      go_upto_region 17 with (go_at_call 40; refine cF2.mono ?_; rintro e w15 ⟨rfl, hb15⟩)
      have hB15 := hB14.trans (hb15.mono hB14.size)
      generalize hgn : ((l.length : Int) - (wl.length : Int)) = gn
      obtain rfl : gn = 0 := by have := HLT.out; omega
      have cU1 := users_any (HV14.out.under hb15)
      rw [HU.out] at cU1
      clear hgn cF2 t0 t1 t2 t3 t4 hb15
      go_wp2_with (first
        | (go_at_call 45; have _t := tok; refine cU1.mono ?_; rintro e w16 ⟨rfl, hb16⟩; have hB16 := hB15.trans (hb16.mono hB15.size); have cU2 := users_any (HI.out.under hB16); clear tok)
        | (go_at_call 45; refine cU2.mono ?_; rintro e w17 ⟨rfl, hb17⟩; have hB17 := hB16.trans (hb17.mono hB16.size))
        | (go_at_call 33; refine (cW _ hB17).mono ?_; rintro e w18 ⟨rfl, hb18⟩))
      go_ret
      exact HWK.out _ _ _ hB17 ⟨rfl, hb18⟩
end Go.Proofs.YtlhobpknflobgaaGreatDoor
