/-
  pleachlaw17.MailRows holds. Conditions: the items lie as 'Items' says, the term as 'TrV' says; the table of letters is as it was laid.
-/
import Derived.Test.YtlhobpknflobgaaGreatDoorLw7
namespace Go.Proofs.YtlhobpknflobgaaGreatDoor
open Go.RowKit

theorem bal {w W : World} (h : Below w.heap.size w W) (o : Obj) : Below w.heap.size w (W.alloc o) := h.trans ((alloc_below W o).mono h.size)
theorem TkAt.same {l m m' : List It} {x x' : It} {a er er' : Int} (h : TkAt l m x a er) (h' : TkAt l m' x' a er') : m' = m ∧ x' = x ∧ er' = er := by
  rcases h with ⟨h1, rfl, rfl, rfl⟩ | ⟨k, hk, rfl, rfl, rfl, rfl⟩
  · rcases h' with ⟨h2, rfl, rfl, rfl⟩ | ⟨k', hk', rfl, rfl, rfl, rfl⟩
    · exact ⟨rfl, rfl, rfl⟩
    · exact absurd (show inR l (k' : Int) by unfold inR; omega) h1
  · rcases h' with ⟨h2, rfl, rfl, rfl⟩ | ⟨k', hk', h2, rfl, rfl, rfl⟩
    · exact absurd (show inR l (k : Int) by unfold inR; omega) h2
    · obtain rfl : k' = k := by omega
      exact ⟨rfl, rfl, rfl⟩
theorem oneRow {W : World} {b : Nat} {x : It} {sv : Value} {T : TypeId} (h : W.heap[b]? = some (.cells (cells6 x sv) T (0, 0))) (hx : TrV (fun _ => True) W x.t sv) : Items (fun _ => True) W (.slice (some ⟨b, 0, none⟩) 1 1) [x] := by
  obtain ⟨_, ⟨s0, s1, s2, s3, s4, s5⟩, _⟩ := six_facts h
  refine ⟨_, 1, rfl, Nat.le_refl _, by simp [BL], fun i hi => ?_, fun e => by cases e⟩
  match i, hi with
  | 0, _ => exact ⟨b, 0, sv, rfl, trivial, ⟨s0, s1, s2, s3, s4⟩, s5, hx⟩
/-- The two rows of one item each, as the call asks of them. -/
theorem same_ones {w W : World} {b b' : Nat} {x : It} {sv tv : Value} {T : TypeId} (h : W.heap[b]? = some (.cells (cells6 x sv) T (0, 0))) (h' : W.heap[b']? = some (.cells (cells6 x tv) T (0, 0))) (hx : TrV (fun _ => True) w x.t sv) (hx' : TrV (fun _ => True) w x.t tv) (hb : Below w.heap.size w W) :
    Calls Tryz.prog 42 #[.slice (some ⟨b, 0, none⟩) 1 1, .slice (some ⟨b', 0, none⟩) 1 1] W fun e w' => e = .returned (.bool true) ∧ Below W.heap.size W w' := by
  have := rsame17_any (oneRow h (hx.below hb)) (oneRow h' (hx'.below hb))
  rwa [sameI_self] at this

set_option maxHeartbeats 16000000 in
set_option maxRecDepth 100000 in
theorem mailRows_any {w : World} {l o : List It} {a : Int} {tag : ByteArray} {t : Tr} {ours : Bool} {v u tv : Value} (hL : Letters w) (hl : Items (fun _ => True) w v l) (ho : Items (fun _ => True) w u o) (ha : IntKind.i64.wrap a = a) (ht : TrV (fun _ => True) w t tv) :
    Calls Tryz.prog 9 #[v, u, .int .i64 a, .string tag, .agg #[.int .i8 t.k, .int .i64 t.n, .string t.s, .string t.t, tv], .bool ours] w fun e w' => e = .returned (.bool true) ∧ Below w.heap.size w w' := by
  have hlen : l.length ≤ 2199023255552 := hl.len
  obtain ⟨p, c, rfl⟩ := hl.slice
  obtain ⟨po, co, rfl⟩ := ho.slice
  obtain ⟨p2, c2, rfl⟩ := ht.kids.slice
  have hb1 := alloc_below w (.cells #[.int .i8 t.k, .int .i64 t.n, .string t.s, .string t.t, .slice p2 t.l.length c2] 29)
  have m2 := node_heap (heap_new w (.cells #[.int .i8 t.k, .int .i64 t.n, .string t.s, .string t.t, .slice p2 t.l.length c2] 29))
  have HL := Lib.hid (hL.under hb1)
  have HI := Lib.hid (hl.under hb1)
  have HO := Lib.hid (ho.under hb1)
  have HT := Lib.hid (ht.below hb1)
  have HA := Lib.hid ha
  clear hL hl ho ht ha
  go_enter Tryz.func9, Tryz.ntmps9
  go_upto_region 1 with fail
  generalize w.alloc (.cells #[.int .i8 t.k, .int .i64 t.n, .string t.s, .string t.t, .slice p2 t.l.length c2] 29) = w1 at hb1 HL HI HO HT m2 ⊢
  have hz := m2.lt
  have HM := Lib.hid (fun (W : World) (hb : Below w1.heap.size w1 W) => five (m2.keep (hb.block _ hz)))
  have cG := great17_any HI.out
  have cO := fun (W : World) (hb : Below w1.heap.size w1 W) => great17_any (HO.out.under hb)
  have cT := fun (W : World) (hb : Below w1.heap.size w1 W) => greatT_any (HT.out.below hb)
  have cW := fun (W : World) (hb : Below w1.heap.size w1 W) => wakes17_any (HL.out.under hb)
  generalize hg1 : (decide (200 < l.length) || l.any fun b => decide (1024 ≤ b.t.sz 1024)) = g1 at cG
  generalize (decide (200 < o.length) || o.any fun b => decide (1024 ≤ b.t.sz 1024)) = g3 at cO
  generalize decide (1024 ≤ t.sz 1024) = g2 at cT
  have HWK := Lib.hid (fun (W W' : World) (e : Ending) (hB : Below w1.heap.size w1 W) (h : e = .returned (.bool true) ∧ Below W.heap.size W W') => (⟨h.1, hb1.trans ((hB.trans (h.2.mono hB.size)).mono hb1.size)⟩ : e = .returned (.bool true) ∧ Below w.heap.size w W'))
  clear m2 hz
  have tok1 : True := trivial
  cases g1
  rotate_left 1
  · clear cT cO hg1
    go_wp2_with (first
      | (go_at_call 30; refine cG.mono ?_; rintro e w5 ⟨rfl, hb5⟩)
      | (go_at_call 33; refine (cW _ hb5).mono ?_; rintro e w6 ⟨rfl, hb6⟩))
    go_ret
    exact HWK.out _ _ _ hb5 ⟨rfl, hb6⟩
  have hl200 : l.length ≤ 200 := by
    simp only [Bool.or_eq_false_iff, decide_eq_false_iff_not] at hg1
    omega
  clear hg1
  cases g3
  rotate_left 1
  · clear cT
    go_wp2_with (first
      | (go_at_call 30; have _t := tok1; refine cG.mono ?_; rintro e w5 ⟨rfl, hb5⟩; clear tok1)
      | (go_at_call 30; refine (cO _ hb5).mono ?_; rintro e w7 ⟨rfl, hb7⟩; have hB7 := hb5.trans (hb7.mono hb5.size))
      | (go_at_call 33; refine (cW _ hB7).mono ?_; rintro e w6 ⟨rfl, hb6⟩))
    go_ret
    exact HWK.out _ _ _ hB7 ⟨rfl, hb6⟩
  cases g2
  rotate_left 1
  · go_wp2_with (first
      | (go_at_call 30; have _t := tok1; refine cG.mono ?_; rintro e w5 ⟨rfl, hb5⟩; clear tok1)
      | (go_at_call 30; refine (cO _ hb5).mono ?_; rintro e w7 ⟨rfl, hb7⟩; have hB7 := hb5.trans (hb7.mono hb5.size); obtain ⟨t0, t1, t2, t3, t4⟩ := HM.out _ hB7)
      | (go_at_call 37; refine (cT _ hB7).mono ?_; rintro e w8 ⟨rfl, hb8⟩; have hB8 := hB7.trans (hb8.mono hB7.size))
      | (go_at_call 33; refine (cW _ hB8).mono ?_; rintro e w6 ⟨rfl, hb6⟩))
    go_ret
    exact HWK.out _ _ _ hB8 ⟨rfl, hb6⟩
  go_upto_region 4 with (first
    | (go_at_call 30; have _t := tok1; refine cG.mono ?_; rintro e w5 ⟨rfl, hb5⟩; clear tok1)
    | (go_at_call 30; refine (cO _ hb5).mono ?_; rintro e w7 ⟨rfl, hb7⟩; have hB7 := hb5.trans (hb7.mono hb5.size); obtain ⟨t0, t1, t2, t3, t4⟩ := HM.out _ hB7)
    | (go_at_call 37; refine (cT _ hB7).mono ?_; rintro e w8 ⟨rfl, hb8⟩; have hB8 := hB7.trans (hb8.mono hB7.size); have cK := take17_any HA.out (by omega) (HI.out.under hB8))
    | (go_at_call 38; refine cK.mono ?_; rintro e w9 ⟨v9, x9, sv9, er9, m9, rfl, hm9, hx9, hb9, hq9⟩; obtain ⟨p9, c9, rfl⟩ := hm9.slice; obtain ⟨p8, c8, rfl⟩ := hx9.kids.slice; have hn9 : (w9.alloc (.cells (cells6 zeroI (.slice none 0 0)) 65)).heap[w9.heap.size]? = some (.cells (cells6 zeroI (.slice none 0 0)) 65 (0, 0)) := heap_new w9 _)
    | (refine wpList_store_row rfl 65 _ _ rfl w9.heap.size (cells6 x9 (.slice p8 x9.t.l.length c8)) (by kernel_rfl) (by kernel_rfl) 65 (cells6 zeroI (.slice none 0 0)) hn9 (size69 _ _) (by kernel_rfl) (by kernel_rfl) ?_))
  have hr10 := setRow_heap' (cells := cells6 x9 (.slice p8 x9.t.l.length c8)) hn9
  have hb910 := below_setRow (g := w9.heap.size) (cells := cells6 x9 (.slice p8 x9.t.l.length c8)) (alloc_below w9 (.cells (cells6 zeroI (.slice none 0 0)) 65)) (Nat.le_refl _)
  change Code.wp _ _ _ _ ((w9.alloc (.cells (cells6 zeroI (.slice none 0 0)) 65)).setRow w9.heap.size (cells6 x9 (.slice p8 x9.t.l.length c8)))
  generalize (w9.alloc (.cells (cells6 zeroI (.slice none 0 0)) 65)).setRow w9.heap.size (cells6 x9 (.slice p8 x9.t.l.length c8)) = w10 at hr10 hb910 ⊢
  have hB9 := hB8.trans (hb9.mono hB8.size)
  have hB10 := hB9.trans (hb910.mono hB9.size)
  have HQ : Hid (TkAt l m9 x9 a er9) := Lib.hid hq9
  have HX10 := Lib.hid (hx9.below hb910)
  have HM10 := Lib.hid (hm9.under hb910)
  have HR10 := Lib.hid hr10
  generalize w9.heap.size = bx at *
  have cK2 := rtake17_any HA.out (by omega) (HI.out.under hB10)
  clear cG cO cT cK hb5 hb7 hb8 hn9 hm9 hx9 hq9 hb9 hb910 hr10 t0 t1 t2 t3 t4
  go_upto_region 5 with (first
    | (go_at_call 39; refine cK2.mono ?_; rintro e w11 ⟨v11, x11, sv11, er11, m11, rfl, hm11, hx11, hb11, hq11⟩; obtain ⟨rfl, rfl, rfl⟩ := HQ.out.same hq11; obtain ⟨p11, c11, rfl⟩ := hm11.slice; obtain ⟨p12, c12, rfl⟩ := hx11.kids.slice; have hn11 : (w11.alloc (.cells (cells6 zeroI (.slice none 0 0)) 65)).heap[w11.heap.size]? = some (.cells (cells6 zeroI (.slice none 0 0)) 65 (0, 0)) := heap_new w11 _)
    | (refine wpList_store_row rfl 65 _ _ rfl w11.heap.size (cells6 x11 (.slice p12 x11.t.l.length c12)) (by kernel_rfl) (by kernel_rfl) 65 (cells6 zeroI (.slice none 0 0)) hn11 (size69 _ _) (by kernel_rfl) (by kernel_rfl) ?_))
  have hr12 := setRow_heap' (cells := cells6 x11 (.slice p12 x11.t.l.length c12)) hn11
  have hb1112 := below_setRow (g := w11.heap.size) (cells := cells6 x11 (.slice p12 x11.t.l.length c12)) (alloc_below w11 (.cells (cells6 zeroI (.slice none 0 0)) 65)) (Nat.le_refl _)
  change Code.wp _ _ _ _ ((w11.alloc (.cells (cells6 zeroI (.slice none 0 0)) 65)).setRow w11.heap.size (cells6 x11 (.slice p12 x11.t.l.length c12)))
  generalize (w11.alloc (.cells (cells6 zeroI (.slice none 0 0)) 65)).setRow w11.heap.size (cells6 x11 (.slice p12 x11.t.l.length c12)) = w12 at hr12 hb1112 ⊢
  have hb1012 := hb11.trans (hb1112.mono hb11.size)
  have hB12 := hB10.trans (hb1012.mono hB10.size)
  have HX12 := Lib.hid (HX10.out.below hb1012)
  have HM12 := Lib.hid (HM10.out.under hb1012)
  have HX12' := Lib.hid (hx11.below hb1112)
  have HM12' := Lib.hid (hm11.under hb1112)
  have HR12 := Lib.hid ((hb1012.block _ (six_facts HR10.out).1).trans HR10.out)
  have HR12' := Lib.hid hr12
  generalize w11.heap.size = by' at *
  obtain ⟨t0, t1, t2, t3, t4⟩ := HM.out _ hB12
  have cF := first17_any (tag := tag) (ours := ours) (HI.out.under hB12) (HT.out.below hB12)
  have cF2 := fun (W : World) (hb : Below w12.heap.size w12 W) => rfirst17_any (tag := tag) (ours := ours) (HI.out.under (hB12.trans (hb.mono hB12.size))) (HT.out.below (hB12.trans (hb.mono hB12.size)))
  unfold pickV at cF cF2
  generalize (if 0 ≤ idxB (askB tag t ours) l then idxB (askB tag t ours) l else 0) = q1 at cF cF2
  generalize decide (0 ≤ idxB (askB tag t ours) l) = q2 at cF cF2
  clear cK2 hn11 hm11 hx11 hq11 hb11 hb1112 hr12 hb1012
  go_upto_region 6 with (go_at_call 40; refine cF.mono ?_; rintro e w13 ⟨rfl, hb13⟩)
  obtain ⟨t0, t1, t2, t3, t4⟩ := HM.out _ (hB12.trans (hb13.mono hB12.size))
  go_upto_region 7 with (go_at_call 41; refine (cF2 _ hb13).mono ?_; rintro e w14 ⟨rfl, hb14⟩)
  have hb1214 := hb13.trans (hb14.mono hb13.size)
  have hB14 := hB12.trans (hb1214.mono hB12.size)
  have HX := Lib.hid (HX12.out.below hb1214)
  have HX' := Lib.hid (HX12'.out.below hb1214)
  have hr14 := (hb1214.block _ (six_facts HR12.out).1).trans HR12.out
  have hr14' := (hb1214.block _ (six_facts HR12'.out).1).trans HR12'.out
  obtain ⟨t0, t1, t2, t3, t4⟩ := HM.out _ hB14
  have cS1 := fun (W : World) (hb : Below w14.heap.size w14 W) => rsame17_any (HM12.out.under (hb1214.trans (hb.mono hb1214.size))) (HM12'.out.under (hb1214.trans (hb.mono hb1214.size)))
  simp only [sameI_self] at cS1
  have cWo := fun (W : World) (hb : Below w14.heap.size w14 W) => without_any (tag := tag) (by omega) (HI.out.under (hB14.trans (hb.mono hB14.size))) (HT.out.below (hB14.trans (hb.mono hB14.size)))
  have cWr := fun (W : World) (hb : Below w14.heap.size w14 W) => rwithout_any (tag := tag) (by omega) (HI.out.under (hB14.trans (hb.mono hB14.size))) (HT.out.below (hB14.trans (hb.mono hB14.size)))
  have cU := fun (W : World) (hb : Below w14.heap.size w14 W) => users_any (HI.out.under (hB14.trans (hb.mono hB14.size)))
  have cU' := fun (W : World) (hb : Below w14.heap.size w14 W) => rusers_any (HI.out.under (hB14.trans (hb.mono hB14.size)))
  have cE := fun (W : World) (hb : Below w14.heap.size w14 W) => mailsame_any (HI.out.under (hB14.trans (hb.mono hB14.size))) (HO.out.under (hB14.trans (hb.mono hB14.size)))
  have cE' := fun (W : World) (hb : Below w14.heap.size w14 W) => rsame17_any (HI.out.under (hB14.trans (hb.mono hB14.size))) (HO.out.under (hB14.trans (hb.mono hB14.size)))
  have cW2 := fun (W : World) (hb : Below w14.heap.size w14 W) => cW W (hB14.trans (hb.mono hB14.size))
  generalize sameI l o = q3 at cE cE'
  generalize usersB l = q4 at cU cU'
  have HWo := Lib.hid (fun (W : World) (v v' : Value) (h : Items (fun _ => True) W v (withB tag t l)) (h' : Items (fun _ => True) W v' (withB tag t l)) => (by have := rsame17_any h h'; rwa [sameI_self] at this : Calls Tryz.prog 42 #[v, v'] W fun e w' => e = .returned (.bool true) ∧ Below W.heap.size W w'))
  have he1 : (er11 == er11) = true := by simp
  have he2 : (q1 == q1) = true := by simp
  have he3 : (q2 == q2) = true := by simp
  have he4 : (q3 == q3) = true := by simp
  have he5 : ((q4 : Int) == (q4 : Int)) = true := by simp
  have hS : ∀ W : World, Below w14.heap.size w14 W → (W.cell? ⟨w.heap.size, 0, none⟩ = some (.int .i8 t.k) ∧ W.cell? ⟨w.heap.size, 1, none⟩ = some (.int .i64 t.n) ∧ W.cell? ⟨w.heap.size, 2, none⟩ = some (.string t.s) ∧ W.cell? ⟨w.heap.size, 3, none⟩ = some (.string t.t) ∧ W.cell? ⟨w.heap.size, 4, none⟩ = some (.slice p2 t.l.length c2)) ∧
      (W.cell? ⟨bx, 0, none⟩ = some (.int .i8 x11.t.k) ∧ W.cell? ⟨bx, 1, none⟩ = some (.int .i64 x11.t.n) ∧ W.cell? ⟨bx, 2, none⟩ = some (.string x11.t.s) ∧ W.cell? ⟨bx, 3, none⟩ = some (.string x11.t.t) ∧ W.cell? ⟨bx, 4, none⟩ = some (.slice p8 x11.t.l.length c8) ∧ W.cell? ⟨bx, 5, none⟩ = some (.bool x11.o)) ∧
      (W.cell? ⟨by', 0, none⟩ = some (.int .i8 x11.t.k) ∧ W.cell? ⟨by', 1, none⟩ = some (.int .i64 x11.t.n) ∧ W.cell? ⟨by', 2, none⟩ = some (.string x11.t.s) ∧ W.cell? ⟨by', 3, none⟩ = some (.string x11.t.t) ∧ W.cell? ⟨by', 4, none⟩ = some (.slice p12 x11.t.l.length c12) ∧ W.cell? ⟨by', 5, none⟩ = some (.bool x11.o)) := by
    intro W hb
    exact ⟨HM.out _ (hB14.trans (hb.mono hB14.size)), (six_facts ((hb.block _ (six_facts hr14).1).trans hr14)).2.1, (six_facts ((hb.block _ (six_facts hr14').1).trans hr14')).2.1⟩
  have hB0 : Below w14.heap.size w14 w14 := Below.refl _ _
  have hBd : Below w14.heap.size w14 w14.drew := below_drewN (Below.refl _ _) 1
  have hS0 := hS w14 hB0
  have tok2 : True := trivial
  have tok3 : True := trivial
  have tok4 : True := trivial
  clear cF cF2 hb13 hb14 hb1214 hr14 hr14' t0 t1 t2 t3 t4
  go_region_held3 (fun W => (W.cell? ⟨w.heap.size, 0, none⟩ = some (.int .i8 t.k) ∧ W.cell? ⟨w.heap.size, 1, none⟩ = some (.int .i64 t.n) ∧ W.cell? ⟨w.heap.size, 2, none⟩ = some (.string t.s) ∧ W.cell? ⟨w.heap.size, 3, none⟩ = some (.string t.t) ∧ W.cell? ⟨w.heap.size, 4, none⟩ = some (.slice p2 t.l.length c2)) ∧
      (W.cell? ⟨bx, 0, none⟩ = some (.int .i8 x11.t.k) ∧ W.cell? ⟨bx, 1, none⟩ = some (.int .i64 x11.t.n) ∧ W.cell? ⟨bx, 2, none⟩ = some (.string x11.t.s) ∧ W.cell? ⟨bx, 3, none⟩ = some (.string x11.t.t) ∧ W.cell? ⟨bx, 4, none⟩ = some (.slice p8 x11.t.l.length c8) ∧ W.cell? ⟨bx, 5, none⟩ = some (.bool x11.o)) ∧
      (W.cell? ⟨by', 0, none⟩ = some (.int .i8 x11.t.k) ∧ W.cell? ⟨by', 1, none⟩ = some (.int .i64 x11.t.n) ∧ W.cell? ⟨by', 2, none⟩ = some (.string x11.t.s) ∧ W.cell? ⟨by', 3, none⟩ = some (.string x11.t.t) ∧ W.cell? ⟨by', 4, none⟩ = some (.slice p12 x11.t.l.length c12) ∧ W.cell? ⟨by', 5, none⟩ = some (.bool x11.o))) ((refine hS _ ?_; first | assumption | (refine bal ?_ _; assumption) | (refine bal (bal ?_ _) _; assumption))) (first
    | (go_at_call 42; have _t := tok2; refine (cS1 _ hBd).mono ?_; rintro e w15 ⟨rfl, hb15⟩
       have hB15 := hBd.trans (hb15.mono hBd.size)
       clear tok2)
    | (go_at_call 42; have _t := tok3; refine Calls.mono (same_ones (two_new w15 _ _).1 (two_new w15 _ _).2.1 HX.out HX'.out (bal (bal hB15 _) _)) ?_; rintro e w16 ⟨rfl, hb16⟩
       have hB16 := (bal (bal hB15 _) _).trans (hb16.mono (bal (bal hB15 _) _).size)
       clear tok3)
    | (go_at_call 42; have _t := tok3; refine Calls.mono (same_ones (two_new w15 _ _).2.1 (two_new w15 _ _).1 HX.out HX'.out (bal (bal hB15 _) _)) ?_; rintro e w16 ⟨rfl, hb16⟩
       have hB16 := (bal (bal hB15 _) _).trans (hb16.mono (bal (bal hB15 _) _).size)
       clear tok3)
    | (go_at_call 43; refine (cWo _ hB16).mono ?_; rintro e w17 ⟨v17, rfl, hv17, hb17⟩
       obtain ⟨p17, c17, rfl⟩ := hv17.slice
       have hB17 := hB16.trans (hb17.mono hB16.size))
    | (go_at_call 44; refine (cWr _ hB17).mono ?_; rintro e w18 ⟨v18, rfl, hv18, hb18⟩
       obtain ⟨p18, c18, rfl⟩ := hv18.slice
       have hB18 := hB17.trans (hb18.mono hB17.size))
    | (go_at_call 42; have _t := tok4; refine (HWo.out _ _ _ (hv17.under hb18) hv18).mono ?_; rintro e w19 ⟨rfl, hb19⟩
       have hB19 := hB18.trans (hb19.mono hB18.size)
       clear tok4)
    | (go_at_call 45; refine (cU _ hB19).mono ?_; rintro e w20 ⟨rfl, hb20⟩
       have hB20 := hB19.trans (hb20.mono hB19.size))
    | (go_at_call 46; refine (cU' _ hB20).mono ?_; rintro e w21 ⟨rfl, hb21⟩
       have hB21 := hB20.trans (hb21.mono hB20.size))
    | (go_at_call 47; refine (cE _ hB21).mono ?_; rintro e w22 ⟨rfl, hb22⟩
       have hB22 := hB21.trans (hb22.mono hB21.size))
    | (go_at_call 42; refine (cE' _ hB22).mono ?_; rintro e w23 ⟨rfl, hb23⟩
       have hB23 := hB22.trans (hb23.mono hB22.size))
    | (go_at_call 33; refine (cW2 _ hB23).mono ?_; rintro e w24 ⟨rfl, hb24⟩
       have hB24 := hB23.trans (hb24.mono hB23.size)))
  all_goals
    go_wp2
    go_ret
    exact HWK.out _ _ _ hB14 ⟨rfl, hB24⟩
end Go.Proofs.YtlhobpknflobgaaGreatDoor
