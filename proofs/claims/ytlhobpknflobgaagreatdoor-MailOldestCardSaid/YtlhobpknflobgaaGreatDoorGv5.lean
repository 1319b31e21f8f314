/-
  guard.none, Find; the closures of guard.value's table of leaves. Conditions: as said.
-/
import Derived.Test.YtlhobpknflobgaaGreatDoorGv4
import Derived.Deep.RegionHeld3
import Derived.Deep.DeepCutAuto
namespace Go.Proofs.YtlhobpknflobgaaGreatDoor
open Go.RowKit

set_option maxHeartbeats 1000000 in
theorem none_any (w : World) (k : Int) : Calls Tryz.prog 107 #[erV k] w (JnSays 93 k w) := by
  have hb := alloc_below w (.cells #[.iface 32 (.int .i64 93), .iface 32 (.int .i64 k)] 85)
  have hn := heap_new w (.cells #[.iface 32 (.int .i64 93), .iface 32 (.int .i64 k)] 85)
  have cJ := join_any (c := 2) (a := 93) (b := k) ((arr_cell (i := 0) hn).trans rfl) ((arr_cell (i := 1) hn).trans rfl)
  clear hn
  change Calls _ _ #[.iface 32 (.int .i64 k)] _ _
  go_enter Tryz.func107, Tryz.ntmps107
  go_wp2_with (go_at_call 151; refine cJ.mono ?_; rintro e w5 ⟨v, rfl, hj, hb5⟩)
  go_ret
  exact ⟨v, rfl, hj, hb.trans (hb5.mono hb.size)⟩

theorem JoinAt.setRow {w : World} {v : Value} {a b : Int} (h : JoinAt w v a b) {r : Nat} {x : Tr} {sv : Value} {t : TypeId} {cells : Array Value} (hr : w.heap[r]? = some (.cells (cells5 x sv) t (0, 0))) : JoinAt (w.setRow r cells) v a b := by
  obtain ⟨bj, g, c, h1, h2, h3, h4⟩ := h
  have h0 : w.cell? ⟨r, 0, none⟩ = some (.int .i8 x.k) := (arr_cell hr).trans rfl
  have n1 : bj ≠ r := fun e => by rw [e, h0] at h2; cases h2
  have n2 : g ≠ r := fun e => by rw [e, h0] at h3; cases h3
  exact ⟨bj, g, c, h1, (World.cell?_of_block (a := ⟨bj, 0, none⟩) (setRow_ne n1)).trans h2, (World.cell?_of_block (a := ⟨g, 0, none⟩) (setRow_ne n2)).trans h3, (World.cell?_of_block (a := ⟨g, 1, none⟩) (setRow_ne n2)).trans h4⟩

/-- A store of a whole row at a step of a region that draws. -/
theorem step_store_row {P : Program} {ops : Array Oper} {o : Oper} {a : Act} {w : World} {K : Act → World → Prop} {Q : Exit → Act → World → Prop} {E : Prop} (hgd : o.guard = none) (ty : TypeId) (x y : Operand) (ho : o.op = .store ty x y)
    (g : Nat) (cells : Array Value) (hx : a.eval x = .pointer (some ⟨g, 0, none⟩)) (hy : a.eval y = .agg cells)
    (t : TypeId) (old : Array Value) (hg : w.heap[g]? = some (.cells old t (0, 0))) (hi : (P.info? ty).map (·.size) = some cells.size)
    (hold : old.size = cells.size) (h1 : cells.all (·.oneCell') = true)
    (h : K (a.put o.dst undef) (w.setRow g cells)) : if Region.wanted o (yielded ops a.tmps) = true then Oper.wp P o a w K Q else E := by
  have hw : Region.wanted o (yielded ops a.tmps) = true := by simp [Region.wanted, hgd]
  rw [if_pos hw]
  exact wp_store_row ty x y ho g cells hx hy t old hg hi hold h1 h

/-- What a guard expression tells: a term, or an error. -/
def GvPost (F : Nat → Prop) (o : Option Tr) (w : World) (e : Ending) (w' : World) : Prop :=
  ∃ (y : Tr) (yv ev : Value), e = .returned (.tuple #[.agg (cells5 y yv), ev]) ∧ TrV F w' y yv ∧ Below w.heap.size w w' ∧ ((ev = .nilIface ∧ o = some y) ∨ ((∃ k, JoinAt w' ev 93 k) ∧ o = none))

set_option maxHeartbeats 2000000 in
set_option maxRecDepth 100000 in
theorem indexGF_any {F : Nat → Prop} {P : Bd → Bool} {l : List Bd} {w : World} {v : Value} {bs : Nat} (hl : Binds F w v l)
    (hP : ∀ x ∈ l, ∀ (W : World) (sv : Value), Below w.heap.size w W → TrV F W x.t sv → x.s.size ≤ BL * 64 → Calls Tryz.prog 66 #[.agg #[.string x.s, .int .i8 x.t.k, .int .i64 x.t.n, .string x.t.s, .string x.t.t, sv], .pointer (some ⟨bs, 0, none⟩)] W fun e w' => e = .returned (.bool (P x)) ∧ Below W.heap.size W w') :
    Calls Tryz.prog 65 #[v, .func (Fn.func 66) #[] #[.pointer (some ⟨bs, 0, none⟩)]] w fun e w' => e = .returned (.int .i64 (idxB P l)) ∧ Below w.heap.size w w' := by
  obtain ⟨p, c, rfl⟩ := hl.slice
  have hlen : l.length ≤ 2199023255552 := hl.len
  have HF := Lib.hid hP
  have HL := Lib.hid hl
  clear hP hl
  go_enter Tryz.func65, Tryz.ntmps65
  go_wp2
  go_loopw [8] (fun i wr => ∃ k : Nat, k ≤ l.length ∧ i = .int .i64 k ∧ (l.take k).all (fun x => !P x) = true ∧ Below w.heap.size w wr) (fun i _ => l.length - (intOf i).toNat)
  case atStart => exact ⟨0, Nat.zero_le _, rfl, rfl, Below.refl _ _⟩
  case round =>
    obtain ⟨k, hk, rfl, hall, hbr⟩ := hrel
    by_cases hlt : k < l.length
    · obtain ⟨g, o, kv, rfl, _, hs0, hsz, ⟨a0, a1, a2, a3, a4⟩, hkid⟩ := (HL.out.under hbr).at hlt
      have cK := HF.out l[k] (List.getElem_mem hlt) wr kv hbr hkid hsz
      cases hq : P l[k]
      · have hnext : (l.take (k + 1)).all (fun x => !P x) = true := by
          rw [List.take_succ_eq_append_getElem hlt, List.all_append, hall]; simp [hq]
        rw [hq] at cK
        have HN := Lib.hid hnext
        clear hnext hall hq hkid
        go_wp2_with (go_at_call 66; refine cK.mono ?_; rintro e w5 ⟨rfl, hb5⟩)
        go_roundw
        case rel => exact ⟨k + 1, hlt, by go_num, HN.out, hbr.trans (hb5.mono hbr.size)⟩
        case measure => simp [intOf]; omega
      · have hfin := idx_here hlt hall hq
        rw [hq] at cK
        have HN := Lib.hid hfin
        clear hfin hall hq hkid
        go_wp2_with (go_at_call 66; refine cK.mono ?_; rintro e w5 ⟨rfl, hb5⟩)
        go_ret
        exact ⟨by rw [HN.out] <;> rfl, hbr.trans (hb5.mono hbr.size)⟩
    · rw [List.take_of_length_le (by omega)] at hall
      have HN := Lib.hid (idx_none hall)
      clear hall
      go_wp2
      go_ret
      exact ⟨by rw [HN.out] <;> rfl, hbr⟩
set_option maxHeartbeats 1000000 in
theorem gfind1_any {W : World} {bs : Nat} {s : ByteArray} {b : Bd} {sv : Value} (hs : W.cell? ⟨bs, 0, none⟩ = some (.string s)) :
    Calls Tryz.prog 66 #[.agg #[.string b.s, .int .i8 b.t.k, .int .i64 b.t.n, .string b.t.s, .string b.t.t, sv], .pointer (some ⟨bs, 0, none⟩)] W fun e w' => e = .returned (.bool (b.s.toList == s.toList)) ∧ Below W.heap.size W w' := by
  have e0 : (W.alloc (.cells #[.string b.s, .int .i8 b.t.k, .int .i64 b.t.n, .string b.t.s, .string b.t.t, sv] 40)).cell? ⟨W.heap.size, 0, none⟩ = some (.string b.s) := by rw [World.cell?_alloc_at _ _ _ _ (by simp)]; rfl
  have hb := alloc_below W (.cells #[.string b.s, .int .i8 b.t.k, .int .i64 b.t.n, .string b.t.s, .string b.t.t, sv] 40)
  have hs1 := (hb.cell (p := ⟨bs, 0, none⟩) (cell_block hs)).trans hs
  go_enter Tryz.func66, Tryz.ntmps66
  go_wp2
  go_ret
  exact ⟨rfl, hb⟩
set_option maxHeartbeats 4000000 in
set_option maxRecDepth 100000 in
theorem gfind_any {F : Nat → Prop} {w : World} {v : Value} {l : List Bd} {s : ByteArray} (hl : Binds F w v l) :
    Calls Tryz.prog 23 #[v, .string s] w (FindSays F l s w) := by
  have hlen : l.length ≤ 2199023255552 := hl.len
  obtain ⟨p, c, rfl⟩ := hl.slice
  obtain ⟨n1, n2, hb, hz⟩ := two_new w (.cells #[.string s] 9) (.cells #[.int .i8 0, .int .i64 0, .string ⟨#[]⟩, .string ⟨#[]⟩, .slice none 0 0] 29)
  have hn : ((w.alloc (.cells #[.string s] 9)).alloc (.cells #[.int .i8 0, .int .i64 0, .string ⟨#[]⟩, .string ⟨#[]⟩, .slice none 0 0] 29)).heap[w.heap.size + 1]? = some (.cells (cells5 zeroT (.slice none 0 0)) 29 (0, 0)) := n2
  have hs := one_cell n1
  have hL1 := hl.under hb
  have HL := Lib.hid hl
  clear hl n2 n1
  go_enter Tryz.func23, Tryz.ntmps23
  go_upto_region 1 with fail
  generalize (w.alloc (.cells #[.string s] 9)).alloc (.cells #[.int .i8 0, .int .i64 0, .string ⟨#[]⟩, .string ⟨#[]⟩, .slice none 0 0] 29) = w1 at hn hb hz hs hL1 ⊢
  have cI := indexGF_any (P := fun b => b.s.toList == s.toList) (bs := w.heap.size) hL1 (fun x _ W sv hbW _ _ => gfind1_any (b := x) (sv := sv) ((hbW.cell (p := ⟨w.heap.size, 0, none⟩) (show w.heap.size < w1.heap.size by omega)).trans hs))
  have hlt1 : w.heap.size + 1 < w1.heap.size := by omega
  clear hL1
  rcases idx_cases (fun b : Bd => b.s.toList == s.toList) l with ⟨hi, hall⟩ | ⟨k, hlt, hi, hall, hp⟩
  · have HN := Lib.hid (find_none hall)
    rw [hi] at cI
    clear hall hi
    go_wp2_with (first
      | (go_at_call 65; refine cI.mono ?_; rintro e w5 ⟨rfl, hb5⟩; have hn5 := (hb5.block _ hlt1).trans hn; have hr := setRow_heap' (cells := cells5 zeroT (.slice none 0 0)) hn5; have hB := below_setRow (cells := cells5 zeroT (.slice none 0 0)) (hb.trans (hb5.mono hb.size)) (show w.heap.size ≤ w.heap.size + 1 by omega))
      | (refine wpList_store_row rfl 29 _ _ rfl (w.heap.size + 1) (cells5 zeroT (.slice none 0 0)) (by kernel_rfl) (by kernel_rfl) 29 (cells5 zeroT (.slice none 0 0)) hn5 (size28 _ _) (by kernel_rfl) (by kernel_rfl) ?_))
    refine bodyPost_ret (v := .tuple #[.agg (cells5 zeroT (.slice none 0 0)), .bool false]) (results_term Tryz.results23 _ _ _ _ _ rfl hr) rfl ⟨zeroT, _, ?_, zero_trv _ _, ?_, hB⟩
    · rw [HN.out]; rfl
    · rw [HN.out]; rfl
  · have HN := Lib.hid (find_here hlt hall hp)
    rw [hi] at cI
    clear hall hi hp
    obtain ⟨g, o, kv, rfl, _, hs0, hsz, hnode, hkid⟩ := HL.out.at hlt
    obtain ⟨p2, c2, rfl⟩ := hkid.kids.slice
    have hgl := cell_block hs0
    clear hs0 hsz
    go_wp2_with (first
      | (go_at_call 65; refine cI.mono ?_; rintro e w5 ⟨rfl, hb5⟩; have hn5 := (hb5.block _ hlt1).trans hn; have hr := setRow_heap' (cells := cells5 l[k].t (.slice p2 l[k].t.l.length c2)) hn5; have hB5 := hb.trans (hb5.mono hb.size); have hB := below_setRow (cells := cells5 l[k].t (.slice p2 l[k].t.l.length c2)) hB5 (show w.heap.size ≤ w.heap.size + 1 by omega); obtain ⟨a0, a1, a2, a3, a4⟩ := hnode.keep (hB5.block _ hnode.lt))
      | (refine wpList_store_row rfl 29 _ _ rfl (w.heap.size + 1) (cells5 l[k].t (.slice p2 l[k].t.l.length c2)) (by kernel_rfl) (by kernel_rfl) 29 (cells5 zeroT (.slice none 0 0)) hn5 (size28 _ _) (by kernel_rfl) (by kernel_rfl) ?_))
    refine bodyPost_ret (v := .tuple #[.agg (cells5 l[k].t (.slice p2 l[k].t.l.length c2)), .bool true]) (results_term Tryz.results23 _ _ _ _ _ rfl hr) rfl ⟨l[k].t, _, ?_, hkid.below hB, ?_, hB⟩
    · rw [HN.out]; rfl
    · rw [HN.out]; rfl

def gvarS (l : List Bd) (s : ByteArray) : Option Tr := if undB s then none else bfind l s
def VarMid (F : Nat → Prop) (l : List Bd) (x : Tr) (W w1 : World) (s4 s5 : Value) (wx : World) : Prop :=
  ∃ (b4 : Nat) (y : Tr) (yv : Value), s4 = .pointer (some ⟨b4, 0, none⟩) ∧ s5 = .bool (bfind l x.s).isSome ∧ wx.heap[b4]? = some (.cells (cells5 y yv) 29 (0, 0)) ∧ TrV (fun g => F g ∧ g ≠ W.heap.size) wx y yv ∧ y = (bfind l x.s).getD zeroT ∧ Below w1.heap.size w1 wx

set_option maxHeartbeats 4000000 in
set_option maxRecDepth 100000 in
theorem lvar_any {F : Nat → Prop} {W : World} {l : List Bd} {x : Tr} {bl bn g o : Nat} {v sv : Value} (hb : W.cell? ⟨bl, 0, none⟩ = some v) (hl : Binds F W v l) (hn : W.cell? ⟨bn, 0, none⟩ = some (.pointer (some ⟨g, o, none⟩))) (hx : NodeAt W g o x sv) :
    Calls Tryz.prog 106 #[.pointer (some ⟨bl, 0, none⟩), .pointer (some ⟨bn, 0, none⟩)] W (GvPost F (gvarS l x.s) W) := by
  obtain ⟨pl, cl, rfl⟩ := hl.slice
  have hn1 := heap_new W (.cells (cells5 zeroT (.slice none 0 0)) 29)
  have hb1 := alloc_below W (.cells (cells5 zeroT (.slice none 0 0)) 29)
  have hl1 := (hl.mono (F' := fun g => (F g ∧ g ≠ W.heap.size) ∧ g < (W.alloc (.cells (cells5 zeroT (.slice none 0 0)) 29)).heap.size) fun g hg h => ⟨⟨hg, by omega⟩, by simp; omega⟩).under hb1
  have hs := hx.s
  have hmv1 : ∀ V : World, Below (W.alloc (.cells (cells5 zeroT (.slice none 0 0)) 29)).heap.size (W.alloc (.cells (cells5 zeroT (.slice none 0 0)) 29)) V → V.cell? ⟨bl, 0, none⟩ = some (.slice pl l.length cl) ∧ V.cell? ⟨bn, 0, none⟩ = some (.pointer (some ⟨g, o, none⟩)) ∧ V.cell? ⟨g, o + 2, none⟩ = some (.string x.s) := by
    intro V hv
    have hB := hb1.trans (hv.mono hb1.size)
    exact ⟨(hB.cell (p := ⟨bl, 0, none⟩) (cell_block hb)).trans hb, (hB.cell (p := ⟨bn, 0, none⟩) (cell_block hn)).trans hn, (hB.cell (p := ⟨g, o + 2, none⟩) (cell_block hs)).trans hs⟩
  clear hl hs hb hn hx
  go_enter Tryz.func106, Tryz.ntmps106
  go_upto_region 1 with fail
  change Code.wp _ _ _ _ (W.alloc (.cells (cells5 zeroT (.slice none 0 0)) 29))
  generalize W.alloc (.cells (cells5 zeroT (.slice none 0 0)) 29) = w1 at hn1 hb1 hl1 hmv1 ⊢
  have hlt1 : W.heap.size < w1.heap.size := (Array.getElem?_eq_some_iff.1 hn1).1
  have cF := fun (V : World) (hv : Below w1.heap.size w1 V) => gfind_any (s := x.s) (hl1.under hv)
  have hd : Below w1.heap.size w1 w1.drew := below_drewN (Below.refl _ _) 1
  have hda : Below w1.heap.size w1 (w1.alloc (.cells (cells5 zeroT (.slice none 0 0)) 29)).drew := below_drewN (alloc_below w1 _) 1
  have hna : (w1.alloc (.cells (cells5 zeroT (.slice none 0 0)) 29)).drew.heap[w1.heap.size]? = some (.cells (cells5 zeroT (.slice none 0 0)) 29 (0, 0)) := heap_new w1 _
  have hza : w1.heap.size < (w1.alloc (.cells (cells5 zeroT (.slice none 0 0)) 29)).drew.heap.size := (Array.getElem?_eq_some_iff.1 hna).1
  have hS0 := hmv1 w1 (Below.refl _ _)
  have hSa := hmv1 _ hda
  have HN1 := Lib.hid hn1
  clear hl1 hn1
  go_cut [4, 5] (fun s4 s5 wx => VarMid F l x W w1 s4 s5 wx)
  case first =>
    refine wp_region_held_drew (S := fun V => V.cell? ⟨bl, 0, none⟩ = some (.slice pl l.length cl) ∧ V.cell? ⟨bn, 0, none⟩ = some (.pointer (some ⟨g, o, none⟩)) ∧ V.cell? ⟨g, o + 2, none⟩ = some (.string x.s)) (by kernel_rfl) ?_ (fun hHeld => ?_)
    · (try dsimp only); (first | exact hS0)
    refine wpAnyH_take (i := 0) (v := ?_) rfl (by kernel_rfl) (by kernel_rfl) (by kernel_rfl) (fun _ _ _ h => h) (Or.inl ⟨by rfl, ?_⟩) (by assumption) ?_
    rotate_left 1
    (intro w hSw; (try dsimp only at hSw); go_simp; try with_reducible rfl)
    (try simp only [List.getElem_toArray, List.getElem_cons_zero, Act.put, List.setIfInBounds_toArray, List.set_cons_zero, List.set_cons_succ])
    refine wpAnyH_take (i := 1) (v := ?_) rfl (by kernel_rfl) (by kernel_rfl) (by kernel_rfl) (fun _ _ _ h => h) (Or.inl ⟨by rfl, ?_⟩) (by assumption) ?_
    rotate_left 1
    (intro w hSw; (try dsimp only at hSw); go_simp; try with_reducible rfl)
    (try simp only [List.getElem_toArray, List.getElem_cons_succ, List.getElem_cons_zero, Act.put, List.setIfInBounds_toArray, List.set_cons_zero, List.set_cons_succ])
    refine wpAnyH_take (i := 2) (v := ?_) rfl (by kernel_rfl) (by kernel_rfl) (by kernel_rfl) (fun _ _ _ h => h) (Or.inl ⟨by rfl, ?_⟩) (by assumption) ?_
    rotate_left 1
    (intro w hSw; (try dsimp only at hSw); go_simp; try with_reducible rfl)
    (try simp only [List.getElem_toArray, List.getElem_cons_succ, List.getElem_cons_zero, Act.put, List.setIfInBounds_toArray, List.set_cons_zero, List.set_cons_succ])
    refine wpAnyH_take (i := 3) (v := ?_) rfl (by kernel_rfl) (by kernel_rfl) (by kernel_rfl) (fun _ _ _ h => h) (Or.inl ⟨by rfl, ?_⟩) (by assumption) ?_
    rotate_left 1
    (intro w hSw; (try dsimp only at hSw); go_simp; try with_reducible rfl)
    (try simp only [List.getElem_toArray, List.getElem_cons_succ, List.getElem_cons_zero, Act.put, List.setIfInBounds_toArray, List.set_cons_zero, List.set_cons_succ])
    refine wpAnyH_take (i := 4) (v := ?_) rfl (by kernel_rfl) (by kernel_rfl) (by kernel_rfl) (fun _ _ _ h => h) (Or.inl ⟨by rfl, ?_⟩) (by assumption) ?_
    rotate_left 1
    (intro w hSw; (try dsimp only at hSw); go_simp; try with_reducible rfl)
    (try simp only [List.getElem_toArray, List.getElem_cons_succ, List.getElem_cons_zero, Act.put, List.setIfInBounds_toArray, List.set_cons_zero, List.set_cons_succ])
    refine wpAnyH_ready (rs := [5,9]) (by kernel_rfl) (by simp) ?_
    refine (AllReadyH.cons rfl (fun K hK => ?_) (AllReadyH.cons rfl (fun K hK => ?_) AllReadyH.nil))
    · go_simp
      go_wp2_with (go_at_call 23; refine (cF _ hd).mono ?_; rintro e w5 ⟨y, yv, rfl, hy5, hq5, hb5⟩; obtain ⟨p5, c5, rfl⟩ := hy5.kids.slice; have hB5 := hd.trans (hb5.mono hd.size); have hS2 := hmv1 _ hB5; have hn5 := heap_new w5 (.cells (cells5 zeroT (.slice none 0 0)) 29); have hb5a := hB5.trans ((alloc_below w5 (.cells (cells5 zeroT (.slice none 0 0)) 29)).mono hB5.size); have hSb := hmv1 _ hb5a; have hB6 := below_setRow (g := w5.heap.size) (cells := cells5 y (.slice p5 y.l.length c5)) hb5a hB5.size; have hS3 := hmv1 _ hB6; have HQ5 := Lib.hid hq5; clear hq5)
      refine hK.out _ _ ?_ (fun hHeld => ?_)
      · (try dsimp only); (first | exact hS2 | exact hSb | exact hS3)
      clear hK K
      (try simp only [List.getElem_toArray, List.getElem_cons_succ, List.getElem_cons_zero, Act.put, List.setIfInBounds_toArray, List.set_cons_zero, List.set_cons_succ])
      refine wpAnyH_take (i := 6) (v := ?_) rfl (by kernel_rfl) (by kernel_rfl) (by kernel_rfl) (fun _ _ _ h => h) (Or.inl ⟨by rfl, ?_⟩) (by assumption) ?_
      rotate_left 1
      (intro w hSw; (try dsimp only at hSw); go_simp; try with_reducible rfl)
      (try simp only [List.getElem_toArray, List.getElem_cons_succ, List.getElem_cons_zero, Act.put, List.setIfInBounds_toArray, List.set_cons_zero, List.set_cons_succ])
      refine wpAnyH_take (i := 7) (v := ?_) rfl (by kernel_rfl) (by kernel_rfl) (by kernel_rfl) (fun _ _ _ h => h) (Or.inl ⟨by rfl, ?_⟩) (by assumption) ?_
      rotate_left 1
      (intro w hSw; (try dsimp only at hSw); go_simp; try with_reducible rfl)
      (try simp only [List.getElem_toArray, List.getElem_cons_succ, List.getElem_cons_zero, Act.put, List.setIfInBounds_toArray, List.set_cons_zero, List.set_cons_succ])
      refine wpAnyH_take (i := 8) (v := ?_) rfl (by kernel_rfl) (by kernel_rfl) (by kernel_rfl) (fun _ _ _ h => h) (Or.inl ⟨by rfl, ?_⟩) (by assumption) ?_
      rotate_left 1
      (intro w hSw; (try dsimp only at hSw); go_simp; try with_reducible rfl)
      (try simp only [List.getElem_toArray, List.getElem_cons_succ, List.getElem_cons_zero, Act.put, List.setIfInBounds_toArray, List.set_cons_zero, List.set_cons_succ])
      refine wpAnyH_ready (rs := [9]) (by kernel_rfl) (by simp) ?_
      refine AllReadyH.cons rfl (fun K hK => ?_) AllReadyH.nil
      go_simp
      refine hK.out _ _ ?_ (fun hHeld => ?_)
      · (try dsimp only); (first | exact hS2 | exact hSb | exact hS3)
      clear hK K
      (try simp only [List.getElem_toArray, List.getElem_cons_succ, List.getElem_cons_zero, Act.put, List.setIfInBounds_toArray, List.set_cons_zero, List.set_cons_succ])
      refine wpAnyH_ready (rs := [10]) (by kernel_rfl) (by simp) ?_
      refine AllReadyH.cons rfl (fun K hK => ?_) AllReadyH.nil
      (refine step_store_row rfl 29 _ _ rfl w5.heap.size (cells5 y (.slice p5 y.l.length c5)) (by kernel_rfl) (by kernel_rfl) 29 (cells5 zeroT (.slice none 0 0)) hn5 (size28 _ _) (by kernel_rfl) (by kernel_rfl) ?_)
      refine hK.out _ _ ?_ (fun hHeld => ?_)
      · (try dsimp only); (first | exact hS2 | exact hSb | exact hS3)
      clear hK K
      (try simp only [List.getElem_toArray, List.getElem_cons_succ, List.getElem_cons_zero, Act.put])
      refine wpAnyH_take (i := 11) (v := ?_) rfl (by kernel_rfl) (by kernel_rfl) (by kernel_rfl) (fun _ _ _ h => h) (Or.inl ⟨by rfl, ?_⟩) (by assumption) ?_
      rotate_left 1
      (intro w hSw; (try dsimp only at hSw); go_simp; try with_reducible rfl)
      (try simp only [List.getElem_toArray, List.getElem_cons_succ, List.getElem_cons_zero, Act.put, List.setIfInBounds_toArray, List.set_cons_zero, List.set_cons_succ])
      refine wpAnyH_done (by kernel_rfl) ?_ _
      go_wp2_with fail
      go_meet
      refine ⟨w5.heap.size, y, _, rfl, rfl, setRow_heap' hn5, ?_, HQ5.out, hB6⟩
      exact (hy5.below (alloc_below w5 _)).move (fun g hg _ => setRow_ne (by have := hB5.size; omega)) (fun g hg _ => hg.1)
    · go_simp
      refine hK.out _ _ ?_ (fun hHeld => ?_)
      · (try dsimp only); (first | exact hSa | exact hS2 | exact hS3)
      clear hK K
      (try simp only [List.getElem_toArray, List.getElem_cons_succ, List.getElem_cons_zero, Act.put, List.setIfInBounds_toArray, List.set_cons_zero, List.set_cons_succ])
      refine wpAnyH_ready (rs := [5]) (by kernel_rfl) (by simp) ?_
      refine AllReadyH.cons rfl (fun K hK => ?_) AllReadyH.nil
      go_simp
      go_wp2_with (go_at_call 23; refine (cF _ hda).mono ?_; rintro e w5 ⟨y, yv, rfl, hy5, hq5, hb5⟩; obtain ⟨p5, c5, rfl⟩ := hy5.kids.slice; have hB5 := hda.trans (hb5.mono hda.size); have hS2 := hmv1 _ hB5; have hn5 := (hb5.block _ hza).trans hna; have hB6 := below_setRow (g := w1.heap.size) (cells := cells5 y (.slice p5 y.l.length c5)) hB5 (Nat.le_refl _); have hS3 := hmv1 _ hB6; have HQ5 := Lib.hid hq5; clear hq5)
      refine hK.out _ _ ?_ (fun hHeld => ?_)
      · (try dsimp only); (first | exact hSa | exact hS2 | exact hS3)
      clear hK K
      (try simp only [List.getElem_toArray, List.getElem_cons_succ, List.getElem_cons_zero, Act.put, List.setIfInBounds_toArray, List.set_cons_zero, List.set_cons_succ])
      refine wpAnyH_take (i := 6) (v := ?_) rfl (by kernel_rfl) (by kernel_rfl) (by kernel_rfl) (fun _ _ _ h => h) (Or.inl ⟨by rfl, ?_⟩) (by assumption) ?_
      rotate_left 1
      (intro w hSw; (try dsimp only at hSw); go_simp; try with_reducible rfl)
      (try simp only [List.getElem_toArray, List.getElem_cons_succ, List.getElem_cons_zero, Act.put, List.setIfInBounds_toArray, List.set_cons_zero, List.set_cons_succ])
      refine wpAnyH_take (i := 7) (v := ?_) rfl (by kernel_rfl) (by kernel_rfl) (by kernel_rfl) (fun _ _ _ h => h) (Or.inl ⟨by rfl, ?_⟩) (by assumption) ?_
      rotate_left 1
      (intro w hSw; (try dsimp only at hSw); go_simp; try with_reducible rfl)
      (try simp only [List.getElem_toArray, List.getElem_cons_succ, List.getElem_cons_zero, Act.put, List.setIfInBounds_toArray, List.set_cons_zero, List.set_cons_succ])
      refine wpAnyH_take (i := 8) (v := ?_) rfl (by kernel_rfl) (by kernel_rfl) (by kernel_rfl) (fun _ _ _ h => h) (Or.inl ⟨by rfl, ?_⟩) (by assumption) ?_
      rotate_left 1
      (intro w hSw; (try dsimp only at hSw); go_simp; try with_reducible rfl)
      (try simp only [List.getElem_toArray, List.getElem_cons_succ, List.getElem_cons_zero, Act.put, List.setIfInBounds_toArray, List.set_cons_zero, List.set_cons_succ])
      refine wpAnyH_ready (rs := [10]) (by kernel_rfl) (by simp) ?_
      refine AllReadyH.cons rfl (fun K hK => ?_) AllReadyH.nil
      (refine step_store_row rfl 29 _ _ rfl w1.heap.size (cells5 y (.slice p5 y.l.length c5)) (by kernel_rfl) (by kernel_rfl) 29 (cells5 zeroT (.slice none 0 0)) hn5 (size28 _ _) (by kernel_rfl) (by kernel_rfl) ?_)
      refine hK.out _ _ ?_ (fun hHeld => ?_)
      · (try dsimp only); (first | exact hSa | exact hS2 | exact hS3)
      clear hK K
      (try simp only [List.getElem_toArray, List.getElem_cons_succ, List.getElem_cons_zero, Act.put])
      refine wpAnyH_take (i := 11) (v := ?_) rfl (by kernel_rfl) (by kernel_rfl) (by kernel_rfl) (fun _ _ _ h => h) (Or.inl ⟨by rfl, ?_⟩) (by assumption) ?_
      rotate_left 1
      (intro w hSw; (try dsimp only at hSw); go_simp; try with_reducible rfl)
      (try simp only [List.getElem_toArray, List.getElem_cons_succ, List.getElem_cons_zero, Act.put, List.setIfInBounds_toArray, List.set_cons_zero, List.set_cons_succ])
      refine wpAnyH_done (by kernel_rfl) ?_ _
      go_wp2_with fail
      go_meet
      refine ⟨w1.heap.size, y, _, rfl, rfl, setRow_heap' hn5, ?_, HQ5.out, hB6⟩
      exact hy5.move (fun g hg _ => setRow_ne (by omega)) (fun g hg _ => hg.1)
  case rest =>
  obtain ⟨b4, y, yv, rfl, rfl, hn4, hy4, hq4, hB4⟩ := hcut
  obtain ⟨p4, c4, rfl⟩ := hy4.kids.slice
  have hnr := (hB4.block _ hlt1).trans HN1.out
  have hBW := hb1.trans (hB4.mono hb1.size)
  obtain ⟨u1, u2, u3⟩ := hmv1 _ hB4
  have HQ := Lib.hid hq4
  have HY := Lib.hid hy4
  clear hmv1 cF hd hda hna hza hS0 hSa hq4 hy4
  obtain ⟨k0, k1, k2, k3, k4⟩ := node_heap (x := y) hn4
  simp only [Nat.zero_add] at k1 k2 k3 k4
  cases hu : (x.s.toList == [95])
  case' true => have hO : gvarS l x.s = none := if_pos hu
  case' false => have hO : gvarS l x.s = bfind l x.s := if_neg (by unfold undB; rw [hu]; decide)
  all_goals
    have HO := Lib.hid hO
    clear hO
    cases hf : bfind l x.s

  case' true.none =>
    go_wp2_with (first
      | (go_at_call 107; refine (none_any _ 90).mono ?_; rintro e w7 ⟨ev, rfl, hj7, hb7⟩; have hn7 := (hb7.block _ (Array.getElem?_eq_some_iff.1 hnr).1).trans hnr)
      | (refine wpList_store_row rfl 29 _ _ rfl W.heap.size (cells5 zeroT (.slice none 0 0)) (by kernel_rfl) (by kernel_rfl) 29 (cells5 zeroT (.slice none 0 0)) hn7 (size28 _ _) (by kernel_rfl) (by kernel_rfl) ?_))
    have hr9 := setRow_heap' (cells := cells5 zeroT (.slice none 0 0)) hn7
    have hB9 := below_setRow (g := W.heap.size) (cells := cells5 zeroT (.slice none 0 0)) (hBW.trans (hb7.mono hBW.size)) (Nat.le_refl _)
    exact bodyPost_ret (v := .tuple #[.agg (cells5 zeroT (.slice none 0 0)), ev]) (results_term Tryz.results106 _ _ _ _ _ rfl hr9) rfl ⟨zeroT, _, ev, rfl, zero_trv _ _, hB9, .inr ⟨⟨90, hj7.setRow hn7⟩, HO.out⟩⟩
  case' true.some t =>
    go_wp2_with (first
      | (go_at_call 107; refine (none_any _ 90).mono ?_; rintro e w7 ⟨ev, rfl, hj7, hb7⟩; have hn7 := (hb7.block _ (Array.getElem?_eq_some_iff.1 hnr).1).trans hnr)
      | (refine wpList_store_row rfl 29 _ _ rfl W.heap.size (cells5 zeroT (.slice none 0 0)) (by kernel_rfl) (by kernel_rfl) 29 (cells5 zeroT (.slice none 0 0)) hn7 (size28 _ _) (by kernel_rfl) (by kernel_rfl) ?_))
    have hr9 := setRow_heap' (cells := cells5 zeroT (.slice none 0 0)) hn7
    have hB9 := below_setRow (g := W.heap.size) (cells := cells5 zeroT (.slice none 0 0)) (hBW.trans (hb7.mono hBW.size)) (Nat.le_refl _)
    exact bodyPost_ret (v := .tuple #[.agg (cells5 zeroT (.slice none 0 0)), ev]) (results_term Tryz.results106 _ _ _ _ _ rfl hr9) rfl ⟨zeroT, _, ev, rfl, zero_trv _ _, hB9, .inr ⟨⟨90, hj7.setRow hn7⟩, HO.out⟩⟩
  case' false.none =>
    have HF2 := Lib.hid hf
    clear hf
    go_wp2_with (first
      | (go_at_call 107; refine (none_any _ 90).mono ?_; rintro e w7 ⟨ev, rfl, hj7, hb7⟩; have hn7 := (hb7.block _ (Array.getElem?_eq_some_iff.1 hnr).1).trans hnr)
      | (refine wpList_store_row rfl 29 _ _ rfl W.heap.size (cells5 zeroT (.slice none 0 0)) (by kernel_rfl) (by kernel_rfl) 29 (cells5 zeroT (.slice none 0 0)) hn7 (size28 _ _) (by kernel_rfl) (by kernel_rfl) ?_))
    have hr9 := setRow_heap' (cells := cells5 zeroT (.slice none 0 0)) hn7
    have hB9 := below_setRow (g := W.heap.size) (cells := cells5 zeroT (.slice none 0 0)) (hBW.trans (hb7.mono hBW.size)) (Nat.le_refl _)
    exact bodyPost_ret (v := .tuple #[.agg (cells5 zeroT (.slice none 0 0)), ev]) (results_term Tryz.results106 _ _ _ _ _ rfl hr9) rfl ⟨zeroT, _, ev, rfl, zero_trv _ _, hB9, .inr ⟨⟨90, hj7.setRow hn7⟩, HO.out.trans HF2.out⟩⟩
  case' false.some t =>
    rw [hf] at HQ
    have HYT : Hid (y = t) := HQ.out
    have HF2 := Lib.hid hf
    clear hf
    go_wp2_with (refine wpList_store_row rfl 29 _ _ rfl W.heap.size (cells5 y (.slice p4 y.l.length c4)) (by kernel_rfl) (by kernel_rfl) 29 (cells5 zeroT (.slice none 0 0)) hnr (size28 _ _) (by kernel_rfl) (by kernel_rfl) ?_)
    have hr9 := setRow_heap' (cells := cells5 y (.slice p4 y.l.length c4)) hnr
    have hB9 := below_setRow (g := W.heap.size) (cells := cells5 y (.slice p4 y.l.length c4)) hBW (Nat.le_refl _)
    have hy9 := HY.out.move (P' := F) (w' := wc.setRow W.heap.size (cells5 y (.slice p4 y.l.length c4))) (fun g hg _ => setRow_ne hg.2) (fun g hg _ => hg.1)
    exact bodyPost_ret (v := .tuple #[.agg (cells5 y (.slice p4 y.l.length c4)), .nilIface]) (results_term Tryz.results106 _ _ _ _ _ rfl hr9) rfl ⟨y, _, .nilIface, rfl, hy9, hB9, .inl ⟨rfl, by rw [HO.out, HF2.out, HYT.out]⟩⟩


set_option maxHeartbeats 2000000 in
set_option maxRecDepth 100000 in
theorem lint_any {F : Nat → Prop} {W : World} {x : Tr} {bn g o : Nat} {sv : Value} (hn : W.cell? ⟨bn, 0, none⟩ = some (.pointer (some ⟨g, o, none⟩))) (hx : NodeAt W g o x sv) (hwf : NodeWf x) :
    Calls Tryz.prog 108 #[.pointer (some ⟨bn, 0, none⟩)] W (GvPost F (some (.mk 0 x.n ⟨#[]⟩ ⟨#[]⟩ [])) W) := by
  have hn1 := heap_new W (.cells (cells5 zeroT (.slice none 0 0)) 29)
  have hb1 := alloc_below W (.cells (cells5 zeroT (.slice none 0 0)) 29)
  have u1 := (hb1.cell (p := ⟨bn, 0, none⟩) (cell_block hn)).trans hn
  have u2 := (hb1.cell (p := ⟨g, o + 1, none⟩) (cell_block hx.n)).trans hx.n
  have HW := Lib.hid hwf
  clear hn hx hwf
  go_enter Tryz.func108, Tryz.ntmps108
  go_upto_region 1 with fail
  change Code.wp _ _ _ _ (W.alloc (.cells (cells5 zeroT (.slice none 0 0)) 29))
  generalize W.alloc (.cells (cells5 zeroT (.slice none 0 0)) 29) = w1 at hn1 hb1 u1 u2 ⊢
  have hr9 := setRow_heap' (cells := cells5 (.mk 0 x.n ⟨#[]⟩ ⟨#[]⟩ []) (.slice none 0 0)) hn1
  have hB9 := below_setRow (g := W.heap.size) (cells := cells5 (.mk 0 x.n ⟨#[]⟩ ⟨#[]⟩ []) (.slice none 0 0)) hb1 (Nat.le_refl _)
  go_wp2_with (refine wpList_store_row rfl 29 _ _ rfl W.heap.size (cells5 (.mk 0 x.n ⟨#[]⟩ ⟨#[]⟩ []) (.slice none 0 0)) (by kernel_rfl) (by kernel_rfl) 29 (cells5 zeroT (.slice none 0 0)) hn1 (size28 _ _) (by kernel_rfl) (by kernel_rfl) ?_)
  exact bodyPost_ret (v := .tuple #[.agg (cells5 (.mk 0 x.n ⟨#[]⟩ ⟨#[]⟩ []) (.slice none 0 0)), .nilIface]) (results_term Tryz.results108 _ _ _ _ _ rfl hr9) rfl ⟨(.mk 0 x.n ⟨#[]⟩ ⟨#[]⟩ []), _, .nilIface, rfl, ⟨⟨(by show (Lit.int .i8 0).wf = true; decide), HW.out.n, Nat.zero_le _, Nat.zero_le _⟩, Kids.nil _ _⟩, hB9, .inl ⟨rfl, rfl⟩⟩


set_option maxHeartbeats 2000000 in
set_option maxRecDepth 100000 in
theorem latom_any {F : Nat → Prop} {W : World} {x : Tr} {bn g o : Nat} {sv : Value} (hn : W.cell? ⟨bn, 0, none⟩ = some (.pointer (some ⟨g, o, none⟩))) (hx : NodeAt W g o x sv) (hwf : NodeWf x) :
    Calls Tryz.prog 109 #[.pointer (some ⟨bn, 0, none⟩)] W (GvPost F (some (.mk 1 0 x.s ⟨#[]⟩ [])) W) := by
  have hn1 := heap_new W (.cells (cells5 zeroT (.slice none 0 0)) 29)
  have hb1 := alloc_below W (.cells (cells5 zeroT (.slice none 0 0)) 29)
  have u1 := (hb1.cell (p := ⟨bn, 0, none⟩) (cell_block hn)).trans hn
  have u2 := (hb1.cell (p := ⟨g, o + 2, none⟩) (cell_block hx.s)).trans hx.s
  have HW := Lib.hid hwf
  clear hn hx hwf
  go_enter Tryz.func109, Tryz.ntmps109
  go_upto_region 1 with fail
  change Code.wp _ _ _ _ (W.alloc (.cells (cells5 zeroT (.slice none 0 0)) 29))
  generalize W.alloc (.cells (cells5 zeroT (.slice none 0 0)) 29) = w1 at hn1 hb1 u1 u2 ⊢
  have hr9 := setRow_heap' (cells := cells5 (.mk 1 0 x.s ⟨#[]⟩ []) (.slice none 0 0)) hn1
  have hB9 := below_setRow (g := W.heap.size) (cells := cells5 (.mk 1 0 x.s ⟨#[]⟩ []) (.slice none 0 0)) hb1 (Nat.le_refl _)
  go_wp2_with (refine wpList_store_row rfl 29 _ _ rfl W.heap.size (cells5 (.mk 1 0 x.s ⟨#[]⟩ []) (.slice none 0 0)) (by kernel_rfl) (by kernel_rfl) 29 (cells5 zeroT (.slice none 0 0)) hn1 (size28 _ _) (by kernel_rfl) (by kernel_rfl) ?_)
  exact bodyPost_ret (v := .tuple #[.agg (cells5 (.mk 1 0 x.s ⟨#[]⟩ []) (.slice none 0 0)), .nilIface]) (results_term Tryz.results109 _ _ _ _ _ rfl hr9) rfl ⟨(.mk 1 0 x.s ⟨#[]⟩ []), _, .nilIface, rfl, ⟨⟨(by show (Lit.int .i8 1).wf = true; decide), (by show (Lit.int .i64 0).wf = true; decide), HW.out.s, Nat.zero_le _⟩, Kids.nil _ _⟩, hB9, .inl ⟨rfl, rfl⟩⟩


set_option maxHeartbeats 2000000 in
set_option maxRecDepth 100000 in
theorem lnil_any {F : Nat → Prop} {W : World}  :
    Calls Tryz.prog 110 #[] W (GvPost F (some (.mk 6 0 ⟨#[]⟩ ⟨#[]⟩ [])) W) := by
  have hn1 := heap_new W (.cells (cells5 zeroT (.slice none 0 0)) 29)
  have hb1 := alloc_below W (.cells (cells5 zeroT (.slice none 0 0)) 29)
  go_enter Tryz.func110, Tryz.ntmps110
  go_upto_region 1 with fail
  change Code.wp _ _ _ _ (W.alloc (.cells (cells5 zeroT (.slice none 0 0)) 29))
  generalize W.alloc (.cells (cells5 zeroT (.slice none 0 0)) 29) = w1 at hn1 hb1 ⊢
  have hr9 := setRow_heap' (cells := cells5 (.mk 6 0 ⟨#[]⟩ ⟨#[]⟩ []) (.slice none 0 0)) hn1
  have hB9 := below_setRow (g := W.heap.size) (cells := cells5 (.mk 6 0 ⟨#[]⟩ ⟨#[]⟩ []) (.slice none 0 0)) hb1 (Nat.le_refl _)
  go_wp2_with (refine wpList_store_row rfl 29 _ _ rfl W.heap.size (cells5 (.mk 6 0 ⟨#[]⟩ ⟨#[]⟩ []) (.slice none 0 0)) (by kernel_rfl) (by kernel_rfl) 29 (cells5 zeroT (.slice none 0 0)) hn1 (size28 _ _) (by kernel_rfl) (by kernel_rfl) ?_)
  exact bodyPost_ret (v := .tuple #[.agg (cells5 (.mk 6 0 ⟨#[]⟩ ⟨#[]⟩ []) (.slice none 0 0)), .nilIface]) (results_term Tryz.results110 _ _ _ _ _ rfl hr9) rfl ⟨(.mk 6 0 ⟨#[]⟩ ⟨#[]⟩ []), _, .nilIface, rfl, ⟨⟨by decide, (by show (Lit.int .i64 0).wf = true; decide), Nat.zero_le _, Nat.zero_le _⟩, Kids.nil _ _⟩, hB9, .inl ⟨rfl, rfl⟩⟩

end Go.Proofs.YtlhobpknflobgaaGreatDoor
