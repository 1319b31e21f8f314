/-
  pleachref07.Walk: a tree's nodes, each ahead of its parts. Conditions: the tree lies as 'TrV' says and has at most as many nodes as are wanted.
  pleachref07.Walk's answer as a slice of trees. Conditions: the tree lies as 'TrV' says and has at most as many nodes as are wanted.
  append on a row of the call's own: the row stays where it was, or a new one is made. Generic; no condition beyond those of 'wpList_append_own'.
  Pure laws of patterns filled: the term that a pattern is ('Tr.fil', 'Tr.rfil'), how it is matched again, names put ahead. No program, no condition.
  Pure laws of patterns, part two: a pattern that matched is filled to the very term; names put ahead change nothing. No program, no condition.
-/
import Derived.Test.YtlhobpknflobgaaGreatDoorS16
import Derived.Test.YtlhobpknflobgaaGreatDoorS18
namespace Go.Proofs.YtlhobpknflobgaaGreatDoor
open Go.RowKit

/-- A tree's nodes, each ahead of its parts. -/
def Tr.pre : Tr → List Tr
  | .mk k n s t l => .mk k n s t l :: prel l
where prel : List Tr → List Tr
  | [] => []
  | x :: r => x.pre ++ prel r
theorem pre_eq (x : Tr) : x.pre = x :: Tr.pre.prel x.l := by cases x; rfl
theorem prel_drop {l : List Tr} {k : Nat} (hk : k < l.length) : Tr.pre.prel (l.drop k) = l[k].pre ++ Tr.pre.prel (l.drop (k + 1)) := by rw [List.drop_eq_getElem_cons hk, Tr.pre.prel]
theorem pre_len (x : Tr) : x.pre.length = x.nn := by
  induction x using Tr.ind with
  | h x ih =>
    rw [pre_eq, nn_eq]
    have key : ∀ l : List Tr, (∀ y ∈ l, y ∈ x.l) → (Tr.pre.prel l).length = Tr.nn.nnl l := by
      intro l
      induction l with
      | nil => intro _; rfl
      | cons a r ihr => intro h; rw [Tr.pre.prel, Tr.nn.nnl, List.length_append, ih a (h a (by simp)), ihr fun y hy => h y (List.mem_cons_of_mem _ hy)]
    rw [List.length_cons, key x.l fun _ h => h]
theorem prel_len {l : List Tr} : (Tr.pre.prel l).length = Tr.nn.nnl l := by
  induction l with
  | nil => rfl
  | cons a r ihr => rw [Tr.pre.prel, Tr.nn.nnl, List.length_append, pre_len, ihr]

/-- Trees, with their cells in a row. -/
theorem Kids.cells {F : Nat → Prop} {w : World} {p : Option Addr} {n c : Nat} {l : List Tr} (h : Kids F w (.slice p n c) l) : ∃ L : List (Tr × Value), L.map (·.1) = l ∧ (∀ q ∈ L, TrV F w q.1 q.2) ∧ ∀ b, p = some b → ∀ j u, (L.flatMap tcells)[j]? = some u → w.cell? (b.add j) = some u := by
  have key : ∀ (m : List Tr) (k : Nat), (∀ i (h : i < m.length), ∃ g o sv, p = some ⟨g, o, none⟩ ∧ F g ∧ NodeAt w g (o + (k + i) * 5) m[i] sv ∧ TrV F w m[i] sv) → ∃ L : List (Tr × Value), L.map (·.1) = m ∧ (∀ q ∈ L, TrV F w q.1 q.2) ∧ ∀ b, p = some b → ∀ j u, (L.flatMap tcells)[j]? = some u → w.cell? (b.add (k * 5 + j)) = some u := by
    intro m
    induction m with
    | nil => exact fun k _ => ⟨[], rfl, fun q hq => absurd hq (by simp), fun b _ j u hu => by simp at hu⟩
    | cons x m ih =>
      intro k hk
      obtain ⟨L, h1, h2, h3⟩ := ih (k + 1) (fun i hi => by have := hk (i + 1) (by simpa using hi); rwa [show k + (i + 1) = k + 1 + i from by omega] at this)
      obtain ⟨g, o, sv, hp, _, hn, ht⟩ := hk 0 (by simp)
      refine ⟨(x, sv) :: L, by simp [h1], fun q hq => ?_, fun a ha j u hu => ?_⟩
      · rcases List.mem_cons.1 hq with rfl | hq
        · exact ht
        · exact h2 q hq
      · rw [hp] at ha
        cases ha
        simp only [Nat.add_zero, List.getElem_cons_zero] at hn
        simp only [List.flatMap_cons] at hu
        rw [addr_add]
        by_cases hj : j < 5
        · rw [List.getElem?_append_left (by simpa [tcells] using hj)] at hu
          obtain ⟨a0, a1, a2, a3, a4⟩ := hn
          match j, hj with
          | 0, _ => simp [tcells] at hu; rw [← hu]; exact a0
          | 1, _ => simp [tcells] at hu; rw [← hu]; exact a1
          | 2, _ => simp [tcells] at hu; rw [← hu]; exact a2
          | 3, _ => simp [tcells] at hu; rw [← hu]; exact a3
          | 4, _ => simp [tcells] at hu; rw [← hu]; exact a4
        · rw [List.getElem?_append_right (by simp [tcells]; omega)] at hu
          have := h3 _ hp (j - (tcells (x, sv)).length) u hu
          rw [addr_add] at this
          rw [show o + (k * 5 + j) = o + ((k + 1) * 5 + (j - (tcells (x, sv)).length)) from by simp [tcells]; omega]
          exact this
  obtain ⟨L, h1, h2, h3⟩ := key l 0 (fun i hi => by rw [Nat.zero_add]; exact h.at hi)
  exact ⟨L, h1, h2, fun b hb j u hu => by have := h3 b hb j u hu; simpa using this⟩

theorem row_under {w w' : World} {base : Nat} {e : TypeId} {size : Nat} {v : Value} {n : Nat} {xs : List Value} (h : w.ownsRow base e size v n xs) (hb : Below w.heap.size w w') : w'.ownsRow base e size v n xs := by
  obtain ⟨h1, h2⟩ := h
  refine ⟨h1, ?_⟩
  rcases h2 with h2 | ⟨g, cap, cur, hv, hg, hh, r⟩
  · exact .inl h2
  · exact .inr ⟨g, cap, cur, hv, hg, (hb.block g (Array.getElem?_eq_some_iff.1 hh).1).trans hh, r⟩
theorem row_base {w : World} {base : Nat} {e : TypeId} {size : Nat} {v : Value} {n : Nat} {xs : List Value} (h : w.ownsRow base e size v n xs) : ∀ j, v.ownBlock = some j → base ≤ j := by
  intro j hj
  rcases h.2 with ⟨rfl, _⟩ | ⟨g, cap, cur, rfl, hg, _⟩
  · cases hj
  · cases hj; exact hg
theorem row_cells {w : World} {base : Nat} {e : TypeId} {size : Nat} {v : Value} {n : Nat} {xs : List Value} (h : w.ownsRow base e size v n xs) (hn : 0 < n) : ∃ g c, v = .slice (some ⟨g, 0, none⟩) n c ∧ ∀ j u, xs[j]? = some u → w.cell? (Addr.add ⟨g, 0, none⟩ j) = some u := by
  obtain ⟨hl, h1⟩ := h
  rcases h1 with ⟨rfl, h0⟩ | ⟨g, cap, cur, rfl, hg, hh, hc, _, _, ht⟩
  · omega
  · refine ⟨g, cap, rfl, fun j u hu => ?_⟩
    have hj : j < n * size := by have := (List.getElem?_eq_some_iff.1 hu).1; omega
    rw [← ht, List.getElem?_take, if_pos hj] at hu
    rw [addr_add]
    simp [World.cell?, hh]
    simpa using hu
theorem row_shape {w : World} {base : Nat} {e : TypeId} {size : Nat} {v : Value} {n : Nat} {xs : List Value} (h : w.ownsRow base e size v n xs) : ∃ q c, v = .slice q n c := by
  rcases h.2 with ⟨rfl, h0⟩ | ⟨g, cap, cur, rfl, _⟩
  · exact ⟨none, 0, by rw [h0]⟩
  · exact ⟨_, cap, rfl⟩
def WalkSays (F : Nat → Prop) (x : Tr) : Prop := ∀ (w0 w : World) (sv : Value) (most : Nat), TrV F w0 x sv → Below w0.heap.size w0 w → x.nn ≤ most → most ≤ 1048576 →
    Calls Tryz.prog 59 #[.agg #[.int .i8 x.k, .int .i64 x.n, .string x.s, .string x.t, sv], .int .i64 most] w fun e w' => ∃ (v : Value) (L : List (Tr × Value)), e = .returned v ∧ w'.ownsRow w.heap.size 25 5 v L.length (L.flatMap tcells) ∧ (∀ q ∈ L, TrV F w0 q.1 q.2) ∧ L.map (·.1) = x.pre ∧ Below w.heap.size w w'
/-- What the round knows. -/
def WkRel (F : Nat → Prop) (x : Tr) (w0 w1 : World) (out i : Value) (wr : World) : Prop :=
  ∃ k : Nat, k ≤ x.l.length ∧ i = .int .i64 k ∧ ∃ L : List (Tr × Value), wr.ownsRow w1.heap.size 25 5 out L.length (L.flatMap tcells) ∧ (∀ q ∈ L, TrV F w0 q.1 q.2) ∧ L.map (·.1) ++ Tr.pre.prel (x.l.drop k) = x.pre ∧ Below w1.heap.size w1 wr

theorem row_mono {w : World} {base base' : Nat} {e : TypeId} {size : Nat} {v : Value} {n : Nat} {xs : List Value} (h : w.ownsRow base e size v n xs) (hb : base' ≤ base) : w.ownsRow base' e size v n xs := by
  obtain ⟨h1, h2⟩ := h
  refine ⟨h1, ?_⟩
  rcases h2 with h2 | ⟨g, cap, cur, hv, hg, r⟩
  · exact .inl h2
  · exact .inr ⟨g, cap, cur, hv, Nat.le_trans hb hg, r⟩

set_option maxHeartbeats 4000000 in
set_option maxRecDepth 100000 in
theorem walk_any {F : Nat → Prop} (x : Tr) : WalkSays F x := by
  induction x using Tr.ind with
  | h x ih =>
    intro w0 w sv most hx hb0 hn hm
    obtain ⟨p, c, rfl⟩ := hx.kids.slice
    have hlen : x.l.length ≤ 2199023255552 := hx.kids.len
    have hnode := node_heap (heap_new w (.cells #[.int .i8 x.k, .int .i64 x.n, .string x.s, .string x.t, .slice p x.l.length c] 25))
    have hb1 := alloc_below w (.cells #[.int .i8 x.k, .int .i64 x.n, .string x.s, .string x.t, .slice p x.l.length c] 25)
    obtain ⟨i0, hi, hz0, hz1, hz2⟩ := info_parts infoNode
    have IH := Lib.hid ih
    have HX := Lib.hid hx
    have HN := Lib.hid hn
    clear ih hx hn
    go_enter Tryz.func59, Tryz.ntmps59
    go_upto_region 1 with fail
    have hsz1 : (w.alloc (.cells #[.int .i8 x.k, .int .i64 x.n, .string x.s, .string x.t, .slice p x.l.length c] 25)).heap.size = w.heap.size + 1 := by simp
    generalize w.alloc (.cells #[.int .i8 x.k, .int .i64 x.n, .string x.s, .string x.t, .slice p x.l.length c] 25) = w1 at hnode hb1 hsz1 ⊢
    obtain ⟨a0, a1, a2, a3, a4⟩ := hnode
    simp only [Nat.zero_add] at a0 a1 a2 a3 a4
    have hsz : w.heap.size < w1.heap.size := by omega
    have HSZ := Lib.hid hsz
    clear hsz hsz1
    go_upto_region 2 with fail
    have hg2 := heap_new w1 (.cells #[.int .i8 x.k, .int .i64 x.n, .string x.s, .string x.t, .slice p x.l.length c] 25)
    have hb2 := alloc_below w1 (.cells #[.int .i8 x.k, .int .i64 x.n, .string x.s, .string x.t, .slice p x.l.length c] 25)
    generalize w1.alloc (.cells #[.int .i8 x.k, .int .i64 x.n, .string x.s, .string x.t, .slice p x.l.length c] 25) = w2 at hg2 hb2 ⊢
    have a4' : w2.cell? ⟨w.heap.size, 4, none⟩ = some (.slice p x.l.length c) := (hb2.cell (p := ⟨w.heap.size, 4, none⟩) HSZ.out).trans a4
    have A4 := Lib.hid a4
    have hown : w2.ownsRow w1.heap.size 25 5 (.slice (some ⟨w1.heap.size, 0, none⟩) 1 1) 1 (tcells (x, .slice p x.l.length c)) := ⟨rfl, .inr ⟨w1.heap.size, 1, _, rfl, Nat.le_refl _, hg2, Nat.le_refl _, by unfold maxLen; omega, rfl, rfl⟩⟩
    clear a0 a1 a2 a3 a4
    go_wp2_with fail
    have hpre0 : ([(x, Value.slice p x.l.length c)] : List (Tr × Value)).map (·.1) ++ Tr.pre.prel (x.l.drop 0) = x.pre := by rw [pre_eq]; rfl
    have HPRE := Lib.hid hpre0
    clear hpre0 a4'
    go_loopw [5, 6] (fun out i wr => WkRel F x w0 w1 out i wr) (fun _ i _ => x.l.length - (intOf i).toNat)
    case atStart => exact ⟨0, Nat.zero_le _, rfl, [(x, .slice p x.l.length c)], hown, fun q hq => by simp only [List.mem_singleton] at hq; subst hq; exact HX.out, HPRE.out, hb2⟩
    case round =>
      obtain ⟨k, hk, rfl, L, hownL, hL, hpre, hbr⟩ := hrel
      have hB := hb1.trans (hbr.mono hb1.size)
      have hB0 := hb0.trans (hB.mono hb0.size)
      have a4r := (hbr.cell (p := ⟨w.heap.size, 4, none⟩) HSZ.out).trans A4.out
      have hcount : L.length + Tr.nn.nnl (x.l.drop k) = x.nn := by
        have := congrArg List.length hpre
        rw [List.length_append, List.length_map, prel_len, pre_len] at this
        exact this
      have hmost := HN.out
      have HL := Lib.hid hL
      have HP := Lib.hid hpre
      clear hL hpre
      obtain ⟨q, cp, hv⟩ := row_shape hownL
      subst hv
      by_cases hlt : k < x.l.length
      · have hltm : (L.length : Int) < (most : Int) := by
          rw [nnl_drop hlt] at hcount
          have := nn_pos x.l[k]
          omega
        obtain ⟨g, o, kv, rfl, _, hnode, hkid⟩ := HX.out.kids.at hlt
        obtain ⟨e0, e1, e2, e3, e4⟩ := hnode.keep (hB0.block g hnode.lt)
        obtain ⟨p3, c3, rfl⟩ := hkid.kids.slice
        have hcnt2 := hcount
        rw [nnl_drop hlt] at hcnt2
        have cK := IH.out x.l[k] (List.getElem_mem hlt) w0 wr _ (most - L.length) hkid hB0 (by omega) (by omega)
        rw [show (((most - L.length : Nat) : Int)) = (most : Int) - (L.length : Int) by omega] at cK
        have HC := Lib.hid hcnt2
        have hrsz := hbr.size
        clear hkid hcount hcnt2 hnode
        go_wp2_with (first
          | (go_at_call 59; refine cK.mono ?_; rintro e w5 ⟨v5, L5, rfl, hrow5, ht5, hm5, hb5⟩
             have hl5 : L5.length = x.l[k].pre.length := by simpa using congrArg List.length hm5
             have hl6 : 0 < L5.length := by rw [hl5, pre_len]; exact nn_pos _
             obtain ⟨g5, c5, rfl, hc5⟩ := row_cells hrow5 hl6
             have hown5 := row_under hownL hb5
             have HL5 := Lib.hid hl5
             have HM5 := Lib.hid hm5
             have HT5 := Lib.hid ht5
             have HC5 := Lib.hid hc5
             have hsz5 := hb5.size
             clear hl5 hl6 hm5 ht5 hc5)
          | (at_builtin; refine wpList_append_own _ rfl (.tmp 22) (.tmp 32) 23 rfl w1.heap.size 25 i0 _ 5 72 Tryz.underlying23 hi hz0 hz1 hz2 rfl (by decide) _ L.length (L.flatMap tcells) rfl hown5 ⟨g5, 0, none⟩ L5.length c5 (L5.flatMap tcells) rfl (flat5_len _) HC5.out (fun u hu => by obtain ⟨q', hq', hu'⟩ := List.mem_flatMap.1 hu; exact tcells_plain (HT5.out q' hq') u hu') ?h2 ?h3 (by omega) ?_; rotate_left 2; intro v6 w6 hown6 hg6 hn6))
        case h2 => have := HC.out; have := HL5.out; rw [pre_len] at this; unfold maxLen; omega
        case h3 => have := HC.out; have := HL5.out; rw [pre_len] at this; omega
        have hB6 : Below w1.heap.size w1 w6 := (hbr.trans (hb5.mono hbr.size)).grown hg6 (by omega) (row_base hownL)
        go_roundw
        case rel =>
          refine ⟨k + 1, hlt, by go_num, L ++ L5, ?_, fun q' hq' => ?_, ?_, hB6⟩
          · rw [List.length_append, List.flatMap_append]; exact hown6
          · rcases List.mem_append.1 hq' with h | h
            · exact HL.out q' h
            · exact HT5.out q' h
          · rw [List.map_append, HM5.out, List.append_assoc, ← prel_drop hlt]; exact HP.out
        case measure => simp [intOf]; omega
      · have hd : x.l.drop k = [] := List.drop_eq_nil_of_le (by omega)
        have hp := HP.out
        rw [hd] at hp
        have HE : Hid (L.map (·.1) = x.pre) := by unfold Hid; rw [← hp]; simp [Tr.pre.prel]
        clear hp
        go_wp2
        go_ret
        exact ⟨_, L, rfl, row_mono hownL (Nat.le_of_lt HSZ.out), HL.out, HE.out, hB⟩
end Go.Proofs.YtlhobpknflobgaaGreatDoor
namespace Go.Proofs.YtlhobpknflobgaaGreatDoor
open Go.RowKit

theorem TrV.wide {P P' : Nat → Prop} {w : World} {x : Tr} {v : Value} (h : TrV P w x v) (hP : ∀ g, P g → g < w.heap.size → P' g) : TrV P' w x v := ⟨h.wf, h.kids.mono hP⟩
theorem walkK_any {F : Nat → Prop} {x : Tr} {w : World} {sv : Value} {most : Nat} (hF : ∀ k, w.heap.size ≤ k → F k) (hx : TrV F w x sv) (hn : x.nn ≤ most) (hm : most ≤ 1048576) :
    Calls Tryz.prog 59 #[.agg #[.int .i8 x.k, .int .i64 x.n, .string x.s, .string x.t, sv], .int .i64 most] w fun e w' => ∃ v, e = .returned v ∧ Kids F w' v x.pre ∧ Below w.heap.size w w' := by
  refine (walk_any x w w sv most hx (Below.refl _ _) hn hm).mono ?_
  rintro e w' ⟨v, L, rfl, hrow, hL, hpre, hb⟩
  refine ⟨v, rfl, ?_, hb⟩
  have hlen : L.length ≤ BL := by
    have : L.length = x.nn := by rw [← pre_len, ← hpre, List.length_map]
    unfold BL; omega
  have := kids_row (F := F) hrow hF (fun q hq => (hL q hq).below hb) hlen
  rw [hpre] at this
  exact this
end Go.Proofs.YtlhobpknflobgaaGreatDoor
namespace Go.Proofs.YtlhobpknflobgaaGreatDoor
open Go.RowKit

theorem run_append_own2 {P : Program} {w : World} (base : Nat) (t ty e : TypeId) (i : TypeInfo) (z : Value) (size bytes : Nat) (ht : P.underlying t = some (.slice e)) (hi : P.info? e = some i) (hz : i.zero = some z)
    (hsize : i.size = size) (hby : i.bytes = bytes) (hzs : z.cells.size = size) (hsz : 0 < size) (v : Value) (n : Nat) (xs : List Value) (hown : w.ownsRow base e size v n xs)
    (ad : Addr) (m c : Nat) (news : List Value) (hl : news.length = m * size) (hnews : ∀ j u, news[j]? = some u → w.cell? (ad.add j) = some u) (h1 : ∀ u ∈ news, u.oneCell' = true)
    (h63 : n + m ≤ maxLen) (hbytes : (n + m) * bytes ≤ 140737488355328) (hbase : base ≤ w.heap.size) :
    ∃ v' w', (Builtin.append_ #[t, t] ty #[v, .slice (some ad) m c]).run P w = .ok v' w' ∧ w'.ownsRow base e size v' (n + m) (xs ++ news) ∧ w.grownBy w' v.ownBlock ∧ (v'.ownBlock = v.ownBlock ∨ ∀ j, v'.ownBlock = some j → w.heap.size ≤ j) := by
  obtain ⟨v', w', hr, k1, k2, _⟩ := run_append_own (P := P) w base t ty e i z size bytes ht hi hz hsize hby hzs hsz v n xs hown ad m c news hl hnews h1 h63 hbytes hbase
  refine ⟨v', w', hr, k1, k2, ?_⟩
  have hown' := hown
  obtain ⟨hx, h2⟩ := hown
  rcases h2 with ⟨rfl, rfl⟩ | ⟨g, cap, cur, rfl, hg, hh, hc, hm, hs, htk⟩
  · obtain rfl : xs = [] := List.eq_nil_of_length_eq_zero (by simpa using hx)
    obtain ⟨v2, w2, hr2, l1, _⟩ := run_append_own (P := P) w w.heap.size t ty e i z size bytes ht hi hz hsize hby hzs hsz (.slice none 0 0) 0 [] (World.ownsRow_nil ..) ad m c news hl hnews h1 h63 hbytes (Nat.le_refl _)
    rw [hr] at hr2
    cases hr2
    exact .inr (row_base l1)
  · by_cases hroom : n + m ≤ cap
    · subst hsize
      have hcell : ∀ j, j < news.length → w.cell? ⟨g, 0 + n * i.size + j, none⟩ = cur[n * i.size + j]? := fun j _ => by rw [Nat.zero_add]; exact arr_cell hh
      have hlt : ∀ j, j < news.length → n * i.size + j < cur.size := fun j hj => by
        rw [hs]
        have : (n + m) * i.size ≤ cap * i.size := Nat.mul_le_mul_right _ hroom
        rw [Nat.add_mul] at this
        omega
      have hr2 := run_append_room_cells (P := P) w t ty e i ht hi g 0 n cap ad m c news hl hnews h1 hroom (fun j hj => by rw [hcell j hj, Array.getElem?_eq_getElem (hlt j hj)]; rfl) (fun j hj => arr_free hh)
      rw [hr] at hr2
      cases hr2
      exact .inl rfl
    · obtain ⟨v2, w2, hr2, l1, _⟩ := run_append_arg_grows (P := P) w t ty e i z size bytes ht hi hz hsize hby hzs hsz ⟨g, 0, none⟩ n cap xs hx (fun j u hu => hown'.cells (g := g) rfl j u hu) ad m c news hl hnews (by omega) h63 hbytes
      rw [hr] at hr2
      cases hr2
      exact .inr (row_base l1)

theorem wpList_append_own2 {P : Program} {w : World} {ops : Array Oper} {rest : List Oper} {o : Oper} {a : Act} {Q : Exit → Act → World → Prop} (hgd : o.guard = none) (s x : Operand) (t : TypeId)
    (ho : o.op = .call { callee := .builtin .append, args := #[s, x], argTypes := #[t, t] })
    (base : Nat) (e : TypeId) (i : TypeInfo) (z : Value) (size bytes : Nat) (ht : P.underlying t = some (.slice e)) (hi : P.info? e = some i) (hz : i.zero = some z)
    (hsize : i.size = size) (hby : i.bytes = bytes) (hzs : z.cells.size = size) (hsz : 0 < size)
    (v : Value) (n : Nat) (xs : List Value) (hs : a.eval s = v) (hown : w.ownsRow base e size v n xs)
    (ad : Addr) (m c : Nat) (news : List Value) (hx : a.eval x = .slice (some ad) m c) (hl : news.length = m * size) (hnews : ∀ j u, news[j]? = some u → w.cell? (ad.add j) = some u) (h1 : ∀ u ∈ news, u.oneCell' = true)
    (h63 : n + m ≤ maxLen) (hbytes : (n + m) * bytes ≤ 140737488355328) (hbase : base ≤ w.heap.size)
    (h : ∀ v' w', w'.ownsRow base e size v' (n + m) (xs ++ news) → w.grownBy w' v.ownBlock → (v'.ownBlock = v.ownBlock ∨ ∀ j, v'.ownBlock = some j → w.heap.size ≤ j) → wpList P ops Q rest (a.put o.dst v') w') : wpList P ops Q (o :: rest) a w := by
  refine wpList_plain hgd fun K hK => ?_
  obtain ⟨v', w', hr, k1, k2, k3⟩ := run_append_own2 (P := P) (w := w) base t o.type e i z size bytes ht hi hz hsize hby hzs hsz v n xs hown ad m c news hl hnews h1 h63 hbytes hbase
  unfold Oper.wp
  simp [execOp, ho, resolve, invoke, builtin, hs, hx, hr, Result.andThen]
  exact hK _ _ (h v' w' k1 k2 k3)
/-- The same as one step of a region that draws. -/
theorem step_append_own2 {P : Program} {w : World} {ops : Array Oper} {o : Oper} {a : Act} {K : Act → World → Prop} {Q : Exit → Act → World → Prop} {E : Prop} (hgd : o.guard = none) (s x : Operand) (t : TypeId)
    (ho : o.op = .call { callee := .builtin .append, args := #[s, x], argTypes := #[t, t] })
    (base : Nat) (e : TypeId) (i : TypeInfo) (z : Value) (size bytes : Nat) (ht : P.underlying t = some (.slice e)) (hi : P.info? e = some i) (hz : i.zero = some z)
    (hsize : i.size = size) (hby : i.bytes = bytes) (hzs : z.cells.size = size) (hsz : 0 < size)
    (v : Value) (n : Nat) (xs : List Value) (hs : a.eval s = v) (hown : w.ownsRow base e size v n xs)
    (ad : Addr) (m c : Nat) (news : List Value) (hx : a.eval x = .slice (some ad) m c) (hl : news.length = m * size) (hnews : ∀ j u, news[j]? = some u → w.cell? (ad.add j) = some u) (h1 : ∀ u ∈ news, u.oneCell' = true)
    (h63 : n + m ≤ maxLen) (hbytes : (n + m) * bytes ≤ 140737488355328) (hbase : base ≤ w.heap.size)
    (h : ∀ v' w', w'.ownsRow base e size v' (n + m) (xs ++ news) → w.grownBy w' v.ownBlock → (v'.ownBlock = v.ownBlock ∨ ∀ j, v'.ownBlock = some j → w.heap.size ≤ j) → K (a.put o.dst v') w') :
    if Region.wanted o (yielded ops a.tmps) = true then Oper.wp P o a w K Q else E := by
  have hw : Region.wanted o (yielded ops a.tmps) = true := by simp [Region.wanted, hgd]
  rw [if_pos hw]
  obtain ⟨v', w', hr, k1, k2, k3⟩ := run_append_own2 (P := P) (w := w) base t o.type e i z size bytes ht hi hz hsize hby hzs hsz v n xs hown ad m c news hl hnews h1 h63 hbytes hbase
  unfold Oper.wp
  simp [execOp, ho, resolve, invoke, builtin, hs, hx, hr, Result.andThen]
  exact h v' w' k1 k2 k3
end Go.Proofs.YtlhobpknflobgaaGreatDoor
namespace Go.Proofs.YtlhobpknflobgaaGreatDoor
open Go.RowKit

theorem bs_eq {a b : ByteArray} (h : (a.toList == b.toList) = true) : a = b := by
  have h1 : a.toList = b.toList := by simpa using h
  rw [ByteArray.toList_eq, ByteArray.toList_eq] at h1
  exact Go.WideShapes.bytes_inj h1
theorem bs_beq {a b : ByteArray} : (a.toList == b.toList) = true ↔ a = b := ⟨bs_eq, fun h => by rw [h]; simp⟩
theorem emp_bs {s : ByteArray} (h : emp s = true) : s = ⟨#[]⟩ := by
  have h1 : s.toList = [] := by simpa [emp] using h
  have h2 : (⟨#[]⟩ : ByteArray).toList = [] := by rw [ByteArray.toList_eq]
  exact bs_eq (by rw [h1, h2]; rfl)
theorem same_true {x : Tr} : ∀ {y : Tr}, x.same y = true → x = y := by
  induction x using Tr.ind with
  | h x ih =>
    intro y h
    rw [same_eq] at h
    simp only [Bool.and_eq_true, beq_iff_eq] at h
    obtain ⟨h1, h2, h3, h4, h5, h6⟩ := h
    have key : ∀ (l m : List Tr), (∀ z ∈ l, z ∈ x.l) → l.length = m.length → Tr.same.samel l m = true → l = m := by
      intro l
      induction l with
      | nil => intro m _ h _; exact (List.eq_nil_of_length_eq_zero h.symm).symm
      | cons a l ihl =>
        intro m hm h hs
        cases m with
        | nil => simp at h
        | cons b m =>
          rw [Tr.same.samel, Bool.and_eq_true] at hs
          rw [ih a (hm a (by simp)) hs.1, ihl m (fun z hz => hm z (List.mem_cons_of_mem _ hz)) (by simpa using h) hs.2]
    have h7 := key x.l y.l (fun _ h => h) (by omega) h6
    rw [← Tr.eta x, ← Tr.eta y, h1, h2, h7, bs_eq (by simpa using h3 : (x.s.toList == y.s.toList) = true), bs_eq (by simpa using h4 : (x.t.toList == y.t.toList) = true)]
theorem same_self (x : Tr) : x.same x = true := by
  induction x using Tr.ind with
  | h x ih =>
    rw [same_eq]
    have key : ∀ l : List Tr, (∀ y ∈ l, y ∈ x.l) → Tr.same.samel l l = true := by
      intro l
      induction l with
      | nil => intro _; rfl
      | cons a r ihr => intro h; rw [Tr.same.samel, ih a (h a (by simp)), ihr fun y hy => h y (List.mem_cons_of_mem _ hy)]; rfl
    rw [key x.l fun _ h => h]
    simp
theorem same_iff {x y : Tr} : x.same y = true ↔ x = y := ⟨same_true, fun h => by rw [h]; exact same_self y⟩

/-- May all of a term's nodes be? -/
def Tr.ok : Tr → Bool
  | .mk k n s t l => oneB (.mk k n s t l) && okl l
where okl : List Tr → Bool
  | [] => true
  | x :: r => x.ok && okl r
theorem ok_eq (x : Tr) : x.ok = (oneB x && Tr.ok.okl x.l) := by cases x; rfl
theorem okl_iff : ∀ {l : List Tr}, Tr.ok.okl l = true ↔ ∀ y ∈ l, y.ok = true
  | [] => by simp [Tr.ok.okl]
  | x :: r => by rw [Tr.ok.okl, Bool.and_eq_true, okl_iff (l := r)]; simp
theorem nn_one (x : Tr) : 1 ≤ x.nn := by rw [nn_eq]; omega
theorem sz_of (x : Tr) : ∀ m : Int, (x.nn : Int) ≤ m → x.sz m = x.nn := by
  induction x using Tr.ind with
  | h x ih =>
    intro m hm
    rw [nn_eq] at hm ⊢
    cases x with
    | mk k n s t l =>
      have key : ∀ (r : List Tr), (∀ y ∈ r, y ∈ l) → ∀ a : Int, a + Tr.nn.nnl r ≤ m → Tr.sz.szl r m a = a + Tr.nn.nnl r := by
        intro r
        induction r with
        | nil => exact fun _ a _ => by simp [Tr.sz.szl, Tr.nn.nnl]
        | cons y r ihr =>
          intro hr a h2
          have h1 := nn_one y
          rw [Tr.nn.nnl] at h2 ⊢
          rw [Tr.sz.szl, if_pos (by omega), ih y (hr y (by simp)) _ (by omega), ihr (fun z hz => hr z (List.mem_cons_of_mem _ hz)) _ (by omega)]
          omega
      show Tr.sz.szl l m 1 = _
      simp only [Tr.l] at hm ⊢
      rw [key l (fun _ h => h) 1 (by omega)]; omega
theorem cnt_ok (x : Tr) (h : x.ok = true) : ∀ m : Int, x.cnt m = (x.sz m, true) := by
  induction x using Tr.ind with
  | h x ih =>
    intro m
    rw [ok_eq, Bool.and_eq_true] at h
    rw [cnt_eq, if_pos h.1]
    cases x with
    | mk k n s t l =>
      have key : ∀ (r : List Tr), (∀ y ∈ r, y ∈ l) → ∀ a : Int, Tr.cnt.cntl r m a = (Tr.sz.szl r m a, true) := by
        intro r
        induction r with
        | nil => exact fun _ a => by simp [Tr.sz.szl, Tr.cnt.cntl]
        | cons y r ihr =>
          intro hr a
          rw [Tr.cnt.cntl, Tr.sz.szl]
          by_cases hma : m ≤ a
          · rw [if_pos hma, if_neg (by omega)]
          · rw [if_neg hma, if_pos (show a < m by omega), ih y (hr y (by simp)) (okl_iff.1 h.2 y (hr y (by simp)))]; simp only [if_true]; exact ihr (fun z hz => hr z (List.mem_cons_of_mem _ hz)) _
      exact key l (fun _ h => h) 1
theorem chk_ok {x : Tr} (h : chkT x = 0) : x.ok = true := by
  induction x using Tr.ind with
  | h x ih => rw [ok_eq, chk_one h, okl_iff.2 fun y hy => ih y hy (chk_kids h y hy)]; rfl
theorem chk_iff {x : Tr} : chkT x = 0 ↔ x.ok = true ∧ x.nn ≤ 256 := by
  constructor
  · intro h
    have ho := chk_ok h
    refine ⟨ho, ?_⟩
    unfold chkT at h
    rw [cnt_ok x ho] at h
    simp only [if_true] at h
    have h1 : x.sz 257 ≤ 256 := by
      by_cases hc : 256 < x.sz 257
      · rw [if_pos hc] at h; simp at h
      · omega
    have := sz_nn x 257 (by omega) (by omega)
    omega
  · rintro ⟨h1, h2⟩
    unfold chkT
    rw [cnt_ok x h1, sz_of x 257 (by omega)]
    simp only [if_true]
    rw [if_neg (by omega)]

/-- A pattern's kind, as a term's. -/
def kindT (k : Int) : Int := if k = 6 then 0 else if k = 7 then 1 else if k = 8 then 6 else if k = 9 then 7 else 5
/-- The term that a pattern is; none: a name has no term. -/
def Tr.fil : Tr → List Bd → Option Tr
  | .mk k n s _ l, b => if k = 5 then bfind b s else (fill l b).map fun r => .mk (kindT k) n s ⟨#[]⟩ r
where fill : List Tr → List Bd → Option (List Tr)
  | [], _ => some []
  | x :: r, b => match x.fil b with
    | some y => (fill r b).map (y :: ·)
    | none => none
theorem fil_eq (p : Tr) (b : List Bd) : p.fil b = if p.k = 5 then bfind b p.s else (Tr.fil.fill p.l b).map fun r => .mk (kindT p.k) p.n p.s ⟨#[]⟩ r := by cases p; rfl
theorem fill_take {l : List Tr} {k : Nat} {b : List Bd} (h1 : k < l.length) : Tr.fil.fill (l.drop k) b = match l[k].fil b with
    | some y => (Tr.fil.fill (l.drop (k + 1)) b).map (y :: ·)
    | none => none := by
  rw [List.drop_eq_getElem_cons h1, Tr.fil.fill]
/-- The document's term of a pattern. -/
def Tr.rfil : Tr → List Bd → Tr
  | .mk k n s _ l, b => if k = 5 then (bfind b s).getD zeroT else if k = 6 then .mk 0 n ⟨#[]⟩ ⟨#[]⟩ [] else if k = 7 then .mk 1 0 s ⟨#[]⟩ [] else if k = 8 then .mk 6 0 ⟨#[]⟩ ⟨#[]⟩ []
    else .mk (if k = 9 then 7 else 5) 0 ⟨#[]⟩ ⟨#[]⟩ (rfill l b)
where rfill : List Tr → List Bd → List Tr
  | [], _ => []
  | x :: r, b => x.rfil b :: rfill r b
theorem rfil_eq (p : Tr) (b : List Bd) : p.rfil b = if p.k = 5 then (bfind b p.s).getD zeroT else if p.k = 6 then .mk 0 p.n ⟨#[]⟩ ⟨#[]⟩ [] else if p.k = 7 then .mk 1 0 p.s ⟨#[]⟩ [] else if p.k = 8 then .mk 6 0 ⟨#[]⟩ ⟨#[]⟩ []
    else .mk (if p.k = 9 then 7 else 5) 0 ⟨#[]⟩ ⟨#[]⟩ (Tr.rfil.rfill p.l b) := by cases p; rfl
theorem rfill_map (l : List Tr) (b : List Bd) : Tr.rfil.rfill l b = l.map (·.rfil b) := by
  induction l with
  | nil => rfl
  | cons x r ih => rw [Tr.rfil.rfill, ih]; rfl

/-- A pattern by its kinds, in full. -/
theorem pat_kinds {p : Tr} (h : p.pat = true) :
    (p.k = 5 ∧ nameA p.s = true ∧ p.l = []) ∨ (p.k = 6 ∧ p.s = ⟨#[]⟩ ∧ p.l = [] ∧ mayI p.n = true) ∨ (p.k = 7 ∧ p.n = 0 ∧ p.l = [] ∧ mayA p.s = true) ∨ (p.k = 8 ∧ p.n = 0 ∧ p.s = ⟨#[]⟩ ∧ p.l = []) ∨
    ((p.k = 10 ∨ p.k = 9 ∧ p.l.length = 2) ∧ p.n = 0 ∧ p.s = ⟨#[]⟩ ∧ Tr.pat.patl p.l = true) := by
  have h0 := h
  rw [pat_eq] at h
  simp only [Bool.or_eq_true, Bool.and_eq_true, beq_iff_eq] at h
  rcases h with h | h
  · unfold leafB at h
    split at h
    · rename_i hk; simp [bareB] at h; exact .inl ⟨hk, h.2, by simp [h.1.2]⟩
    · split at h
      · rename_i hk; simp [bareB] at h; exact .inr (.inl ⟨hk, emp_bs h.1.1.1, by simp [h.1.2], h.2⟩)
      · split at h
        · rename_i hk; simp [bareB, atomN] at h; exact .inr (.inr (.inl ⟨hk, h.1.1.1, by simp [h.1.2], h.2.1⟩))
        · split at h
          · rename_i hk; simp [bareB] at h; exact .inr (.inr (.inr (.inl ⟨hk, h.1.1.1, emp_bs h.1.1.2, by simp [h.2]⟩)))
          · simp at h
  · obtain ⟨⟨h1, h2⟩, h3⟩ := h
    simp [bareB] at h2
    refine .inr (.inr (.inr (.inr ⟨?_, h2.1.1, emp_bs h2.1.2, h3⟩)))
    rcases h1 with h1 | ⟨h1, h4⟩
    · exact .inl h1
    · exact .inr ⟨h1, by omega⟩
theorem prel_mem {z : Tr} : ∀ {l : List Tr}, z ∈ Tr.pre.prel l ↔ ∃ y ∈ l, z ∈ y.pre
  | [] => by simp [Tr.pre.prel]
  | x :: r => by rw [Tr.pre.prel, List.mem_append, prel_mem (l := r)]; simp
theorem pre_mem {z x : Tr} : z ∈ x.pre ↔ z = x ∨ ∃ y ∈ x.l, z ∈ y.pre := by rw [pre_eq, List.mem_cons, prel_mem]
theorem fill_none : ∀ {l : List Tr} {b : List Bd}, Tr.fil.fill l b = none ↔ ∃ y ∈ l, y.fil b = none
  | [], b => by simp [Tr.fil.fill]
  | x :: r, b => by
    rw [Tr.fil.fill]
    cases hx : x.fil b with
    | none => simp [hx]
    | some y =>
      have := fill_none (l := r) (b := b)
      cases hr : Tr.fil.fill r b with
      | none => rw [hr] at this; have := this.1 rfl; obtain ⟨z, h1, h2⟩ := this; simp; exact .inr ⟨z, h1, h2⟩
      | some q =>
        rw [hr] at this
        simp only [Option.map_some, reduceCtorEq, false_iff, List.mem_cons, exists_eq_or_imp, hx, false_or]
        intro h; have := this.2 h; cases this
/-- A pattern has no term just if one of its names has none. -/
theorem fil_none {p : Tr} (h : p.pat = true) (b : List Bd) : p.fil b = none ↔ ∃ z ∈ p.pre, z.k = 5 ∧ bfind b z.s = none := by
  induction p using Tr.ind with
  | h p ih =>
    rw [fil_eq]
    have hvar : p.k ≠ 5 → p.l = [] → ¬ ∃ z ∈ p.pre, z.k = 5 ∧ bfind b z.s = none := by
      rintro h1 h2 ⟨z, hz, h3, _⟩
      rcases pre_mem.1 hz with rfl | ⟨y, hy, _⟩
      · exact h1 h3
      · rw [h2] at hy; simp at hy
    rcases pat_kinds h with ⟨hk, _, hl⟩ | ⟨hk, _, hl, _⟩ | ⟨hk, _, hl, _⟩ | ⟨hk, _, _, hl⟩ | ⟨hk, _, _, hp⟩
    · rw [if_pos hk]
      constructor
      · exact fun h => ⟨p, by rw [pre_mem]; exact .inl rfl, hk, h⟩
      · rintro ⟨z, hz, _, h3⟩
        rcases pre_mem.1 hz with rfl | ⟨y, hy, _⟩
        · exact h3
        · rw [hl] at hy; simp at hy
    iterate 3
      rw [if_neg (by omega), hl]
      simp only [Tr.fil.fill, Option.map_some, reduceCtorEq, false_iff]
      exact hvar (by omega) hl
    · have hk5 : p.k ≠ 5 := by rcases hk with hk | ⟨hk, _⟩ <;> omega
      rw [if_neg hk5, Option.map_eq_none_iff, fill_none]
      constructor
      · rintro ⟨y, hy, h1⟩
        obtain ⟨z, hz, h2⟩ := (ih y hy (patl_mem hp y hy)).1 h1
        exact ⟨z, pre_mem.2 (.inr ⟨y, hy, hz⟩), h2⟩
      · rintro ⟨z, hz, h2⟩
        rcases pre_mem.1 hz with rfl | ⟨y, hy, hz⟩
        · exact absurd h2.1 hk5
        · exact ⟨y, hy, (ih y hy (patl_mem hp y hy)).2 ⟨z, hz, h2⟩⟩
theorem fill_some : ∀ {l m : List Tr} {b : List Bd}, Tr.fil.fill l b = some m → l.length = m.length ∧ ∀ i (h1 : i < l.length) (h2 : i < m.length), l[i].fil b = some m[i]
  | [], m, b, h => by
    cases h
    exact ⟨rfl, fun i h1 => absurd h1 (by simp)⟩
  | x :: r, m, b, h => by
    rw [Tr.fil.fill] at h
    cases hx : x.fil b with
    | none => rw [hx] at h; cases h
    | some y =>
      rw [hx] at h
      cases hr : Tr.fil.fill r b with
      | none => rw [hr] at h; cases h
      | some q =>
        rw [hr] at h
        cases h
        obtain ⟨h1, h2⟩ := fill_some hr
        refine ⟨by simp [h1], fun i h3 h4 => ?_⟩
        cases i with
        | zero => exact hx
        | succ i => simpa using h2 i (by simpa using h3) (by simpa using h4)
theorem fill_kid {l m : List Tr} {b : List Bd} (h : Tr.fil.fill l b = some m) {y : Tr} (hy : y ∈ m) : ∃ q ∈ l, q.fil b = some y := by
  obtain ⟨h1, h2⟩ := fill_some h
  obtain ⟨i, hi, rfl⟩ := List.getElem_of_mem hy
  exact ⟨l[i]'(by omega), List.getElem_mem _, h2 i (by omega) hi⟩
/-- The document's term is the program's. -/
theorem fil_rfil {p : Tr} (h : p.pat = true) {b : List Bd} : ∀ {y : Tr}, p.fil b = some y → p.rfil b = y := by
  induction p using Tr.ind with
  | h p ih =>
    intro y hy
    rw [fil_eq] at hy
    rw [rfil_eq]
    rcases pat_kinds h with ⟨hk, _, hl⟩ | ⟨hk, hs, hl, _⟩ | ⟨hk, hn, hl, _⟩ | ⟨hk, hn, hs, hl⟩ | ⟨hk, hn, hs, hp⟩
    · rw [if_pos hk] at hy ⊢
      rw [hy]; rfl
    · rw [if_neg (by omega), hl] at hy
      rw [if_neg (by omega), if_pos hk]
      cases hy; rw [hk, hs]; rfl
    · rw [if_neg (by omega), hl] at hy
      rw [if_neg (by omega), if_neg (by omega), if_pos hk]
      cases hy; rw [hk, hn]; rfl
    · rw [if_neg (by omega), hl] at hy
      rw [if_neg (by omega), if_neg (by omega), if_neg (by omega), if_pos hk]
      cases hy; rw [hk, hn, hs]; rfl
    · have hk5 : p.k = 10 ∨ p.k = 9 := by rcases hk with hk | ⟨hk, _⟩ <;> simp [hk]
      rw [if_neg (by omega)] at hy
      rw [if_neg (by omega), if_neg (by omega), if_neg (by omega), if_neg (by omega)]
      cases hf : Tr.fil.fill p.l b with
      | none => rw [hf] at hy; cases hy
      | some m =>
        rw [hf] at hy
        cases hy
        obtain ⟨h1, h2⟩ := fill_some hf
        have : Tr.rfil.rfill p.l b = m := by
          rw [rfill_map]
          refine List.ext_getElem (by simpa using h1) fun i h3 h4 => ?_
          rw [List.getElem_map]
          have h5 : i < p.l.length := by simpa using h3
          exact ih _ (List.getElem_mem h5) (patl_mem hp _ (List.getElem_mem h5)) (h2 i h5 h4)
        rw [this, hn, hs]
        unfold kindT
        rcases hk5 with hk | hk <;> rw [hk] <;> rfl
theorem bfind_mem {b : List Bd} {s : ByteArray} {y : Tr} (h : bfind b s = some y) : ∃ q ∈ b, q.t = y ∧ q.s = s := by
  unfold bfind at h
  cases hf : b.find? (fun b => b.s.toList == s.toList) with
  | none => rw [hf] at h; cases h
  | some q => rw [hf] at h; cases h; exact ⟨q, List.mem_of_find?_eq_some hf, rfl, bs_eq (by have := List.find?_some hf; simpa using this)⟩
/-- What a pattern is, may be, as the names' terms may. -/
theorem fil_ok {p : Tr} (h : p.pat = true) {b : List Bd} (hb : ∀ q ∈ b, q.t.ok = true) : ∀ {y : Tr}, p.fil b = some y → y.ok = true := by
  induction p using Tr.ind with
  | h p ih =>
    intro y hy
    rw [fil_eq] at hy
    rcases pat_kinds h with ⟨hk, _, hl⟩ | ⟨hk, hs, hl, hm⟩ | ⟨hk, hn, hl, hm⟩ | ⟨hk, hn, hs, hl⟩ | ⟨hk, hn, hs, hp⟩
    · rw [if_pos hk] at hy
      obtain ⟨q, hq, rfl, _⟩ := bfind_mem hy
      exact hb q hq
    · rw [if_neg (by omega), hl] at hy
      cases hy; rw [hk, hs, ok_eq]
      revert hm; generalize p.n = pn; intro hm
      simp [oneB, kindT, Tr.k, Tr.l, Tr.n, Tr.s, Tr.t, bareB, emp, Tr.ok.okl, hm, ByteArray.toList_eq]
    · rw [if_neg (by omega), hl] at hy
      cases hy; rw [hk, hn, ok_eq]
      revert hm; generalize p.s = ps; intro hm
      simp [oneB, kindT, Tr.k, Tr.l, Tr.n, Tr.s, Tr.t, bareB, emp, Tr.ok.okl, hm, ByteArray.toList_eq]
    · rw [if_neg (by omega), hl] at hy
      cases hy; rw [hk, hn, hs, ok_eq]
      simp [oneB, kindT, Tr.k, Tr.l, Tr.n, Tr.s, Tr.t, bareB, emp, Tr.ok.okl, ByteArray.toList_eq]
    · rw [if_neg (by rcases hk with hk | ⟨hk, _⟩ <;> omega)] at hy
      cases hf : Tr.fil.fill p.l b with
      | none => rw [hf] at hy; cases hy
      | some m =>
        rw [hf] at hy
        cases hy
        have h1 := (fill_some hf).1
        rw [ok_eq, Bool.and_eq_true, okl_iff]
        refine ⟨?_, fun y hy => ?_⟩
        · rcases hk with hk | ⟨hk, h2⟩
          · rw [hk, hn, hs]; simp [oneB, kindT, Tr.k, Tr.l, Tr.n, Tr.s, Tr.t, bareB, emp, ByteArray.toList_eq]
          · have : m.length = 2 := by omega
            rw [hk, hn, hs]; simp [oneB, kindT, Tr.k, Tr.l, Tr.n, Tr.s, Tr.t, bareB, emp, ByteArray.toList_eq, this]
        · obtain ⟨q, hq, h2⟩ := fill_kid hf hy
          exact ih q hq (patl_mem hp q hq) h2

theorem und_none {b : List Bd} (hu : ∀ q ∈ b, undB q.s = false) {s : ByteArray} (h : undB s = true) : bfind b s = none := by
  cases hf : bfind b s with
  | none => rfl
  | some y =>
    obtain ⟨q, hq, _, h1⟩ := bfind_mem hf
    have := hu q hq
    rw [h1, h] at this; cases this
/-- What a pattern is, it matches, and binds nothing. -/
theorem go_fil {p : Tr} (h : p.pat = true) {b : List Bd} : ∀ {y : Tr}, p.fil b = some y → p.go y b = some b := by
  induction p using Tr.ind with
  | h p ih =>
    intro y hy
    rw [fil_eq] at hy
    rw [go_eq]
    rcases pat_kinds h with ⟨hk, _, hl⟩ | ⟨hk, hs, hl, hm⟩ | ⟨hk, hn, hl, hm⟩ | ⟨hk, hn, hs, hl⟩ | ⟨hk, hn, hs, hp⟩
    · rw [if_pos hk] at hy ⊢
      split
      · rfl
      · rw [hy]; simp only; rw [same_self]; rfl
    · rw [if_neg (by omega), hl] at hy
      rw [if_neg (by omega), if_pos hk]
      cases hy; rw [hk]; exact if_pos ⟨rfl, rfl⟩
    · rw [if_neg (by omega), hl] at hy
      rw [if_neg (by omega), if_neg (by omega), if_pos hk]
      cases hy; rw [hk]; exact if_pos ⟨rfl, by show (p.s.toList == p.s.toList) = true; simp⟩
    · rw [if_neg (by omega), hl] at hy
      rw [if_neg (by omega), if_neg (by omega), if_neg (by omega), if_pos hk]
      cases hy; rw [hk]; rfl
    · have hk5 : p.k = 10 ∨ p.k = 9 := by rcases hk with hk | ⟨hk, _⟩ <;> simp [hk]
      rw [if_neg (by omega)] at hy
      rw [if_neg (by omega), if_neg (by omega), if_neg (by omega), if_neg (by omega)]
      cases hf : Tr.fil.fill p.l b with
      | none => rw [hf] at hy; cases hy
      | some m =>
        rw [hf] at hy
        cases hy
        have key : ∀ (l m : List Tr), (∀ z ∈ l, z ∈ p.l) → Tr.fil.fill l b = some m → Tr.go.gol l m b = some b := by
          intro l
          induction l with
          | nil => intro m _ _; rw [Tr.go.gol]
          | cons a l ihl =>
            intro m hm hfm
            rw [Tr.fil.fill] at hfm
            cases ha : a.fil b with
            | none => rw [ha] at hfm; cases hfm
            | some c =>
              rw [ha] at hfm
              cases hr : Tr.fil.fill l b with
              | none => rw [hr] at hfm; cases hfm
              | some r =>
                rw [hr] at hfm
                cases hfm
                rw [Tr.go.gol, ih a (hm a (by simp)) (patl_mem hp a (hm a (by simp))) ha]
                exact ihl r (fun z hz => hm z (List.mem_cons_of_mem _ hz)) hr
        have h1 := (fill_some hf).1
        show (if p.k = 9 then (if kindT p.k = 7 then Tr.go.gol p.l m b else none) else if kindT p.k = 5 ∧ ((m.length : Int)) = p.l.length then Tr.go.gol p.l m b else none) = some b
        rcases hk5 with hk | hk
        · rw [if_neg (by omega), if_pos ⟨by rw [hk]; rfl, by omega⟩]; exact key _ _ (fun _ h => h) hf
        · rw [if_pos hk, if_pos (by rw [hk]; rfl)]; exact key _ _ (fun _ h => h) hf

theorem bfind_app {b : List Bd} {s : ByteArray} (k : List Bd) : bfind (b ++ k) s = (bfind b s).or (bfind k s) := by
  unfold bfind
  rw [List.find?_append]
  cases b.find? (fun b => b.s.toList == s.toList) <;> rfl
/-- What a pattern that goes leaves: the names, and more behind them, of its own names and of the term's parts. -/
theorem go_more {p : Tr} (h : p.pat = true) : ∀ {x : Tr} {b out : List Bd}, x.ok = true → x.nn ≤ 256 → p.go x b = some out → ∃ m, out = b ++ m ∧ ∀ q ∈ m, undB q.s = false ∧ nameA q.s = true ∧ chkT q.t = 0 ∧ ∃ z ∈ p.pre, z.k = 5 ∧ z.s = q.s := by
  induction p using Tr.ind with
  | h p ih =>
    intro x b out hx hn hg
    rw [go_eq] at hg
    have hnone : some b = some out → ∃ m, out = b ++ m ∧ ∀ q ∈ m, undB q.s = false ∧ nameA q.s = true ∧ chkT q.t = 0 ∧ ∃ z ∈ p.pre, z.k = 5 ∧ z.s = q.s := fun h => by cases h; exact ⟨[], by simp, fun q hq => by simp at hq⟩
    rcases pat_kinds h with ⟨hk, hm, hl⟩ | ⟨hk, hs, hl, hm⟩ | ⟨hk, hn', hl, hm⟩ | ⟨hk, hn', hs, hl⟩ | ⟨hk, hn', hs, hp⟩
    · rw [if_pos hk] at hg
      by_cases hu : undB p.s = true
      · rw [if_pos hu] at hg; exact hnone hg
      · rw [if_neg hu] at hg
        cases hf : bfind b p.s with
        | some y =>
          rw [hf] at hg
          simp only at hg
          split at hg
          · exact hnone hg
          · cases hg
        | none =>
          rw [hf] at hg
          cases hg
          refine ⟨[⟨p.s, x⟩], rfl, fun q hq => ?_⟩
          simp only [List.mem_singleton] at hq
          subst hq
          exact ⟨by simpa using hu, hm, chk_iff.2 ⟨hx, hn⟩, p, pre_mem.2 (.inl rfl), hk, rfl⟩
    · rw [if_neg (by omega), if_pos hk] at hg
      split at hg
      · exact hnone hg
      · cases hg
    · rw [if_neg (by omega), if_neg (by omega), if_pos hk] at hg
      split at hg
      · exact hnone hg
      · cases hg
    · rw [if_neg (by omega), if_neg (by omega), if_neg (by omega), if_pos hk] at hg
      split at hg
      · exact hnone hg
      · cases hg
    · have hk5 : p.k = 10 ∨ p.k = 9 := by rcases hk with hk | ⟨hk, _⟩ <;> simp [hk]
      rw [if_neg (by omega), if_neg (by omega), if_neg (by omega), if_neg (by omega)] at hg
      rw [ok_eq, Bool.and_eq_true, okl_iff] at hx
      rw [nn_eq] at hn
      have key : ∀ (l m : List Tr) (b out : List Bd), (∀ z ∈ l, z ∈ p.l) → (∀ z ∈ m, z ∈ x.l) → Tr.nn.nnl m ≤ 255 → Tr.go.gol l m b = some out → ∃ k, out = b ++ k ∧ ∀ q ∈ k, undB q.s = false ∧ nameA q.s = true ∧ chkT q.t = 0 ∧ ∃ z ∈ p.pre, z.k = 5 ∧ z.s = q.s := by
        intro l
        induction l with
        | nil =>
          intro m b out _ _ _ hg
          rw [Tr.go.gol] at hg; cases hg; exact ⟨[], by simp, fun q hq => by simp at hq⟩
        | cons a l ihl =>
          intro m b out hl hm hnm hg
          cases m with
          | nil => rw [Tr.go.gol] at hg; cases hg; exact ⟨[], by simp, fun q hq => by simp at hq⟩
          | cons c m =>
            rw [Tr.go.gol] at hg
            rw [Tr.nn.nnl] at hnm
            cases ha : a.go c b with
            | none => rw [ha] at hg; cases hg
            | some b' =>
              rw [ha] at hg
              obtain ⟨k1, rfl, h1⟩ := ih a (hl a (by simp)) (patl_mem hp a (hl a (by simp))) (hx.2 c (hm c (by simp))) (by omega) ha
              obtain ⟨k2, rfl, h2⟩ := ihl m _ out (fun z hz => hl z (List.mem_cons_of_mem _ hz)) (fun z hz => hm z (List.mem_cons_of_mem _ hz)) (by omega) hg
              refine ⟨k1 ++ k2, by simp, fun q hq => ?_⟩
              rcases List.mem_append.1 hq with hq | hq
              · obtain ⟨u1, u2, u3, z, hz, u4⟩ := h1 q hq
                exact ⟨u1, u2, u3, z, pre_mem.2 (.inr ⟨a, hl a (by simp), hz⟩), u4⟩
              · exact h2 q hq
      rcases hk5 with hk | hk
      · rw [if_neg (by omega)] at hg
        split at hg
        · exact key _ _ _ _ (fun _ h => h) (fun _ h => h) (by omega) hg
        · cases hg
      · rw [if_pos hk] at hg
        split at hg
        · exact key _ _ _ _ (fun _ h => h) (fun _ h => h) (by omega) hg
        · cases hg
/-- A pattern that matched matches again under what came of it, and whatever stands behind, and binds nothing. -/
theorem go_again {p : Tr} (h : p.pat = true) : ∀ {x : Tr} {b out : List Bd}, x.ok = true → x.nn ≤ 256 → p.go x b = some out → ∀ k, p.go x (out ++ k) = some (out ++ k) := by
  induction p using Tr.ind with
  | h p ih =>
    intro x b out hx hn hg k
    rw [go_eq] at hg ⊢
    rcases pat_kinds h with ⟨hk, hm, hl⟩ | ⟨hk, hs, hl, hm⟩ | ⟨hk, hn', hl, hm⟩ | ⟨hk, hn', hs, hl⟩ | ⟨hk, hn', hs, hp⟩
    · rw [if_pos hk] at hg ⊢
      by_cases hu : undB p.s = true
      · rw [if_pos hu] at hg ⊢
      · rw [if_neg hu] at hg ⊢
        cases hf : bfind b p.s with
        | some y =>
          rw [hf] at hg
          simp only at hg
          split at hg
          · rename_i hs
            cases hg
            rw [bfind_app, hf]
            simp only [Option.some_or]
            rw [if_pos hs]
          · cases hg
        | none =>
          rw [hf] at hg
          cases hg
          have : bfind (b ++ [⟨p.s, x⟩] ++ k) p.s = some x := by
            rw [bfind_app, bfind_app, hf]
            have : bfind [⟨p.s, x⟩] p.s = some x := by simp [bfind]
            rw [this]; rfl
          rw [this]
          simp only
          rw [if_pos (same_self x)]
    · rw [if_neg (by omega), if_pos hk] at hg ⊢
      split at hg
      · rename_i hc; rw [if_pos hc]
      · cases hg
    · rw [if_neg (by omega), if_neg (by omega), if_pos hk] at hg ⊢
      split at hg
      · rename_i hc; rw [if_pos hc]
      · cases hg
    · rw [if_neg (by omega), if_neg (by omega), if_neg (by omega), if_pos hk] at hg ⊢
      split at hg
      · rename_i hc; rw [if_pos hc]
      · cases hg
    · have hk5 : p.k = 10 ∨ p.k = 9 := by rcases hk with hk | ⟨hk, _⟩ <;> simp [hk]
      rw [if_neg (by omega), if_neg (by omega), if_neg (by omega), if_neg (by omega)] at hg ⊢
      rw [ok_eq, Bool.and_eq_true, okl_iff] at hx
      rw [nn_eq] at hn
      have key : ∀ (l m : List Tr) (b out : List Bd), (∀ z ∈ l, z ∈ p.l) → (∀ z ∈ m, z ∈ x.l) → Tr.nn.nnl m ≤ 255 → Tr.go.gol l m b = some out → ∀ k, Tr.go.gol l m (out ++ k) = some (out ++ k) := by
        intro l
        induction l with
        | nil => intro m b out _ _ _ hg k; rw [Tr.go.gol]
        | cons a l ihl =>
          intro m b out hl hm hnm hg k
          cases m with
          | nil => rw [Tr.go.gol]
          | cons c m =>
            rw [Tr.go.gol] at hg ⊢
            rw [Tr.nn.nnl] at hnm
            cases ha : a.go c b with
            | none => rw [ha] at hg; cases hg
            | some b' =>
              rw [ha] at hg
              have hpa := patl_mem hp a (hl a (by simp))
              have hok : ∀ z ∈ m, z.ok = true := fun z hz => hx.2 z (hm z (List.mem_cons_of_mem _ hz))
              have hext : ∃ k2, out = b' ++ k2 := by
                have : ∀ (l m : List Tr) (b out : List Bd), (∀ z ∈ l, z.pat = true) → (∀ z ∈ m, z.ok = true) → Tr.nn.nnl m ≤ 255 → Tr.go.gol l m b = some out → ∃ k, out = b ++ k := by
                  intro l
                  induction l with
                  | nil => intro m b out _ _ _ hg; rw [Tr.go.gol] at hg; cases hg; exact ⟨[], by simp⟩
                  | cons a l ihl =>
                    intro m b out hl hm hnm hg
                    cases m with
                    | nil => rw [Tr.go.gol] at hg; cases hg; exact ⟨[], by simp⟩
                    | cons c m =>
                      rw [Tr.go.gol] at hg
                      rw [Tr.nn.nnl] at hnm
                      cases ha : a.go c b with
                      | none => rw [ha] at hg; cases hg
                      | some b' =>
                        rw [ha] at hg
                        obtain ⟨k1, rfl, _⟩ := go_more (hl a (by simp)) (hm c (by simp)) (by omega) ha
                        obtain ⟨k2, rfl⟩ := ihl m _ out (fun z hz => hl z (List.mem_cons_of_mem _ hz)) (fun z hz => hm z (List.mem_cons_of_mem _ hz)) (by omega) hg
                        exact ⟨k1 ++ k2, by simp⟩
                exact this l m b' out (fun z hz => patl_mem hp z (hl z (List.mem_cons_of_mem _ hz))) hok (by omega) hg
              obtain ⟨k2, rfl⟩ := hext
              have h1 := ih a (hl a (by simp)) hpa (hx.2 c (hm c (by simp))) (by omega) ha (k2 ++ k)
              rw [← List.append_assoc] at h1
              rw [h1]
              exact ihl m b' _ (fun z hz => hl z (List.mem_cons_of_mem _ hz)) (fun z hz => hm z (List.mem_cons_of_mem _ hz)) (by omega) hg k
      rcases hk5 with hk | hk
      · rw [if_neg (by omega)] at hg ⊢
        split at hg
        · rename_i hc; rw [if_pos hc]; exact key _ _ _ _ (fun _ h => h) (fun _ h => h) (by omega) hg k
        · cases hg
      · rw [if_pos hk] at hg ⊢
        split at hg
        · rename_i hc; rw [if_pos hc]; exact key _ _ _ _ (fun _ h => h) (fun _ h => h) (by omega) hg k
        · cases hg
end Go.Proofs.YtlhobpknflobgaaGreatDoor
namespace Go.Proofs.YtlhobpknflobgaaGreatDoor
open Go.RowKit

theorem one_full {x : Tr} (h : oneB x = true) : (x.k = 0 → x.s = ⟨#[]⟩ ∧ x.t = ⟨#[]⟩ ∧ x.l = []) ∧ (x.k = 1 → x.n = 0 ∧ x.t = ⟨#[]⟩ ∧ x.l = []) ∧ (x.k = 6 → x.n = 0 ∧ x.s = ⟨#[]⟩ ∧ x.t = ⟨#[]⟩ ∧ x.l = []) ∧ (x.k = 7 → x.n = 0 ∧ x.s = ⟨#[]⟩ ∧ x.t = ⟨#[]⟩ ∧ x.l.length = 2) ∧ (x.k = 5 → x.n = 0 ∧ x.s = ⟨#[]⟩ ∧ x.t = ⟨#[]⟩) := by
  unfold oneB at h
  refine ⟨fun hk => ?_, fun hk => ?_, fun hk => ?_, fun hk => ?_, fun hk => ?_⟩ <;> rw [hk] at h <;> simp [bareB] at h
  · exact ⟨emp_bs h.1.1.1, emp_bs h.1.1.2, by simp [h.1.2]⟩
  · exact ⟨h.1.1.1, emp_bs h.1.1.2, by simp [h.1.2]⟩
  · exact ⟨h.1.1.1, emp_bs h.1.1.2, emp_bs h.1.2, by simp [h.2]⟩
  · exact ⟨h.1.1.1, emp_bs h.1.1.2, emp_bs h.1.2, by omega⟩
  · exact ⟨h.1.1, emp_bs h.1.2, emp_bs h.2⟩
theorem ok_kid {x y : Tr} (h : x.ok = true) (hy : y ∈ x.l) : y.ok = true := by
  rw [ok_eq, Bool.and_eq_true, okl_iff] at h
  exact h.2 y hy
theorem nn_kid {x y : Tr} (hy : y ∈ x.l) : y.nn < x.nn := by
  rw [nn_eq x]
  have : ∀ l : List Tr, y ∈ l → y.nn ≤ Tr.nn.nnl l := by
    intro l
    induction l with
    | nil => intro h; simp at h
    | cons a r ih =>
      intro h
      rw [Tr.nn.nnl]
      rcases List.mem_cons.1 h with rfl | h
      · omega
      · have := ih h; omega
  have := this x.l hy
  omega
/-- No name that takes anything stands in a pattern. -/
def noUnd (p : Tr) : Prop := ∀ z ∈ p.pre, z.k = 5 → undB z.s = false
/-- The parts of a pattern that goes: each goes, under names that more come behind. -/
theorem gol_parts {l m : List Tr} (hp : ∀ z ∈ l, z.pat = true) (hm : ∀ z ∈ m, z.ok = true ∧ z.nn ≤ 256) : ∀ {b out : List Bd}, Tr.go.gol l m b = some out → ∀ i (h1 : i < l.length) (h2 : i < m.length), ∃ b1 b2 k, l[i].go m[i] b1 = some b2 ∧ out = b2 ++ k := by
  induction l generalizing m with
  | nil => intro b out _ i h1; simp at h1
  | cons a l ihl =>
    intro b out hg i h1 h2
    cases m with
    | nil => simp at h2
    | cons c m =>
      rw [Tr.go.gol] at hg
      cases ha : a.go c b with
      | none => rw [ha] at hg; cases hg
      | some b' =>
        rw [ha] at hg
        have hext : ∀ (l m : List Tr) (b out : List Bd), (∀ z ∈ l, z.pat = true) → (∀ z ∈ m, z.ok = true ∧ z.nn ≤ 256) → Tr.go.gol l m b = some out → ∃ k, out = b ++ k := by
          intro l
          induction l with
          | nil => intro m b out _ _ hg; rw [Tr.go.gol] at hg; cases hg; exact ⟨[], by simp⟩
          | cons a l ihl =>
            intro m b out hl hm hg
            cases m with
            | nil => rw [Tr.go.gol] at hg; cases hg; exact ⟨[], by simp⟩
            | cons c m =>
              rw [Tr.go.gol] at hg
              cases ha : a.go c b with
              | none => rw [ha] at hg; cases hg
              | some b' =>
                rw [ha] at hg
                obtain ⟨k1, rfl, _⟩ := go_more (hl a (by simp)) (hm c (by simp)).1 (hm c (by simp)).2 ha
                obtain ⟨k2, rfl⟩ := ihl m _ out (fun z hz => hl z (List.mem_cons_of_mem _ hz)) (fun z hz => hm z (List.mem_cons_of_mem _ hz)) hg
                exact ⟨k1 ++ k2, by simp⟩
        cases i with
        | zero =>
          obtain ⟨k, rfl⟩ := hext l m b' out (fun z hz => hp z (List.mem_cons_of_mem _ hz)) (fun z hz => hm z (List.mem_cons_of_mem _ hz)) hg
          exact ⟨b, b', k, ha, rfl⟩
        | succ i =>
          obtain ⟨b1, b2, k, h3, h4⟩ := ihl (fun z hz => hp z (List.mem_cons_of_mem _ hz)) (fun z hz => hm z (List.mem_cons_of_mem _ hz)) hg i (by simpa using h1) (by simpa using h2)
          exact ⟨b1, b2, k, by simpa using h3, h4⟩
theorem fill_of : ∀ {l m : List Tr} {b : List Bd}, l.length = m.length → (∀ i (h1 : i < l.length) (h2 : i < m.length), l[i].fil b = some m[i]) → Tr.fil.fill l b = some m
  | [], m, b, h, _ => by rw [(List.eq_nil_of_length_eq_zero h.symm)]; rfl
  | x :: r, m, b, h, hi => by
    cases m with
    | nil => simp at h
    | cons y m =>
      rw [Tr.fil.fill, show x.fil b = some y from hi 0 (by simp) (by simp), fill_of (l := r) (m := m) (by simpa using h) fun i h1 h2 => hi (i + 1) (by simpa using h1) (by simpa using h2)]
      rfl
/-- A pattern that matched is filled to the very term, if no name that takes anything stands in it. -/
theorem fil_go {p : Tr} (h : p.pat = true) (hu : noUnd p) : ∀ {x : Tr} {b out : List Bd}, x.ok = true → x.nn ≤ 256 → p.go x b = some out → ∀ k, p.fil (out ++ k) = some x := by
  induction p using Tr.ind with
  | h p ih =>
    intro x b out hx hn hg k
    have hone := hx
    rw [ok_eq, Bool.and_eq_true] at hone
    obtain ⟨o0, o1, o6, o7, o5⟩ := one_full hone.1
    rw [go_eq] at hg
    rw [fil_eq]
    have heta := Tr.eta x
    rcases pat_kinds h with ⟨hk, hm, hl⟩ | ⟨hk, hs, hl, hm⟩ | ⟨hk, hn', hl, hm⟩ | ⟨hk, hn', hs, hl⟩ | ⟨hk, hn', hs, hp⟩
    · rw [if_pos hk] at hg ⊢
      rw [if_neg (by rw [hu p (pre_mem.2 (.inl rfl)) hk]; simp)] at hg
      cases hf : bfind b p.s with
      | some y =>
        rw [hf] at hg
        simp only at hg
        split at hg
        · rename_i hs
          cases hg
          rw [bfind_app, hf, same_true hs]; rfl
        · cases hg
      | none =>
        rw [hf] at hg
        cases hg
        rw [bfind_app, bfind_app, hf]
        have : bfind [⟨p.s, x⟩] p.s = some x := by simp [bfind]
        rw [this]; rfl
    · rw [if_neg (by omega), if_pos hk] at hg
      rw [if_neg (by omega), hl, hk, hs]
      split at hg
      · rename_i hc
        obtain ⟨e1, e2, e3⟩ := o0 hc.1
        simp only [Tr.fil.fill, Option.map_some]
        rw [← heta, hc.1, hc.2, e1, e2, e3]; rfl
      · cases hg
    · rw [if_neg (by omega), if_neg (by omega), if_pos hk] at hg
      rw [if_neg (by omega), hl, hk, hn']
      split at hg
      · rename_i hc
        obtain ⟨e1, e2, e3⟩ := o1 hc.1
        simp only [Tr.fil.fill, Option.map_some]
        rw [← heta, hc.1, bs_eq hc.2, e1, e2, e3]; rfl
      · cases hg
    · rw [if_neg (by omega), if_neg (by omega), if_neg (by omega), if_pos hk] at hg
      rw [if_neg (by omega), hl, hk, hn', hs]
      split at hg
      · rename_i hc
        obtain ⟨e0, e1, e2, e3⟩ := o6 hc
        simp only [Tr.fil.fill, Option.map_some]
        rw [← heta, hc, e0, e1, e2, e3]; rfl
      · cases hg
    · have hk5 : p.k = 10 ∨ p.k = 9 := by rcases hk with hk | ⟨hk, _⟩ <;> simp [hk]
      rw [if_neg (by omega), if_neg (by omega), if_neg (by omega), if_neg (by omega)] at hg
      rw [if_neg (by omega)]
      have hpl : ∀ z ∈ p.l, z.pat = true := patl_mem hp
      have hml : ∀ z ∈ x.l, z.ok = true ∧ z.nn ≤ 256 := fun z hz => ⟨ok_kid hx hz, by have := nn_kid hz; omega⟩
      have key : p.l.length = x.l.length → Tr.go.gol p.l x.l b = some out → Tr.fil.fill p.l (out ++ k) = some x.l := fun hlen hg' => fill_of hlen fun i h1 h2 => by
        obtain ⟨b1, b2, k2, h3, rfl⟩ := gol_parts hpl hml hg' i h1 h2
        have h4 := List.getElem_mem h1
        have := ih _ h4 (hpl _ h4) (fun z hz => hu z (pre_mem.2 (.inr ⟨_, h4, hz⟩))) (hml _ (List.getElem_mem h2)).1 (hml _ (List.getElem_mem h2)).2 h3 (k2 ++ k)
        rw [← List.append_assoc] at this
        exact this
      rcases hk with hk | ⟨hk, hk2⟩
      · rw [if_neg (by omega)] at hg
        split at hg
        · rename_i hc
          obtain ⟨e0, e1, e2⟩ := o5 hc.1
          rw [key (by omega) hg, hk, hn', hs]
          simp only [Option.map_some]
          rw [← heta, hc.1, e0, e1, e2]; rfl
        · cases hg
      · rw [if_pos hk] at hg
        split at hg
        · rename_i hc
          obtain ⟨e0, e1, e2, e3⟩ := o7 hc
          rw [key (by omega) hg, hk, hn', hs]
          simp only [Option.map_some]
          rw [← heta, hc, e0, e1, e2]; rfl
        · cases hg

theorem bfind_ahead {a b : List Bd} {s : ByteArray} (h : ∀ q ∈ a, q.s ≠ s) : bfind (a ++ b) s = bfind b s := by
  rw [bfind_app]
  have : bfind a s = none := by
    cases hf : bfind a s with
    | none => rfl
    | some y => obtain ⟨q, hq, _, h1⟩ := bfind_mem hf; exact absurd h1 (h q hq)
  rw [this]; rfl
/-- Names that a pattern has not, put ahead, change nothing. -/
theorem go_ahead {p : Tr} (h : p.pat = true) {a : List Bd} (ha : ∀ z ∈ p.pre, z.k = 5 → undB z.s = false → ∀ q ∈ a, q.s ≠ z.s) : ∀ {x : Tr} {b : List Bd}, p.go x (a ++ b) = (p.go x b).map (a ++ ·) := by
  induction p using Tr.ind with
  | h p ih =>
    intro x b
    rw [go_eq, go_eq p x b]
    rcases pat_kinds h with ⟨hk, hm, hl⟩ | ⟨hk, hs, hl, hm⟩ | ⟨hk, hn', hl, hm⟩ | ⟨hk, hn', hs, hl⟩ | ⟨hk, hn', hs, hp⟩
    · rw [if_pos hk, if_pos hk]
      by_cases hu : undB p.s = true
      · rw [if_pos hu, if_pos hu]; rfl
      · rw [if_neg hu, if_neg hu, bfind_ahead (ha p (pre_mem.2 (.inl rfl)) hk (by simpa using hu))]
        cases bfind b p.s with
        | some y => simp only; split <;> rfl
        | none => simp
    · have e5 : ¬ p.k = 5 := by omega
      rw [if_neg e5, if_neg e5, if_pos hk, if_pos hk]; split <;> rfl
    · have e5 : ¬ p.k = 5 := by omega
      have e6 : ¬ p.k = 6 := by omega
      rw [if_neg e5, if_neg e5, if_neg e6, if_neg e6, if_pos hk, if_pos hk]; split <;> rfl
    · have e5 : ¬ p.k = 5 := by omega
      have e6 : ¬ p.k = 6 := by omega
      have e7 : ¬ p.k = 7 := by omega
      rw [if_neg e5, if_neg e5, if_neg e6, if_neg e6, if_neg e7, if_neg e7, if_pos hk, if_pos hk]; split <;> rfl
    · have hk5 : p.k = 10 ∨ p.k = 9 := by rcases hk with hk | ⟨hk, _⟩ <;> simp [hk]
      have e5 : ¬ p.k = 5 := by omega
      have e6 : ¬ p.k = 6 := by omega
      have e7 : ¬ p.k = 7 := by omega
      have e8 : ¬ p.k = 8 := by omega
      rw [if_neg e5, if_neg e5, if_neg e6, if_neg e6, if_neg e7, if_neg e7, if_neg e8, if_neg e8]
      have key : ∀ (l m : List Tr) (b : List Bd), (∀ z ∈ l, z ∈ p.l) → Tr.go.gol l m (a ++ b) = (Tr.go.gol l m b).map (a ++ ·) := by
        intro l
        induction l with
        | nil => intro m b _; rw [Tr.go.gol, Tr.go.gol]; rfl
        | cons c l ihl =>
          intro m b hl
          cases m with
          | nil => rw [Tr.go.gol, Tr.go.gol]; rfl
          | cons y m =>
            rw [Tr.go.gol, Tr.go.gol, ih c (hl c (by simp)) (patl_mem hp c (hl c (by simp))) (fun z hz => ha z (pre_mem.2 (.inr ⟨c, hl c (by simp), hz⟩)))]
            cases c.go y b with
            | none => rfl
            | some b' => simp only [Option.map_some]; exact ihl m b' fun z hz => hl z (List.mem_cons_of_mem _ hz)
      rcases hk5 with hk | hk
      · have e9 : ¬ p.k = 9 := by omega
        rw [if_neg e9, if_neg e9]; split
        · exact key _ _ _ fun _ h => h
        · rfl
      · rw [if_pos hk, if_pos hk]; split
        · exact key _ _ _ fun _ h => h
        · rfl

theorem may_all {l : List Bd} (h : mayB l = true) : l.length ≤ 64 ∧ ∀ b ∈ l, undB b.s = false ∧ nameA b.s = true ∧ chkT b.t = 0 := by
  unfold mayB at h
  simp only [Bool.and_eq_true, decide_eq_true_eq, Bool.not_eq_true'] at h
  refine ⟨h.1, fun b hb => ?_⟩
  have h2 := (List.any_eq_false.1 h.2) b hb
  simp only [badB, Bool.or_eq_true, Bool.not_eq_true', not_or, Bool.not_eq_true, Bool.not_eq_false, beq_iff_eq] at h2
  exact h2
theorem may_of {l : List Bd} (h1 : l.length ≤ 64) (h : ∀ b ∈ l, undB b.s = false ∧ nameA b.s = true ∧ chkT b.t = 0) : mayB l = true := by
  unfold mayB
  simp only [Bool.and_eq_true, decide_eq_true_eq, Bool.not_eq_true']
  refine ⟨h1, List.any_eq_false.2 fun b hb => ?_⟩
  obtain ⟨h2, h3, h4⟩ := h b hb
  simp [badB, h2, h3, h4]
/-- What came of matching names that may be, may be, if it is not too long. -/
theorem go_may {p x : Tr} {l out : List Bd} (hp : p.pat = true) (hx : chkT x = 0) (hl : mayB l = true) (hg : p.go x l = some out) (hn : out.length ≤ 64) : mayB out = true := by
  obtain ⟨h1, h2⟩ := chk_iff.1 hx
  obtain ⟨m, rfl, hm⟩ := go_more hp h1 h2 hg
  refine may_of hn fun b hb => ?_
  rcases List.mem_append.1 hb with hb | hb
  · exact (may_all hl).2 b hb
  · exact ⟨(hm b hb).1, (hm b hb).2.1, (hm b hb).2.2.1⟩

/-- What 'Fill' tells. -/
def filS (p : Tr) (l : List Bd) : Tr × Int := if (!patB p || !mayB l) = true then (zeroT, 2) else match p.fil l with
  | none => (zeroT, 2)
  | some y => if 256 < y.sz 257 then (zeroT, 11) else (y, 0)
/-- What the document's 'Fill' tells. -/
def rfilS (p : Tr) (l : List Bd) : Tr × Int := if (!patB p || !mayB l) = true then (zeroT, 2) else if (p.pre.any fun z => z.k == 5 && (bfind l z.s).isNone) = true then (zeroT, 2) else
  if 256 < (p.rfil l).sz 257 then (zeroT, 11) else (p.rfil l, 0)
theorem patB_pat {p : Tr} (h : patB p = true) : p.pat = true := by
  unfold patB at h
  simp only [Bool.and_eq_true] at h
  exact h.2
theorem filS_eq (p : Tr) (l : List Bd) : rfilS p l = filS p l := by
  unfold rfilS filS
  by_cases h : (!patB p || !mayB l) = true
  · rw [if_pos h, if_pos h]
  · rw [if_neg h, if_neg h]
    have hp : p.pat = true := patB_pat (by cases hq : patB p <;> simp [hq] at h ⊢)
    have h1 := fil_none hp l
    cases hf : p.fil l with
    | none =>
      obtain ⟨z, hz, h2, h3⟩ := h1.1 hf
      rw [if_pos (List.any_eq_true.2 ⟨z, hz, by simp [h2, h3]⟩)]
    | some y =>
      rw [if_neg, fil_rfil hp hf]
      intro hc
      obtain ⟨z, hz, h2⟩ := List.any_eq_true.1 hc
      simp only [Bool.and_eq_true, beq_iff_eq, Option.isNone_iff_eq_none] at h2
      have := h1.2 ⟨z, hz, h2⟩
      rw [hf] at this; cases this
/-- What Fill tells as a term matches the pattern, and binds nothing. -/
theorem fil_match {p : Tr} {l : List Bd} (h : (filS p l).2 = 0) : matchS p (filS p l).1 l = (l, true, 0) := by
  unfold filS at h ⊢
  split at h
  · simp at h
  rename_i hc
  rw [if_neg hc]
  simp only [Bool.or_eq_true, Bool.not_eq_true', not_or, Bool.not_eq_false] at hc
  obtain ⟨h1, h2⟩ := may_all hc.2
  cases hf : p.fil l with
  | none => rw [hf] at h; simp at h
  | some y =>
    rw [hf] at h
    simp only at h ⊢
    split at h
    · simp at h
    rename_i hs
    rw [if_neg hs]
    have hok := fil_ok (patB_pat hc.1) (fun q hq => chk_ok (h2 q hq).2.2) hf
    have hnn := sz_nn y 257 (by omega) (by omega)
    have hchk : chkT y = 0 := chk_iff.2 ⟨hok, by omega⟩
    unfold matchS goR
    rw [if_neg (by simp [hc.1, hc.2, hchk]), go_fil (patB_pat hc.1) hf]
/-- A match that is: its parts. -/
theorem match_parts {p x : Tr} {l out : List Bd} (h : matchS p x l = (out, true, 0)) : patB p = true ∧ chkT x = 0 ∧ mayB l = true ∧ p.go x l = some out := by
  unfold matchS at h
  split at h
  · cases h
  rename_i hc
  simp only [Bool.or_eq_true, Bool.not_eq_true', not_or, Bool.not_eq_false, beq_eq_false_iff_ne, ne_eq, Decidable.not_not] at hc
  unfold goR at h
  cases hg : p.go x l with
  | none => rw [hg] at h; cases h
  | some o => rw [hg] at h; cases h; exact ⟨hc.1, hc.2.1, hc.2.2, rfl⟩
/-- MatchFill's second part. -/
theorem match_again {p x : Tr} {l out : List Bd} (h : matchS p x l = (out, true, 0)) : (∃ m, out = l ++ m) ∧ (out.length ≤ 64 → matchS p x out = (out, true, 0) ∧
    (noUnd p → filS p out = (x, 0)) ∧ ((∃ z ∈ p.pre, z.k = 5 ∧ undB z.s = true) → (filS p out).2 = 2)) := by
  obtain ⟨h1, h2, h3, h4⟩ := match_parts h
  have hp := patB_pat h1
  obtain ⟨hx, hn⟩ := chk_iff.1 h2
  obtain ⟨m, hm, _⟩ := go_more hp hx hn h4
  refine ⟨⟨m, hm⟩, fun hlen => ?_⟩
  have hmay := go_may hp h2 h3 h4 hlen
  have hag := go_again hp hx hn h4 []
  rw [List.append_nil] at hag
  refine ⟨?_, fun hu => ?_, fun ⟨z, hz, hz5, hzu⟩ => ?_⟩
  · unfold matchS goR
    rw [if_neg (by simp [h1, h2, hmay]), hag]
  · have hf := fil_go hp hu hx hn h4 []
    rw [List.append_nil] at hf
    unfold filS
    rw [if_neg (by simp [h1, hmay]), hf]
    simp only
    rw [if_neg]
    rw [sz_of x 257 (by omega)]; omega
  · have hnone : p.fil out = none := (fil_none hp out).2 ⟨z, hz, hz5, und_none (fun q hq => ((may_all hmay).2 q hq).1) hzu⟩
    unfold filS
    rw [if_neg (by simp [h1, hmay]), hnone]
/-- MatchMore's law. -/
theorem match_ahead {p x : Tr} {l a : List Bd} (ha : ∀ z ∈ p.pre, z.k = 5 → undB z.s = false → ∀ q ∈ a, q.s ≠ z.s) (h1 : (matchS p x l).2.2 = 0) (h2 : (matchS p x (a ++ l)).2.2 = 0) : matchS p x (a ++ l) = (a ++ (matchS p x l).1, (matchS p x l).2.1, 0) := by
  unfold matchS at h1 h2 ⊢
  split at h1
  · simp at h1
  split at h2
  · simp at h2
  rename_i c1 c2
  rw [if_neg c1, if_neg c2]
  simp only [Bool.or_eq_true, Bool.not_eq_true', not_or, Bool.not_eq_false] at c1
  unfold goR
  rw [go_ahead (patB_pat c1.1) ha]
  cases p.go x l <;> rfl
end Go.Proofs.YtlhobpknflobgaaGreatDoor
