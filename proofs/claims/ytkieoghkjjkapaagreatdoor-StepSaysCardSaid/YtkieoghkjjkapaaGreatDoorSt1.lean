/-
  step.Binds, pleachref18.Binds, pleachref13.Name, pleachlaw18.wide; pleachref10.Same at nothing. Conditions: the frame's terms lie as 'Kids' says, its truths as 'Bools'.
-/
import Derived.Test.YtkieoghkjjkapaaGreatDoorSa4
import Derived.Test.YtkieoghkjjkapaaGreatDoorCs1
import Derived.Test.YtkieoghkjjkapaaGreatDoorOa3
import Derived.Deep.RegionHeld3
import Derived.Deep.DeepCutAuto
import Derived.Laws.AppendOwn
namespace Go.Proofs.YtkieoghkjjkapaaGreatDoor
open Go.RowKit Oa

set_option maxHeartbeats 1000000 in
theorem rname_any (n : Int) (w : World) : Calls Tryz.prog 21 #[.int .i64 n] w fun e w' => e = .returned (.string (nmS n)) ∧ w' = w := by
  by_cases h0 : n < 0
  · have e : nmS n = ⟨#[]⟩ := by unfold nmS; rw [if_neg (by omega)]
    rw [e]
    clear e
    go_enter Tryz.func21, Tryz.ntmps21
    go_wp2
    go_ret
    exact ⟨rfl, rfl⟩
  · by_cases h1 : n < 32
    · obtain ⟨k, rfl⟩ : ∃ k : Nat, n = k := ⟨n.toNat, by omega⟩
      have e : nmS k = ⟨#[86]⟩ ++ ⟨(Lib.decDigits k).toArray⟩ := by
        unfold nmS
        rw [if_pos (by omega)]
        apply ByteArray.ext
        simp
      rw [e]
      have cI := fun W => itoa_any k (by omega) W
      have hl := dec_len (k := k) (by omega)
      clear e
      go_enter Tryz.func21, Tryz.ntmps21
      go_wp2_with (go_at_call 35; refine (cI _).mono ?_; rintro e w' ⟨rfl, rfl⟩)
      all_goals first
        | (go_ret; exact ⟨rfl, rfl⟩)
        | (exfalso; simp at *; omega)
    · have e : nmS n = ⟨#[]⟩ := by unfold nmS; rw [if_neg (by omega)]
      rw [e]
      clear e
      go_enter Tryz.func21, Tryz.ntmps21
      go_wp2
      go_ret
      exact ⟨rfl, rfl⟩

theorem nm_len (n : Int) : (nmS n).size ≤ BL * 64 := by
  unfold nmS
  split
  · have := dec_len (k := n.toNat) (by omega)
    rw [Lib.size_eq]
    simp
    unfold BL
    omega
  · exact Nat.zero_le _
/-- The bound slots, with their names. -/
def bdS : Nat → List Bool → List Tr → List Bd
  | k, b :: bs, x :: ls => (if b then [⟨nmS k, x⟩] else []) ++ bdS (k + 1) bs ls
  | _, _, _ => []
def bdF (kd : Int) (bs : List Bool) (ls : List Tr) : List Bd := if kd = 0 then bdS 0 bs ls else []
theorem bdS_step {bs : List Bool} {ls : List Tr} {k : Nat} (h1 : k < ls.length) (h2 : k < bs.length) : bdS k (bs.drop k) (ls.drop k) = (if bs[k] then [⟨nmS k, ls[k]⟩] else []) ++ bdS (k + 1) (bs.drop (k + 1)) (ls.drop (k + 1)) := by
  rw [List.drop_eq_getElem_cons h1, List.drop_eq_getElem_cons h2, bdS]
theorem bdS_end1 {bs : List Bool} {k : Nat} : bdS k bs [] = [] := by cases bs <;> rfl
theorem bdS_end2 {ls : List Tr} {k : Nat} : bdS k [] ls = [] := rfl
theorem bdS_mem {P : Tr → Prop} : ∀ (bs : List Bool) (ls : List Tr) (k : Nat), (∀ y, y ∈ ls → P y) → ∀ b ∈ bdS k bs ls, P b.t ∧ b.s.size ≤ BL * 64
  | [], _, _, _, b, hb => by cases hb
  | _ :: _, [], _, _, b, hb => by cases hb
  | t :: bs, x :: ls, k, h, b, hb => by
    unfold bdS at hb
    rcases List.mem_append.1 hb with hb | hb
    · split at hb
      · rw [List.mem_singleton.1 hb]; exact ⟨h x (List.mem_cons_self ..), nm_len _⟩
      · cases hb
    · exact bdS_mem bs ls (k + 1) (fun y hy => h y (List.mem_cons_of_mem _ hy)) b hb
theorem bdS_len : ∀ (bs : List Bool) (ls : List Tr) (k : Nat), (bdS k bs ls).length ≤ ls.length
  | [], _, _ => Nat.zero_le _
  | _ :: _, [], _ => Nat.zero_le _
  | t :: bs, x :: ls, k => by
    unfold bdS
    have := bdS_len bs ls (k + 1)
    rw [List.length_append, List.length_cons]
    split <;> simp <;> omega
theorem sameB_self : ∀ l : List Bd, sameB l l = true
  | [] => rfl
  | a :: r => by unfold sameB; rw [sameB_self r, same_self]; simp
/-- A row of names that the call makes; their terms lie ahead of it. -/
structure BRowF (F : Nat → Prop) (base : Nat) (w : World) (v : Value) (L : List (Bd × Value)) : Prop where
  own : w.ownsRow base 70 6 v L.length (L.flatMap bcells)
  at_ : ∀ q ∈ L, TrV (fun g => F g ∧ g < base) w q.1.t q.2 ∧ q.1.s.size ≤ BL * 64
theorem BRowF.nil (F : Nat → Prop) (base : Nat) (w : World) : BRowF F base w (.slice none 0 0) [] := ⟨World.ownsRow_nil .., fun q hq => by simp at hq⟩
theorem BRowF.binds {F : Nat → Prop} {base : Nat} {w : World} {v : Value} {L : List (Bd × Value)} (h : BRowF F base w v L) (hl : L.length ≤ BL) : Binds (fun g => F g ∨ base ≤ g) w v (L.map (·.1)) :=
  binds_row h.own (fun _ hk => .inr hk) (fun q hq => ⟨⟨(h.at_ q hq).1.wf, (h.at_ q hq).1.kids.mono fun _ hg _ => .inl hg.1⟩, (h.at_ q hq).2⟩) hl
theorem BRowF.under {F : Nat → Prop} {base : Nat} {w w' : World} {v : Value} {L : List (Bd × Value)} (h : BRowF F base w v L) (hb : Below w.heap.size w w') : BRowF F base w' v L := ⟨row_under h.own hb, fun q hq => ⟨(h.at_ q hq).1.below hb, (h.at_ q hq).2⟩⟩
theorem BRowF.slice {F : Nat → Prop} {base : Nat} {w : World} {v : Value} {L : List (Bd × Value)} (h : BRowF F base w v L) : ∃ q c, v = .slice q L.length c := row_shape h.own
set_option maxRecDepth 10000 in
/-- An append of one name to a row of the call's own. -/
theorem run_append_bind {F : Nat → Prop} {w : World} (ty : TypeId) (base : Nat) (v : Value) (L : List (Bd × Value)) (hrow : BRowF F base w v L) (g : Nat) (q : Bd × Value) (hg : w.heap[g]? = some (.cells (bcells q).toArray 70 (0, 0))) (hq : TrV (fun g => F g ∧ g < base) w q.1.t q.2) (hs : q.1.s.size ≤ BL * 64)
    (hlen : L.length ≤ 1000) (hbase : base ≤ w.heap.size) :
    ∃ v' w', (Builtin.append_ #[45, 45] ty #[v, .slice (some ⟨g, 0, none⟩) 1 1]).run Tryz.prog w = .ok v' w' ∧ BRowF F base w' v' (L ++ [q]) ∧ Below base w w' := by
  obtain ⟨i0, hi, hz0, hz1, hz2⟩ := info_parts infoBind
  obtain ⟨v', w', hr, hown, hgr, _⟩ := run_append_own (P := Tryz.prog) w base 45 ty 70 i0 _ 6 88 Tryz.underlying45 hi hz0 hz1 hz2 rfl (by decide) v L.length (L.flatMap bcells) hrow.own ⟨g, 0, none⟩ 1 1 (bcells q) rfl
    (fun j u hu => by rw [addr_add, Nat.zero_add]; exact (arr_cell hg).trans (by simpa using hu)) (bcells_plain hq) (by unfold maxLen; omega) (by omega) hbase
  have hB : Below base w w' := (Below.refl _ _).grown hgr hbase (row_base hrow.own)
  refine ⟨v', w', hr, ⟨by rw [List.length_append, List.flatMap_append]; simpa using hown, fun q' hq' => ?_⟩, hB⟩
  have h1 : TrV (fun g => F g ∧ g < base) w q'.1.t q'.2 ∧ q'.1.s.size ≤ BL * 64 := by
    rcases List.mem_append.1 hq' with h | h
    · exact hrow.at_ q' h
    · rw [List.mem_singleton.1 h]; exact ⟨hq, hs⟩
  exact ⟨⟨h1.1.wf, h1.1.kids.keep fun g hg' hl => hB.block g hg'.2⟩, h1.2⟩
theorem step_append_bind {F : Nat → Prop} {w : World} {ops : Array Oper} {o : Oper} {a : Act} {K : Act → World → Prop} {Q : Exit → Act → World → Prop} {E : Prop} (hgd : o.guard = none) (s x : Operand)
    (ho : o.op = .call { callee := .builtin .append, args := #[s, x], argTypes := #[45, 45] })
    (base : Nat) (v : Value) (L : List (Bd × Value)) (hs : a.eval s = v) (hrow : BRowF F base w v L) (g : Nat) (q : Bd × Value) (hx : a.eval x = .slice (some ⟨g, 0, none⟩) 1 1) (hg : w.heap[g]? = some (.cells (bcells q).toArray 70 (0, 0))) (hq : TrV (fun g => F g ∧ g < base) w q.1.t q.2) (hsz : q.1.s.size ≤ BL * 64)
    (hlen : L.length ≤ 1000) (hbase : base ≤ w.heap.size)
    (h : ∀ v' w', BRowF F base w' v' (L ++ [q]) → Below base w w' → K (a.put o.dst v') w') :
    if Region.wanted o (yielded ops a.tmps) = true then Oper.wp Tryz.prog o a w K Q else E := by
  have hw : Region.wanted o (yielded ops a.tmps) = true := by simp [Region.wanted, hgd]
  rw [if_pos hw]
  obtain ⟨v', w', hr, k1, k2⟩ := run_append_bind o.type base v L hrow g q hg hq hsz hlen hbase
  unfold Oper.wp
  simp [execOp, ho, resolve, invoke, builtin, hs, hx, hr, Result.andThen]
  exact h v' w' k1 k2

set_option maxHeartbeats 4000000 in
set_option maxRecDepth 100000 in
theorem sbinds_any {F : Nat → Prop} {w : World} {kd : Int} {ls : List Tr} {bs : List Bool} {sv bv x1 x2 x5 x6 x7 x8 x9 x10 x11 x12 x13 x14 x15 x16 x17 x18 x19 x20 x21 x22 x23 x24 x25 x26 x27 x28 x29 x30 x31 x32 x33 x34 : Value} (hs : Kids F w sv ls) (hb : Bools w bv bs) (hl : ls.length ≤ 100) (hl2 : bs.length ≤ 100) :
    Calls Tryz.prog 7 #[.agg #[.int .i8 kd, x1, x2, sv, bv, x5, x6, x7, x8, x9, x10, x11, x12, x13, x14, x15, x16, x17, x18, x19, x20, x21, x22, x23, x24, x25, x26, x27, x28, x29, x30, x31, x32, x33, x34]] w fun e w' => ∃ v, e = .returned v ∧ Binds (fun g => F g ∨ w.heap.size ≤ g) w' v (bdF kd bs ls) ∧ Below w.heap.size w w' := by
  obtain ⟨ps, cs, rfl⟩ := hs.slice
  obtain ⟨pb, cb, rfl, hbat⟩ := hb
  have hn1 := heap_new w (.cells #[.int .i8 kd, x1, x2, .slice ps ls.length cs, .slice pb bs.length cb, x5, x6, x7, x8, x9, x10, x11, x12, x13, x14, x15, x16, x17, x18, x19, x20, x21, x22, x23, x24, x25, x26, x27, x28, x29, x30, x31, x32, x33, x34] 36)
  have hb1 := alloc_below w (.cells #[.int .i8 kd, x1, x2, .slice ps ls.length cs, .slice pb bs.length cb, x5, x6, x7, x8, x9, x10, x11, x12, x13, x14, x15, x16, x17, x18, x19, x20, x21, x22, x23, x24, x25, x26, x27, x28, x29, x30, x31, x32, x33, x34] 36)
  have HS := Lib.hid ((hs.mono (F' := fun g => F g ∧ g < w.heap.size) fun g hg h => ⟨hg, h⟩).under hb1)
  have HB : Hid (∀ i (h : i < bs.length), ∃ g o, pb = some ⟨g, o, none⟩ ∧ (w.alloc (.cells #[.int .i8 kd, x1, x2, .slice ps ls.length cs, .slice pb bs.length cb, x5, x6, x7, x8, x9, x10, x11, x12, x13, x14, x15, x16, x17, x18, x19, x20, x21, x22, x23, x24, x25, x26, x27, x28, x29, x30, x31, x32, x33, x34] 36)).cell? ⟨g, o + i, none⟩ = some (.bool bs[i])) := Lib.hid fun i h => by
    obtain ⟨g, o, e1, e2⟩ := hbat i h
    exact ⟨g, o, e1, (hb1.cell (p := ⟨g, o + i, none⟩) (cell_block e2)).trans e2⟩
  clear hs hbat
  by_cases hk : kd = 0
  case neg =>
    have g0 : (kd != 0) = true := by simpa using hk
    have g1 : (kd == 0) = false := by simpa using hk
    have HE : Hid (bdF kd bs ls = []) := by unfold Hid bdF; rw [if_neg hk]
    clear hk
    go_enter Tryz.func7, Tryz.ntmps7
    go_upto_region 1 with fail
    generalize w.alloc (.cells _ _) = w1 at hn1 hb1 HS HB ⊢
    have k0 : w1.cell? ⟨w.heap.size, 0, none⟩ = some (.int .i8 kd) := (arr_cell hn1).trans rfl
    have k3 : w1.cell? ⟨w.heap.size, 3, none⟩ = some (.slice ps ls.length cs) := (arr_cell hn1).trans rfl
    go_wp2
    go_ret
    exact ⟨_, rfl, by rw [HE.out]; exact Binds.nil _ _, hb1⟩
  subst hk
  have HE : Hid (bdF 0 bs ls = bdS 0 bs ls) := Lib.hid (if_pos rfl)
  

  have _ := hl2
  go_enter Tryz.func7, Tryz.ntmps7
  go_upto_region 1 with fail
  generalize w.alloc (.cells _ _) = w1 at hn1 hb1 HS HB ⊢
  have k0 : w1.cell? ⟨w.heap.size, 0, none⟩ = some (.int .i8 0) := (arr_cell hn1).trans rfl
  have k3 : w1.cell? ⟨w.heap.size, 3, none⟩ = some (.slice ps ls.length cs) := (arr_cell hn1).trans rfl
  have k4 : w1.cell? ⟨w.heap.size, 4, none⟩ = some (.slice pb bs.length cb) := (arr_cell hn1).trans rfl
  have HN1 := Lib.hid hn1
  clear hn1
  rcases Nat.lt_or_ge bs.length ls.length with hmm | hmm
  · have hmi : ¬ (ls.length : Int) ≤ bs.length := by omega
    go_wp2
    go_loopw [2, 14] (fun v i wr => ∃ (k : Nat) (L : List (Bd × Value)), k ≤ bs.length ∧ i = .int .i64 k ∧ BRowF (fun g => F g) w1.heap.size wr v L ∧ L.map (·.1) ++ bdS k (bs.drop k) (ls.drop k) = bdS 0 bs ls ∧ L.length ≤ k ∧ Below w1.heap.size w1 wr) (fun _ i _ => bs.length - (intOf i).toNat)
    case atStart => exact ⟨0, [], Nat.zero_le _, rfl, BRowF.nil _ _ _, rfl, Nat.zero_le _, Below.refl _ _⟩
    case round =>
      obtain ⟨k, L, hkM, rfl, hrow, hinv, hLk, hbr⟩ := hrel
      obtain ⟨pr, cr, rfl⟩ := hrow.slice
      have hnr := (hbr.block _ (Array.getElem?_eq_some_iff.1 HN1.out).1).trans HN1.out
      have k0 : wr.cell? ⟨w.heap.size, 0, none⟩ = some (.int .i8 0) := (arr_cell hnr).trans rfl
      have k3 : wr.cell? ⟨w.heap.size, 3, none⟩ = some (.slice ps ls.length cs) := (arr_cell hnr).trans rfl
      have k4 : wr.cell? ⟨w.heap.size, 4, none⟩ = some (.slice pb bs.length cb) := (arr_cell hnr).trans rfl
      have HI := Lib.hid hinv
      have HR := Lib.hid hrow
      clear hinv hrow
      by_cases hlt : k < bs.length
      · have hlb : k < bs.length := by omega
        have hls : k < ls.length := by omega
        obtain ⟨gb, ob, hpb, hcb⟩ := HB.out k hlb
        have hcb := (hbr.cell (p := ⟨gb, ob + k, none⟩) (cell_block hcb)).trans hcb
        subst hpb
        have hst := bdS_step hls hlb
        cases hbk : bs[k]
        · rw [hbk] at hcb hst
          have HNX : Hid (L.map (·.1) ++ bdS (k + 1) (bs.drop (k + 1)) (ls.drop (k + 1)) = bdS 0 bs ls) := by unfold Hid; rw [← HI.out, hst]; rfl
          clear hst
          go_wp2_with fail
          go_roundw
          case rel => exact ⟨k + 1, L, by omega, by go_num, HR.out, HNX.out, by omega, hbr⟩
          case measure => simp [intOf]; omega
        · rw [hbk] at hcb hst
          obtain ⟨g, ob2, xv, hps, hFg, ⟨a0, a1, a2, a3, a4⟩, hkid⟩ := (HS.out.under hbr).at hls
          subst hps
          obtain ⟨p3, c3, rfl⟩ := hkid.kids.slice
          have HNX : Hid (L.map (·.1) ++ [⟨nmS k, ls[k]⟩] ++ bdS (k + 1) (bs.drop (k + 1)) (ls.drop (k + 1)) = bdS 0 bs ls) := by unfold Hid; rw [← HI.out, hst, List.append_assoc]; rfl
          clear hst
          generalize ls[k] = x at a0 a1 a2 a3 a4 hkid HNX
          have hd : Below wr.heap.size wr wr.drew := below_drewN (Below.refl _ _) 1
          have hxp : TrV (fun g => F g ∧ g < w1.heap.size) wr x _ := hkid.mono fun g hg _ => ⟨hg.1, by have := hb1.size; omega⟩
          have HX := Lib.hid hxp
          have hmv : ∀ V : World, Below wr.heap.size wr V → V.cell? ⟨w.heap.size, 3, none⟩ = some (.slice (some ⟨g, ob2, none⟩) ls.length cs) ∧ V.cell? ⟨g, ob2 + k * 5, none⟩ = some (.int .i8 x.k) ∧ V.cell? ⟨g, ob2 + k * 5 + 1, none⟩ = some (.int .i64 x.n) ∧ V.cell? ⟨g, ob2 + k * 5 + 2, none⟩ = some (.string x.s) ∧ V.cell? ⟨g, ob2 + k * 5 + 3, none⟩ = some (.string x.t) ∧ V.cell? ⟨g, ob2 + k * 5 + 4, none⟩ = some (.slice p3 x.l.length c3) := by
            intro V hv
            have f : ∀ g o u, wr.cell? ⟨g, o, none⟩ = some u → V.cell? ⟨g, o, none⟩ = some u := fun g o u h => (hv.cell (p := ⟨g, o, none⟩) (cell_block h)).trans h
            exact ⟨f _ _ _ k3, f _ _ _ a0, f _ _ _ a1, f _ _ _ a2, f _ _ _ a3, f _ _ _ a4⟩
          have hS0 := hmv wr (Below.refl _ _)
          have hm8 : ∀ V : World, Below w1.heap.size w1 V → V.cell? ⟨w.heap.size, 3, none⟩ = some (.slice (some ⟨g, ob2, none⟩) ls.length cs) ∧ V.cell? ⟨g, ob2 + k * 5, none⟩ = some (.int .i8 x.k) ∧ V.cell? ⟨g, ob2 + k * 5 + 1, none⟩ = some (.int .i64 x.n) ∧ V.cell? ⟨g, ob2 + k * 5 + 2, none⟩ = some (.string x.s) ∧ V.cell? ⟨g, ob2 + k * 5 + 3, none⟩ = some (.string x.t) ∧ V.cell? ⟨g, ob2 + k * 5 + 4, none⟩ = some (.slice p3 x.l.length c3) := by
            intro V hv
            have f : ∀ g o u, g < w1.heap.size → wr.cell? ⟨g, o, none⟩ = some u → V.cell? ⟨g, o, none⟩ = some u := fun g o u hg h => (hv.cell (p := ⟨g, o, none⟩) hg).trans ((hbr.cell (p := ⟨g, o, none⟩) hg).symm.trans h)
            have hg1 : g < w1.heap.size := by have := hFg.2; have := hb1.size; omega
            have hg2 : w.heap.size < w1.heap.size := (Array.getElem?_eq_some_iff.1 HN1.out).1
            exact ⟨f _ _ _ hg2 k3, f _ _ _ hg1 a0, f _ _ _ hg1 a1, f _ _ _ hg1 a2, f _ _ _ hg1 a3, f _ _ _ hg1 a4⟩
          have hn9 := heap_new wr.drew (.cells (bcells (⟨nmS k, x⟩, .slice p3 x.l.length c3)).toArray 70)
          have hb9 := hd.trans ((alloc_below wr.drew (.cells (bcells (⟨nmS k, x⟩, .slice p3 x.l.length c3)).toArray 70)).mono hd.size)
          have hS9 := hmv _ hb9
          have HN9 := Lib.hid hn9
          have HR9 := Lib.hid (HR.out.under hb9)
          have HX9 := Lib.hid (hxp.below hb9)
          have hsz9 := hbr.size
          have hsz10 := hb9.size
          have hsz11 : w1.heap.size ≤ (wr.drew.alloc (.cells (bcells (⟨nmS k, x⟩, .slice p3 x.l.length c3)).toArray 70)).heap.size := Nat.le_trans hsz9 hsz10
          clear hxp hkid hn9
          go_upto_region 7 with fail
          refine wp_region_held_drew (S := fun V => V.cell? ⟨w.heap.size, 3, none⟩ = some (.slice (some ⟨g, ob2, none⟩) ls.length cs) ∧ V.cell? ⟨g, ob2 + k * 5, none⟩ = some (.int .i8 x.k) ∧ V.cell? ⟨g, ob2 + k * 5 + 1, none⟩ = some (.int .i64 x.n) ∧ V.cell? ⟨g, ob2 + k * 5 + 2, none⟩ = some (.string x.s) ∧ V.cell? ⟨g, ob2 + k * 5 + 3, none⟩ = some (.string x.t) ∧ V.cell? ⟨g, ob2 + k * 5 + 4, none⟩ = some (.slice p3 x.l.length c3)) (by kernel_rfl) ?_ (fun hHeld => ?_)
          · (try dsimp only); (first | with_reducible exact hS8 | exact hS9 | exact hS0)
          refine wpAnyH_take (i := 0) (v := ?_) rfl (by kernel_rfl) (by kernel_rfl) (by kernel_rfl) (fun _ _ _ h => h) (Or.inl ⟨by rfl, ?_⟩) (by assumption) ?_
          rotate_left 1
          (intro w hSw; (try dsimp only at hSw); go_simp; try with_reducible rfl)
          (try simp only [List.getElem_toArray, List.getElem_cons_zero, Act.put, List.setIfInBounds_toArray, List.set_cons_zero, List.set_cons_succ])
          refine wpAnyH_take (i := 1) (v := ?_) rfl (by kernel_rfl) (by kernel_rfl) (by kernel_rfl) (fun _ _ _ h => h) (Or.inl ⟨by rfl, ?_⟩) (by assumption) ?_
          rotate_left 1
          (intro w hSw; (try dsimp only at hSw); go_simp; try with_reducible rfl)
          (try simp only [List.getElem_toArray, List.getElem_cons_succ, List.getElem_cons_zero, Act.put, List.setIfInBounds_toArray, List.set_cons_zero, List.set_cons_succ])
          refine wpAnyH_take (i := 3) (v := ?_) rfl (by kernel_rfl) (by kernel_rfl) (by kernel_rfl) (fun _ _ _ h => h) (Or.inl ⟨by rfl, ?_⟩) (by assumption) ?_
          rotate_left 1
          (intro w hSw; (try dsimp only at hSw); go_simp; try with_reducible rfl)
          (try simp only [List.getElem_toArray, List.getElem_cons_succ, List.getElem_cons_zero, Act.put, List.setIfInBounds_toArray, List.set_cons_zero, List.set_cons_succ])
          refine wpAnyH_take (i := 4) (v := ?_) rfl (by kernel_rfl) (by kernel_rfl) (by kernel_rfl) (fun _ _ _ h => h) (Or.inl ⟨by rfl, ?_⟩) (by assumption) ?_
          rotate_left 1
          (intro w hSw; (try dsimp only at hSw); go_simp; try with_reducible rfl)
          (try simp only [List.getElem_toArray, List.getElem_cons_succ, List.getElem_cons_zero, Act.put, List.setIfInBounds_toArray, List.set_cons_zero, List.set_cons_succ])
          refine wpAnyH_take (i := 5) (v := ?_) rfl (by kernel_rfl) (by kernel_rfl) (by kernel_rfl) (fun _ _ _ h => h) (Or.inl ⟨by rfl, ?_⟩) (by assumption) ?_
          rotate_left 1
          (intro w hSw; (try dsimp only at hSw); go_simp; try with_reducible rfl)
          (try simp only [List.getElem_toArray, List.getElem_cons_succ, List.getElem_cons_zero, Act.put, List.setIfInBounds_toArray, List.set_cons_zero, List.set_cons_succ])
          refine wpAnyH_take (i := 6) (v := ?_) rfl (by kernel_rfl) (by kernel_rfl) (by kernel_rfl) (fun _ _ _ h => h) (Or.inl ⟨by rfl, ?_⟩) (by assumption) ?_
          rotate_left 1
          (intro w hSw; (try dsimp only at hSw); go_simp; try with_reducible rfl)
          (try simp only [List.getElem_toArray, List.getElem_cons_succ, List.getElem_cons_zero, Act.put, List.setIfInBounds_toArray, List.set_cons_zero, List.set_cons_succ])
          refine wpAnyH_take (i := 7) (v := ?_) rfl (by kernel_rfl) (by kernel_rfl) (by kernel_rfl) (fun _ _ _ h => h) (Or.inl ⟨by rfl, ?_⟩) (by assumption) ?_
          rotate_left 1
          (intro w hSw; (try dsimp only at hSw); go_simp; try with_reducible rfl)
          (try simp only [List.getElem_toArray, List.getElem_cons_succ, List.getElem_cons_zero, Act.put, List.setIfInBounds_toArray, List.set_cons_zero, List.set_cons_succ])
          refine wpAnyH_ready (rs := [2]) (by kernel_rfl) (by simp) ?_
          refine AllReadyH.cons rfl (fun K hK => ?_) AllReadyH.nil
          go_simp
          go_wp2_with ((go_at_call 20; refine (name_any _ _).mono ?_; rintro e w3 ⟨rfl, rfl⟩))
          refine hK.out _ _ ?_ (fun hHeld => ?_)
          · (try dsimp only); (first | with_reducible exact hS8 | exact hS9 | exact hS0)
          clear hK K
          (try simp only [List.getElem_toArray, List.getElem_cons_succ, List.getElem_cons_zero, Act.put, List.setIfInBounds_toArray, List.set_cons_zero, List.set_cons_succ])
          refine wpAnyH_take (i := 8) (v := ?_) rfl (by kernel_rfl) (by kernel_rfl) (by kernel_rfl) (fun _ _ _ h => h) (Or.inl ⟨by rfl, ?_⟩) (by assumption) ?_
          rotate_left 1
          (intro w hSw; (try dsimp only at hSw); go_simp; try with_reducible rfl)
          (try simp only [List.getElem_toArray, List.getElem_cons_succ, List.getElem_cons_zero, Act.put, List.setIfInBounds_toArray, List.set_cons_zero, List.set_cons_succ])
          refine wpAnyH_ready (rs := [9]) (by kernel_rfl) (by simp) ?_
          refine AllReadyH.cons rfl (fun K hK => ?_) AllReadyH.nil
          go_simp
          refine hK.out _ _ ?_ (fun hHeld => ?_)
          · (try dsimp only); (first | with_reducible exact hS8 | exact hS9 | exact hS0)
          clear hK K
          (try simp only [List.getElem_toArray, List.getElem_cons_succ, List.getElem_cons_zero, Act.put, List.setIfInBounds_toArray, List.set_cons_zero, List.set_cons_succ])
          refine wpAnyH_ready (rs := [10]) (by kernel_rfl) (by simp) ?_
          refine AllReadyH.cons rfl (fun K hK => ?_) AllReadyH.nil
          (refine step_append_bind (F := fun g => F g) rfl (.tmp 22) (.tmp 31) rfl w1.heap.size _ L rfl HR9.out wr.drew.heap.size (⟨nmS k, x⟩, .slice p3 x.l.length c3) rfl HN9.out HX9.out (nm_len _) (by omega) hsz11 ?_; intro v8 w8 hrow8 hb8; have hbw8 : Below w1.heap.size w1 w8 := (hbr.trans (hb9.mono hbr.size)).trans hb8; have hS8 := hm8 w8 hbw8; have HR8 := Lib.hid hrow8; clear hrow8)
          refine hK.out _ _ ?_ (fun hHeld => ?_)
          · (try dsimp only); (first | with_reducible exact hS8 | exact hS9 | exact hS0)
          clear hK K
          (try simp only [List.getElem_toArray, List.getElem_cons_succ, List.getElem_cons_zero, Act.put, List.setIfInBounds_toArray, List.set_cons_zero, List.set_cons_succ])
          refine wpAnyH_take (i := 11) (v := v8) rfl (by kernel_rfl) (by kernel_rfl) (by kernel_rfl) (fun _ _ _ h => h) (Or.inl ⟨by rfl, ?_⟩) (by assumption) ?_
          · (intro w hSw; (try dsimp only at hSw); go_simp)
          (try simp only [List.getElem_toArray, List.getElem_cons_succ, List.getElem_cons_zero, Act.put, List.setIfInBounds_toArray, List.set_cons_zero, List.set_cons_succ])
          refine wpAnyH_done (by kernel_rfl) ?_ _
          go_wp2_with fail
          go_roundw
          case rel => exact ⟨k + 1, L ++ [(⟨nmS k, x⟩, .slice p3 x.l.length c3)], by omega, by go_num, HR8.out, by rw [List.map_append]; exact HNX.out, by rw [List.length_append, List.length_singleton]; omega, hbw8⟩
          case measure => simp [intOf]; omega
      · have hend : bdS 0 bs ls = L.map (·.1) := by
          rw [← HI.out]
          rcases Nat.lt_or_ge k ls.length with h | h
          · rw [List.drop_of_length_le (show bs.length ≤ k by omega), bdS_end2, List.append_nil]
          · rw [List.drop_of_length_le h, bdS_end1, List.append_nil]
        have hbd := HR.out.binds (by unfold BL; omega)
        rw [← hend] at hbd
        have HBD := Lib.hid hbd
        clear hbd hend
        go_wp2
        go_ret
        refine ⟨_, rfl, ?_, hb1.trans (hbr.mono hb1.size)⟩
        rw [HE.out]
        exact HBD.out.mono fun g hg _ => hg.imp id fun h => by have := hb1.size; omega
  · have hmi : (ls.length : Int) ≤ bs.length := by omega
    go_wp2
    go_loopw [2, 14] (fun v i wr => ∃ (k : Nat) (L : List (Bd × Value)), k ≤ ls.length ∧ i = .int .i64 k ∧ BRowF (fun g => F g) w1.heap.size wr v L ∧ L.map (·.1) ++ bdS k (bs.drop k) (ls.drop k) = bdS 0 bs ls ∧ L.length ≤ k ∧ Below w1.heap.size w1 wr) (fun _ i _ => ls.length - (intOf i).toNat)
    case atStart => exact ⟨0, [], Nat.zero_le _, rfl, BRowF.nil _ _ _, rfl, Nat.zero_le _, Below.refl _ _⟩
    case round =>
      obtain ⟨k, L, hkM, rfl, hrow, hinv, hLk, hbr⟩ := hrel
      obtain ⟨pr, cr, rfl⟩ := hrow.slice
      have hnr := (hbr.block _ (Array.getElem?_eq_some_iff.1 HN1.out).1).trans HN1.out
      have k0 : wr.cell? ⟨w.heap.size, 0, none⟩ = some (.int .i8 0) := (arr_cell hnr).trans rfl
      have k3 : wr.cell? ⟨w.heap.size, 3, none⟩ = some (.slice ps ls.length cs) := (arr_cell hnr).trans rfl
      have k4 : wr.cell? ⟨w.heap.size, 4, none⟩ = some (.slice pb bs.length cb) := (arr_cell hnr).trans rfl
      have HI := Lib.hid hinv
      have HR := Lib.hid hrow
      clear hinv hrow
      by_cases hlt : k < ls.length
      · have hlb : k < bs.length := by omega
        have hls : k < ls.length := by omega
        obtain ⟨gb, ob, hpb, hcb⟩ := HB.out k hlb
        have hcb := (hbr.cell (p := ⟨gb, ob + k, none⟩) (cell_block hcb)).trans hcb
        subst hpb
        have hst := bdS_step hls hlb
        cases hbk : bs[k]
        · rw [hbk] at hcb hst
          have HNX : Hid (L.map (·.1) ++ bdS (k + 1) (bs.drop (k + 1)) (ls.drop (k + 1)) = bdS 0 bs ls) := by unfold Hid; rw [← HI.out, hst]; rfl
          clear hst
          go_wp2_with fail
          go_roundw
          case rel => exact ⟨k + 1, L, by omega, by go_num, HR.out, HNX.out, by omega, hbr⟩
          case measure => simp [intOf]; omega
        · rw [hbk] at hcb hst
          obtain ⟨g, ob2, xv, hps, hFg, ⟨a0, a1, a2, a3, a4⟩, hkid⟩ := (HS.out.under hbr).at hls
          subst hps
          obtain ⟨p3, c3, rfl⟩ := hkid.kids.slice
          have HNX : Hid (L.map (·.1) ++ [⟨nmS k, ls[k]⟩] ++ bdS (k + 1) (bs.drop (k + 1)) (ls.drop (k + 1)) = bdS 0 bs ls) := by unfold Hid; rw [← HI.out, hst, List.append_assoc]; rfl
          clear hst
          generalize ls[k] = x at a0 a1 a2 a3 a4 hkid HNX
          have hd : Below wr.heap.size wr wr.drew := below_drewN (Below.refl _ _) 1
          have hxp : TrV (fun g => F g ∧ g < w1.heap.size) wr x _ := hkid.mono fun g hg _ => ⟨hg.1, by have := hb1.size; omega⟩
          have HX := Lib.hid hxp
          have hmv : ∀ V : World, Below wr.heap.size wr V → V.cell? ⟨w.heap.size, 3, none⟩ = some (.slice (some ⟨g, ob2, none⟩) ls.length cs) ∧ V.cell? ⟨g, ob2 + k * 5, none⟩ = some (.int .i8 x.k) ∧ V.cell? ⟨g, ob2 + k * 5 + 1, none⟩ = some (.int .i64 x.n) ∧ V.cell? ⟨g, ob2 + k * 5 + 2, none⟩ = some (.string x.s) ∧ V.cell? ⟨g, ob2 + k * 5 + 3, none⟩ = some (.string x.t) ∧ V.cell? ⟨g, ob2 + k * 5 + 4, none⟩ = some (.slice p3 x.l.length c3) := by
            intro V hv
            have f : ∀ g o u, wr.cell? ⟨g, o, none⟩ = some u → V.cell? ⟨g, o, none⟩ = some u := fun g o u h => (hv.cell (p := ⟨g, o, none⟩) (cell_block h)).trans h
            exact ⟨f _ _ _ k3, f _ _ _ a0, f _ _ _ a1, f _ _ _ a2, f _ _ _ a3, f _ _ _ a4⟩
          have hS0 := hmv wr (Below.refl _ _)
          have hm8 : ∀ V : World, Below w1.heap.size w1 V → V.cell? ⟨w.heap.size, 3, none⟩ = some (.slice (some ⟨g, ob2, none⟩) ls.length cs) ∧ V.cell? ⟨g, ob2 + k * 5, none⟩ = some (.int .i8 x.k) ∧ V.cell? ⟨g, ob2 + k * 5 + 1, none⟩ = some (.int .i64 x.n) ∧ V.cell? ⟨g, ob2 + k * 5 + 2, none⟩ = some (.string x.s) ∧ V.cell? ⟨g, ob2 + k * 5 + 3, none⟩ = some (.string x.t) ∧ V.cell? ⟨g, ob2 + k * 5 + 4, none⟩ = some (.slice p3 x.l.length c3) := by
            intro V hv
            have f : ∀ g o u, g < w1.heap.size → wr.cell? ⟨g, o, none⟩ = some u → V.cell? ⟨g, o, none⟩ = some u := fun g o u hg h => (hv.cell (p := ⟨g, o, none⟩) hg).trans ((hbr.cell (p := ⟨g, o, none⟩) hg).symm.trans h)
            have hg1 : g < w1.heap.size := by have := hFg.2; have := hb1.size; omega
            have hg2 : w.heap.size < w1.heap.size := (Array.getElem?_eq_some_iff.1 HN1.out).1
            exact ⟨f _ _ _ hg2 k3, f _ _ _ hg1 a0, f _ _ _ hg1 a1, f _ _ _ hg1 a2, f _ _ _ hg1 a3, f _ _ _ hg1 a4⟩
          have hn9 := heap_new wr.drew (.cells (bcells (⟨nmS k, x⟩, .slice p3 x.l.length c3)).toArray 70)
          have hb9 := hd.trans ((alloc_below wr.drew (.cells (bcells (⟨nmS k, x⟩, .slice p3 x.l.length c3)).toArray 70)).mono hd.size)
          have hS9 := hmv _ hb9
          have HN9 := Lib.hid hn9
          have HR9 := Lib.hid (HR.out.under hb9)
          have HX9 := Lib.hid (hxp.below hb9)
          have hsz9 := hbr.size
          have hsz10 := hb9.size
          have hsz11 : w1.heap.size ≤ (wr.drew.alloc (.cells (bcells (⟨nmS k, x⟩, .slice p3 x.l.length c3)).toArray 70)).heap.size := Nat.le_trans hsz9 hsz10
          clear hxp hkid hn9
          go_upto_region 7 with fail
          refine wp_region_held_drew (S := fun V => V.cell? ⟨w.heap.size, 3, none⟩ = some (.slice (some ⟨g, ob2, none⟩) ls.length cs) ∧ V.cell? ⟨g, ob2 + k * 5, none⟩ = some (.int .i8 x.k) ∧ V.cell? ⟨g, ob2 + k * 5 + 1, none⟩ = some (.int .i64 x.n) ∧ V.cell? ⟨g, ob2 + k * 5 + 2, none⟩ = some (.string x.s) ∧ V.cell? ⟨g, ob2 + k * 5 + 3, none⟩ = some (.string x.t) ∧ V.cell? ⟨g, ob2 + k * 5 + 4, none⟩ = some (.slice p3 x.l.length c3)) (by kernel_rfl) ?_ (fun hHeld => ?_)
          · (try dsimp only); (first | with_reducible exact hS8 | exact hS9 | exact hS0)
          refine wpAnyH_take (i := 0) (v := ?_) rfl (by kernel_rfl) (by kernel_rfl) (by kernel_rfl) (fun _ _ _ h => h) (Or.inl ⟨by rfl, ?_⟩) (by assumption) ?_
          rotate_left 1
          (intro w hSw; (try dsimp only at hSw); go_simp; try with_reducible rfl)
          (try simp only [List.getElem_toArray, List.getElem_cons_zero, Act.put, List.setIfInBounds_toArray, List.set_cons_zero, List.set_cons_succ])
          refine wpAnyH_take (i := 1) (v := ?_) rfl (by kernel_rfl) (by kernel_rfl) (by kernel_rfl) (fun _ _ _ h => h) (Or.inl ⟨by rfl, ?_⟩) (by assumption) ?_
          rotate_left 1
          (intro w hSw; (try dsimp only at hSw); go_simp; try with_reducible rfl)
          (try simp only [List.getElem_toArray, List.getElem_cons_succ, List.getElem_cons_zero, Act.put, List.setIfInBounds_toArray, List.set_cons_zero, List.set_cons_succ])
          refine wpAnyH_take (i := 3) (v := ?_) rfl (by kernel_rfl) (by kernel_rfl) (by kernel_rfl) (fun _ _ _ h => h) (Or.inl ⟨by rfl, ?_⟩) (by assumption) ?_
          rotate_left 1
          (intro w hSw; (try dsimp only at hSw); go_simp; try with_reducible rfl)
          (try simp only [List.getElem_toArray, List.getElem_cons_succ, List.getElem_cons_zero, Act.put, List.setIfInBounds_toArray, List.set_cons_zero, List.set_cons_succ])
          refine wpAnyH_take (i := 4) (v := ?_) rfl (by kernel_rfl) (by kernel_rfl) (by kernel_rfl) (fun _ _ _ h => h) (Or.inl ⟨by rfl, ?_⟩) (by assumption) ?_
          rotate_left 1
          (intro w hSw; (try dsimp only at hSw); go_simp; try with_reducible rfl)
          (try simp only [List.getElem_toArray, List.getElem_cons_succ, List.getElem_cons_zero, Act.put, List.setIfInBounds_toArray, List.set_cons_zero, List.set_cons_succ])
          refine wpAnyH_take (i := 5) (v := ?_) rfl (by kernel_rfl) (by kernel_rfl) (by kernel_rfl) (fun _ _ _ h => h) (Or.inl ⟨by rfl, ?_⟩) (by assumption) ?_
          rotate_left 1
          (intro w hSw; (try dsimp only at hSw); go_simp; try with_reducible rfl)
          (try simp only [List.getElem_toArray, List.getElem_cons_succ, List.getElem_cons_zero, Act.put, List.setIfInBounds_toArray, List.set_cons_zero, List.set_cons_succ])
          refine wpAnyH_take (i := 6) (v := ?_) rfl (by kernel_rfl) (by kernel_rfl) (by kernel_rfl) (fun _ _ _ h => h) (Or.inl ⟨by rfl, ?_⟩) (by assumption) ?_
          rotate_left 1
          (intro w hSw; (try dsimp only at hSw); go_simp; try with_reducible rfl)
          (try simp only [List.getElem_toArray, List.getElem_cons_succ, List.getElem_cons_zero, Act.put, List.setIfInBounds_toArray, List.set_cons_zero, List.set_cons_succ])
          refine wpAnyH_take (i := 7) (v := ?_) rfl (by kernel_rfl) (by kernel_rfl) (by kernel_rfl) (fun _ _ _ h => h) (Or.inl ⟨by rfl, ?_⟩) (by assumption) ?_
          rotate_left 1
          (intro w hSw; (try dsimp only at hSw); go_simp; try with_reducible rfl)
          (try simp only [List.getElem_toArray, List.getElem_cons_succ, List.getElem_cons_zero, Act.put, List.setIfInBounds_toArray, List.set_cons_zero, List.set_cons_succ])
          refine wpAnyH_ready (rs := [2]) (by kernel_rfl) (by simp) ?_
          refine AllReadyH.cons rfl (fun K hK => ?_) AllReadyH.nil
          go_simp
          go_wp2_with ((go_at_call 20; refine (name_any _ _).mono ?_; rintro e w3 ⟨rfl, rfl⟩))
          refine hK.out _ _ ?_ (fun hHeld => ?_)
          · (try dsimp only); (first | with_reducible exact hS8 | exact hS9 | exact hS0)
          clear hK K
          (try simp only [List.getElem_toArray, List.getElem_cons_succ, List.getElem_cons_zero, Act.put, List.setIfInBounds_toArray, List.set_cons_zero, List.set_cons_succ])
          refine wpAnyH_take (i := 8) (v := ?_) rfl (by kernel_rfl) (by kernel_rfl) (by kernel_rfl) (fun _ _ _ h => h) (Or.inl ⟨by rfl, ?_⟩) (by assumption) ?_
          rotate_left 1
          (intro w hSw; (try dsimp only at hSw); go_simp; try with_reducible rfl)
          (try simp only [List.getElem_toArray, List.getElem_cons_succ, List.getElem_cons_zero, Act.put, List.setIfInBounds_toArray, List.set_cons_zero, List.set_cons_succ])
          refine wpAnyH_ready (rs := [9]) (by kernel_rfl) (by simp) ?_
          refine AllReadyH.cons rfl (fun K hK => ?_) AllReadyH.nil
          go_simp
          refine hK.out _ _ ?_ (fun hHeld => ?_)
          · (try dsimp only); (first | with_reducible exact hS8 | exact hS9 | exact hS0)
          clear hK K
          (try simp only [List.getElem_toArray, List.getElem_cons_succ, List.getElem_cons_zero, Act.put, List.setIfInBounds_toArray, List.set_cons_zero, List.set_cons_succ])
          refine wpAnyH_ready (rs := [10]) (by kernel_rfl) (by simp) ?_
          refine AllReadyH.cons rfl (fun K hK => ?_) AllReadyH.nil
          (refine step_append_bind (F := fun g => F g) rfl (.tmp 22) (.tmp 31) rfl w1.heap.size _ L rfl HR9.out wr.drew.heap.size (⟨nmS k, x⟩, .slice p3 x.l.length c3) rfl HN9.out HX9.out (nm_len _) (by omega) hsz11 ?_; intro v8 w8 hrow8 hb8; have hbw8 : Below w1.heap.size w1 w8 := (hbr.trans (hb9.mono hbr.size)).trans hb8; have hS8 := hm8 w8 hbw8; have HR8 := Lib.hid hrow8; clear hrow8)
          refine hK.out _ _ ?_ (fun hHeld => ?_)
          · (try dsimp only); (first | with_reducible exact hS8 | exact hS9 | exact hS0)
          clear hK K
          (try simp only [List.getElem_toArray, List.getElem_cons_succ, List.getElem_cons_zero, Act.put, List.setIfInBounds_toArray, List.set_cons_zero, List.set_cons_succ])
          refine wpAnyH_take (i := 11) (v := v8) rfl (by kernel_rfl) (by kernel_rfl) (by kernel_rfl) (fun _ _ _ h => h) (Or.inl ⟨by rfl, ?_⟩) (by assumption) ?_
          · (intro w hSw; (try dsimp only at hSw); go_simp)
          (try simp only [List.getElem_toArray, List.getElem_cons_succ, List.getElem_cons_zero, Act.put, List.setIfInBounds_toArray, List.set_cons_zero, List.set_cons_succ])
          refine wpAnyH_done (by kernel_rfl) ?_ _
          go_wp2_with fail
          go_roundw
          case rel => exact ⟨k + 1, L ++ [(⟨nmS k, x⟩, .slice p3 x.l.length c3)], by omega, by go_num, HR8.out, by rw [List.map_append]; exact HNX.out, by rw [List.length_append, List.length_singleton]; omega, hbw8⟩
          case measure => simp [intOf]; omega
      · have hend : bdS 0 bs ls = L.map (·.1) := by
          rw [← HI.out]
          rcases Nat.lt_or_ge k ls.length with h | h
          · rw [List.drop_of_length_le (show bs.length ≤ k by omega), bdS_end2, List.append_nil]
          · rw [List.drop_of_length_le h, bdS_end1, List.append_nil]
        have hbd := HR.out.binds (by unfold BL; omega)
        rw [← hend] at hbd
        have HBD := Lib.hid hbd
        clear hbd hend
        go_wp2
        go_ret
        refine ⟨_, rfl, ?_, hb1.trans (hbr.mono hb1.size)⟩
        rw [HE.out]
        exact HBD.out.mono fun g hg _ => hg.imp id fun h => by have := hb1.size; omega
set_option maxHeartbeats 4000000 in
set_option maxRecDepth 100000 in
theorem rbinds_any {F : Nat → Prop} {w : World} {kd : Int} {ls : List Tr} {bs : List Bool} {sv bv x1 x2 x5 x6 x7 x8 x9 x10 x11 x12 x13 x14 x15 x16 x17 x18 x19 x20 x21 x22 x23 x24 x25 x26 x27 x28 x29 x30 x31 x32 x33 x34 : Value} (hs : Kids F w sv ls) (hb : Bools w bv bs) (hl : ls.length ≤ 100) (hl2 : bs.length ≤ 100) :
    Calls Tryz.prog 8 #[.agg #[.int .i8 kd, x1, x2, sv, bv, x5, x6, x7, x8, x9, x10, x11, x12, x13, x14, x15, x16, x17, x18, x19, x20, x21, x22, x23, x24, x25, x26, x27, x28, x29, x30, x31, x32, x33, x34]] w fun e w' => ∃ v, e = .returned v ∧ Binds (fun g => F g ∨ w.heap.size ≤ g) w' v (bdF kd bs ls) ∧ Below w.heap.size w w' := by
  obtain ⟨ps, cs, rfl⟩ := hs.slice
  obtain ⟨pb, cb, rfl, hbat⟩ := hb
  have hn1 := heap_new w (.cells #[.int .i8 kd, x1, x2, .slice ps ls.length cs, .slice pb bs.length cb, x5, x6, x7, x8, x9, x10, x11, x12, x13, x14, x15, x16, x17, x18, x19, x20, x21, x22, x23, x24, x25, x26, x27, x28, x29, x30, x31, x32, x33, x34] 36)
  have hb1 := alloc_below w (.cells #[.int .i8 kd, x1, x2, .slice ps ls.length cs, .slice pb bs.length cb, x5, x6, x7, x8, x9, x10, x11, x12, x13, x14, x15, x16, x17, x18, x19, x20, x21, x22, x23, x24, x25, x26, x27, x28, x29, x30, x31, x32, x33, x34] 36)
  have HS := Lib.hid ((hs.mono (F' := fun g => F g ∧ g < w.heap.size) fun g hg h => ⟨hg, h⟩).under hb1)
  have HB : Hid (∀ i (h : i < bs.length), ∃ g o, pb = some ⟨g, o, none⟩ ∧ (w.alloc (.cells #[.int .i8 kd, x1, x2, .slice ps ls.length cs, .slice pb bs.length cb, x5, x6, x7, x8, x9, x10, x11, x12, x13, x14, x15, x16, x17, x18, x19, x20, x21, x22, x23, x24, x25, x26, x27, x28, x29, x30, x31, x32, x33, x34] 36)).cell? ⟨g, o + i, none⟩ = some (.bool bs[i])) := Lib.hid fun i h => by
    obtain ⟨g, o, e1, e2⟩ := hbat i h
    exact ⟨g, o, e1, (hb1.cell (p := ⟨g, o + i, none⟩) (cell_block e2)).trans e2⟩
  clear hs hbat
  by_cases hk : kd = 0
  case neg =>
    have g0 : (kd != 0) = true := by simpa using hk
    have g1 : (kd == 0) = false := by simpa using hk
    have HE : Hid (bdF kd bs ls = []) := by unfold Hid bdF; rw [if_neg hk]
    clear hk
    go_enter Tryz.func8, Tryz.ntmps8
    go_upto_region 1 with fail
    generalize w.alloc (.cells _ _) = w1 at hn1 hb1 HS HB ⊢
    have k0 : w1.cell? ⟨w.heap.size, 0, none⟩ = some (.int .i8 kd) := (arr_cell hn1).trans rfl
    have k3 : w1.cell? ⟨w.heap.size, 3, none⟩ = some (.slice ps ls.length cs) := (arr_cell hn1).trans rfl
    have hl' : ls.length ≤ 100 := hl
    go_wp2
    go_loopw [3, 4] (fun v i wr => v = .slice none 0 0 ∧ i = .int .i64 0 ∧ wr = w1) (fun _ _ _ => 0)
    case atStart => exact ⟨rfl, rfl, rfl⟩
    case round =>
      obtain ⟨rfl, rfl, rfl⟩ := hrel
      by_cases h0 : 0 < ls.length
      all_goals
        go_wp2
        go_ret
        exact ⟨_, rfl, by rw [HE.out]; exact Binds.nil _ _, hb1⟩
  subst hk
  have HE : Hid (bdF 0 bs ls = bdS 0 bs ls) := Lib.hid (if_pos rfl)
  

  have _ := hl2
  go_enter Tryz.func8, Tryz.ntmps8
  go_upto_region 1 with fail
  generalize w.alloc (.cells _ _) = w1 at hn1 hb1 HS HB ⊢
  have k0 : w1.cell? ⟨w.heap.size, 0, none⟩ = some (.int .i8 0) := (arr_cell hn1).trans rfl
  have k3 : w1.cell? ⟨w.heap.size, 3, none⟩ = some (.slice ps ls.length cs) := (arr_cell hn1).trans rfl
  have k4 : w1.cell? ⟨w.heap.size, 4, none⟩ = some (.slice pb bs.length cb) := (arr_cell hn1).trans rfl
  have HN1 := Lib.hid hn1
  clear hn1
  go_wp2
  go_loopw [3, 4] (fun v i wr => ∃ (k : Nat) (L : List (Bd × Value)), k ≤ ls.length ∧ i = .int .i64 k ∧ BRowF (fun g => F g) w1.heap.size wr v L ∧ L.map (·.1) ++ bdS k (bs.drop k) (ls.drop k) = bdS 0 bs ls ∧ L.length ≤ k ∧ Below w1.heap.size w1 wr) (fun _ i _ => ls.length - (intOf i).toNat)
  case atStart => exact ⟨0, [], Nat.zero_le _, rfl, BRowF.nil _ _ _, rfl, Nat.zero_le _, Below.refl _ _⟩
  case round =>
    obtain ⟨k, L, hkM, rfl, hrow, hinv, hLk, hbr⟩ := hrel
    obtain ⟨pr, cr, rfl⟩ := hrow.slice
    have hnr := (hbr.block _ (Array.getElem?_eq_some_iff.1 HN1.out).1).trans HN1.out
    have k0 : wr.cell? ⟨w.heap.size, 0, none⟩ = some (.int .i8 0) := (arr_cell hnr).trans rfl
    have k3 : wr.cell? ⟨w.heap.size, 3, none⟩ = some (.slice ps ls.length cs) := (arr_cell hnr).trans rfl
    have k4 : wr.cell? ⟨w.heap.size, 4, none⟩ = some (.slice pb bs.length cb) := (arr_cell hnr).trans rfl
    have HI := Lib.hid hinv
    have HR := Lib.hid hrow
    clear hinv hrow
    by_cases hlt : k < ls.length
    · by_cases hlb : k < bs.length
      case' neg =>
        have HNX : Hid (L.map (·.1) ++ bdS (k + 1) (bs.drop (k + 1)) (ls.drop (k + 1)) = bdS 0 bs ls) := by
          unfold Hid
          rw [← HI.out, List.drop_of_length_le (show bs.length ≤ k by omega), List.drop_of_length_le (show bs.length ≤ k + 1 by omega), bdS_end2, bdS_end2]
        go_wp2_with fail
        go_roundw
        case rel => exact ⟨k + 1, L, hlt, by go_num, HR.out, HNX.out, by omega, hbr⟩
        case measure => simp [intOf]; omega
      case' pos =>
        have hls : k < ls.length := by omega
        obtain ⟨gb, ob, hpb, hcb⟩ := HB.out k hlb
        have hcb := (hbr.cell (p := ⟨gb, ob + k, none⟩) (cell_block hcb)).trans hcb
        subst hpb
        have hst := bdS_step hls hlb
        cases hbk : bs[k]
        · rw [hbk] at hcb hst
          have HNX : Hid (L.map (·.1) ++ bdS (k + 1) (bs.drop (k + 1)) (ls.drop (k + 1)) = bdS 0 bs ls) := by unfold Hid; rw [← HI.out, hst]; rfl
          clear hst
          go_wp2_with fail
          go_roundw
          case rel => exact ⟨k + 1, L, by omega, by go_num, HR.out, HNX.out, by omega, hbr⟩
          case measure => simp [intOf]; omega
        · rw [hbk] at hcb hst
          obtain ⟨g, ob2, xv, hps, hFg, ⟨a0, a1, a2, a3, a4⟩, hkid⟩ := (HS.out.under hbr).at hls
          subst hps
          obtain ⟨p3, c3, rfl⟩ := hkid.kids.slice
          have HNX : Hid (L.map (·.1) ++ [⟨nmS k, ls[k]⟩] ++ bdS (k + 1) (bs.drop (k + 1)) (ls.drop (k + 1)) = bdS 0 bs ls) := by unfold Hid; rw [← HI.out, hst, List.append_assoc]; rfl
          clear hst
          generalize ls[k] = x at a0 a1 a2 a3 a4 hkid HNX
          have hd : Below wr.heap.size wr wr.drew := below_drewN (Below.refl _ _) 1
          have hxp : TrV (fun g => F g ∧ g < w1.heap.size) wr x _ := hkid.mono fun g hg _ => ⟨hg.1, by have := hb1.size; omega⟩
          have HX := Lib.hid hxp
          have hmv : ∀ V : World, Below wr.heap.size wr V → V.cell? ⟨w.heap.size, 3, none⟩ = some (.slice (some ⟨g, ob2, none⟩) ls.length cs) ∧ V.cell? ⟨g, ob2 + k * 5, none⟩ = some (.int .i8 x.k) ∧ V.cell? ⟨g, ob2 + k * 5 + 1, none⟩ = some (.int .i64 x.n) ∧ V.cell? ⟨g, ob2 + k * 5 + 2, none⟩ = some (.string x.s) ∧ V.cell? ⟨g, ob2 + k * 5 + 3, none⟩ = some (.string x.t) ∧ V.cell? ⟨g, ob2 + k * 5 + 4, none⟩ = some (.slice p3 x.l.length c3) := by
            intro V hv
            have f : ∀ g o u, wr.cell? ⟨g, o, none⟩ = some u → V.cell? ⟨g, o, none⟩ = some u := fun g o u h => (hv.cell (p := ⟨g, o, none⟩) (cell_block h)).trans h
            exact ⟨f _ _ _ k3, f _ _ _ a0, f _ _ _ a1, f _ _ _ a2, f _ _ _ a3, f _ _ _ a4⟩
          have hS0 := hmv wr (Below.refl _ _)
          have hm8 : ∀ V : World, Below w1.heap.size w1 V → V.cell? ⟨w.heap.size, 3, none⟩ = some (.slice (some ⟨g, ob2, none⟩) ls.length cs) ∧ V.cell? ⟨g, ob2 + k * 5, none⟩ = some (.int .i8 x.k) ∧ V.cell? ⟨g, ob2 + k * 5 + 1, none⟩ = some (.int .i64 x.n) ∧ V.cell? ⟨g, ob2 + k * 5 + 2, none⟩ = some (.string x.s) ∧ V.cell? ⟨g, ob2 + k * 5 + 3, none⟩ = some (.string x.t) ∧ V.cell? ⟨g, ob2 + k * 5 + 4, none⟩ = some (.slice p3 x.l.length c3) := by
            intro V hv
            have f : ∀ g o u, g < w1.heap.size → wr.cell? ⟨g, o, none⟩ = some u → V.cell? ⟨g, o, none⟩ = some u := fun g o u hg h => (hv.cell (p := ⟨g, o, none⟩) hg).trans ((hbr.cell (p := ⟨g, o, none⟩) hg).symm.trans h)
            have hg1 : g < w1.heap.size := by have := hFg.2; have := hb1.size; omega
            have hg2 : w.heap.size < w1.heap.size := (Array.getElem?_eq_some_iff.1 HN1.out).1
            exact ⟨f _ _ _ hg2 k3, f _ _ _ hg1 a0, f _ _ _ hg1 a1, f _ _ _ hg1 a2, f _ _ _ hg1 a3, f _ _ _ hg1 a4⟩
          have hn9 := heap_new wr.drew (.cells (bcells (⟨nmS k, x⟩, .slice p3 x.l.length c3)).toArray 70)
          have hb9 := hd.trans ((alloc_below wr.drew (.cells (bcells (⟨nmS k, x⟩, .slice p3 x.l.length c3)).toArray 70)).mono hd.size)
          have hS9 := hmv _ hb9
          have HN9 := Lib.hid hn9
          have HR9 := Lib.hid (HR.out.under hb9)
          have HX9 := Lib.hid (hxp.below hb9)
          have hsz9 := hbr.size
          have hsz10 := hb9.size
          have hsz11 : w1.heap.size ≤ (wr.drew.alloc (.cells (bcells (⟨nmS k, x⟩, .slice p3 x.l.length c3)).toArray 70)).heap.size := Nat.le_trans hsz9 hsz10
          clear hxp hkid hn9
          go_upto_region 8 with fail
          refine wp_region_held_drew (S := fun V => V.cell? ⟨w.heap.size, 3, none⟩ = some (.slice (some ⟨g, ob2, none⟩) ls.length cs) ∧ V.cell? ⟨g, ob2 + k * 5, none⟩ = some (.int .i8 x.k) ∧ V.cell? ⟨g, ob2 + k * 5 + 1, none⟩ = some (.int .i64 x.n) ∧ V.cell? ⟨g, ob2 + k * 5 + 2, none⟩ = some (.string x.s) ∧ V.cell? ⟨g, ob2 + k * 5 + 3, none⟩ = some (.string x.t) ∧ V.cell? ⟨g, ob2 + k * 5 + 4, none⟩ = some (.slice p3 x.l.length c3)) (by kernel_rfl) ?_ (fun hHeld => ?_)
          · (try dsimp only); (first | with_reducible exact hS8 | exact hS9 | exact hS0)
          refine wpAnyH_take (i := 0) (v := ?_) rfl (by kernel_rfl) (by kernel_rfl) (by kernel_rfl) (fun _ _ _ h => h) (Or.inl ⟨by rfl, ?_⟩) (by assumption) ?_
          rotate_left 1
          (intro w hSw; (try dsimp only at hSw); go_simp; try with_reducible rfl)
          (try simp only [List.getElem_toArray, List.getElem_cons_zero, Act.put, List.setIfInBounds_toArray, List.set_cons_zero, List.set_cons_succ])
          refine wpAnyH_take (i := 1) (v := ?_) rfl (by kernel_rfl) (by kernel_rfl) (by kernel_rfl) (fun _ _ _ h => h) (Or.inl ⟨by rfl, ?_⟩) (by assumption) ?_
          rotate_left 1
          (intro w hSw; (try dsimp only at hSw); go_simp; try with_reducible rfl)
          (try simp only [List.getElem_toArray, List.getElem_cons_succ, List.getElem_cons_zero, Act.put, List.setIfInBounds_toArray, List.set_cons_zero, List.set_cons_succ])
          refine wpAnyH_take (i := 3) (v := ?_) rfl (by kernel_rfl) (by kernel_rfl) (by kernel_rfl) (fun _ _ _ h => h) (Or.inl ⟨by rfl, ?_⟩) (by assumption) ?_
          rotate_left 1
          (intro w hSw; (try dsimp only at hSw); go_simp; try with_reducible rfl)
          (try simp only [List.getElem_toArray, List.getElem_cons_succ, List.getElem_cons_zero, Act.put, List.setIfInBounds_toArray, List.set_cons_zero, List.set_cons_succ])
          refine wpAnyH_take (i := 4) (v := ?_) rfl (by kernel_rfl) (by kernel_rfl) (by kernel_rfl) (fun _ _ _ h => h) (Or.inl ⟨by rfl, ?_⟩) (by assumption) ?_
          rotate_left 1
          (intro w hSw; (try dsimp only at hSw); go_simp; try with_reducible rfl)
          (try simp only [List.getElem_toArray, List.getElem_cons_succ, List.getElem_cons_zero, Act.put, List.setIfInBounds_toArray, List.set_cons_zero, List.set_cons_succ])
          refine wpAnyH_take (i := 5) (v := ?_) rfl (by kernel_rfl) (by kernel_rfl) (by kernel_rfl) (fun _ _ _ h => h) (Or.inl ⟨by rfl, ?_⟩) (by assumption) ?_
          rotate_left 1
          (intro w hSw; (try dsimp only at hSw); go_simp; try with_reducible rfl)
          (try simp only [List.getElem_toArray, List.getElem_cons_succ, List.getElem_cons_zero, Act.put, List.setIfInBounds_toArray, List.set_cons_zero, List.set_cons_succ])
          refine wpAnyH_take (i := 6) (v := ?_) rfl (by kernel_rfl) (by kernel_rfl) (by kernel_rfl) (fun _ _ _ h => h) (Or.inl ⟨by rfl, ?_⟩) (by assumption) ?_
          rotate_left 1
          (intro w hSw; (try dsimp only at hSw); go_simp; try with_reducible rfl)
          (try simp only [List.getElem_toArray, List.getElem_cons_succ, List.getElem_cons_zero, Act.put, List.setIfInBounds_toArray, List.set_cons_zero, List.set_cons_succ])
          refine wpAnyH_take (i := 7) (v := ?_) rfl (by kernel_rfl) (by kernel_rfl) (by kernel_rfl) (fun _ _ _ h => h) (Or.inl ⟨by rfl, ?_⟩) (by assumption) ?_
          rotate_left 1
          (intro w hSw; (try dsimp only at hSw); go_simp; try with_reducible rfl)
          (try simp only [List.getElem_toArray, List.getElem_cons_succ, List.getElem_cons_zero, Act.put, List.setIfInBounds_toArray, List.set_cons_zero, List.set_cons_succ])
          refine wpAnyH_ready (rs := [2]) (by kernel_rfl) (by simp) ?_
          refine AllReadyH.cons rfl (fun K hK => ?_) AllReadyH.nil
          go_simp
          go_wp2_with ((go_at_call 21; refine (rname_any _ _).mono ?_; rintro e w3 ⟨rfl, rfl⟩))
          refine hK.out _ _ ?_ (fun hHeld => ?_)
          · (try dsimp only); (first | with_reducible exact hS8 | exact hS9 | exact hS0)
          clear hK K
          (try simp only [List.getElem_toArray, List.getElem_cons_succ, List.getElem_cons_zero, Act.put, List.setIfInBounds_toArray, List.set_cons_zero, List.set_cons_succ])
          refine wpAnyH_take (i := 8) (v := ?_) rfl (by kernel_rfl) (by kernel_rfl) (by kernel_rfl) (fun _ _ _ h => h) (Or.inl ⟨by rfl, ?_⟩) (by assumption) ?_
          rotate_left 1
          (intro w hSw; (try dsimp only at hSw); go_simp; try with_reducible rfl)
          (try simp only [List.getElem_toArray, List.getElem_cons_succ, List.getElem_cons_zero, Act.put, List.setIfInBounds_toArray, List.set_cons_zero, List.set_cons_succ])
          refine wpAnyH_ready (rs := [9]) (by kernel_rfl) (by simp) ?_
          refine AllReadyH.cons rfl (fun K hK => ?_) AllReadyH.nil
          go_simp
          refine hK.out _ _ ?_ (fun hHeld => ?_)
          · (try dsimp only); (first | with_reducible exact hS8 | exact hS9 | exact hS0)
          clear hK K
          (try simp only [List.getElem_toArray, List.getElem_cons_succ, List.getElem_cons_zero, Act.put, List.setIfInBounds_toArray, List.set_cons_zero, List.set_cons_succ])
          refine wpAnyH_ready (rs := [10]) (by kernel_rfl) (by simp) ?_
          refine AllReadyH.cons rfl (fun K hK => ?_) AllReadyH.nil
          (refine step_append_bind (F := fun g => F g) rfl (.tmp 29) (.tmp 38) rfl w1.heap.size _ L rfl HR9.out wr.drew.heap.size (⟨nmS k, x⟩, .slice p3 x.l.length c3) rfl HN9.out HX9.out (nm_len _) (by omega) hsz11 ?_; intro v8 w8 hrow8 hb8; have hbw8 : Below w1.heap.size w1 w8 := (hbr.trans (hb9.mono hbr.size)).trans hb8; have hS8 := hm8 w8 hbw8; have HR8 := Lib.hid hrow8; clear hrow8)
          refine hK.out _ _ ?_ (fun hHeld => ?_)
          · (try dsimp only); (first | with_reducible exact hS8 | exact hS9 | exact hS0)
          clear hK K
          (try simp only [List.getElem_toArray, List.getElem_cons_succ, List.getElem_cons_zero, Act.put, List.setIfInBounds_toArray, List.set_cons_zero, List.set_cons_succ])
          refine wpAnyH_take (i := 11) (v := v8) rfl (by kernel_rfl) (by kernel_rfl) (by kernel_rfl) (fun _ _ _ h => h) (Or.inl ⟨by rfl, ?_⟩) (by assumption) ?_
          · (intro w hSw; (try dsimp only at hSw); go_simp)
          (try simp only [List.getElem_toArray, List.getElem_cons_succ, List.getElem_cons_zero, Act.put, List.setIfInBounds_toArray, List.set_cons_zero, List.set_cons_succ])
          refine wpAnyH_done (by kernel_rfl) ?_ _
          go_wp2_with fail
          go_roundw
          case rel => exact ⟨k + 1, L ++ [(⟨nmS k, x⟩, .slice p3 x.l.length c3)], by omega, by go_num, HR8.out, by rw [List.map_append]; exact HNX.out, by rw [List.length_append, List.length_singleton]; omega, hbw8⟩
          case measure => simp [intOf]; omega
    · have hend : bdS 0 bs ls = L.map (·.1) := by
        rw [← HI.out]
        rcases Nat.lt_or_ge k ls.length with h | h
        · rw [List.drop_of_length_le (show bs.length ≤ k by omega), bdS_end2, List.append_nil]
        · rw [List.drop_of_length_le h, bdS_end1, List.append_nil]
      have hbd := HR.out.binds (by unfold BL; omega)
      rw [← hend] at hbd
      have HBD := Lib.hid hbd
      clear hbd hend
      go_wp2
      go_ret
      refine ⟨_, rfl, ?_, hb1.trans (hbr.mono hb1.size)⟩
      rw [HE.out]
      exact HBD.out.mono fun g hg _ => hg.imp id fun h => by have := hb1.size; omega
set_option maxHeartbeats 1000000 in
set_option maxRecDepth 100000 in
theorem wide_any {F : Nat → Prop} {l : List Tr} {w : World} {v : Value} (hx : Kids F w v l) :
    Calls Tryz.prog 12 #[v] w fun e w' => e = .returned (.bool (l.any fun x => decide (1024 ≤ x.sz 1024))) ∧ Below w.heap.size w w' := by
  obtain ⟨p, c, rfl⟩ := hx.slice
  have hlen : l.length ≤ 2199023255552 := hx.len
  have HX := Lib.hid hx
  clear hx
  go_enter Tryz.func12, Tryz.ntmps12
  go_wp2
  go_loopw [3] (fun i wr => ∃ k : Nat, k ≤ l.length ∧ i = .int .i64 k ∧ (l.take k).any (fun x => decide (1024 ≤ x.sz 1024)) = false ∧ Below w.heap.size w wr) (fun i _ => l.length - (intOf i).toNat)
  case atStart => exact ⟨0, Nat.zero_le _, rfl, rfl, Below.refl _ _⟩
  case round =>
    obtain ⟨k, hk, rfl, hall, hbr⟩ := hrel
    have HA := Lib.hid hall
    clear hall
    by_cases hlt : k < l.length
    · obtain ⟨g, o, kv, rfl, _, ⟨a0, a1, a2, a3, a4⟩, hkid⟩ := (HX.out.under hbr).at hlt
      obtain ⟨p3, c3, rfl⟩ := hkid.kids.slice
      have cG := greatT_any hkid
      have hst : (l.take (k + 1)).any (fun x => decide (1024 ≤ x.sz 1024)) = decide (1024 ≤ l[k].sz 1024) := by
        rw [List.take_succ_eq_append_getElem hlt, List.any_append, HA.out]; simp
      cases hq : decide (1024 ≤ l[k].sz 1024)
      · rw [hq] at cG hst
        have HNX := Lib.hid hst
        clear hst hq hkid
        generalize l[k] = x at a0 a1 a2 a3 a4 cG
        go_wp2_with (go_at_call 13; refine cG.mono ?_; rintro e w5 ⟨rfl, hb5⟩)
        go_roundw
        case rel => exact ⟨k + 1, hlt, by go_num, HNX.out, hbr.trans (hb5.mono hbr.size)⟩
        case measure => simp [intOf]; omega
      · have HE : Hid (l.any (fun x => decide (1024 ≤ x.sz 1024)) = true) := Lib.hid (List.any_eq_true.2 ⟨l[k], List.getElem_mem hlt, hq⟩)
        rw [hq] at cG
        clear hst hq hkid
        generalize l[k] = x at a0 a1 a2 a3 a4 cG
        go_wp2_with (go_at_call 13; refine cG.mono ?_; rintro e w5 ⟨rfl, hb5⟩)
        go_ret
        exact ⟨by rw [HE.out]; rfl, hbr.trans (hb5.mono hbr.size)⟩
    · have hno : (l.any fun x => decide (1024 ≤ x.sz 1024)) = false := by have := HA.out; rwa [List.take_of_length_le (by omega)] at this
      have HN := Lib.hid hno
      clear hno
      go_wp2
      go_ret
      exact ⟨by rw [HN.out]; rfl, hbr⟩
end Go.Proofs.YtkieoghkjjkapaaGreatDoor
