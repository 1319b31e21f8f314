/-
  How deep a tree is; which trees fit, in plain numbers. No condition.
  pleachref07.Has, Vars: rows of words; the names that a tree has. Conditions: the tree lies as 'TrV' says, the words as 'Strs'.
  A row of names that the call makes: append to it. Conditions: what is appended lies as 'Binds' says, ahead of the row.
  Appends to a row of names that the call makes, as one step of a region that draws. Conditions: what is appended lies as said.
-/
import Derived.Test.YtlhobpknflobgaaGreatDoorS19
import Derived.Test.YtlhobpknflobgaaGreatDoorS18
import Derived.Test.YtlhobpknflobgaaGreatDoorS22
import Derived.Laws.AppendOwnNone
namespace Go.Proofs.YtlhobpknflobgaaGreatDoor
open Go.RowKit

/-- How deep a tree is. -/
def Tr.dd : Tr → Nat
  | .mk _ _ _ _ l => ddl l + 1
where ddl : List Tr → Nat
  | [] => 0
  | x :: r => max x.dd (ddl r)
theorem dd_eq (x : Tr) : x.dd = Tr.dd.ddl x.l + 1 := by cases x; rfl
theorem dpl_dd (m : Int) (l : List Tr) (h : ∀ x ∈ l, ∀ n : Int, 1 ≤ n → x.dp n = min n x.dd) (hm : 1 < m) : ∀ a : Int, 1 ≤ a → a ≤ m → Tr.dp.dpl l m a = max a (min m (1 + Tr.dd.ddl l)) := by
  induction l with
  | nil => intro a ha ham; rw [Tr.dp.dpl, Tr.dd.ddl]; omega
  | cons x r ih =>
    intro a ha ham
    rw [Tr.dp.dpl, Tr.dd.ddl, h x (by simp) (m - 1) (by omega), ih (fun y hy => h y (List.mem_cons_of_mem _ hy)) _ (by omega) (by omega)]
    omega
theorem dp_dd (x : Tr) : ∀ m : Int, 1 ≤ m → x.dp m = min m x.dd := by
  induction x using Tr.ind with
  | h x ih =>
    intro m hm
    rw [dp_eq, dd_eq]
    by_cases h : 1 < m
    · rw [if_pos h, dpl_dd m x.l ih h 1 (by omega) (by omega)]; omega
    · rw [if_neg h]; omega
theorem fits_iff {x : Tr} : fitsB x = true ↔ x.nn ≤ 4096 ∧ x.dd ≤ 64 := by
  have hd := dp_dd x 65 (by omega)
  unfold fitsB
  simp only [Bool.and_eq_true, decide_eq_true_eq]
  constructor
  · rintro ⟨h1, h2⟩
    have := sz_nn x 4097 (by omega) (by omega)
    omega
  · rintro ⟨h1, h2⟩
    have := sz_of x 4097 (by omega)
    omega
theorem nnl_mem {y : Tr} : ∀ {l : List Tr}, y ∈ l → y.nn ≤ Tr.nn.nnl l
  | x :: r, h => by
    rw [Tr.nn.nnl]
    rcases List.mem_cons.1 h with rfl | h
    · omega
    · have := nnl_mem h; omega
theorem ddl_mem {y : Tr} : ∀ {l : List Tr}, y ∈ l → y.dd ≤ Tr.dd.ddl l
  | x :: r, h => by
    rw [Tr.dd.ddl]
    rcases List.mem_cons.1 h with rfl | h
    · omega
    · have := ddl_mem h; omega
theorem fits_kid {x y : Tr} (h : fitsB x = true) (hy : y ∈ x.l) : fitsB y = true := by
  rw [fits_iff] at h ⊢
  have h1 := nnl_mem hy
  have h2 := ddl_mem hy
  have h3 := nn_eq x
  have h4 := dd_eq x
  omega
theorem nnl_append (a b : List Tr) : Tr.nn.nnl (a ++ b) = Tr.nn.nnl a + Tr.nn.nnl b := by
  induction a with
  | nil => simp [Tr.nn.nnl]
  | cons x r ih => rw [List.cons_append, Tr.nn.nnl, Tr.nn.nnl, ih]; omega
theorem ddl_append (a b : List Tr) : Tr.dd.ddl (a ++ b) = max (Tr.dd.ddl a) (Tr.dd.ddl b) := by
  induction a with
  | nil => simp [Tr.dd.ddl]
  | cons x r ih => rw [List.cons_append, Tr.dd.ddl, Tr.dd.ddl, ih]; omega
theorem nnl_reverse (a : List Tr) : Tr.nn.nnl a.reverse = Tr.nn.nnl a := by
  induction a with
  | nil => rfl
  | cons x r ih => rw [List.reverse_cons, nnl_append, ih]; simp only [Tr.nn.nnl]; omega
theorem ddl_reverse (a : List Tr) : Tr.dd.ddl a.reverse = Tr.dd.ddl a := by
  induction a with
  | nil => rfl
  | cons x r ih => rw [List.reverse_cons, ddl_append, ih]; simp only [Tr.dd.ddl]; omega
theorem pre_kid {x y z : Tr} (hy : y ∈ x.l) (hz : z ∈ y.pre) : z ∈ x.pre := by
  rw [pre_eq x]
  have key : ∀ l : List Tr, y ∈ l → z ∈ Tr.pre.prel l := by
    intro l
    induction l with
    | nil => intro h; simp at h
    | cons u r ih =>
      intro h
      rw [Tr.pre.prel]
      rcases List.mem_cons.1 h with rfl | h
      · exact List.mem_append.2 (.inl hz)
      · exact List.mem_append.2 (.inr (ih h))
  exact List.mem_cons_of_mem _ (key _ hy)
end Go.Proofs.YtlhobpknflobgaaGreatDoor
namespace Go.Proofs.YtlhobpknflobgaaGreatDoor
open Go.RowKit

/-- A row of words. -/
def Strs (w : World) (v : Value) (l : List ByteArray) : Prop := ∃ p c, v = .slice p l.length c ∧ l.length ≤ BL ∧ ∀ i (h : i < l.length), ∃ g o, p = some ⟨g, o, none⟩ ∧ w.cell? ⟨g, o + i, none⟩ = some (.string l[i])
theorem Strs.below {w w' : World} {v : Value} {l : List ByteArray} (h : Strs w v l) (hb : Below w.heap.size w w') : Strs w' v l := by
  obtain ⟨p, c, h1, h2, h3⟩ := h
  refine ⟨p, c, h1, h2, fun i hi => ?_⟩
  obtain ⟨g, o, k1, k2⟩ := h3 i hi
  exact ⟨g, o, k1, (hb.cell (p := ⟨g, o + i, none⟩) (cell_block k2)).trans k2⟩
theorem Strs.nil (w : World) : Strs w (.slice none 0 0) [] := ⟨none, 0, rfl, Nat.zero_le _, fun i hi => absurd hi (by simp)⟩
theorem strs_row {w : World} {base : Nat} {T : TypeId} {v : Value} {l : List ByteArray} (h : w.ownsRow base T 1 v l.length (l.map .string)) (hl : l.length ≤ BL) : Strs w v l := by
  obtain ⟨_, h1⟩ := h
  rcases h1 with ⟨rfl, h0⟩ | ⟨g, cap, cur, rfl, hg, hh, hc, _, _, ht⟩
  · have : l = [] := List.eq_nil_of_length_eq_zero h0
    subst this; exact Strs.nil w
  · refine ⟨some ⟨g, 0, none⟩, cap, rfl, hl, fun i hi => ⟨g, 0, rfl, ?_⟩⟩
    have hu : (l.map Value.string)[i]? = some (.string l[i]) := by simp [hi]
    rw [← ht, List.getElem?_take, if_pos (by omega)] at hu
    simp [World.cell?, hh]
    simpa using hu
/-- Is a word among some? -/
def hasB (l : List ByteArray) (s : ByteArray) : Bool := l.any fun u => u.toList == s.toList

set_option maxHeartbeats 2000000 in
set_option maxRecDepth 100000 in
theorem has_any {w : World} {v : Value} {l : List ByteArray} {s : ByteArray} (hl : Strs w v l) :
    Calls Tryz.prog 19 #[v, .string s] w fun e w' => e = .returned (.bool (hasB l s)) ∧ Below w.heap.size w w' := by
  obtain ⟨p, c, rfl, hlen0, hat⟩ := hl
  have hlen : l.length ≤ 2199023255552 := hlen0
  have HAT := Lib.hid hat
  have HM := Lib.hid (show hasB l s = l.any fun u => u.toList == s.toList from rfl)
  clear hat hlen0
  go_enter Tryz.func19, Tryz.ntmps19
  go_wp2_with fail
  go_loopw [5] (fun i wr => ∃ k : Nat, k ≤ l.length ∧ i = .int .i64 k ∧ (l.take k).any (fun u => u.toList == s.toList) = false ∧ wr = w) (fun i _ => l.length - (intOf i).toNat)
  case atStart => exact ⟨0, Nat.zero_le _, rfl, rfl, rfl⟩
  case round =>
    obtain ⟨k, hk, rfl, hall, rfl⟩ := hrel
    by_cases hlt : k < l.length
    · obtain ⟨g, o, rfl, hc⟩ := HAT.out k hlt
      cases he : (l[k].toList == s.toList)
      · have HN := Lib.hid (any_take (P := fun u : ByteArray => u.toList == s.toList) hlt hall he)
        clear hall
        go_wp2
        go_roundw
        case rel => exact ⟨k + 1, hlt, by go_num, HN.out, by first | rfl | trivial⟩
        case measure => simp [intOf]; omega
      · have HN : Hid (hasB l s = true) := by unfold Hid; rw [HM.out]; exact any_at hlt he
        clear hall
        go_wp2
        go_ret
        exact ⟨by rw [HN.out]; rfl, Below.refl _ _⟩
    · rw [List.take_of_length_le (by omega)] at hall
      have HN : Hid (hasB l s = false) := by unfold Hid; rw [HM.out, hall]
      clear hall
      go_wp2
      go_ret
      exact ⟨by rw [HN.out]; rfl, Below.refl _ _⟩

/-- The names in a row of nodes, behind those that are known. -/
def vfold : List Tr → List ByteArray → List ByteArray
  | [], o => o
  | z :: r, o => vfold r (if (z.k == 5 && (!undB z.s && !hasB o z.s)) = true then o ++ [z.s] else o)
theorem vfold_drop {l : List Tr} {k : Nat} {o : List ByteArray} (hk : k < l.length) : vfold (l.drop k) o = vfold (l.drop (k + 1)) (if (l[k].k == 5 && (!undB l[k].s && !hasB o l[k].s)) = true then o ++ [l[k].s] else o) := by rw [List.drop_eq_getElem_cons hk, vfold]
/-- What Vars tells. -/
def varsT (x : Tr) : List ByteArray := if fitsB x then vfold x.pre [] else []
theorem hasB_app (a b : List ByteArray) (s : ByteArray) : hasB (a ++ b) s = (hasB a s || hasB b s) := by unfold hasB; rw [List.any_append]
theorem hasB_mem {l : List ByteArray} {s : ByteArray} : hasB l s = true ↔ s ∈ l := by
  unfold hasB
  rw [List.any_eq_true]
  constructor
  · rintro ⟨u, hu, h⟩; rw [← bs_eq h]; exact hu
  · exact fun h => ⟨s, h, by simp⟩
theorem vfold_mem {s : ByteArray} : ∀ {l : List Tr} {o : List ByteArray}, s ∈ vfold l o ↔ s ∈ o ∨ ∃ z ∈ l, z.k = 5 ∧ undB z.s = false ∧ z.s = s
  | [], o => by simp [vfold]
  | z :: r, o => by
    rw [vfold, vfold_mem (l := r)]
    by_cases hc : (z.k == 5 && (!undB z.s && !hasB o z.s)) = true
    · rw [if_pos hc]
      simp only [Bool.and_eq_true, beq_iff_eq, Bool.not_eq_true'] at hc
      simp only [List.mem_append, List.mem_cons, List.not_mem_nil, or_false, exists_eq_or_imp]
      constructor
      · rintro ((h | h) | h)
        · exact .inl h
        · exact .inr (.inl ⟨hc.1, hc.2.1, h.symm⟩)
        · exact .inr (.inr h)
      · rintro (h | h | h)
        · exact .inl (.inl h)
        · exact .inl (.inr h.2.2.symm)
        · exact .inr h
    · rw [if_neg hc]
      simp only [List.mem_cons, exists_eq_or_imp]
      constructor
      · rintro (h | h)
        · exact .inl h
        · exact .inr (.inr h)
      · rintro (h | h | h)
        · exact .inl h
        · refine .inl ?_
          obtain ⟨h1, h2, rfl⟩ := h
          simp only [h1, beq_self_eq_true, h2, Bool.not_false, Bool.true_and, Bool.not_eq_true', Bool.not_eq_false] at hc
          exact hasB_mem.1 hc
        · exact .inr h
theorem vfold_len : ∀ (l : List Tr) (o : List ByteArray), (vfold l o).length ≤ o.length + l.length
  | [], o => by simp [vfold]
  | z :: r, o => by
    rw [vfold]
    have := vfold_len r (if (z.k == 5 && (!undB z.s && !hasB o z.s)) = true then o ++ [z.s] else o)
    split at this
    · rename_i h; rw [if_pos h]; simp at this ⊢; omega
    · rename_i h; rw [if_neg h]; simp at this ⊢; omega
theorem infoStr : (Tryz.prog.info? 9).map (fun i => (i.zero, i.size, i.bytes)) = some (some (.string ⟨#[]⟩), 1, 16) := by kernel_rfl
theorem vfits_nn {p : Tr} (h : fitsB p = true) : p.nn ≤ 4096 := by
  unfold fitsB at h
  simp only [Bool.and_eq_true, decide_eq_true_eq] at h
  have := sz_nn p 4097 (by omega) (by omega)
  omega
def VarsPost (x : Tr) (w : World) (e : Ending) (w' : World) : Prop := ∃ v, e = .returned v ∧ Strs w' v (varsT x) ∧ Below w.heap.size w w'
/-- What the round knows. -/
def VRel (x : Tr) (w1 : World) (out i : Value) (wr : World) : Prop :=
  ∃ k : Nat, k ≤ x.pre.length ∧ i = .int .i64 k ∧ ∃ o : List ByteArray, wr.ownsRow w1.heap.size 9 1 out o.length (o.map .string) ∧ vfold (x.pre.drop k) o = vfold x.pre [] ∧ Below w1.heap.size w1 wr ∧ o.length ≤ k

set_option maxHeartbeats 4000000 in
set_option maxRecDepth 100000 in
theorem vars_any {F : Nat → Prop} {x : Tr} {w : World} {sv : Value} (hx : TrV F w x sv) :
    Calls Tryz.prog 20 #[.agg #[.int .i8 x.k, .int .i64 x.n, .string x.s, .string x.t, sv]] w (VarsPost x w) := by
  have hx : TrV (fun _ => True) w x sv := hx.wide fun _ _ _ => trivial
  obtain ⟨p, c, rfl⟩ := hx.kids.slice
  obtain ⟨i0, hi, hi0, hi1, hi2⟩ := info_parts infoStr
  have hb0 := alloc_below w (.cells #[.int .i8 x.k, .int .i64 x.n, .string x.s, .string x.t, .slice p x.l.length c] 25)
  have hn0 := node_heap (heap_new w (.cells #[.int .i8 x.k, .int .i64 x.n, .string x.s, .string x.t, .slice p x.l.length c] 25))
  have hx1 := hx.below hb0
  have hV : varsT x = if fitsB x then vfold x.pre [] else [] := rfl
  have HV := Lib.hid hV
  have cF := nfits_any hx1
  clear hx hV
  go_enter Tryz.func20, Tryz.ntmps20
  go_upto_region 1 with fail
  have hsz0 : w.heap.size < (w.alloc (.cells #[.int .i8 x.k, .int .i64 x.n, .string x.s, .string x.t, .slice p x.l.length c] 25)).heap.size := by simp
  generalize w.alloc (.cells #[.int .i8 x.k, .int .i64 x.n, .string x.s, .string x.t, .slice p x.l.length c] 25) = w1 at hb0 hn0 hx1 cF hsz0 ⊢
  have HSZ := Lib.hid hsz0
  have HX1 := Lib.hid hx1
  have HN0 := Lib.hid hn0
  obtain ⟨a0, a1, a2, a3, a4⟩ := hn0
  simp only [Nat.zero_add] at a1 a2 a3 a4
  clear hsz0 hx1
  cases hf : fitsB x
  · rw [hf] at cF
    have HR : Hid (varsT x = []) := by unfold Hid; rw [HV.out, hf]; rfl
    clear hf
    go_wp2_with (go_at_call 50; refine cF.mono ?_; rintro e w5 ⟨rfl, hb5⟩)
    go_ret
    exact ⟨_, rfl, by rw [HR.out]; exact Strs.nil _, hb0.trans (hb5.mono hb0.size)⟩
  rw [hf] at cF
  have HR : Hid (varsT x = vfold x.pre []) := by unfold Hid; rw [HV.out, hf]; rfl
  have hnn := vfits_nn hf
  clear hf
  have cW := fun (W : World) (hb : Below w1.heap.size w1 W) => walkK_any (F := fun _ => True) (most := 4097) (fun _ _ => trivial) (HX1.out.below hb) (by omega) (by omega)
  go_upto_region 6 with (first
    | (go_at_call 50; refine cF.mono ?_; rintro e w5 ⟨rfl, hb5⟩; obtain ⟨b0, b1, b2, b3, b4⟩ := HN0.out.keep (hb5.block _ HSZ.out); simp only [Nat.zero_add] at b1 b2 b3 b4)
    | (go_at_call 59; refine (cW _ hb5).mono ?_; rintro e w6 ⟨v6, rfl, hk6, hb6⟩; obtain ⟨p6, c6, rfl⟩ := hk6.slice))
  have hB6 := hb0.trans ((hb5.trans (hb6.mono hb5.size)).mono hb0.size)
  have hlen6 : x.pre.length ≤ 4096 := by rw [pre_len]; exact hnn
  have HK := Lib.hid hk6
  clear a0 a1 a2 a3 a4 b0 b1 b2 b3 b4 hk6 cW cF
  go_loopw [4, 5] (fun out i wr => VRel x w6 out i wr) (fun _ i _ => x.pre.length - (intOf i).toNat)
  case atStart => exact ⟨0, Nat.zero_le _, rfl, [], World.ownsRow_nil .., rfl, Below.refl _ _, Nat.le_refl _⟩
  case round =>
    obtain ⟨k, hk, rfl, o, hown, hv, hbr, hok⟩ := hrel
    obtain ⟨q, cp, rfl⟩ := row_shape hown
    have HVV := Lib.hid hv
    clear hv
    by_cases hlt : k < x.pre.length
    · obtain ⟨g, ofs, kv, rfl, _, hnode, _⟩ := (HK.out.under hbr).at hlt
      obtain ⟨e0, e1, e2, e3, e4⟩ := hnode
      have hskip : (x.pre[k].k == 5 && (!undB x.pre[k].s && !hasB o x.pre[k].s)) = false → VRel x w6 (.slice q o.length cp) (.int .i64 ((k : Int) + 1)) wr := fun h => ⟨k + 1, hlt, by go_num, o, hown, by have := HVV.out; rw [vfold_drop hlt, if_neg (by rw [h]; simp)] at this; exact this, hbr, by omega⟩
      by_cases h5 : x.pre[k].k = 5
      · cases hu : undB x.pre[k].s
        · have cH := has_any (s := x.pre[k].s) (strs_row hown (by unfold BL; omega))
          have d5 : (x.pre[k].s.toList == [95]) = false := hu
          have d6 : (!(x.pre[k].s.toList == [95])) = true := by rw [d5]; rfl
          rw [h5] at e0
          cases hh : hasB o x.pre[k].s
          · rw [hh] at cH
            have hnext := HVV.out
            rw [vfold_drop hlt, if_pos (by rw [h5, hu, hh]; rfl)] at hnext
            have HNX := Lib.hid hnext
            have HOWN := Lib.hid hown
            have hbs : w6.heap.size ≤ wr.heap.size := hbr.size
            clear hskip hu h5 hh hnext e1 e3 e4
            go_wp2_with (first
              | (go_at_call 19; refine cH.mono ?_; rintro e w8 ⟨rfl, hb8⟩; have f2 := (hb8.cell (p := ⟨g, ofs + k * 5 + 2, none⟩) (cell_block e2)).trans e2; have hown9 := row_under (row_under HOWN.out hb8) (alloc_below w8 (.cells #[.string x.pre[k].s] 9)); have hsz9 : w6.heap.size ≤ (w8.alloc (.cells #[.string x.pre[k].s] 9)).heap.size := by have := hb8.size; simp; omega)
              | (at_builtin; refine wpList_append_own _ rfl (.tmp 41) (.tmp 47) 37 rfl w6.heap.size 9 i0 _ 1 16 Tryz.underlying37 hi hi0 hi1 hi2 rfl (by decide) _ o.length (o.map .string) rfl hown9 ⟨w8.heap.size, 0, none⟩ 1 1 [.string x.pre[k].s] rfl rfl (cells_at_new w8 [.string x.pre[k].s] 9) (fun u hu => by simp at hu; subst hu; rfl) (by unfold maxLen; omega) (by omega) hsz9 ?_; intro v9 w9 hown10 hgrow hnil))
            have hB9 : Below w6.heap.size w6 w9 := ((hbr.trans (hb8.mono hbr.size)).trans ((alloc_below w8 (.cells #[.string x.pre[k].s] 9)).mono (by have := hb8.size; omega))).grown hgrow hsz9 (row_base HOWN.out)
            go_roundw
            case rel => exact ⟨k + 1, hlt, by go_num, o ++ [x.pre[k].s], by simpa using hown10, HNX.out, hB9, by simp; omega⟩
            case measure => simp [intOf]; omega
          · rw [hh] at cH
            have hrel := hskip (by rw [h5, hu, hh]; rfl)
            have HREL := Lib.hid hrel
            clear hskip hu h5 hh hrel e1 e3 e4
            go_wp2_with (go_at_call 19; refine cH.mono ?_; rintro e w8 ⟨rfl, hb8⟩)
            go_roundw
            case rel =>
              obtain ⟨k', h1, h2, o', h3, h4, h5, h6⟩ := HREL.out
              exact ⟨k', h1, h2, o', row_under h3 hb8, h4, h5.trans (hb8.mono h5.size), h6⟩
            case measure => simp [intOf]; omega
        · have d5 : (x.pre[k].s.toList == [95]) = true := hu
          have d6 : (!(x.pre[k].s.toList == [95])) = false := by rw [d5]; rfl
          have hrel := hskip (by rw [hu]; simp)
          have HREL := Lib.hid hrel
          rw [h5] at e0
          clear hskip hu h5 hrel e1 e3 e4
          go_wp2
          go_roundw
          case rel => exact HREL.out
          case measure => simp [intOf]; omega
      · have d5 : (x.pre[k].k == 5) = false := by simpa using h5
        have hrel := hskip (by rw [d5]; rfl)
        have HREL := Lib.hid hrel
        clear hskip h5 hrel e1 e2 e3 e4
        go_wp2
        go_roundw
        case rel => exact HREL.out
        case measure => simp [intOf]; omega
    · have hvv := HVV.out
      rw [List.drop_eq_nil_of_le (by omega), vfold] at hvv
      have HE : Hid (varsT x = o) := by unfold Hid; rw [HR.out, hvv]
      have hst := strs_row hown (by unfold BL; omega)
      have HST := Lib.hid hst
      clear hvv hst
      go_wp2
      go_ret
      exact ⟨_, rfl, by rw [HE.out]; exact HST.out, hB6.trans (hbr.mono hB6.size)⟩
end Go.Proofs.YtlhobpknflobgaaGreatDoor
namespace Go.Proofs.YtlhobpknflobgaaGreatDoor
open Go.RowKit

/-- A row of names that the call makes; their terms lie ahead of it. -/
structure BRow (base : Nat) (w : World) (v : Value) (L : List (Bd × Value)) : Prop where
  own : w.ownsRow base 40 6 v L.length (L.flatMap bcells)
  at_ : ∀ q ∈ L, TrV (fun g => g < base) w q.1.t q.2 ∧ q.1.s.size ≤ BL * 64
theorem BRow.nil (base : Nat) (w : World) : BRow base w (.slice none 0 0) [] := ⟨World.ownsRow_nil .., fun q hq => by simp at hq⟩
theorem BRow.binds {base : Nat} {w : World} {v : Value} {L : List (Bd × Value)} (h : BRow base w v L) (hl : L.length ≤ BL) : Binds (fun _ => True) w v (L.map (·.1)) :=
  binds_row h.own (fun _ _ => trivial) (fun q hq => ⟨⟨(h.at_ q hq).1.wf, (h.at_ q hq).1.kids.mono fun _ _ _ => trivial⟩, (h.at_ q hq).2⟩) hl
theorem BRow.under {base : Nat} {w w' : World} {v : Value} {L : List (Bd × Value)} (h : BRow base w v L) (hb : Below w.heap.size w w') : BRow base w' v L := ⟨row_under h.own hb, fun q hq => ⟨(h.at_ q hq).1.below hb, (h.at_ q hq).2⟩⟩
theorem BRow.slice {base : Nat} {w : World} {v : Value} {L : List (Bd × Value)} (h : BRow base w v L) : ∃ q c, v = .slice q L.length c := row_shape h.own

set_option maxRecDepth 10000 in
theorem wpList_append_binds {w : World} {ops : Array Oper} {rest : List Oper} {o : Oper} {a : Act} {Q : Exit → Act → World → Prop} (hgd : o.guard = none) (s x : Operand)
    (ho : o.op = .call { callee := .builtin .append, args := #[s, x], argTypes := #[26, 26] })
    (base : Nat) (v : Value) (L : List (Bd × Value)) (hs : a.eval s = v) (hrow : BRow base w v L) (p : Option Addr) (n c : Nat) (l : List Bd) (hx : a.eval x = .slice p n c) (hsrc : Binds (fun g => g < base) w (.slice p n c) l)
    (hlen : L.length + l.length ≤ 1048576) (hbase : base ≤ w.heap.size)
    (h : ∀ v' w' L', BRow base w' v' (L ++ L') → L'.map (·.1) = l → Below base w w' → wpList Tryz.prog ops Q rest (a.put o.dst v') w') : wpList Tryz.prog ops Q (o :: rest) a w := by
  obtain ⟨i0, hi, hz0, hz1, hz2⟩ := info_parts infoBind
  obtain ⟨Ls, hLm, hLt, hLc⟩ := hsrc.cells
  have hLl : Ls.length = l.length := by rw [← hLm, List.length_map]
  have hn : n = l.length := by
    obtain ⟨_, _, he, _⟩ := hsrc
    cases he; rfl
  cases p with
  | none =>
    obtain ⟨h1, h2⟩ := hsrc.none
    obtain rfl : Ls = [] := List.eq_nil_of_length_eq_zero (by omega)
    obtain rfl : c = 0 := h2
    obtain rfl : n = 0 := by omega
    refine wpList_append_own_none hgd s x 26 ho base 40 i0 6 Tryz.underlying26 hi v L.length (L.flatMap bcells) hs hrow.own hx ?_
    exact h v w [] (by rw [List.append_nil]; exact hrow) hLm (Below.refl _ _)
  | some ad =>
    refine wpList_append_own w hgd s x 26 ho base 40 i0 _ 6 88 Tryz.underlying26 hi hz0 hz1 hz2 rfl (by decide) v L.length (L.flatMap bcells) hs hrow.own ad n c (Ls.flatMap bcells) hx (by rw [flat6_len, hLl, hn]) (hLc ad rfl)
      (fun u hu => by obtain ⟨q, hq, hu⟩ := List.mem_flatMap.1 hu; exact bcells_plain (hLt q hq).1 u hu) (by unfold maxLen; omega) (by omega) hbase fun v' w' hown hg _ => ?_
    have hB : Below base w w' := (Below.refl _ _).grown hg hbase (row_base hrow.own)
    refine h v' w' Ls ⟨by rw [List.length_append, List.flatMap_append, hLl, ← hn]; exact hown, fun q hq => ?_⟩ hLm hB
    have hq' : TrV (fun g => g < base) w q.1.t q.2 ∧ q.1.s.size ≤ BL * 64 := by
      rcases List.mem_append.1 hq with hq | hq
      · exact hrow.at_ q hq
      · exact hLt q hq
    refine ⟨⟨hq'.1.wf, hq'.1.kids.keep fun g hg' hl => hB.block g hg'⟩, hq'.2⟩
end Go.Proofs.YtlhobpknflobgaaGreatDoor
namespace Go.Proofs.YtlhobpknflobgaaGreatDoor
open Go.RowKit

/-- A row of names to be appended: its cells, and that their terms lie ahead of a place. -/
structure BSrc (base : Nat) (w : World) (p : Option Addr) (n c : Nat) (L : List (Bd × Value)) : Prop where
  len : n = L.length
  none : p = .none → L = [] ∧ c = 0
  cells : ∀ ad, p = some ad → ∀ j u, (L.flatMap bcells)[j]? = some u → w.cell? (ad.add j) = some u
  at_ : ∀ q ∈ L, TrV (fun g => g < base) w q.1.t q.2 ∧ q.1.s.size ≤ BL * 64
theorem Binds.src {base : Nat} {w : World} {p : Option Addr} {n c : Nat} {l : List Bd} (h : Binds (fun g => g < base) w (.slice p n c) l) : ∃ L, L.map (·.1) = l ∧ BSrc base w p n c L := by
  obtain ⟨L, h1, h2, h3⟩ := h.cells
  have hn : n = l.length := by obtain ⟨_, _, he, _⟩ := h; cases he; rfl
  have hl : L.length = l.length := by rw [← h1, List.length_map]
  refine ⟨L, h1, by omega, fun hp => ?_, h3, h2⟩
  subst hp
  obtain ⟨k1, k2⟩ := h.none
  exact ⟨List.eq_nil_of_length_eq_zero (by omega), k2⟩
theorem BSrc.under {base : Nat} {w w' : World} {p : Option Addr} {n c : Nat} {L : List (Bd × Value)} (h : BSrc base w p n c L) (hb : Below w.heap.size w w') : BSrc base w' p n c L :=
  ⟨h.len, h.none, fun ad hp j u hu => by have := h.cells ad hp j u hu; exact (hb.cell (p := ad.add j) (World.block_lt_of_cell? w _ this)).trans this, fun q hq => ⟨(h.at_ q hq).1.below hb, (h.at_ q hq).2⟩⟩
theorem BRow.one {base : Nat} {W : World} {b : Nat} {d : Bd} {sv : Value} (h : W.heap[b]? = some (.cells #[.string d.s, .int .i8 d.t.k, .int .i64 d.t.n, .string d.t.s, .string d.t.t, sv] 40 (0, 0))) (hx : TrV (fun g => g < base) W d.t sv) (hs : d.s.size ≤ BL * 64) (hb : base ≤ b) : BRow base W (.slice (some ⟨b, 0, none⟩) 1 1) [(d, sv)] :=
  ⟨⟨rfl, .inr ⟨b, 1, _, rfl, hb, h, Nat.le_refl _, by unfold maxLen; omega, rfl, rfl⟩⟩, fun q hq => by simp at hq; subst hq; exact ⟨hx, hs⟩⟩
theorem BRow.zero {base : Nat} {W : World} {b : Nat} (h : W.heap[b]? = some (.cells #[] 40 (0, 0))) (hb : base ≤ b) : BRow base W (.slice (some ⟨b, 0, none⟩) 0 0) [] :=
  ⟨⟨rfl, .inr ⟨b, 0, _, rfl, hb, h, Nat.le_refl _, by unfold maxLen; omega, rfl, rfl⟩⟩, fun q hq => by simp at hq⟩
theorem BSrc.one {base : Nat} {W : World} {b : Nat} {d : Bd} {sv : Value} (h : W.heap[b]? = some (.cells #[.string d.s, .int .i8 d.t.k, .int .i64 d.t.n, .string d.t.s, .string d.t.t, sv] 40 (0, 0))) (hx : TrV (fun g => g < base) W d.t sv) (hs : d.s.size ≤ BL * 64) : BSrc base W (some ⟨b, 0, .none⟩) 1 1 [(d, sv)] := by
  refine ⟨rfl, fun e => (by cases e), fun ad hp j u hu => ?_, fun q hq => by simp at hq; subst hq; exact ⟨hx, hs⟩⟩
  cases hp
  have e : ([(d, sv)] : List (Bd × Value)).flatMap bcells = [.string d.s, .int .i8 d.t.k, .int .i64 d.t.n, .string d.t.s, .string d.t.t, sv] := rfl
  rw [e] at hu
  have h2 : W.cell? ⟨b, 0 + j, .none⟩ = (#[.string d.s, .int .i8 d.t.k, .int .i64 d.t.n, .string d.t.s, .string d.t.t, sv] : Array Value)[0 + j]? := arr_cell h
  rw [addr_add, h2, Nat.zero_add]
  simpa using hu
theorem BRow.bindsF {F : Nat → Prop} {base : Nat} {w : World} {v : Value} {L : List (Bd × Value)} (h : BRow base w v L) (hF : ∀ g, g < base → F g) (hO : ∀ g, v.ownBlock = some g → F g) (hb : L.length ≤ BL) : Binds F w v (L.map (·.1)) := by
  obtain ⟨_, h1⟩ := h.own
  rcases h1 with ⟨rfl, h0⟩ | ⟨g, cap, cur, rfl, hg, hh, hc, _, _, ht⟩
  · have : L = [] := List.eq_nil_of_length_eq_zero h0
    subst this
    exact Binds.nil F w
  · have hget : ∀ j, j < L.length * 6 → ∀ u, (L.flatMap bcells)[j]? = some u → w.cell? ⟨g, j, none⟩ = some u := by
      intro j hj u hu
      rw [← ht, List.getElem?_take, if_pos hj] at hu
      simp [World.cell?, hh]
      simpa using hu
    refine ⟨some ⟨g, 0, none⟩, cap, by simp, by simpa using hc, by simpa using hb, fun i hi => ?_, fun e => by cases e⟩
    have hi' : i < L.length := by simpa using hi
    have hm : (L.map (·.1))[i] = L[i].1 := by simp
    have hq := h.at_ L[i] (List.getElem_mem hi')
    have hc := fun j (hj : j < 6) => hget (i * 6 + j) (by omega)
    rw [hm]
    refine ⟨g, 0, L[i].2, rfl, hO g rfl, ?_, hq.2, ⟨?_, ?_, ?_, ?_, ?_⟩, hq.1.mono fun g hg _ => hF g hg⟩
    · have := hc 0 (by omega) _ (by rw [flat6 L i hi' 0 (by omega)]; rfl); simpa using this
    · have := hc 1 (by omega) _ (by rw [flat6 L i hi' 1 (by omega)]; rfl); simpa using this
    · have := hc 2 (by omega) _ (by rw [flat6 L i hi' 2 (by omega)]; rfl); simpa using this
    · have := hc 3 (by omega) _ (by rw [flat6 L i hi' 3 (by omega)]; rfl); simpa using this
    · have := hc 4 (by omega) _ (by rw [flat6 L i hi' 4 (by omega)]; rfl); simpa using this
    · have := hc 5 (by omega) _ (by rw [flat6 L i hi' 5 (by omega)]; rfl); simpa using this
set_option maxRecDepth 10000 in
theorem run_append_brow {w : World} (ty : TypeId) (base : Nat) (v : Value) (L : List (Bd × Value)) (hrow : BRow base w v L) (p : Option Addr) (n c : Nat) (Ls : List (Bd × Value)) (hsrc : BSrc base w p n c Ls) (hlen : L.length + Ls.length ≤ 1048576) (hbase : base ≤ w.heap.size) :
    ∃ v' w', (Builtin.append_ #[26, 26] ty #[v, .slice p n c]).run Tryz.prog w = .ok v' w' ∧ BRow base w' v' (L ++ Ls) ∧ w.grownBy w' v.ownBlock ∧ (v'.ownBlock = v.ownBlock ∨ ∀ j, v'.ownBlock = some j → w.heap.size ≤ j) ∧ Below base w w' := by
  obtain ⟨i0, hi, hz0, hz1, hz2⟩ := info_parts infoBind
  obtain ⟨hn, hnil, hc, ht⟩ := hsrc
  cases p with
  | none =>
    obtain ⟨rfl, rfl⟩ := hnil rfl
    obtain rfl : n = 0 := hn
    exact ⟨v, w, run_append_owned_none (P := Tryz.prog) (w := w) base 26 ty 40 i0 6 Tryz.underlying26 hi v L.length (L.flatMap bcells) hrow.own, by rw [List.append_nil]; exact hrow, ⟨rfl, rfl, rfl, Nat.le_refl _, fun _ _ _ => rfl⟩, .inl rfl, Below.refl _ _⟩
  | some ad =>
    obtain ⟨v', w', hr, hown, hg, hv⟩ := run_append_own2 (P := Tryz.prog) (w := w) base 26 ty 40 i0 _ 6 88 Tryz.underlying26 hi hz0 hz1 hz2 rfl (by decide) v L.length (L.flatMap bcells) hrow.own ad n c (Ls.flatMap bcells) (by rw [flat6_len, hn]) (hc ad rfl)
      (fun u hu => by obtain ⟨q, hq, hu⟩ := List.mem_flatMap.1 hu; exact bcells_plain (ht q hq).1 u hu) (by unfold maxLen; omega) (by omega) hbase
    have hB : Below base w w' := (Below.refl _ _).grown hg hbase (row_base hrow.own)
    refine ⟨v', w', hr, ⟨by rw [List.length_append, List.flatMap_append, ← hn]; exact hown, fun q hq => ?_⟩, hg, hv, hB⟩
    have hq' : TrV (fun g => g < base) w q.1.t q.2 ∧ q.1.s.size ≤ BL * 64 := by
      rcases List.mem_append.1 hq with hq | hq
      · exact hrow.at_ q hq
      · exact ht q hq
    exact ⟨⟨hq'.1.wf, hq'.1.kids.keep fun g hg' hl => hB.block g hg'⟩, hq'.2⟩
theorem step_append_brow {w : World} {ops : Array Oper} {o : Oper} {a : Act} {K : Act → World → Prop} {Q : Exit → Act → World → Prop} {E : Prop} (hgd : o.guard = none) (s x : Operand)
    (ho : o.op = .call { callee := .builtin .append, args := #[s, x], argTypes := #[26, 26] })
    (base : Nat) (v : Value) (L : List (Bd × Value)) (hs : a.eval s = v) (hrow : BRow base w v L) (p : Option Addr) (n c : Nat) (Ls : List (Bd × Value)) (hx : a.eval x = .slice p n c) (hsrc : BSrc base w p n c Ls) (hlen : L.length + Ls.length ≤ 1048576) (hbase : base ≤ w.heap.size)
    (h : ∀ v' w', BRow base w' v' (L ++ Ls) → w.grownBy w' v.ownBlock → (v'.ownBlock = v.ownBlock ∨ ∀ j, v'.ownBlock = some j → w.heap.size ≤ j) → Below base w w' → K (a.put o.dst v') w') :
    if Region.wanted o (yielded ops a.tmps) = true then Oper.wp Tryz.prog o a w K Q else E := by
  have hw : Region.wanted o (yielded ops a.tmps) = true := by simp [Region.wanted, hgd]
  rw [if_pos hw]
  obtain ⟨v', w', hr, k1, k2, k3, k4⟩ := run_append_brow (w := w) o.type base v L hrow p n c Ls hsrc hlen hbase
  unfold Oper.wp
  simp [execOp, ho, resolve, invoke, builtin, hs, hx, hr, Result.andThen]
  exact h v' w' k1 k2 k3 k4
end Go.Proofs.YtlhobpknflobgaaGreatDoor
