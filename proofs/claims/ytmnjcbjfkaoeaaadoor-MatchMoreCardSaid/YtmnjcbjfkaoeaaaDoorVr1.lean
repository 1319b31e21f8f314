/-
  pleachref07.Has, Vars: rows of words; the names that a tree has. Conditions: the tree lies as 'TrV' says, the words as 'Strs'.
-/
import Derived.Test.YtmnjcbjfkaoeaaaDoorS19
import Derived.Test.YtmnjcbjfkaoeaaaDoorS18
namespace Go.Proofs.YtmnjcbjfkaoeaaaDoor
open Go.RowKit

/-- A row of words. -/
def Strs (w : World) (v : Value) (l : List ByteArray) : Prop := ∃ p c, v = .slice p l.length c ∧ l.length ≤ BL ∧ ∀ i (h : i < l.length), ∃ g o, p = some ⟨g, o, none⟩ ∧ w.cell? ⟨g, o + i, none⟩ = some (.string l[i])
theorem Strs.below {w w' : World} {v : Value} {l : List ByteArray} (h : Strs w v l) (hb : Below w.heap.size w w') : Strs w' v l := by
  obtain ⟨p, c, h1, h2, h3⟩ := h
  refine ⟨p, c, h1, h2, fun i hi => ?_⟩
  obtain ⟨g, o, k1, k2⟩ := h3 i hi
  exact ⟨g, o, k1, (hb.cell (p := ⟨g, o + i, none⟩) (cell_block k2)).trans k2⟩
theorem Strs.nil (w : World) : Strs w (.slice none 0 0) [] := ⟨none, 0, rfl, Nat.zero_le _, fun i hi => absurd hi (by simp)⟩
theorem strs_row {w : World} {base : Nat} {T : TypeId} {v : Value} {l : List ByteArray} (h : w.ownsRow base T 1 v l.length (l.map .string)) (hl : l.length ≤ BL) : Strs w v l := by
  obtain ⟨_, h1⟩ := h
  rcases h1 with ⟨rfl, h0⟩ | ⟨g, cap, cur, rfl, hg, hh, hc, _, _, ht⟩
  · have : l = [] := List.eq_nil_of_length_eq_zero h0
    subst this; exact Strs.nil w
  · refine ⟨some ⟨g, 0, none⟩, cap, rfl, hl, fun i hi => ⟨g, 0, rfl, ?_⟩⟩
    have hu : (l.map Value.string)[i]? = some (.string l[i]) := by simp [hi]
    rw [← ht, List.getElem?_take, if_pos (by omega)] at hu
    simp [World.cell?, hh]
    simpa using hu
/-- Is a word among some? -/
def hasB (l : List ByteArray) (s : ByteArray) : Bool := l.any fun u => u.toList == s.toList

set_option maxHeartbeats 2000000 in
set_option maxRecDepth 100000 in
theorem has_any {w : World} {v : Value} {l : List ByteArray} {s : ByteArray} (hl : Strs w v l) :
    Calls Tryd.prog 10 #[v, .string s] w fun e w' => e = .returned (.bool (hasB l s)) ∧ Below w.heap.size w w' := by
  obtain ⟨p, c, rfl, hlen0, hat⟩ := hl
  have hlen : l.length ≤ 2199023255552 := hlen0
  have HAT := Lib.hid hat
  have HM := Lib.hid (show hasB l s = l.any fun u => u.toList == s.toList from rfl)
  clear hat hlen0
  go_enter Tryd.func10, Tryd.ntmps10
  go_wp2_with fail
  go_loopw [5] (fun i wr => ∃ k : Nat, k ≤ l.length ∧ i = .int .i64 k ∧ (l.take k).any (fun u => u.toList == s.toList) = false ∧ wr = w) (fun i _ => l.length - (intOf i).toNat)
  case atStart => exact ⟨0, Nat.zero_le _, rfl, rfl, rfl⟩
  case round =>
    obtain ⟨k, hk, rfl, hall, rfl⟩ := hrel
    by_cases hlt : k < l.length
    · obtain ⟨g, o, rfl, hc⟩ := HAT.out k hlt
      cases he : (l[k].toList == s.toList)
      · have HN := Lib.hid (any_take (P := fun u : ByteArray => u.toList == s.toList) hlt hall he)
        clear hall
        go_wp2
        go_roundw
        case rel => exact ⟨k + 1, hlt, by go_num, HN.out, by first | rfl | trivial⟩
        case measure => simp [intOf]; omega
      · have HN : Hid (hasB l s = true) := by unfold Hid; rw [HM.out]; exact any_at hlt he
        clear hall
        go_wp2
        go_ret
        exact ⟨by rw [HN.out]; rfl, Below.refl _ _⟩
    · rw [List.take_of_length_le (by omega)] at hall
      have HN : Hid (hasB l s = false) := by unfold Hid; rw [HM.out, hall]
      clear hall
      go_wp2
      go_ret
      exact ⟨by rw [HN.out]; rfl, Below.refl _ _⟩

/-- The names in a row of nodes, behind those that are known. -/
def vfold : List Tr → List ByteArray → List ByteArray
  | [], o => o
  | z :: r, o => vfold r (if (z.k == 5 && (!undB z.s && !hasB o z.s)) = true then o ++ [z.s] else o)
theorem vfold_drop {l : List Tr} {k : Nat} {o : List ByteArray} (hk : k < l.length) : vfold (l.drop k) o = vfold (l.drop (k + 1)) (if (l[k].k == 5 && (!undB l[k].s && !hasB o l[k].s)) = true then o ++ [l[k].s] else o) := by rw [List.drop_eq_getElem_cons hk, vfold]
/-- What Vars tells. -/
def varsT (x : Tr) : List ByteArray := if fitsB x then vfold x.pre [] else []
theorem hasB_app (a b : List ByteArray) (s : ByteArray) : hasB (a ++ b) s = (hasB a s || hasB b s) := by unfold hasB; rw [List.any_append]
theorem hasB_mem {l : List ByteArray} {s : ByteArray} : hasB l s = true ↔ s ∈ l := by
  unfold hasB
  rw [List.any_eq_true]
  constructor
  · rintro ⟨u, hu, h⟩; rw [← bs_eq h]; exact hu
  · exact fun h => ⟨s, h, by simp⟩
theorem vfold_mem {s : ByteArray} : ∀ {l : List Tr} {o : List ByteArray}, s ∈ vfold l o ↔ s ∈ o ∨ ∃ z ∈ l, z.k = 5 ∧ undB z.s = false ∧ z.s = s
  | [], o => by simp [vfold]
  | z :: r, o => by
    rw [vfold, vfold_mem (l := r)]
    by_cases hc : (z.k == 5 && (!undB z.s && !hasB o z.s)) = true
    · rw [if_pos hc]
      simp only [Bool.and_eq_true, beq_iff_eq, Bool.not_eq_true'] at hc
      simp only [List.mem_append, List.mem_cons, List.not_mem_nil, or_false, exists_eq_or_imp]
      constructor
      · rintro ((h | h) | h)
        · exact .inl h
        · exact .inr (.inl ⟨hc.1, hc.2.1, h.symm⟩)
        · exact .inr (.inr h)
      · rintro (h | h | h)
        · exact .inl (.inl h)
        · exact .inl (.inr h.2.2.symm)
        · exact .inr h
    · rw [if_neg hc]
      simp only [List.mem_cons, exists_eq_or_imp]
      constructor
      · rintro (h | h)
        · exact .inl h
        · exact .inr (.inr h)
      · rintro (h | h | h)
        · exact .inl h
        · refine .inl ?_
          obtain ⟨h1, h2, rfl⟩ := h
          simp only [h1, beq_self_eq_true, h2, Bool.not_false, Bool.true_and, Bool.not_eq_true', Bool.not_eq_false] at hc
          exact hasB_mem.1 hc
        · exact .inr h
theorem vfold_len : ∀ (l : List Tr) (o : List ByteArray), (vfold l o).length ≤ o.length + l.length
  | [], o => by simp [vfold]
  | z :: r, o => by
    rw [vfold]
    have := vfold_len r (if (z.k == 5 && (!undB z.s && !hasB o z.s)) = true then o ++ [z.s] else o)
    split at this
    · rename_i h; rw [if_pos h]; simp at this ⊢; omega
    · rename_i h; rw [if_neg h]; simp at this ⊢; omega
theorem infoStr : (Tryd.prog.info? 9).map (fun i => (i.zero, i.size, i.bytes)) = some (some (.string ⟨#[]⟩), 1, 16) := by kernel_rfl
theorem fits_nn {p : Tr} (h : fitsB p = true) : p.nn ≤ 4096 := by
  unfold fitsB at h
  simp only [Bool.and_eq_true, decide_eq_true_eq] at h
  have := sz_nn p 4097 (by omega) (by omega)
  omega
def VarsPost (x : Tr) (w : World) (e : Ending) (w' : World) : Prop := ∃ v, e = .returned v ∧ Strs w' v (varsT x) ∧ Below w.heap.size w w'
/-- What the round knows. -/
def VRel (x : Tr) (w1 : World) (out i : Value) (wr : World) : Prop :=
  ∃ k : Nat, k ≤ x.pre.length ∧ i = .int .i64 k ∧ ∃ o : List ByteArray, wr.ownsRow w1.heap.size 9 1 out o.length (o.map .string) ∧ vfold (x.pre.drop k) o = vfold x.pre [] ∧ Below w1.heap.size w1 wr ∧ o.length ≤ k

set_option maxHeartbeats 4000000 in
set_option maxRecDepth 100000 in
theorem vars_any {F : Nat → Prop} {x : Tr} {w : World} {sv : Value} (hx : TrV F w x sv) :
    Calls Tryd.prog 9 #[.agg #[.int .i8 x.k, .int .i64 x.n, .string x.s, .string x.t, sv]] w (VarsPost x w) := by
  have hx : TrV (fun _ => True) w x sv := hx.wide fun _ _ _ => trivial
  obtain ⟨p, c, rfl⟩ := hx.kids.slice
  obtain ⟨i0, hi, hi0, hi1, hi2⟩ := info_parts infoStr
  have hb0 := alloc_below w (.cells #[.int .i8 x.k, .int .i64 x.n, .string x.s, .string x.t, .slice p x.l.length c] 25)
  have hn0 := node_heap (heap_new w (.cells #[.int .i8 x.k, .int .i64 x.n, .string x.s, .string x.t, .slice p x.l.length c] 25))
  have hx1 := hx.below hb0
  have hV : varsT x = if fitsB x then vfold x.pre [] else [] := rfl
  have HV := Lib.hid hV
  have cF := nfits_any hx1
  clear hx hV
  go_enter Tryd.func9, Tryd.ntmps9
  go_upto_region 1 with fail
  have hsz0 : w.heap.size < (w.alloc (.cells #[.int .i8 x.k, .int .i64 x.n, .string x.s, .string x.t, .slice p x.l.length c] 25)).heap.size := by simp
  generalize w.alloc (.cells #[.int .i8 x.k, .int .i64 x.n, .string x.s, .string x.t, .slice p x.l.length c] 25) = w1 at hb0 hn0 hx1 cF hsz0 ⊢
  have HSZ := Lib.hid hsz0
  have HX1 := Lib.hid hx1
  have HN0 := Lib.hid hn0
  obtain ⟨a0, a1, a2, a3, a4⟩ := hn0
  simp only [Nat.zero_add] at a1 a2 a3 a4
  clear hsz0 hx1
  cases hf : fitsB x
  · rw [hf] at cF
    have HR : Hid (varsT x = []) := by unfold Hid; rw [HV.out, hf]; rfl
    clear hf
    go_wp2_with (go_at_call 20; refine cF.mono ?_; rintro e w5 ⟨rfl, hb5⟩)
    go_ret
    exact ⟨_, rfl, by rw [HR.out]; exact Strs.nil _, hb0.trans (hb5.mono hb0.size)⟩
  rw [hf] at cF
  have HR : Hid (varsT x = vfold x.pre []) := by unfold Hid; rw [HV.out, hf]; rfl
  have hnn := fits_nn hf
  clear hf
  have cW := fun (W : World) (hb : Below w1.heap.size w1 W) => walkK_any (F := fun _ => True) (most := 4097) (fun _ _ => trivial) (HX1.out.below hb) (by omega) (by omega)
  go_upto_region 6 with (first
    | (go_at_call 20; refine cF.mono ?_; rintro e w5 ⟨rfl, hb5⟩; obtain ⟨b0, b1, b2, b3, b4⟩ := HN0.out.keep (hb5.block _ HSZ.out); simp only [Nat.zero_add] at b1 b2 b3 b4)
    | (go_at_call 14; refine (cW _ hb5).mono ?_; rintro e w6 ⟨v6, rfl, hk6, hb6⟩; obtain ⟨p6, c6, rfl⟩ := hk6.slice))
  have hB6 := hb0.trans ((hb5.trans (hb6.mono hb5.size)).mono hb0.size)
  have hlen6 : x.pre.length ≤ 4096 := by rw [pre_len]; exact hnn
  have HK := Lib.hid hk6
  clear a0 a1 a2 a3 a4 b0 b1 b2 b3 b4 hk6 cW cF
  go_loopw [4, 5] (fun out i wr => VRel x w6 out i wr) (fun _ i _ => x.pre.length - (intOf i).toNat)
  case atStart => exact ⟨0, Nat.zero_le _, rfl, [], World.ownsRow_nil .., rfl, Below.refl _ _, Nat.le_refl _⟩
  case round =>
    obtain ⟨k, hk, rfl, o, hown, hv, hbr, hok⟩ := hrel
    obtain ⟨q, cp, rfl⟩ := row_shape hown
    have HVV := Lib.hid hv
    clear hv
    by_cases hlt : k < x.pre.length
    · obtain ⟨g, ofs, kv, rfl, _, hnode, _⟩ := (HK.out.under hbr).at hlt
      obtain ⟨e0, e1, e2, e3, e4⟩ := hnode
      have hskip : (x.pre[k].k == 5 && (!undB x.pre[k].s && !hasB o x.pre[k].s)) = false → VRel x w6 (.slice q o.length cp) (.int .i64 ((k : Int) + 1)) wr := fun h => ⟨k + 1, hlt, by go_num, o, hown, by have := HVV.out; rw [vfold_drop hlt, if_neg (by rw [h]; simp)] at this; exact this, hbr, by omega⟩
      by_cases h5 : x.pre[k].k = 5
      · cases hu : undB x.pre[k].s
        · have cH := has_any (s := x.pre[k].s) (strs_row hown (by unfold BL; omega))
          have d5 : (x.pre[k].s.toList == [95]) = false := hu
          have d6 : (!(x.pre[k].s.toList == [95])) = true := by rw [d5]; rfl
          rw [h5] at e0
          cases hh : hasB o x.pre[k].s
          · rw [hh] at cH
            have hnext := HVV.out
            rw [vfold_drop hlt, if_pos (by rw [h5, hu, hh]; rfl)] at hnext
            have HNX := Lib.hid hnext
            have HOWN := Lib.hid hown
            have hbs : w6.heap.size ≤ wr.heap.size := hbr.size
            clear hskip hu h5 hh hnext e1 e3 e4
            go_wp2_with (first
              | (go_at_call 10; refine cH.mono ?_; rintro e w8 ⟨rfl, hb8⟩; have f2 := (hb8.cell (p := ⟨g, ofs + k * 5 + 2, none⟩) (cell_block e2)).trans e2; have hown9 := row_under (row_under HOWN.out hb8) (alloc_below w8 (.cells #[.string x.pre[k].s] 9)); have hsz9 : w6.heap.size ≤ (w8.alloc (.cells #[.string x.pre[k].s] 9)).heap.size := by have := hb8.size; simp; omega)
              | (at_builtin; refine wpList_append_own _ rfl (.tmp 41) (.tmp 47) 34 rfl w6.heap.size 9 i0 _ 1 16 Tryd.underlying34 hi hi0 hi1 hi2 rfl (by decide) _ o.length (o.map .string) rfl hown9 ⟨w8.heap.size, 0, none⟩ 1 1 [.string x.pre[k].s] rfl rfl (cells_at_new w8 [.string x.pre[k].s] 9) (fun u hu => by simp at hu; subst hu; rfl) (by unfold maxLen; omega) (by omega) hsz9 ?_; intro v9 w9 hown10 hgrow hnil))
            have hB9 : Below w6.heap.size w6 w9 := ((hbr.trans (hb8.mono hbr.size)).trans ((alloc_below w8 (.cells #[.string x.pre[k].s] 9)).mono (by have := hb8.size; omega))).grown hgrow hsz9 (row_base HOWN.out)
            go_roundw
            case rel => exact ⟨k + 1, hlt, by go_num, o ++ [x.pre[k].s], by simpa using hown10, HNX.out, hB9, by simp; omega⟩
            case measure => simp [intOf]; omega
          · rw [hh] at cH
            have hrel := hskip (by rw [h5, hu, hh]; rfl)
            have HREL := Lib.hid hrel
            clear hskip hu h5 hh hrel e1 e3 e4
            go_wp2_with (go_at_call 10; refine cH.mono ?_; rintro e w8 ⟨rfl, hb8⟩)
            go_roundw
            case rel =>
              obtain ⟨k', h1, h2, o', h3, h4, h5, h6⟩ := HREL.out
              exact ⟨k', h1, h2, o', row_under h3 hb8, h4, h5.trans (hb8.mono h5.size), h6⟩
            case measure => simp [intOf]; omega
        · have d5 : (x.pre[k].s.toList == [95]) = true := hu
          have d6 : (!(x.pre[k].s.toList == [95])) = false := by rw [d5]; rfl
          have hrel := hskip (by rw [hu]; simp)
          have HREL := Lib.hid hrel
          rw [h5] at e0
          clear hskip hu h5 hrel e1 e3 e4
          go_wp2
          go_roundw
          case rel => exact HREL.out
          case measure => simp [intOf]; omega
      · have d5 : (x.pre[k].k == 5) = false := by simpa using h5
        have hrel := hskip (by rw [d5]; rfl)
        have HREL := Lib.hid hrel
        clear hskip h5 hrel e1 e2 e3 e4
        go_wp2
        go_roundw
        case rel => exact HREL.out
        case measure => simp [intOf]; omega
    · have hvv := HVV.out
      rw [List.drop_eq_nil_of_le (by omega), vfold] at hvv
      have HE : Hid (varsT x = o) := by unfold Hid; rw [HR.out, hvv]
      have hst := strs_row hown (by unfold BL; omega)
      have HST := Lib.hid hst
      clear hvv hst
      go_wp2
      go_ret
      exact ⟨_, rfl, by rw [HE.out]; exact HST.out, hB6.trans (hbr.mono hB6.size)⟩
end Go.Proofs.YtmnjcbjfkaoeaaaDoor
