/-
  slices.Contains over words; ast.Vars: the names of a tree. Condition: the tree lies as 'TrV' says.
-/
import Derived.Test.YtdjafnjmkkagjaaGreatDoorIr3
import Derived.Test.YtdjafnjmkkagjaaGreatDoorSa1
import Derived.Maps.AppendAt
namespace Go.Proofs.YtdjafnjmkkagjaaGreatDoor
open Go.RowKit
theorem any_take {α : Type} {P : α → Bool} {l : List α} {k : Nat} (hk : k < l.length) (h : (l.take k).any P = false) (hp : P l[k] = false) : (l.take (k + 1)).any P = false := by
  rw [List.take_succ_eq_append_getElem hk, List.any_append, h]; simp [hp]
theorem any_at {α : Type} {P : α → Bool} {l : List α} {k : Nat} (hk : k < l.length) (hp : P l[k] = true) : l.any P = true := List.any_eq_true.2 ⟨l[k], List.getElem_mem hk, hp⟩
theorem bs_eq {a b : ByteArray} (h : (a.toList == b.toList) = true) : a = b := by
  have h1 : a.toList = b.toList := by simpa using h
  rw [ByteArray.toList_eq, ByteArray.toList_eq] at h1
  exact Go.WideShapes.bytes_inj h1
def undB (s : ByteArray) : Bool := s.toList == [95]
/-- A row of words. -/
def Strs (w : World) (v : Value) (l : List ByteArray) : Prop := ∃ p c, v = .slice p l.length c ∧ l.length ≤ BL ∧ ∀ i (h : i < l.length), ∃ g o, p = some ⟨g, o, none⟩ ∧ w.cell? ⟨g, o + i, none⟩ = some (.string l[i])
theorem Strs.below {w w' : World} {v : Value} {l : List ByteArray} (h : Strs w v l) (hb : Below w.heap.size w w') : Strs w' v l := by
  obtain ⟨p, c, h1, h2, h3⟩ := h
  refine ⟨p, c, h1, h2, fun i hi => ?_⟩
  obtain ⟨g, o, k1, k2⟩ := h3 i hi
  exact ⟨g, o, k1, (hb.cell (p := ⟨g, o + i, none⟩) (cell_block k2)).trans k2⟩
theorem Strs.nil (w : World) : Strs w (.slice none 0 0) [] := ⟨none, 0, rfl, Nat.zero_le _, fun i hi => absurd hi (by simp)⟩
theorem strs_row {w : World} {base : Nat} {T : TypeId} {v : Value} {l : List ByteArray} (h : w.ownsRow base T 1 v l.length (l.map .string)) (hl : l.length ≤ BL) : Strs w v l := by
  obtain ⟨_, h1⟩ := h
  rcases h1 with ⟨rfl, h0⟩ | ⟨g, cap, cur, rfl, hg, hh, hc, _, _, ht⟩
  · have : l = [] := List.eq_nil_of_length_eq_zero h0
    subst this; exact Strs.nil w
  · refine ⟨some ⟨g, 0, none⟩, cap, rfl, hl, fun i hi => ⟨g, 0, rfl, ?_⟩⟩
    have hu : (l.map Value.string)[i]? = some (.string l[i]) := by simp [hi]
    rw [← ht, List.getElem?_take, if_pos (by omega)] at hu
    simp [World.cell?, hh]
    simpa using hu
/-- Is a word among some? -/
def hasB (l : List ByteArray) (s : ByteArray) : Bool := l.any fun u => u.toList == s.toList


def IdxB (w : World) (s : ByteArray) (l : List ByteArray) (e : Ending) (w' : World) : Prop := (∃ n : Int, e = .returned (.int .i64 n) ∧ (if hasB l s = true then 0 ≤ n else n = -1)) ∧ w = w'
set_option maxHeartbeats 1000000 in
set_option maxRecDepth 100000 in
theorem bindex_any {w : World} {v : Value} {l : List ByteArray} (h : Strs w v l) (s : ByteArray) : Calls Tryz.prog 122 #[v, .string s] w (IdxB w s l) := by
  obtain ⟨p, c, rfl, hlen0, hat⟩ := h
  have hlen : l.length ≤ 2199023255552 := hlen0
  have HAT := Lib.hid hat
  have HM := Lib.hid (show hasB l s = l.any fun u => u.toList == s.toList from rfl)
  clear hat hlen0
  go_enter Tryz.func122, Tryz.ntmps122
  go_wp2
  go_loopw [8] (fun i wr => ∃ k : Nat, k ≤ l.length ∧ i = .int .i64 k ∧ (l.take k).any (fun u => u.toList == s.toList) = false ∧ w = wr) (fun i _ => l.length - (intOf i).toNat)
  case atStart => exact ⟨0, Nat.zero_le _, rfl, rfl, rfl⟩
  case round =>
    obtain ⟨k, hk, rfl, hall, rfl⟩ := hrel
    by_cases hlt : k < l.length
    · obtain ⟨g, o, rfl, hc⟩ := HAT.out k hlt
      cases he : (s.toList == l[k].toList)
      · have he' : (l[k].toList == s.toList) = false := by rw [← he]; exact Bool.beq_comm
        have HN := Lib.hid (any_take (P := fun u : ByteArray => u.toList == s.toList) hlt hall he')
        clear hall he'
        go_wp2
        go_roundw
        case rel => exact ⟨k + 1, hlt, by go_num, HN.out, by first | rfl | trivial⟩
        case measure => simp [intOf]; omega
      · have he' : (l[k].toList == s.toList) = true := by rw [← he]; exact Bool.beq_comm
        have HN : Hid (hasB l s = true) := by unfold Hid; rw [HM.out]; exact any_at hlt he'
        clear hall he'
        go_wp2
        go_ret
        exact ⟨⟨k, rfl, by rw [if_pos HN.out]; omega⟩, rfl⟩
    · rw [List.take_of_length_le (by omega)] at hall
      have HN : Hid (hasB l s = false) := by unfold Hid; rw [HM.out, hall]
      clear hall
      go_wp2
      go_ret
      exact ⟨⟨-1, rfl, by rw [if_neg (by rw [HN.out]; simp)]⟩, rfl⟩
set_option maxHeartbeats 1000000 in
theorem bcontains_any {w : World} {v : Value} {l : List ByteArray} (h : Strs w v l) (s : ByteArray) : Calls Tryz.prog 64 #[v, .string s] w fun e w' => e = .returned (.bool (hasB l s)) ∧ w = w' := by
  have cI := bindex_any h s
  obtain ⟨p, c, rfl, _⟩ := h
  generalize hq : hasB l s = q
  have HQ := Lib.hid hq
  clear hq
  go_enter Tryz.func64, Tryz.ntmps64
  go_upto_region 1 with fail
  cases q
  · go_wp2_with (go_at_call 122; refine cI.mono ?_; rintro e w5 ⟨⟨n, rfl, hn⟩, rfl⟩; rw [if_neg (by rw [HQ.out]; simp)] at hn; subst hn)
    go_ret
    exact ⟨rfl, rfl⟩
  · go_wp2_with (go_at_call 122; refine cI.mono ?_; rintro e w5 ⟨⟨n, rfl, hn⟩, rfl⟩; rw [if_pos HQ.out] at hn)
    go_ret
    exact ⟨by simp, rfl⟩
/-- The names in a row of nodes, behind those that are known. -/
def vfold : List Tr → List ByteArray → List ByteArray
  | [], o => o
  | z :: r, o => vfold r (if (z.k == 5 && (!undB z.s && !hasB o z.s)) = true then o ++ [z.s] else o)
theorem vfold_drop {l : List Tr} {k : Nat} {o : List ByteArray} (hk : k < l.length) : vfold (l.drop k) o = vfold (l.drop (k + 1)) (if (l[k].k == 5 && (!undB l[k].s && !hasB o l[k].s)) = true then o ++ [l[k].s] else o) := by rw [List.drop_eq_getElem_cons hk, vfold]
theorem hasB_app (a b : List ByteArray) (s : ByteArray) : hasB (a ++ b) s = (hasB a s || hasB b s) := by unfold hasB; rw [List.any_append]
theorem hasB_mem {l : List ByteArray} {s : ByteArray} : hasB l s = true ↔ s ∈ l := by
  unfold hasB
  rw [List.any_eq_true]
  constructor
  · rintro ⟨u, hu, h⟩; rw [← bs_eq h]; exact hu
  · exact fun h => ⟨s, h, by simp⟩
theorem vfold_mem {s : ByteArray} : ∀ {l : List Tr} {o : List ByteArray}, s ∈ vfold l o ↔ s ∈ o ∨ ∃ z ∈ l, z.k = 5 ∧ undB z.s = false ∧ z.s = s
  | [], o => by simp [vfold]
  | z :: r, o => by
    rw [vfold, vfold_mem (l := r)]
    by_cases hc : (z.k == 5 && (!undB z.s && !hasB o z.s)) = true
    · rw [if_pos hc]
      simp only [Bool.and_eq_true, beq_iff_eq, Bool.not_eq_true'] at hc
      simp only [List.mem_append, List.mem_cons, List.not_mem_nil, or_false, exists_eq_or_imp]
      constructor
      · rintro ((h | h) | h)
        · exact .inl h
        · exact .inr (.inl ⟨hc.1, hc.2.1, h.symm⟩)
        · exact .inr (.inr h)
      · rintro (h | h | h)
        · exact .inl (.inl h)
        · exact .inl (.inr h.2.2.symm)
        · exact .inr h
    · rw [if_neg hc]
      simp only [List.mem_cons, exists_eq_or_imp]
      constructor
      · rintro (h | h)
        · exact .inl h
        · exact .inr (.inr h)
      · rintro (h | h | h)
        · exact .inl h
        · refine .inl ?_
          obtain ⟨h1, h2, rfl⟩ := h
          simp only [h1, beq_self_eq_true, h2, Bool.not_false, Bool.true_and, Bool.not_eq_true', Bool.not_eq_false] at hc
          exact hasB_mem.1 hc
        · exact .inr h
theorem vfold_len : ∀ (l : List Tr) (o : List ByteArray), (vfold l o).length ≤ o.length + l.length
  | [], o => by simp [vfold]
  | z :: r, o => by
    rw [vfold]
    have := vfold_len r (if (z.k == 5 && (!undB z.s && !hasB o z.s)) = true then o ++ [z.s] else o)
    split at this
    · rename_i h; rw [if_pos h]; simp at this ⊢; omega
    · rename_i h; rw [if_neg h]; simp at this ⊢; omega
theorem infoStr : (Tryz.prog.info? 9).map (fun i => (i.zero, i.size, i.bytes)) = some (some (.string ⟨#[]⟩), 1, 16) := by kernel_rfl

end Go.Proofs.YtdjafnjmkkagjaaGreatDoor
