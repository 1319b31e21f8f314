/-
  ast.Vars over data; which names it tells. No condition but that the tree be in range.
-/
import Derived.Test.YtdjafnjmkkagjaaGreatDoorOc0
import Derived.Test.YtdjafnjmkkagjaaGreatDoorOp0
import Derived.Test.YtdjafnjmkkagjaaGreatDoorIr5
namespace Go.Proofs.YtdjafnjmkkagjaaGreatDoor.Oa.V1
open Go.RowKit Sx P1 Ir
set_option maxRecDepth 100000
def strR (l : List ByteArray) : List (List Dat) := l.map fun s => [.s (nats s)]
theorem strR_len (l : List ByteArray) : (strR l).length = l.length := by simp [strR]
theorem strR_at {l : List ByteArray} {k : Nat} (h : k < l.length) : List.getD (strR l) (Int.toNat (k : Int)) [] = [.s (nats l[k])] := by
  rw [show Int.toNat (k : Int) = k from rfl, List.getD_eq_getElem?_getD, strR, List.getElem?_map, List.getElem?_eq_getElem h]
  rfl
theorem okn {M : Mem} (s : ByteArray) : DR lay M .s (.s (nats s)) (.string s) := by
  have := DR.s (lay := lay) (M := M) (.s (nats s)) (okS_map _)
  rwa [show bytesOf (Dat.s (nats s)).str = s from bytes_nats s] at this
theorem vars_pu (x : Tr) (hx : TrOk x) : Pu 29 [agV x] (.es 9 (.r (strR (vT x)))) := by
  refine ⟨enter_of Tryz.func29 (by kernel_rfl), fun w M vs hM hT hvs => ?_⟩
  obtain ⟨vs⟩ := vs
  obtain ⟨v, rest, rfl, hv, rfl⟩ := hvs
  obtain ⟨sv, rfl, ht⟩ := agV_vr hM hx hv
  refine (vars_any ht).mono ?_
  rintro e w' ⟨u, rfl, hr, hb⟩
  have hM' : MemOk (fun b => if b < w.heap.size then M b else memOf w' b) w' := fun b c q => by
    simp only at q
    split at q
    · exact memOk_below hM hb b c q
    · exact memOf_ok w' b c q
  refine ⟨u, fun b => if b < w.heap.size then M b else memOf w' b, rfl, fun b c q => ?_, fun b c q => ?_, hM', ?_, hb⟩
  · obtain ⟨ty, fz, q2⟩ := hM b c q
    simp only
    rw [if_pos (Array.getElem?_eq_some_iff.1 q2).1]
    exact q
  · simp only at q
    split at q
    · exact .inl q
    · exact .inr (by omega)
  · show DR lay _ (.sl 9) (.r (strR (vT x))) u
    obtain ⟨_, h1⟩ := hr
    rcases h1 with ⟨rfl, h0⟩ | ⟨g, cap, cur, rfl, hg, hh, hc, _, _, hcur⟩
    · exact .nil _ _ _ _ (by
        have : vT x = [] := List.eq_nil_of_length_eq_zero h0
        rw [this]; rfl)
    · have hlen : (Dat.r (strR (vT x))).rows.length = (vT x).length := strR_len _
      have row : ∀ (i : Nat) (rw' : List Dat), (Dat.r (strR (vT x))).rows[i]? = some rw' → ∃ hi : i < (vT x).length, rw' = [.s (nats (vT x)[i])] := fun i rw' hi => by
        have hi : (strR (vT x))[i]? = some rw' := hi
        rw [strR, List.getElem?_map, Option.map_eq_some_iff] at hi
        obtain ⟨y, h1, h2⟩ := hi
        obtain ⟨h3, h4⟩ := List.getElem?_eq_some_iff.1 h1
        exact ⟨h3, by rw [← h2, h4]⟩
      rw [← hlen]
      refine .sl _ _ g 0 cap (fun i _ => if hi : i < (vT x).length then .string (vT x)[i] else undef) (by rw [hlen]; exact hc) (fun i rw' hi => ?_) (fun i rw' hi j hj => ?_) (fun i rw' hi j k u hk hu => ?_)
      · obtain ⟨_, rfl⟩ := row i rw' hi; rfl
      · obtain ⟨h3, rfl⟩ := row i rw' hi
        obtain rfl : j = 0 := by have hj : j < 1 := hj; omega
        refine ⟨cur, ?_, ?_⟩
        · show (if g < w.heap.size then M g else memOf w' g) = some cur
          rw [if_neg (by omega)]
          exact memOf_at hh
        · rw [dif_pos h3]
          have hu : ((vT x).map Value.string)[i]? = some (.string (vT x)[i]) := by simp [h3]
          rw [← hcur, List.getElem?_take, if_pos (by omega)] at hu
          have e : (lay 9).length = 1 := rfl
          rw [e]
          simpa using hu
      · obtain ⟨h3, rfl⟩ := row i rw' hi
        rw [dif_pos h3]
        match j, hk, hu with
        | 0, hk, hu => cases hk; cases hu; exact okn _
        | j + 1, hk, hu => simp at hu
theorem preT_at (x : Tr) : preT x = x :: (x.l.map preT).flatten := preT_eq x
theorem pre_kid {x y z : Tr} (hy : y ∈ x.l) (hz : z ∈ preT y) : z ∈ preT x := by
  rw [preT_at]
  exact List.mem_cons_of_mem _ (List.mem_flatten.2 ⟨preT y, List.mem_map.2 ⟨y, hy, rfl⟩, hz⟩)
/-- The names of a part are the tree's. -/
theorem vT_kid {x y : Tr} (hf : fitsB x = true) (hy : y ∈ x.l) {s : ByteArray} (h : s ∈ vT y) : s ∈ vT x := by
  unfold vT at h ⊢
  rw [if_pos hf]
  rw [if_pos (fits_kid hy hf)] at h
  rw [vfold_mem] at h ⊢
  rcases h with h | ⟨z, h1, h2⟩
  · cases h
  · exact .inr ⟨z, pre_kid hy h1, h2⟩
theorem vT_und {x : Tr} {s : ByteArray} (h : s ∈ vT x) : nats s ≠ [95] := by
  unfold vT at h
  split at h
  · rw [vfold_mem] at h
    rcases h with h | ⟨z, h1, h2, h3, rfl⟩
    · cases h
    · intro q
      have : undB z.s = true := by
        rw [und_iff]
        exact nats_inj (q.trans rfl)
      rw [this] at h3
      cases h3
  · cases h
theorem hasB_mem {l : List ByteArray} {s : ByteArray} : hasB l s = true ↔ s ∈ l := by
  unfold hasB
  rw [List.any_eq_true]
  constructor
  · rintro ⟨u, hu, h⟩; rw [← bs_eq h]; exact hu
  · exact fun h => ⟨s, h, by simp⟩
theorem vfold_once : ∀ (l : List Tr) (o : List ByteArray), o.Nodup → (vfold l o).Nodup
  | [], o, h => h
  | z :: r, o, h => by
    rw [vfold]
    refine vfold_once r _ ?_
    split
    · rename_i hc
      simp only [Bool.and_eq_true, Bool.not_eq_true'] at hc
      rw [List.nodup_append]
      refine ⟨h, by simp, fun a ha b hb => ?_⟩
      simp only [List.mem_cons, List.not_mem_nil, or_false] at hb
      subst hb
      rintro rfl
      have := hasB_mem.2 ha
      rw [hc.2.2] at this
      cases this
    · exact h
theorem vT_once (x : Tr) : (vT x).Nodup := by
  unfold vT
  split
  · exact vfold_once _ _ List.nodup_nil
  · exact List.nodup_nil
theorem vT_big {x : Tr} (h : fitsB x = false) : vT x = [] := by unfold vT; rw [if_neg (by rw [h]; simp)]
theorem vT_len (x : Tr) : (vT x).length ≤ 4096 := by
  unfold vT
  split
  · rename_i hf
    have := vfold_len (preT x) []
    have := fits_pre hf
    simp at *
    omega
  · simp
end Go.Proofs.YtdjafnjmkkagjaaGreatDoor.Oa.V1
