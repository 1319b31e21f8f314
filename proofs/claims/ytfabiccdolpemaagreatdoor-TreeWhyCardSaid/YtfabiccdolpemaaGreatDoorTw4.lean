/-
  strconv.Itoa as the law wants it; the law on refusals as errors at a world. Condition: the variables that are read are laid.
-/
import Derived.Test.YtfabiccdolpemaaGreatDoorTw3
import Derived.Test.YtfabiccdolpemaaGreatDoorShelfB
import Derived.Lib.ItoaLen
namespace Go.Proofs.YtfabiccdolpemaaGreatDoor.Tw
open Go.RowKit Sx
theorem below_gr (w : World) (q : Nat) (os : Array Obj) : Below w.heap.size w (Sort.grow (w.drewN q) os) :=
  ⟨rfl, rfl, rfl, by show w.heap.size ≤ (w.heap ++ os).size; rw [Array.size_append]; omega, fun i hi => by
    show (w.heap ++ os)[i]? = _
    rw [Array.getElem?_append_left hi]⟩
theorem bytes_of (l : List UInt8) : bytesOf (l.map (·.toNat)) = ⟨l.toArray⟩ := by
  unfold bytesOf
  rw [List.map_map]
  congr 2
  conv => rhs; rw [← List.map_id l]
  exact List.map_congr_left fun x _ => by simp
theorem okS_of : ∀ l : List UInt8, okS (l.map (·.toNat)) = true
  | [] => rfl
  | x :: r => by
    have h : Nat.blt x.toNat 256 = true := by
      rw [Nat.blt_eq]; exact x.toNat_lt
    show cond (Nat.blt x.toNat 256) (okS (r.map (·.toNat))) false = true
    rw [h]; exact okS_of r
theorem gPow : Tryz.prog.globalNamed "internal/strconv.uint64pow10" = some 4 := by kernel_rfl
theorem arr_of_told {c : Array Value} {l : List Value} (h : (∀ (j : Nat) (v : Value), l[j]? = some v → c[j]? = some v) ∧ c.size = l.length) : c = l.toArray := by
  apply Array.toList_inj.1
  apply List.ext_getElem?
  intro j
  by_cases hj : j < l.length
  · have e : l[j]? = some l[j] := List.getElem?_eq_getElem hj
    have := h.1 j _ e
    rw [Array.getElem?_toList, this, e]
  · rw [List.getElem?_eq_none (by rw [Array.length_toList, h.2]; omega), List.getElem?_eq_none (by simpa using hj)]
theorem itoaOk : ItoaOk := fun n h0 h1 => ⟨(Lib.itoa n).map (·.toNat), PureC.of (fun vs w => enter_of' Tryz.func138 (by kernel_rfl) (by kernel_rfl) vs w) (fun w M vs hM hT hv => by
    obtain ⟨v1, r1, hv1, hz1, hv2⟩ := hv
    obtain rfl : v1 = .int .i64 n := hz1
    subst hv2
    obtain rfl : vs = #[.int .i64 n] := Array.toList_inj.1 hv1
    have htab : Lib.TabIs Tryz.prog w "internal/strconv.uint64pow10" .u64 Lib.pow10Tab := by
      obtain ⟨c, c1, c2⟩ := hT (4, Lib.pow10Tab.map fun z => Value.int .u64 z) (.tail _ (.tail _ (.tail _ (.tail _ (.head _)))))
      obtain ⟨ty, fz, c3⟩ := hM _ _ c1
      unfold Lib.TabIs World.var?
      rw [gPow]
      show (match w.heap[4]? with | some (.cells cs _ _) => some cs | _ => none) = _
      rw [c3, arr_of_told c2]
    refine (show Calls Tryz.prog 138 _ _ _ from Any.strconv_Itoa Tryz.laysM171 n h0 h1 w htab).mono ?_
    rintro e w' ⟨rfl, k, os, rfl⟩
    exact ⟨_, rfl, ⟨by rw [bytes_of], okS_of _⟩, below_gr _ _ _⟩), by
  rw [List.length_map]; exact Lib.itoa_length_le n h0 h1⟩
/-- What a world must hold. -/
def LaidAt (w : World) : Prop := ToldM rho.tl (memOf w)
theorem treeWhy_any {m t n : Int} {w : World} (h : LaidAt w) (hm : -9223372036854775808 ≤ m ∧ m ≤ 9223372036854775807) (ht : -9223372036854775808 ≤ t ∧ t ≤ 9223372036854775807) :
    Calls Tryz.prog 3 #[.agg #[.int .i64 m, .int .i64 t], .int .i64 n] w fun e w' => e = .returned (.bool true) ∧ Below w.heap.size w w' := by
  refine ((why_pu itoaOk m t n hm ht).2 w (memOf w) #[_, _] (memOf_ok w) h ⟨_, _, rfl, ⟨_, rfl, _, _, rfl, rfl, _, _, rfl, rfl, rfl⟩, _, _, rfl, rfl, rfl⟩).mono ?_
  rintro e w' ⟨v, M', rfl, _, _, _, hv, hb⟩
  obtain rfl : v = .bool true := hv
  exact ⟨rfl, hb⟩
end Go.Proofs.YtfabiccdolpemaaGreatDoor.Tw
