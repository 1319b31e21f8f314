/-
  slices.Clone over data; frame.own: a frame in new memory reads as the frame did. Conditions: as said.
-/
import Derived.Test.YtgjfdbbghefdbaaGreatDoorLt1
namespace Go.Proofs.YtgjfdbbghefdbaaGreatDoor.Lt
open Go.RowKit Sx Dd Fa Fa.C1
set_option maxRecDepth 100000
/-- A row of the call's own, in blocks from lo to hi, whose elements read as data in memory that stays. -/
def OwnSl (w : World) (M : Mem) (lo hi T : Nat) (d : Dat) (v : Value) : Prop :=
  ∃ xs : List Value, w.ownsRow lo T (lay T).length v d.rows.length xs ∧ (∀ g, v.ownBlock = some g → g < hi) ∧ ∀ (i : Nat) (row : List Dat), d.rows[i]? = some row → Dd.Good lay M (lay T) row ((xs.drop (i * (lay T).length)).take (lay T).length)
theorem own_lt {w : World} {lo e size n : Nat} {v : Value} {xs : List Value} (h : w.ownsRow lo e size v n xs) : ∀ g, v.ownBlock = some g → g < w.heap.size := fun g hg => by
  rcases h.2 with ⟨rfl, _⟩ | ⟨g', cap, cur, rfl, _, h2, _⟩
  · cases hg
  · have e : g' = g := by simpa [Value.ownBlock] using hg
    subst e
    exact (Array.getElem?_eq_some_iff.1 h2).1
theorem own_below {w w' : World} {lo e size n : Nat} {v : Value} {xs : List Value} (h : w.ownsRow lo e size v n xs) (hb : Below w.heap.size w w') : w'.ownsRow lo e size v n xs := by
  refine ⟨h.1, ?_⟩
  rcases h.2 with q | ⟨g, cap, cur, q1, q2, q3, q4⟩
  · exact .inl q
  · exact .inr ⟨g, cap, cur, q1, q2, (hb.block g (Array.getElem?_eq_some_iff.1 q3).1).trans q3, q4⟩
theorem OwnSl.below {w w' : World} {M : Mem} {lo hi T : Nat} {d : Dat} {v : Value} (h : OwnSl w M lo hi T d v) (hb : Below w.heap.size w w') : OwnSl w' M lo hi T d v := by
  obtain ⟨xs, h1, h2, h3⟩ := h
  exact ⟨xs, own_below h1 hb, h2, h3⟩
set_option maxHeartbeats 2000000 in
theorem cloneE_zero {P : Program} {ρ : Shelf.Ren} (L : SlLaysE0.n41 P ρ) (i0 : TypeInfo) (z : Value) (size bytes : Nat) (hi : P.info? (ρ.t 23) = some i0) (hz0 : i0.zero = some z) (hz1 : i0.size = size) (hz2 : i0.bytes = bytes) (hzs : z.cells.size = size) (hsz : 0 < size)
    (z23 : ∀ w, (Go.sizeOf (ρ.t 23)).run P w = .ok size w) (x : Addr) (c : Nat) (w : World) :
    Calls P (ρ.f 41) #[.slice (some x) 0 c] w fun e w' => ∃ v', e = .returned v' ∧ w'.ownsRow w.heap.size (ρ.t 23) size v' 0 [] ∧ Below w.heap.size w w' := by
  have mixed := L.mixed; have t4 := L.t4; have a4 := L.a4; have z4 := L.z4; have v4 := L.v4; have t22 := L.t22; have a22 := L.a22; have z22 := L.z22; have v22 := L.v22
  have q22 : ∀ (w : World) (a : Option Addr) (n c n' c' : Nat), (binOp .eql (ρ.t 22) (.slice a n c) (.slice none n' c')).run P w = .ok (.bool a.isNone) w := fun w a n c n' c' => Lib.run_eql_slice_nil w _ _ a n c n' c' L.t22
  have u22 : ∀ w, Sem.run P (underlying (ρ.t 22)) w = .ok (TypeDesc.slice (ρ.t 23)) w := run_underlying t22
  obtain ⟨_, _, FG⟩ := L.f41
  go_enter FG, SlBodyN.n41_ntmps ρ
  go_wp2_with (at_builtin; refine wpList_append_own _ rfl _ _ (ρ.t 22) rfl w.heap.size (ρ.t 23) i0 z size bytes t22 hi hz0 hz1 hz2 hzs hsz _ _ _ rfl (World.ownsRow_made w #[] 0 (Nat.le_refl _) (Nat.zero_le _) (by simp)) x 0 c [] rfl (by simp) (by intro j u hj; simp at hj) (by intro u hu; cases hu) (by unfold maxLen; omega) (by omega) (by simp) ?_)
  intro v' w1 hown hgrow hnil
  go_wp2
  go_ret
  exact ⟨v', rfl, by simpa using hown, ((Below.refl _ w).alloc (Nat.le_refl _) _).grown hgrow (by simp) (by intro k hk; simp [Value.ownBlock] at hk; omega)⟩
theorem dr_one {M : Mem} {k : Kd} {u : Dat} {v : Value} (h : DR lay M k u v) : v.oneCell' = true := by cases h <;> rfl
/-- slices.Clone, whatever the elements. -/
theorem clone_gen {ρ : Shelf.Ren} (L : SlLaysE0.n41 Tryz.prog ρ) {T : Nat} (hT : ρ.t 23 = T) (i0 : TypeInfo) (z : Value) (bytes : Nat) (hi : Tryz.prog.info? T = some i0) (hz0 : i0.zero = some z) (hz1 : i0.size = (lay T).length) (hz2 : i0.bytes = bytes) (hzs : z.cells.size = (lay T).length) (hsz : 0 < (lay T).length)
    (z23 : ∀ w, (Go.sizeOf T).run Tryz.prog w = .ok (lay T).length w) (hb : bytes ≤ 1000000) {M : Mem} {w : World} {d : Dat} {v : Value} (hM : MemOk M w) (hv : DR lay M (.sl T) d v) (hn : d.rows.length ≤ 1200) :
    Calls Tryz.prog (ρ.f 41) #[v] w fun e w' => ∃ v', e = .returned v' ∧ OwnSl w' M w.heap.size w'.heap.size T d v' ∧ Below w.heap.size w w' := by
  subst hT
  cases hv with
  | nil _ _ p c h0 =>
    cases p with
    | none =>
      refine (AnyE.slices_Clone_nil L 0 c w).mono ?_
      rintro e w' ⟨rfl, rfl⟩
      exact ⟨_, rfl, ⟨[], ⟨by simp [h0], .inl ⟨rfl, by simp [h0]⟩⟩, (fun g hg => by cases hg), fun i row hi => by rw [h0] at hi; simp at hi⟩, Below.refl _ _⟩
    | some x =>
      refine (cloneE_zero L i0 z _ bytes hi hz0 hz1 hz2 hzs hsz z23 x c w).mono ?_
      rintro e w' ⟨v', rfl, h1, h2⟩
      exact ⟨v', rfl, ⟨[], by rw [h0]; exact h1, own_lt h1, fun i row hi => by rw [h0] at hi; simp at hi⟩, h2⟩
  | sl _ _ b off c val h1 h2 h3 h4 =>
    generalize hsz' : (lay (ρ.t 23)).length = sz at *
    have hdm : ∀ q, q < d.rows.length * sz → q / sz < d.rows.length ∧ q % sz < sz ∧ q / sz * sz + q % sz = q := fun q hq =>
      ⟨(Nat.div_lt_iff_lt_mul hsz).2 hq, Nat.mod_lt _ hsz, by rw [Nat.mul_comm]; exact Nat.div_add_mod q sz⟩
    have hnews : ∀ q u, ((List.range (d.rows.length * sz)).map fun q => val (q / sz) (q % sz))[q]? = some u → q < d.rows.length * sz ∧ u = val (q / sz) (q % sz) := fun q u hu => by
      rw [List.getElem?_map, Option.map_eq_some_iff] at hu
      obtain ⟨x, e1, e2⟩ := hu
      obtain ⟨e3, e4⟩ := List.getElem?_eq_some_iff.1 e1
      simp at e3 e4
      subst e4
      exact ⟨e3, e2.symm⟩
    have hrow : ∀ i, i < d.rows.length → ∃ row, d.rows[i]? = some row := fun i hi => ⟨_, List.getElem?_eq_getElem hi⟩
    refine (AnyE.slices_Clone L i0 z sz bytes hi hz0 hz1 hz2 hzs hsz z23 b off d.rows.length c ((List.range (d.rows.length * sz)).map fun q => val (q / sz) (q % sz)) w (by simp) (by unfold maxLen; omega) ?_ ?_ ?_).mono ?_
    · have : d.rows.length * bytes ≤ 1200 * 1000000 := Nat.mul_le_mul hn hb
      omega
    · intro q u hu
      obtain ⟨e1, rfl⟩ := hnews q u hu
      obtain ⟨g1, g2, g3⟩ := hdm q e1
      obtain ⟨row, hr⟩ := hrow _ g1
      obtain ⟨cs, m1, m2⟩ := h3 _ row hr _ g2
      obtain ⟨ty, fz, m3⟩ := hM b cs m1
      rw [cell_at m3]
      rw [Nat.add_assoc, g3] at m2
      exact m2
    · intro u hu
      obtain ⟨q, hq, rfl⟩ := List.mem_map.1 hu
      obtain ⟨g1, g2, g3⟩ := hdm q (List.mem_range.1 hq)
      obtain ⟨row, hr⟩ := hrow _ g1
      have hl := h2 _ row hr
      exact dr_one (h4 _ row hr (q % sz) ((lay (ρ.t 23))[q % sz]'(by omega)) (row[q % sz]'(by omega)) (List.getElem?_eq_getElem _) (List.getElem?_eq_getElem _))
    · rintro e w' ⟨v', rfl, q1, _, q2⟩
      refine ⟨v', rfl, ⟨_, by rw [hsz']; exact q1, own_lt q1, fun i row hi => ?_⟩, q2⟩
      have hi' : i < d.rows.length := (List.getElem?_eq_some_iff.1 hi).1
      have hlt : ∀ j, j < sz → i * sz + j < d.rows.length * sz := fun j hj => by
        have : (i + 1) * sz ≤ d.rows.length * sz := Nat.mul_le_mul_right _ hi'
        rw [Nat.add_mul] at this
        omega
      refine ⟨by rw [hsz']; exact h2 i row hi, ?_, fun j k u v e1 e2 e3 => ?_⟩
      · rw [hsz']
        have hz : i * sz + sz ≤ d.rows.length * sz := by
          have : (i + 1) * sz ≤ d.rows.length * sz := Nat.mul_le_mul_right _ hi'
          rw [Nat.add_mul] at this
          omega
        simp
        omega
      · rw [hsz'] at e3
        have hj : j < sz := by rw [← hsz']; exact (List.getElem?_eq_some_iff.1 e1).1
        rw [List.getElem?_take_of_lt hj, List.getElem?_drop] at e3
        obtain ⟨_, rfl⟩ := hnews _ _ e3
        have d1 : (i * sz + j) / sz = i := by rw [Nat.mul_comm, Nat.mul_add_div hsz, Nat.div_eq_of_lt hj]; rfl
        have d2 : (i * sz + j) % sz = j := by rw [Nat.mul_comm, Nat.mul_add_mod, Nat.mod_eq_of_lt hj]
        rw [d1, d2]
        exact h4 i row hi j k u e1 e2
theorem cloneT_any {M : Mem} {w : World} {d : Dat} {v : Value} (hM : MemOk M w) (hv : DR lay M (.sl 26) d v) (hn : d.rows.length ≤ 1200) :
    Calls Tryz.prog 32 #[v] w fun e w' => ∃ v', e = .returned v' ∧ OwnSl w' M w.heap.size w'.heap.size 26 d v' ∧ Below w.heap.size w w' := by
  obtain ⟨i0, e0⟩ : ∃ i0, Tryz.prog.info? 26 = some i0 := Option.isSome_iff_exists.1 (by kernel_rfl)
  have e1 : (Tryz.prog.info? 26).map (fun i => (i.zero, i.size, i.bytes)) = some (some (.agg #[.int .i8 0, .int .i64 0, .string ⟨#[]⟩, .string ⟨#[]⟩, .slice none 0 0]), (lay 26).length, 72) := by kernel_rfl
  rw [e0] at e1
  simp only [Option.map_some, Option.some.injEq, Prod.mk.injEq] at e1
  obtain ⟨e1, e2, e3⟩ := e1
  exact clone_gen Tryz.cloneT rfl i0 _ 72 e0 e1 e2 e3 (by decide) (by decide) Tryz.sizeOf26 (by decide) hM hv hn
theorem cloneB_any {M : Mem} {w : World} {d : Dat} {v : Value} (hM : MemOk M w) (hv : DR lay M (.sl 4) d v) (hn : d.rows.length ≤ 1200) :
    Calls Tryz.prog 33 #[v] w fun e w' => ∃ v', e = .returned v' ∧ OwnSl w' M w.heap.size w'.heap.size 4 d v' ∧ Below w.heap.size w w' := by
  obtain ⟨i0, e0⟩ : ∃ i0, Tryz.prog.info? 4 = some i0 := Option.isSome_iff_exists.1 (by kernel_rfl)
  have e1 : (Tryz.prog.info? 4).map (fun i => (i.zero, i.size, i.bytes)) = some (some (.bool false), (lay 4).length, 1) := by kernel_rfl
  rw [e0] at e1
  simp only [Option.map_some, Option.some.injEq, Prod.mk.injEq] at e1
  obtain ⟨e1, e2, e3⟩ := e1
  exact clone_gen Tryz.cloneB rfl i0 _ 1 e0 e1 e2 e3 (by decide) (by decide) Tryz.sizeOf4 (by decide) hM hv hn
theorem cloneY_any {M : Mem} {w : World} {d : Dat} {v : Value} (hM : MemOk M w) (hv : DR lay M (.sl 63) d v) (hn : d.rows.length ≤ 1200) :
    Calls Tryz.prog 34 #[v] w fun e w' => ∃ v', e = .returned v' ∧ OwnSl w' M w.heap.size w'.heap.size 63 d v' ∧ Below w.heap.size w w' := by
  obtain ⟨i0, e0⟩ : ∃ i0, Tryz.prog.info? 63 = some i0 := Option.isSome_iff_exists.1 (by kernel_rfl)
  have e1 : (Tryz.prog.info? 63).map (fun i => (i.zero, i.size, i.bytes)) = some (some (.agg #[.int .i64 0, .int .i64 0]), (lay 63).length, 16) := by kernel_rfl
  rw [e0] at e1
  simp only [Option.map_some, Option.some.injEq, Prod.mk.injEq] at e1
  obtain ⟨e1, e2, e3⟩ := e1
  exact clone_gen Tryz.cloneY rfl i0 _ 16 e0 e1 e2 e3 (by decide) (by decide) Tryz.sizeOf63 (by decide) hM hv hn
theorem cloneR_any {M : Mem} {w : World} {d : Dat} {v : Value} (hM : MemOk M w) (hv : DR lay M (.sl 89) d v) (hn : d.rows.length ≤ 1200) :
    Calls Tryz.prog 35 #[v] w fun e w' => ∃ v', e = .returned v' ∧ OwnSl w' M w.heap.size w'.heap.size 89 d v' ∧ Below w.heap.size w w' := by
  obtain ⟨i0, e0⟩ : ∃ i0, Tryz.prog.info? 89 = some i0 := Option.isSome_iff_exists.1 (by kernel_rfl)
  have e1 : (Tryz.prog.info? 89).map (fun i => (i.zero, i.size, i.bytes)) = some (some (.agg #[.int .i8 0, .int .i64 0, .string ⟨#[]⟩, .string ⟨#[]⟩, .slice none 0 0, .int .i8 0, .int .i8 0, .int .i64 0, .string ⟨#[]⟩, .string ⟨#[]⟩, .slice none 0 0, .slice none 0 0, .int .i64 0]), (lay 89).length, 176) := by kernel_rfl
  rw [e0] at e1
  simp only [Option.map_some, Option.some.injEq, Prod.mk.injEq] at e1
  obtain ⟨e1, e2, e3⟩ := e1
  exact clone_gen Tryz.cloneR rfl i0 _ 176 e0 e1 e2 e3 (by decide) (by decide) Tryz.sizeOf89 (by decide) hM hv hn
theorem cloneI_any {M : Mem} {w : World} {d : Dat} {v : Value} (hM : MemOk M w) (hv : DR lay M (.sl 3) d v) (hn : d.rows.length ≤ 1200) :
    Calls Tryz.prog 36 #[v] w fun e w' => ∃ v', e = .returned v' ∧ OwnSl w' M w.heap.size w'.heap.size 3 d v' ∧ Below w.heap.size w w' := by
  obtain ⟨i0, e0⟩ : ∃ i0, Tryz.prog.info? 3 = some i0 := Option.isSome_iff_exists.1 (by kernel_rfl)
  have e1 : (Tryz.prog.info? 3).map (fun i => (i.zero, i.size, i.bytes)) = some (some (.int .i64 0), (lay 3).length, 8) := by kernel_rfl
  rw [e0] at e1
  simp only [Option.map_some, Option.some.injEq, Prod.mk.injEq] at e1
  obtain ⟨e1, e2, e3⟩ := e1
  exact clone_gen Tryz.cloneI rfl i0 _ 8 e0 e1 e2 e3 (by decide) (by decide) Tryz.sizeOf3 (by decide) hM hv hn
end Go.Proofs.YtgjfdbbghefdbaaGreatDoor.Lt
