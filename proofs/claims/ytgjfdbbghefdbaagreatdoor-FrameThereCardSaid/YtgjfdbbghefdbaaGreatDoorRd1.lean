/-
  What a law's arguments are, by their types: what can be read of them. Generic. No condition.
-/
import Derived.ChangeArms
import Derived.ProofKit
import Derived.LaidMore
import Derived.OpenShut
import Derived.ChangeSame
import Derived.SizedLaws
import Derived.Lib.SmallJoins
import Derived.Deep.Slices
import Derived.WalkKit
import Derived.Stop.Joined
namespace Go.Proofs.YtgjfdbbghefdbaaGreatDoor.Rdb
open Go.ChangeShapes Go.WideShapes Go.ChangeAt Go.RowKit Go.Joins Go.Deep

/-- A value of a type, as cells, all of whose parts can be read. -/
def Rd (P : Program) (w : World) : Nat → TypeId → List Value → Prop
  | 0, _, _ => False
  | n + 1, T, cs => match P.underlying T with
    | some .bool => ∃ b, cs = [.bool b]
    | some (.int k) => ∃ i, cs = [.int k i] ∧ (Lit.int k i).wf = true
    | some .string => ∃ s : ByteArray, cs = [.string s] ∧ s.size ≤ reachBytes
    | some (.slice E) => ∃ p len cap, cs = [.slice p len cap] ∧ len ≤ cap ∧ len * P.bytesOf E ≤ reachBytes ∧ ∀ i, i < len → 0 < P.cellsOf E → ∃ g o es, p = some ⟨g, o, none⟩ ∧ es.length = P.cellsOf E ∧
        (∀ (j : Nat) (u : Value), es[j]? = some u → w.cell? ⟨g, o + i * P.cellsOf E + j, none⟩ = some u) ∧ Rd P w n E es
    | some (.struct fs) => cs.length = P.cellsOf T ∧ ∀ (i : Nat) (f : Field), fs[i]? = some f → Rd P w n f.type ((cs.drop f.offset).take (P.cellsOf f.type))
    | _ => True

section
variable {P : Program} {w w' : World}
theorem rd_bool {n : Nat} {T : TypeId} {cs : List Value} (h : P.underlying T = some .bool) (hx : Rd P w n T cs) : ∃ b, cs = [.bool b] := by
  cases n with
  | zero => exact hx.elim
  | succ n => unfold Rd at hx; rw [h] at hx; exact hx
theorem rd_int {n : Nat} {T : TypeId} {cs : List Value} {k : IntKind} (h : P.underlying T = some (.int k)) (hx : Rd P w n T cs) : ∃ i, cs = [.int k i] ∧ (Lit.int k i).wf = true := by
  cases n with
  | zero => exact hx.elim
  | succ n => unfold Rd at hx; rw [h] at hx; exact hx
theorem rd_string {n : Nat} {T : TypeId} {cs : List Value} (h : P.underlying T = some .string) (hx : Rd P w n T cs) : ∃ s : ByteArray, cs = [.string s] ∧ s.size ≤ reachBytes := by
  cases n with
  | zero => exact hx.elim
  | succ n => unfold Rd at hx; rw [h] at hx; exact hx
theorem rd_slice {n : Nat} {T E : TypeId} {cs : List Value} (h : P.underlying T = some (.slice E)) (hx : Rd P w n T cs) : ∃ m p len cap, n = m + 1 ∧ cs = [.slice p len cap] ∧ len ≤ cap ∧ len * P.bytesOf E ≤ reachBytes ∧ ∀ i, i < len → 0 < P.cellsOf E → ∃ g o es, p = some ⟨g, o, none⟩ ∧ es.length = P.cellsOf E ∧
    (∀ (j : Nat) (u : Value), es[j]? = some u → w.cell? ⟨g, o + i * P.cellsOf E + j, none⟩ = some u) ∧ Rd P w m E es := by
  cases n with
  | zero => exact hx.elim
  | succ n =>
    unfold Rd at hx
    rw [h] at hx
    obtain ⟨p, len, cap, h1⟩ := hx
    exact ⟨n, p, len, cap, rfl, h1⟩
theorem rd_struct {n : Nat} {T : TypeId} {fs : Array Field} {cs : List Value} (h : P.underlying T = some (.struct fs)) (hx : Rd P w n T cs) : ∃ m, n = m + 1 ∧ cs.length = P.cellsOf T ∧ ∀ (i : Nat) (f : Field), fs[i]? = some f → Rd P w m f.type ((cs.drop f.offset).take (P.cellsOf f.type)) := by
  cases n with
  | zero => exact hx.elim
  | succ n => unfold Rd at hx; rw [h] at hx; exact ⟨n, rfl, hx⟩

theorem cell_lt {g o : Nat} {v : Value} (h : w.cell? ⟨g, o, none⟩ = some v) : g < w.heap.size := by
  unfold World.cell? at h
  split at h
  · rename_i hh; exact (Array.getElem?_eq_some_iff.1 hh).1
  · cases h
theorem Rd.keep (hb : Below w.heap.size w w') : ∀ (n : Nat) (T : TypeId) (cs : List Value), Rd P w n T cs → Rd P w' n T cs
  | 0, _, _, h => h.elim
  | n + 1, T, cs, h => by
    unfold Rd at h ⊢
    split at h
    · exact h
    · exact h
    · exact h
    · obtain ⟨p, len, cap, h1, h2, h3, h4⟩ := h
      refine ⟨p, len, cap, h1, h2, h3, fun i hi hc => ?_⟩
      obtain ⟨g, o, es, e1, e2, e3, e4⟩ := h4 i hi hc
      exact ⟨g, o, es, e1, e2, fun j u hu => (hb.cell (p := ⟨g, _, none⟩) (cell_lt (e3 j u hu))).trans (e3 j u hu), Rd.keep hb n _ _ e4⟩
    · exact ⟨h.1, fun i f hf => Rd.keep hb n _ _ (h.2 i f hf)⟩
    · trivial

theorem addr_add' (b o n : Nat) : (⟨b, o, none⟩ : Addr).add n = ⟨b, o + n, none⟩ := by
  unfold Addr.add
  by_cases h : n = 0
  · subst h; simp
  · rw [if_neg h]
theorem spot_free {a : Addr} {u : Value} (h : w.cell? a = some u) : ∃ g o, a = ⟨g, o, none⟩ := by
  obtain ⟨g, o, s⟩ := a
  cases s with
  | none => exact ⟨g, o, rfl⟩
  | some z =>
    exfalso
    unfold World.cell? at h
    cases hg : w.heap[g]? with
    | none => simp [hg] at h
    | some ob => cases ob <;> simp [hg] at h
theorem weightsAll_in {H : Type} {e : TypeId} : ∀ {l : List (DataW H)} {d : DataW H}, d ∈ l → ∀ n ∈ d.weights P e, n ∈ DataW.weightsAll P e l
  | a :: r, d, hd, n, hn => by
    rw [DataW.weightsAll]
    rcases List.mem_cons.1 hd with rfl | hd
    · exact List.mem_append_left _ hn
    · exact List.mem_append_right _ (weightsAll_in hd n hn)
theorem rd_of_trod {H : Type} {enc : TypeId × Value → H} : ∀ (n : Nat) (T : TypeId) (cs : List Value) (x : DataW H × List MemPlace), DataW.trod enc P w 0 (fun _ => true) true n T cs = some x → (∀ m ∈ x.1.weights P T, m ≤ reachBytes) → Rd P w n T cs
  | 0, T, cs, x, h, _ => by simp [DataW.trod] at h
  | n + 1, T, cs, x, h, hw => by
    unfold Rd
    split
    · rename_i hT
      obtain ⟨b, e, _⟩ := DataW.trod_bool hT h
      exact ⟨b, e⟩
    · rename_i k hT
      obtain ⟨i, e, _, e2⟩ := DataW.trod_int hT h
      exact ⟨i, e, e2⟩
    · rename_i hT
      obtain ⟨s, e, rfl, _⟩ := DataW.trod_string hT h
      refine ⟨s, e, ?_⟩
      have := hw s.data.toList.length (by simp [DataW.weights])
      simpa using this
    · rename_i E hT
      rcases DataW.trod_slice hT h with ⟨rfl, rfl⟩ | ⟨a, len, cap, elems, rest, m, hm, rfl, rfl, _, hl, _, hlen, hel, _, _⟩
      · exact ⟨none, 0, 0, rfl, Nat.le_refl _, by simp, fun i hi => absurd hi (by omega)⟩
      · cases hm
        have hws : (DataW.slice (elems.map (·.1)) (rest.map (·.1))).weights P T = ((elems.map (·.1)).length + (rest.map (·.1)).length) * P.bytesOf E :: (DataW.weightsAll P E (elems.map (·.1)) ++ DataW.weightsAll P E (rest.map (·.1))) := by
          rw [DataW.weights, hT]
        refine ⟨some a, len, cap, rfl, hl, ?_, fun i hi hc => ?_⟩
        · have h1 := hw _ (by rw [hws]; exact List.mem_cons_self)
          rw [List.length_map, List.length_map, Nat.add_mul] at h1
          rw [← hlen]
          omega
        · have h1 := hel i hi
          rw [List.getElem?_eq_getElem (by omega)] at h1
          obtain ⟨cs', hc', ht'⟩ := Option.bind_eq_some_iff.1 h1
          obtain ⟨_, hl', hat⟩ := World.cells?_some hc'
          have hr := rd_of_trod n E cs' _ ht' fun m hm => hw m (by
            rw [hws]
            exact List.mem_cons_of_mem _ (List.mem_append_left _ (weightsAll_in (List.mem_map.2 ⟨_, List.getElem_mem _, rfl⟩) m hm)))
          have h0 := hel 0 (by omega)
          rw [List.getElem?_eq_getElem (by omega)] at h0
          obtain ⟨c0, hc0, _⟩ := Option.bind_eq_some_iff.1 h0
          obtain ⟨_, hl0, hat0⟩ := World.cells?_some hc0
          have hat00 := hat0 0 hc
          rw [List.getElem?_eq_getElem (by omega)] at hat00
          have h00 : ∃ g o, a = ⟨g, o, none⟩ := by
            obtain ⟨g, o, e⟩ := spot_free hat00
            refine ⟨g, o, ?_⟩
            simpa [Addr.add] using e
          obtain ⟨g, o, rfl⟩ := h00
          refine ⟨g, o, cs', rfl, hl', fun j u hu => ?_, hr⟩
          have hj : j < P.cellsOf E := by have := (List.getElem?_eq_some_iff.1 hu).1; omega
          have h3 := hat j hj
          rw [addr_add', addr_add', hu] at h3
          exact h3
    · rename_i fs hT
      obtain ⟨xs, m, hm, rfl, hl, hlen, hfs⟩ := DataW.trod_struct hT h
      cases hm
      refine ⟨hl, fun i f hf => ?_⟩
      have h1 := hfs i f hf
      have hi : i < xs.length := by rw [hlen]; exact (Array.getElem?_eq_some_iff.1 hf).1
      rw [List.getElem?_eq_getElem hi] at h1
      refine rd_of_trod n _ _ _ h1 fun m hm => hw m ?_
      have hws : (DataW.agg (xs.map (·.1))).weights P T = DataW.weightsEach P (fs.toList.map (·.type)) (xs.map (·.1)) := by
        rw [DataW.weights, hT]
      rw [hws]
      exact DataW.weights_mem_each (j := i) (by simp [hf]) (by simp [hi]) m hm
    · trivial
end
end Go.Proofs.YtgjfdbbghefdbaaGreatDoor.Rdb
