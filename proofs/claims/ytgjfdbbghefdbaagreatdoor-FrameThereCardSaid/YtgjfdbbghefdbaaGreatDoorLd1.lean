/-
  What a row lays of plain tables (numbers, truths, texts, rows of these) is what their blocks hold; a table told as a type's handle likewise. Of no program. No condition.
-/
import Derived.LaidHandle
import Derived.LaidMore
import Derived.OpenShut
import Derived.FnData
import Derived.MakeChecks
namespace Go.Proofs.YtgjfdbbghefdbaaGreatDoor.Ld
open Go.ChangeShapes Go.WideShapes Go.RowKit
/-- The cells that a plain table has. -/
def flat {H : Type} (P : Program) : Nat → TypeId → DataW H → Option (List Value)
  | 0, _, _ => none
  | f + 1, t, d => match P.underlying t, d with
    | some .bool, .lit (.bool b) => some [.bool b]
    | some (.int _), .lit (.int k n) => some [.int k n]
    | some .string, .lit (.string l) => some [.string ⟨l.toArray⟩]
    | some (.array n e), .agg ds => (ds.mapM (flat P f e)).bind fun ls => cond (ls.all (fun l => l.length == P.cellsOf e) && (P.cellsOf t == n * P.cellsOf e)) (some ls.flatten) none
    | _, _ => none
theorem chunks {c : Nat} : ∀ (ls : List (List Value)) (cs : List Value), (∀ l ∈ ls, l.length = c) → cs.length = ls.length * c → (∀ i l, ls[i]? = some l → (cs.drop (i * c)).take c = l) → cs = ls.flatten
  | [], cs, _, h, _ => by
    have : cs.length = 0 := by simpa using h
    simpa using List.length_eq_zero_iff.1 this
  | l :: ls, cs, h0, h1, h2 => by
    have e0 := h2 0 l rfl
    simp only [Nat.zero_mul, List.drop_zero] at e0
    have hl : (l :: ls).length * c = c + ls.length * c := by rw [List.length_cons, Nat.add_mul, Nat.one_mul, Nat.add_comm]
    have e1 := chunks ls (cs.drop c) (fun x hx => h0 x (List.mem_cons_of_mem _ hx)) (by rw [List.length_drop, h1, hl]; omega) fun i x hx => by
      have := h2 (i + 1) x hx
      rw [List.drop_drop]
      rw [show c + i * c = (i + 1) * c by rw [Nat.add_mul, Nat.one_mul, Nat.add_comm]]
      exact this
    rw [List.flatten_cons, ← e1, ← e0, List.take_append_drop]
theorem mapM_all {α β : Type} {f : α → Option β} : ∀ {l : List α} {r : List β}, l.mapM f = some r → l.length = r.length ∧ ∀ (i : Nat) (a : α) (b : β), l[i]? = some a → r[i]? = some b → f a = some b
  | [], r, h => by
    simp at h
    subst h
    exact ⟨rfl, fun i a b ha => by simp at ha⟩
  | x :: l, r, h => by
    simp only [List.mapM_cons, Option.bind_eq_bind, Option.bind_eq_some_iff, Option.pure_def, Option.some.injEq] at h
    obtain ⟨b, hb, r', hr', rfl⟩ := h
    obtain ⟨h1, h2⟩ := mapM_all hr'
    refine ⟨by rw [List.length_cons, List.length_cons, h1], fun i a c ha hc => ?_⟩
    cases i with
    | zero =>
      simp only [List.getElem?_cons_zero, Option.some.injEq] at ha hc
      subst ha hc
      exact hb
    | succ i => exact h2 i a c (by simpa using ha) (by simpa using hc)
/-- A plain table that reads as told has just the cells that it should. -/
theorem flat_cells {H : Type} {enc : TypeId × Value → H} {P : Program} {w : World} {base : Nat} {sp : Nat → Bool} {held : Bool} : ∀ (f : Nat) {fuel : Nat} {t : TypeId} {d : DataW H} {cs vals : List Value} {p : List MemPlace},
    DataW.trod enc P w base sp held fuel t cs = some (d, p) → flat P f t d = some vals → cs = vals
  | 0, _, _, _, _, _, _, _, h => by cases h
  | f + 1, 0, _, _, _, _, _, h, _ => by simp [DataW.trod] at h
  | f + 1, fuel + 1, t, d, cs, vals, p, h, hf => by
    unfold flat at hf
    split at hf
    · rename_i b ht
      cases hf
      unfold DataW.trod at h
      rw [ht] at h
      split at h <;> simp_all
    · rename_i k' k n ht
      cases hf
      unfold DataW.trod at h
      rw [ht] at h
      split at h <;> simp_all
    · rename_i l ht
      cases hf
      unfold DataW.trod at h
      rw [ht] at h
      split at h <;> simp_all
      obtain ⟨_, h, _⟩ := h
      subst h
      rfl
    · rename_i n e ds ht
      obtain ⟨ls, hm, hc⟩ := Option.bind_eq_some_iff.1 hf
      have hall : (ls.all (fun l => l.length == P.cellsOf e) && (P.cellsOf t == n * P.cellsOf e)) = true := by
        cases hb : (ls.all (fun l => l.length == P.cellsOf e) && (P.cellsOf t == n * P.cellsOf e)) with
        | true => rfl
        | false => rw [hb] at hc; cases hc
      rw [hall] at hc
      cases hc
      rw [Bool.and_eq_true] at hall
      obtain ⟨xs, m, hfu, hx, hlen, hn, hel⟩ := DataW.trod_array ht h
      cases hfu
      have hds : ds = xs.map (·.1) := by
        have := congrArg Prod.fst hx
        simpa using this
      obtain ⟨l1, l2⟩ := mapM_all hm
      have hcell : P.cellsOf t = n * P.cellsOf e := by simpa using hall.2
      have hl : ∀ l ∈ ls, l.length = P.cellsOf e := fun l hl => by simpa using List.all_eq_true.1 hall.1 l hl
      have hnl : n = ls.length := by rw [← l1, hds, List.length_map, hn]
      refine chunks ls cs hl (by rw [hlen, hcell, hnl]) fun i l hi => ?_
      have hi' : i < ls.length := (List.getElem?_eq_some_iff.1 hi).1
      have hix : i < xs.length := by omega
      have h1 := hel i (by omega)
      rw [List.getElem?_eq_getElem hix] at h1
      exact flat_cells f h1 (l2 i xs[i].1 l (by rw [hds, List.getElem?_map, List.getElem?_eq_getElem hix]; rfl) hi)
    · cases hf
theorem laid_get {P : Program} {w : World} : ∀ {L : List (String × DataW Unit)} {ps : List MemPlace}, DataW.LaidVars P w L ps → ∀ {n : String} {d : DataW Unit}, (n, d) ∈ L →
    ∃ g t cs fuel p, P.globalNamed n = some g ∧ (P.globals[g]?).map (·.type) = some t ∧ w.var? P n = some cs ∧ DataW.trod (fun _ => ()) P w 0 (fun _ => true) false fuel t cs.toList = some (d, p)
  | [], _, _, _, _, h => by cases h
  | (n0, d0) :: r, ps, hl, n, d, hm => by
    obtain ⟨g, t, cs, fuel, p, q, h1, h2, h3, h4, h5, _⟩ := hl
    rcases List.mem_cons.1 hm with e | e
    · cases e; exact ⟨g, t, cs, fuel, p, h1, h2, h3, h4⟩
    · exact laid_get h5 e
theorem var_block {P : Program} {w : World} {n : String} {g : Nat} {cs : Array Value} (hg : P.globalNamed n = some g) (h : w.var? P n = some cs) : ∃ ty fz, w.heap[g]? = some (.cells cs ty fz) := by
  unfold World.var? at h
  rw [hg] at h
  simp only [Option.bind_some] at h
  split at h
  · rename_i c ty fz e; cases h; exact ⟨ty, fz, e⟩
  · cases h
/-- A plain variable's block. -/
theorem laid_block {P : Program} {w : World} {L : List (String × DataW Unit)} (h : laidMet P L w) {n : String} {d : DataW Unit} (hm : (n, d) ∈ L) {g : Nat} {t : TypeId} (hg : P.globalNamed n = some g) (ht : (P.globals[g]?).map (·.type) = some t)
    {vals : List Value} (hf : flat P 9 t d = some vals) : ∃ ty fz, w.heap[g]? = some (.cells vals.toArray ty fz) := by
  obtain ⟨ps, hl, _⟩ := h
  obtain ⟨g1, t1, cs, fuel, p, h1, h2, h3, h4⟩ := laid_get hl hm
  obtain rfl := Option.some.inj (hg.symm.trans h1)
  obtain rfl := Option.some.inj (ht.symm.trans h2)
  have e := flat_cells 9 h4 hf
  rw [← e, Array.toArray_toList]
  exact var_block h1 h3
theorem laid_plainB {P : Program} {w : World} {L : List (String × DataW Unit)} (h : laidMetH P L w) : laidMet P (L.filter fun x => x.2.handleName?.isNone) w := by
  unfold laidMetH at h
  split at h
  · rename_i e
    rw [List.filter_eq_nil_iff] at e
    rw [List.filter_eq_self.2 fun x hx => by
      have := e x hx
      cases hn : x.2.handleName? with
      | none => rfl
      | some s => rw [hn] at this; exact absurd rfl this]
    exact h
  · exact h.1
/-- A variable that holds a type's handle. -/
theorem laid_handle {P : Program} {w : World} {L : List (String × DataW Unit)} (h : laidMetH P L w) {n : String} {d : DataW Unit} (hm : (n, d) ∈ L) {s : List UInt8} (hs : d.handleName? = some s) (hf : d.funcsIn?.isNone = true) {u ty : TypeId}
    (hu : (P.cutTypes.find? (·.1 == "internal/reflectlite.rtype")).map (·.2) = some u) (ht : ((List.range P.types.size).all fun t => !P.rowNamed t s || t == ty) = true) {g : Nat} (hg : P.globalNamed n = some g) :
    ∃ tt fz, w.heap[g]? = some (.cells #[.iface u (.agg #[typeHandle P ty])] tt fz) := by
  have hmem : (n, d) ∈ L.filter fun x => x.2.handleName?.isSome := List.mem_filter.2 ⟨hm, by rw [hs]; rfl⟩
  unfold laidMetH at h
  split at h
  · rename_i e; rw [e] at hmem; cases hmem
  · rename_i h0 hs0 e
    rw [e] at hmem
    have h1 := h.2 _ hmem
    simp only at h1
    split at h1
    · rename_i d' e2; rw [e2] at hf; cases hf
    · obtain ⟨name, u', ty', a1, a2, a3, a4, a5⟩ := h1
      obtain rfl := Option.some.inj (hs.symm.trans a1)
      obtain rfl := Option.some.inj (hu.symm.trans a2)
      have h2 := List.all_eq_true.1 ht ty' (List.mem_range.2 a3)
      rw [a4] at h2
      have h3 : ty' = ty := by simpa using h2
      subst h3
      exact var_block hg a5
end Go.Proofs.YtgjfdbbghefdbaaGreatDoor.Ld
