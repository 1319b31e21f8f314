/-
  A drawn region whose loads may be taken first because every operation that writes their cells waits for them; the contract of slices.Clone over data. Generic, but for the layings. No condition.
-/
import Derived.Test.YtgjfdbbghefdbaaGreatDoorFc1
import Derived.Test.YtgjfdbbghefdbaaGreatDoorShelfC
import Derived.OrdersHeld
import Derived.Deep.RegionHeld
import Derived.Lib.Hide
import Derived.WalkKit
import Derived.WalkSpells
import Derived.WalkLawsBesides
import Derived.WalkSmall
import Derived.BigQuiet
namespace Go.Proofs.YtgjfdbbghefdbaaGreatDoor.Lt
open Go.RowKit
section
variable {P : Program} {ops : Array Oper} {Q : Exit → Act → World → Prop} {md : Region.Mode} {S : World → Prop} {late : Nat → Bool}
/-- No late operation has come up. -/
def NoL (late : Nat → Bool) (listed : Array Bool) : Prop := ∀ l, late l = true → listed.getD l false = false
theorem NoL.set {listed : Array Bool} {j : Nat} (h : NoL late listed) (hj : late j = false) : NoL late (listed.setIfInBounds j true) := fun l hl => by
  have hne : j ≠ l := fun e => by rw [e, hl] at hj; cases hj
  rw [Array.getD_eq_getD_getElem?, Array.getElem?_setIfInBounds_ne hne, ← Array.getD_eq_getD_getElem?]
  exact h l hl
/-- Whatever order is picked, and S holds behind every operation that is carried out while no late one has come up. -/
def wpAnyL (P : Program) (md : Region.Mode) (ops : Array Oper) (Q : Exit → Act → World → Prop) (S : World → Prop) (late : Nat → Bool) : Nat → Array Bool → Act → World → Prop
  | 0, listed, a, w => Region.ready md ops listed = [] ∧ Q .normal a w
  | fuel + 1, listed, a, w =>
    (Region.ready md ops listed = [] → Q .normal a w) ∧
    ∀ i ∈ Region.ready md ops listed, wpOp P ops Q i (fun a' w' => (NoL late (listed.setIfInBounds i true) → S w') ∧ wpAnyL P md ops Q S late fuel (listed.setIfInBounds i true) a' w') a w
theorem any_of_late : ∀ (fuel : Nat) (listed : Array Bool) (a : Act) (w : World), wpAnyL P md ops Q S late fuel listed a w → wpAny P md ops Q fuel listed a w
  | 0, _, _, _, h => h
  | fuel + 1, _, _, _, h => ⟨h.1, fun i hi => wpOp_mono (fun a' w' h' => any_of_late fuel _ a' w' h'.2) (h.2 i hi)⟩
theorem anyL_first {i : Nat} {oi : Oper} {v : Value} (hi : ops[i]? = some oi) (hsel : ∀ (j : Nat) (o : Oper) cs b, ops[j]? = some o → o.op ≠ .select cs b)
    (hQ : ∀ c a w, Q (.panic c) (a.put oi.dst v) w → Q (.panic c) a w) (hli : late i = false) (hlate : ∀ (l : Nat) (ol : Oper), late l = true → ops[l]? = some ol → ∃ e ∈ ol.after, Region.binds md e = true ∧ e.on = i) :
    ∀ (fuel : Nat) (listed : Array Bool) (a : Act) (w : World),
      (∀ j oj, ops[j]? = some oj → j ≠ i → listed.getD j true = false → (∀ e ∈ oj.after, Region.binds md e = true → e.on ≠ i) → oi.apart ops oj = true) →
      i ∈ Region.ready md ops listed → YieldsIf P ops S oi v a → S w → NoL late listed →
      wpAnyL P md ops Q S late fuel (listed.setIfInBounds i true) (a.put oi.dst v) w → wpAnyL P md ops Q S late (fuel + 1) listed a w := by
  intro fuel
  induction fuel with
  | zero =>
    intro listed a w _ hr hy hS _ H
    refine ⟨fun h => (by rw [h] at hr; cases hr), fun j hj => ?_⟩
    by_cases hji : j = i
    · subst hji; exact hy.wpOp hi hS ⟨fun _ => hS, H⟩
    · have := ready_mono hj hji
      rw [H.1] at this
      cases this
  | succ fuel ih =>
    intro listed a w hfree hr hy hS hN H
    refine ⟨fun h => (by rw [h] at hr; cases hr), fun j hj => ?_⟩
    by_cases hji : j = i
    · subst hji; exact hy.wpOp hi hS ⟨fun _ => hS, H⟩
    · have h1 := H.2 j (ready_mono hj hji)
      obtain ⟨hjun, oj, hoj, hall⟩ := mem_ready.1 hj
      have hnot : ∀ e ∈ oj.after, Region.binds md e = true → e.on ≠ i := fun e he hb heq => by
        have q1 := hall e he hb
        have q0 := (mem_ready.1 hr).1
        rw [heq] at q1
        rcases Nat.lt_or_ge i listed.size with h' | h'
        · simp [h'] at q0 q1; rw [q0] at q1; cases q1
        · simp [Array.getElem?_eq_none h'] at q1
      have hlj : late j = false := by
        cases hl : late j with
        | false => rfl
        | true =>
          obtain ⟨e, e1, e2, e3⟩ := hlate j oj hl hoj
          exact absurd e3 (hnot e e1 e2)
      have h2 := wpOp_putIf hoj (hfree j oj hoj hji hjun hnot) (fun cs b => hsel i oi cs b hi) (fun cs b => hsel j oj cs b hoj) hQ hy h1
      have hfree' : ∀ k ok, ops[k]? = some ok → k ≠ i → (listed.setIfInBounds j true).getD k true = false →
          (∀ e ∈ ok.after, Region.binds md e = true → e.on ≠ i) → oi.apart ops ok = true := fun k ok hk hki hun hno => by
        refine hfree k ok hk hki ?_ hno
        by_cases hjk : j = k
        · subst hjk; exact hjun
        · rw [getD_set_ne true hjk] at hun; exact hun
      refine wpOp_mono (fun a' w' h3 => ?_) h2
      obtain ⟨h4, h5, h6⟩ := h3
      have hS' : S w' := h5 ((hN.set hli).set hlj)
      refine ⟨fun _ => hS', ih (listed.setIfInBounds j true) a' w' hfree' (ready_mono hr (Ne.symm hji)) h4 hS' (hN.set hlj) ?_⟩
      rw [Array.setIfInBounds_comm _ _ hji]
      exact h6
/-- An operation that yields the same in whatever world may be taken first. -/
theorem anyL_firstP {i : Nat} {oi : Oper} {v : Value} (hi : ops[i]? = some oi) (hsel : ∀ (j : Nat) (o : Oper) cs b, ops[j]? = some o → o.op ≠ .select cs b)
    (hQ : ∀ c a w, Q (.panic c) (a.put oi.dst v) w → Q (.panic c) a w) (hli : late i = false) :
    ∀ (fuel : Nat) (listed : Array Bool) (a : Act) (w : World),
      (∀ j oj, ops[j]? = some oj → j ≠ i → listed.getD j true = false → (∀ e ∈ oj.after, Region.binds md e = true → e.on ≠ i) → oi.apart ops oj = true) →
      i ∈ Region.ready md ops listed → YieldsIf P ops (fun _ => True) oi v a → (NoL late listed → S w) →
      wpAnyL P md ops Q S late fuel (listed.setIfInBounds i true) (a.put oi.dst v) w → wpAnyL P md ops Q S late (fuel + 1) listed a w := by
  intro fuel
  have unset : ∀ {listed : Array Bool}, NoL late (listed.setIfInBounds i true) → NoL late listed := fun {listed} h l hl => by
    have hne : i ≠ l := fun e => by rw [e, hl] at hli; cases hli
    have := h l hl
    rwa [Array.getD_eq_getD_getElem?, Array.getElem?_setIfInBounds_ne hne, ← Array.getD_eq_getD_getElem?] at this
  induction fuel with
  | zero =>
    intro listed a w _ hr hy hS H
    refine ⟨fun h => (by rw [h] at hr; cases hr), fun j hj => ?_⟩
    by_cases hji : j = i
    · subst hji; exact hy.wpOp hi trivial ⟨fun h => hS (unset h), H⟩
    · have := ready_mono hj hji
      rw [H.1] at this
      cases this
  | succ fuel ih =>
    intro listed a w hfree hr hy hS H
    refine ⟨fun h => (by rw [h] at hr; cases hr), fun j hj => ?_⟩
    by_cases hji : j = i
    · subst hji; exact hy.wpOp hi trivial ⟨fun h => hS (unset h), H⟩
    · have h1 := H.2 j (ready_mono hj hji)
      obtain ⟨hjun, oj, hoj, hall⟩ := mem_ready.1 hj
      have hnot : ∀ e ∈ oj.after, Region.binds md e = true → e.on ≠ i := fun e he hb heq => by
        have q1 := hall e he hb
        have q0 := (mem_ready.1 hr).1
        rw [heq] at q1
        rcases Nat.lt_or_ge i listed.size with h' | h'
        · simp [h'] at q0 q1; rw [q0] at q1; cases q1
        · simp [Array.getElem?_eq_none h'] at q1
      have h2 := wpOp_putIf hoj (hfree j oj hoj hji hjun hnot) (fun cs b => hsel i oi cs b hi) (fun cs b => hsel j oj cs b hoj) hQ hy h1
      have hfree' : ∀ k ok, ops[k]? = some ok → k ≠ i → (listed.setIfInBounds j true).getD k true = false →
          (∀ e ∈ ok.after, Region.binds md e = true → e.on ≠ i) → oi.apart ops ok = true := fun k ok hk hki hun hno => by
        refine hfree k ok hk hki ?_ hno
        by_cases hjk : j = k
        · subst hjk; exact hjun
        · rw [getD_set_ne true hjk] at hun; exact hun
      refine wpOp_mono (fun a' w' h3 => ?_) h2
      obtain ⟨h4, h5, h6⟩ := h3
      have hS' : NoL late (listed.setIfInBounds j true) → S w' := fun h => h5 (by rw [Array.setIfInBounds_comm _ _ (Ne.symm hji)]; exact h.set hli)
      refine ⟨hS', ih (listed.setIfInBounds j true) a' w' hfree' (ready_mono hr (Ne.symm hji)) h4 hS' ?_⟩
      rw [Array.setIfInBounds_comm _ _ hji]
      exact h6
/-- What a list of late operations is, and that each waits for number i. -/
def lateB (L : List Nat) (l : Nat) : Bool := L.any (Nat.beq l)
def waitsB (md : Region.Mode) (ops : Array Oper) (L : List Nat) (i : Nat) : Bool := L.all fun l => match ops[l]? with
  | some ol => ol.after.any fun e => Region.binds md e && Nat.beq e.on i
  | none => true
def noB (L : List Nat) (listed : Array Bool) : Bool := L.all fun l => !listed.getD l false
theorem noB_spec {L : List Nat} {listed : Array Bool} (h : noB L listed = true) : NoL (lateB L) listed := fun l hl => by
  obtain ⟨x, x1, x2⟩ := List.any_eq_true.1 hl
  obtain rfl := Nat.eq_of_beq_eq_true x2
  simpa using List.all_eq_true.1 h l x1
theorem waits_spec {L : List Nat} {i : Nat} (h : waitsB md ops L i = true) : ∀ (l : Nat) (ol : Oper), lateB L l = true → ops[l]? = some ol → ∃ e ∈ ol.after, Region.binds md e = true ∧ e.on = i := fun l ol hl ho => by
  obtain ⟨x, x1, x2⟩ := List.any_eq_true.1 hl
  obtain rfl := Nat.eq_of_beq_eq_true x2
  have := List.all_eq_true.1 h l x1
  rw [ho] at this
  obtain ⟨e, e1, e2⟩ := Array.any_eq_true'.1 this
  rw [Bool.and_eq_true] at e2
  exact ⟨e, e1, e2.1, Nat.eq_of_beq_eq_true e2.2⟩
theorem anyL_take {L : List Nat} {i : Nat} {oi : Oper} {v : Value} {fuel : Nat} {listed : Array Bool} {a : Act} {w : World} (hi : ops[i]? = some oi)
    (hs : Region.noSelect ops = true) (hf : Region.free md ops listed i = true) (hr : (Region.ready md ops listed).contains i = true)
    (hQ : ∀ c a w, Q (.panic c) (a.put oi.dst v) w → Q (.panic c) a w) (hli : lateB L i = false) (hw : waitsB md ops L i = true) (hN : noB L listed = true) (hy : YieldsIf P ops S oi v a) (hS : S w)
    (h : wpAnyL P md ops Q S (lateB L) fuel (listed.setIfInBounds i true) (a.put oi.dst v) w) : wpAnyL P md ops Q S (lateB L) (fuel + 1) listed a w :=
  anyL_first hi (Region.noSelect_spec hs) hQ hli (waits_spec hw) fuel listed a w (Region.free_spec hi hf) (by simpa using hr) hy hS (noB_spec hN) h
theorem anyL_addr {L : List Nat} {i : Nat} {oi : Oper} {v : Value} {fuel : Nat} {listed : Array Bool} {a : Act} {w : World} (hi : ops[i]? = some oi)
    (hs : Region.noSelect ops = true) (hf : Region.free md ops listed i = true) (hr : (Region.ready md ops listed).contains i = true)
    (hQ : ∀ c a w, Q (.panic c) (a.put oi.dst v) w → Q (.panic c) a w) (hli : lateB L i = false) (hy : YieldsIf P ops (fun _ => True) oi v a) (hS : S w)
    (h : wpAnyL P md ops Q S (lateB L) fuel (listed.setIfInBounds i true) (a.put oi.dst v) w) : wpAnyL P md ops Q S (lateB L) (fuel + 1) listed a w :=
  anyL_firstP hi (Region.noSelect_spec hs) hQ hli fuel listed a w (Region.free_spec hi hf) (by simpa using hr) hy (fun _ => hS) h
/-- The one operation that may come up now. -/
theorem anyL_one {L : List Nat} {i : Nat} {o : Oper} {fuel : Nat} {listed : Array Bool} {a : Act} {w : World} (hr : Region.ready md ops listed = [i]) (ho : ops[i]? = some o)
    (h : ∀ K' : Act → World → Prop, Shut (∀ a w, (NoL (lateB L) (listed.setIfInBounds i true) → S w) → ((NoL (lateB L) (listed.setIfInBounds i true) → S w) → wpAnyL P md ops Q S (lateB L) fuel (listed.setIfInBounds i true) a w) → K' a w) → if Region.wanted o (yielded ops a.tmps) = true then Oper.wp P o a w K' Q else K' (a.put o.dst undef) w) :
    wpAnyL P md ops Q S (lateB L) (fuel + 1) listed a w :=
  ⟨fun h0 => (by rw [hr] at h0; cases h0), fun j hj => by
    rw [hr] at hj
    obtain rfl := List.mem_singleton.1 hj
    exact wpOp_step ho (fun K' hK => h K' (fun a w hS hW => hK a w ⟨hS, hW hS⟩))⟩
/-- Two operations may come next: either may. -/
theorem anyL_two {L : List Nat} {i i2 : Nat} {o o2 : Oper} {fuel : Nat} {listed : Array Bool} {a : Act} {w : World} (hr : Region.ready md ops listed = [i, i2]) (ho : ops[i]? = some o) (ho2 : ops[i2]? = some o2)
    (h : ∀ K' : Act → World → Prop, Shut (∀ a w, (NoL (lateB L) (listed.setIfInBounds i true) → S w) → ((NoL (lateB L) (listed.setIfInBounds i true) → S w) → wpAnyL P md ops Q S (lateB L) fuel (listed.setIfInBounds i true) a w) → K' a w) → if Region.wanted o (yielded ops a.tmps) = true then Oper.wp P o a w K' Q else K' (a.put o.dst undef) w)
    (g : ∀ K' : Act → World → Prop, Shut (∀ a w, (NoL (lateB L) (listed.setIfInBounds i2 true) → S w) → ((NoL (lateB L) (listed.setIfInBounds i2 true) → S w) → wpAnyL P md ops Q S (lateB L) fuel (listed.setIfInBounds i2 true) a w) → K' a w) → if Region.wanted o2 (yielded ops a.tmps) = true then Oper.wp P o2 a w K' Q else K' (a.put o2.dst undef) w) :
    wpAnyL P md ops Q S (lateB L) (fuel + 1) listed a w :=
  ⟨fun h0 => (by rw [hr] at h0; cases h0), fun j hj => by
    rw [hr] at hj
    rcases List.mem_cons.1 hj with rfl | hj
    · exact wpOp_step ho (fun K' hK => h K' (fun a w hS hW => hK a w ⟨hS, hW hS⟩))
    · obtain rfl := List.mem_singleton.1 hj
      exact wpOp_step ho2 (fun K' hK => g K' (fun a w hS hW => hK a w ⟨hS, hW hS⟩))⟩
theorem anyL_done {listed : Array Bool} {a : Act} {w : World} (hr : Region.ready md ops listed = []) (h : Q .normal a w) : ∀ fuel, wpAnyL P md ops Q S late fuel listed a w
  | 0 => ⟨hr, h⟩
  | _ + 1 => ⟨fun _ => h, by rw [hr]; simp⟩
theorem region_late {id : Nat} {a : Act} {w : World} (L : List Nat) (S : World → Prop) (hm : P.follows .mixedOrders = true) (hS : S w.drew)
    (h : S w.drew → wpAnyL P .any ops Q S (lateB L) ops.size (Array.replicate ops.size false) a w.drew) : (Code.region id ops true).wp P Q a w :=
  wp_region_any hm (any_of_late _ _ _ _ (h hS))
end
end Go.Proofs.YtgjfdbbghefdbaaGreatDoor.Lt
