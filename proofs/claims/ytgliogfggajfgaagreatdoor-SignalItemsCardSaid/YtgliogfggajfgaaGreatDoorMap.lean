/-
  Maps with int keys as sorted association lists, over the kit's 'World.ownsMap'; what a map operation's run gives. Generic: names no function of the program. No condition.
-/
import Derived.Test.YtgliogfggajfgaaGreatDoorRows
import Derived.WalkKit
import Derived.Maps.OwnSet
import Derived.Maps.RangeWalk
namespace Go.Proofs.YtgliogfggajfgaaGreatDoor
open Go.RowKit Go.Maps

/-- Any value reads as itself. -/
def anyR (v : Value) : Option (DataW Value × List MemPlace) := some (.held v, [])

/-- A bound that is great enough for every size here. -/
def BN : Nat := 1099511627776

def encE (p : Int × Value) : Lit × DataW Value := (.int .i64 p.1, .held p.2)
def encL (l : List (Int × Value)) : DataW Value := .map (l.map encE)

def Srt {α : Type} (l : List (Int × α)) : Prop := l.Pairwise fun p q => p.1 < q.1
def KWf {α : Type} (l : List (Int × α)) : Prop := ∀ p ∈ l, (Lit.int .i64 p.1).wf = true

def ins {α : Type} (x : Int) (v : α) : List (Int × α) → List (Int × α)
  | [] => [(x, v)]
  | (y, u) :: r => if x < y then (x, v) :: (y, u) :: r else if x = y then (x, v) :: r else (y, u) :: ins x v r
def del {α : Type} (x : Int) (l : List (Int × α)) : List (Int × α) := l.filter fun p => p.1 != x
def look {α : Type} (x : Int) (l : List (Int × α)) : Option α := (l.find? fun p => p.1 == x).map (·.2)

theorem notKey_enc (x : Int) (p : Int × Value) : ChangeMaps.notKey (.int .i64 x) (encE p) = (p.1 != x) := by
  simp [ChangeMaps.notKey, encE, Lit.sameKey, bne, BEq.beq]

theorem filter_enc (x : Int) (l : List (Int × Value)) : (l.map encE).filter (ChangeMaps.notKey (.int .i64 x)) = (del x l).map encE := by
  unfold del
  rw [List.filter_map]
  congr 1
  exact List.filter_congr fun p _ => notKey_enc x p

theorem mem_ins {α : Type} {x : Int} {v : α} {l : List (Int × α)} {p : Int × α} (h : p ∈ ins x v l) : p = (x, v) ∨ p ∈ l := by
  induction l with
  | nil => simpa [ins] using h
  | cons q r ih =>
    obtain ⟨y, u⟩ := q
    unfold ins at h
    split at h
    · simpa using h
    · split at h
      · rcases List.mem_cons.1 h with h | h
        · exact .inl h
        · exact .inr (List.mem_cons_of_mem _ h)
      · rcases List.mem_cons.1 h with h | h
        · exact .inr (by simp [h])
        · rcases ih h with h | h
          · exact .inl h
          · exact .inr (List.mem_cons_of_mem _ h)

theorem insert_enc (x : Int) (v : Value) : ∀ (l : List (Int × Value)), Srt l → DataW.insert (encE (x, v)) ((del x l).map encE) = (ins x v l).map encE
  | [], _ => rfl
  | (y, u) :: r, h => by
    have hr : Srt r := (List.pairwise_cons.1 h).2
    have hy := (List.pairwise_cons.1 h).1
    unfold ins
    by_cases h1 : x < y
    · rw [if_pos h1]
      have e : del x ((y, u) :: r) = (y, u) :: r := by
        unfold del
        rw [List.filter_eq_self]
        intro p hp
        rcases List.mem_cons.1 hp with rfl | hp
        · simp; omega
        · have := hy p hp; simp at this ⊢; omega
      rw [e]
      simp [DataW.insert, encE, Lit.before, h1]
    · rw [if_neg h1]
      by_cases h2 : x = y
      · rw [if_pos h2]
        subst h2
        have e : del x ((x, u) :: r) = r := by
          unfold del
          simp only [List.filter_cons, bne_self_eq_false, Bool.false_eq_true, if_false]
          rw [List.filter_eq_self]
          intro p hp
          have := hy p hp; simp at this ⊢; omega
        rw [e]
        cases r with
        | nil => rfl
        | cons q r =>
          have := hy q (by simp)
          simp at this
          simp [DataW.insert, encE, Lit.before, this]
      · rw [if_neg h2]
        have e : del x ((y, u) :: r) = (y, u) :: del x r := by
          unfold del
          simp only [List.filter_cons]
          rw [if_pos (by simp; omega)]
        rw [e]
        have ih := insert_enc x v r hr
        simp only [List.map_cons]
        rw [DataW.insert]
        rw [if_neg (by simp [encE, Lit.before]; omega), ih]

theorem put_enc {l : List (Int × Value)} (h : Srt l) (x : Int) (v : Value) : (encL l).put (.int .i64 x) (.held v) = encL (ins x v l) := by
  unfold encL
  rw [DataW.put_eq, ChangeMaps.putKey, filter_enc]
  exact congrArg _ (insert_enc x v l h)
theorem del_enc (l : List (Int × Value)) (x : Int) : (encL l).del (.int .i64 x) = encL (del x l) := by
  unfold encL
  rw [DataW.del_eq, ChangeMaps.delKey, filter_enc]

theorem find_enc (x : Int) (l : List (Int × Value)) : (l.map encE).find? (fun p => p.1.sameKey (.int .i64 x)) = (l.find? fun p => p.1 == x).map encE := by
  rw [List.find?_map]
  congr 1
  congr 1
  funext p
  simp [encE, Lit.sameKey, BEq.beq]

theorem at_enc (x : Int) (l : List (Int × Value)) (z : Value) : (encL l).atKey (.int .i64 x) (.held z) = .held ((look x l).getD z) := by
  unfold encL look
  simp only [DataW.atKey, find_enc]
  cases l.find? (fun p => p.1 == x) with
  | none => rfl
  | some p => rfl
theorem has_enc (x : Int) (l : List (Int × Value)) : Maps.has (encL l) (.int .i64 x) = (look x l).isSome := by
  unfold encL look
  rw [Maps.has_eq, ← List.isSome_find?, find_enc]
  cases l.find? (fun p => p.1 == x) <;> rfl

theorem srt_ins {α : Type} {x : Int} {v : α} : ∀ {l : List (Int × α)}, Srt l → Srt (ins x v l)
  | [], _ => List.pairwise_singleton _ _
  | (y, u) :: r, h => by
    have hr : Srt r := (List.pairwise_cons.1 h).2
    have hy := (List.pairwise_cons.1 h).1
    unfold ins
    split
    · refine List.pairwise_cons.2 ⟨fun p hp => ?_, h⟩
      rcases List.mem_cons.1 hp with rfl | hp
      · assumption
      · have := hy p hp; simp at this ⊢; omega
    · split
      · rename_i h2
        subst h2
        exact List.pairwise_cons.2 ⟨hy, hr⟩
      · refine List.pairwise_cons.2 ⟨fun p hp => ?_, srt_ins hr⟩
        rcases mem_ins hp with rfl | hp
        · simp; omega
        · exact hy p hp
theorem srt_del {α : Type} {x : Int} {l : List (Int × α)} (h : Srt l) : Srt (del x l) := List.Pairwise.filter _ h
theorem kwf_ins {α : Type} {x : Int} {v : α} {l : List (Int × α)} (h : KWf l) (hx : (Lit.int .i64 x).wf = true) : KWf (ins x v l) := fun p hp => by
  rcases mem_ins hp with rfl | hp
  · exact hx
  · exact h p hp
theorem kwf_del {α : Type} {x : Int} {l : List (Int × α)} (h : KWf l) : KWf (del x l) := fun p hp => h p (List.mem_filter.1 hp).1

theorem mem_ins_ne {α : Type} {x : Int} {v : α} : ∀ {l : List (Int × α)} {p : Int × α}, Srt l → p ∈ ins x v l → p = (x, v) ∨ (p ∈ l ∧ p.1 ≠ x)
  | [], p, _, h => .inl (by simpa [ins] using h)
  | (y, u) :: r, p, hs, h => by
    have hr : Srt r := (List.pairwise_cons.1 hs).2
    have hy := (List.pairwise_cons.1 hs).1
    unfold ins at h
    split at h
    · rename_i h1
      rcases List.mem_cons.1 h with h | h
      · exact .inl h
      · refine .inr ⟨h, ?_⟩
        rcases List.mem_cons.1 h with rfl | h
        · simp only; omega
        · have := hy p h; simp only at this; omega
    · split at h
      · rename_i h1 h2
        rcases List.mem_cons.1 h with h | h
        · exact .inl h
        · refine .inr ⟨List.mem_cons_of_mem _ h, ?_⟩
          have := hy p h; simp only at this; omega
      · rename_i h1 h2
        rcases List.mem_cons.1 h with rfl | h
        · exact .inr ⟨by simp, by simp only; omega⟩
        · rcases mem_ins_ne hr h with h | h
          · exact .inl h
          · exact .inr ⟨List.mem_cons_of_mem _ h.1, h.2⟩
theorem ins_map {α β : Type} (f : α → β) (x : Int) (v : α) : ∀ l : List (Int × α), (ins x v l).map (fun p => (p.1, f p.2)) = ins x (f v) (l.map fun p => (p.1, f p.2))
  | [] => rfl
  | (y, u) :: r => by
    simp only [ins, List.map_cons]
    split
    · rfl
    · split
      · rfl
      · simp only [List.map_cons, ins_map f x v r]
theorem look_map {α β : Type} (f : α → β) (x : Int) (l : List (Int × α)) : look x (l.map fun p => (p.1, f p.2)) = (look x l).map f := by
  unfold look
  rw [List.find?_map]
  show Option.map _ (Option.map _ (l.find? fun p => p.1 == x)) = _
  cases l.find? (fun p => p.1 == x) <;> rfl
theorem ins_same {α : Type} {x : Int} {v : α} : ∀ {l : List (Int × α)}, Srt l → look x l = some v → ins x v l = l
  | [], _, h => by simp [look] at h
  | (y, u) :: r, hs, h => by
    have hr : Srt r := (List.pairwise_cons.1 hs).2
    have hy := (List.pairwise_cons.1 hs).1
    unfold ins
    by_cases h2 : x = y
    · subst h2
      simp only [look, List.find?_cons, beq_self_eq_true, Option.map_some, Option.some.injEq] at h
      rw [if_neg (by omega), if_pos rfl, h]
    · have h3 : look x r = some v := by
        simp only [look, List.find?_cons] at h ⊢
        rw [show ((y == x) = false) from by simp; omega] at h
        exact h
      have h4 : y < x := by
        simp only [look, Option.map_eq_some_iff] at h3
        obtain ⟨q, hq, _⟩ := h3
        have h5 := hy q (List.mem_of_find?_eq_some hq)
        have h6 := List.find?_some hq
        simp at h6 h5
        omega
      rw [if_neg (by omega), if_neg h2, ins_same hr h3]
theorem look_mem {α : Type} {x : Int} {v : α} {l : List (Int × α)} (h : look x l = some v) : (x, v) ∈ l := by
  simp only [look, Option.map_eq_some_iff] at h
  obtain ⟨q, hq, rfl⟩ := h
  have h6 := List.find?_some hq
  simp at h6
  subst h6
  exact List.mem_of_find?_eq_some hq
theorem srt_of_map {α β : Type} {f : α → β} {l : List (Int × α)} (h : Srt (l.map fun p => (p.1, f p.2))) : Srt l := by
  simpa [Srt, List.pairwise_map] using h

/-- Block b is a map with int keys that holds just l (keys rising), of at most N entries. -/
structure IMap (k : TypeId) (w : World) (b N : Nat) (l : List (Int × Value)) : Prop where
  srt : Srt l
  kwf : KWf l
  own : w.ownsMap Tryz.prog k anyR b N (encL l)

section
variable {k : TypeId} {w w' : World} {b N : Nat} {l : List (Int × Value)}
theorem IMap.same (h : IMap k w b N l) (hb : w'.heap[b]? = w.heap[b]?) : IMap k w' b N l := by
  obtain ⟨es, clock, hb0, r⟩ := h.own
  exact ⟨h.srt, h.kwf, es, clock, hb.trans hb0, r⟩
theorem IMap.lt (h : IMap k w b N l) : b < w.heap.size := h.own.lt
theorem IMap.mono (h : IMap k w b N l) {N' : Nat} (hn : N ≤ N') : IMap k w b N' l := ⟨h.srt, h.kwf, h.own.mono hn⟩
theorem IMap.length_le (h : IMap k w b N l) : l.length ≤ N := by
  have := h.own.size_le
  simpa [encL, Maps.size] using this
theorem IMap.made (w : World) (k : TypeId) : IMap k (w.alloc (.map #[] 0)) w.heap.size 0 [] :=
  ⟨List.Pairwise.nil, fun _ h => (by simp at h), World.ownsMap_made w _ _ _⟩

theorem IMap.look (h : IMap k w b N l) (hk : Tryz.prog.underlying k = some (.int .i64)) {t e : TypeId} (ht : Tryz.prog.underlying t = some (.map k e)) {z : Value} (hz : (zeroValue e).run Tryz.prog w = .ok z w) {x : Int} (hx : (Lit.int .i64 x).wf = true) :
    (Instr.lookup t (.map (some b)) (.int .i64 x) false).run Tryz.prog w = .ok ((look x l).getD z) w := by
  obtain ⟨v, ps, hrun, hv⟩ := h.own.lookup (int_keyed hk) ht hz (show anyR z = some (.held z, []) from rfl) (keyOf_int_mk hk hx)
  rw [at_enc] at hv
  simp [anyR] at hv
  rw [hrun, hv.1]
theorem IMap.look_ok (h : IMap k w b N l) (hk : Tryz.prog.underlying k = some (.int .i64)) {t e : TypeId} (ht : Tryz.prog.underlying t = some (.map k e)) {z : Value} (hz : (zeroValue e).run Tryz.prog w = .ok z w) {x : Int} (hx : (Lit.int .i64 x).wf = true) :
    (Instr.lookup t (.map (some b)) (.int .i64 x) true).run Tryz.prog w = .ok (.tuple #[(YtgliogfggajfgaaGreatDoor.look x l).getD z, .bool (YtgliogfggajfgaaGreatDoor.look x l).isSome]) w := by
  obtain ⟨v, ps, hrun, hv⟩ := h.own.look_ok (int_keyed hk) ht hz (show anyR z = some (.held z, []) from rfl) (keyOf_int_mk hk hx)
  rw [at_enc] at hv
  simp [anyR] at hv
  rw [hrun, hv.1, has_enc]
theorem IMap.store (h : IMap k w b N l) (hk : Tryz.prog.underlying k = some (.int .i64)) {t e : TypeId} (ht : Tryz.prog.underlying t = some (.map k e)) (hN : N < maxLen) {x : Int} (hx : (Lit.int .i64 x).wf = true) (v : Value) :
    ∃ w', (Instr.mapUpdate t (.map (some b)) (.int .i64 x) v).run Tryz.prog w = .ok () w' ∧ IMap k w' b (N + 1) (ins x v l) ∧ w.mapTurned w' b := by
  obtain ⟨w', hrun, ho, ht⟩ := h.own.store (int_keyed hk) ht hN (keyOf_int_mk hk hx) (show anyR v = some (.held v, []) from rfl)
  exact ⟨w', hrun, ⟨srt_ins h.srt, kwf_ins h.kwf hx, by rw [← put_enc h.srt]; exact ho⟩, ht⟩
theorem IMap.drop (h : IMap k w b N l) (hk : Tryz.prog.underlying k = some (.int .i64)) {t e : TypeId} (ht : Tryz.prog.underlying t = some (.map k e)) {x : Int} (hx : (Lit.int .i64 x).wf = true) (ty : TypeId) :
    ∃ w', (Builtin.delete_ #[t, k] ty #[.map (some b), .int .i64 x]).run Tryz.prog w = .ok (.tuple #[]) w' ∧ IMap k w' b N (del x l) ∧ w.mapTurned w' b := by
  obtain ⟨w', hrun, ho, ht⟩ := h.own.drop (int_keyed hk) ht (keyOf_int_mk hk hx) ty
  exact ⟨w', hrun, ⟨srt_del h.srt, kwf_del h.kwf, by rw [← del_enc]; exact ho⟩, ht⟩
theorem IMap.len (h : IMap k w b N l) {t e : TypeId} (ht : Tryz.prog.underlying t = some (.map k e)) (ty : TypeId) : (Builtin.len_ #[t] ty #[.map (some b)]).run Tryz.prog w = .ok (.int .i64 l.length) w := by
  have := h.own.len ht ty
  simpa [encL, Maps.size] using this
end

/-! plain facts on ins, del, look -/
theorem look_ins_same {α : Type} {x : Int} {v : α} : ∀ {l : List (Int × α)}, look x (ins x v l) = some v
  | [] => by simp [ins, look]
  | (y, u) :: r => by
    unfold ins
    split
    · simp [look]
    · split
      · simp [look]
      · rename_i h1 h2
        have := look_ins_same (x := x) (v := v) (l := r)
        simp only [look, List.find?_cons] at this ⊢
        rw [show ((y == x) = false) from by simp; omega]
        exact this
theorem look_ins_other {α : Type} {x y : Int} {v : α} (h : y ≠ x) : ∀ {l : List (Int × α)}, look y (ins x v l) = look y l
  | [] => by simp [ins, look]; omega
  | (z, u) :: r => by
    unfold ins
    split
    · simp only [look, List.find?_cons]
      rw [show ((x == y) = false) from by simp; omega]
    · split
      · rename_i h1 h2
        subst h2
        simp only [look, List.find?_cons]
        rw [show ((x == y) = false) from by simp; omega]
      · have := look_ins_other (v := v) h (l := r)
        simp only [look, List.find?_cons] at this ⊢
        cases hz : (z == y)
        · exact this
        · rfl
theorem look_del_same {α : Type} {x : Int} {l : List (Int × α)} : look x (del x l) = none := by
  simp [look, del, List.find?_filter]
theorem look_del_other {α : Type} {x y : Int} (h : y ≠ x) {l : List (Int × α)} : look y (del x l) = look y l := by
  unfold look del
  rw [List.find?_filter]
  congr 2
  funext p
  cases hp : (p.1 == y)
  · simp
  · simp at hp; simp [hp, h]
end Go.Proofs.YtgliogfggajfgaaGreatDoor
