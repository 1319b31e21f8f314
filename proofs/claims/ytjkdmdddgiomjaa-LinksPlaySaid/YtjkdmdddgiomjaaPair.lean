/-
  The map of pairs (keys [2]int, values bool), over the kit's 'World.ownsMap'. Generic but for the types' numbers. No condition.
-/
import Derived.Test.YtjkdmdddgiomjaaMap
import Derived.DeepKeys4
namespace Go.Proofs.Ytjkdmdddgiomjaa
open Go.RowKit Go.Maps

theorem ulPair : Try.prog.underlying 60 = some (.array 2 3) := Try.underlying60
theorem pairLaw : Keyed Try.prog 60 := Keyed.of_law (deep_law_laid (by kernel_rfl) (m := 2) (by omega) (of_decide_eq_true (by kernel_rfl)) (by kernel_rfl) (by rw [ulPair]))
theorem cellsPair : Try.prog.cellsOf 60 = 2 := by kernel_rfl
theorem cellsInt : Try.prog.cellsOf 3 = 1 := by kernel_rfl
theorem keyTypePair : Try.prog.keyType 60 = true := by kernel_rfl
theorem typesSize : ∃ n, Try.prog.types.size = n + 1 := ⟨Try.prog.types.size - 1, by have : 0 < Try.prog.types.size := of_decide_eq_true (by kernel_rfl); omega⟩

def kv (a b : Int) : Value := .agg #[.int .i64 a, .int .i64 b]
def kl (a b : Int) : Lit := .string (keyBytes [.int .i64 a, .int .i64 b])
theorem key_kv {a b : Int} (ha : (Lit.int .i64 a).wf = true) (hb : (Lit.int .i64 b).wf = true) : keyOf Try.prog 60 (kv a b) = some (kl a b) := by
  obtain ⟨n, hn⟩ := typesSize
  simp [keyOf, keyTypePair, kv, Value.formed, cellsPair, Value.cells, hn, Program.keyLits, Try.underlying3, cellsInt, ha, hb, List.range, List.range.loop, kl]

/-- Block b is a map of pairs that holds just those of which S says yes. -/
structure PMap (w : World) (b N : Nat) (S : Int → Int → Bool) : Prop where
  own : ∃ D, w.ownsMap Try.prog 60 anyR b N D ∧ ∀ x y, (Lit.int .i64 x).wf = true → (Lit.int .i64 y).wf = true → ∀ z, D.atKey (kl x y) z = if S x y then .held (.bool true) else z

section
variable {w w' : World} {b N : Nat} {S : Int → Int → Bool}
theorem PMap.same (h : PMap w b N S) (hb : w'.heap[b]? = w.heap[b]?) : PMap w' b N S := by
  obtain ⟨D, ⟨es, clock, hb0, r⟩, h2⟩ := h.own
  exact ⟨D, ⟨es, clock, hb.trans hb0, r⟩, h2⟩
theorem PMap.lt (h : PMap w b N S) : b < w.heap.size := h.own.elim fun _ h => h.1.lt
theorem PMap.mono (h : PMap w b N S) {N' : Nat} (hn : N ≤ N') : PMap w b N' S := by
  obtain ⟨D, h1, h2⟩ := h.own
  exact ⟨D, h1.mono hn, h2⟩
theorem PMap.made (w : World) : PMap (w.alloc (.map #[] 0)) w.heap.size 0 (fun _ _ => false) :=
  ⟨_, World.ownsMap_made w _ _ _, fun x y _ _ z => by simp [DataW.atKey]⟩
theorem PMap.ext (h : PMap w b N S) {S' : Int → Int → Bool} (hs : ∀ x y, S' x y = S x y) : PMap w b N S' := by
  have : S' = S := by funext x y; exact hs x y
  exact this ▸ h

theorem PMap.look (h : PMap w b N S) {t : TypeId} (ht : Try.prog.underlying t = some (.map 60 4)) (hz : (zeroValue 4).run Try.prog w = .ok (.bool false) w) {x y : Int} (hx : (Lit.int .i64 x).wf = true) (hy : (Lit.int .i64 y).wf = true) :
    (Instr.lookup t (.map (some b)) (kv x y) false).run Try.prog w = .ok (.bool (S x y)) w := by
  obtain ⟨D, ho, hD⟩ := h.own
  obtain ⟨v, ps, hrun, hv⟩ := ho.lookup pairLaw ht hz (show anyR (.bool false) = some (.held (.bool false), []) from rfl) (key_kv hx hy)
  rw [hD x y hx hy] at hv
  rw [hrun]
  cases hs : S x y <;> rw [hs] at hv <;> simp [anyR] at hv <;> rw [hv.1]
theorem kl_inj {a b x y : Int} (ha : (Lit.int .i64 a).wf = true) (hb : (Lit.int .i64 b).wf = true) (hx : (Lit.int .i64 x).wf = true) (hy : (Lit.int .i64 y).wf = true) (h : kl x y = kl a b) : x = a ∧ y = b := by
  have h1 := key_kv ha hb
  have h2 := key_kv hx hy
  rw [h] at h2
  have := pairLaw.inj h2 h1
  simpa [kv] using this
theorem PMap.store (h : PMap w b N S) {t : TypeId} (ht : Try.prog.underlying t = some (.map 60 4)) (hN : N < maxLen) {x y : Int} (hx : (Lit.int .i64 x).wf = true) (hy : (Lit.int .i64 y).wf = true) :
    ∃ w', (Instr.mapUpdate t (.map (some b)) (kv x y) (.bool true)).run Try.prog w = .ok () w' ∧ PMap w' b (N + 1) (fun u v => (u == x && v == y) || S u v) ∧ w.mapTurned w' b := by
  obtain ⟨D, ho, hD⟩ := h.own
  have hm := ho.isMap
  obtain ⟨w', hrun, ho', ht'⟩ := ho.store pairLaw ht hN (key_kv hx hy) (show anyR (.bool true) = some (.held (.bool true), []) from rfl)
  refine ⟨w', hrun, ⟨_, ho', fun u v hu hv z => ?_⟩, ht'⟩
  by_cases he : kl u v = kl x y
  · obtain ⟨rfl, rfl⟩ := kl_inj hx hy hu hv he
    rw [atKey_put_same hm (pairLaw.key (key_kv hx hy))]
    simp
  · rw [atKey_put_other he, hD u v hu hv]
    have : (u == x && v == y) = false := by
      cases h1 : (u == x && v == y)
      · rfl
      · simp at h1; exact absurd (by rw [h1.1, h1.2]) he
    simp [this]
theorem PMap.drop (h : PMap w b N S) {t : TypeId} (ht : Try.prog.underlying t = some (.map 60 4)) {x y : Int} (hx : (Lit.int .i64 x).wf = true) (hy : (Lit.int .i64 y).wf = true) (ty : TypeId) :
    ∃ w', (Builtin.delete_ #[t, 60] ty #[.map (some b), kv x y]).run Try.prog w = .ok (.tuple #[]) w' ∧ PMap w' b N (fun u v => !(u == x && v == y) && S u v) ∧ w.mapTurned w' b := by
  obtain ⟨D, ho, hD⟩ := h.own
  obtain ⟨w', hrun, ho', ht'⟩ := ho.drop pairLaw ht (key_kv hx hy) ty
  refine ⟨w', hrun, ⟨_, ho', fun u v hu hv z => ?_⟩, ht'⟩
  by_cases he : kl u v = kl x y
  · obtain ⟨rfl, rfl⟩ := kl_inj hx hy hu hv he
    rw [atKey_del_same]
    simp
  · rw [atKey_del_other he, hD u v hu hv]
    have : (u == x && v == y) = false := by
      cases h1 : (u == x && v == y)
      · rfl
      · simp at h1; exact absurd (by rw [h1.1, h1.2]) he
    simp [this]
end
end Go.Proofs.Ytjkdmdddgiomjaa
