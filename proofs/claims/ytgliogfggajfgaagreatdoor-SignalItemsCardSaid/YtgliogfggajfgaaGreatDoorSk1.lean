/-
  maps.Keys, slices.Sorted over it, maps.DeleteFunc of an empty map, as contracts for closed runs. Conditions: as said.
-/
import Derived.Test.YtgliogfggajfgaaGreatDoorKeys
import Derived.Test.YtgliogfggajfgaaGreatDoorOx5
import Derived.Test.YtgliogfggajfgaaGreatDoorChecked
namespace Go.Proofs.YtgliogfggajfgaaGreatDoor
open Go.RowKit Go.Maps
theorem ins_fst {x : Int} {v : Value} : ∀ {l : List (Int × Value)}, x ∉ l.map (·.1) → (ins x v l).map (·.1) = Sx.insI x (l.map (·.1))
  | [], _ => rfl
  | (y, u) :: r, h => by
    unfold ins
    rw [List.map_cons, Sx.insI, Sx.ilt_eq]
    by_cases h1 : x < y
    · rw [if_pos h1, decide_eq_true h1]; rfl
    · have h2 : x ≠ y := fun e => h (by simp [e])
      rw [if_neg h1, if_neg h2, decide_eq_false h1]
      show y :: (ins x v r).map (·.1) = y :: Sx.insI x (r.map (·.1))
      rw [ins_fst fun q => h (by simp [q])]
theorem del_none {x : Int} {l : List (Int × Value)} (h : x ∉ l.map (·.1)) : del x l = l := by
  unfold del
  rw [List.filter_eq_self]
  intro p hp
  simp only [bne_iff_ne, ne_eq]
  intro e
  exact h (List.mem_map.2 ⟨p, hp, e⟩)
def lOf : List (Int × Value) → List (Int × Value)
  | [] => []
  | p :: r => ins p.1 p.2 (lOf r)
theorem lOf_mem : ∀ {P : List (Int × Value)} {p : Int × Value}, p ∈ lOf P → p ∈ P
  | [], _, h => h
  | q :: r, p, h => by
    rcases mem_ins h with rfl | h
    · exact List.mem_cons_self ..
    · exact List.mem_cons_of_mem _ (lOf_mem h)
theorem lOf_not {P : List (Int × Value)} {x : Int} (h : x ∉ P.map (·.1)) : x ∉ (lOf P).map (·.1) := fun q => by
  obtain ⟨p, hp, rfl⟩ := List.mem_map.1 q
  exact h (List.mem_map.2 ⟨p, lOf_mem hp, rfl⟩)
theorem lOf_srt : ∀ P : List (Int × Value), Srt (lOf P)
  | [] => List.Pairwise.nil
  | _ :: r => srt_ins (lOf_srt r)
theorem lOf_keys : ∀ {P : List (Int × Value)}, (P.map (·.1)).Nodup → (lOf P).map (·.1) = Sx.sortI (P.map (·.1))
  | [], _ => rfl
  | p :: r, h => by
    obtain ⟨h1, h2⟩ := List.nodup_cons.1 h
    show (ins p.1 p.2 (lOf r)).map (·.1) = Sx.insI p.1 (Sx.sortI (r.map (·.1)))
    rw [ins_fst (lOf_not h1), lOf_keys h2]
theorem lOf_enc : ∀ {P : List (Int × Value)}, (P.map (·.1)).Nodup → (P.map encE).foldr DataW.insert [] = (lOf P).map encE
  | [], _ => rfl
  | p :: r, h => by
    obtain ⟨h1, h2⟩ := List.nodup_cons.1 h
    rw [List.map_cons, List.foldr_cons, lOf_enc h2]
    have e := insert_enc p.1 p.2 (lOf r) (lOf_srt r)
    rw [del_none (lOf_not h1)] at e
    exact e
theorem wf_of {k : Int} (h : Sx.inR .i64 k = true) : (Lit.int .i64 k).wf = true := by
  cases k with
  | ofNat n =>
    have : n < 9223372036854775808 := Nat.le_of_ble_eq_true h
    simp [Lit.wf, IntKind.min, IntKind.max, IntKind.signed, IntKind.bits]
    omega
  | negSucc n =>
    have : n < 9223372036854775808 := Nat.le_of_ble_eq_true h
    simp [Lit.wf, IntKind.min, IntKind.max, IntKind.signed, IntKind.bits]
    omega
theorem raw_pairs : ∀ {m : List MapEntry} {ks : List Int}, m.map MapEntry.key = ks.map (Value.int .i64) → (∀ k, k ∈ ks → Sx.inR .i64 k = true) →
    ∃ P : List (Int × Value), P.map (·.1) = ks ∧ m.map (WideElems.rg Tryz.prog 3 anyR) = P.map encE ∧ ∀ x, x ∈ m → ∃ y, WideElems.rd Tryz.prog 3 anyR x = some y
  | [], [], _, _ => ⟨[], rfl, rfl, fun x hx => (by cases hx)⟩
  | [], _ :: _, h, _ => by cases h
  | _ :: _, [], h, _ => by cases h
  | x :: m, k :: ks, h, hw => by
    rw [List.map_cons, List.map_cons] at h
    injection h with h1 h2
    obtain ⟨P, p1, p2, p3⟩ := raw_pairs h2 fun q hq => hw q (List.mem_cons_of_mem _ hq)
    have hrd : WideElems.rd Tryz.prog 3 anyR x = some (.int .i64 k, .held x.val) := by
      obtain ⟨key, val, born⟩ := x
      cases h1
      exact WideElems.rd_mk (keyOf_int_mk Tryz.underlying3 (wf_of (hw k (List.mem_cons_self ..)))) (show anyR val = some (.held val, []) from rfl)
    refine ⟨(k, x.val) :: P, by rw [List.map_cons, p1], ?_, fun y hy => ?_⟩
    · rw [List.map_cons, List.map_cons, p2, WideElems.rg_of hrd]; rfl
    · rcases List.mem_cons.1 hy with rfl | hy
      · exact ⟨_, hrd⟩
      · exact p3 y hy
theorem imap_raw {w : World} {b : Nat} {es : Array MapEntry} {clock : Nat} {ks : List Int} (hb : w.heap[b]? = some (.map es clock)) (hk : es.toList.map MapEntry.key = ks.map (Value.int .i64)) (hw : ∀ k, k ∈ ks → Sx.inR .i64 k = true) (hs : MapKept.Stamped es clock) (hl : ks.length < 1000) (hn : ks.Nodup) :
    ∃ l, IMap 3 w b 1000 l ∧ l.map (·.1) = Sx.sortI ks ∧ l.length = ks.length := by
  obtain ⟨P, p1, p2, p3⟩ := raw_pairs hk hw
  have hlen : es.toList.length = ks.length := by have := congrArg List.length hk; simpa using this
  have hnd : (P.map (·.1)).Nodup := by rw [p1]; exact hn
  refine ⟨lOf P, ⟨lOf_srt P, fun p hp => ?_, es, clock, hb, ⟨by rw [← Array.length_toList, hlen]; unfold maxLen; omega, hs, p3⟩, by rw [← Array.length_toList, hlen]; omega, ?_⟩, ?_, ?_⟩
  · have : p.1 ∈ ks := by rw [← p1]; exact List.mem_map.2 ⟨p, lOf_mem hp, rfl⟩
    exact wf_of (hw _ this)
  · unfold encL
    rw [p2, lOf_enc hnd]
  · rw [lOf_keys hnd, p1]
  · have := congrArg List.length (lOf_keys hnd)
    rw [Sx.sortI_len, p1] at this
    simpa using this
theorem sk_B (w : World) (bx b : Nat) (es : Array MapEntry) (clock : Nat) (ks : List Int) (hbx : bx < w.heap.size) (hm : w.cell? ⟨bx, 0, none⟩ = some (.map (some b))) (hb : w.heap[b]? = some (.map es clock)) (hk : es.toList.map MapEntry.key = ks.map (Value.int .i64)) (hw : ∀ k, k ∈ ks → Sx.inR .i64 k = true) (hs : MapKept.Stamped es clock) (hl : ks.length < 1000) (hn : ks.Nodup) :
    Calls Tryz.prog 98 #[.func (.func 119) #[] #[.pointer (some ⟨bx, 0, none⟩)]] w fun e w' => ∃ v, e = .returned v ∧ w'.ownsRow w.heap.size 3 1 v ks.length ((Sx.sortI ks).map (Value.int .i64)) ∧ (v = .slice none 0 0 ↔ ks = []) ∧ Below w.heap.size w w' := by
  obtain ⟨l, hI, e1, e2⟩ := imap_raw hb hk hw hs hl hn
  refine (sortedKeys_B bx b 1000 l w hbx hm hI (by decide)).mono ?_
  rintro e w' ⟨v, rfl, hr, hnil, hbl⟩
  rw [e1, e2] at hr
  refine ⟨v, rfl, hr, hnil.trans ⟨fun h => List.eq_nil_of_length_eq_zero (by rw [← e2, h]; rfl), fun h => List.eq_nil_of_length_eq_zero (by rw [e2, h]; rfl)⟩, hbl⟩
theorem sk_S (w : World) (bx b : Nat) (es : Array MapEntry) (clock : Nat) (ks : List Int) (hbx : bx < w.heap.size) (hm : w.cell? ⟨bx, 0, none⟩ = some (.map (some b))) (hb : w.heap[b]? = some (.map es clock)) (hk : es.toList.map MapEntry.key = ks.map (Value.int .i64)) (hw : ∀ k, k ∈ ks → Sx.inR .i64 k = true) (hs : MapKept.Stamped es clock) (hl : ks.length < 1000) (hn : ks.Nodup) :
    Calls Tryz.prog 98 #[.func (.func 120) #[] #[.pointer (some ⟨bx, 0, none⟩)]] w fun e w' => ∃ v, e = .returned v ∧ w'.ownsRow w.heap.size 3 1 v ks.length ((Sx.sortI ks).map (Value.int .i64)) ∧ (v = .slice none 0 0 ↔ ks = []) ∧ Below w.heap.size w w' := by
  obtain ⟨l, hI, e1, e2⟩ := imap_raw hb hk hw hs hl hn
  refine (sortedKeys_S bx b 1000 l w hbx hm hI (by decide)).mono ?_
  rintro e w' ⟨v, rfl, hr, hnil, hbl⟩
  rw [e1, e2] at hr
  refine ⟨v, rfl, hr, hnil.trans ⟨fun h => List.eq_nil_of_length_eq_zero (by rw [← e2, h]; rfl), fun h => List.eq_nil_of_length_eq_zero (by rw [e2, h]; rfl)⟩, hbl⟩
end Go.Proofs.YtgliogfggajfgaaGreatDoor
