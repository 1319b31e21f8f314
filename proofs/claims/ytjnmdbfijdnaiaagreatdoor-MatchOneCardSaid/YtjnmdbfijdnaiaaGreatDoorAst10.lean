/-
  The rules of leaves and of parts: ast.leaves$1 to $4, each, parts$1, $2. Conditions: as said.
-/
import Derived.Test.YtjnmdbfijdnaiaaGreatDoorAst9
namespace Go.Proofs.YtjnmdbfijdnaiaaGreatDoor
open Go.RowKit

set_option maxHeartbeats 2000000 in
set_option maxRecDepth 100000 in
theorem lf1_any {w : World} {g o : Nat} {x : Tr} {p : Option Addr} {c : Nat} (h : NodeAt w g o x (.slice p x.l.length c)) (hw : NodeWf x) :
    Calls Tryz.prog 90 #[.pointer (some ⟨g, o, none⟩)] w fun e w' => e = .returned (.bool (bareB x false true false false && nameA x.s)) ∧ Below w.heap.size w w' := by
  have cO := only_any h false true false false
  have hS := wf_s hw
  have h2 := h.s
  have hlt := h.lt
  clear h hw
  cases hb : bareB x false true false false
  all_goals
    rw [hb] at cO
    clear hb
    go_enter Tryz.func90, Tryz.ntmps90
    go_wp2_with (first
      | (go_at_call 91; refine cO.mono ?_; rintro e w5 ⟨rfl, hb5⟩; have h2 := (hb5.cell (p := ⟨g, o + 2, none⟩) hlt).trans h2)
      | (go_at_call 92; refine (tname_any _ _ hS).mono ?_; rintro e w6 ⟨rfl, hb6⟩))
  · go_ret
    exact ⟨rfl, hb5⟩
  · go_ret
    exact ⟨by simp, hb5.trans (hb6.mono hb5.size)⟩
set_option maxHeartbeats 2000000 in
set_option maxRecDepth 100000 in
theorem lf2_any {w : World} {g o : Nat} {x : Tr} {p : Option Addr} {c : Nat} (h : NodeAt w g o x (.slice p x.l.length c)) :
    Calls Tryz.prog 93 #[.pointer (some ⟨g, o, none⟩)] w fun e w' => e = .returned (.bool (bareB x true false false false && mayI x.n)) ∧ Below w.heap.size w w' := by
  have cO := only_any h true false false false
  have h2 := h.n
  have hlt := h.lt
  clear h
  cases hb : bareB x true false false false
  all_goals
    rw [hb] at cO
    clear hb
    go_enter Tryz.func93, Tryz.ntmps93
    go_wp2_with (first
      | (go_at_call 91; refine cO.mono ?_; rintro e w5 ⟨rfl, hb5⟩; have h2 := (hb5.cell (p := ⟨g, o + 1, none⟩) hlt).trans h2)
      | (go_at_call 71; refine (intsMay_any _ _).mono ?_; rintro e w' ⟨rfl, rfl⟩))
  · go_ret
    exact ⟨rfl, hb5⟩
  · go_ret
    exact ⟨by simp, hb5⟩
set_option maxHeartbeats 2000000 in
set_option maxRecDepth 100000 in
theorem lf3_any {w : World} (hL : Letters w) {g o : Nat} {x : Tr} {p : Option Addr} {c : Nat} (h : NodeAt w g o x (.slice p x.l.length c)) (hw : NodeWf x) :
    Calls Tryz.prog 94 #[.pointer (some ⟨g, o, none⟩)] w fun e w' => e = .returned (.bool (bareB x false true false false && atomN x.s)) ∧ Below w.heap.size w w' := by
  have cO := only_any h false true false false
  have hS := wf_s hw
  have h2 := h.s
  have hlt := h.lt
  clear h hw
  cases hb : bareB x false true false false
  all_goals
    rw [hb] at cO
    clear hb
    go_enter Tryz.func94, Tryz.ntmps94
    go_wp2_with (first
      | (go_at_call 91; refine cO.mono ?_; rintro e w5 ⟨rfl, hb5⟩; have h2 := (hb5.cell (p := ⟨g, o + 2, none⟩) hlt).trans h2)
      | (go_at_call 95; refine (tatom_any (hL.under hb5) _ hS).mono ?_; rintro e w6 ⟨rfl, hb6⟩))
  · go_ret
    exact ⟨rfl, hb5⟩
  · go_ret
    exact ⟨by simp, hb5.trans (hb6.mono hb5.size)⟩
set_option maxHeartbeats 1000000 in
theorem lf4_any {w : World} {g o : Nat} {x : Tr} {p : Option Addr} {c : Nat} (h : NodeAt w g o x (.slice p x.l.length c)) :
    Calls Tryz.prog 96 #[.pointer (some ⟨g, o, none⟩)] w fun e w' => e = .returned (.bool (bareB x false false false false)) ∧ Below w.heap.size w w' := by
  have cO := only_any h false false false false
  clear h
  go_enter Tryz.func96, Tryz.ntmps96
  go_wp2_with (go_at_call 91; refine cO.mono ?_; rintro e w5 ⟨rfl, hb5⟩)
  go_ret
  exact ⟨rfl, hb5⟩

/-- What a rule says of each of some trees. -/
def RuleSays (F : Nat → Prop) (N : FuncId) (P : Tr → Bool) (w : World) (x : Tr) : Prop := ∀ (W : World) (g o : Nat) (sv : Value), Below w.heap.size w W → NodeAt W g o x sv → TrV F W x sv →
  Calls Tryz.prog N #[.pointer (some ⟨g, o, none⟩)] W fun e w' => e = .returned (.bool (P x)) ∧ Below W.heap.size W w'
theorem RuleSays.under {F : Nat → Prop} {N : FuncId} {P : Tr → Bool} {w w' : World} {x : Tr} (h : RuleSays F N P w x) (hb : Below w.heap.size w w') : RuleSays F N P w' x := fun W g o sv hW => h W g o sv (hb.trans (hW.mono hb.size))

set_option maxHeartbeats 2000000 in
set_option maxRecDepth 100000 in
theorem each_any {F : Nat → Prop} {P : Tr → Bool} {l : List Tr} {w : World} {v : Value} (hl : Kids F w v l) (hf : ∀ x ∈ l, RuleSays F 57 P w x) :
    Calls Tryz.prog 98 #[v, .func (Fn.func 57) #[] #[]] w fun e w' => e = .returned (.bool (l.all P)) ∧ Below w.heap.size w w' := by
  obtain ⟨p, c, rfl⟩ := hl.slice
  have hlen : l.length ≤ 2199023255552 := hl.len
  have HF := Lib.hid hf
  have HL := Lib.hid hl
  clear hf hl
  go_enter Tryz.func98, Tryz.ntmps98
  go_wp2
  go_loopw [8] (fun i wr => ∃ k : Nat, k ≤ l.length ∧ i = .int .i64 k ∧ (l.take k).all P = true ∧ Below w.heap.size w wr) (fun i _ => l.length - (intOf i).toNat)
  case atStart => exact ⟨0, Nat.zero_le _, rfl, rfl, Below.refl _ _⟩
  case round =>
    obtain ⟨k, hk, rfl, hall, hbr⟩ := hrel
    by_cases hlt : k < l.length
    · obtain ⟨g, o, kv, rfl, _, hnode, hkid⟩ := (HL.out.under hbr).at hlt
      have cK := HF.out l[k] (List.getElem_mem hlt) wr g (o + k * 5) kv hbr hnode hkid
      cases hq : P l[k]
      · have hfin : l.all P = false := by
          rw [Bool.eq_false_iff]; intro h
          have := List.all_eq_true.1 h _ (List.getElem_mem hlt)
          rw [hq] at this; cases this
        rw [hq] at cK
        have HN := Lib.hid hfin
        clear hfin hall hq hkid
        go_wp2_with (go_at_call 57; refine cK.mono ?_; rintro e w5 ⟨rfl, hb5⟩)
        go_ret
        exact ⟨by rw [HN.out]; rfl, hbr.trans (hb5.mono hbr.size)⟩
      · have hnext : (l.take (k + 1)).all P = true := by
          rw [List.take_succ_eq_append_getElem hlt, List.all_append, hall]; simp [hq]
        rw [hq] at cK
        have HN := Lib.hid hnext
        clear hnext hall hq hkid
        go_wp2_with (go_at_call 57; refine cK.mono ?_; rintro e w5 ⟨rfl, hb5⟩)
        go_roundw
        case rel => exact ⟨k + 1, hlt, by go_num, HN.out, hbr.trans (hb5.mono hbr.size)⟩
        case measure => simp [intOf]; omega
    · rw [List.take_of_length_le (by omega)] at hall
      have HN := Lib.hid hall
      clear hall
      go_wp2
      go_ret
      exact ⟨by rw [HN.out]; rfl, hbr⟩
end Go.Proofs.YtjnmdbfijdnaiaaGreatDoor
