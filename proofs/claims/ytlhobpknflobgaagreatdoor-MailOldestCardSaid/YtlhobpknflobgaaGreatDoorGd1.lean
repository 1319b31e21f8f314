/-
  ast.each over ast.guarded and ast.test; the rules of parts, ast.parts at ast.guarded. Conditions: as said.
-/
import Derived.Test.YtlhobpknflobgaaGreatDoorS10
namespace Go.Proofs.YtlhobpknflobgaaGreatDoor
open Go.RowKit

set_option maxHeartbeats 2000000 in
set_option maxRecDepth 100000 in
theorem eachG_any {F : Nat → Prop} {P : Tr → Bool} {l : List Tr} {w : World} {v : Value} (hl : Kids F w v l) (hf : ∀ x ∈ l, RuleSays F 104 P w x) :
    Calls Tryz.prog 144 #[v, .func (Fn.func 104) #[] #[]] w fun e w' => e = .returned (.bool (l.all P)) ∧ Below w.heap.size w w' := by
  obtain ⟨p, c, rfl⟩ := hl.slice
  have hlen : l.length ≤ 2199023255552 := hl.len
  have HF := Lib.hid hf
  have HL := Lib.hid hl
  clear hf hl
  go_enter Tryz.func144, Tryz.ntmps144
  go_wp2
  go_loopw [8] (fun i wr => ∃ k : Nat, k ≤ l.length ∧ i = .int .i64 k ∧ (l.take k).all P = true ∧ Below w.heap.size w wr) (fun i _ => l.length - (intOf i).toNat)
  case atStart => exact ⟨0, Nat.zero_le _, rfl, rfl, Below.refl _ _⟩
  case round =>
    obtain ⟨k, hk, rfl, hall, hbr⟩ := hrel
    by_cases hlt : k < l.length
    · obtain ⟨g, o, kv, rfl, _, hnode, hkid⟩ := (HL.out.under hbr).at hlt
      have cK := HF.out l[k] (List.getElem_mem hlt) wr g (o + k * 5) kv hbr hnode hkid
      cases hq : P l[k]
      · have hfin : l.all P = false := by
          rw [Bool.eq_false_iff]; intro h
          have := List.all_eq_true.1 h _ (List.getElem_mem hlt)
          rw [hq] at this; cases this
        rw [hq] at cK
        have HN := Lib.hid hfin
        clear hfin hall hq hkid
        go_wp2_with (go_at_call 104; refine cK.mono ?_; rintro e w5 ⟨rfl, hb5⟩)
        go_ret
        exact ⟨by rw [HN.out]; rfl, hbr.trans (hb5.mono hbr.size)⟩
      · have hnext : (l.take (k + 1)).all P = true := by
          rw [List.take_succ_eq_append_getElem hlt, List.all_append, hall]; simp [hq]
        rw [hq] at cK
        have HN := Lib.hid hnext
        clear hnext hall hq hkid
        go_wp2_with (go_at_call 104; refine cK.mono ?_; rintro e w5 ⟨rfl, hb5⟩)
        go_roundw
        case rel => exact ⟨k + 1, hlt, by go_num, HN.out, hbr.trans (hb5.mono hbr.size)⟩
        case measure => simp [intOf]; omega
    · rw [List.take_of_length_le (by omega)] at hall
      have HN := Lib.hid hall
      clear hall
      go_wp2
      go_ret
      exact ⟨by rw [HN.out]; rfl, hbr⟩

set_option maxHeartbeats 2000000 in
set_option maxRecDepth 100000 in
theorem eachT_any {F : Nat → Prop} {P : Tr → Bool} {l : List Tr} {w : World} {v : Value} (hl : Kids F w v l) (hf : ∀ x ∈ l, RuleSays F 96 P w x) :
    Calls Tryz.prog 144 #[v, .func (Fn.func 96) #[] #[]] w fun e w' => e = .returned (.bool (l.all P)) ∧ Below w.heap.size w w' := by
  obtain ⟨p, c, rfl⟩ := hl.slice
  have hlen : l.length ≤ 2199023255552 := hl.len
  have HF := Lib.hid hf
  have HL := Lib.hid hl
  clear hf hl
  go_enter Tryz.func144, Tryz.ntmps144
  go_wp2
  go_loopw [8] (fun i wr => ∃ k : Nat, k ≤ l.length ∧ i = .int .i64 k ∧ (l.take k).all P = true ∧ Below w.heap.size w wr) (fun i _ => l.length - (intOf i).toNat)
  case atStart => exact ⟨0, Nat.zero_le _, rfl, rfl, Below.refl _ _⟩
  case round =>
    obtain ⟨k, hk, rfl, hall, hbr⟩ := hrel
    by_cases hlt : k < l.length
    · obtain ⟨g, o, kv, rfl, _, hnode, hkid⟩ := (HL.out.under hbr).at hlt
      have cK := HF.out l[k] (List.getElem_mem hlt) wr g (o + k * 5) kv hbr hnode hkid
      cases hq : P l[k]
      · have hfin : l.all P = false := by
          rw [Bool.eq_false_iff]; intro h
          have := List.all_eq_true.1 h _ (List.getElem_mem hlt)
          rw [hq] at this; cases this
        rw [hq] at cK
        have HN := Lib.hid hfin
        clear hfin hall hq hkid
        go_wp2_with (go_at_call 96; refine cK.mono ?_; rintro e w5 ⟨rfl, hb5⟩)
        go_ret
        exact ⟨by rw [HN.out]; rfl, hbr.trans (hb5.mono hbr.size)⟩
      · have hnext : (l.take (k + 1)).all P = true := by
          rw [List.take_succ_eq_append_getElem hlt, List.all_append, hall]; simp [hq]
        rw [hq] at cK
        have HN := Lib.hid hnext
        clear hnext hall hq hkid
        go_wp2_with (go_at_call 96; refine cK.mono ?_; rintro e w5 ⟨rfl, hb5⟩)
        go_roundw
        case rel => exact ⟨k + 1, hlt, by go_num, HN.out, hbr.trans (hb5.mono hbr.size)⟩
        case measure => simp [intOf]; omega
    · rw [List.take_of_length_le (by omega)] at hall
      have HN := Lib.hid hall
      clear hall
      go_wp2
      go_ret
      exact ⟨by rw [HN.out]; rfl, hbr⟩

set_option maxHeartbeats 4000000 in
set_option maxRecDepth 100000 in
theorem pt1G_any {F : Nat → Prop} {P : Tr → Bool} {w : World} {g o bm : Nat} {x : Tr} {sv : Value} (h : NodeAt w g o x sv) (hx : TrV F w x sv) (hm : w.cell? ⟨bm, 0, none⟩ = some (.func (Fn.func 104) #[] #[])) (hf : ∀ y ∈ x.l, RuleSays F 104 P w y) :
    Calls Tryz.prog 185 #[.pointer (some ⟨g, o, none⟩), .pointer (some ⟨bm, 0, none⟩)] w fun e w' => e = .returned (.bool (bareB x false false false true && x.l.all P)) ∧ Below w.heap.size w w' := by
  obtain ⟨p, c, rfl⟩ := hx.kids.slice
  have hd : Below w.heap.size w w.drew := below_drewN (Below.refl _ _) 1
  have cO := only_any (h.keep (hd.block g h.lt)) false false false true
  have h4 := h.l
  have hmv : ∀ W : World, Below w.heap.size w W → W.cell? ⟨g, o + 4, none⟩ = some (.slice p x.l.length c) ∧ W.cell? ⟨bm, 0, none⟩ = some (.func (Fn.func 104) #[] #[]) := fun W hb =>
    ⟨(hb.cell (p := ⟨g, o + 4, none⟩) (cell_block h4)).trans h4, (hb.cell (p := ⟨bm, 0, none⟩) (cell_block hm)).trans hm⟩
  have cE := fun (W : World) (hb : Below w.heap.size w W) => eachG_any (P := P) (hx.kids.under hb) fun y hy => (hf y hy).under hb
  have hS0 := hmv w (Below.refl _ _)
  clear h hx hf h4 hm
  cases hb : bareB x false false false true
  · rw [hb] at cO
    clear hb cE
    go_enter Tryz.func185, Tryz.ntmps185
    go_wp2_with fail
    refine wp_region_any (by kernel_rfl) ?_
    change wpAny _ _ _ _ _ _ _ (World.drew _)
    refine wpAny_take (i := 0) (v := ?_) rfl (by kernel_rfl) (by kernel_rfl) (by kernel_rfl) (fun _ _ _ h => h) (Or.inl ⟨by rfl, ?_⟩) ?_
    rotate_left 1
    (intro w; go_simp; try with_reducible rfl)
    (try simp only [List.getElem_toArray, List.getElem_cons_zero, Act.put, List.setIfInBounds_toArray, List.set_cons_zero, List.set_cons_succ])
    refine wpAny_take (i := 1) (v := ?_) rfl (by kernel_rfl) (by kernel_rfl) (by kernel_rfl) (fun _ _ _ h => h) (Or.inl ⟨by rfl, ?_⟩) ?_
    rotate_left 1
    (intro w; go_simp; try with_reducible rfl)
    (try simp only [List.getElem_toArray, List.getElem_cons_succ, List.getElem_cons_zero, Act.put, List.setIfInBounds_toArray, List.set_cons_zero, List.set_cons_succ])
    refine wpAny_ready (rs := [2]) (by kernel_rfl) (by simp) ?_
    refine AllReady.cons rfl (fun K hK => ?_) AllReady.nil
    go_simp
    go_wp2_with (go_at_call 142; refine cO.mono ?_; rintro e w5 ⟨rfl, hb5⟩)
    (try (refine hK _ _ ?_; clear hK K))
    refine wpAny_take (i := 3) (v := ?_) rfl (by kernel_rfl) (by kernel_rfl) (by kernel_rfl) (fun _ _ _ h => h) (Or.inl ⟨by rfl, ?_⟩) ?_
    rotate_left 1
    (intro w; go_simp; try with_reducible rfl)
    (try simp only [List.getElem_toArray, List.getElem_cons_succ, List.getElem_cons_zero, Act.put, List.setIfInBounds_toArray, List.set_cons_zero, List.set_cons_succ])
    refine wpAny_take (i := 4) (v := undef) rfl (by kernel_rfl) (by kernel_rfl) (by kernel_rfl) (fun _ _ _ h => h) (Or.inr ⟨by rfl, rfl⟩) ?_
    (try simp only [List.getElem_toArray, List.getElem_cons_succ, List.getElem_cons_zero, Act.put, List.setIfInBounds_toArray, List.set_cons_zero, List.set_cons_succ])
    refine wpAny_take (i := 5) (v := undef) rfl (by kernel_rfl) (by kernel_rfl) (by kernel_rfl) (fun _ _ _ h => h) (Or.inr ⟨by rfl, rfl⟩) ?_
    (try simp only [List.getElem_toArray, List.getElem_cons_succ, List.getElem_cons_zero, Act.put, List.setIfInBounds_toArray, List.set_cons_zero, List.set_cons_succ])
    refine wpAny_take (i := 6) (v := undef) rfl (by kernel_rfl) (by kernel_rfl) (by kernel_rfl) (fun _ _ _ h => h) (Or.inr ⟨by rfl, rfl⟩) ?_
    (try simp only [List.getElem_toArray, List.getElem_cons_succ, List.getElem_cons_zero, Act.put, List.setIfInBounds_toArray, List.set_cons_zero, List.set_cons_succ])
    refine wpAny_take (i := 7) (v := undef) rfl (by kernel_rfl) (by kernel_rfl) (by kernel_rfl) (fun _ _ _ h => h) (Or.inr ⟨by rfl, rfl⟩) ?_
    (try simp only [List.getElem_toArray, List.getElem_cons_succ, List.getElem_cons_zero, Act.put, List.setIfInBounds_toArray, List.set_cons_zero, List.set_cons_succ])
    refine wpAny_take (i := 8) (v := undef) rfl (by kernel_rfl) (by kernel_rfl) (by kernel_rfl) (fun _ _ _ h => h) (Or.inr ⟨by rfl, rfl⟩) ?_
    (try simp only [List.getElem_toArray, List.getElem_cons_succ, List.getElem_cons_zero, Act.put, List.setIfInBounds_toArray, List.set_cons_zero, List.set_cons_succ])
    refine wpAny_take (i := 9) (v := undef) rfl (by kernel_rfl) (by kernel_rfl) (by kernel_rfl) (fun _ _ _ h => h) (Or.inr ⟨by rfl, rfl⟩) ?_
    (try simp only [List.getElem_toArray, List.getElem_cons_succ, List.getElem_cons_zero, Act.put, List.setIfInBounds_toArray, List.set_cons_zero, List.set_cons_succ])
    refine wpAny_take (i := 10) (v := ?_) rfl (by kernel_rfl) (by kernel_rfl) (by kernel_rfl) (fun _ _ _ h => h) (Or.inl ⟨by rfl, ?_⟩) ?_
    rotate_left 1
    (intro w; go_simp; try with_reducible rfl)
    (try simp only [List.getElem_toArray, List.getElem_cons_succ, List.getElem_cons_zero, Act.put, List.setIfInBounds_toArray, List.set_cons_zero, List.set_cons_succ])
    refine wpAny_take (i := 11) (v := ?_) rfl (by kernel_rfl) (by kernel_rfl) (by kernel_rfl) (fun _ _ _ h => h) (Or.inl ⟨by rfl, ?_⟩) ?_
    rotate_left 1
    (intro w; go_simp; try with_reducible rfl)
    (try simp only [List.getElem_toArray, List.getElem_cons_succ, List.getElem_cons_zero, Act.put, List.setIfInBounds_toArray, List.set_cons_zero, List.set_cons_succ])
    refine wpAny_done (by kernel_rfl) ?_ _
    go_wp2
    go_ret
    exact ⟨rfl, hd.trans (hb5.mono hd.size)⟩
  · rw [hb] at cO
    clear hb
    generalize x.l.all P = q at cE
    go_enter Tryz.func185, Tryz.ntmps185
    go_wp2_with fail
    go_region_held3 (fun W => W.cell? ⟨g, o + 4, none⟩ = some (.slice p x.l.length c) ∧ W.cell? ⟨bm, 0, none⟩ = some (.func (Fn.func 104) #[] #[])) (first | exact hS0 | exact hS1 | exact hS2) (first
      | (go_at_call 142; refine cO.mono ?_; rintro e w5 ⟨rfl, hb5⟩; have hB5 := hd.trans (hb5.mono hd.size); have hS1 := hmv _ hB5)
      | (go_at_call 144; refine (cE _ hB5).mono ?_; rintro e w6 ⟨rfl, hb6⟩; have hB6 := hB5.trans (hb6.mono hB5.size); have hS2 := hmv _ hB6))
    go_wp2
    go_ret
    exact ⟨by simp, hB6⟩

set_option maxHeartbeats 4000000 in
set_option maxRecDepth 100000 in
theorem pt2G_any {F : Nat → Prop} {P : Tr → Bool} {w : World} {g o bm : Nat} {x : Tr} {sv : Value} (h : NodeAt w g o x sv) (hx : TrV F w x sv) (hm : w.cell? ⟨bm, 0, none⟩ = some (.func (Fn.func 104) #[] #[])) (hf : ∀ y ∈ x.l, RuleSays F 104 P w y) :
    Calls Tryz.prog 186 #[.pointer (some ⟨g, o, none⟩), .pointer (some ⟨bm, 0, none⟩)] w fun e w' => e = .returned (.bool (bareB x false false false true && ((x.l.length : Int) == 2 && x.l.all P))) ∧ Below w.heap.size w w' := by
  obtain ⟨p, c, rfl⟩ := hx.kids.slice
  have hd : Below w.heap.size w w.drew := below_drewN (Below.refl _ _) 1
  have cO := only_any (h.keep (hd.block g h.lt)) false false false true
  have h4 := h.l
  have hmv : ∀ W : World, Below w.heap.size w W → W.cell? ⟨g, o + 4, none⟩ = some (.slice p x.l.length c) ∧ W.cell? ⟨bm, 0, none⟩ = some (.func (Fn.func 104) #[] #[]) := fun W hb =>
    ⟨(hb.cell (p := ⟨g, o + 4, none⟩) (cell_block h4)).trans h4, (hb.cell (p := ⟨bm, 0, none⟩) (cell_block hm)).trans hm⟩
  have cE := fun (W : World) (hb : Below w.heap.size w W) => eachG_any (P := P) (hx.kids.under hb) fun y hy => (hf y hy).under hb
  have hS0 := hmv w (Below.refl _ _)
  clear h hx hf h4 hm
  cases hb : bareB x false false false true
  · rw [hb] at cO
    clear hb cE
    go_enter Tryz.func186, Tryz.ntmps186
    go_wp2_with fail
    refine wp_region_any (by kernel_rfl) ?_
    change wpAny _ _ _ _ _ _ _ (World.drew _)
    refine wpAny_take (i := 0) (v := ?_) rfl (by kernel_rfl) (by kernel_rfl) (by kernel_rfl) (fun _ _ _ h => h) (Or.inl ⟨by rfl, ?_⟩) ?_
    rotate_left 1
    (intro w; go_simp; try with_reducible rfl)
    (try simp only [List.getElem_toArray, List.getElem_cons_zero, Act.put, List.setIfInBounds_toArray, List.set_cons_zero, List.set_cons_succ])
    refine wpAny_take (i := 1) (v := ?_) rfl (by kernel_rfl) (by kernel_rfl) (by kernel_rfl) (fun _ _ _ h => h) (Or.inl ⟨by rfl, ?_⟩) ?_
    rotate_left 1
    (intro w; go_simp; try with_reducible rfl)
    (try simp only [List.getElem_toArray, List.getElem_cons_succ, List.getElem_cons_zero, Act.put, List.setIfInBounds_toArray, List.set_cons_zero, List.set_cons_succ])
    refine wpAny_ready (rs := [2]) (by kernel_rfl) (by simp) ?_
    refine AllReady.cons rfl (fun K hK => ?_) AllReady.nil
    go_simp
    go_wp2_with (go_at_call 142; refine cO.mono ?_; rintro e w5 ⟨rfl, hb5⟩)
    (try (refine hK _ _ ?_; clear hK K))
    refine wpAny_take (i := 3) (v := ?_) rfl (by kernel_rfl) (by kernel_rfl) (by kernel_rfl) (fun _ _ _ h => h) (Or.inl ⟨by rfl, ?_⟩) ?_
    rotate_left 1
    (intro w; go_simp; try with_reducible rfl)
    (try simp only [List.getElem_toArray, List.getElem_cons_succ, List.getElem_cons_zero, Act.put, List.setIfInBounds_toArray, List.set_cons_zero, List.set_cons_succ])
    refine wpAny_take (i := 4) (v := undef) rfl (by kernel_rfl) (by kernel_rfl) (by kernel_rfl) (fun _ _ _ h => h) (Or.inr ⟨by rfl, rfl⟩) ?_
    (try simp only [List.getElem_toArray, List.getElem_cons_succ, List.getElem_cons_zero, Act.put, List.setIfInBounds_toArray, List.set_cons_zero, List.set_cons_succ])
    refine wpAny_take (i := 5) (v := undef) rfl (by kernel_rfl) (by kernel_rfl) (by kernel_rfl) (fun _ _ _ h => h) (Or.inr ⟨by rfl, rfl⟩) ?_
    (try simp only [List.getElem_toArray, List.getElem_cons_succ, List.getElem_cons_zero, Act.put, List.setIfInBounds_toArray, List.set_cons_zero, List.set_cons_succ])
    refine wpAny_take (i := 6) (v := undef) rfl (by kernel_rfl) (by kernel_rfl) (by kernel_rfl) (fun _ _ _ h => h) (Or.inr ⟨by rfl, rfl⟩) ?_
    (try simp only [List.getElem_toArray, List.getElem_cons_succ, List.getElem_cons_zero, Act.put, List.setIfInBounds_toArray, List.set_cons_zero, List.set_cons_succ])
    refine wpAny_take (i := 7) (v := undef) rfl (by kernel_rfl) (by kernel_rfl) (by kernel_rfl) (fun _ _ _ h => h) (Or.inr ⟨by rfl, rfl⟩) ?_
    (try simp only [List.getElem_toArray, List.getElem_cons_succ, List.getElem_cons_zero, Act.put, List.setIfInBounds_toArray, List.set_cons_zero, List.set_cons_succ])
    refine wpAny_take (i := 8) (v := undef) rfl (by kernel_rfl) (by kernel_rfl) (by kernel_rfl) (fun _ _ _ h => h) (Or.inr ⟨by rfl, rfl⟩) ?_
    (try simp only [List.getElem_toArray, List.getElem_cons_succ, List.getElem_cons_zero, Act.put, List.setIfInBounds_toArray, List.set_cons_zero, List.set_cons_succ])
    refine wpAny_take (i := 9) (v := undef) rfl (by kernel_rfl) (by kernel_rfl) (by kernel_rfl) (fun _ _ _ h => h) (Or.inr ⟨by rfl, rfl⟩) ?_
    (try simp only [List.getElem_toArray, List.getElem_cons_succ, List.getElem_cons_zero, Act.put, List.setIfInBounds_toArray, List.set_cons_zero, List.set_cons_succ])
    refine wpAny_take (i := 10) (v := ?_) rfl (by kernel_rfl) (by kernel_rfl) (by kernel_rfl) (fun _ _ _ h => h) (Or.inl ⟨by rfl, ?_⟩) ?_
    rotate_left 1
    (intro w; go_simp; try with_reducible rfl)
    (try simp only [List.getElem_toArray, List.getElem_cons_succ, List.getElem_cons_zero, Act.put, List.setIfInBounds_toArray, List.set_cons_zero, List.set_cons_succ])
    refine wpAny_take (i := 11) (v := ?_) rfl (by kernel_rfl) (by kernel_rfl) (by kernel_rfl) (fun _ _ _ h => h) (Or.inl ⟨by rfl, ?_⟩) ?_
    rotate_left 1
    (intro w; go_simp; try with_reducible rfl)
    (try simp only [List.getElem_toArray, List.getElem_cons_succ, List.getElem_cons_zero, Act.put, List.setIfInBounds_toArray, List.set_cons_zero, List.set_cons_succ])
    refine wpAny_take (i := 12) (v := undef) rfl (by kernel_rfl) (by kernel_rfl) (by kernel_rfl) (fun _ _ _ h => h) (Or.inr ⟨by rfl, rfl⟩) ?_
    (try simp only [List.getElem_toArray, List.getElem_cons_succ, List.getElem_cons_zero, Act.put, List.setIfInBounds_toArray, List.set_cons_zero, List.set_cons_succ])
    refine wpAny_take (i := 13) (v := undef) rfl (by kernel_rfl) (by kernel_rfl) (by kernel_rfl) (fun _ _ _ h => h) (Or.inr ⟨by rfl, rfl⟩) ?_
    (try simp only [List.getElem_toArray, List.getElem_cons_succ, List.getElem_cons_zero, Act.put, List.setIfInBounds_toArray, List.set_cons_zero, List.set_cons_succ])
    refine wpAny_take (i := 14) (v := undef) rfl (by kernel_rfl) (by kernel_rfl) (by kernel_rfl) (fun _ _ _ h => h) (Or.inr ⟨by rfl, rfl⟩) ?_
    (try simp only [List.getElem_toArray, List.getElem_cons_succ, List.getElem_cons_zero, Act.put, List.setIfInBounds_toArray, List.set_cons_zero, List.set_cons_succ])
    refine wpAny_take (i := 15) (v := undef) rfl (by kernel_rfl) (by kernel_rfl) (by kernel_rfl) (fun _ _ _ h => h) (Or.inr ⟨by rfl, rfl⟩) ?_
    (try simp only [List.getElem_toArray, List.getElem_cons_succ, List.getElem_cons_zero, Act.put, List.setIfInBounds_toArray, List.set_cons_zero, List.set_cons_succ])
    refine wpAny_take (i := 16) (v := undef) rfl (by kernel_rfl) (by kernel_rfl) (by kernel_rfl) (fun _ _ _ h => h) (Or.inr ⟨by rfl, rfl⟩) ?_
    (try simp only [List.getElem_toArray, List.getElem_cons_succ, List.getElem_cons_zero, Act.put, List.setIfInBounds_toArray, List.set_cons_zero, List.set_cons_succ])
    refine wpAny_take (i := 17) (v := undef) rfl (by kernel_rfl) (by kernel_rfl) (by kernel_rfl) (fun _ _ _ h => h) (Or.inr ⟨by rfl, rfl⟩) ?_
    (try simp only [List.getElem_toArray, List.getElem_cons_succ, List.getElem_cons_zero, Act.put, List.setIfInBounds_toArray, List.set_cons_zero, List.set_cons_succ])
    refine wpAny_take (i := 18) (v := ?_) rfl (by kernel_rfl) (by kernel_rfl) (by kernel_rfl) (fun _ _ _ h => h) (Or.inl ⟨by rfl, ?_⟩) ?_
    rotate_left 1
    (intro w; go_simp; try with_reducible rfl)
    (try simp only [List.getElem_toArray, List.getElem_cons_succ, List.getElem_cons_zero, Act.put, List.setIfInBounds_toArray, List.set_cons_zero, List.set_cons_succ])
    refine wpAny_take (i := 19) (v := ?_) rfl (by kernel_rfl) (by kernel_rfl) (by kernel_rfl) (fun _ _ _ h => h) (Or.inl ⟨by rfl, ?_⟩) ?_
    rotate_left 1
    (intro w; go_simp; try with_reducible rfl)
    (try simp only [List.getElem_toArray, List.getElem_cons_succ, List.getElem_cons_zero, Act.put, List.setIfInBounds_toArray, List.set_cons_zero, List.set_cons_succ])
    refine wpAny_done (by kernel_rfl) ?_ _
    go_wp2
    go_ret
    exact ⟨rfl, hd.trans (hb5.mono hd.size)⟩
  rw [hb] at cO
  clear hb
  cases hl : ((x.l.length : Int) == 2)
  · clear cE
    go_enter Tryz.func186, Tryz.ntmps186
    go_wp2_with fail
    first
      | (go_region_with (go_at_call 142; refine cO.mono ?_; rintro e w5 ⟨rfl, hb5⟩; have hB5 := hd.trans (hb5.mono hd.size); obtain ⟨hS1, hS2⟩ := hmv _ hB5))
      | fail
    all_goals
      go_wp2
      go_ret
      exact ⟨rfl, hB5⟩
  · generalize x.l.all P = q at cE
    go_enter Tryz.func186, Tryz.ntmps186
    go_wp2_with fail
    go_region_held3 (fun W => W.cell? ⟨g, o + 4, none⟩ = some (.slice p x.l.length c) ∧ W.cell? ⟨bm, 0, none⟩ = some (.func (Fn.func 104) #[] #[])) (first | exact hS0 | exact hS1 | exact hS2) (first
      | (go_at_call 142; refine cO.mono ?_; rintro e w5 ⟨rfl, hb5⟩; have hB5 := hd.trans (hb5.mono hd.size); have hS1 := hmv _ hB5)
      | (go_at_call 144; refine (cE _ hB5).mono ?_; rintro e w6 ⟨rfl, hb6⟩; have hB6 := hB5.trans (hb6.mono hB5.size); have hS2 := hmv _ hB6))
    go_wp2
    go_ret
    exact ⟨by simp, hB6⟩

def partsVG (bm : Nat) : Array Value := (leavesV.modify 10 fun _ => .func (Fn.func 185) #[] #[.pointer (some ⟨bm, 0, none⟩)]).modify 9 fun _ => .func (Fn.func 186) #[] #[.pointer (some ⟨bm, 0, none⟩)]

/-- What parts leaves. -/
def PartsSaysG (b : Nat) (w : World) (e : Ending) (w' : World) : Prop := e = .returned (.tuple #[]) ∧ w'.cell? ⟨w.heap.size, 0, none⟩ = some (.func (Fn.func 104) #[] #[]) ∧ w'.heap[b]? = some (.cells (partsVG w.heap.size) 144 (0, 0)) ∧ Turn (· = b) w w'

set_option maxHeartbeats 2000000 in
set_option maxRecDepth 100000 in
theorem partsG_any {w : World} {b : Nat} (h : w.heap[b]? = some (.cells leavesV 144 (0, 0))) :
    Calls Tryz.prog 149 #[.pointer (some ⟨b, 0, none⟩), .func (Fn.func 104) #[] #[]] w (PartsSaysG b w) := by
  have hlt : b < w.heap.size := (Array.getElem?_eq_some_iff.1 h).1
  have hb1 := alloc_below w (.cells #[.func (Fn.func 104) #[] #[]] 81)
  have hm1 := box_cell w (.func (Fn.func 104) #[] #[]) 81
  have h1 := (hb1.block b hlt).trans h
  go_enter Tryz.func149, Tryz.ntmps149
  go_upto_region 1 with fail
  generalize w.alloc (.cells #[.func (Fn.func 104) #[] #[]] 81) = w1 at hb1 hm1 h1 ⊢
  have c1 : w1.cell? ⟨b, 10, none⟩ = some .nilFunc := (arr_cell h1).trans rfl
  have f1 : w1.frozen? ⟨b, 10, none⟩ = false := arr_free h1
  have h2 := arr_set (i := 10) (u := .func (Fn.func 185) #[] #[.pointer (some ⟨w.heap.size, 0, none⟩)]) h1
  have c2 : (w1.setCell ⟨b, 10, none⟩ (.func (Fn.func 185) #[] #[.pointer (some ⟨w.heap.size, 0, none⟩)])).cell? ⟨b, 9, none⟩ = some .nilFunc := (arr_cell h2).trans rfl
  have f2 : (w1.setCell ⟨b, 10, none⟩ (.func (Fn.func 185) #[] #[.pointer (some ⟨w.heap.size, 0, none⟩)])).frozen? ⟨b, 9, none⟩ = false := arr_free h2
  have h3 := arr_set (i := 9) (u := .func (Fn.func 186) #[] #[.pointer (some ⟨w.heap.size, 0, none⟩)]) h2
  have ht2 := Turn.setCell w1 ⟨b, 10, none⟩ (.func (Fn.func 185) #[] #[.pointer (some ⟨w.heap.size, 0, none⟩)])
  have ht3 := ht2.trans (Turn.setCell _ ⟨b, 9, none⟩ (.func (Fn.func 186) #[] #[.pointer (some ⟨w.heap.size, 0, none⟩)]))
  have hm3 := ht3.cell hm1 (show ¬ w.heap.size = b by omega)
  have hT : Turn (· = b) w _ := (Turn.of_below hb1).trans ht3
  have hfin : PartsSaysG b w (.returned (.tuple #[])) _ := ⟨rfl, hm3, h3, hT⟩
  have HF := Lib.hid hfin
  clear hfin h3 hm3 hT ht3 ht2 h2 h1 hm1 hb1 h
  go_wp2
  go_end0
  exact HF.out

end Go.Proofs.YtlhobpknflobgaaGreatDoor
