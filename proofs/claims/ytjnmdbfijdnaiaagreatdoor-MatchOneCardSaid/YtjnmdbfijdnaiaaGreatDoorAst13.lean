/-
  ast.asks at a pattern's table; ast.pattern, Pattern. Conditions: the tree lies as 'TrV' says.
-/
import Derived.Test.YtjnmdbfijdnaiaaGreatDoorAst12
namespace Go.Proofs.YtjnmdbfijdnaiaaGreatDoor
open Go.RowKit

theorem rule_some (fn : Fn) (a c : Array Value) (w : World) : (binOp BinOp.neq 105 (.func fn a c) .nilFunc).run Tryz.prog w = .ok (.bool true) w := by kernel_rfl
theorem rule_none (w : World) : (binOp BinOp.neq 105 .nilFunc .nilFunc).run Tryz.prog w = .ok (.bool false) w := by kernel_rfl

set_option maxHeartbeats 4000000 in
set_option maxRecDepth 100000 in
theorem asks5_any {w : World} {b g o : Nat} {x : Tr} {sv : Value} {q : Bool} (h : NodeAt w g o x sv) (hk : x.k = 5) (hc : w.cell? ⟨b, 5, none⟩ = some (.func (Fn.func 90) #[] #[]))
    (cR : ∀ W, Below w.heap.size w W → Calls Tryz.prog 90 #[.pointer (some ⟨g, o, none⟩)] W fun e w' => e = .returned (.bool q) ∧ Below W.heap.size W w') :
    Calls Tryz.prog 78 #[.pointer (some ⟨b, 0, none⟩), .pointer (some ⟨g, o, none⟩)] w fun e w' => e = .returned (.bool q) ∧ Below w.heap.size w w' := by
  have h0 := h.k
  rw [hk] at h0
  have hd : Below w.heap.size w w.drew := below_drewN (Below.refl _ _) 1
  have hmv : ∀ W : World, Below w.heap.size w W → W.cell? ⟨g, o, none⟩ = some (.int .i8 5) ∧ W.cell? ⟨b, 5, none⟩ = some (.func (Fn.func 90) #[] #[]) := fun W hb =>
    ⟨(hb.cell (p := ⟨g, o, none⟩) (cell_block h0)).trans h0, (hb.cell (p := ⟨b, 5, none⟩) (cell_block hc)).trans hc⟩
  have hS0 := hmv w (Below.refl _ _)
  clear h hk h0 hc
  have hrs := rule_some
  go_enter Tryz.func78, Tryz.ntmps78
  go_wp2_with fail
  go_region_held3 (fun W => W.cell? ⟨g, o, none⟩ = some (.int .i8 5) ∧ W.cell? ⟨b, 5, none⟩ = some (.func (Fn.func 90) #[] #[])) (first | exact hS0 | exact hS1) (first
    | (go_at_call 90; refine (cR _ hd).mono ?_; rintro e w5 ⟨rfl, hb5⟩; have hB5 := hd.trans (hb5.mono hd.size); have hS1 := hmv _ hB5))
  go_wp2
  go_ret
  exact ⟨by simp, hB5⟩
set_option maxHeartbeats 4000000 in
set_option maxRecDepth 100000 in
theorem asks6_any {w : World} {b g o : Nat} {x : Tr} {sv : Value} {q : Bool} (h : NodeAt w g o x sv) (hk : x.k = 6) (hc : w.cell? ⟨b, 6, none⟩ = some (.func (Fn.func 93) #[] #[]))
    (cR : ∀ W, Below w.heap.size w W → Calls Tryz.prog 93 #[.pointer (some ⟨g, o, none⟩)] W fun e w' => e = .returned (.bool q) ∧ Below W.heap.size W w') :
    Calls Tryz.prog 78 #[.pointer (some ⟨b, 0, none⟩), .pointer (some ⟨g, o, none⟩)] w fun e w' => e = .returned (.bool q) ∧ Below w.heap.size w w' := by
  have h0 := h.k
  rw [hk] at h0
  have hd : Below w.heap.size w w.drew := below_drewN (Below.refl _ _) 1
  have hmv : ∀ W : World, Below w.heap.size w W → W.cell? ⟨g, o, none⟩ = some (.int .i8 6) ∧ W.cell? ⟨b, 6, none⟩ = some (.func (Fn.func 93) #[] #[]) := fun W hb =>
    ⟨(hb.cell (p := ⟨g, o, none⟩) (cell_block h0)).trans h0, (hb.cell (p := ⟨b, 6, none⟩) (cell_block hc)).trans hc⟩
  have hS0 := hmv w (Below.refl _ _)
  clear h hk h0 hc
  have hrs := rule_some
  go_enter Tryz.func78, Tryz.ntmps78
  go_wp2_with fail
  go_region_held3 (fun W => W.cell? ⟨g, o, none⟩ = some (.int .i8 6) ∧ W.cell? ⟨b, 6, none⟩ = some (.func (Fn.func 93) #[] #[])) (first | exact hS0 | exact hS1) (first
    | (go_at_call 93; refine (cR _ hd).mono ?_; rintro e w5 ⟨rfl, hb5⟩; have hB5 := hd.trans (hb5.mono hd.size); have hS1 := hmv _ hB5))
  go_wp2
  go_ret
  exact ⟨by simp, hB5⟩
set_option maxHeartbeats 4000000 in
set_option maxRecDepth 100000 in
theorem asks7_any {w : World} {b g o : Nat} {x : Tr} {sv : Value} {q : Bool} (h : NodeAt w g o x sv) (hk : x.k = 7) (hc : w.cell? ⟨b, 7, none⟩ = some (.func (Fn.func 94) #[] #[]))
    (cR : ∀ W, Below w.heap.size w W → Calls Tryz.prog 94 #[.pointer (some ⟨g, o, none⟩)] W fun e w' => e = .returned (.bool q) ∧ Below W.heap.size W w') :
    Calls Tryz.prog 78 #[.pointer (some ⟨b, 0, none⟩), .pointer (some ⟨g, o, none⟩)] w fun e w' => e = .returned (.bool q) ∧ Below w.heap.size w w' := by
  have h0 := h.k
  rw [hk] at h0
  have hd : Below w.heap.size w w.drew := below_drewN (Below.refl _ _) 1
  have hmv : ∀ W : World, Below w.heap.size w W → W.cell? ⟨g, o, none⟩ = some (.int .i8 7) ∧ W.cell? ⟨b, 7, none⟩ = some (.func (Fn.func 94) #[] #[]) := fun W hb =>
    ⟨(hb.cell (p := ⟨g, o, none⟩) (cell_block h0)).trans h0, (hb.cell (p := ⟨b, 7, none⟩) (cell_block hc)).trans hc⟩
  have hS0 := hmv w (Below.refl _ _)
  clear h hk h0 hc
  have hrs := rule_some
  go_enter Tryz.func78, Tryz.ntmps78
  go_wp2_with fail
  go_region_held3 (fun W => W.cell? ⟨g, o, none⟩ = some (.int .i8 7) ∧ W.cell? ⟨b, 7, none⟩ = some (.func (Fn.func 94) #[] #[])) (first | exact hS0 | exact hS1) (first
    | (go_at_call 94; refine (cR _ hd).mono ?_; rintro e w5 ⟨rfl, hb5⟩; have hB5 := hd.trans (hb5.mono hd.size); have hS1 := hmv _ hB5))
  go_wp2
  go_ret
  exact ⟨by simp, hB5⟩
set_option maxHeartbeats 4000000 in
set_option maxRecDepth 100000 in
theorem asks8_any {w : World} {b g o : Nat} {x : Tr} {sv : Value} {q : Bool} (h : NodeAt w g o x sv) (hk : x.k = 8) (hc : w.cell? ⟨b, 8, none⟩ = some (.func (Fn.func 96) #[] #[]))
    (cR : ∀ W, Below w.heap.size w W → Calls Tryz.prog 96 #[.pointer (some ⟨g, o, none⟩)] W fun e w' => e = .returned (.bool q) ∧ Below W.heap.size W w') :
    Calls Tryz.prog 78 #[.pointer (some ⟨b, 0, none⟩), .pointer (some ⟨g, o, none⟩)] w fun e w' => e = .returned (.bool q) ∧ Below w.heap.size w w' := by
  have h0 := h.k
  rw [hk] at h0
  have hd : Below w.heap.size w w.drew := below_drewN (Below.refl _ _) 1
  have hmv : ∀ W : World, Below w.heap.size w W → W.cell? ⟨g, o, none⟩ = some (.int .i8 8) ∧ W.cell? ⟨b, 8, none⟩ = some (.func (Fn.func 96) #[] #[]) := fun W hb =>
    ⟨(hb.cell (p := ⟨g, o, none⟩) (cell_block h0)).trans h0, (hb.cell (p := ⟨b, 8, none⟩) (cell_block hc)).trans hc⟩
  have hS0 := hmv w (Below.refl _ _)
  clear h hk h0 hc
  have hrs := rule_some
  go_enter Tryz.func78, Tryz.ntmps78
  go_wp2_with fail
  go_region_held3 (fun W => W.cell? ⟨g, o, none⟩ = some (.int .i8 8) ∧ W.cell? ⟨b, 8, none⟩ = some (.func (Fn.func 96) #[] #[])) (first | exact hS0 | exact hS1) (first
    | (go_at_call 96; refine (cR _ hd).mono ?_; rintro e w5 ⟨rfl, hb5⟩; have hB5 := hd.trans (hb5.mono hd.size); have hS1 := hmv _ hB5))
  go_wp2
  go_ret
  exact ⟨by simp, hB5⟩
set_option maxHeartbeats 4000000 in
set_option maxRecDepth 100000 in
theorem asks10_any {w : World} {b g o bm : Nat} {x : Tr} {sv : Value} {q : Bool} (h : NodeAt w g o x sv) (hk : x.k = 10) (hc : w.cell? ⟨b, 10, none⟩ = some (.func (Fn.func 97) #[] #[.pointer (some ⟨bm, 0, none⟩)]))
    (cR : ∀ W, Below w.heap.size w W → Calls Tryz.prog 97 #[.pointer (some ⟨g, o, none⟩), .pointer (some ⟨bm, 0, none⟩)] W fun e w' => e = .returned (.bool q) ∧ Below W.heap.size W w') :
    Calls Tryz.prog 78 #[.pointer (some ⟨b, 0, none⟩), .pointer (some ⟨g, o, none⟩)] w fun e w' => e = .returned (.bool q) ∧ Below w.heap.size w w' := by
  have h0 := h.k
  rw [hk] at h0
  have hd : Below w.heap.size w w.drew := below_drewN (Below.refl _ _) 1
  have hmv : ∀ W : World, Below w.heap.size w W → W.cell? ⟨g, o, none⟩ = some (.int .i8 10) ∧ W.cell? ⟨b, 10, none⟩ = some (.func (Fn.func 97) #[] #[.pointer (some ⟨bm, 0, none⟩)]) := fun W hb =>
    ⟨(hb.cell (p := ⟨g, o, none⟩) (cell_block h0)).trans h0, (hb.cell (p := ⟨b, 10, none⟩) (cell_block hc)).trans hc⟩
  have hS0 := hmv w (Below.refl _ _)
  clear h hk h0 hc
  have hrs := rule_some
  go_enter Tryz.func78, Tryz.ntmps78
  go_wp2_with fail
  go_region_held3 (fun W => W.cell? ⟨g, o, none⟩ = some (.int .i8 10) ∧ W.cell? ⟨b, 10, none⟩ = some (.func (Fn.func 97) #[] #[.pointer (some ⟨bm, 0, none⟩)])) (first | exact hS0 | exact hS1) (first
    | (go_at_call 97; refine (cR _ hd).mono ?_; rintro e w5 ⟨rfl, hb5⟩; have hB5 := hd.trans (hb5.mono hd.size); have hS1 := hmv _ hB5))
  go_wp2
  go_ret
  exact ⟨by simp, hB5⟩
set_option maxHeartbeats 4000000 in
set_option maxRecDepth 100000 in
theorem asks9_any {w : World} {b g o bm : Nat} {x : Tr} {sv : Value} {q : Bool} (h : NodeAt w g o x sv) (hk : x.k = 9) (hc : w.cell? ⟨b, 9, none⟩ = some (.func (Fn.func 99) #[] #[.pointer (some ⟨bm, 0, none⟩)]))
    (cR : ∀ W, Below w.heap.size w W → Calls Tryz.prog 99 #[.pointer (some ⟨g, o, none⟩), .pointer (some ⟨bm, 0, none⟩)] W fun e w' => e = .returned (.bool q) ∧ Below W.heap.size W w') :
    Calls Tryz.prog 78 #[.pointer (some ⟨b, 0, none⟩), .pointer (some ⟨g, o, none⟩)] w fun e w' => e = .returned (.bool q) ∧ Below w.heap.size w w' := by
  have h0 := h.k
  rw [hk] at h0
  have hd : Below w.heap.size w w.drew := below_drewN (Below.refl _ _) 1
  have hmv : ∀ W : World, Below w.heap.size w W → W.cell? ⟨g, o, none⟩ = some (.int .i8 9) ∧ W.cell? ⟨b, 9, none⟩ = some (.func (Fn.func 99) #[] #[.pointer (some ⟨bm, 0, none⟩)]) := fun W hb =>
    ⟨(hb.cell (p := ⟨g, o, none⟩) (cell_block h0)).trans h0, (hb.cell (p := ⟨b, 9, none⟩) (cell_block hc)).trans hc⟩
  have hS0 := hmv w (Below.refl _ _)
  clear h hk h0 hc
  have hrs := rule_some
  go_enter Tryz.func78, Tryz.ntmps78
  go_wp2_with fail
  go_region_held3 (fun W => W.cell? ⟨g, o, none⟩ = some (.int .i8 9) ∧ W.cell? ⟨b, 9, none⟩ = some (.func (Fn.func 99) #[] #[.pointer (some ⟨bm, 0, none⟩)])) (first | exact hS0 | exact hS1) (first
    | (go_at_call 99; refine (cR _ hd).mono ?_; rintro e w5 ⟨rfl, hb5⟩; have hB5 := hd.trans (hb5.mono hd.size); have hS1 := hmv _ hB5))
  go_wp2
  go_ret
  exact ⟨by simp, hB5⟩
end Go.Proofs.YtjnmdbfijdnaiaaGreatDoor
