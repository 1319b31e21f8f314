/-
  ast.asks at a pattern's table; ast.pattern, Pattern. Conditions: the tree lies as 'TrV' says.
  ast.asks where no rule stands; ast.pattern, Pattern. Conditions: the tree lies as 'TrV' says.
  ast.asks at a pattern's table, whole; ast.pattern. Conditions: the tree lies as 'TrV' says, the letters as 'Letters' says.
  ast.Pattern. Conditions: the tree lies as 'TrV' says, the letters as 'Letters' says.
-/
import Derived.Test.YtlhobpknflobgaaGreatDoorS09
namespace Go.Proofs.YtlhobpknflobgaaGreatDoor
open Go.RowKit

theorem rule_some (fn : Fn) (a c : Array Value) (w : World) : (binOp BinOp.neq 139 (.func fn a c) .nilFunc).run Tryz.prog w = .ok (.bool true) w := by kernel_rfl
theorem rule_none (w : World) : (binOp BinOp.neq 139 .nilFunc .nilFunc).run Tryz.prog w = .ok (.bool false) w := by kernel_rfl

set_option maxHeartbeats 4000000 in
set_option maxRecDepth 100000 in
theorem asks5_any {w : World} {b g o : Nat} {x : Tr} {sv : Value} {q : Bool} (h : NodeAt w g o x sv) (hk : x.k = 5) (hc : w.cell? ⟨b, 5, none⟩ = some (.func (Fn.func 179) #[] #[]))
    (cR : ∀ W, Below w.heap.size w W → Calls Tryz.prog 179 #[.pointer (some ⟨g, o, none⟩)] W fun e w' => e = .returned (.bool q) ∧ Below W.heap.size W w') :
    Calls Tryz.prog 145 #[.pointer (some ⟨b, 0, none⟩), .pointer (some ⟨g, o, none⟩)] w fun e w' => e = .returned (.bool q) ∧ Below w.heap.size w w' := by
  have h0 := h.k
  rw [hk] at h0
  have hd : Below w.heap.size w w.drew := below_drewN (Below.refl _ _) 1
  have hmv : ∀ W : World, Below w.heap.size w W → W.cell? ⟨g, o, none⟩ = some (.int .i8 5) ∧ W.cell? ⟨b, 5, none⟩ = some (.func (Fn.func 179) #[] #[]) := fun W hb =>
    ⟨(hb.cell (p := ⟨g, o, none⟩) (cell_block h0)).trans h0, (hb.cell (p := ⟨b, 5, none⟩) (cell_block hc)).trans hc⟩
  have hS0 := hmv w (Below.refl _ _)
  clear h hk h0 hc
  have hrs := rule_some
  go_enter Tryz.func145, Tryz.ntmps145
  go_wp2_with fail
  go_region_held3 (fun W => W.cell? ⟨g, o, none⟩ = some (.int .i8 5) ∧ W.cell? ⟨b, 5, none⟩ = some (.func (Fn.func 179) #[] #[])) (first | exact hS0 | exact hS1) (first
    | (go_at_call 179; refine (cR _ hd).mono ?_; rintro e w5 ⟨rfl, hb5⟩; have hB5 := hd.trans (hb5.mono hd.size); have hS1 := hmv _ hB5))
  go_wp2
  go_ret
  exact ⟨by simp, hB5⟩
set_option maxHeartbeats 4000000 in
set_option maxRecDepth 100000 in
theorem asks6_any {w : World} {b g o : Nat} {x : Tr} {sv : Value} {q : Bool} (h : NodeAt w g o x sv) (hk : x.k = 6) (hc : w.cell? ⟨b, 6, none⟩ = some (.func (Fn.func 181) #[] #[]))
    (cR : ∀ W, Below w.heap.size w W → Calls Tryz.prog 181 #[.pointer (some ⟨g, o, none⟩)] W fun e w' => e = .returned (.bool q) ∧ Below W.heap.size W w') :
    Calls Tryz.prog 145 #[.pointer (some ⟨b, 0, none⟩), .pointer (some ⟨g, o, none⟩)] w fun e w' => e = .returned (.bool q) ∧ Below w.heap.size w w' := by
  have h0 := h.k
  rw [hk] at h0
  have hd : Below w.heap.size w w.drew := below_drewN (Below.refl _ _) 1
  have hmv : ∀ W : World, Below w.heap.size w W → W.cell? ⟨g, o, none⟩ = some (.int .i8 6) ∧ W.cell? ⟨b, 6, none⟩ = some (.func (Fn.func 181) #[] #[]) := fun W hb =>
    ⟨(hb.cell (p := ⟨g, o, none⟩) (cell_block h0)).trans h0, (hb.cell (p := ⟨b, 6, none⟩) (cell_block hc)).trans hc⟩
  have hS0 := hmv w (Below.refl _ _)
  clear h hk h0 hc
  have hrs := rule_some
  go_enter Tryz.func145, Tryz.ntmps145
  go_wp2_with fail
  go_region_held3 (fun W => W.cell? ⟨g, o, none⟩ = some (.int .i8 6) ∧ W.cell? ⟨b, 6, none⟩ = some (.func (Fn.func 181) #[] #[])) (first | exact hS0 | exact hS1) (first
    | (go_at_call 181; refine (cR _ hd).mono ?_; rintro e w5 ⟨rfl, hb5⟩; have hB5 := hd.trans (hb5.mono hd.size); have hS1 := hmv _ hB5))
  go_wp2
  go_ret
  exact ⟨by simp, hB5⟩
set_option maxHeartbeats 4000000 in
set_option maxRecDepth 100000 in
theorem asks7_any {w : World} {b g o : Nat} {x : Tr} {sv : Value} {q : Bool} (h : NodeAt w g o x sv) (hk : x.k = 7) (hc : w.cell? ⟨b, 7, none⟩ = some (.func (Fn.func 182) #[] #[]))
    (cR : ∀ W, Below w.heap.size w W → Calls Tryz.prog 182 #[.pointer (some ⟨g, o, none⟩)] W fun e w' => e = .returned (.bool q) ∧ Below W.heap.size W w') :
    Calls Tryz.prog 145 #[.pointer (some ⟨b, 0, none⟩), .pointer (some ⟨g, o, none⟩)] w fun e w' => e = .returned (.bool q) ∧ Below w.heap.size w w' := by
  have h0 := h.k
  rw [hk] at h0
  have hd : Below w.heap.size w w.drew := below_drewN (Below.refl _ _) 1
  have hmv : ∀ W : World, Below w.heap.size w W → W.cell? ⟨g, o, none⟩ = some (.int .i8 7) ∧ W.cell? ⟨b, 7, none⟩ = some (.func (Fn.func 182) #[] #[]) := fun W hb =>
    ⟨(hb.cell (p := ⟨g, o, none⟩) (cell_block h0)).trans h0, (hb.cell (p := ⟨b, 7, none⟩) (cell_block hc)).trans hc⟩
  have hS0 := hmv w (Below.refl _ _)
  clear h hk h0 hc
  have hrs := rule_some
  go_enter Tryz.func145, Tryz.ntmps145
  go_wp2_with fail
  go_region_held3 (fun W => W.cell? ⟨g, o, none⟩ = some (.int .i8 7) ∧ W.cell? ⟨b, 7, none⟩ = some (.func (Fn.func 182) #[] #[])) (first | exact hS0 | exact hS1) (first
    | (go_at_call 182; refine (cR _ hd).mono ?_; rintro e w5 ⟨rfl, hb5⟩; have hB5 := hd.trans (hb5.mono hd.size); have hS1 := hmv _ hB5))
  go_wp2
  go_ret
  exact ⟨by simp, hB5⟩
set_option maxHeartbeats 4000000 in
set_option maxRecDepth 100000 in
theorem asks8_any {w : World} {b g o : Nat} {x : Tr} {sv : Value} {q : Bool} (h : NodeAt w g o x sv) (hk : x.k = 8) (hc : w.cell? ⟨b, 8, none⟩ = some (.func (Fn.func 184) #[] #[]))
    (cR : ∀ W, Below w.heap.size w W → Calls Tryz.prog 184 #[.pointer (some ⟨g, o, none⟩)] W fun e w' => e = .returned (.bool q) ∧ Below W.heap.size W w') :
    Calls Tryz.prog 145 #[.pointer (some ⟨b, 0, none⟩), .pointer (some ⟨g, o, none⟩)] w fun e w' => e = .returned (.bool q) ∧ Below w.heap.size w w' := by
  have h0 := h.k
  rw [hk] at h0
  have hd : Below w.heap.size w w.drew := below_drewN (Below.refl _ _) 1
  have hmv : ∀ W : World, Below w.heap.size w W → W.cell? ⟨g, o, none⟩ = some (.int .i8 8) ∧ W.cell? ⟨b, 8, none⟩ = some (.func (Fn.func 184) #[] #[]) := fun W hb =>
    ⟨(hb.cell (p := ⟨g, o, none⟩) (cell_block h0)).trans h0, (hb.cell (p := ⟨b, 8, none⟩) (cell_block hc)).trans hc⟩
  have hS0 := hmv w (Below.refl _ _)
  clear h hk h0 hc
  have hrs := rule_some
  go_enter Tryz.func145, Tryz.ntmps145
  go_wp2_with fail
  go_region_held3 (fun W => W.cell? ⟨g, o, none⟩ = some (.int .i8 8) ∧ W.cell? ⟨b, 8, none⟩ = some (.func (Fn.func 184) #[] #[])) (first | exact hS0 | exact hS1) (first
    | (go_at_call 184; refine (cR _ hd).mono ?_; rintro e w5 ⟨rfl, hb5⟩; have hB5 := hd.trans (hb5.mono hd.size); have hS1 := hmv _ hB5))
  go_wp2
  go_ret
  exact ⟨by simp, hB5⟩
set_option maxHeartbeats 4000000 in
set_option maxRecDepth 100000 in
theorem asks10_any {w : World} {b g o bm : Nat} {x : Tr} {sv : Value} {q : Bool} (h : NodeAt w g o x sv) (hk : x.k = 10) (hc : w.cell? ⟨b, 10, none⟩ = some (.func (Fn.func 185) #[] #[.pointer (some ⟨bm, 0, none⟩)]))
    (cR : ∀ W, Below w.heap.size w W → Calls Tryz.prog 185 #[.pointer (some ⟨g, o, none⟩), .pointer (some ⟨bm, 0, none⟩)] W fun e w' => e = .returned (.bool q) ∧ Below W.heap.size W w') :
    Calls Tryz.prog 145 #[.pointer (some ⟨b, 0, none⟩), .pointer (some ⟨g, o, none⟩)] w fun e w' => e = .returned (.bool q) ∧ Below w.heap.size w w' := by
  have h0 := h.k
  rw [hk] at h0
  have hd : Below w.heap.size w w.drew := below_drewN (Below.refl _ _) 1
  have hmv : ∀ W : World, Below w.heap.size w W → W.cell? ⟨g, o, none⟩ = some (.int .i8 10) ∧ W.cell? ⟨b, 10, none⟩ = some (.func (Fn.func 185) #[] #[.pointer (some ⟨bm, 0, none⟩)]) := fun W hb =>
    ⟨(hb.cell (p := ⟨g, o, none⟩) (cell_block h0)).trans h0, (hb.cell (p := ⟨b, 10, none⟩) (cell_block hc)).trans hc⟩
  have hS0 := hmv w (Below.refl _ _)
  clear h hk h0 hc
  have hrs := rule_some
  go_enter Tryz.func145, Tryz.ntmps145
  go_wp2_with fail
  go_region_held3 (fun W => W.cell? ⟨g, o, none⟩ = some (.int .i8 10) ∧ W.cell? ⟨b, 10, none⟩ = some (.func (Fn.func 185) #[] #[.pointer (some ⟨bm, 0, none⟩)])) (first | exact hS0 | exact hS1) (first
    | (go_at_call 185; refine (cR _ hd).mono ?_; rintro e w5 ⟨rfl, hb5⟩; have hB5 := hd.trans (hb5.mono hd.size); have hS1 := hmv _ hB5))
  go_wp2
  go_ret
  exact ⟨by simp, hB5⟩
set_option maxHeartbeats 4000000 in
set_option maxRecDepth 100000 in
theorem asks9_any {w : World} {b g o bm : Nat} {x : Tr} {sv : Value} {q : Bool} (h : NodeAt w g o x sv) (hk : x.k = 9) (hc : w.cell? ⟨b, 9, none⟩ = some (.func (Fn.func 186) #[] #[.pointer (some ⟨bm, 0, none⟩)]))
    (cR : ∀ W, Below w.heap.size w W → Calls Tryz.prog 186 #[.pointer (some ⟨g, o, none⟩), .pointer (some ⟨bm, 0, none⟩)] W fun e w' => e = .returned (.bool q) ∧ Below W.heap.size W w') :
    Calls Tryz.prog 145 #[.pointer (some ⟨b, 0, none⟩), .pointer (some ⟨g, o, none⟩)] w fun e w' => e = .returned (.bool q) ∧ Below w.heap.size w w' := by
  have h0 := h.k
  rw [hk] at h0
  have hd : Below w.heap.size w w.drew := below_drewN (Below.refl _ _) 1
  have hmv : ∀ W : World, Below w.heap.size w W → W.cell? ⟨g, o, none⟩ = some (.int .i8 9) ∧ W.cell? ⟨b, 9, none⟩ = some (.func (Fn.func 186) #[] #[.pointer (some ⟨bm, 0, none⟩)]) := fun W hb =>
    ⟨(hb.cell (p := ⟨g, o, none⟩) (cell_block h0)).trans h0, (hb.cell (p := ⟨b, 9, none⟩) (cell_block hc)).trans hc⟩
  have hS0 := hmv w (Below.refl _ _)
  clear h hk h0 hc
  have hrs := rule_some
  go_enter Tryz.func145, Tryz.ntmps145
  go_wp2_with fail
  go_region_held3 (fun W => W.cell? ⟨g, o, none⟩ = some (.int .i8 9) ∧ W.cell? ⟨b, 9, none⟩ = some (.func (Fn.func 186) #[] #[.pointer (some ⟨bm, 0, none⟩)])) (first | exact hS0 | exact hS1) (first
    | (go_at_call 186; refine (cR _ hd).mono ?_; rintro e w5 ⟨rfl, hb5⟩; have hB5 := hd.trans (hb5.mono hd.size); have hS1 := hmv _ hB5))
  go_wp2
  go_ret
  exact ⟨by simp, hB5⟩
end Go.Proofs.YtlhobpknflobgaaGreatDoor
namespace Go.Proofs.YtlhobpknflobgaaGreatDoor
open Go.RowKit

theorem bounds_i8 {k : Int} (h : (Lit.int .i8 k).wf = true) : -128 ≤ k ∧ k ≤ 127 := by
  simp [Lit.wf, IntKind.min, IntKind.max, IntKind.signed, IntKind.bits] at h
  omega

set_option maxHeartbeats 2000000 in
set_option maxRecDepth 100000 in
theorem asksOut_any {w : World} {b g o : Nat} {x : Tr} {sv : Value} (h : NodeAt w g o x sv) (hk : x.k < 0 ∨ 22 ≤ x.k) (hwf : NodeWf x) :
    Calls Tryz.prog 145 #[.pointer (some ⟨b, 0, none⟩), .pointer (some ⟨g, o, none⟩)] w fun e w' => e = .returned (.bool false) ∧ Below w.heap.size w w' := by
  have h0 := h.k
  have hkw := hwf.k
  clear h hwf
  generalize x.k = k at *
  rcases hk with hk | hk
  · have d0 : decide ((0 : Int) ≤ k) = false := by simpa using hk
    go_enter Tryz.func145, Tryz.ntmps145
    go_wp2_with fail
    go_quiet (fail)
    go_wp2
    go_ret
    exact ⟨by simp, below_drewN (Below.refl _ _) nq⟩
  · have d0 : decide ((0 : Int) ≤ k) = true := by simp; omega
    have d1 : decide (k < (22 : Int)) = false := by simpa using hk
    have hw : IntKind.i64.wrap k = k := by rw [IntKind.wrap_i64]; have := bounds_i8 hkw; omega
    go_enter Tryz.func145, Tryz.ntmps145
    go_wp2_with fail
    go_quiet (fail)
    go_wp2
    go_ret
    exact ⟨by simp, below_drewN (Below.refl _ _) nq⟩
set_option maxHeartbeats 2000000 in
set_option maxRecDepth 100000 in
theorem asksNil_any {w : World} {b g o : Nat} {x : Tr} {sv : Value} (h : NodeAt w g o x sv) (hk0 : 0 ≤ x.k) (hk1 : x.k < 22) (hc : w.cell? ⟨b, x.k.toNat, none⟩ = some .nilFunc) :
    Calls Tryz.prog 145 #[.pointer (some ⟨b, 0, none⟩), .pointer (some ⟨g, o, none⟩)] w fun e w' => e = .returned (.bool false) ∧ Below w.heap.size w w' := by
  have h0 := h.k
  clear h
  generalize x.k = k at *
  have hrn := rule_none
  have d0 : decide ((0 : Int) ≤ k) = true := by simp; omega
  have d1 : decide (k < (22 : Int)) = true := by simp; omega
  have hw : IntKind.i64.wrap k = k := by rw [IntKind.wrap_i64]; omega
  go_enter Tryz.func145, Tryz.ntmps145
  go_wp2_with fail
  go_quiet (fail)
  go_wp2
  go_ret
  exact ⟨by simp, below_drewN (Below.refl _ _) nq⟩
end Go.Proofs.YtlhobpknflobgaaGreatDoor
namespace Go.Proofs.YtlhobpknflobgaaGreatDoor
open Go.RowKit

theorem patl_all : ∀ l : List Tr, Tr.pat.patl l = l.all Tr.pat
  | [] => rfl
  | x :: r => by rw [Tr.pat.patl, patl_all r, List.all_cons]

theorem asksPat_any {F : Nat → Prop} {w : World} {b g o bm : Nat} {x : Tr} {sv : Value} (hL : Letters w) (h : NodeAt w g o x sv) (hx : TrV F w x sv) (hb : w.heap[b]? = some (.cells (partsV bm) 144 (0, 0)))
    (hm : w.cell? ⟨bm, 0, none⟩ = some (.func (Fn.func 160) #[] #[])) (hf : ∀ y ∈ x.l, RuleSays F 160 Tr.pat w y) :
    Calls Tryz.prog 145 #[.pointer (some ⟨b, 0, none⟩), .pointer (some ⟨g, o, none⟩)] w fun e w' => e = .returned (.bool x.pat) ∧ Below w.heap.size w w' := by
  have hwf := hx.wf
  have hk8 : ∀ W, Below w.heap.size w W → NodeAt W g o x sv := fun W hW => h.keep (hW.block g h.lt)
  obtain ⟨p, c, rfl⟩ := hx.kids.slice
  by_cases h5 : x.k = 5
  · have e : x.pat = (bareB x false true false false && nameA x.s) := by rw [pat_eq]; simp [leafB, h5]
    rw [e]
    exact asks5_any h h5 ((arr_cell hb).trans rfl) fun W hW => lf1_any (hk8 W hW) hwf
  by_cases h6 : x.k = 6
  · have e : x.pat = (bareB x true false false false && mayI x.n) := by rw [pat_eq]; simp [leafB, h6]
    rw [e]
    exact asks6_any h h6 ((arr_cell hb).trans rfl) fun W hW => lf2_any (hk8 W hW)
  by_cases h7 : x.k = 7
  · have e : x.pat = (bareB x false true false false && atomN x.s) := by rw [pat_eq]; simp [leafB, h7]
    rw [e]
    exact asks7_any h h7 ((arr_cell hb).trans rfl) fun W hW => lf3_any (hL.under hW) (hk8 W hW) hwf
  by_cases h8 : x.k = 8
  · have e : x.pat = bareB x false false false false := by rw [pat_eq]; simp [leafB, h8]
    rw [e]
    exact asks8_any h h8 ((arr_cell hb).trans rfl) fun W hW => lf4_any (hk8 W hW)
  have hmk : ∀ W, Below w.heap.size w W → W.cell? ⟨bm, 0, none⟩ = some (.func (Fn.func 160) #[] #[]) := fun W hW => (hW.cell (p := ⟨bm, 0, none⟩) (cell_block hm)).trans hm
  by_cases h10 : x.k = 10
  · have e : x.pat = (bareB x false false false true && x.l.all Tr.pat) := by rw [pat_eq, patl_all]; simp [leafB, h10]
    rw [e]
    exact asks10_any h h10 ((arr_cell hb).trans rfl) fun W hW => pt1_any (hk8 W hW) (hx.below hW) (hmk W hW) fun y hy => (hf y hy).under hW
  by_cases h9 : x.k = 9
  · have e : x.pat = (bareB x false false false true && ((x.l.length : Int) == 2 && x.l.all Tr.pat)) := by
      rw [pat_eq, patl_all]; simp [leafB, h9]
      cases bareB x false false false true <;> simp
    rw [e]
    exact asks9_any h h9 ((arr_cell hb).trans rfl) fun W hW => pt2_any (hk8 W hW) (hx.below hW) (hmk W hW) fun y hy => (hf y hy).under hW
  have e : x.pat = false := by
    rw [pat_eq]; simp [leafB, h5, h6, h7, h8, h9, h10]
  rw [e]
  by_cases hr : x.k < 0 ∨ 22 ≤ x.k
  · exact asksOut_any h hr hwf
  · refine asksNil_any h (by omega) (by omega) ((arr_cell hb).trans ?_)
    obtain ⟨k, hk⟩ : ∃ k : Nat, x.k = (k : Int) := ⟨x.k.toNat, by omega⟩
    rw [hk] at h5 h6 h7 h8 h9 h10 hr ⊢
    rw [Int.toNat_natCast]
    have : k < 22 := by omega
    have hc : k = 0 ∨ k = 1 ∨ k = 2 ∨ k = 3 ∨ k = 4 ∨ k = 11 ∨ k = 12 ∨ k = 13 ∨ k = 14 ∨ k = 15 ∨ k = 16 ∨ k = 17 ∨ k = 18 ∨ k = 19 ∨ k = 20 ∨ k = 21 := by omega
    rcases hc with rfl | rfl | rfl | rfl | rfl | rfl | rfl | rfl | rfl | rfl | rfl | rfl | rfl | rfl | rfl | rfl <;> rfl

set_option maxHeartbeats 4000000 in
set_option maxRecDepth 100000 in
theorem pat_rule (x : Tr) : ∀ {F : Nat → Prop} {w : World}, Letters w → RuleSays F 160 Tr.pat w x := by
  induction x using Tr.ind with
  | h x ih =>
    intro F w0 hL0 w g o sv hW h hx
    have hL := hL0.under hW
    clear hL0 hW
    have cL := leaves_any w
    go_enter Tryz.func160, Tryz.ntmps160
    go_upto_region 2 with (first
      | (go_at_call 148; refine cL.mono ?_; rintro e w1 ⟨rfl, hb1⟩; have hn : (w1.alloc (.cells #[.nilFunc, .nilFunc, .nilFunc, .nilFunc, .nilFunc, .nilFunc, .nilFunc, .nilFunc, .nilFunc, .nilFunc, .nilFunc, .nilFunc, .nilFunc, .nilFunc, .nilFunc, .nilFunc, .nilFunc, .nilFunc, .nilFunc, .nilFunc, .nilFunc, .nilFunc] 144)).heap[w1.heap.size]? = some (.cells nil22 144 (0, 0)) := heap_new w1 (.cells #[.nilFunc, .nilFunc, .nilFunc, .nilFunc, .nilFunc, .nilFunc, .nilFunc, .nilFunc, .nilFunc, .nilFunc, .nilFunc, .nilFunc, .nilFunc, .nilFunc, .nilFunc, .nilFunc, .nilFunc, .nilFunc, .nilFunc, .nilFunc, .nilFunc, .nilFunc] 144); have hb2 := alloc_below w1 (.cells #[.nilFunc, .nilFunc, .nilFunc, .nilFunc, .nilFunc, .nilFunc, .nilFunc, .nilFunc, .nilFunc, .nilFunc, .nilFunc, .nilFunc, .nilFunc, .nilFunc, .nilFunc, .nilFunc, .nilFunc, .nilFunc, .nilFunc, .nilFunc, .nilFunc, .nilFunc] 144))
      | refine wpList_store_row rfl 144 _ _ rfl w1.heap.size leavesV (by kernel_rfl) (by kernel_rfl) 144 nil22 hn size22 (by kernel_rfl) (by kernel_rfl) ?_)
    have hr := setRow_heap' (cells := leavesV) hn
    have hB := below_setRow (cells := leavesV) hb2 (Nat.le_refl _)
    clear hn hb2 cL
    generalize (w1.alloc (.cells #[.nilFunc, .nilFunc, .nilFunc, .nilFunc, .nilFunc, .nilFunc, .nilFunc, .nilFunc, .nilFunc, .nilFunc, .nilFunc, .nilFunc, .nilFunc, .nilFunc, .nilFunc, .nilFunc, .nilFunc, .nilFunc, .nilFunc, .nilFunc, .nilFunc, .nilFunc] 144)).setRow w1.heap.size leavesV = w2 at hr hB ⊢
    have hB2 : Below w.heap.size w w2 := hb1.trans (hB.mono hb1.size)
    have cP := parts_any hr
    have h3 : ∀ W, Turn (· = w1.heap.size) w2 W → Below w.heap.size w W := fun W hT => hB2.trans (hT.below hB2.size fun k hk => by have := hb1.size; omega)
    have cA := fun (W : World) (hT : Turn (· = w1.heap.size) w2 W) (h1 : W.heap[w1.heap.size]? = some (.cells (partsV w2.heap.size) 144 (0, 0))) (h2 : W.cell? ⟨w2.heap.size, 0, none⟩ = some (.func (Fn.func 160) #[] #[])) =>
      asksPat_any (hL.under (h3 W hT)) (h.keep ((h3 W hT).block g h.lt)) (hx.below (h3 W hT)) h1 h2 fun y hy => ih y hy (hL.under (h3 W hT))
    clear hr hL h hx ih
    go_wp2_with (first
      | (go_at_call 149; refine cP.mono ?_; rintro e w3 ⟨rfl, hc3, hr3, hT3⟩; have cA3 := cA w3 hT3 hr3 hc3; have hB3 := h3 w3 hT3)
      | (go_at_call 145; refine cA3.mono ?_; rintro e w4 ⟨rfl, hb4⟩))
    go_ret
    exact ⟨rfl, hB3.trans (hb4.mono hB3.size)⟩
end Go.Proofs.YtlhobpknflobgaaGreatDoor
namespace Go.Proofs.YtlhobpknflobgaaGreatDoor
open Go.RowKit

set_option maxHeartbeats 4000000 in
set_option maxRecDepth 100000 in
theorem pattern_any {F : Nat → Prop} {x : Tr} {w : World} {sv : Value} (hL : Letters w) (hx : TrV F w x sv) :
    Calls Tryz.prog 123 #[.agg #[.int .i8 x.k, .int .i64 x.n, .string x.s, .string x.t, sv]] w fun e w' => e = .returned (.bool (patB x)) ∧ Below w.heap.size w w' := by
  obtain ⟨p, c, rfl⟩ := hx.kids.slice
  obtain ⟨hb1, hz1, hn1⟩ := node_box w 25 x.k x.n x.s x.t (.slice p x.l.length c)
  have hx1 := hx.below hb1
  have hL1 := hL.under hb1
  clear hx hL
  have hn1 : NodeAt (w.alloc (.cells #[.int .i8 x.k, .int .i64 x.n, .string x.s, .string x.t, .slice p x.l.length c] 25)) w.heap.size 0 x (.slice p x.l.length c) := ⟨hn1.k, hn1.n, hn1.s, hn1.t, hn1.l⟩
  go_enter Tryz.func123, Tryz.ntmps123
  go_upto_region 1 with fail
  generalize w.alloc (.cells #[.int .i8 x.k, .int .i64 x.n, .string x.s, .string x.t, .slice p x.l.length c] 25) = w1 at hb1 hz1 hn1 hx1 hL1 ⊢
  have cM := measure_any hn1 hx1
  have cF := fun W => sfits_any W (x.sz 4097) (x.dp 65)
  have cP := fun (W : World) (hb : Below w1.heap.size w1 W) => pat_rule x hL1 W w.heap.size 0 (.slice p x.l.length c) hb (hn1.keep (hb.block _ hn1.lt)) (hx1.below hb)
  clear hL1 hn1 hx1
  obtain ⟨q, hq⟩ : ∃ q, fitsB x = q := ⟨_, rfl⟩
  have cF : ∀ W, Calls Tryz.prog 95 #[.agg #[.int .i64 (x.sz 4097), .int .i64 (x.dp 65)]] W fun e w' => e = .returned (.bool q) ∧ Below W.heap.size W w' := by rw [← hq]; exact cF
  have HQ : Hid (fitsB x = q) := Lib.hid hq
  clear hq
  generalize x.sz 4097 = zz at cM cF
  generalize x.dp 65 = dd at cM cF
  cases q
  all_goals
    go_wp2_with (first
      | (go_at_call 94; refine cM.mono ?_; rintro e w5 ⟨rfl, hb5⟩)
      | (go_at_call 95; refine (cF w5).mono ?_; rintro e w6 ⟨rfl, hb6⟩; have hB6 := hb5.trans (hb6.mono hb5.size))
      | (go_at_call 160; refine (cP _ hB6).mono ?_; rintro e w7 ⟨rfl, hb7⟩; have hB7 := hB6.trans (hb7.mono hB6.size)))
  · go_ret
    exact ⟨by unfold patB; rw [HQ.out]; rfl, hb1.trans (hB6.mono hb1.size)⟩
  · go_ret
    exact ⟨by unfold patB; rw [HQ.out]; rfl, hb1.trans (hB7.mono hb1.size)⟩
end Go.Proofs.YtlhobpknflobgaaGreatDoor
