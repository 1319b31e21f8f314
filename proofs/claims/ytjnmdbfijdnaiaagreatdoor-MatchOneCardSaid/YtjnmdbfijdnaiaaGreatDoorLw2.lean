/-
  pleachlaw10.wakes: what the document says of a pattern that names one part twice holds of the program. Condition: the table of letters is as it was laid.
-/
import Derived.Test.YtjnmdbfijdnaiaaGreatDoorLw1
namespace Go.Proofs.YtjnmdbfijdnaiaaGreatDoor
open Go.RowKit

def xS : ByteArray := ⟨#[88]⟩
def patX : Tr := .mk 10 0 eS eS [vT xS, vT xS]
theorem wake1 : allS [patX] [twoT 1 1] [] = ([⟨xS, iT 1⟩], true, 0) := by
  have hp : patB patX = true := by decide +kernel
  have hc : chkT (twoT 1 1) = 0 := by decide +kernel
  have hf : bfind [⟨xS, iT 1⟩] xS = some (iT 1) := by
    unfold bfind
    simp
  have hs : (iT 1).same (iT 1) = true := by decide +kernel
  have hu : undB xS = false := by decide +kernel
  rw [allS_one]
  unfold matchS
  rw [hp, hc]
  have hg : patX.go (twoT 1 1) [] = some [⟨xS, iT 1⟩] := by
    have h1 : (vT xS).go (iT 1) [] = some [⟨xS, iT 1⟩] := by rw [go_var (by rfl)]; show (if undB xS = true then _ else _) = _; rw [hu]; rfl
    have h2 : (vT xS).go (iT 1) [⟨xS, iT 1⟩] = some [⟨xS, iT 1⟩] := by
      rw [go_var (by rfl)]
      show (if undB xS = true then _ else match bfind _ xS with | some y => _ | none => _) = _
      rw [hu, hf]
      simp [hs]
    have hw : patX.go (twoT 1 1) [] = wholeS 5 patX (twoT 1 1) [] := go_whole (by decide +kernel) hc (.inr ⟨rfl, rfl⟩)
    rw [hw]
    unfold wholeS
    rw [if_pos ⟨rfl, rfl⟩]
    show Tr.go.gol [vT xS, vT xS] [iT 1, iT 1] [] = _
    rw [Tr.go.gol, h1]
    show Tr.go.gol [vT xS] [iT 1] [⟨xS, iT 1⟩] = _
    rw [Tr.go.gol, h2]
    rfl
  unfold goR
  rw [hg]
  rfl
theorem wake2 : allS [patX] [twoT 1 2] [] = ([], false, 0) := by
  have hp : patB patX = true := by decide +kernel
  have hc : chkT (twoT 1 2) = 0 := by decide +kernel
  have hg : patX.go (twoT 1 2) [] = none := by
    have : (patX.go (twoT 1 2) []).isNone = true := by decide +kernel
    simpa using this
  rw [allS_one]
  unfold matchS
  rw [hp, hc]
  unfold goR
  rw [hg]
  rfl

set_option maxHeartbeats 4000000 in
set_option maxRecDepth 100000 in
theorem wakes_any {w : World} (hL : Letters w) : Calls Tryz.prog 8 #[] w fun e w' => e = .returned (.bool true) ∧ Below w.heap.size w w' := by
  go_enter Tryz.func8, Tryz.ntmps8
  go_upto_region 2 with (first
    | (go_at_call 22; refine (v_any w ⟨#[88]⟩).mono ?_; rintro e w5 ⟨rfl, hb5⟩)
    | (go_at_call 22; refine (v_any w5 ⟨#[88]⟩).mono ?_; rintro e w6 ⟨rfl, hb6⟩))
  obtain ⟨n1, n2, hb7, hz7⟩ := two_new w6 (.cells #[.int .i8 5, .int .i64 0, .string ⟨#[88]⟩, .string ⟨#[]⟩, .slice none 0 0, .int .i8 5, .int .i64 0, .string ⟨#[88]⟩, .string ⟨#[]⟩, .slice none 0 0] 25) (.cells #[.int .i8 10, .int .i64 0, .string ⟨#[]⟩, .string ⟨#[]⟩, .slice (some ⟨w6.heap.size, 0, none⟩) 2 2] 25)
  generalize (w6.alloc (.cells #[.int .i8 5, .int .i64 0, .string ⟨#[88]⟩, .string ⟨#[]⟩, .slice none 0 0, .int .i8 5, .int .i64 0, .string ⟨#[88]⟩, .string ⟨#[]⟩, .slice none 0 0] 25)).alloc (.cells #[.int .i8 10, .int .i64 0, .string ⟨#[]⟩, .string ⟨#[]⟩, .slice (some ⟨w6.heap.size, 0, none⟩) 2 2] 25) = w7 at n1 n2 hb7 hz7 ⊢
  have hB7 := (hb5.trans (hb6.mono hb5.size)).trans (hb7.mono (hb5.trans (hb6.mono hb5.size)).size)
  have hc : ∀ o u, (#[.int .i8 5, .int .i64 0, .string ⟨#[88]⟩, .string ⟨#[]⟩, .slice none 0 0, .int .i8 5, .int .i64 0, .string ⟨#[88]⟩, .string ⟨#[]⟩, .slice none 0 0] : Array Value)[o]? = some u → w7.cell? ⟨w6.heap.size, o, none⟩ = some u := fun o u h => (arr_cell n1).trans h
  have hd' : ∀ o u, (#[.int .i8 10, .int .i64 0, .string ⟨#[]⟩, .string ⟨#[]⟩, .slice (some ⟨w6.heap.size, 0, none⟩) 2 2] : Array Value)[o]? = some u → w7.cell? ⟨w6.heap.size + 1, o, none⟩ = some u := fun o u h => (arr_cell n2).trans h
  have hv : ∀ W, TrV (fun _ => True) W (vT xS) (.slice none 0 0) := fun W => ⟨wf_small _ _ _ _ _ (by decide) (by decide) (by decide) (by decide), Kids.nil _ _⟩
  have hp7 : TrV (fun _ => True) w7 patX (.slice (some ⟨w6.heap.size, 0, none⟩) 2 2) := ⟨wf_small _ _ _ _ _ (by decide) (by decide) (by decide) (by decide), kids_two (F := fun _ => True) (x := vT xS) (y := vT xS) ⟨hc 0 _ rfl, hc 1 _ rfl, hc 2 _ rfl, hc 3 _ rfl, hc 4 _ rfl⟩ ⟨hc 5 _ rfl, hc 6 _ rfl, hc 7 _ rfl, hc 8 _ rfl, hc 9 _ rfl⟩ (hv _) (hv _) trivial⟩
  have HL7 := Lib.hid (hL.under hB7)
  have hS : ∀ W : World, Below w7.heap.size w7 W → W.cell? ⟨w6.heap.size + 1, 0, none⟩ = some (.int .i8 10) ∧ W.cell? ⟨w6.heap.size + 1, 1, none⟩ = some (.int .i64 0) ∧ W.cell? ⟨w6.heap.size + 1, 2, none⟩ = some (.string ⟨#[]⟩) ∧ W.cell? ⟨w6.heap.size + 1, 3, none⟩ = some (.string ⟨#[]⟩) ∧ W.cell? ⟨w6.heap.size + 1, 4, none⟩ = some (.slice (some ⟨w6.heap.size, 0, none⟩) 2 2) := by
    intro W hb
    have f : ∀ o u, w7.cell? ⟨w6.heap.size + 1, o, none⟩ = some u → W.cell? ⟨w6.heap.size + 1, o, none⟩ = some u := fun o u h => (hb.cell (p := ⟨w6.heap.size + 1, o, none⟩) (cell_block h)).trans h
    exact ⟨f _ _ (hd' 0 _ rfl), f _ _ (hd' 1 _ rfl), f _ _ (hd' 2 _ rfl), f _ _ (hd' 3 _ rfl), f _ _ (hd' 4 _ rfl)⟩
  have hK := Below.refl w7.heap.size w7
  have hd : Below w7.heap.size w7 w7.drew := below_drewN (Below.refl _ _) 1
  have hS0 := hS w7 (Below.refl _ _)
  clear n1 n2 hc hd' hv hb5 hb6 hL hz7
  go_region_held3 (fun W => W.cell? ⟨w6.heap.size + 1, 0, none⟩ = some (.int .i8 10) ∧ W.cell? ⟨w6.heap.size + 1, 1, none⟩ = some (.int .i64 0) ∧ W.cell? ⟨w6.heap.size + 1, 2, none⟩ = some (.string ⟨#[]⟩) ∧ W.cell? ⟨w6.heap.size + 1, 3, none⟩ = some (.string ⟨#[]⟩) ∧ W.cell? ⟨w6.heap.size + 1, 4, none⟩ = some (.slice (some ⟨w6.heap.size, 0, none⟩) 2 2)) (first | exact hS0 | exact hS1 | exact hS2) (first
    | (go_at_call 23; refine (two_any _ 1 1 (by decide) (by decide)).mono ?_; rintro e w8 ⟨sv8, rfl, ht8, hb8⟩
       have hB8 := hd.trans (hb8.mono hd.size)
       have hS1 := hS _ (hK.trans (hB8.mono hK.size)))
    | (go_at_call 9; refine (mmatch_any (F := fun _ => True) (p := patX) (x := twoT 1 1) (l := []) ⟨(HL7.out.under hK).under hB8, fun _ _ => trivial, (hp7.below hK).below hB8, ht8, Binds.nil _ _⟩).mono ?_; rintro e w9 ⟨v9, l9, ok9, er9, rfl, hl9, hb9, hq9⟩
       have hB9 := hB8.trans (hb9.mono hB8.size)
       have hS2 := hS _ (hK.trans (hB9.mono hK.size))
       rw [wake1] at hq9
       cases hq9
       obtain ⟨p9, c9, rfl⟩ := hl9.slice))
  have hl1 := hl9
  obtain ⟨g, o, sv, e1, _, c0, _, ⟨c1, c2, c3, c4, c5⟩, _⟩ := hl9.at (i := 0) (by decide)
  cases e1
  clear hl9 hK hS0
  have hK := hB9
  clear hS1 hS2
  have hS0 := hS _ hK
  have hd : Below w9.heap.size w9 w9.drew := below_drewN (Below.refl _ _) 1
  clear ht8 hb8 hB8 hb9 hB9 hl1
  have c0' : w9.cell? ⟨g, o, none⟩ = some (.string xS) := by simpa using c0
  have c2' : w9.cell? ⟨g, o + 1 + 1, none⟩ = some (.int .i64 1) := by simpa [iT, Tr.n] using c2
  clear c0 c1 c2 c3 c4 c5
  go_wp2_with fail
  go_region_held3 (fun W => W.cell? ⟨w6.heap.size + 1, 0, none⟩ = some (.int .i8 10) ∧ W.cell? ⟨w6.heap.size + 1, 1, none⟩ = some (.int .i64 0) ∧ W.cell? ⟨w6.heap.size + 1, 2, none⟩ = some (.string ⟨#[]⟩) ∧ W.cell? ⟨w6.heap.size + 1, 3, none⟩ = some (.string ⟨#[]⟩) ∧ W.cell? ⟨w6.heap.size + 1, 4, none⟩ = some (.slice (some ⟨w6.heap.size, 0, none⟩) 2 2)) (first | exact hS0 | exact hS1 | exact hS2) (first
    | (go_at_call 23; refine (two_any _ 1 2 (by decide) (by decide)).mono ?_; rintro e w10 ⟨sv8, rfl, ht8, hb8⟩
       have hB8 := hd.trans (hb8.mono hd.size)
       have hS1 := hS _ (hK.trans (hB8.mono hK.size)))
    | (go_at_call 9; refine (mmatch_any (F := fun _ => True) (p := patX) (x := twoT 1 2) (l := []) ⟨(HL7.out.under hK).under hB8, fun _ _ => trivial, (hp7.below hK).below hB8, ht8, Binds.nil _ _⟩).mono ?_; rintro e w11 ⟨v9, l9, ok9, er9, rfl, hl9, hb9, hq9⟩
       have hB9 := hB8.trans (hb9.mono hB8.size)
       have hS2 := hS _ (hK.trans (hB9.mono hK.size))
       rw [wake2] at hq9
       cases hq9
       obtain ⟨p9, c9, rfl⟩ := hl9.slice))
  have d0 : w11.cell? ⟨g, o, none⟩ = some (.string ⟨#[88]⟩) := (hB9.cell (p := ⟨g, o, none⟩) (cell_block c0')).trans c0'
  have d2 : w11.cell? ⟨g, o + 1 + 1, none⟩ = some (.int .i64 1) := (hB9.cell (p := ⟨g, o + 1 + 1, none⟩) (cell_block c2')).trans c2'
  have hfin : Below w.heap.size w w11 := hB7.trans ((hK.trans (hB9.mono hK.size)).mono hB7.size)
  have HF := Lib.hid hfin
  clear c0' c2' hS1 hS2 hS0 hfin
  go_wp2
  trace_state
  go_ret
  exact ⟨rfl, HF.out⟩
end Go.Proofs.YtjnmdbfijdnaiaaGreatDoor
