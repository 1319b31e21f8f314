/-
  pleachlaw10.Great, v, two; pleachref03.Int. Conditions: the names lie as 'Binds' says.
  pleachlaw10.wakes: what the document says of a pattern that names one part twice holds of the program. Condition: the table of letters is as it was laid.
-/
import Derived.Test.YtlhobpknflobgaaGreatDoorS18
namespace Go.Proofs.YtlhobpknflobgaaGreatDoor
open Go.RowKit

def eS : ByteArray := ⟨#[]⟩
def iT (n : Int) : Tr := .mk 0 n eS eS []
def vT (s : ByteArray) : Tr := .mk 5 0 s eS []
def twoT (a b : Int) : Tr := .mk 5 0 eS eS [iT a, iT b]
/-- Names that are too many, or too great. -/
def greatB (l : List Bd) : Bool := decide (200 < l.length) || l.any fun b => decide (1024 ≤ b.t.sz 1024)

set_option maxHeartbeats 2000000 in
set_option maxRecDepth 100000 in
theorem greatL_any {F : Nat → Prop} {w : World} {v : Value} {l : List Bd} (hl : Binds F w v l) :
    Calls Tryz.prog 32 #[v] w fun e w' => e = .returned (.bool (greatB l)) ∧ Below w.heap.size w w' := by
  have hlen : l.length ≤ 2199023255552 := hl.len
  obtain ⟨p, c, rfl⟩ := hl.slice
  have HL := Lib.hid hl
  have HM := Lib.hid (show greatB l = (decide (200 < l.length) || l.any fun b => decide (1024 ≤ b.t.sz 1024)) from rfl)
  clear hl
  by_cases h : (200 : Int) < l.length
  · go_enter Tryz.func32, Tryz.ntmps32
    go_wp2_with fail
    go_ret
    exact ⟨by rw [HM.out, decide_eq_true (by omega)]; rfl, Below.refl _ _⟩
  have HM2 := Lib.hid (HM.out.trans (by rw [decide_eq_false (by omega)]; rfl : _ = l.any fun b => decide (1024 ≤ b.t.sz 1024)))
  clear HM
  go_enter Tryz.func32, Tryz.ntmps32
  go_wp2_with fail
  go_loopw [3] (fun i wr => ∃ k : Nat, k ≤ l.length ∧ i = .int .i64 k ∧ (l.take k).any (fun b => decide (1024 ≤ b.t.sz 1024)) = false ∧ Below w.heap.size w wr) (fun i _ => l.length - (intOf i).toNat)
  case atStart => exact ⟨0, Nat.zero_le _, rfl, rfl, Below.refl _ _⟩
  case round =>
    obtain ⟨k, hk, rfl, hall, hbr⟩ := hrel
    by_cases hlt : k < l.length
    · obtain ⟨g, o, kv, rfl, _, hs0, hsz, ⟨a0, a1, a2, a3, a4⟩, hkid⟩ := (HL.out.under hbr).at hlt
      have cG := greatT_any hkid
      have hstop : decide (1024 ≤ l[k].t.sz 1024) = true → Hid (greatB l = true) := fun h => by
        unfold Hid; rw [HM2.out]; exact any_at hlt h
      have hnext : decide (1024 ≤ l[k].t.sz 1024) = false → Hid ((l.take (k + 1)).any (fun b => decide (1024 ≤ b.t.sz 1024)) = false) := fun h => any_take (P := fun b : Bd => decide (1024 ≤ b.t.sz 1024)) hlt hall h
      clear hall hkid
      generalize decide (1024 ≤ l[k].t.sz 1024) = q at cG hstop hnext
      cases q
      · have HN := hnext rfl
        clear hstop hnext
        go_wp2_with (go_at_call 37; refine cG.mono ?_; rintro e w5 ⟨rfl, hb5⟩)
        go_roundw
        case rel => exact ⟨k + 1, hlt, by go_num, HN.out, hbr.trans (hb5.mono hbr.size)⟩
        case measure => simp [intOf]; omega
      · have HS := hstop rfl
        clear hstop hnext
        go_wp2_with (go_at_call 37; refine cG.mono ?_; rintro e w5 ⟨rfl, hb5⟩)
        go_ret
        exact ⟨by rw [HS.out]; rfl, hbr.trans (hb5.mono hbr.size)⟩
    · rw [List.take_of_length_le (by omega)] at hall
      have HN : Hid (greatB l = false) := by unfold Hid; rw [HM2.out, hall]
      clear hall
      go_wp2
      go_ret
      exact ⟨by rw [HN.out]; rfl, hbr⟩

theorem size25 (x : Tr) (sv : Value) : (Tryz.prog.info? 25).map (·.size) = some (cells5 x sv).size := by kernel_rfl

set_option maxHeartbeats 1000000 in
set_option maxRecDepth 100000 in
theorem int_any (w : World) (n : Int) : Calls Tryz.prog 71 #[.int .i64 n] w fun e w' => e = .returned (.agg #[.int .i8 0, .int .i64 n, .string ⟨#[]⟩, .string ⟨#[]⟩, .slice none 0 0]) ∧ Below w.heap.size w w' := by
  have hn : (w.alloc (.cells #[.int .i8 0, .int .i64 0, .string ⟨#[]⟩, .string ⟨#[]⟩, .slice none 0 0] 29)).heap[w.heap.size]? = some (.cells (cells5 zeroT (.slice none 0 0)) 29 (0, 0)) := heap_new w _
  have hb := alloc_below w (.cells #[.int .i8 0, .int .i64 0, .string ⟨#[]⟩, .string ⟨#[]⟩, .slice none 0 0] 29)
  go_enter Tryz.func71, Tryz.ntmps71
  go_upto_region 1 with fail
  generalize w.alloc (.cells #[.int .i8 0, .int .i64 0, .string ⟨#[]⟩, .string ⟨#[]⟩, .slice none 0 0] 29) = w1 at hn hb ⊢
  have hr := setRow_heap' (cells := cells5 (iT n) (.slice none 0 0)) hn
  have hB := below_setRow (cells := cells5 (iT n) (.slice none 0 0)) hb (Nat.le_refl _)
  go_wp2_with (refine wpList_store_row rfl 29 _ _ rfl w.heap.size (cells5 (iT n) (.slice none 0 0)) (by kernel_rfl) (by kernel_rfl) 29 (cells5 zeroT (.slice none 0 0)) hn (size28 _ _) (by kernel_rfl) (by kernel_rfl) ?_)
  refine bodyPost_ret (v := .agg (cells5 (iT n) (.slice none 0 0))) (results_cell_row Tryz.results71 _ _ w.heap.size 29 (cells5 (iT n) (.slice none 0 0)) (0, 0) _ rfl hr Tryz.underlying29 rfl (size28 _ _)) rfl ⟨rfl, hB⟩

theorem setRow_other {X : World} {g i : Nat} {cells : Array Value} (h : i ≠ g) : (X.setRow g cells).heap[i]? = X.heap[i]? := by
  simp [World.setRow, Array.getElem?_modify]
  omega
theorem wf_small (k n : Int) (s t : ByteArray) (l : List Tr) (h1 : (Lit.int .i8 k).wf = true) (h2 : (Lit.int .i64 n).wf = true) (h3 : s.size ≤ 64) (h4 : t.size ≤ 64) : NodeWf (.mk k n s t l) := ⟨h1, h2, by show s.size ≤ _; unfold BL; omega, by show t.size ≤ _; unfold BL; omega⟩
theorem kids_two {F : Nat → Prop} {w : World} {g : Nat} {x y : Tr} {sv tv : Value} (hx : NodeAt w g 0 x sv) (hy : NodeAt w g 5 y tv) (hxv : TrV F w x sv) (hyv : TrV F w y tv) (hg : F g) : Kids F w (.slice (some ⟨g, 0, none⟩) 2 2) [x, y] :=
  .mk _ 2 [x, y] (fun i => if i = 0 then sv else tv) (Nat.le_refl _) (by simp [BL])
    (fun i hi => match i, hi with | 0, _ => hxv.wf | 1, _ => hyv.wf)
    (fun i hi => match i, hi with | 0, _ => ⟨g, 0, rfl, hg, hx⟩ | 1, _ => ⟨g, 0, rfl, hg, hy⟩)
    (fun i hi => match i, hi with | 0, _ => hxv.kids | 1, _ => hyv.kids)

end Go.Proofs.YtlhobpknflobgaaGreatDoor
namespace Go.Proofs.YtlhobpknflobgaaGreatDoor
open Go.RowKit

def xS : ByteArray := ⟨#[88]⟩
def patX : Tr := .mk 10 0 eS eS [vT xS, vT xS]
theorem wake1 : allS [patX] [twoT 1 1] [] = ([⟨xS, iT 1⟩], true, 0) := by
  have hp : patB patX = true := by decide +kernel
  have hc : chkT (twoT 1 1) = 0 := by decide +kernel
  have hf : bfind [⟨xS, iT 1⟩] xS = some (iT 1) := by
    unfold bfind
    simp
  have hs : (iT 1).same (iT 1) = true := by decide +kernel
  have hu : undB xS = false := by decide +kernel
  rw [allS_one]
  unfold matchS
  rw [hp, hc]
  have hg : patX.go (twoT 1 1) [] = some [⟨xS, iT 1⟩] := by
    have h1 : (vT xS).go (iT 1) [] = some [⟨xS, iT 1⟩] := by rw [go_var (by rfl)]; show (if undB xS = true then _ else _) = _; rw [hu]; rfl
    have h2 : (vT xS).go (iT 1) [⟨xS, iT 1⟩] = some [⟨xS, iT 1⟩] := by
      rw [go_var (by rfl)]
      show (if undB xS = true then _ else match bfind _ xS with | some y => _ | none => _) = _
      rw [hu, hf]
      simp [hs]
    have hw : patX.go (twoT 1 1) [] = wholeS 5 patX (twoT 1 1) [] := go_whole (by decide +kernel) hc (.inr ⟨rfl, rfl⟩)
    rw [hw]
    unfold wholeS
    rw [if_pos ⟨rfl, rfl⟩]
    show Tr.go.gol [vT xS, vT xS] [iT 1, iT 1] [] = _
    rw [Tr.go.gol, h1]
    show Tr.go.gol [vT xS] [iT 1] [⟨xS, iT 1⟩] = _
    rw [Tr.go.gol, h2]
    rfl
  unfold goR
  rw [hg]
  rfl
theorem wake2 : allS [patX] [twoT 1 2] [] = ([], false, 0) := by
  have hp : patB patX = true := by decide +kernel
  have hc : chkT (twoT 1 2) = 0 := by decide +kernel
  have hg : patX.go (twoT 1 2) [] = none := by
    have : (patX.go (twoT 1 2) []).isNone = true := by decide +kernel
    simpa using this
  rw [allS_one]
  unfold matchS
  rw [hp, hc]
  unfold goR
  rw [hg]
  rfl

end Go.Proofs.YtlhobpknflobgaaGreatDoor
