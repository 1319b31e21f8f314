/-
  TreeWhy's arguments, opened out of what their row hands over; its variables, out of what the row lays. No condition.
-/
import Derived.Test.YtfabiccdolpemaaGreatDoorLd1
import Derived.Test.YtfabiccdolpemaaGreatDoorRd1
import Derived.Test.YtfabiccdolpemaaGreatDoorTw4
import Derived.Test.YtfabiccdolpemaaGreatDoorChecked
import Derived.Test.YtfabiccdolpemaaGreatDoorRows
import Derived.ProofKit
import Derived.LaidMore
import Derived.OpenShut
import Derived.ChangeSame
import Derived.SizedLaws
import Derived.Lib.SmallJoins
import Derived.Deep.Slices
import Derived.WalkKit
import Derived.Stop.Joined
namespace Go.Proofs.YtfabiccdolpemaaGreatDoor.Rdb
set_option maxRecDepth 100000
open Go.ChangeShapes Go.WideShapes Go.ChangeAt Go.RowKit Go.Joins Go.Deep

theorem laidOut : laidOutB Tryz.prog = true := by kernel_rfl

section
variable {H : Type} {enc : TypeId × Value → H} {W W' : World}
theorem trodAll_below (hb : Below W.heap.size W W') : ∀ (ts : List TypeId) (vs : List Value) (ds : List (DataW H)) (ps : List MemPlace), (∀ t ∈ ts, Tryz.prog.readableRec t = true ∧ t < Tryz.prog.types.size) →
    DataW.TrodAll enc Tryz.prog W 0 (fun _ => true) true ts vs ds ps → (∀ x ∈ ps, x.block < W.heap.size) → DataW.TrodAll enc Tryz.prog W' 0 (fun b => decide (b < W.heap.size)) true ts vs ds ps
  | [], [], [], _, _, h, _ => h
  | t :: ts, v :: vs, d :: ds, ps, ht, h, hlt => by
    obtain ⟨p, q, h1, h2, rfl⟩ := h
    obtain ⟨hr, hrow⟩ := ht t (by simp)
    exact ⟨p, q, Below.trod laidOut hr hrow h1 hb (fun x hx => hlt x (List.mem_append_left _ hx)), trodAll_below hb ts vs ds q (fun t h => ht t (List.mem_cons_of_mem _ h)) h2 (fun x hx => hlt x (List.mem_append_right _ hx)), rfl⟩
  | [], _ :: _, _, _, _, h, _ => h.elim
  | [], [], _ :: _, _, _, h, _ => h.elim
  | _ :: _, [], _, _, _, h, _ => h.elim
  | _ :: _, _ :: _, [], _, _, h, _ => h.elim

/-- What a law's row asks behind the call. -/
theorem law_post {f : Func} {s : ChangeSpec} {tb : TypeId} {args : Array Value} {ds gs : List (DataW H)} {before : List MemPlace} (hvs : s.vars = []) (hres : f.resultTypes = #[tb]) (htb : Tryz.prog.underlying tb = some .bool)
    (hty : ∀ t ∈ f.params.toList, Tryz.prog.readableRec t = true ∧ t < Tryz.prog.types.size) (hW : DataW.Whole enc Tryz.prog f.params.toList s.vars false W args.toList ds gs before) (hfn : s.fn H (ds ++ gs) = { results := [.lit (.bool true)], args := ds }) (hb : Below W.heap.size W W') :
    s.post enc Tryz.prog f false true false false W args (.bool true) W' := by
  have hlt := hW.lt
  have hW' := hW
  obtain ⟨p, q, hA, hV, rfl, _, _⟩ := hW
  rw [hvs] at hV
  obtain ⟨rfl, rfl⟩ := trodVars_none hV
  refine ⟨ds, [], p ++ [], [], p, [], hW', ?_, ?_, ?_, hb.frame _, fun h => by cases h⟩
  · rw [hfn, hres]
    exact trodAll_mk1 (shut_bool htb true)
  · rw [hfn]
    exact trodAll_below hb _ _ _ _ hty hA fun x hx => hlt x (List.mem_append_left _ hx)
  · rw [hvs, hfn]
    exact rfl
end
theorem own : ownKnob Tryz.prog.godebug = none := by kernel_rfl
theorem fld {fs : Array Field} {L : List (TypeId × Nat)} (h : fs.toList.map (fun f => (f.type, f.offset)) = L) {i t o : Nat} (hi : L[i]? = some (t, o)) : ∃ f, fs[i]? = some f ∧ f.type = t ∧ f.offset = o := by
  subst h
  simp only [List.getElem?_map, Option.map_eq_some_iff, Prod.mk.injEq] at hi
  obtain ⟨f, h1, h2, h3⟩ := hi
  exact ⟨f, by simpa using h1, h2, h3⟩
/-- A struct's field. -/
theorem rd_field {P : Program} {w : World} {n : Nat} {T : TypeId} {fs : Array Field} {cs : List Value} (h : P.underlying T = some (.struct fs)) {L : List (TypeId × Nat)} (hL : fs.toList.map (fun f => (f.type, f.offset)) = L) (hx : Rd P w n T cs) :
    ∃ m, n = m + 1 ∧ cs.length = P.cellsOf T ∧ ∀ (i t o : Nat), L[i]? = some (t, o) → Rd P w m t ((cs.drop o).take (P.cellsOf t)) := by
  obtain ⟨m, h1, h2, h3⟩ := rd_struct h hx
  refine ⟨m, h1, h2, fun i t o hi => ?_⟩
  obtain ⟨f, e, rfl, rfl⟩ := fld hL hi
  exact h3 i f e

section
variable {H : Type} {enc : TypeId × Value → H} {w : World} {v : Value} {d : DataW H} {p : List MemPlace}
theorem i64_wf {n : Int} (h : (Lit.int .i64 n).wf = true) : -9223372036854775808 ≤ n ∧ n ≤ 9223372036854775807 := by
  have h2 : IntKind.i64.min ≤ n ∧ n ≤ 9223372036854775807 := by simpa [Lit.wf] using h
  exact ⟨Int.le_trans (by decide) h2.1, h2.2⟩
theorem open_num {t : TypeId} (ht : Tryz.prog.underlying t = some (.int .i64)) {base : Nat} (hv : Value.okWide Tryz.prog w .any base t v) (h : DataW.Trod enc Tryz.prog w 0 (fun _ => true) true t v d p) : ∃ n, v = .int .i64 n ∧ -9223372036854775808 ≤ n ∧ n ≤ 9223372036854775807 := by
  obtain ⟨n, rfl⟩ := okWide_int ht hv
  obtain ⟨fuel, hf⟩ := h
  obtain ⟨m, e, _, hw⟩ := DataW.trod_int ht hf
  simp [Value.cells] at e
  subst e
  exact ⟨n, rfl, i64_wf hw⟩
theorem open_flaw {base : Nat} (hv : Value.okWide Tryz.prog w .any base 24 v) (h : DataW.Trod enc Tryz.prog w 0 (fun _ => true) true 24 v d p) (hw : ∀ m ∈ d.weights Tryz.prog 24, m ≤ reachBytes) :
    ∃ m t, v = .agg #[.int .i64 m, .int .i64 t] ∧ (-9223372036854775808 ≤ m ∧ m ≤ 9223372036854775807) ∧ (-9223372036854775808 ≤ t ∧ t ≤ 9223372036854775807) := by
  obtain ⟨cs, rfl, hl⟩ := okWide_struct Tryz.underlying24 hv
  obtain ⟨fuel, hf⟩ := h
  have hr := rd_of_trod fuel _ _ _ hf hw
  obtain ⟨l⟩ := cs
  obtain ⟨m, rfl, h1, h2⟩ := rd_field Tryz.underlying24 (L := [(22, 0), (3, 1)]) (by kernel_rfl) hr
  have hc : l.length = 2 := h1.trans (by kernel_rfl)
  match l, hc with
  | [a, b], _ =>
    have g0 := h2 0 22 0 rfl
    have g1 := h2 1 3 1 rfl
    rw [show Tryz.prog.cellsOf 22 = 1 from by kernel_rfl] at g0
    rw [show Tryz.prog.cellsOf 3 = 1 from by kernel_rfl] at g1
    obtain ⟨x, e0, w0⟩ := rd_int Tryz.underlying22 g0
    obtain ⟨y, e1, w1⟩ := rd_int Tryz.underlying3 g1
    cases e0
    cases e1
    exact ⟨x, y, rfl, i64_wf w0, i64_wf w1⟩
end
def laidL {H : Type} : List (String × DataW H) := [("math/bits.deBruijn32tab", Rows.laid_math_bits_deBruijn32tab), ("math/bits.deBruijn64tab", Rows.laid_math_bits_deBruijn64tab), ("internal/strconv.uint64pow10", Rows.laid_internal_strconv_uint64pow10), ("errors.errorType", Rows.laid_errors_errorType), ("pleach/atoms.letters", Rows.laid_pleach_atoms_letters), ("pleach/scan.marks", Rows.laid_pleach_scan_marks), ("pleach/scan.words", Rows.laid_pleach_scan_words)]
theorem gLetters : Tryz.prog.globalNamed "pleach/atoms.letters" = some 2 := by kernel_rfl
theorem tLetters : (Tryz.prog.globals[2]?).map (·.type) = some 309 := by kernel_rfl
theorem gMarks : Tryz.prog.globalNamed "pleach/scan.marks" = some 1 := by kernel_rfl
theorem tMarks : (Tryz.prog.globals[1]?).map (·.type) = some 297 := by kernel_rfl
theorem gWords : Tryz.prog.globalNamed "pleach/scan.words" = some 3 := by kernel_rfl
theorem tWords : (Tryz.prog.globals[3]?).map (·.type) = some 325 := by kernel_rfl
theorem gPows : Tryz.prog.globalNamed "internal/strconv.uint64pow10" = some 4 := by kernel_rfl
theorem tPows : (Tryz.prog.globals[4]?).map (·.type) = some 361 := by kernel_rfl
theorem gErrT : Tryz.prog.globalNamed "errors.errorType" = some 0 := by kernel_rfl
theorem told_arr (l : List Value) : (∀ (j : Nat) (v : Value), l[j]? = some v → l.toArray[j]? = some v) ∧ l.toArray.size = l.length := ⟨fun j v h => by simpa using h, by simp⟩
set_option maxRecDepth 100000 in
theorem of_laid {W : World} (h : laidMetH Tryz.prog laidL W) : Tw.LaidAt W := by
  intro p hp
  simp only [Tw.rho, List.mem_cons, List.not_mem_nil, or_false] at hp
  rcases hp with rfl | rfl | rfl | rfl | rfl
  · obtain ⟨ty, fz, e⟩ := Ld.laid_block (Ld.laid_plainB h) (n := "pleach/atoms.letters") (d := Rows.laid_pleach_atoms_letters) (List.mem_filter.2 ⟨by simp [laidL], by kernel_rfl⟩) gLetters tLetters (by kernel_rfl)
    exact ⟨_, Sx.memOf_at e, told_arr _⟩
  · obtain ⟨ty, fz, e⟩ := Ld.laid_handle h (n := "errors.errorType") (d := Rows.laid_errors_errorType) (by simp [laidL]) (s := [101, 114, 114, 111, 114]) rfl rfl (u := 88) (ty := 26) (by kernel_rfl) (by kernel_rfl) gErrT
    have he : (#[.iface 88 (.agg #[typeHandle Tryz.prog 26])] : Array Value) = [Tw.errV].toArray := by
      unfold typeHandle
      rw [Tw.size_g]
      rfl
    rw [he] at e
    exact ⟨_, Sx.memOf_at e, told_arr _⟩
  · obtain ⟨ty, fz, e⟩ := Ld.laid_block (Ld.laid_plainB h) (n := "pleach/scan.marks") (d := Rows.laid_pleach_scan_marks) (List.mem_filter.2 ⟨by simp [laidL], by kernel_rfl⟩) gMarks tMarks (by kernel_rfl)
    exact ⟨_, Sx.memOf_at e, told_arr _⟩
  · obtain ⟨ty, fz, e⟩ := Ld.laid_block (Ld.laid_plainB h) (n := "pleach/scan.words") (d := Rows.laid_pleach_scan_words) (List.mem_filter.2 ⟨by simp [laidL], by kernel_rfl⟩) gWords tWords (by kernel_rfl)
    exact ⟨_, Sx.memOf_at e, told_arr _⟩
  · obtain ⟨ty, fz, e⟩ := Ld.laid_block (Ld.laid_plainB h) (n := "internal/strconv.uint64pow10") (d := Rows.laid_internal_strconv_uint64pow10) (List.mem_filter.2 ⟨by simp [laidL], by kernel_rfl⟩) gPows tPows (by kernel_rfl)
    exact ⟨_, Sx.memOf_at e, told_arr _⟩
/-- The door's own heap meets the condition. -/
theorem door_met (os : Os) (args : Array Value) : laidMetH Tryz.prog laidL ((World.doorLaid Tryz.prog 400 os).forCall (fun _ _ => 0) ⟨#[], args, []⟩).memory :=
  laidMetH_of_parts3 (fuel := 8) (laidMet_of_run' 8 (by kernel_rfl) (by kernel_rfl)) (by kernel_rfl) (by kernel_rfl)
end Go.Proofs.YtfabiccdolpemaaGreatDoor.Rdb
