/-
  What a row of this layer hands over: its variables, out of what the row lays. No condition.
-/
import Derived.Test.YtgjfdbbghefdbaaGreatDoorLd1
import Derived.Test.YtgjfdbbghefdbaaGreatDoorRd1
import Derived.Test.YtgjfdbbghefdbaaGreatDoorLt16a
import Derived.Test.YtgjfdbbghefdbaaGreatDoorChecked
import Derived.Test.YtgjfdbbghefdbaaGreatDoorRows
import Derived.ProofKit
import Derived.LaidMore
import Derived.OpenShut
import Derived.ChangeSame
import Derived.SizedLaws
import Derived.Lib.SmallJoins
import Derived.Deep.Slices
import Derived.WalkKit
import Derived.Stop.Joined
namespace Go.Proofs.YtgjfdbbghefdbaaGreatDoor.Rdb
set_option maxRecDepth 100000
open Go.ChangeShapes Go.WideShapes Go.ChangeAt Go.RowKit Go.Joins Go.Deep

theorem laidOut : laidOutB Tryz.prog = true := by kernel_rfl

section
variable {H : Type} {enc : TypeId × Value → H} {W W' : World}
theorem trodAll_below (hb : Below W.heap.size W W') : ∀ (ts : List TypeId) (vs : List Value) (ds : List (DataW H)) (ps : List MemPlace), (∀ t ∈ ts, Tryz.prog.readableRec t = true ∧ t < Tryz.prog.types.size) →
    DataW.TrodAll enc Tryz.prog W 0 (fun _ => true) true ts vs ds ps → (∀ x ∈ ps, x.block < W.heap.size) → DataW.TrodAll enc Tryz.prog W' 0 (fun b => decide (b < W.heap.size)) true ts vs ds ps
  | [], [], [], _, _, h, _ => h
  | t :: ts, v :: vs, d :: ds, ps, ht, h, hlt => by
    obtain ⟨p, q, h1, h2, rfl⟩ := h
    obtain ⟨hr, hrow⟩ := ht t (by simp)
    exact ⟨p, q, Below.trod laidOut hr hrow h1 hb (fun x hx => hlt x (List.mem_append_left _ hx)), trodAll_below hb ts vs ds q (fun t h => ht t (List.mem_cons_of_mem _ h)) h2 (fun x hx => hlt x (List.mem_append_right _ hx)), rfl⟩
  | [], _ :: _, _, _, _, h, _ => h.elim
  | [], [], _ :: _, _, _, h, _ => h.elim
  | _ :: _, [], _, _, _, h, _ => h.elim
  | _ :: _, _ :: _, [], _, _, h, _ => h.elim

/-- What a law's row asks behind the call. -/
theorem law_post {f : Func} {s : ChangeSpec} {tb : TypeId} {args : Array Value} {ds gs : List (DataW H)} {before : List MemPlace} (hvs : s.vars = []) (hres : f.resultTypes = #[tb]) (htb : Tryz.prog.underlying tb = some .bool)
    (hty : ∀ t ∈ f.params.toList, Tryz.prog.readableRec t = true ∧ t < Tryz.prog.types.size) (hW : DataW.Whole enc Tryz.prog f.params.toList s.vars false W args.toList ds gs before) (hfn : s.fn H (ds ++ gs) = { results := [.lit (.bool true)], args := ds }) (hb : Below W.heap.size W W') :
    s.post enc Tryz.prog f false true false false W args (.bool true) W' := by
  have hlt := hW.lt
  have hW' := hW
  obtain ⟨p, q, hA, hV, rfl, _, _⟩ := hW
  rw [hvs] at hV
  obtain ⟨rfl, rfl⟩ := trodVars_none hV
  refine ⟨ds, [], p ++ [], [], p, [], hW', ?_, ?_, ?_, hb.frame _, fun h => by cases h⟩
  · rw [hfn, hres]
    exact trodAll_mk1 (shut_bool htb true)
  · rw [hfn]
    exact trodAll_below hb _ _ _ _ hty hA fun x hx => hlt x (List.mem_append_left _ hx)
  · rw [hvs, hfn]
    exact rfl
end
theorem own : ownKnob Tryz.prog.godebug = none := by kernel_rfl
theorem weight_at {H : Type} {ts : List TypeId} {ds : List (DataW H)} (h : (DataW.weightsEach Tryz.prog ts ds).all (· ≤ reachBytes) = true) {j : Nat} {t : TypeId} {d : DataW H} (ht : ts[j]? = some t) (hd : ds[j]? = some d) : ∀ m ∈ d.weights Tryz.prog t, m ≤ reachBytes := fun m hm => by
  have := List.all_eq_true.1 h m (DataW.weights_mem_each ht hd m hm)
  simpa using this
def laidL {H : Type} : List (String × DataW H) := [("math/bits.deBruijn32tab", Rows.laid_math_bits_deBruijn32tab), ("math/bits.deBruijn64tab", Rows.laid_math_bits_deBruijn64tab), ("internal/strconv.uint64pow10", Rows.laid_internal_strconv_uint64pow10), ("strconv.ErrRange", Rows.laid_strconv_ErrRange), ("strconv.ErrSyntax", Rows.laid_strconv_ErrSyntax), ("pleach/atoms.letters", Rows.laid_pleach_atoms_letters)]
theorem gLetters : Tryz.prog.globalNamed "pleach/atoms.letters" = some 0 := by kernel_rfl
theorem tLetters : (Tryz.prog.globals[0]?).map (·.type) = some 112 := by kernel_rfl
theorem told_arr (l : List Value) : (∀ (j : Nat) (v : Value), l[j]? = some v → l.toArray[j]? = some v) ∧ l.toArray.size = l.length := ⟨fun j v h => by simpa using h, by simp⟩
set_option maxRecDepth 100000 in
theorem of_laid {W : World} (h : laidMetH Tryz.prog laidL W) : Sx.ToldM Fa.rho.tl (Sx.memOf W) := by
  intro p hp
  simp only [Fa.rho, List.mem_cons, List.not_mem_nil, or_false] at hp
  rcases hp with rfl
  obtain ⟨ty, fz, e⟩ := Ld.laid_block (Ld.laid_plainB h) (n := "pleach/atoms.letters") (d := Rows.laid_pleach_atoms_letters) (List.mem_filter.2 ⟨by simp [laidL], by kernel_rfl⟩) gLetters tLetters (by kernel_rfl)
  exact ⟨_, Sx.memOf_at e, told_arr _⟩
/-- The door's own heap meets the condition. -/
theorem door_met (os : Os) (args : Array Value) : laidMetH Tryz.prog laidL ((World.doorLaid Tryz.prog 400 os).forCall (fun _ _ => 0) ⟨#[], args, []⟩).memory :=
  laidMetH_of_parts3 (fuel := 8) (laidMet_of_run' 8 (by kernel_rfl) (by kernel_rfl)) (by kernel_rfl) (by kernel_rfl)
section
variable {H : Type} {enc : TypeId × Value → H} {w : World} {v : Value} {d : DataW H} {p : List MemPlace}
/-- A value of any type as data. -/
theorem open_data {T : Nat} {f : Nat} {ks : List Sx.Kd} (hk : Dd.kdsOf Tryz.prog f T = some ks) (hin : ks.all (Dd.inEs Fa.Es) = true) (h : DataW.Trod enc Tryz.prog w 0 (fun _ => true) true T v d p) (hw : ∀ m ∈ d.weights Tryz.prog T, m ≤ reachBytes) : ∃ row, Dd.Good Fa.lay (Sx.memOf w) ks row v.cells.toList ∧ Dd.AllOk row := by
  obtain ⟨fuel, hf⟩ := h
  exact Dd.rd_good Fa.lay_ok Fa.es_ok _ f T ks _ hk hin (rd_of_trod fuel _ _ _ hf hw)
theorem open_frames {base : Nat} (hv : Value.okWide Tryz.prog w .any base 22 v) (h : DataW.Trod enc Tryz.prog w 0 (fun _ => true) true 22 v d p) (hw : ∀ m ∈ d.weights Tryz.prog 22, m ≤ reachBytes) :
    ∃ x : Sx.Dat, Sx.DR Fa.lay (Sx.memOf w) (.sl 43) x v ∧ Dd.Dok x := by
  obtain ⟨a, n, c, rfl⟩ := okWide_slice Tryz.underlying22 hv
  obtain ⟨row, hg, ho⟩ := open_data (f := 9) (ks := [.sl 43]) (by kernel_rfl) (by decide) h hw
  match row, hg.l1 with
  | [x], _ => exact ⟨x, hg.dr 0 _ x _ rfl rfl rfl, ho x (by simp)⟩
theorem open_i8 {t : TypeId} (ht : Tryz.prog.underlying t = some (.int .i8)) {base : Nat} (hv : Value.okWide Tryz.prog w .any base t v) (h : DataW.Trod enc Tryz.prog w 0 (fun _ => true) true t v d p) : ∃ n, v = .int .i8 n ∧ -9223372036854775808 ≤ n ∧ n ≤ 9223372036854775807 := by
  obtain ⟨n, rfl⟩ := okWide_int ht hv
  obtain ⟨fuel, hf⟩ := h
  obtain ⟨m, e, _, hw⟩ := DataW.trod_int ht hf
  simp [Value.cells] at e
  subst e
  have h2 : IntKind.i8.min ≤ n ∧ n ≤ IntKind.i8.max := by simpa [Lit.wf] using hw
  exact ⟨n, rfl, Int.le_trans (by decide) h2.1, Int.le_trans h2.2 (by decide)⟩
theorem open_term {base : Nat} (hv : Value.okWide Tryz.prog w .any base 26 v) (h : DataW.Trod enc Tryz.prog w 0 (fun _ => true) true 26 v d p) (hw : ∀ m ∈ d.weights Tryz.prog 26, m ≤ reachBytes) :
    ∃ (row : List Sx.Dat) (ts : Array Value), v = .agg ts ∧ Dd.Good Fa.lay (Sx.memOf w) (Fa.lay 26) row ts.toList ∧ Dd.AllOk row := by
  obtain ⟨cs, rfl, _⟩ := okWide_struct Tryz.underlying26 hv
  obtain ⟨row, hg, ho⟩ := open_data (f := 9) (ks := Fa.lay 26) (by kernel_rfl) (by decide) h hw
  exact ⟨row, cs, rfl, hg, ho⟩
theorem open_frame {base : Nat} (hv : Value.okWide Tryz.prog w .any base 43 v) (h : DataW.Trod enc Tryz.prog w 0 (fun _ => true) true 43 v d p) (hw : ∀ m ∈ d.weights Tryz.prog 43, m ≤ reachBytes) :
    ∃ (row : List Sx.Dat) (ts : Array Value), v = .agg ts ∧ Dd.Good Fa.lay (Sx.memOf w) (Fa.lay 43) row ts.toList ∧ Dd.AllOk row := by
  obtain ⟨cs, rfl, _⟩ := okWide_struct Tryz.underlying43 hv
  obtain ⟨row, hg, ho⟩ := open_data (f := 9) (ks := Fa.lay 43) (by kernel_rfl) (by decide +kernel) h hw
  exact ⟨row, cs, rfl, hg, ho⟩
end
/-- A contract over data, at a world. -/
theorem pu_at {f : Nat} {args : List Sx.TV} (h : Fa.Pu f args (.b true)) {W : World} (hT : Sx.ToldM Fa.rho.tl (Sx.memOf W)) {vs : Array Value} (hv : Sx.VRs Fa.rho (Sx.bare (Sx.memOf W)) args vs.toList) : Calls Tryz.prog f vs W fun e W' => e = .returned (.bool true) ∧ Below W.heap.size W W' :=
  (h.2 W _ vs (Sx.memOf_ok W) hT hv).mono fun _ _ ⟨_, _, e1, _, _, _, e2, e3⟩ => ⟨by rw [e1, show _ = Value.bool true from e2], e3⟩
theorem frame_wide {M : Sx.Mem} {x : Sx.Dat} {v : Value} (h : Sx.DR Fa.lay M (.sl 43) x v) : ∀ row, row ∈ x.rows → row.length = 35 := fun row hr => by
  cases h with
  | nil _ _ p c h0 => rw [h0] at hr; cases hr
  | sl _ _ b o c val h1 h2 h3 h4 =>
    obtain ⟨i, hi, rfl⟩ := List.getElem_of_mem hr
    exact h2 i _ (List.getElem?_eq_getElem hi)
theorem term_vr {M : Sx.Mem} {row : List Sx.Dat} {ts : Array Value} (h : Dd.Good Fa.lay M (Fa.lay 26) row ts.toList) : Sx.VR Fa.rho (Sx.bare M) (Fa.B1.tmV (row.getD 0 .o).int (row.getD 1 .o).int (row.getD 2 .o).str (row.getD 3 .o).str (row.getD 4 .o)) (.agg ts) :=
  ⟨ts, rfl, Dd.good_vrs (ρ := Fa.rho) h⟩
end Go.Proofs.YtgjfdbbghefdbaaGreatDoor.Rdb
