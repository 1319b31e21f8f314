/-
  From a law's contract to what its row asks. The table of letters and the type of errors, as the row lays them. No condition.
-/
import Derived.Test.YtdjafnjmkkagjaaGreatDoorRd2
import Derived.Test.YtdjafnjmkkagjaaGreatDoorWk1
import Derived.Test.YtdjafnjmkkagjaaGreatDoorRows
import Derived.LaidHandle
namespace Go.Proofs.YtdjafnjmkkagjaaGreatDoor.Rdb
open Go.ChangeShapes Go.WideShapes Go.ChangeAt Go.RowKit Go.Joins Go.Deep

theorem own : ownKnob Tryz.prog.godebug = none := by kernel_rfl
theorem laidOut : laidOutB Tryz.prog = true := by kernel_rfl

section
variable {H : Type} {enc : TypeId × Value → H} {W W' : World}
theorem trodAll_below (hb : Below W.heap.size W W') : ∀ (ts : List TypeId) (vs : List Value) (ds : List (DataW H)) (ps : List MemPlace), (∀ t ∈ ts, Tryz.prog.readableRec t = true ∧ t < Tryz.prog.types.size) →
    DataW.TrodAll enc Tryz.prog W 0 (fun _ => true) true ts vs ds ps → (∀ x ∈ ps, x.block < W.heap.size) → DataW.TrodAll enc Tryz.prog W' 0 (fun b => decide (b < W.heap.size)) true ts vs ds ps
  | [], [], [], _, _, h, _ => h
  | t :: ts, v :: vs, d :: ds, ps, ht, h, hlt => by
    obtain ⟨p, q, h1, h2, rfl⟩ := h
    obtain ⟨hr, hrow⟩ := ht t (by simp)
    exact ⟨p, q, Below.trod laidOut hr hrow h1 hb (fun x hx => hlt x (List.mem_append_left _ hx)), trodAll_below hb ts vs ds q (fun t h => ht t (List.mem_cons_of_mem _ h)) h2 (fun x hx => hlt x (List.mem_append_right _ hx)), rfl⟩
  | [], _ :: _, _, _, _, h, _ => h.elim
  | [], [], _ :: _, _, _, h, _ => h.elim
  | _ :: _, [], _, _, _, h, _ => h.elim
  | _ :: _, _ :: _, [], _, _, h, _ => h.elim

/-- What a law's row asks behind the call. -/
theorem law_post {f : Func} {s : ChangeSpec} {tb : TypeId} {args : Array Value} {ds gs : List (DataW H)} {before : List MemPlace} (hvs : s.vars = []) (hres : f.resultTypes = #[tb]) (htb : Tryz.prog.underlying tb = some .bool)
    (hty : ∀ t ∈ f.params.toList, Tryz.prog.readableRec t = true ∧ t < Tryz.prog.types.size) (hW : DataW.Whole enc Tryz.prog f.params.toList s.vars false W args.toList ds gs before) (hfn : s.fn H (ds ++ gs) = { results := [.lit (.bool true)], args := ds }) (hb : Below W.heap.size W W') :
    s.post enc Tryz.prog f false true false false W args (.bool true) W' := by
  have hlt := hW.lt
  have hW' := hW
  obtain ⟨p, q, hA, hV, rfl, _, _⟩ := hW
  rw [hvs] at hV
  obtain ⟨rfl, rfl⟩ := trodVars_none hV
  refine ⟨ds, [], p ++ [], [], p, [], hW', ?_, ?_, ?_, hb.frame _, fun h => by cases h⟩
  · rw [hfn, hres]
    exact trodAll_mk1 (shut_bool htb true)
  · rw [hfn]
    exact trodAll_below hb _ _ _ _ hty hA fun x hx => hlt x (List.mem_append_left _ hx)
  · rw [hvs, hfn]
    exact rfl
end
theorem list2 {α : Type} {l : List α} (h : l.length = 2) : ∃ a b, l = [a, b] := by
  match l, h with
  | [a, b], _ => exact ⟨a, b, rfl⟩

theorem gLetters : Tryz.prog.globalNamed "pleach/atoms.letters" = some 1 := by kernel_rfl
theorem tLetters : (Tryz.prog.globals[1]?).map (·.type) = some 212 := by kernel_rfl
def laidL {H : Type} : List (String × DataW H) := [("errors.errorType", Rows.laid_errors_errorType), ("pleach/atoms.letters", Rows.laid_pleach_atoms_letters)]
set_option maxRecDepth 100000 in
theorem pair_u8 {H : Type} {enc : TypeId × Value → H} {w : World} {held : Bool} {sp : Nat → Bool} {fuel : Nat} {a b : Value} {x : DataW H × List MemPlace} {p q : Int} (h : DataW.trod enc Tryz.prog w 0 sp held fuel 211 [a, b] = some x) (hx : x.1 = .agg [.lit (.int .u8 p), .lit (.int .u8 q)]) : a = .int .u8 p ∧ b = .int .u8 q := by
  obtain ⟨xs, m, rfl, rfl, _, hn, hel⟩ := DataW.trod_array Tryz.underlying211 h
  obtain ⟨x0, x1, rfl⟩ := list2 hn
  have h0 := hel 0 (by decide)
  have h1 := hel 1 (by decide)
  rw [show Tryz.prog.cellsOf 5 = 1 from by kernel_rfl] at h0 h1
  simp only [Nat.zero_mul, Nat.one_mul, List.drop_zero, List.drop_succ_cons, List.take_succ_cons, List.take_zero, List.getElem?_cons_zero, List.getElem?_cons_succ] at h0 h1
  obtain ⟨n0, e0, f0, _⟩ := DataW.trod_int Tryz.underlying5 h0
  obtain ⟨n1, e1, f1, _⟩ := DataW.trod_int Tryz.underlying5 h1
  cases e0; cases e1
  subst f0 f1
  simp at hx
  rw [hx.1, hx.2]
  exact ⟨rfl, rfl⟩
theorem list4 {α : Type} {l : List α} (h : l.length = 4) : ∃ a b c d, l = [a, b, c, d] := by
  match l, h with
  | [a, b, c, d], _ => exact ⟨a, b, c, d, rfl⟩
theorem list8 {α : Type} {l : List α} (h : l.length = 8) : ∃ a b c d e f g i, l = [a, b, c, d, e, f, g, i] := by
  match l, h with
  | [a, b, c, d, e, f, g, i], _ => exact ⟨a, b, c, d, e, f, g, i, rfl⟩
set_option maxRecDepth 100000 in
theorem of_laid {W : World} (h : laidMetH Tryz.prog laidL W) : (∀ (j : Nat) (v : Value), Sx.letterVals[j]? = some v → W.cell? ⟨1, j, none⟩ = some v) ∧ W.cell? ⟨0, 0, none⟩ = some (.iface 232 (.agg #[Sx.errH])) := by
  obtain ⟨h, hH⟩ := h
  obtain ⟨ps, ⟨g0, t0, cs0, f0, p0, q0, hg0, ht0, hv0, hd0, _, _⟩, _, _⟩ := h
  obtain rfl := Option.some.inj (gLetters.symm.trans hg0)
  obtain rfl := Option.some.inj (tLetters.symm.trans ht0)
  obtain ⟨xs, m, rfl, hx, hlen, hn, hel⟩ := DataW.trod_array Tryz.underlying212 hd0
  have hl8 : cs0.toList.length = 8 := hlen.trans (by kernel_rfl)
  have hcell := fun i => World.var?_cell hg0 hv0 i
  obtain ⟨l⟩ := cs0
  simp only at hl8 hel
  obtain ⟨a, b, c, d, e, f, g, i, rfl⟩ := list8 hl8
  obtain ⟨x0, x1, x2, x3, rfl⟩ := list4 hn
  have h0 := hel 0 (by decide)
  have h1 := hel 1 (by decide)
  have h2 := hel 2 (by decide)
  have h3 := hel 3 (by decide)
  rw [show Tryz.prog.cellsOf 211 = 2 from by kernel_rfl] at h0 h1 h2 h3
  simp only [Nat.zero_mul, Nat.one_mul, Nat.reduceMul, List.drop_zero, List.drop_succ_cons, List.take_succ_cons, List.take_zero, List.getElem?_cons_zero, List.getElem?_cons_succ] at h0 h1 h2 h3
  simp only [Prod.mk.injEq, Rows.laid_pleach_atoms_letters, DataW.agg.injEq, List.map_cons, List.map_nil, List.cons.injEq, and_true] at hx
  obtain ⟨⟨k0, k1, k2, k3⟩, _⟩ := hx
  obtain ⟨rfl, rfl⟩ := pair_u8 h0 k0.symm
  obtain ⟨rfl, rfl⟩ := pair_u8 h1 k1.symm
  obtain ⟨rfl, rfl⟩ := pair_u8 h2 k2.symm
  obtain ⟨rfl, rfl⟩ := pair_u8 h3 k3.symm
  refine ⟨fun j v hj => ?_, ?_⟩
  · have hc := hcell j
    rw [← hj]
    simpa [Sx.letterVals] using hc
  · obtain ⟨name, u, ty, e1, e2, e3, e4, e5⟩ := hH ("errors.errorType", Rows.laid_errors_errorType) (by simp)
    have hn : name = [101, 114, 114, 111, 114] := (Option.some.inj e1).symm
    subst hn
    have hu : u = 232 := Option.some.inj (e2.symm.trans (show (Tryz.prog.cutTypes.find? (·.1 == "internal/reflectlite.rtype")).map (·.2) = some 232 by kernel_rfl))
    subst hu
    have hall : ((List.range Tryz.prog.types.size).all fun t => !Tryz.prog.rowNamed t [101, 114, 114, 111, 114] || t == 83) = true := by kernel_rfl
    have ht := List.all_eq_true.1 hall ty (List.mem_range.2 e3)
    rw [e4] at ht
    have ht2 : ty = 83 := by simpa using ht
    subst ht2
    have hg : Tryz.prog.globalNamed "errors.errorType" = some 0 := by kernel_rfl
    have := World.var?_cell hg e5 0
    rw [this]
    show some (Value.iface _ (.agg #[typeHandle Tryz.prog _])) = _
    unfold typeHandle
    rw [Sx.size_globals]
    rfl
/-- The door's own heap meets the condition. -/
theorem door_met (os : Os) (args : Array Value) : laidMetH Tryz.prog laidL ((World.doorLaid Tryz.prog 400 os).forCall (fun _ _ => 0) ⟨#[], args, []⟩).memory :=
  laidMetH_of_parts3 (fuel := 8) (laidMet_of_run' 8 (by kernel_rfl) (by kernel_rfl)) (by kernel_rfl) (by kernel_rfl)
end Go.Proofs.YtdjafnjmkkagjaaGreatDoor.Rdb
