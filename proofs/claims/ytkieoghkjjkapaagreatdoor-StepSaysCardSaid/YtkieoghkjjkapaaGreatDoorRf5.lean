/-
  Arguments that are numbers and words: opened out of what their row hands over. The table of letters, strconv's errors: out of what the row lays (six variables). No condition.
-/
import Derived.Test.YtkieoghkjjkapaaGreatDoorSa4
import Derived.Test.YtkieoghkjjkapaaGreatDoorCs1
import Derived.Test.YtkieoghkjjkapaaGreatDoorChecked
import Derived.Test.YtkieoghkjjkapaaGreatDoorRows
import Derived.ProofKit
import Derived.LaidMore
import Derived.OpenShut
import Derived.ChangeSame
import Derived.SizedLaws
import Derived.Lib.SmallJoins
import Derived.Deep.Slices
import Derived.WalkKit
import Derived.Stop.Joined
namespace Go.Proofs.YtkieoghkjjkapaaGreatDoor
open Go.ChangeShapes Go.WideShapes Go.ChangeAt Go.RowKit

theorem laidOut : laidOutB Tryz.prog = true := by kernel_rfl

section
variable {H : Type} {enc : TypeId × Value → H} {W W' : World}
theorem trodAll_below (hb : Below W.heap.size W W') : ∀ (ts : List TypeId) (vs : List Value) (ds : List (DataW H)) (ps : List MemPlace), (∀ t ∈ ts, Tryz.prog.readableRec t = true ∧ t < Tryz.prog.types.size) →
    DataW.TrodAll enc Tryz.prog W 0 (fun _ => true) true ts vs ds ps → (∀ x ∈ ps, x.block < W.heap.size) → DataW.TrodAll enc Tryz.prog W' 0 (fun b => decide (b < W.heap.size)) true ts vs ds ps
  | [], [], [], _, _, h, _ => h
  | t :: ts, v :: vs, d :: ds, ps, ht, h, hlt => by
    obtain ⟨p, q, h1, h2, rfl⟩ := h
    obtain ⟨hr, hrow⟩ := ht t (by simp)
    exact ⟨p, q, Below.trod laidOut hr hrow h1 hb (fun x hx => hlt x (List.mem_append_left _ hx)), trodAll_below hb ts vs ds q (fun t h => ht t (List.mem_cons_of_mem _ h)) h2 (fun x hx => hlt x (List.mem_append_right _ hx)), rfl⟩
  | [], _ :: _, _, _, _, h, _ => h.elim
  | [], [], _ :: _, _, _, h, _ => h.elim
  | _ :: _, [], _, _, _, h, _ => h.elim
  | _ :: _, _ :: _, [], _, _, h, _ => h.elim

/-- What a law's row asks behind the call. -/
theorem law_post {f : Func} {s : ChangeSpec} {tb : TypeId} {args : Array Value} {ds gs : List (DataW H)} {before : List MemPlace} (hvs : s.vars = []) (hres : f.resultTypes = #[tb]) (htb : Tryz.prog.underlying tb = some .bool)
    (hty : ∀ t ∈ f.params.toList, Tryz.prog.readableRec t = true ∧ t < Tryz.prog.types.size) (hW : DataW.Whole enc Tryz.prog f.params.toList s.vars false W args.toList ds gs before) (hfn : s.fn H (ds ++ gs) = { results := [.lit (.bool true)], args := ds }) (hb : Below W.heap.size W W') :
    s.post enc Tryz.prog f false true false false W args (.bool true) W' := by
  have hlt := hW.lt
  have hW' := hW
  obtain ⟨p, q, hA, hV, rfl, _, _⟩ := hW
  rw [hvs] at hV
  obtain ⟨rfl, rfl⟩ := trodVars_none hV
  refine ⟨ds, [], p ++ [], [], p, [], hW', ?_, ?_, ?_, hb.frame _, fun h => by cases h⟩
  · rw [hfn, hres]
    exact trodAll_mk1 (shut_bool htb true)
  · rw [hfn]
    exact trodAll_below hb _ _ _ _ hty hA fun x hx => hlt x (List.mem_append_left _ hx)
  · rw [hvs, hfn]
    exact rfl
end
end Go.Proofs.YtkieoghkjjkapaaGreatDoor
namespace Go.Proofs.YtkieoghkjjkapaaGreatDoor
open Go.ChangeShapes Go.WideShapes Go.ChangeAt Go.RowKit Go.Joins Go.Deep
theorem list2 {α : Type} {l : List α} (h : l.length = 2) : ∃ a b, l = [a, b] := by
  match l, h with
  | [a, b], _ => exact ⟨a, b, rfl⟩
theorem str_reach {s : ByteArray} (h : s.data.toList.length ≤ reachBytes) : s.size ≤ 140737488355328 := by
  rw [Array.length_toList] at h
  unfold reachBytes at h
  have h2 : s.size = s.data.size := rfl
  omega
section
variable {H : Type} {enc : TypeId × Value → H} {w : World} {v : Value} {d : DataW H} {p : List MemPlace}
theorem trod_str {t : TypeId} {fuel : Nat} {cs : List Value} {x : DataW H × List MemPlace} (ht : Tryz.prog.underlying t = some .string) (h : DataW.trod enc Tryz.prog w 0 (fun _ => true) true fuel t cs = some x) : ∃ s, cs = [.string s] ∧ x = (.lit (.string s.data.toList), []) := by
  cases fuel with
  | zero => simp [DataW.trod] at h
  | succ n =>
    unfold DataW.trod at h
    rw [ht] at h
    split at h <;> simp_all

set_option maxRecDepth 100000 in
theorem open_strs {base : Nat} (hv : Value.okWide Tryz.prog w .any base 9 v) (h : DataW.Trod enc Tryz.prog w 0 (fun _ => true) true 9 v d p) (hw : ∀ m ∈ d.weights Tryz.prog 9, m ≤ reachBytes) : ∃ s, v = .string s ∧ s.size ≤ 140737488355328 := by
  obtain ⟨s, rfl⟩ := okWide_string Tryz.underlying9 hv
  obtain ⟨fuel, hf⟩ := h
  obtain ⟨s', e, hx⟩ := trod_str Tryz.underlying9 hf
  have e2 : s = s' := by simpa [Value.cells] using e
  subst e2
  cases hx
  have h1 : s.data.toList.length ≤ reachBytes := hw _ (by rw [DataW.weights]; exact List.mem_singleton.2 rfl)
  exact ⟨s, rfl, str_reach h1⟩
set_option maxRecDepth 100000 in
theorem open_int {base : Nat} (hv : Value.okWide Tryz.prog w .any base 3 v) (h : DataW.Trod enc Tryz.prog w 0 (fun _ => true) true 3 v d p) : ∃ n, v = .int .i64 n ∧ IntKind.i64.wrap n = n := by
  obtain ⟨n, rfl⟩ := okWide_int Tryz.underlying3 hv
  obtain ⟨fuel, hf⟩ := h
  obtain ⟨m, e, _, hw⟩ := DataW.trod_int Tryz.underlying3 hf
  simp [Value.cells] at e
  subst e
  have h1 : -9223372036854775808 ≤ n ∧ n ≤ 9223372036854775807 := by
    have h2 : IntKind.i64.min ≤ n ∧ n ≤ 9223372036854775807 := by simpa [Lit.wf] using hw
    exact ⟨Int.le_trans (by decide) h2.1, h2.2⟩
  exact ⟨n, rfl, by rw [IntKind.wrap_i64]; omega⟩
end
theorem gRange : Tryz.prog.globalNamed "strconv.ErrRange" = some 5 := by kernel_rfl
theorem tRange : (Tryz.prog.globals[5]?).map (·.type) = some 324 := by kernel_rfl
theorem gSyntax : Tryz.prog.globalNamed "strconv.ErrSyntax" = some 4 := by kernel_rfl
theorem tSyntax : (Tryz.prog.globals[4]?).map (·.type) = some 324 := by kernel_rfl
set_option maxRecDepth 100000 in
theorem iface_at {H : Type} {enc : TypeId × Value → H} {w : World} {sp : Nat → Bool} {held : Bool} {fuel : Nat} {cs : List Value} {name : String} {x : DataW H} {q : List MemPlace} (h : DataW.trod enc Tryz.prog w 0 sp held fuel 324 cs = some (.iface name x, q)) : ∃ u v, cs = [.iface u v] := by
  cases fuel with
  | zero => simp [DataW.trod] at h
  | succ n =>
    unfold DataW.trod at h
    rw [Tryz.underlying324] at h
    split at h <;> simp_all
theorem err_at {n : String} {g0 : Nat} (hn : Tryz.prog.globalNamed n = some g0) (htn : (Tryz.prog.globals[g0]?).map (·.type) = some 324) {H : Type} {enc : TypeId × Value → H} {W : World} {sp : Nat → Bool} {held : Bool} {g t fuel : Nat} {cs : Array Value} {name : String} {x : DataW H} {q : List MemPlace}
    (hg : Tryz.prog.globalNamed n = some g) (ht : (Tryz.prog.globals[g]?).map (·.type) = some t) (hv : W.var? Tryz.prog n = some cs) (hd : DataW.trod enc Tryz.prog W 0 sp held fuel t cs.toList = some (.iface name x, q)) : ∃ te pe, W.cell? ⟨g0, 0, none⟩ = some (.iface te pe) := by
  obtain rfl := Option.some.inj (hn.symm.trans hg)
  obtain rfl := Option.some.inj (htn.symm.trans ht)
  obtain ⟨u, v, e⟩ := iface_at hd
  have hc := World.var?_cell hg hv 0
  obtain ⟨l⟩ := cs
  simp only at e
  subst e
  exact ⟨u, v, by simpa using hc⟩
theorem gLetters : Tryz.prog.globalNamed "pleach/atoms.letters" = some 0 := by kernel_rfl
theorem tLetters : (Tryz.prog.globals[0]?).map (·.type) = some 219 := by kernel_rfl
def laidL {H : Type} : List (String × DataW H) := [("math/bits.deBruijn32tab", Rows.laid_math_bits_deBruijn32tab), ("math/bits.deBruijn64tab", Rows.laid_math_bits_deBruijn64tab), ("internal/strconv.uint64pow10", Rows.laid_internal_strconv_uint64pow10), ("strconv.ErrRange", Rows.laid_strconv_ErrRange), ("strconv.ErrSyntax", Rows.laid_strconv_ErrSyntax), ("pleach/atoms.letters", Rows.laid_pleach_atoms_letters)]
set_option maxRecDepth 100000 in
theorem pair_u8 {H : Type} {enc : TypeId × Value → H} {w : World} {held : Bool} {sp : Nat → Bool} {fuel : Nat} {a b : Value} {x : DataW H × List MemPlace} {p q : Int} (h : DataW.trod enc Tryz.prog w 0 sp held fuel 218 [a, b] = some x) (hx : x.1 = .agg [.lit (.int .u8 p), .lit (.int .u8 q)]) : a = .int .u8 p ∧ b = .int .u8 q := by
  obtain ⟨xs, m, rfl, rfl, _, hn, hel⟩ := DataW.trod_array Tryz.underlying218 h
  obtain ⟨x0, x1, rfl⟩ := list2 hn
  have h0 := hel 0 (by decide)
  have h1 := hel 1 (by decide)
  rw [show Tryz.prog.cellsOf 5 = 1 from by kernel_rfl] at h0 h1
  simp only [Nat.zero_mul, Nat.one_mul, List.drop_zero, List.drop_succ_cons, List.take_succ_cons, List.take_zero, List.getElem?_cons_zero, List.getElem?_cons_succ] at h0 h1
  obtain ⟨n0, e0, f0, _⟩ := DataW.trod_int Tryz.underlying5 h0
  obtain ⟨n1, e1, f1, _⟩ := DataW.trod_int Tryz.underlying5 h1
  cases e0; cases e1
  subst f0 f1
  simp at hx
  rw [hx.1, hx.2]
  exact ⟨rfl, rfl⟩
theorem list4 {α : Type} {l : List α} (h : l.length = 4) : ∃ a b c d, l = [a, b, c, d] := by
  match l, h with
  | [a, b, c, d], _ => exact ⟨a, b, c, d, rfl⟩
theorem list8 {α : Type} {l : List α} (h : l.length = 8) : ∃ a b c d e f g i, l = [a, b, c, d, e, f, g, i] := by
  match l, h with
  | [a, b, c, d, e, f, g, i], _ => exact ⟨a, b, c, d, e, f, g, i, rfl⟩
set_option maxRecDepth 100000 in
theorem of_laid {W : World} (h : laidMetH Tryz.prog laidL W) : Letters W := by
  rw [MakeChecks.laidMetH_plain _ _ _ (by kernel_rfl)] at h
  obtain ⟨ps, ⟨_, _, _, _, _, _, _, _, _, _, ⟨_, _, _, _, _, _, _, _, _, _, ⟨_, _, _, _, _, _, _, _, _, _, ⟨g2, t2, cs2, f2, p2, q2, hg2, ht2, hv2, hd2, ⟨g1, t1, cs1, f1, p1, q1, hg1, ht1, hv1, hd1, ⟨g0, t0, cs0, f0, p0, q0, hg0, ht0, hv0, hd0, _, _⟩, _⟩, _⟩, _⟩, _⟩, _⟩, _, _⟩ := h
  clear hd2 hd1 hv2 hv1 hg2 hg1 ht2 ht1
  obtain rfl := Option.some.inj (gLetters.symm.trans hg0)
  obtain rfl := Option.some.inj (tLetters.symm.trans ht0)
  obtain ⟨xs, m, rfl, hx, hlen, hn, hel⟩ := DataW.trod_array Tryz.underlying219 hd0
  have hl8 : cs0.toList.length = 8 := hlen.trans (by kernel_rfl)
  have hcell := fun i => World.var?_cell hg0 hv0 i
  obtain ⟨l⟩ := cs0
  simp only at hl8 hel
  obtain ⟨a, b, c, d, e, f, g, i, rfl⟩ := list8 hl8
  obtain ⟨x0, x1, x2, x3, rfl⟩ := list4 hn
  have h0 := hel 0 (by decide)
  have h1 := hel 1 (by decide)
  have h2 := hel 2 (by decide)
  have h3 := hel 3 (by decide)
  rw [show Tryz.prog.cellsOf 218 = 2 from by kernel_rfl] at h0 h1 h2 h3
  simp only [Nat.zero_mul, Nat.one_mul, Nat.reduceMul, List.drop_zero, List.drop_succ_cons, List.take_succ_cons, List.take_zero, List.getElem?_cons_zero, List.getElem?_cons_succ] at h0 h1 h2 h3
  simp only [Prod.mk.injEq, Rows.laid_pleach_atoms_letters, DataW.agg.injEq, List.map_cons, List.map_nil, List.cons.injEq, and_true] at hx
  obtain ⟨⟨k0, k1, k2, k3⟩, _⟩ := hx
  obtain ⟨rfl, rfl⟩ := pair_u8 h0 k0.symm
  obtain ⟨rfl, rfl⟩ := pair_u8 h1 k1.symm
  obtain ⟨rfl, rfl⟩ := pair_u8 h2 k2.symm
  obtain ⟨rfl, rfl⟩ := pair_u8 h3 k3.symm
  exact ⟨hcell 0, hcell 1, hcell 2, hcell 3, hcell 4, hcell 5, hcell 6, hcell 7⟩
/-- The door's own heap meets the condition. -/
theorem door_met (os : Os) (args : Array Value) : laidMetH Tryz.prog laidL ((World.doorLaid Tryz.prog 400 os).forCall (fun _ _ => 0) ⟨#[], args, []⟩).memory :=
  laidMetH_of_parts3 (fuel := 8) (laidMet_of_run' 8 (by kernel_rfl) (by kernel_rfl)) (by kernel_rfl) (by kernel_rfl)
end Go.Proofs.YtkieoghkjjkapaaGreatDoor
