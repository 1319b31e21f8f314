/-
  Arguments that are terms, integers: opened out of what their row hands over. The table of letters: out of what the row lays (four variables). No condition.
-/
import Derived.Test.YtgliogfggajfgaaGreatDoorSa3
import Derived.Test.YtgliogfggajfgaaGreatDoorChecked
import Derived.Test.YtgliogfggajfgaaGreatDoorRows
import Derived.ProofKit
import Derived.LaidMore
import Derived.OpenShut
import Derived.ChangeSame
import Derived.SizedLaws
import Derived.Lib.SmallJoins
import Derived.Deep.Slices
import Derived.WalkKit
import Derived.Stop.Joined
namespace Go.Proofs.YtgliogfggajfgaaGreatDoor
open Go.ChangeShapes Go.WideShapes Go.ChangeAt Go.RowKit Go.Joins Go.Deep

theorem field_at {fs : Array Field} {L : List (TypeId × Nat)} (h : fs.toList.map (fun f => (f.type, f.offset)) = L) {i t o : Nat} (hi : L[i]? = some (t, o)) : ∃ f, fs[i]? = some f ∧ f.type = t ∧ f.offset = o := by
  subst h
  simp only [List.getElem?_map, Option.map_eq_some_iff, Prod.mk.injEq] at hi
  obtain ⟨f, h1, h2, h3⟩ := hi
  exact ⟨f, by simpa using h1, h2, h3⟩
theorem list5 {α : Type} {l : List α} (h : l.length = 5) : ∃ a b c d e, l = [a, b, c, d, e] := by
  match l, h with
  | [a, b, c, d, e], _ => exact ⟨a, b, c, d, e, rfl⟩
theorem list2 {α : Type} {l : List α} (h : l.length = 2) : ∃ a b, l = [a, b] := by
  match l, h with
  | [a, b], _ => exact ⟨a, b, rfl⟩
theorem spot_none {w : World} {a : Addr} {u : Value} (h : w.cell? a = some u) : ∃ g o, a = ⟨g, o, none⟩ := by
  obtain ⟨g, o, s⟩ := a
  cases s with
  | none => exact ⟨g, o, rfl⟩
  | some z =>
    exfalso
    unfold World.cell? at h
    cases hg : w.heap[g]? with
    | none => simp [hg] at h
    | some ob => cases ob <;> simp [hg] at h
theorem fit_small {n : Nat} (h : n ≤ reachBytes) : n ≤ BL * 64 := by unfold reachBytes at h; unfold BL; omega

section
variable {H : Type} {enc : TypeId × Value → H} {w : World}
theorem trod_str {t : TypeId} {fuel : Nat} {cs : List Value} {x : DataW H × List MemPlace} (ht : Tryz.prog.underlying t = some .string) (h : DataW.trod enc Tryz.prog w 0 (fun _ => true) true fuel t cs = some x) : ∃ s, cs = [.string s] ∧ x = (.lit (.string s.data.toList), []) := by
  cases fuel with
  | zero => simp [DataW.trod] at h
  | succ n =>
    unfold DataW.trod at h
    rw [ht] at h
    split at h <;> simp_all

theorem weights_slice {P : Program} {S T : TypeId} (hS : P.underlying S = some (.slice T)) (es sp : List (DataW H)) : (DataW.slice es sp).weights P S = (es.length + sp.length) * P.bytesOf T :: (DataW.weightsAll P T es ++ DataW.weightsAll P T sp) := by
  rw [DataW.weights, hS]
theorem weights_struct {P : Program} {T : TypeId} {fs : Array Field} (hT : P.underlying T = some (.struct fs)) (ps : List (DataW H)) : (DataW.agg ps).weights P T = DataW.weightsEach P (fs.toList.map (·.type)) ps := by
  rw [DataW.weights, hT]
/-- What is said of a row at so much fuel. -/
def TreeAt (enc : TypeId × Value → H) (w : World) (T : TypeId) (n : Nat) : Prop := ∀ (cs : List Value) (x : DataW H × List MemPlace), DataW.trod enc Tryz.prog w 0 (fun _ => true) true n T cs = some x → (∀ m ∈ x.1.weights Tryz.prog T, m ≤ reachBytes) →
  ∃ (tr : Tr) (sv : Value), cs = [.int .i8 tr.k, .int .i64 tr.n, .string tr.s, .string tr.t, sv] ∧ TrV (fun _ => True) w tr sv

theorem weightsAll_mem {e : TypeId} : ∀ {l : List (DataW H)} {d : DataW H}, d ∈ l → ∀ n ∈ d.weights Tryz.prog e, n ∈ DataW.weightsAll Tryz.prog e l
  | a :: r, d, hd, n, hn => by
    rw [DataW.weightsAll]
    rcases List.mem_cons.1 hd with rfl | hd
    · exact List.mem_append_left _ hn
    · exact List.mem_append_right _ (weightsAll_mem hd n hn)

/-- A row of trees. -/
theorem open_trees {T S : TypeId} (hS : Tryz.prog.underlying S = some (.slice T)) (hc : Tryz.prog.cellsOf T = 5) (hb : Tryz.prog.bytesOf T = 72) {fuel : Nat} (ih : ∀ m, m < fuel → TreeAt enc w T m) {cs : List Value} {x : DataW H × List MemPlace}
    (h : DataW.trod enc Tryz.prog w 0 (fun _ => true) true fuel S cs = some x) (hw : ∀ m ∈ x.1.weights Tryz.prog S, m ≤ reachBytes) : ∃ (sv : Value) (l : List Tr), cs = [sv] ∧ Kids (fun _ => True) w sv l := by
  rcases DataW.trod_slice hS h with ⟨rfl, rfl⟩ | ⟨a, len, cap, elems, rest, n, rfl, rfl, rfl, _, hl, _, hlen, hel, _, _⟩
  · exact ⟨_, [], rfl, Kids.nil _ _⟩
  · have hw1 : (elems.length + rest.length) * 72 ≤ reachBytes := by
      refine hw _ ?_
      rw [weights_slice hS, hb, List.length_map, List.length_map]
      exact List.mem_cons_self
    have hw2 : ∀ y ∈ elems, ∀ m ∈ y.1.weights Tryz.prog T, m ≤ reachBytes := by
      intro y hy m hm
      refine hw m ?_
      rw [weights_slice hS]
      exact List.mem_cons_of_mem _ (List.mem_append_left _ (weightsAll_mem (List.mem_map.2 ⟨y, hy, rfl⟩) m hm))
    have each : ∀ i, ∃ q : Tr × Value, i < len → (∀ j u, (tcells q)[j]? = some u → w.cell? (a.add (i * 5 + j)) = some u) ∧ TrV (fun _ => True) w q.1 q.2 := fun i => by
      by_cases hil : i < len
      · have h1 := hel i hil
        rw [List.getElem?_eq_getElem (by omega)] at h1
        obtain ⟨cs', hc', ht'⟩ := Option.bind_eq_some_iff.1 h1
        obtain ⟨tr, sv, rfl, hx⟩ := ih n (by omega) cs' _ ht' (hw2 _ (List.getElem_mem _))
        rw [hc] at hc'
        obtain ⟨_, _, hat⟩ := World.cells?_some hc'
        refine ⟨(tr, sv), fun _ => ⟨fun j u hu => ?_, hx⟩⟩
        have hj : j < 5 := by have := (List.getElem?_eq_some_iff.1 hu).1; simpa [tcells] using this
        have := hat j hj
        rw [add_add] at this
        exact this.trans hu
      · exact ⟨(zeroT, undef), fun h => absurd h hil⟩
    obtain ⟨Q, hQ⟩ := Classical.axiomOfChoice each
    have hlb : len ≤ BL := by unfold reachBytes at hw1; unfold BL; omega
    refine ⟨_, (List.range len).map fun i => (Q i).1, rfl, ?_⟩
    have key : Kids (fun _ => True) w (.slice (some a) ((List.range len).map fun i => (Q i).1).length cap) ((List.range len).map fun i => (Q i).1) := by
      refine .mk (some a) cap _ (fun i => (Q i).2) (by simpa using hl) (by simpa using hlb) (fun i hi => ?_) (fun i hi => ?_) (fun i hi => ?_)
      all_goals
        have hi' : i < len := by simpa using hi
        have hm : ((List.range len).map fun i => (Q i).1)[i] = (Q i).1 := by simp
        obtain ⟨hcell, htr⟩ := hQ i hi'
      · rw [hm]; exact htr.wf
      · rw [hm]
        have hc0 := (hQ i hi').1 0 _ rfl
        have h00 : ∃ g o, a = ⟨g, o, none⟩ := by
          obtain ⟨g, o, e⟩ := spot_none ((hQ 0 (by omega)).1 0 _ rfl)
          refine ⟨g, o, ?_⟩
          simpa [Addr.add] using e
        obtain ⟨g, o, rfl⟩ := h00
        refine ⟨g, o, rfl, trivial, ?_, ?_, ?_, ?_, ?_⟩
        · have := hcell 0 _ rfl; rw [addr_add] at this; simpa using this
        · have := hcell 1 _ rfl; rw [addr_add] at this; simpa [Nat.add_assoc] using this
        · have := hcell 2 _ rfl; rw [addr_add] at this; simpa [Nat.add_assoc] using this
        · have := hcell 3 _ rfl; rw [addr_add] at this; simpa [Nat.add_assoc] using this
        · have := hcell 4 _ rfl; rw [addr_add] at this; simpa [Nat.add_assoc] using this
      · rw [hm]; exact htr.kids
    simpa using key

set_option maxRecDepth 100000 in
/-- A tree. -/
theorem open_tree {T S : TypeId} {fs : Array Field} (hT : Tryz.prog.underlying T = some (.struct fs)) (hf : fs.toList.map (fun f => (f.type, f.offset)) = [(22, 0), (3, 1), (9, 2), (9, 3), (S, 4)]) (hS : Tryz.prog.underlying S = some (.slice T)) (hc : Tryz.prog.cellsOf T = 5) (hb : Tryz.prog.bytesOf T = 72) (hcS : Tryz.prog.cellsOf S = 1) (fuel : Nat) : TreeAt enc w T fuel := by
  induction fuel using Nat.strongRecOn with
  | ind fuel ih =>
    intro cs x h hw
    obtain ⟨xs, n, rfl, rfl, hl, hlen, hfs⟩ := DataW.trod_struct hT h
    have hsz : fs.size = 5 := by have := congrArg List.length hf; simpa using this
    rw [hc] at hl
    rw [hsz] at hlen
    obtain ⟨c0, c1, c2, c3, c4, rfl⟩ := list5 hl
    obtain ⟨y0, y1, y2, y3, y4, rfl⟩ := list5 hlen
    obtain ⟨f0, e0, t0, o0⟩ := field_at hf (i := 0) rfl
    obtain ⟨f1, e1, t1, o1⟩ := field_at hf (i := 1) rfl
    obtain ⟨f2, e2, t2, o2⟩ := field_at hf (i := 2) rfl
    obtain ⟨f3, e3, t3, o3⟩ := field_at hf (i := 3) rfl
    obtain ⟨f4, e4, t4, o4⟩ := field_at hf (i := 4) rfl
    have k0 := hfs 0 f0 e0
    have k1 := hfs 1 f1 e1
    have k2 := hfs 2 f2 e2
    have k3 := hfs 3 f3 e3
    have k4 := hfs 4 f4 e4
    rw [t0, o0, show Tryz.prog.cellsOf 22 = 1 from by kernel_rfl] at k0
    rw [t1, o1, show Tryz.prog.cellsOf 3 = 1 from by kernel_rfl] at k1
    rw [t2, o2, show Tryz.prog.cellsOf 9 = 1 from by kernel_rfl] at k2
    rw [t3, o3, show Tryz.prog.cellsOf 9 = 1 from by kernel_rfl] at k3
    rw [t4, o4, hcS] at k4
    simp only [List.drop_zero, List.drop_succ_cons, List.take_succ_cons, List.take_zero, List.getElem?_cons_zero, List.getElem?_cons_succ] at k0 k1 k2 k3 k4
    obtain ⟨a0, r0, s0, w0⟩ := DataW.trod_int Tryz.underlying22 k0
    obtain ⟨a1, r1, s1, w1⟩ := DataW.trod_int Tryz.underlying3 k1
    obtain ⟨a2, r2, s2⟩ := trod_str Tryz.underlying9 k2
    obtain ⟨a3, r3, s3⟩ := trod_str Tryz.underlying9 k3
    cases r0; cases r1; cases r2; cases r3
    subst s0 s1 s2 s3
    have hW : ∀ m, m ∈ DataW.weightsEach Tryz.prog [22, 3, 9, 9, S] [.lit (.int .i8 a0), .lit (.int .i64 a1), .lit (.string a2.data.toList), .lit (.string a3.data.toList), y4.1] → m ≤ reachBytes := by
      intro m hm
      refine hw m ?_
      rw [weights_struct hT]
      have ht : fs.toList.map (·.type) = [22, 3, 9, 9, S] := by
        have := congrArg (List.map Prod.fst) hf
        simpa [List.map_map, Function.comp_def] using this
      rw [ht]
      exact hm
    have hw2 : a2.data.toList.length ≤ reachBytes := hW _ (by simp [DataW.weightsEach, DataW.weights])
    have hw3 : a3.data.toList.length ≤ reachBytes := hW _ (by simp [DataW.weightsEach, DataW.weights])
    have hw4 : ∀ m ∈ y4.1.weights Tryz.prog S, m ≤ reachBytes := fun m hm => hW m (by simp [DataW.weightsEach, hm])
    obtain ⟨sv, l, e, hk⟩ := open_trees hS hc hb (fun m hm => ih m (by omega)) k4 hw4
    cases e
    refine ⟨.mk a0 a1 a2 a3 l, _, rfl, ⟨w0, w1, ?_, ?_⟩, hk⟩
    · exact fit_small (show a2.size ≤ _ by simpa using hw2)
    · exact fit_small (show a3.size ≤ _ by simpa using hw3)
end
end Go.Proofs.YtgliogfggajfgaaGreatDoor
namespace Go.Proofs.YtgliogfggajfgaaGreatDoor
open Go.ChangeShapes Go.WideShapes Go.ChangeAt Go.RowKit

theorem laidOut : laidOutB Tryz.prog = true := by kernel_rfl

section
variable {H : Type} {enc : TypeId × Value → H} {W W' : World}
theorem trodAll_below (hb : Below W.heap.size W W') : ∀ (ts : List TypeId) (vs : List Value) (ds : List (DataW H)) (ps : List MemPlace), (∀ t ∈ ts, Tryz.prog.readableRec t = true ∧ t < Tryz.prog.types.size) →
    DataW.TrodAll enc Tryz.prog W 0 (fun _ => true) true ts vs ds ps → (∀ x ∈ ps, x.block < W.heap.size) → DataW.TrodAll enc Tryz.prog W' 0 (fun b => decide (b < W.heap.size)) true ts vs ds ps
  | [], [], [], _, _, h, _ => h
  | t :: ts, v :: vs, d :: ds, ps, ht, h, hlt => by
    obtain ⟨p, q, h1, h2, rfl⟩ := h
    obtain ⟨hr, hrow⟩ := ht t (by simp)
    exact ⟨p, q, Below.trod laidOut hr hrow h1 hb (fun x hx => hlt x (List.mem_append_left _ hx)), trodAll_below hb ts vs ds q (fun t h => ht t (List.mem_cons_of_mem _ h)) h2 (fun x hx => hlt x (List.mem_append_right _ hx)), rfl⟩
  | [], _ :: _, _, _, _, h, _ => h.elim
  | [], [], _ :: _, _, _, h, _ => h.elim
  | _ :: _, [], _, _, _, h, _ => h.elim
  | _ :: _, _ :: _, [], _, _, h, _ => h.elim

/-- What a law's row asks behind the call. -/
theorem law_post {f : Func} {s : ChangeSpec} {tb : TypeId} {args : Array Value} {ds gs : List (DataW H)} {before : List MemPlace} (hvs : s.vars = []) (hres : f.resultTypes = #[tb]) (htb : Tryz.prog.underlying tb = some .bool)
    (hty : ∀ t ∈ f.params.toList, Tryz.prog.readableRec t = true ∧ t < Tryz.prog.types.size) (hW : DataW.Whole enc Tryz.prog f.params.toList s.vars false W args.toList ds gs before) (hfn : s.fn H (ds ++ gs) = { results := [.lit (.bool true)], args := ds }) (hb : Below W.heap.size W W') :
    s.post enc Tryz.prog f false true false false W args (.bool true) W' := by
  have hlt := hW.lt
  have hW' := hW
  obtain ⟨p, q, hA, hV, rfl, _, _⟩ := hW
  rw [hvs] at hV
  obtain ⟨rfl, rfl⟩ := trodVars_none hV
  refine ⟨ds, [], p ++ [], [], p, [], hW', ?_, ?_, ?_, hb.frame _, fun h => by cases h⟩
  · rw [hfn, hres]
    exact trodAll_mk1 (shut_bool htb true)
  · rw [hfn]
    exact trodAll_below hb _ _ _ _ hty hA fun x hx => hlt x (List.mem_append_left _ hx)
  · rw [hvs, hfn]
    exact rfl
end
end Go.Proofs.YtgliogfggajfgaaGreatDoor
namespace Go.Proofs.YtgliogfggajfgaaGreatDoor
open Go.ChangeShapes Go.WideShapes Go.ChangeAt Go.RowKit Go.Joins Go.Deep

section
variable {H : Type} {enc : TypeId × Value → H} {w : World} {v : Value} {d : DataW H} {p : List MemPlace}
set_option maxRecDepth 100000 in
theorem open_term : ∀ fuel, TreeAt enc w 25 fuel := open_tree (S := 23) Tryz.underlying25 (by kernel_rfl) Tryz.underlying23 (by kernel_rfl) (by kernel_rfl) (by kernel_rfl)
set_option maxRecDepth 100000 in
/-- A tree that is handed over by value. -/
theorem open_arg {T : TypeId} {fs : Array Field} (hT : Tryz.prog.underlying T = some (.struct fs)) (ht : ∀ fuel, TreeAt enc w T fuel) {base : Nat} (hv : Value.okWide Tryz.prog w .any base T v) (h : DataW.Trod enc Tryz.prog w 0 (fun _ => true) true T v d p) (hw : ∀ m ∈ d.weights Tryz.prog T, m ≤ reachBytes) :
    ∃ (tr : Tr) (sv : Value), v = .agg #[.int .i8 tr.k, .int .i64 tr.n, .string tr.s, .string tr.t, sv] ∧ TrV (fun _ => True) w tr sv := by
  obtain ⟨cs, rfl, _⟩ := okWide_struct hT hv
  obtain ⟨fuel, hf⟩ := h
  obtain ⟨tr, sv, e, hx⟩ := ht fuel _ _ hf hw
  refine ⟨tr, sv, ?_, hx⟩
  have : cs.toList = [.int .i8 tr.k, .int .i64 tr.n, .string tr.s, .string tr.t, sv] := by simpa [Value.cells] using e
  obtain ⟨l⟩ := cs
  simp only at this
  rw [this]

set_option maxRecDepth 100000 in
theorem open_int {base : Nat} (hv : Value.okWide Tryz.prog w .any base 3 v) (h : DataW.Trod enc Tryz.prog w 0 (fun _ => true) true 3 v d p) : ∃ n, v = .int .i64 n ∧ IntKind.i64.wrap n = n := by
  obtain ⟨n, rfl⟩ := okWide_int Tryz.underlying3 hv
  obtain ⟨fuel, hf⟩ := h
  obtain ⟨m, e, _, hw⟩ := DataW.trod_int Tryz.underlying3 hf
  simp [Value.cells] at e
  subst e
  have h1 : -9223372036854775808 ≤ n ∧ n ≤ 9223372036854775807 := by
    have h2 : IntKind.i64.min ≤ n ∧ n ≤ 9223372036854775807 := by simpa [Lit.wf] using hw
    exact ⟨Int.le_trans (by decide) h2.1, h2.2⟩
  exact ⟨n, rfl, by rw [IntKind.wrap_i64]; omega⟩
end

theorem gLetters : Tryz.prog.globalNamed "pleach/atoms.letters" = some 0 := by kernel_rfl
theorem tLetters : (Tryz.prog.globals[0]?).map (·.type) = some 181 := by kernel_rfl
def laidL {H : Type} : List (String × DataW H) := [("math/bits.deBruijn32tab", Rows.laid_math_bits_deBruijn32tab), ("math/bits.deBruijn64tab", Rows.laid_math_bits_deBruijn64tab), ("internal/strconv.uint64pow10", Rows.laid_internal_strconv_uint64pow10), ("pleach/atoms.letters", Rows.laid_pleach_atoms_letters)]
set_option maxRecDepth 100000 in
theorem pair_u8 {H : Type} {enc : TypeId × Value → H} {w : World} {held : Bool} {sp : Nat → Bool} {fuel : Nat} {a b : Value} {x : DataW H × List MemPlace} {p q : Int} (h : DataW.trod enc Tryz.prog w 0 sp held fuel 180 [a, b] = some x) (hx : x.1 = .agg [.lit (.int .u8 p), .lit (.int .u8 q)]) : a = .int .u8 p ∧ b = .int .u8 q := by
  obtain ⟨xs, m, rfl, rfl, _, hn, hel⟩ := DataW.trod_array Tryz.underlying180 h
  obtain ⟨x0, x1, rfl⟩ := list2 hn
  have h0 := hel 0 (by decide)
  have h1 := hel 1 (by decide)
  rw [show Tryz.prog.cellsOf 5 = 1 from by kernel_rfl] at h0 h1
  simp only [Nat.zero_mul, Nat.one_mul, List.drop_zero, List.drop_succ_cons, List.take_succ_cons, List.take_zero, List.getElem?_cons_zero, List.getElem?_cons_succ] at h0 h1
  obtain ⟨n0, e0, f0, _⟩ := DataW.trod_int Tryz.underlying5 h0
  obtain ⟨n1, e1, f1, _⟩ := DataW.trod_int Tryz.underlying5 h1
  cases e0; cases e1
  subst f0 f1
  simp at hx
  rw [hx.1, hx.2]
  exact ⟨rfl, rfl⟩
theorem list4 {α : Type} {l : List α} (h : l.length = 4) : ∃ a b c d, l = [a, b, c, d] := by
  match l, h with
  | [a, b, c, d], _ => exact ⟨a, b, c, d, rfl⟩
theorem list8 {α : Type} {l : List α} (h : l.length = 8) : ∃ a b c d e f g i, l = [a, b, c, d, e, f, g, i] := by
  match l, h with
  | [a, b, c, d, e, f, g, i], _ => exact ⟨a, b, c, d, e, f, g, i, rfl⟩
set_option maxRecDepth 100000 in
theorem of_laid {W : World} (h : laidMetH Tryz.prog laidL W) : Letters W := by
  rw [MakeChecks.laidMetH_plain _ _ _ (by kernel_rfl)] at h
  obtain ⟨ps, ⟨_, _, _, _, _, _, _, _, _, _, ⟨_, _, _, _, _, _, _, _, _, _, ⟨_, _, _, _, _, _, _, _, _, _, ⟨g0, t0, cs0, f0, p0, q0, hg0, ht0, hv0, hd0, _, _⟩, _⟩, _⟩, _⟩, _, _⟩ := h
  obtain rfl := Option.some.inj (gLetters.symm.trans hg0)
  obtain rfl := Option.some.inj (tLetters.symm.trans ht0)
  obtain ⟨xs, m, rfl, hx, hlen, hn, hel⟩ := DataW.trod_array Tryz.underlying181 hd0
  have hl8 : cs0.toList.length = 8 := hlen.trans (by kernel_rfl)
  have hcell := fun i => World.var?_cell hg0 hv0 i
  obtain ⟨l⟩ := cs0
  simp only at hl8 hel
  obtain ⟨a, b, c, d, e, f, g, i, rfl⟩ := list8 hl8
  obtain ⟨x0, x1, x2, x3, rfl⟩ := list4 hn
  have h0 := hel 0 (by decide)
  have h1 := hel 1 (by decide)
  have h2 := hel 2 (by decide)
  have h3 := hel 3 (by decide)
  rw [show Tryz.prog.cellsOf 180 = 2 from by kernel_rfl] at h0 h1 h2 h3
  simp only [Nat.zero_mul, Nat.one_mul, Nat.reduceMul, List.drop_zero, List.drop_succ_cons, List.take_succ_cons, List.take_zero, List.getElem?_cons_zero, List.getElem?_cons_succ] at h0 h1 h2 h3
  simp only [Prod.mk.injEq, Rows.laid_pleach_atoms_letters, DataW.agg.injEq, List.map_cons, List.map_nil, List.cons.injEq, and_true] at hx
  obtain ⟨⟨k0, k1, k2, k3⟩, _⟩ := hx
  obtain ⟨rfl, rfl⟩ := pair_u8 h0 k0.symm
  obtain ⟨rfl, rfl⟩ := pair_u8 h1 k1.symm
  obtain ⟨rfl, rfl⟩ := pair_u8 h2 k2.symm
  obtain ⟨rfl, rfl⟩ := pair_u8 h3 k3.symm
  exact ⟨hcell 0, hcell 1, hcell 2, hcell 3, hcell 4, hcell 5, hcell 6, hcell 7⟩
/-- The door's own heap meets the condition. -/
theorem door_met (os : Os) (args : Array Value) : laidMetH Tryz.prog laidL ((World.doorLaid Tryz.prog 400 os).forCall (fun _ _ => 0) ⟨#[], args, []⟩).memory :=
  laidMetH_of_parts3 (fuel := 8) (laidMet_of_run' 8 (by kernel_rfl) (by kernel_rfl)) (by kernel_rfl) (by kernel_rfl)
end Go.Proofs.YtgliogfggajfgaaGreatDoor
