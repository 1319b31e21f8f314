/-
  ast.Vars. Condition: the tree lies as 'TrV' says.
-/
import Derived.Test.YtdjafnjmkkagjaaGreatDoorIr4
import Derived.RegionIn
import Derived.Stop.RegionWithIn
import Derived.Sort.BigQuietIn
namespace Go.Proofs.YtdjafnjmkkagjaaGreatDoor
open Go.RowKit Go.Shelf Ir
attribute [local go_sem] Oper.semAt_some
theorem vfold_snoc (y : Tr) : ∀ (l : List Tr) (o : List ByteArray), vfold (l ++ [y]) o = vfold [y] (vfold l o)
  | [], o => rfl
  | z :: r, o => by rw [List.cons_append]; show vfold (r ++ [y]) _ = vfold [y] (vfold r _); exact vfold_snoc y r _
theorem below_put {B l : Nat} {w W : World} (h : Below B w W) (hl : B ≤ l) (o : Obj) : Below B w (W.putObj l o) := ⟨h.os, h.tape, h.output, by have := h.size; simpa using this, fun k hk => (World.putObj_heap_other (by omega)).trans (h.block k hk)⟩
theorem row_same {W W' : World} {base : Nat} {size : Nat} {v : Value} {n : Nat} {xs : List Value} (h : W.ownsRow base 9 size v n xs) (hs : ∀ g, g < W.heap.size → IsW W g → W'.heap[g]? = W.heap[g]?) : W'.ownsRow base 9 size v n xs := by
  obtain ⟨h1, h2⟩ := h
  refine ⟨h1, h2.imp id ?_⟩
  rintro ⟨g, cap, cur, rfl, hg, hh, r⟩
  exact ⟨g, cap, cur, rfl, hg, (hs g (Array.getElem?_eq_some_iff.1 hh).1 ⟨_, _, hh⟩).trans hh, r⟩
theorem row_w {W : World} {base : Nat} {size : Nat} {v : Value} {n : Nat} {xs : List Value} (h : W.ownsRow base 9 size v n xs) {g : Nat} (hg : v.ownBlock = some g) : IsW W g := by
  rcases h.2 with ⟨rfl, _⟩ | ⟨g', cap, cur, rfl, _, hh, _⟩
  · cases hg
  · cases hg; exact ⟨_, _, hh⟩
theorem row_base {W : World} {base base' : Nat} {e : TypeId} {size : Nat} {v : Value} {n : Nat} {xs : List Value} (h : W.ownsRow base e size v n xs) (hb : base' ≤ base) : W.ownsRow base' e size v n xs := by
  obtain ⟨h1, h2⟩ := h
  refine ⟨h1, h2.imp id ?_⟩
  rintro ⟨g, cap, cur, rfl, hg, r⟩
  exact ⟨g, cap, cur, rfl, Nat.le_trans hb hg, r⟩
def noDefer (o : Oper) : Bool := match o.op with
  | .defer _ => false
  | _ => true
theorem noDefer_ne {o : Oper} (h : noDefer o = true) (c : Call) : o.op ≠ .defer c := by
  intro e
  unfold noDefer at h
  rw [e] at h; cases h
macro "qstep_in " "(" tac:tactic ")" : tactic => `(tactic|
  (refine wpQuietIn_step (fun _ _ _ _ => trivial) (fun K hK => ?_)
   go_simp
   first
     | (refine hK _ ?_; clear hK K)
     | (apply Exists.intro
        refine ⟨fun _ => ?_, hK _ ?_⟩
        ($tac:tactic)
        clear hK K)))
macro "ord_step" : tactic => `(tactic| first
  | (refine wpAnyIn_ready (rs := [0, 1]) (by decide +kernel) (by simp) (AllReadyIn.cons rfl (fun K hK => ?_) (AllReadyIn.cons rfl (fun K hK => ?_) AllReadyIn.nil)) <;> (go_simp; refine hK _ _ ?_; clear hK K))
  | (refine wpAnyIn_ready (rs := [0, 2]) (by decide +kernel) (by simp) (AllReadyIn.cons rfl (fun K hK => ?_) (AllReadyIn.cons rfl (fun K hK => ?_) AllReadyIn.nil)) <;> (go_simp; refine hK _ _ ?_; clear hK K))
  | (refine wpAnyIn_ready (rs := [0, 3]) (by decide +kernel) (by simp) (AllReadyIn.cons rfl (fun K hK => ?_) (AllReadyIn.cons rfl (fun K hK => ?_) AllReadyIn.nil)) <;> (go_simp; refine hK _ _ ?_; clear hK K))
  | (refine wpAnyIn_ready (rs := [0, 4]) (by decide +kernel) (by simp) (AllReadyIn.cons rfl (fun K hK => ?_) (AllReadyIn.cons rfl (fun K hK => ?_) AllReadyIn.nil)) <;> (go_simp; refine hK _ _ ?_; clear hK K))
  | (refine wpAnyIn_ready (rs := [0, 5]) (by decide +kernel) (by simp) (AllReadyIn.cons rfl (fun K hK => ?_) (AllReadyIn.cons rfl (fun K hK => ?_) AllReadyIn.nil)) <;> (go_simp; refine hK _ _ ?_; clear hK K))
  | (refine wpAnyIn_ready (rs := [0]) (by decide +kernel) (by simp) (AllReadyIn.cons rfl (fun K hK => ?_) AllReadyIn.nil); go_simp; refine hK _ _ ?_; clear hK K)
  | (refine wpAnyIn_ready (rs := [1]) (by decide +kernel) (by simp) (AllReadyIn.cons rfl (fun K hK => ?_) AllReadyIn.nil); go_simp; refine hK _ _ ?_; clear hK K)
  | (refine wpAnyIn_ready (rs := [2]) (by decide +kernel) (by simp) (AllReadyIn.cons rfl (fun K hK => ?_) AllReadyIn.nil); go_simp; refine hK _ _ ?_; clear hK K)
  | (refine wpAnyIn_ready (rs := [3]) (by decide +kernel) (by simp) (AllReadyIn.cons rfl (fun K hK => ?_) AllReadyIn.nil); go_simp; refine hK _ _ ?_; clear hK K)
  | (refine wpAnyIn_ready (rs := [4]) (by decide +kernel) (by simp) (AllReadyIn.cons rfl (fun K hK => ?_) AllReadyIn.nil); go_simp; refine hK _ _ ?_; clear hK K)
  | (refine wpAnyIn_ready (rs := [5]) (by decide +kernel) (by simp) (AllReadyIn.cons rfl (fun K hK => ?_) AllReadyIn.nil); go_simp; refine hK _ _ ?_; clear hK K)
  | fail)
theorem oper_append {F : Fence} {n : Nat} {P : Program} (w : World) {o : Oper} {a : Act} {K : Act → World → Prop} {Q : Exit → Act → World → Prop} (s x : Operand) (t : TypeId) (hop : o.op = Op.call { callee := Callee.builtin Builtin.append, args := #[s, x], argTypes := #[t, t] })
    (base : Nat) (e : TypeId) (i : TypeInfo) (z : Value) (size bytes : Nat) (h1 : P.underlying t = some (.slice e)) (h2 : P.info? e = some i) (h3 : i.zero = some z) (h4 : i.size = size) (h5 : i.bytes = bytes) (h6 : z.cells.size = size) (h7 : 0 < size)
    (v : Value) (k : Nat) (xs : List Value) (hs : a.eval s = v) (hown : w.ownsRow base e size v k xs) (ad : Addr) (m c : Nat) (news : List Value) (hx : a.eval x = .slice (some ad) m c) (hn : news.length = m * size)
    (hc : ∀ j u, news[j]? = some u → w.cell? (ad.add j) = some u) (h1c : ∀ u ∈ news, u.oneCell' = true) (b1 : k + m ≤ maxLen) (b2 : (k + m) * bytes ≤ 140737488355328) (b3 : base ≤ w.heap.size)
    (hK : ∀ v' w', w'.ownsRow base e size v' (k + m) (xs ++ news) → w.grownBy w' v.ownBlock → K (a.put o.dst v') w') : o.wpIn F n P a w K Q := by
  obtain ⟨v', w', hrun, r1, r2, _⟩ := run_append_own (P := P) w base t o.type e i z size bytes h1 h2 h3 h4 h5 h6 h7 v k xs hown ad m c news hn hc h1c b1 b2 b3
  unfold Oper.wpIn
  refine ⟨?_, ?_⟩
  · simp [Oper.about, hop, resolve, Target.leads, Sem.run_pure]
  · rw [Oper.semAt_plain F _ _ (by rw [hop]; intro c hc'; cases hc')]
    simp [execOp, hop, resolve, invoke, builtin, hs, hx, hrun, Result.andThen]
    exact hK _ _ r1 r2
/-- A region of a round that only reads, in whatever order. -/
theorem wpIn_region_read {F : Fence} {n : Nat} {P : Program} {C : World → Prop} {id : Nat} {Q : Exit → Act → World → Prop} {a : Act} {w : World} {l : List Oper} (hnd : l.all noDefer = true) (hm : P.follows .mixedOrders = true) (hB : Region.lexB .any l.toArray = true) (hC : C { w with drawn := w.drawn + 1 })
    (h : wpQuietIn F n P l.toArray C (fun a' => ∀ w', C w' → Q .normal a' w') l a) : (Code.region id l.toArray true).wpIn F n P Q a w := by
  have nd : ∀ (i : Nat) (o : Oper), l.toArray[i]? = some o → ∀ c : Call, o.op ≠ .defer c := fun i o ho => by
    rw [List.getElem?_toArray] at ho
    exact noDefer_ne (List.all_eq_true.1 hnd o (List.mem_of_getElem? ho))
  have one : ∀ {o : Oper} {a : Act} {K : Act → Prop} {K' : Act → World → Prop} {Q' : Exit → Act → World → Prop} {w : World}, (∀ c, o.op ≠ .defer c) → C w → (∀ a w', C w' → K a → K' a w') → o.askedIn F P a C → o.quietIn F n P a C K → o.wpIn F n P a w K' Q' := by
    rintro o a K K' Q' w hd hw h ha ⟨v, h1, h2⟩
    have h3 := h1 w hw
    unfold Oper.quietAtIn at h3
    unfold Oper.wpIn
    refine ⟨ha w hw, ?_⟩
    rw [Oper.semAt_eq _ _ _ hd]
    generalize (execOp a.eval o).run P w = r at *
    cases r with
    | ok x w' =>
      cases x <;> simp only [Oper.quietUponIn] at h3 <;> simp only [Oper.uponIn]
      case value u => obtain ⟨e1, e2⟩ := h3; rw [e1, e2]; exact h _ _ hw h2
      case skip => obtain ⟨e1, e2⟩ := h3; rw [e1, ← e2]; exact h _ _ hw h2
      case enter f args =>
        obtain ⟨e1, hd, hc⟩ := h3
        rw [e1]
        exact ⟨hd, hc.mono fun e w'' ⟨he, hw''⟩ => by subst he; exact h _ _ hw'' h2⟩
    | halt x w' => simp only [Oper.quietUponIn] at h3
  have each : ∀ {i : Nat} {a : Act} {K : Act → Prop} {K' : Act → World → Prop} {Q' : Exit → Act → World → Prop} {w : World}, C w → (∀ a w', C w' → K a → K' a w') → qOpIn F n P l.toArray C i K a → wpOpIn F n P l.toArray Q' i K' a w := by
    intro i a K K' Q' w hC h hh
    unfold qOpIn at hh
    unfold wpOpIn
    split
    · rename_i ho; simp only [ho] at hh; exact h _ _ hC hh
    · rename_i o ho
      simp only [ho] at hh
      obtain ⟨ha, hh⟩ := hh
      split
      · rename_i hw; simp only [hw, if_true] at hh; exact one (nd i o ho) hC h ha hh
      · rename_i hw; simp only [hw] at hh; exact ⟨ha w hC, h _ _ hC hh⟩
  have any : ∀ {Q : Act → Prop} {Q' : Exit → Act → World → Prop}, (∀ a w, C w → Q a → Q' .normal a w) → ∀ (fuel : Nat) (listed : Array Bool) (a : Act) (w : World), C w → wpAnyQIn F n P .any l.toArray C Q fuel listed a → wpAnyIn F n P .any l.toArray Q' fuel listed a w := by
    intro Q Q' hQ fuel
    induction fuel with
    | zero => exact fun _ _ _ hw h => ⟨h.1, hQ _ _ hw h.2⟩
    | succ fuel ih => exact fun _ _ _ hw h => ⟨fun h0 => hQ _ _ hw (h.1 h0), fun i hi => each hw (fun a' w' hw' => ih _ a' w' hw') (h.2 i hi)⟩
  simp only [Region.lexB, Bool.and_eq_true] at hB
  refine wpIn_region_any hm (any (Q := fun a' => ∀ w', C w' → Q .normal a' w') (fun _ w' hw' h => h w' hw') _ _ _ _ hC ?_)
  have := wpAnyQIn_lex (F := F) (n := n) (C := C) (md := .any) hB.1 l 0 (Array.replicate l.toArray.size false) a (by simp) (by simpa using hB.2) h
  simpa using this
theorem setCell_at_other (W : World) {b j : Nat} (h : j ≠ b) (v : Value) : (W.setCell ⟨b, 0, none⟩ v).heap[j]? = W.heap[j]? := by
  unfold World.setCell
  simp only [Array.getElem?_modify]
  rw [if_neg (Ne.symm h)]
theorem toList_und : (⟨#[95]⟩ : ByteArray).toList = [95] := by rw [ByteArray.toList_eq]
theorem und_iff {s : ByteArray} : undB s = true ↔ s = ⟨#[95]⟩ := by
  unfold undB
  constructor
  · intro h
    have h1 : s.toList = [95] := by simpa using h
    exact bs_eq (by rw [h1, toList_und]; simp)
  · rintro rfl; rw [toList_und]; simp
theorem sz_pre (x : Tr) : ∀ m : Int, 1 ≤ m → x.sz m < m → x.sz m = ((preT x).length : Int) := by
  induction x using Tr.ind with
  | h x ih =>
    intro m hm hlt
    have key : ∀ r : List Tr, (∀ y, y ∈ r → y ∈ x.l) → ∀ a : Int, 1 ≤ a → a ≤ m → Tr.sz.szl r m a < m → Tr.sz.szl r m a = a + (((r.map preT).flatten).length : Int) := by
      intro r
      induction r with
      | nil => intro _ a _ _ _; simp [Tr.sz.szl]
      | cons y r ihr =>
        intro hr a ha ham hl
        rw [Tr.sz.szl] at hl ⊢
        by_cases h1 : a < m
        · rw [if_pos h1] at hl ⊢
          obtain ⟨b1, b2⟩ := sz_bound y (m - a) (by omega)
          have hb : a + y.sz (m - a) < m := by
            rcases Int.lt_or_le (a + y.sz (m - a)) m with h | h
            · exact h
            · rw [szl_stop r h] at hl; omega
          rw [ihr (fun z hz => hr z (List.mem_cons_of_mem _ hz)) _ (by omega) (by omega) hl]
          have := ih y (hr y (List.mem_cons_self ..)) (m - a) (by omega) (by omega)
          simp only [List.map_cons, List.flatten_cons, List.length_append]
          omega
        · rw [if_neg h1] at hl; omega
    have e : x.sz m = Tr.sz.szl x.l m 1 := by cases x; rfl
    rw [e] at hlt ⊢
    rw [key x.l (fun _ h => h) 1 (by omega) hm hlt, preT_eq]
    simp only [List.length_cons]
    omega
theorem fits_pre {x : Tr} (h : fitsB x = true) : (preT x).length ≤ 4096 := by
  unfold fitsB at h
  simp only [Bool.and_eq_true, decide_eq_true_eq] at h
  have := sz_pre x 4097 (by omega) (by omega)
  omega
/-- What Vars tells. -/
def vT (x : Tr) : List ByteArray := if fitsB x then vfold (preT x) [] else []
set_option maxRecDepth 100000 in
set_option maxHeartbeats 8000000 in
theorem vars_any {F : Nat → Prop} {x : Tr} {w : World} {sv : Value} (hx : TrV F w x sv) : Calls Tryz.prog 29 #[.agg #[.int .i8 x.k, .int .i64 x.n, .string x.s, .string x.t, sv]] w fun e w' =>
    ∃ v, e = .returned v ∧ w'.ownsRow w.heap.size 9 1 v (vT x).length ((vT x).map .string) ∧ Below w.heap.size w w' := by
  obtain ⟨p, c, rfl⟩ := hx.kids.slice
  obtain ⟨hb1, hz1, hn1⟩ := node_box w 57 x.k x.n x.s x.t (.slice p x.l.length c)
  have hx0 : TrV (fun k => k < w.heap.size) w x (.slice p x.l.length c) := ⟨hx.wf, hx.kids.mono fun _ _ h => h⟩
  have hx1 := hx0.below hb1
  have hn1 : NodeAt (w.alloc (.cells #[.int .i8 x.k, .int .i64 x.n, .string x.s, .string x.t, .slice p x.l.length c] 57)) w.heap.size 0 x (.slice p x.l.length c) := ⟨hn1.k, hn1.n, hn1.s, hn1.t, hn1.l⟩
  have cM := measure_any hn1 hx1
  have cF : ∀ W, Calls Tryz.prog 62 #[.agg #[.int .i64 (x.sz 4097), .int .i64 (x.dp 65)]] W fun e w' => e = .returned (.bool (fitsB x)) ∧ Below W.heap.size W w' := fun W => sfits_any W (x.sz 4097) (x.dp 65)
  have hV : vT x = if fitsB x then vfold (preT x) [] else [] := rfl
  refine (callsIn_wide (n := 9)).1 ?_
  refine callsIn_of_wp_marks Tryz.func29 rfl trivial ?_ rfl
  simp only [Tryz.ntmps29, List.size_toArray, List.length_cons, List.length_nil, Nat.reduceAdd, Nat.reduceSub, Array.replicate_succ, Array.replicate_zero, List.push_toArray, List.append_toArray, List.nil_append, List.cons_append]
  cases hf : fitsB x
  · rw [hf] at cF hV
    rw [hV]
    gi_wp2_with (first
      | (refine ⟨trivial, ?_⟩; gi_at_call 61; refine (callsIn_wide.2 cM).mono ?_; rintro e w2 ⟨rfl, hb2⟩)
      | (refine ⟨trivial, ?_⟩; gi_at_call 62; refine (callsIn_wide.2 (cF _)).mono ?_; rintro e w3 ⟨rfl, hb3⟩))
    refine ⟨_, results_tmp rfl _ _ _, _, rfl, World.ownsRow_nil _ _ _ _, ?_⟩
    exact hb1.trans ((hb2.trans (hb3.mono hb2.size)).mono (by rw [hz1]; omega))
  · rw [hf] at cF hV
    rw [if_pos rfl] at hV
    rw [hV]
    clear hV
    have hfp := fits_pre hf
    generalize hW1 : w.alloc (.cells #[.int .i8 x.k, .int .i64 x.n, .string x.s, .string x.t, .slice p x.l.length c] 57) = w1 at hb1 hz1 hx1 hn1 cM
    have hz1' : w1.heap.size ≤ w.heap.size + 1 ∧ w.heap.size + 1 ≤ w1.heap.size := by omega
    clear hz1
    have HW1 := Lib.hid hW1
    clear hW1
    gi_wp2_with (first
      | (refine ⟨trivial, ?_⟩; gi_at_call 61; rw [HW1.out]; refine (callsIn_wide.2 cM).mono ?_; rintro e w2 ⟨rfl, hb2⟩)
      | (refine ⟨trivial, ?_⟩; gi_at_call 62; refine (callsIn_wide.2 (cF _)).mono ?_; rintro e w3 ⟨rfl, hb3⟩)
      | (refine ⟨trivial, ?_⟩; gi_at_call 63; refine (walk_in _ _ _).mono ?_; rintro e w' ⟨rfl, rfl⟩))
    have hbA := (hb2.trans (hb3.mono hb2.size))
    have hs3 := hbA.size
    have hbB : Below w1.heap.size w1 ((w3.alloc (.cells #[.slice none 0 0] 61)).alloc (.cells #[.pointer (some ⟨w.heap.size, 0, none⟩)] 103)) := (hbA.alloc hs3 _).alloc (by simp; omega) _
    have hbo : ((w3.alloc (.cells #[.slice none 0 0] 61)).alloc (.cells #[.pointer (some ⟨w.heap.size, 0, none⟩)] 103)).heap[w3.heap.size]? = some (.cells #[.slice none 0 0] 61 (0, 0)) := (Below.heap_alloc _ _ _ (by simp)).trans (World.alloc_heap_new w3 _)
    have hbw : ((w3.alloc (.cells #[.slice none 0 0] 61)).alloc (.cells #[.pointer (some ⟨w.heap.size, 0, none⟩)] 103)).heap[w3.heap.size + 1]? = some (.cells #[.pointer (some ⟨w.heap.size, 0, none⟩)] 103 (0, 0)) := by
      have := World.alloc_heap_new (w3.alloc (.cells #[.slice none 0 0] 61)) (.cells #[.pointer (some ⟨w.heap.size, 0, none⟩)] 103); rwa [World.size_alloc] at this
    have hsB : ((w3.alloc (.cells #[.slice none 0 0] 61)).alloc (.cells #[.pointer (some ⟨w.heap.size, 0, none⟩)] 103)).heap.size ≤ w3.heap.size + 2 ∧ w3.heap.size + 2 ≤ ((w3.alloc (.cells #[.slice none 0 0] 61)).alloc (.cells #[.pointer (some ⟨w.heap.size, 0, none⟩)] 103)).heap.size := by simp
    generalize (w3.alloc (.cells #[.slice none 0 0] 61)).alloc (.cells #[.pointer (some ⟨w.heap.size, 0, none⟩)] 103) = W0 at hbB hbo hbw hsB ⊢
    refine range_goes rfl (fun h => by cases h) (gf := 121) (lb := #[.pointer (some ⟨w3.heap.size + 1, 0, none⟩)]) rfl trivial (enters_of Tryz.func121 (by kernel_rfl) rfl) ?_
    intro fn2 _ rec hrec
    have HR := Lib.hid hrec
    clear hrec
    have hbL : Below w1.heap.size w1 ((W0.alloc (.deferred (some []))).alloc (.loop (rec .ready))) := (hbB.alloc hbB.size _).alloc (by have := hbB.size; simp; omega) _
    have hD : ((W0.alloc (.deferred (some []))).alloc (.loop (rec .ready))).heap[W0.heap.size]? = some (.deferred (some [])) := (Below.heap_alloc _ _ _ (by simp)).trans (World.alloc_heap_new W0 _)
    have hL : ((W0.alloc (.deferred (some []))).alloc (.loop (rec .ready))).heap[W0.heap.size + 1]? = some (.loop (rec .ready)) := by
      have := World.alloc_heap_new (W0.alloc (.deferred (some []))) (.loop (rec .ready)); rwa [World.size_alloc] at this
    have hbo2 : ((W0.alloc (.deferred (some []))).alloc (.loop (rec .ready))).heap[w3.heap.size]? = some (.cells #[.slice none 0 0] 61 (0, 0)) := (Below.heap_alloc _ _ _ (by simp; omega)).trans ((Below.heap_alloc _ _ _ (by omega)).trans hbo)
    have hbw2 : ((W0.alloc (.deferred (some []))).alloc (.loop (rec .ready))).heap[w3.heap.size + 1]? = some (.cells #[.pointer (some ⟨w.heap.size, 0, none⟩)] 103 (0, 0)) := (Below.heap_alloc _ _ _ (by simp; omega)).trans ((Below.heap_alloc _ _ _ (by omega)).trans hbw)
    have hsL : ((W0.alloc (.deferred (some []))).alloc (.loop (rec .ready))).heap.size ≤ W0.heap.size + 2 ∧ W0.heap.size + 2 ≤ ((W0.alloc (.deferred (some []))).alloc (.loop (rec .ready))).heap.size := by simp
    generalize (W0.alloc (.deferred (some []))).alloc (.loop (rec .ready)) = Wl at hbL hD hL hbo2 hbw2 hsL ⊢
    refine (anyDeep (m := 9) (walk1_in (n₀ := w1.heap.size) (w0 := w1) x w.heap.size 0 (.slice p x.l.length c) (W0.heap.size + 1) (W0.heap.size + 1 + 1) (fun j => j = w3.heap.size ∨ j = W0.heap.size + 1) (preT x).length
      (fun pre U => ∃ v, U.heap[w3.heap.size]? = some (.cells #[v] 61 (0, 0)) ∧ U.ownsRow w1.heap.size 9 1 v (vfold pre []).length ((vfold pre []).map .string) ∧ Below w1.heap.size w1 U ∧ U.heap[W0.heap.size + 1]? = some (.loop (rec .ready)) ∧ U.heap[W0.heap.size]? = some (.deferred (some [])))
      hn1 ⟨hx1.wf, hx1.kids.mono fun _ _ h => by omega⟩ (by omega) (by omega) (fun j q => by omega) ?keep (fun _ _ q => q.choose_spec.2.2.1) ?round [] Wl (w3.heap.size + 1) (by simp) ⟨_, hbo2, World.ownsRow_nil _ _ _ _, hbL, hL, hD⟩ (by omega) ⟨by omega, not_w hbw2 (by rintro _ _ ⟨⟩), fun q => by omega⟩ hbw2)).mono ?done
    case keep =>
      rintro pre U U' ⟨v, q1, q2, q3, q4, q5⟩ gr
      refine ⟨v, (gr.same _ (Array.getElem?_eq_some_iff.1 q1).1 (.inl (by omega))).trans q1, row_same q2 fun g h1 h2 => gr.same g h1 (.inr h2), ?_, (gr.same _ (Array.getElem?_eq_some_iff.1 q4).1 (.inl (by omega))).trans q4, (gr.same _ (Array.getElem?_eq_some_iff.1 q5).1 (.inl (by omega))).trans q5⟩
      exact q3.trans ⟨gr.os, gr.tape, gr.output, gr.size, fun k hk => gr.same k (Nat.lt_of_lt_of_le hk q3.size) (.inl (by omega))⟩
    case done =>
      rintro e W5 ⟨hv5, ⟨v, q1, q2, q3, q4, q5⟩, _⟩
      refine ⟨hv5, q4, ?_⟩
      have b6 := below_put q3 (l := W0.heap.size + 1) (by omega) (.loop (rec .exhausted))
      have o6 := ownsRow_putObj q2 (.loop (rec .exhausted)) q4 rfl
      have x6 : (W5.putObj (W0.heap.size + 1) (.loop (rec .exhausted))).heap[w3.heap.size]? = some (.cells #[v] 61 (0, 0)) := (World.putObj_heap_other (by omega)).trans q1
      have d6 : (W5.putObj (W0.heap.size + 1) (.loop (rec .exhausted))).heap[W0.heap.size]? = some (.deferred (some [])) := (World.putObj_heap_other (by omega)).trans q5
      generalize W5.putObj (W0.heap.size + 1) (.loop (rec .exhausted)) = W6 at b6 o6 x6 d6 ⊢
      have cx := cell_box x6
      gi_wp2
      refine ⟨by simp, .inl ⟨_, _, rfl, run_takeDeferred d6, ?_⟩⟩
      refine ⟨_, results_tmp rfl _ _ _, v, rfl, ?_, hb1.trans ((below_put b6 (by omega) _).mono (by omega))⟩
      have := row_base (ownsRow_putObj o6 (.deferred none) d6 rfl) (show w.heap.size ≤ w1.heap.size by omega)
      simpa using this
    case round =>
      rintro m pre y g' o' sv' U hy' hv' hg' hN' ⟨v, q1, q2, q3, q4, q5⟩
      refine yieldAt_rec HR.out q4 rfl trivial { tmps := #[.agg #[.int .i8 x.k, .int .i64 x.n, .string x.s, .string x.t, .slice p x.l.length c], .pointer (some ⟨w.heap.size, 0, none⟩), .slice none 0 0, .pointer (some ⟨w3.heap.size, 0, none⟩), .pointer (some ⟨g', o', none⟩), .agg #[.int .i64 (x.sz 4097), .int .i64 (x.dp 65)], .bool true, .bool false, .func (.func 121) #[] #[.pointer (some ⟨w3.heap.size + 1, 0, none⟩)], .pointer (some ⟨g', o', none⟩), undef, undef, undef, undef, undef, undef, undef, undef, undef, undef, undef, undef, undef, undef, undef, undef, undef, undef, undef, undef, undef, undef, undef, undef, undef, undef, undef, undef, undef], defers := [] } (fun K hK => by gi_wp2; exact hK) ?_
      have hsl := (Array.getElem?_eq_some_iff.1 q4).1
      have b6 := below_put q3 (l := W0.heap.size + 1) (by omega) (.loop (rec .busy))
      have o6 := ownsRow_putObj q2 (.loop (rec .busy)) q4 rfl
      have x6 : (U.putObj (W0.heap.size + 1) (.loop (rec .busy))).heap[w3.heap.size]? = some (.cells #[v] 61 (0, 0)) := (World.putObj_heap_other (by omega)).trans q1
      have d6 : (U.putObj (W0.heap.size + 1) (.loop (rec .busy))).heap[W0.heap.size]? = some (.deferred (some [])) := (World.putObj_heap_other (by omega)).trans q5
      have l6 : (U.putObj (W0.heap.size + 1) (.loop (rec .busy))).heap[W0.heap.size + 1]? = some (.loop (rec .busy)) := World.putObj_heap_same hsl
      have k6 : KpX (fun j => j = w3.heap.size ∨ j = W0.heap.size + 1) U (U.putObj (W0.heap.size + 1) (.loop (rec .busy))) := kp_put _ (.inr rfl)
      clear hsl q1 q2 q3 q4 q5
      generalize U.putObj (W0.heap.size + 1) (.loop (rec .busy)) = Ub at b6 o6 x6 d6 l6 k6 ⊢
      have hyb := hy'.keep (b6.block g' hg')
      have ck := hyb.k
      have cs := hyb.s
      have cx := cell_box x6
      have hln : (vfold pre []).length ≤ 4096 := by have := vfold_len pre []; simp at this; omega
      have cC : ∀ k, CallsIn (Fence.wide.inRound (W0.heap.size + 1)) (m - 1) Tryz.prog 64 #[v, .string y.s] (Ub.drewN k) fun e w' => e = .returned (.bool (hasB (vfold pre []) y.s)) ∧ w' = Ub.drewN k := fun k => CallsIn.inRound _ (callsIn_wide.2 ((bcontains_any (strs_row (show (Ub.drewN k).ownsRow w1.heap.size 9 1 v _ _ from o6) (by unfold BL; omega)) y.s).mono fun e w' h => ⟨h.1, h.2.symm⟩))
      have stay : vfold (pre ++ [y]) [] = vfold pre [] → ∀ nq V', V' = (Ub.drewN nq).putObj (W0.heap.size + 1) (.loop (rec .ready)) → ((∃ v, V'.heap[w3.heap.size]? = some (.cells #[v] 61 (0, 0)) ∧ V'.ownsRow w1.heap.size 9 1 v (vfold (pre ++ [y]) []).length ((vfold (pre ++ [y]) []).map .string) ∧ Below w1.heap.size w1 V' ∧ V'.heap[W0.heap.size + 1]? = some (.loop (rec .ready)) ∧ V'.heap[W0.heap.size]? = some (.deferred (some []))) ∧ KpX (fun j => j = w3.heap.size ∨ j = W0.heap.size + 1) U V') := by
        rintro hv nq _ rfl
        refine ⟨⟨v, (World.putObj_heap_other (by omega)).trans x6, ?_, below_put (show Below w1.heap.size w1 (Ub.drewN nq) from ⟨b6.os, b6.tape, b6.output, b6.size, b6.block⟩) (by omega) _, World.putObj_heap_same (Array.getElem?_eq_some_iff.1 l6).1, (World.putObj_heap_other (by omega)).trans d6⟩, (k6.trans (show KpX _ Ub (Ub.drewN nq) from KpX.refl _ _)).trans (kp_put _ (.inr rfl))⟩
        rw [hv]
        exact ownsRow_putObj (show (Ub.drewN nq).ownsRow w1.heap.size 9 1 v _ _ from o6) (.loop (rec .ready)) l6 rfl
      by_cases hk5 : y.k = 5
      · by_cases hu : y.s = ⟨#[95]⟩
        · have hv : vfold (pre ++ [y]) [] = vfold pre [] := by rw [vfold_snoc, vfold, if_neg (by rw [und_iff.2 hu]; simp)]; rfl
          have HV := Lib.hid hv
          clear hv
          gi_wp2
          refine wpIn_region_read (C := fun w' => ∃ n, w' = Ub.drewN n) (by kernel_rfl) (by kernel_rfl) (by kernel_rfl) ⟨1, rfl⟩ ?_
          repeat (qstep_in (skip))
          refine wpQuietIn_nil ?_
          rintro _ ⟨nq, rfl⟩
          gi_wp2
          exact stay HV.out nq _ rfl
        · have hu' : undB y.s = false := by rw [Bool.eq_false_iff]; exact fun q => hu (und_iff.1 q)
          have hq1 : (y.s.toList == [95]) = false := hu'
          have hq2 : ¬ y.s.toList = [95] := by simpa using hq1
          cases hh : hasB (vfold pre []) y.s
          · rw [hh] at cC
            have hv : vfold (pre ++ [y]) [] = vfold pre [] ++ [y.s] := by rw [vfold_snoc, vfold, if_pos (by rw [hh, hu', hk5]; rfl)]; rfl
            have HV := Lib.hid hv
            clear hv
            gi_wp2
            refine wpIn_region_read (C := fun w' => ∃ n, w' = Ub.drewN n) (by kernel_rfl) (by kernel_rfl) (by kernel_rfl) ⟨1, rfl⟩ ?_
            repeat (qstep_in (exact ⟨fun h => (by cases h), (cC _).mono fun _ _ h => ⟨h.1, _, h.2⟩⟩))
            refine wpQuietIn_nil ?_
            rintro _ ⟨nq, rfl⟩
            gi_wp2
            have hmx : Tryz.prog.follows .mixedOrders = true := by kernel_rfl
            have cyn : (Ub.drewN nq).cell? ⟨w3.heap.size, 0, none⟩ = some v := cx
            have csn : (Ub.drewN nq).cell? ⟨g', o' + 2, none⟩ = some (.string y.s) := cs
            refine wpIn_region_any hmx ?_
            obtain ⟨Un, hUn⟩ : ∃ Un, ({ (Ub.drewN nq) with drawn := (Ub.drewN nq).drawn + 1 } : World) = Un := ⟨_, rfl⟩
            have hheap : Un.heap = Ub.heap := by rw [← hUn]; rfl
            have cyn : Un.cell? ⟨w3.heap.size, 0, none⟩ = some v := by unfold World.cell? at cx ⊢; rw [hheap]; exact cx
            have csn : Un.cell? ⟨g', o' + 2, none⟩ = some (.string y.s) := by unfold World.cell? at cs ⊢; rw [hheap]; exact cs
            have cyn2 : (Un.alloc (.cells #[.string y.s] 9)).cell? ⟨w3.heap.size, 0, none⟩ = some v := cell_kept cyn (World.grownBy_alloc _ _ none) (fun r e => by cases e)
            rw [hUn]
            have b6n : Below w1.heap.size w1 Un := by rw [← hUn]; exact ⟨b6.os, b6.tape, b6.output, b6.size, b6.block⟩
            have o6n : Un.ownsRow w1.heap.size 9 1 v (vfold pre []).length ((vfold pre []).map .string) := by rw [← hUn]; exact o6
            have hvn : Boxed Un w3.heap.size 61 v := by unfold Boxed; rw [hheap]; exact x6
            have dn : Un.heap[W0.heap.size]? = some (.deferred (some [])) := by rw [hheap]; exact d6
            have ln : Un.heap[W0.heap.size + 1]? = some (.loop (rec .busy)) := by rw [hheap]; exact l6
            have kn : KpX (fun j => j = w3.heap.size ∨ j = W0.heap.size + 1) U Un := ⟨by have := k6.1; rw [hheap]; exact this, fun j hj => by rw [hheap]; exact k6.2 j hj⟩
            obtain ⟨i0, hi, hz0, hz1, hz2⟩ := info_parts infoStr
            clear b6 o6 x6 d6 l6 k6 stay cC hUn hheap
            repeat' ord_step
            all_goals
              refine wpAnyIn_ready (rs := [6]) (by decide +kernel) (by simp) (AllReadyIn.cons rfl (fun K hK => ?_) AllReadyIn.nil)
              rw [if_pos (by rfl)]
              refine oper_append (Un.alloc (.cells #[.string y.s] 9)) _ _ 61 rfl w1.heap.size 9 i0 (.string ⟨#[]⟩) 1 16 Tryz.underlying61 hi hz0 hz1 hz2 rfl (by decide) v _ _ rfl (o6n.alloc _) ⟨Un.heap.size, 0, none⟩ 1 1 [.string y.s] rfl rfl (cell_one_new _ _ _) (by simp [Value.oneCell']) (by have : (4097 : Nat) ≤ maxLen := (by decide); omega) (by omega) (by have := b6n.size; simp; omega) ?_
              intro v' wA hown' hgrow
              obtain ⟨g9, cap9, rfl⟩ := ownsRow_succ hown'
              obtain ⟨hv1, hv2, hr2, hk2, hb2⟩ := Boxed.appended hvn (by decide) o6n b6n.size (by omega) hown' hgrow
              have hc1 := hv1.cell
              have hf1 := hv1.frozen
              refine hK _ _ ?_
              clear hK K
              refine wpAnyIn_ready (rs := [7]) (by decide +kernel) (by simp) (AllReadyIn.cons rfl (fun K hK => ?_) AllReadyIn.nil)
              go_simp
              refine hK _ _ ?_
              clear hK K
              refine wpAnyIn_done (by decide +kernel) ?_ _
              have l7 := hk2.same _ _ ln rfl
              have d7 := hk2.same _ _ dn rfl
              have b7 := b6n.trans hb2
              have k7 : KpX (fun j => j = w3.heap.size ∨ j = W0.heap.size + 1) Un (wA.setCell ⟨w3.heap.size, 0, none⟩ (.slice (some ⟨g9, 0, none⟩) ((vfold pre []).length + 1) cap9)) := ⟨hk2.size, fun j hj => by
                have e1 : wA.heap[j]? = Un.heap[j]? := (hgrow.block j (by have := hj.1; simp; omega) (fun q => hj.2.1 (row_w o6n q.symm))).trans (Below.heap_alloc _ _ _ hj.1)
                rw [← e1]
                exact (setCell_at_other wA (fun q => hj.2.2 (.inl q)) _)⟩
              refine ⟨rfl, l7, rfl, ⟨_, (World.putObj_heap_other (by omega)).trans hv2, ?_, below_put b7 (by omega) _, World.putObj_heap_same (Array.getElem?_eq_some_iff.1 l7).1, (World.putObj_heap_other (by omega)).trans d7⟩, (kn.trans k7).trans (kp_put _ (.inr rfl))⟩
              have := ownsRow_putObj hr2 (.loop (rec .ready)) l7 rfl
              rw [HV.out]
              simpa using this
          · rw [hh] at cC
            have hv : vfold (pre ++ [y]) [] = vfold pre [] := by rw [vfold_snoc, vfold, if_neg (by rw [hh]; simp)]; rfl
            have HV := Lib.hid hv
            clear hv
            gi_wp2
            refine wpIn_region_read (C := fun w' => ∃ n, w' = Ub.drewN n) (by kernel_rfl) (by kernel_rfl) (by kernel_rfl) ⟨1, rfl⟩ ?_
            repeat (qstep_in (exact ⟨fun h => (by cases h), (cC _).mono fun _ _ h => ⟨h.1, _, h.2⟩⟩))
            refine wpQuietIn_nil ?_
            rintro _ ⟨nq, rfl⟩
            gi_wp2
            exact stay HV.out nq _ rfl
      · have hv : vfold (pre ++ [y]) [] = vfold pre [] := by rw [vfold_snoc, vfold, if_neg (by simp [hk5])]; rfl
        have HV := Lib.hid hv
        clear hv
        gi_wp2
        refine wpIn_region_read (C := fun w' => ∃ n, w' = Ub.drewN n) (by kernel_rfl) (by kernel_rfl) (by kernel_rfl) ⟨1, rfl⟩ ?_
        repeat (qstep_in (skip))
        refine wpQuietIn_nil ?_
        rintro _ ⟨nq, rfl⟩
        gi_wp2
        exact stay HV.out nq _ rfl
end Go.Proofs.YtdjafnjmkkagjaaGreatDoor
