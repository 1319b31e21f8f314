/-
  signal.Exited, Down, pleachref22.Exited, Down, pleachref03.Great, Same, pleachlaw22.wakes, over data. No condition but that the trees be in range.
-/
import Derived.Test.YtgliogfggajfgaaGreatDoorOa2
import Derived.Test.YtgliogfggajfgaaGreatDoorSg2
import Derived.Test.YtgliogfggajfgaaGreatDoorWk22
namespace Go.Proofs.YtgliogfggajfgaaGreatDoor.Oa
open Go.RowKit Sx
set_option maxRecDepth 100000
theorem dr_kidsM {F : Nat → Prop} {w : World} {M : Mem} {sv : Value} {l : List Tr} (hM : ∀ b cs, F b → memOf w b = some cs → M b = some cs) (h : Kids F w sv l) : DR lay M (.sl 25) (.r (rowsT l)) sv := by
  induction h with
  | mk p c l sv hc hb hwf hcells hk ih =>
    cases l with
    | nil => exact .nil _ _ p c (by simp [Dat.rows, rowsT])
    | cons x0 r =>
      obtain ⟨g, o, rfl, hFg, hn0⟩ := hcells 0 (by simp)
      have hlen : (Dat.r (rowsT (x0 :: r))).rows.length = (x0 :: r).length := rowsT_len _
      have row : ∀ (i : Nat) (rw' : List Dat), (Dat.r (rowsT (x0 :: r))).rows[i]? = some rw' → ∃ hi : i < (x0 :: r).length, rw' = rowV (x0 :: r)[i] := fun i rw' hi => by
        have hi : (rowsT (x0 :: r))[i]? = some rw' := hi
        rw [rowsT_map, List.getElem?_map, Option.map_eq_some_iff] at hi
        obtain ⟨y, h1, h2⟩ := hi
        obtain ⟨h3, h4⟩ := List.getElem?_eq_some_iff.1 h1
        exact ⟨h3, by rw [← h2, h4]⟩
      rw [← hlen]
      have at' : ∀ i (hi : i < (x0 :: r).length), NodeAt w g (o + i * 5) (x0 :: r)[i] (sv i) := fun i hi => by
        obtain ⟨g', o', e1, _, hn⟩ := hcells i hi
        cases e1
        exact hn
      have blk : ∃ cs ty fz, w.heap[g]? = some (.cells cs ty fz) := by
        have := hn0.k
        unfold World.cell? at this
        split at this
        · rename_i hh; exact ⟨_, _, _, hh⟩
        · cases this
      obtain ⟨cs, ty, fz, hblk⟩ := blk
      have cell : ∀ j v, w.cell? ⟨g, j, none⟩ = some v → cs[j]? = some v := fun j v e => by rwa [cell_at hblk] at e
      refine .sl _ _ g o c (fun i j => if hi : i < (x0 :: r).length then (match j with | 0 => .int .i8 (x0 :: r)[i].k | 1 => .int .i64 (x0 :: r)[i].n | 2 => .string (x0 :: r)[i].s | 3 => .string (x0 :: r)[i].t | _ => sv i) else undef) (by rw [hlen]; exact hc) (fun i rw' hi => ?_) (fun i rw' hi j hj => ?_) (fun i rw' hi j k u hk' hu => ?_)
      · obtain ⟨h3, rfl⟩ := row i rw' hi; rfl
      · obtain ⟨h3, rfl⟩ := row i rw' hi
        refine ⟨cs, hM _ _ hFg (memOf_at hblk), ?_⟩
        rw [dif_pos h3]
        obtain ⟨e0, e1, e2, e3, e4⟩ := at' i h3
        have hj : j < 5 := hj
        match j, hj with
        | 0, _ => exact cell _ _ e0
        | 1, _ => exact cell _ _ e1
        | 2, _ => exact cell _ _ e2
        | 3, _ => exact cell _ _ e3
        | 4, _ => exact cell _ _ e4
      · obtain ⟨h3, rfl⟩ := row i rw' hi
        rw [dif_pos h3]
        have okn : ∀ s : ByteArray, DR lay M .s (.s (nats s)) (.string s) := fun s => by
          have := DR.s (lay := lay) (M := M) (.s (nats s)) (okS_map _)
          rwa [show bytesOf (Dat.s (nats s)).str = s from bytes_nats s] at this
        match j, hk', hu with
        | 0, hk', hu => cases hk'; cases hu; exact .i .i8 (.i _)
        | 1, hk', hu => cases hk'; cases hu; exact .i .i64 (.i _)
        | 2, hk', hu => cases hk'; cases hu; exact okn _
        | 3, hk', hu => cases hk'; cases hu; exact okn _
        | 4, hk', hu => cases hk'; cases hu; exact ih i h3
        | j + 5, hk', hu => simp [lay] at hk'

/-- From data to memory. -/
theorem kids_drM {M : Mem} {w : World} (hM : MemOk M w) (x : Tr) : (∀ y, y ∈ x.l → TrOk y) → x.l.length ≤ BL → ∀ sv, DR lay M (.sl 25) (.r (rowsT x.l)) sv → Kids (fun b => ∃ cs, M b = some cs) w sv x.l := by
  induction x using Tr.ind with
  | h x ih =>
    intro hok hlen sv h
    cases h with
    | nil _ _ p c h0 =>
      have : x.l = [] := List.eq_nil_of_length_eq_zero (by rw [← rowsT_len]; exact congrArg List.length h0)
      rw [this]
      exact .mk p c [] (fun _ => .slice none 0 0) (Nat.zero_le _) (Nat.zero_le _) (fun i hi => absurd hi (by simp)) (fun i hi => absurd hi (by simp)) (fun i hi => absurd hi (by simp))
    | sl _ _ b o c val h1 h2 h3 h4 =>
      have hl : (Dat.r (rowsT x.l)).rows.length = x.l.length := rowsT_len _
      have row : ∀ i (hi : i < x.l.length), (Dat.r (rowsT x.l)).rows[i]? = some (rowV x.l[i]) := fun i hi => by
        show (rowsT x.l)[i]? = _
        rw [rowsT_map, List.getElem?_map, List.getElem?_eq_getElem hi]; rfl
      rw [hl] at h1 ⊢
      have ok := fun i (hi : i < x.l.length) => hok _ (List.getElem_mem hi)
      refine .mk (some ⟨b, o, none⟩) c x.l (fun i => val i 4) h1 hlen (fun i hi => (ok i hi).wf) (fun i hi => ⟨b, o, rfl, (let ⟨cs, q, _⟩ := h3 i _ (row i hi) 0 (by decide); ⟨cs, q⟩), ?_⟩) fun i hi => ?_
      · have c := fun j hj => cell_of hM (h3 i _ (row i hi) j hj)
        have d := fun j k u hk hu => h4 i _ (row i hi) j k u hk hu
        have c0 := c 0 (by decide)
        have c1 := c 1 (by decide)
        have c2 := c 2 (by decide)
        have c3 := c 3 (by decide)
        have c4 := c 4 (by decide)
        have d0 := dr_int (d 0 (.i .i8) _ rfl rfl)
        have d1 := dr_int (d 1 (.i .i64) _ rfl rfl)
        have d2 := dr_str (d 2 .s _ rfl rfl)
        have d3 := dr_str (d 3 .s _ rfl rfl)
        rw [d0] at c0; rw [d1] at c1; rw [d2] at c2; rw [d3] at c3
        exact ⟨c0, c1, c2, c3, c4⟩
      · exact ih _ (List.getElem_mem hi) (fun y hy => (ok i hi).kid hy) (ok i hi).len _ (h4 i _ (row i hi) 4 (.sl 25) _ rfl rfl)

theorem agV_vrM {M : Mem} {w : World} (hM : MemOk M w) {x : Tr} (hx : TrOk x) {v : Value} (h : VR rho (bare M) (agV x) v) : ∃ sv, v = .agg #[.int .i8 x.k, .int .i64 x.n, .string x.s, .string x.t, sv] ∧ TrV (fun b => ∃ cs, M b = some cs) w x sv := by
  obtain ⟨⟨a⟩, rfl, v0, q0, e0, h0, v1, q1, e1, h1, v2, q2, e2, ⟨h2, _⟩, v3, q3, e3, ⟨h3, _⟩, v4, q4, e4, h4, h5⟩ := h
  cases h0; cases h1; cases h5
  rw [bytes_nats] at h2 h3
  subst e4 e3 e2 e1 h2 h3
  simp only [] at e0
  subst e0
  exact ⟨v4, rfl, hx.wf, kids_drM hM x (fun y hy => hx.kid hy) hx.len _ h4⟩

theorem enter_of {P : Program} {f : Nat} {fn : Func} (hfn : P.funcs[f]? = some fn) (hc : (cFunc P fn).isSome = true) (vs : Array Value) (w : World) : (callFunc f vs).run P w = .ok (.enter f vs) w := by
  unfold cFunc at hc
  split at hc
  · cases hc
  rename_i c hb
  split at hc
  · cases hc
  rename_i hname
  unfold callFunc
  rw [run_bind, run_program]
  simp only [hfn]
  rw [if_neg hname, hb]
  rfl
theorem great_pu (x : Tr) (hx : TrOk x) : Pu 4 [agV x] (.b (decide (1024 ≤ x.sz 1024))) := by
  refine .of (enter_of Tryz.func4 (by kernel_rfl)) fun w M vs hM hT hvs => ?_
  obtain ⟨vs⟩ := vs
  obtain ⟨v, rest, rfl, hv, rfl⟩ := hvs
  obtain ⟨sv, rfl, ht⟩ := agV_vr hM hx hv
  refine (greatT_any ht).mono ?_
  rintro e w' ⟨rfl, hb⟩
  exact ⟨_, rfl, rfl, hb⟩
theorem same_pu (x : Tr) (hx : TrOk x) : Pu 16 [agV x, agV x] (.b true) := by
  refine .of (enter_of Tryz.func16 (by kernel_rfl)) fun w M vs hM hT hvs => ?_
  obtain ⟨vs⟩ := vs
  obtain ⟨v, rest, rfl, hv, v2, rest2, rfl, hv2, rfl⟩ := hvs
  obtain ⟨sv, rfl, ht⟩ := agV_vr hM hx hv
  obtain ⟨sv2, rfl, ht2⟩ := agV_vr hM hx hv2
  refine (rsame_any x x w _ _ ht ht2).mono ?_
  rintro e w' ⟨rfl, hb⟩
  exact ⟨_, rfl, by show VR _ _ (.b true) _; rw [same_self]; rfl, hb⟩
theorem wakes_pu : Pu 5 [] (.b true) := wakes22 rfl rho_ok (.head _)

def itV (y : Tr) : TV := .ag [.i .i8 y.k, .i .i64 y.n, .s (nats y.s), .s (nats y.t), .es 25 (.r (rowsT y.l)), .b true]
theorem memB_ok {w w' : World} {M : Mem} (hM : MemOk M w) (hb : Below w.heap.size w w') : MemOk (fun b => if b < w.heap.size then M b else memOf w' b) w' := fun b c q => by
  simp only at q
  split at q
  · exact memOk_below hM hb b c q
  · exact memOf_ok w' b c q
/-- From a contract over memory that tells an item to one over data. -/
theorem item_pu {f : Nat} {fn : Func} {args : List TV} {Y : Tr} (hfn : Tryz.prog.funcs[f]? = some fn) (hc : (cFunc Tryz.prog fn).isSome = true)
    (h : ∀ w M (vs : Array Value), MemOk M w → Letters w → VRs rho (bare M) args vs.toList → Calls Tryz.prog f vs w fun e w' => ∃ sv, e = .returned (.agg (cells6 Y true sv)) ∧ TrV (fun b => (∃ cs, M b = some cs) ∨ w.heap.size ≤ b) w' Y sv ∧ Below w.heap.size w w') : Pu f args (itV Y) := by
  refine ⟨enter_of hfn hc, fun w M vs hM hT hvs => ?_⟩
  refine (h w M vs hM (letters_of hM hT) hvs).mono ?_
  rintro e w' ⟨sv, rfl, hy, hb⟩
  refine ⟨_, fun b => if b < w.heap.size then M b else memOf w' b, rfl, fun b c q => ?_, fun b c q => ?_, memB_ok hM hb, ?_, hb⟩
  · obtain ⟨ty, fz, q2⟩ := hM b c q
    simp only
    rw [if_pos (Array.getElem?_eq_some_iff.1 q2).1]
    exact q
  · simp only at q
    split at q
    · exact .inl q
    · exact .inr (by omega)
  · refine ⟨_, rfl, _, _, rfl, rfl, _, _, rfl, rfl, _, _, rfl, ⟨by rw [bytes_nats], okS_map _⟩, _, _, rfl, ⟨by rw [bytes_nats], okS_map _⟩, _, _, rfl, dr_kidsM (fun b cs hF q => ?_) hy.kids, _, _, rfl, rfl, rfl⟩
    show (if b < w.heap.size then M b else memOf w' b) = some cs
    split
    · rename_i hlt
      rcases hF with ⟨c2, hF⟩ | hF
      · obtain ⟨ty, fz, q2⟩ := memOk_below hM hb b c2 hF
        rw [memOf_at q2] at q
        rw [hF, ← q]
      · omega
    · exact q
theorem exited_pu (n : Int) (x : Tr) (hx : TrOk x) : Pu 6 [.i .i64 n, agV x] (itV (exS n x)) := by
  refine item_pu Tryz.func6 (by kernel_rfl) fun w M vs hM hL hvs => ?_
  obtain ⟨vs⟩ := vs
  obtain ⟨v, rest, rfl, hv, v2, rest2, rfl, hv2, rfl⟩ := hvs
  cases hv
  obtain ⟨sv2, rfl, ht2⟩ := agV_vrM hM hx hv2
  exact exited_any hL ht2
theorem rexited_pu (n : Int) (x : Tr) (hx : TrOk x) : Pu 7 [.i .i64 n, agV x] (itV (exS n x)) := by
  refine item_pu Tryz.func7 (by kernel_rfl) fun w M vs hM hL hvs => ?_
  obtain ⟨vs⟩ := vs
  obtain ⟨v, rest, rfl, hv, v2, rest2, rfl, hv2, rfl⟩ := hvs
  cases hv
  obtain ⟨sv2, rfl, ht2⟩ := agV_vrM hM hx hv2
  exact rexited_any hL ht2
theorem down_pu (m n : Int) (x : Tr) (hx : TrOk x) : Pu 8 [.i .i64 m, .i .i64 n, agV x] (itV (dnS m n x)) := by
  refine item_pu Tryz.func8 (by kernel_rfl) fun w M vs hM hL hvs => ?_
  obtain ⟨vs⟩ := vs
  obtain ⟨v, rest, rfl, hv, v1, rest1, rfl, hv1, v2, rest2, rfl, hv2, rfl⟩ := hvs
  cases hv
  cases hv1
  obtain ⟨sv2, rfl, ht2⟩ := agV_vrM hM hx hv2
  exact down_any hL ht2
theorem rdown_pu (m n : Int) (x : Tr) (hx : TrOk x) : Pu 9 [.i .i64 m, .i .i64 n, agV x] (itV (dnS m n x)) := by
  refine item_pu Tryz.func9 (by kernel_rfl) fun w M vs hM hL hvs => ?_
  obtain ⟨vs⟩ := vs
  obtain ⟨v, rest, rfl, hv, v1, rest1, rfl, hv1, v2, rest2, rfl, hv2, rfl⟩ := hvs
  cases hv
  cases hv1
  obtain ⟨sv2, rfl, ht2⟩ := agV_vrM hM hx hv2
  exact rdown_any hL ht2

theorem zero_ok : TrOk zeroT := .mk _ zero_wf (Nat.zero_le _) (fun y hy => by cases hy)
theorem made_ok {l : List Tr} (h : ∀ y, y ∈ l → TrOk y) (hn : l.length ≤ BL) : TrOk (madeS 5 l).1 := by
  unfold madeS
  split
  · exact zero_ok
  · split
    · exact zero_ok
    · exact .mk _ (wf_small _ _ _ _ _ (by decide) (by decide) (by decide) (by decide)) hn h
theorem aT_ok {s : ByteArray} (h : s.size ≤ 64) : TrOk (aT s) := .mk _ (wf_small _ _ _ _ _ (by decide) (by decide) h (by decide)) (Nat.zero_le _) (fun y hy => by cases hy)
theorem nT_ok {k n : Int} (hk : (Lit.int .i8 k).wf = true) : TrOk (nT k (clN n)) := .mk _ (wf_small _ _ _ _ _ hk (clN_wf n) (by decide) (by decide)) (Nat.zero_le _) (fun y hy => by cases hy)
theorem lim_ok {l : List Tr} {x : Tr} (h : ∀ y, y ∈ l → TrOk y) (hx : TrOk x) (hn : l.length ≤ 10) : TrOk (limS l x) := by
  unfold limS
  split
  · exact made_ok (fun y hy => by rcases List.mem_append.1 hy with hy | hy; exact h y hy; rw [List.mem_singleton.1 hy]; exact hx) (by simp [BL]; omega)
  · exact made_ok (fun y hy => by rcases List.mem_append.1 hy with hy | hy; exact h y hy; rw [List.mem_singleton.1 hy]; exact aT_ok (by decide)) (by simp [BL]; omega)
theorem ex_ok {n : Int} {x : Tr} (hx : TrOk x) : TrOk (exS n x) := lim_ok (fun y hy => by
  simp only [List.mem_cons, List.not_mem_nil, or_false] at hy
  rcases hy with rfl | rfl
  · exact aT_ok (by decide)
  · exact nT_ok (by decide)) hx (by simp)
theorem dn_ok {m n : Int} {x : Tr} (hx : TrOk x) : TrOk (dnS m n x) := lim_ok (fun y hy => by
  simp only [List.mem_cons, List.not_mem_nil, or_false] at hy
  rcases hy with rfl | rfl | rfl
  · exact aT_ok (by decide)
  · exact nT_ok (by decide)
  · exact nT_ok (by decide)) hx (by simp)
end Go.Proofs.YtgliogfggajfgaaGreatDoor.Oa
