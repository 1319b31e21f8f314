/-
  Trees, rows of names and of truths as data of open runs; from contracts over memory to contracts over data, and back. No condition.
-/
import Derived.Test.YtkieoghkjjkapaaGreatDoorOx5
import Derived.Test.YtkieoghkjjkapaaGreatDoorSa4
import Derived.Test.YtkieoghkjjkapaaGreatDoorChecked
namespace Go.Proofs.YtkieoghkjjkapaaGreatDoor.Oa
open Go.RowKit Sx

/-- The kinds of rows, by their types' numbers. -/
def lay : Nat → List Kd
  | 27 => [.i .i8, .i .i64, .s, .s, .sl 27]
  | 3 => [.i .i64]
  | 9 => [.s]
  | 70 => [.s, .i .i8, .i .i64, .s, .s, .sl 27]
  | 4 => [.b]
  | _ => []
def mth : Meth := ⟨fun _ _ => none, fun _ _ => none, lay⟩
noncomputable def rho : Cx := ⟨fun _ => .bool true, lay, [(0, [.int .u8 97, .int .u8 122, .int .u8 65, .int .u8 90, .int .u8 48, .int .u8 57, .int .u8 95, .int .u8 95])], Tryz.prog⟩
theorem rho_ok : ∀ j, scalV (rho j) := fun _ => trivial
theorem mth_ok : MethOk Tryz.prog rho mth := ⟨fun _ _ _ h => (by cases h), fun _ _ _ h => (by cases h), rfl, rfl⟩
theorem mix_ok : Tryz.prog.follows .mixedOrders = true := by kernel_rfl
abbrev Pu (f : Nat) (args : List TV) (v : TV) : Prop := PureC Tryz.prog rho f args v

mutual
def rowT : Tr → List Dat
  | .mk k n s t l => [.i k, .i n, .s (nats s), .s (nats t), .r (rowsT l)]
def rowsT : List Tr → List (List Dat)
  | [] => []
  | x :: r => rowT x :: rowsT r
end
def rowV (x : Tr) : List Dat := [.i x.k, .i x.n, .s (nats x.s), .s (nats x.t), .r (rowsT x.l)]
def rowK (x : Tr) (k : Int) : List Dat := [.i k, .i x.n, .s (nats x.s), .s (nats x.t), .r (rowsT x.l)]
theorem row_eq (x : Tr) : rowT x = rowV x := by cases x; simp [rowT, rowV, Tr.k, Tr.n, Tr.s, Tr.t, Tr.l]
theorem rowV_k {x : Tr} {k : Int} (h : x.k = k) : rowV x = rowK x k := by subst h; rfl
theorem rowsT_map : ∀ l : List Tr, rowsT l = l.map rowV
  | [] => by simp [rowsT]
  | x :: r => by rw [rowsT, rowsT_map r, row_eq]; rfl
theorem rowsT_len (l : List Tr) : (rowsT l).length = l.length := by rw [rowsT_map]; simp
theorem rowsT_at {l : List Tr} {j : Nat} (h : j < l.length) : (rowsT l).getD j [] = rowV l[j] := by
  rw [rowsT_map, List.getD_eq_getElem?_getD, List.getElem?_map, List.getElem?_eq_getElem h]
  rfl
theorem rowsT_drop (l : List Tr) (n : Nat) : (rowsT l).drop n = rowsT (l.drop n) := by rw [rowsT_map, rowsT_map, List.map_drop]
theorem rowsT_take (l : List Tr) (n : Nat) : (rowsT l).take n = rowsT (l.take n) := by rw [rowsT_map, rowsT_map, List.map_take]

/-- A tree whose numbers and lengths are in range. -/
inductive TrOk : Tr → Prop where
  | mk (x : Tr) (wf : NodeWf x) (len : x.l.length ≤ BL) (kids : ∀ y, y ∈ x.l → TrOk y) : TrOk x
theorem TrOk.wf {x : Tr} (h : TrOk x) : NodeWf x := by cases h with | mk _ wf _ _ => exact wf
theorem TrOk.len {x : Tr} (h : TrOk x) : x.l.length ≤ BL := by cases h with | mk _ _ len _ => exact len
theorem TrOk.kid {x y : Tr} (h : TrOk x) (hy : y ∈ x.l) : TrOk y := by cases h with | mk _ _ _ kids => exact kids y hy
theorem trOk_kids {F : Nat → Prop} {w : World} {sv : Value} {l : List Tr} (h : Kids F w sv l) : ∀ y, y ∈ l → TrOk y := by
  induction h with
  | mk p c l sv hc hb hwf hcells hk ih =>
    intro y hy
    obtain ⟨i, hi, rfl⟩ := List.getElem_of_mem hy
    exact .mk _ (hwf i hi) (hk i hi).len (ih i hi)
theorem trOk_of {F : Nat → Prop} {w : World} {x : Tr} {sv : Value} (h : TrV F w x sv) : TrOk x := .mk x h.wf h.kids.len (trOk_kids h.kids)

theorem bytes_nats' (s : ByteArray) : bytesOf (nats s) = s := bytes_nats s
/-- From memory to data. -/
theorem dr_kids {F : Nat → Prop} {w : World} {sv : Value} {l : List Tr} (h : Kids F w sv l) : DR lay (memOf w) (.sl 27) (.r (rowsT l)) sv := by
  induction h with
  | mk p c l sv hc hb hwf hcells hk ih =>
    cases l with
    | nil => exact .nil _ _ p c (by simp [Dat.rows, rowsT])
    | cons x0 r =>
      obtain ⟨g, o, rfl, _, hn0⟩ := hcells 0 (by simp)
      have hlen : (Dat.r (rowsT (x0 :: r))).rows.length = (x0 :: r).length := rowsT_len _
      have row : ∀ (i : Nat) (rw' : List Dat), (Dat.r (rowsT (x0 :: r))).rows[i]? = some rw' → ∃ hi : i < (x0 :: r).length, rw' = rowV (x0 :: r)[i] := fun i rw' hi => by
        have hi : (rowsT (x0 :: r))[i]? = some rw' := hi
        rw [rowsT_map, List.getElem?_map, Option.map_eq_some_iff] at hi
        obtain ⟨y, h1, h2⟩ := hi
        obtain ⟨h3, h4⟩ := List.getElem?_eq_some_iff.1 h1
        exact ⟨h3, by rw [← h2, h4]⟩
      rw [← hlen]
      have at' : ∀ i (hi : i < (x0 :: r).length), NodeAt w g (o + i * 5) (x0 :: r)[i] (sv i) := fun i hi => by
        obtain ⟨g', o', e1, _, hn⟩ := hcells i hi
        cases e1
        exact hn
      have blk : ∃ cs ty fz, w.heap[g]? = some (.cells cs ty fz) := by
        have := hn0.k
        unfold World.cell? at this
        split at this
        · rename_i hh; exact ⟨_, _, _, hh⟩
        · cases this
      obtain ⟨cs, ty, fz, hblk⟩ := blk
      have cell : ∀ j v, w.cell? ⟨g, j, none⟩ = some v → cs[j]? = some v := fun j v e => by rwa [cell_at hblk] at e
      refine .sl _ _ g o c (fun i j => if hi : i < (x0 :: r).length then (match j with | 0 => .int .i8 (x0 :: r)[i].k | 1 => .int .i64 (x0 :: r)[i].n | 2 => .string (x0 :: r)[i].s | 3 => .string (x0 :: r)[i].t | _ => sv i) else undef) (by rw [hlen]; exact hc) (fun i rw' hi => ?_) (fun i rw' hi j hj => ?_) (fun i rw' hi j k u hk' hu => ?_)
      · obtain ⟨h3, rfl⟩ := row i rw' hi; rfl
      · obtain ⟨h3, rfl⟩ := row i rw' hi
        refine ⟨cs, memOf_at hblk, ?_⟩
        rw [dif_pos h3]
        obtain ⟨e0, e1, e2, e3, e4⟩ := at' i h3
        have hj : j < 5 := hj
        match j, hj with
        | 0, _ => exact cell _ _ e0
        | 1, _ => exact cell _ _ e1
        | 2, _ => exact cell _ _ e2
        | 3, _ => exact cell _ _ e3
        | 4, _ => exact cell _ _ e4
      · obtain ⟨h3, rfl⟩ := row i rw' hi
        rw [dif_pos h3]
        have okn : ∀ s : ByteArray, DR lay (memOf w) .s (.s (nats s)) (.string s) := fun s => by
          have := DR.s (lay := lay) (M := memOf w) (.s (nats s)) (okS_map _)
          rwa [show bytesOf (Dat.s (nats s)).str = s from bytes_nats s] at this
        match j, hk', hu with
        | 0, hk', hu => cases hk'; cases hu; exact .i .i8 (.i _)
        | 1, hk', hu => cases hk'; cases hu; exact .i .i64 (.i _)
        | 2, hk', hu => cases hk'; cases hu; exact okn _
        | 3, hk', hu => cases hk'; cases hu; exact okn _
        | 4, hk', hu => cases hk'; cases hu; exact ih i h3
        | j + 5, hk', hu => simp [lay] at hk'

theorem dr_int {M : Mem} {k : IntKind} {d : Dat} {v : Value} (h : DR lay M (.i k) d v) : v = .int k d.int := by cases h; rfl
theorem dr_str {M : Mem} {s : ByteArray} {v : Value} (h : DR lay M .s (.s (nats s)) v) : v = .string s := by
  cases h
  rw [show bytesOf (Dat.s (nats s)).str = s from bytes_nats s]
theorem cell_of {M : Mem} {w : World} (hM : MemOk M w) {b j : Nat} {v : Value} (h : ∃ cs, M b = some cs ∧ cs[j]? = some v) : w.cell? ⟨b, j, none⟩ = some v := by
  obtain ⟨cs, h1, h2⟩ := h
  obtain ⟨ty, fz, h3⟩ := hM b cs h1
  rw [cell_at h3]; exact h2
/-- From data to memory. -/
theorem kids_dr {M : Mem} {w : World} (hM : MemOk M w) (x : Tr) : (∀ y, y ∈ x.l → TrOk y) → x.l.length ≤ BL → ∀ sv, DR lay M (.sl 27) (.r (rowsT x.l)) sv → Kids (fun _ => True) w sv x.l := by
  induction x using Tr.ind with
  | h x ih =>
    intro hok hlen sv h
    cases h with
    | nil _ _ p c h0 =>
      have : x.l = [] := List.eq_nil_of_length_eq_zero (by rw [← rowsT_len]; exact congrArg List.length h0)
      rw [this]
      exact .mk p c [] (fun _ => .slice none 0 0) (Nat.zero_le _) (Nat.zero_le _) (fun i hi => absurd hi (by simp)) (fun i hi => absurd hi (by simp)) (fun i hi => absurd hi (by simp))
    | sl _ _ b o c val h1 h2 h3 h4 =>
      have hl : (Dat.r (rowsT x.l)).rows.length = x.l.length := rowsT_len _
      have row : ∀ i (hi : i < x.l.length), (Dat.r (rowsT x.l)).rows[i]? = some (rowV x.l[i]) := fun i hi => by
        show (rowsT x.l)[i]? = _
        rw [rowsT_map, List.getElem?_map, List.getElem?_eq_getElem hi]; rfl
      rw [hl] at h1 ⊢
      have ok := fun i (hi : i < x.l.length) => hok _ (List.getElem_mem hi)
      refine .mk (some ⟨b, o, none⟩) c x.l (fun i => val i 4) h1 hlen (fun i hi => (ok i hi).wf) (fun i hi => ⟨b, o, rfl, trivial, ?_⟩) fun i hi => ?_
      · have c := fun j hj => cell_of hM (h3 i _ (row i hi) j hj)
        have d := fun j k u hk hu => h4 i _ (row i hi) j k u hk hu
        have c0 := c 0 (by decide)
        have c1 := c 1 (by decide)
        have c2 := c 2 (by decide)
        have c3 := c 3 (by decide)
        have c4 := c 4 (by decide)
        have d0 := dr_int (d 0 (.i .i8) _ rfl rfl)
        have d1 := dr_int (d 1 (.i .i64) _ rfl rfl)
        have d2 := dr_str (d 2 .s _ rfl rfl)
        have d3 := dr_str (d 3 .s _ rfl rfl)
        rw [d0] at c0; rw [d1] at c1; rw [d2] at c2; rw [d3] at c3
        exact ⟨c0, c1, c2, c3, c4⟩
      · exact ih _ (List.getElem_mem hi) (fun y hy => (ok i hi).kid hy) (ok i hi).len _ (h4 i _ (row i hi) 4 (.sl 27) _ rfl rfl)

theorem vr_nodep {w : World} {g o : Nat} {x : Tr} {sv : Value} {F : Nat → Prop} (h : NodeAt w g o x sv) (hx : TrV F w x sv) : VR rho (bare (memOf w)) (.ep 27 0 (rowV x)) (.pointer (some ⟨g, o, none⟩)) := by
  refine ⟨g, o, rfl, rfl, fun j => match j with | 0 => .int .i8 x.k | 1 => .int .i64 x.n | 2 => .string x.s | 3 => .string x.t | _ => sv, fun j hj => ?_, fun j k u hk hu => ?_⟩
  · obtain ⟨e0, e1, e2, e3, e4⟩ := h
    have blk : ∃ cs ty fz, w.heap[g]? = some (.cells cs ty fz) := by
      unfold World.cell? at e0
      split at e0
      · rename_i hh; exact ⟨_, _, _, hh⟩
      · cases e0
    obtain ⟨cs, ty, fz, hblk⟩ := blk
    have cell : ∀ j v, w.cell? ⟨g, j, none⟩ = some v → cs[j]? = some v := fun j v e => by rwa [cell_at hblk] at e
    refine ⟨cs, memOf_at hblk, ?_⟩
    have hj : j < 5 := hj
    match j, hj with
    | 0, _ => exact cell _ _ e0
    | 1, _ => exact cell _ _ e1
    | 2, _ => exact cell _ _ e2
    | 3, _ => exact cell _ _ e3
    | 4, _ => exact cell _ _ e4
  · have okn : ∀ s : ByteArray, DR lay (memOf w) .s (.s (nats s)) (.string s) := fun s => by
      have := DR.s (lay := lay) (M := memOf w) (.s (nats s)) (okS_map _)
      rwa [show bytesOf (Dat.s (nats s)).str = s from bytes_nats s] at this
    match j, hk, hu with
    | 0, hk, hu => cases hk; cases hu; exact .i .i8 (.i _)
    | 1, hk, hu => cases hk; cases hu; exact .i .i64 (.i _)
    | 2, hk, hu => cases hk; cases hu; exact okn _
    | 3, hk, hu => cases hk; cases hu; exact okn _
    | 4, hk, hu => cases hk; cases hu; exact dr_kids hx.kids
    | j + 5, hk, hu => simp [rho, lay] at hk
theorem node_vr {M : Mem} {w : World} (hM : MemOk M w) {x : Tr} (hx : TrOk x) {v : Value} (h : VR rho (bare M) (.ep 27 0 (rowV x)) v) : ∃ g o sv, v = .pointer (some ⟨g, o, none⟩) ∧ NodeAt w g o x sv ∧ TrV (fun _ => True) w x sv := by
  obtain ⟨g, o, rfl, _, val, h2, h3⟩ := h
  have c := fun j hj => cell_of hM (h2 j hj)
  have c0 := c 0 (by decide)
  have c1 := c 1 (by decide)
  have c2 := c 2 (by decide)
  have c3 := c 3 (by decide)
  have c4 := c 4 (by decide)
  have d0 := dr_int (h3 0 (.i .i8) _ rfl rfl)
  have d1 := dr_int (h3 1 (.i .i64) _ rfl rfl)
  have d2 := dr_str (h3 2 .s _ rfl rfl)
  have d3 := dr_str (h3 3 .s _ rfl rfl)
  rw [d0] at c0; rw [d1] at c1; rw [d2] at c2; rw [d3] at c3
  exact ⟨g, o, val 4, rfl, ⟨c0, c1, c2, c3, c4⟩, hx.wf, kids_dr hM x (fun y hy => hx.kid hy) hx.len _ (h3 4 (.sl 27) _ rfl rfl)⟩
/-- A node by value. -/
def agV (x : Tr) : TV := .ag [.i .i8 x.k, .i .i64 x.n, .s (nats x.s), .s (nats x.t), .es 27 (.r (rowsT x.l))]
theorem vr_agV {w : World} {x : Tr} {sv : Value} {F : Nat → Prop} (hx : TrV F w x sv) : VR rho (bare (memOf w)) (agV x) (.agg #[.int .i8 x.k, .int .i64 x.n, .string x.s, .string x.t, sv]) :=
  ⟨_, rfl, _, _, rfl, rfl, _, _, rfl, rfl, _, _, rfl, ⟨by rw [bytes_nats], okS_map _⟩, _, _, rfl, ⟨by rw [bytes_nats], okS_map _⟩, _, _, rfl, dr_kids hx.kids, rfl⟩
theorem agV_vr {M : Mem} {w : World} (hM : MemOk M w) {x : Tr} (hx : TrOk x) {v : Value} (h : VR rho (bare M) (agV x) v) : ∃ sv, v = .agg #[.int .i8 x.k, .int .i64 x.n, .string x.s, .string x.t, sv] ∧ TrV (fun _ => True) w x sv := by
  obtain ⟨⟨a⟩, rfl, v0, q0, e0, h0, v1, q1, e1, h1, v2, q2, e2, ⟨h2, _⟩, v3, q3, e3, ⟨h3, _⟩, v4, q4, e4, h4, h5⟩ := h
  cases h0; cases h1; cases h5
  rw [bytes_nats] at h2 h3
  subst e4 e3 e2 e1 h2 h3
  simp only [] at e0
  subst e0
  exact ⟨v4, rfl, hx.wf, kids_dr hM x (fun y hy => hx.kid hy) hx.len _ h4⟩
theorem str_vr {M : Mem} {s : ByteArray} {v : Value} (h : VR rho (bare M) (.s (nats s)) v) : v = .string s := by rw [h.1, bytes_nats]
theorem letters_of {M : Mem} {w : World} (hM : MemOk M w) (hT : ToldM rho.tl M) : Letters w := by
  obtain ⟨c, h1, h2⟩ := hT _ (List.mem_cons_self ..)
  have k := fun j v e => cell_of hM (b := 0) (j := j) (v := v) ⟨c, h1, h2 j v e⟩
  exact ⟨k 0 _ rfl, k 1 _ rfl, k 2 _ rfl, k 3 _ rfl, k 4 _ rfl, k 5 _ rfl, k 6 _ rfl, k 7 _ rfl⟩
theorem told_letters {w : World} (h : Letters w) : ToldM rho.tl (memOf w) := by
  intro p hp
  simp only [rho, List.mem_cons, List.not_mem_nil, or_false] at hp
  subst hp
  have e0 := h.c0
  have blk : ∃ cs ty fz, w.heap[0]? = some (.cells cs ty fz) := by
    unfold World.cell? at e0
    split at e0
    · rename_i hh; exact ⟨_, _, _, hh⟩
    · cases e0
  obtain ⟨cs, ty, fz, hblk⟩ := blk
  have cell : ∀ j v, w.cell? ⟨0, j, none⟩ = some v → cs[j]? = some v := fun j v e => by rwa [cell_at hblk] at e
  refine ⟨cs, memOf_at hblk, fun j v hj => cell j v ?_⟩
  match j, hj with
  | 0, hj => cases hj; exact h.c0
  | 1, hj => cases hj; exact h.c1
  | 2, hj => cases hj; exact h.c2
  | 3, hj => cases hj; exact h.c3
  | 4, hj => cases hj; exact h.c4
  | 5, hj => cases hj; exact h.c5
  | 6, hj => cases hj; exact h.c6
  | 7, hj => cases hj; exact h.c7
/-- A contract over data, at a world. -/
theorem Pu.calls {f : Nat} {args : List TV} {v : TV} (h : Pu f args v) {w : World} (hL : Letters w) {vs : Array Value} (hv : VRs rho (bare (memOf w)) args vs.toList) : Calls Tryz.prog f vs w fun e w' => ∃ x M', e = .returned x ∧ (memOf w).le M' ∧ (∀ b c, M' b = some c → memOf w b = some c ∨ w.heap.size ≤ b) ∧ MemOk M' w' ∧ VR rho (bare M') v x ∧ Below w.heap.size w w' :=
  h.2 w (memOf w) vs (memOf_ok w) (told_letters hL) hv
theorem of_eqb {x d : Bool} (h : x = d) : ObOk Tryz.prog rho (.eqb x d) := h
theorem size_g : Tryz.prog.globals.size = 6 := by kernel_rfl
theorem pu_of' {tab : Trie XF} (htab : TabOk Tryz.prog tab) {f : Nat} {fn : Func} {x : XF} (hfn : Tryz.prog.funcs[f]? = some fn) (hc : cFunc Tryz.prog fn = some x) {args : List TV} {pa : List PA} {v : TV} {obs : List Ob} (hx : funO 6 mth (run mth tab noOrc 1000 20) 1000 x args pa = some (v, obs)) (hv : v.flat = true) (ho : Owes Tryz.prog rho obs) : Pu f args v := by
  rw [← size_g] at hx
  exact pure_of rho_ok (calls_ok rho_ok mth_ok mix_ok htab 1000 20) mth_ok mix_ok hfn hc hx hv ho
theorem fresh_of' {tab : Trie XF} (htab : TabOk Tryz.prog tab) {f : Nat} {fn : Func} {x : XF} (hfn : Tryz.prog.funcs[f]? = some fn) (hc : cFunc Tryz.prog fn = some x) {args : List TV} {ks : List AK} {pa : List PA} {v : TV} {obs : List Ob} (hx : funR 6 mth (run mth tab noOrc 1000 20) 1000 x args ks pa = some (v, obs)) (ho : Owes Tryz.prog rho obs) : Pu f args v := by
  rw [← size_g] at hx
  exact fresh_of rho_ok (calls_ok rho_ok mth_ok mix_ok htab 1000 20) mth_ok mix_ok hfn hc hx ho
theorem lp_more' {tab : Trie XF} (htab : TabOk Tryz.prog tab) {x : IC} {ks : List Nat} {m : Nat} {e e2 e' : Trie TV} {t t2 t' : Trie TB} {n n' : Nat} {pa : List PA} {ex : EX} {obs : List Ob} (hx : bodyO 6 mth (run mth tab noOrc 1000 20) 1000 x ks m e t n pa = some (.nrm, e2, t2, obs)) (ho : Owes Tryz.prog rho obs) (hl : LoopC Tryz.prog rho x e2 t2 m ex e' t' n') : LoopC Tryz.prog rho x e t n ex e' t' n' := by
  rw [← size_g] at hx
  exact loop_more rho_ok (calls_ok rho_ok mth_ok mix_ok htab 1000 20) mth_ok mix_ok hx ho hl
theorem lp_end' {tab : Trie XF} (htab : TabOk Tryz.prog tab) {x : IC} {ks : List Nat} {m : Nat} {e e2 : Trie TV} {t t2 : Trie TB} {n : Nat} {pa : List PA} {ex : EX} {obs : List Ob} (hx : bodyO 6 mth (run mth tab noOrc 1000 20) 1000 x ks m e t n pa = some (ex, e2, t2, obs)) (hne : ex ≠ .nrm) (ho : Owes Tryz.prog rho obs) : LoopC Tryz.prog rho x e t n ex e2 t2 m := by
  rw [← size_g] at hx
  exact loop_end rho_ok (calls_ok rho_ok mth_ok mix_ok htab 1000 20) mth_ok mix_ok hx hne ho
theorem dr_kidsM {F : Nat → Prop} {w : World} {M : Mem} {sv : Value} {l : List Tr} (hM : ∀ b cs, F b → memOf w b = some cs → M b = some cs) (h : Kids F w sv l) : DR lay M (.sl 27) (.r (rowsT l)) sv := by
  induction h with
  | mk p c l sv hc hb hwf hcells hk ih =>
    cases l with
    | nil => exact .nil _ _ p c (by simp [Dat.rows, rowsT])
    | cons x0 r =>
      obtain ⟨g, o, rfl, hFg, hn0⟩ := hcells 0 (by simp)
      have hlen : (Dat.r (rowsT (x0 :: r))).rows.length = (x0 :: r).length := rowsT_len _
      have row : ∀ (i : Nat) (rw' : List Dat), (Dat.r (rowsT (x0 :: r))).rows[i]? = some rw' → ∃ hi : i < (x0 :: r).length, rw' = rowV (x0 :: r)[i] := fun i rw' hi => by
        have hi : (rowsT (x0 :: r))[i]? = some rw' := hi
        rw [rowsT_map, List.getElem?_map, Option.map_eq_some_iff] at hi
        obtain ⟨y, h1, h2⟩ := hi
        obtain ⟨h3, h4⟩ := List.getElem?_eq_some_iff.1 h1
        exact ⟨h3, by rw [← h2, h4]⟩
      rw [← hlen]
      have at' : ∀ i (hi : i < (x0 :: r).length), NodeAt w g (o + i * 5) (x0 :: r)[i] (sv i) := fun i hi => by
        obtain ⟨g', o', e1, _, hn⟩ := hcells i hi
        cases e1
        exact hn
      have blk : ∃ cs ty fz, w.heap[g]? = some (.cells cs ty fz) := by
        have := hn0.k
        unfold World.cell? at this
        split at this
        · rename_i hh; exact ⟨_, _, _, hh⟩
        · cases this
      obtain ⟨cs, ty, fz, hblk⟩ := blk
      have cell : ∀ j v, w.cell? ⟨g, j, none⟩ = some v → cs[j]? = some v := fun j v e => by rwa [cell_at hblk] at e
      refine .sl _ _ g o c (fun i j => if hi : i < (x0 :: r).length then (match j with | 0 => .int .i8 (x0 :: r)[i].k | 1 => .int .i64 (x0 :: r)[i].n | 2 => .string (x0 :: r)[i].s | 3 => .string (x0 :: r)[i].t | _ => sv i) else undef) (by rw [hlen]; exact hc) (fun i rw' hi => ?_) (fun i rw' hi j hj => ?_) (fun i rw' hi j k u hk' hu => ?_)
      · obtain ⟨h3, rfl⟩ := row i rw' hi; rfl
      · obtain ⟨h3, rfl⟩ := row i rw' hi
        refine ⟨cs, hM _ _ hFg (memOf_at hblk), ?_⟩
        rw [dif_pos h3]
        obtain ⟨e0, e1, e2, e3, e4⟩ := at' i h3
        have hj : j < 5 := hj
        match j, hj with
        | 0, _ => exact cell _ _ e0
        | 1, _ => exact cell _ _ e1
        | 2, _ => exact cell _ _ e2
        | 3, _ => exact cell _ _ e3
        | 4, _ => exact cell _ _ e4
      · obtain ⟨h3, rfl⟩ := row i rw' hi
        rw [dif_pos h3]
        have okn : ∀ s : ByteArray, DR lay M .s (.s (nats s)) (.string s) := fun s => by
          have := DR.s (lay := lay) (M := M) (.s (nats s)) (okS_map _)
          rwa [show bytesOf (Dat.s (nats s)).str = s from bytes_nats s] at this
        match j, hk', hu with
        | 0, hk', hu => cases hk'; cases hu; exact .i .i8 (.i _)
        | 1, hk', hu => cases hk'; cases hu; exact .i .i64 (.i _)
        | 2, hk', hu => cases hk'; cases hu; exact okn _
        | 3, hk', hu => cases hk'; cases hu; exact okn _
        | 4, hk', hu => cases hk'; cases hu; exact ih i h3
        | j + 5, hk', hu => simp [lay] at hk'

/-- From data to memory. -/
theorem kids_drM {M : Mem} {w : World} (hM : MemOk M w) (x : Tr) : (∀ y, y ∈ x.l → TrOk y) → x.l.length ≤ BL → ∀ sv, DR lay M (.sl 27) (.r (rowsT x.l)) sv → Kids (fun b => ∃ cs, M b = some cs) w sv x.l := by
  induction x using Tr.ind with
  | h x ih =>
    intro hok hlen sv h
    cases h with
    | nil _ _ p c h0 =>
      have : x.l = [] := List.eq_nil_of_length_eq_zero (by rw [← rowsT_len]; exact congrArg List.length h0)
      rw [this]
      exact .mk p c [] (fun _ => .slice none 0 0) (Nat.zero_le _) (Nat.zero_le _) (fun i hi => absurd hi (by simp)) (fun i hi => absurd hi (by simp)) (fun i hi => absurd hi (by simp))
    | sl _ _ b o c val h1 h2 h3 h4 =>
      have hl : (Dat.r (rowsT x.l)).rows.length = x.l.length := rowsT_len _
      have row : ∀ i (hi : i < x.l.length), (Dat.r (rowsT x.l)).rows[i]? = some (rowV x.l[i]) := fun i hi => by
        show (rowsT x.l)[i]? = _
        rw [rowsT_map, List.getElem?_map, List.getElem?_eq_getElem hi]; rfl
      rw [hl] at h1 ⊢
      have ok := fun i (hi : i < x.l.length) => hok _ (List.getElem_mem hi)
      refine .mk (some ⟨b, o, none⟩) c x.l (fun i => val i 4) h1 hlen (fun i hi => (ok i hi).wf) (fun i hi => ⟨b, o, rfl, (let ⟨cs, q, _⟩ := h3 i _ (row i hi) 0 (by decide); ⟨cs, q⟩), ?_⟩) fun i hi => ?_
      · have c := fun j hj => cell_of hM (h3 i _ (row i hi) j hj)
        have d := fun j k u hk hu => h4 i _ (row i hi) j k u hk hu
        have c0 := c 0 (by decide)
        have c1 := c 1 (by decide)
        have c2 := c 2 (by decide)
        have c3 := c 3 (by decide)
        have c4 := c 4 (by decide)
        have d0 := dr_int (d 0 (.i .i8) _ rfl rfl)
        have d1 := dr_int (d 1 (.i .i64) _ rfl rfl)
        have d2 := dr_str (d 2 .s _ rfl rfl)
        have d3 := dr_str (d 3 .s _ rfl rfl)
        rw [d0] at c0; rw [d1] at c1; rw [d2] at c2; rw [d3] at c3
        exact ⟨c0, c1, c2, c3, c4⟩
      · exact ih _ (List.getElem_mem hi) (fun y hy => (ok i hi).kid hy) (ok i hi).len _ (h4 i _ (row i hi) 4 (.sl 27) _ rfl rfl)

theorem agV_vrM {M : Mem} {w : World} (hM : MemOk M w) {x : Tr} (hx : TrOk x) {v : Value} (h : VR rho (bare M) (agV x) v) : ∃ sv, v = .agg #[.int .i8 x.k, .int .i64 x.n, .string x.s, .string x.t, sv] ∧ TrV (fun b => ∃ cs, M b = some cs) w x sv := by
  obtain ⟨⟨a⟩, rfl, v0, q0, e0, h0, v1, q1, e1, h1, v2, q2, e2, ⟨h2, _⟩, v3, q3, e3, ⟨h3, _⟩, v4, q4, e4, h4, h5⟩ := h
  cases h0; cases h1; cases h5
  rw [bytes_nats] at h2 h3
  subst e4 e3 e2 e1 h2 h3
  simp only [] at e0
  subst e0
  exact ⟨v4, rfl, hx.wf, kids_drM hM x (fun y hy => hx.kid hy) hx.len _ h4⟩

theorem enter_of {P : Program} {f : Nat} {fn : Func} (hfn : P.funcs[f]? = some fn) (hc : (cFunc P fn).isSome = true) (vs : Array Value) (w : World) : (callFunc f vs).run P w = .ok (.enter f vs) w := by
  unfold cFunc at hc
  split at hc
  · cases hc
  rename_i c hb
  split at hc
  · cases hc
  rename_i hname
  unfold callFunc
  rw [run_bind, run_program]
  simp only [hfn]
  rw [if_neg hname, hb]
  rfl
theorem memB_ok {w w' : World} {M : Mem} (hM : MemOk M w) (hb : Below w.heap.size w w') : MemOk (fun b => if b < w.heap.size then M b else memOf w' b) w' := fun b c q => by
  simp only at q
  split at q
  · exact memOk_below hM hb b c q
  · exact memOf_ok w' b c q

theorem blk_of {w : World} {g o : Nat} {v : Value} (h : w.cell? ⟨g, o, none⟩ = some v) : ∃ cs ty fz, w.heap[g]? = some (.cells cs ty fz) := by
  unfold World.cell? at h
  split at h
  · rename_i hh; exact ⟨_, _, _, hh⟩
  · cases h
theorem okn' {M : Mem} (s : ByteArray) : DR lay M .s (.s (nats s)) (.string s) := by
  have := DR.s (lay := lay) (M := M) (.s (nats s)) (okS_map _)
  rwa [show bytesOf (Dat.s (nats s)).str = s from bytes_nats s] at this
def rowB (b : Bd) : List Dat := .s (nats b.s) :: rowV b.t
def rowsB (l : List Bd) : List (List Dat) := l.map rowB
def rowsO (l : List Bool) : List (List Dat) := l.map fun b => [.b b]
def rowsU (n : Nat) : List (List Dat) := List.replicate n []
theorem rowsB_len (l : List Bd) : (rowsB l).length = l.length := by simp [rowsB]
theorem rowsO_len (l : List Bool) : (rowsO l).length = l.length := by simp [rowsO]
theorem rowsU_len (n : Nat) : (rowsU n).length = n := by simp [rowsU]
/-- A row of names, from memory to data. -/
theorem dr_bindsM {F : Nat → Prop} {w : World} {M : Mem} {v : Value} {l : List Bd} (hM : ∀ b cs, F b → memOf w b = some cs → M b = some cs) (h : Binds F w v l) : DR lay M (.sl 70) (.r (rowsB l)) v := by
  obtain ⟨p, c, rfl, hc, hbl, hat, h0⟩ := h
  cases l with
  | nil => exact .nil _ _ p c (by simp [Dat.rows, rowsB])
  | cons x0 r =>
    obtain ⟨g, o, sv0, rfl, hFg, hs0, _⟩ := hat 0 (by simp)
    have hlen : (Dat.r (rowsB (x0 :: r))).rows.length = (x0 :: r).length := rowsB_len _
    have row : ∀ (i : Nat) (rw' : List Dat), (Dat.r (rowsB (x0 :: r))).rows[i]? = some rw' → ∃ hi : i < (x0 :: r).length, rw' = rowB (x0 :: r)[i] := fun i rw' hi => by
      have hi : (rowsB (x0 :: r))[i]? = some rw' := hi
      rw [rowsB, List.getElem?_map, Option.map_eq_some_iff] at hi
      obtain ⟨y, h1, h2⟩ := hi
      obtain ⟨h3, h4⟩ := List.getElem?_eq_some_iff.1 h1
      exact ⟨h3, by rw [← h2, h4]⟩
    have at' : ∀ i (hi : i < (x0 :: r).length), ∃ sv, w.cell? ⟨g, o + i * 6, none⟩ = some (.string (x0 :: r)[i].s) ∧ NodeAt w g (o + i * 6 + 1) (x0 :: r)[i].t sv ∧ TrV F w (x0 :: r)[i].t sv := fun i hi => by
      obtain ⟨g', o', sv, e1, _, e2, _, e3, e4⟩ := hat i hi
      cases e1
      exact ⟨sv, e2, e3, e4⟩
    obtain ⟨cs, ty, fz, hblk⟩ := blk_of hs0
    have cell : ∀ j v, w.cell? ⟨g, j, none⟩ = some v → cs[j]? = some v := fun j v e => by rwa [cell_at hblk] at e
    rw [← hlen]
    refine .sl _ _ g o c (fun i j => if hi : i < (x0 :: r).length then (match j with | 0 => .string (x0 :: r)[i].s | 1 => .int .i8 (x0 :: r)[i].t.k | 2 => .int .i64 (x0 :: r)[i].t.n | 3 => .string (x0 :: r)[i].t.s | 4 => .string (x0 :: r)[i].t.t | _ => (at' i hi).choose) else undef) (by rw [hlen]; exact hc) (fun i rw' hi => ?_) (fun i rw' hi j hj => ?_) (fun i rw' hi j k u hk' hu => ?_)
    · obtain ⟨h3, rfl⟩ := row i rw' hi; rfl
    · obtain ⟨h3, rfl⟩ := row i rw' hi
      refine ⟨cs, hM _ _ hFg (memOf_at hblk), ?_⟩
      rw [dif_pos h3]
      obtain ⟨e, ⟨e0, e1, e2, e3, e4⟩, _⟩ := (at' i h3).choose_spec
      have hj : j < 6 := hj
      match j, hj with
      | 0, _ => exact cell _ _ e
      | 1, _ => exact cell _ _ e0
      | 2, _ => exact cell _ _ e1
      | 3, _ => exact cell _ _ e2
      | 4, _ => exact cell _ _ e3
      | 5, _ => exact cell _ _ e4
    · obtain ⟨h3, rfl⟩ := row i rw' hi
      rw [dif_pos h3]
      match j, hk', hu with
      | 0, hk', hu => cases hk'; cases hu; exact okn' _
      | 1, hk', hu => cases hk'; cases hu; exact .i .i8 (.i _)
      | 2, hk', hu => cases hk'; cases hu; exact .i .i64 (.i _)
      | 3, hk', hu => cases hk'; cases hu; exact okn' _
      | 4, hk', hu => cases hk'; cases hu; exact okn' _
      | 5, hk', hu => cases hk'; cases hu; exact dr_kidsM hM (at' i h3).choose_spec.2.2.kids
      | j + 6, hk', hu => simp [lay] at hk'
/-- A row of names, from data to memory. -/
theorem binds_dr {M : Mem} {w : World} (hM : MemOk M w) {l : List Bd} (hne : l ≠ []) (hok : ∀ b ∈ l, TrOk b.t ∧ b.s.size ≤ BL * 64) (hlen : l.length ≤ BL) {v : Value} (h : DR lay M (.sl 70) (.r (rowsB l)) v) : Binds (fun _ => True) w v l := by
  cases h with
  | nil _ _ p c h0 =>
    exact absurd (List.eq_nil_of_length_eq_zero (by rw [← rowsB_len]; exact congrArg List.length h0)) hne
  | sl _ _ b o c val h1 h2 h3 h4 =>
    have hl : (Dat.r (rowsB l)).rows.length = l.length := rowsB_len _
    have row : ∀ i (hi : i < l.length), (Dat.r (rowsB l)).rows[i]? = some (rowB l[i]) := fun i hi => by
      show (rowsB l)[i]? = _
      rw [rowsB, List.getElem?_map, List.getElem?_eq_getElem hi]; rfl
    rw [hl] at h1 ⊢
    refine ⟨some ⟨b, o, none⟩, c, rfl, h1, hlen, fun i hi => ?_, fun e => by cases e⟩
    have c := fun j hj => cell_of hM (h3 i _ (row i hi) j hj)
    have d := fun j k u hk hu => h4 i _ (row i hi) j k u hk hu
    have c0 := c 0 (by decide)
    have c1 := c 1 (by decide)
    have c2 := c 2 (by decide)
    have c3 := c 3 (by decide)
    have c4 := c 4 (by decide)
    have c5 := c 5 (by decide)
    have d0 := dr_str (d 0 .s _ rfl rfl)
    have d1 := dr_int (d 1 (.i .i8) _ rfl rfl)
    have d2 := dr_int (d 2 (.i .i64) _ rfl rfl)
    have d3 := dr_str (d 3 .s _ rfl rfl)
    have d4 := dr_str (d 4 .s _ rfl rfl)
    rw [d0] at c0; rw [d1] at c1; rw [d2] at c2; rw [d3] at c3; rw [d4] at c4
    have ok := hok _ (List.getElem_mem hi)
    exact ⟨b, o, val i 5, rfl, trivial, c0, ok.2, ⟨c1, c2, c3, c4, c5⟩, ok.1.wf, kids_dr hM _ (fun y hy => ok.1.kid hy) ok.1.len _ (d 5 (.sl 27) _ rfl rfl)⟩
theorem dr_bool {M : Mem} {d : Dat} {v : Value} (h : DR lay M .b d v) : v = .bool d.bool := by cases h; rfl
/-- A row of truths. -/
def Bools (w : World) (v : Value) (l : List Bool) : Prop := ∃ p c, v = .slice p l.length c ∧ ∀ i (h : i < l.length), ∃ g o, p = some ⟨g, o, none⟩ ∧ w.cell? ⟨g, o + i, none⟩ = some (.bool l[i])
theorem bools_dr {M : Mem} {w : World} (hM : MemOk M w) {l : List Bool} {v : Value} (h : DR lay M (.sl 4) (.r (rowsO l)) v) : Bools w v l := by
  cases h with
  | nil _ _ p c h0 =>
    have : l = [] := List.eq_nil_of_length_eq_zero (by rw [← rowsO_len]; exact congrArg List.length h0)
    subst this
    exact ⟨p, c, rfl, fun i hi => absurd hi (by simp)⟩
  | sl _ _ b o c val h1 h2 h3 h4 =>
    have hl : (Dat.r (rowsO l)).rows.length = l.length := rowsO_len _
    have row : ∀ i (hi : i < l.length), (Dat.r (rowsO l)).rows[i]? = some [.b l[i]] := fun i hi => by
      show (rowsO l)[i]? = _
      rw [rowsO, List.getElem?_map, List.getElem?_eq_getElem hi]; rfl
    rw [hl]
    refine ⟨some ⟨b, o, none⟩, c, rfl, fun i hi => ⟨b, o, rfl, ?_⟩⟩
    have c0 := cell_of hM (h3 i _ (row i hi) 0 (by show 0 < 1; decide))
    have d0 := dr_bool (h4 i _ (row i hi) 0 .b _ rfl rfl)
    rw [d0] at c0
    have c0 : w.cell? ⟨b, o + i * 1 + 0, none⟩ = some (.bool l[i]) := c0
    simpa using c0
theorem dr_bools {w : World} {l : List Bool} {p : Option Addr} {c : Nat} (hc : l.length ≤ c) (h : ∀ i (h : i < l.length), ∃ g o, p = some ⟨g, o, none⟩ ∧ w.cell? ⟨g, o + i, none⟩ = some (.bool l[i])) : DR lay (memOf w) (.sl 4) (.r (rowsO l)) (.slice p l.length c) := by
  cases l with
  | nil => exact .nil _ _ p c (by simp [Dat.rows, rowsO])
  | cons x0 r =>
    obtain ⟨g, o, rfl, hs0⟩ := h 0 (by simp)
    have hlen : (Dat.r (rowsO (x0 :: r))).rows.length = (x0 :: r).length := rowsO_len _
    have row : ∀ (i : Nat) (rw' : List Dat), (Dat.r (rowsO (x0 :: r))).rows[i]? = some rw' → ∃ hi : i < (x0 :: r).length, rw' = [.b (x0 :: r)[i]] := fun i rw' hi => by
      have hi : (rowsO (x0 :: r))[i]? = some rw' := hi
      rw [rowsO, List.getElem?_map, Option.map_eq_some_iff] at hi
      obtain ⟨y, h1, h2⟩ := hi
      obtain ⟨h3, h4⟩ := List.getElem?_eq_some_iff.1 h1
      exact ⟨h3, by rw [← h2, h4]⟩
    obtain ⟨cs, ty, fz, hblk⟩ := blk_of hs0
    have cell : ∀ j v, w.cell? ⟨g, j, none⟩ = some v → cs[j]? = some v := fun j v e => by rwa [cell_at hblk] at e
    rw [← hlen]
    refine .sl _ _ g o c (fun i _ => .bool ((x0 :: r).getD i false)) (by rw [hlen]; exact hc) (fun i rw' hi => ?_) (fun i rw' hi j hj => ?_) (fun i rw' hi j k u hk' hu => ?_)
    · obtain ⟨h3, rfl⟩ := row i rw' hi; rfl
    · obtain ⟨h3, rfl⟩ := row i rw' hi
      obtain ⟨g', o', e1, e2⟩ := h i h3
      cases e1
      refine ⟨cs, memOf_at hblk, ?_⟩
      obtain rfl : j = 0 := by have : j < 1 := hj; omega
      have := cell _ _ e2
      have e : (x0 :: r).getD i false = (x0 :: r)[i] := by rw [List.getD_eq_getElem?_getD, List.getElem?_eq_getElem h3]; rfl
      show cs[o + i * 1 + 0]? = some (.bool ((x0 :: r).getD i false))
      rw [e]
      simpa using this
    · obtain ⟨h3, rfl⟩ := row i rw' hi
      match j, hk', hu with
      | 0, hk', hu =>
        cases hk'; cases hu
        have e : (x0 :: r).getD i false = (x0 :: r)[i] := by rw [List.getD_eq_getElem?_getD, List.getElem?_eq_getElem h3]; rfl
        have := DR.b (lay := lay) (M := memOf w) (.b (x0 :: r)[i])
        rw [e]
        exact this
      | j + 1, hk', hu => simp [lay] at hk'
theorem dr_none {w : World} {T : Nat} (hT : lay T = []) {n c : Nat} {p : Option Addr} (hc : n ≤ c) (h : 0 < n → ∃ g o, p = some ⟨g, o, none⟩) : DR lay (memOf w) (.sl T) (.r (rowsU n)) (.slice p n c) := by
  cases n with
  | zero => exact .nil _ _ p c (by simp [Dat.rows, rowsU])
  | succ n =>
    obtain ⟨g, o, rfl⟩ := h (by omega)
    have hlen : (Dat.r (rowsU (n + 1))).rows.length = n + 1 := rowsU_len _
    have key : DR lay (memOf w) (.sl T) (.r (rowsU (n + 1))) (.slice (some ⟨g, o, none⟩) (Dat.r (rowsU (n + 1))).rows.length c) := by
      refine .sl _ _ g o c (fun _ _ => undef) (by rw [hlen]; exact hc) (fun i rw' hi => ?_) (fun i rw' hi j hj => ?_) (fun i rw' hi j k u hk' hu => ?_)
      · have hi : (rowsU (n + 1))[i]? = some rw' := hi
        have := List.eq_of_mem_replicate (List.mem_of_getElem? hi)
        rw [this, hT]; rfl
      · rw [hT] at hj; exact absurd hj (by simp)
      · rw [hT] at hk'; cases hk'
    rw [hlen] at key
    exact key
end Go.Proofs.YtkieoghkjjkapaaGreatDoor.Oa
