/-
  Calls, regions of open order, code, functions; a run of no arguments.
-/
import Derived.Test.YtdjafnjmkkagjaaGreatDoorSx3
import Derived.LoopN
import Derived.Below
namespace Go.Proofs.YtdjafnjmkkagjaaGreatDoor.Sx

/-- What is asked of a function that is called. -/
def CallOk (P : Program) (ρ : Nat → Value) (B : Nat) (call : CallT) : Prop :=
  ∀ (f : Nat) (args : List TV) (h : SH) (v : TV) (h' : SH), call f args h = some (v, h') → TF h h' ∧ (∀ (vs : Array Value) (w : World), (callFunc f vs).run P w = .ok (.enter f vs) w) ∧
    ∀ (D : Nat → Prop) (σ : Emb) (w : World) (vs : Array Value), HR ρ B D σ h w → GlobR P σ → Free σ h.nx h'.nx → Hand D h h' → VRs ρ σ args vs.toList →
      Calls P f vs w fun e w' => ∃ σ' x, e = .returned x ∧ VR ρ σ' v x ∧ Tr ρ B D σ h w σ' h' w'
/-- What is asked of what is told of types. -/
def MethOk (P : Program) (meth : Meth) : Prop :=
  (∀ t name g, meth.m t name = some g → ∀ (v : Value) (w : World), (method (P.types.size + Made.depth) t v name).run P w = .ok (g, v) w) ∧
  (∀ t asserted b, meth.i t asserted = some b → ∀ want, P.underlying asserted = some (.interface want) → ∃ i, P.info? t = some i ∧ (Instr.missingMethod want i.methods).isNone = b)

theorem getE_put {e : Trie TV} {d : Nat} (hd : d < 4000) (v : TV) (t : Nat) : getE (e.set 12 d v) t = if t = d then v else getE e t := by
  unfold getE
  rw [Trie.get_set 12 e d v t (by omega)]
  by_cases h : t = d
  · rw [if_pos h, if_pos h]
  · rw [if_neg h, if_neg h]
theorem EnvR.put {ρ : Nat → Value} {σ : Emb} {e : Trie TV} {a : Act} (he : EnvR ρ σ e a.tmps) {d : Option Nat} {v : TV} {x : Value} (hv : VR ρ σ v x) (hd : ∀ k, d = some k → k < a.tmps.size ∧ k < 4000) : EnvR ρ σ (putE e d v) (a.put d x).tmps := by
  cases d with
  | none => exact he
  | some k =>
    intro t
    obtain ⟨h1, h2⟩ := hd k rfl
    show VR ρ σ (getE (e.set 12 k v) t) ((a.tmps.setIfInBounds k x).getD t undef)
    rw [getE_put h2]
    by_cases h : t = k
    · subst h
      rw [if_pos rfl]
      have : (a.tmps.setIfInBounds t x).getD t undef = x := by simp [Array.getD_eq_getD_getElem?, h1]
      rw [this]; exact hv
    · rw [if_neg h]
      have : (a.tmps.setIfInBounds k x).getD t undef = a.tmps.getD t undef := by
        rw [Array.getD_eq_getD_getElem?, Array.getD_eq_getD_getElem?, Array.getElem?_setIfInBounds_ne (Ne.symm h)]
      rw [this]; exact he t
theorem put_size (a : Act) (d : Option Nat) (x : Value) : (a.put d x).tmps.size = a.tmps.size := by
  cases d with
  | none => rfl
  | some k => show (a.tmps.setIfInBounds k x).size = _; simp
theorem put_defers (a : Act) (d : Option Nat) (x : Value) : (a.put d x).defers = a.defers := by cases d <;> rfl

theorem tf_op1 {P : Program} {ρ : Nat → Value} {B : Nat} {meth : Meth} {call : CallT} (hcall : CallOk P ρ B call) {o : XO} {e : Trie TV} {h h' : SH} {v : TV} (hx : op1 meth call o e h = some (v, h')) : TF h h' := by
  unfold op1 at hx
  split at hx
  · exact (hcall _ _ _ _ _ hx).1
  · split at hx
    · exact (hcall _ _ _ _ _ hx).1
    · cases hx
  · split at hx
    · split at hx
      · exact (hcall _ _ _ _ _ hx).1
      · cases hx
    · cases hx
  · split at hx
    · split at hx
      · cases hx; exact TF.refl _
      · obtain ⟨_, hx⟩ := cond_none hx; cases hx; exact TF.refl _
      · cases hx
    · obtain ⟨_, hx⟩ := cond_none hx; cases hx; exact TF.refl _
    · cases hx
  · exact tf_xo hx

theorem inv_call {P : Program} {op : Op} {f : Nat} {l : List Opd} (hc : cOp? P op = some (.call f l)) : ∃ ar types, op = .call ⟨.value (.func f), ar, types⟩ ∧ cOpds P ar.toList = some l := by
  unfold cOp? at hc
  repeat' (split at hc)
  all_goals first
    | (cases hc; done)
    | (rw [Option.map_eq_some_iff] at hc; obtain ⟨_, h1, q⟩ := hc; first | (cases q; done) | (cases q; exact ⟨_, _, rfl, h1⟩))
theorem inv_callv {P : Program} {op : Op} {f : Opd} {l : List Opd} (hc : cOp? P op = some (.callv f l)) : ∃ g ar types, op = .call ⟨.value g, ar, types⟩ ∧ cOpd P g = some f ∧ cOpds P ar.toList = some l := by
  unfold cOp? at hc
  repeat' (split at hc)
  all_goals first
    | (cases hc; done)
    | (rw [Option.map_eq_some_iff] at hc; obtain ⟨_, h1, q⟩ := hc; cases q; done)
    | (rename_i h1 h2; cases hc; exact ⟨_, _, _, rfl, h1, h2⟩)
theorem inv_inv {P : Program} {op : Op} {f : Opd} {n : String} {l : List Opd} (hc : cOp? P op = some (.inv f n l)) : ∃ g ar types, op = .call ⟨.invoke g n, ar, types⟩ ∧ cOpd P g = some f ∧ cOpds P ar.toList = some l := by
  unfold cOp? at hc
  repeat' (split at hc)
  all_goals first
    | (cases hc; done)
    | (rw [Option.map_eq_some_iff] at hc; obtain ⟨_, h1, q⟩ := hc; cases q; done)
    | (rename_i h1 h2; cases hc; exact ⟨_, _, _, rfl, h1, h2⟩)
theorem inv_taI {P : Program} {op : Op} {ok : Bool} {t : Nat} {z : TV} {x : Opd} (hc : cOp? P op = some (.taI ok t z x)) : ∃ y xt ms, op = .typeAssert y xt t ok ∧ P.underlying t = some (.interface ms) ∧ zeroOf P t = some z ∧ cOpd P y = some x := by
  unfold cOp? at hc
  repeat' (split at hc)
  all_goals first
    | (cases hc; done)
    | (rw [Option.map_eq_some_iff] at hc; obtain ⟨_, h1, q⟩ := hc; cases q; done)
    | (rename_i h1 h2 h3; cases hc; exact ⟨_, _, _, rfl, h1, h2, h3⟩)
section
variable {P : Program} {ρ : Nat → Value} {B : Nat} {meth : Meth} {call : CallT} (hρ : ∀ j, scalV (ρ j)) (hcall : CallOk P ρ B call) (hmeth : MethOk P meth)
include hρ hcall hmeth

/-- One operation. -/
theorem op1_ok {D : Nat → Prop} {σ : Emb} {h h' : SH} {w : World} {v : TV} (hr : HR ρ B D σ h w) {e : Trie TV} {a : Act} (he : EnvR ρ σ e a.tmps) (hg : GlobR P σ) (hf : Free σ h.nx h'.nx) (hd : Hand D h h')
    {o : Oper} (hx : op1 meth call (cOp P o.op) e h = some (v, h')) {K : Act → World → Prop} {Q : Exit → Act → World → Prop} (hK : ∀ σ' w' x, Tr ρ B D σ h w σ' h' w' → VR ρ σ' v x → K (a.put o.dst x) w') : o.wp P a w K Q := by
  obtain ⟨dst, op, type, pos, after, guard⟩ := o
  simp only [] at hx
  have plain : Yl ρ B D σ h w v h' ((execOp a.eval ⟨dst, op, type, pos, after, guard⟩).run P w) → (⟨dst, op, type, pos, after, guard⟩ : Oper).wp P a w K Q := by
    rintro ⟨σ', w', x, t1, t2, t3⟩
    unfold Oper.wp
    rcases t3 with t3 | ⟨t3, rfl⟩
    · rw [t3]; exact hK σ' w' x t1 t2
    · rw [t3]; exact hK σ' w' undef t1 t2
  have called : ∀ {f : Nat} {args : List TV} {vs : Array Value}, call f args h = some (v, h') → VRs ρ σ args vs.toList → (execOp a.eval ⟨dst, op, type, pos, after, guard⟩).run P w = (callFunc f vs).run P w → (⟨dst, op, type, pos, after, guard⟩ : Oper).wp P a w K Q := by
    intro f args vs hc hvs hrun
    obtain ⟨_, q1, q2⟩ := hcall f args h v h' hc
    unfold Oper.wp
    rw [hrun, q1]
    show Calls P f vs w _
    refine (q2 D σ w vs hr hg hf hd hvs).mono ?_
    rintro en w' ⟨σ', x, rfl, hv, ht⟩
    exact hK σ' w' x ht hv
  unfold cOp at hx
  cases hc : cOp? P op with
  | none => rw [hc] at hx; cases hx
  | some x =>
    rw [hc] at hx
    simp only [Option.getD_some] at hx
    have gen : xo x e h = some (v, h') → (⟨dst, op, type, pos, after, guard⟩ : Oper).wp P a w K Q := fun hx => plain (cop_ok hρ hr he hg hf hd hc hx dst type pos after guard)
    unfold op1 at hx
    split at hx
    · rename_i f args
      obtain ⟨ar, types, rfl, h1⟩ := inv_call hc
      refine called (vs := ar.map a.eval) hx (by rw [Array.toList_map]; exact opds_ok he hg h1) ?_
      simp only [execOp, resolve]
      show ((Deferred.ofValue (.func (.func f) #[] #[]) (ar.map a.eval) >>= fun d => invoke d.target d.args) : Sem Next).run P w = _
      rw [run_bind]
      simp only [Deferred.ofValue, run_pure, invoke, Array.empty_append, Array.append_empty]
    · rename_i f args
      obtain ⟨g, ar, types, rfl, h1, h2⟩ := inv_callv hc
      split at hx
      · rename_i k first cap e1
        have g1 := opd_ok he hg h1
        rw [e1] at g1
        obtain ⟨fa, ca, q1, q2, q3⟩ := g1
        refine called (vs := fa ++ ar.map a.eval ++ ca) hx ?_ ?_
        · rw [Array.toList_append, Array.toList_append, Array.toList_map, List.append_assoc]
          exact VRs_append q2 (VRs_append (opds_ok he hg h2) q3)
        · simp only [execOp, resolve]
          rw [q1]
          show ((Deferred.ofValue (.func (.func k) fa ca) (ar.map a.eval) >>= fun d => invoke d.target d.args) : Sem Next).run P w = _
          rw [run_bind]
          simp only [Deferred.ofValue, run_pure, invoke]
      · cases hx
    · rename_i y name args
      obtain ⟨g, ar, types, rfl, h1, h2⟩ := inv_inv hc
      split at hx
      · rename_i t u e1
        split at hx
        · rename_i k e2
          have g1 := opd_ok he hg h1
          rw [e1] at g1
          obtain ⟨z, q1, q2⟩ := g1
          refine called (vs := #[z] ++ ar.map a.eval) hx ?_ ?_
          · rw [Array.toList_append, Array.toList_map]
            exact ⟨z, _, rfl, q2, opds_ok he hg h2⟩
          · simp only [execOp, resolve]
            rw [run_bind, run_pure]
            simp only [invoke]
            rw [q1]
            have e3 : (#[Value.iface t z] ++ ar.map a.eval)[0]? = some (Value.iface t z) := by rw [Array.getElem?_append_left (by simp)]; rfl
            have e4 : (#[Value.iface t z] ++ ar.map a.eval).extract 1 (#[Value.iface t z] ++ ar.map a.eval).size = ar.map a.eval := by
              apply Array.ext'
              have e5 : (#[Value.iface t z] ++ ar.map a.eval).toList = Value.iface t z :: (ar.map a.eval).toList := by rw [Array.toList_append]; rfl
              rw [Array.toList_extract, List.extract_eq_take_drop, e5, Array.size_append, List.drop_one, List.tail_cons]
              exact List.take_of_length_le (by simp)
            simp only [e3, e4]
            unfold callMethod
            simp only []
            rw [run_bind, run_program]
            simp only []
            rw [run_bind, hmeth.1 t name k e2]
        · cases hx
      · cases hx
    · rename_i ok t z y
      obtain ⟨y0, xt, ms, rfl, h1, h2, h3⟩ := inv_taI hc
      have g1 := opd_ok he hg h3
      obtain ⟨zi, zv, z1, z2, z3⟩ := zero_some h2
      have gz : VR ρ σ z zv := ofVal_ok z3
      split at hx
      · rename_i tt u e1
        rw [e1] at g1
        obtain ⟨q, g2, g3⟩ := g1
        split at hx
        · rename_i e2
          cases hx
          obtain ⟨i, i1, i2⟩ := hmeth.2 _ _ _ e2 ms h1
          refine plain (yl_pure hr rfl rfl (x := if ok then .tuple #[.iface tt q, .bool true] else .iface tt q) ?_ ?_)
          · cases ok with
            | true => exact ⟨_, rfl, .iface tt q, _, rfl, ⟨q, rfl, g3⟩, _, _, rfl, rfl, rfl⟩
            | false => exact ⟨q, rfl, g3⟩
          · simp only [execOp]
            rw [g2]
            refine run_val ?_
            unfold Instr.typeAssert
            rw [run_bind, run_und h1]
            simp only []
            rw [run_bind, run_info i1]
            simp only []
            have : Instr.missingMethod ms i.methods = none := by simpa using i2
            rw [this]
            rfl
        · rename_i e2
          have hq := cond_none hx; clear hx; obtain ⟨rfl, hx⟩ := hq
          cases hx
          obtain ⟨i, i1, i2⟩ := hmeth.2 _ _ _ e2 ms h1
          refine plain (yl_pure hr rfl rfl (x := .tuple #[zv, .bool false]) ⟨_, rfl, zv, _, rfl, gz, _, _, rfl, rfl, rfl⟩ ?_)
          simp only [execOp]
          rw [g2]
          refine run_val ?_
          unfold Instr.typeAssert
          rw [run_bind, run_und h1]
          simp only []
          rw [run_bind, run_info i1]
          simp only []
          cases hm : Instr.missingMethod ms i.methods with
          | none => rw [hm] at i2; cases i2
          | some m =>
            simp only [if_true, run_bind, run_zero z1 z2]
            rfl
        · cases hx
      · rename_i e1
        rw [e1] at g1
        have hq := cond_none hx; clear hx; obtain ⟨rfl, hx⟩ := hq
        cases hx
        refine plain (yl_pure hr rfl rfl (x := .tuple #[zv, .bool false]) ⟨_, rfl, zv, _, rfl, gz, _, _, rfl, rfl, rfl⟩ ?_)
        simp only [execOp]
        rw [show a.eval y0 = _ from g1]
        refine run_val ?_
        unfold Instr.typeAssert
        rw [run_bind, run_und h1]
        simp only [if_true, run_bind, run_zero z1 z2]
        rfl
      · cases hx
    · exact gen hx

omit hρ hcall hmeth in
theorem VR_bool {σ : Emb} {t : TV} {c : Bool} (h : VR ρ σ t (.bool c)) : t = .b c ∨ ∃ j, t = .x j := by
  cases t with
  | b x => cases h; exact .inl rfl
  | x j => exact .inr ⟨j, rfl⟩
  | i k n => cases h
  | s l => obtain ⟨h, _⟩ := h; cases h
  | p k off => obtain ⟨_, _, h⟩ := h; cases h
  | pn => cases h
  | sl k off esz len cap rest => obtain ⟨_, _, _, h, _⟩ := h; cases h
  | sln => cases h
  | m k => obtain ⟨_, _, h⟩ := h; cases h
  | mn => cases h
  | f g a c => obtain ⟨_, _, h, _⟩ := h; cases h
  | fn => cases h
  | ifc t u => obtain ⟨_, h, _⟩ := h; cases h
  | ifn => cases h
  | ag l => obtain ⟨_, h, _⟩ := h; cases h
  | tu l => obtain ⟨_, h, _⟩ := h; cases h
omit hρ hcall hmeth in
theorem cRO_some {N : Nat} {ops : List Oper} {o : Oper} {r : RO} (hc : cRO P N ops o = some r) : r.dst = o.dst ∧ r.op = cOp P o.op ∧ (∀ k, o.dst = some k → k < N) ∧
    ((o.guard = none ∧ r.guard = none) ∨ ∃ j b s, o.guard = some (j, b) ∧ slotOf ops j = some s ∧ r.guard = some (s, b)) := by
  unfold cRO at hc
  simp only [] at hc
  split at hc
  · rename_i hd
    have hd' : ∀ k, o.dst = some k → k < N := fun k hk => by
      rw [hk] at hd
      exact blt_lt hd
    split at hc
    · rename_i hg
      cases hc
      exact ⟨rfl, rfl, hd', .inl ⟨hg, rfl⟩⟩
    · rename_i j b hg
      split at hc
      · rename_i s hs
        cases hc
        exact ⟨rfl, rfl, hd', .inr ⟨j, b, s, hg, hs, rfl⟩⟩
      · cases hc
  · cases hc
omit hρ hcall hmeth in
/-- Is an operation wanted: as the runner says. -/
theorem want_ok {σ : Emb} {e : Trie TV} {tmps : Array Value} (he : EnvR ρ σ e tmps) {N : Nat} {arr : Array Oper} {o : Oper} {r : RO} (hc : cRO P N arr.toList o = some r) {b : Bool} (hw : want r.guard e = some b) :
    Region.wanted o (yielded arr tmps) = b := by
  obtain ⟨_, _, _, hg⟩ := cRO_some hc
  unfold Region.wanted
  rcases hg with ⟨g1, g2⟩ | ⟨j, c, s, g1, g2, g3⟩
  · rw [g2] at hw
    cases hw
    rw [g1]
  · rw [g3] at hw
    rw [g1]
    simp only []
    have hy : yielded arr tmps j = match tmps[s]? with | some (.bool b) => some b | _ => none := by
      unfold yielded slotOf at *
      rw [Array.getElem?_toList] at g2
      cases ho : arr[j]? with
      | none => rw [ho] at g2; cases g2
      | some o' =>
        rw [ho] at g2
        simp only [] at g2
        simp only [Option.bind_some, g2]
        rfl
    unfold want at hw
    simp only [] at hw
    have hs := he s
    split at hw
    · rename_i x e1
      cases hw
      rw [e1] at hs
      have hs : tmps.getD s undef = .bool x := hs
      have : tmps[s]? = some (.bool x) := by
        rw [Array.getD_eq_getD_getElem?] at hs
        cases ht : tmps[s]? with
        | none => rw [ht] at hs; cases hs
        | some q => rw [ht] at hs; simp only [Option.getD_some] at hs; rw [hs]
      rw [hy, this]
      cases x <;> cases c <;> rfl
    · cases hw
    · rename_i n1 n2
      cases hw
      rw [hy]
      cases ht : tmps[s]? with
      | none => rfl
      | some q =>
        rw [Array.getD_eq_getD_getElem?, ht] at hs
        simp only [Option.getD_some] at hs
        cases q with
        | bool y =>
          rcases VR_bool hs with q | ⟨k, q⟩
          · exact absurd q (n1 y)
          · exact absurd q (n2 k)
        | _ => rfl

/-- The state of a function's frame: slots, world. -/
def After (ρ : Nat → Value) (B : Nat) (D : Nat → Prop) (σ : Emb) (h : SH) (w : World) (a : Act) (e' : Trie TV) (h' : SH) (a' : Act) (w' : World) : Prop :=
  ∃ σ', Tr ρ B D σ h w σ' h' w' ∧ EnvR ρ σ' e' a'.tmps ∧ a'.tmps.size = a.tmps.size ∧ a'.defers = a.defers

omit hρ hmeth in
theorem tf_evR : ∀ {l : List RO} {e e' : Trie TV} {h h' : SH}, evR meth call l e h = some (e', h') → TF h h'
  | [], e, e', h, h', hx => by cases hx; exact TF.refl _
  | r :: q, e, e', h, h', hx => by
    unfold evR at hx
    split at hx
    · cases hx
    · exact tf_evR hx
    · split at hx
      · rename_i e1
        exact (tf_op1 hcall e1).trans (tf_evR hx)
      · cases hx

/-- A region in the text's order. -/
theorem evR_ok {N : Nat} (hN : N ≤ 4000) {arr : Array Oper} {Q : Exit → Act → World → Prop} : ∀ {l : List Oper} {rl : List RO} {e e' : Trie TV} {h h' : SH} {D : Nat → Prop} {σ : Emb} {w : World} {a : Act}, cROs P N arr.toList l = some rl → evR meth call rl e h = some (e', h') →
    HR ρ B D σ h w → GlobR P σ → Free σ h.nx h'.nx → Hand D h h' → EnvR ρ σ e a.tmps → N ≤ a.tmps.size → (∀ a' w', After ρ B D σ h w a e' h' a' w' → Q .normal a' w') → wpList P arr Q l a w
  | [], rl, e, e', h, h', D, σ, w, a, hc, hx, hr, hg, hf, hd, he, hs, hQ => by
    cases hc; cases hx
    exact hQ a w ⟨σ, tr_same hr rfl rfl, he, rfl, rfl⟩
  | o :: q, rl, e, e', h, h', D, σ, w, a, hc, hx, hr, hg, hf, hd, he, hs, hQ => by
    unfold cROs at hc
    split at hc
    · rename_i r rl' c1 c2
      cases hc
      obtain ⟨k1, k2, k3, _⟩ := cRO_some c1
      have hdst : ∀ k, o.dst = some k → k < a.tmps.size ∧ k < 4000 := fun k hk => ⟨Nat.lt_of_lt_of_le (k3 k hk) hs, Nat.lt_of_lt_of_le (k3 k hk) hN⟩
      unfold evR at hx
      unfold wpList
      split at hx
      · cases hx
      · rename_i hw
        have := want_ok he c1 hw
        rw [this]
        simp only [Bool.false_eq_true, if_false]
        refine evR_ok hN c2 hx hr hg hf hd ?_ (by rw [put_size]; exact hs) ?_
        · rw [k1]; exact he.put ⟨#[], rfl, rfl⟩ hdst
        · rintro a' w' ⟨σ', t1, t2, t3, t4⟩
          exact hQ a' w' ⟨σ', t1, t2, by rw [t3, put_size], by rw [t4, put_defers]⟩
      · rename_i hw
        have := want_ok he c1 hw
        rw [this]
        simp only [if_true]
        split at hx
        · rename_i v h1 e1
          have tf1 := tf_op1 hcall e1
          have tf2 := tf_evR hcall hx
          rw [k2] at e1
          left
          refine op1_ok hρ hcall hmeth hr he hg (fun k x y => hf k x (Nat.lt_of_lt_of_le y tf2.nx)) (fun k x y => hd k (tf2.lg k x) y) e1 ?_
          intro σ1 w1 x t1 hv
          refine evR_ok hN c2 hx t1.hr (hg.mono t1.up) (fun k x y => ?_) (fun k x y => ?_) ?_ (by rw [put_size]; exact hs) ?_
          · exact t1.no k (hf k (Nat.le_trans tf1.nx x) y) (.inr x)
          · by_cases hk : k < h.nx
            · exact .inl (hd k x hk)
            · exact .inr ⟨by omega, y⟩
          · rw [k1]; exact (he.mono t1.up).put hv hdst
          · rintro a' w' ⟨σ', s1, s2, s3, s4⟩
            exact hQ a' w' ⟨σ', t1.trans tf1 tf2 s1 hf, s2, by rw [s3, put_size], by rw [s4, put_defers]⟩
        · cases hx
    · cases hc
end
end Go.Proofs.YtdjafnjmkkagjaaGreatDoor.Sx
namespace Go.Proofs.YtdjafnjmkkagjaaGreatDoor.Sx

/-- What an operation sees of the slots: those that it uses. -/
theorem evs_congr {e e' : Trie TV} : ∀ {l : List Opd}, (∀ t, t ∈ slotsL l → getE e t = getE e' t) → evs e l = evs e' l
  | [], _ => rfl
  | o :: r, h => by
    unfold evs
    have h1 : o.ev e = o.ev e' := by
      cases o with
      | t n => exact h n (by simp [slotsL, Opd.slots])
      | c v => rfl
    rw [h1, evs_congr fun t ht => h t (by unfold slotsL; exact List.mem_append_right _ ht)]
theorem ev_congr {e e' : Trie TV} {o : Opd} (h : ∀ t, t ∈ o.slots → getE e t = getE e' t) : o.ev e = o.ev e' := by
  cases o with
  | t n => exact h n (by simp [Opd.slots])
  | c v => rfl
theorem fill_congr {e e' : Trie TV} : ∀ {l : List (Nat × Nat × Opd)} {cells : List TV}, (∀ t, t ∈ slotsP l → getE e t = getE e' t) → fillTV e cells l = fillTV e' cells l
  | [], _, _ => rfl
  | (off, size, o) :: r, cells, h => by
    unfold fillTV
    have h1 : o.ev e = o.ev e' := ev_congr fun t ht => h t (by unfold slotsP; exact List.mem_append_left _ ht)
    rw [h1, fill_congr fun t ht => h t (by unfold slotsP; exact List.mem_append_right _ ht)]
theorem bound_congr {e e' : Trie TV} {o : Option Opd} (h : ∀ t, t ∈ slotsO o → getE e t = getE e' t) (d m : Nat) : bound e o d m = bound e' o d m := by
  cases o with
  | none => rfl
  | some o =>
    have h1 : o.ev e = o.ev e' := ev_congr fun t ht => h t ht
    simp only [bound, h1]
theorem op1_congr {meth : Meth} {call : CallT} {o : XO} {e e' : Trie TV} (h : ∀ t, t ∈ o.uses → getE e t = getE e' t) (s : SH) : op1 meth call o e s = op1 meth call o e' s := by
  cases o
  case mkm | bad => rfl
  case mv x | nck x | un _ x | cvi _ x | cvs x | mki _ x | fa _ x | fld _ _ _ x | ta _ _ _ x | ex x _ | len _ x | box _ _ x | ld _ _ x | taI _ _ _ x =>
    have h1 : x.ev e = x.ev e' := ev_congr fun t ht => h t ht
    simp only [op1, xo, h1]
  case pick c a b =>
    have h1 : c.ev e = c.ev e' := ev_congr fun t ht => h t (List.mem_append_left _ ht)
    have h2 : a.ev e = a.ev e' := ev_congr fun t ht => h t (List.mem_append_right _ (List.mem_append_left _ ht))
    have h3 : b.ev e = b.ev e' := ev_congr fun t ht => h t (List.mem_append_right _ (List.mem_append_right _ ht))
    simp only [op1, xo, h1, h2, h3]
  case bld z ps => simp only [op1, xo, fill_congr (e := e) (e' := e') (l := ps) h]
  case bls t s n z ps => simp only [op1, xo, fill_congr (e := e) (e' := e') (l := ps) h]
  case st n a x =>
    have h1 : a.ev e = a.ev e' := ev_congr fun t ht => h t (List.mem_append_left _ ht)
    have h2 : x.ev e = x.ev e' := ev_congr fun t ht => h t (List.mem_append_right _ ht)
    simp only [op1, xo, h1, h2]
  case bop _ x y | eq _ _ _ x y | beq _ x y | ia _ x y | iaA _ _ x y | ixS x y | ixA _ _ _ x y | app _ _ x y | mm _ x y | del _ x y | mks _ _ _ x y | lk _ _ _ x y =>
    have h1 : x.ev e = x.ev e' := ev_congr fun t ht => h t (List.mem_append_left _ ht)
    have h2 : y.ev e = y.ev e' := ev_congr fun t ht => h t (List.mem_append_right _ ht)
    simp only [op1, xo, h1, h2]
  case mkf g a b =>
    have h1 : evs e a = evs e' a := evs_congr fun t ht => h t (List.mem_append_left _ ht)
    have h2 : evs e b = evs e' b := evs_congr fun t ht => h t (List.mem_append_right _ ht)
    simp only [op1, xo, h1, h2]
  case slcS x lo hi =>
    have h1 : x.ev e = x.ev e' := ev_congr fun t ht => h t (List.mem_append_left _ ht)
    have h2 := fun d m => bound_congr (e := e) (e' := e') (o := lo) (fun t ht => h t (List.mem_append_right _ (List.mem_append_left _ ht))) d m
    have h3 := fun d m => bound_congr (e := e) (e' := e') (o := hi) (fun t ht => h t (List.mem_append_right _ (List.mem_append_right _ ht))) d m
    simp only [op1, xo, h1, h2, h3]
  case slc n x lo hi mx =>
    have h1 : x.ev e = x.ev e' := ev_congr fun t ht => h t (List.mem_append_left _ ht)
    have h2 := fun d m => bound_congr (e := e) (e' := e') (o := lo) (fun t ht => h t (List.mem_append_right _ (List.mem_append_left _ ht))) d m
    have h3 := fun d m => bound_congr (e := e) (e' := e') (o := hi) (fun t ht => h t (List.mem_append_right _ (List.mem_append_right _ (List.mem_append_left _ ht)))) d m
    have h4 := fun d m => bound_congr (e := e) (e' := e') (o := mx) (fun t ht => h t (List.mem_append_right _ (List.mem_append_right _ (List.mem_append_right _ ht)))) d m
    simp only [op1, xo, h1, h2, h3, h4]
  case slcA n s x lo hi mx =>
    have h1 : x.ev e = x.ev e' := ev_congr fun t ht => h t (List.mem_append_left _ ht)
    have h2 := fun d m => bound_congr (e := e) (e' := e') (o := lo) (fun t ht => h t (List.mem_append_right _ (List.mem_append_left _ ht))) d m
    have h3 := fun d m => bound_congr (e := e) (e' := e') (o := hi) (fun t ht => h t (List.mem_append_right _ (List.mem_append_right _ (List.mem_append_left _ ht)))) d m
    have h4 := fun d m => bound_congr (e := e) (e' := e') (o := mx) (fun t ht => h t (List.mem_append_right _ (List.mem_append_right _ (List.mem_append_right _ ht)))) d m
    simp only [op1, xo, h1, h2, h3, h4]
  case call f l =>
    have h1 : evs e l = evs e' l := evs_congr h
    simp only [op1, h1]
  case callv f l =>
    have h1 : f.ev e = f.ev e' := ev_congr fun t ht => h t (List.mem_append_left _ ht)
    have h2 : evs e l = evs e' l := evs_congr fun t ht => h t (List.mem_append_right _ ht)
    simp only [op1, h1, h2]
  case inv f n l =>
    have h1 : f.ev e = f.ev e' := ev_congr fun t ht => h t (List.mem_append_left _ ht)
    have h2 : evs e l = evs e' l := evs_congr fun t ht => h t (List.mem_append_right _ ht)
    simp only [op1, h1, h2]
  case ins b m k v =>
    have h1 : m.ev e = m.ev e' := ev_congr fun t ht => h t (List.mem_append_left _ ht)
    have h2 : k.ev e = k.ev e' := ev_congr fun t ht => h t (List.mem_append_right _ (List.mem_append_left _ ht))
    have h3 : v.ev e = v.ev e' := ev_congr fun t ht => h t (List.mem_append_right _ (List.mem_append_right _ ht))
    simp only [op1, xo, h1, h2, h3]
theorem want_congr {r : RO} {e e' : Trie TV} (h : ∀ t, t ∈ r.uses → getE e t = getE e' t) : want r.guard e = want r.guard e' := by
  unfold RO.uses at h
  cases hg : r.guard with
  | none => rfl
  | some p =>
    rw [hg] at h
    unfold want
    simp only [h p.1 (List.mem_cons_self ..)]
theorem uses_op {r : RO} {t : Nat} (h : t ∈ r.op.uses) : t ∈ r.uses := by
  unfold RO.uses
  cases r.guard with
  | none => exact h
  | some p => exact List.mem_cons_of_mem _ h

/-- A region's operations in the text's order: what stands ahead of each one, what it comes to, what it touches. -/
structure Canon (meth : Meth) (call : CallT) (n : Nat) (R : Nat → Option RO) (E : Nat → Trie TV) (H : Nat → SH) (V : Nat → TV) (L : Nat → List Nat × List Nat) (M : Nat → Nat → Prop) : Prop where
  step : ∀ i r, R i = some r → (want r.guard (E i) = some false ∧ V i = .tu [] ∧ H (i + 1) = H i ∧ L i = ([], [])) ∨
    (want r.guard (E i) = some true ∧ op1 meth call r.op (E i) ⟨(H i).tr, (H i).nx, [], []⟩ = some (V i, H (i + 1)) ∧ L i = ((H (i + 1)).lg, (H (i + 1)).wr))
  env : ∀ i r, R i = some r → E (i + 1) = putE (E i) r.dst (V i)
  any : ∀ i, i < n → ∃ r, R i = some r
  small : ∀ i r d, R i = some r → r.dst = some d → d < 4000
  conf : ∀ i j, i < j → j < n → ((∃ k, k ∈ (L i).2 ∧ k ∈ (L j).1) ∨ (∃ k, k ∈ (L j).2 ∧ k ∈ (L i).1)) → M j i
  stat : ∀ i j ri rj, i < j → j < n → R i = some ri → R j = some rj → (∀ d, ri.dst = some d → rj.dst ≠ some d) ∧ (M j i ∨ ((∀ d, ri.dst = some d → d ∉ rj.uses) ∧ (∀ d, rj.dst = some d → d ∉ ri.uses)))

/-- What a name's block is when just some operations are done. -/
def curN (H : Nat → SH) (L : Nat → List Nat × List Nat) (X : Nat → Prop) [DecidablePred X] : Nat → Nat → Option TB
  | 0, k => (H 0).get k
  | m + 1, k => if X m ∧ k ∈ (L m).2 then (H (m + 1)).get k else curN H L X m k
def envN (E : Nat → Trie TV) (R : Nat → Option RO) (V : Nat → TV) (X : Nat → Prop) [DecidablePred X] : Nat → Trie TV
  | 0 => E 0
  | m + 1 => if X m then (match R m with | some r => putE (envN E R V X m) r.dst (V m) | none => envN E R V X m) else envN E R V X m

section
variable {P : Program} {ρ : Nat → Value} {B : Nat} {meth : Meth} {call : CallT} (hcall : CallOk P ρ B call) {n : Nat} {R : Nat → Option RO} {E : Nat → Trie TV} {H : Nat → SH} {V : Nat → TV} {L : Nat → List Nat × List Nat} {M : Nat → Nat → Prop}
  (C : Canon meth call n R E H V L M)
include hcall C
theorem canon_tf {i : Nat} (hi : i < n) : TF ⟨(H i).tr, (H i).nx, [], []⟩ ⟨(H (i + 1)).tr, (H (i + 1)).nx, (L i).1, (L i).2⟩ := by
  obtain ⟨r, hr⟩ := C.any i hi
  rcases C.step i r hr with ⟨_, _, h3, h4⟩ | ⟨_, h2, h3⟩
  · rw [h3, h4]; exact TF.refl _
  · rw [h3]; exact tf_op1 hcall h2
theorem canon_same {i : Nat} (hi : i < n) {k : Nat} (hk : k ∉ (L i).2) : (H (i + 1)).get k = (H i).get k := (canon_tf hcall C hi).same k hk
theorem canon_wl {i : Nat} (hi : i < n) {k : Nat} (hk : k ∈ (L i).2) : k ∈ (L i).1 := ((canon_tf hcall C hi).wl k hk).resolve_left (by simp)
theorem canon_nx {i : Nat} (hi : i < n) : (H i).nx ≤ (H (i + 1)).nx := (canon_tf hcall C hi).nx
theorem canon_nx_le : ∀ {i j : Nat}, i ≤ j → j ≤ n → (H i).nx ≤ (H j).nx := by
  intro i j hij
  induction hij with
  | refl => exact fun _ => Nat.le_refl _
  | step h ih => exact fun hj => Nat.le_trans (ih (by omega)) (canon_nx hcall C (by omega))
theorem canon_own : ∀ {i j : Nat}, i ≤ j → j ≤ n → ∀ {k : Nat}, k < (H i).nx → Own (H j) k → Own (H i) k := by
  intro i j hij
  induction hij with
  | refl => exact fun _ _ _ h => h
  | @step m h ih =>
    intro hj k hk ho
    refine ih (by omega) hk ?_
    have := (canon_tf hcall C (show m < n by omega)).own k (Nat.lt_of_lt_of_le hk (canon_nx_le hcall C h (by omega)))
    exact this ho
end

section
variable {P : Program} {ρ : Nat → Value} {B : Nat} {meth : Meth} {call : CallT} (hcall : CallOk P ρ B call) {n : Nat} {R : Nat → Option RO} {E : Nat → Trie TV} {H : Nat → SH} {V : Nat → TV} {L : Nat → List Nat × List Nat} {M : Nat → Nat → Prop}
  (C : Canon meth call n R E H V L M) (X : Nat → Prop) [DecidablePred X] (hcl : ∀ j, X j → j < n ∧ ∀ i, M j i → X i) {i : Nat} (hi : i < n) (hX : ¬ X i) (hmask : ∀ j, M i j → X j)
include hcall C hcl hi hX hmask
/-- What an operation that may come next looks at is as it is in the text's order. -/
theorem cur_at {k : Nat} (hk : k ∈ (L i).1) : curN H L X n k = (H i).get k := by
  have lo : ∀ m, m ≤ i → curN H L X m k = (H m).get k := by
    intro m
    induction m with
    | zero => exact fun _ => rfl
    | succ m ih =>
      intro hm
      unfold curN
      by_cases hw : k ∈ (L m).2
      · have hXm : X m := hmask m (C.conf m i (by omega) hi (.inl ⟨k, hw, hk⟩))
        rw [if_pos ⟨hXm, hw⟩]
      · rw [if_neg (fun q => hw q.2), ih (by omega), canon_same hcall C (by omega) hw]
  have hi2 : ∀ m, i ≤ m → m ≤ n → curN H L X m k = (H i).get k := by
    intro m hm
    induction hm with
    | refl => exact fun _ => lo i (Nat.le_refl _)
    | @step m h ih =>
      intro hm2
      unfold curN
      rw [if_neg, ih (by omega)]
      rintro ⟨hXm, hw⟩
      by_cases e : m = i
      · subst e; exact hX hXm
      · exact hX ((hcl m hXm).2 i (C.conf i m (by have : i ≤ m := h; omega) (by omega) (.inr ⟨k, hw, hk⟩)))
  exact hi2 n (by omega) (Nat.le_refl _)
omit hcall in
theorem env_at {r : RO} (hr : R i = some r) {t : Nat} (ht : t ∈ r.uses) : getE (envN E R V X n) t = getE (E i) t := by
  have lo : ∀ m, m ≤ i → getE (envN E R V X m) t = getE (E m) t := by
    intro m
    induction m with
    | zero => exact fun _ => rfl
    | succ m ih =>
      intro hm
      obtain ⟨rm, hrm⟩ := C.any m (by omega)
      rw [C.env m rm hrm]
      unfold envN
      simp only [hrm]
      by_cases hd : rm.dst = some t
      · have hXm : X m := by
          rcases (C.stat m i rm r (by omega) hi hrm hr).2 with q | ⟨q, _⟩
          · exact hmask m q
          · exact absurd ht (q t hd)
        rw [if_pos hXm, hd]
        have hs := C.small m rm t hrm hd
        show getE (Trie.set 12 _ t _) t = getE (Trie.set 12 _ t _) t
        rw [getE_put hs, getE_put hs, if_pos rfl, if_pos rfl]
      · have put_ne : ∀ q : Trie TV, getE (putE q rm.dst (V m)) t = getE q t := by
          intro q
          cases hdd : rm.dst with
          | none => rfl
          | some d =>
            show getE (Trie.set 12 q d (V m)) t = _
            rw [getE_put (C.small m rm d hrm hdd), if_neg (fun e => hd (by rw [hdd, e]))]
        rw [put_ne]
        split
        · rw [put_ne]; exact ih (by omega)
        · exact ih (by omega)
  have hi2 : ∀ m, i ≤ m → m ≤ n → getE (envN E R V X m) t = getE (E i) t := by
    intro m hm
    induction hm with
    | refl => exact fun _ => lo i (Nat.le_refl _)
    | @step m h ih =>
      intro hm2
      obtain ⟨rm, hrm⟩ := C.any m (by omega)
      unfold envN
      simp only [hrm]
      split
      · rename_i hXm
        have hne : m ≠ i := fun e => hX (e ▸ hXm)
        have hlt : i < m := by have : i ≤ m := h; omega
        cases hdd : rm.dst with
        | none => exact ih (by omega)
        | some d =>
          show getE (Trie.set 12 _ d (V m)) t = _
          rw [getE_put (C.small m rm d hrm hdd)]
          by_cases e : t = d
          · subst e
            rcases (C.stat i m r rm hlt (by omega) hr hrm).2 with q | ⟨_, q⟩
            · exact absurd ((hcl m hXm).2 i q) hX
            · exact absurd ht (q t hdd)
          · rw [if_neg e]; exact ih (by omega)
      · exact ih (by omega)
  exact hi2 n (by omega) (Nat.le_refl _)
omit hmask in
/-- One more operation is done. -/
theorem cur_next {k : Nat} : curN H L (fun j => X j ∨ j = i) n k = if k ∈ (L i).2 then (H (i + 1)).get k else curN H L X n k := by
  have lo : ∀ m, m ≤ i → curN H L (fun j => X j ∨ j = i) m k = curN H L X m k := by
    intro m
    induction m with
    | zero => exact fun _ => rfl
    | succ m ih =>
      intro hm
      unfold curN
      by_cases hw : X m ∧ k ∈ (L m).2
      · rw [if_pos hw, if_pos ⟨.inl hw.1, hw.2⟩]
      · rw [if_neg hw, if_neg (fun q => hw ⟨q.1.resolve_right (by omega), q.2⟩)]
        exact ih (by omega)
  have hi2 : ∀ m, i < m → m ≤ n → curN H L (fun j => X j ∨ j = i) m k = if k ∈ (L i).2 then (H (i + 1)).get k else curN H L X m k := by
    intro m hm
    induction hm with
    | refl =>
      intro _
      show (if (X i ∨ i = i) ∧ k ∈ (L i).2 then (H (i + 1)).get k else curN H L (fun j => X j ∨ j = i) i k) = if k ∈ (L i).2 then (H (i + 1)).get k else (if X i ∧ k ∈ (L i).2 then (H (i + 1)).get k else curN H L X i k)
      by_cases hw : k ∈ (L i).2
      · rw [if_pos ⟨.inr rfl, hw⟩, if_pos hw]
      · rw [if_neg (fun q => hw q.2), if_neg hw, if_neg (fun q => hw q.2), lo i (Nat.le_refl _)]
    | @step m h ih =>
      intro hm2
      have hlt : i < m := h
      have ih := ih (by omega)
      show (if (X m ∨ m = i) ∧ k ∈ (L m).2 then (H (m + 1)).get k else curN H L (fun j => X j ∨ j = i) m k) = if k ∈ (L i).2 then (H (i + 1)).get k else (if X m ∧ k ∈ (L m).2 then (H (m + 1)).get k else curN H L X m k)
      by_cases hw : X m ∧ k ∈ (L m).2
      · rw [if_pos ⟨.inl hw.1, hw.2⟩, if_pos hw, if_neg]
        intro hwi
        exact hX ((hcl m hw.1).2 i (C.conf i m hlt (by omega) (.inl ⟨k, hwi, canon_wl hcall C (by omega) hw.2⟩)))
      · rw [if_neg (fun q => hw ⟨q.1.resolve_right (by omega), q.2⟩), if_neg hw, ih]
  exact hi2 n hi (Nat.le_refl _)
omit hcall hmask hcl in
theorem env_next {r : RO} (hr : R i = some r) (t : Nat) : getE (envN E R V (fun j => X j ∨ j = i) n) t = getE (putE (envN E R V X n) r.dst (V i)) t := by
  have lo : ∀ m, m ≤ i → envN E R V (fun j => X j ∨ j = i) m = envN E R V X m := by
    intro m
    induction m with
    | zero => exact fun _ => rfl
    | succ m ih =>
      intro hm
      have ih := ih (by omega)
      show (if X m ∨ m = i then _ else _) = (if X m then _ else _)
      rw [ih]
      by_cases hw : X m
      · rw [if_pos hw, if_pos (.inl hw)]
      · rw [if_neg hw, if_neg (fun q => hw (q.resolve_right (by omega)))]
  have hi2 : ∀ m, i < m → m ≤ n → getE (envN E R V (fun j => X j ∨ j = i) m) t = getE (putE (envN E R V X m) r.dst (V i)) t := by
    intro m hm
    induction hm with
    | refl =>
      intro _
      show getE (if X i ∨ i = i then (match R i with | some r => putE (envN E R V (fun j => X j ∨ j = i) i) r.dst (V i) | none => _) else _) t = getE (putE (if X i then _ else envN E R V X i) r.dst (V i)) t
      rw [if_pos (.inr rfl), if_neg hX, hr, lo i (Nat.le_refl _)]
    | @step m h ih =>
      intro hm2
      have hlt : i < m := h
      have ih := ih (by omega)
      obtain ⟨rm, hrm⟩ := C.any m (by omega)
      show getE (if X m ∨ m = i then (match R m with | some r => putE (envN E R V (fun j => X j ∨ j = i) m) r.dst (V m) | none => envN E R V (fun j => X j ∨ j = i) m) else envN E R V (fun j => X j ∨ j = i) m) t = getE (putE (if X m then (match R m with | some r => putE (envN E R V X m) r.dst (V m) | none => envN E R V X m) else envN E R V X m) r.dst (V i)) t
      simp only [hrm]
      by_cases hw : X m
      · rw [if_pos hw, if_pos (.inl hw)]
        have dif := (C.stat i m r rm hlt (by omega) hr hrm).1
        have pe : ∀ (q : Trie TV) (rr : RO) (j : Nat) (u : TV), R j = some rr → getE (putE q rr.dst u) t = if rr.dst = some t then u else getE q t := by
          intro q rr j u hj
          cases hdd : rr.dst with
          | none => rw [if_neg (by simp)]; rfl
          | some d =>
            show getE (Trie.set 12 q d u) t = _
            rw [getE_put (C.small j rr d hj hdd)]
            by_cases e : t = d
            · subst e; rw [if_pos rfl, if_pos rfl]
            · rw [if_neg e, if_neg (fun q => e (Option.some.inj q).symm)]
        rw [pe _ rm m _ hrm, ih, pe _ r i _ hr, pe _ r i _ hr, pe _ rm m _ hrm]
        by_cases e1 : rm.dst = some t
        · by_cases e2 : r.dst = some t
          · exact absurd e1 (dif t e2)
          · rw [if_pos e1, if_neg e2, if_pos e1]
        · rw [if_neg e1, if_neg e1]
      · rw [if_neg hw, if_neg (fun q => hw (q.resolve_right (by omega))), ih]
  exact hi2 n hi (Nat.le_refl _)
end
end Go.Proofs.YtdjafnjmkkagjaaGreatDoor.Sx
namespace Go.Proofs.YtdjafnjmkkagjaaGreatDoor.Sx

/-- What is known when just the operations of X are done, in whatever order. -/
structure Inv (ρ : Nat → Value) (B : Nat) (n : Nat) (R : Nat → Option RO) (E : Nat → Trie TV) (H : Nat → SH) (V : Nat → TV) (L : Nat → List Nat × List Nat) (D : Nat → Prop) (σ0 : Emb) (w0 : World) (a0 : Act) (X : Nat → Prop) [DecidablePred X] (σ : Emb) (a : Act) (w : World) : Prop where
  up : σ0.le σ
  no : ∀ k, σ0 k = none → (k < (H 0).nx ∨ (H n).nx ≤ k) → σ k = none
  nw : ∀ k y, σ0 k = none → σ k = some y → w0.heap.size ≤ y.1 ∨ ∃ k0 y0, D k0 ∧ Own (H 0) k0 ∧ σ0 k0 = some y0 ∧ y0.1 = y.1
  out : Out w0 w
  sz : w0.heap.size ≤ w.heap.size
  fr : ∀ b, b < w0.heap.size → (∀ k y, D k → Own (H 0) k → σ0 k = some y → y.1 ≠ b) → w.heap[b]? = w0.heap[b]?
  base : B ≤ w.heap.size
  blk : ∀ k b, (D k ∨ ((H 0).nx ≤ k ∧ k < (H n).nx)) → curN H L X n k = some b → BR ρ B σ w k b
  inj : ∀ k k' b b', (D k ∨ ((H 0).nx ≤ k ∧ k < (H n).nx)) → (D k' ∨ ((H 0).nx ≤ k' ∧ k' < (H n).nx)) → curN H L X n k = some b → curN H L X n k' = some b' → b.own → b'.own → k ≠ k' → ∀ y y', σ k = some y → σ k' = some y' → y.1 ≠ y'.1
  free : ∀ i, i < n → ¬ X i → ∀ k, (H i).nx ≤ k → k < (H (i + 1)).nx → σ k = none
  env : EnvR ρ σ (envN E R V X n) a.tmps
  size : a.tmps.size = a0.tmps.size
  defers : a.defers = a0.defers

section
variable {P : Program} {ρ : Nat → Value} {B : Nat} {meth : Meth} {call : CallT} (hρ : ∀ j, scalV (ρ j)) (hcall : CallOk P ρ B call) (hmeth : MethOk P meth) {n : Nat} {R : Nat → Option RO} {E : Nat → Trie TV} {H : Nat → SH} {V : Nat → TV} {L : Nat → List Nat × List Nat} {M : Nat → Nat → Prop}
  (C : Canon meth call n R E H V L M) {D : Nat → Prop} {σ0 : Emb} {w0 : World} {a0 : Act} (hwf : ∀ k b, (H 0).get k = some b → k < (H 0).nx) (hfree : Free σ0 (H 0).nx (H n).nx) (hhand : ∀ i, i < n → ∀ k, k ∈ (L i).1 → k < (H 0).nx → D k) (hg : GlobR P σ0)

include hcall C hwf in
theorem wf_at : ∀ {i : Nat}, i ≤ n → ∀ k b, (H i).get k = some b → k < (H i).nx := by
  intro i
  induction i with
  | zero => exact fun _ => hwf
  | succ i ih => exact fun hi => (canon_tf hcall C (show i < n by omega)).wf (ih (by omega))

theorem envR_congr {σ : Emb} {e e' : Trie TV} {tmps : Array Value} (h : EnvR ρ σ e tmps) (hh : ∀ t, getE e' t = getE e t) : EnvR ρ σ e' tmps := fun t => by rw [hh]; exact h t

include hρ hcall hmeth C hwf hfree hhand hg
/-- One operation more, that is wanted. -/
theorem inv_step {X : Nat → Prop} [DecidablePred X] (hcl : ∀ j, X j → j < n ∧ ∀ i, M j i → X i) {i : Nat} (hi : i < n) (hX : ¬ X i) (hmask : ∀ j, M i j → X j) {σ : Emb} {a : Act} {w : World} (I : Inv ρ B n R E H V L D σ0 w0 a0 X σ a w)
    {r : RO} (hr : R i = some r) {o : Oper} (hop : r.op = cOp P o.op) (hdst : r.dst = o.dst) (hsz : ∀ k, o.dst = some k → k < a0.tmps.size) (hw : want r.guard (E i) = some true) {K : Act → World → Prop} {Q : Exit → Act → World → Prop}
    (hK : ∀ σ' w' a', Inv ρ B n R E H V L D σ0 w0 a0 (fun j => X j ∨ j = i) σ' a' w' → K a' w') : o.wp P a w K Q := by
  rcases C.step i r hr with ⟨q, _⟩ | ⟨_, h2, h3⟩
  · rw [q] at hw; cases hw
  have l1 : (L i).1 = (H (i + 1)).lg := by rw [h3]
  have l2 : (L i).2 = (H (i + 1)).wr := by rw [h3]
  have tf := tf_op1 hcall h2
  have tfc := canon_tf hcall C hi
  have n0i := canon_nx_le hcall C (Nat.zero_le i) (by omega)
  have nii := canon_nx hcall C hi
  have nin := canon_nx_le hcall C (show i + 1 ≤ n by omega) (Nat.le_refl _)
  have wfi := wf_at hcall C hwf (show i ≤ n by omega)
  have hcur := fun {k : Nat} (hk : k ∈ (L i).1) => cur_at hcall C X hcl hi hX hmask hk
  -- the operation, on the slots as they are
  have he : op1 meth call r.op (envN E R V X n) ⟨(H i).tr, (H i).nx, [], []⟩ = some (V i, H (i + 1)) := by
    rw [← h2]
    exact op1_congr (fun t ht => env_at C X hcl hi hX hmask hr (uses_op ht)) _
  rw [hop] at he
  -- what it looks at
  have hDD : ∀ k, k ∈ (L i).1 → k < (H i).nx → D k ∨ ((H 0).nx ≤ k ∧ k < (H n).nx) := fun k hk hl => by
    by_cases h0 : k < (H 0).nx
    · exact .inl (hhand i hi k hk h0)
    · exact .inr ⟨by omega, by omega⟩
  have hrD : HR ρ B (fun k => k ∈ (L i).1 ∧ k < (H i).nx) σ ⟨(H i).tr, (H i).nx, [], []⟩ w := by
    refine ⟨I.base, wfi, fun k b hd hb => ?_, fun k k' hd hd' ho ho' hne y y' hy hy' => ?_⟩
    · exact I.blk k b (hDD k hd.1 hd.2) (by rw [hcur hd.1]; exact hb)
    · obtain ⟨b, b1, b2⟩ := ho
      obtain ⟨b', b3, b4⟩ := ho'
      exact I.inj k k' b b' (hDD k hd.1 hd.2) (hDD k' hd'.1 hd'.2) (by rw [hcur hd.1]; exact b1) (by rw [hcur hd'.1]; exact b3) b2 b4 hne y y' hy hy'
  refine op1_ok hρ hcall hmeth hrD I.env (hg.mono I.up) (fun k x y => I.free i hi hX k x y) (fun k x y => ⟨by rw [l1]; exact x, y⟩) he ?_
  intro σ' w' x t1 hv
  refine hK σ' w' _ ?_
  have cn := fun {k : Nat} => cur_next hcall C X hcl hi hX (k := k)
  have own0 : ∀ {k}, k < (H 0).nx → Own (H i) k → Own (H 0) k := fun {k} hk ho => canon_own hcall C (Nat.zero_le i) (by omega) hk ho
  -- an own block that is looked at, by the first names
  have back : ∀ k0 y0, (k0 ∈ (L i).1 ∧ k0 < (H i).nx) → Own (H i) k0 → σ k0 = some y0 → w0.heap.size ≤ y0.1 ∨ ∃ k1 y1, D k1 ∧ Own (H 0) k1 ∧ σ0 k1 = some y1 ∧ y1.1 = y0.1 := by
    intro k0 y0 hd ho hy
    cases hs : σ0 k0 with
    | none => exact I.nw k0 y0 hs hy
    | some y1 =>
      have hlt : k0 < (H 0).nx := by
        rcases Nat.lt_or_ge k0 (H 0).nx with q | q
        · exact q
        · rw [hfree k0 q (by omega)] at hs; cases hs
      have e := I.up k0 y1 hs
      rw [hy] at e; cases e
      exact .inr ⟨k0, y0, hhand i hi k0 hd.1 hlt, own0 hlt ho, hs, rfl⟩
  have keep : ∀ k b, (D k ∨ ((H 0).nx ≤ k ∧ k < (H n).nx)) → k ∉ (L i).1 → curN H L X n k = some b → ∀ y, σ k = some y → y.1 < w.heap.size → (b.own ∨ y.1 < B) → w'.heap[y.1]? = w.heap[y.1]? := by
    intro k b hd hk hc y hy hlt hb
    refine t1.fr y.1 hlt fun k0 y0 hd0 ho0 hy0 e => ?_
    obtain ⟨b0, e1, e2⟩ := ho0
    have hc0 : curN H L X n k0 = some b0 := by rw [hcur hd0.1]; exact e1
    rcases hb with hb | hb
    · exact I.inj k0 k b0 b (hDD k0 hd0.1 hd0.2) hd hc0 hc e2 hb (fun q => hk (q ▸ hd0.1)) y0 y hy0 hy e
    · obtain ⟨yy, q1, _, q3⟩ := BR_block (I.blk k0 b0 (hDD k0 hd0.1 hd0.2) hc0) e2
      rw [hy0] at q1; cases q1
      omega
  refine
    { up := fun k y e => t1.up k y (I.up k y e)
      no := fun k e c => t1.no k (I.no k e c) (by rcases c with c | c; exact .inl (show k < (H i).nx by omega); exact .inr (by omega))
      nw := fun k y e c => ?_
      out := I.out.trans t1.out
      sz := Nat.le_trans I.sz t1.sz
      fr := fun b hb hn => ?_
      base := t1.hr.base
      blk := fun k b hd hc => ?_
      inj := fun k k' b b' hd hd' hc hc' ho ho' hne y y' hy hy' => ?_
      free := fun j hj hXj k x y => ?_
      env := ?_
      size := by rw [put_size]; exact I.size
      defers := by rw [put_defers]; exact I.defers }
  · -- nw
    cases hs : σ k with
    | some y1 =>
      have q := t1.up k y1 hs
      rw [c] at q; cases q
      exact I.nw k y e hs
    | none =>
      rcases t1.nw k y hs c with q | ⟨k0, y0, q1, q2, q3, q4⟩
      · exact .inl (Nat.le_trans I.sz q)
      · rcases back k0 y0 q1 q2 q3 with z | ⟨k1, y1, z1, z2, z3, z4⟩
        · exact .inl (by omega)
        · exact .inr ⟨k1, y1, z1, z2, z3, z4.trans q4⟩
  · -- fr
    rw [t1.fr b (Nat.lt_of_lt_of_le hb I.sz) ?_, I.fr b hb hn]
    intro k0 y0 q1 q2 q3 e
    subst e
    rcases back k0 y0 q1 q2 q3 with z | ⟨k1, y1, z1, z2, z3, z4⟩
    · omega
    · exact hn k1 y1 z1 z2 z3 z4
  · -- blk
    rw [cn] at hc
    by_cases hk : k ∈ (L i).1
    · have hc2 : (H (i + 1)).get k = some b := by
        by_cases hwk : k ∈ (L i).2
        · rw [if_pos hwk] at hc; exact hc
        · rw [if_neg hwk, hcur hk] at hc
          rw [canon_same hcall C hi hwk]; exact hc
      have hlt := wf_at hcall C hwf (show i + 1 ≤ n by omega) k b hc2
      refine t1.hr.blk k b ?_ hc2
      by_cases h1 : k < (H i).nx
      · exact .inl ⟨hk, h1⟩
      · exact .inr ⟨by show (H i).nx ≤ k; omega, hlt⟩
    · rw [if_neg (fun q => hk (canon_wl hcall C hi q))] at hc
      have hB := I.blk k b hd hc
      cases b with
      | dead => trivial
      | cells l ty ro =>
        refine BR_mono hB t1.up fun y hy hlt => keep k _ hd hk hc y hy hlt ?_
        obtain ⟨y', c', fz, g1, _, _, g3, _⟩ := hB
        rw [hy] at g1; cases g1
        cases ro with
        | true => exact .inr (g3 rfl)
        | false => exact .inl rfl
      | mp es cl => exact BR_mono hB t1.up fun y hy hlt => keep k _ hd hk hc y hy hlt (.inl trivial)
  · -- inj
    rw [cn] at hc hc'
    have inside : ∀ {k b}, k ∈ (L i).1 → (if k ∈ (L i).2 then (H (i + 1)).get k else curN H L X n k) = some b → (H (i + 1)).get k = some b := by
      intro k b hk hc
      by_cases hwk : k ∈ (L i).2
      · rw [if_pos hwk] at hc; exact hc
      · rw [if_neg hwk, hcur hk] at hc
        rw [canon_same hcall C hi hwk]; exact hc
    have inD : ∀ {k b}, k ∈ (L i).1 → (H (i + 1)).get k = some b → ((k ∈ (L i).1 ∧ k < (H i).nx) ∨ ((H i).nx ≤ k ∧ k < (H (i + 1)).nx)) := by
      intro k b hk hb
      have hlt := wf_at hcall C hwf (show i + 1 ≤ n by omega) k b hb
      by_cases h1 : k < (H i).nx
      · exact .inl ⟨hk, h1⟩
      · exact .inr ⟨by omega, hlt⟩
    -- one inside, one outside
    have mixed : ∀ {k k' b b' y y'}, (D k' ∨ ((H 0).nx ≤ k' ∧ k' < (H n).nx)) → k ∈ (L i).1 → k' ∉ (L i).1 → (H (i + 1)).get k = some b → curN H L X n k' = some b' → b.own → b'.own → σ' k = some y → σ' k' = some y' → y.1 ≠ y'.1 := by
      intro k k' b b' y y' hd' hk hk' hb hb' ho ho' hy hy'
      obtain ⟨z', z1, z2, _⟩ := BR_block (I.blk k' b' hd' hb') ho'
      have := t1.up k' z' z1
      rw [hy'] at this; cases this
      have hkk : k ≠ k' := fun q => hk' (q ▸ hk)
      cases hs : σ k with
      | some y1 =>
        have q := t1.up k y1 hs
        rw [hy] at q; cases q
        have hlt : k < (H i).nx := by
          rcases inD hk hb with q | q
          · exact q.2
          · rw [I.free i hi hX k q.1 q.2] at hs; cases hs
        obtain ⟨b0, o1, o2⟩ := tfc.own k hlt ⟨b, hb, ho⟩
        exact I.inj k k' b0 b' (hDD k hk hlt) hd' (by rw [hcur hk]; exact o1) hb' o2 ho' hkk y y' hs z1
      | none =>
        rcases t1.nw k y hs hy with q | ⟨k0, y0, q1, q2, q3, q4⟩
        · omega
        · obtain ⟨b0, o1, o2⟩ := q2
          have := I.inj k0 k' b0 b' (hDD k0 q1.1 q1.2) hd' (by rw [hcur q1.1]; exact o1) hb' o2 ho' (fun q => hk' (q ▸ q1.1)) y0 y' q3 z1
          rw [← q4]; exact this
    by_cases hk : k ∈ (L i).1
    · have hb := inside hk hc
      by_cases hk' : k' ∈ (L i).1
      · have hb' := inside hk' hc'
        exact t1.hr.inj k k' (inD hk hb) (inD hk' hb') ⟨b, hb, ho⟩ ⟨b', hb', ho'⟩ hne y y' hy hy'
      · rw [if_neg (fun q => hk' (canon_wl hcall C hi q))] at hc'
        exact mixed hd' hk hk' hb hc' ho ho' hy hy'
    · rw [if_neg (fun q => hk (canon_wl hcall C hi q))] at hc
      by_cases hk' : k' ∈ (L i).1
      · have hb' := inside hk' hc'
        exact (mixed hd hk' hk hb' hc ho' ho hy' hy).symm
      · rw [if_neg (fun q => hk' (canon_wl hcall C hi q))] at hc'
        obtain ⟨z, z1, _⟩ := BR_block (I.blk k b hd hc) ho
        obtain ⟨z', z1', _⟩ := BR_block (I.blk k' b' hd' hc') ho'
        have e1 := t1.up k z z1
        have e2 := t1.up k' z' z1'
        rw [hy] at e1; rw [hy'] at e2
        cases e1; cases e2
        exact I.inj k k' b b' hd hd' hc hc' ho ho' hne y y' z1 z1'
  · -- free
    have hji : j ≠ i := fun q => hXj (.inr q)
    refine t1.no k (I.free j hj (fun q => hXj (.inl q)) k x y) ?_
    rcases Nat.lt_or_ge j i with q | q
    · have := canon_nx_le hcall C (show j + 1 ≤ i by omega) (by omega)
      exact .inl (show k < (H i).nx by omega)
    · have := canon_nx_le hcall C (show i + 1 ≤ j by omega) (by omega)
      exact .inr (by omega)
  · -- env
    refine envR_congr ((I.env.mono t1.up).put hv (d := o.dst) fun k hk => ⟨by rw [I.size]; exact hsz k hk, C.small i r k hr (by rw [hdst]; exact hk)⟩) fun t => ?_
    rw [env_next C X hi hX hr t, hdst]
omit hρ hmeth hwf hfree hhand hg in
/-- One operation more, that is not wanted. -/
theorem inv_skip {X : Nat → Prop} [DecidablePred X] (hcl : ∀ j, X j → j < n ∧ ∀ i, M j i → X i) {i : Nat} (hi : i < n) (hX : ¬ X i) {σ : Emb} {a : Act} {w : World} (I : Inv ρ B n R E H V L D σ0 w0 a0 X σ a w)
    {r : RO} (hr : R i = some r) {o : Oper} (hdst : r.dst = o.dst) (hsz : ∀ k, o.dst = some k → k < a0.tmps.size) (hw : want r.guard (E i) = some false) : Inv ρ B n R E H V L D σ0 w0 a0 (fun j => X j ∨ j = i) σ (a.put o.dst undef) w := by
  rcases C.step i r hr with ⟨_, h2, h3, h4⟩ | ⟨q, _⟩
  · have hcn : ∀ k, curN H L (fun j => X j ∨ j = i) n k = curN H L X n k := fun k => by
      rw [cur_next hcall C X hcl hi hX, h4, if_neg (by simp)]
    refine
      { up := I.up, no := I.no, nw := I.nw, out := I.out, sz := I.sz, fr := I.fr, base := I.base
        blk := fun k b hd hc => I.blk k b hd (by rw [← hcn]; exact hc)
        inj := fun k k' b b' hd hd' hc hc' => I.inj k k' b b' hd hd' (by rw [← hcn]; exact hc) (by rw [← hcn]; exact hc')
        free := fun j hj hXj => I.free j hj (fun q => hXj (.inl q))
        env := envR_congr (I.env.put (v := .tu []) (x := undef) ⟨#[], rfl, rfl⟩ (d := o.dst) fun k hk => ⟨by rw [I.size]; exact hsz k hk, C.small i r k hr (by rw [hdst]; exact hk)⟩) fun t => by
          rw [env_next C X hi hX hr t, hdst, h2]
        size := by rw [put_size]; exact I.size
        defers := by rw [put_defers]; exact I.defers }
  · rw [q] at hw; cases hw
end
end Go.Proofs.YtdjafnjmkkagjaaGreatDoor.Sx
namespace Go.Proofs.YtdjafnjmkkagjaaGreatDoor.Sx

theorem mem_iff {k : Nat} : ∀ {l : List Nat}, mem k l = true ↔ k ∈ l
  | [] => by simp [mem]
  | j :: r => by
    unfold mem
    by_cases h : k = j
    · subst h; simp
    · rw [show Nat.beq k j = false from Bool.eq_false_iff.2 fun q => h (Nat.eq_of_beq_eq_true q)]
      rw [cond_false, mem_iff]
      simp [h]
theorem meets_iff : ∀ {l m : List Nat}, meets l m = true ↔ ∃ k, k ∈ l ∧ k ∈ m
  | [], m => by simp [meets]
  | k :: r, m => by
    unfold meets
    cases h : mem k m with
    | true =>
      rw [cond_true]
      exact ⟨fun _ => ⟨k, by simp, mem_iff.1 h⟩, fun _ => rfl⟩
    | false =>
      rw [cond_false, meets_iff]
      have hk : k ∉ m := fun q => by rw [mem_iff.2 q] at h; cases h
      constructor
      · rintro ⟨j, h1, h2⟩; exact ⟨j, List.mem_cons_of_mem _ h1, h2⟩
      · rintro ⟨j, h1, h2⟩
        rcases List.mem_cons.1 h1 with rfl | h1
        · exact absurd h2 hk
        · exact ⟨j, h1, h2⟩
theorem conf_of {x y : List Nat × List Nat} (h : (∃ k, k ∈ x.2 ∧ k ∈ y.1) ∨ (∃ k, k ∈ y.2 ∧ k ∈ x.1)) : conf x y = true := by
  unfold conf
  rcases h with h | h
  · rw [meets_iff.2 h]; rfl
  · rw [meets_iff.2 h]; cases meets x.2 y.1 <;> rfl
theorem okOne_spec {i : Nat} {x : List Nat × List Nat} : ∀ {anc : List Nat} {logs : List (List Nat × List Nat)}, okOne i x anc logs = true → ∀ (q a : Nat) (y : List Nat × List Nat), anc[q]? = some a → logs[q]? = some y → conf x y = true → Nat.testBit a i = true
  | [], _, _, q, a, y, h1, _, _ => by simp at h1
  | _ :: _, [], _, q, a, y, _, h2, _ => by simp at h2
  | a0 :: anc, y0 :: logs, h, q, a, y, h1, h2, h3 => by
    unfold okOne at h
    cases q with
    | zero =>
      simp only [List.getElem?_cons_zero, Option.some.injEq] at h1 h2
      subst h1; subst h2
      rw [h3, cond_true] at h
      cases ht : Nat.testBit a0 i with
      | true => rfl
      | false => rw [ht] at h; cases h
    | succ q =>
      simp only [List.getElem?_cons_succ] at h1 h2
      have : okOne i x anc logs = true := by
        cases hc : conf x y0 with
        | true =>
          rw [hc, cond_true] at h
          cases ht : Nat.testBit a0 i with
          | true => rw [ht] at h; exact h
          | false => rw [ht] at h; cases h
        | false => rw [hc] at h; exact h
      exact okOne_spec this q a y h1 h2 h3
theorem okPar_spec : ∀ {i : Nat} {anc : List Nat} {logs : List (List Nat × List Nat)}, okPar i anc logs = true → ∀ (p q a : Nat) (x y : List Nat × List Nat), p < q → anc[q]? = some a → logs[p]? = some x → logs[q]? = some y → conf x y = true → Nat.testBit a (i + p) = true
  | i, [], _, _, p, q, a, x, y, _, h1, _, _, _ => by simp at h1
  | i, _ :: _, [], _, p, q, a, x, y, _, _, h2, _, _ => by simp at h2
  | i, a0 :: anc, x0 :: logs, h, p, q, a, x, y, hpq, h1, h2, h3, h4 => by
    unfold okPar at h
    have ho : okOne i x0 anc logs = true ∧ okPar (i + 1) anc logs = true := by
      cases hc : okOne i x0 anc logs with
      | true => rw [hc] at h; exact ⟨rfl, h⟩
      | false => rw [hc] at h; cases h
    obtain ⟨q, rfl⟩ : ∃ q', q = q' + 1 := ⟨q - 1, by omega⟩
    simp only [List.getElem?_cons_succ] at h1 h3
    cases p with
    | zero =>
      simp only [List.getElem?_cons_zero, Option.some.injEq] at h2
      subst h2
      exact okOne_spec ho.1 q a y h1 h3 h4
    | succ p =>
      simp only [List.getElem?_cons_succ] at h2
      have := okPar_spec ho.2 p q a x y (by omega) h1 h2 h3 h4
      rw [show i + (p + 1) = i + 1 + p from by omega]; exact this

theorem notIn_spec {d : Option Nat} {l : List Nat} (h : notIn d l = true) : ∀ k, d = some k → k ∉ l := by
  rintro k rfl hk
  unfold notIn at h
  simp only [mem_iff.2 hk] at h
  cases h
theorem okStatOne_spec {i : Nat} {x : RO} : ∀ {anc : List Nat} {l : List RO}, okStatOne i x anc l = true → ∀ (q a : Nat) (y : RO), anc[q]? = some a → l[q]? = some y → (∀ d, x.dst = some d → y.dst ≠ some d) ∧ (Nat.testBit a i = true ∨ ((∀ d, x.dst = some d → d ∉ y.uses) ∧ (∀ d, y.dst = some d → d ∉ x.uses)))
  | [], _, _, q, a, y, h1, _ => by simp at h1
  | _ :: _, [], _, q, a, y, _, h2 => by simp at h2
  | a0 :: anc, y0 :: l, h, q, a, y, h1, h2 => by
    unfold okStatOne at h
    cases c1 : unlike x.dst y0.dst with
    | false => rw [c1] at h; cases h
    | true =>
    rw [c1, cond_true] at h
    cases c2 : cond (Nat.testBit a0 i) true (apartR x y0) with
    | false => rw [c2] at h; cases h
    | true =>
    rw [c2, cond_true] at h
    cases q with
    | zero =>
      simp only [List.getElem?_cons_zero, Option.some.injEq] at h1 h2
      subst h1; subst h2
      refine ⟨?_, ?_⟩
      · intro d hd hd'
        unfold unlike at c1
        rw [hd, hd'] at c1
        simp at c1
      · cases ht : Nat.testBit a0 i with
        | true => exact .inl rfl
        | false =>
          rw [ht, cond_false] at c2
          unfold apartR at c2
          cases c3 : notIn x.dst y0.uses with
          | false => rw [c3] at c2; cases c2
          | true =>
            rw [c3, cond_true] at c2
            exact .inr ⟨notIn_spec c3, notIn_spec c2⟩
    | succ q =>
      simp only [List.getElem?_cons_succ] at h1 h2
      exact okStatOne_spec h q a y h1 h2
theorem okStat_spec : ∀ {i : Nat} {anc : List Nat} {l : List RO}, okStat i anc l = true → ∀ (p q a : Nat) (x y : RO), p < q → anc[q]? = some a → l[p]? = some x → l[q]? = some y → (∀ d, x.dst = some d → y.dst ≠ some d) ∧ (Nat.testBit a (i + p) = true ∨ ((∀ d, x.dst = some d → d ∉ y.uses) ∧ (∀ d, y.dst = some d → d ∉ x.uses)))
  | i, [], _, _, p, q, a, x, y, _, h1, _, _ => by simp at h1
  | i, _ :: _, [], _, p, q, a, x, y, _, _, h2, _ => by simp at h2
  | i, a0 :: anc, x0 :: l, h, p, q, a, x, y, hpq, h1, h2, h3 => by
    unfold okStat at h
    have ho : okStatOne i x0 anc l = true ∧ okStat (i + 1) anc l = true := by
      cases hc : okStatOne i x0 anc l with
      | true => rw [hc] at h; exact ⟨rfl, h⟩
      | false => rw [hc] at h; cases h
    obtain ⟨q, rfl⟩ : ∃ q', q = q' + 1 := ⟨q - 1, by omega⟩
    simp only [List.getElem?_cons_succ] at h1 h3
    cases p with
    | zero =>
      simp only [List.getElem?_cons_zero, Option.some.injEq] at h2
      subst h2
      exact okStatOne_spec ho.1 q a y h1 h3
    | succ p =>
      simp only [List.getElem?_cons_succ] at h2
      have := okStat_spec ho.2 p q a x y (by omega) h1 h2 h3
      rw [show i + (p + 1) = i + 1 + p from by omega]; exact this

theorem maskOf_spec {i : Nat} {ms : List Nat} : ∀ {es : List Edge} {m : Nat}, maskOf i ms es = some m → (∀ e, e ∈ es → Region.binds .any e = true → e.on < i) ∧
    ∀ (q : Nat), Nat.testBit m q = true → ∃ e, e ∈ es ∧ Region.binds .any e = true ∧ (q = e.on ∨ ∃ mm, ms[e.on]? = some mm ∧ Nat.testBit mm q = true)
  | [], m, h => by cases h; exact ⟨fun e he => by simp at he, fun q hq => by simp at hq⟩
  | e :: r, m, h => by
    unfold maskOf at h
    split at h
    · cases h
    · rename_i m0 h0
      obtain ⟨i1, i2⟩ := maskOf_spec h0
      split at h
      · rename_i hb
        split at h
        · rename_i mm h1
          split at h
          · rename_i h2
            cases h
            refine ⟨fun x hx hxb => ?_, fun q hq => ?_⟩
            · rcases List.mem_cons.1 hx with rfl | hx
              · exact h2
              · exact i1 x hx hxb
            · rw [Nat.testBit_or, Nat.testBit_or, Nat.testBit_two_pow] at hq
              simp only [Bool.or_eq_true, decide_eq_true_eq] at hq
              rcases hq with hq | hq | hq
              · obtain ⟨x, x1, x2, x3⟩ := i2 q hq
                exact ⟨x, List.mem_cons_of_mem _ x1, x2, x3⟩
              · exact ⟨e, List.mem_cons_self .., hb, .inl hq.symm⟩
              · exact ⟨e, List.mem_cons_self .., hb, .inr ⟨mm, h1, hq⟩⟩
          · cases h
        · cases h
      · rename_i hb
        cases h
        refine ⟨fun x hx hxb => ?_, fun q hq => ?_⟩
        · rcases List.mem_cons.1 hx with rfl | hx
          · exact absurd hxb hb
          · exact i1 x hx hxb
        · obtain ⟨x, x1, x2, x3⟩ := i2 q hq
          exact ⟨x, List.mem_cons_of_mem _ x1, x2, x3⟩
theorem masksOf_spec : ∀ {ops : List Oper} {i : Nat} {ms out : List Nat}, masksOf i ms ops = some out → ms.length = i → out.length = i + ops.length ∧ (∀ j, j < i → out[j]? = ms[j]?) ∧
    ∀ j o, ops[j]? = some o → ∃ m, out[i + j]? = some m ∧ (∀ e, e ∈ o.after → Region.binds .any e = true → e.on < i + j) ∧ ∀ (q : Nat), Nat.testBit m q = true → ∃ e, e ∈ o.after ∧ Region.binds .any e = true ∧ (q = e.on ∨ ∃ mm, out[e.on]? = some mm ∧ Nat.testBit mm q = true)
  | [], i, ms, out, h, hl => by cases h; exact ⟨by simp [hl], fun _ _ => rfl, fun j o ho => by simp at ho⟩
  | o :: r, i, ms, out, h, hl => by
    unfold masksOf at h
    split at h
    · rename_i m h1
      obtain ⟨g1, g2, g3⟩ := masksOf_spec h (by simp [hl])
      have keep : ∀ j, j < i → out[j]? = ms[j]? := fun j hj => by
        rw [g2 j (by omega), List.getElem?_append_left (by omega)]
      refine ⟨by rw [g1]; simp; omega, keep, fun j o' ho => ?_⟩
      cases j with
      | zero =>
        simp only [List.getElem?_cons_zero, Option.some.injEq] at ho
        subst ho
        obtain ⟨s1, s2⟩ := maskOf_spec h1
        refine ⟨m, ?_, fun e he hb => s1 e (by simpa using he) hb, fun q hq => ?_⟩
        · rw [Nat.add_zero, g2 i (by omega), List.getElem?_append_right (by omega), hl]; simp
        · obtain ⟨e, e1, e2, e3⟩ := s2 q hq
          refine ⟨e, by simpa using e1, e2, ?_⟩
          have hlt := s1 e e1 e2
          rcases e3 with e3 | ⟨mm, e3, e4⟩
          · exact .inl e3
          · exact .inr ⟨mm, by rw [keep _ hlt]; exact e3, e4⟩
      | succ j =>
        simp only [List.getElem?_cons_succ] at ho
        obtain ⟨m', q1, q2, q3⟩ := g3 j o' ho
        exact ⟨m', by rw [show i + (j + 1) = i + 1 + j from by omega]; exact q1, fun e he hb => by have := q2 e he hb; omega, q3⟩
    · cases h

theorem evP_canon {meth : Meth} {call : CallT} : ∀ {rl : List RO} {e e' : Trie TV} {h h' : SH} {acc acc' : List (List Nat × List Nat)}, evP meth call rl e h acc = some (e', h', acc') → ∃ (E : Nat → Trie TV) (H : Nat → SH) (V : Nat → TV) (L : Nat → List Nat × List Nat),
    E 0 = e ∧ H 0 = h ∧ E rl.length = e' ∧ H rl.length = h' ∧ acc' = ((List.range rl.length).map L).reverse ++ acc ∧
    ∀ i r, rl[i]? = some r → ((want r.guard (E i) = some false ∧ V i = .tu [] ∧ H (i + 1) = H i ∧ L i = ([], [])) ∨
      (want r.guard (E i) = some true ∧ op1 meth call r.op (E i) ⟨(H i).tr, (H i).nx, [], []⟩ = some (V i, H (i + 1)) ∧ L i = ((H (i + 1)).lg, (H (i + 1)).wr))) ∧ E (i + 1) = putE (E i) r.dst (V i)
  | [], e, e', h, h', acc, acc', hx => by
    cases hx
    exact ⟨fun _ => e, fun _ => h, fun _ => .tu [], fun _ => ([], []), rfl, rfl, rfl, rfl, by simp, fun i r hr => by simp at hr⟩
  | r :: q, e, e', h, h', acc, acc', hx => by
    have build : ∀ (v : TV) (h1 : SH) (l : List Nat × List Nat), evP meth call q (putE e r.dst v) h1 (l :: acc) = some (e', h', acc') →
        ((want r.guard e = some false ∧ v = .tu [] ∧ h1 = h ∧ l = ([], [])) ∨ (want r.guard e = some true ∧ op1 meth call r.op e ⟨h.tr, h.nx, [], []⟩ = some (v, h1) ∧ l = (h1.lg, h1.wr))) →
        ∃ (E : Nat → Trie TV) (H : Nat → SH) (V : Nat → TV) (L : Nat → List Nat × List Nat),
        E 0 = e ∧ H 0 = h ∧ E (r :: q).length = e' ∧ H (r :: q).length = h' ∧ acc' = ((List.range (r :: q).length).map L).reverse ++ acc ∧
        ∀ i r', (r :: q)[i]? = some r' → ((want r'.guard (E i) = some false ∧ V i = .tu [] ∧ H (i + 1) = H i ∧ L i = ([], [])) ∨
          (want r'.guard (E i) = some true ∧ op1 meth call r'.op (E i) ⟨(H i).tr, (H i).nx, [], []⟩ = some (V i, H (i + 1)) ∧ L i = ((H (i + 1)).lg, (H (i + 1)).wr))) ∧ E (i + 1) = putE (E i) r'.dst (V i) := by
      intro v h1 l hq hs
      obtain ⟨E, H, V, L, a1, a2, a3, a4, a5, a6⟩ := evP_canon hq
      refine ⟨fun i => match i with | 0 => e | i + 1 => E i, fun i => match i with | 0 => h | i + 1 => H i, fun i => match i with | 0 => v | i + 1 => V i, fun i => match i with | 0 => l | i + 1 => L i, rfl, rfl, a3, a4, ?_, ?_⟩
      · rw [a5, List.length_cons, List.range_succ_eq_map, List.map_cons, List.map_map, List.reverse_cons, List.append_assoc]
        rfl
      · intro i r' hr
        cases i with
        | zero =>
          simp only [List.getElem?_cons_zero, Option.some.injEq] at hr
          subst hr
          refine ⟨?_, ?_⟩
          · rcases hs with ⟨s1, s2, s3, s4⟩ | ⟨s1, s2, s3⟩
            · exact .inl ⟨s1, s2, by show H 0 = h; rw [a2, s3], s4⟩
            · refine .inr ⟨s1, ?_, ?_⟩
              · show op1 meth call r.op e ⟨h.tr, h.nx, [], []⟩ = some (v, H 0)
                rw [a2]; exact s2
              · show l = ((H 0).lg, (H 0).wr)
                rw [a2]; exact s3
          · exact a1
        | succ i =>
          simp only [List.getElem?_cons_succ] at hr
          exact a6 i r' hr
    unfold evP at hx
    split at hx
    · cases hx
    · rename_i hw
      exact build _ _ _ hx (.inl ⟨hw, rfl, rfl, rfl⟩)
    · rename_i hw
      split at hx
      · rename_i v h1 e1
        exact build v h1 _ hx (.inr ⟨hw, e1, rfl⟩)
      · cases hx
end Go.Proofs.YtdjafnjmkkagjaaGreatDoor.Sx
namespace Go.Proofs.YtdjafnjmkkagjaaGreatDoor.Sx

theorem cROs_get {P : Program} {N : Nat} {ops : List Oper} : ∀ {l : List Oper} {rl : List RO}, cROs P N ops l = some rl → rl.length = l.length ∧ ∀ (i : Nat) (o : Oper), l[i]? = some o → ∃ r, rl[i]? = some r ∧ cRO P N ops o = some r
  | [], rl, h => by cases h; exact ⟨rfl, fun i o ho => by simp at ho⟩
  | o :: q, rl, h => by
    unfold cROs at h
    split at h
    · rename_i r rl' c1 c2
      cases h
      obtain ⟨g1, g2⟩ := cROs_get c2
      refine ⟨by simp [g1], fun i o' ho => ?_⟩
      cases i with
      | zero => simp only [List.getElem?_cons_zero, Option.some.injEq] at ho; subst ho; exact ⟨r, rfl, c1⟩
      | succ i => simp only [List.getElem?_cons_succ] at ho; simpa using g2 i o' ho
    · cases h

/-- Which operations are listed. -/
def done (n : Nat) (listed : Array Bool) (j : Nat) : Prop := j < n ∧ listed.getD j false = true
instance (n : Nat) (listed : Array Bool) : DecidablePred (done n listed) := fun j => by unfold done; exact inferInstance

theorem Inv.congr {ρ : Nat → Value} {B : Nat} {n : Nat} {R : Nat → Option RO} {E : Nat → Trie TV} {H : Nat → SH} {V : Nat → TV} {L : Nat → List Nat × List Nat} {D : Nat → Prop} {σ0 : Emb} {w0 : World} {a0 : Act} {X Y : Nat → Prop} {i1 : DecidablePred X} {i2 : DecidablePred Y} {σ : Emb} {a : Act} {w : World}
    (I : Inv ρ B n R E H V L D σ0 w0 a0 X σ a w) (h : ∀ j, X j ↔ Y j) : Inv ρ B n R E H V L D σ0 w0 a0 Y σ a w := by
  obtain rfl : X = Y := funext fun j => propext (h j)
  obtain rfl : i1 = i2 := Subsingleton.elim _ _
  exact I

/-- How many are not listed. -/
def left : List Bool → Nat
  | [] => 0
  | b :: r => (if b then 0 else 1) + left r
theorem left_zero : ∀ {l : List Bool}, left l = 0 → ∀ j : Nat, j < l.length → l[j]? = some true
  | [], _, j, h => by simp at h
  | b :: r, h, j, hj => by
    unfold left at h
    cases b with
    | false => simp at h
    | true =>
      cases j with
      | zero => rfl
      | succ j => simpa using left_zero (by simpa using h) j (by simpa using hj)
theorem left_set : ∀ {l : List Bool} {i : Nat}, l[i]? = some false → left (l.set i true) + 1 = left l
  | [], i, h => by simp at h
  | b :: r, 0, h => by
    simp only [List.getElem?_cons_zero, Option.some.injEq] at h
    subst h
    simp [left]; omega
  | b :: r, i + 1, h => by
    simp only [List.getElem?_cons_succ] at h
    have := left_set h
    simp only [List.set_cons_succ, left]
    omega
theorem left_least : ∀ {l : List Bool}, 0 < left l → ∃ i : Nat, l[i]? = some false ∧ ∀ j : Nat, j < i → l[j]? = some true
  | [], h => by simp [left] at h
  | false :: r, _ => ⟨0, rfl, fun j hj => absurd hj (by omega)⟩
  | true :: r, h => by
    obtain ⟨i, h1, h2⟩ := left_least (l := r) (by simpa [left] using h)
    refine ⟨i + 1, by simpa using h1, fun j hj => ?_⟩
    cases j with
    | zero => rfl
    | succ j => simpa using h2 j (by omega)

section
variable {P : Program} {ρ : Nat → Value} {B : Nat} {meth : Meth} {call : CallT} (hρ : ∀ j, scalV (ρ j)) (hcall : CallOk P ρ B call) (hmeth : MethOk P meth) {N : Nat} (hN : N ≤ 4000) {arr : Array Oper} {rl : List RO} (hc : cROs P N arr.toList arr.toList = some rl)
  {ms : List Nat} (hms : masksOf 0 [] arr.toList = some ms)
  {E : Nat → Trie TV} {H : Nat → SH} {V : Nat → TV} {L : Nat → List Nat × List Nat} (C : Canon meth call arr.size (fun i => rl[i]?) E H V L (fun j i => ∃ m, ms[j]? = some m ∧ Nat.testBit m i = true)) {D : Nat → Prop} {σ0 : Emb} {w0 : World} {a0 : Act} (hwf : ∀ k b, (H 0).get k = some b → k < (H 0).nx) (hfree : Free σ0 (H 0).nx (H arr.size).nx)
  (hhand : ∀ i, i < arr.size → ∀ k, k ∈ (L i).1 → k < (H 0).nx → D k) (hg : GlobR P σ0) (hs : N ≤ a0.tmps.size)
include hρ hcall hmeth hN hc hms C hwf hfree hhand hg hs

omit hN in
/-- Every order of a region of open order. -/
theorem any_ok {Q : Exit → Act → World → Prop} (hQ : ∀ σ a w, (∀ j, j < arr.size → True) → Inv ρ B arr.size (fun i => rl[i]?) E H V L D σ0 w0 a0 (fun j => j < arr.size) σ a w → Q .normal a w) :
    ∀ (fuel : Nat) (listed : Array Bool) (σ : Emb) (a : Act) (w : World), listed.size = arr.size → left listed.toList ≤ fuel → (∀ j, done arr.size listed j → ∀ i, (∃ m, ms[j]? = some m ∧ Nat.testBit m i = true) → done arr.size listed i) →
    Inv ρ B arr.size (fun i => rl[i]?) E H V L D σ0 w0 a0 (done arr.size listed) σ a w → wpAny P .any arr Q fuel listed a w := by
  obtain ⟨ml, _, mspec⟩ := masksOf_spec hms rfl
  obtain ⟨rlen, rget⟩ := cROs_get hc
  simp only [Array.length_toList, Nat.zero_add] at ml rlen mspec
  -- nothing may come: all is done
  have fin : ∀ {listed : Array Bool} {σ : Emb} {a : Act} {w : World}, listed.size = arr.size → Region.ready .any arr listed = [] → Inv ρ B arr.size (fun i => rl[i]?) E H V L D σ0 w0 a0 (done arr.size listed) σ a w → Q .normal a w := by
    intro listed σ a w hl hr I
    have all : left listed.toList = 0 := by
      rcases Nat.eq_zero_or_pos (left listed.toList) with q | q
      · exact q
      · obtain ⟨i, h1, h2⟩ := left_least q
        have hi : i < arr.size := by
          rcases Nat.lt_or_ge i arr.size with z | z
          · exact z
          · rw [List.getElem?_eq_none (by simpa [hl] using z)] at h1; cases h1
        have : i ∈ Region.ready .any arr listed := by
          rw [mem_ready]
          obtain ⟨m, q1, q2, q3⟩ := mspec i arr[i] (by simp [hi])
          rw [Array.getElem?_toList] at h1
          refine ⟨by rw [Array.getD_eq_getD_getElem?, h1]; rfl, arr[i], by simp [hi], fun e he hb => ?_⟩
          have := h2 e.on (q2 e he hb)
          rw [Array.getElem?_toList] at this
          rw [Array.getD_eq_getD_getElem?, this]; rfl
        rw [hr] at this
        cases this
    refine hQ σ a w (fun _ _ => trivial) (I.congr fun j => ?_)
    constructor
    · exact fun q => q.1
    · intro hj
      have := left_zero all j (by simpa [hl] using hj)
      rw [Array.getElem?_toList] at this
      exact ⟨hj, by rw [Array.getD_eq_getD_getElem?, this]; rfl⟩
  intro fuel
  induction fuel with
  | zero =>
    intro listed σ a w hl hleft hcl I
    have hr : Region.ready .any arr listed = [] := by
      have all := left_zero (show left listed.toList = 0 by omega)
      rw [List.eq_nil_iff_forall_not_mem]
      intro i hi
      rw [mem_ready] at hi
      obtain ⟨h1, o, h2, _⟩ := hi
      have hlt : i < arr.size := (Array.getElem?_eq_some_iff.1 h2).1
      have := all i (by simpa [hl] using hlt)
      rw [Array.getElem?_toList] at this
      rw [Array.getD_eq_getD_getElem?, this] at h1
      cases h1
    exact ⟨hr, fin hl hr I⟩
  | succ fuel ih =>
    intro listed σ a w hl hleft hcl I
    refine ⟨fun hr => fin hl hr I, fun i hi => ?_⟩
    rw [mem_ready] at hi
    obtain ⟨h1, o, h2, h3⟩ := hi
    have hlt : i < arr.size := (Array.getElem?_eq_some_iff.1 h2).1
    have hli : listed[i]? = some false := by
      rw [Array.getD_eq_getD_getElem?] at h1
      cases hq : listed[i]? with
      | none => rw [hq] at h1; cases h1
      | some b => rw [hq] at h1; simp only [Option.getD_some] at h1; rw [h1]
    have hXi : ¬ done arr.size listed i := fun q => by
      have := q.2
      rw [Array.getD_eq_getD_getElem?, hli] at this
      cases this
    obtain ⟨m, q1, q2, q3⟩ := mspec i o (by rw [Array.getElem?_toList]; exact h2)
    have hmask : ∀ j, (∃ m, ms[i]? = some m ∧ Nat.testBit m j = true) → done arr.size listed j := by
      rintro j ⟨m', z1, z2⟩
      rw [q1] at z1; cases z1
      obtain ⟨e, e1, e2, e3⟩ := q3 j z2
      have hon : done arr.size listed e.on := ⟨by have := q2 e e1 e2; omega, h3 e e1 e2⟩
      rcases e3 with rfl | ⟨mm, e3, e4⟩
      · exact hon
      · exact hcl e.on hon j ⟨mm, e3, e4⟩
    obtain ⟨r, hr, hcr⟩ := rget i o (by rw [Array.getElem?_toList]; exact h2)
    obtain ⟨k1, k2, k3, _⟩ := cRO_some hcr
    have hdst : ∀ k, o.dst = some k → k < a0.tmps.size := fun k hk => Nat.lt_of_lt_of_le (k3 k hk) hs
    have hsz' : (listed.setIfInBounds i true).size = arr.size := by simpa using hl
    have hleft' : left (listed.setIfInBounds i true).toList ≤ fuel := by
      have := left_set (l := listed.toList) (i := i) (by rw [Array.getElem?_toList]; exact hli)
      rw [Array.toList_setIfInBounds]
      omega
    have hnew : ∀ j, (done arr.size listed j ∨ j = i) ↔ done arr.size (listed.setIfInBounds i true) j := by
      intro j
      unfold done
      by_cases e : j = i
      · subst e
        have : (listed.setIfInBounds j true).getD j false = true := by
          rw [Array.getD_eq_getD_getElem?, Array.getElem?_setIfInBounds_self_of_lt (by omega)]; rfl
        exact ⟨fun _ => ⟨hlt, this⟩, fun _ => .inr rfl⟩
      · have : (listed.setIfInBounds i true).getD j false = listed.getD j false := by
          rw [Array.getD_eq_getD_getElem?, Array.getD_eq_getD_getElem?, Array.getElem?_setIfInBounds_ne (Ne.symm e)]
        rw [this]
        exact ⟨fun q => q.resolve_right e, fun q => .inl q⟩
    have hcl' : ∀ j, done arr.size (listed.setIfInBounds i true) j → ∀ i', (∃ m, ms[j]? = some m ∧ Nat.testBit m i' = true) → done arr.size (listed.setIfInBounds i true) i' := by
      intro j hj i' hm
      rw [← hnew] at hj
      rw [← hnew]
      rcases hj with hj | rfl
      · exact .inl (hcl j hj i' hm)
      · exact .inl (hmask i' hm)
    have hclX : ∀ j, done arr.size listed j → j < arr.size ∧ ∀ i, (∃ m, ms[j]? = some m ∧ Nat.testBit m i = true) → done arr.size listed i := fun j hj => ⟨hj.1, hcl j hj⟩
    unfold wpOp
    simp only [h2]
    have hE : ∀ b, want r.guard (E i) = some b → Region.wanted o (yielded arr a.tmps) = b := by
      intro b hb
      refine want_ok I.env hcr ?_
      rw [← hb]
      exact want_congr fun t ht => env_at C _ hclX hlt hXi hmask hr ht
    rcases C.step i r hr with ⟨z, _⟩ | ⟨z, _⟩
    · rw [hE false z]
      simp only [Bool.false_eq_true, if_false]
      exact ih _ σ _ w hsz' hleft' hcl' ((inv_skip hcall C hclX hlt hXi I hr k1 hdst z).congr hnew)
    · rw [hE true z]
      simp only [if_true]
      left
      exact inv_step hρ hcall hmeth C hwf hfree hhand hg hclX hlt hXi hmask I hr k2 k1 hdst z fun σ' w' a' I' => ih _ σ' a' w' hsz' hleft' hcl' (I'.congr hnew)
end
end Go.Proofs.YtdjafnjmkkagjaaGreatDoor.Sx
namespace Go.Proofs.YtdjafnjmkkagjaaGreatDoor.Sx

theorem allLogs_1 {k : Nat} : ∀ {acc : List (List Nat × List Nat)}, k ∈ (allLogs acc).1 ↔ ∃ x, x ∈ acc ∧ k ∈ x.1
  | [] => by simp [allLogs]
  | x :: r => by
    unfold allLogs
    simp only [List.mem_append, List.mem_cons, allLogs_1]
    constructor
    · rintro (h | ⟨y, h1, h2⟩)
      · exact ⟨x, .inl rfl, h⟩
      · exact ⟨y, .inr h1, h2⟩
    · rintro ⟨y, rfl | h1, h2⟩
      · exact .inl h2
      · exact .inr ⟨y, h1, h2⟩
theorem allLogs_2 {k : Nat} : ∀ {acc : List (List Nat × List Nat)}, k ∈ (allLogs acc).2 ↔ ∃ x, x ∈ acc ∧ k ∈ x.2
  | [] => by simp [allLogs]
  | x :: r => by
    unfold allLogs
    simp only [List.mem_append, List.mem_cons, allLogs_2]
    constructor
    · rintro (h | ⟨y, h1, h2⟩)
      · exact ⟨x, .inl rfl, h⟩
      · exact ⟨y, .inr h1, h2⟩
    · rintro ⟨y, rfl | h1, h2⟩
      · exact .inl h2
      · exact .inr ⟨y, h1, h2⟩

section
variable {P : Program} {ρ : Nat → Value} {B : Nat} {meth : Meth} {call : CallT} (hρ : ∀ j, scalV (ρ j)) (hcall : CallOk P ρ B call) (hmeth : MethOk P meth) {N : Nat} (hN : N ≤ 4000)

include hN in
/-- A region of open order, as the runner runs it: its parts. -/
theorem par_canon {arr : Array Oper} {rl : List RO} (hc : cROs P N arr.toList arr.toList = some rl) {ms : List Nat} (hms : masksOf 0 [] arr.toList = some ms) (hst : okStat 0 ms rl = true) {e e' : Trie TV} {h h' : SH} {acc : List (List Nat × List Nat)}
    (hx : evP meth call rl e h [] = some (e', h', acc)) (hok : okPar 0 ms acc.reverse = true) : ∃ (E : Nat → Trie TV) (H : Nat → SH) (V : Nat → TV) (L : Nat → List Nat × List Nat),
    Canon meth call arr.size (fun i => rl[i]?) E H V L (fun j i => ∃ m, ms[j]? = some m ∧ Nat.testBit m i = true) ∧ E 0 = e ∧ H 0 = h ∧ E arr.size = e' ∧ H arr.size = h' ∧
    (∀ k, k ∈ (allLogs acc).1 ↔ ∃ i, i < arr.size ∧ k ∈ (L i).1) ∧ (∀ k, k ∈ (allLogs acc).2 ↔ ∃ i, i < arr.size ∧ k ∈ (L i).2) := by
  obtain ⟨ml, _, mspec⟩ := masksOf_spec hms rfl
  obtain ⟨rlen, rget⟩ := cROs_get hc
  simp only [Array.length_toList, Nat.zero_add] at ml rlen mspec
  obtain ⟨E, H, V, L, a1, a2, a3, a4, a5, a6⟩ := evP_canon hx
  rw [List.append_nil] at a5
  rw [rlen] at a3 a4 a5
  have hlog : ∀ i, i < arr.size → acc.reverse[i]? = some (L i) := fun i hi => by
    rw [a5, List.reverse_reverse, List.getElem?_map, List.getElem?_range hi]; rfl
  have hmem : ∀ x, x ∈ acc ↔ ∃ i, i < arr.size ∧ x = L i := fun x => by
    rw [a5, List.mem_reverse, List.mem_map]
    constructor
    · rintro ⟨i, h1, rfl⟩; exact ⟨i, List.mem_range.1 h1, rfl⟩
    · rintro ⟨i, h1, rfl⟩; exact ⟨i, List.mem_range.2 h1, rfl⟩
  have hmask : ∀ j, j < arr.size → ∃ m, ms[j]? = some m := fun j hj => ⟨ms[j], List.getElem?_eq_getElem (by omega)⟩
  refine ⟨E, H, V, L, ?_, a1, a2, a3, a4, fun k => ?_, fun k => ?_⟩
  · refine
      { step := fun i r hr => (a6 i r hr).1
        env := fun i r hr => (a6 i r hr).2
        any := fun i hi => ⟨rl[i], List.getElem?_eq_getElem (by omega)⟩
        small := fun i r d hr hd => ?_
        conf := fun i j hij hj hcf => ?_
        stat := fun i j ri rj hij hj hi' hj' => ?_ }
    · have hi : i < arr.size := by
        rcases Nat.lt_or_ge i arr.size with q | q
        · exact q
        · rw [List.getElem?_eq_none (by omega)] at hr; cases hr
      obtain ⟨r', h1, h2⟩ := rget i arr[i] (by simp [hi])
      rw [hr] at h1; cases h1
      obtain ⟨k1, _, k3, _⟩ := cRO_some h2
      exact Nat.lt_of_lt_of_le (k3 d (by rw [← k1]; exact hd)) hN
    · obtain ⟨m, hm⟩ := hmask j hj
      refine ⟨m, hm, ?_⟩
      have := okPar_spec hok i j m (L i) (L j) hij hm (hlog i (by omega)) (hlog j hj) (conf_of hcf)
      rwa [Nat.zero_add] at this
    · obtain ⟨m, hm⟩ := hmask j hj
      obtain ⟨s1, s2⟩ := okStat_spec hst i j m ri rj hij hm hi' hj'
      rw [Nat.zero_add] at s2
      exact ⟨s1, s2.imp (fun q => ⟨m, hm, q⟩) id⟩
  · rw [allLogs_1]
    constructor
    · rintro ⟨x, h1, h2⟩
      obtain ⟨i, h3, rfl⟩ := (hmem x).1 h1
      exact ⟨i, h3, h2⟩
    · rintro ⟨i, h1, h2⟩
      exact ⟨L i, (hmem _).2 ⟨i, h1, rfl⟩, h2⟩
  · rw [allLogs_2]
    constructor
    · rintro ⟨x, h1, h2⟩
      obtain ⟨i, h3, rfl⟩ := (hmem x).1 h1
      exact ⟨i, h3, h2⟩
    · rintro ⟨i, h1, h2⟩
      exact ⟨L i, (hmem _).2 ⟨i, h1, rfl⟩, h2⟩

include hcall in
theorem canon_whole {n : Nat} {R : Nat → Option RO} {E : Nat → Trie TV} {H : Nat → SH} {V : Nat → TV} {L : Nat → List Nat × List Nat} {M : Nat → Nat → Prop} (C : Canon meth call n R E H V L M) {lg wr : List Nat}
    (h1 : ∀ k, k ∈ lg ↔ ∃ i, i < n ∧ k ∈ (L i).1) (h2 : ∀ k, k ∈ wr ↔ ∃ i, i < n ∧ k ∈ (L i).2) : TF (H 0) ⟨(H n).tr, (H n).nx, lg ++ (H 0).lg, wr ++ (H 0).wr⟩ where
  nx := canon_nx_le hcall C (Nat.zero_le n) (Nat.le_refl _)
  lg := fun k hk => List.mem_append_right _ hk
  wr := fun k hk => List.mem_append_right _ hk
  wl := fun k hk => by
    rcases List.mem_append.1 hk with q | q
    · obtain ⟨i, q1, q2⟩ := (h2 k).1 q
      exact .inr (List.mem_append_left _ ((h1 k).2 ⟨i, q1, canon_wl hcall C q1 q2⟩))
    · exact .inl q
  nl := fun k a b => by
    refine List.mem_append_left _ ((h2 k).2 ?_)
    have go : ∀ m, m ≤ n → k < (H m).nx → ∃ i, i < n ∧ k ∈ (L i).2 := by
      intro m
      induction m with
      | zero => intro _ q; omega
      | succ m ih =>
        intro hm q
        by_cases hk : k < (H m).nx
        · exact ih (by omega) hk
        · exact ⟨m, by omega, (canon_tf hcall C (show m < n by omega)).nl k (by show (H m).nx ≤ k; omega) q⟩
    exact go n (Nat.le_refl _) b
  same := fun k hk => by
    have go : ∀ m, m ≤ n → (H m).get k = (H 0).get k := by
      intro m
      induction m with
      | zero => exact fun _ => rfl
      | succ m ih =>
        intro hm
        rw [canon_same hcall C (show m < n by omega) (fun q => hk (List.mem_append_left _ ((h2 k).2 ⟨m, by omega, q⟩))), ih (by omega)]
    exact go n (Nat.le_refl _)
  own := fun k hk ho => canon_own hcall C (Nat.zero_le n) (Nat.le_refl _) hk ho
  wf := fun hwf => wf_at hcall C hwf (Nat.le_refl n)

include hρ hcall hmeth hN in
/-- A region of open order. -/
theorem par_ok (hmix : P.follows .mixedOrders = true) {id : Nat} {arr : Array Oper} {rl : List RO} (hc : cROs P N arr.toList arr.toList = some rl) {ms : List Nat} (hms : masksOf 0 [] arr.toList = some ms) (hst : okStat 0 ms rl = true) {e e' : Trie TV} {h h' : SH} {acc : List (List Nat × List Nat)}
    (hx : evP meth call rl e h [] = some (e', h', acc)) (hok : okPar 0 ms acc.reverse = true) :
    TF h ⟨h'.tr, h'.nx, (allLogs acc).1 ++ h.lg, (allLogs acc).2 ++ h.wr⟩ ∧ ∀ {D : Nat → Prop} {σ : Emb} {w : World} {a : Act} {Q : Exit → Act → World → Prop}, HR ρ B D σ h w → GlobR P σ → Free σ h.nx h'.nx → Hand D h ⟨h'.tr, h'.nx, (allLogs acc).1 ++ h.lg, (allLogs acc).2 ++ h.wr⟩ →
      EnvR ρ σ e a.tmps → N ≤ a.tmps.size → (∀ a' w', After ρ B D σ h w a e' ⟨h'.tr, h'.nx, (allLogs acc).1 ++ h.lg, (allLogs acc).2 ++ h.wr⟩ a' w' → Q .normal a' w') → (Code.region id arr true).wp P Q a w := by
  obtain ⟨E, H, V, L, C, rfl, rfl, rfl, rfl, hl1, hl2⟩ := par_canon hN hc hms hst hx hok
  refine ⟨canon_whole hcall C hl1 hl2, fun {D σ w a Q} hr hg hf hd he hs hQ => wp_region_any hmix ?_⟩
  have hr1 : HR ρ B D σ (H 0) { w with drawn := w.drawn + 1 } := hr.of_heap rfl
  have hw1 : ({ w with drawn := w.drawn + 1 } : World).heap = w.heap := rfl
  have hhand : ∀ i, i < arr.size → ∀ k, k ∈ (L i).1 → k < (H 0).nx → D k := fun i hi k hk hlt => hd k (List.mem_append_left _ ((hl1 k).2 ⟨i, hi, hk⟩)) hlt
  -- nothing is done
  have none_done : ∀ j, ¬ done arr.size (Array.replicate arr.size false) j := by
    rintro j ⟨h1, h2⟩
    rw [Array.getD_eq_getD_getElem?, Array.getElem?_replicate, if_pos h1] at h2
    cases h2
  have cur0 : ∀ m k, curN H L (done arr.size (Array.replicate arr.size false)) m k = (H 0).get k := by
    intro m k
    induction m with
    | zero => rfl
    | succ m ih => unfold curN; rw [if_neg (fun q => none_done m q.1), ih]
  have env0 : ∀ m, envN E (fun i => rl[i]?) V (done arr.size (Array.replicate arr.size false)) m = E 0 := by
    intro m
    induction m with
    | zero => rfl
    | succ m ih => unfold envN; rw [if_neg (none_done m), ih]
  have I0 : Inv ρ B arr.size (fun i => rl[i]?) E H V L D σ { w with drawn := w.drawn + 1 } a (done arr.size (Array.replicate arr.size false)) σ a { w with drawn := w.drawn + 1 } :=
    { up := fun _ _ x => x
      no := fun _ x _ => x
      nw := fun k y x z => by rw [x] at z; cases z
      out := Out.refl _
      sz := Nat.le_refl _
      fr := fun _ _ _ => rfl
      base := hr1.base
      blk := fun k b hdk hb => by
        rw [cur0] at hb
        have hlt := hr1.wf k b hb
        exact hr1.blk k b (hdk.resolve_right fun q => by omega) hb
      inj := fun k k' b b' hdk hdk' hb hb' ho ho' hne => by
        rw [cur0] at hb hb'
        have hlt := hr1.wf k b hb
        have hlt' := hr1.wf k' b' hb'
        exact hr1.inj k k' (hdk.resolve_right fun q => by omega) (hdk'.resolve_right fun q => by omega) ⟨b, hb, ho⟩ ⟨b', hb', ho'⟩ hne
      free := fun i hi _ k x y => hf k (Nat.le_trans (canon_nx_le hcall C (Nat.zero_le i) (by omega)) x) (Nat.lt_of_lt_of_le y (canon_nx_le hcall C (show i + 1 ≤ arr.size by omega) (Nat.le_refl _)))
      env := by rw [env0]; exact he
      size := rfl
      defers := rfl }
  have hleft : left (Array.replicate arr.size false).toList ≤ arr.size := by
    rw [Array.toList_replicate]
    have : ∀ m, left (List.replicate m false) = m := by
      intro m
      induction m with
      | zero => rfl
      | succ m ih => rw [List.replicate_succ, left, ih]; simp; omega
    rw [this]; exact Nat.le_refl _
  refine any_ok hρ hcall hmeth hc hms C hr1.wf hf hhand hg hs ?_ arr.size _ σ a _ (by simp) hleft (fun j hj => absurd hj (none_done j)) I0
  intro σ' a' w' _ I
  -- all is done
  have curA : ∀ m, m ≤ arr.size → ∀ k, curN H L (fun j => j < arr.size) m k = (H m).get k := by
    intro m
    induction m with
    | zero => exact fun _ _ => rfl
    | succ m ih =>
      intro hm k
      unfold curN
      by_cases hw : k ∈ (L m).2
      · rw [if_pos ⟨by omega, hw⟩]
      · rw [if_neg (fun q => hw q.2), ih (by omega), canon_same hcall C (show m < arr.size by omega) hw]
  have envA : ∀ m, m ≤ arr.size → envN E (fun i => rl[i]?) V (fun j => j < arr.size) m = E m := by
    intro m
    induction m with
    | zero => exact fun _ => rfl
    | succ m ih =>
      intro hm
      obtain ⟨r, hrm⟩ := C.any m (by omega)
      unfold envN
      rw [if_pos (show m < arr.size by omega)]
      simp only [hrm]
      rw [ih (by omega), C.env m r hrm]
  refine hQ a' w' ⟨σ', ?_, by have := I.env; rw [envA _ (Nat.le_refl _)] at this; exact this, I.size, I.defers⟩
  refine
    { up := I.up, no := I.no
      nw := fun k y x z => by rw [← hw1]; exact I.nw k y x z
      out := I.out
      sz := I.sz
      fr := fun b hb hn => I.fr b hb hn
      hr := ⟨I.base, wf_at hcall C hr1.wf (Nat.le_refl _), fun k b hdk hb => I.blk k b hdk (by rw [curA _ (Nat.le_refl _)]; exact hb), fun k k' hdk hdk' ho ho' hne => ?_⟩ }
  obtain ⟨b, b1, b2⟩ := ho
  obtain ⟨b', b3, b4⟩ := ho'
  exact I.inj k k' b b' hdk hdk' (by rw [curA _ (Nat.le_refl _)]; exact b1) (by rw [curA _ (Nat.le_refl _)]; exact b3) b2 b4 hne
end
end Go.Proofs.YtdjafnjmkkagjaaGreatDoor.Sx
namespace Go.Proofs.YtdjafnjmkkagjaaGreatDoor.Sx

def exOf : EX → Exit
  | .nrm => .normal
  | .exit id => .exit id
  | .ret => .ret

theorem After.trans {ρ : Nat → Value} {B : Nat} {D : Nat → Prop} {σ σ1 : Emb} {h h1 h2 : SH} {w w1 w2 : World} {a a1 a2 : Act} {e2 : Trie TV} (f : TF h h1) (t : Tr ρ B D σ h w σ1 h1 w1) (g : TF h1 h2) (hf : Free σ h.nx h2.nx) (s : a1.tmps.size = a.tmps.size) (d : a1.defers = a.defers)
    (x : After ρ B (fun k => D k ∨ (h.nx ≤ k ∧ k < h1.nx)) σ1 h1 w1 a1 e2 h2 a2 w2) : After ρ B D σ h w a e2 h2 a2 w2 := by
  obtain ⟨σ2, x1, x2, x3, x4⟩ := x
  exact ⟨σ2, t.trans f g x1 hf, x2, x3.trans s, x4.trans d⟩

section
variable {P : Program} {ρ : Nat → Value} {B : Nat} {meth : Meth} {call : CallT} (hρ : ∀ j, scalV (ρ j)) (hcall : CallOk P ρ B call) (hmeth : MethOk P meth) (hmix : P.follows .mixedOrders = true) {N : Nat} (hN : N ≤ 4000)

/-- What is asked of code. -/
def CodeOk (P : Program) (ρ : Nat → Value) (B : Nat) (N : Nat) (h : SH) (e' : Trie TV) (h' : SH) (e : Trie TV) (ex : EX) (p : (Exit → Act → World → Prop) → Act → World → Prop) : Prop :=
  ∀ (D : Nat → Prop) (σ : Emb) (w : World) (a : Act) (Q : Exit → Act → World → Prop), HR ρ B D σ h w → GlobR P σ → Free σ h.nx h'.nx → Hand D h h' → EnvR ρ σ e a.tmps → N ≤ a.tmps.size →
    (∀ a' w', After ρ B D σ h w a e' h' a' w' → Q (exOf ex) a' w') → p Q a w

include hρ hcall hmeth hmix hN in
theorem evC_ok : ∀ (fuel : Nat), (∀ (c : Code) (x : IC) (e e' : Trie TV) (h h' : SH) (ex : EX), cCode P N c = some x → evC meth call fuel x e h = some (ex, e', h') → TF h h' ∧ CodeOk P ρ B N h e' h' e ex (fun Q => c.wp P Q)) ∧
    (∀ (c : Code) (x : IC) (e e' : Trie TV) (h h' : SH) (ex : EX), cCode P N c = some x → evC meth call fuel (.loop x) e h = some (ex, e', h') → TF h h' ∧ CodeOk P ρ B N h e' h' e ex (fun Q => Code.rounds P c Q fuel)) := by
  intro fuel
  induction fuel with
  | zero => exact ⟨fun c x e e' h h' ex _ hx => (by cases hx), fun c x e e' h h' ex _ hx => (by cases hx)⟩
  | succ n ih =>
    obtain ⟨ih1, ih2⟩ := ih
    -- one behind the other
    have two : ∀ {e e1 e2 : Trie TV} {h h1 h2 : SH} {ex : EX} {p q : (Exit → Act → World → Prop) → Act → World → Prop} {r : (Exit → Act → World → Prop) → Act → World → Prop}, TF h h1 → CodeOk P ρ B N h e1 h1 e .nrm p → TF h1 h2 → CodeOk P ρ B N h1 e2 h2 e1 ex q →
        (∀ Q a w, p (Exit.then (q Q) Q) a w → r Q a w) → CodeOk P ρ B N h e2 h2 e ex r := by
      intro e e1 e2 h h1 h2 ex p q r t1 c1 t2 c2 hr D σ w a Q r1 r2 r3 r4 r5 r6 r7
      refine hr Q a w (c1 D σ w a _ r1 r2 (fun k x y => r3 k x (Nat.lt_of_lt_of_le y t2.nx)) (fun k x y => r4 k (t2.lg k x) y) r5 r6 ?_)
      rintro a1 w1 ⟨σ1, s1, s2, s3, s4⟩
      show q Q a1 w1
      refine c2 _ σ1 w1 a1 Q s1.hr (r2.mono s1.up) (fun k x y => s1.no k (r3 k (Nat.le_trans t1.nx x) y) (.inr x)) (fun k x y => ?_) s2 (by rw [s3]; exact r6) ?_
      · by_cases hk : k < h.nx
        · exact .inl (r4 k x hk)
        · exact .inr ⟨by omega, y⟩
      · intro a2 w2 x
        exact r7 a2 w2 (After.trans t1 s1 t2 r3 s3 s4 x)
    refine ⟨fun c x e e' h h' ex hc hx => ?_, fun c x e e' h h' ex hc hx => ?_⟩
    · cases c with
      | skip =>
        cases hc
        cases hx
        exact ⟨TF.refl _, fun D σ w a Q r1 r2 r3 r4 r5 r6 r7 => wp_skip (r7 a w ⟨σ, tr_same r1 rfl rfl, r5, rfl, rfl⟩)⟩
      | label l =>
        cases hc
        cases hx
        exact ⟨TF.refl _, fun D σ w a Q r1 r2 r3 r4 r5 r6 r7 => wp_label (r7 a w ⟨σ, tr_same r1 rfl rfl, r5, rfl, rfl⟩)⟩
      | exit id =>
        cases hc
        cases hx
        exact ⟨TF.refl _, fun D σ w a Q r1 r2 r3 r4 r5 r6 r7 => wp_exit (r7 a w ⟨σ, tr_same r1 rfl rfl, r5, rfl, rfl⟩)⟩
      | ret =>
        cases hc
        cases hx
        exact ⟨TF.refl _, fun D σ w a Q r1 r2 r3 r4 r5 r6 r7 => wp_ret (r7 a w ⟨σ, tr_same r1 rfl rfl, r5, rfl, rfl⟩)⟩
      | goto l => cases hc; cases hx
      | refuse s => cases hc; cases hx
      | rangeFunc f ps a b => cases hc; cases hx
      | region id arr draw =>
        simp only [cCode] at hc
        split at hc
        · cases hc
        · rename_i l hl
          cases draw with
          | true =>
            simp only [if_true] at hc
            split at hc
            · rename_i ms hms
              split at hc
              · rename_i hst
                cases hc
                simp only [evC] at hx
                split at hx
                · rename_i e1 h1 acc q1
                  split at hx
                  · rename_i q2
                    cases hx
                    obtain ⟨p1, p2⟩ := par_ok (id := id) hρ hcall hmeth hN hmix hl hms hst q1 q2
                    exact ⟨p1, fun D σ w a Q r1 r2 r3 r4 r5 r6 r7 => p2 r1 r2 r3 r4 r5 r6 r7⟩
                  · cases hx
                · cases hx
              · cases hc
            · cases hc
          | false =>
            simp only [Bool.false_eq_true, if_false] at hc
            cases hc
            simp only [evC] at hx
            split at hx
            · rename_i e1 h1 q1
              cases hx
              exact ⟨tf_evR hcall q1, fun D σ w a Q r1 r2 r3 r4 r5 r6 r7 => wp_region_list (evR_ok hρ hcall hmeth hN hl q1 r1 r2 r3 r4 r5 r6 r7)⟩
            · cases hx
      | seq c1 c2 =>
        simp only [cCode] at hc
        split at hc
        · rename_i x1 x2 hc1 hc2
          cases hc
          simp only [evC] at hx
          split at hx
          · rename_i e1 h1 q1
            obtain ⟨t1, k1⟩ := ih1 c1 x1 e e1 h h1 _ hc1 q1
            obtain ⟨t2, k2⟩ := ih1 c2 x2 e1 e' h1 h' ex hc2 hx
            exact ⟨t1.trans t2, two t1 k1 t2 k2 fun Q a w q => wp_seq q⟩
          · rename_i hne
            obtain ⟨t1, k1⟩ := ih1 c1 x1 e e' h h' ex hc1 hx
            refine ⟨t1, fun D σ w a Q r1 r2 r3 r4 r5 r6 r7 => wp_seq (k1 D σ w a _ r1 r2 r3 r4 r5 r6 fun a' w' x => ?_)⟩
            have := r7 a' w' x
            cases ex with
            | nrm => exact absurd hx (hne _ _)
            | exit id => exact this
            | ret => exact this
        · cases hc
      | cond o c1 c2 =>
        simp only [cCode] at hc
        split at hc
        · rename_i o' x1 x2 ho hc1 hc2
          cases hc
          simp only [evC] at hx
          split at hx
          · rename_i q1
            obtain ⟨t1, k1⟩ := ih1 c1 x1 e e' h h' ex hc1 hx
            refine ⟨t1, fun D σ w a Q r1 r2 r3 r4 r5 r6 r7 => ?_⟩
            have g := opd_ok r5 r2 ho
            rw [q1] at g
            exact wp_cond_true g (k1 D σ w a Q r1 r2 r3 r4 r5 r6 r7)
          · rename_i q1
            obtain ⟨t1, k1⟩ := ih1 c2 x2 e e' h h' ex hc2 hx
            refine ⟨t1, fun D σ w a Q r1 r2 r3 r4 r5 r6 r7 => ?_⟩
            have g := opd_ok r5 r2 ho
            rw [q1] at g
            exact wp_cond_false g (k1 D σ w a Q r1 r2 r3 r4 r5 r6 r7)
          · cases hx
        · cases hc
      | block id c1 =>
        simp only [cCode, Option.map_eq_some_iff] at hc
        obtain ⟨x1, hc1, rfl⟩ := hc
        simp only [evC] at hx
        split at hx
        · rename_i j e1 h1 q1
          cases hx
          obtain ⟨t1, k1⟩ := ih1 c1 x1 e e' h h' _ hc1 q1
          refine ⟨t1, fun D σ w a Q r1 r2 r3 r4 r5 r6 r7 => wp_block (k1 D σ w a _ r1 r2 r3 r4 r5 r6 fun a' w' x => ?_)⟩
          have := r7 a' w' x
          cases hj : Nat.beq j id with
          | true =>
            rw [hj] at this
            obtain rfl := Nat.eq_of_beq_eq_true hj
            show (if j = j then Q .normal a' w' else Q (.exit j) a' w')
            rw [if_pos rfl]; exact this
          | false =>
            rw [hj] at this
            show (if j = id then Q .normal a' w' else Q (.exit j) a' w')
            rw [if_neg (fun q => by subst q; simp at hj)]; exact this
        · rename_i hne
          obtain ⟨t1, k1⟩ := ih1 c1 x1 e e' h h' ex hc1 hx
          refine ⟨t1, fun D σ w a Q r1 r2 r3 r4 r5 r6 r7 => wp_block (k1 D σ w a _ r1 r2 r3 r4 r5 r6 fun a' w' x => ?_)⟩
          have := r7 a' w' x
          cases ex with
          | nrm => exact this
          | exit j => exact absurd hx (hne _ _ _)
          | ret => exact this
      | loop c1 =>
        simp only [cCode, Option.map_eq_some_iff] at hc
        obtain ⟨x1, hc1, rfl⟩ := hc
        -- the round is shown below
        have key : TF h h' ∧ CodeOk P ρ B N h e' h' e ex (fun Q => Code.rounds P c1 Q (n + 1)) := by
          simp only [evC] at hx
          split at hx
          · rename_i e1 h1 q1
            obtain ⟨t1, k1⟩ := ih1 c1 x1 e e1 h h1 _ hc1 q1
            obtain ⟨t2, k2⟩ := ih2 c1 x1 e1 e' h1 h' ex hc1 hx
            exact ⟨t1.trans t2, two t1 k1 t2 k2 fun Q a w q => q⟩
          · rename_i hne
            obtain ⟨t1, k1⟩ := ih1 c1 x1 e e' h h' ex hc1 hx
            refine ⟨t1, fun D σ w a Q r1 r2 r3 r4 r5 r6 r7 => ?_⟩
            show c1.wp P (Exit.then (Code.rounds P c1 Q n) Q) a w
            refine k1 D σ w a _ r1 r2 r3 r4 r5 r6 fun a' w' x => ?_
            have := r7 a' w' x
            cases ex with
            | nrm => exact absurd hx (hne _ _)
            | exit id => exact this
            | ret => exact this
        exact ⟨key.1, fun D σ w a Q r1 r2 r3 r4 r5 r6 r7 => wp_loop_rounds (n + 1) (key.2 D σ w a Q r1 r2 r3 r4 r5 r6 r7)⟩
      | scope c1 =>
        simp only [cCode, Option.map_eq_some_iff] at hc
        obtain ⟨x1, hc1, rfl⟩ := hc
        simp only [evC] at hx
        obtain ⟨t1, k1⟩ := ih1 c1 x1 e e' h h' ex hc1 hx
        refine ⟨t1, fun D σ w a Q r1 r2 r3 r4 r5 r6 r7 => wp_scope_straight (k1 D σ w a _ r1 r2 r3 r4 r5 r6 fun a' w' x => ?_)⟩
        have := r7 a' w' x
        cases ex <;> exact this
    · simp only [evC] at hx
      split at hx
      · rename_i e1 h1 q1
        obtain ⟨t1, k1⟩ := ih1 c x e e1 h h1 _ hc q1
        obtain ⟨t2, k2⟩ := ih2 c x e1 e' h1 h' ex hc hx
        exact ⟨t1.trans t2, two t1 k1 t2 k2 fun Q a w q => q⟩
      · rename_i hne
        obtain ⟨t1, k1⟩ := ih1 c x e e' h h' ex hc hx
        refine ⟨t1, fun D σ w a Q r1 r2 r3 r4 r5 r6 r7 => ?_⟩
        show c.wp P (Exit.then (Code.rounds P c Q n) Q) a w
        refine k1 D σ w a _ r1 r2 r3 r4 r5 r6 fun a' w' x => ?_
        have := r7 a' w' x
        cases ex with
        | nrm => exact absurd hx (hne _ _)
        | exit id => exact this
        | ret => exact this
end
end Go.Proofs.YtdjafnjmkkagjaaGreatDoor.Sx
namespace Go.Proofs.YtdjafnjmkkagjaaGreatDoor.Sx

theorem initE_get : ∀ (l : List TV) (i : Nat) (e : Trie TV) (t : Nat), i + l.length ≤ 4000 → getE (initE i l e) t = if i ≤ t ∧ t < i + l.length then (l[t - i]?).getD (.tu []) else getE e t
  | [], i, e, t, _ => by rw [initE, if_neg (by simp)]
  | v :: r, i, e, t, h => by
    simp only [List.length_cons] at h
    rw [initE, initE_get r (i + 1) _ t (by omega)]
    by_cases h1 : i + 1 ≤ t ∧ t < i + 1 + r.length
    · rw [if_pos h1, if_pos (by simp only [List.length_cons]; omega), show t - i = (t - (i + 1)) + 1 from by omega]
      simp
    · rw [if_neg h1, getE_put (by omega)]
      by_cases h2 : t = i
      · subst h2
        rw [if_pos rfl, if_pos (by simp only [List.length_cons]; omega)]
        simp
      · rw [if_neg h2, if_neg (by simp only [List.length_cons]; omega)]

section
variable {P : Program} {ρ : Nat → Value} {B : Nat}
/-- The model's reading of a result. -/
def resOf (tmps : Array Value) : ResultVar → Sem Value
  | .tmp t => pure (tmps.getD t undef)
  | .cell a t => do loadVar t (← asAddr (tmps.getD a undef))
theorem results_eq (fn : Func) (tmps : Array Value) : results fn tmps = (do
    let vs ← fn.results.mapM (resOf tmps)
    pure (if h : vs.size = 1 then vs[0] else .tuple vs)) := by
  unfold results
  congr 1
theorem loadAt_hand {g : Bool} {n k off : Nat} {h h' : SH} {v : TV} (hx : loadAt g n k off h = some (v, h')) : k ∈ h'.lg ∧ ∃ b, h.get k = some b := by
  unfold loadAt at hx
  split at hx
  · rename_i e2
    obtain ⟨_, hx⟩ := cond_none hx
    split at hx
    · cases hx; exact ⟨List.mem_cons_self .., _, e2⟩
    · cases hx
  · cases hx
theorem loadAt_tr {g : Bool} {n k off : Nat} {h h' : SH} {v : TV} (hx : loadAt g n k off h = some (v, h')) : h'.tr = h.tr ∧ h'.nx = h.nx := by
  unfold loadAt at hx
  split at hx
  · obtain ⟨_, hx⟩ := cond_none hx
    split at hx
    · cases hx; exact ⟨rfl, rfl⟩
    · cases hx
  · cases hx
theorem resE_tf : ∀ {l : List (Nat × Option (Bool × Nat))} {e : Trie TV} {h h' : SH} {vs : List TV}, resE l e h = some (vs, h') → TF h h' ∧ h'.tr = h.tr ∧ h'.nx = h.nx
  | [], e, h, h', vs, hx => by cases hx; exact ⟨TF.refl _, rfl, rfl⟩
  | (s, none) :: r, e, h, h', vs, hx => by
    unfold resE at hx
    split at hx
    · rename_i l h1 e1
      cases hx
      exact resE_tf e1
    · cases hx
  | (s, some (g, n)) :: r, e, h, h', vs, hx => by
    unfold resE at hx
    split at hx
    · split at hx
      · rename_i v h1 e1
        split at hx
        · rename_i l h2 e2
          cases hx
          obtain ⟨q1, q2, q3⟩ := resE_tf e2
          obtain ⟨q4, q5⟩ := loadAt_tr e1
          exact ⟨(tf_load e1).trans q1, q2.trans q4, q3.trans q5⟩
        · cases hx
      · cases hx
    · cases hx
theorem resE_ok {σ : Emb} {D : Nat → Prop} {w : World} {tmps : Array Value} : ∀ {rs : List ResultVar} {l : List (Nat × Option (Bool × Nat))} {e : Trie TV} {h h' : SH} {vs : List TV}, cRes P rs = some l → resE l e h = some (vs, h') → HR ρ B D σ h w → Hand D h h' → EnvR ρ σ e tmps →
    ∃ us : List Value, (rs.mapM (resOf tmps)).run P w = .ok us w ∧ VRs ρ σ vs us
  | [], l, e, h, h', vs, hc, hx, hr, hd, he => by
    cases hc; cases hx
    exact ⟨[], by simp [List.mapM_nil], rfl⟩
  | .tmp t :: q, l, e, h, h', vs, hc, hx, hr, hd, he => by
    simp only [cRes, Option.map_eq_some_iff] at hc
    obtain ⟨l', h1, rfl⟩ := hc
    unfold resE at hx
    split at hx
    · rename_i ls h2 e2
      cases hx
      obtain ⟨us, u1, u2⟩ := resE_ok h1 e2 hr hd he
      refine ⟨tmps.getD t undef :: us, ?_, _, us, rfl, he t, u2⟩
      rw [List.mapM_cons, run_bind, show (resOf tmps (.tmp t)).run P w = .ok (tmps.getD t undef) w from rfl]
      simp only []
      rw [run_bind, u1]
      rfl
    · cases hx
  | .cell a t :: q, l, e, h, h', vs, hc, hx, hr, hd, he => by
    simp only [cRes] at hc
    split at hc
    · rename_i g n l' h1 h2
      cases hc
      unfold resE at hx
      split at hx
      · rename_i k off e1
        split at hx
        · rename_i v h3 e2
          split at hx
          · rename_i ls h4 e3
            cases hx
            obtain ⟨q1, q2, q3⟩ := resE_tf e3
            obtain ⟨q4, q5⟩ := loadAt_tr e2
            obtain ⟨z1, b, z2⟩ := loadAt_hand e2
            have hdk : D k := hd k (q1.lg k z1) (hr.wf k b z2)
            have hv := he a
            rw [e1] at hv
            obtain ⟨z, f1, f2, _, _⟩ := loadAt_ok hr h1 e2 hdk hv
            obtain ⟨us, u1, u2⟩ := resE_ok h2 e3 (hr.of_tr q4 q5) (fun k x y => hd k x (by rw [← q5]; exact y)) he
            refine ⟨z :: us, ?_, _, us, rfl, f2, u2⟩
            have hrun : (resOf tmps (.cell a t)).run P w = .ok z w := by
              obtain ⟨y, y1, y2⟩ := hv
              show (do loadVar t (← asAddr (tmps.getD a undef)) : Sem Value).run P w = _
              rw [y2, run_bind]
              unfold Instr.loadAt Instr.sureAddr at f1
              rw [y2, run_bind] at f1
              exact f1
            rw [List.mapM_cons, run_bind, hrun]
            simp only []
            rw [run_bind, u1]
            rfl
          · cases hx
        · cases hx
      · cases hx
    · cases hc
def joinV : List Value → Value
  | [v] => v
  | l => .tuple l.toArray
theorem results_ok {fn : Func} {tmps : Array Value} {w : World} {us : List Value} (h : (fn.results.toList.mapM (resOf tmps)).run P w = .ok us w) : (results fn tmps).run P w = .ok (joinV us) w := by
  rw [results_eq, run_bind, Array.mapM_eq_mapM_toList]
  have : ((List.toArray <$> fn.results.toList.mapM (resOf tmps) : Sem (Array Value))).run P w = .ok us.toArray w := by
    rw [← bind_pure_comp, run_bind, h]
    rfl
  rw [this]
  show Result.ok _ w = _
  congr 1
  match us with
  | [] => simp [joinV]
  | [v] => simp [joinV]
  | v :: u :: r => simp [joinV]
theorem tup_ok {σ : Emb} : ∀ {vs : List TV} {us : List Value}, VRs ρ σ vs us → VR ρ σ (tupOf vs) (joinV us)
  | [], us, h => by cases h; exact ⟨#[], rfl, rfl⟩
  | [v], us, ⟨u, q, h1, h2, h3⟩ => by cases h3; subst h1; exact h2
  | v :: v2 :: r, us, ⟨u, q, h1, h2, u2, q2, h3, h4, h5⟩ => by
    subst h3; subst h1
    exact ⟨_, rfl, u, _, rfl, h2, u2, _, rfl, h4, h5⟩

/-- The functions that the runner is told. -/
def TabOk (P : Program) (tab : Trie XF) : Prop := ∀ f x, tab.get f = some x → ∃ fn, P.funcs[f]? = some fn ∧ cFunc P fn = some x
/-- A function that is told otherwise. -/
def OneOk (P : Program) (ρ : Nat → Value) (B : Nat) (f : Nat) (g : List TV → SH → Option (TV × SH)) : Prop :=
  ∀ (args : List TV) (h : SH) (v : TV) (h' : SH), g args h = some (v, h') → TF h h' ∧ (∀ (vs : Array Value) (w : World), (callFunc f vs).run P w = .ok (.enter f vs) w) ∧
    ∀ (D : Nat → Prop) (σ : Emb) (w : World) (vs : Array Value), HR ρ B D σ h w → GlobR P σ → Free σ h.nx h'.nx → Hand D h h' → VRs ρ σ args vs.toList →
      Calls P f vs w fun e w' => ∃ σ' x, e = .returned x ∧ VR ρ σ' v x ∧ Tr ρ B D σ h w σ' h' w'

variable (hρ : ∀ j, scalV (ρ j)) {meth : Meth} (hmeth : MethOk P meth) (hmix : P.follows .mixedOrders = true)
include hρ hmeth hmix
theorem evF_ok {call : CallT} (hcall : CallOk P ρ B call) {fn : Func} {x : XF} (hc : cFunc P fn = some x) {f : Nat} (hfn : P.funcs[f]? = some fn) (fuel : Nat) : OneOk P ρ B f (evF meth call fuel x) := by
  intro args h v h' hx
  unfold cFunc at hc
  split at hc
  · cases hc
  rename_i c hb
  split at hc
  · cases hc
  rename_i hname
  split at hc
  · rename_i hnt
    split at hc
    · rename_i b rs c1 c2
      split at hc
      · rename_i hnp
        cases hc
        unfold evF at hx
        obtain ⟨clen, hx⟩ := cond_none hx
        have clen : args.length = fn.params.size + fn.nfree := Nat.eq_of_beq_eq_true clen
        simp only [] at hx
        have main : ∀ ex e1 h1, evC meth call fuel b (initE 0 args .lf) h = some (ex, e1, h1) → (∀ id, ex ≠ .exit id) → ∀ l, resE rs e1 h1 = some (l, h') → v = tupOf l → TF h h' ∧ (∀ (vs : Array Value) (w : World), (callFunc f vs).run P w = .ok (.enter f vs) w) ∧
            ∀ (D : Nat → Prop) (σ : Emb) (w : World) (vs : Array Value), HR ρ B D σ h w → GlobR P σ → Free σ h.nx h'.nx → Hand D h h' → VRs ρ σ args vs.toList →
              Calls P f vs w fun e w' => ∃ σ' x, e = .returned x ∧ VR ρ σ' v x ∧ Tr ρ B D σ h w σ' h' w' := by
          intro ex e1 h1 q1 q2 l q3 q4
          subst q4
          obtain ⟨t1, k1⟩ := (evC_ok hρ hcall hmeth hmix (N := fn.ntmps) (by omega) fuel).1 c b _ e1 h h1 ex c1 q1
          obtain ⟨t2, r1, r2⟩ := resE_tf q3
          refine ⟨t1.trans t2, fun vs w => ?_, fun D σ w vs hr hg hf hd hv => ?_⟩
          · unfold callFunc
            rw [run_bind, run_program]
            simp only [hfn]
            rw [if_neg hname, hb]
            rfl
          · have hvl := VRs_len hv
            simp only [Array.length_toList] at hvl
            refine calls_of_wp hfn hb ?_
            have henv : EnvR ρ σ (initE 0 args .lf) (vs ++ Array.replicate (fn.ntmps - vs.size) undef) := by
              intro t
              rw [initE_get args 0 _ t (by omega), Array.getD_eq_getD_getElem?]
              by_cases ht : t < args.length
              · rw [if_pos (by omega), Nat.sub_zero, List.getElem?_eq_getElem ht]
                obtain ⟨u, u1, u2⟩ := VRs_get hv (List.getElem?_eq_getElem ht)
                rw [Array.getElem?_append_left (by omega)]
                rw [Array.getElem?_toList] at u1
                rw [u1]
                exact u2
              · rw [if_neg (by omega)]
                have : ((vs ++ Array.replicate (fn.ntmps - vs.size) undef)[t]?).getD undef = undef := by
                  rw [Array.getElem?_append_right (by omega), Array.getElem?_replicate]
                  split <;> rfl
                rw [this]
                exact ⟨#[], rfl, rfl⟩
            refine k1 D σ w _ _ hr hg (fun k x y => hf k x (by rw [r2]; exact y)) (fun k x y => hd k (t2.lg k x) y) henv (by simp; omega) ?_
            rintro a' w' ⟨σ', s1, s2, s3, s4⟩
            have hd1 : Hand (fun k => D k ∨ (h.nx ≤ k ∧ k < h1.nx)) h1 h' := fun k x y => by
              by_cases hk : k < h.nx
              · exact .inl (hd k x hk)
              · exact .inr ⟨by omega, y⟩
            obtain ⟨us, u1, u2⟩ := resE_ok c2 q3 s1.hr hd1 s2
            have hres := results_ok (P := P) (w := w') u1
            have s5 : Tr ρ B D σ h w σ' h' w' := s1.trans t1 t2 (tr_same s1.hr r1 r2) hf
            cases ex with
            | nrm => exact ⟨s4, _, hres, σ', _, rfl, tup_ok u2, s5⟩
            | ret => exact ⟨s4, _, hres, σ', _, rfl, tup_ok u2, s5⟩
            | exit id => exact absurd rfl (q2 id)
        split at hx
        · cases hx
        · rename_i ex e1 h1 hne q1
          split at hx
          · rename_i l h2 q2
            cases hx
            exact main _ _ _ q1 (fun id q => hne id q) l q2 rfl
          · cases hx
        · cases hx
      · cases hc
    · cases hc
  · cases hc
theorem run_ok {tab : Trie XF} (htab : TabOk P tab) {orc : Nat → Option (List TV → SH → Option (TV × SH))} (horc : ∀ f g, orc f = some g → OneOk P ρ B f g) (fuel : Nat) : ∀ n, CallOk P ρ B (run meth tab orc fuel n)
  | 0 => fun f args h v h' hx => by cases hx
  | n + 1 => fun f args h v h' hx => by
    unfold run at hx
    split at hx
    · rename_i g hg
      exact horc f g hg args h v h' hx
    · split at hx
      · rename_i x hxf
        obtain ⟨fn, h1, h2⟩ := htab f x hxf
        exact evF_ok hρ hmeth hmix (run_ok htab horc fuel n) h2 h1 fuel args h v h' hx
      · cases hx
end
end Go.Proofs.YtdjafnjmkkagjaaGreatDoor.Sx
namespace Go.Proofs.YtdjafnjmkkagjaaGreatDoor.Sx
open Go.RowKit

def okv : Option (TV × SH) → Bool
  | some (.b true, _) => true
  | _ => false
theorem okv_some {r : Option (TV × SH)} (h : okv r = true) : ∃ h', r = some (.b true, h') := by
  unfold okv at h
  split at h
  · exact ⟨_, rfl⟩
  · cases h

/-- Memory at the start: the numbers of the package-level variables are taken; one of them holds bytes. -/
def startH (n g : Nat) (bytes : List Nat) (ty : Nat) : SH := ⟨Trie.lf.set 24 g (.cells (bytes.map fun b => .i .u8 (Int.ofNat b)) ty true), n, [], []⟩
def startE (n g room : Nat) : Emb := fun k => if k < n then some (k, 0, if k = g then room else 0) else none

def ofList : List (Nat × XF) → Trie XF
  | [] => .lf
  | p :: r => (ofList r).set 24 p.1 p.2
theorem ofList_get : ∀ {l : List (Nat × XF)}, (∀ p, p ∈ l → p.1 < 1000000) → ∀ {f : Nat} {x : XF}, (ofList l).get f = some x → (f, x) ∈ l
  | [], _, f, x, h => by cases h
  | p :: r, hs, f, x, h => by
    have hp := hs p (List.mem_cons_self ..)
    unfold ofList at h
    rw [Trie.get_set 24 _ _ _ _ (by omega)] at h
    by_cases e : f = p.1
    · rw [if_pos e] at h
      cases h
      subst e
      exact List.mem_cons_self ..
    · rw [if_neg e] at h
      exact List.mem_cons_of_mem _ (ofList_get (fun q hq => hs q (List.mem_cons_of_mem _ hq)) h)
def smallAll : List (Nat × XF) → Bool
  | [] => true
  | p :: r => cond (Nat.blt p.1 1000000) (smallAll r) false
theorem small_of : ∀ {l : List (Nat × XF)}, smallAll l = true → ∀ p, p ∈ l → p.1 < 1000000
  | [], _, p, hp => by cases hp
  | q :: r, h, p, hp => by
    unfold smallAll at h
    cases hb : Nat.blt q.1 1000000 with
    | false => rw [hb] at h; cases h
    | true =>
      rw [hb] at h
      rcases List.mem_cons.1 hp with rfl | hp
      · exact blt_lt hb
      · exact small_of h p hp
/-- The table, from its rows. -/
theorem tab_of {P : Program} {tab : Trie XF} {l : List (Nat × XF)} (h : tab = ofList l) (hs : smallAll l = true) (hl : ∀ p, p ∈ l → ∃ fn, P.funcs[p.1]? = some fn ∧ cFunc P fn = some p.2) : TabOk P tab := by
  intro f x hx
  subst h
  exact hl (f, x) (ofList_get (small_of hs) hx)

def noOrc : Nat → Option (List TV → SH → Option (TV × SH)) := fun _ => none
def noMeth : Meth := ⟨fun _ _ => none, fun _ _ => none⟩
theorem noMeth_ok (P : Program) : MethOk P noMeth := ⟨fun _ _ _ h => (by cases h), fun _ _ _ h => (by cases h)⟩

/-- The start's memory is the world's. -/
theorem start_ok {P : Program} {w : World} {g : Nat} {bytes : List Nat} (hg : g < P.globals.size) (hG : P.globals.size < 1000000) (hb : ∀ (j b : Nat), bytes[j]? = some b → w.cell? ⟨g, j, none⟩ = some (.int .u8 (b : Int))) (hne : 0 < bytes.length) (ρ : Nat → Value) :
    ∃ room ty, HR ρ w.heap.size (fun _ => True) (startE P.globals.size g room) (startH P.globals.size g bytes ty) w ∧ GlobR P (startE P.globals.size g room) := by
  have h0 := hb 0 bytes[0] (by simp [hne])
  have hblk : ∃ c ty fz, w.heap[g]? = some (.cells c ty fz) := by
    unfold World.cell? at h0
    split at h0
    · rename_i c ty fz hh; exact ⟨c, ty, fz, hh⟩
    · cases h0
  obtain ⟨c, ty, fz, hc⟩ := hblk
  have hlt := (Array.getElem?_eq_some_iff.1 hc).1
  have hgs : g + 1 < 2 ^ 24 := by have : (2 : Nat) ^ 24 = 16777216 := by decide
                                  omega
  have hget : ∀ k, (startH P.globals.size g bytes ty).get k = if k = g then some (.cells (bytes.map fun b => .i .u8 (Int.ofNat b)) ty true) else none := fun k => by
    show (Trie.lf.set 24 g _).get k = _
    rw [Trie.get_set 24 _ _ _ _ hgs]
    rfl
  have hcell : ∀ (j b : Nat), bytes[j]? = some b → c[j]? = some (.int .u8 (b : Int)) := fun j b hj => by
    have := hb j b hj
    rwa [cell_at hc] at this
  have hsz : bytes.length ≤ c.size := by
    have := hcell (bytes.length - 1) bytes[bytes.length - 1] (by simp)
    have := (Array.getElem?_eq_some_iff.1 this).1
    omega
  refine ⟨c.size, ty, ⟨Nat.le_refl _, fun k b hk => ?_, fun k b _ hk => ?_, fun k k' _ _ ho _ _ => ?_⟩, fun k hk => ?_⟩
  · rw [hget] at hk
    by_cases e : k = g
    · subst e; exact hg
    · rw [if_neg e] at hk; cases hk
  · rw [hget] at hk
    by_cases e : k = g
    · subst e
      rw [if_pos rfl] at hk
      cases hk
      refine ⟨(k, 0, c.size), c, fz, ?_, ?_, fun x => (by cases x), fun _ => hlt, by simp, by simpa using hsz, fun j t ht => ?_⟩
      · unfold startE; rw [if_pos hg, if_pos rfl]
      · exact hc
      · rw [List.getElem?_map, Option.map_eq_some_iff] at ht
        obtain ⟨b, hb1, rfl⟩ := ht
        exact ⟨_, by rw [Nat.zero_add]; exact hcell j b hb1, rfl⟩
    · rw [if_neg e] at hk; cases hk
  · obtain ⟨b, h1, h2⟩ := ho
    rw [hget] at h1
    by_cases e : k = g
    · rw [if_pos e] at h1; cases h1; cases h2
    · rw [if_neg e] at h1; cases h1
  · unfold startE
    rw [if_pos hk]
    exact ⟨_, rfl⟩

/-- A run of no arguments that ends in true. -/
theorem closed_ok {P : Program} (hmix : P.follows .mixedOrders = true) {tab : Trie XF} (htab : TabOk P tab) {w : World} {g : Nat} {bytes : List Nat} (hg : g < P.globals.size) (hG : P.globals.size < 1000000) (hb : ∀ (j b : Nat), bytes[j]? = some b → w.cell? ⟨g, j, none⟩ = some (.int .u8 (b : Int))) (hne : 0 < bytes.length)
    {f fuel n : Nat} (h : ∀ ty, okv (run noMeth tab noOrc fuel n f [] (startH P.globals.size g bytes ty)) = true) :
    Calls P f #[] w fun e w' => e = .returned (.bool true) ∧ Below w.heap.size w w' := by
  obtain ⟨room, ty, hr, hgl⟩ := start_ok hg hG hb hne (fun _ => .bool true)
  obtain ⟨h', hrun⟩ := okv_some (h ty)
  have hc := run_ok (P := P) (ρ := fun _ => .bool true) (B := w.heap.size) (fun _ => trivial) (noMeth_ok P) hmix htab (orc := noOrc) (fun _ _ e => (by cases e)) fuel n f [] _ _ _ hrun
  obtain ⟨t, _, k⟩ := hc
  refine (k (fun _ => True) _ w #[] hr hgl (fun j h1 _ => ?_) (fun _ _ _ => trivial) rfl).mono fun e w' hw => ?_
  · have h2 : P.globals.size ≤ j := h1
    unfold startE
    rw [if_neg (Nat.not_lt.2 h2)]
  · obtain ⟨σ', x, rfl, hv, ht⟩ := hw
    refine ⟨?_, ht.out.1, ht.out.2.1, ht.out.2.2, ht.sz, fun b hb' => ht.fr b hb' fun k y _ ho hy => ?_⟩
    · cases x <;> simp_all [VR]
    · obtain ⟨b0, h1, h2⟩ := ho
      have h1 : (Trie.lf.set 24 g (TB.cells (bytes.map fun b => .i .u8 (Int.ofNat b)) ty true)).get k = some b0 := h1
      rw [Trie.get_set 24 _ _ _ _ (by omega)] at h1
      by_cases e : k = g
      · rw [if_pos e] at h1; cases h1; cases h2
      · rw [if_neg e] at h1; cases h1
end Go.Proofs.YtdjafnjmkkagjaaGreatDoor.Sx
namespace Go.Proofs.YtdjafnjmkkagjaaGreatDoor.Sx
open Go.RowKit

/-- The world grows: what is new is nobody's. -/
theorem tr_grow {ρ : Nat → Value} {B : Nat} {D : Nat → Prop} {σ : Emb} {h : SH} {w w' : World} (hr : HR ρ B D σ h w) (hb : Below w.heap.size w w') : Tr ρ B D σ h w σ h w' where
  up := fun _ _ x => x
  no := fun _ x _ => x
  nw := fun k y x z => by rw [x] at z; cases z
  out := ⟨hb.os, hb.tape, hb.output⟩
  sz := hb.size
  fr := fun b h1 _ => hb.block b h1
  hr := ⟨Nat.le_trans hr.base hb.size, hr.wf, fun k b x y => BR_mono (hr.blk k b (x.elim id fun q => absurd q.2 (by omega)) y) (fun _ _ z => z) fun y _ h2 => hb.block _ h2,
    fun k k' x y => hr.inj k k' (x.elim id fun q => absurd q.2 (by omega)) (y.elim id fun q => absurd q.2 (by omega))⟩

theorem below_alloc (w : World) (o : Obj) (B : Nat) (hB : B ≤ w.heap.size) : Below B w (w.alloc o) :=
  ⟨rfl, rfl, rfl, by rw [alloc_size]; omega, fun _ h => alloc_old w o (Nat.lt_of_lt_of_le h hB)⟩

/-- errors.As where the error is at once what is asked for: the error's type, the target's, the type of reflectlite's handles, the variable of the type error. -/
def asOrc (tE tP rt eg : Nat) (args : List TV) (h : SH) : Option (TV × SH) :=
  match args with
  | [.ifc t1 (.p ka oa), .ifc t2 (.p k o)] => cond (Nat.beq t1 tE) (cond (Nat.beq t2 tP) (match h.get eg with
    | some (.cells [.ifc r (.ag [.x 0])] _ true) => cond (Nat.beq r rt) (match storeAt 1 k o (.p ka oa) (h.see eg) with
      | some h' => some (.b true, h')
      | none => none) none
    | _ => none) none) none
  | [.ifn, .ifc t2 (.p _ _)] => cond (Nat.beq t2 tP) (some (.b false, h)) none
  | _ => none

theorem as_ok {P : Program} {ρ : Nat → Value} {B : Nat} {f : Nat} {fn : Func} (hfn : P.funcs[f]? = some fn) (hname : (fn.name == "runtime.NumGoroutine") = false) (hbody : fn.body.isNone = false) {tE tP rt eg : Nat} (heg : eg < P.globals.size)
    (hAs : ∀ (a : Addr) (b o : Nat) (w : World), w.cell? ⟨eg, 0, none⟩ = some (.iface rt (.agg #[ρ 0])) → ∀ old, w.cell? ⟨b, o, none⟩ = some old → w.frozen? ⟨b, o, none⟩ = false →
      Calls P f #[.iface tE (.pointer (some a)), .iface tP (.pointer (some ⟨b, o, none⟩))] w fun e w' => e = .returned (.bool true) ∧ ∃ X Y Z U, w' = ((((w.setCell ⟨b, o, none⟩ (.pointer (some a))).alloc X).alloc Y).alloc Z).alloc U)
    (hNil : ∀ (a : Addr) (w : World), Calls P f #[.nilIface, .iface tP (.pointer (some a))] w fun e w' => e = .returned (.bool false) ∧ w' = w) :
    OneOk P ρ B f (asOrc tE tP rt eg) := by
  intro args h v h' hx
  have hen : ∀ (vs : Array Value) (w : World), (callFunc f vs).run P w = .ok (.enter f vs) w := fun vs w => by
    unfold callFunc
    rw [run_bind, run_program]
    simp only [hfn]
    rw [if_neg (by rw [hname]; decide), if_neg (by rw [hbody]; decide)]
    rfl
  unfold asOrc at hx
  split at hx
  · rename_i t1 ka oa t2 k o
    have p1 := cond_none hx
    clear hx
    obtain ⟨q1, p1⟩ := p1
    have p2 := cond_none p1
    clear p1
    obtain ⟨q2, p2⟩ := p2
    obtain rfl := Nat.eq_of_beq_eq_true q1
    obtain rfl := Nat.eq_of_beq_eq_true q2
    split at p2
    · rename_i r ty e1
      have p3 := cond_none p2
      clear p2
      obtain ⟨q3, p3⟩ := p3
      obtain rfl := Nat.eq_of_beq_eq_true q3
      split at p3
      · rename_i h1 e2
        cases p3
        have tfs := tf_store e2
        refine ⟨(TF.see h eg).trans tfs, hen, fun D σ w vs hr hg hf hd hv => ?_⟩
        · have e2' := e2
          unfold storeAt at e2
          split at e2
          · rename_i l bty e3
            have f1 := cond_none e2
            clear e2
            obtain ⟨c1, f1⟩ := f1
            have f2 := cond_none f1
            clear f1
            obtain ⟨c2, f2⟩ := f2
            have f3 := cond_none f2
            clear f2
            obtain ⟨c3, f3⟩ := f3
            have f4 := cond_none f3
            clear f3
            obtain ⟨c4, f4⟩ := f4
            cases f4
            have c2 := Nat.le_of_ble_eq_true c2
            have c4 : k < 4000000 := blt_lt c4
            have e3 : h.get k = some (.cells l bty false) := e3
            have hDk : D k := hd k (List.mem_cons_self ..) (hr.wf k _ e3)
            have hDe : D eg := hd eg (List.mem_cons_of_mem _ (List.mem_cons_self ..)) (hr.wf eg _ e1)
            obtain ⟨v1, r1, hv1, ⟨z1, rfl, ya, hya, rfl⟩, v2, r2, hv2, ⟨z2, rfl, y, hy, rfl⟩, hv3⟩ := hv
            subst hv3
            have hvs : vs = #[.iface t1 (.pointer (some ⟨ya.1, ya.2.1 + oa, none⟩)), .iface t2 (.pointer (some ⟨y.1, y.2.1 + o, none⟩))] := Array.toList_inj.1 (by rw [hv1, hv2])
            subst hvs
            obtain ⟨y', c, fz, b1, b2, b3, _, b4, b5, b6⟩ := hr.blk k _ hDk e3
            rw [hy] at b1; cases b1
            obtain ⟨b3, rfl⟩ := b3 rfl
            obtain ⟨ye, ce, fe, g1, g2, _, g3, g4, g5, g6⟩ := hr.blk eg _ hDe e1
            obtain ⟨room, g7⟩ := hg eg heg
            rw [g7] at g1; cases g1
            obtain ⟨u, u1, u2⟩ := g6 0 _ rfl
            obtain ⟨u0, rfl, ua, rfl, ul⟩ := u2
            obtain ⟨x0, xr, ux, hx0, hxr⟩ := ul
            subst hxr
            have hua : ua = #[ρ 0] := by
              apply Array.toList_inj.1
              rw [ux]
              have : x0 = ρ 0 := hx0
              rw [this]
            subst hua
            have hE : w.cell? ⟨eg, 0, none⟩ = some (.iface r (.agg #[ρ 0])) := by
              rw [cell_at g2]
              simpa using u1
            have hlo : y.2.1 + o < c.size := by omega
            have hold : w.cell? ⟨y.1, y.2.1 + o, none⟩ = some c[y.2.1 + o] := by rw [cell_at b2]; exact Array.getElem?_eq_getElem hlo
            have hfz : w.frozen? ⟨y.1, y.2.1 + o, none⟩ = false := by simp [World.frozen?, b2]
            refine (hAs ⟨ya.1, ya.2.1 + oa, none⟩ y.1 (y.2.1 + o) w hE _ hold hfz).mono ?_
            rintro e w' ⟨rfl, X, Y, Z, U, rfl⟩
            refine ⟨σ, _, rfl, rfl, ?_⟩
            obtain ⟨s0, s1, s2, s3⟩ := setCell_at (o := y.2.1 + o) b2 (.pointer (some ⟨ya.1, ya.2.1 + oa, none⟩))
            have hr2 : HR ρ B (fun j => D j ∨ (h.nx ≤ j ∧ j < (h.see eg).nx)) σ (h.see eg) w := (tr_same hr (h' := h.see eg) rfl rfl).hr
            have hBR : BR ρ B σ (w.setCell ⟨y.1, y.2.1 + o, none⟩ (.pointer (some ⟨ya.1, ya.2.1 + oa, none⟩))) k (.cells (splice l o (TV.p ka oa).cells) bty false) :=
              BR_put (vs := [.pointer (some ⟨ya.1, ya.2.1 + oa, none⟩)]) (ts := [TV.p ka oa]) (hr.blk k _ hDk e3) hy b2 ⟨_, _, rfl, ⟨ya, hya, rfl⟩, rfl⟩ (by omega) (by simp only [List.length_cons, List.length_nil]; omega) s3
            have t1' := tr_wrt (w' := w.setCell ⟨y.1, y.2.1 + o, none⟩ (.pointer (some ⟨ya.1, ya.2.1 + oa, none⟩))) hr2 (.inl hDk) e3 rfl c4 hy s0 s1 s2 hBR
            have t2' := tr_grow t1'.hr (w' := (((((w.setCell ⟨y.1, y.2.1 + o, none⟩ (.pointer (some ⟨ya.1, ya.2.1 + oa, none⟩))).alloc X).alloc Y).alloc Z).alloc U)) (by
              refine (below_alloc _ X _ (Nat.le_refl _)).trans ((below_alloc _ Y _ ?_).trans ((below_alloc _ Z _ ?_).trans (below_alloc _ U _ ?_))) <;> simp only [alloc_size] <;> omega)
            exact (tr_same hr (h' := h.see eg) rfl rfl).trans (TF.see h eg) tfs (t1'.trans tfs (TF.refl _) t2' hf) hf
          · cases e2
      · cases p3
    · cases p2
  · rename_i t2 k o
    have p1 := cond_none hx
    clear hx
    obtain ⟨q1, p1⟩ := p1
    obtain rfl := Nat.eq_of_beq_eq_true q1
    cases p1
    refine ⟨TF.refl _, hen, fun D σ w vs hr hg hf hd hv => ?_⟩
    obtain ⟨v1, r1, hv1, rfl, v2, r2, hv2, ⟨z2, rfl, y, hy, rfl⟩, hv3⟩ := hv
    subst hv3
    have hvs : vs = #[.nilIface, .iface t2 (.pointer (some ⟨y.1, y.2.1 + o, none⟩))] := Array.toList_inj.1 (by rw [hv1, hv2])
    subst hvs
    refine (hNil ⟨y.1, y.2.1 + o, none⟩ w).mono ?_
    rintro e w' ⟨rfl, rfl⟩
    exact ⟨σ, _, rfl, rfl, tr_same hr rfl rfl⟩
  · cases hx
end Go.Proofs.YtdjafnjmkkagjaaGreatDoor.Sx
namespace Go.Proofs.YtdjafnjmkkagjaaGreatDoor.Sx
open Go.RowKit

/-- Memory at the start: the numbers of the package-level variables are taken; some of them are told. -/
def startT (tys : Nat → Nat) : List (Nat × List TV) → Trie TB
  | [] => .lf
  | p :: r => (startT tys r).set 24 p.1 (.cells p.2 (tys p.1) true)
def startL (n : Nat) (L : List (Nat × List TV)) (tys : Nat → Nat) : SH := ⟨startT tys L, n, [], []⟩
def roomOf (w : World) (k : Nat) : Nat := match w.heap[k]? with
  | some (.cells c _ _) => c.size
  | _ => 0
def tyOf (w : World) (k : Nat) : Nat := match w.heap[k]? with
  | some (.cells _ t _) => t
  | _ => 0
def startS (w : World) (n : Nat) : Emb := fun k => if k < n then some (k, 0, roomOf w k) else none
theorem startT_get (tys : Nat → Nat) : ∀ {L : List (Nat × List TV)}, (∀ p, p ∈ L → p.1 < 1000000) → ∀ {k : Nat} {b : TB}, (startT tys L).get k = some b → ∃ l, (k, l) ∈ L ∧ b = .cells l (tys k) true
  | [], _, k, b, h => by cases h
  | p :: r, hs, k, b, h => by
    have hp := hs p (List.mem_cons_self ..)
    unfold startT at h
    rw [Trie.get_set 24 _ _ _ _ (by omega)] at h
    by_cases e : k = p.1
    · rw [if_pos e] at h
      cases h
      subst e
      exact ⟨p.2, List.mem_cons_self .., rfl⟩
    · rw [if_neg e] at h
      obtain ⟨l, h1, h2⟩ := startT_get tys (fun q hq => hs q (List.mem_cons_of_mem _ hq)) h
      exact ⟨l, List.mem_cons_of_mem _ h1, h2⟩
/-- What the told variables hold. -/
def Told (ρ : Nat → Value) (w : World) (L : List (Nat × List TV)) : Prop :=
  ∀ p, p ∈ L → ∃ c t f, w.heap[p.1]? = some (.cells c t f) ∧ p.2.length ≤ c.size ∧ ∀ (j : Nat) (t : TV), p.2[j]? = some t → ∃ v, c[j]? = some v ∧ VR ρ (fun _ => none) t v
theorem told_cells {ρ : Nat → Value} {w : World} {g : Nat} {l : List TV} {vs : List Value} (hv : VRs ρ (fun _ => none) l vs) (h : ∀ (j : Nat) (v : Value), vs[j]? = some v → w.cell? ⟨g, j, none⟩ = some v) (hne : 0 < vs.length) :
    ∃ c t f, w.heap[g]? = some (.cells c t f) ∧ l.length ≤ c.size ∧ ∀ (j : Nat) (t : TV), l[j]? = some t → ∃ v, c[j]? = some v ∧ VR ρ (fun _ => none) t v := by
  have h0 := h 0 vs[0] (by simp [hne])
  have hblk : ∃ c ty fz, w.heap[g]? = some (.cells c ty fz) := by
    unfold World.cell? at h0
    split at h0
    · rename_i c ty fz hh; exact ⟨c, ty, fz, hh⟩
    · cases h0
  obtain ⟨c, ty, fz, hc⟩ := hblk
  have hcell : ∀ (j : Nat) (v : Value), vs[j]? = some v → c[j]? = some v := fun j v hj => by
    have := h j v hj
    rwa [cell_at hc] at this
  have hlen := VRs_len hv
  have hsz : vs.length ≤ c.size := by
    have := hcell (vs.length - 1) vs[vs.length - 1] (by simp)
    have := (Array.getElem?_eq_some_iff.1 this).1
    omega
  refine ⟨c, ty, fz, hc, by omega, fun j t ht => ?_⟩
  obtain ⟨v, v1, v2⟩ := VRs_get hv ht
  exact ⟨v, hcell j v v1, v2⟩
theorem startL_ok {P : Program} {ρ : Nat → Value} {w : World} {L : List (Nat × List TV)} (hG : P.globals.size < 1000000) (hn : ∀ p, p ∈ L → p.1 < P.globals.size) (hL : Told ρ w L) :
    HR ρ w.heap.size (fun _ => True) (startS w P.globals.size) (startL P.globals.size L (tyOf w)) w ∧ GlobR P (startS w P.globals.size) := by
  have hs : ∀ p, p ∈ L → p.1 < 1000000 := fun p hp => by have := hn p hp; omega
  have hget : ∀ k b, (startL P.globals.size L (tyOf w)).get k = some b → ∃ l, (k, l) ∈ L ∧ b = .cells l (tyOf w k) true := fun k b h => startT_get _ hs h
  refine ⟨⟨Nat.le_refl _, fun k b hk => ?_, fun k b _ hk => ?_, fun k k' _ _ ho _ _ => ?_⟩, fun k hk => ?_⟩
  · obtain ⟨l, h1, _⟩ := hget k b hk
    exact hn _ h1
  · obtain ⟨l, h1, rfl⟩ := hget k b hk
    obtain ⟨c, t, f, e1, e2, e3⟩ := hL _ h1
    have hr : roomOf w k = c.size := by unfold roomOf; rw [e1]
    have ht : tyOf w k = t := by unfold tyOf; rw [e1]
    refine ⟨(k, 0, c.size), c, f, ?_, ?_, fun x => (by cases x), fun _ => (Array.getElem?_eq_some_iff.1 e1).1, by simp, e2, fun j u hu => ?_⟩
    · unfold startS; rw [if_pos (hn _ h1), hr]
    · rw [ht]; exact e1
    · obtain ⟨v, v1, v2⟩ := e3 j u hu
      exact ⟨v, by rw [Nat.zero_add]; exact v1, VR_mono (fun _ _ x => by cases x) _ _ v2⟩
  · obtain ⟨b, h1, h2⟩ := ho
    obtain ⟨l, _, rfl⟩ := hget k b h1
    cases h2
  · unfold startS
    rw [if_pos hk]
    exact ⟨_, rfl⟩

/-- A run of no arguments that ends in true, with some functions told otherwise. -/
theorem told_ok {P : Program} (hmix : P.follows .mixedOrders = true) {tab : Trie XF} (htab : TabOk P tab) {meth : Meth} (hmeth : MethOk P meth) {ρ : Nat → Value} (hρ : ∀ j, scalV (ρ j)) {w : World} {L : List (Nat × List TV)} (hG : P.globals.size < 1000000)
    (hn : ∀ p, p ∈ L → p.1 < P.globals.size) (hL : Told ρ w L) {orc : Nat → Option (List TV → SH → Option (TV × SH))} (horc : ∀ f g, orc f = some g → OneOk P ρ w.heap.size f g)
    {f fuel n : Nat} (h : ∀ tys, okv (run meth tab orc fuel n f [] (startL P.globals.size L tys)) = true) :
    Calls P f #[] w fun e w' => e = .returned (.bool true) ∧ Below w.heap.size w w' := by
  obtain ⟨hr, hgl⟩ := startL_ok hG hn hL
  obtain ⟨h', hrun⟩ := okv_some (h (tyOf w))
  obtain ⟨t, _, k⟩ := run_ok (P := P) (ρ := ρ) (B := w.heap.size) hρ hmeth hmix htab horc fuel n f [] _ _ _ hrun
  refine (k (fun _ => True) _ w #[] hr hgl (fun j h1 _ => ?_) (fun _ _ _ => trivial) rfl).mono fun e w' hw => ?_
  · have h2 : P.globals.size ≤ j := h1
    unfold startS
    rw [if_neg (Nat.not_lt.2 h2)]
  · obtain ⟨σ', x, rfl, hv, ht⟩ := hw
    refine ⟨?_, ht.out.1, ht.out.2.1, ht.out.2.2, ht.sz, fun b hb' => ht.fr b hb' fun k y _ ho hy => ?_⟩
    · cases x <;> simp_all [VR]
    · obtain ⟨b0, h1, h2⟩ := ho
      obtain ⟨l, _, rfl⟩ := startT_get _ (fun p hp => by have := hn p hp; omega) h1
      cases h2

/-- Methods, by a table. -/
def tabMeth (l : List (Nat × String × Nat)) : Meth := ⟨fun t name => (l.find? fun x => Nat.beq x.1 t && x.2.1 == name).map fun x => x.2.2, fun _ _ => none⟩
theorem tabMeth_ok {P : Program} {l : List (Nat × String × Nat)} (h : ∀ x, x ∈ l → ∀ (v : Value) (w : World), (method (P.types.size + Made.depth) x.1 v x.2.1).run P w = .ok (x.2.2, v) w) : MethOk P (tabMeth l) := by
  refine ⟨fun t name g hg v w => ?_, fun _ _ _ h => (by cases h)⟩
  unfold tabMeth at hg
  simp only [Option.map_eq_some_iff] at hg
  obtain ⟨x, h1, rfl⟩ := hg
  have h2 := List.find?_some h1
  simp only [Bool.and_eq_true, beq_iff_eq] at h2
  have := h x (List.mem_of_find?_eq_some h1) v w
  rw [Nat.eq_of_beq_eq_true h2.1, h2.2] at this
  exact this
/-- One function told otherwise. -/
def oneOrc (f : Nat) (g : List TV → SH → Option (TV × SH)) : Nat → Option (List TV → SH → Option (TV × SH)) := fun i => cond (Nat.beq i f) (some g) none
theorem oneOrc_ok {P : Program} {ρ : Nat → Value} {B f : Nat} {g : List TV → SH → Option (TV × SH)} (h : OneOk P ρ B f g) : ∀ i k, oneOrc f g i = some k → OneOk P ρ B i k := fun i k hk => by
  unfold oneOrc at hk
  cases c : Nat.beq i f with
  | false => rw [c] at hk; cases hk
  | true =>
    rw [c] at hk
    cases hk
    obtain rfl := Nat.eq_of_beq_eq_true c
    exact h
end Go.Proofs.YtdjafnjmkkagjaaGreatDoor.Sx
