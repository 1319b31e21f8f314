/-
  step.Binds, pleachref18.Binds, pleachref10.Same, pleachref03.GreatAll, Great, pleachlaw18.wide, over data. No condition but that the trees be in range.
-/
import Derived.Test.YtkieoghkjjkapaaGreatDoorSt1
import Derived.Test.YtkieoghkjjkapaaGreatDoorFr1
namespace Go.Proofs.YtkieoghkjjkapaaGreatDoor
open Go.RowKit
set_option maxHeartbeats 1000000 in
theorem bsame_nil (w : World) (p q : Option Addr) (c d : Nat) : Calls Tryz.prog 6 #[.slice p 0 c, .slice q 0 d] w fun e w' => e = .returned (.bool true) ∧ w' = w := by
  go_enter Tryz.func6, Tryz.ntmps6
  go_wp2
  go_loopw [5] (fun i wr => i = .int .i64 0 ∧ wr = w) (fun _ _ => 0)
  case atStart => exact ⟨rfl, rfl⟩
  case round =>
    obtain ⟨rfl, rfl⟩ := hrel
    go_wp2
    go_ret
    exact ⟨rfl, rfl⟩
end Go.Proofs.YtkieoghkjjkapaaGreatDoor
namespace Go.Proofs.YtkieoghkjjkapaaGreatDoor.Oa
open Go.RowKit Sx Rdb
set_option maxRecDepth 100000
theorem great_pu (x : Tr) (hx : TrOk x) : Pu 13 [agV x] (.b (decide (1024 ≤ x.sz 1024))) := by
  refine .of (enter_of Tryz.func13 (by kernel_rfl)) fun w M vs hM hT hvs => ?_
  obtain ⟨vs⟩ := vs
  obtain ⟨v, rest, rfl, hv, rfl⟩ := hvs
  obtain ⟨sv, rfl, ht⟩ := agV_vr hM hx hv
  refine (greatT_any ht).mono ?_
  rintro e w' ⟨rfl, hb⟩
  exact ⟨_, rfl, rfl, hb⟩
/-- A row of trees, from data to memory. -/
theorem kids_rows {M : Mem} {w : World} (hM : MemOk M w) {l : List Tr} (h1 : ∀ y, y ∈ l → TrOk y) (h2 : l.length ≤ BL) {sv : Value} (h : DR lay M (.sl 27) (.r (rowsT l)) sv) : Kids (fun b => ∃ cs, M b = some cs) w sv l :=
  kids_drM hM (.mk 0 0 ⟨#[]⟩ ⟨#[]⟩ l) h1 h2 sv h
theorem greatAll_pu (l : List Tr) (h1 : ∀ y, y ∈ l → TrOk y) (h2 : l.length ≤ BL) : Pu 11 [.es 27 (.r (rowsT l))] (.b (decide (4000 ≤ gall l l.length))) := by
  refine .of (enter_of Tryz.func11 (by kernel_rfl)) fun w M vs hM hT hvs => ?_
  obtain ⟨vs⟩ := vs
  obtain ⟨v, rest, rfl, hv, rfl⟩ := hvs
  refine (greatAll_any (kids_rows hM h1 h2 hv)).mono ?_
  rintro e w' ⟨rfl, hb⟩
  exact ⟨_, rfl, rfl, hb⟩
theorem wide_pu (l : List Tr) (h1 : ∀ y, y ∈ l → TrOk y) (h2 : l.length ≤ BL) : Pu 12 [.es 27 (.r (rowsT l))] (.b (l.any fun x => decide (1024 ≤ x.sz 1024))) := by
  refine .of (enter_of Tryz.func12 (by kernel_rfl)) fun w M vs hM hT hvs => ?_
  obtain ⟨vs⟩ := vs
  obtain ⟨v, rest, rfl, hv, rfl⟩ := hvs
  refine (wide_any (kids_rows hM h1 h2 hv)).mono ?_
  rintro e w' ⟨rfl, hb⟩
  exact ⟨_, rfl, rfl, hb⟩
theorem same_pu (l : List Bd) (h1 : ∀ b ∈ l, TrOk b.t ∧ b.s.size ≤ BL * 64) (h2 : l.length ≤ BL) : Pu 6 [.es 70 (.r (rowsB l)), .es 70 (.r (rowsB l))] (.b true) := by
  refine .of (enter_of Tryz.func6 (by kernel_rfl)) fun w M vs hM hT hvs => ?_
  obtain ⟨vs⟩ := vs
  obtain ⟨v, rest, rfl, hv, v2, rest2, rfl, hv2, rfl⟩ := hvs
  have hv : DR lay M (.sl 70) (.r (rowsB l)) v := hv
  have hv2 : DR lay M (.sl 70) (.r (rowsB l)) v2 := hv2
  by_cases hl : l = []
  · subst hl
    have nil : ∀ {v : Value}, DR lay M (.sl 70) (.r (rowsB [])) v → ∃ p c, v = .slice p 0 c := fun h => by
      cases h with
      | nil _ _ p c _ => exact ⟨p, c, rfl⟩
      | sl _ _ b o c _ _ _ _ _ => exact ⟨some ⟨b, o, none⟩, c, rfl⟩
    obtain ⟨p, c, rfl⟩ := nil hv
    obtain ⟨q, d, rfl⟩ := nil hv2
    refine (bsame_nil w p q c d).mono ?_
    rintro e w' ⟨rfl, rfl⟩
    exact ⟨_, rfl, rfl, Below.refl _ _⟩
  · refine (bsame_any (binds_dr hM hl h1 h2 hv) (binds_dr hM hl h1 h2 hv2)).mono ?_
    rintro e w' ⟨rfl, hb⟩
    exact ⟨_, rfl, by show VR _ _ (.b true) _; rw [sameB_self]; rfl, hb⟩
/-- From a contract over memory that tells names to one over data. -/
theorem binds_pu {f : Nat} {fn : Func} {args : List TV} {L : List Bd} (hfn : Tryz.prog.funcs[f]? = some fn) (hc : (cFunc Tryz.prog fn).isSome = true)
    (h : ∀ w M (vs : Array Value), MemOk M w → VRs rho (bare M) args vs.toList → Calls Tryz.prog f vs w fun e w' => ∃ v, e = .returned v ∧ Binds (fun b => (∃ cs, M b = some cs) ∨ w.heap.size ≤ b) w' v L ∧ Below w.heap.size w w') : Pu f args (.es 70 (.r (rowsB L))) := by
  refine ⟨enter_of hfn hc, fun w M vs hM hT hvs => ?_⟩
  refine (h w M vs hM hvs).mono ?_
  rintro e w' ⟨v, rfl, hy, hb⟩
  refine ⟨_, fun b => if b < w.heap.size then M b else memOf w' b, rfl, fun b c q => ?_, fun b c q => ?_, memB_ok hM hb, ?_, hb⟩
  · obtain ⟨ty, fz, q2⟩ := hM b c q
    simp only
    rw [if_pos (Array.getElem?_eq_some_iff.1 q2).1]
    exact q
  · simp only at q
    split at q
    · exact .inl q
    · exact .inr (by omega)
  · refine dr_bindsM (fun b cs hF q => ?_) hy
    show (if b < w.heap.size then M b else memOf w' b) = some cs
    split
    · rename_i hlt
      rcases hF with ⟨c2, hF⟩ | hF
      · obtain ⟨ty, fz, q2⟩ := memOk_below hM hb b c2 hF
        rw [memOf_at q2] at q
        rw [hF, ← q]
      · omega
    · exact q

theorem frT_vr {M : Mem} {w : World} (hM : MemOk M w) {kd : Int} {ls st : List Tr} {bs : List Bool} {nt : Nat} {t u v : Tr} (h1 : ∀ y, y ∈ ls → TrOk y) (h2 : ls.length ≤ BL) {z : Value} (h : VR rho (bare M) (frT kd ls st bs nt t u v) z) :
    ∃ x1 x2 x5 x6 x7 x8 x9 x10 x11 x12 x13 x14 x15 x16 x17 x18 x19 x20 x21 x22 x23 x24 x25 x26 x27 x28 x29 x30 x31 x32 x33 x34 sv bv, z = .agg #[.int .i8 kd, x1, x2, sv, bv, x5, x6, x7, x8, x9, x10, x11, x12, x13, x14, x15, x16, x17, x18, x19, x20, x21, x22, x23, x24, x25, x26, x27, x28, x29, x30, x31, x32, x33, x34] ∧ Kids (fun b => ∃ cs, M b = some cs) w sv ls ∧ Bools w bv bs := by
  obtain ⟨⟨a⟩, rfl, y0, r0, e0, k0, y1, r1, e1, k1, y2, r2, e2, k2, y3, r3, e3, k3, y4, r4, e4, k4, y5, r5, e5, k5, y6, r6, e6, k6, y7, r7, e7, k7, y8, r8, e8, k8, y9, r9, e9, k9, y10, r10, e10, k10, y11, r11, e11, k11, y12, r12, e12, k12, y13, r13, e13, k13, y14, r14, e14, k14, y15, r15, e15, k15, y16, r16, e16, k16, y17, r17, e17, k17, y18, r18, e18, k18, y19, r19, e19, k19, y20, r20, e20, k20, y21, r21, e21, k21, y22, r22, e22, k22, y23, r23, e23, k23, y24, r24, e24, k24, y25, r25, e25, k25, y26, r26, e26, k26, y27, r27, e27, k27, y28, r28, e28, k28, y29, r29, e29, k29, y30, r30, e30, k30, y31, r31, e31, k31, y32, r32, e32, k32, y33, r33, e33, k33, y34, r34, e34, k34, h35⟩ := h
  cases k0
  cases h35
  subst e34 e33 e32 e31 e30 e29 e28 e27 e26 e25 e24 e23 e22 e21 e20 e19 e18 e17 e16 e15 e14 e13 e12 e11 e10 e9 e8 e7 e6 e5 e4 e3 e2 e1
  have e0 : a = _ := e0
  subst e0
  exact ⟨y1, y2, y5, y6, y7, y8, y9, y10, y11, y12, y13, y14, y15, y16, y17, y18, y19, y20, y21, y22, y23, y24, y25, y26, y27, y28, y29, y30, y31, y32, y33, y34, y3, y4, rfl, kids_rows hM h1 h2 k3, bools_dr hM k4⟩
theorem sbinds_pu (kd : Int) (ls st : List Tr) (bs : List Bool) (nt : Nat) (t u v : Tr) (h1 : ∀ y, y ∈ ls → TrOk y) (hl : ls.length ≤ 100) (hl2 : bs.length ≤ 100) : Pu 7 [frT kd ls st bs nt t u v] (.es 70 (.r (rowsB (bdF kd bs ls)))) := by
  refine binds_pu Tryz.func7 (by kernel_rfl) fun w M vs hM hvs => ?_
  obtain ⟨vs⟩ := vs
  obtain ⟨z, rest, rfl, hz, rfl⟩ := hvs
  obtain ⟨x1, x2, x5, x6, x7, x8, x9, x10, x11, x12, x13, x14, x15, x16, x17, x18, x19, x20, x21, x22, x23, x24, x25, x26, x27, x28, x29, x30, x31, x32, x33, x34, sv, bv, rfl, hs, hb⟩ := frT_vr hM h1 (by unfold BL; omega) hz
  exact sbinds_any hs hb hl hl2
theorem rbinds_pu (kd : Int) (ls st : List Tr) (bs : List Bool) (nt : Nat) (t u v : Tr) (h1 : ∀ y, y ∈ ls → TrOk y) (hl : ls.length ≤ 100) (hl2 : bs.length ≤ 100) : Pu 8 [frT kd ls st bs nt t u v] (.es 70 (.r (rowsB (bdF kd bs ls)))) := by
  refine binds_pu Tryz.func8 (by kernel_rfl) fun w M vs hM hvs => ?_
  obtain ⟨vs⟩ := vs
  obtain ⟨z, rest, rfl, hz, rfl⟩ := hvs
  obtain ⟨x1, x2, x5, x6, x7, x8, x9, x10, x11, x12, x13, x14, x15, x16, x17, x18, x19, x20, x21, x22, x23, x24, x25, x26, x27, x28, x29, x30, x31, x32, x33, x34, sv, bv, rfl, hs, hb⟩ := frT_vr hM h1 (by unfold BL; omega) hz
  exact rbinds_any hs hb hl hl2
end Go.Proofs.YtkieoghkjjkapaaGreatDoor.Oa
