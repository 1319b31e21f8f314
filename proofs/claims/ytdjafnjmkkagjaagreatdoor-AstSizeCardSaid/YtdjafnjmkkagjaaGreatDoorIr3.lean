/-
  ast.walk's iterator: every node of a tree, a node ahead of its parts. Condition: the tree lies in memory that stays; rounds go on.
-/
import Derived.Test.YtdjafnjmkkagjaaGreatDoorIr2
import Derived.Lib.Hide
import Derived.IntWalk
namespace Go.Proofs.YtdjafnjmkkagjaaGreatDoor.Ir
open Go.RowKit Go.Shelf Oa
attribute [local go_sem] Oper.semAt_some
theorem yieldAt_rec {F : Fence} {m : Nat} {P : Program} {l : Nat} {args : Array Value} {W : World} {R : Ending → World → Prop} {rec : LoopState → Loop} {fn : FuncId} {tmps : Array Value} {ps : Array Tmp} {assign body : Code} {D : Nat}
    (hrec : rec = fun st => { state := st, pending := none, fn, tmps, params := ps, assign, body, defers := D }) (hl : W.heap[l]? = some (.loop (rec .ready))) (hs : args.size = ps.size) (hF : F.fn fn)
    (a₁ : Act) (ha : ∀ K : Act → World → Prop, K a₁ W → assign.wpIn (F.inRound l) m P (Exit.then K (fun _ _ _ => False)) { tmps := (ps.zip args).foldl (fun t (p, v) => t.setIfInBounds p v) tmps, defers := [] } W)
    (h : body.wpIn (F.inRound l) m P (fun e _ W3 => e = .normal ∧ W3.heap[l]? = some (.loop (rec .busy)) ∧ R (.returned (.bool true)) (W3.putObj l (.loop (rec .ready)))) a₁ (W.putObj l (.loop (rec .busy)))) : YieldAt F m P l args W R := by
  subst hrec
  exact yieldAt_of hl rfl hs hF (ha _ ⟨hl, h⟩)
theorem flat_len {l : List Tr} {k : Nat} (h : k < l.length) : ((l.take k).map preT).flatten.length + (preT l[k]).length ≤ (l.map preT).flatten.length := by
  have e : l = l.take k ++ l[k] :: l.drop (k + 1) := by rw [← List.drop_eq_getElem_cons h, List.take_append_drop]
  conv => rhs; rw [e]
  simp only [List.map_append, List.map_cons, List.flatten_append, List.flatten_cons, List.length_append]
  omega
theorem cell_box {W : World} {B : Nat} {v : Value} {t : TypeId} {fz : Nat × Nat} (h : W.heap[B]? = some (.cells #[v] t fz)) : W.cell? ⟨B, 0, none⟩ = some v := by simp [World.cell?, h]
set_option maxRecDepth 100000 in
set_option maxHeartbeats 4000000 in
theorem walk1_in {n₀ : Nat} {w0 : World} (x : Tr) : ∀ (g o : Nat) (sv : Value) (l b₁ : Nat) (X : Nat → Prop) (N : Nat) (J : List Tr → World → Prop), NodeAt w0 g o x sv → TrV (fun k => k < n₀) w0 x sv → g < n₀ → n₀ ≤ b₁ → (∀ k, X k → k < b₁) → Jok b₁ J → (∀ pre W, J pre W → Below n₀ w0 W) →
    (∀ (m : Nat) (pre : List Tr) (y : Tr) (g o : Nat) (sv : Value) (W : World), NodeAt w0 g o y sv → TrV (fun k => k < n₀) w0 y sv → g < n₀ → pre.length < N → J pre W → YieldAt Fence.wide m Tryz.prog l #[.pointer (some ⟨g, o, none⟩)] W fun e W' => e = .returned (.bool true) ∧ J (pre ++ [y]) W' ∧ KpX X W W') →
    ∀ (pre : List Tr) (W : World) (bx : Nat), pre.length + (preT x).length ≤ N → J pre W → b₁ ≤ W.heap.size → Prot X W bx → W.heap[bx]? = some (.cells #[.pointer (some ⟨g, o, none⟩)] 103 (0, 0)) →
    CallsIn Fence.wide 9 Tryz.prog 121 #[.func (.yield l) #[] #[], .pointer (some ⟨bx, 0, none⟩)] W fun e W' => (∃ v, e = .returned v) ∧ J (pre ++ preT x) W' ∧ KpX X W W' := by
  induction x using Tr.ind with
  | h x ih =>
    intro g o sv l b₁ X N J hn hx hg hb hX hJ hJB hY pre W bx hN hj hW hpb hbx
    have hN0 : (preT x).length = ((x.l.map preT).flatten).length + 1 := by rw [preT_eq]; rfl
    obtain ⟨p, c, rfl⟩ := hx.kids.slice
    refine callsIn_of_wp_marks Tryz.func121 rfl trivial ?_ rfl
    simp only [Tryz.ntmps121, List.size_toArray, List.length_cons, List.length_nil, Nat.reduceAdd, Nat.reduceSub, Array.replicate_succ, Array.replicate_zero, List.push_toArray, List.append_toArray, List.nil_append, List.cons_append]
    have hj1 := hJ _ _ _ hj (grow_alloc W (.cells #[.func (.yield l) #[] #[]] 108))
    have hk1 : KpX X W (W.alloc (.cells #[.func (.yield l) #[] #[]] 108)) := kp_alloc _
    have hy1 : (W.alloc (.cells #[.func (.yield l) #[] #[]] 108)).heap[W.heap.size]? = some (.cells #[.func (.yield l) #[] #[]] 108 (0, 0)) := World.alloc_heap_new W _
    have hpy : Prot X (W.alloc (.cells #[.func (.yield l) #[] #[]] 108)) W.heap.size := ⟨by simp, not_w hy1 (by rintro _ _ ⟨⟩), fun q => by have := hX _ q; omega⟩
    have hbx1 := (hk1.2 bx hpb).trans hbx
    have hpb1 := hk1.prot hpb
    have hs1 : (W.alloc (.cells #[.func (.yield l) #[] #[]] 108)).heap.size = W.heap.size + 1 := by simp
    have c1 := cell_box hy1
    have c2 := cell_box hbx1
    obtain ⟨fn, tmps, assign, body, hy, hR⟩ := hY 8 pre x g o _ _ hn hx hg (by omega) hj1
    gi_wp2
    refine hR.mono ?_
    rintro e W2 ⟨rfl, hj2, hk2⟩
    clear hy hR c1 c2
    have hpb2 := hk2.prot hpb1
    have hpy2 := hk2.prot hpy
    have hbx2 := (hk2.2 _ hpb1).trans hbx1
    have hy2 := (hk2.2 _ hpy).trans hy1
    have c1 := cell_box hy2
    have c2 := cell_box hbx2
    have hn2 := hn.keep ((hJB _ _ hj2).block g hg)
    have c3 := hn2.l
    gi_wp2
    refine wpIn_loop (fun a V => ∃ (k : Nat) (rs : List Nat) (u3 u4 u5 u6 u7 u8 u9 u10 u11 u12 u15 u16 u17 u18 u19 u20 u21 u22 u23 u24 u25 u26 u27 u28 u29 : Value), a = { tmps := #[.func (.yield l) #[] #[], .pointer (some ⟨bx, 0, none⟩), .pointer (some ⟨W.heap.size, 0, none⟩), u3, u4, u5, u6, u7, u8, u9, u10, u11, u12, .int .i64 (x.l.length : Int), .int .i64 (k : Int), u15, u16, u17, u18, u19, u20, u21, u22, u23, u24, u25, u26, u27, u28, u29], defers := rs.map mk } ∧ k ≤ x.l.length ∧ J (pre ++ x :: ((x.l.take k).map preT).flatten) V ∧
      KpX X (W.alloc (.cells #[.func (.yield l) #[] #[]] 108)) V ∧ rs.Nodup ∧ ∀ r, r ∈ rs → b₁ ≤ r ∧ W.heap.size < r ∧ Prot X V r ∧ V.heap[r]? = some (.deferred (some [])))
      (fun (a : Act) (_ : World) => match a.tmps[14]? with | some (Value.int _ k) => x.l.length - k.toNat | _ => 0) ⟨0, [], _, _, _, _, _, _, _, _, _, _, _, _, _, _, _, _, _, _, _, _, _, _, _, _, _, rfl, Nat.zero_le _, by simpa using hj2, hk2, List.nodup_nil, fun _ h => by cases h⟩ ?_
    rintro a V ⟨k, rs, u3, u4, u5, u6, u7, u8, u9, u10, u11, u12, u15, u16, u17, u18, u19, u20, u21, u22, u23, u24, u25, u26, u27, u28, u29, rfl, hk, hjV, hkV, hnd, hrs⟩
    have hpbV := hkV.prot hpb1
    have hpyV := hkV.prot hpy
    have hbxV := (hkV.2 _ hpb1).trans hbx1
    have hyV := (hkV.2 _ hpy).trans hy1
    have c1 := cell_box hyV
    have c2 := cell_box hbxV
    have hnV := hn.keep ((hJB _ _ hjV).block g hg)
    have c3 := hnV.l
    have hlen := hx.kids.len
    by_cases hlt : k < x.l.length
    · obtain ⟨p', c', e1, hc, hbl, hcell⟩ := hx.kids.open_
      cases e1
      obtain ⟨g2, o2, sv2, rfl, hg2, hn3, hwf3, hk3⟩ := hcell k hlt
      have hlt' : (k : Int) < (x.l.length : Int) := by omega
      have h0' : (0 : Int) ≤ (k : Int) := by omega
      have hs2 : (V.alloc (.cells #[.pointer (some ⟨g2, o2 + k * 5, none⟩)] 103)).heap.size ≤ V.heap.size + 1 ∧ V.heap.size + 1 ≤ (V.alloc (.cells #[.pointer (some ⟨g2, o2 + k * 5, none⟩)] 103)).heap.size := by simp
      have hjc := hJ _ _ _ hjV (grow_alloc V (.cells #[.pointer (some ⟨g2, o2 + k * 5, none⟩)] 103))
      have hkc : KpX X V (V.alloc (.cells #[.pointer (some ⟨g2, o2 + k * 5, none⟩)] 103)) := kp_alloc _
      have hbc : (V.alloc (.cells #[.pointer (some ⟨g2, o2 + k * 5, none⟩)] 103)).heap[V.heap.size]? = some (.cells #[.pointer (some ⟨g2, o2 + k * 5, none⟩)] 103 (0, 0)) := World.alloc_heap_new V _
      have hpc : Prot X (V.alloc (.cells #[.pointer (some ⟨g2, o2 + k * 5, none⟩)] 103)) V.heap.size := ⟨by simp, not_w hbc (by rintro _ _ ⟨⟩), fun q => by have := hX _ q; have := hkV.1; omega⟩
      gi_wp2_with (refine ⟨trivial, ?_⟩; gi_at_call 63; refine (walk_in _ _ _).mono ?_; rintro e w' ⟨rfl, rfl⟩)
      generalize V.alloc (.cells #[.pointer (some ⟨g2, o2 + k * 5, none⟩)] 103) = Vc at hs2 hjc hkc hbc hpc ⊢
      refine range_goes rfl (fun h => by cases h) (gf := 121) (lb := #[.pointer (some ⟨V.heap.size, 0, none⟩)]) rfl trivial (enters_of Tryz.func121 (by kernel_rfl) rfl) ?_
      intro fn2 _ rec hrec
      have HR := Lib.hid hrec
      clear hrec
      have hjD := hJ _ _ _ hjc (grow_alloc Vc (.deferred (some [])))
      have hjl := hJ _ _ _ hjD (grow_alloc _ (.loop (rec .ready)))
      have hkl : KpX X Vc ((Vc.alloc (.deferred (some []))).alloc (.loop (rec .ready))) := (kp_alloc _).trans (kp_alloc _)
      have hkVl := hkc.trans hkl
      have hD : ((Vc.alloc (.deferred (some []))).alloc (.loop (rec .ready))).heap[Vc.heap.size]? = some (.deferred (some [])) := (Below.heap_alloc _ _ _ (by simp)).trans (World.alloc_heap_new Vc _)
      have hL : ((Vc.alloc (.deferred (some []))).alloc (.loop (rec .ready))).heap[Vc.heap.size + 1]? = some (.loop (rec .ready)) := by
        have := World.alloc_heap_new (Vc.alloc (.deferred (some []))) (.loop (rec .ready)); rwa [World.size_alloc] at this
      have hs3 : ((Vc.alloc (.deferred (some []))).alloc (.loop (rec .ready))).heap.size ≤ Vc.heap.size + 1 + 1 ∧ Vc.heap.size + 1 + 1 ≤ ((Vc.alloc (.deferred (some []))).alloc (.loop (rec .ready))).heap.size := by simp
      generalize (Vc.alloc (.deferred (some []))).alloc (.loop (rec .ready)) = Vl at hjl hkl hkVl hD hL hs3 ⊢
      have hVs := hkV.1
      have hpyl := hkVl.prot hpyV
      have hyl := (hkVl.2 _ hpyV).trans hyV
      have hpcl := hkl.prot hpc
      have hbcl := (hkl.2 _ hpc).trans hbc
      refine (anyDeep (m := 9) (ih x.l[k] (List.getElem_mem hlt) g2 (o2 + k * 5) sv2 (Vc.heap.size + 1) (Vc.heap.size + 1 + 1) (fun j => X j ∨ j = Vc.heap.size + 1) (N - (pre ++ x :: ((x.l.take k).map preT).flatten).length)
        (fun pre' U => J (pre ++ x :: ((x.l.take k).map preT).flatten ++ pre') U ∧ U.heap[Vc.heap.size + 1]? = some (.loop (rec .ready)) ∧ U.heap[W.heap.size]? = some (.cells #[.func (.yield l) #[] #[]] 108 (0, 0)))
        hn3 ⟨hwf3, hk3⟩ hg2 (by omega) (fun j q => q.elim (fun q => by have := hX _ q; omega) fun q => by omega)
        (fun _ U U' q gr => ⟨hJ _ _ _ q.1 ⟨gr.os, gr.tape, gr.output, gr.size, fun j hj h => gr.same j hj (h.imp (fun h => by omega) id)⟩,
          (gr.same _ (Array.getElem?_eq_some_iff.1 q.2.1).1 (.inl (by omega))).trans q.2.1, (gr.same _ (Array.getElem?_eq_some_iff.1 q.2.2).1 (.inl (by omega))).trans q.2.2⟩)
        (fun _ _ q => hJB _ _ q.1) ?_ [] Vl V.heap.size (by have := flat_len hlt; simp only [List.length_nil, List.length_append, List.length_cons, Nat.zero_add]; omega) ⟨by simpa using hjl, hL, hyl⟩ (by omega) ⟨hpcl.1, hpcl.2.1, fun q => q.elim hpcl.2.2 fun q => by omega⟩ hbcl)).mono ?_
      · intro m pre' y g' o' sv' U hy' hv' hg' hN' ⟨ju, hlu, hyu⟩
        refine yieldAt_rec HR.out hlu rfl trivial { tmps := #[.func (.yield l) #[] #[], .pointer (some ⟨bx, 0, none⟩), .pointer (some ⟨W.heap.size, 0, none⟩), .int .i64 (k : Int), .pointer (some ⟨g', o', none⟩), u5, u6, u7, u8, u9, u10, u11, u12, .int .i64 (x.l.length : Int), .int .i64 (k : Int), .bool true, .int .i64 (k : Int), .pointer (some ⟨g, o, none⟩), .pointer (some ⟨g, o, none⟩), .pointer (some ⟨g, o + 4, none⟩), .slice (some ⟨g2, o2, none⟩) x.l.length c, .int .i64 (k : Int), .pointer (some ⟨g2, o2 + k * 5, none⟩), .func (.func 121) #[] #[.pointer (some ⟨V.heap.size, 0, none⟩)], .pointer (some ⟨g', o', none⟩), u25, u26, u27, u28, u29], defers := [] } (fun K hK => by gi_wp2; exact hK) ?_
        have hsl := (Array.getElem?_eq_some_iff.1 hlu).1
        have ju := hJ _ _ _ ju (grow_put (.loop (rec .busy)) (by omega) (not_w hlu (by rintro _ _ ⟨⟩)))
        have hlb : (U.putObj (Vc.heap.size + 1) (.loop (rec .busy))).heap[Vc.heap.size + 1]? = some (.loop (rec .busy)) := World.putObj_heap_same hsl
        have hyb : (U.putObj (Vc.heap.size + 1) (.loop (rec .busy))).heap[W.heap.size]? = some (.cells #[.func (.yield l) #[] #[]] 108 (0, 0)) := (World.putObj_heap_other (by omega)).trans hyu
        have hkb : KpX (fun j => X j ∨ j = Vc.heap.size + 1) U (U.putObj (Vc.heap.size + 1) (.loop (rec .busy))) := kp_put _ (.inr rfl)
        have hsb : (U.putObj (Vc.heap.size + 1) (.loop (rec .busy))).heap.size ≤ U.heap.size ∧ U.heap.size ≤ (U.putObj (Vc.heap.size + 1) (.loop (rec .busy))).heap.size := by simp
        generalize U.putObj (Vc.heap.size + 1) (.loop (rec .busy)) = Ub at ju hlb hyb hkb hsb ⊢
        have hpl : Prot X Ub (Vc.heap.size + 1) := ⟨by omega, not_w hlb (by rintro _ _ ⟨⟩), fun q => by have := hX _ q; omega⟩
        have hpy3 : Prot X Ub W.heap.size := ⟨by have := (Array.getElem?_eq_some_iff.1 hyb).1; omega, not_w hyb (by rintro _ _ ⟨⟩), fun q => by have := hX _ q; omega⟩
        have cyb := cell_box hyb
        obtain ⟨fn3, tmps3, assign3, body3, hy3, hR3⟩ := hY (m - 1) _ y g' o' sv' Ub hy' hv' hg' (by rw [List.length_append]; omega) ju
        gi_wp2
        refine ⟨fun h => (by cases h), (show RoundIn (Fence.wide.inRound (Vc.heap.size + 1)) (m - 1) Tryz.prog l fn3 tmps3 assign3 body3 Ub _ from hR3).mono ?_⟩
        rintro e U3 ⟨rfl, hj3, hk3⟩
        gi_wp2
        have hl3 := (hk3.2 _ hpl).trans hlb
        have hy4 := (hk3.2 _ hpy3).trans hyb
        refine ⟨hl3, ⟨?_, World.putObj_heap_same (Array.getElem?_eq_some_iff.1 hl3).1, (World.putObj_heap_other (by omega)).trans hy4⟩, hkb.trans ((hk3.mono fun _ q => .inl q).trans (kp_put _ (.inr rfl)))⟩
        have := hJ _ _ _ hj3 (grow_put (.loop (rec .ready)) (by omega) (not_w hl3 (by rintro _ _ ⟨⟩)))
        simpa using this
      · rintro e W5 ⟨hv5, ⟨hj5, hl5, hyb5⟩, hk5⟩
        refine ⟨hv5, hl5, ?_⟩
        have hj6 := hJ _ _ _ hj5 (grow_put (.loop (rec .exhausted)) (by omega) (not_w hl5 (by rintro _ _ ⟨⟩)))
        have hk6 : KpX (fun j => X j ∨ j = Vc.heap.size + 1) Vl (W5.putObj (Vc.heap.size + 1) (.loop (rec .exhausted))) := hk5.trans (kp_put _ (.inr rfl))
        generalize W5.putObj (Vc.heap.size + 1) (.loop (rec .exhausted)) = W6 at hj6 hk6 ⊢
        have hk7 : KpX X V W6 := ⟨Nat.le_trans hkVl.1 hk6.1, fun j hj => by
          have q1 := hkVl.prot hj
          have q2 : Prot (fun j => X j ∨ j = Vc.heap.size + 1) Vl j := ⟨q1.1, q1.2.1, fun q => q.elim q1.2.2 fun q => by have := hj.1; omega⟩
          exact (hk6.2 j q2).trans (hkVl.2 j hj)⟩
        have hpD : Prot (fun j => X j ∨ j = Vc.heap.size + 1) Vl Vc.heap.size := ⟨by omega, not_w hD (by rintro _ _ ⟨⟩), fun q => q.elim (fun q => by have := hX _ q; omega) fun q => by omega⟩
        have hD6 := (hk6.2 _ hpD).trans hD
        have hpD6 := hk6.prot hpD
        gi_wp2
        have hw : wrap64 ((k : Int) + 1) = ((k + 1 : Nat) : Int) := by
          unfold BL at hlen
          rw [Go.IntWalk.wrap64_in _ (by omega)]
          omega
        rw [hw]
        refine ⟨⟨k + 1, Vc.heap.size :: rs, ⟨rfl, rfl⟩, hlt, ?_, hkV.trans hk7, List.nodup_cons.2 ⟨fun q => ?_, hnd⟩, fun r q => ?_⟩, by rw [Int.toNat_natCast]; exact Nat.sub_lt_sub_left hlt (Nat.lt_succ_self k)⟩
        · have : (List.take (k + 1) (x.l.map preT)).flatten = (List.take k (x.l.map preT)).flatten ++ preT x.l[k] := by
            rw [List.take_add_one]; simp [hlt]
          rw [this]
          simpa using hj6
        · have := (hrs _ q).2.2.1.1; omega
        · rcases List.mem_cons.1 q with rfl | q
          · exact ⟨by omega, by omega, ⟨hpD6.1, hpD6.2.1, fun q => hpD6.2.2 (.inl q)⟩, hD6⟩
          · obtain ⟨q1, q2, q3, q4⟩ := hrs r q
            exact ⟨q1, q2, hk7.prot q3, (hk7.2 _ q3).trans q4⟩
    · have hke : k = x.l.length := by omega
      subst hke
      gi_wp2
      refine leaves_marks rs V hnd (fun r q => (hrs r q).2.2.2) fun w' e1 e2 e3 e4 e5 => ?_
      have gr : Grow b₁ V w' := ⟨e1, e2, e3, by omega, fun j hj h => e5 j fun q => h.elim (fun h => by have := (hrs j q).1; omega) (hrs j q).2.2.1.2.1⟩
      refine ⟨_, results_none rfl _ _ _, ⟨_, rfl⟩, ?_, ?_⟩
      · have := hJ _ _ _ hjV gr
        rw [preT_eq]
        rwa [List.take_length] at this
      · refine ⟨by have := (hk1.trans hkV).1; omega, fun j hj => ?_⟩
        have q := (hk1.trans hkV).2 j hj
        have hjr : j ∉ rs := fun q => by have := (hrs j q).2.1; have := hj.1; omega
        exact (e5 j hjr).trans q
end Go.Proofs.YtdjafnjmkkagjaaGreatDoor.Ir
