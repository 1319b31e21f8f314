/-
  A strings.Builder in a block of the run's own, for closed runs: copyCheck and String, told by contract. Conditions: the block is a builder's, or that of a struct of just one.
-/
import Derived.Test.YtpjocalboapglaaGreatDoorOx5
import Derived.Test.YtpjocalboapglaaGreatDoorChecked
import Derived.Lib.Builder
import Derived.Shelf.RegionOpenPlain
import Derived.Laws.Externs
import Derived.WalkKit
import Derived.Lib.Hide
import Derived.Lib.UnsafeStr
namespace Go.Proofs.YtpjocalboapglaaGreatDoor.Sx
open Go.RowKit
set_option maxRecDepth 100000
section
variable {P : Program} {w : World}
theorem liesAt_off {e : TypeId} (hc : P.cellsOf e = 1) (count off n : Nat) (hn : off + n ≤ count) : liesAt P P.depth e count off e n = true := by
  have hd : P.depth = (2 * (P.types.size + Made.depth) + 1) + 1 := rfl
  rw [hd]
  simp only [liesAt, Bool.or_eq_true]
  left
  rw [hd]
  simp [rowAt, hc, hn, sameLayout, Nat.mod_one]
theorem run_unsafeString_off (pt it ty e : TypeId) (hp : P.underlying pt = some (.pointer e)) (hc : P.cellsOf e = 1) (g o cells : Nat) (hsh : w.shape? g = some (e, cells)) (l : List UInt8) (h0 : l ≠ []) (hn : o + l.length ≤ cells) (h63 : l.length ≤ 9223372036854775807)
    (hcell : ∀ j x, l[j]? = some x → w.cell? ((⟨g, o, none⟩ : Addr).add j) = some (.int .u8 x.toNat)) :
    (Builtin.unsafeString_ #[pt, it] ty #[.pointer (some ⟨g, o, none⟩), .int .i64 l.length]).run P w = .ok (.string ⟨l.toArray⟩) (w.freeze ⟨g, o, none⟩ l.length) := by
  have hl : l.length ≠ 0 := by simpa using h0
  have hlb := Lib.run_loadBytes (P := P) w l ⟨g, o, none⟩ .empty hcell
  have hlies := liesAt_off (P := P) hc (cells / P.cellsOf e) o l.length (by rw [hc]; simpa using hn)
  have h63' : ¬ (9223372036854775807 : Int) < (l.length : Int) := by omega
  obtain ⟨m1, hdef⟩ : ∃ m1, Builtin.unsafeString_ #[pt, it] ty #[.pointer (some ⟨g, o, none⟩), .int .i64 l.length] =
      (do
        let n ← asInt (.int .i64 l.length)
        if n < 0 then runtimePanic (.error m1)
        if n > IntKind.i64.max then unsupported (.unsafePointer "String: a length above the largest int")
        if n = 0 then pure (.string .empty)
        else if ← variablesAt ⟨g, o, none⟩ (← elemOf pt) n.toNat then do
          let s ← loadBytes ⟨g, o, none⟩ .empty n.toNat
          freeze ⟨g, o, none⟩ n.toNat
          pure (.string s)
        else unsupported (.unsafePointer "String: not so many bytes at ptr")) := ⟨_, rfl⟩
  rw [hdef]
  have hmax : IntKind.i64.max = 9223372036854775807 := rfl
  have hneg : ¬ (l.length : Int) < 0 := by omega
  simp [asInt, asIntOf, hmax, h63', hneg, hl, variablesAt, hsh, elemOf, run_underlying hp, hlies, hlb]
end
set_option maxHeartbeats 1000000 in
theorem bcc_used (b : Nat) (w : World) (h0 : w.cell? ⟨b, 0, none⟩ = some (.pointer (some ⟨b, 0, none⟩))) :
    Calls Tryz.prog 45 #[.pointer (some ⟨b, 0, none⟩)] w fun e w' => e = .returned (.tuple #[]) ∧ w' = w := by
  go_enter Tryz.func45, Tryz.ntmps45
  go_wp2
  rw [Lib.run_neq_ptr_same w _ (tp := 62) (te := 65) (j := (Tryz.prog.info? 65).getD default) (by kernel_rfl) (by kernel_rfl)]
  go_wp2
  go_end0
  exact ⟨rfl, rfl⟩
set_option maxHeartbeats 1000000 in
theorem bcc_fresh (T : TypeId) (hT : liesAt Tryz.prog Tryz.prog.depth T (2 / Tryz.prog.cellsOf T) 0 65 1 = true) (b : Nat) (w : World) (h0 : w.cell? ⟨b, 0, none⟩ = some (.pointer none)) (hsh : w.shape? b = some (T, 2)) (hfz : w.frozen? ⟨b, 0, none⟩ = false) :
    Calls Tryz.prog 45 #[.pointer (some ⟨b, 0, none⟩)] w fun e w' => e = .returned (.tuple #[]) ∧ w' = w.setCell ⟨b, 0, none⟩ (.pointer (some ⟨b, 0, none⟩)) := by
  have hj : Tryz.prog.info? 65 = some ((Tryz.prog.info? 65).getD default) := by kernel_rfl
  have hjs : ((Tryz.prog.info? 65).getD default).size ≠ 0 := by
    have : ((Tryz.prog.info? 65).getD default).size = 2 := by kernel_rfl
    rw [this]; decide
  go_enter Tryz.func45, Tryz.ntmps45
  go_wp2
  rw [Lib.run_to_unsafe w ⟨b, 0, none⟩ (t := 65) (by kernel_rfl) (by kernel_rfl) hj hjs hsh (Nat.zero_lt_succ 1)]
  simp only [Result.andThen]
  rw [Oper.upon_value]
  go_wp2
  rw [run_callFunc_extern Tryz.func60 (by kernel_rfl) (by kernel_rfl) (by kernel_rfl) (e := Extern.AbiNoEscape.same) (by kernel_rfl)]
  rw [Lib.run_noEscape]
  simp only [Result.andThen]
  rw [Oper.upon_value]
  go_wp2
  rw [Lib.run_from_unsafe w ⟨b, 0, none⟩ (u := 65) (by kernel_rfl) (by kernel_rfl) hj hsh hT]
  simp only [Result.andThen]
  rw [Oper.upon_value]
  go_wp2
  go_end0
  exact ⟨rfl, rfl⟩
set_option maxHeartbeats 2000000 in
theorem bst_any (l : List UInt8) (h0 : l ≠ []) (h63 : l.length ≤ 1000000) (b g o cap : Nat) (cur : Array Value) (w : World) (c1 : w.cell? ⟨b, 1, none⟩ = some (.slice (some ⟨g, o, none⟩) l.length cap)) (hcap : l.length ≤ cap) (hg : w.heap[g]? = some (.cells cur 5 (0, 0))) (hn : o + l.length ≤ cur.size)
    (hcell : ∀ j x, l[j]? = some x → cur[o + j]? = some (.int .u8 x.toNat)) :
    Calls Tryz.prog 29 #[.pointer (some ⟨b, 0, none⟩)] w fun e w' => e = .returned (.string ⟨l.toArray⟩) ∧ w' = w.drew.freeze ⟨g, o, none⟩ l.length := by
  have hl0 : l.length ≠ 0 := by simpa using h0
  have c1 : w.drew.cell? ⟨b, 1, none⟩ = some (.slice (some ⟨g, o, none⟩) l.length cap) := c1
  have hSD : (Builtin.unsafeSliceData_ #[63] 91 #[.slice (some ⟨g, o, none⟩) l.length cap]).run Tryz.prog w.drew = .ok (.pointer (some ⟨g, o, none⟩)) w.drew :=
    Lib.run_unsafeSliceData_row _ _ _ _ _ _ (by omega)
  have hUS : (Builtin.unsafeString_ #[91, 3] 9 #[.pointer (some ⟨g, o, none⟩), .int .i64 l.length]).run Tryz.prog w.drew = .ok (.string ⟨l.toArray⟩) (w.drew.freeze ⟨g, o, none⟩ l.length) := by
    have hg' : w.drew.heap[g]? = some (.cells cur 5 (0, 0)) := hg
    refine run_unsafeString_off (w := w.drew) 91 3 9 5 (by kernel_rfl) (by kernel_rfl) g o cur.size (by simp [World.shape?, hg']) l h0 hn (by omega) ?_
    intro j x hx
    have := hcell j x hx
    rw [addr_add]
    simp [World.cell?, hg', this]
  have mixed : Tryz.prog.follows .mixedOrders = true := by kernel_rfl
  have HL := Lib.hid h63
  clear h63
  go_enter Tryz.func29, Tryz.ntmps29
  go_wp2
  go_region_o
  all_goals (go_wp2; go_ret; exact ⟨rfl, rfl⟩)

theorem bcc_ok {ρ : Cx} {B : Nat} {tys : List Nat} (hT : ∀ T, T ∈ tys → liesAt Tryz.prog Tryz.prog.depth T (2 / Tryz.prog.cellsOf T) 0 65 1 = true) : OneOk Tryz.prog ρ B 45 (bccOrc tys) := by
  intro args h v h' hx
  unfold bccOrc at hx
  split at hx
  · rename_i k off
    have hq := cond_none hx; clear hx; obtain ⟨c1, hx⟩ := hq
    obtain rfl := Nat.eq_of_beq_eq_true c1
    split at hx
    · rename_i x y ty e1
      have hq := cond_none hx; clear hx; obtain ⟨c2, hx⟩ := hq
      have hTy := hT _ (memTy_iff c2)
      split at hx
      · have hq := cond_none hx; clear hx; obtain ⟨c3, hx⟩ := hq
        cases hx
        have tf := TF.wrt (b := .bd [.p k 0, y] ty) (blt_lt c3) e1 fun _ => trivial
        refine ⟨tf, fun _ => ⟨enter_of' Tryz.func45 (by kernel_rfl) (by kernel_rfl), fun D σ w vs hr hg hf hd hv => ?_⟩⟩
        have hdk : D k := hd k (List.mem_cons_self ..) (hr.wf k _ e1)
        obtain ⟨v1, r1, hv1, ⟨yy, hy, rfl⟩, rfl⟩ := hv
        obtain ⟨y', c, b1, b2, b3, b4, b4', b5, b6⟩ := hr.blk k _ hdk e1
        rw [hy] at b1; cases b1
        obtain ⟨⟨b⟩, hb⟩ : ∃ b : Array Value, b = vs := ⟨vs, rfl⟩
        have hvs : vs = #[.pointer (some ⟨yy.1, 0, none⟩)] := Array.toList_inj.1 (by rw [hv1, b4])
        subst hvs
        obtain ⟨x0, q1, q2⟩ := b6 0 _ rfl
        have hc0 : w.cell? ⟨yy.1, 0, none⟩ = some (.pointer none) := by rw [cell_at b2, q1, show x0 = .pointer none from q2]
        have hsz : c.size = 2 := b5
        refine (bcc_fresh ty hTy yy.1 w hc0 (by simp [World.shape?, b2, hsz]) (by simp [World.frozen?, b2])).mono ?_
        rintro e w' ⟨rfl, rfl⟩
        obtain ⟨s0, s1, s2, s3⟩ := setCell_at (o := 0) b2 (.pointer (some ⟨yy.1, 0, none⟩))
        refine ⟨σ, _, rfl, ⟨#[], rfl, rfl⟩, tr_wrt hr hdk e1 trivial (blt_lt c3) hy s0 s1 s2 ⟨yy, _, hy, s3, b3, b4, by simpa using b4', by simpa using b5, fun j t ht => ?_⟩⟩
        match j, ht with
        | 0, ht =>
          cases ht
          exact ⟨.pointer (some ⟨yy.1, 0, none⟩), by simp [hsz], yy, hy, by rw [b4]⟩
        | 1, ht =>
          cases ht
          obtain ⟨x1, z1, z2⟩ := b6 1 _ rfl
          exact ⟨x1, by simpa using z1, z2⟩
        | j + 2, ht => simp at ht
      · rename_i k' o'
        have hq := cond_none hx; clear hx; obtain ⟨c3, hx⟩ := hq
        have hq := cond_none hx; clear hx; obtain ⟨c4, hx⟩ := hq
        cases hx
        obtain rfl := Nat.eq_of_beq_eq_true c3
        obtain rfl := Nat.eq_of_beq_eq_true c4
        refine ⟨TF.see _ _, fun _ => ⟨enter_of' Tryz.func45 (by kernel_rfl) (by kernel_rfl), fun D σ w vs hr hg hf hd hv => ?_⟩⟩
        have hdk := hd _ (List.mem_cons_self ..) (hr.wf _ _ e1)
        obtain ⟨v1, r1, hv1, ⟨yy, hy, rfl⟩, rfl⟩ := hv
        obtain ⟨y', c, b1, b2, b3, b4, b4', b5, b6⟩ := hr.blk _ _ hdk e1
        rw [hy] at b1; cases b1
        have hvs : vs = #[.pointer (some ⟨yy.1, 0, none⟩)] := Array.toList_inj.1 (by rw [hv1, b4])
        subst hvs
        obtain ⟨x0, q1, yz, q2, q3⟩ := b6 0 _ rfl
        rw [hy] at q2; cases q2
        have hc0 : w.cell? ⟨yy.1, 0, none⟩ = some (.pointer (some ⟨yy.1, 0, none⟩)) := by rw [cell_at b2, q1, q3, b4]
        refine (bcc_used yy.1 w hc0).mono ?_
        rintro e w' ⟨rfl, rfl⟩
        exact ⟨σ, _, rfl, ⟨#[], rfl, rfl⟩, tr_same hr rfl rfl⟩
      · cases hx
    · cases hx
  · cases hx
theorem bst_ok {ρ : Cx} {B : Nat} {tys : List Nat} : OneOk Tryz.prog ρ B 29 (bstOrc 5 tys) := by
  intro args h v h' hx
  unfold bstOrc at hx
  split at hx
  · rename_i k off
    have hq := cond_none hx; clear hx; obtain ⟨c1, hx⟩ := hq
    obtain rfl := Nat.eq_of_beq_eq_true c1
    split at hx
    · rename_i x g o len cap rest ty e1
      have hq := cond_none hx; clear hx; obtain ⟨c2, hx⟩ := hq
      split at hx
      · rename_i l bty e2
        have hq := cond_none hx; clear hx; obtain ⟨d1, hx⟩ := hq
        have hq := cond_none hx; clear hx; obtain ⟨d2, hx⟩ := hq
        have hq := cond_none hx; clear hx; obtain ⟨d3, hx⟩ := hq
        have hq := cond_none hx; clear hx; obtain ⟨d4, hx⟩ := hq
        have hq := cond_none hx; clear hx; obtain ⟨d5, hx⟩ := hq
        have hq := cond_none hx; clear hx; obtain ⟨d6, hx⟩ := hq
        split at hx
        · rename_i bs e3
          cases hx
          obtain rfl := Nat.eq_of_beq_eq_true d1
          have d2 := Nat.le_of_ble_eq_true d2
          have d3 := blt_lt d3
          have d4 := blt_lt d4
          have d5 := Nat.le_of_ble_eq_true d5
          have tf := (TF.see h k).trans (TF.wrt (h := h.see k) (b := .dead) (blt_lt d6) e2 fun (x : TB.own .dead) => False.elim x)
          refine ⟨tf, fun _ => ⟨enter_of' Tryz.func29 (by kernel_rfl) (by kernel_rfl), fun D σ w vs hr hg hf hd hv => ?_⟩⟩
          have hdk : D k := hd k (List.mem_cons_of_mem _ (List.mem_cons_self ..)) (hr.wf k _ e1)
          have hdg : D g := hd g (List.mem_cons_self ..) (hr.wf g _ e2)
          obtain ⟨v1, r1, hv1, ⟨yy, hy, rfl⟩, rfl⟩ := hv
          obtain ⟨y', c, b1, b2, b3, b4, b4', b5, b6⟩ := hr.blk k _ hdk e1
          rw [hy] at b1; cases b1
          have hvs : vs = #[.pointer (some ⟨yy.1, 0, none⟩)] := Array.toList_inj.1 (by rw [hv1, b4])
          subst hvs
          obtain ⟨x1, q1, yg, cc, q2, rfl, q4, _, q5, q6⟩ := b6 1 _ rfl
          obtain ⟨y', cg, fz, g1, g2, g3, _, g4, g5, g6⟩ := hr.blk g _ hdg e2
          rw [q2] at g1; cases g1
          obtain ⟨_, rfl⟩ := g3 rfl
          obtain ⟨p1, p2, p3⟩ := byteTVs_ok (ρ := ρ) (σ := σ) e3
          have hlen : bs.length = len := by rw [p1, List.length_take, List.length_drop]; omega
          have hL : (bs.map UInt8.ofNat).length = len := by rw [List.length_map, hlen]
          refine ((bst_any (bs.map UInt8.ofNat) (by intro q; have := congrArg List.length q; rw [hL] at this; simp at this; omega) (by rw [hL]; omega) yy.1 yg.1 (yg.2.1 + o) cc cg w (by rw [cell_at b2, q1, hL]) (by rw [hL]; omega) g2 (by rw [hL]; omega) (fun j x hj => ?_))).mono ?_
          · rw [List.getElem?_map, Option.map_eq_some_iff] at hj
            obtain ⟨n, n1, rfl⟩ := hj
            obtain ⟨n2, t, t1, t2⟩ := p3 j n n1
            have hj : j < len := by have := (List.getElem?_eq_some_iff.1 n1).1; omega
            rw [List.getElem?_take_of_lt hj, List.getElem?_drop] at t1
            obtain ⟨u, u1, u2⟩ := g6 _ _ t1
            have := t2 u u2
            subst this
            rw [Nat.add_assoc, u1, UInt8.toNat_ofNat']
            rw [Nat.mod_eq_of_lt (by omega)]
          · rintro e w' ⟨rfl, rfl⟩
            refine ⟨σ, _, rfl, ⟨rfl, p2⟩, ?_⟩
            have t0 := tr_same (h' := h.see k) hr rfl rfl
            have hz : (bs.map UInt8.ofNat).length ≠ 0 := by rw [hL]; omega
            have hwd : ∀ j, j ≠ yg.1 → (w.drew.freeze ⟨yg.1, yg.2.1 + o, none⟩ (bs.map UInt8.ofNat).length).heap[j]? = w.heap[j]? := fun j hj => by
              unfold World.freeze
              rw [if_neg hz]
              simp only [Array.getElem?_modify]
              rw [if_neg (Ne.symm hj)]
              rfl
            have hou : Out w (w.drew.freeze ⟨yg.1, yg.2.1 + o, none⟩ (bs.map UInt8.ofNat).length) := by unfold World.freeze; rw [if_neg hz]; exact ⟨rfl, rfl, rfl⟩
            have hsz : (w.drew.freeze ⟨yg.1, yg.2.1 + o, none⟩ (bs.map UInt8.ofNat).length).heap.size = w.heap.size := by unfold World.freeze; rw [if_neg hz]; exact Array.size_modify ..
            exact Tr.of_tr (h := h) (tr_wrt (h := h.see k) (b := .dead) (hr.of_tr rfl rfl) hdg e2 rfl (blt_lt d6) q2 hou hsz hwd trivial) rfl rfl
        · cases hx
      · cases hx
    · cases hx
  · cases hx
end Go.Proofs.YtpjocalboapglaaGreatDoor.Sx
