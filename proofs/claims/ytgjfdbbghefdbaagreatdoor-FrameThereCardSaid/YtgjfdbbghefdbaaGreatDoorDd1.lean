/-
  Data of open runs out of what can be read: for every type of numbers, truths, texts, structs and slices. Generic. No condition.
-/
import Derived.Test.YtgjfdbbghefdbaaGreatDoorRd1
import Derived.Test.YtgjfdbbghefdbaaGreatDoorOx5
namespace Go.Proofs.YtgjfdbbghefdbaaGreatDoor.Dd
open Go.RowKit Sx Rdb

def okKind (k : IntKind) : Bool := decide (-9223372036854775808 ≤ k.min) && decide (k.max ≤ 9223372036854775807)
def catKds (P : Program) (g : TypeId → Option (List Kd)) : List (TypeId × Nat) → Nat → Option (List Kd)
  | [], _ => some []
  | (t, o) :: r, n => match g t with
    | some ks => bif Nat.beq o n && Nat.beq (P.cellsOf t) ks.length then (match catKds P g r (n + ks.length) with | some l => some (ks ++ l) | none => none) else none
    | none => none
/-- What a type's cells are. -/
def kdsOf (P : Program) : Nat → TypeId → Option (List Kd)
  | 0, _ => none
  | f + 1, T => match P.underlying T with
    | some .bool => some [.b]
    | some (.int k) => bif okKind k then some [.i k] else none
    | some .string => some [.s]
    | some (.slice E) => some [.sl E]
    | some (.struct fs) => match catKds P (kdsOf P f) (fs.toList.map fun f => (f.type, f.offset)) 0 with
      | some ks => bif Nat.beq (P.cellsOf T) ks.length then some ks else none
      | none => none
    | _ => none
/-- Data whose numbers and lengths are in range. -/
inductive Dok : Dat → Prop where
  | mk (d : Dat) (h0 : -9223372036854775808 ≤ d.int ∧ d.int ≤ 9223372036854775807) (hs : d.str.length ≤ 140737488355328) (h1 : d.rows.length ≤ 140737488355328) (h2 : ∀ row, row ∈ d.rows → ∀ u, u ∈ row → Dok u) : Dok d
theorem Dok.int {d : Dat} (h : Dok d) : -9223372036854775808 ≤ d.int ∧ d.int ≤ 9223372036854775807 := by cases h with | mk _ h _ _ _ => exact h
theorem Dok.str {d : Dat} (h : Dok d) : d.str.length ≤ 140737488355328 := by cases h with | mk _ _ h _ _ => exact h
theorem Dok.len {d : Dat} (h : Dok d) : d.rows.length ≤ 140737488355328 := by cases h with | mk _ _ _ h _ => exact h
theorem Dok.sub {d : Dat} (h : Dok d) {row : List Dat} (hr : row ∈ d.rows) {u : Dat} (hu : u ∈ row) : Dok u := by cases h with | mk _ _ _ _ h => exact h row hr u hu
theorem z1 : -9223372036854775808 ≤ (0 : Int) ∧ (0 : Int) ≤ 9223372036854775807 := by decide
theorem z2 : (0 : Nat) ≤ 140737488355328 := by decide
theorem Dok.o : Dok .o := .mk _ z1 z2 z2 fun _ h => by cases h
theorem Dok.at {d : Dat} (h : Dok d) {row : List Dat} (hr : row ∈ d.rows) (j : Nat) : Dok (row.getD j .o) := by
  rw [List.getD_eq_getElem?_getD]
  cases e : row[j]? with
  | none => exact .o
  | some u => exact h.sub hr (List.mem_of_getElem? e)
/-- Cells that read as a row of data. -/
structure Good (lay : Nat → List Kd) (M : Mem) (ks : List Kd) (row : List Dat) (cs : List Value) : Prop where
  l1 : row.length = ks.length
  l2 : cs.length = ks.length
  dr : ∀ (j : Nat) (k : Kd) (u : Dat) (v : Value), ks[j]? = some k → row[j]? = some u → cs[j]? = some v → DR lay M k u v
theorem Good.one {lay : Nat → List Kd} {M : Mem} {k : Kd} {u : Dat} {v : Value} (h : DR lay M k u v) : Good lay M [k] [u] [v] := ⟨rfl, rfl, fun j k u v h1 h2 h3 => by
  cases j with
  | zero => cases h1; cases h2; cases h3; exact h
  | succ j => cases h1⟩
theorem Good.app {lay : Nat → List Kd} {M : Mem} {k1 k2 : List Kd} {r1 r2 : List Dat} {c1 c2 : List Value} (h : Good lay M k1 r1 c1) (g : Good lay M k2 r2 c2) : Good lay M (k1 ++ k2) (r1 ++ r2) (c1 ++ c2) := by
  have e1 := h.l1; have e2 := h.l2; have e3 := g.l1; have e4 := g.l2
  refine ⟨by simp [e1, e3], by simp [e2, e4], fun j k u v h1 h2 h3 => ?_⟩
  rw [List.getElem?_append] at h1 h2 h3
  rw [e1] at h2
  rw [e2] at h3
  split at h1
  · rename_i hj
    rw [if_pos hj] at h2 h3
    exact h.dr j k u v h1 h2 h3
  · rename_i hj
    rw [if_neg hj] at h2 h3
    exact g.dr _ k u v h1 h2 h3
theorem Good.nil {lay : Nat → List Kd} {M : Mem} : Good lay M [] [] [] := ⟨rfl, rfl, fun _ _ _ _ h => by cases h⟩
def AllOk (row : List Dat) : Prop := ∀ u, u ∈ row → Dok u
theorem AllOk.at {row : List Dat} (h : AllOk row) (j : Nat) : Dok (row.getD j .o) := by
  rw [List.getD_eq_getElem?_getD]
  cases e : row[j]? with
  | none => exact .o
  | some u => exact h _ (List.mem_of_getElem? e)
def ns (s : ByteArray) : List Nat := s.data.toList.map (·.toNat)
theorem nats_okS (s : ByteArray) : okS (ns s) = true ∧ bytesOf (ns s) = s := by
  unfold ns
  refine ⟨?_, ?_⟩
  · generalize s.data.toList = l
    induction l with
    | nil => rfl
    | cons x r ih =>
      have h : Nat.blt x.toNat 256 = true := by rw [Nat.blt_eq]; exact x.toNat_lt
      show cond (Nat.blt x.toNat 256) (okS (r.map (·.toNat))) false = true
      rw [h]; exact ih
  · unfold bytesOf
    rw [List.map_map]
    have : (s.data.toList.map (UInt8.ofNat ∘ (·.toNat))) = s.data.toList := by
      conv => rhs; rw [← List.map_id s.data.toList]
      exact List.map_congr_left fun x _ => by simp
    rw [this]
section
variable {P : Program} {w : World} {lay : Nat → List Kd}
theorem mem_cell {w : World} {g j : Nat} {v : Value} (h : w.cell? ⟨g, j, none⟩ = some v) : ∃ cs, memOf w g = some cs ∧ cs[j]? = some v := by
  unfold World.cell? at h
  split at h
  · rename_i cs ty fz hh
    exact ⟨cs, memOf_at hh, by simpa using h⟩
  · cases h
theorem cat_dr {g : TypeId → Option (List Kd)} {m : Nat} {cs : List Value} {p : Kd → Bool} (hg : ∀ t ks c, g t = some ks → ks.all p = true → Rd P w m t c → ∃ row, Good lay (memOf w) ks row c ∧ AllOk row) : ∀ (L : List (TypeId × Nat)) (o : Nat) (ks : List Kd), catKds P g L o = some ks → ks.all p = true →
    (∀ (i : Nat) (t off : Nat), L[i]? = some (t, off) → Rd P w m t ((cs.drop off).take (P.cellsOf t))) → cs.length = o + ks.length → ∃ row, Good lay (memOf w) ks row (cs.drop o) ∧ AllOk row
  | [], o, ks, h, _, _, hl => by
    cases h
    have : cs.drop o = [] := List.drop_eq_nil_of_le (by simp at hl; omega)
    rw [this]
    exact ⟨[], .nil, fun _ h => by cases h⟩
  | (t, off) :: r, o, ks, h, hp, hr, hl => by
    unfold catKds at h
    split at h
    · rename_i k1 hk
      cases hb : (Nat.beq off o && Nat.beq (P.cellsOf t) k1.length) with
      | false => rw [hb] at h; cases h
      | true =>
        rw [hb] at h
        rw [Bool.and_eq_true] at hb
        have ho : off = o := Nat.eq_of_beq_eq_true hb.1
        have hc : P.cellsOf t = k1.length := Nat.eq_of_beq_eq_true hb.2
        subst ho
        simp only [cond_true] at h
        split at h
        · rename_i k2 hk2
          cases h
          rw [List.all_append, Bool.and_eq_true] at hp
          have h0 := hr 0 t off rfl
          rw [hc] at h0
          obtain ⟨r1, g1, a1⟩ := hg t k1 _ hk hp.1 h0
          rw [List.length_append] at hl
          obtain ⟨r2, g2, a2⟩ := cat_dr hg r (off + k1.length) k2 hk2 hp.2 (fun i t o h => hr (i + 1) t o h) (by omega)
          have e : cs.drop off = (cs.drop off).take k1.length ++ cs.drop (off + k1.length) := by
            rw [← List.drop_drop, List.take_append_drop]
          rw [e]
          exact ⟨r1 ++ r2, g1.app g2, fun u hu => by
            rcases List.mem_append.1 hu with q | q
            · exact a1 u q
            · exact a2 u q⟩
        · cases h
    · cases h
/-- The rows' kinds are as the types say. -/
def LayOk (P : Program) (lay : Nat → List Kd) (Es : List TypeId) : Prop := ∀ E, E ∈ Es → kdsOf P 9 E = some (lay E) ∧ P.cellsOf E = (lay E).length ∧ 0 < P.bytesOf E ∧ 0 < (lay E).length
def inEs (Es : List TypeId) : Kd → Bool
  | .sl E => Es.any (Nat.beq E)
  | _ => true
theorem rd_good {Es : List TypeId} (hL : LayOk P lay Es) (hEs : ∀ E, E ∈ Es → (lay E).all (inEs Es) = true) : ∀ (n f : Nat) (T : TypeId) (ks : List Kd) (cs : List Value), kdsOf P f T = some ks → ks.all (inEs Es) = true → Rd P w n T cs → ∃ row, Good lay (memOf w) ks row cs ∧ AllOk row
  | 0, _, _, _, _, _, _, h => h.elim
  | n + 1, 0, _, _, _, h, _, _ => by cases h
  | n + 1, f + 1, T, ks, cs, hk, hin, h => by
    unfold kdsOf at hk
    unfold Rd at h
    split at hk
    · rename_i hT
      cases hk
      rw [hT] at h
      obtain ⟨b, rfl⟩ := h
      exact ⟨[.b b], .one (.b (.b b)), fun u hu => by
        obtain rfl := List.mem_singleton.1 hu
        exact .mk _ z1 z2 z2 fun _ h => by cases h⟩
    · rename_i k hT
      cases hb : okKind k with
      | false => rw [hb] at hk; cases hk
      | true =>
        rw [hb] at hk
        cases hk
        rw [hT] at h
        obtain ⟨i, rfl, hw⟩ := h
        unfold okKind at hb
        rw [Bool.and_eq_true] at hb
        have b1 := of_decide_eq_true hb.1
        have b2 := of_decide_eq_true hb.2
        have hr : k.min ≤ i ∧ i ≤ k.max := by simpa [Lit.wf] using hw
        exact ⟨[.i i], .one (.i k (.i i)), fun u hu => by
          obtain rfl := List.mem_singleton.1 hu
          exact .mk _ ⟨Int.le_trans b1 hr.1, Int.le_trans hr.2 b2⟩ z2 z2 fun _ h => by cases h⟩
    · rename_i hT
      cases hk
      rw [hT] at h
      obtain ⟨s, rfl, hs⟩ := h
      obtain ⟨q1, q2⟩ := nats_okS s
      refine ⟨[.s (ns s)], .one ?_, fun u hu => ?_⟩
      · have := DR.s (lay := lay) (M := memOf w) (.s (ns s)) q1
        rwa [show bytesOf (Dat.s (ns s)).str = s from q2] at this
      · obtain rfl := List.mem_singleton.1 hu
        refine .mk _ z1 ?_ z2 fun _ h => by cases h
        show (ns s).length ≤ _
        have e : (ns s).length = s.size := by unfold ns; rw [List.length_map, Array.length_toList]; rfl
        rw [e]
        unfold reachBytes at hs
        omega
    · rename_i E hT
      cases hk
      rw [hT] at h
      obtain ⟨p, len, cap, rfl, hlc, hby, hel⟩ := h
      have hE : E ∈ Es := by
        have := List.all_eq_true.1 hin (.sl E) (List.mem_singleton.2 rfl)
        obtain ⟨x, x1, x2⟩ := List.any_eq_true.1 this
        rw [Nat.eq_of_beq_eq_true x2]; exact x1
      obtain ⟨l1, l2, l3, l4⟩ := hL E hE
      have hlen : len ≤ 140737488355328 := by
        have : len * 1 ≤ len * P.bytesOf E := Nat.mul_le_mul_left _ l3
        unfold reachBytes at hby
        omega
      rw [l2] at hel
      have each : ∀ i, ∃ q : List Dat × List Value, i < len → (∃ g o, p = some ⟨g, o, none⟩ ∧ ∀ (j : Nat) (u : Value), q.2[j]? = some u → w.cell? ⟨g, o + i * (lay E).length + j, none⟩ = some u) ∧ Good lay (memOf w) (lay E) q.1 q.2 ∧ AllOk q.1 := fun i => by
        by_cases hi : i < len
        · obtain ⟨g, o, es, e1, e2, e3, e4⟩ := hel i hi l4
          obtain ⟨row, g1, g2⟩ := rd_good hL hEs n 9 E (lay E) es l1 (hEs E hE) e4
          exact ⟨(row, es), fun _ => ⟨⟨g, o, e1, e3⟩, g1, g2⟩⟩
        · exact ⟨([], []), fun h => absurd h hi⟩
      obtain ⟨Q, hQ⟩ := Classical.axiomOfChoice each
      have hrows : ((List.range len).map fun i => (Q i).1).length = len := by simp
      have hat : ∀ i row, ((List.range len).map fun i => (Q i).1)[i]? = some row → i < len ∧ row = (Q i).1 := fun i row h => by
        rw [List.getElem?_map, Option.map_eq_some_iff] at h
        obtain ⟨a, h1, h2⟩ := h
        obtain ⟨h3, h4⟩ := List.getElem?_eq_some_iff.1 h1
        simp at h3 h4
        subst h4
        exact ⟨h3, h2.symm⟩
      refine ⟨[.r ((List.range len).map fun i => (Q i).1)], .one ?_, fun u hu => ?_⟩
      · cases len with
        | zero => exact .nil _ _ _ _ rfl
        | succ len =>
          obtain ⟨⟨g, o, rfl, _⟩, _, _⟩ := hQ 0 (by omega)
          have key : DR lay (memOf w) (.sl E) (.r ((List.range (len + 1)).map fun i => (Q i).1)) (.slice (some ⟨g, o, none⟩) (Dat.r ((List.range (len + 1)).map fun i => (Q i).1)).rows.length cap) := by
            refine .sl _ _ g o cap (fun i j => (Q i).2.getD j undef) (by show _ ≤ cap; rw [show (Dat.r ((List.range (len + 1)).map fun i => (Q i).1)).rows.length = len + 1 from hrows]; exact hlc) (fun i row hi => ?_) (fun i row hi j hj => ?_) (fun i row hi j k u hk hu => ?_)
            · obtain ⟨h1, rfl⟩ := hat i row hi
              exact (hQ i h1).2.1.l1
            · obtain ⟨h1, rfl⟩ := hat i row hi
              obtain ⟨⟨g', o', e1, e2⟩, e3, _⟩ := hQ i h1
              cases e1
              have hj' : j < (Q i).2.length := by rw [e3.l2]; exact hj
              have := e2 j _ (List.getElem?_eq_getElem hj')
              rw [List.getD_eq_getElem?_getD, List.getElem?_eq_getElem hj']
              exact mem_cell this
            · obtain ⟨h1, rfl⟩ := hat i row hi
              obtain ⟨_, e3, _⟩ := hQ i h1
              have hj : j < (lay E).length := (List.getElem?_eq_some_iff.1 hk).1
              have hj' : j < (Q i).2.length := by rw [e3.l2]; exact hj
              refine e3.dr j k u _ hk hu ?_
              rw [List.getD_eq_getElem?_getD, List.getElem?_eq_getElem hj']
              rfl
          rw [show (Dat.r ((List.range (len + 1)).map fun i => (Q i).1)).rows.length = len + 1 from hrows] at key
          exact key
      · obtain rfl := List.mem_singleton.1 hu
        refine .mk _ z1 z2 ?_ fun row hrow u hu => ?_
        · show ((List.range len).map fun i => (Q i).1).length ≤ _
          rw [hrows]; exact hlen
        · have hrow : row ∈ (List.range len).map fun i => (Q i).1 := hrow
          obtain ⟨i, hi, rfl⟩ := List.mem_map.1 hrow
          exact (hQ i (List.mem_range.1 hi)).2.2 u hu
    · rename_i fs hT
      rw [hT] at h
      obtain ⟨h1, h2⟩ := h
      split at hk
      · rename_i ks' hc
        cases hb : Nat.beq (P.cellsOf T) ks'.length with
        | false => rw [hb] at hk; cases hk
        | true =>
          rw [hb] at hk
          cases hk
          have hlen : cs.length = ks.length := h1.trans (Nat.eq_of_beq_eq_true hb)
          have key := cat_dr (lay := lay) (w := w) (P := P) (m := n) (cs := cs) (g := kdsOf P f) (p := inEs Es) (fun t k1 c hk1 hp hr => rd_good hL hEs n f t k1 c hk1 hp hr) _ 0 ks hc hin (fun i t off hi => by
            rw [List.getElem?_map, Option.map_eq_some_iff] at hi
            obtain ⟨fl, f1, f2⟩ := hi
            cases f2
            exact h2 i fl (by simpa using f1)) (by omega)
          simpa using key
      · cases hk
    · cases hk
end
section
variable {ρ : Cx} {M : Mem}
theorem vr_kd {k : Kd} {d : Dat} {v : Value} (h : DR ρ.lay M k d v) : VR ρ (bare M) (kdTV k d) v := by
  cases h with
  | i k d => rfl
  | s d h => exact ⟨rfl, h⟩
  | b d => rfl
  | fn d => exact ⟨#[], #[], rfl, rfl, rfl⟩
  | nil T d p c h => exact .nil T d p c h
  | sl T d b o c val h1 h2 h3 h4 => exact .sl T d b o c val h1 h2 h3 h4
theorem kd_vr {k : Kd} (hk : k ≠ .o ∧ k ≠ .fn) {d : Dat} {v : Value} (h : VR ρ (bare M) (kdTV k d) v) : DR ρ.lay M k d v := by
  cases k with
  | i k => obtain rfl : v = .int k d.int := h; exact .i k d
  | s => obtain ⟨rfl, h⟩ := h; exact .s d h
  | b => obtain rfl : v = .bool d.bool := h; exact .b d
  | sl T => exact h
  | fn => exact absurd rfl hk.2
  | o => exact absurd rfl hk.1
theorem vrs_kd : ∀ (ks : List Kd) (row : List Dat) (cs : List Value) (off : Nat), cs.length = ks.length → (∀ (j : Nat) (k : Kd) (v : Value), ks[j]? = some k → cs[j]? = some v → DR ρ.lay M k (row.getD (off + j) .o) v) → VRs ρ (bare M) (kdTVs ks row off ks.length) cs
  | [], _, cs, _, h, _ => List.eq_nil_of_length_eq_zero h
  | k :: r, row, [], _, h, _ => by cases h
  | k :: r, row, v :: cs, off, h, hd => ⟨v, cs, rfl, vr_kd (by simpa using hd 0 k v rfl rfl), vrs_kd r row cs (off + 1) (by simpa using h) fun j k v h1 h2 => by
      have := hd (j + 1) k v h1 h2
      rwa [show off + (j + 1) = off + 1 + j by omega] at this⟩
theorem kd_vrs : ∀ (ks : List Kd) (row : List Dat) (cs : List Value) (off : Nat), (∀ k, k ∈ ks → k ≠ .o ∧ k ≠ .fn) → VRs ρ (bare M) (kdTVs ks row off ks.length) cs → cs.length = ks.length ∧ ∀ (j : Nat) (k : Kd) (v : Value), ks[j]? = some k → cs[j]? = some v → DR ρ.lay M k (row.getD (off + j) .o) v
  | [], _, cs, _, _, h => by
    obtain rfl : cs = [] := h
    exact ⟨rfl, fun _ _ _ h => by cases h⟩
  | k :: r, row, cs, off, hk, h => by
    obtain ⟨v, q, rfl, h1, h2⟩ := h
    obtain ⟨h3, h4⟩ := kd_vrs r row q (off + 1) (fun k hk' => hk k (List.mem_cons_of_mem _ hk')) h2
    refine ⟨by simp [h3], fun j k' v' e1 e2 => ?_⟩
    cases j with
    | zero => cases e1; cases e2; exact kd_vr (hk _ (List.mem_cons_self ..)) h1
    | succ j =>
      have := h4 j k' v' e1 e2
      rwa [show off + 1 + j = off + (j + 1) by omega] at this
theorem good_vrs {ks : List Kd} {row : List Dat} {cs : List Value} (h : Good ρ.lay M ks row cs) : VRs ρ (bare M) (kdTVs ks row 0 ks.length) cs :=
  vrs_kd ks row cs 0 h.l2 fun j k v h1 h2 => by
    have hj : j < row.length := by rw [h.l1]; exact (List.getElem?_eq_some_iff.1 h1).1
    rw [Nat.zero_add, List.getD_eq_getElem?_getD, List.getElem?_eq_getElem hj]
    exact h.dr j k _ v h1 (List.getElem?_eq_getElem hj) h2
theorem vrs_good {ks : List Kd} {row : List Dat} {cs : List Value} (hr : row.length = ks.length) (hk : ∀ k, k ∈ ks → k ≠ .o ∧ k ≠ .fn) (h : VRs ρ (bare M) (kdTVs ks row 0 ks.length) cs) : Good ρ.lay M ks row cs := by
  obtain ⟨h1, h2⟩ := kd_vrs ks row cs 0 hk h
  refine ⟨hr, h1, fun j k u v e1 e2 e3 => ?_⟩
  have := h2 j k v e1 e3
  rw [Nat.zero_add, List.getD_eq_getElem?_getD, e2] at this
  exact this
end
end Go.Proofs.YtgjfdbbghefdbaaGreatDoor.Dd
