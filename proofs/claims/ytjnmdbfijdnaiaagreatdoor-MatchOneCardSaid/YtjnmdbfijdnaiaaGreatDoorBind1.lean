/-
  Names bound to terms as they lie in memory; slices.IndexFunc, ContainsFunc at trees and at names. Conditions: the trees lie as 'Kids' says, the names as 'Binds' says.
-/
import Derived.Test.YtjnmdbfijdnaiaaGreatDoorAst16
namespace Go.Proofs.YtjnmdbfijdnaiaaGreatDoor
open Go.RowKit

/-- A name and its term. -/
structure Bd where
  s : ByteArray
  t : Tr

/-- A bind's six cells. -/
def BindAt (F : Nat → Prop) (w : World) (p : Option Addr) (i : Nat) (b : Bd) : Prop := ∃ g o sv, p = some ⟨g, o, none⟩ ∧ F g ∧ w.cell? ⟨g, o + i * 6, none⟩ = some (.string b.s) ∧ b.s.size ≤ BL * 64 ∧ NodeAt w g (o + i * 6 + 1) b.t sv ∧ TrV F w b.t sv
/-- A slice of binds. -/
def Binds (F : Nat → Prop) (w : World) (v : Value) (l : List Bd) : Prop := ∃ p c, v = .slice p l.length c ∧ l.length ≤ c ∧ l.length ≤ BL ∧ (∀ i (h : i < l.length), BindAt F w p i l[i]) ∧ (p = none → c = 0)

theorem BindAt.keep {F : Nat → Prop} {w w' : World} {p : Option Addr} {i : Nat} {b : Bd} (h : BindAt F w p i b) (hb : ∀ g, F g → g < w.heap.size → w'.heap[g]? = w.heap[g]?) : BindAt F w' p i b := by
  obtain ⟨g, o, sv, h1, h2, h3, h4, h5, h6⟩ := h
  exact ⟨g, o, sv, h1, h2, (World.cell?_of_block (a := ⟨g, o + i * 6, none⟩) (hb g h2 (cell_block h3))).trans h3, h4, h5.keep (hb g h2 h5.lt), h6.wf, h6.kids.keep hb⟩
theorem Binds.keep {F : Nat → Prop} {w w' : World} {v : Value} {l : List Bd} (h : Binds F w v l) (hb : ∀ g, F g → g < w.heap.size → w'.heap[g]? = w.heap[g]?) : Binds F w' v l := by
  obtain ⟨p, c, h1, h2, h3, h4⟩ := h
  exact ⟨p, c, h1, h2, h3, fun i hi => (h4.1 i hi).keep hb, h4.2⟩
theorem Binds.under {F : Nat → Prop} {w w' : World} {v : Value} {l : List Bd} (h : Binds F w v l) (hb : Below w.heap.size w w') : Binds F w' v l := h.keep fun g _ hg => hb.block g hg
theorem Binds.mono {F F' : Nat → Prop} {w : World} {v : Value} {l : List Bd} (h : Binds F w v l) (hF : ∀ g, F g → g < w.heap.size → F' g) : Binds F' w v l := by
  obtain ⟨p, c, h1, h2, h3, h4⟩ := h
  refine ⟨p, c, h1, h2, h3, fun i hi => ?_, h4.2⟩
  obtain ⟨g, o, sv, k1, k2, k3, k4, k5, k6⟩ := h4.1 i hi
  exact ⟨g, o, sv, k1, hF g k2 k5.lt, k3, k4, k5, k6.wf, k6.kids.mono hF⟩
theorem Binds.nil (F : Nat → Prop) (w : World) : Binds F w (.slice none 0 0) [] := ⟨none, 0, rfl, Nat.le_refl _, Nat.zero_le _, fun i hi => absurd hi (by simp), fun _ => rfl⟩
theorem Binds.slice {F : Nat → Prop} {w : World} {v : Value} {l : List Bd} (h : Binds F w v l) : ∃ p c, v = .slice p l.length c := by
  obtain ⟨p, c, h1, _⟩ := h
  exact ⟨p, c, h1⟩
theorem Binds.len {F : Nat → Prop} {w : World} {v : Value} {l : List Bd} (h : Binds F w v l) : l.length ≤ BL := by
  obtain ⟨p, c, _, _, h, _⟩ := h
  exact h
theorem Binds.at {F : Nat → Prop} {w : World} {p : Option Addr} {n c : Nat} {l : List Bd} (h : Binds F w (.slice p n c) l) {i : Nat} (hi : i < l.length) : BindAt F w p i l[i] := by
  obtain ⟨p', c', he, _, _, hx⟩ := h
  cases he
  exact hx.1 i hi
theorem Binds.none {F : Nat → Prop} {w : World} {n c : Nat} {l : List Bd} (h : Binds F w (.slice none n c) l) : l.length = 0 ∧ c = 0 := by
  obtain ⟨p', c', he, _, _, hx, h0⟩ := h
  cases he
  refine ⟨?_, h0 rfl⟩
  by_cases hl : 0 < l.length
  · obtain ⟨g, o, sv, e, _⟩ := hx 0 hl
    cases e
  · omega

/-- The first place where something holds; -1: there is none. -/
def idxB {α : Type} (P : α → Bool) (l : List α) : Int := match l.findIdx? P with | some k => k | none => -1
theorem idx_here {α : Type} {P : α → Bool} {l : List α} {k : Nat} (hk : k < l.length) (h : (l.take k).all (fun x => !P x) = true) (hp : P l[k] = true) : idxB P l = k := by
  unfold idxB
  have : l.findIdx? P = some k := by
    rw [List.findIdx?_eq_some_iff_getElem]
    refine ⟨hk, hp, fun j hj => ?_⟩
    have hj2 : j < (l.take k).length := by simp; omega
    have := List.all_eq_true.1 h (l.take k)[j] (List.getElem_mem hj2)
    simpa using this
  rw [this]
theorem idx_none {α : Type} {P : α → Bool} {l : List α} (h : l.all (fun x => !P x) = true) : idxB P l = -1 := by
  unfold idxB
  have : l.findIdx? P = none := by
    rw [List.findIdx?_eq_none_iff]
    intro x hx
    simpa using List.all_eq_true.1 h x hx
  rw [this]
theorem idx_any {α : Type} (P : α → Bool) (l : List α) : decide (0 ≤ idxB P l) = l.any P := by
  unfold idxB
  cases h : l.findIdx? P with
  | none =>
    rw [List.findIdx?_eq_none_iff] at h
    have : l.any P = false := by rw [List.any_eq_false]; intro x hx; simp [h x hx]
    rw [this]; rfl
  | some k =>
    rw [List.findIdx?_eq_some_iff_getElem] at h
    obtain ⟨hk, hp, _⟩ := h
    have : l.any P = true := List.any_eq_true.2 ⟨l[k], List.getElem_mem hk, hp⟩
    rw [this]; simp
theorem idx_range {α : Type} (P : α → Bool) (l : List α) : -1 ≤ idxB P l ∧ idxB P l < l.length := by
  unfold idxB
  cases h : l.findIdx? P with
  | none => simp; omega
  | some k =>
    rw [List.findIdx?_eq_some_iff_getElem] at h
    obtain ⟨hk, _⟩ := h
    simp; omega

set_option maxHeartbeats 2000000 in
set_option maxRecDepth 100000 in
theorem indexN_any {F : Nat → Prop} {P : Tr → Bool} {l : List Tr} {w : World} {v : Value} (hl : Kids F w v l)
    (hP : ∀ x ∈ l, ∀ (W : World) (sv : Value), Below w.heap.size w W → TrV F W x sv → Calls Tryz.prog 33 #[.agg #[.int .i8 x.k, .int .i64 x.n, .string x.s, .string x.t, sv]] W fun e w' => e = .returned (.bool (P x)) ∧ Below W.heap.size W w') :
    Calls Tryz.prog 54 #[v, .func (Fn.func 33) #[] #[]] w fun e w' => e = .returned (.int .i64 (idxB P l)) ∧ Below w.heap.size w w' := by
  obtain ⟨p, c, rfl⟩ := hl.slice
  have hlen : l.length ≤ 2199023255552 := hl.len
  have HF := Lib.hid hP
  have HL := Lib.hid hl
  clear hP hl
  go_enter Tryz.func54, Tryz.ntmps54
  go_wp2
  go_loopw [8] (fun i wr => ∃ k : Nat, k ≤ l.length ∧ i = .int .i64 k ∧ (l.take k).all (fun x => !P x) = true ∧ Below w.heap.size w wr) (fun i _ => l.length - (intOf i).toNat)
  case atStart => exact ⟨0, Nat.zero_le _, rfl, rfl, Below.refl _ _⟩
  case round =>
    obtain ⟨k, hk, rfl, hall, hbr⟩ := hrel
    by_cases hlt : k < l.length
    · obtain ⟨g, o, kv, rfl, _, ⟨a0, a1, a2, a3, a4⟩, hkid⟩ := (HL.out.under hbr).at hlt
      have cK := HF.out l[k] (List.getElem_mem hlt) wr kv hbr hkid
      cases hq : P l[k]
      · have hnext : (l.take (k + 1)).all (fun x => !P x) = true := by
          rw [List.take_succ_eq_append_getElem hlt, List.all_append, hall]; simp [hq]
        rw [hq] at cK
        have HN := Lib.hid hnext
        clear hnext hall hq hkid
        go_wp2_with (go_at_call 33; refine cK.mono ?_; rintro e w5 ⟨rfl, hb5⟩)
        go_roundw
        case rel => exact ⟨k + 1, hlt, by go_num, HN.out, hbr.trans (hb5.mono hbr.size)⟩
        case measure => simp [intOf]; omega
      · have hfin := idx_here hlt hall hq
        rw [hq] at cK
        have HN := Lib.hid hfin
        clear hfin hall hq hkid
        go_wp2_with (go_at_call 33; refine cK.mono ?_; rintro e w5 ⟨rfl, hb5⟩)
        go_ret
        exact ⟨by rw [HN.out] <;> rfl, hbr.trans (hb5.mono hbr.size)⟩
    · rw [List.take_of_length_le (by omega)] at hall
      have HN := Lib.hid (idx_none hall)
      clear hall
      go_wp2
      go_ret
      exact ⟨by rw [HN.out] <;> rfl, hbr⟩

set_option maxHeartbeats 400000 in
theorem containsN_any {F : Nat → Prop} {P : Tr → Bool} {l : List Tr} {w : World} {v : Value} (hl : Kids F w v l)
    (hP : ∀ x ∈ l, ∀ (W : World) (sv : Value), Below w.heap.size w W → TrV F W x sv → Calls Tryz.prog 33 #[.agg #[.int .i8 x.k, .int .i64 x.n, .string x.s, .string x.t, sv]] W fun e w' => e = .returned (.bool (P x)) ∧ Below W.heap.size W w') :
    Calls Tryz.prog 32 #[v, .func (Fn.func 33) #[] #[]] w fun e w' => e = .returned (.bool (l.any P)) ∧ Below w.heap.size w w' := by
  have cI := indexN_any hl hP
  have h0 := idx_any P l
  obtain ⟨p, c, rfl⟩ := hl.slice
  clear hl hP
  generalize idxB P l = k at cI h0
  go_enter Tryz.func32, Tryz.ntmps32
  go_wp2_with (go_at_call 54; refine cI.mono ?_; rintro e w5 ⟨rfl, hb5⟩)
  all_goals
    go_ret
    exact ⟨ret_bool (by rw [← h0] <;> simp), hb5⟩

set_option maxHeartbeats 2000000 in
set_option maxRecDepth 100000 in
theorem indexT_any {F : Nat → Prop} {P : Tr → Bool} {l : List Tr} {w : World} {v : Value} (hl : Kids F w v l)
    (hP : ∀ x ∈ l, ∀ (W : World) (sv : Value), Below w.heap.size w W → TrV F W x sv → Calls Tryz.prog 36 #[.agg #[.int .i8 x.k, .int .i64 x.n, .string x.s, .string x.t, sv]] W fun e w' => e = .returned (.bool (P x)) ∧ Below W.heap.size W w') :
    Calls Tryz.prog 58 #[v, .func (Fn.func 36) #[] #[]] w fun e w' => e = .returned (.int .i64 (idxB P l)) ∧ Below w.heap.size w w' := by
  obtain ⟨p, c, rfl⟩ := hl.slice
  have hlen : l.length ≤ 2199023255552 := hl.len
  have HF := Lib.hid hP
  have HL := Lib.hid hl
  clear hP hl
  go_enter Tryz.func58, Tryz.ntmps58
  go_wp2
  go_loopw [8] (fun i wr => ∃ k : Nat, k ≤ l.length ∧ i = .int .i64 k ∧ (l.take k).all (fun x => !P x) = true ∧ Below w.heap.size w wr) (fun i _ => l.length - (intOf i).toNat)
  case atStart => exact ⟨0, Nat.zero_le _, rfl, rfl, Below.refl _ _⟩
  case round =>
    obtain ⟨k, hk, rfl, hall, hbr⟩ := hrel
    by_cases hlt : k < l.length
    · obtain ⟨g, o, kv, rfl, _, ⟨a0, a1, a2, a3, a4⟩, hkid⟩ := (HL.out.under hbr).at hlt
      have cK := HF.out l[k] (List.getElem_mem hlt) wr kv hbr hkid
      cases hq : P l[k]
      · have hnext : (l.take (k + 1)).all (fun x => !P x) = true := by
          rw [List.take_succ_eq_append_getElem hlt, List.all_append, hall]; simp [hq]
        rw [hq] at cK
        have HN := Lib.hid hnext
        clear hnext hall hq hkid
        go_wp2_with (go_at_call 36; refine cK.mono ?_; rintro e w5 ⟨rfl, hb5⟩)
        go_roundw
        case rel => exact ⟨k + 1, hlt, by go_num, HN.out, hbr.trans (hb5.mono hbr.size)⟩
        case measure => simp [intOf]; omega
      · have hfin := idx_here hlt hall hq
        rw [hq] at cK
        have HN := Lib.hid hfin
        clear hfin hall hq hkid
        go_wp2_with (go_at_call 36; refine cK.mono ?_; rintro e w5 ⟨rfl, hb5⟩)
        go_ret
        exact ⟨by rw [HN.out] <;> rfl, hbr.trans (hb5.mono hbr.size)⟩
    · rw [List.take_of_length_le (by omega)] at hall
      have HN := Lib.hid (idx_none hall)
      clear hall
      go_wp2
      go_ret
      exact ⟨by rw [HN.out] <;> rfl, hbr⟩

set_option maxHeartbeats 400000 in
theorem containsT_any {F : Nat → Prop} {P : Tr → Bool} {l : List Tr} {w : World} {v : Value} (hl : Kids F w v l)
    (hP : ∀ x ∈ l, ∀ (W : World) (sv : Value), Below w.heap.size w W → TrV F W x sv → Calls Tryz.prog 36 #[.agg #[.int .i8 x.k, .int .i64 x.n, .string x.s, .string x.t, sv]] W fun e w' => e = .returned (.bool (P x)) ∧ Below W.heap.size W w') :
    Calls Tryz.prog 35 #[v, .func (Fn.func 36) #[] #[]] w fun e w' => e = .returned (.bool (l.any P)) ∧ Below w.heap.size w w' := by
  have cI := indexT_any hl hP
  have h0 := idx_any P l
  obtain ⟨p, c, rfl⟩ := hl.slice
  clear hl hP
  generalize idxB P l = k at cI h0
  go_enter Tryz.func35, Tryz.ntmps35
  go_wp2_with (go_at_call 58; refine cI.mono ?_; rintro e w5 ⟨rfl, hb5⟩)
  all_goals
    go_ret
    exact ⟨ret_bool (by rw [← h0] <;> simp), hb5⟩

set_option maxHeartbeats 2000000 in
set_option maxRecDepth 100000 in
theorem indexB_any {F : Nat → Prop} {P : Bd → Bool} {l : List Bd} {w : World} {v : Value} (hl : Binds F w v l)
    (hP : ∀ x ∈ l, ∀ (W : World) (sv : Value), Below w.heap.size w W → TrV F W x.t sv → x.s.size ≤ BL * 64 → Calls Tryz.prog 27 #[.agg #[.string x.s, .int .i8 x.t.k, .int .i64 x.t.n, .string x.t.s, .string x.t.t, sv]] W fun e w' => e = .returned (.bool (P x)) ∧ Below W.heap.size W w') :
    Calls Tryz.prog 52 #[v, .func (Fn.func 27) #[] #[]] w fun e w' => e = .returned (.int .i64 (idxB P l)) ∧ Below w.heap.size w w' := by
  obtain ⟨p, c, rfl⟩ := hl.slice
  have hlen : l.length ≤ 2199023255552 := hl.len
  have HF := Lib.hid hP
  have HL := Lib.hid hl
  clear hP hl
  go_enter Tryz.func52, Tryz.ntmps52
  go_wp2
  go_loopw [8] (fun i wr => ∃ k : Nat, k ≤ l.length ∧ i = .int .i64 k ∧ (l.take k).all (fun x => !P x) = true ∧ Below w.heap.size w wr) (fun i _ => l.length - (intOf i).toNat)
  case atStart => exact ⟨0, Nat.zero_le _, rfl, rfl, Below.refl _ _⟩
  case round =>
    obtain ⟨k, hk, rfl, hall, hbr⟩ := hrel
    by_cases hlt : k < l.length
    · obtain ⟨g, o, kv, rfl, _, hs0, hsz, ⟨a0, a1, a2, a3, a4⟩, hkid⟩ := (HL.out.under hbr).at hlt
      have cK := HF.out l[k] (List.getElem_mem hlt) wr kv hbr hkid hsz
      cases hq : P l[k]
      · have hnext : (l.take (k + 1)).all (fun x => !P x) = true := by
          rw [List.take_succ_eq_append_getElem hlt, List.all_append, hall]; simp [hq]
        rw [hq] at cK
        have HN := Lib.hid hnext
        clear hnext hall hq hkid
        go_wp2_with (go_at_call 27; refine cK.mono ?_; rintro e w5 ⟨rfl, hb5⟩)
        go_roundw
        case rel => exact ⟨k + 1, hlt, by go_num, HN.out, hbr.trans (hb5.mono hbr.size)⟩
        case measure => simp [intOf]; omega
      · have hfin := idx_here hlt hall hq
        rw [hq] at cK
        have HN := Lib.hid hfin
        clear hfin hall hq hkid
        go_wp2_with (go_at_call 27; refine cK.mono ?_; rintro e w5 ⟨rfl, hb5⟩)
        go_ret
        exact ⟨by rw [HN.out] <;> rfl, hbr.trans (hb5.mono hbr.size)⟩
    · rw [List.take_of_length_le (by omega)] at hall
      have HN := Lib.hid (idx_none hall)
      clear hall
      go_wp2
      go_ret
      exact ⟨by rw [HN.out] <;> rfl, hbr⟩

set_option maxHeartbeats 400000 in
theorem containsB_any {F : Nat → Prop} {P : Bd → Bool} {l : List Bd} {w : World} {v : Value} (hl : Binds F w v l)
    (hP : ∀ x ∈ l, ∀ (W : World) (sv : Value), Below w.heap.size w W → TrV F W x.t sv → x.s.size ≤ BL * 64 → Calls Tryz.prog 27 #[.agg #[.string x.s, .int .i8 x.t.k, .int .i64 x.t.n, .string x.t.s, .string x.t.t, sv]] W fun e w' => e = .returned (.bool (P x)) ∧ Below W.heap.size W w') :
    Calls Tryz.prog 30 #[v, .func (Fn.func 27) #[] #[]] w fun e w' => e = .returned (.bool (l.any P)) ∧ Below w.heap.size w w' := by
  have cI := indexB_any hl hP
  have h0 := idx_any P l
  obtain ⟨p, c, rfl⟩ := hl.slice
  clear hl hP
  generalize idxB P l = k at cI h0
  go_enter Tryz.func30, Tryz.ntmps30
  go_wp2_with (go_at_call 52; refine cI.mono ?_; rintro e w5 ⟨rfl, hb5⟩)
  all_goals
    go_ret
    exact ⟨ret_bool (by rw [← h0] <;> simp), hb5⟩

set_option maxHeartbeats 2000000 in
set_option maxRecDepth 100000 in
theorem indexF_any {F : Nat → Prop} {P : Bd → Bool} {l : List Bd} {w : World} {v : Value} {bs : Nat} (hl : Binds F w v l)
    (hP : ∀ x ∈ l, ∀ (W : World) (sv : Value), Below w.heap.size w W → TrV F W x.t sv → x.s.size ≤ BL * 64 → Calls Tryz.prog 82 #[.agg #[.string x.s, .int .i8 x.t.k, .int .i64 x.t.n, .string x.t.s, .string x.t.t, sv], .pointer (some ⟨bs, 0, none⟩)] W fun e w' => e = .returned (.bool (P x)) ∧ Below W.heap.size W w') :
    Calls Tryz.prog 52 #[v, .func (Fn.func 82) #[] #[.pointer (some ⟨bs, 0, none⟩)]] w fun e w' => e = .returned (.int .i64 (idxB P l)) ∧ Below w.heap.size w w' := by
  obtain ⟨p, c, rfl⟩ := hl.slice
  have hlen : l.length ≤ 2199023255552 := hl.len
  have HF := Lib.hid hP
  have HL := Lib.hid hl
  clear hP hl
  go_enter Tryz.func52, Tryz.ntmps52
  go_wp2
  go_loopw [8] (fun i wr => ∃ k : Nat, k ≤ l.length ∧ i = .int .i64 k ∧ (l.take k).all (fun x => !P x) = true ∧ Below w.heap.size w wr) (fun i _ => l.length - (intOf i).toNat)
  case atStart => exact ⟨0, Nat.zero_le _, rfl, rfl, Below.refl _ _⟩
  case round =>
    obtain ⟨k, hk, rfl, hall, hbr⟩ := hrel
    by_cases hlt : k < l.length
    · obtain ⟨g, o, kv, rfl, _, hs0, hsz, ⟨a0, a1, a2, a3, a4⟩, hkid⟩ := (HL.out.under hbr).at hlt
      have cK := HF.out l[k] (List.getElem_mem hlt) wr kv hbr hkid hsz
      cases hq : P l[k]
      · have hnext : (l.take (k + 1)).all (fun x => !P x) = true := by
          rw [List.take_succ_eq_append_getElem hlt, List.all_append, hall]; simp [hq]
        rw [hq] at cK
        have HN := Lib.hid hnext
        clear hnext hall hq hkid
        go_wp2_with (go_at_call 82; refine cK.mono ?_; rintro e w5 ⟨rfl, hb5⟩)
        go_roundw
        case rel => exact ⟨k + 1, hlt, by go_num, HN.out, hbr.trans (hb5.mono hbr.size)⟩
        case measure => simp [intOf]; omega
      · have hfin := idx_here hlt hall hq
        rw [hq] at cK
        have HN := Lib.hid hfin
        clear hfin hall hq hkid
        go_wp2_with (go_at_call 82; refine cK.mono ?_; rintro e w5 ⟨rfl, hb5⟩)
        go_ret
        exact ⟨by rw [HN.out] <;> rfl, hbr.trans (hb5.mono hbr.size)⟩
    · rw [List.take_of_length_le (by omega)] at hall
      have HN := Lib.hid (idx_none hall)
      clear hall
      go_wp2
      go_ret
      exact ⟨by rw [HN.out] <;> rfl, hbr⟩
end Go.Proofs.YtjnmdbfijdnaiaaGreatDoor
