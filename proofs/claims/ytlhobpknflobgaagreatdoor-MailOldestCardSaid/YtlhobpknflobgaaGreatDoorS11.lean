/-
  Names bound to terms as they lie in memory; slices.IndexFunc, ContainsFunc at trees and at names. Conditions: the trees lie as 'Kids' says, the names as 'Binds' says.
  What match's searches ask: match.May$1, find$1, All$1, All$2. Conditions: the trees lie as 'TrV' says.
  match.May, pleachref10.May; match.find, pleachref10.Find. Conditions: the names lie as 'Binds' says.
-/
import Derived.Test.YtlhobpknflobgaaGreatDoorS10
namespace Go.Proofs.YtlhobpknflobgaaGreatDoor
open Go.RowKit

/-- A name and its term. -/
structure Bd where
  s : ByteArray
  t : Tr

/-- A bind's six cells. -/
def BindAt (F : Nat → Prop) (w : World) (p : Option Addr) (i : Nat) (b : Bd) : Prop := ∃ g o sv, p = some ⟨g, o, none⟩ ∧ F g ∧ w.cell? ⟨g, o + i * 6, none⟩ = some (.string b.s) ∧ b.s.size ≤ BL * 64 ∧ NodeAt w g (o + i * 6 + 1) b.t sv ∧ TrV F w b.t sv
/-- A slice of binds. -/
def Binds (F : Nat → Prop) (w : World) (v : Value) (l : List Bd) : Prop := ∃ p c, v = .slice p l.length c ∧ l.length ≤ c ∧ l.length ≤ BL ∧ (∀ i (h : i < l.length), BindAt F w p i l[i]) ∧ (p = none → c = 0)

theorem BindAt.keep {F : Nat → Prop} {w w' : World} {p : Option Addr} {i : Nat} {b : Bd} (h : BindAt F w p i b) (hb : ∀ g, F g → g < w.heap.size → w'.heap[g]? = w.heap[g]?) : BindAt F w' p i b := by
  obtain ⟨g, o, sv, h1, h2, h3, h4, h5, h6⟩ := h
  exact ⟨g, o, sv, h1, h2, (World.cell?_of_block (a := ⟨g, o + i * 6, none⟩) (hb g h2 (cell_block h3))).trans h3, h4, h5.keep (hb g h2 h5.lt), h6.wf, h6.kids.keep hb⟩
theorem Binds.keep {F : Nat → Prop} {w w' : World} {v : Value} {l : List Bd} (h : Binds F w v l) (hb : ∀ g, F g → g < w.heap.size → w'.heap[g]? = w.heap[g]?) : Binds F w' v l := by
  obtain ⟨p, c, h1, h2, h3, h4⟩ := h
  exact ⟨p, c, h1, h2, h3, fun i hi => (h4.1 i hi).keep hb, h4.2⟩
theorem Binds.under {F : Nat → Prop} {w w' : World} {v : Value} {l : List Bd} (h : Binds F w v l) (hb : Below w.heap.size w w') : Binds F w' v l := h.keep fun g _ hg => hb.block g hg
theorem Binds.mono {F F' : Nat → Prop} {w : World} {v : Value} {l : List Bd} (h : Binds F w v l) (hF : ∀ g, F g → g < w.heap.size → F' g) : Binds F' w v l := by
  obtain ⟨p, c, h1, h2, h3, h4⟩ := h
  refine ⟨p, c, h1, h2, h3, fun i hi => ?_, h4.2⟩
  obtain ⟨g, o, sv, k1, k2, k3, k4, k5, k6⟩ := h4.1 i hi
  exact ⟨g, o, sv, k1, hF g k2 k5.lt, k3, k4, k5, k6.wf, k6.kids.mono hF⟩
theorem Binds.nil (F : Nat → Prop) (w : World) : Binds F w (.slice none 0 0) [] := ⟨none, 0, rfl, Nat.le_refl _, Nat.zero_le _, fun i hi => absurd hi (by simp), fun _ => rfl⟩
theorem Binds.slice {F : Nat → Prop} {w : World} {v : Value} {l : List Bd} (h : Binds F w v l) : ∃ p c, v = .slice p l.length c := by
  obtain ⟨p, c, h1, _⟩ := h
  exact ⟨p, c, h1⟩
theorem Binds.len {F : Nat → Prop} {w : World} {v : Value} {l : List Bd} (h : Binds F w v l) : l.length ≤ BL := by
  obtain ⟨p, c, _, _, h, _⟩ := h
  exact h
theorem Binds.at {F : Nat → Prop} {w : World} {p : Option Addr} {n c : Nat} {l : List Bd} (h : Binds F w (.slice p n c) l) {i : Nat} (hi : i < l.length) : BindAt F w p i l[i] := by
  obtain ⟨p', c', he, _, _, hx⟩ := h
  cases he
  exact hx.1 i hi
theorem Binds.none {F : Nat → Prop} {w : World} {n c : Nat} {l : List Bd} (h : Binds F w (.slice none n c) l) : l.length = 0 ∧ c = 0 := by
  obtain ⟨p', c', he, _, _, hx, h0⟩ := h
  cases he
  refine ⟨?_, h0 rfl⟩
  by_cases hl : 0 < l.length
  · obtain ⟨g, o, sv, e, _⟩ := hx 0 hl
    cases e
  · omega

/-- The first place where something holds; -1: there is none. -/
def idxB {α : Type} (P : α → Bool) (l : List α) : Int := match l.findIdx? P with | some k => k | none => -1
theorem idx_here {α : Type} {P : α → Bool} {l : List α} {k : Nat} (hk : k < l.length) (h : (l.take k).all (fun x => !P x) = true) (hp : P l[k] = true) : idxB P l = k := by
  unfold idxB
  have : l.findIdx? P = some k := by
    rw [List.findIdx?_eq_some_iff_getElem]
    refine ⟨hk, hp, fun j hj => ?_⟩
    have hj2 : j < (l.take k).length := by simp; omega
    have := List.all_eq_true.1 h (l.take k)[j] (List.getElem_mem hj2)
    simpa using this
  rw [this]
theorem idx_none {α : Type} {P : α → Bool} {l : List α} (h : l.all (fun x => !P x) = true) : idxB P l = -1 := by
  unfold idxB
  have : l.findIdx? P = none := by
    rw [List.findIdx?_eq_none_iff]
    intro x hx
    simpa using List.all_eq_true.1 h x hx
  rw [this]
theorem idx_any {α : Type} (P : α → Bool) (l : List α) : decide (0 ≤ idxB P l) = l.any P := by
  unfold idxB
  cases h : l.findIdx? P with
  | none =>
    rw [List.findIdx?_eq_none_iff] at h
    have : l.any P = false := by rw [List.any_eq_false]; intro x hx; simp [h x hx]
    rw [this]; rfl
  | some k =>
    rw [List.findIdx?_eq_some_iff_getElem] at h
    obtain ⟨hk, hp, _⟩ := h
    have : l.any P = true := List.any_eq_true.2 ⟨l[k], List.getElem_mem hk, hp⟩
    rw [this]; simp
theorem idx_range {α : Type} (P : α → Bool) (l : List α) : -1 ≤ idxB P l ∧ idxB P l < l.length := by
  unfold idxB
  cases h : l.findIdx? P with
  | none => simp; omega
  | some k =>
    rw [List.findIdx?_eq_some_iff_getElem] at h
    obtain ⟨hk, _⟩ := h
    simp; omega

set_option maxHeartbeats 2000000 in
set_option maxRecDepth 100000 in
theorem indexN_any {F : Nat → Prop} {P : Tr → Bool} {l : List Tr} {w : World} {v : Value} (hl : Kids F w v l)
    (hP : ∀ x ∈ l, ∀ (W : World) (sv : Value), Below w.heap.size w W → TrV F W x sv → Calls Tryz.prog 166 #[.agg #[.int .i8 x.k, .int .i64 x.n, .string x.s, .string x.t, sv]] W fun e w' => e = .returned (.bool (P x)) ∧ Below W.heap.size W w') :
    Calls Tryz.prog 200 #[v, .func (Fn.func 166) #[] #[]] w fun e w' => e = .returned (.int .i64 (idxB P l)) ∧ Below w.heap.size w w' := by
  obtain ⟨p, c, rfl⟩ := hl.slice
  have hlen : l.length ≤ 2199023255552 := hl.len
  have HF := Lib.hid hP
  have HL := Lib.hid hl
  clear hP hl
  go_enter Tryz.func200, Tryz.ntmps200
  go_wp2
  go_loopw [8] (fun i wr => ∃ k : Nat, k ≤ l.length ∧ i = .int .i64 k ∧ (l.take k).all (fun x => !P x) = true ∧ Below w.heap.size w wr) (fun i _ => l.length - (intOf i).toNat)
  case atStart => exact ⟨0, Nat.zero_le _, rfl, rfl, Below.refl _ _⟩
  case round =>
    obtain ⟨k, hk, rfl, hall, hbr⟩ := hrel
    by_cases hlt : k < l.length
    · obtain ⟨g, o, kv, rfl, _, ⟨a0, a1, a2, a3, a4⟩, hkid⟩ := (HL.out.under hbr).at hlt
      have cK := HF.out l[k] (List.getElem_mem hlt) wr kv hbr hkid
      cases hq : P l[k]
      · have hnext : (l.take (k + 1)).all (fun x => !P x) = true := by
          rw [List.take_succ_eq_append_getElem hlt, List.all_append, hall]; simp [hq]
        rw [hq] at cK
        have HN := Lib.hid hnext
        clear hnext hall hq hkid
        go_wp2_with (go_at_call 166; refine cK.mono ?_; rintro e w5 ⟨rfl, hb5⟩)
        go_roundw
        case rel => exact ⟨k + 1, hlt, by go_num, HN.out, hbr.trans (hb5.mono hbr.size)⟩
        case measure => simp [intOf]; omega
      · have hfin := idx_here hlt hall hq
        rw [hq] at cK
        have HN := Lib.hid hfin
        clear hfin hall hq hkid
        go_wp2_with (go_at_call 166; refine cK.mono ?_; rintro e w5 ⟨rfl, hb5⟩)
        go_ret
        exact ⟨by rw [HN.out] <;> rfl, hbr.trans (hb5.mono hbr.size)⟩
    · rw [List.take_of_length_le (by omega)] at hall
      have HN := Lib.hid (idx_none hall)
      clear hall
      go_wp2
      go_ret
      exact ⟨by rw [HN.out] <;> rfl, hbr⟩

set_option maxHeartbeats 400000 in
theorem containsN_any {F : Nat → Prop} {P : Tr → Bool} {l : List Tr} {w : World} {v : Value} (hl : Kids F w v l)
    (hP : ∀ x ∈ l, ∀ (W : World) (sv : Value), Below w.heap.size w W → TrV F W x sv → Calls Tryz.prog 166 #[.agg #[.int .i8 x.k, .int .i64 x.n, .string x.s, .string x.t, sv]] W fun e w' => e = .returned (.bool (P x)) ∧ Below W.heap.size W w') :
    Calls Tryz.prog 165 #[v, .func (Fn.func 166) #[] #[]] w fun e w' => e = .returned (.bool (l.any P)) ∧ Below w.heap.size w w' := by
  have cI := indexN_any hl hP
  have h0 := idx_any P l
  obtain ⟨p, c, rfl⟩ := hl.slice
  clear hl hP
  generalize idxB P l = k at cI h0
  go_enter Tryz.func165, Tryz.ntmps165
  go_wp2_with (go_at_call 200; refine cI.mono ?_; rintro e w5 ⟨rfl, hb5⟩)
  all_goals
    go_ret
    exact ⟨ret_bool (by rw [← h0] <;> simp), hb5⟩

set_option maxHeartbeats 2000000 in
set_option maxRecDepth 100000 in
theorem indexT_any {F : Nat → Prop} {P : Tr → Bool} {l : List Tr} {w : World} {v : Value} (hl : Kids F w v l)
    (hP : ∀ x ∈ l, ∀ (W : World) (sv : Value), Below w.heap.size w W → TrV F W x sv → Calls Tryz.prog 168 #[.agg #[.int .i8 x.k, .int .i64 x.n, .string x.s, .string x.t, sv]] W fun e w' => e = .returned (.bool (P x)) ∧ Below W.heap.size W w') :
    Calls Tryz.prog 201 #[v, .func (Fn.func 168) #[] #[]] w fun e w' => e = .returned (.int .i64 (idxB P l)) ∧ Below w.heap.size w w' := by
  obtain ⟨p, c, rfl⟩ := hl.slice
  have hlen : l.length ≤ 2199023255552 := hl.len
  have HF := Lib.hid hP
  have HL := Lib.hid hl
  clear hP hl
  go_enter Tryz.func201, Tryz.ntmps201
  go_wp2
  go_loopw [8] (fun i wr => ∃ k : Nat, k ≤ l.length ∧ i = .int .i64 k ∧ (l.take k).all (fun x => !P x) = true ∧ Below w.heap.size w wr) (fun i _ => l.length - (intOf i).toNat)
  case atStart => exact ⟨0, Nat.zero_le _, rfl, rfl, Below.refl _ _⟩
  case round =>
    obtain ⟨k, hk, rfl, hall, hbr⟩ := hrel
    by_cases hlt : k < l.length
    · obtain ⟨g, o, kv, rfl, _, ⟨a0, a1, a2, a3, a4⟩, hkid⟩ := (HL.out.under hbr).at hlt
      have cK := HF.out l[k] (List.getElem_mem hlt) wr kv hbr hkid
      cases hq : P l[k]
      · have hnext : (l.take (k + 1)).all (fun x => !P x) = true := by
          rw [List.take_succ_eq_append_getElem hlt, List.all_append, hall]; simp [hq]
        rw [hq] at cK
        have HN := Lib.hid hnext
        clear hnext hall hq hkid
        go_wp2_with (go_at_call 168; refine cK.mono ?_; rintro e w5 ⟨rfl, hb5⟩)
        go_roundw
        case rel => exact ⟨k + 1, hlt, by go_num, HN.out, hbr.trans (hb5.mono hbr.size)⟩
        case measure => simp [intOf]; omega
      · have hfin := idx_here hlt hall hq
        rw [hq] at cK
        have HN := Lib.hid hfin
        clear hfin hall hq hkid
        go_wp2_with (go_at_call 168; refine cK.mono ?_; rintro e w5 ⟨rfl, hb5⟩)
        go_ret
        exact ⟨by rw [HN.out] <;> rfl, hbr.trans (hb5.mono hbr.size)⟩
    · rw [List.take_of_length_le (by omega)] at hall
      have HN := Lib.hid (idx_none hall)
      clear hall
      go_wp2
      go_ret
      exact ⟨by rw [HN.out] <;> rfl, hbr⟩

set_option maxHeartbeats 400000 in
theorem containsT_any {F : Nat → Prop} {P : Tr → Bool} {l : List Tr} {w : World} {v : Value} (hl : Kids F w v l)
    (hP : ∀ x ∈ l, ∀ (W : World) (sv : Value), Below w.heap.size w W → TrV F W x sv → Calls Tryz.prog 168 #[.agg #[.int .i8 x.k, .int .i64 x.n, .string x.s, .string x.t, sv]] W fun e w' => e = .returned (.bool (P x)) ∧ Below W.heap.size W w') :
    Calls Tryz.prog 167 #[v, .func (Fn.func 168) #[] #[]] w fun e w' => e = .returned (.bool (l.any P)) ∧ Below w.heap.size w w' := by
  have cI := indexT_any hl hP
  have h0 := idx_any P l
  obtain ⟨p, c, rfl⟩ := hl.slice
  clear hl hP
  generalize idxB P l = k at cI h0
  go_enter Tryz.func167, Tryz.ntmps167
  go_wp2_with (go_at_call 201; refine cI.mono ?_; rintro e w5 ⟨rfl, hb5⟩)
  all_goals
    go_ret
    exact ⟨ret_bool (by rw [← h0] <;> simp), hb5⟩

set_option maxHeartbeats 2000000 in
set_option maxRecDepth 100000 in
theorem indexB_any {F : Nat → Prop} {P : Bd → Bool} {l : List Bd} {w : World} {v : Value} (hl : Binds F w v l)
    (hP : ∀ x ∈ l, ∀ (W : World) (sv : Value), Below w.heap.size w W → TrV F W x.t sv → x.s.size ≤ BL * 64 → Calls Tryz.prog 126 #[.agg #[.string x.s, .int .i8 x.t.k, .int .i64 x.t.n, .string x.t.s, .string x.t.t, sv]] W fun e w' => e = .returned (.bool (P x)) ∧ Below W.heap.size W w') :
    Calls Tryz.prog 65 #[v, .func (Fn.func 126) #[] #[]] w fun e w' => e = .returned (.int .i64 (idxB P l)) ∧ Below w.heap.size w w' := by
  obtain ⟨p, c, rfl⟩ := hl.slice
  have hlen : l.length ≤ 2199023255552 := hl.len
  have HF := Lib.hid hP
  have HL := Lib.hid hl
  clear hP hl
  go_enter Tryz.func65, Tryz.ntmps65
  go_wp2
  go_loopw [8] (fun i wr => ∃ k : Nat, k ≤ l.length ∧ i = .int .i64 k ∧ (l.take k).all (fun x => !P x) = true ∧ Below w.heap.size w wr) (fun i _ => l.length - (intOf i).toNat)
  case atStart => exact ⟨0, Nat.zero_le _, rfl, rfl, Below.refl _ _⟩
  case round =>
    obtain ⟨k, hk, rfl, hall, hbr⟩ := hrel
    by_cases hlt : k < l.length
    · obtain ⟨g, o, kv, rfl, _, hs0, hsz, ⟨a0, a1, a2, a3, a4⟩, hkid⟩ := (HL.out.under hbr).at hlt
      have cK := HF.out l[k] (List.getElem_mem hlt) wr kv hbr hkid hsz
      cases hq : P l[k]
      · have hnext : (l.take (k + 1)).all (fun x => !P x) = true := by
          rw [List.take_succ_eq_append_getElem hlt, List.all_append, hall]; simp [hq]
        rw [hq] at cK
        have HN := Lib.hid hnext
        clear hnext hall hq hkid
        go_wp2_with (go_at_call 126; refine cK.mono ?_; rintro e w5 ⟨rfl, hb5⟩)
        go_roundw
        case rel => exact ⟨k + 1, hlt, by go_num, HN.out, hbr.trans (hb5.mono hbr.size)⟩
        case measure => simp [intOf]; omega
      · have hfin := idx_here hlt hall hq
        rw [hq] at cK
        have HN := Lib.hid hfin
        clear hfin hall hq hkid
        go_wp2_with (go_at_call 126; refine cK.mono ?_; rintro e w5 ⟨rfl, hb5⟩)
        go_ret
        exact ⟨by rw [HN.out] <;> rfl, hbr.trans (hb5.mono hbr.size)⟩
    · rw [List.take_of_length_le (by omega)] at hall
      have HN := Lib.hid (idx_none hall)
      clear hall
      go_wp2
      go_ret
      exact ⟨by rw [HN.out] <;> rfl, hbr⟩

set_option maxHeartbeats 400000 in
theorem containsB_any {F : Nat → Prop} {P : Bd → Bool} {l : List Bd} {w : World} {v : Value} (hl : Binds F w v l)
    (hP : ∀ x ∈ l, ∀ (W : World) (sv : Value), Below w.heap.size w W → TrV F W x.t sv → x.s.size ≤ BL * 64 → Calls Tryz.prog 126 #[.agg #[.string x.s, .int .i8 x.t.k, .int .i64 x.t.n, .string x.t.s, .string x.t.t, sv]] W fun e w' => e = .returned (.bool (P x)) ∧ Below W.heap.size W w') :
    Calls Tryz.prog 97 #[v, .func (Fn.func 126) #[] #[]] w fun e w' => e = .returned (.bool (l.any P)) ∧ Below w.heap.size w w' := by
  have cI := indexB_any hl hP
  have h0 := idx_any P l
  obtain ⟨p, c, rfl⟩ := hl.slice
  clear hl hP
  generalize idxB P l = k at cI h0
  go_enter Tryz.func97, Tryz.ntmps97
  go_wp2_with (go_at_call 65; refine cI.mono ?_; rintro e w5 ⟨rfl, hb5⟩)
  all_goals
    go_ret
    exact ⟨ret_bool (by rw [← h0] <;> simp), hb5⟩

set_option maxHeartbeats 2000000 in
set_option maxRecDepth 100000 in
theorem indexF_any {F : Nat → Prop} {P : Bd → Bool} {l : List Bd} {w : World} {v : Value} {bs : Nat} (hl : Binds F w v l)
    (hP : ∀ x ∈ l, ∀ (W : World) (sv : Value), Below w.heap.size w W → TrV F W x.t sv → x.s.size ≤ BL * 64 → Calls Tryz.prog 220 #[.agg #[.string x.s, .int .i8 x.t.k, .int .i64 x.t.n, .string x.t.s, .string x.t.t, sv], .pointer (some ⟨bs, 0, none⟩)] W fun e w' => e = .returned (.bool (P x)) ∧ Below W.heap.size W w') :
    Calls Tryz.prog 65 #[v, .func (Fn.func 220) #[] #[.pointer (some ⟨bs, 0, none⟩)]] w fun e w' => e = .returned (.int .i64 (idxB P l)) ∧ Below w.heap.size w w' := by
  obtain ⟨p, c, rfl⟩ := hl.slice
  have hlen : l.length ≤ 2199023255552 := hl.len
  have HF := Lib.hid hP
  have HL := Lib.hid hl
  clear hP hl
  go_enter Tryz.func65, Tryz.ntmps65
  go_wp2
  go_loopw [8] (fun i wr => ∃ k : Nat, k ≤ l.length ∧ i = .int .i64 k ∧ (l.take k).all (fun x => !P x) = true ∧ Below w.heap.size w wr) (fun i _ => l.length - (intOf i).toNat)
  case atStart => exact ⟨0, Nat.zero_le _, rfl, rfl, Below.refl _ _⟩
  case round =>
    obtain ⟨k, hk, rfl, hall, hbr⟩ := hrel
    by_cases hlt : k < l.length
    · obtain ⟨g, o, kv, rfl, _, hs0, hsz, ⟨a0, a1, a2, a3, a4⟩, hkid⟩ := (HL.out.under hbr).at hlt
      have cK := HF.out l[k] (List.getElem_mem hlt) wr kv hbr hkid hsz
      cases hq : P l[k]
      · have hnext : (l.take (k + 1)).all (fun x => !P x) = true := by
          rw [List.take_succ_eq_append_getElem hlt, List.all_append, hall]; simp [hq]
        rw [hq] at cK
        have HN := Lib.hid hnext
        clear hnext hall hq hkid
        go_wp2_with (go_at_call 220; refine cK.mono ?_; rintro e w5 ⟨rfl, hb5⟩)
        go_roundw
        case rel => exact ⟨k + 1, hlt, by go_num, HN.out, hbr.trans (hb5.mono hbr.size)⟩
        case measure => simp [intOf]; omega
      · have hfin := idx_here hlt hall hq
        rw [hq] at cK
        have HN := Lib.hid hfin
        clear hfin hall hq hkid
        go_wp2_with (go_at_call 220; refine cK.mono ?_; rintro e w5 ⟨rfl, hb5⟩)
        go_ret
        exact ⟨by rw [HN.out] <;> rfl, hbr.trans (hb5.mono hbr.size)⟩
    · rw [List.take_of_length_le (by omega)] at hall
      have HN := Lib.hid (idx_none hall)
      clear hall
      go_wp2
      go_ret
      exact ⟨by rw [HN.out] <;> rfl, hbr⟩
end Go.Proofs.YtlhobpknflobgaaGreatDoor
namespace Go.Proofs.YtlhobpknflobgaaGreatDoor
open Go.RowKit

theorem box6 (w : World) (a b c d e f : Value) (T : TypeId) : (w.alloc (.cells #[a, b, c, d, e, f] T)).cell? ⟨w.heap.size, 0, none⟩ = some a ∧ (w.alloc (.cells #[a, b, c, d, e, f] T)).cell? ⟨w.heap.size, 1, none⟩ = some b ∧ (w.alloc (.cells #[a, b, c, d, e, f] T)).cell? ⟨w.heap.size, 2, none⟩ = some c ∧
    (w.alloc (.cells #[a, b, c, d, e, f] T)).cell? ⟨w.heap.size, 3, none⟩ = some d ∧ (w.alloc (.cells #[a, b, c, d, e, f] T)).cell? ⟨w.heap.size, 4, none⟩ = some e ∧ (w.alloc (.cells #[a, b, c, d, e, f] T)).cell? ⟨w.heap.size, 5, none⟩ = some f := by
  refine ⟨?_, ?_, ?_, ?_, ?_, ?_⟩ <;> (rw [World.cell?_alloc_at _ _ _ _ (by simp)]; rfl)

def undB (s : ByteArray) : Bool := s.toList == [95]
/-- A bind that may not be. -/
def badB (b : Bd) : Bool := undB b.s || (!nameA b.s || !(chkT b.t == 0))

set_option maxHeartbeats 1000000 in
theorem find1_any {W : World} {bs : Nat} {s : ByteArray} {b : Bd} {sv : Value} (hs : W.cell? ⟨bs, 0, none⟩ = some (.string s)) :
    Calls Tryz.prog 220 #[.agg #[.string b.s, .int .i8 b.t.k, .int .i64 b.t.n, .string b.t.s, .string b.t.t, sv], .pointer (some ⟨bs, 0, none⟩)] W fun e w' => e = .returned (.bool (b.s.toList == s.toList)) ∧ Below W.heap.size W w' := by
  have e0 : (W.alloc (.cells #[.string b.s, .int .i8 b.t.k, .int .i64 b.t.n, .string b.t.s, .string b.t.t, sv] 40)).cell? ⟨W.heap.size, 0, none⟩ = some (.string b.s) := by rw [World.cell?_alloc_at _ _ _ _ (by simp)]; rfl
  have hb := alloc_below W (.cells #[.string b.s, .int .i8 b.t.k, .int .i64 b.t.n, .string b.t.s, .string b.t.t, sv] 40)
  have hs1 := (hb.cell (p := ⟨bs, 0, none⟩) (cell_block hs)).trans hs
  go_enter Tryz.func220, Tryz.ntmps220
  go_wp2
  go_ret
  exact ⟨rfl, hb⟩

set_option maxHeartbeats 1000000 in
theorem all1_any {F : Nat → Prop} {W : World} {x : Tr} {sv : Value} (hL : Letters W) (hx : TrV F W x sv) :
    Calls Tryz.prog 166 #[.agg #[.int .i8 x.k, .int .i64 x.n, .string x.s, .string x.t, sv]] W fun e w' => e = .returned (.bool (!patB x)) ∧ Below W.heap.size W w' := by
  obtain ⟨e0, e1, e2, e3, e4⟩ := box5 W (.int .i8 x.k) (.int .i64 x.n) (.string x.s) (.string x.t) sv 25
  have hb := alloc_below W (.cells #[.int .i8 x.k, .int .i64 x.n, .string x.s, .string x.t, sv] 25)
  have cP := pattern_any (hL.under hb) (hx.below hb)
  clear hL hx
  go_enter Tryz.func166, Tryz.ntmps166
  go_wp2_with (go_at_call 123; refine cP.mono ?_; rintro e w5 ⟨rfl, hb5⟩)
  go_ret
  exact ⟨rfl, hb.trans (hb5.mono hb.size)⟩

set_option maxHeartbeats 1000000 in
theorem all2_any {F : Nat → Prop} {W : World} {x : Tr} {sv : Value} (hL : Letters W) (hx : TrV F W x sv) :
    Calls Tryz.prog 168 #[.agg #[.int .i8 x.k, .int .i64 x.n, .string x.s, .string x.t, sv]] W fun e w' => e = .returned (.bool (!(chkT x == 0))) ∧ Below W.heap.size W w' := by
  obtain ⟨e0, e1, e2, e3, e4⟩ := box5 W (.int .i8 x.k) (.int .i64 x.n) (.string x.s) (.string x.t) sv 29
  have hb := alloc_below W (.cells #[.int .i8 x.k, .int .i64 x.n, .string x.s, .string x.t, sv] 29)
  have cP := tcheck_any (hL.under hb) (hx.below hb)
  clear hL hx
  generalize chkT x = q at cP ⊢
  go_enter Tryz.func168, Tryz.ntmps168
  go_wp2_with (go_at_call 79; refine cP.mono ?_; rintro e w5 ⟨rfl, hb5⟩)
  all_goals
    go_ret
    exact ⟨rfl, hb.trans (hb5.mono hb.size)⟩

set_option maxHeartbeats 2000000 in
set_option maxRecDepth 100000 in
theorem may1_any {F : Nat → Prop} {W : World} {b : Bd} {sv : Value} (hL : Letters W) (hx : TrV F W b.t sv) (hs : b.s.size ≤ BL * 64) :
    Calls Tryz.prog 126 #[.agg #[.string b.s, .int .i8 b.t.k, .int .i64 b.t.n, .string b.t.s, .string b.t.t, sv]] W fun e w' => e = .returned (.bool (badB b)) ∧ Below W.heap.size W w' := by
  obtain ⟨a0, a1, a2, a3, a4, a5⟩ := box6 W (.string b.s) (.int .i8 b.t.k) (.int .i64 b.t.n) (.string b.t.s) (.string b.t.t) sv 40
  have hb := alloc_below W (.cells #[.string b.s, .int .i8 b.t.k, .int .i64 b.t.n, .string b.t.s, .string b.t.t, sv] 40)
  have hL1 := hL.under hb
  have hx1 := hx.below hb
  have hs' : b.s.size ≤ 140737488355328 := hs
  have hbad : badB b = (undB b.s || (!nameA b.s || !(chkT b.t == 0))) := rfl
  have cN := nameA_any hL1 b.s hs'
  have cC := fun (W' : World) (hb : Below _ _ W') => tcheck_any (hL1.under hb) (hx1.below hb)
  have HB := Lib.hid hbad
  clear hL hx hbad hL1 hx1 hs hs'
  go_enter Tryz.func126, Tryz.ntmps126
  go_upto_region 1 with fail
  generalize W.alloc (.cells #[.string b.s, .int .i8 b.t.k, .int .i64 b.t.n, .string b.t.s, .string b.t.t, sv] 40) = w1 at a0 a1 a2 a3 a4 a5 hb cN cC ⊢
  have hmv : ∀ W' : World, Below w1.heap.size w1 W' → W'.cell? ⟨W.heap.size, 1, none⟩ = some (.int .i8 b.t.k) ∧ W'.cell? ⟨W.heap.size, 2, none⟩ = some (.int .i64 b.t.n) ∧ W'.cell? ⟨W.heap.size, 3, none⟩ = some (.string b.t.s) ∧ W'.cell? ⟨W.heap.size, 4, none⟩ = some (.string b.t.t) ∧ W'.cell? ⟨W.heap.size, 5, none⟩ = some sv := fun W' hb =>
    ⟨(hb.cell (p := ⟨W.heap.size, 1, none⟩) (cell_block a0)).trans a1, (hb.cell (p := ⟨W.heap.size, 2, none⟩) (cell_block a0)).trans a2, (hb.cell (p := ⟨W.heap.size, 3, none⟩) (cell_block a0)).trans a3, (hb.cell (p := ⟨W.heap.size, 4, none⟩) (cell_block a0)).trans a4, (hb.cell (p := ⟨W.heap.size, 5, none⟩) (cell_block a0)).trans a5⟩
  generalize chkT b.t = q at cC HB
  generalize nameA b.s = nm at cN HB
  cases hu : (b.s.toList == [95])
  · have HB := Lib.hid (HB.out.trans (show (undB b.s || (!nm || !(q == 0))) = (!nm || !(q == 0)) by unfold undB; rw [hu]; rfl))
    cases nm
    · clear cC hmv
      go_wp2_with (go_at_call 127; refine cN.mono ?_; rintro e w5 ⟨rfl, hb5⟩)
      go_ret
      exact ⟨by rw [HB.out]; rfl, hb.trans (hb5.mono hb.size)⟩
    · go_wp2_with (first
        | (go_at_call 127; refine cN.mono ?_; rintro e w5 ⟨rfl, hb5⟩; obtain ⟨c1, c2, c3, c4, c5⟩ := hmv _ hb5)
        | (go_at_call 79; refine (cC _ hb5).mono ?_; rintro e w6 ⟨rfl, hb6⟩; have hB6 := hb5.trans (hb6.mono hb5.size)))
      all_goals
        go_ret
        exact ⟨by rw [HB.out]; rfl, hb.trans (hB6.mono hb.size)⟩
  · have HB := Lib.hid (HB.out.trans (show (undB b.s || (!nm || !(q == 0))) = true by unfold undB; rw [hu]; rfl))
    clear cC hmv cN
    go_wp2_with fail
    go_ret
    exact ⟨by rw [HB.out]; rfl, hb⟩
end Go.Proofs.YtlhobpknflobgaaGreatDoor
namespace Go.Proofs.YtlhobpknflobgaaGreatDoor
open Go.RowKit

/-- May some binds be? -/
def mayB (l : List Bd) : Bool := decide (l.length ≤ 64) && !l.any badB

set_option maxHeartbeats 1000000 in
theorem bmay_any {F : Nat → Prop} {w : World} {v : Value} {l : List Bd} (hL : Letters w) (hl : Binds F w v l) :
    Calls Tryz.prog 80 #[v] w fun e w' => e = .returned (.bool (mayB l)) ∧ Below w.heap.size w w' := by
  have hlen : l.length ≤ 2199023255552 := hl.len
  have cC := containsB_any (P := badB) hl fun x _ W sv hb hx hs => may1_any (hL.under hb) hx hs
  obtain ⟨p, c, rfl⟩ := hl.slice
  clear hl hL
  unfold mayB
  generalize l.any badB = q at cC
  by_cases h : l.length ≤ 64
  · go_enter Tryz.func80, Tryz.ntmps80
    go_wp2_with (go_at_call 97; refine cC.mono ?_; rintro e w5 ⟨rfl, hb5⟩)
    go_ret
    exact ⟨by rw [decide_eq_true h]; rfl, hb5⟩
  · go_enter Tryz.func80, Tryz.ntmps80
    go_wp2_with fail
    go_ret
    exact ⟨rfl, Below.refl _ _⟩

set_option maxHeartbeats 4000000 in
set_option maxRecDepth 100000 in
theorem rbmay_any {F : Nat → Prop} {w : World} {v : Value} {l : List Bd} (hl : Binds F w v l) :
    Calls Tryz.prog 82 #[v] w fun e w' => e = .returned (.bool (mayB l)) ∧ Below w.heap.size w w' := by
  have hlen : l.length ≤ 2199023255552 := hl.len
  obtain ⟨p, c, rfl⟩ := hl.slice
  have HL := Lib.hid hl
  have HM := Lib.hid (show mayB l = (decide (l.length ≤ 64) && !l.any badB) from rfl)
  clear hl
  by_cases h : (64 : Int) < l.length
  · go_enter Tryz.func82, Tryz.ntmps82
    go_wp2_with fail
    go_ret
    exact ⟨by rw [HM.out, decide_eq_false (by omega)]; rfl, Below.refl _ _⟩
  have HM2 := Lib.hid (HM.out.trans (by rw [decide_eq_true (by omega)]; rfl : _ = !l.any badB))
  clear HM
  go_enter Tryz.func82, Tryz.ntmps82
  go_wp2_with fail
  go_loopw [3] (fun i wr => ∃ k : Nat, k ≤ l.length ∧ i = .int .i64 k ∧ (l.take k).any badB = false ∧ Below w.heap.size w wr) (fun i _ => l.length - (intOf i).toNat)
  case atStart => exact ⟨0, Nat.zero_le _, rfl, rfl, Below.refl _ _⟩
  case round =>
    obtain ⟨k, hk, rfl, hall, hbr⟩ := hrel
    by_cases hlt : k < l.length
    · obtain ⟨g, o, kv, rfl, _, hs0, hsz, hnode, hkid⟩ := (HL.out.under hbr).at hlt
      have hsz' : l[k].s.size ≤ 140737488355328 := hsz
      have cN := rname_any wr l[k].s hsz'
      have cC := rcheck_any hkid
      obtain ⟨a0, a1, a2, a3, a4⟩ := hnode
      have hbad : badB l[k] = (undB l[k].s || (!nameA l[k].s || !(chkT l[k].t == 0))) := rfl
      have hstop : badB l[k] = true → Hid (mayB l = false) := fun h => by
        unfold Hid; rw [HM2.out, List.any_eq_true.2 ⟨l[k], List.getElem_mem hlt, h⟩]; rfl
      have hnext : badB l[k] = false → Hid ((l.take (k + 1)).any badB = false) := fun h => by
        unfold Hid; rw [List.take_succ_eq_append_getElem hlt, List.any_append, hall]; simp [h]
      have HB := Lib.hid hbad
      clear hbad hall hkid
      generalize chkT l[k].t = q at cC HB
      cases hnm : nameA l[k].s
      · have HS := hstop (by rw [HB.out, hnm]; simp)
        rw [hnm] at cN
        clear cC hstop hnext hnm
        go_wp2_with (go_at_call 129; refine cN.mono ?_; rintro e w5 ⟨rfl, rfl⟩)
        go_ret
        exact ⟨by rw [HS.out]; rfl, hbr⟩
      rw [hnm] at cN
      cases hu : (l[k].s.toList == [95])
      · by_cases hq : q = 0
        · have HN := hnext (by rw [HB.out, hnm, hq]; unfold undB; rw [hu]; rfl)
          subst hq
          clear hstop hnext hnm
          go_wp2_with (first
            | (go_at_call 129; refine cN.mono ?_; rintro e w5 ⟨rfl, rfl⟩)
            | (go_at_call 13; refine cC.mono ?_; rintro e w6 ⟨rfl, hb6⟩))
          go_roundw
          case rel => exact ⟨k + 1, hlt, by go_num, HN.out, hbr.trans (hb6.mono hbr.size)⟩
          case measure => simp [intOf]; omega
        · have hq' : (q == 0) = false := by simpa using hq
          have hq2 : (q != 0) = true := by simpa using hq
          have HS := hstop (by rw [HB.out, hnm, hq']; simp)
          clear hstop hnext hnm hq
          go_wp2_with (first
            | (go_at_call 129; refine cN.mono ?_; rintro e w5 ⟨rfl, rfl⟩)
            | (go_at_call 13; refine cC.mono ?_; rintro e w6 ⟨rfl, hb6⟩))
          go_ret
          exact ⟨by rw [HS.out]; rfl, hbr.trans (hb6.mono hbr.size)⟩
      · have HS := hstop (by rw [HB.out]; unfold undB; rw [hu]; rfl)
        clear cC hstop hnext hnm
        go_wp2_with (go_at_call 129; refine cN.mono ?_; rintro e w5 ⟨rfl, rfl⟩)
        go_ret
        exact ⟨by rw [HS.out]; rfl, hbr⟩
    · rw [List.take_of_length_le (by omega)] at hall
      have HN : Hid (mayB l = true) := by unfold Hid; rw [HM2.out, hall]; rfl
      clear hall
      go_wp2
      go_ret
      exact ⟨by rw [HN.out]; rfl, hbr⟩
end Go.Proofs.YtlhobpknflobgaaGreatDoor
