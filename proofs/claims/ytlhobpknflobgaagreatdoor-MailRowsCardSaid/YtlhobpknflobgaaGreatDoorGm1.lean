/-
  guard.may; pleachlaw17.item, takes; ast.Guard at a guard of no tests. Conditions: the terms lie as 'TrV' says.
-/
import Derived.Test.YtlhobpknflobgaaGreatDoorMl9
namespace Go.Proofs.YtlhobpknflobgaaGreatDoor
open Go.RowKit

def badT (b : Bd) : Bool := !(chkT b.t == 0)
/-- May all binds' terms be? -/
def gmayB (l : List Bd) : Bool := !l.any badT

set_option maxHeartbeats 2000000 in
set_option maxRecDepth 100000 in
theorem indexG_any {F : Nat → Prop} {P : Bd → Bool} {l : List Bd} {w : World} {v : Value} (hl : Binds F w v l)
    (hP : ∀ x ∈ l, ∀ (W : World) (sv : Value), Below w.heap.size w W → TrV F W x.t sv → x.s.size ≤ BL * 64 → Calls Tryz.prog 98 #[.agg #[.string x.s, .int .i8 x.t.k, .int .i64 x.t.n, .string x.t.s, .string x.t.t, sv]] W fun e w' => e = .returned (.bool (P x)) ∧ Below W.heap.size W w') :
    Calls Tryz.prog 65 #[v, .func (Fn.func 98) #[] #[]] w fun e w' => e = .returned (.int .i64 (idxB P l)) ∧ Below w.heap.size w w' := by
  obtain ⟨p, c, rfl⟩ := hl.slice
  have hlen : l.length ≤ 2199023255552 := hl.len
  have HF := Lib.hid hP
  have HL := Lib.hid hl
  clear hP hl
  go_enter Tryz.func65, Tryz.ntmps65
  go_wp2
  go_loopw [8] (fun i wr => ∃ k : Nat, k ≤ l.length ∧ i = .int .i64 k ∧ (l.take k).all (fun x => !P x) = true ∧ Below w.heap.size w wr) (fun i _ => l.length - (intOf i).toNat)
  case atStart => exact ⟨0, Nat.zero_le _, rfl, rfl, Below.refl _ _⟩
  case round =>
    obtain ⟨k, hk, rfl, hall, hbr⟩ := hrel
    by_cases hlt : k < l.length
    · obtain ⟨g, o, kv, rfl, _, hs0, hsz, ⟨a0, a1, a2, a3, a4⟩, hkid⟩ := (HL.out.under hbr).at hlt
      have cK := HF.out l[k] (List.getElem_mem hlt) wr kv hbr hkid hsz
      cases hq : P l[k]
      · have hnext : (l.take (k + 1)).all (fun x => !P x) = true := by
          rw [List.take_succ_eq_append_getElem hlt, List.all_append, hall]; simp [hq]
        rw [hq] at cK
        have HN := Lib.hid hnext
        clear hnext hall hq hkid
        go_wp2_with (go_at_call 98; refine cK.mono ?_; rintro e w5 ⟨rfl, hb5⟩)
        go_roundw
        case rel => exact ⟨k + 1, hlt, by go_num, HN.out, hbr.trans (hb5.mono hbr.size)⟩
        case measure => simp [intOf]; omega
      · have hfin := idx_here hlt hall hq
        rw [hq] at cK
        have HN := Lib.hid hfin
        clear hfin hall hq hkid
        go_wp2_with (go_at_call 98; refine cK.mono ?_; rintro e w5 ⟨rfl, hb5⟩)
        go_ret
        exact ⟨by rw [HN.out] <;> rfl, hbr.trans (hb5.mono hbr.size)⟩
    · rw [List.take_of_length_le (by omega)] at hall
      have HN := Lib.hid (idx_none hall)
      clear hall
      go_wp2
      go_ret
      exact ⟨by rw [HN.out] <;> rfl, hbr⟩

set_option maxHeartbeats 400000 in
theorem containsG_any {F : Nat → Prop} {P : Bd → Bool} {l : List Bd} {w : World} {v : Value} (hl : Binds F w v l)
    (hP : ∀ x ∈ l, ∀ (W : World) (sv : Value), Below w.heap.size w W → TrV F W x.t sv → x.s.size ≤ BL * 64 → Calls Tryz.prog 98 #[.agg #[.string x.s, .int .i8 x.t.k, .int .i64 x.t.n, .string x.t.s, .string x.t.t, sv]] W fun e w' => e = .returned (.bool (P x)) ∧ Below W.heap.size W w') :
    Calls Tryz.prog 97 #[v, .func (Fn.func 98) #[] #[]] w fun e w' => e = .returned (.bool (l.any P)) ∧ Below w.heap.size w w' := by
  have cI := indexG_any hl hP
  have h0 := idx_any P l
  obtain ⟨p, c, rfl⟩ := hl.slice
  clear hl hP
  generalize idxB P l = k at cI h0
  go_enter Tryz.func97, Tryz.ntmps97
  go_wp2_with (go_at_call 65; refine cI.mono ?_; rintro e w5 ⟨rfl, hb5⟩)
  all_goals
    go_ret
    exact ⟨ret_bool (by rw [← h0] <;> simp), hb5⟩


set_option maxHeartbeats 2000000 in
set_option maxRecDepth 100000 in
theorem gmay1_any {F : Nat → Prop} {W : World} {b : Bd} {sv : Value} (hL : Letters W) (hx : TrV F W b.t sv) :
    Calls Tryz.prog 98 #[.agg #[.string b.s, .int .i8 b.t.k, .int .i64 b.t.n, .string b.t.s, .string b.t.t, sv]] W fun e w' => e = .returned (.bool (badT b)) ∧ Below W.heap.size W w' := by
  obtain ⟨a0, a1, a2, a3, a4, a5⟩ := box6 W (.string b.s) (.int .i8 b.t.k) (.int .i64 b.t.n) (.string b.t.s) (.string b.t.t) sv 40
  have hb := alloc_below W (.cells #[.string b.s, .int .i8 b.t.k, .int .i64 b.t.n, .string b.t.s, .string b.t.t, sv] 40)
  have cC := tcheck_any (hL.under hb) (hx.below hb)
  have HB := Lib.hid (show badT b = !(chkT b.t == 0) from rfl)
  clear hL hx
  generalize chkT b.t = q at cC HB
  go_enter Tryz.func98, Tryz.ntmps98
  go_wp2_with (go_at_call 79; refine cC.mono ?_; rintro e w6 ⟨rfl, hb6⟩)
  go_ret
  exact ⟨by rw [HB.out]; rfl, hb.trans (hb6.mono hb.size)⟩

set_option maxHeartbeats 1000000 in
theorem gmay_any {F : Nat → Prop} {w : World} {v : Value} {l : List Bd} (hL : Letters w) (hl : Binds F w v l) :
    Calls Tryz.prog 55 #[v] w fun e w' => e = .returned (.bool (gmayB l)) ∧ Below w.heap.size w w' := by
  have cC := containsG_any (P := badT) hl fun x _ W sv hb hx hs => gmay1_any (hL.under hb) hx
  obtain ⟨p, c, rfl⟩ := hl.slice
  clear hl hL
  unfold gmayB
  generalize l.any badT = q at cC
  go_enter Tryz.func55, Tryz.ntmps55
  go_wp2_with (go_at_call 97; refine cC.mono ?_; rintro e w5 ⟨rfl, hb5⟩)
  go_ret
  exact ⟨rfl, hb5⟩

/-- A guard of no tests. -/
def eG : Tr := .mk 4 0 ⟨#[]⟩ ⟨#[]⟩ []

set_option maxHeartbeats 1000000 in
set_option maxRecDepth 100000 in
theorem eachE_any (w : World) (p : Option Addr) (c : Nat) :
    Calls Tryz.prog 144 #[.slice p 0 c, .func (Fn.func 96) #[] #[]] w fun e w' => e = .returned (.bool true) ∧ Below w.heap.size w w' := by
  go_enter Tryz.func144, Tryz.ntmps144
  go_wp2
  go_loopw [8] (fun i wr => i = .int .i64 0 ∧ Below w.heap.size w wr) (fun i _ => 0)
  case atStart => exact ⟨rfl, Below.refl _ _⟩
  case round =>
    obtain ⟨rfl, hbr⟩ := hrel
    go_wp2
    go_ret
    exact ⟨rfl, hbr⟩

set_option maxHeartbeats 4000000 in
set_option maxRecDepth 100000 in
theorem guardE_any {F : Nat → Prop} {w : World} {g o : Nat} {sv : Value} (h : NodeAt w g o eG sv) (hx : TrV F w eG sv) :
    Calls Tryz.prog 103 #[.pointer (some ⟨g, o, none⟩)] w fun e w' => e = .returned (.bool true) ∧ Below w.heap.size w w' := by
  obtain ⟨p, c, rfl⟩ := hx.kids.slice
  have cO := only_any h false false false true
  rw [show bareB eG false false false true = true by kernel_rfl] at cO
  have hk := fun W (hb : Below w.heap.size w W) => h.keep (hb.block _ h.lt)
  obtain ⟨a0, a1, a2, a3, a4⟩ := h
  have HK := Lib.hid hk
  clear hx hk
  change w.cell? _ = some (.int .i8 4) at a0
  change w.cell? _ = some (.slice p 0 c) at a4
  clear a1 a2 a3
  go_enter Tryz.func103, Tryz.ntmps103
  go_wp2_with (first
    | (go_at_call 142; refine cO.mono ?_; rintro e w5 ⟨rfl, hb5⟩; have b4 : w5.cell? ⟨g, o + 4, none⟩ = some (.slice p 0 c) := (HK.out w5 hb5).l; have cE := eachE_any w5 p c)
    | (go_at_call 144; refine cE.mono ?_; rintro e w6 ⟨rfl, hb6⟩; have hB6 := hb5.trans (hb6.mono hb5.size)))
  go_ret
  exact ⟨rfl, hB6⟩

set_option maxHeartbeats 4000000 in
set_option maxRecDepth 100000 in
theorem guardEmpty_any {F : Nat → Prop} {w : World} {sv : Value} (hx : TrV F w eG sv) :
    Calls Tryz.prog 57 #[.agg #[.int .i8 4, .int .i64 0, .string ⟨#[]⟩, .string ⟨#[]⟩, sv]] w fun e w' => e = .returned (.bool true) ∧ Below w.heap.size w w' := by
  obtain ⟨p, c, rfl⟩ := hx.kids.slice
  obtain ⟨hb1, hz1, hn1⟩ := node_box w 25 4 0 ⟨#[]⟩ ⟨#[]⟩ (.slice p 0 c)
  have hx1 := hx.below hb1
  clear hx
  have hn1 : NodeAt (w.alloc (.cells #[.int .i8 4, .int .i64 0, .string ⟨#[]⟩, .string ⟨#[]⟩, .slice p 0 c] 25)) w.heap.size 0 eG (.slice p 0 c) := ⟨hn1.k, hn1.n, hn1.s, hn1.t, hn1.l⟩
  change Calls _ _ #[.agg #[.int .i8 4, .int .i64 0, .string ⟨#[]⟩, .string ⟨#[]⟩, .slice p 0 c]] _ _
  change TrV F _ eG (.slice p 0 c) at hx1
  go_enter Tryz.func57, Tryz.ntmps57
  go_upto_region 1 with fail
  generalize w.alloc (.cells #[.int .i8 4, .int .i64 0, .string ⟨#[]⟩, .string ⟨#[]⟩, .slice p 0 c] 25) = w1 at hb1 hz1 hn1 hx1 ⊢
  have cM := measure_any hn1 hx1
  rw [show eG.sz 4097 = 1 by kernel_rfl, show eG.dp 65 = 1 by kernel_rfl] at cM
  have cF := fun W => sfits_any W 1 1
  rw [show (decide ((1 : Int) ≤ 4096) && decide ((1 : Int) ≤ 64)) = true from rfl] at cF
  have cP := fun (W : World) (hb : Below w1.heap.size w1 W) => guardE_any (hn1.keep (hb.block _ hn1.lt)) (hx1.below hb)
  clear hn1 hx1
  go_wp2_with (first
    | (go_at_call 94; refine cM.mono ?_; rintro e w5 ⟨rfl, hb5⟩)
    | (go_at_call 95; refine (cF w5).mono ?_; rintro e w6 ⟨rfl, hb6⟩; have hB6 := hb5.trans (hb6.mono hb5.size))
    | (go_at_call 103; refine (cP _ hB6).mono ?_; rintro e w7 ⟨rfl, hb7⟩; have hB7 := hB6.trans (hb7.mono hB6.size)))
  go_ret
  exact ⟨rfl, hb1.trans (hB7.mono hb1.size)⟩
end Go.Proofs.YtlhobpknflobgaaGreatDoor
