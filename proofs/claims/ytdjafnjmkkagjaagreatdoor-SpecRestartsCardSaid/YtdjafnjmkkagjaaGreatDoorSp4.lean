/-
  spec.isAtom, begins, Normal, Restart. No condition.
-/
import Derived.Test.YtdjafnjmkkagjaaGreatDoorSp3
import Derived.Deep.RegionLaw
namespace Go.Proofs.YtdjafnjmkkagjaaGreatDoor.Rdb
open Go.RowKit

def isA (x : Tr) (s : ByteArray) : Bool := x.k == 1 && x.s.toList == s.toList
set_option maxHeartbeats 1000000 in
theorem isAtom_any {w : World} {g o : Nat} {x : Tr} {sv : Value} (h : NodeAt w g o x sv) (s : ByteArray) :
    Calls Tryz.prog 42 #[.pointer (some ⟨g, o, none⟩), .string s] w fun e w' => e = .returned (.bool (isA x s)) ∧ w' = w := by
  obtain ⟨h0, h1, h2, h3, h4⟩ := h
  go_enter Tryz.func42, Tryz.ntmps42
  by_cases hk : x.k = 1
  all_goals
    go_wp2
    go_ret
    exact ⟨by simp [isA, hk], rfl⟩

/-- Does a tuple of so many begin so? -/
def begS (x : Tr) (s : ByteArray) (n : Int) : Bool := x.k == 5 && ((x.l.length : Int) == n && (match x.l with
  | [] => false
  | y :: _ => isA y s))
set_option maxHeartbeats 1000000 in
set_option maxRecDepth 100000 in
theorem begins_any {w : World} {g o : Nat} {x : Tr} {sv : Value} (h : NodeAt w g o x sv) (hx : TrV (fun _ => True) w x sv) (s : ByteArray) (n : Int) (hn : 1 ≤ n) :
    Calls Tryz.prog 43 #[.pointer (some ⟨g, o, none⟩), .string s, .int .i64 n] w fun e w' => e = .returned (.bool (begS x s n)) ∧ w' = w := by
  obtain ⟨h0, h1, h2, h3, h4⟩ := h
  obtain ⟨p, c, rfl⟩ := hx.kids.slice
  have hlen := hx.kids.len
  by_cases hk : x.k = 5
  · by_cases hl : (x.l.length : Int) = n
    · have h0l : 0 < x.l.length := by omega
      obtain ⟨g1, o1, kv, rfl, _, hnode, _⟩ := hx.kids.at h0l
      rw [Nat.zero_mul, Nat.add_zero] at hnode
      have cI := isAtom_any hnode s
      have hb : begS x s n = isA x.l[0] s := by
        unfold begS
        match hq : x.l, h0l with
        | y :: r, _ => rw [hq] at hl; subst hl; simp [hk]
      rw [hb]
      generalize isA x.l[0] s = B at cI ⊢
      unfold BL at hlen
      clear hnode hx hb
      go_enter Tryz.func43, Tryz.ntmps43
      go_wp2_with (go_at_call 42; refine cI.mono ?_; rintro e w1 ⟨rfl, rfl⟩)
      go_ret
      exact ⟨rfl, rfl⟩
    · go_enter Tryz.func43, Tryz.ntmps43
      go_wp2
      go_ret
      exact ⟨by simp [begS, hk, hl], rfl⟩
  · go_enter Tryz.func43, Tryz.ntmps43
    go_wp2
    go_ret
    exact ⟨by simp [begS, hk], rfl⟩

def normB (x : Tr) : Bool := isA x ⟨#[110, 111, 114, 109, 97, 108]⟩ || (isA x ⟨#[115, 104, 117, 116, 100, 111, 119, 110]⟩ || begS x ⟨#[115, 104, 117, 116, 100, 111, 119, 110]⟩ 2)
set_option maxHeartbeats 1000000 in
set_option maxRecDepth 100000 in
theorem normal_any {w : World} {x : Tr} {sv : Value} (hx : TrV (fun _ => True) w x sv) :
    Calls Tryz.prog 14 #[.agg #[.int .i8 x.k, .int .i64 x.n, .string x.s, .string x.t, sv]] w fun e w' => e = .returned (.bool (normB x)) ∧ Below w.heap.size w w' := by
  obtain ⟨p, c, rfl⟩ := hx.kids.slice
  obtain ⟨hb1, hz1, hn1⟩ := node_box w 25 x.k x.n x.s x.t (.slice p x.l.length c)
  have hx1 := hx.below hb1
  go_enter Tryz.func14, Tryz.ntmps14
  go_upto_region 1 with fail
  generalize w.alloc (.cells #[.int .i8 x.k, .int .i64 x.n, .string x.s, .string x.t, .slice p x.l.length c] 25) = w1 at hb1 hz1 hn1 hx1 ⊢
  have hn2 : NodeAt w1 w.heap.size 0 x (.slice p x.l.length c) := ⟨hn1.k, hn1.n, hn1.s, hn1.t, hn1.l⟩
  have c1 := fun s => isAtom_any hn2 s
  have c3 := fun s => begins_any hn2 hx1 s 2 (by decide)
  clear hx hx1 hn1 hn2
  go_wp2_with (first
    | (go_at_call 42; refine (c1 _).mono ?_; rintro e w2 ⟨rfl, rfl⟩)
    | (go_at_call 43; refine (c3 _).mono ?_; rintro e w2 ⟨rfl, rfl⟩))
  all_goals
    go_ret
    refine ⟨?_, hb1⟩
    simp_all [normB]

def restB (rs : Int) (x : Tr) : Bool := rs == 0 || (rs == 1 && !normB x)
set_option maxHeartbeats 1000000 in
set_option maxRecDepth 100000 in
theorem restart_any {w : World} {x : Tr} {sv : Value} (hx : TrV (fun _ => True) w x sv) (v0 v1 v2 v3 v4 v5 v6 v7 v8 v9 v10 : Value) (rs : Int) :
    Calls Tryz.prog 13 #[.agg #[v0, v1, v2, v3, v4, v5, .int .i8 rs, v6, v7, v8, v9, v10], .agg #[.int .i8 x.k, .int .i64 x.n, .string x.s, .string x.t, sv]] w fun e w' => e = .returned (.bool (restB rs x)) ∧ Below w.heap.size w w' := by
  have hbA : ∀ r : Int, Below w.heap.size w ((w.alloc (.cells #[v0, v1, v2, v3, v4, v5, .int .i8 r, v6, v7, v8, v9, v10] 28)).alloc (.cells #[.int .i8 x.k, .int .i64 x.n, .string x.s, .string x.t, sv] 25)) := fun r =>
    (alloc_below w _).trans ((alloc_below (w.alloc (.cells #[v0, v1, v2, v3, v4, v5, .int .i8 r, v6, v7, v8, v9, v10] 28)) _).mono (alloc_below w _).size)
  have cN := fun W (hb : Below w.heap.size w W) => normal_any (hx.below hb)
  clear hx
  go_enter Tryz.func13, Tryz.ntmps13
  by_cases h0 : rs = 0
  · go_wp2
    go_ret
    exact ⟨by simp [restB, h0], hbA _⟩
  · by_cases h1 : rs = 1
    · go_wp2_with (go_at_call 14; refine (cN _ (hbA _)).mono ?_; rintro e w2 ⟨rfl, hb2⟩)
      go_ret
      refine ⟨?_, (hbA _).trans (hb2.mono (hbA _).size)⟩
      simp [restB, h1]
    · go_wp2
      go_ret
      exact ⟨by simp [restB, h0, h1], hbA _⟩
end Go.Proofs.YtdjafnjmkkagjaaGreatDoor.Rdb
