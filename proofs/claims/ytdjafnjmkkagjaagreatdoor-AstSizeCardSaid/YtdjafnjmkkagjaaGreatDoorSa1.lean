/-
  Joined texts of this seat's trees, and of them only what is used. Conditions: as each theorem says.
-/
import Derived.Test.YtdjafnjmkkagjaaGreatDoorRows
import Derived.WalkKit
import Derived.WalkSpells
import Derived.WalkLawsBesides
import Derived.WalkSmall
import Derived.Deep.QuietTactic
import Derived.BigQuiet
import Derived.Lib.Hide
import Derived.Deep.DeepFit
import Derived.Deep.DeepCutAuto
import Derived.Deep.LoopGhost
import Derived.StillTailTactics
import Derived.Deep.RegionWith
import Derived.Deep.RegionHeld3
import Derived.Deep.RegionLaw
import Derived.Laws.EntriesVeiled
import Derived.OneCell
import Derived.Laws.RangeAny
import Derived.Laws.Tables
import Derived.Laws.Rows
namespace Go.Proofs.YtdjafnjmkkagjaaGreatDoor
open Go.RowKit
inductive Tr where
  | mk (k n : Int) (s t : ByteArray) (l : List Tr) : Tr
def Tr.k : Tr → Int | .mk k _ _ _ _ => k
def Tr.n : Tr → Int | .mk _ n _ _ _ => n
def Tr.s : Tr → ByteArray | .mk _ _ s _ _ => s
def Tr.t : Tr → ByteArray | .mk _ _ _ t _ => t
def Tr.l : Tr → List Tr | .mk _ _ _ _ l => l
def BL : Nat := 2199023255552
structure NodeWf (x : Tr) : Prop where
  k : (Lit.int .i8 x.k).wf = true
  n : (Lit.int .i64 x.n).wf = true
  s : x.s.size ≤ BL * 64
  t : x.t.size ≤ BL * 64
structure NodeAt (w : World) (g o : Nat) (x : Tr) (sv : Value) : Prop where
  k : w.cell? ⟨g, o, none⟩ = some (.int .i8 x.k)
  n : w.cell? ⟨g, o + 1, none⟩ = some (.int .i64 x.n)
  s : w.cell? ⟨g, o + 2, none⟩ = some (.string x.s)
  t : w.cell? ⟨g, o + 3, none⟩ = some (.string x.t)
  l : w.cell? ⟨g, o + 4, none⟩ = some sv
inductive Kids (F : Nat → Prop) (w : World) : Value → List Tr → Prop
  | mk (p : Option Addr) (c : Nat) (l : List Tr) (sv : Nat → Value) (hc : l.length ≤ c) (hb : l.length ≤ BL) (hwf : ∀ i (h : i < l.length), NodeWf l[i])
      (hcells : ∀ i (h : i < l.length), ∃ g o, p = some ⟨g, o, none⟩ ∧ F g ∧ NodeAt w g (o + i * 5) l[i] (sv i))
      (hk : ∀ i (h : i < l.length), Kids F w (sv i) l[i].l) : Kids F w (.slice p l.length c) l
theorem cell_block {w : World} {g o : Nat} {v : Value} (h : w.cell? ⟨g, o, none⟩ = some v) : g < w.heap.size := by
  unfold World.cell? at h
  cases hg : w.heap[g]? with
  | none => simp [hg] at h
  | some ob => exact (Array.getElem?_eq_some_iff.1 hg).1
theorem NodeAt.lt {w : World} {g o : Nat} {x : Tr} {sv : Value} (h : NodeAt w g o x sv) : g < w.heap.size := cell_block h.k
theorem NodeAt.keep {w w' : World} {g o : Nat} {x : Tr} {sv : Value} (h : NodeAt w g o x sv) (hb : w'.heap[g]? = w.heap[g]?) : NodeAt w' g o x sv :=
  ⟨(World.cell?_of_block (a := ⟨g, o, none⟩) hb).trans h.k, (World.cell?_of_block (a := ⟨g, o + 1, none⟩) hb).trans h.n, (World.cell?_of_block (a := ⟨g, o + 2, none⟩) hb).trans h.s, (World.cell?_of_block (a := ⟨g, o + 3, none⟩) hb).trans h.t, (World.cell?_of_block (a := ⟨g, o + 4, none⟩) hb).trans h.l⟩
theorem Kids.keep {F : Nat → Prop} {w w' : World} {v : Value} {l : List Tr} (h : Kids F w v l) (hb : ∀ g, F g → g < w.heap.size → w'.heap[g]? = w.heap[g]?) : Kids F w' v l := by
  induction h with
  | mk p c l sv hc hbl hwf hcells hk ih =>
    exact .mk p c l sv hc hbl hwf (fun i hi => by
      obtain ⟨g, o, hp, hF, hn⟩ := hcells i hi
      exact ⟨g, o, hp, hF, hn.keep (hb g hF hn.lt)⟩) ih
theorem Kids.under {F : Nat → Prop} {w w' : World} {v : Value} {l : List Tr} (h : Kids F w v l) (hb : Below w.heap.size w w') : Kids F w' v l := h.keep fun g _ hg => hb.block g hg
theorem Kids.mono {F F' : Nat → Prop} {w : World} {v : Value} {l : List Tr} (h : Kids F w v l) (hF : ∀ g, F g → g < w.heap.size → F' g) : Kids F' w v l := by
  induction h with
  | mk p c l sv hc hbl hwf hcells hk ih =>
    exact .mk p c l sv hc hbl hwf (fun i hi => by
      obtain ⟨g, o, hp, hF', hn⟩ := hcells i hi
      exact ⟨g, o, hp, hF g hF' hn.lt, hn⟩) ih
theorem Kids.nil (F : Nat → Prop) (w : World) : Kids F w (.slice none 0 0) [] :=
  .mk none 0 [] (fun _ => .slice none 0 0) (Nat.le_refl _) (Nat.zero_le _) (fun i hi => absurd hi (by simp)) (fun i hi => absurd hi (by simp)) (fun i hi => absurd hi (by simp))
theorem Kids.open_ {F : Nat → Prop} {w : World} {v : Value} {l : List Tr} (h : Kids F w v l) : ∃ p c, v = .slice p l.length c ∧ l.length ≤ c ∧ l.length ≤ BL ∧
    ∀ i (h : i < l.length), ∃ g o sv, p = some ⟨g, o, none⟩ ∧ F g ∧ NodeAt w g (o + i * 5) l[i] sv ∧ NodeWf l[i] ∧ Kids F w sv l[i].l := by
  cases h with
  | mk p c l sv hc hbl hwf hcells hk =>
    refine ⟨p, c, rfl, hc, hbl, fun i hi => ?_⟩
    obtain ⟨g, o, hp, hF, hn⟩ := hcells i hi
    exact ⟨g, o, sv i, hp, hF, hn, hwf i hi, hk i hi⟩
theorem Kids.slice {F : Nat → Prop} {w : World} {v : Value} {l : List Tr} (h : Kids F w v l) : ∃ p c, v = .slice p l.length c := by
  obtain ⟨p, c, rfl, _⟩ := h.open_
  exact ⟨p, c, rfl⟩
theorem Kids.len {F : Nat → Prop} {w : World} {v : Value} {l : List Tr} (h : Kids F w v l) : l.length ≤ BL := by
  obtain ⟨p, c, rfl, _, h, _⟩ := h.open_
  exact h
structure TrV (F : Nat → Prop) (w : World) (x : Tr) (sv : Value) : Prop where
  wf : NodeWf x
  kids : Kids F w sv x.l
theorem Kids.at {F : Nat → Prop} {w : World} {p : Option Addr} {n c : Nat} {l : List Tr} (h : Kids F w (.slice p n c) l) {i : Nat} (hi : i < l.length) : ∃ g o sv, p = some ⟨g, o, none⟩ ∧ F g ∧ NodeAt w g (o + i * 5) l[i] sv ∧ TrV F w l[i] sv := by
  obtain ⟨p', c', he, _, _, hx⟩ := h.open_
  cases he
  obtain ⟨g, o, sv, h1, h2, h3, h4, h5⟩ := hx i hi
  exact ⟨g, o, sv, h1, h2, h3, h4, h5⟩
theorem TrV.below {F : Nat → Prop} {w w' : World} {x : Tr} {sv : Value} (h : TrV F w x sv) (hb : Below w.heap.size w w') : TrV F w' x sv := ⟨h.wf, h.kids.under hb⟩
def Tr.h : Tr → Nat
  | .mk _ _ _ _ l => hl l + 1
where hl : List Tr → Nat
  | [] => 0
  | x :: r => max x.h (hl r)
theorem Tr.h_mem {x : Tr} : ∀ {l : List Tr}, x ∈ l → x.h ≤ Tr.h.hl l
  | y :: r, hx => by
    rcases List.mem_cons.1 hx with rfl | hx
    · simp only [Tr.h.hl]; omega
    · have := Tr.h_mem hx; simp only [Tr.h.hl]; omega
theorem Tr.h_kid {x y : Tr} (h : y ∈ x.l) : y.h < x.h := by
  cases x with
  | mk k n s t l =>
    have := Tr.h_mem (show y ∈ l from h)
    show _ < Tr.h.hl l + 1
    omega
theorem Tr.ind {P : Tr → Prop} (h : ∀ x, (∀ y ∈ x.l, P y) → P x) : ∀ x, P x := by
  have : ∀ n (x : Tr), x.h < n → P x := by
    intro n
    induction n with
    | zero => exact fun x hx => absurd hx (Nat.not_lt_zero _)
    | succ n ih => exact fun x hx => h x fun y hy => ih y (by have := Tr.h_kid hy; omega)
  exact fun x => this (x.h + 1) x (Nat.lt_succ_self _)
def Tr.sz : Tr → Int → Int
  | .mk _ _ _ _ l, m => szl l m 1
where szl : List Tr → Int → Int → Int
  | [], _, n => n
  | x :: r, m, n => if n < m then szl r m (n + x.sz (m - n)) else n
theorem szl_stop (l : List Tr) {m n : Int} (h : m ≤ n) : Tr.sz.szl l m n = n := by
  cases l with
  | nil => rfl
  | cons x r => rw [Tr.sz.szl, if_neg (by omega)]
theorem sz_bound (x : Tr) : ∀ m : Int, 1 ≤ m → 1 ≤ x.sz m ∧ x.sz m ≤ m := by
  induction x using Tr.ind with
  | h x ih =>
    intro m hm
    cases x with
    | mk k n s t l =>
      have key : ∀ (r : List Tr), (∀ y ∈ r, y ∈ l) → ∀ a : Int, 1 ≤ a → a ≤ m → a ≤ Tr.sz.szl r m a ∧ Tr.sz.szl r m a ≤ m := by
        intro r
        induction r with
        | nil => exact fun _ a _ h => ⟨Int.le_refl _, h⟩
        | cons y r ihr =>
          intro hr a h1 h2
          rw [Tr.sz.szl]
          split
          · have h3 := ih y (hr y (by simp)) (m - a) (by omega)
            have h4 := ihr (fun z hz => hr z (List.mem_cons_of_mem _ hz)) (a + y.sz (m - a)) (by omega) (by omega)
            omega
          · omega
      exact key l (fun _ h => h) 1 (Int.le_refl _) hm
end Go.Proofs.YtdjafnjmkkagjaaGreatDoor
namespace Go.Proofs.YtdjafnjmkkagjaaGreatDoor
open Go.RowKit
theorem szl_take {l : List Tr} {k : Nat} {m a : Int} (hk : k < l.length) (ha : a < m) : Tr.sz.szl (l.drop k) m a = Tr.sz.szl (l.drop (k + 1)) m (a + l[k].sz (m - a)) := by
  rw [List.drop_eq_getElem_cons hk, Tr.sz.szl, if_pos ha]
theorem node_box (w : World) (T : TypeId) (k n : Int) (s t : ByteArray) (sv : Value) :
    Below w.heap.size w (w.alloc (.cells #[.int .i8 k, .int .i64 n, .string s, .string t, sv] T)) ∧ (w.alloc (.cells #[.int .i8 k, .int .i64 n, .string s, .string t, sv] T)).heap.size = w.heap.size + 1 ∧
      NodeAt (w.alloc (.cells #[.int .i8 k, .int .i64 n, .string s, .string t, sv] T)) w.heap.size 0 (.mk k n s t []) sv := by
  refine ⟨(Below.refl _ _).alloc (Nat.le_refl _) _, by simp, ?_, ?_, ?_, ?_, ?_⟩ <;> (rw [World.cell?_alloc_at _ _ _ _ (by simp)]; rfl)
def SzRel (x : Tr) (m : Int) (w1 : World) (n i : Value) (wr : World) : Prop :=
  ∃ k : Nat, k ≤ x.l.length ∧ i = .int .i64 k ∧ ∃ a : Int, n = .int .i64 a ∧ 1 ≤ a ∧ a ≤ m ∧ Tr.sz.szl (x.l.drop k) m a = x.sz m ∧ Below w1.heap.size w1 wr
set_option maxHeartbeats 1000000 in
set_option maxRecDepth 100000 in
theorem nodes_any {F : Nat → Prop} (x : Tr) : ∀ (w : World) (sv : Value) (m : Int), TrV F w x sv → 1 ≤ m → m ≤ 1099511627776 →
    Calls Tryz.prog 58 #[.agg #[.int .i8 x.k, .int .i64 x.n, .string x.s, .string x.t, sv], .int .i64 m] w fun e w' => e = .returned (.int .i64 (x.sz m)) ∧ Below w.heap.size w w' := by
  induction x using Tr.ind with
  | h x ih =>
    intro w sv m hx hm hm2
    obtain ⟨p, c, rfl⟩ := hx.kids.slice
    obtain ⟨hb1, hz1, hn1⟩ := node_box w 57 x.k x.n x.s x.t (.slice p x.l.length c)
    have hx1 := hx.below hb1
    have hlen := hx.kids.len
    have hlen' : x.l.length ≤ 2199023255552 := hlen
    have h4 := hn1.l
    have hrel0 : x.sz m = Tr.sz.szl x.l m 1 := by cases x; rfl
    have IH := Lib.hid ih
    have HR := Lib.hid hrel0
    clear hn1 ih hrel0 hx hlen
    go_enter Tryz.func58, Tryz.ntmps58
    go_wp2
    generalize w.alloc (.cells #[.int .i8 x.k, .int .i64 x.n, .string x.s, .string x.t, .slice p x.l.length c] 57) = w1 at hb1 hz1 h4 hx1 ⊢
    go_loopw [5, 6] (fun n i wr => SzRel x m w1 n i wr) (fun _ i _ => x.l.length - (intOf i).toNat)
    case atStart => exact ⟨0, Nat.zero_le _, rfl, 1, rfl, Int.le_refl _, hm, HR.out.symm, Below.refl _ _⟩
    case round =>
      obtain ⟨k, hk, rfl, a, rfl, ha1, ha2, hrest, hbr⟩ := hrel
      have hxr := hx1.below hbr
      have hbw := hb1.trans (hbr.mono (by omega))
      have h4r := (hbr.cell (p := ⟨w.heap.size, 0 + 4, none⟩) (by show w.heap.size < _; omega)).trans h4
      simp only [Nat.zero_add] at h4r
      by_cases hlt : k < x.l.length
      · by_cases ham : a < m
        · obtain ⟨g, o, kv, rfl, hg, hnode, hkid⟩ := hxr.kids.at hlt
          have cK := fun W hb => IH.out x.l[k] (List.getElem_mem hlt) W kv (m - a) (hkid.below (w' := W) hb) (by omega) (by omega)
          have hszk := sz_bound x.l[k] (m - a) (by omega)
          have hnext := szl_take hlt ham
          obtain ⟨e0, e1, e2, e3, e4⟩ := hnode
          generalize x.l[k] = y at *
          have HN := Lib.hid (hnext.symm.trans hrest)
          clear hnext hrest hkid hxr h4 hx1
          go_wp2_with (go_at_call 58; refine (cK _ (Below.refl _ _)).mono ?_; rintro e w2 ⟨rfl, hb2⟩)
          go_roundw
          case rel => exact ⟨k + 1, hlt, by go_num, _, rfl, by omega, by omega, HN.out, hbr.trans (hb2.mono hbr.size)⟩
          case measure => simp [intOf]; omega
        · rw [szl_stop _ (by omega)] at hrest
          subst hrest
          clear h4 hx1 hxr
          go_wp2
          go_ret
          exact ⟨rfl, hbw⟩
      · rw [List.drop_eq_nil_of_le (by omega), Tr.sz.szl] at hrest
        subst hrest
        clear h4 hx1 hxr
        by_cases ham : x.sz m < m
        all_goals
          go_wp2
          go_ret
          exact ⟨rfl, hbw⟩
def Tr.dp : Tr → Int → Int
  | .mk _ _ _ _ l, m => if 1 < m then dpl l m 1 else 1
where dpl : List Tr → Int → Int → Int
  | [], _, n => n
  | x :: r, m, n => dpl r m (max n (1 + x.dp (m - 1)))
theorem dpl_take {l : List Tr} {k : Nat} {m a : Int} (hk : k < l.length) : Tr.dp.dpl (l.drop k) m a = Tr.dp.dpl (l.drop (k + 1)) m (max a (1 + l[k].dp (m - 1))) := by
  rw [List.drop_eq_getElem_cons hk, Tr.dp.dpl]
theorem dp_bound (x : Tr) : ∀ m : Int, 1 ≤ m → 1 ≤ x.dp m ∧ x.dp m ≤ m := by
  induction x using Tr.ind with
  | h x ih =>
    intro m hm
    cases x with
    | mk k n s t l =>
      rw [Tr.dp]
      split
      · have key : ∀ (r : List Tr), (∀ y ∈ r, y ∈ l) → ∀ a : Int, 1 ≤ a → a ≤ m → a ≤ Tr.dp.dpl r m a ∧ Tr.dp.dpl r m a ≤ m := by
          intro r
          induction r with
          | nil => exact fun _ a _ h => ⟨Int.le_refl _, h⟩
          | cons y r ihr =>
            intro hr a h1 h2
            rw [Tr.dp.dpl]
            have h3 := ih y (hr y (by simp)) (m - 1) (by omega)
            have h4 := ihr (fun z hz => hr z (List.mem_cons_of_mem _ hz)) (max a (1 + y.dp (m - 1))) (by omega) (by omega)
            omega
        exact key l (fun _ h => h) 1 (Int.le_refl _) hm
      · omega
theorem dpl_bound {l : List Tr} {m : Int} (hm : 1 < m) : ∀ a : Int, 1 ≤ a → a ≤ m → a ≤ Tr.dp.dpl l m a ∧ Tr.dp.dpl l m a ≤ m := by
  induction l with
  | nil => exact fun a _ h => ⟨Int.le_refl _, h⟩
  | cons y r ih =>
    intro a h1 h2
    rw [Tr.dp.dpl]
    have h3 := dp_bound y (m - 1) (by omega)
    have h4 := ih (max a (1 + y.dp (m - 1))) (by omega) (by omega)
    omega
end Go.Proofs.YtdjafnjmkkagjaaGreatDoor
namespace Go.Proofs.YtdjafnjmkkagjaaGreatDoor
open Go.RowKit
theorem alloc_below (w : World) (o : Obj) : Below w.heap.size w (w.alloc o) := (Below.refl _ _).alloc (Nat.le_refl _) _
set_option maxHeartbeats 400000 in
theorem greatN_any {F : Nat → Prop} {x : Tr} {w : World} {sv : Value} (hx : TrV F w x sv) :
    Calls Tryz.prog 26 #[.agg #[.int .i8 x.k, .int .i64 x.n, .string x.s, .string x.t, sv]] w fun e w' => e = .returned (.bool (decide (8192 ≤ x.sz 8192))) ∧ Below w.heap.size w w' := by
  obtain ⟨p, c, rfl⟩ := hx.kids.slice
  have cK := fun W hb => nodes_any x W _ 8192 (hx.below (w' := W) hb) (by omega) (by omega)
  clear hx
  go_enter Tryz.func26, Tryz.ntmps26
  go_wp2_with (go_at_call 58; refine (cK _ (alloc_below _ _)).mono ?_; rintro e w2 ⟨rfl, hb2⟩)
  go_ret
  exact ⟨rfl, (alloc_below _ _).trans (hb2.mono (by simp))⟩
end Go.Proofs.YtdjafnjmkkagjaaGreatDoor
namespace Go.Proofs.YtdjafnjmkkagjaaGreatDoor
open Go.RowKit
theorem ret_bool {a b : Bool} (h : a = b) : Ending.returned (.bool a) = .returned (.bool b) := by rw [h]
theorem ret_i64 {a b : Int} (h : a = b) : Ending.returned (.int .i64 a) = .returned (.int .i64 b) := by rw [h]
def letB (c : Int) : Bool := (decide (97 ≤ c) && decide (c ≤ 122)) || (decide (65 ≤ c) && decide (c ≤ 90)) || (decide (48 ≤ c) && decide (c ≤ 57)) || (c == 95)
theorem letB_iff (c : Int) : letB c = true ↔ (97 ≤ c ∧ c ≤ 122) ∨ (65 ≤ c ∧ c ≤ 90) ∨ (48 ≤ c ∧ c ≤ 57) ∨ c = 95 := by
  simp [letB, or_assoc]
def inB (c : Int) (L : List (Int × Int)) : Bool := L.any fun x => decide (x.1 ≤ c) && decide (c ≤ x.2)
def LR : List (Int × Int) := [(97, 122), (65, 90), (48, 57), (95, 95)]
theorem inB_LR (c : Int) : inB c LR = letB c := by
  rw [Bool.eq_iff_iff, letB_iff]
  simp only [inB, LR, List.any_cons, List.any_nil, Bool.or_false, Bool.or_eq_true, Bool.and_eq_true, decide_eq_true_eq]
  omega
theorem inB_small (c : Int) : inB c (LR.take 1) = (decide (97 ≤ c) && decide (c ≤ 122)) := by simp [inB, LR]
structure Letters (w : World) : Prop where
  c0 : w.cell? ⟨1, 0, none⟩ = some (.int .u8 97)
  c1 : w.cell? ⟨1, 1, none⟩ = some (.int .u8 122)
  c2 : w.cell? ⟨1, 2, none⟩ = some (.int .u8 65)
  c3 : w.cell? ⟨1, 3, none⟩ = some (.int .u8 90)
  c4 : w.cell? ⟨1, 4, none⟩ = some (.int .u8 48)
  c5 : w.cell? ⟨1, 5, none⟩ = some (.int .u8 57)
  c6 : w.cell? ⟨1, 6, none⟩ = some (.int .u8 95)
  c7 : w.cell? ⟨1, 7, none⟩ = some (.int .u8 95)
theorem Letters.lt {w : World} (h : Letters w) : 1 < w.heap.size := cell_block h.c0
theorem Letters.below {w w' : World} (h : Letters w) {B : Nat} (hB : 1 < B) (hb : Below B w w') : Letters w' :=
  ⟨(hb.cell (p := ⟨1, 0, none⟩) hB).trans h.c0, (hb.cell (p := ⟨1, 1, none⟩) hB).trans h.c1, (hb.cell (p := ⟨1, 2, none⟩) hB).trans h.c2, (hb.cell (p := ⟨1, 3, none⟩) hB).trans h.c3, (hb.cell (p := ⟨1, 4, none⟩) hB).trans h.c4, (hb.cell (p := ⟨1, 5, none⟩) hB).trans h.c5, (hb.cell (p := ⟨1, 6, none⟩) hB).trans h.c6, (hb.cell (p := ⟨1, 7, none⟩) hB).trans h.c7⟩
theorem Letters.under {w w' : World} (h : Letters w) (hb : Below w.heap.size w w') : Letters w' := h.below h.lt hb
def Part (w : World) (o : Nat) (L : List (Int × Int)) : Prop := ∀ k (hk : k < L.length), w.cell? ⟨1, o + k * 2, none⟩ = some (.int .u8 L[k].1) ∧ w.cell? ⟨1, o + k * 2 + 1, none⟩ = some (.int .u8 L[k].2)
theorem Letters.whole {w : World} (h : Letters w) : Part w 0 LR := fun k hk => by
  match k, hk with
  | 0, _ => exact ⟨h.c0, h.c1⟩
  | 1, _ => exact ⟨h.c2, h.c3⟩
  | 2, _ => exact ⟨h.c4, h.c5⟩
  | 3, _ => exact ⟨h.c6, h.c7⟩
theorem Letters.small {w : World} (h : Letters w) : Part w 0 (LR.take 1) := fun k hk => by
  match k, hk with
  | 0, _ => exact ⟨h.c0, h.c1⟩
set_option maxHeartbeats 1000000 in
set_option maxRecDepth 100000 in
theorem is_any {w : World} {o cap : Nat} {L : List (Int × Int)} (hP : Part w o L) (hlen : L.length ≤ 4) (hw : 1 < w.heap.size) (c : Int) :
    Calls Tryz.prog 177 #[.int .u8 c, .slice (some ⟨1, o, none⟩) L.length cap] w fun e w' => e = .returned (.bool (inB c L)) ∧ Below w.heap.size w w' := by
  have HP := Lib.hid hP
  clear hP
  go_enter Tryz.func177, Tryz.ntmps177
  go_wp2
  go_loopw [9] (fun i wr => ∃ k : Nat, k ≤ L.length ∧ i = .int .i64 k ∧ inB c (L.take k) = false ∧ Below w.heap.size w wr) (fun i _ => L.length - (intOf i).toNat)
  case atStart => exact ⟨0, Nat.zero_le _, rfl, rfl, Below.refl _ _⟩
  case round =>
    obtain ⟨k, hk, rfl, hno, hbr⟩ := hrel
    have HNO := Lib.hid hno
    clear hno
    by_cases hlt : k < L.length
    · obtain ⟨e0, e1⟩ := HP.out k hlt
      have e0 := (hbr.cell (p := ⟨1, o + k * 2, none⟩) hw).trans e0
      have e1 := (hbr.cell (p := ⟨1, o + k * 2 + 1, none⟩) hw).trans e1
      have hnext : inB c (L.take (k + 1)) = (decide (L[k].1 ≤ c) && decide (c ≤ L[k].2)) := by
        have := HNO.out
        unfold inB at this ⊢
        rw [List.take_succ_eq_append_getElem hlt, List.any_append, this]
        simp
      have hall : (decide (L[k].1 ≤ c) && decide (c ≤ L[k].2)) = true → inB c L = true := fun h => by
        unfold inB
        exact List.any_eq_true.2 ⟨_, List.getElem_mem hlt, h⟩
      generalize L[k] = x at *
      have HN := Lib.hid hnext
      have HALL := Lib.hid hall
      clear hnext hall
      by_cases h1 : x.1 ≤ c
      · by_cases h2 : c ≤ x.2
        · go_wp2
          go_ret
          exact ⟨ret_bool (HALL.out (by simp [h1, h2])).symm, (hbr.alloc hbr.size _)⟩
        · go_wp2
          go_roundw
          case rel => exact ⟨k + 1, hlt, by go_num, by rw [HN.out]; simp [h2], (hbr.alloc hbr.size _)⟩
          case measure => simp [intOf]; omega
      · go_wp2
        go_roundw
        case rel => exact ⟨k + 1, hlt, by go_num, by rw [HN.out]; simp [h1], (hbr.alloc hbr.size _)⟩
        case measure => simp [intOf]; omega
    · go_wp2
      go_ret
      have : L.take k = L := List.take_of_length_le (by omega)
      exact ⟨ret_bool (by have h := HNO.out; rw [this] at h; exact h.symm), hbr⟩
def pfx (s : ByteArray) : Nat := (s.data.toList.takeWhile fun c => letB c.toNat).length
theorem takeWhile_len {α : Type} (p : α → Bool) : ∀ (l : List α) (k : Nat), k ≤ l.length → (l.take k).all p = true → (∀ h : k < l.length, p l[k] = false) → (l.takeWhile p).length = k
  | [], k, hk, _, _ => by simp at hk; simp [hk]
  | x :: r, 0, _, _, h => by
    have := h (by simp)
    simp only [List.getElem_cons_zero] at this
    simp [this]
  | x :: r, k + 1, hk, ha, h => by
    simp only [List.take_succ_cons, List.all_cons, Bool.and_eq_true] at ha
    rw [List.takeWhile_cons, if_pos ha.1, List.length_cons, takeWhile_len p r k (by simpa using hk) ha.2 fun hl => by
      have := h (by simpa using hl)
      simpa using this]
theorem size_list (s : ByteArray) : s.data.toList.length = s.size := by show _ = s.data.size; exact Array.length_toList
theorem pfx_of {s : ByteArray} {k : Nat} (hk : k ≤ s.size) (ha : (s.data.toList.take k).all (fun c => letB c.toNat) = true) (hn : ∀ h : k < s.size, letB s[k].toNat = false) : pfx s = k :=
  takeWhile_len _ _ k (by rw [size_list]; exact hk) ha fun h => by
    have h' : k < s.size := by rw [size_list] at h; exact h
    have := hn h'
    simpa [ByteArray.getElem_eq_getElem_data] using this
theorem all_succ {s : ByteArray} {k : Nat} (h : k < s.size) (ha : (s.data.toList.take k).all (fun c => letB c.toNat) = true) (hl : letB s[k].toNat = true) : (s.data.toList.take (k + 1)).all (fun c => letB c.toNat) = true := by
  rw [List.take_succ_eq_append_getElem (by rw [size_list]; exact h), List.all_append, ha]
  simpa [ByteArray.getElem_eq_getElem_data] using hl
def wordB (s : ByteArray) : Bool := decide (1 ≤ s.size) && decide (s.size ≤ 32) && pfx s == s.size
def fb (s : ByteArray) : Int := ((s.data.toList.headD 0).toNat : Int)
theorem fb_eq {s : ByteArray} (h : 0 < s.size) : (s[0].toNat : Int) = fb s := by
  unfold fb
  cases hs : s.data.toList with
  | nil => have := size_list s; rw [hs] at this; simp at this; omega
  | cons c r =>
    have : s[0] = c := by
      rw [ByteArray.getElem_eq_getElem_data]
      rw [← Array.getElem_toList]
      simp [hs]
    rw [this]; rfl
def mayA (s : ByteArray) : Bool := wordB s && (decide (97 ≤ fb s) && decide (fb s ≤ 122))
def nameA (s : ByteArray) : Bool := wordB s && ((decide (65 ≤ fb s) && decide (fb s ≤ 90)) || fb s == 95)
set_option maxHeartbeats 1000000 in
set_option maxRecDepth 100000 in
theorem prefix_any {w : World} (hL : Letters w) (s : ByteArray) (hs : s.size ≤ 140737488355328) :
    Calls Tryz.prog 201 #[.string s] w fun e w' => e = .returned (.int .i64 (pfx s)) ∧ Below w.heap.size w w' := by
  have hw := hL.lt
  have cI := fun W (hb : Below w.heap.size w W) c => is_any (cap := 4) (hL.under hb).whole (by decide) (Nat.lt_of_lt_of_le hw hb.size) c
  clear hL
  go_enter Tryz.func201, Tryz.ntmps201
  go_wp2
  go_loopw [6] (fun i wr => ∃ k : Nat, k ≤ s.size ∧ i = .int .i64 k ∧ (s.data.toList.take k).all (fun c => letB c.toNat) = true ∧ Below w.heap.size w wr) (fun i _ => s.size - (intOf i).toNat)
  case atStart => exact ⟨0, Nat.zero_le _, rfl, rfl, Below.refl _ _⟩
  case round =>
    obtain ⟨k, hk, rfl, hall, hbr⟩ := hrel
    have HALL := Lib.hid hall
    clear hall
    by_cases hlt : k < s.size
    · have hbd := below_drewN hbr 1
      cases hl : letB s[k].toNat
      all_goals
        have HLB := Lib.hid hl
        clear hl
        go_wp2
        go_still_tail 4, (by kernel_rfl)
        change wpList _ _ _ _ _ (wr.drewN 1)
        generalize wr.drewN 1 = w4 at hbd ⊢
        go_wp2_with (go_at_call 177; refine (cI _ hbd _).mono ?_; rintro e w5 ⟨rfl, hb5⟩; rw [inB_LR, HLB.out])
      · go_ret
        exact ⟨ret_i64 (by rw [pfx_of hk HALL.out fun h => HLB.out]), hbd.trans (hb5.mono hbd.size)⟩
      · go_roundw
        case rel => exact ⟨k + 1, hlt, by go_num, all_succ hlt HALL.out HLB.out, hbd.trans (hb5.mono hbd.size)⟩
        case measure => simp [intOf]; omega
    · go_wp2
      go_ret
      exact ⟨ret_i64 (by rw [pfx_of hk HALL.out fun h => absurd h hlt]; congr 1; omega), hbr⟩
set_option maxHeartbeats 1000000 in
set_option maxRecDepth 100000 in
theorem fits_any {w : World} (hL : Letters w) (s : ByteArray) (hs : s.size ≤ 140737488355328) :
    Calls Tryz.prog 176 #[.string s] w fun e w' => e = .returned (.bool (wordB s)) ∧ Below w.heap.size w w' := by
  have cP := prefix_any hL s hs
  clear hL
  by_cases h1 : 1 ≤ s.size
  · by_cases h2 : s.size ≤ 32
    · go_enter Tryz.func176, Tryz.ntmps176
      go_wp2_with (go_at_call 201; refine cP.mono ?_; rintro e w5 ⟨rfl, hb5⟩)
      go_ret
      refine ⟨ret_bool ?_, hb5⟩
      unfold wordB
      rw [decide_eq_true h1, decide_eq_true h2, Bool.eq_iff_iff]
      simp; omega
    · go_enter Tryz.func176, Tryz.ntmps176
      go_wp2
      go_ret
      exact ⟨ret_bool (by unfold wordB; rw [decide_eq_false h2]; simp), Below.refl _ _⟩
  · go_enter Tryz.func176, Tryz.ntmps176
    go_wp2
    go_ret
    exact ⟨ret_bool (by unfold wordB; rw [decide_eq_false h1]; simp), Below.refl _ _⟩
set_option maxHeartbeats 1000000 in
set_option maxRecDepth 100000 in
theorem mayA_any {w : World} (hL : Letters w) (s : ByteArray) (hs : s.size ≤ 140737488355328) :
    Calls Tryz.prog 118 #[.string s] w fun e w' => e = .returned (.bool (mayA s)) ∧ Below w.heap.size w w' := by
  have cF := fun W (hb : Below w.heap.size w W) => fits_any (hL.under hb) s hs
  have cI := fun W (hb : Below w.heap.size w W) c => is_any (cap := 4) (hL.under hb).small (by decide) (Nat.lt_of_lt_of_le hL.lt hb.size) c
  have hd : Below w.heap.size w w.drew := below_drewN (Below.refl _ _) 1
  have hS0 := hL.c0
  have hmv := fun W (hb : Below w.heap.size w W) => (hL.under hb).c0
  clear hL
  cases hw : wordB s
  · have HW := Lib.hid hw
    rw [hw] at cF
    clear hw
    go_enter Tryz.func118, Tryz.ntmps118
    go_wp2_with fail
    refine wp_region_any (by kernel_rfl) ?_
    change wpAny _ _ _ _ _ _ _ (World.drew _)
    refine wpAny_take (i := 0) (v := ?_) rfl (by kernel_rfl) (by kernel_rfl) (by kernel_rfl) (fun _ _ _ h => h) (Or.inl ⟨by rfl, ?_⟩) ?_
    rotate_left 1
    (intro w; go_simp; try with_reducible rfl)
    (try simp only [List.getElem_toArray, List.getElem_cons_zero, Act.put, List.setIfInBounds_toArray, List.set_cons_zero, List.set_cons_succ])
    refine wpAny_ready (rs := [1]) (by kernel_rfl) (by simp) ?_
    refine AllReady.cons rfl (fun K hK => ?_) AllReady.nil
    go_simp
    go_wp2_with (go_at_call 176; refine (cF _ hd).mono ?_; rintro e w5 ⟨rfl, hb5⟩; have hb5' := hd.trans (hb5.mono hd.size))
    (try (refine hK _ _ ?_; clear hK K))
    refine wpAny_take (i := 2) (v := ?_) rfl (by kernel_rfl) (by kernel_rfl) (by kernel_rfl) (fun _ _ _ h => h) (Or.inl ⟨by rfl, ?_⟩) ?_
    rotate_left 1
    (intro w; go_simp; try with_reducible rfl)
    (try simp only [List.getElem_toArray, List.getElem_cons_succ, List.getElem_cons_zero, Act.put, List.setIfInBounds_toArray, List.set_cons_zero, List.set_cons_succ])
    refine wpAny_take (i := 3) (v := undef) rfl (by kernel_rfl) (by kernel_rfl) (by kernel_rfl) (fun _ _ _ h => h) (Or.inr ⟨by rfl, rfl⟩) ?_
    (try simp only [List.getElem_toArray, List.getElem_cons_succ, List.getElem_cons_zero, Act.put, List.setIfInBounds_toArray, List.set_cons_zero, List.set_cons_succ])
    refine wpAny_take (i := 4) (v := undef) rfl (by kernel_rfl) (by kernel_rfl) (by kernel_rfl) (fun _ _ _ h => h) (Or.inr ⟨by rfl, rfl⟩) ?_
    (try simp only [List.getElem_toArray, List.getElem_cons_succ, List.getElem_cons_zero, Act.put, List.setIfInBounds_toArray, List.set_cons_zero, List.set_cons_succ])
    refine wpAny_take (i := 5) (v := undef) rfl (by kernel_rfl) (by kernel_rfl) (by kernel_rfl) (fun _ _ _ h => h) (Or.inr ⟨by rfl, rfl⟩) ?_
    (try simp only [List.getElem_toArray, List.getElem_cons_succ, List.getElem_cons_zero, Act.put, List.setIfInBounds_toArray, List.set_cons_zero, List.set_cons_succ])
    refine wpAny_take (i := 6) (v := undef) rfl (by kernel_rfl) (by kernel_rfl) (by kernel_rfl) (fun _ _ _ h => h) (Or.inr ⟨by rfl, rfl⟩) ?_
    (try simp only [List.getElem_toArray, List.getElem_cons_succ, List.getElem_cons_zero, Act.put, List.setIfInBounds_toArray, List.set_cons_zero, List.set_cons_succ])
    refine wpAny_take (i := 7) (v := ?_) rfl (by kernel_rfl) (by kernel_rfl) (by kernel_rfl) (fun _ _ _ h => h) (Or.inl ⟨by rfl, ?_⟩) ?_
    rotate_left 1
    (intro w; go_simp; try with_reducible rfl)
    (try simp only [List.getElem_toArray, List.getElem_cons_succ, List.getElem_cons_zero, Act.put, List.setIfInBounds_toArray, List.set_cons_zero, List.set_cons_succ])
    refine wpAny_take (i := 8) (v := ?_) rfl (by kernel_rfl) (by kernel_rfl) (by kernel_rfl) (fun _ _ _ h => h) (Or.inl ⟨by rfl, ?_⟩) ?_
    rotate_left 1
    (intro w; go_simp; try with_reducible rfl)
    (try simp only [List.getElem_toArray, List.getElem_cons_succ, List.getElem_cons_zero, Act.put, List.setIfInBounds_toArray, List.set_cons_zero, List.set_cons_succ])
    refine wpAny_done (by kernel_rfl) ?_ _
    go_wp2
    go_ret
    exact ⟨ret_bool (by unfold mayA; rw [HW.out]; rfl), hb5'⟩
  · have HW := Lib.hid hw
    have h0 : 0 < s.size := by
      unfold wordB at hw
      simp only [Bool.and_eq_true, decide_eq_true_eq] at hw
      omega
    have HF := Lib.hid (fb_eq h0)
    rw [hw] at cF
    clear hw
    go_enter Tryz.func118, Tryz.ntmps118
    go_wp2_with fail
    go_region_held3 (fun W => W.cell? ⟨1, 0, none⟩ = some (.int .u8 97)) (first | exact hS0 | exact hS1 | exact hS2) (first
      | (go_at_call 176; refine (cF _ hd).mono ?_; rintro e w5 ⟨rfl, hb5⟩; have hb5' := hd.trans (hb5.mono hd.size); have hS1 := hmv _ hb5')
      | (go_at_call 177; refine (cI _ hb5' _).mono ?_; rintro e w6 ⟨rfl, hb6⟩; have hb6' := hb5'.trans (hb6.mono hb5'.size); have hS2 := hmv _ hb6'))
    go_wp2
    go_ret
    exact ⟨ret_bool (by unfold mayA; rw [HW.out, inB_small, HF.out]; rfl), hb6'⟩
end Go.Proofs.YtdjafnjmkkagjaaGreatDoor
namespace Go.Proofs.YtdjafnjmkkagjaaGreatDoor
open Go.RowKit
theorem wordB_iff (s : ByteArray) : wordB s = true ↔ 1 ≤ s.size ∧ s.size ≤ 32 ∧ pfx s = s.size := by
  unfold wordB
  simp [and_assoc]
theorem nameA_iff (s : ByteArray) : nameA s = true ↔ (1 ≤ s.size ∧ s.size ≤ 32 ∧ pfx s = s.size) ∧ ((65 ≤ fb s ∧ fb s ≤ 90) ∨ fb s = 95) := by
  unfold nameA
  rw [Bool.and_eq_true, wordB_iff]
  simp
def mayI (n : Int) : Bool := decide (-576460752303423488 ≤ n) && decide (n ≤ 576460752303423487)
end Go.Proofs.YtdjafnjmkkagjaaGreatDoor
namespace Go.Proofs.YtdjafnjmkkagjaaGreatDoor
open Go.RowKit
def emp (s : ByteArray) : Bool := s.toList.isEmpty
def bareB (x : Tr) (n s t l : Bool) : Bool := (n || x.n == 0) && (s || emp x.s) && (t || emp x.t) && (l || (x.l.length : Int) == 0)
end Go.Proofs.YtdjafnjmkkagjaaGreatDoor
namespace Go.Proofs.YtdjafnjmkkagjaaGreatDoor
open Go.RowKit
end Go.Proofs.YtdjafnjmkkagjaaGreatDoor
namespace Go.Proofs.YtdjafnjmkkagjaaGreatDoor
open Go.RowKit
end Go.Proofs.YtdjafnjmkkagjaaGreatDoor
namespace Go.Proofs.YtdjafnjmkkagjaaGreatDoor
open Go.RowKit
structure Turn (T : Nat → Prop) (w w' : World) : Prop where
  os : w'.os = w.os
  tape : w'.tape = w.tape
  output : w'.output = w.output
  size : w.heap.size ≤ w'.heap.size
  block : ∀ k, k < w.heap.size → ¬ T k → w'.heap[k]? = w.heap[k]?
theorem Turn.refl (T : Nat → Prop) (w : World) : Turn T w w := ⟨rfl, rfl, rfl, Nat.le_refl _, fun _ _ _ => rfl⟩
theorem Turn.trans {T : Nat → Prop} {a b c : World} (h : Turn T a b) (k : Turn T b c) : Turn T a c :=
  ⟨k.os.trans h.os, k.tape.trans h.tape, k.output.trans h.output, Nat.le_trans h.size k.size, fun i hi hT => (k.block i (Nat.lt_of_lt_of_le hi h.size) hT).trans (h.block i hi hT)⟩
theorem Turn.mono {T T' : Nat → Prop} {a b : World} (h : Turn T a b) (hT : ∀ k, k < a.heap.size → T k → T' k) : Turn T' a b :=
  ⟨h.os, h.tape, h.output, h.size, fun i hi hn => h.block i hi fun ht => hn (hT i hi ht)⟩
theorem Turn.of_below {T : Nat → Prop} {w w' : World} (h : Below w.heap.size w w') : Turn T w w' := ⟨h.os, h.tape, h.output, h.size, fun k hk _ => h.block k hk⟩
theorem Turn.setCell (w : World) (p : Addr) (u : Value) : Turn (· = p.block) w (w.setCell p u) :=
  ⟨rfl, rfl, rfl, by simp [World.setCell], fun k _ hne => Below.heap_setCell _ _ _ _ hne⟩
theorem Turn.alloc (T : Nat → Prop) (w : World) (o : Obj) : Turn T w (w.alloc o) := Turn.of_below ((Below.refl _ w).alloc (Nat.le_refl _) o)
theorem Turn.below {T : Nat → Prop} {w w' : World} (h : Turn T w w') {B : Nat} (hB : B ≤ w.heap.size) (hT : ∀ k, k < B → ¬ T k) : Below B w w' :=
  ⟨h.os, h.tape, h.output, h.size, fun k hk => h.block k (Nat.lt_of_lt_of_le hk hB) (hT k hk)⟩
theorem Turn.cell {T : Nat → Prop} {w w' : World} (h : Turn T w w') {g o : Nat} {v : Value} (hc : w.cell? ⟨g, o, none⟩ = some v) (hT : ¬ T g) : w'.cell? ⟨g, o, none⟩ = some v :=
  (World.cell?_of_block (a := ⟨g, o, none⟩) (h.block g (cell_block hc) hT)).trans hc
theorem Kids.turn {F : Nat → Prop} {w w' : World} {v : Value} {l : List Tr} (h : Kids F w v l) {T : Nat → Prop} (ht : Turn T w w') (hT : ∀ g, F g → ¬ T g) : Kids F w' v l := h.keep fun g hg hlt => ht.block g hlt (hT g hg)
theorem TrV.turn {F : Nat → Prop} {w w' : World} {x : Tr} {v : Value} (h : TrV F w x v) {T : Nat → Prop} (ht : Turn T w w') (hT : ∀ g, F g → ¬ T g) : TrV F w' x v := ⟨h.wf, h.kids.turn ht hT⟩
theorem NodeAt.turn {w w' : World} {g o : Nat} {x : Tr} {sv : Value} (h : NodeAt w g o x sv) {T : Nat → Prop} (ht : Turn T w w') (hT : ¬ T g) : NodeAt w' g o x sv := h.keep (ht.block g h.lt hT)
end Go.Proofs.YtdjafnjmkkagjaaGreatDoor
namespace Go.Proofs.YtdjafnjmkkagjaaGreatDoor
open Go.RowKit
theorem one_cell {w : World} {b : Nat} {v : Value} {T : TypeId} (h : w.heap[b]? = some (.cells #[v] T (0, 0))) : w.cell? ⟨b, 0, none⟩ = some v := by simp [World.cell?, h]
theorem heap_new (w : World) (o : Obj) : (w.alloc o).heap[w.heap.size]? = some o := (MapKept.heap_alloc w o).1
theorem heap_old (w : World) (o : Obj) {i : Nat} (h : i < w.heap.size) : (w.alloc o).heap[i]? = w.heap[i]? := Below.heap_alloc _ _ _ h
theorem three_new (w : World) (o1 o2 o3 : Obj) : (((w.alloc o1).alloc o2).alloc o3).heap[w.heap.size]? = some o1 ∧ (((w.alloc o1).alloc o2).alloc o3).heap[w.heap.size + 1]? = some o2 ∧ (((w.alloc o1).alloc o2).alloc o3).heap[w.heap.size + 1 + 1]? = some o3 ∧
    Below w.heap.size w (((w.alloc o1).alloc o2).alloc o3) ∧ (((w.alloc o1).alloc o2).alloc o3).heap.size = w.heap.size + 3 := by
  have e1 : (w.alloc o1).heap.size = w.heap.size + 1 := by simp
  have e2 : ((w.alloc o1).alloc o2).heap.size = w.heap.size + 1 + 1 := by simp
  refine ⟨?_, ?_, ?_, (((Below.refl _ _).alloc (Nat.le_refl _) _).alloc (by simp) _).alloc (by simp; omega) _, by simp⟩
  · rw [heap_old _ _ (by omega), heap_old _ _ (by omega), heap_new]
  · rw [heap_old _ _ (by omega), ← e1, heap_new]
  · rw [← e2, heap_new]
end Go.Proofs.YtdjafnjmkkagjaaGreatDoor
namespace Go.Proofs.YtdjafnjmkkagjaaGreatDoor
open Go.RowKit
theorem Letters.turn {w w' : World} (h : Letters w) {T : Nat → Prop} (ht : Turn T w w') (hT : ¬ T 1) : Letters w' :=
  ⟨ht.cell h.c0 hT, ht.cell h.c1 hT, ht.cell h.c2 hT, ht.cell h.c3 hT, ht.cell h.c4 hT, ht.cell h.c5 hT, ht.cell h.c6 hT, ht.cell h.c7 hT⟩
end Go.Proofs.YtdjafnjmkkagjaaGreatDoor
namespace Go.Proofs.YtdjafnjmkkagjaaGreatDoor
open Go.RowKit
def Tr.same : Tr → Tr → Bool
  | .mk k n s t l, y => k == y.k && (n == y.n && (s.toList == y.s.toList && (t.toList == y.t.toList && ((l.length : Int) == (y.l.length : Int) && samel l y.l))))
where samel : List Tr → List Tr → Bool
  | x :: r, y :: q => x.same y && samel r q
  | _, _ => true
end Go.Proofs.YtdjafnjmkkagjaaGreatDoor
namespace Go.Proofs.YtdjafnjmkkagjaaGreatDoor
open Go.RowKit
end Go.Proofs.YtdjafnjmkkagjaaGreatDoor
namespace Go.Proofs.YtdjafnjmkkagjaaGreatDoor
open Go.RowKit
end Go.Proofs.YtdjafnjmkkagjaaGreatDoor
namespace Go.Proofs.YtdjafnjmkkagjaaGreatDoor
open Go.RowKit
theorem two_set {w : World} {b : Nat} {v v' u : Value} {T : TypeId} (h : w.heap[b]? = some (.cells #[v, v'] T (0, 0))) : (w.setCell ⟨b, 0, none⟩ u).heap[b]? = some (.cells #[u, v'] T (0, 0)) ∧ (w.setCell ⟨b, 1, none⟩ u).heap[b]? = some (.cells #[v, u] T (0, 0)) := by
  constructor <;> (simp only [World.setCell, Array.getElem?_modify, if_true, h]; rfl)
theorem two_cell {w : World} {b : Nat} {v v' : Value} {T : TypeId} (h : w.heap[b]? = some (.cells #[v, v'] T (0, 0))) : w.cell? ⟨b, 0, none⟩ = some v ∧ w.cell? ⟨b, 1, none⟩ = some v' ∧ w.frozen? ⟨b, 0, none⟩ = false ∧ w.frozen? ⟨b, 1, none⟩ = false := by
  refine ⟨?_, ?_, ?_, ?_⟩ <;> simp [World.cell?, World.frozen?, h]
set_option maxHeartbeats 2000000 in
set_option maxRecDepth 100000 in
theorem nodeC_any {F : Nat → Prop} {bn bw : Nat} (hF : ∀ k, F k → k ≠ bn) (hne : bw ≠ bn) (x : Tr) : ∀ (W : World) (g o : Nat) (sv : Value) (a : Int), NodeAt W g o x sv → g ≠ bn → TrV F W x sv →
    W.heap[bn]? = some (.cells #[.int .i64 a, .int .i64 0] 101 (0, 0)) → W.cell? ⟨bw, 0, none⟩ = some (.func (Fn.func 119) #[] #[.pointer (some ⟨bn, 0, none⟩), .pointer (some ⟨bw, 0, none⟩)]) → 0 ≤ a → a ≤ 4096 →
    Calls Tryz.prog 119 #[.pointer (some ⟨g, o, none⟩), .pointer (some ⟨bn, 0, none⟩), .pointer (some ⟨bw, 0, none⟩)] W fun e w' => e = .returned (.tuple #[]) ∧ w'.heap[bn]? = some (.cells #[.int .i64 (a + x.sz (4097 - a)), .int .i64 0] 101 (0, 0)) ∧ Turn (· = bn) W w' := by
  induction x using Tr.ind with
  | h x ih =>
    intro W g o sv a hnode hgn hx hbn hbw ha0 ha1
    obtain ⟨p, c, rfl⟩ := hx.kids.slice
    have hlen : x.l.length ≤ 2199023255552 := hx.kids.len
    have hrel0 : x.sz (4097 - a) = Tr.sz.szl x.l (4097 - a) 1 := by cases x; rfl
    have h4 := hnode.l
    obtain ⟨hcn, _, hfn, _⟩ := two_cell hbn
    have ht1 := Turn.setCell W ⟨bn, 0, none⟩ (.int .i64 (a + 1))
    have hbn1 := (two_set (u := .int .i64 (a + 1)) hbn).1
    have h41 := ht1.cell h4 hgn
    have hbw1 := ht1.cell hbw hne
    have hx1 := hx.turn ht1 hF
    have IH := Lib.hid ih
    have HR := Lib.hid hrel0
    clear ih hrel0 hx hnode hbn
    go_enter Tryz.func119, Tryz.ntmps119
    go_wp2_with fail
    generalize W.setCell ⟨bn, 0, none⟩ (.int .i64 (a + 1)) = w1 at ht1 hbn1 h41 hbw1 hx1 ⊢
    clear h4 hcn hfn hbw
    go_loopw [14] (fun i wr => ∃ k : Nat, k ≤ x.l.length ∧ i = .int .i64 k ∧ ∃ s : Int, 1 ≤ s ∧ s ≤ 4097 - a ∧ wr.heap[bn]? = some (.cells #[.int .i64 (a + s), .int .i64 0] 101 (0, 0)) ∧ Tr.sz.szl (x.l.drop k) (4097 - a) s = x.sz (4097 - a) ∧ Turn (· = bn) w1 wr) (fun i _ => x.l.length - (intOf i).toNat)
    case atStart => exact ⟨0, Nat.zero_le _, rfl, 1, by omega, by omega, hbn1, HR.out.symm, Turn.refl _ _⟩
    case round =>
      obtain ⟨k, hk, rfl, s, hs1, hs2, hbr, hrest, htr⟩ := hrel
      have htw := ht1.trans htr
      have hxr := hx1.turn htr hF
      have h4r := htr.cell h41 hgn
      have hbwr := htr.cell hbw1 hne
      by_cases hlt : k < x.l.length
      · obtain ⟨hcr, _, _, _⟩ := two_cell hbr
        by_cases hms : a + s ≤ 4096
        · obtain ⟨g2, o2, kv, rfl, hg2, hnode2, hkid⟩ := hxr.kids.at hlt
          have hg2n : g2 ≠ bn := hF g2 hg2
          have hszk := sz_bound x.l[k] (4097 - a - s) (by omega)
          have hnext := szl_take hlt (show s < 4097 - a by omega)
          have htd : Turn (· = bn) wr (wr.drewN 1) := Turn.of_below (below_drewN (Below.refl _ _) 1)
          have hbd : (wr.drewN 1).heap[bn]? = some (.cells #[.int .i64 (a + s), .int .i64 0] 101 (0, 0)) := hbr
          have cK := IH.out x.l[k] (List.getElem_mem hlt) (wr.drewN 1) g2 (o2 + k * 5) kv (a + s) (hnode2.turn htd hg2n) hg2n (hkid.turn htd hF) hbd (htd.cell hbwr hne) (by omega) (by omega)
          rw [show (4097 : Int) - (a + s) = 4097 - a - s from by omega] at cK
          generalize x.l[k] = y at *
          have HN := Lib.hid (hnext.symm.trans hrest)
          clear hnext hrest hkid hxr hnode2 hx1 hbd
          go_wp2
          go_still_tail 7, (by kernel_rfl)
          change wpList _ _ _ _ _ (wr.drewN 1)
          generalize wr.drewN 1 = w4 at htd cK ⊢
          go_wp2_with (go_at_call 119; refine cK.mono ?_; rintro e w5 ⟨rfl, hb5, ht5⟩)
          go_roundw
          case rel => exact ⟨k + 1, hlt, by go_num, s + y.sz (4097 - a - s), by omega, by omega, by rw [← Int.add_assoc]; exact hb5, HN.out, (htr.trans htd).trans ht5⟩
          case measure => simp [intOf]; omega
        · rw [szl_stop _ (by omega)] at hrest
          clear hxr hx1 HR
          have HN := Lib.hid hrest
          clear hrest
          have hms2 : 4096 < a + s := by omega
          clear hms
          go_wp2
          refine bodyPost_ret (v := .tuple #[]) (by simp [results, Tryz.results119]) rfl ?_
          exact ⟨rfl, by rw [← HN.out]; exact hbr, htw⟩
      · rw [List.drop_eq_nil_of_le (by omega), Tr.sz.szl] at hrest
        subst hrest
        clear hxr hx1
        go_wp2
        go_end0
        exact ⟨rfl, hbr, htw⟩
theorem dp_eq (x : Tr) (m : Int) : x.dp m = if 1 < m then Tr.dp.dpl x.l m 1 else 1 := by cases x; rfl
theorem dpl_top {l : List Tr} {m : Int} (hm : 1 < m) : Tr.dp.dpl l m m = m := by
  have := dpl_bound (l := l) hm m (by omega) (Int.le_refl _)
  omega
set_option maxHeartbeats 2000000 in
set_option maxRecDepth 100000 in
theorem sinkC_any {F : Nat → Prop} {bw : Nat} (x : Tr) : ∀ (W : World) (g o : Nat) (sv : Value) (m : Int), NodeAt W g o x sv → TrV F W x sv →
    W.cell? ⟨bw, 0, none⟩ = some (.func (Fn.func 120) #[] #[.pointer (some ⟨bw, 0, none⟩)]) → 1 ≤ m → m ≤ 65 →
    Calls Tryz.prog 120 #[.pointer (some ⟨g, o, none⟩), .int .i64 m, .pointer (some ⟨bw, 0, none⟩)] W fun e w' => e = .returned (.int .i64 (x.dp m)) ∧ ∃ n, w' = W.drewN n := by
  induction x using Tr.ind with
  | h x ih =>
    intro W g o sv m hnode hx hbw hm hm2
    obtain ⟨p, c, rfl⟩ := hx.kids.slice
    have hlen : x.l.length ≤ 2199023255552 := hx.kids.len
    have hrel0 := dp_eq x m
    have h4 := hnode.l
    have IH := Lib.hid ih
    have HR := Lib.hid hrel0
    clear ih hrel0 hnode
    go_enter Tryz.func120, Tryz.ntmps120
    go_wp2_with fail
    go_loopw [6, 13] (fun n i wr => ∃ k : Nat, k ≤ x.l.length ∧ i = .int .i64 k ∧ ∃ a : Int, n = .int .i64 a ∧ 1 ≤ a ∧ a ≤ m ∧ (if 1 < m then Tr.dp.dpl (x.l.drop k) m a else 1) = x.dp m ∧ (¬ 1 < m → a = 1) ∧ ∃ q, wr = W.drewN q) (fun _ i _ => x.l.length - (intOf i).toNat)
    case atStart => exact ⟨0, Nat.zero_le _, rfl, 1, rfl, by omega, by omega, HR.out.symm, fun _ => rfl, 0, rfl⟩
    case round =>
      obtain ⟨k, hk, rfl, a, rfl, ha1, ha2, hrest, hone, q, hwr⟩ := hrel
      have hbr : Below W.heap.size W wr := by rw [hwr]; exact below_drewN (Below.refl _ _) q
      have HW := Lib.hid hwr
      clear hwr
      have h4r := (hbr.cell (p := ⟨g, o + 4, none⟩) (cell_block h4)).trans h4
      have hbwr := (hbr.cell (p := ⟨bw, 0, none⟩) (cell_block hbw)).trans hbw
      have hxr := hx.below hbr
      have HONE := Lib.hid hone
      clear hone
      by_cases hlt : k < x.l.length
      · by_cases ham : 1 < m
        · rw [if_pos ham] at hrest
          by_cases h64 : a ≤ 64
          · obtain ⟨g2, o2, kv, rfl, _, hnode2, hkid⟩ := hxr.kids.at hlt
            have cK := fun n : Nat => IH.out x.l[k] (List.getElem_mem hlt) (wr.drewN n) g2 (o2 + k * 5) kv (m - 1) (hnode2.keep ((below_drewN (Below.refl wr.heap.size _) n).block _ hnode2.lt)) (hkid.below (below_drewN (Below.refl _ _) n)) (((below_drewN (Below.refl wr.heap.size wr) n).cell (p := ⟨bw, 0, none⟩) (cell_block hbwr)).trans hbwr) (by omega) (by omega)
            have hszk := dp_bound x.l[k] (m - 1) (by omega)
            have hnext := dpl_take (m := m) (a := a) hlt
            generalize x.l[k] = y at *
            generalize y.dp (m - 1) = z at *
            have HN := Lib.hid (hnext.symm.trans hrest)
            have CK := Lib.hid cK
            clear hnext hrest hkid hxr hx hnode2 cK h4 hbw hbr
            by_cases hmx : a < 1 + z
            all_goals
              go_upto_region 6 with fail
              go_quiet ((go_at_call 120; refine Calls.quiet_of (CK.out _)))
              go_wp2
              go_roundw
              case rel => exact ⟨k + 1, hlt, by go_num, _, rfl, by omega, by omega, by rw [if_pos ham, ← HN.out]; congr 1; omega, fun h => absurd ham h, q + nq, by rw [HW.out, World.drewN_drewN]⟩
              case measure => simp [intOf]; omega
          · obtain rfl : a = m := by omega
            rw [dpl_top ham] at hrest
            have HN := Lib.hid hrest
            have h64' : 64 < a := by omega
            clear hrest hxr hx h64 h4 hbw hbr
            go_wp2
            go_roundw
            case rel => exact ⟨k + 1, hlt, by go_num, a, rfl, by omega, by omega, by rw [if_pos ham, dpl_top ham]; exact HN.out, fun h => absurd ham h, q, HW.out⟩
            case measure => simp [intOf]; omega
        · rw [if_neg ham] at hrest
          have HN := Lib.hid hrest
          clear hrest hxr hx h4 hbw hbr
          go_wp2
          go_roundw
          case rel => exact ⟨k + 1, hlt, by go_num, a, rfl, by omega, by omega, by rw [if_neg ham]; exact HN.out, fun h => HONE.out h, q, HW.out⟩
          case measure => simp [intOf]; omega
      · rw [List.drop_eq_nil_of_le (by omega), Tr.dp.dpl] at hrest
        have hfin : a = x.dp m := by
          rw [← hrest]
          split
          · rfl
          · exact HONE.out ‹_›
        have HN := Lib.hid hfin
        clear hrest hfin hxr hx h4 hbw hbr
        go_wp2
        go_ret
        exact ⟨ret_i64 HN.out, q, HW.out⟩
end Go.Proofs.YtdjafnjmkkagjaaGreatDoor
namespace Go.Proofs.YtdjafnjmkkagjaaGreatDoor
open Go.RowKit
set_option maxHeartbeats 2000000 in
set_option maxRecDepth 100000 in
theorem measure_any {F : Nat → Prop} {x : Tr} {w : World} {g o : Nat} {sv : Value} (hnode : NodeAt w g o x sv) (hx : TrV F w x sv) :
    Calls Tryz.prog 61 #[.pointer (some ⟨g, o, none⟩)] w fun e w' => e = .returned (.agg #[.int .i64 (x.sz 4097), .int .i64 (x.dp 65)]) ∧ Below w.heap.size w w' := by
  obtain ⟨p, c, rfl⟩ := hx.kids.slice
  have hx0 : TrV (fun k => k < w.heap.size) w x (.slice p x.l.length c) := ⟨hx.wf, hx.kids.mono fun _ _ h => h⟩
  have hg := hnode.lt
  clear hx
  go_enter Tryz.func61, Tryz.ntmps61
  go_wp2_with fail
  obtain ⟨n1, n2, n3, hb, hs⟩ := three_new w (.cells #[.int .i64 0, .int .i64 0] 101) (.cells #[.int .i64 0, .int .i64 0] 101) (.cells #[.func (Fn.func 119) #[] #[.pointer (some ⟨w.heap.size + 1, 0, none⟩), .pointer (some ⟨w.heap.size + 1 + 1, 0, none⟩)]] 124)
  generalize ((w.alloc (.cells #[.int .i64 0, .int .i64 0] 101)).alloc (.cells #[.int .i64 0, .int .i64 0] 101)).alloc (.cells #[.func (Fn.func 119) #[] #[.pointer (some ⟨w.heap.size + 1, 0, none⟩), .pointer (some ⟨w.heap.size + 1 + 1, 0, none⟩)]] 124) = w3 at n1 n2 n3 hb hs ⊢
  have hnode3 := hnode.keep (hb.block g hg)
  refine (nodeC_any (F := fun k => k < w.heap.size) (bn := w.heap.size + 1) (bw := w.heap.size + 1 + 1) (fun k hk => by omega) (by omega) x w3 g o _ 0 hnode3 (by omega) (hx0.below hb) n2 (one_cell n3) (by omega) (by omega)).mono ?_
  rintro e w5 ⟨rfl, hb5, ht5⟩
  rw [show (0 : Int) + x.sz (4097 - 0) = x.sz 4097 from by simp] at hb5
  have n15 : w5.heap[w.heap.size]? = _ := (ht5.block w.heap.size (by omega) (by omega)).trans n1
  have hx5 := (hx0.below hb).turn ht5 fun k hk => by omega
  have hnode5 := hnode3.turn ht5 (by omega)
  have hs5 := ht5.size
  have hB5 := hb.trans (ht5.below (B := w.heap.size) (by omega) fun k hk e => by omega)
  clear n1 n2 n3 hb hnode3 ht5 hx0 hnode
  go_wp2_with fail
  have hb6 := alloc_below w5 (.cells #[.func (Fn.func 120) #[] #[.pointer (some ⟨w5.heap.size, 0, none⟩)]] 157)
  have hn6 := heap_new w5 (.cells #[.func (Fn.func 120) #[] #[.pointer (some ⟨w5.heap.size, 0, none⟩)]] 157)
  refine (sinkC_any (bw := w5.heap.size) x _ g o _ 65 (hnode5.keep (hb6.block g hnode5.lt)) (hx5.below hb6) (one_cell hn6) (by omega) (by omega)).mono ?_
  rintro e w7 ⟨rfl, nq, hw7⟩
  have hb7 : Below w5.heap.size w5 w7 := by rw [hw7]; exact below_drewN hb6 nq
  have n17 : w7.heap[w.heap.size]? = _ := (hb7.block _ (by omega)).trans n15
  have n27 : w7.heap[w.heap.size + 1]? = _ := (hb7.block _ (by omega)).trans hb5
  have hB7 := hB5.trans (hb7.mono hB5.size)
  clear hw7 hb6 hn6 hb7 n15 hb5 hx5 hnode5 hs5 hs
  obtain ⟨c0, c1, f0, f1⟩ := two_cell n17
  obtain ⟨d0, d1, e0, e1⟩ := two_cell n27
  have n28 := (two_set (u := .int .i64 (x.dp 65)) n27).2
  have n18 : (w7.setCell ⟨w.heap.size + 1, 1, none⟩ (.int .i64 (x.dp 65))).heap[w.heap.size]? = _ := (Below.heap_setCell _ _ _ _ (show w.heap.size ≠ w.heap.size + 1 by omega)).trans n17
  obtain ⟨c08, c18, f08, f18⟩ := two_cell n18
  obtain ⟨d08, d18, _, _⟩ := two_cell n28
  have hB8 := hB7.setCell (p := ⟨w.heap.size + 1, 1, none⟩) (by show w.heap.size ≤ w.heap.size + 1; omega) (.int .i64 (x.dp 65))
  go_wp2_with fail
  refine bodyPost_ret (v := .agg #[.int .i64 (x.sz 4097), .int .i64 (x.dp 65)]) (by simp only [results, Tryz.results61]; go_simp) rfl ⟨rfl, ?_⟩
  exact (hB8.setCell (p := ⟨w.heap.size, 0, none⟩) (Nat.le_refl _) _).setCell (p := ⟨w.heap.size, 1, none⟩) (Nat.le_refl _) _
def fitsB (x : Tr) : Bool := decide (x.sz 4097 ≤ 4096) && decide (x.dp 65 ≤ 64)
set_option maxHeartbeats 400000 in
theorem sfits_any (w : World) (a b : Int) : Calls Tryz.prog 62 #[.agg #[.int .i64 a, .int .i64 b]] w fun e w' => e = .returned (.bool (decide (a ≤ 4096) && decide (b ≤ 64))) ∧ Below w.heap.size w w' := by
  by_cases h : a ≤ 4096
  all_goals
    go_enter Tryz.func62, Tryz.ntmps62
    go_wp2
    go_ret
    exact ⟨ret_bool (by rw [Bool.eq_iff_iff]; simp; try omega), alloc_below _ _⟩
end Go.Proofs.YtdjafnjmkkagjaaGreatDoor
namespace Go.Proofs.YtdjafnjmkkagjaaGreatDoor
open Go.RowKit
end Go.Proofs.YtdjafnjmkkagjaaGreatDoor
namespace Go.Proofs.YtdjafnjmkkagjaaGreatDoor
open Go.RowKit
theorem byte_cases (c : Int) : c < 48 ∨ (48 ≤ c ∧ c ≤ 57) ∨ (57 < c ∧ c < 65) ∨ (65 ≤ c ∧ c ≤ 90) ∨ (90 < c ∧ c < 95) ∨ c = 95 ∨ c = 96 ∨ (97 ≤ c ∧ c ≤ 122) ∨ 122 < c := by omega
end Go.Proofs.YtdjafnjmkkagjaaGreatDoor
namespace Go.Proofs.YtdjafnjmkkagjaaGreatDoor
open Go.RowKit
def words13 : List (List UInt8) := [[97, 102, 116, 101, 114], [99, 97, 115, 101], [99, 97, 116, 99, 104], [99, 111, 110, 102, 105, 103], [100, 105, 118], [101, 110, 100], [102, 117, 110], [109, 111, 100, 117, 108, 101], [111, 102], [114, 101, 99, 101, 105, 118, 101], [114, 101, 109], [116, 114, 121], [119, 104, 101, 110]]
def wordK (s : ByteArray) : Bool := words13.any fun u => s.toList == u
def atomN (s : ByteArray) : Bool := mayA s && !wordK s
def leafB (x : Tr) : Bool :=
  if x.k = 5 then bareB x false true false false && nameA x.s
  else if x.k = 6 then bareB x true false false false && mayI x.n
  else if x.k = 7 then bareB x false true false false && atomN x.s
  else if x.k = 8 then bareB x false false false false
  else false
def Tr.pat : Tr → Bool
  | .mk k n s t l => leafB (.mk k n s t l) || ((k == 10 || (k == 9 && (l.length : Int) == 2)) && bareB (.mk k n s t l) false false false true && patl l)
where patl : List Tr → Bool
  | [] => true
  | x :: r => x.pat && patl r
theorem pat_eq (x : Tr) : x.pat = (leafB x || ((x.k == 10 || (x.k == 9 && (x.l.length : Int) == 2)) && bareB x false false false true && Tr.pat.patl x.l)) := by cases x; rfl
end Go.Proofs.YtdjafnjmkkagjaaGreatDoor
namespace Go.Proofs.YtdjafnjmkkagjaaGreatDoor
open Go.RowKit
end Go.Proofs.YtdjafnjmkkagjaaGreatDoor
namespace Go.Proofs.YtdjafnjmkkagjaaGreatDoor
open Go.RowKit
set_option maxHeartbeats 2000000 in
theorem name1_any (w : World) (c : Int) : Calls Tryz.prog 203 #[.int .i32 c] w fun e w' => e = .returned (.bool (!letB c)) ∧ w = w' := by
  rcases byte_cases c with hb | ⟨hb, hb'⟩ | ⟨hb, hb'⟩ | ⟨hb, hb'⟩ | ⟨hb, hb'⟩ | hb | hb | ⟨hb, hb'⟩ | hb
  case inr.inr.inr.inr.inr.inl =>
    subst hb
    go_enter Tryz.func203, Tryz.ntmps203
    go_wp2
    go_ret
    exact ⟨rfl, rfl⟩
  case inr.inr.inr.inr.inr.inr.inl =>
    subst hb
    go_enter Tryz.func203, Tryz.ntmps203
    go_wp2
    go_ret
    exact ⟨rfl, rfl⟩
  all_goals
    have hb2 : (c != 95) = true := by rw [bne_iff_ne]; omega
    go_enter Tryz.func203, Tryz.ntmps203
    go_wp2
    all_goals
      go_ret
      exact ⟨ret_bool (by rw [Bool.eq_iff_iff]; simp [letB]; omega), rfl⟩
theorem below_iter (w : World) (s : ByteArray) (pos : Nat) : Below w.heap.size w (w.iter s pos) := alloc_below w _
def IdxSays (w : World) (s : ByteArray) (e : Ending) (w' : World) : Prop := (∃ n : Int, e = .returned (.int .i64 n) ∧ (if pfx s = s.size then n = -1 else 0 ≤ n)) ∧ Below w.heap.size w w'
set_option maxHeartbeats 2000000 in
set_option maxRecDepth 100000 in
theorem indexFunc_any (w : World) (s : ByteArray) : Calls Tryz.prog 222 #[.string s, .func (Fn.func 203) #[] #[], .bool true] w (IdxSays w s) := by
  go_enter Tryz.func222, Tryz.ntmps222
  go_wp2
  go_loopw [] (fun w' => ∃ pos : Nat, w' = w.iter s pos ∧ pos ≤ s.size ∧ (s.data.toList.take pos).all (fun c => letB c.toNat) = true) (fun w' => s.size - w'.iterPos w.heap.size)
  case atStart => exact ⟨0, rfl, Nat.zero_le _, rfl⟩
  case round =>
    obtain ⟨pos, rfl, hpos, hall⟩ := hrel
    have HALL := Lib.hid hall
    clear hall
    have hB := below_iter w s pos
    by_cases hp : pos < s.size
    · have hB2 := below_iter w s (pos + (Utf8.decode s pos).2)
      by_cases ha : (s[pos]'hp).toNat < 128
      · have hdec := decode_ascii s pos hp ha
        have hnx : ∀ ty, (Instr.next (.pointer (some ⟨w.heap.size, 0, none⟩)) true ty).run Tryz.prog (w.iter s pos) = .ok (.tuple #[.bool true, .int .i64 pos, .int .i32 (s[pos]'hp).toNat]) (w.iter s (pos + 1)) := fun ty => by
          rw [run_next_any w s pos ty hp, hdec]
        rw [hdec] at hB2
        cases hl : letB (s[pos]'hp).toNat
        all_goals
          have HLB := Lib.hid hl
          clear hl hdec
          go_wp2_with (go_at_call 203; refine (name1_any _ _).mono ?_; rintro e w5 ⟨rfl, rfl⟩; rw [HLB.out])
        · go_ret
          refine ⟨⟨pos, rfl, ?_⟩, hB2⟩
          rw [pfx_of hpos HALL.out fun _ => HLB.out, if_neg (by omega)]; omega
        · go_roundw
          case rel => exact ⟨pos + 1, rfl, hp, all_succ hp HALL.out HLB.out⟩
          case measure => simp; omega
      · have hhigh := (decode_high s pos hp (by omega)).1
        have hnx : ∀ ty, (Instr.next (.pointer (some ⟨w.heap.size, 0, none⟩)) true ty).run Tryz.prog (w.iter s pos) = _ := fun ty => run_next_any w s pos ty hp
        have hl : letB (Utf8.decode s pos).1 = false := by
          cases hc : letB (Utf8.decode s pos).1
          · rfl
          · rw [letB_iff] at hc; omega
        have hl2 : letB (s[pos]'hp).toNat = false := by
          cases hc : letB (s[pos]'hp).toNat
          · rfl
          · rw [letB_iff] at hc; omega
        have HLB := Lib.hid hl
        have HLB2 := Lib.hid hl2
        clear hl hl2 hhigh
        go_wp2_with (go_at_call 203; refine (name1_any _ _).mono ?_; rintro e w5 ⟨rfl, rfl⟩; rw [HLB.out])
        go_ret
        refine ⟨⟨pos, rfl, ?_⟩, hB2⟩
        rw [pfx_of hpos HALL.out fun _ => HLB2.out, if_neg (by omega)]; omega
    · have hnx : ∀ ty, (Instr.next (.pointer (some ⟨w.heap.size, 0, none⟩)) true ty).run Tryz.prog (w.iter s pos) = _ := fun ty => run_next_end w s pos ty hp
      go_wp2
      go_ret
      refine ⟨⟨-1, rfl, ?_⟩, hB⟩
      rw [pfx_of hpos HALL.out fun h => absurd h hp, if_pos (by omega)]
end Go.Proofs.YtdjafnjmkkagjaaGreatDoor
namespace Go.Proofs.YtdjafnjmkkagjaaGreatDoor
open Go.RowKit
theorem emp_iff (s : ByteArray) : s.toList.isEmpty = true ↔ s.size = 0 := by
  rw [ByteArray.toList_eq, List.isEmpty_iff]
  have := size_list s
  constructor
  · intro h; rw [h] at this; simpa using this.symm
  · intro h; exact List.eq_nil_of_length_eq_zero (by omega)
set_option maxHeartbeats 1000000 in
theorem sIndexFunc_any (w : World) (s : ByteArray) : Calls Tryz.prog 214 #[.string s, .func (Fn.func 203) #[] #[]] w (IdxSays w s) := by
  have cI := indexFunc_any w s
  go_enter Tryz.func214, Tryz.ntmps214
  go_wp2_with (go_at_call 222; refine cI.mono ?_; rintro e w5 ⟨⟨n, rfl, hn⟩, hb5⟩; have HN := Lib.hid hn; clear hn)
  go_ret
  exact ⟨⟨n, rfl, HN.out⟩, hb5⟩
def ContSays (w : World) (s : ByteArray) (e : Ending) (w' : World) : Prop := e = .returned (.bool (!(pfx s == s.size))) ∧ Below w.heap.size w w'
set_option maxHeartbeats 1000000 in
theorem containsFunc_any (w : World) (s : ByteArray) : Calls Tryz.prog 202 #[.string s, .func (Fn.func 203) #[] #[]] w (ContSays w s) := by
  have cI := sIndexFunc_any w s
  go_enter Tryz.func202, Tryz.ntmps202
  go_upto_region 1 with fail
  cases hp : (pfx s == s.size)
  · have hn : ¬ pfx s = s.size := by simpa using hp
    have HP := Lib.hid hp
    have HN := Lib.hid hn
    clear hp hn
    go_wp2_with (go_at_call 214; refine cI.mono ?_; rintro e w5 ⟨⟨n, rfl, hn⟩, hb5⟩; rw [if_neg HN.out] at hn)
    go_ret
    exact ⟨ret_bool (by rw [HP.out]; simp), hb5⟩
  · have hn : pfx s = s.size := by simpa using hp
    have HP := Lib.hid hp
    have HN := Lib.hid hn
    clear hp hn
    go_wp2_with (go_at_call 214; refine cI.mono ?_; rintro e w5 ⟨⟨n, rfl, hn⟩, hb5⟩; rw [if_pos HN.out] at hn; subst hn)
    go_ret
    exact ⟨ret_bool (by rw [HP.out]; simp), hb5⟩
set_option maxHeartbeats 2000000 in
set_option maxRecDepth 100000 in
theorem tname_any (w : World) (s : ByteArray) (hs : s.size ≤ 140737488355328) :
    Calls Tryz.prog 179 #[.string s] w fun e w' => e = .returned (.bool (nameA s)) ∧ Below w.heap.size w w' := by
  have HNI := Lib.hid (nameA_iff s)
  have cC := containsFunc_any w s
  by_cases h1 : 1 ≤ s.size
  · have he : s.toList.isEmpty = false := by rw [Bool.eq_false_iff]; intro h; rw [emp_iff] at h; omega
    have he2 : ¬ s.toList = [] := by intro h; rw [h] at he; cases he
    have h0 : 0 < s.size := h1
    have hf := fb_eq h0
    have HF := Lib.hid hf
    by_cases h2 : s.size ≤ 32
    · by_cases hok : fb s = 95 ∨ (65 ≤ fb s ∧ fb s ≤ 90)
      · have hname : nameA s = (pfx s == s.size) := by
          rw [Bool.eq_iff_iff, HNI.out, beq_iff_eq]
          constructor
          · exact fun h => h.1.2.2
          · exact fun h => ⟨⟨h1, h2, h⟩, by omega⟩
        have HY := Lib.hid hname
        clear hname
        rcases hok with hok | ⟨hok, hok'⟩
        case' inl =>
          have n95 : ((s[0].toNat : Int) != 95) = false := by rw [bne_eq_false_iff_eq]; omega
          clear hok hf
        case' inr =>
          have n95 : ((s[0].toNat : Int) != 95) = true := by rw [bne_iff_ne]; omega
          have k65 : 65 ≤ (s[0].toNat : Int) := by omega
          have k90 : (s[0].toNat : Int) ≤ 90 := by omega
          clear hok hok' hf
        all_goals
          go_enter Tryz.func179, Tryz.ntmps179
          go_wp2_with (go_at_call 202; refine cC.mono ?_; rintro e w5 ⟨rfl, hb5⟩)
          go_ret
          exact ⟨by rw [HY.out]; simp, hb5⟩
      · have hno : nameA s = false := by
          cases hc : nameA s
          · rfl
          · have := (HNI.out.1 hc).2; omega
        have HN := Lib.hid hno
        have g95 : ((s[0].toNat : Int) != 95) = true := by rw [bne_iff_ne]; omega
        have g : (s[0].toNat : Int) < 65 ∨ 90 < (s[0].toNat : Int) := by omega
        clear hno hf hok
        rcases g with g | g
        · go_enter Tryz.func179, Tryz.ntmps179
          go_wp2
          go_ret
          exact ⟨by rw [HN.out]; rfl, Below.refl _ _⟩
        · have g2 : 65 ≤ (s[0].toNat : Int) := by omega
          go_enter Tryz.func179, Tryz.ntmps179
          go_wp2
          go_ret
          exact ⟨by rw [HN.out]; rfl, Below.refl _ _⟩
    · have hno : nameA s = false := by
        cases hc : nameA s
        · rfl
        · have := (HNI.out.1 hc).1.2.1; omega
      have HN := Lib.hid hno
      have h3 : 32 < s.size := by omega
      clear hf hno
      go_enter Tryz.func179, Tryz.ntmps179
      go_wp2
      go_ret
      exact ⟨by rw [HN.out]; rfl, Below.refl _ _⟩
  · have hno : nameA s = false := by
      cases hc : nameA s
      · rfl
      · have := (HNI.out.1 hc).1.1; omega
    have HN := Lib.hid hno
    have he : s.toList.isEmpty = true := by rw [emp_iff]; omega
    have he2 : s.toList = [] := List.isEmpty_iff.1 he
    clear hno
    go_enter Tryz.func179, Tryz.ntmps179
    go_wp2
    go_ret
    exact ⟨by rw [HN.out]; rfl, Below.refl _ _⟩
def WordsAt (w : World) (b : Nat) (l : List (List UInt8)) : Prop := ∀ k (h : k < l.length), ∃ u : ByteArray, w.cell? ⟨b, k, none⟩ = some (.string u) ∧ u.toList = l[k]
def IdxS (w : World) (s : ByteArray) (l : List (List UInt8)) (e : Ending) (w' : World) : Prop := (∃ n : Int, e = .returned (.int .i64 n) ∧ (if (l.any fun u => s.toList == u) = true then 0 ≤ n else n = -1)) ∧ w = w'
set_option maxHeartbeats 1000000 in
set_option maxRecDepth 100000 in
theorem sindex_any {w : World} {b c : Nat} {l : List (List UInt8)} (h : WordsAt w b l) (hl : l.length ≤ 100) (s : ByteArray) : Calls Tryz.prog 122 #[.slice (some ⟨b, 0, none⟩) l.length c, .string s] w (IdxS w s l) := by
  have H := Lib.hid h
  clear h
  go_enter Tryz.func122, Tryz.ntmps122
  go_wp2
  go_loopw [8] (fun i wr => ∃ k : Nat, k ≤ l.length ∧ i = .int .i64 k ∧ ((l.take k).any fun u => s.toList == u) = false ∧ w = wr) (fun i _ => l.length - (intOf i).toNat)
  case atStart => exact ⟨0, Nat.zero_le _, rfl, rfl, rfl⟩
  case round =>
    obtain ⟨k, hk, rfl, hrest, rfl⟩ := hrel
    by_cases hlt : k < l.length
    · obtain ⟨u, hu, hul⟩ := H.out k hlt
      cases hq : (s.toList == u.toList)
      · have hnext : ((l.take (k + 1)).any fun u => s.toList == u) = false := by
          rw [List.take_succ_eq_append_getElem hlt, List.any_append, hrest, ← hul]; simp [hq]
        have HN := Lib.hid hnext
        clear hnext hrest hul
        go_wp2
        go_roundw
        case rel => exact ⟨k + 1, hlt, by go_num, HN.out, by first | rfl | trivial⟩
        case measure => simp [intOf]; omega
      · have hany : (l.any fun u => s.toList == u) = true := List.any_eq_true.2 ⟨_, List.getElem_mem hlt, by rw [← hul]; exact hq⟩
        have HN := Lib.hid hany
        clear hany hrest hul
        go_wp2
        go_ret
        exact ⟨⟨k, rfl, by rw [if_pos HN.out]; omega⟩, rfl⟩
    · rw [List.take_of_length_le (by omega)] at hrest
      have HN := Lib.hid hrest
      clear hrest
      go_wp2
      go_ret
      exact ⟨⟨-1, rfl, by rw [if_neg (by rw [HN.out]; simp)]⟩, rfl⟩
set_option maxHeartbeats 1000000 in
theorem scontains_any {w : World} {b c : Nat} {l : List (List UInt8)} (h : WordsAt w b l) (hl : l.length ≤ 100) (s : ByteArray) : Calls Tryz.prog 64 #[.slice (some ⟨b, 0, none⟩) l.length c, .string s] w fun e w' => e = .returned (.bool (l.any fun u => s.toList == u)) ∧ w = w' := by
  have cI := sindex_any (c := c) h hl s
  clear h
  generalize hq : (l.any fun u => s.toList == u) = q
  have HQ := Lib.hid hq
  clear hq
  go_enter Tryz.func64, Tryz.ntmps64
  go_upto_region 1 with fail
  cases q
  · go_wp2_with (go_at_call 122; refine cI.mono ?_; rintro e w5 ⟨⟨n, rfl, hn⟩, rfl⟩; rw [if_neg (by rw [HQ.out]; simp)] at hn; subst hn)
    go_ret
    exact ⟨rfl, rfl⟩
  · go_wp2_with (go_at_call 122; refine cI.mono ?_; rintro e w5 ⟨⟨n, rfl, hn⟩, rfl⟩; rw [if_pos HQ.out] at hn)
    go_ret
    exact ⟨by simp, rfl⟩
end Go.Proofs.YtdjafnjmkkagjaaGreatDoor
namespace Go.Proofs.YtdjafnjmkkagjaaGreatDoor
open Go.RowKit
theorem words_at (w : World) (T : TypeId) : WordsAt (w.alloc (.cells #[.string ⟨#[97, 102, 116, 101, 114]⟩, .string ⟨#[99, 97, 115, 101]⟩, .string ⟨#[99, 97, 116, 99, 104]⟩, .string ⟨#[99, 111, 110, 102, 105, 103]⟩, .string ⟨#[100, 105, 118]⟩, .string ⟨#[101, 110, 100]⟩, .string ⟨#[102, 117, 110]⟩, .string ⟨#[109, 111, 100, 117, 108, 101]⟩, .string ⟨#[111, 102]⟩, .string ⟨#[114, 101, 99, 101, 105, 118, 101]⟩, .string ⟨#[114, 101, 109]⟩, .string ⟨#[116, 114, 121]⟩, .string ⟨#[119, 104, 101, 110]⟩] T)) w.heap.size words13 := by
  intro k hk
  match k, hk with
  | 0, _ => exact ⟨⟨#[97, 102, 116, 101, 114]⟩, by rw [World.cell?_alloc_at _ _ _ _ (by simp)]; rfl, by rw [ByteArray.toList_eq]; rfl⟩
  | 1, _ => exact ⟨⟨#[99, 97, 115, 101]⟩, by rw [World.cell?_alloc_at _ _ _ _ (by simp)]; rfl, by rw [ByteArray.toList_eq]; rfl⟩
  | 2, _ => exact ⟨⟨#[99, 97, 116, 99, 104]⟩, by rw [World.cell?_alloc_at _ _ _ _ (by simp)]; rfl, by rw [ByteArray.toList_eq]; rfl⟩
  | 3, _ => exact ⟨⟨#[99, 111, 110, 102, 105, 103]⟩, by rw [World.cell?_alloc_at _ _ _ _ (by simp)]; rfl, by rw [ByteArray.toList_eq]; rfl⟩
  | 4, _ => exact ⟨⟨#[100, 105, 118]⟩, by rw [World.cell?_alloc_at _ _ _ _ (by simp)]; rfl, by rw [ByteArray.toList_eq]; rfl⟩
  | 5, _ => exact ⟨⟨#[101, 110, 100]⟩, by rw [World.cell?_alloc_at _ _ _ _ (by simp)]; rfl, by rw [ByteArray.toList_eq]; rfl⟩
  | 6, _ => exact ⟨⟨#[102, 117, 110]⟩, by rw [World.cell?_alloc_at _ _ _ _ (by simp)]; rfl, by rw [ByteArray.toList_eq]; rfl⟩
  | 7, _ => exact ⟨⟨#[109, 111, 100, 117, 108, 101]⟩, by rw [World.cell?_alloc_at _ _ _ _ (by simp)]; rfl, by rw [ByteArray.toList_eq]; rfl⟩
  | 8, _ => exact ⟨⟨#[111, 102]⟩, by rw [World.cell?_alloc_at _ _ _ _ (by simp)]; rfl, by rw [ByteArray.toList_eq]; rfl⟩
  | 9, _ => exact ⟨⟨#[114, 101, 99, 101, 105, 118, 101]⟩, by rw [World.cell?_alloc_at _ _ _ _ (by simp)]; rfl, by rw [ByteArray.toList_eq]; rfl⟩
  | 10, _ => exact ⟨⟨#[114, 101, 109]⟩, by rw [World.cell?_alloc_at _ _ _ _ (by simp)]; rfl, by rw [ByteArray.toList_eq]; rfl⟩
  | 11, _ => exact ⟨⟨#[116, 114, 121]⟩, by rw [World.cell?_alloc_at _ _ _ _ (by simp)]; rfl, by rw [ByteArray.toList_eq]; rfl⟩
  | 12, _ => exact ⟨⟨#[119, 104, 101, 110]⟩, by rw [World.cell?_alloc_at _ _ _ _ (by simp)]; rfl, by rw [ByteArray.toList_eq]; rfl⟩
theorem WordsAt.under {w w' : World} {b : Nat} {l : List (List UInt8)} (h : WordsAt w b l) (hb : Below w.heap.size w w') : WordsAt w' b l := fun k hk => by
  obtain ⟨u, h1, h2⟩ := h k hk
  exact ⟨u, (hb.cell (p := ⟨b, k, none⟩) (cell_block h1)).trans h1, h2⟩
set_option maxHeartbeats 2000000 in
set_option maxRecDepth 100000 in
theorem tatom_any {w : World} (hL : Letters w) (s : ByteArray) (hs : s.size ≤ 140737488355328) :
    Calls Tryz.prog 72 #[.string s] w fun e w' => e = .returned (.bool (atomN s)) ∧ Below w.heap.size w w' := by
  have hW := words_at w 9
  have hB := alloc_below w (.cells #[.string ⟨#[97, 102, 116, 101, 114]⟩, .string ⟨#[99, 97, 115, 101]⟩, .string ⟨#[99, 97, 116, 99, 104]⟩, .string ⟨#[99, 111, 110, 102, 105, 103]⟩, .string ⟨#[100, 105, 118]⟩, .string ⟨#[101, 110, 100]⟩, .string ⟨#[102, 117, 110]⟩, .string ⟨#[109, 111, 100, 117, 108, 101]⟩, .string ⟨#[111, 102]⟩, .string ⟨#[114, 101, 99, 101, 105, 118, 101]⟩, .string ⟨#[114, 101, 109]⟩, .string ⟨#[116, 114, 121]⟩, .string ⟨#[119, 104, 101, 110]⟩] 9)
  have cM := mayA_any (hL.under hB) s hs
  have hU : atomN s = (mayA s && !(words13.any fun u => s.toList == u)) := rfl
  have HU := Lib.hid hU
  clear hL hU
  go_enter Tryz.func72, Tryz.ntmps72
  go_upto_region 2 with fail
  generalize w.alloc (.cells #[.string ⟨#[97, 102, 116, 101, 114]⟩, .string ⟨#[99, 97, 115, 101]⟩, .string ⟨#[99, 97, 116, 99, 104]⟩, .string ⟨#[99, 111, 110, 102, 105, 103]⟩, .string ⟨#[100, 105, 118]⟩, .string ⟨#[101, 110, 100]⟩, .string ⟨#[102, 117, 110]⟩, .string ⟨#[109, 111, 100, 117, 108, 101]⟩, .string ⟨#[111, 102]⟩, .string ⟨#[114, 101, 99, 101, 105, 118, 101]⟩, .string ⟨#[114, 101, 109]⟩, .string ⟨#[116, 114, 121]⟩, .string ⟨#[119, 104, 101, 110]⟩] 9) = w1 at hW hB cM ⊢
  have HW := Lib.hid hW
  clear hW
  have cC := fun (W : World) (hb : Below w1.heap.size w1 W) => scontains_any (c := 13) (HW.out.under hb) (by decide) s
  cases hm : mayA s
  all_goals
    have HM := Lib.hid hm
    rw [hm] at cM
    clear hm
    go_wp2_with (first
      | (go_at_call 118; refine cM.mono ?_; rintro e w5 ⟨rfl, hb5⟩)
      | (go_at_call 64; refine (cC _ hb5).mono ?_; rintro e w' ⟨rfl, rfl⟩))
    go_ret
    exact ⟨by rw [HU.out, HM.out]; rfl, hB.trans (hb5.mono hB.size)⟩
end Go.Proofs.YtdjafnjmkkagjaaGreatDoor
namespace Go.Proofs.YtdjafnjmkkagjaaGreatDoor
open Go.RowKit
def RuleSays (F : Nat → Prop) (N : FuncId) (P : Tr → Bool) (w : World) (x : Tr) : Prop := ∀ (W : World) (g o : Nat) (sv : Value), Below w.heap.size w W → NodeAt W g o x sv → TrV F W x sv →
  Calls Tryz.prog N #[.pointer (some ⟨g, o, none⟩)] W fun e w' => e = .returned (.bool (P x)) ∧ Below W.heap.size W w'
theorem RuleSays.under {F : Nat → Prop} {N : FuncId} {P : Tr → Bool} {w w' : World} {x : Tr} (h : RuleSays F N P w x) (hb : Below w.heap.size w w') : RuleSays F N P w' x := fun W g o sv hW => h W g o sv (hb.trans (hW.mono hb.size))
end Go.Proofs.YtdjafnjmkkagjaaGreatDoor
namespace Go.Proofs.YtdjafnjmkkagjaaGreatDoor
open Go.RowKit
end Go.Proofs.YtdjafnjmkkagjaaGreatDoor
namespace Go.Proofs.YtdjafnjmkkagjaaGreatDoor
open Go.RowKit
end Go.Proofs.YtdjafnjmkkagjaaGreatDoor
